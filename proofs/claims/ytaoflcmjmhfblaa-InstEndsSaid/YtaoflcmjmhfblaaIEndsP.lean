/- The law InstEnds: what becomes of an instance that was noticed: plain. -/
import Derived.Test.YtaoflcmjmhfblaaGStepP
namespace Go.Proofs.Ytaoflcmjmhfblaa.I
open Go.RowKit Go.Proofs.YtaoflcmjmhfblaaW.PrintWords Go.Proofs.YtaoflcmjmhfblaaW.PrintLast Go.Proofs.YtaoflcmjmhfblaaW.PrintMore Go.Proofs.Ytaoflcmjmhfblaa.H Go.Shelf
set_option linter.unusedVariables false
set_option linter.unusedSimpArgs false
/-- The instance t ticks behind the notice. -/
def phI (i : InV) (now : Int) (D H t : Nat) : InV :=
  { i with noticed := true, kill := now + 120, state := if t ≤ D then 4 else if t ≤ D + H then 5 else 6, due := if t ≤ D then now + D else if t ≤ D + H then now + D + H else 0 }
def cfI (D H : Nat) : CfV := ⟨0, H, D, 5⟩
theorem spans_cfI {D H : Nat} (hD : D < 60) (hH : H < 60) : spansB (cfI D H) = true := by
  unfold spansB cfI
  simp
  omega
theorem phI_may {i : InV} {now : Int} {D H : Nat} (t : Nat) (hm : instMay i = true) (hn : 0 ≤ now) (hn2 : now ≤ 1099511626776) (hD : D < 60) (hH : H < 60) : instMay (phI i now D H t) = true := by
  unfold phI
  by_cases c1 : t ≤ D
  · simp [instMay, c1] at hm ⊢
    omega
  · by_cases c2 : t ≤ D + H
    · simp [instMay, c1, c2] at hm ⊢
      omega
    · simp [instMay, c1, c2] at hm ⊢
      omega
theorem notBad {x : InV} {what now at_ : Int} {c : CfV} (hm : instMay x = true) (hs : spansB c = true) (h1 : 1 ≤ what) (h2 : what ≤ 11) (h3 : now ≤ 1099511627776) (h4 : at_ ≤ 1099511627776) : doBad x what now at_ c = false := by
  unfold doBad
  rw [hm, hs]
  simp
  omega
/-- The notice. -/
theorem notice_do {i : InV} {now : Int} {D H : Nat} (hm : instMay i = true) (hs : i.state = 3) (hn : 0 ≤ now) (hn2 : now ≤ 1099511626776) (hD : D < 60) (hH : H < 60) : doI i 2 now (now + 120) (cfI D H) = (phI i now D H 0, 0, 0) := by
  have hb := notBad (what := 2) (now := now) (at_ := now + 120) hm (spans_cfI hD hH) (by omega) (by omega) (by omega) (by omega)
  have hst : staysI i 2 now = false := by unfold staysI; rw [hs]; rfl
  have hf : findR i 2 (cfI D H) = ((4, (D : Int), true, 0), true) := by
    unfold findR
    rw [hs]
    simp [tabT, tabL, drainR, cfI]
  unfold doI
  rw [hb, hst, hf]
  simp only [Bool.false_eq_true, if_false, if_true, doMark, phI, Nat.zero_le]
  rw [wu64 (by omega) (by omega)]
  simp
theorem tick_do {i : InV} {now : Int} {D H t : Nat} (hm : instMay i = true) (hn : 0 ≤ now) (hn2 : now ≤ 1099511626776) (hD : D < 60) (hH : H < 60) (ht : t ≤ D + H) :
    doI (phI i now D H t) 8 (now + t) 0 (cfI D H) = (phI i now D H (t + 1), if t = D + H then 2 else 0, 0) := by
  have hb := notBad (what := 8) (now := now + t) (at_ := 0) (phI_may t hm hn hn2 hD hH) (spans_cfI hD hH) (by omega) (by omega) (by omega) (by omega)
  have hmk : doMark (phI i now D H t) 8 0 = phI i now D H t := rfl
  unfold doI
  rw [hb, hmk]
  simp only [Bool.false_eq_true, if_false]
  rcases Nat.lt_or_ge D t with h1 | h1
  · have c1 : ¬ t ≤ D := by omega
    have c1' : ¬ t + 1 ≤ D := by omega
    rcases Nat.lt_or_ge t (D + H) with h2 | h2
    · have hst : staysI (phI i now D H t) 8 (now + t) = true := by
        unfold staysI phI
        simp [c1, ht]
        omega
      have c3 : ¬ t = D + H := by omega
      have c4 : t + 1 ≤ D + H := by omega
      rw [hst]
      simp only [if_true, c3, if_false]
      unfold phI
      simp only [c1, c1', ht, c4, if_true, if_false]
    · have e : t = D + H := by omega
      have c4 : ¬ t + 1 ≤ D + H := by omega
      have hst : staysI (phI i now D H t) 8 (now + t) = false := by
        unfold staysI phI
        simp [c1, ht]
        omega
      have hf : findR (phI i now D H t) 8 (cfI D H) = (endR, true) := by
        unfold findR phI idleI
        simp [c1, ht, tabT, tabL]
      rw [hst, hf]
      simp only [Bool.false_eq_true, if_false, endR, e, if_true, Bool.true_eq_false]
      unfold phI
      simp only [c1', c4, if_false, e ▸ c1, e ▸ c1', e ▸ c4]
  · have hst' : staysI (phI i now D H t) 8 (now + t) = decide (t < D) := by
      unfold staysI phI
      simp [h1]
    rcases Nat.lt_or_ge t D with h2 | h2
    · have c3 : ¬ t = D + H := by omega
      have c4 : t + 1 ≤ D := by omega
      rw [hst', decide_eq_true h2]
      simp only [if_true, c3, if_false]
      unfold phI
      simp only [h1, c4, if_true]
    · have e : t = D := by omega
      subst e
      have hf : findR (phI i now t H t) 8 (cfI t H) = (leftR (cfI t H), true) := by
        unfold findR phI
        simp [tabT, tabL]
      rw [hst', decide_eq_false (by omega), hf]
      simp only [Bool.false_eq_true, if_false, Bool.true_eq_false]
      have c4 : ¬ t + 1 ≤ t := by omega
      unfold leftR cfI
      by_cases hH0 : H = 0
      · subst hH0
        simp [endR, phI, c4]
      · have c5 : (0 : Int) < (H : Int) := by omega
        have c6 : t + 1 ≤ t + H := by omega
        have c7 : ¬ t = t + H := by omega
        simp only [c5, if_true, c7, if_false]
        unfold phI
        simp only [c4, c6, if_false, if_true, Nat.le_refl]
        rw [wu64 (by omega) (by omega)]
theorem beat_do {i : InV} {now : Int} {D H t : Nat} : ∃ ask er, doI (phI i now D H t) 4 (now + t) 0 (cfI D H) = (phI i now D H t, ask, er) := by
  have hmk : doMark (phI i now D H t) 4 0 = phI i now D H t := rfl
  unfold doI
  rw [hmk]
  split
  · exact ⟨_, _, rfl⟩
  · split
    · exact ⟨_, _, rfl⟩
    · have hf : (findR (phI i now D H t) 4 (cfI D H)).2 = false ∨ t ≤ D + H ∧ ¬ t ≤ D := by
        by_cases c1 : t ≤ D
        · left
          unfold findR phI
          simp [c1, tabT, tabL]
        · by_cases c2 : t ≤ D + H
          · exact .inr ⟨c2, c1⟩
          · left
            unfold findR phI
            simp [c1, c2, tabT, tabL]
      rcases hf with hf | ⟨c2, c1⟩
      · rw [if_pos hf]
        exact ⟨_, _, rfl⟩
      · rename_i h1 h2
        exfalso
        apply h2
        unfold staysI phI
        simp [c1, c2]
end Go.Proofs.Ytaoflcmjmhfblaa.I
