/- Which open requests may be, as lists (plain). -/
import Derived.Test.YtaoflcmjmhfblaaGLedger4
namespace Go.Proofs.Ytaoflcmjmhfblaa.Q
set_option linter.unusedVariables false
set_option linter.unusedSimpArgs false
/-- MayL, by all and by pairs. -/
def MayP (l : List OpenS) (last : Int) : Prop :=
  (∀ x ∈ l, mayO x = true ∧ 0 < x.f0.f1 ∧ x.f0.f1 ≤ last) ∧ l.Pairwise (fun a b => a.f0.f1 < b.f0.f1) ∧ l.Pairwise (fun a b => lau a = false → lau b = false → ofO a ≠ ofO b) ∧ (l.filter lau).length ≤ 4096
theorem getD_of_lt {α : Type} (l : List α) (i : Nat) (z : α) (h : i < l.length) : l.getD i z = l[i] := by
  rw [List.getD_eq_getElem?_getD, List.getElem?_eq_getElem h]; rfl
theorem MayP.of {l : List OpenS} {last : Int} (h : MayL l last) : MayP l last := by
  obtain ⟨h1, h2⟩ := h
  have inc : ∀ d i, i + d < l.length → 0 < d → (l.getD i z61).f0.f1 < (l.getD (i + d) z61).f0.f1 := by
    intro d
    induction d with
    | zero => intro i _ h; omega
    | succ d ih =>
      intro i hi _
      have h3 := (h1 (i + (d + 1)) hi).2.1
      unfold prevTok at h3
      rw [if_neg (by omega), show i + (d + 1) - 1 = i + d by omega] at h3
      rcases Nat.eq_zero_or_pos d with e | e
      · subst e; simpa using h3
      · have := ih i (by omega) e
        omega
  have pos : ∀ i, i < l.length → 0 < (l.getD i z61).f0.f1 := by
    intro i hi
    rcases Nat.eq_zero_or_pos i with e | e
    · subst e
      have h3 := (h1 0 hi).2.1
      unfold prevTok at h3
      rw [if_pos rfl] at h3
      exact h3
    · have h3 := inc i 0 (by omega) e
      have h4 := (h1 0 (by omega)).2.1
      unfold prevTok at h4
      rw [if_pos rfl] at h4
      rw [Nat.zero_add] at h3
      omega
  refine ⟨fun x hx => ?_, ?_, ?_, h2⟩
  · obtain ⟨i, hi, rfl⟩ := List.mem_iff_getElem.1 hx
    have h3 := h1 i hi
    have h4 := pos i hi
    unfold okAt at h3
    rw [getD_of_lt l i _ hi] at h3 h4
    exact ⟨h3.1, h4, h3.2.2.1⟩
  · rw [List.pairwise_iff_getElem]
    intro i j hi hj hij
    have := inc (j - i) i (by omega) (by omega)
    rw [show i + (j - i) = j by omega, getD_of_lt l i _ hi, getD_of_lt l j _ hj] at this
    exact this
  · rw [List.pairwise_iff_getElem]
    intro i j hi hj hij a b
    have h3 := (h1 j hj).2.2.2
    rw [getD_of_lt l j _ hj] at h3
    have h4 := h3 b i hij
    rw [getD_of_lt l i _ hi] at h4
    exact h4 a
theorem MayP.to {l : List OpenS} {last : Int} (h : MayP l last) : MayL l last := by
  obtain ⟨h1, h2, h3, h4⟩ := h
  rw [List.pairwise_iff_getElem] at h2 h3
  refine ⟨fun i hi => ?_, h4⟩
  have hm := h1 l[i] (List.getElem_mem hi)
  unfold okAt
  rw [getD_of_lt l i _ hi]
  refine ⟨hm.1, ?_, hm.2.2, fun a j hj b => ?_⟩
  · unfold prevTok
    split
    · exact hm.2.1
    · rename_i e
      rw [getD_of_lt l (i - 1) _ (by omega)]
      exact h2 (i - 1) i (by omega) hi (by omega)
  · rw [getD_of_lt l j _ (by omega)] at b ⊢
    exact h3 j i (by omega) hi hj b a
theorem may_filter {l : List OpenS} {last : Int} (q : OpenS → Bool) (h : MayL l last) : MayL (l.filter q) last := by
  obtain ⟨h1, h2, h3, h4⟩ := MayP.of h
  refine MayP.to ⟨fun x hx => h1 x (List.mem_filter.1 hx).1, h2.filter _, h3.filter _, ?_⟩
  refine Nat.le_trans ?_ h4
  rw [List.filter_filter]
  exact (List.Sublist.length_le (by
    have : (l.filter fun a => lau a && q a) = (l.filter lau).filter q := by rw [List.filter_filter]; congr 1; funext a; exact Bool.and_comm _ _
    rw [this]
    exact List.filter_sublist))
theorem mayO_tok (o : OpenS) (t : Int) : mayO (askTok o t) = mayO o := rfl
theorem may_ask {l : List OpenS} {last : Int} {o : OpenS} (h : MayL l last) (ho : mayO o = true) (ht : ¬ (lau o = false ∧ l.any (twin o) = true)) (hf : ¬ (lau o = true ∧ (l.filter lau).length = 4096)) (h0 : 0 ≤ last) : MayL (l ++ [askTok o (last + 1)]) (last + 1) := by
  obtain ⟨h1, h2, h3, h4⟩ := MayP.of h
  have hl : lau (askTok o (last + 1)) = lau o := rfl
  refine MayP.to ⟨fun x hx => ?_, ?_, ?_, ?_⟩
  · rcases List.mem_append.1 hx with hx | hx
    · obtain ⟨a, b, c⟩ := h1 x hx
      exact ⟨a, b, by omega⟩
    · rw [List.mem_singleton] at hx
      subst hx
      exact ⟨ho, by show 0 < last + 1; omega, Int.le_refl _⟩
  · rw [List.pairwise_append]
    refine ⟨h2, List.pairwise_singleton _ _, fun a ha b hb => ?_⟩
    rw [List.mem_singleton] at hb
    subst hb
    have := (h1 a ha).2.2
    show a.f0.f1 < last + 1
    omega
  · rw [List.pairwise_append]
    refine ⟨h3, List.pairwise_singleton _ _, fun a ha b hb qa qb => ?_⟩
    rw [List.mem_singleton] at hb
    subst hb
    rw [hl] at qb
    intro e
    refine ht ⟨qb, List.any_eq_true.2 ⟨a, ha, ?_⟩⟩
    unfold twin
    rw [qa]
    have e2 : ofO a = ofO o := e
    rw [e2]
    simp
  · rw [List.filter_append, List.length_append]
    cases hq : lau o with
    | false => rw [show [askTok o (last + 1)].filter lau = [] by simp [hl, hq]]; simpa using h4
    | true =>
      rw [show [askTok o (last + 1)].filter lau = [askTok o (last + 1)] by simp [hl, hq]]
      have : (l.filter lau).length ≠ 4096 := fun e => hf ⟨hq, e⟩
      simp only [List.length_singleton]
      omega
theorem find_ask {l : List OpenS} {last : Int} {o : OpenS} (h : MayL l last) : (l ++ [askTok o (last + 1)]).find? (isTok (last + 1)) = some (askTok o (last + 1)) := by
  have h1 := (MayP.of h).1
  rw [List.find?_append]
  have : l.find? (isTok (last + 1)) = none := by
    rw [List.find?_eq_none]
    intro x hx
    have := (h1 x hx).2.2
    unfold isTok
    rw [beq_iff_eq]
    omega
  rw [this]
  simp [isTok, askTok]
theorem may_nil (last : Int) : MayL [] last := ⟨fun i hi => absurd hi (Nat.not_lt_zero _), by simp⟩
theorem find_closed (l : List OpenS) (t : Int) : (l.filter (fun x => !isTok t x)).find? (isTok t) = none := by
  rw [List.find?_eq_none]
  intro x hx
  have := (List.mem_filter.1 hx).2
  simpa using this
theorem about_forgot (l : List OpenS) (id : Int) : toksL (isAbout id) (l.filter (fun x => !isAbout id x)) = [] := by
  unfold toksL
  rw [List.filter_filter]
  have : (l.filter fun a => isAbout id a && !isAbout id a) = [] := by
    rw [List.filter_eq_nil_iff]
    intro a _
    simp
  rw [this]
  rfl
end Go.Proofs.Ytaoflcmjmhfblaa.Q
