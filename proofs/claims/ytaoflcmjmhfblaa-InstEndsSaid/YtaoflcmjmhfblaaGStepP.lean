/- One step of an instance: plain law. -/
import Derived.Test.YtaoflcmjmhfblaaGGoes
namespace Go.Proofs.Ytaoflcmjmhfblaa.I
open Go.RowKit Go.Proofs.YtaoflcmjmhfblaaW.PrintWords Go.Proofs.YtaoflcmjmhfblaaW.PrintLast Go.Proofs.YtaoflcmjmhfblaaW.PrintMore Go.Proofs.Ytaoflcmjmhfblaa.H Go.Shelf
set_option linter.unusedVariables false
set_option linter.unusedSimpArgs false
def CfOk (c : CfV) : Prop := 0 ≤ c.hi ∧ c.hi ≤ 65535 ∧ 0 ≤ c.ho ∧ c.ho ≤ 65535 ∧ 0 ≤ c.dr ∧ c.dr ≤ 65535 ∧ c.dl = 5
/-- What a row may be. -/
def RowOk (s : Int) (r : RowV) : Prop := 1 ≤ r.1 ∧ r.1 ≤ 9 ∧ 0 ≤ r.2.1 ∧ r.2.1 ≤ 65535 ∧ (r.1 = 6 ↔ r.2.2.2 = 2) ∧ ¬ s = 6 ∧ (s = 3 → r.1 = 4) ∧ (s = 4 → r.1 = 5 ∨ r.1 = 6) ∧ (s = 5 → r.1 = 5 ∨ r.1 = 6)
theorem tabL_mem {κ ν : Type} [DecidableEq κ] {L : Nat → Bool} {b : κ} {r : ν} : ∀ {T : List (Nat × κ × ν)}, tabL L T b = some r → ∃ p ∈ T, p.2.1 = b ∧ p.2.2 = r
  | [], h => by cases h
  | p :: T, h => by
    unfold tabL at h
    split at h
    · rename_i hq
      exact ⟨p, List.mem_cons_self .., hq.2.symm, by injection h⟩
    · obtain ⟨q, hq, h2⟩ := tabL_mem h
      exact ⟨q, List.mem_cons_of_mem _ hq, h2⟩
theorem find_ok (x : InV) (what : Int) (c : CfV) (hc : CfOk c) (h : (findR x what c).2 = true) : RowOk x.state (findR x what c).1 := by
  obtain ⟨h1, h2, h3, h4, h5, h6, h7⟩ := hc
  obtain ⟨s, hs⟩ : ∃ s, x.state = s := ⟨_, rfl⟩
  unfold findR at h ⊢
  rw [hs] at h ⊢
  have hi : idleI x = (s == 1 || s == 2 || s == 7 || s == 9) := by unfold idleI; rw [hs]
  rw [hi] at h ⊢
  clear hi hs
  cases hf : tabL (fun _ => true) (tabT c) (s, what) with
  | some r =>
    rw [hf] at h
    obtain ⟨p, hp, e1, e2⟩ := tabL_mem hf
    clear hf
    simp only [tabT, List.mem_cons, List.not_mem_nil, or_false] at hp
    simp only [RowOk]
    rcases hp with rfl | rfl | rfl | rfl | rfl | rfl | rfl | rfl | rfl | rfl | rfl | rfl | rfl | rfl
    all_goals
      simp only [Prod.mk.injEq] at e1
      obtain ⟨e3, e4⟩ := e1
      subst e3
      subst e2
      simp only [upR, leftR, endR, drainR, hookR, goneR, h7]
      (try split) <;> simp <;> omega
  | none =>
    rw [hf] at h
    simp only at h ⊢
    simp only [RowOk]
    cases hw : (what == 10 || what == 2)
    · rw [hw] at h
      simp only [cond_false] at h ⊢
      cases hw2 : (what == 8)
      · rw [hw2] at h; simp at h
      · rw [hw2] at h
        simp only [cond_true] at h ⊢
        simp at h
        simp [endR]
        omega
    · rw [hw] at h
      simp only [cond_true] at h ⊢
      simp at h
      simp [endR]
      omega
theorem stays_ok {x : InV} {what now : Int} (h : staysI x what now = true) : (x.state = 6 → what = 8) ∧ (what = 3 → x.state = 3) ∧ (what = 2 → x.state = 4 ∨ x.state = 5) := by
  unfold staysI at h
  refine ⟨fun h6 => ?_, fun h3 => ?_, fun h2 => ?_⟩
  · rw [h6] at h
    by_cases e8 : what = 8
    · exact e8
    · by_cases e2 : what = 2 <;> by_cases e3 : what = 3 <;> by_cases e4 : what = 4 <;> simp [*] at h
  · subst h3
    simpa using h
  · subst h2
    simpa using h
theorem mark_ok (x : InV) (what at_ : Int) : (doMark x what at_).id = x.id ∧ (doMark x what at_).weight = x.weight ∧ (doMark x what at_).version = x.version ∧ (doMark x what at_).state = x.state := by
  unfold doMark
  split
  · exact ⟨rfl, rfl, rfl, rfl⟩
  · split <;> exact ⟨rfl, rfl, rfl, rfl⟩
theorem mark_may {x : InV} {what at_ : Int} (hm : instMay x = true) (ha : at_ ≤ 1099511758848) : instMay (doMark x what at_) = true := by
  unfold doMark
  split
  · simp only [instMay, Bool.and_eq_true, Bool.not_eq_true', decide_eq_true_eq, Bool.true_or] at hm ⊢
    refine ⟨⟨⟨hm.1.1.1, hm.1.1.2⟩, hm.1.2⟩, ⟨hm.2.1.1, ha⟩, trivial⟩
  · split
    · exact hm
    · exact hm
theorem step_goes (x y : InV) (what now at_ ask er : Int) (c : CfV) (hm : instMay x = true) (hc : CfOk c) (hn : 0 ≤ now) (hn2 : now ≤ 1000000) (ha : at_ ≤ 1000) (hd : doI x what now at_ c = (y, ask, er)) :
    (¬ er = 0 ∧ y = x ∧ ask = 0) ∨ (er = 0 ∧ instMay y = true ∧ y.id = x.id ∧ y.weight = x.weight ∧ y.version = x.version ∧ (x.state = 6 → y = x) ∧ ((y.state = 6 ∧ ¬ x.state = 6) ↔ ask = 2) ∧ (x.state = 3 → y.state = 3 ∨ y.state = 4) ∧ (x.state = 4 ∨ x.state = 5 ∨ x.state = 6 → y.state = 4 ∨ y.state = 5 ∨ y.state = 6)) := by
  unfold doI at hd
  split at hd
  · injection hd with e1 e2; injection e2 with e2 e3; subst e1; subst e2; subst e3
    exact .inl ⟨by decide, rfl, rfl⟩
  · split at hd
    · rename_i hst
      injection hd with e1 e2; injection e2 with e2 e3; subst e1; subst e2; subst e3
      obtain ⟨m1, m2, m3, m4⟩ := mark_ok x what at_
      obtain ⟨s1, s2, s3⟩ := stays_ok hst
      refine .inr ⟨rfl, mark_may hm (by omega), m1, m2, m3, fun h6 => ?_, ?_, fun h3 => by rw [m4]; exact .inl h3, fun h4 => by rw [m4]; exact h4⟩
      · have := s1 h6
        subst this
        rfl
      · rw [m4]
        exact ⟨fun h => absurd h.1 h.2, fun h => by cases h⟩
    · split at hd
      · injection hd with e1 e2; injection e2 with e2 e3; subst e1; subst e2; subst e3
        exact .inl ⟨by decide, rfl, rfl⟩
      · rename_i hst hf
        have hf2 : (findR x what c).2 = true := by simpa using hf
        obtain ⟨f1, f2, f3, f4, f5, f6, f7, f8, f9⟩ := find_ok x what c hc hf2
        obtain ⟨m1, m2, m3, m4⟩ := mark_ok x what at_
        have hmk := mark_may (what := what) (at_ := at_) hm (by omega)
        obtain ⟨z, hz⟩ : ∃ z, doMark x what at_ = z := ⟨_, rfl⟩
        rw [hz] at hd m1 m2 m3 m4 hmk
        injection hd with e1 e2; injection e2 with e2 e3; subst e1; subst e2; subst e3
        refine .inr ⟨rfl, ?_, m1, m2, m3, fun h6 => absurd h6 f6, ?_, fun h3 => .inr (f7 h3), fun h4 => ?_⟩
        · have hdue : (if (findR x what c).1.2.2.1 = true then IntKind.u64.wrap (now + (findR x what c).1.2.1) else 0) ≤ 1099511758848 := by
            split
            · rw [wu64 (by omega) (by omega)]; omega
            · omega
          simp only [instMay, Bool.and_eq_true, Bool.not_eq_true', decide_eq_true_eq, Bool.or_eq_false_iff, decide_eq_false_iff_not] at hmk ⊢
          refine ⟨⟨⟨hmk.1.1.1, hmk.1.1.2⟩, ⟨by omega, by omega⟩⟩, ⟨hdue, hmk.2.1.2⟩, hmk.2.2⟩
        · exact ⟨fun h => f5.1 h.1, fun h => ⟨f5.2 h, f6⟩⟩
        · rcases h4 with h | h | h
          · rcases f8 h with q | q
            · exact .inr (.inl q)
            · exact .inr (.inr q)
          · rcases f9 h with q | q
            · exact .inr (.inl q)
            · exact .inr (.inr q)
          · exact absurd h f6
end Go.Proofs.Ytaoflcmjmhfblaa.I
