/- The plain law of the stable sort: insertion's stability, blocks that are merged. -/
import Derived.Test.YtaoflcmjmhfblaaSym2
import Derived.Test.YtaoflcmjmhfblaaSymK0
namespace Go.Proofs.Ytaoflcmjmhfblaa.H
open Go.Shelf Go.Sort Go.Proofs
set_option linter.unusedVariables false
variable {α : Type}

def ltR (cf : α → α → Int) (idx : α → Nat) (x y : α) : Bool := decide (cf x y < 0 ∨ (cf x y = 0 ∧ idx x < idx y))
theorem ltR_false {cf : α → α → Int} {idx : α → Nat} (C : CfOk cf) {x y : α} : ltR cf idx x y = false ↔ leR cf idx y x := by
  unfold ltR leR
  rw [decide_eq_false_iff_not]
  have n := C.neg x y
  constructor
  · intro h
    by_cases c : cf y x < 0
    · exact .inl c
    · refine .inr ⟨?_, ?_⟩
      · by_cases c2 : cf x y < 0
        · exact absurd (.inl c2) h
        · omega
      · by_cases c2 : idx x < idx y
        · by_cases c3 : cf x y < 0
          · exact absurd (.inl c3) h
          · exact absurd (.inr ⟨by omega, c2⟩) h
        · omega
  · rintro (h | ⟨h, g⟩) (q | ⟨q, r⟩) <;> omega
theorem ltR_swo {cf : α → α → Int} {idx : α → Nat} (C : CfOk cf) : SWO (ltR cf idx) := by
  have T : ∀ x y z, ltR cf idx x y = false → ltR cf idx y z = false → ltR cf idx x z = false := fun x y z h1 h2 =>
    (ltR_false C).2 (leR_trans C ((ltR_false C).1 h2) ((ltR_false C).1 h1))
  have I : ∀ x, ltR cf idx x x = false := fun x => (ltR_false C).2 (.inr ⟨by have := C.neg x x; omega, Nat.le_refl _⟩)
  have A : ∀ x y, ltR cf idx x y = true → ltR cf idx y x = false := fun x y h => by
    refine (ltR_false C).2 ?_
    unfold ltR at h
    rcases of_decide_eq_true h with q | ⟨q, r⟩
    · exact .inl q
    · exact .inr ⟨q, by omega⟩
  refine ⟨I, fun x y z h1 h2 => ?_, T⟩
  cases e : ltR cf idx x z with
  | true => rfl
  | false =>
    have := T x z y e (A _ _ h2)
    rw [h1] at this
    cases this
variable [Inhabited α]
theorem insInner_perm (lt : α → α → Bool) (a b : Nat) (d : Array α) (j : Nat) (hj : j < b) (hb : b ≤ d.size) : PermIn a b d (insInner lt a j d) := by
  induction j generalizing d with
  | zero => rw [insInner]; exact permIn_refl _ _ _
  | succ j ih =>
    rw [insInner]
    by_cases c : (decide (j + 1 > a) && lt d[j + 1]! d[j]!) = true
    · rw [if_pos c]
      have c1 : a < j + 1 := by simp only [Bool.and_eq_true, decide_eq_true_eq] at c; exact c.1
      exact permIn_trans _ _ _ _ _ (swp_permIn d a b (j + 1) j (by omega) hj (by omega) (by omega) hb) (ih _ (by omega) (by rw [size_swp]; exact hb))
    · rw [if_neg c]; exact permIn_refl _ _ _
theorem insInner_same (cf : α → α → Int) (idx : α → Nat) (a : Nat) (d : Array α) (j : Nat) (hj : j < d.size) (h : ∀ k, a ≤ k → k < j → idx d[k]! < idx d[j]!) :
    insInner (ltOf cf) a j d = insInner (ltR cf idx) a j d := by
  induction j generalizing d with
  | zero => rw [insInner, insInner]
  | succ j ih =>
    by_cases c0 : a < j + 1
    · have e : ltOf cf d[j + 1]! d[j]! = ltR cf idx d[j + 1]! d[j]! := by
        have hx := h j (by omega) (by omega)
        unfold ltR
        show decide _ = decide _
        rw [decide_eq_decide]
        constructor
        · exact fun q => .inl q
        · rintro (q | ⟨_, q⟩)
          · exact q
          · omega
      have hk : ∀ k, a ≤ k → k < j → idx (swp d (j + 1) j)[k]! < idx (swp d (j + 1) j)[j]! := fun k k1 k2 => by
        rw [swp_right _ _ _ (by omega), swp_other _ _ _ _ (by omega) (by omega)]
        exact h k k1 (by omega)
      rw [insInner, insInner, e, ih _ (by rw [size_swp]; omega) hk]
    · rw [insInner_stop _ _ _ _ (.inl (by omega)), insInner_stop _ _ _ _ (.inl (by omega))]
theorem insOuter_same (cf : α → α → Int) (idx : α → Nat) (a b : Nat) (f i : Nat) (d : Array α) (hf : b - i ≤ f) (hai : a ≤ i) (hb : b ≤ d.size) (h1 : ∀ k, i ≤ k → k < b → idx d[k]! = k) (h2 : ∀ k, a ≤ k → k < i → idx d[k]! < i) :
    insOuter (ltOf cf) a b i d = insOuter (ltR cf idx) a b i d := by
  induction f generalizing i d with
  | zero => rw [insOuter_stop _ _ _ _ _ (by omega), insOuter_stop _ _ _ _ _ (by omega)]
  | succ f ih =>
    by_cases c : i < b
    · have e := insInner_same cf idx a d i (by omega) (fun k k1 k2 => by rw [h1 i (Nat.le_refl _) c]; exact h2 k k1 k2)
      rw [insOuter_go _ _ _ _ _ c, insOuter_go _ _ _ _ _ c, e]
      have P := insInner_perm (ltR cf idx) a (i + 1) d i (Nat.lt_succ_self _) (by omega)
      refine ih (i + 1) _ (by omega) (by omega) (by rw [P.1]; exact hb) (fun k k1 k2 => by rw [P.2.1 k (.inr k1)]; exact h1 k (by omega) k2) ?_
      exact permIn_all _ _ a (i + 1) (fun x => idx x < i + 1) (by omega) P (fun k k1 k2 => by
        rcases Nat.lt_or_ge k i with g | g
        · exact Nat.lt_succ_of_lt (h2 k k1 g)
        · rw [h1 k g (by omega)]; omega)
    · rw [insOuter_stop _ _ _ _ _ c, insOuter_stop _ _ _ _ _ c]
/-- Insertion on places that stand as they stood is stable. -/
theorem ins_stable {cf : α → α → Int} {idx : α → Nat} (C : CfOk cf) (d : Array α) (a b : Nat) (hab : a ≤ b) (hb : b ≤ d.size) (h : ∀ k, a ≤ k → k < b → idx d[k]! = k) : MPost cf idx a b d (insertionSort (ltOf cf) d a b) := by
  have e : insertionSort (ltOf cf) d a b = insertionSort (ltR cf idx) d a b := by
    by_cases c : a < b
    · exact insOuter_same cf idx a b (b - (a + 1)) (a + 1) d (Nat.le_refl _) (by omega) hb (fun k k1 k2 => h k (by omega) k2) (fun k k1 k2 => by rw [h k k1 (by omega)]; exact k2)
    · unfold insertionSort
      rw [insOuter_stop _ _ _ _ _ (by omega), insOuter_stop _ _ _ _ _ (by omega)]
  rw [e]
  obtain ⟨P, Q⟩ := insertionSort_holds (ltR_swo C) d a b hab hb
  exact ⟨P, fun i j i1 ij j2 => (ltR_false C).1 (Q i j i1 ij j2)⟩

/-- From lo to hi each block of bs places is in order, and holds what it held. -/
def Blk (cf : α → α → Int) (idx : α → Nat) (bs lo hi n : Nat) (d : Array α) : Prop :=
  ∀ a, bs ∣ a → lo ≤ a → a < hi → Srt cf idx a (min (a + bs) n) d ∧ ∀ k, a ≤ k → k < min (a + bs) n → a ≤ idx d[k]! ∧ idx d[k]! < a + bs
theorem dvd_next {bs a c : Nat} (h1 : bs ∣ a) (h2 : bs ∣ c) (h : a < c) : a + bs ≤ c := by
  obtain ⟨p, rfl⟩ := h1
  obtain ⟨q, rfl⟩ := h2
  have hpq : p < q := Nat.lt_of_mul_lt_mul_left h
  have := Nat.mul_le_mul_left bs (show p + 1 ≤ q from hpq)
  rw [Nat.mul_add, Nat.mul_one] at this
  exact this
theorem Blk.keep {cf : α → α → Int} {idx : α → Nat} {bs lo hi n : Nat} {d d' : Array α} (h : Blk cf idx bs lo hi n d) (e : ∀ a, bs ∣ a → lo ≤ a → a < hi → ∀ k, a ≤ k → k < min (a + bs) n → d'[k]! = d[k]!) : Blk cf idx bs lo hi n d' := by
  intro a h1 h2 h3
  obtain ⟨s, m⟩ := h a h1 h2 h3
  have g := e a h1 h2 h3
  refine ⟨fun i j i1 ij j2 => ?_, fun k k1 k2 => ?_⟩
  · rw [g i i1 (by omega), g j (by omega) j2]; exact s i j i1 ij j2
  · rw [g k k1 k2]; exact m k k1 k2
/-- One more block of twenty. -/
theorem Blk.ins {cf : α → α → Int} {idx : α → Nat} {bs a b n : Nat} {d d' : Array α} (hbs : 0 < bs) (h : Blk cf idx bs 0 a n d) (ha : bs ∣ a) (hb : b = min (a + bs) n) (hab : a ≤ b) (hn : n = d.size) (h2 : ∀ k, a ≤ k → k < n → idx d[k]! = k) (P : MPost cf idx a b d d') :
    Blk cf idx bs 0 (a + bs) n d' ∧ (∀ k, a + bs ≤ k → k < n → idx d'[k]! = k) := by
  refine ⟨fun c c1 c2 c3 => ?_, fun k k1 k2 => by rw [P.1.2.1 k (.inr (by omega))]; exact h2 k (by omega) k2⟩
  by_cases e : c = a
  · subst e
    rw [← hb]
    refine ⟨P.2, permIn_all d d' c b (fun x => c ≤ idx x ∧ idx x < c + bs) (by omega) P.1 (fun k k1 k2 => ?_)⟩
    rw [h2 k k1 (by omega)]
    omega
  · have hca : c < a := by
      rcases Nat.lt_or_ge c a with g | g
      · exact g
      · have := dvd_next ha c1 (by omega)
        omega
    have hn2 := dvd_next c1 ha hca
    exact Blk.keep h (fun c c1 _ c3 k k1 k2 => P.1.2.1 k (.inl (by have := dvd_next c1 ha c3; omega))) c c1 c2 hca
theorem dvd_two {bs a : Nat} (h : 2 * bs ∣ a) : bs ∣ a := Nat.dvd_trans ⟨2, Nat.mul_comm _ _⟩ h
/-- What symMerge is called for. -/
theorem Blk.pre {cf : α → α → Int} {idx : α → Nat} {bs a b n : Nat} {d : Array α} (hbs : 0 < bs) (h : Blk cf idx bs a n n d) (ha : 2 * bs ∣ a) (hm : a + bs < n) (hb : b = min (a + 2 * bs) n) (hn : n = d.size) : MPre cf idx a (a + bs) b d := by
  have d1 := dvd_two ha
  have d2 : bs ∣ a + bs := Nat.dvd_add d1 (Nat.dvd_refl _)
  obtain ⟨s1, m1⟩ := h a d1 (Nat.le_refl _) (by omega)
  obtain ⟨s2, m2⟩ := h (a + bs) d2 (by omega) hm
  rw [show min (a + bs) n = a + bs by omega] at s1 m1
  rw [show min (a + bs + bs) n = b by omega] at s2 m2
  refine ⟨by omega, by omega, by omega, s1, s2, fun i j i1 i2 j1 j2 => ?_⟩
  have := m1 i i1 i2
  have := m2 j j1 j2
  omega
theorem Blk.merge {cf : α → α → Int} {idx : α → Nat} {bs a b n : Nat} {d d' : Array α} (hbs : 0 < bs) (h0 : Blk cf idx (2 * bs) 0 a n d) (h : Blk cf idx bs a n n d) (ha : 2 * bs ∣ a) (hm : a + bs < n) (hb : b = min (a + 2 * bs) n) (hn : n = d.size) (P : MPost cf idx a b d d') :
    Blk cf idx (2 * bs) 0 (a + 2 * bs) n d' ∧ Blk cf idx bs (a + 2 * bs) n n d' := by
  refine ⟨fun c c1 c2 c3 => ?_, Blk.keep (fun c c1 c2 c3 => h c c1 (by omega) c3) (fun c c1 c2 c3 k k1 k2 => P.1.2.1 k (.inr (by omega)))⟩
  by_cases e : c = a
  · subst e
    rw [← hb]
    have d1 := dvd_two ha
    have d2 : bs ∣ c + bs := Nat.dvd_add d1 (Nat.dvd_refl _)
    obtain ⟨s1, m1⟩ := h c d1 (Nat.le_refl _) (by omega)
    obtain ⟨s2, m2⟩ := h (c + bs) d2 (by omega) hm
    refine ⟨P.2, permIn_all d d' c b (fun x => c ≤ idx x ∧ idx x < c + 2 * bs) (by omega) P.1 (fun k k1 k2 => ?_)⟩
    rcases Nat.lt_or_ge k (c + bs) with g | g
    · have := m1 k k1 (by omega)
      omega
    · have := m2 k g (by omega)
      omega
  · have hca : c < a := by
      rcases Nat.lt_or_ge c a with g | g
      · exact g
      · have := dvd_next ha c1 (by omega)
        omega
    exact Blk.keep h0 (fun c c1 _ c3 k k1 k2 => P.1.2.1 k (.inl (by have := dvd_next c1 ha c3; omega))) c c1 c2 hca
/-- The last block has no fellow. -/
theorem Blk.last {cf : α → α → Int} {idx : α → Nat} {bs a n : Nat} {d : Array α} (hbs : 0 < bs) (h0 : Blk cf idx (2 * bs) 0 a n d) (h : Blk cf idx bs a n n d) (ha : 2 * bs ∣ a) (hm : n ≤ a + bs) : Blk cf idx (2 * bs) 0 n n d := by
  intro c c1 c2 c3
  rcases Nat.lt_or_ge c a with g | g
  · exact h0 c c1 c2 g
  · have e : c = a := by
      rcases Nat.lt_or_eq_of_le g with q | q
      · have := dvd_next ha c1 q
        omega
      · exact q.symm
    subst e
    obtain ⟨s, m⟩ := h c (dvd_two ha) (Nat.le_refl _) c3
    rw [show min (c + bs) n = n by omega] at s m
    rw [show min (c + 2 * bs) n = n by omega]
    exact ⟨s, fun k k1 k2 => by have := m k k1 k2; omega⟩
theorem Blk.all {cf : α → α → Int} {idx : α → Nat} {bs n : Nat} {d : Array α} (h : Blk cf idx bs 0 n n d) (hb : n ≤ bs) : Srt cf idx 0 n d := by
  intro i j i1 ij j2
  have := (h 0 (Nat.dvd_zero _) (Nat.le_refl _) (by omega)).1
  rw [show min (0 + bs) n = n by omega] at this
  exact this i j i1 ij j2
end Go.Proofs.Ytaoflcmjmhfblaa.H
