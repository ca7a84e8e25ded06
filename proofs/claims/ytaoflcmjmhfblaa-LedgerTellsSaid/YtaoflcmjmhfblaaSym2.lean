/- The plain law of symMerge: two sorted parts become one, stable. -/
import Derived.Test.YtaoflcmjmhfblaaSym
namespace Go.Proofs.Ytaoflcmjmhfblaa.H
open Go.Sort (swp PermIn SWO SortedIn size_swp swp_left swp_right swp_other swp_permIn permIn_refl permIn_trans permIn_all permIn_mono)
set_option linter.unusedVariables false
variable {α : Type} [Inhabited α]
structure MPre (cf : α → α → Int) (idx : α → Nat) (a m b : Nat) (d : Array α) : Prop where
  am : a < m
  mb : m < b
  size : b ≤ d.size
  left : Srt cf idx a m d
  right : Srt cf idx m b d
  cross : ∀ i j, a ≤ i → i < m → m ≤ j → j < b → idx d[i]! < idx d[j]!
def MPost (cf : α → α → Int) (idx : α → Nat) (a b : Nat) (d d' : Array α) : Prop := PermIn a b d d' ∧ Srt cf idx a b d'

theorem one_left {cf : α → α → Int} {idx : α → Nat} (C : CfOk cf) {a m b s : Nat} {d : Array α} (h : MPre cf idx a m b d) (e : m = a + 1) (h1 : m ≤ s) (h2 : s ≤ b)
    (f1 : s = m ∨ cf d[s - 1]! d[a]! < 0) (f2 : s = b ∨ ¬ cf d[s]! d[a]! < 0) : MPost cf idx a b d (shU d a (s - 1 - a)) := by
  have hs := h.size
  have hmb := h.mb
  refine ⟨shU_perm d a (s - 1 - a) b (by omega) hs, fun i j hi hij hj => ?_⟩
  have g := fun k => shU_get d a (s - 1 - a) k (by omega)
  rw [g i, g j]
  by_cases c1 : j < s - 1
  · rw [if_pos (by omega), if_pos (by omega)]
    exact h.right _ _ (by omega) (by omega) (by omega)
  · by_cases c2 : j = s - 1
    · rw [if_pos (by omega), if_neg (by omega), if_pos (by omega)]
      have q := leR_le (h.right.le C (i := i + 1) (j := s - 1) (by omega) (by omega) (by omega))
      exact .inl (C.trans2 q (f1.resolve_left (by omega)))
    · rw [if_neg (show ¬ (a ≤ j ∧ j < a + (s - 1 - a)) by omega), if_neg (show ¬ j = a + (s - 1 - a) by omega)]
      by_cases c3 : i < s - 1
      · rw [if_pos (by omega)]
        exact h.right _ _ (by omega) (by omega) (by omega)
      · rw [if_neg (by omega)]
        by_cases c4 : i = s - 1
        · rw [if_pos (by omega)]
          have q := f2.resolve_left (by omega)
          have n := C.neg d[s]! d[a]!
          have x := h.cross a s (by omega) (by omega) (by omega) (by omega)
          have l1 : leR cf idx d[a]! d[s]! := by
            rcases Int.lt_or_eq_of_le (show cf d[a]! d[s]! ≤ 0 by omega) with g | g
            · exact .inl g
            · exact .inr ⟨g, by omega⟩
          exact leR_trans C l1 (h.right.le C (by omega) (by omega) hj)
        · rw [if_neg (by omega)]
          exact h.right _ _ (by omega) (by omega) (by omega)
theorem one_right {cf : α → α → Int} {idx : α → Nat} (C : CfOk cf) {a m b s : Nat} {d : Array α} (h : MPre cf idx a m b d) (e : b = m + 1) (h1 : a ≤ s) (h2 : s ≤ m)
    (f1 : s = a ∨ ¬ cf d[m]! d[s - 1]! < 0) (f2 : s = m ∨ cf d[m]! d[s]! < 0) : MPost cf idx a b d (shD d m (m - s)) := by
  have hs := h.size
  have hmb := h.mb
  have ham := h.am
  refine ⟨shD_perm d m (m - s) a b (by omega) (by omega) (by omega) hs, fun i j hi hij hj => ?_⟩
  have g := fun k => shD_get d m (m - s) k (by omega) (by omega)
  rw [g i, g j]
  by_cases c1 : j < s
  · rw [if_neg (by omega), if_neg (by omega), if_neg (by omega), if_neg (by omega)]
    exact h.left _ _ (by omega) (by omega) (by omega)
  · by_cases c2 : j = s
    · rw [if_neg (by omega), if_neg (by omega), if_neg (by omega), if_pos (by omega)]
      have q := f1.resolve_left (by omega)
      have n := C.neg d[m]! d[s - 1]!
      have x := h.cross (s - 1) m (by omega) (by omega) (by omega) (by omega)
      have l1 : leR cf idx d[s - 1]! d[m]! := by
        rcases Int.lt_or_eq_of_le (show cf d[s - 1]! d[m]! ≤ 0 by omega) with g | g
        · exact .inl g
        · exact .inr ⟨g, by omega⟩
      exact leR_trans C (h.left.le C (by omega) (by omega) (by omega)) l1
    · rw [if_pos (show m - (m - s) < j ∧ j ≤ m by omega)]
      by_cases c3 : i < s
      · rw [if_neg (by omega), if_neg (by omega)]
        exact h.left _ _ (by omega) (by omega) (by omega)
      · by_cases c4 : i = s
        · rw [if_neg (by omega), if_pos (by omega)]
          have q := f2.resolve_left (by omega)
          have l := leR_le (h.left.le C (i := s) (j := j - 1) (by omega) (by omega) (by omega))
          exact .inl ((C.trans _ _ _ (by omega) l).2 q)
        · rw [if_pos (by omega)]
          exact h.left _ _ (by omega) (by omega) (by omega)

/-- What is known behind the turn about the middle. -/
structure SymI (cf : α → α → Int) (idx : α → Nat) (a mid b s e : Nat) (d d1 : Array α) : Prop where
  o1 : a ≤ s ∧ s ≤ mid
  o2 : mid ≤ e ∧ e ≤ b
  size : b ≤ d.size
  perm : PermIn a b d d1
  s1 : Srt cf idx a s d1
  s2 : Srt cf idx s mid d1
  s3 : Srt cf idx mid e d1
  s4 : Srt cf idx e b d1
  x1 : ∀ i j, a ≤ i → i < s → s ≤ j → j < mid → idx d1[i]! < idx d1[j]!
  x2 : ∀ i j, mid ≤ i → i < e → e ≤ j → j < b → idx d1[i]! < idx d1[j]!
  low : ∀ i j, a ≤ i → i < mid → mid ≤ j → j < b → leR cf idx d1[i]! d1[j]!

theorem SymI.of {cf : α → α → Int} {idx : α → Nat} (C : CfOk cf) {a m b s mid e s0 r0 : Nat} {d d1 : Array α} (h : MPre cf idx a m b d) (hmid : mid = (a + b) / 2) (he : e = mid + m - s)
    (h0 : (mid < m ∧ s0 = mid + m - b ∧ r0 = mid) ∨ (m ≤ mid ∧ s0 = a ∧ r0 = m)) (hs0 : s0 ≤ s) (hr0 : s ≤ r0)
    (f1 : s = s0 ∨ ¬ cf d[e]! d[s - 1]! < 0) (f2 : s = r0 ∨ cf d[e - 1]! d[s]! < 0) (hp : PermIn a b d d1) (hr : ∀ k, d1[k]! = rotF s m e d k) : SymI cf idx a mid b s e d d1 := by
  have am := h.am
  have mb := h.mb
  have hsz := h.size
  have b1 : a ≤ s := by omega
  have b2 : s ≤ mid := by omega
  have b3 : mid ≤ e := by omega
  have b4 : e ≤ b := by omega
  have b5 : s ≤ m := by omega
  have b6 : m ≤ e := by omega
  have g1 : ∀ k, a ≤ k → k < s → d1[k]! = d[k]! := fun k k1 k2 => by rw [hr]; unfold rotF; rw [if_pos (by omega)]
  have g2 : ∀ k, s ≤ k → k < mid → d1[k]! = d[k + (m - s)]! := fun k k1 k2 => by rw [hr]; unfold rotF; rw [if_neg (by omega), if_pos (by omega)]
  have g3 : ∀ k, mid ≤ k → k < e → d1[k]! = d[k - (e - m)]! := fun k k1 k2 => by rw [hr]; unfold rotF; rw [if_neg (by omega), if_neg (by omega)]
  have g4 : ∀ k, e ≤ k → k < b → d1[k]! = d[k]! := fun k k1 k2 => by rw [hr]; unfold rotF; rw [if_pos (by omega)]
  -- the left part's first half is not behind the right part's second half
  have L1 : ∀ i j, a ≤ i → i < s → e ≤ j → j < b → leR cf idx d[i]! d[j]! := fun i j i1 i2 j1 j2 => by
    have q := f1.resolve_left (by omega)
    have n := C.neg d[e]! d[s - 1]!
    have x := h.cross (s - 1) e (by omega) (by omega) (by omega) (by omega)
    have l : leR cf idx d[s - 1]! d[e]! := by
      rcases Int.lt_or_eq_of_le (show cf d[s - 1]! d[e]! ≤ 0 by omega) with g | g
      · exact .inl g
      · exact .inr ⟨g, by omega⟩
    exact leR_trans C (leR_trans C (h.left.le C i1 (by omega) (by omega)) l) (h.right.le C (by omega) j1 j2)
  have L2 : ∀ i j, m ≤ i → i < e → s ≤ j → j < m → leR cf idx d[i]! d[j]! := fun i j i1 i2 j1 j2 => by
    have q := f2.resolve_left (by omega)
    exact leR_trans C (leR_trans C (h.right.le C i1 (by omega) (by omega)) (.inl q)) (h.left.le C (by omega) j1 j2)
  refine ⟨⟨b1, b2⟩, ⟨b3, b4⟩, hsz, hp, fun i j i1 ij j2 => ?_, fun i j i1 ij j2 => ?_, fun i j i1 ij j2 => ?_, fun i j i1 ij j2 => ?_, fun i j i1 i2 j1 j2 => ?_, fun i j i1 i2 j1 j2 => ?_, fun i j i1 i2 j1 j2 => ?_⟩
  · rw [g1 i (by omega) (by omega), g1 j (by omega) (by omega)]; exact h.left _ _ (by omega) (by omega) (by omega)
  · rw [g2 i (by omega) (by omega), g2 j (by omega) (by omega)]; exact h.right _ _ (by omega) (by omega) (by omega)
  · rw [g3 i (by omega) (by omega), g3 j (by omega) (by omega)]; exact h.left _ _ (by omega) (by omega) (by omega)
  · rw [g4 i (by omega) (by omega), g4 j (by omega) (by omega)]; exact h.right _ _ (by omega) (by omega) (by omega)
  · rw [g1 i (by omega) (by omega), g2 j (by omega) (by omega)]; exact h.cross _ _ (by omega) (by omega) (by omega) (by omega)
  · rw [g3 i (by omega) (by omega), g4 j (by omega) (by omega)]; exact h.cross _ _ (by omega) (by omega) (by omega) (by omega)
  · by_cases c1 : i < s
    · rw [g1 i (by omega) (by omega)]
      by_cases c2 : j < e
      · rw [g3 j (by omega) (by omega)]; exact h.left.le C (by omega) (by omega) (by omega)
      · rw [g4 j (by omega) (by omega)]; exact L1 _ _ (by omega) (by omega) (by omega) (by omega)
    · rw [g2 i (by omega) (by omega)]
      by_cases c2 : j < e
      · rw [g3 j (by omega) (by omega)]; exact L2 _ _ (by omega) (by omega) (by omega) (by omega)
      · rw [g4 j (by omega) (by omega)]; exact h.right.le C (by omega) (by omega) (by omega)
theorem SymI.pre1 {cf : α → α → Int} {idx : α → Nat} {a mid b s e : Nat} {d d1 : Array α} (h : SymI cf idx a mid b s e d d1) (h1 : a < s) (h2 : s < mid) : MPre cf idx a s mid d1 :=
  ⟨h1, h2, by have := h.perm.1; have := h.size; have := h.o2; omega, h.s1, h.s2, h.x1⟩
/-- .. behind the first half's merging. -/
theorem SymI.half {cf : α → α → Int} {idx : α → Nat} {a mid b s e : Nat} {d d1 : Array α} (h : SymI cf idx a mid b s e d d1) (hn : ¬ (a < s ∧ s < mid)) : MPost cf idx a mid d1 d1 := by
  refine ⟨permIn_refl _ _ _, ?_⟩
  have := h.o1
  by_cases c : a < s
  · have : s = mid := by omega
    rw [← this]; exact h.s1
  · have : s = a := by omega
    rw [← this]; exact h.s2
theorem SymI.pre2 {cf : α → α → Int} {idx : α → Nat} {a mid b s e : Nat} {d d1 d2 : Array α} (h : SymI cf idx a mid b s e d d1) (p : MPost cf idx a mid d1 d2) (h1 : mid < e) (h2 : e < b) : MPre cf idx mid e b d2 := by
  have o := p.1.2.1
  have g : ∀ k, mid ≤ k → d2[k]! = d1[k]! := fun k hk => o k (Or.inr hk)
  refine ⟨h1, h2, by have := h.perm.1; have := p.1.1; have := h.size; omega, fun i j i1 ij j2 => ?_, fun i j i1 ij j2 => ?_, fun i j i1 i2 j1 j2 => ?_⟩
  · rw [g i (by omega), g j (by omega)]; exact h.s3 _ _ i1 ij j2
  · rw [g i (by omega), g j (by omega)]; exact h.s4 _ _ i1 ij j2
  · rw [g i (by omega), g j (by omega)]; exact h.x2 _ _ i1 i2 j1 j2
theorem SymI.half2 {cf : α → α → Int} {idx : α → Nat} {a mid b s e : Nat} {d d1 d2 : Array α} (h : SymI cf idx a mid b s e d d1) (p : MPost cf idx a mid d1 d2) (hn : ¬ (mid < e ∧ e < b)) : MPost cf idx mid b d2 d2 := by
  have o := p.1.2.1
  have g : ∀ k, mid ≤ k → d2[k]! = d1[k]! := fun k hk => o k (Or.inr hk)
  have := h.o2
  refine ⟨permIn_refl _ _ _, fun i j i1 ij j2 => ?_⟩
  rw [g i (by omega), g j (by omega)]
  by_cases c : mid < e
  · have e1 : e = b := by omega
    exact h.s3 _ _ i1 ij (by omega)
  · exact h.s4 _ _ (by omega) ij j2
theorem SymI.fin {cf : α → α → Int} {idx : α → Nat} {a mid b s e : Nat} {d d1 d2 d3 : Array α} (h : SymI cf idx a mid b s e d d1) (p : MPost cf idx a mid d1 d2) (q : MPost cf idx mid b d2 d3) : MPost cf idx a b d d3 := by
  have o1 := h.o1
  have o2 := h.o2
  have hz := h.size
  have z1 := h.perm.1
  have z2 := p.1.1
  have z3 := q.1.1
  refine ⟨permIn_trans _ _ _ _ _ h.perm (permIn_trans _ _ _ _ _ (permIn_mono _ _ a mid a b (Nat.le_refl _) (by omega) (by omega) p.1) (permIn_mono _ _ mid b a b (by omega) (Nat.le_refl _) (by omega) q.1)), fun i j i1 ij j2 => ?_⟩
  have oq := q.1.2.1
  have op := p.1.2.1
  by_cases c1 : j < mid
  · rw [oq i (Or.inl (by omega)), oq j (Or.inl c1)]
    exact p.2 _ _ i1 ij c1
  · by_cases c2 : mid ≤ i
    · exact q.2 _ _ c2 ij j2
    · rw [oq i (Or.inl (by omega))]
      have A : ∀ i, a ≤ i → i < mid → ∀ j, mid ≤ j → j < b → leR cf idx d2[i]! d2[j]! :=
        permIn_all d1 d2 a mid (fun x => ∀ j, mid ≤ j → j < b → leR cf idx x d2[j]!) (by omega) p.1 (fun i i1 i2 j j1 j2 => by rw [op j (Or.inr j1)]; exact h.low i j i1 i2 j1 j2)
      exact permIn_all d2 d3 mid b (fun y => leR cf idx d2[i]! y) (by omega) q.1 (fun j j1 j2 => A i i1 (by omega) j j1 j2) j (by omega) j2
end Go.Proofs.Ytaoflcmjmhfblaa.H
