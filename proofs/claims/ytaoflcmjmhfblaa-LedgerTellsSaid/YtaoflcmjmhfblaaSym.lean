/- The plain law of the stable sort's merging: swapRange, rotate, symMerge over arrays. -/
import Derived.Test.YtaoflcmjmhfblaaOrder
import Derived.Sort.Lot0
import Derived.Sort.LotA
namespace Go.Proofs.Ytaoflcmjmhfblaa.H
open Go.Sort (swp PermIn SWO SortedIn size_swp swp_left swp_right swp_other swp_permIn permIn_refl permIn_trans permIn_all permIn_mono)
set_option linter.unusedVariables false
variable {α : Type}

/-! ### the order -/
structure CfOk (cf : α → α → Int) : Prop where
  neg : ∀ x y, cf y x = -cf x y
  trans : ∀ x y z, cf x y ≤ 0 → cf y z ≤ 0 → cf x z ≤ 0 ∧ (cf x y < 0 → cf x z < 0)
def leR (cf : α → α → Int) (idx : α → Nat) (x y : α) : Prop := cf x y < 0 ∨ (cf x y = 0 ∧ idx x ≤ idx y)
theorem CfOk.trans2 {cf : α → α → Int} (h : CfOk cf) {x y z : α} (h1 : cf x y ≤ 0) (h2 : cf y z < 0) : cf x z < 0 := by
  have n1 := h.neg x y
  have n2 := h.neg y z
  have n3 := h.neg x z
  have h3 := (h.trans x y z h1 (by omega)).1
  rcases Int.lt_or_eq_of_le h3 with g | g
  · exact g
  · have := h.trans z x y (by omega) h1
    omega
theorem leR_trans {cf : α → α → Int} {idx : α → Nat} (h : CfOk cf) {x y z : α} (h1 : leR cf idx x y) (h2 : leR cf idx y z) : leR cf idx x z := by
  rcases h1 with h1 | ⟨h1, i1⟩
  · rcases h2 with h2 | ⟨h2, i2⟩
    · exact .inl ((h.trans x y z (by omega) (by omega)).2 h1)
    · exact .inl ((h.trans x y z (by omega) (by omega)).2 h1)
  · rcases h2 with h2 | ⟨h2, i2⟩
    · exact .inl (h.trans2 (by omega) h2)
    · have a := (h.trans x y z (by omega) (by omega)).1
      have n1 := h.neg x y
      have n2 := h.neg y z
      have n3 := h.neg x z
      have b := (h.trans z y x (by omega) (by omega)).1
      exact .inr ⟨by omega, by omega⟩
theorem leR_le {cf : α → α → Int} {idx : α → Nat} {x y : α} (h : leR cf idx x y) : cf x y ≤ 0 := by
  rcases h with h | ⟨h, _⟩ <;> omega
variable [Inhabited α]
def Srt (cf : α → α → Int) (idx : α → Nat) (a b : Nat) (d : Array α) : Prop := ∀ i j, a ≤ i → i < j → j < b → leR cf idx d[i]! d[j]!
theorem Srt.le {cf : α → α → Int} {idx : α → Nat} (h : CfOk cf) {a b : Nat} {d : Array α} (s : Srt cf idx a b d) {i j : Nat} (hi : a ≤ i) (hij : i ≤ j) (hj : j < b) : leR cf idx d[i]! d[j]! := by
  rcases Nat.lt_or_eq_of_le hij with g | rfl
  · exact s i j hi g hj
  · have := h.neg d[i]! d[i]!
    exact .inr ⟨by omega, Nat.le_refl _⟩

/-! ### swapRange -/
def swR (d : Array α) (a b : Nat) : Nat → Array α
  | 0 => d
  | i + 1 => swp (swR d a b i) (a + i) (b + i)
theorem swR_size (d : Array α) (a b n : Nat) : (swR d a b n).size = d.size := by
  induction n with
  | zero => rfl
  | succ n ih => show (swp _ _ _).size = _; rw [size_swp, ih]
theorem swR_get (d : Array α) (a b n k : Nat) (h1 : a + n ≤ b) (h2 : b + n ≤ d.size) :
    (swR d a b n)[k]! = if a ≤ k ∧ k < a + n then d[k + (b - a)]! else if b ≤ k ∧ k < b + n then d[k - (b - a)]! else d[k]! := by
  induction n generalizing k with
  | zero => rw [if_neg (by omega), if_neg (by omega)]; rfl
  | succ n ih =>
    show (swp (swR d a b n) (a + n) (b + n))[k]! = _
    have hs := swR_size d a b n
    by_cases e1 : k = a + n
    · subst e1
      rw [swp_left _ _ _ (by omega) (by omega), ih (b + n) (by omega) (by omega), if_neg (by omega), if_neg (by omega), if_pos (by omega)]
      congr 1; omega
    · by_cases e2 : k = b + n
      · subst e2
        rw [swp_right _ _ _ (by omega), ih (a + n) (by omega) (by omega), if_neg (by omega), if_neg (by omega), if_neg (by omega), if_pos (by omega)]
        congr 1; omega
      · rw [swp_other _ _ _ _ e1 e2, ih k (by omega) (by omega)]
        by_cases c1 : a ≤ k ∧ k < a + n
        · rw [if_pos c1, if_pos (by omega)]
        · rw [if_neg c1, if_neg (show ¬ (a ≤ k ∧ k < a + (n + 1)) by omega)]
          by_cases c2 : b ≤ k ∧ k < b + n
          · rw [if_pos c2, if_pos (show b ≤ k ∧ k < b + (n + 1) by omega)]
          · rw [if_neg c2, if_neg (show ¬ (b ≤ k ∧ k < b + (n + 1)) by omega)]
theorem swR_perm (d : Array α) (a b n lo hi : Nat) (h0 : lo ≤ a) (h1 : a + n ≤ b) (h2 : b + n ≤ hi) (h3 : hi ≤ d.size) : PermIn lo hi d (swR d a b n) := by
  induction n with
  | zero => exact permIn_refl _ _ _
  | succ n ih =>
    have hs := swR_size d a b n
    exact permIn_trans _ _ _ _ _ (ih (by omega) (by omega)) (swp_permIn _ lo hi (a + n) (b + n) (by omega) (by omega) (by omega) (by omega) (by omega))

/-! ### rotate -/
def rotF (a m b : Nat) (d : Array α) (k : Nat) : α := if k < a ∨ b ≤ k then d[k]! else if k < a + (b - m) then d[k + (m - a)]! else d[k - (b - m)]!
theorem rot_gt (d : Array α) (m i j : Nat) (h1 : j < i) (h0 : 0 < j) (h2 : i ≤ m) (h3 : m + j ≤ d.size) (k : Nat) :
    rotF (m - (i - j)) m (m + j) (swR d (m - i) m j) k = rotF (m - i) m (m + j) d k := by
  have g := fun q => swR_get d (m - i) m j q (by omega) (by omega)
  unfold rotF
  simp only [g]
  by_cases c1 : k < m - i ∨ m + j ≤ k
  · rw [if_pos (by omega), if_neg (by omega), if_neg (by omega), if_pos c1]
  · by_cases c2 : k < m - i + j
    · rw [if_pos (by omega), if_pos (by omega), if_neg c1, if_pos (by omega)]
    · rw [if_neg (by omega), if_neg c1, if_neg (show ¬ k < m - i + (m + j - m) by omega)]
      by_cases c3 : k < m - i + j + j
      · rw [if_pos (by omega), if_neg (by omega), if_pos (by omega)]
        congr 1; omega
      · rw [if_neg (by omega), if_neg (by omega), if_neg (by omega)]
theorem rot_lt (d : Array α) (m i j : Nat) (h1 : i < j) (h0 : 0 < i) (h2 : i ≤ m) (h3 : m + j ≤ d.size) (k : Nat) :
    rotF (m - i) m (m + (j - i)) (swR d (m - i) (m + j - i) i) k = rotF (m - i) m (m + j) d k := by
  have g := fun q => swR_get d (m - i) (m + j - i) i q (by omega) (by omega)
  unfold rotF
  simp only [g]
  by_cases c1 : k < m - i ∨ m + j ≤ k
  · rw [if_pos (by omega), if_neg (by omega), if_neg (by omega), if_pos c1]
  · rw [if_neg c1]
    by_cases c2 : m + (j - i) ≤ k
    · rw [if_pos (by omega), if_neg (by omega), if_pos (by omega), if_neg (by omega)]
      congr 1; omega
    · rw [if_neg (by omega)]
      rw [if_pos (show k < m - i + (m + j - m) by omega)]
      by_cases c3 : k < m - i + (j - i)
      · rw [if_pos (by omega), if_neg (by omega), if_neg (by omega)]
      · rw [if_neg (by omega), if_pos (by omega)]
        congr 1; omega
theorem rot_eq (d : Array α) (m i : Nat) (h2 : i ≤ m) (h3 : m + i ≤ d.size) (k : Nat) : (swR d (m - i) m i)[k]! = rotF (m - i) m (m + i) d k := by
  rw [swR_get d (m - i) m i k (by omega) (by omega)]
  unfold rotF
  by_cases c1 : k < m - i ∨ m + i ≤ k
  · rw [if_neg (by omega), if_neg (by omega), if_pos c1]
  · rw [if_neg c1]
    by_cases c2 : k < m
    · rw [if_pos (by omega), if_pos (by omega)]
    · rw [if_neg (by omega), if_pos (by omega), if_neg (by omega)]
      congr 1; omega
theorem rotF_left (d : Array α) (m b k : Nat) : rotF m m b d k = d[k]! := by
  unfold rotF
  by_cases c1 : k < m ∨ b ≤ k
  · rw [if_pos c1]
  · rw [if_neg c1, if_pos (by omega)]; congr 1; omega
theorem rotF_right (d : Array α) (a m k : Nat) : rotF a m m d k = d[k]! := by
  unfold rotF
  by_cases c1 : k < a ∨ m ≤ k
  · rw [if_pos c1]
  · rw [if_neg c1, if_neg (by omega)]; congr 1; omega
/-- Where rotate's loop stands. -/
structure RotI (a m b : Nat) (d : Array α) (i j : Nat) (dk : Array α) : Prop where
  hi : 0 < i ∧ i ≤ m - a
  hj : 0 < j ∧ j ≤ b - m
  perm : PermIn a b d dk
  rot : ∀ k, rotF (m - i) m (m + j) dk k = rotF a m b d k
def Rotd (a m b : Nat) (d d' : Array α) : Prop := PermIn a b d d' ∧ ∀ k, d'[k]! = rotF a m b d k
theorem RotI.start {a m b : Nat} {d : Array α} (h1 : a < m) (h2 : m < b) : RotI a m b d (m - a) (b - m) d :=
  ⟨⟨by omega, by omega⟩, ⟨by omega, by omega⟩, permIn_refl _ _ _, fun k => by rw [show m - (m - a) = a by omega, show m + (b - m) = b by omega]⟩
theorem RotI.gt {a m b i j : Nat} {d dk : Array α} (h : RotI a m b d i j dk) (hm : a ≤ m ∧ m ≤ b) (hb : b ≤ d.size) (hij : j < i) : RotI a m b d (i - j) j (swR dk (m - i) m j) := by
  have h1 := h.hi
  have h2 := h.hj
  have hs := h.perm.1
  exact ⟨⟨by omega, by omega⟩, h2, permIn_trans _ _ _ _ _ h.perm (swR_perm dk (m - i) m j a b (by omega) (by omega) (by omega) (by omega)), fun k => (rot_gt dk m i j hij (by omega) (by omega) (by omega) k).trans (h.rot k)⟩
theorem RotI.lt {a m b i j : Nat} {d dk : Array α} (h : RotI a m b d i j dk) (hm : a ≤ m ∧ m ≤ b) (hb : b ≤ d.size) (hij : i < j) : RotI a m b d i (j - i) (swR dk (m - i) (m + j - i) i) := by
  have h1 := h.hi
  have h2 := h.hj
  have hs := h.perm.1
  exact ⟨h1, ⟨by omega, by omega⟩, permIn_trans _ _ _ _ _ h.perm (swR_perm dk (m - i) (m + j - i) i a b (by omega) (by omega) (by omega) (by omega)), fun k => (rot_lt dk m i j hij (by omega) (by omega) (by omega) k).trans (h.rot k)⟩
theorem RotI.fin {a m b i : Nat} {d dk : Array α} (h : RotI a m b d i i dk) (hm : a ≤ m ∧ m ≤ b) (hb : b ≤ d.size) : Rotd a m b d (swR dk (m - i) m i) := by
  have h1 := h.hi
  have h2 := h.hj
  have hs := h.perm.1
  exact ⟨permIn_trans _ _ _ _ _ h.perm (swR_perm dk (m - i) m i a b (by omega) (by omega) (by omega) (by omega)), fun k => (rot_eq dk m i (by omega) (by omega) k).trans (h.rot k)⟩

/-! ### one element put in: from the left, from the right -/
def shU (d : Array α) (a : Nat) : Nat → Array α
  | 0 => d
  | n + 1 => swp (shU d a n) (a + n) (a + n + 1)
theorem shU_size (d : Array α) (a n : Nat) : (shU d a n).size = d.size := by
  induction n with
  | zero => rfl
  | succ n ih => show (swp _ _ _).size = _; rw [size_swp, ih]
theorem shU_get (d : Array α) (a n k : Nat) (h : a + n < d.size) : (shU d a n)[k]! = if a ≤ k ∧ k < a + n then d[k + 1]! else if k = a + n then d[a]! else d[k]! := by
  induction n generalizing k with
  | zero =>
    rw [if_neg (by omega)]
    by_cases e : k = a + 0
    · rw [if_pos e, e]; rfl
    · rw [if_neg e]; rfl
  | succ n ih =>
    show (swp (shU d a n) (a + n) (a + n + 1))[k]! = _
    have hs := shU_size d a n
    by_cases e1 : k = a + n
    · subst e1
      rw [swp_left _ _ _ (by omega) (by omega), ih (a + n + 1) (by omega), if_neg (by omega), if_neg (by omega), if_pos (by omega)]
    · by_cases e2 : k = a + n + 1
      · subst e2
        rw [swp_right _ _ _ (by omega), ih (a + n) (by omega), if_neg (by omega), if_pos (by omega), if_neg (by omega), if_pos (by omega)]
      · rw [swp_other _ _ _ _ e1 e2, ih k (by omega)]
        by_cases c1 : a ≤ k ∧ k < a + n
        · rw [if_pos c1, if_pos (by omega)]
        · rw [if_neg c1, if_neg (by omega), if_neg (by omega), if_neg (by omega)]
theorem shU_perm (d : Array α) (a n b : Nat) (h : a + n < b) (hb : b ≤ d.size) : PermIn a b d (shU d a n) := by
  induction n with
  | zero => exact permIn_refl _ _ _
  | succ n ih =>
    have hs := shU_size d a n
    exact permIn_trans _ _ _ _ _ (ih (by omega)) (swp_permIn _ a b (a + n) (a + n + 1) (by omega) (by omega) (by omega) (by omega) (by omega))
def shD (d : Array α) (m : Nat) : Nat → Array α
  | 0 => d
  | n + 1 => swp (shD d m n) (m - n) (m - n - 1)
theorem shD_size (d : Array α) (m n : Nat) : (shD d m n).size = d.size := by
  induction n with
  | zero => rfl
  | succ n ih => show (swp _ _ _).size = _; rw [size_swp, ih]
theorem shD_get (d : Array α) (m n k : Nat) (hn : n ≤ m) (h : m < d.size) : (shD d m n)[k]! = if m - n < k ∧ k ≤ m then d[k - 1]! else if k = m - n then d[m]! else d[k]! := by
  induction n generalizing k with
  | zero =>
    rw [if_neg (by omega)]
    by_cases e : k = m - 0
    · rw [if_pos e, e]; rfl
    · rw [if_neg e]; rfl
  | succ n ih =>
    show (swp (shD d m n) (m - n) (m - n - 1))[k]! = _
    have hs := shD_size d m n
    by_cases e1 : k = m - n
    · subst e1
      rw [swp_left _ _ _ (by omega) (by omega), ih (m - n - 1) (by omega), if_neg (by omega), if_neg (by omega), if_pos (by omega)]
    · by_cases e2 : k = m - n - 1
      · subst e2
        rw [swp_right _ _ _ (by omega), ih (m - n) (by omega), if_neg (by omega), if_pos (by omega), if_neg (by omega), if_pos (by omega)]
      · rw [swp_other _ _ _ _ e1 e2, ih k (by omega)]
        by_cases c1 : m - n < k ∧ k ≤ m
        · rw [if_pos c1, if_pos (by omega)]
        · rw [if_neg c1, if_neg (by omega), if_neg (by omega), if_neg (by omega)]
theorem shD_perm (d : Array α) (m n a b : Nat) (h : n ≤ m - a) (ha : a ≤ m) (hm : m < b) (hb : b ≤ d.size) : PermIn a b d (shD d m n) := by
  induction n with
  | zero => exact permIn_refl _ _ _
  | succ n ih =>
    have hs := shD_size d m n
    exact permIn_trans _ _ _ _ _ (ih (by omega)) (swp_permIn _ a b (m - n) (m - n - 1) (by omega) (by omega) (by omega) (by omega) (by omega))
end Go.Proofs.Ytaoflcmjmhfblaa.H
