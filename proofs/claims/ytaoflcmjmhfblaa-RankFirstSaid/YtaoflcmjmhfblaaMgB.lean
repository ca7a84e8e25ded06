/- insertionSortCmpFunc the shelf's contract laid (seat r4). -/
import Derived.Test.YtaoflcmjmhfblaaMgA
import Derived.Maps.OwnOps
import Derived.Shelf.SlSortCmp.Insertion1
import Derived.Shelf.SlSortCmp.QuietGrown
import Derived.Sort.Lot0
import Derived.Sort.LotA
import Derived.Sort.WalkA
import Derived.Sort.WalkB2
import Derived.Sort.WalkB12
import Derived.Deep.LoopGhost
namespace Go.Proofs.Ytaoflcmjmhfblaa.H
open Go.RowKit Go.Proofs.YtaoflcmjmhfblaaW.PrintWords Go.Proofs.YtaoflcmjmhfblaaW.PrintLast Go.Proofs.YtaoflcmjmhfblaaW.PrintMore
open Go.Shelf Go.Sort
set_option linter.unusedVariables false
set_option linter.unusedSimpArgs false

def lay20_ren : Go.Shelf.Ren := ⟨fun | 20 => 172 | n => n, fun | 0 => 0 | 3 => 3 | 4 => 4 | 22 => 99 | 24 => 3 | 25 => 183 | n => n, fun | n => n⟩
theorem lay20 : SlLaysF.n20 Try.prog lay20_ren := {
  mixed := by kernel_rfl
  f20 := ⟨Try.f172.name, by decide, Try.func172.trans (congrArg some (by kernel_rfl))⟩
  t0 := Try.underlying0
  a0 := Try.isAgg0
  z0 := Try.sizeOf0
  v0 := Try.zeroValue0
  t3 := Try.underlying3
  a3 := Try.isAgg3
  z3 := Try.sizeOf3
  v3 := Try.zeroValue3
  t4 := Try.underlying4
  a4 := Try.isAgg4
  z4 := Try.sizeOf4
  v4 := Try.zeroValue4
  t22 := Try.underlying99
  a22 := Try.isAgg99
  z22 := Try.sizeOf99
  v22 := Try.zeroValue99
  a24 := Try.isAgg3
  z24 := Try.sizeOf3
  t25 := Try.underlying183
  a25 := Try.isAgg183
  z25 := Try.sizeOf183
  v25 := Try.zeroValue183 }

theorem size_putRow {α : Type} [Inhabited α] (enc : α → Value) (w : World) (m blk off : Nat) (dk : Array α) : (putRow enc (Sort.ahead w m) blk off dk).heap.size = w.heap.size := by
  simp [putRow, mapBlock]
theorem cell_sortWorld {α : Type} [Inhabited α] (enc : α → Value) (w : World) (blk off m : Nat) (dk : Array α) (os : Array Obj) (a : Addr) (h1 : a.block ≠ blk) (h2 : a.block < w.heap.size) :
    (sortWorld enc w blk off m dk os).cell? a = w.cell? a := by
  unfold sortWorld
  rw [cell?_grow _ _ _ (by rw [size_putRow]; exact h2), cell?_putRow_other _ _ _ _ _ _ (.inl h1)]
  rfl
def encF (eV : Nat → Int) (n : Nat) : Fin (n + 1) → Value := fun i => .int .i64 (eV i.val)
end Go.Proofs.Ytaoflcmjmhfblaa.H
/- The plain law of the stable sort's merging: swapRange, rotate, symMerge over arrays. -/
namespace Go.Proofs.Ytaoflcmjmhfblaa.H
open Go.Sort (swp PermIn SWO SortedIn size_swp swp_left swp_right swp_other swp_permIn permIn_refl permIn_trans permIn_all permIn_mono)
set_option linter.unusedVariables false
variable {α : Type}

/-! ### the order -/
structure CfOk (cf : α → α → Int) : Prop where
  neg : ∀ x y, cf y x = -cf x y
  trans : ∀ x y z, cf x y ≤ 0 → cf y z ≤ 0 → cf x z ≤ 0 ∧ (cf x y < 0 → cf x z < 0)
def leR (cf : α → α → Int) (idx : α → Nat) (x y : α) : Prop := cf x y < 0 ∨ (cf x y = 0 ∧ idx x ≤ idx y)
theorem CfOk.trans2 {cf : α → α → Int} (h : CfOk cf) {x y z : α} (h1 : cf x y ≤ 0) (h2 : cf y z < 0) : cf x z < 0 := by
  have n1 := h.neg x y
  have n2 := h.neg y z
  have n3 := h.neg x z
  have h3 := (h.trans x y z h1 (by omega)).1
  rcases Int.lt_or_eq_of_le h3 with g | g
  · exact g
  · have := h.trans z x y (by omega) h1
    omega
theorem leR_trans {cf : α → α → Int} {idx : α → Nat} (h : CfOk cf) {x y z : α} (h1 : leR cf idx x y) (h2 : leR cf idx y z) : leR cf idx x z := by
  rcases h1 with h1 | ⟨h1, i1⟩
  · rcases h2 with h2 | ⟨h2, i2⟩
    · exact .inl ((h.trans x y z (by omega) (by omega)).2 h1)
    · exact .inl ((h.trans x y z (by omega) (by omega)).2 h1)
  · rcases h2 with h2 | ⟨h2, i2⟩
    · exact .inl (h.trans2 (by omega) h2)
    · have a := (h.trans x y z (by omega) (by omega)).1
      have n1 := h.neg x y
      have n2 := h.neg y z
      have n3 := h.neg x z
      have b := (h.trans z y x (by omega) (by omega)).1
      exact .inr ⟨by omega, by omega⟩
theorem leR_le {cf : α → α → Int} {idx : α → Nat} {x y : α} (h : leR cf idx x y) : cf x y ≤ 0 := by
  rcases h with h | ⟨h, _⟩ <;> omega
variable [Inhabited α]
def Srt (cf : α → α → Int) (idx : α → Nat) (a b : Nat) (d : Array α) : Prop := ∀ i j, a ≤ i → i < j → j < b → leR cf idx d[i]! d[j]!
theorem Srt.le {cf : α → α → Int} {idx : α → Nat} (h : CfOk cf) {a b : Nat} {d : Array α} (s : Srt cf idx a b d) {i j : Nat} (hi : a ≤ i) (hij : i ≤ j) (hj : j < b) : leR cf idx d[i]! d[j]! := by
  rcases Nat.lt_or_eq_of_le hij with g | rfl
  · exact s i j hi g hj
  · have := h.neg d[i]! d[i]!
    exact .inr ⟨by omega, Nat.le_refl _⟩

/-! ### swapRange -/
def swR (d : Array α) (a b : Nat) : Nat → Array α
  | 0 => d
  | i + 1 => swp (swR d a b i) (a + i) (b + i)
theorem swR_size (d : Array α) (a b n : Nat) : (swR d a b n).size = d.size := by
  induction n with
  | zero => rfl
  | succ n ih => show (swp _ _ _).size = _; rw [size_swp, ih]
theorem swR_get (d : Array α) (a b n k : Nat) (h1 : a + n ≤ b) (h2 : b + n ≤ d.size) :
    (swR d a b n)[k]! = if a ≤ k ∧ k < a + n then d[k + (b - a)]! else if b ≤ k ∧ k < b + n then d[k - (b - a)]! else d[k]! := by
  induction n generalizing k with
  | zero => rw [if_neg (by omega), if_neg (by omega)]; rfl
  | succ n ih =>
    show (swp (swR d a b n) (a + n) (b + n))[k]! = _
    have hs := swR_size d a b n
    by_cases e1 : k = a + n
    · subst e1
      rw [swp_left _ _ _ (by omega) (by omega), ih (b + n) (by omega) (by omega), if_neg (by omega), if_neg (by omega), if_pos (by omega)]
      congr 1; omega
    · by_cases e2 : k = b + n
      · subst e2
        rw [swp_right _ _ _ (by omega), ih (a + n) (by omega) (by omega), if_neg (by omega), if_neg (by omega), if_neg (by omega), if_pos (by omega)]
        congr 1; omega
      · rw [swp_other _ _ _ _ e1 e2, ih k (by omega) (by omega)]
        by_cases c1 : a ≤ k ∧ k < a + n
        · rw [if_pos c1, if_pos (by omega)]
        · rw [if_neg c1, if_neg (show ¬ (a ≤ k ∧ k < a + (n + 1)) by omega)]
          by_cases c2 : b ≤ k ∧ k < b + n
          · rw [if_pos c2, if_pos (show b ≤ k ∧ k < b + (n + 1) by omega)]
          · rw [if_neg c2, if_neg (show ¬ (b ≤ k ∧ k < b + (n + 1)) by omega)]
theorem swR_perm (d : Array α) (a b n lo hi : Nat) (h0 : lo ≤ a) (h1 : a + n ≤ b) (h2 : b + n ≤ hi) (h3 : hi ≤ d.size) : PermIn lo hi d (swR d a b n) := by
  induction n with
  | zero => exact permIn_refl _ _ _
  | succ n ih =>
    have hs := swR_size d a b n
    exact permIn_trans _ _ _ _ _ (ih (by omega) (by omega)) (swp_permIn _ lo hi (a + n) (b + n) (by omega) (by omega) (by omega) (by omega) (by omega))

/-! ### rotate -/
def rotF (a m b : Nat) (d : Array α) (k : Nat) : α := if k < a ∨ b ≤ k then d[k]! else if k < a + (b - m) then d[k + (m - a)]! else d[k - (b - m)]!
theorem rot_gt (d : Array α) (m i j : Nat) (h1 : j < i) (h0 : 0 < j) (h2 : i ≤ m) (h3 : m + j ≤ d.size) (k : Nat) :
    rotF (m - (i - j)) m (m + j) (swR d (m - i) m j) k = rotF (m - i) m (m + j) d k := by
  have g := fun q => swR_get d (m - i) m j q (by omega) (by omega)
  unfold rotF
  simp only [g]
  by_cases c1 : k < m - i ∨ m + j ≤ k
  · rw [if_pos (by omega), if_neg (by omega), if_neg (by omega), if_pos c1]
  · by_cases c2 : k < m - i + j
    · rw [if_pos (by omega), if_pos (by omega), if_neg c1, if_pos (by omega)]
    · rw [if_neg (by omega), if_neg c1, if_neg (show ¬ k < m - i + (m + j - m) by omega)]
      by_cases c3 : k < m - i + j + j
      · rw [if_pos (by omega), if_neg (by omega), if_pos (by omega)]
        congr 1; omega
      · rw [if_neg (by omega), if_neg (by omega), if_neg (by omega)]
theorem rot_lt (d : Array α) (m i j : Nat) (h1 : i < j) (h0 : 0 < i) (h2 : i ≤ m) (h3 : m + j ≤ d.size) (k : Nat) :
    rotF (m - i) m (m + (j - i)) (swR d (m - i) (m + j - i) i) k = rotF (m - i) m (m + j) d k := by
  have g := fun q => swR_get d (m - i) (m + j - i) i q (by omega) (by omega)
  unfold rotF
  simp only [g]
  by_cases c1 : k < m - i ∨ m + j ≤ k
  · rw [if_pos (by omega), if_neg (by omega), if_neg (by omega), if_pos c1]
  · rw [if_neg c1]
    by_cases c2 : m + (j - i) ≤ k
    · rw [if_pos (by omega), if_neg (by omega), if_pos (by omega), if_neg (by omega)]
      congr 1; omega
    · rw [if_neg (by omega)]
      rw [if_pos (show k < m - i + (m + j - m) by omega)]
      by_cases c3 : k < m - i + (j - i)
      · rw [if_pos (by omega), if_neg (by omega), if_neg (by omega)]
      · rw [if_neg (by omega), if_pos (by omega)]
        congr 1; omega
theorem rot_eq (d : Array α) (m i : Nat) (h2 : i ≤ m) (h3 : m + i ≤ d.size) (k : Nat) : (swR d (m - i) m i)[k]! = rotF (m - i) m (m + i) d k := by
  rw [swR_get d (m - i) m i k (by omega) (by omega)]
  unfold rotF
  by_cases c1 : k < m - i ∨ m + i ≤ k
  · rw [if_neg (by omega), if_neg (by omega), if_pos c1]
  · rw [if_neg c1]
    by_cases c2 : k < m
    · rw [if_pos (by omega), if_pos (by omega)]
    · rw [if_neg (by omega), if_pos (by omega), if_neg (by omega)]
      congr 1; omega
theorem rotF_left (d : Array α) (m b k : Nat) : rotF m m b d k = d[k]! := by
  unfold rotF
  by_cases c1 : k < m ∨ b ≤ k
  · rw [if_pos c1]
  · rw [if_neg c1, if_pos (by omega)]; congr 1; omega
theorem rotF_right (d : Array α) (a m k : Nat) : rotF a m m d k = d[k]! := by
  unfold rotF
  by_cases c1 : k < a ∨ m ≤ k
  · rw [if_pos c1]
  · rw [if_neg c1, if_neg (by omega)]; congr 1; omega
/-- Where rotate's loop stands. -/
structure RotI (a m b : Nat) (d : Array α) (i j : Nat) (dk : Array α) : Prop where
  hi : 0 < i ∧ i ≤ m - a
  hj : 0 < j ∧ j ≤ b - m
  perm : PermIn a b d dk
  rot : ∀ k, rotF (m - i) m (m + j) dk k = rotF a m b d k
def Rotd (a m b : Nat) (d d' : Array α) : Prop := PermIn a b d d' ∧ ∀ k, d'[k]! = rotF a m b d k
theorem RotI.start {a m b : Nat} {d : Array α} (h1 : a < m) (h2 : m < b) : RotI a m b d (m - a) (b - m) d :=
  ⟨⟨by omega, by omega⟩, ⟨by omega, by omega⟩, permIn_refl _ _ _, fun k => by rw [show m - (m - a) = a by omega, show m + (b - m) = b by omega]⟩
theorem RotI.gt {a m b i j : Nat} {d dk : Array α} (h : RotI a m b d i j dk) (hm : a ≤ m ∧ m ≤ b) (hb : b ≤ d.size) (hij : j < i) : RotI a m b d (i - j) j (swR dk (m - i) m j) := by
  have h1 := h.hi
  have h2 := h.hj
  have hs := h.perm.1
  exact ⟨⟨by omega, by omega⟩, h2, permIn_trans _ _ _ _ _ h.perm (swR_perm dk (m - i) m j a b (by omega) (by omega) (by omega) (by omega)), fun k => (rot_gt dk m i j hij (by omega) (by omega) (by omega) k).trans (h.rot k)⟩
theorem RotI.lt {a m b i j : Nat} {d dk : Array α} (h : RotI a m b d i j dk) (hm : a ≤ m ∧ m ≤ b) (hb : b ≤ d.size) (hij : i < j) : RotI a m b d i (j - i) (swR dk (m - i) (m + j - i) i) := by
  have h1 := h.hi
  have h2 := h.hj
  have hs := h.perm.1
  exact ⟨h1, ⟨by omega, by omega⟩, permIn_trans _ _ _ _ _ h.perm (swR_perm dk (m - i) (m + j - i) i a b (by omega) (by omega) (by omega) (by omega)), fun k => (rot_lt dk m i j hij (by omega) (by omega) (by omega) k).trans (h.rot k)⟩
theorem RotI.fin {a m b i : Nat} {d dk : Array α} (h : RotI a m b d i i dk) (hm : a ≤ m ∧ m ≤ b) (hb : b ≤ d.size) : Rotd a m b d (swR dk (m - i) m i) := by
  have h1 := h.hi
  have h2 := h.hj
  have hs := h.perm.1
  exact ⟨permIn_trans _ _ _ _ _ h.perm (swR_perm dk (m - i) m i a b (by omega) (by omega) (by omega) (by omega)), fun k => (rot_eq dk m i (by omega) (by omega) k).trans (h.rot k)⟩

/-! ### one element put in: from the left, from the right -/
def shU (d : Array α) (a : Nat) : Nat → Array α
  | 0 => d
  | n + 1 => swp (shU d a n) (a + n) (a + n + 1)
theorem shU_size (d : Array α) (a n : Nat) : (shU d a n).size = d.size := by
  induction n with
  | zero => rfl
  | succ n ih => show (swp _ _ _).size = _; rw [size_swp, ih]
theorem shU_get (d : Array α) (a n k : Nat) (h : a + n < d.size) : (shU d a n)[k]! = if a ≤ k ∧ k < a + n then d[k + 1]! else if k = a + n then d[a]! else d[k]! := by
  induction n generalizing k with
  | zero =>
    rw [if_neg (by omega)]
    by_cases e : k = a + 0
    · rw [if_pos e, e]; rfl
    · rw [if_neg e]; rfl
  | succ n ih =>
    show (swp (shU d a n) (a + n) (a + n + 1))[k]! = _
    have hs := shU_size d a n
    by_cases e1 : k = a + n
    · subst e1
      rw [swp_left _ _ _ (by omega) (by omega), ih (a + n + 1) (by omega), if_neg (by omega), if_neg (by omega), if_pos (by omega)]
    · by_cases e2 : k = a + n + 1
      · subst e2
        rw [swp_right _ _ _ (by omega), ih (a + n) (by omega), if_neg (by omega), if_pos (by omega), if_neg (by omega), if_pos (by omega)]
      · rw [swp_other _ _ _ _ e1 e2, ih k (by omega)]
        by_cases c1 : a ≤ k ∧ k < a + n
        · rw [if_pos c1, if_pos (by omega)]
        · rw [if_neg c1, if_neg (by omega), if_neg (by omega), if_neg (by omega)]
theorem shU_perm (d : Array α) (a n b : Nat) (h : a + n < b) (hb : b ≤ d.size) : PermIn a b d (shU d a n) := by
  induction n with
  | zero => exact permIn_refl _ _ _
  | succ n ih =>
    have hs := shU_size d a n
    exact permIn_trans _ _ _ _ _ (ih (by omega)) (swp_permIn _ a b (a + n) (a + n + 1) (by omega) (by omega) (by omega) (by omega) (by omega))
def shD (d : Array α) (m : Nat) : Nat → Array α
  | 0 => d
  | n + 1 => swp (shD d m n) (m - n) (m - n - 1)
theorem shD_size (d : Array α) (m n : Nat) : (shD d m n).size = d.size := by
  induction n with
  | zero => rfl
  | succ n ih => show (swp _ _ _).size = _; rw [size_swp, ih]
theorem shD_get (d : Array α) (m n k : Nat) (hn : n ≤ m) (h : m < d.size) : (shD d m n)[k]! = if m - n < k ∧ k ≤ m then d[k - 1]! else if k = m - n then d[m]! else d[k]! := by
  induction n generalizing k with
  | zero =>
    rw [if_neg (by omega)]
    by_cases e : k = m - 0
    · rw [if_pos e, e]; rfl
    · rw [if_neg e]; rfl
  | succ n ih =>
    show (swp (shD d m n) (m - n) (m - n - 1))[k]! = _
    have hs := shD_size d m n
    by_cases e1 : k = m - n
    · subst e1
      rw [swp_left _ _ _ (by omega) (by omega), ih (m - n - 1) (by omega), if_neg (by omega), if_neg (by omega), if_pos (by omega)]
    · by_cases e2 : k = m - n - 1
      · subst e2
        rw [swp_right _ _ _ (by omega), ih (m - n) (by omega), if_neg (by omega), if_pos (by omega), if_neg (by omega), if_pos (by omega)]
      · rw [swp_other _ _ _ _ e1 e2, ih k (by omega)]
        by_cases c1 : m - n < k ∧ k ≤ m
        · rw [if_pos c1, if_pos (by omega)]
        · rw [if_neg c1, if_neg (by omega), if_neg (by omega), if_neg (by omega)]
theorem shD_perm (d : Array α) (m n a b : Nat) (h : n ≤ m - a) (ha : a ≤ m) (hm : m < b) (hb : b ≤ d.size) : PermIn a b d (shD d m n) := by
  induction n with
  | zero => exact permIn_refl _ _ _
  | succ n ih =>
    have hs := shD_size d m n
    exact permIn_trans _ _ _ _ _ (ih (by omega)) (swp_permIn _ a b (m - n) (m - n - 1) (by omega) (by omega) (by omega) (by omega) (by omega))
end Go.Proofs.Ytaoflcmjmhfblaa.H
/- The plain law of symMerge: two sorted parts become one, stable. -/
namespace Go.Proofs.Ytaoflcmjmhfblaa.H
open Go.Sort (swp PermIn SWO SortedIn size_swp swp_left swp_right swp_other swp_permIn permIn_refl permIn_trans permIn_all permIn_mono)
set_option linter.unusedVariables false
variable {α : Type} [Inhabited α]
structure MPre (cf : α → α → Int) (idx : α → Nat) (a m b : Nat) (d : Array α) : Prop where
  am : a < m
  mb : m < b
  size : b ≤ d.size
  left : Srt cf idx a m d
  right : Srt cf idx m b d
  cross : ∀ i j, a ≤ i → i < m → m ≤ j → j < b → idx d[i]! < idx d[j]!
def MPost (cf : α → α → Int) (idx : α → Nat) (a b : Nat) (d d' : Array α) : Prop := PermIn a b d d' ∧ Srt cf idx a b d'

theorem one_left {cf : α → α → Int} {idx : α → Nat} (C : CfOk cf) {a m b s : Nat} {d : Array α} (h : MPre cf idx a m b d) (e : m = a + 1) (h1 : m ≤ s) (h2 : s ≤ b)
    (f1 : s = m ∨ cf d[s - 1]! d[a]! < 0) (f2 : s = b ∨ ¬ cf d[s]! d[a]! < 0) : MPost cf idx a b d (shU d a (s - 1 - a)) := by
  have hs := h.size
  have hmb := h.mb
  refine ⟨shU_perm d a (s - 1 - a) b (by omega) hs, fun i j hi hij hj => ?_⟩
  have g := fun k => shU_get d a (s - 1 - a) k (by omega)
  rw [g i, g j]
  by_cases c1 : j < s - 1
  · rw [if_pos (by omega), if_pos (by omega)]
    exact h.right _ _ (by omega) (by omega) (by omega)
  · by_cases c2 : j = s - 1
    · rw [if_pos (by omega), if_neg (by omega), if_pos (by omega)]
      have q := leR_le (h.right.le C (i := i + 1) (j := s - 1) (by omega) (by omega) (by omega))
      exact .inl (C.trans2 q (f1.resolve_left (by omega)))
    · rw [if_neg (show ¬ (a ≤ j ∧ j < a + (s - 1 - a)) by omega), if_neg (show ¬ j = a + (s - 1 - a) by omega)]
      by_cases c3 : i < s - 1
      · rw [if_pos (by omega)]
        exact h.right _ _ (by omega) (by omega) (by omega)
      · rw [if_neg (by omega)]
        by_cases c4 : i = s - 1
        · rw [if_pos (by omega)]
          have q := f2.resolve_left (by omega)
          have n := C.neg d[s]! d[a]!
          have x := h.cross a s (by omega) (by omega) (by omega) (by omega)
          have l1 : leR cf idx d[a]! d[s]! := by
            rcases Int.lt_or_eq_of_le (show cf d[a]! d[s]! ≤ 0 by omega) with g | g
            · exact .inl g
            · exact .inr ⟨g, by omega⟩
          exact leR_trans C l1 (h.right.le C (by omega) (by omega) hj)
        · rw [if_neg (by omega)]
          exact h.right _ _ (by omega) (by omega) (by omega)
theorem one_right {cf : α → α → Int} {idx : α → Nat} (C : CfOk cf) {a m b s : Nat} {d : Array α} (h : MPre cf idx a m b d) (e : b = m + 1) (h1 : a ≤ s) (h2 : s ≤ m)
    (f1 : s = a ∨ ¬ cf d[m]! d[s - 1]! < 0) (f2 : s = m ∨ cf d[m]! d[s]! < 0) : MPost cf idx a b d (shD d m (m - s)) := by
  have hs := h.size
  have hmb := h.mb
  have ham := h.am
  refine ⟨shD_perm d m (m - s) a b (by omega) (by omega) (by omega) hs, fun i j hi hij hj => ?_⟩
  have g := fun k => shD_get d m (m - s) k (by omega) (by omega)
  rw [g i, g j]
  by_cases c1 : j < s
  · rw [if_neg (by omega), if_neg (by omega), if_neg (by omega), if_neg (by omega)]
    exact h.left _ _ (by omega) (by omega) (by omega)
  · by_cases c2 : j = s
    · rw [if_neg (by omega), if_neg (by omega), if_neg (by omega), if_pos (by omega)]
      have q := f1.resolve_left (by omega)
      have n := C.neg d[m]! d[s - 1]!
      have x := h.cross (s - 1) m (by omega) (by omega) (by omega) (by omega)
      have l1 : leR cf idx d[s - 1]! d[m]! := by
        rcases Int.lt_or_eq_of_le (show cf d[s - 1]! d[m]! ≤ 0 by omega) with g | g
        · exact .inl g
        · exact .inr ⟨g, by omega⟩
      exact leR_trans C (h.left.le C (by omega) (by omega) (by omega)) l1
    · rw [if_pos (show m - (m - s) < j ∧ j ≤ m by omega)]
      by_cases c3 : i < s
      · rw [if_neg (by omega), if_neg (by omega)]
        exact h.left _ _ (by omega) (by omega) (by omega)
      · by_cases c4 : i = s
        · rw [if_neg (by omega), if_pos (by omega)]
          have q := f2.resolve_left (by omega)
          have l := leR_le (h.left.le C (i := s) (j := j - 1) (by omega) (by omega) (by omega))
          exact .inl ((C.trans _ _ _ (by omega) l).2 q)
        · rw [if_pos (by omega)]
          exact h.left _ _ (by omega) (by omega) (by omega)

/-- What is known behind the turn about the middle. -/
structure SymI (cf : α → α → Int) (idx : α → Nat) (a mid b s e : Nat) (d d1 : Array α) : Prop where
  o1 : a ≤ s ∧ s ≤ mid
  o2 : mid ≤ e ∧ e ≤ b
  size : b ≤ d.size
  perm : PermIn a b d d1
  s1 : Srt cf idx a s d1
  s2 : Srt cf idx s mid d1
  s3 : Srt cf idx mid e d1
  s4 : Srt cf idx e b d1
  x1 : ∀ i j, a ≤ i → i < s → s ≤ j → j < mid → idx d1[i]! < idx d1[j]!
  x2 : ∀ i j, mid ≤ i → i < e → e ≤ j → j < b → idx d1[i]! < idx d1[j]!
  low : ∀ i j, a ≤ i → i < mid → mid ≤ j → j < b → leR cf idx d1[i]! d1[j]!

theorem SymI.of {cf : α → α → Int} {idx : α → Nat} (C : CfOk cf) {a m b s mid e s0 r0 : Nat} {d d1 : Array α} (h : MPre cf idx a m b d) (hmid : mid = (a + b) / 2) (he : e = mid + m - s)
    (h0 : (mid < m ∧ s0 = mid + m - b ∧ r0 = mid) ∨ (m ≤ mid ∧ s0 = a ∧ r0 = m)) (hs0 : s0 ≤ s) (hr0 : s ≤ r0)
    (f1 : s = s0 ∨ ¬ cf d[e]! d[s - 1]! < 0) (f2 : s = r0 ∨ cf d[e - 1]! d[s]! < 0) (hp : PermIn a b d d1) (hr : ∀ k, d1[k]! = rotF s m e d k) : SymI cf idx a mid b s e d d1 := by
  have am := h.am
  have mb := h.mb
  have hsz := h.size
  have b1 : a ≤ s := by omega
  have b2 : s ≤ mid := by omega
  have b3 : mid ≤ e := by omega
  have b4 : e ≤ b := by omega
  have b5 : s ≤ m := by omega
  have b6 : m ≤ e := by omega
  have g1 : ∀ k, a ≤ k → k < s → d1[k]! = d[k]! := fun k k1 k2 => by rw [hr]; unfold rotF; rw [if_pos (by omega)]
  have g2 : ∀ k, s ≤ k → k < mid → d1[k]! = d[k + (m - s)]! := fun k k1 k2 => by rw [hr]; unfold rotF; rw [if_neg (by omega), if_pos (by omega)]
  have g3 : ∀ k, mid ≤ k → k < e → d1[k]! = d[k - (e - m)]! := fun k k1 k2 => by rw [hr]; unfold rotF; rw [if_neg (by omega), if_neg (by omega)]
  have g4 : ∀ k, e ≤ k → k < b → d1[k]! = d[k]! := fun k k1 k2 => by rw [hr]; unfold rotF; rw [if_pos (by omega)]
  -- the left part's first half is not behind the right part's second half
  have L1 : ∀ i j, a ≤ i → i < s → e ≤ j → j < b → leR cf idx d[i]! d[j]! := fun i j i1 i2 j1 j2 => by
    have q := f1.resolve_left (by omega)
    have n := C.neg d[e]! d[s - 1]!
    have x := h.cross (s - 1) e (by omega) (by omega) (by omega) (by omega)
    have l : leR cf idx d[s - 1]! d[e]! := by
      rcases Int.lt_or_eq_of_le (show cf d[s - 1]! d[e]! ≤ 0 by omega) with g | g
      · exact .inl g
      · exact .inr ⟨g, by omega⟩
    exact leR_trans C (leR_trans C (h.left.le C i1 (by omega) (by omega)) l) (h.right.le C (by omega) j1 j2)
  have L2 : ∀ i j, m ≤ i → i < e → s ≤ j → j < m → leR cf idx d[i]! d[j]! := fun i j i1 i2 j1 j2 => by
    have q := f2.resolve_left (by omega)
    exact leR_trans C (leR_trans C (h.right.le C i1 (by omega) (by omega)) (.inl q)) (h.left.le C (by omega) j1 j2)
  refine ⟨⟨b1, b2⟩, ⟨b3, b4⟩, hsz, hp, fun i j i1 ij j2 => ?_, fun i j i1 ij j2 => ?_, fun i j i1 ij j2 => ?_, fun i j i1 ij j2 => ?_, fun i j i1 i2 j1 j2 => ?_, fun i j i1 i2 j1 j2 => ?_, fun i j i1 i2 j1 j2 => ?_⟩
  · rw [g1 i (by omega) (by omega), g1 j (by omega) (by omega)]; exact h.left _ _ (by omega) (by omega) (by omega)
  · rw [g2 i (by omega) (by omega), g2 j (by omega) (by omega)]; exact h.right _ _ (by omega) (by omega) (by omega)
  · rw [g3 i (by omega) (by omega), g3 j (by omega) (by omega)]; exact h.left _ _ (by omega) (by omega) (by omega)
  · rw [g4 i (by omega) (by omega), g4 j (by omega) (by omega)]; exact h.right _ _ (by omega) (by omega) (by omega)
  · rw [g1 i (by omega) (by omega), g2 j (by omega) (by omega)]; exact h.cross _ _ (by omega) (by omega) (by omega) (by omega)
  · rw [g3 i (by omega) (by omega), g4 j (by omega) (by omega)]; exact h.cross _ _ (by omega) (by omega) (by omega) (by omega)
  · by_cases c1 : i < s
    · rw [g1 i (by omega) (by omega)]
      by_cases c2 : j < e
      · rw [g3 j (by omega) (by omega)]; exact h.left.le C (by omega) (by omega) (by omega)
      · rw [g4 j (by omega) (by omega)]; exact L1 _ _ (by omega) (by omega) (by omega) (by omega)
    · rw [g2 i (by omega) (by omega)]
      by_cases c2 : j < e
      · rw [g3 j (by omega) (by omega)]; exact L2 _ _ (by omega) (by omega) (by omega) (by omega)
      · rw [g4 j (by omega) (by omega)]; exact h.right.le C (by omega) (by omega) (by omega)
theorem SymI.pre1 {cf : α → α → Int} {idx : α → Nat} {a mid b s e : Nat} {d d1 : Array α} (h : SymI cf idx a mid b s e d d1) (h1 : a < s) (h2 : s < mid) : MPre cf idx a s mid d1 :=
  ⟨h1, h2, by have := h.perm.1; have := h.size; have := h.o2; omega, h.s1, h.s2, h.x1⟩
/-- .. behind the first half's merging. -/
theorem SymI.half {cf : α → α → Int} {idx : α → Nat} {a mid b s e : Nat} {d d1 : Array α} (h : SymI cf idx a mid b s e d d1) (hn : ¬ (a < s ∧ s < mid)) : MPost cf idx a mid d1 d1 := by
  refine ⟨permIn_refl _ _ _, ?_⟩
  have := h.o1
  by_cases c : a < s
  · have : s = mid := by omega
    rw [← this]; exact h.s1
  · have : s = a := by omega
    rw [← this]; exact h.s2
theorem SymI.pre2 {cf : α → α → Int} {idx : α → Nat} {a mid b s e : Nat} {d d1 d2 : Array α} (h : SymI cf idx a mid b s e d d1) (p : MPost cf idx a mid d1 d2) (h1 : mid < e) (h2 : e < b) : MPre cf idx mid e b d2 := by
  have o := p.1.2.1
  have g : ∀ k, mid ≤ k → d2[k]! = d1[k]! := fun k hk => o k (Or.inr hk)
  refine ⟨h1, h2, by have := h.perm.1; have := p.1.1; have := h.size; omega, fun i j i1 ij j2 => ?_, fun i j i1 ij j2 => ?_, fun i j i1 i2 j1 j2 => ?_⟩
  · rw [g i (by omega), g j (by omega)]; exact h.s3 _ _ i1 ij j2
  · rw [g i (by omega), g j (by omega)]; exact h.s4 _ _ i1 ij j2
  · rw [g i (by omega), g j (by omega)]; exact h.x2 _ _ i1 i2 j1 j2
theorem SymI.half2 {cf : α → α → Int} {idx : α → Nat} {a mid b s e : Nat} {d d1 d2 : Array α} (h : SymI cf idx a mid b s e d d1) (p : MPost cf idx a mid d1 d2) (hn : ¬ (mid < e ∧ e < b)) : MPost cf idx mid b d2 d2 := by
  have o := p.1.2.1
  have g : ∀ k, mid ≤ k → d2[k]! = d1[k]! := fun k hk => o k (Or.inr hk)
  have := h.o2
  refine ⟨permIn_refl _ _ _, fun i j i1 ij j2 => ?_⟩
  rw [g i (by omega), g j (by omega)]
  by_cases c : mid < e
  · have e1 : e = b := by omega
    exact h.s3 _ _ i1 ij (by omega)
  · exact h.s4 _ _ (by omega) ij j2
theorem SymI.fin {cf : α → α → Int} {idx : α → Nat} {a mid b s e : Nat} {d d1 d2 d3 : Array α} (h : SymI cf idx a mid b s e d d1) (p : MPost cf idx a mid d1 d2) (q : MPost cf idx mid b d2 d3) : MPost cf idx a b d d3 := by
  have o1 := h.o1
  have o2 := h.o2
  have hz := h.size
  have z1 := h.perm.1
  have z2 := p.1.1
  have z3 := q.1.1
  refine ⟨permIn_trans _ _ _ _ _ h.perm (permIn_trans _ _ _ _ _ (permIn_mono _ _ a mid a b (Nat.le_refl _) (by omega) (by omega) p.1) (permIn_mono _ _ mid b a b (by omega) (Nat.le_refl _) (by omega) q.1)), fun i j i1 ij j2 => ?_⟩
  have oq := q.1.2.1
  have op := p.1.2.1
  by_cases c1 : j < mid
  · rw [oq i (Or.inl (by omega)), oq j (Or.inl c1)]
    exact p.2 _ _ i1 ij c1
  · by_cases c2 : mid ≤ i
    · exact q.2 _ _ c2 ij j2
    · rw [oq i (Or.inl (by omega))]
      have A : ∀ i, a ≤ i → i < mid → ∀ j, mid ≤ j → j < b → leR cf idx d2[i]! d2[j]! :=
        permIn_all d1 d2 a mid (fun x => ∀ j, mid ≤ j → j < b → leR cf idx x d2[j]!) (by omega) p.1 (fun i i1 i2 j j1 j2 => by rw [op j (Or.inr j1)]; exact h.low i j i1 i2 j1 j2)
      exact permIn_all d2 d3 mid b (fun y => leR cf idx d2[i]! y) (by omega) q.1 (fun j j1 j2 => A i i1 (by omega) j j1 j2) j (by omega) j2
end Go.Proofs.Ytaoflcmjmhfblaa.H
/- The walks of swapRange and rotate. -/
namespace Go.Proofs.Ytaoflcmjmhfblaa.H
variable {eV : Nat → Int}
open Go.RowKit Go.Proofs.YtaoflcmjmhfblaaW.PrintWords Go.Proofs.YtaoflcmjmhfblaaW.PrintLast Go.Proofs.YtaoflcmjmhfblaaW.PrintMore
open Go.Shelf Go.Sort
set_option linter.unusedVariables false
set_option linter.unusedSimpArgs false

set_option maxHeartbeats 4000000 in
set_option maxRecDepth 1000000 in
theorem swapRange_calls (n g blk cap a b m : Nat) (cb : Array Value) (d0 d : Array (Fin (n + 1))) (w0 w : World)
    (R : Row1 (encF eV n) w0 blk 0 d0) (hs : d0.size = d.size) (S : SW (encF eV n) w0 blk 0 d w) (h1 : a + m ≤ b) (h2 : b + m ≤ d.size) (hsz : d.size < 4611686018427387904) :
    Calls Try.prog 177 #[.slice (some ⟨blk, 0, none⟩) d.size cap, .int .i64 a, .int .i64 b, .int .i64 m, .func (.func g) #[] cb] w fun e w' => e = .returned (.tuple #[]) ∧ SW (encF eV n) w0 blk 0 (swR d a b m) w' := by
  have mixed : Try.prog.follows .mixedOrders = true := by kernel_rfl
  have S0 : Aside (SW (encF eV n) w0 blk 0 d w) := S
  clear S
  go_enter Try.func177, Try.ntmps177
  go_wp2
  go_loopg [10] m (fun kx s10 wr => ∃ (i : Nat) (dk : Array (Fin (n + 1))), s10 = .int .i64 i ∧ i ≤ m ∧ m - i ≤ kx ∧ dk.size = d.size ∧ Aside (SW (encF eV n) w0 blk 0 dk wr) ∧ Hid (dk = swR d a b i))
  case atStart => exact ⟨0, d, rfl, by omega, by omega, rfl, S0, Lib.hid rfl⟩
  case round =>
    clear S0
    obtain ⟨i, dk, rfl, hi, hkx, hds, S1, HD⟩ := hrel
    by_cases hlt : i < m
    · obtain ⟨iN, hiN⟩ : ∃ q, q = a + i := ⟨_, rfl⟩
      obtain ⟨jN, hjN⟩ : ∃ q, q = b + i := ⟨_, rfl⟩
      have ea : ((a : Int) + (i : Int)).toNat = iN := by omega
      have pa : (0 : Int) ≤ (a : Int) + (i : Int) := by omega
      have ba : (a : Int) + (i : Int) < (d.size : Int) := by omega
      have ra : IntKind.i64.wrap ((a : Int) + (i : Int)) = (a : Int) + (i : Int) := by rw [IntKind.wrap_i64]; omega
      have ec : ((b : Int) + (i : Int)).toNat = jN := by omega
      have pc : (0 : Int) ≤ (b : Int) + (i : Int) := by omega
      have bc : (b : Int) + (i : Int) < (d.size : Int) := by omega
      have rc : IntKind.i64.wrap ((b : Int) + (i : Int)) = (b : Int) + (i : Int) := by rw [IntKind.wrap_i64]; omega
      obtain ⟨x, hx⟩ : ∃ x, x = dk[iN]! := ⟨_, rfl⟩
      obtain ⟨y, hy⟩ : ∃ x, x = dk[jN]! := ⟨_, rfl⟩
      have S2 : Aside (SW (encF eV n) w0 blk 0 (swp dk iN jN) ((wr.setCell ⟨blk, 0 + iN, none⟩ (encF eV n y)).setCell ⟨blk, 0 + jN, none⟩ (encF eV n x)).drew) := by rw [hx, hy]; exact S1.out.swapped R iN jN (by omega) (by omega)
      have ca := S1.out.c1 R (by omega) iN (by omega)
      have cb' := S1.out.c1 R (by omega) jN (by omega)
      have fa := S1.out.f1 R (by omega) iN (by omega)
      have fb := S1.out.f1 R (by omega) jN (by omega)
      obtain ⟨u, cc⟩ := S1.out.c2 R (by omega) iN jN (by omega) (by omega) (encF eV n y)
      rw [← hx] at ca
      rw [← hy] at cb'
      have zx : encF eV n x = .int .i64 (eV x.val) := rfl
      have zy : encF eV n y = .int .i64 (eV y.val) := rfl
      rw [zx] at ca S2
      rw [zy] at cb' cc S2
      rw [Nat.zero_add] at ca cb' fa fb cc
      rw [Nat.zero_add] at cc
      rw [Nat.zero_add, Nat.zero_add] at S2
      have HX : Hid (iN = a + i ∧ jN = b + i) := Lib.hid ⟨hiN, hjN⟩
      clear S1 hx hy hiN hjN zx zy
      go_wp2_with fail
      go_big_region_o
      clear ca cb' cc fa fb
      generalize ((wr.setCell { block := blk, off := iN } (Value.int .i64 (eV y.val))).setCell { block := blk, off := jN } (Value.int .i64 (eV x.val))).drew = w2 at S2 ⊢
      clear ea ec
      go_wp2
      go_roundg (m - (i + 1))
      case measure => omega
      case rel =>
        have hD := HD.out
        obtain ⟨e1, e2⟩ := HX.out
        subst e1 e2
        exact ⟨i + 1, swp dk (a + i) (b + i), by go_num, by omega, Nat.le_refl _, by rw [size_swp]; exact hds, S2, Lib.hid (by rw [hD]; rfl)⟩
    · have hie : i = m := by omega
      subst hie
      go_wp2
      go_end0
      have := HD.out
      exact ⟨rfl, by rw [← this]; exact S1.out⟩
set_option maxHeartbeats 4000000 in
set_option maxRecDepth 1000000 in
theorem rotate_calls (n g blk cap a m b : Nat) (cb : Array Value) (d0 d : Array (Fin (n + 1))) (w0 w : World)
    (R : Row1 (encF eV n) w0 blk 0 d0) (hs : d0.size = d.size) (S : SW (encF eV n) w0 blk 0 d w) (h1 : a < m) (h2 : m < b) (h3 : b ≤ d.size) (hsz : d.size < 4611686018427387904) :
    Calls Try.prog 175 #[.slice (some ⟨blk, 0, none⟩) d.size cap, .int .i64 a, .int .i64 m, .int .i64 b, .func (.func g) #[] cb] w fun e w' => e = .returned (.tuple #[]) ∧ ∃ d', Rotd a m b d d' ∧ SW (encF eV n) w0 blk 0 d' w' := by
  have S0 : Aside (SW (encF eV n) w0 blk 0 d w) := S
  clear S
  go_enter Try.func175, Try.ntmps175
  go_wp2
  go_loopg [10, 11] (b - a) (fun kx s10 s11 wr => ∃ (i j : Nat) (dk : Array (Fin (n + 1))), s10 = .int .i64 i ∧ s11 = .int .i64 j ∧ i + j ≤ kx ∧ 0 < i ∧ 0 < j ∧ i ≤ m - a ∧ j ≤ b - m ∧ dk.size = d.size ∧ Aside (SW (encF eV n) w0 blk 0 dk wr) ∧ Hid (RotI a m b d i j dk))
  case atStart => exact ⟨m - a, b - m, d, by go_num, by go_num, by omega, by omega, by omega, by omega, by omega, rfl, S0, Lib.hid (RotI.start h1 h2)⟩
  case round =>
    clear S0
    obtain ⟨i, j, dk, rfl, rfl, hkx, hi, hj, hi2, hj2, hds, S1, HD⟩ := hrel
    have hds2 : d0.size = dk.size := by omega
    rcases Nat.lt_trichotomy i j with hij | hij | hij
    · have K := Lib.hid (swapRange_calls n g blk cap (m - i) (m + j - i) i cb d0 dk w0 wr R hds2 S1.out (by omega) (by omega) (by omega))
      have z1 : ((m - i : Nat) : Int) = (m : Int) - (i : Int) := by omega
      have z2 : ((m + j - i : Nat) : Int) = (m : Int) + (j : Int) - (i : Int) := by omega
      rw [z1, z2, hds] at K
      clear z1 z2 S1
      go_wp2_with (first | (go_at_call 177; refine K.out.mono ?_; rintro e w2 ⟨rfl, hw2⟩; have S2 : Aside _ := hw2; clear hw2))
      go_roundg (j)
      case measure => omega
      case rel => exact ⟨i, j - i, _, rfl, by go_num, by omega, hi, by omega, hi2, by omega, by rw [swR_size]; exact hds, S2, Lib.hid (HD.out.lt ⟨by omega, by omega⟩ h3 hij)⟩
    · subst hij
      have K := Lib.hid (swapRange_calls n g blk cap (m - i) m i cb d0 dk w0 wr R hds2 S1.out (by omega) (by omega) (by omega))
      have z1 : ((m - i : Nat) : Int) = (m : Int) - (i : Int) := by omega
      rw [z1, hds] at K
      clear z1 S1
      go_wp2_with (first | (go_at_call 177; refine K.out.mono ?_; rintro e w2 ⟨rfl, hw2⟩; have S2 : Aside _ := hw2; clear hw2))
      go_end0
      exact ⟨rfl, _, HD.out.fin ⟨by omega, by omega⟩ h3, S2.out⟩
    · have K := Lib.hid (swapRange_calls n g blk cap (m - i) m j cb d0 dk w0 wr R hds2 S1.out (by omega) (by omega) (by omega))
      have z1 : ((m - i : Nat) : Int) = (m : Int) - (i : Int) := by omega
      rw [z1, hds] at K
      clear z1 S1
      go_wp2_with (first | (go_at_call 177; refine K.out.mono ?_; rintro e w2 ⟨rfl, hw2⟩; have S2 : Aside _ := hw2; clear hw2))
      go_roundg (i)
      case measure => omega
      case rel => exact ⟨i - j, j, _, by go_num, rfl, by omega, by omega, hj, by omega, hj2, by rw [swR_size]; exact hds, S2, Lib.hid (HD.out.gt ⟨by omega, by omega⟩ h3 hij)⟩
end Go.Proofs.Ytaoflcmjmhfblaa.H
/- The walk of symMerge where the left part is one element. -/
namespace Go.Proofs.Ytaoflcmjmhfblaa.H
variable {eV : Nat → Int}
open Go.RowKit Go.Proofs.YtaoflcmjmhfblaaW.PrintWords Go.Proofs.YtaoflcmjmhfblaaW.PrintLast Go.Proofs.YtaoflcmjmhfblaaW.PrintMore
open Go.Shelf Go.Sort
set_option linter.unusedVariables false
set_option linter.unusedSimpArgs false

set_option maxHeartbeats 4000000 in
set_option maxRecDepth 1000000 in
theorem symL_calls (n g blk cap a m b : Nat) (cb : Array Value) (cf : Fin (n + 1) → Fin (n + 1) → Int) (idx : Fin (n + 1) → Nat) (C : CfOk cf) (d0 d : Array (Fin (n + 1))) (w0 w : World)
    (eg : ∀ args w, (callFunc g args).run Try.prog w = .ok (.enter g args) w) (hcmp : CmpLays1 Try.prog g cb (encF eV n) cf blk 0 d0.size w0)
    (R : Row1 (encF eV n) w0 blk 0 d0) (hs : d0.size = d.size) (S : SW (encF eV n) w0 blk 0 d w) (hsz : d.size < 4611686018427387904) (M : MPre cf idx a m b d) (h1 : m = a + 1) :
    Calls Try.prog 173 #[.slice (some ⟨blk, 0, none⟩) d.size cap, .int .i64 a, .int .i64 m, .int .i64 b, .func (.func g) #[] cb] w fun e w' => e = .returned (.tuple #[]) ∧ ∃ d', MPost cf idx a b d d' ∧ SW (encF eV n) w0 blk 0 d' w' := by
  have mixed : Try.prog.follows .mixedOrders = true := by kernel_rfl
  have HC : Aside _ := hcmp
  have S0 : Aside (SW (encF eV n) w0 blk 0 d w) := S
  have b1 := M.am
  have b2 := M.mb
  have b3 := M.size
  have HM := Lib.hid M
  clear S hcmp M
  have hm1 : ((m : Int) - (a : Int) == 1) = true := by rw [show (m : Int) - (a : Int) = 1 by omega]; rfl
  have HE := Lib.hid h1
  clear h1
  go_enter Try.func173, Try.ntmps173
  go_wp2
  go_loopg [10, 11] (b - m) (fun kx s10 s11 wr => ∃ (i j : Nat), s10 = .int .i64 i ∧ s11 = .int .i64 j ∧ m ≤ i ∧ i ≤ j ∧ j ≤ b ∧ j - i ≤ kx ∧ Aside (SW (encF eV n) w0 blk 0 d wr) ∧ Hid (i = m ∨ cf d[i - 1]! d[a]! < 0) ∧ Hid (j = b ∨ ¬ cf d[j]! d[a]! < 0))
  case atStart => exact ⟨m, b, rfl, rfl, by omega, by omega, by omega, by omega, S0, Lib.hid (.inl rfl), Lib.hid (.inl rfl)⟩
  case round =>
    clear S0
    obtain ⟨i, j, rfl, rfl, hi1, hij, hjb, hkx, S1, F1, F2⟩ := hrel
    by_cases hlt : i < j
    · obtain ⟨h, hh⟩ : ∃ h, h = (i + j) / 2 := ⟨_, rfl⟩
      have ea : (((i : Int) + (j : Int)) / 2).toNat = h := by omega
      have pa : (0 : Int) ≤ ((i : Int) + (j : Int)) / 2 := by omega
      have ba : ((i : Int) + (j : Int)) / 2 < (d.size : Int) := by omega
      have ra : IntKind.i64.wrap (((i : Int) + (j : Int)) / 2) = ((i : Int) + (j : Int)) / 2 := by rw [IntKind.wrap_i64]; omega
      obtain ⟨aN, haN⟩ : ∃ q, q = a := ⟨_, rfl⟩
      have ec : ((a : Int)).toNat = aN := by omega
      have pc : (0 : Int) ≤ (a : Int) := by omega
      have bc : (a : Int) < (d.size : Int) := by omega
      have rc : IntKind.i64.wrap (a : Int) = (a : Int) := by rw [IntKind.wrap_i64]; omega
      obtain ⟨x, hx⟩ : ∃ x, x = d[h]! := ⟨_, rfl⟩
      obtain ⟨y, hy⟩ : ∃ x, x = d[a]! := ⟨_, rfl⟩
      have la := S1.out.cl R hs.symm h (by omega)
      have lb := S1.out.cl R hs.symm a (by omega)
      rw [← haN] at lb hy
      rw [← hx] at la
      rw [← hy] at lb
      rw [Nat.zero_add] at la lb
      have hc := S1.out.cmp HC.out hs.symm x y
      have zx : encF eV n x = .int .i64 (eV x.val) := rfl
      have zy : encF eV n y = .int .i64 (eV y.val) := rfl
      rw [zx] at la
      rw [zy] at lb
      simp only [zx, zy] at hc
      have HXY : Hid (x = d[h]! ∧ y = d[a]! ∧ h = (i + j) / 2) := Lib.hid ⟨hx, by rw [hy, haN], hh⟩
      by_cases hq : cf x y < 0
      · have hd1 : decide (cf x y < 0) = true := decide_eq_true hq
        clear hx hy zx zy hh haN
        go_wp2_with fail
        go_quiet_grown (first | (go_at_fn g; refine Calls.grown_of (hc _ _)))
        have S2 : Aside (SW (encF eV n) w0 blk 0 d (grow (wr.drewN nq) osq)) := S1.out.grown nq osq
        clear la lb hc S1
        generalize grow (wr.drewN nq) osq = w2 at S2 ⊢
        clear nq osq
        clear ea ec
        go_wp2
        obtain ⟨e1, e2, e3⟩ := HXY.out
        go_roundg (j - (h + 1))
        case measure => omega
        case rel => exact ⟨h + 1, j, by go_num, rfl, by omega, by omega, hjb, Nat.le_refl _, S2, Lib.hid (.inr (by rw [Nat.add_sub_cancel, ← e1, ← e2]; exact hq)), F2⟩
      · have hd1 : decide (cf x y < 0) = false := decide_eq_false hq
        clear hx hy zx zy hh haN
        go_wp2_with fail
        go_quiet_grown (first | (go_at_fn g; refine Calls.grown_of (hc _ _)))
        have S2 : Aside (SW (encF eV n) w0 blk 0 d (grow (wr.drewN nq) osq)) := S1.out.grown nq osq
        clear la lb hc S1
        generalize grow (wr.drewN nq) osq = w2 at S2 ⊢
        clear nq osq
        clear ea ec
        go_wp2
        obtain ⟨e1, e2, e3⟩ := HXY.out
        go_roundg (h - i)
        case measure => omega
        case rel => exact ⟨i, h, rfl, by go_num, by omega, by omega, by omega, Nat.le_refl _, S2, F1, Lib.hid (.inr (by rw [← e1, ← e2]; exact hq))⟩
    · have hje : i = j := by omega
      subst hje
      have f1 := F1.out
      have f2 := F2.out
      have P := Lib.hid (one_left C HM.out HE.out hi1 hjb f1 f2)
      clear f1 f2 F1 F2 HC
      go_wp2
      go_loopg [13] (i - 1 - a) (fun kx s13 wq => ∃ (k : Nat) (dk : Array (Fin (n + 1))), s13 = .int .i64 k ∧ a ≤ k ∧ k ≤ i - 1 ∧ i - 1 - k ≤ kx ∧ dk.size = d.size ∧ Aside (SW (encF eV n) w0 blk 0 dk wq) ∧ Hid (dk = shU d a (k - a)))
      case atStart => exact ⟨a, d, rfl, by omega, by omega, by omega, rfl, S1, Lib.hid (by rw [Nat.sub_self]; rfl)⟩
      case round =>
        clear S1
        obtain ⟨k, dk, rfl, hk1, hk2, hkx2, hds, S1, HD⟩ := hrel
        by_cases hlt2 : k < i - 1
        · obtain ⟨iN, hiN⟩ : ∃ q, q = k := ⟨_, rfl⟩
          obtain ⟨jN, hjN⟩ : ∃ q, q = k + 1 := ⟨_, rfl⟩
          have ea : ((k : Int)).toNat = iN := by omega
          have pa : (0 : Int) ≤ (k : Int) := by omega
          have ba : (k : Int) < (d.size : Int) := by omega
          have ra : IntKind.i64.wrap (k : Int) = (k : Int) := by rw [IntKind.wrap_i64]; omega
          have ec : ((k : Int) + 1).toNat = jN := by omega
          have pc : (0 : Int) ≤ (k : Int) + 1 := by omega
          have bc : (k : Int) + 1 < (d.size : Int) := by omega
          have rc : IntKind.i64.wrap ((k : Int) + 1) = (k : Int) + 1 := by rw [IntKind.wrap_i64]; omega
          obtain ⟨x, hx⟩ : ∃ x, x = dk[iN]! := ⟨_, rfl⟩
          obtain ⟨y, hy⟩ : ∃ x, x = dk[jN]! := ⟨_, rfl⟩
          have S2 : Aside (SW (encF eV n) w0 blk 0 (swp dk iN jN) ((wr.setCell ⟨blk, 0 + iN, none⟩ (encF eV n y)).setCell ⟨blk, 0 + jN, none⟩ (encF eV n x)).drew) := by rw [hx, hy]; exact S1.out.swapped R iN jN (by omega) (by omega)
          have ca := S1.out.c1 R (by omega) iN (by omega)
          have cb' := S1.out.c1 R (by omega) jN (by omega)
          have fa := S1.out.f1 R (by omega) iN (by omega)
          have fb := S1.out.f1 R (by omega) jN (by omega)
          obtain ⟨u, cc⟩ := S1.out.c2 R (by omega) iN jN (by omega) (by omega) (encF eV n y)
          rw [← hx] at ca
          rw [← hy] at cb'
          have zx : encF eV n x = .int .i64 (eV x.val) := rfl
          have zy : encF eV n y = .int .i64 (eV y.val) := rfl
          rw [zx] at ca S2
          rw [zy] at cb' cc S2
          rw [Nat.zero_add] at ca cb' fa fb cc
          rw [Nat.zero_add] at cc
          rw [Nat.zero_add, Nat.zero_add] at S2
          have HX : Hid (iN = k ∧ jN = k + 1) := Lib.hid ⟨hiN, hjN⟩
          clear S1 hx hy hiN hjN zx zy
          go_wp2_with fail
          go_big_region_o
          clear ca cb' cc fa fb
          generalize ((wr.setCell { block := blk, off := iN } (Value.int .i64 (eV y.val))).setCell { block := blk, off := jN } (Value.int .i64 (eV x.val))).drew = w2 at S2 ⊢
          clear ea ec
          go_wp2
          go_roundg (i - 1 - (k + 1))
          case measure => omega
          case rel =>
            have hD := HD.out
            obtain ⟨e1, e2⟩ := HX.out
            subst e1 e2
            exact ⟨iN + 1, swp dk iN (iN + 1), by go_num, by omega, by omega, Nat.le_refl _, by rw [size_swp]; exact hds, S2, Lib.hid (by
              rw [hD, show iN + 1 - a = (iN - a) + 1 by omega]
              show _ = swp (shU d a (iN - a)) (a + (iN - a)) (a + (iN - a) + 1)
              rw [show a + (iN - a) = iN by omega])⟩
        · have hie : k = i - 1 := by omega
          go_wp2
          refine bodyPost_ret (results_none rfl _ _ _) rfl ?_
          have hD := HD.out
          exact ⟨rfl, dk, by rw [hD, hie]; exact P.out, S1.out⟩
end Go.Proofs.Ytaoflcmjmhfblaa.H
/- The walk of symMerge where the right part is one element. -/
namespace Go.Proofs.Ytaoflcmjmhfblaa.H
variable {eV : Nat → Int}
open Go.RowKit Go.Proofs.YtaoflcmjmhfblaaW.PrintWords Go.Proofs.YtaoflcmjmhfblaaW.PrintLast Go.Proofs.YtaoflcmjmhfblaaW.PrintMore
open Go.Shelf Go.Sort
set_option linter.unusedVariables false
set_option linter.unusedSimpArgs false

set_option maxHeartbeats 4000000 in
set_option maxRecDepth 1000000 in
theorem symR_calls (n g blk cap a m b : Nat) (cb : Array Value) (cf : Fin (n + 1) → Fin (n + 1) → Int) (idx : Fin (n + 1) → Nat) (C : CfOk cf) (d0 d : Array (Fin (n + 1))) (w0 w : World)
    (eg : ∀ args w, (callFunc g args).run Try.prog w = .ok (.enter g args) w) (hcmp : CmpLays1 Try.prog g cb (encF eV n) cf blk 0 d0.size w0)
    (R : Row1 (encF eV n) w0 blk 0 d0) (hs : d0.size = d.size) (S : SW (encF eV n) w0 blk 0 d w) (hsz : d.size < 4611686018427387904) (M : MPre cf idx a m b d) (h0 : m ≠ a + 1) (h1 : b = m + 1) :
    Calls Try.prog 173 #[.slice (some ⟨blk, 0, none⟩) d.size cap, .int .i64 a, .int .i64 m, .int .i64 b, .func (.func g) #[] cb] w fun e w' => e = .returned (.tuple #[]) ∧ ∃ d', MPost cf idx a b d d' ∧ SW (encF eV n) w0 blk 0 d' w' := by
  have mixed : Try.prog.follows .mixedOrders = true := by kernel_rfl
  have HC : Aside _ := hcmp
  have S0 : Aside (SW (encF eV n) w0 blk 0 d w) := S
  have b1 := M.am
  have b2 := M.mb
  have b3 := M.size
  have HM := Lib.hid M
  clear S hcmp M
  have hm1 : ((m : Int) - (a : Int) == 1) = false := by rw [beq_eq_false_iff_ne]; omega
  have hm2 : ((b : Int) - (m : Int) == 1) = true := by rw [show (b : Int) - (m : Int) = 1 by omega]; rfl
  have HE := Lib.hid h1
  clear h1 h0
  go_enter Try.func173, Try.ntmps173
  go_wp2
  go_loopg [14, 15] (m - a) (fun kx s10 s11 wr => ∃ (i j : Nat), s10 = .int .i64 i ∧ s11 = .int .i64 j ∧ a ≤ i ∧ i ≤ j ∧ j ≤ m ∧ j - i ≤ kx ∧ Aside (SW (encF eV n) w0 blk 0 d wr) ∧ Hid (i = a ∨ ¬ cf d[m]! d[i - 1]! < 0) ∧ Hid (j = m ∨ cf d[m]! d[j]! < 0))
  case atStart => exact ⟨a, m, rfl, rfl, by omega, by omega, by omega, by omega, S0, Lib.hid (.inl rfl), Lib.hid (.inl rfl)⟩
  case round =>
    clear S0
    obtain ⟨i, j, rfl, rfl, hi1, hij, hjb, hkx, S1, F1, F2⟩ := hrel
    by_cases hlt : i < j
    · obtain ⟨h, hh⟩ : ∃ h, h = (i + j) / 2 := ⟨_, rfl⟩
      have ea : (((i : Int) + (j : Int)) / 2).toNat = h := by omega
      have pa : (0 : Int) ≤ ((i : Int) + (j : Int)) / 2 := by omega
      have ba : ((i : Int) + (j : Int)) / 2 < (d.size : Int) := by omega
      have ra : IntKind.i64.wrap (((i : Int) + (j : Int)) / 2) = ((i : Int) + (j : Int)) / 2 := by rw [IntKind.wrap_i64]; omega
      obtain ⟨aN, haN⟩ : ∃ q, q = m := ⟨_, rfl⟩
      have ec : ((m : Int)).toNat = aN := by omega
      have pc : (0 : Int) ≤ (m : Int) := by omega
      have bc : (m : Int) < (d.size : Int) := by omega
      have rc : IntKind.i64.wrap (m : Int) = (m : Int) := by rw [IntKind.wrap_i64]; omega
      obtain ⟨x, hx⟩ : ∃ x, x = d[m]! := ⟨_, rfl⟩
      obtain ⟨y, hy⟩ : ∃ x, x = d[h]! := ⟨_, rfl⟩
      have la := S1.out.cl R hs.symm m (by omega)
      have lb := S1.out.cl R hs.symm h (by omega)
      rw [← haN] at la hx
      rw [← hx] at la
      rw [← hy] at lb
      rw [Nat.zero_add] at la lb
      have hc := S1.out.cmp HC.out hs.symm x y
      have zx : encF eV n x = .int .i64 (eV x.val) := rfl
      have zy : encF eV n y = .int .i64 (eV y.val) := rfl
      rw [zx] at la
      rw [zy] at lb
      simp only [zx, zy] at hc
      have HXY : Hid (x = d[m]! ∧ y = d[h]! ∧ h = (i + j) / 2) := Lib.hid ⟨by rw [hx, haN], hy, hh⟩
      by_cases hq : cf x y < 0
      · have hd1 : decide (cf x y < 0) = true := decide_eq_true hq
        clear hx hy zx zy hh haN
        go_wp2_with fail
        go_quiet_grown (first | (go_at_fn g; refine Calls.grown_of (hc _ _)))
        have S2 : Aside (SW (encF eV n) w0 blk 0 d (grow (wr.drewN nq) osq)) := S1.out.grown nq osq
        clear la lb hc S1
        generalize grow (wr.drewN nq) osq = w2 at S2 ⊢
        clear nq osq
        clear ea ec
        go_wp2
        obtain ⟨e1, e2, e3⟩ := HXY.out
        go_roundg (h - i)
        case measure => omega
        case rel => exact ⟨i, h, rfl, by go_num, by omega, by omega, by omega, Nat.le_refl _, S2, F1, Lib.hid (.inr (by rw [← e1, ← e2]; exact hq))⟩
      · have hd1 : decide (cf x y < 0) = false := decide_eq_false hq
        clear hx hy zx zy hh haN
        go_wp2_with fail
        go_quiet_grown (first | (go_at_fn g; refine Calls.grown_of (hc _ _)))
        have S2 : Aside (SW (encF eV n) w0 blk 0 d (grow (wr.drewN nq) osq)) := S1.out.grown nq osq
        clear la lb hc S1
        generalize grow (wr.drewN nq) osq = w2 at S2 ⊢
        clear nq osq
        clear ea ec
        go_wp2
        obtain ⟨e1, e2, e3⟩ := HXY.out
        go_roundg (j - (h + 1))
        case measure => omega
        case rel => exact ⟨h + 1, j, by go_num, rfl, by omega, by omega, hjb, Nat.le_refl _, S2, Lib.hid (.inr (by rw [Nat.add_sub_cancel, ← e1, ← e2]; exact hq)), F2⟩
    · have hje : i = j := by omega
      subst hje
      have f1 := F1.out
      have f2 := F2.out
      have P := Lib.hid (one_right C HM.out HE.out hi1 hjb f1 f2)
      clear f1 f2 F1 F2 HC
      go_wp2
      go_loopg [17] (m - i) (fun kx s13 wq => ∃ (k : Nat) (dk : Array (Fin (n + 1))), s13 = .int .i64 k ∧ i ≤ k ∧ k ≤ m ∧ k - i ≤ kx ∧ dk.size = d.size ∧ Aside (SW (encF eV n) w0 blk 0 dk wq) ∧ Hid (dk = shD d m (m - k)))
      case atStart => exact ⟨m, d, rfl, by omega, by omega, by omega, rfl, S1, Lib.hid (by rw [Nat.sub_self]; rfl)⟩
      case round =>
        clear S1
        obtain ⟨k, dk, rfl, hk1, hk2, hkx2, hds, S1, HD⟩ := hrel
        by_cases hlt2 : i < k
        · obtain ⟨iN, hiN⟩ : ∃ q, q = k := ⟨_, rfl⟩
          obtain ⟨jN, hjN⟩ : ∃ q, q = k - 1 := ⟨_, rfl⟩
          have ea : ((k : Int)).toNat = iN := by omega
          have pa : (0 : Int) ≤ (k : Int) := by omega
          have ba : (k : Int) < (d.size : Int) := by omega
          have ra : IntKind.i64.wrap (k : Int) = (k : Int) := by rw [IntKind.wrap_i64]; omega
          have ec : ((k : Int) - 1).toNat = jN := by omega
          have pc : (0 : Int) ≤ (k : Int) - 1 := by omega
          have bc : (k : Int) - 1 < (d.size : Int) := by omega
          have rc : IntKind.i64.wrap ((k : Int) - 1) = (k : Int) - 1 := by rw [IntKind.wrap_i64]; omega
          obtain ⟨x, hx⟩ : ∃ x, x = dk[iN]! := ⟨_, rfl⟩
          obtain ⟨y, hy⟩ : ∃ x, x = dk[jN]! := ⟨_, rfl⟩
          have S2 : Aside (SW (encF eV n) w0 blk 0 (swp dk iN jN) ((wr.setCell ⟨blk, 0 + iN, none⟩ (encF eV n y)).setCell ⟨blk, 0 + jN, none⟩ (encF eV n x)).drew) := by rw [hx, hy]; exact S1.out.swapped R iN jN (by omega) (by omega)
          have ca := S1.out.c1 R (by omega) iN (by omega)
          have cb' := S1.out.c1 R (by omega) jN (by omega)
          have fa := S1.out.f1 R (by omega) iN (by omega)
          have fb := S1.out.f1 R (by omega) jN (by omega)
          obtain ⟨u, cc⟩ := S1.out.c2 R (by omega) iN jN (by omega) (by omega) (encF eV n y)
          rw [← hx] at ca
          rw [← hy] at cb'
          have zx : encF eV n x = .int .i64 (eV x.val) := rfl
          have zy : encF eV n y = .int .i64 (eV y.val) := rfl
          rw [zx] at ca S2
          rw [zy] at cb' cc S2
          rw [Nat.zero_add] at ca cb' fa fb cc
          rw [Nat.zero_add] at cc
          rw [Nat.zero_add, Nat.zero_add] at S2
          have HX : Hid (iN = k ∧ jN = k - 1) := Lib.hid ⟨hiN, hjN⟩
          clear S1 hx hy hiN hjN zx zy
          go_wp2_with fail
          go_big_region_o
          clear ca cb' cc fa fb
          generalize ((wr.setCell { block := blk, off := iN } (Value.int .i64 (eV y.val))).setCell { block := blk, off := jN } (Value.int .i64 (eV x.val))).drew = w2 at S2 ⊢
          clear ea ec
          go_wp2
          go_roundg (k - 1 - i)
          case measure => omega
          case rel =>
            have hD := HD.out
            obtain ⟨e1, e2⟩ := HX.out
            subst e1 e2
            exact ⟨iN - 1, swp dk iN (iN - 1), by go_num, by omega, by omega, Nat.le_refl _, by rw [size_swp]; exact hds, S2, Lib.hid (by
              rw [hD, show m - (iN - 1) = (m - iN) + 1 by omega]
              show _ = swp (shD d m (m - iN)) (m - (m - iN)) (m - (m - iN) - 1)
              rw [show m - (m - iN) = iN by omega])⟩
        · have hie : k = i := by omega
          go_wp2
          refine bodyPost_ret (results_none rfl _ _ _) rfl ?_
          have hD := HD.out
          exact ⟨rfl, dk, by rw [hD, hie]; exact P.out, S1.out⟩
end Go.Proofs.Ytaoflcmjmhfblaa.H
