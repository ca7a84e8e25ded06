/- The order of texts: by length, then byte by byte. -/
import Derived.Test.YtaoflcmjmhfblaaBase
namespace Go.Proofs.Ytaoflcmjmhfblaa.H
open Go.RowKit
set_option linter.unusedVariables false

def cmpI (x y : Int) : Int := if x < y then -1 else if y < x then 1 else 0
def cmpL (a b : ByteArray) : Int := if a.data.toList < b.data.toList then -1 else if b.data.toList < a.data.toList then 1 else 0
def cmpS (a b : ByteArray) : Int := if cmpI a.size b.size ≠ 0 then cmpI a.size b.size else cmpL a b

instance : Std.Antisymm (α := UInt8) (¬ · < ·) := ⟨fun a b h1 h2 => by
  apply UInt8.toNat_inj.1
  have : ¬ a.toNat < b.toNat := fun h => h1 (UInt8.lt_iff_toNat_lt.2 h)
  have : ¬ b.toNat < a.toNat := fun h => h2 (UInt8.lt_iff_toNat_lt.2 h)
  omega⟩
theorem lists_tri {l m : List UInt8} (h1 : ¬ l < m) (h2 : ¬ m < l) : l = m := List.le_antisymm h2 h1
theorem lists_irr (l : List UInt8) : ¬ l < l := List.lt_irrefl l
theorem lists_trans {l m k : List UInt8} (h1 : l < m) (h2 : m < k) : l < k := List.lt_trans h1 h2
theorem lists_asymm {l m : List UInt8} (h1 : l < m) : ¬ m < l := fun h2 => lists_irr l (lists_trans h1 h2)

theorem cmpL_range (a b : ByteArray) : cmpL a b = -1 ∨ cmpL a b = 0 ∨ cmpL a b = 1 := by
  unfold cmpL
  repeat' split
  all_goals omega
theorem cmpL_neg (a b : ByteArray) : cmpL b a = -cmpL a b := by
  unfold cmpL
  by_cases h1 : a.data.toList < b.data.toList
  · rw [if_neg (lists_asymm h1), if_pos h1, if_pos h1]; rfl
  · by_cases h2 : b.data.toList < a.data.toList
    · rw [if_pos h2, if_neg h1, if_pos h2]
    · rw [if_neg h2, if_neg h1, if_neg h1, if_neg h2]; rfl
theorem cmpL_zero {a b : ByteArray} : cmpL a b = 0 ↔ a = b := by
  unfold cmpL
  constructor
  · intro h
    split at h
    · cases h
    · split at h
      · cases h
      · rename_i h1 h2
        have := lists_tri h1 h2
        cases a; cases b; congr; exact Array.toList_inj.1 this
  · rintro rfl
    rw [if_neg (lists_irr _), if_neg (lists_irr _)]
theorem cmpL_lt {a b : ByteArray} : cmpL a b < 0 ↔ a.data.toList < b.data.toList := by
  unfold cmpL
  constructor
  · intro h
    split at h
    · assumption
    · split at h <;> omega
  · intro h; rw [if_pos h]; decide
theorem cmpS_neg (a b : ByteArray) : cmpS b a = -cmpS a b := by
  unfold cmpS
  have := cmpL_neg a b
  unfold cmpI
  repeat' split
  all_goals omega
theorem cmpS_range (a b : ByteArray) : -1 ≤ cmpS a b ∧ cmpS a b ≤ 1 := by
  unfold cmpS
  have := cmpL_range a b
  unfold cmpI
  repeat' split
  all_goals omega
theorem cmpS_zero {a b : ByteArray} : cmpS a b = 0 ↔ a = b := by
  constructor
  · intro h
    unfold cmpS cmpI at h
    have : cmpL a b = 0 := by
      revert h
      repeat' split
      all_goals omega
    exact cmpL_zero.1 this
  · rintro rfl
    have := (cmpL_zero (a := a) (b := a)).2 rfl
    unfold cmpS cmpI
    repeat' split
    all_goals omega
theorem cmpL_trans {a b c : ByteArray} (h1 : cmpL a b ≤ 0) (h2 : cmpL b c ≤ 0) : cmpL a c ≤ 0 ∧ (cmpL a b < 0 → cmpL a c < 0) ∧ (cmpL b c < 0 → cmpL a c < 0) := by
  rcases Int.lt_or_eq_of_le h1 with h | h
  · rcases Int.lt_or_eq_of_le h2 with g | g
    · have := cmpL_lt.2 (lists_trans (cmpL_lt.1 h) (cmpL_lt.1 g))
      omega
    · obtain rfl := cmpL_zero.1 g
      omega
  · obtain rfl := cmpL_zero.1 h
    omega
theorem cmpS_trans {a b c : ByteArray} (h1 : cmpS a b ≤ 0) (h2 : cmpS b c ≤ 0) : cmpS a c ≤ 0 ∧ (cmpS a b < 0 → cmpS a c < 0) := by
  have T : cmpL a b ≤ 0 → cmpL b c ≤ 0 → cmpL a c ≤ 0 ∧ (cmpL a b < 0 → cmpL a c < 0) ∧ (cmpL b c < 0 → cmpL a c < 0) := cmpL_trans
  revert h1 h2
  unfold cmpS cmpI
  generalize cmpL a b = x at *
  generalize cmpL b c = y at *
  generalize cmpL a c = z at *
  repeat' split
  all_goals omega
end Go.Proofs.Ytaoflcmjmhfblaa.H
