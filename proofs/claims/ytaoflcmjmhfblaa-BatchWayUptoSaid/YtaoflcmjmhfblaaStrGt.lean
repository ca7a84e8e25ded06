/- Texts compared by '>', '<=', '>=' (the kit's print writes them by bytesLess). -/
import Derived.Test.YtaoflcmjmhfblaaProg
import Derived.RowKit
namespace Go.Proofs.Ytaoflcmjmhfblaa.H
theorem less_tot : ∀ a b : List UInt8, (!(Op.bytesLess a b || a == b)) = Op.bytesLess b a
  | [], [] => rfl
  | [], _ :: _ => rfl
  | _ :: _, [] => rfl
  | a :: x, b :: y => by
    have ih := less_tot x y
    simp only [Op.bytesLess]
    rcases Nat.lt_trichotomy a.toNat b.toNat with h | h | h
    · have h1 : decide (a < b) = true := decide_eq_true (UInt8.lt_iff_toNat_lt.2 h)
      have h2 : decide (b < a) = false := decide_eq_false (fun g => by have := UInt8.lt_iff_toNat_lt.1 g; omega)
      have h3 : (b == a) = false := by
        simp only [beq_eq_false_iff_ne]; intro e; subst e; omega
      simp [h1, h2, h3]
    · have e : a = b := UInt8.toNat_inj.1 h
      subst e
      have h1 : decide (a < a) = false := decide_eq_false (fun g => by have := UInt8.lt_iff_toNat_lt.1 g; omega)
      have h4 : (a :: x == a :: y) = (x == y) := by simp [BEq.beq, List.beq]
      rw [h4]
      simp only [h1, BEq.rfl, Bool.true_and, Bool.false_or]
      exact ih
    · have h1 : decide (a < b) = false := decide_eq_false (fun g => by have := UInt8.lt_iff_toNat_lt.1 g; omega)
      have h2 : decide (b < a) = true := decide_eq_true (UInt8.lt_iff_toNat_lt.2 h)
      have h3 : (a == b) = false := by
        simp only [beq_eq_false_iff_ne]; intro e; subst e; omega
      have h4 : (a :: x == b :: y) = false := by
        simp only [beq_eq_false_iff_ne] at h3 ⊢
        intro e; injection e with e1 _; exact h3 e1
      simp [h1, h2, h3, h4]
theorem str_gtr (t : TypeId) (a b : ByteArray) : binOp .gtr t (.string a) (.string b) = pure (.bool (Op.bytesLess b.toList a.toList)) := by
  rw [← less_tot]
  simp [binOp, Op.stringOp]
end Go.Proofs.Ytaoflcmjmhfblaa.H
