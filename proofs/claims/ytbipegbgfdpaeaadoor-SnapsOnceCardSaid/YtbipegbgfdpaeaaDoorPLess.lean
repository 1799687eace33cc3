/-
  Plain law: the order of bytes: at most, and behind.
-/
import Derived.Test.YtbipegbgfdpaeaaDoorPLast
namespace Go.Proofs.YtbipegbgfdpaeaaDoor.D
theorem less_cons (x y : UInt8) (a b : Str) : bytesLess (x :: a) (y :: b) = (decide (x < y) || (x == y && bytesLess a b)) := by
  show Op.bytesLess (x :: a) (y :: b) = _
  rw [Op.bytesLess]
theorem le_flip : ∀ (a b : Str), (bytesLess a b || a == b) = !bytesLess b a
  | [], [] => rfl
  | [], _ :: _ => by simp [bytesLess, Op.bytesLess]
  | _ :: _, [] => by simp [bytesLess, Op.bytesLess]
  | x :: a, y :: b => by
    have ih := le_flip a b
    rw [less_cons, less_cons]
    rcases Nat.lt_trichotomy x.toNat y.toNat with h | h | h
    · have h1 : x < y := UInt8.lt_iff_toNat_lt.2 h
      have h2 : ¬ y < x := fun h' => by have := UInt8.lt_iff_toNat_lt.1 h'; omega
      have h3 : (y == x) = false := by rw [beq_eq_false_iff_ne]; intro e; rw [e] at h; omega
      simp [h1, h2, h3]
    · obtain rfl : x = y := UInt8.toNat_inj.1 h
      have h2 : ¬ x < x := fun h' => by have := UInt8.lt_iff_toNat_lt.1 h'; omega
      simp only [h2, decide_false, beq_self_eq_true, Bool.true_and, Bool.false_or]
      rw [← ih]
      simp
    · have h1 : y < x := UInt8.lt_iff_toNat_lt.2 h
      have h2 : ¬ x < y := fun h' => by have := UInt8.lt_iff_toNat_lt.1 h'; omega
      have h3 : (x == y) = false := by rw [beq_eq_false_iff_ne]; intro e; rw [e] at h; omega
      simp [h1, h2, h3]
end Go.Proofs.YtbipegbgfdpaeaaDoor.D
