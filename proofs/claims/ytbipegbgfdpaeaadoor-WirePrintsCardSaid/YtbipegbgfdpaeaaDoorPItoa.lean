/-
  Plain law: a number's decimal text. Nothing of the program stands here.
-/
import Derived.Lib.ItoaNum
import Derived.Lib.ItoaLen
import Derived.Lib.ItoaMem
import Derived.Test.YtbipegbgfdpaeaaDoorPFlash
namespace Go.Proofs.YtbipegbgfdpaeaaDoor.D
open Go
/-- a number's decimal text -/
def decL (n : Int) : Str := Lib.itoa n
def decS (n : Int) : ByteArray := ⟨(decL n).toArray⟩
theorem mk_append (a b : Str) : (⟨(a ++ b).toArray⟩ : ByteArray) = ⟨a.toArray⟩ ++ ⟨b.toArray⟩ := by
  apply ByteArray.ext
  simp
theorem decD_step {u : Nat} (h : ¬ u < 10) : Lib.decDigits u = Lib.decDigits (u / 10) ++ Lib.decDigits (u % 10) := by
  rw [Lib.decDigits.eq_1 u, dif_neg h, Lib.decDigits_one (Nat.mod_lt _ (by decide))]
theorem dec_digit {n : Int} (h0 : 0 ≤ n) (h1 : n < 10) : decL n = [UInt8.ofNat (48 + n.toNat)] := by
  unfold decL Lib.itoa
  rw [if_neg (by omega), Lib.decDigits_one (by omega)]
theorem dec_pos {n : Int} (h : 10 ≤ n) : decS n = decS (n / 10) ++ decS (n % 10) := by
  unfold decS
  rw [← mk_append]
  unfold decL Lib.itoa
  rw [if_neg (by omega), if_neg (by omega), if_neg (by omega), decD_step (by omega)]
  rw [show (n / 10).toNat = n.toNat / 10 by omega, show (n % 10).toNat = n.toNat % 10 by omega]
theorem dec_minus {n : Int} (h0 : -10 < n) (h1 : n < 0) : decS n = ⟨#[45]⟩ ++ decS (-n) := by
  unfold decS
  have : (⟨#[45]⟩ : ByteArray) = ⟨([45] : Str).toArray⟩ := rfl
  rw [this, ← mk_append]
  unfold decL Lib.itoa
  rw [if_pos h1, if_neg (by omega), show (-n).toNat = n.natAbs by omega]
  rfl
theorem dec_neg {n q r : Int} (h : n ≤ -10) (hq : n = 10 * q + r) (hr : -10 < r) (hr0 : r ≤ 0) (hq0 : q < 0) : decS n = decS q ++ decS (-r) := by
  unfold decS
  rw [← mk_append]
  unfold decL Lib.itoa
  rw [if_pos (by omega), if_pos hq0, if_neg (by omega), decD_step (by omega)]
  rw [show n.natAbs / 10 = q.natAbs by omega, show n.natAbs % 10 = (-r).toNat by omega]
  rfl
theorem decL_pos (n : Int) : 0 < (decL n).length := by
  unfold decL Lib.itoa
  split
  · simp
  · rw [Lib.decDigits.eq_1]; split <;> simp
theorem decS_size (n : Int) : (decS n).size = (decL n).length := by simp [decS, ByteArray.size]
theorem decL_le {n : Int} (h0 : -9223372036854775808 ≤ n) (h1 : n ≤ 9223372036854775807) : (decL n).length ≤ 21 := Lib.itoa_length_le n h0 h1
end Go.Proofs.YtbipegbgfdpaeaaDoor.D
