/-
  Plain law: what may be a key.
-/
import Derived.Test.YtjhfomihlobjgaaPFlash
namespace Go.Proofs.Ytjhfomihlobjgaa.D
def goodC (c : UInt8) : Bool := decide (33 ≤ c.toNat ∧ c.toNat ≤ 126)
def badC (c : UInt8) : Bool := decide (c.toNat ≤ 32) || decide (126 < c.toNat)
theorem badC_eq (c : UInt8) : badC c = !goodC c := by
  unfold badC goodC
  rw [Bool.eq_iff_iff]; simp; omega
def keyL (l : Str) : Bool := decide (1 ≤ l.length ∧ l.length ≤ 20) && l.all goodC
/-- the first one that is bad, from a place on -/
def firstBad (l : Str) (k : Nat) : Int :=
  match l with
  | [] => -1
  | c :: r => if badC c then k else firstBad r (k + 1)
theorem firstBad_neg (l : Str) (k : Nat) : (0 ≤ firstBad l k) = (l.all goodC = false) := by
  induction l generalizing k with
  | nil => simp [firstBad]
  | cons c r ih =>
    simp only [firstBad, List.all_cons]
    by_cases h : badC c = true
    · rw [if_pos h]; rw [badC_eq] at h; simp at h; simp [h]
    · rw [if_neg h, ih]; rw [badC_eq] at h; simp at h; simp [h]
theorem firstBad_hit (l : Str) (k j : Nat) (hj : j < l.length) (h : (l.take j).all goodC = true) (hb : badC l[j] = true) : firstBad l k = (k + j : Nat) := by
  induction l generalizing k j with
  | nil => simp at hj
  | cons c r ih =>
    cases j with
    | zero => simp at hb; simp [firstBad, hb]
    | succ j =>
      simp only [List.take_succ_cons, List.all_cons, Bool.and_eq_true] at h
      have hc : badC c = false := by rw [badC_eq, h.1]; rfl
      simp only [firstBad, hc]
      rw [if_neg (by simp), ih (k + 1) j (by simpa using hj) h.2 (by simpa using hb)]
      congr 1; omega
theorem firstBad_none (l : Str) (k : Nat) (h : l.all goodC = true) : firstBad l k = -1 := by
  induction l generalizing k with
  | nil => rfl
  | cons c r ih =>
    simp only [List.all_cons, Bool.and_eq_true] at h
    have hc : badC c = false := by rw [badC_eq, h.1]; rfl
    simp only [firstBad, hc]
    rw [if_neg (by simp), ih _ h.2]
theorem all_take_succ (l : Str) (p : UInt8 → Bool) (k : Nat) (h : k < l.length) : (l.take (k + 1)).all p = ((l.take k).all p && p l[k]) := by
  rw [List.take_succ_eq_append_getElem h, List.all_append]; simp only [List.all_cons, List.all_nil, Bool.and_true]
end Go.Proofs.Ytjhfomihlobjgaa.D
