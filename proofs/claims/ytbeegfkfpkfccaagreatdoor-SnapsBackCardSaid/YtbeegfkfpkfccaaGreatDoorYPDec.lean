/-
 Plain law: bytes as a store: numbers, texts, items, pages, one behind the other.
-/
import Derived.Test.YtbeegfkfpkfccaaGreatDoorYPlain
namespace Go.Proofs.YtbeegfkfpkfccaaGreatDoor.D
/-- what is left to be read, and what went wrong first -/
structure Rd where
 rest : Str
 err : Int
/-- a number from its byte with this index on -/
def rdN : Nat → Nat → Str → Nat × Str × Int
 | _, _, [] => (0, [], 5)
 | k, n, c :: r => if k = 6 ∨ (0 < k ∧ c.toNat = 0) then (0, r, 4) else
   if c.toNat < 128 then (n + c.toNat % 128 * 128 ^ k, r, 0) else rdN (k + 1) (n + c.toNat % 128 * 128 ^ k) r
theorem rdN_nil (k n : Nat) : rdN k n [] = (0, [], 5) := by unfold rdN; rfl
theorem rdN_form {k n : Nat} {c : UInt8} {r : Str} (h : k = 6 ∨ (0 < k ∧ c.toNat = 0)) : rdN k n (c :: r) = (0, r, 4) := by rw [rdN, if_pos h]
theorem rdN_last {k n : Nat} {c : UInt8} {r : Str} (h : ¬ (k = 6 ∨ (0 < k ∧ c.toNat = 0))) (hc : c.toNat < 128) : rdN k n (c :: r) = (n + c.toNat % 128 * 128 ^ k, r, 0) := by rw [rdN, if_neg h, if_pos hc]
theorem rdN_more {k n : Nat} {c : UInt8} {r : Str} (h : ¬ (k = 6 ∨ (0 < k ∧ c.toNat = 0))) (hc : ¬ c.toNat < 128) : rdN k n (c :: r) = rdN (k + 1) (n + c.toNat % 128 * 128 ^ k) r := by rw [rdN, if_neg h, if_neg hc]
def Rd.num (s : Rd) : Int × Rd := if s.err ≠ 0 then (0, s) else (((rdN 0 0 s.rest).1 : Nat), ⟨(rdN 0 0 s.rest).2.1, (rdN 0 0 s.rest).2.2⟩)
def Rd.wrong (s : Rd) (e : Int) : Rd := if s.err = 0 then ⟨s.rest, e⟩ else s
def Rd.many (s : Rd) (most : Int) : Int × Rd := if most < s.num.1 then (0, s.num.2.wrong 1) else s.num
def Rd.text (s : Rd) (most : Int) : Str × Rd :=
 if (s.many most).2.err ≠ 0 then ([], (s.many most).2)
 else if ((s.many most).2.rest.length : Int) < (s.many most).1 then ([], ⟨(s.many most).2.rest, 5⟩)
 else ((s.many most).2.rest.take (s.many most).1.toNat, ⟨(s.many most).2.rest.drop (s.many most).1.toNat, 0⟩)
def mkB (l : Str) : ByteArray := ⟨l.toArray⟩
def Rd.tail (s : Rd) (key : Str) (fl ti ca us t : Int) : Item × Rd :=
 if t = 0 then (⟨mkB key, fl, ti, ca, us, mkB (s.text 200).1, false, ⟨0, 0⟩⟩, (s.text 200).2)
 else if t = 1 then (⟨mkB key, fl, ti, ca, us, mkB [], true, ⟨s.num.1, s.num.2.num.1⟩⟩, s.num.2.num.2)
 else (⟨mkB key, fl, ti, ca, us, mkB [], false, ⟨0, 0⟩⟩, s.wrong 4)
def Rd.item (s : Rd) : Item × Rd :=
 (s.text 20).2.num.2.num.2.num.2.num.2.num.2.tail (s.text 20).1 (s.text 20).2.num.1 (s.text 20).2.num.2.num.1 (s.text 20).2.num.2.num.2.num.1 (s.text 20).2.num.2.num.2.num.2.num.1 (s.text 20).2.num.2.num.2.num.2.num.2.num.1
/-- pages, of n of them, from number i on -/
def Rd.pages (next : Int) (n i : Nat) (s : Rd) : List Page × Rd :=
 if i < n ∧ s.err = 0 then (⟨next - n + i, (s.text 256).1⟩ :: (Rd.pages next n (i + 1) (s.text 256).2).1, (Rd.pages next n (i + 1) (s.text 256).2).2) else ([], s)
termination_by n - i
decreasing_by all_goals omega
def Rd.items (n i : Nat) (s : Rd) : List Item × Rd :=
 if i < n ∧ s.err = 0 then (s.item.1 :: (Rd.items n (i + 1) s.item.2).1, (Rd.items n (i + 1) s.item.2).2) else ([], s)
termination_by n - i
decreasing_by all_goals omega
theorem pages_go {next : Int} {n i : Nat} {s : Rd} (h : i < n) (he : s.err = 0) : Rd.pages next n i s = (⟨next - n + i, (s.text 256).1⟩ :: (Rd.pages next n (i + 1) (s.text 256).2).1, (Rd.pages next n (i + 1) (s.text 256).2).2) := by rw [Rd.pages, if_pos ⟨h, he⟩]
theorem pages_stop {next : Int} {n i : Nat} {s : Rd} (h : ¬ (i < n ∧ s.err = 0)) : Rd.pages next n i s = ([], s) := by rw [Rd.pages, if_neg h]
theorem items_go {n i : Nat} {s : Rd} (h : i < n) (he : s.err = 0) : Rd.items n i s = (s.item.1 :: (Rd.items n (i + 1) s.item.2).1, (Rd.items n (i + 1) s.item.2).2) := by rw [Rd.items, if_pos ⟨h, he⟩]
theorem items_stop {n i : Nat} {s : Rd} (h : ¬ (i < n ∧ s.err = 0)) : Rd.items n i s = ([], s) := by rw [Rd.items, if_neg h]
/-- bounds -/
theorem rdN_lt : ∀ (l : Str) (k n : Nat), k ≤ 6 → n < 128 ^ k → (rdN k n l).1 < 128 ^ 6
 | [], k, n, _, _ => by rw [rdN_nil]; decide
 | c :: r, k, n, hk, hn => by
  by_cases h : k = 6 ∨ (0 < k ∧ c.toNat = 0)
  ·rw [rdN_form h]; exact (show 0 < 128 ^ 6 by decide)
  ·have hk5 : k ≤ 5 := by omega
   have hm : n + c.toNat % 128 * 128 ^ k < 128 ^ (k + 1) := by
    have h1 : c.toNat % 128 < 128 := Nat.mod_lt _ (by decide)
    have h2 : c.toNat % 128 * 128 ^ k ≤ 127 * 128 ^ k := Nat.mul_le_mul_right _ (by omega)
    rw [Nat.pow_succ]; omega
   by_cases hc : c.toNat < 128
   ·rw [rdN_last h hc]
    exact Nat.lt_of_lt_of_le hm (Nat.pow_le_pow_right (by decide) (by omega))
   ·rw [rdN_more h hc]
    exact rdN_lt r (k + 1) _ (by omega) hm
theorem num_lt (s : Rd) : 0 ≤ s.num.1 ∧ s.num.1 < 4398046511104 := by
 unfold Rd.num
 split
 ·simp
 ·have := rdN_lt s.rest 0 0 (by omega) (by decide)
  have h6 : 128 ^ 6 = 4398046511104 := by decide
  simp only; omega
theorem num_err (s : Rd) (h : s.err ≠ 0) : s.num = (0, s) := by unfold Rd.num; rw [if_pos h]
theorem num_ok (s : Rd) (h : s.err = 0) : s.num = ((((rdN 0 0 s.rest).1 : Nat) : Int), (⟨(rdN 0 0 s.rest).2.1, (rdN 0 0 s.rest).2.2⟩ : Rd)) := by unfold Rd.num; rw [if_neg (by simp [h])]
theorem rdN_err : ∀ (l : Str) (k n : Nat), (rdN k n l).2.2 ≠ 0 → (rdN k n l).1 = 0
 | [], k, n, _ => by rw [rdN_nil]
 | c :: r, k, n, h => by
  by_cases hf : k = 6 ∨ (0 < k ∧ c.toNat = 0)
  ·rw [rdN_form hf]
  ·by_cases hc : c.toNat < 128
   ·rw [rdN_last hf hc] at h; exact absurd rfl h
   ·rw [rdN_more hf hc] at h ⊢; exact rdN_err r _ _ h
theorem num_zero (s : Rd) (h : s.num.2.err ≠ 0) : s.num.1 = 0 := by
 by_cases he : s.err = 0
 ·rw [num_ok s he] at h ⊢
  have := rdN_err s.rest 0 0 h
  simp [this]
 ·rw [num_err s he]
end Go.Proofs.YtbeegfkfpkfccaaGreatDoor.D

