/-
  Plain law: the records of a page, one by one; how the document tests one.
-/
import Derived.Test.YtjhfomihlobjgaaPFlash
namespace Go.Proofs.Ytjhfomihlobjgaa.D
/-- the records from a place on: where each begins, and its value -/
def recs (b : Str) (k : Nat) : List (Nat × Str) :=
  if k < b.length then (k, valAt b k) :: recs b (k + 3 + lenAt b k) else []
termination_by b.length - k
decreasing_by omega
theorem recs_step {b : Str} {k : Nat} (h : k < b.length) : recs b k = (k, valAt b k) :: recs b (k + 3 + lenAt b k) := by
  rw [recs, if_pos h]
theorem recs_end {b : Str} {k : Nat} (h : b.length ≤ k) : recs b k = [] := by
  rw [recs, if_neg (by omega)]
theorem findRec_recs (b : Str) (k : Nat) (q : Int) : findRec b k q = ((recs b k).find? (fun r => decide ((r.1 : Int) = q))).map (·.2) := by
  induction hn : b.length - k using Nat.strongRecOn generalizing k with
  | ind n ih =>
    by_cases hk : k < b.length
    · rw [recs_step hk]
      by_cases e : (k : Int) = q
      · rw [findRec_hit hk e]; simp [e]
      · rw [findRec_miss hk e, ih _ (by omega) _ rfl]; simp [e]
    · rw [findRec_end (by omega), recs_end (by omega)]; rfl
/-- how many records fit -/
theorem recs_length (b : Str) (k : Nat) : (recs b k).length ≤ b.length - k := by
  induction hn : b.length - k using Nat.strongRecOn generalizing k with
  | ind n ih =>
    by_cases hk : k < b.length
    · rw [recs_step hk]
      have := ih (b.length - (k + 3 + lenAt b k)) (by omega) _ rfl
      simp only [List.length_cons]; omega
    · rw [recs_end (by omega)]; simp
/-- a record as its bytes -/
def rawAt (b : Str) (k : Nat) : Str := (b.drop k).take (3 + lenAt b k)
theorem rawAt_eq {b : Str} {k : Nat} (h : k + 3 + lenAt b k ≤ b.length) : rawAt b k = [b.getD k 0, b.getD (k + 1) 0, b.getD (k + 2) 0] ++ valAt b k := by
  have h0 : b.drop k = b.getD k 0 :: b.drop (k + 1) := by
    rw [List.drop_eq_getElem_cons (by omega)]; simp [List.getD_eq_getElem?_getD, show k < b.length by omega]
  have h1 : b.drop (k + 1) = b.getD (k + 1) 0 :: b.drop (k + 2) := by
    rw [List.drop_eq_getElem_cons (by omega)]; simp [List.getD_eq_getElem?_getD, show k + 1 < b.length by omega]
  have h2 : b.drop (k + 2) = b.getD (k + 2) 0 :: b.drop (k + 3) := by
    rw [List.drop_eq_getElem_cons (by omega)]; simp [List.getD_eq_getElem?_getD, show k + 2 < b.length by omega]
  unfold rawAt valAt
  rw [h0, h1, h2, show 3 + lenAt b k = lenAt b k + 1 + 1 + 1 by omega]
  simp
theorem rec_raw {b : Str} {k : Nat} (h : k + 3 + lenAt b k ≤ b.length) (hn : lenAt b k ≤ 200) : recB b k = decide (rawAt b k = recordOf (valAt b k)) := by
  have hl : (valAt b k).length = lenAt b k := by simp [valAt]; omega
  have hs := sumOf_lt (valAt b k)
  have x1 := (b.getD (k + 1) 0).toNat_lt
  have x2 := (b.getD (k + 2) 0).toNat_lt
  rw [recB, decide_eq_decide, rawAt_eq h, recordOf, List.append_left_inj, hl]
  simp only [List.cons.injEq, and_true]
  have e0 : b.getD k 0 = UInt8.ofNat (lenAt b k) := by simp [lenAt]
  have e1 : ∀ (x : UInt8) (n : Nat), n < 256 → (x = UInt8.ofNat n ↔ x.toNat = n) := fun x n hn => by
    constructor
    · rintro rfl; simp; omega
    · intro h; rw [← h]; simp
  rw [e1 _ _ (show sumOf (valAt b k) / 256 < 256 by omega), e1 _ _ (show sumOf (valAt b k) % 256 < 256 by omega)]
  constructor
  · rintro ⟨_, _, h3⟩; exact ⟨e0, by omega, by omega⟩
  · rintro ⟨_, h3, h4⟩; exact ⟨h, hn, by omega⟩
/-- where the records are all well, the values are short -/
theorem recs_good {b : Str} {k : Nat} (h : allRec b k = true) : ∀ r ∈ recs b k, r.2.length ≤ 200 ∧ r.1 < b.length := by
  induction hn : b.length - k using Nat.strongRecOn generalizing k with
  | ind n ih =>
    by_cases hk : k < b.length
    · rw [recs_step hk]
      rw [allRec_step hk, Bool.and_eq_true] at h
      intro r hr
      rcases List.mem_cons.1 hr with rfl | hr
      · have := recB_le h.1
        exact ⟨by simp [valAt]; omega, hk⟩
      · exact ih _ (by omega) h.2 rfl r hr
    · rw [recs_end (by omega)]; simp
end Go.Proofs.Ytjhfomihlobjgaa.D
