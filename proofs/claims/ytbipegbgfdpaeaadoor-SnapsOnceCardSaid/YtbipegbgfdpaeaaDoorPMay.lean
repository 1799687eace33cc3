/-
  Plain law: a store that may be, item by item and class by class.
-/
import Derived.Test.YtbipegbgfdpaeaaDoorPStore
namespace Go.Proofs.YtbipegbgfdpaeaaDoor.D
theorem rising_append (l r : List Item) : rising (l ++ r) = true → rising l = true := by
  induction l with
  | nil => intro _; rfl
  | cons a l ih =>
    cases l with
    | nil => intro _; rfl
    | cons b l =>
      intro h
      simp only [List.cons_append, rising, Bool.and_eq_true] at h ⊢
      exact ⟨h.1, ih (by simpa using h.2)⟩
theorem rising_snoc2 (l : List Item) (a b : Item) : rising (l ++ [a, b]) = (rising (l ++ [a]) && bytesLess (bl a.key) (bl b.key)) := by
  induction l with
  | nil => simp [rising]
  | cons c l ih =>
    cases l with
    | nil => simp [rising]
    | cons d l =>
      simp only [List.cons_append, rising] at ih ⊢
      rw [ih, Bool.and_assoc]
theorem rising_take0 (l : List Item) : rising (l.take 0) = true := by rw [List.take_zero]; rfl
theorem rising_take1 (l : List Item) : rising (l.take 1) = true := by
  cases l with
  | nil => rfl
  | cons a l => simp [rising]
theorem rising_step {l : List Item} {k : Nat} (hk : k + 1 < l.length) : rising (l.take (k + 2)) = (rising (l.take (k + 1)) && bytesLess (bl (l[k]'(by omega)).key) (bl l[k + 1].key)) := by
  have h1 : l.take (k + 1) = l.take k ++ [l[k]'(by omega)] := List.take_succ_eq_append_getElem (by omega)
  have h2 : l.take (k + 2) = l.take (k + 1) ++ [l[k + 1]] := List.take_succ_eq_append_getElem hk
  rw [h2, h1, List.append_assoc, List.singleton_append, rising_snoc2]
theorem rising_bad {l : List Item} {k : Nat} (h : rising (l.take k) = false) : rising l = false := by
  cases hr : rising l with
  | false => rfl
  | true =>
    have := rising_append (l.take k) (l.drop k) (by rw [List.take_append_drop]; exact hr)
    rw [h] at this; cases this
theorem all_step {α : Type} {l : List α} {p : α → Bool} {k : Nat} (hk : k < l.length) : (l.take (k + 1)).all p = ((l.take k).all p && p l[k]) := by
  rw [List.take_succ_eq_append_getElem hk, List.all_append]; simp
theorem all_bad {α : Type} {l : List α} {p : α → Bool} {k : Nat} (hk : k < l.length) (h : p l[k] = false) : l.all p = false := by
  cases hr : l.all p with
  | false => rfl
  | true =>
    have := List.all_eq_true.1 hr l[k] (List.getElem_mem hk)
    rw [h] at this; cases this
/-- is an item in memory, and of a class? -/
def inCls (x : Item) (c : Int) : Bool := !x.far && x.cls == c
theorem countIn_step {l : List Item} {c : Int} {k : Nat} (hk : k < l.length) : countIn (l.take (k + 1)) c = countIn (l.take k) c + (if inCls l[k] c then 1 else 0) := by
  unfold countIn inCls
  rw [List.take_succ_eq_append_getElem hk, List.filter_append, List.length_append]
  cases h : (!l[k].far && l[k].cls == c) <;> simp [h]
theorem countIn_zero (l : List Item) (c : Int) : countIn (l.take 0) c = 0 := by simp [countIn]
theorem countIn_le (l : List Item) (c : Int) : 0 ≤ countIn l c ∧ countIn l c ≤ l.length := by
  unfold countIn
  have := List.length_filter_le (fun x : Item => !x.far && x.cls == c) l
  omega
theorem classOf_good {k v : Int} (h : 1 ≤ k ∧ k ≤ 20 ∧ 0 ≤ v ∧ v ≤ 200) : classOf k v = (if 8 + k + v ≤ 32 then 0 else if 8 + k + v ≤ 64 then 1 else if 8 + k + v ≤ 128 then 2 else 3) := by
  unfold classOf; rw [if_pos h]
theorem classOf_bad {k v : Int} (h : ¬ (1 ≤ k ∧ k ≤ 20 ∧ 0 ≤ v ∧ v ≤ 200)) : classOf k v = -1 := by
  unfold classOf; rw [if_neg h]
theorem classOf_range {k v : Int} (h : 1 ≤ k ∧ k ≤ 20 ∧ 0 ≤ v ∧ v ≤ 200) : 0 ≤ classOf k v ∧ classOf k v ≤ 3 := by
  rw [classOf_good h]; split <;> (try split) <;> (try split) <;> omega
end Go.Proofs.YtbipegbgfdpaeaaDoor.D
