/-
  Plain law: which of the items in memory and of a class was asked longest ago, of the first so many items.
-/
import Derived.Test.YtbipegbgfdpaeaaDoorPMay
namespace Go.Proofs.YtbipegbgfdpaeaaDoor.D
/-- of the first k items: the place of the one in memory and of a class that was asked longest ago; -1: there is none -/
def lastTo (l : List Item) (c : Int) : Nat → Int
  | 0 => -1
  | k + 1 => match l[k]? with
    | none => lastTo l c k
    | some x => if inCls x c then
        (if lastTo l c k < 0 then (k : Int) else match l[(lastTo l c k).toNat]? with
          | some y => if x.used < y.used then (k : Int) else lastTo l c k
          | none => lastTo l c k)
      else lastTo l c k
theorem lastTo_range (l : List Item) (c : Int) : ∀ k, -1 ≤ lastTo l c k ∧ lastTo l c k < k
  | 0 => by simp [lastTo]
  | k + 1 => by
    have ih := lastTo_range l c k
    unfold lastTo
    split
    · omega
    · split
      · split
        · omega
        · split
          · split <;> omega
          · omega
      · omega
theorem lastTo_skip {l : List Item} {c : Int} {k : Nat} (hk : k < l.length) (h : inCls l[k] c = false) : lastTo l c (k + 1) = lastTo l c k := by
  rw [lastTo, List.getElem?_eq_getElem hk]; simp [h]
theorem lastTo_first {l : List Item} {c : Int} {k : Nat} (hk : k < l.length) (h : inCls l[k] c = true) (hn : lastTo l c k < 0) : lastTo l c (k + 1) = k := by
  rw [lastTo, List.getElem?_eq_getElem hk]; simp [h, hn]
theorem lastTo_less {l : List Item} {c : Int} {k m : Nat} (hk : k < l.length) (h : inCls l[k] c = true) (hm : lastTo l c k = m) (hml : m < l.length) (hu : l[k].used < l[m].used) : lastTo l c (k + 1) = k := by
  rw [lastTo, List.getElem?_eq_getElem hk]
  have : ¬ (m : Int) < 0 := by omega
  simp [h, hm, this, List.getElem?_eq_getElem hml, hu]
theorem lastTo_more {l : List Item} {c : Int} {k m : Nat} (hk : k < l.length) (h : inCls l[k] c = true) (hm : lastTo l c k = m) (hml : m < l.length) (hu : ¬ l[k].used < l[m].used) : lastTo l c (k + 1) = m := by
  rw [lastTo, List.getElem?_eq_getElem hk]
  have : ¬ (m : Int) < 0 := by omega
  simp [h, hm, this, List.getElem?_eq_getElem hml, hu]
end Go.Proofs.YtbipegbgfdpaeaaDoor.D
