/-
  Plain law: new flash, and a new store.
-/
import Derived.Test.YtjhfomihlobjgaaPStore
namespace Go.Proofs.Ytjhfomihlobjgaa.D
def newF (m : Int) : Flash × Int := if 0 ≤ m ∧ m ≤ 20 then (⟨m, 1, []⟩, 0) else (⟨0, 0, []⟩, 2)
def newS (p f : Int) : Store × Int :=
  if 0 ≤ p ∧ p ≤ 40 then (if 0 ≤ f ∧ f ≤ 20 then (⟨0, 0, 0, p, 0, 0, 0, 0, [], ⟨f, 1, []⟩⟩, 0) else (⟨0, 0, 0, 0, 0, 0, 0, 0, [], ⟨0, 0, []⟩⟩, 2)) else (⟨0, 0, 0, 0, 0, 0, 0, 0, [], ⟨0, 0, []⟩⟩, 2)
theorem newF_good {m : Int} (h : 0 ≤ m) (h' : m ≤ 20) : newF m = (⟨m, 1, []⟩, 0) := by rw [newF, if_pos ⟨h, h'⟩]
theorem newF_low {m : Int} (h : m < 0) : newF m = (⟨0, 0, []⟩, 2) := by rw [newF, if_neg (by omega)]
theorem newF_high {m : Int} (h : 20 < m) : newF m = (⟨0, 0, []⟩, 2) := by rw [newF, if_neg (by omega)]
theorem newF_pages (m : Int) : (newF m).1.pages = [] := by unfold newF; split <;> rfl
theorem newS_items (p f : Int) : (newS p f).1.items = [] := by unfold newS; split <;> (try split) <;> rfl
theorem newS_pages (p f : Int) : (newS p f).1.flash.pages = [] := by unfold newS; split <;> (try split) <;> rfl
theorem newS_low {p f : Int} (h : p < 0) : newS p f = (⟨0, 0, 0, 0, 0, 0, 0, 0, [], ⟨0, 0, []⟩⟩, 2) := by rw [newS, if_neg (by omega)]
theorem newS_high {p f : Int} (h : 40 < p) : newS p f = (⟨0, 0, 0, 0, 0, 0, 0, 0, [], ⟨0, 0, []⟩⟩, 2) := by rw [newS, if_neg (by omega)]
theorem newS_bad {p f : Int} (h : 0 ≤ p) (h' : p ≤ 40) (hf : ¬ (0 ≤ f ∧ f ≤ 20)) : newS p f = (⟨0, 0, 0, 0, 0, 0, 0, 0, [], ⟨0, 0, []⟩⟩, 2) := by rw [newS, if_pos ⟨h, h'⟩, if_neg hf]
theorem newS_good {p f : Int} (h : 0 ≤ p) (h' : p ≤ 40) (hf : 0 ≤ f ∧ f ≤ 20) : newS p f = (⟨0, 0, 0, p, 0, 0, 0, 0, [], ⟨f, 1, []⟩⟩, 0) := by rw [newS, if_pos ⟨h, h'⟩, if_pos hf]
end Go.Proofs.Ytjhfomihlobjgaa.D
