/-
  Plain law: where a value goes, in two steps: the page for it, and its record there.
-/
import Derived.Test.YtjhfomihlobjgaaPFlash
namespace Go.Proofs.Ytjhfomihlobjgaa.D
/-- the pages ahead of the last one, the last one's number and bytes, the next number, the page that went -/
structure Prep where
  front : List Page
  num : Int
  bytes : Str
  next : Int
  gone : Int
def Flash.fits (f : Flash) (n : Nat) : Bool := match f.pages.getLast? with
  | some p => decide (p.bytes.length + 3 + n ≤ 256)
  | none => false
def Flash.prep (f : Flash) (n : Nat) : Prep :=
  if f.fits n then ⟨f.pages.dropLast, (f.pages.getLastD ⟨0, []⟩).number, (f.pages.getLastD ⟨0, []⟩).bytes, f.next, 0⟩
  else if (f.pages.length : Int) = f.most then ⟨f.pages.tail, f.next, [], f.next + 1, (f.pages.headD ⟨0, []⟩).number⟩
  else ⟨f.pages, f.next, [], f.next + 1, 0⟩
def Prep.pages (p : Prep) : List Page := p.front ++ [⟨p.num, p.bytes⟩]
theorem prep_shift {f : Flash} {n : Nat} (h : f.fits n = false) (hm : (f.pages.length : Int) = f.most) : f.prep n = ⟨f.pages.tail, f.next, [], f.next + 1, (f.pages.headD ⟨0, []⟩).number⟩ := by
  unfold Flash.prep; simp only [h, hm, Bool.false_eq_true, if_false, if_true]
theorem prep_new {f : Flash} {n : Nat} (h : f.fits n = false) (hm : ¬ (f.pages.length : Int) = f.most) : f.prep n = ⟨f.pages, f.next, [], f.next + 1, 0⟩ := by
  unfold Flash.prep; simp only [h, hm, Bool.false_eq_true, if_false]
theorem prep_fit {f : Flash} {n : Nat} (h : f.fits n = true) : f.prep n = ⟨f.pages.dropLast, (f.pages.getLastD ⟨0, []⟩).number, (f.pages.getLastD ⟨0, []⟩).bytes, f.next, 0⟩ := by
  unfold Flash.prep; simp only [h, if_true]
theorem append_bad {f : Flash} {s : Str} (h : f.ok = false) : f.append s = (Flash.zero, ⟨0, 0⟩, 0, 8) := by unfold Flash.append; rw [if_pos h]
theorem append_long {f : Flash} {s : Str} (h : f.ok = true) (h1 : 200 < s.length) : f.append s = (Flash.zero, ⟨0, 0⟩, 0, 1) := by
  unfold Flash.append; rw [if_neg (by rw [h]; simp), if_pos h1]
theorem append_full {f : Flash} {s : Str} (h : f.ok = true) (h1 : ¬ 200 < s.length) (h2 : f.most = 0 ∨ f.next = maxN) : f.append s = (Flash.zero, ⟨0, 0⟩, 0, 7) := by
  unfold Flash.append; rw [if_neg (by rw [h]; simp), if_neg h1, if_pos h2]
theorem append_good {f : Flash} {s : Str} (h : f.ok = true) (h1 : ¬ 200 < s.length) (h2 : ¬ (f.most = 0 ∨ f.next = maxN)) :
    f.append s = (⟨f.most, (f.prep s.length).next, (f.prep s.length).front ++ [⟨(f.prep s.length).num, (f.prep s.length).bytes ++ recordOf s⟩]⟩, ⟨(f.prep s.length).num, (f.prep s.length).bytes.length⟩, (f.prep s.length).gone, 0) := by
  unfold Flash.append
  rw [if_neg (by rw [h]; simp), if_neg h1, if_neg h2]
  rcases hp : f.pages.getLast? with _ | p
  · have hn : f.pages = [] := by simpa using hp
    have hf : f.fits s.length = false := by unfold Flash.fits; rw [hp]
    have hm : ¬ (f.pages.length : Int) = f.most := by
      rw [hn]
      intro e
      exact h2 (.inl (by simpa using e.symm))
    rw [prep_new hf hm, hn]
    rfl
  · have hl : f.pages.getLastD ⟨0, []⟩ = p := by rw [List.getLastD_eq_getLast?, hp]; rfl
    by_cases hfit : p.bytes.length + 3 + s.length ≤ 256
    · have hf : f.fits s.length = true := by unfold Flash.fits; rw [hp]; simpa using hfit
      simp only [hfit, if_true]
      rw [prep_fit hf, hl]
    · have hf : f.fits s.length = false := by unfold Flash.fits; rw [hp]; simpa using hfit
      simp only [hfit, if_false]
      by_cases hm : (f.pages.length : Int) = f.most
      · rw [prep_shift hf hm]; simp only [hm, if_true]; rfl
      · rw [prep_new hf hm]; simp only [hm, if_false]; rfl
theorem prep_fits {f : Flash} {n : Nat} (h : f.fits n = true) : (f.prep n).pages = f.pages ∧ (f.prep n).next = f.next ∧ (f.prep n).gone = 0 := by
  rw [prep_fit h]
  unfold Prep.pages
  refine ⟨?_, rfl, rfl⟩
  cases hp : f.pages.getLast? with
  | none => unfold Flash.fits at h; rw [hp] at h; cases h
  | some p =>
    have hl : f.pages.getLastD ⟨0, []⟩ = p := by rw [List.getLastD_eq_getLast?, hp]; rfl
    simp only [hl]
    have hne : f.pages ≠ [] := by intro e; rw [e] at hp; cases hp
    have := List.dropLast_concat_getLast hne
    rw [List.getLast?_eq_some_getLast hne] at hp
    cases hp
    exact this
theorem prep_small {f : Flash} {n : Nat} (h : f.pages.length ≤ 20) (hn : n ≤ 200) : (f.prep n).front.length ≤ 20 ∧ (f.prep n).bytes.length + 3 + n ≤ 256 := by
  cases hf : f.fits n
  · by_cases hm : (f.pages.length : Int) = f.most
    · rw [prep_shift hf hm]
      simp only [List.length_tail, List.length_nil]; omega
    · rw [prep_new hf hm]
      simp only [List.length_nil]; omega
  · rw [prep_fit hf]
    unfold Flash.fits at hf
    cases hp : f.pages.getLast? with
    | none => rw [hp] at hf; cases hf
    | some p =>
      rw [hp] at hf
      have hl : f.pages.getLastD ⟨0, []⟩ = p := by rw [List.getLastD_eq_getLast?, hp]; rfl
      simp only [hl, List.length_dropLast]
      simp at hf
      omega
theorem fits_split {f : Flash} {n : Nat} (h : f.fits n = true) : ∃ front num by', f.pages = front ++ [⟨num, by'⟩] ∧ by'.length + 3 + n ≤ 256 ∧ f.prep n = ⟨front, num, by', f.next, 0⟩ := by
  have hp := prep_fit h
  unfold Flash.fits at h
  cases hl : f.pages.getLast? with
  | none => rw [hl] at h; cases h
  | some p =>
    rw [hl] at h
    have hd : f.pages.getLastD ⟨0, []⟩ = p := by rw [List.getLastD_eq_getLast?, hl]; rfl
    have hne : f.pages ≠ [] := by intro e; rw [e] at hl; cases hl
    have hc := List.dropLast_concat_getLast hne
    rw [List.getLast?_eq_some_getLast hne] at hl
    cases hl
    refine ⟨f.pages.dropLast, (f.pages.getLast hne).number, (f.pages.getLast hne).bytes, hc.symm, by simpa using h, ?_⟩
    rw [hp, hd]
theorem fits_no {f : Flash} {n : Nat} (h : f.fits n = false) : f.pages = [] ∨ ∃ front num by', f.pages = front ++ [⟨num, by'⟩] ∧ 256 < by'.length + 3 + n := by
  unfold Flash.fits at h
  cases hl : f.pages.getLast? with
  | none => left; simpa using hl
  | some p =>
    right
    rw [hl] at h
    have hne : f.pages ≠ [] := by intro e; rw [e] at hl; cases hl
    have hc := List.dropLast_concat_getLast hne
    rw [List.getLast?_eq_some_getLast hne] at hl
    cases hl
    exact ⟨f.pages.dropLast, (f.pages.getLast hne).number, (f.pages.getLast hne).bytes, hc.symm, by simpa using h⟩
end Go.Proofs.Ytjhfomihlobjgaa.D
