/-
  Plain law: the numbers of a store that may be lie in their bounds.
-/
import Derived.Test.YtbipegbgfdpaeaaDoorPSnap
namespace Go.Proofs.YtbipegbgfdpaeaaDoor.D
theorem findRec_some {b : Str} {q : Int} {v : Str} : ∀ {k : Nat}, findRec b k q = some v → ∃ j : Nat, q = j ∧ j < b.length := by
  intro k
  induction hn : b.length - k using Nat.strongRecOn generalizing k with
  | ind n ih =>
    intro h
    by_cases hk : k < b.length
    · by_cases e : (k : Int) = q
      · exact ⟨k, e.symm, hk⟩
      · rw [findRec_miss hk e] at h
        exact ih _ (by omega) rfl h
    · rw [findRec_end (by omega)] at h; cases h
theorem pagesOK_num : ∀ (ps : List Page) (n : Int), pagesOK ps n = true → ∀ p ∈ ps, 1 ≤ p.number ∧ p.number < n + ps.length ∧ p.bytes.length ≤ 256
  | [], _, _, p, hp => by simp at hp
  | q :: r, n, h, p, hp => by
    rw [pagesOK_cons, Bool.and_eq_true, Bool.and_eq_true, decide_eq_true_eq] at h
    obtain ⟨⟨⟨h1, h2, h3, h4⟩, _⟩, h5⟩ := h
    rcases List.mem_cons.1 hp with rfl | hp
    · exact ⟨by omega, by simp only [List.length_cons]; omega, h4⟩
    · have := pagesOK_num r _ h5 p hp
      simp only [List.length_cons]; omega
theorem flash_nums {f : Flash} (h : f.ok = true) : (0 ≤ f.most ∧ f.most ≤ 20) ∧ (1 ≤ f.next ∧ f.next ≤ 1099511627776) ∧ f.pages.length ≤ 20 ∧ ∀ p ∈ f.pages, 1 ≤ p.number ∧ p.number ≤ 1099511627776 ∧ p.bytes.length ≤ 256 := by
  unfold Flash.ok at h
  rw [Bool.and_eq_true, decide_eq_true_eq] at h
  obtain ⟨⟨h1, h2, h3, h4, h5⟩, h6⟩ := h
  have : maxN = 1099511627776 := rfl
  refine ⟨by omega, by omega, by omega, fun p hp => ?_⟩
  have := pagesOK_num _ _ h6 p hp
  omega
theorem place_nums {f : Flash} {q : Place} (h : (f.read q).2 = 0) : (1 ≤ q.page ∧ q.page ≤ 1099511627776) ∧ 0 ≤ q.off ∧ q.off < 256 := by
  unfold Flash.read at h
  cases hok : f.ok with
  | false => rw [hok] at h; simp at h
  | true =>
    rw [hok] at h
    simp only [Bool.true_eq_false, if_false] at h
    unfold Flash.pageOf at h
    cases hp : f.pages.find? (fun p => p.number == q.page) with
    | none => rw [hp] at h; simp at h
    | some p =>
      rw [hp] at h
      have hm := List.mem_of_find?_eq_some hp
      have he := List.find?_some hp
      have hb := (flash_nums hok).2.2.2 p hm
      have e : p.number = q.page := by simpa using he
      cases hr : findRec p.bytes 0 q.off with
      | none => simp only at h; rw [hr] at h; simp at h
      | some v =>
        obtain ⟨j, hj, hl⟩ := findRec_some hr
        omega
structure ItemNums (x : Item) : Prop where
  key : 1 ≤ x.key.size ∧ x.key.size ≤ 20
  flags : 0 ≤ x.flags ∧ x.flags ≤ 65535
  till : 0 ≤ x.till ∧ x.till ≤ 1099511627776
  cas : 1 ≤ x.cas ∧ x.cas ≤ 1099511627776
  used : 1 ≤ x.used ∧ x.used ≤ 1099511627776
  value : x.value.size ≤ 200
  place : x.far = true → (1 ≤ x.place.page ∧ x.place.page ≤ 1099511627776) ∧ 0 ≤ x.place.off ∧ x.place.off < 256
theorem bl_len (s : ByteArray) : (bl s).length = s.size := by simp [bl]
theorem item_nums {s : Store} {x : Item} (h : itemOK s x = true) (h1 : s.cas ≤ 1099511627776) (h2 : s.uses ≤ 1099511627776) : ItemNums x := by
  unfold itemOK at h
  simp only [Bool.and_eq_true, decide_eq_true_eq] at h
  obtain ⟨⟨⟨⟨⟨⟨k1, k2⟩, k3⟩, k4⟩, k5⟩, k6⟩, k7⟩ := h
  have : maxN = 1099511627776 := rfl
  unfold cnt at k3
  rw [decide_eq_true_eq] at k3
  unfold keyOK keyL at k1
  rw [Bool.and_eq_true, decide_eq_true_eq, bl_len] at k1
  refine ⟨by omega, k2, by omega, by omega, by omega, k6, fun hf => ?_⟩
  rw [hf] at k7
  simp only [if_true, Bool.and_eq_true, decide_eq_true_eq] at k7
  exact place_nums k7.1.1
structure StoreNums (s : Store) : Prop where
  clock : 0 ≤ s.clock ∧ s.clock ≤ 1099511627776
  cas : 0 ≤ s.cas ∧ s.cas ≤ 1099511627776
  uses : 0 ≤ s.uses ∧ s.uses ≤ 1099511627776
  most : 0 ≤ s.most ∧ s.most ≤ 40
  h0 : 0 ≤ s.h0 ∧ s.h0 ≤ 40
  h1 : 0 ≤ s.h1 ∧ s.h1 ≤ 40
  h2 : 0 ≤ s.h2 ∧ s.h2 ≤ 40
  h3 : 0 ≤ s.h3 ∧ s.h3 ≤ 40
  len : s.items.length ≤ 1000
  flash : s.flash.ok = true
  items : ∀ x ∈ s.items, ItemNums x
theorem store_nums {s : Store} (h : s.ok = true) : StoreNums s := by
  unfold Store.ok at h
  simp only [Bool.and_eq_true, decide_eq_true_eq] at h
  obtain ⟨⟨⟨⟨⟨⟨⟨⟨⟨⟨⟨⟨⟨⟨⟨⟨a1, a2⟩, a3⟩, a4⟩, a5⟩, a6⟩, b0⟩, b1⟩, b2⟩, b3⟩, hi⟩, _⟩, _⟩, _⟩, _⟩, _⟩, _⟩ := h
  have : maxN = 1099511627776 := rfl
  unfold cnt at a1 a2 a3
  unfold heldOK at b0 b1 b2 b3
  rw [decide_eq_true_eq] at a1 a2 a3 b0 b1 b2 b3
  exact ⟨by omega, by omega, by omega, a4, by omega, by omega, by omega, by omega, a5, a6, fun x hx => item_nums (List.all_eq_true.1 hi x hx) (by omega) (by omega)⟩
theorem nums_ok {s : Store} (h : StoreNums s) (k : Nat) (hk : k < (numsOf s).length) : 0 ≤ (numsOf s)[k] ∧ (numsOf s)[k] ≤ 1099511627776 := by
  obtain ⟨a1, a2, a3, a4, b0, b1, b2, b3, c, f, _⟩ := h
  have hf := flash_nums f
  have hm : (numsOf s)[k] ∈ numsOf s := List.getElem_mem hk
  generalize (numsOf s)[k] = n at hm
  simp only [numsOf, List.mem_cons, List.not_mem_nil, or_false] at hm
  rcases hm with rfl | rfl | rfl | rfl | rfl | rfl | rfl | rfl | rfl | rfl | rfl <;> omega
theorem textOf_len (l : Str) (h : l.length ≤ 1000000) : (textOf l).length ≤ 10 + l.length := by
  have := sev_le (n := l.length) (by omega)
  unfold textOf; rw [List.length_append]; omega
end Go.Proofs.YtbipegbgfdpaeaaDoor.D
