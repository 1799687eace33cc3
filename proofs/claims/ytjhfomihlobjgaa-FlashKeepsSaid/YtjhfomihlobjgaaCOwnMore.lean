/-
  Flash in memory of the call's own: one page more; one page without the first; the last page's bytes anew. Lemmas on worlds alone.
-/
import Derived.Test.YtjhfomihlobjgaaCVals
import Derived.Test.YtjhfomihlobjgaaCCopy
namespace Go.Proofs.Ytjhfomihlobjgaa.D
open Go.RowKit

/-- pages of the call's own, all of them -/
abbrev PagesOwn (base : Nat) (w : World) (v : Value) (ps : List Page) (vs : List Value) : Prop := PagesMid base w w v ps vs ps.length
theorem PagesOwn.mk {base : Nat} {w : World} {v : Value} {ps : List Page} {vs : List Value} (hl : vs.length = ps.length) (hr : w.ownsRow base 69 2 v ps.length (pageCells ps vs))
    (hd : ∀ (j : Nat) (p : Page) (u : Value), ps[j]? = some p → vs[j]? = some u → w.ownsRow base 5 1 u p.bytes.length (p.bytes.map byteV))
    (ha : ∀ (i j : Nat) (u u' : Value) (b : Nat), i < j → vs[i]? = some u → vs[j]? = some u' → u.ownBlock = some b → u'.ownBlock ≠ some b) : PagesOwn base w v ps vs := by
  refine ⟨hl, hr, fun j p u h1 h2 _ => hd j p u h1 h2, fun j p u h1 _ h3 => absurd (List.getElem?_eq_some_iff.1 h1).1 (by omega), fun j u b h1 _ h3 => ?_, fun i j u u' b h1 _ h2 h3 h4 => ha i j u u' b h1 h2 h3 h4⟩
  have hj := (List.getElem?_eq_some_iff.1 h1).1
  have := own_types (hd j _ u (List.getElem?_eq_getElem (by omega)) h1) hr (by decide)
  rw [h3] at this
  rcases this with h | h
  · cases h
  · exact fun e => h e.symm
theorem PagesMid.byte {base : Nat} {w : World} {v : Value} {ps : List Page} {vs : List Value} (h : PagesOwn base w v ps vs) (j : Nat) (p : Page) (u : Value) (h1 : ps[j]? = some p) (h2 : vs[j]? = some u) :
    w.ownsRow base 5 1 u p.bytes.length (p.bytes.map byteV) := h.done j p u h1 h2 (List.getElem?_eq_some_iff.1 h1).1
theorem PagesMid.far {base : Nat} {w : World} {v : Value} {ps : List Page} {vs : List Value} (h : PagesOwn base w v ps vs) : ∀ (i j : Nat) (u u' : Value) (b : Nat), i < j → vs[i]? = some u → vs[j]? = some u' → u.ownBlock = some b → u'.ownBlock ≠ some b :=
  fun i j u u' b hij h1 h2 h3 => h.apart i j u u' b hij (by have := (List.getElem?_eq_some_iff.1 h2).1; have := h.len; omega) h1 h2 h3
/-- all of it is as it was, where its blocks are -/
theorem PagesMid.kept {base : Nat} {w w' : World} {v : Value} {ps : List Page} {vs : List Value} (h : PagesOwn base w v ps vs) (hb : ∀ k, base ≤ k → k < w.heap.size → w'.heap[k]? = w.heap[k]?) : PagesOwn base w' v ps vs := by
  have keep : ∀ {e size : Nat} {x : Value} {n : Nat} {xs : List Value}, w.ownsRow base e size x n xs → w'.ownsRow base e size x n xs := by
    intro e size x n xs hx
    refine ⟨hx.1, ?_⟩
    rcases hx.2 with hn | ⟨g, cap, cur, rfl, hg, hh, rest⟩
    · exact .inl hn
    · exact .inr ⟨g, cap, cur, rfl, hg, by rw [hb g hg (Array.getElem?_eq_some_iff.1 hh).1]; exact hh, rest⟩
  exact PagesOwn.mk h.len (keep h.row) (fun j p u h1 h2 => keep (h.byte j p u h1 h2)) h.far
/-- one page more -/
theorem PagesMid.snoc {base : Nat} {w w' : World} {v v' : Value} {ps : List Page} {vs : List Value} {p : Page} {u : Value} (h : PagesOwn base w v ps vs)
    (hold : ∀ (x : Value) (m : Nat) (xs : List Value), w.ownsRow base 5 1 x m xs → w'.ownsRow base 5 1 x m xs) (hu : w'.ownsRow base 5 1 u p.bytes.length (p.bytes.map byteV))
    (hnew : ∀ b, u.ownBlock = some b → w.heap.size ≤ b) (hrow : w'.ownsRow base 69 2 v' (ps.length + 1) (pageCells ps vs ++ [.int .i64 p.number, u])) : PagesOwn base w' v' (ps ++ [p]) (vs ++ [u]) := by
  refine PagesOwn.mk (by simp [h.len]) ?_ ?_ ?_
  · rw [pageCells_append ps [p] vs [u] h.len, List.length_append]; exact hrow
  · intro j q x h1 h2
    by_cases hj : j < ps.length
    · rw [List.getElem?_append_left hj] at h1
      rw [List.getElem?_append_left (by rw [h.len]; exact hj)] at h2
      exact hold _ _ _ (h.byte j q x h1 h2)
    · rw [List.getElem?_append_right (by omega)] at h1
      rw [List.getElem?_append_right (by rw [h.len]; omega), h.len] at h2
      have h0 : j - ps.length = 0 := by
        have := (List.getElem?_eq_some_iff.1 h1).1
        simp at this; omega
      rw [h0] at h1 h2
      simp at h1 h2
      subst h1 h2
      exact hu
  · intro i j x x' b hij h1 h2 h3
    have hj : j < vs.length + 1 := by have := (List.getElem?_eq_some_iff.1 h2).1; simpa using this
    rw [List.getElem?_append_left (by omega)] at h1
    by_cases hj2 : j < vs.length
    · rw [List.getElem?_append_left hj2] at h2
      exact h.far i j x x' b hij h1 h2 h3
    · rw [List.getElem?_append_right (by omega), show j - vs.length = 0 by omega] at h2
      simp at h2
      subst h2
      intro h4
      have h5 := hnew b h4
      have hi : i < ps.length := by rw [← h.len]; omega
      have h6 := (h.byte i _ x (List.getElem?_eq_getElem hi) h1).lt b h3
      omega
/-- without the first page -/
theorem PagesMid.tail {base : Nat} {w w' : World} {v v' : Value} {p : Page} {ps : List Page} {u : Value} {vs : List Value} (h : PagesOwn base w v (p :: ps) (u :: vs))
    (hold : ∀ (x : Value) (m : Nat) (xs : List Value), w.ownsRow base 5 1 x m xs → w'.ownsRow base 5 1 x m xs) (hrow : w'.ownsRow base 69 2 v' ps.length (pageCells ps vs)) : PagesOwn base w' v' ps vs :=
  PagesOwn.mk (by have := h.len; simpa using this) hrow (fun j q x h1 h2 => hold _ _ _ (h.byte (j + 1) q x (by simpa using h1) (by simpa using h2)))
    (fun i j x x' b hij h1 h2 h3 => h.far (i + 1) (j + 1) x x' b (by omega) (by simpa using h1) (by simpa using h2) h3)
/-- the last page's bytes anew -/
theorem PagesMid.last {base : Nat} {w w' : World} {g n c : Nat} {ps : List Page} {vs : List Value} {num : Int} {b b' : Str} {u u' : Value} (h : PagesOwn base w (.slice (some ⟨g, 0, none⟩) n c) (ps ++ [⟨num, b⟩]) (vs ++ [u])) (hl : vs.length = ps.length)
    (hg : w.grownBy w' u.ownBlock) (hu : w'.ownsRow base 5 1 u' b'.length (b'.map byteV)) (hat : ∀ k, u'.ownBlock = some k → u.ownBlock = some k ∨ w.heap.size ≤ k) :
    PagesOwn base (w'.setCell ⟨g, ps.length * 2 + 1, none⟩ u') (.slice (some ⟨g, 0, none⟩) n c) (ps ++ [⟨num, b'⟩]) (vs ++ [u']) := by
  obtain ⟨g', cap', hv, _⟩ := own_shape h.row (by simp)
  cases hv
  have hu0 := h.byte ps.length ⟨num, b⟩ u (by simp) (by rw [← hl]; simp)
  have hrow := (h.row.kept hg (own_types h.row hu0 (by decide))).stored (ps.length * 2 + 1) u'
  have hset : (pageCells (ps ++ [⟨num, b⟩]) (vs ++ [u])).set (ps.length * 2 + 1) u' = pageCells (ps ++ [⟨num, b'⟩]) (vs ++ [u']) := by
    have hl2 : (pageCells ps vs).length = ps.length * 2 := pageCells_length ps vs hl
    rw [pageCells_append ps _ vs _ hl, pageCells_append ps _ vs _ hl, List.set_append_right _ _ (by omega), hl2]
    rw [show ps.length * 2 + 1 - ps.length * 2 = 1 by omega]; rfl
  rw [hset] at hrow
  have hother : ∀ {x : Value} {m : Nat} {xs : List Value}, w'.ownsRow base 5 1 x m xs → (w'.setCell ⟨g, ps.length * 2 + 1, none⟩ u').ownsRow base 5 1 x m xs := by
    intro x m xs h1
    have hr' := h.row.kept hg (own_types h.row hu0 (by decide))
    exact h1.kept hrow.2 (own_types h1 hr' (by decide))
  refine PagesOwn.mk (by simp [hl]) (by have h2 := hrow.1; simp only [List.length_append, List.length_cons, List.length_nil] at h2 ⊢; exact h2) ?_ ?_
  · intro j q x h1 h2
    by_cases hj : j < ps.length
    · rw [List.getElem?_append_left hj] at h1
      rw [List.getElem?_append_left (by omega)] at h2
      refine hother ((h.byte j q x (by rw [List.getElem?_append_left hj]; exact h1) (by rw [List.getElem?_append_left (by omega)]; exact h2)).kept hg ?_)
      cases hx : x.ownBlock with
      | none => exact .inl rfl
      | some k =>
        right
        intro e
        exact h.far j ps.length x u k hj (by rw [List.getElem?_append_left (by omega)]; exact h2) (by rw [← hl]; simp) hx e.symm
    · rw [List.getElem?_append_right (by omega)] at h1
      rw [List.getElem?_append_right (by omega), hl] at h2
      have h0 : j - ps.length = 0 := by
        have := (List.getElem?_eq_some_iff.1 h1).1
        simp at this; omega
      rw [h0] at h1 h2
      simp at h1 h2
      subst h1 h2
      exact hother hu
  · intro i j x x' k hij h1 h2 h3
    have hj : j < vs.length + 1 := by have := (List.getElem?_eq_some_iff.1 h2).1; simpa using this
    rw [List.getElem?_append_left (by omega)] at h1
    by_cases hj2 : j < vs.length
    · rw [List.getElem?_append_left hj2] at h2
      exact h.far i j x x' k hij (by rw [List.getElem?_append_left (by omega)]; exact h1) (by rw [List.getElem?_append_left hj2]; exact h2) h3
    · rw [List.getElem?_append_right (by omega), show j - vs.length = 0 by omega] at h2
      simp at h2
      subst h2
      intro h4
      have hi : i < ps.length := by omega
      have h1' : (vs ++ [u])[i]? = some x := by rw [List.getElem?_append_left (by omega)]; exact h1
      rcases hat k h4 with h5 | h5
      · exact h.far i ps.length x u k hi h1' (by rw [← hl]; simp) h3 h5
      · have h6 := (h.byte i _ x (List.getElem?_eq_getElem (by simp; omega)) h1').lt k h3
        omega
end Go.Proofs.Ytjhfomihlobjgaa.D
