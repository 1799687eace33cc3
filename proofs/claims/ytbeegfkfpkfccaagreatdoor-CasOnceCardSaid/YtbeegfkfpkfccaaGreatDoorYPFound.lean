/-
 Plain law: what a key finds: behind a put, behind a delete; what the requests of the keep laws answer. Nothing of the program stands here.
-/
import Derived.Test.YtbeegfkfpkfccaaGreatDoorYPPlay
namespace Go.Proofs.YtbeegfkfpkfccaaGreatDoor.D
theorem live_absent {s : Store} {k : Str} (h : k ∉ keysOf s.items) : live s k = (s, none) := by
 unfold live
 simp only
 split
 ·rename_i x hx
  rw [if_neg]
  intro e
  obtain ⟨h1, h2⟩ := List.getElem?_eq_some_iff.1 hx
  refine h (List.mem_map.2 ⟨x, ?_, by simpa using e⟩)
  rw [← h2]; exact List.getElem_mem h1
 ·rfl
/-- where an item of this key is, and its time is not over -/
theorem live_here {s : Store} {k : Str} {i : Nat} {x : Item} (hr : rising s.items = true) (hi : s.items[i]? = some x) (hk : bl x.key = k) (ht : ¬ (x.till ≠ 0 ∧ x.till ≤ s.clock)) : live s k = (s, some i) := by
 obtain ⟨h1, h2⟩ := List.getElem?_eq_some_iff.1 hi
 have hf : findKey s.items k = i := has_mem hr h1 (by rw [h2]; exact hk)
 unfold live
 simp only [hf, hi]
 rw [if_pos (by simp [hk]), if_neg ht]
/-- .. where its time is over -/
theorem live_over {s : Store} {k : Str} {i : Nat} {x : Item} (hr : rising s.items = true) (hi : s.items[i]? = some x) (hk : bl x.key = k) (ht : x.till ≠ 0 ∧ x.till ≤ s.clock) : live s k = ({ s with items := s.items.eraseIdx i }, none) := by
 obtain ⟨h1, h2⟩ := List.getElem?_eq_some_iff.1 hi
 have hf : findKey s.items k = i := has_mem hr h1 (by rw [h2]; exact hk)
 unfold live
 simp only [hf, hi]
 rw [if_pos (by simp [hk]), if_pos ht]
/-- a put that was done: the item stands there -/
theorem put_here {s t : Store} {x : Item} (h : SOk s) (hx : MayPut x) (hp : put s x = (t, true)) : ∃ (i : Nat) (u : Int), t.items[i]? = some { x with cas := s.cas + 1, used := u } ∧ t.cas = s.cas + 1 ∧ t.clock = s.clock := by
 obtain ⟨g1, g2, g3, g4, g5⟩ := h.without (bl x.key)
 obtain ⟨r1, r2, r3, r4, r5, r6⟩ := g1.room hx.cls
 unfold put at hp
 simp only at hp
 split at hp
 ·cases hp
 ·split at hp
  ·have e : with1 (D.room (D.without s (bl x.key)) x.cls).1 x = t := congrArg Prod.fst hp
   rw [← e]
   refine ⟨findKey (D.room (D.without s (bl x.key)) x.cls).1.items (bl x.key), (D.room (D.without s (bl x.key)) x.cls).1.uses + 1, ?_, by show (D.room (D.without s (bl x.key)) x.cls).1.cas + 1 = _; rw [r3, g3], by show (D.room (D.without s (bl x.key)) x.cls).1.clock = _; rw [r5, g5]⟩
   show (List.insertIdx _ _ _)[_]? = _
   rw [insertIdx_is _ _ _ (findKey_le _ _), List.getElem?_append_right (by rw [List.length_take]; omega), List.length_take, Nat.min_eq_left (findKey_le _ _), Nat.sub_self]
   simp [r3, g3]
  ·cases hp
/-- a get that finds -/
theorem get_hit {s : Store} {k : ByteArray} {i : Nat} {x : Item} (h : SOk s) (hu : s.uses ≤ 1099511627766) (hk : keyOK k = true) (hl : live s (bl k) = (s, some i)) (hx : s.items[i]? = some x) :
  doOf s ⟨1, ⟨#[]⟩, [k], 0, 0, 0, ⟨#[]⟩, false⟩ = (asked s i, ⟨1, 0, [⟨k, x.flags, x.cas, valueOf s x⟩]⟩, 0) ∧ SOk (asked s i) := by
 obtain ⟨h1, h2, _⟩ := do_is h (fault_get (ks := [k]) (by simp) (by simp [hk])) hu
 have e : doReq s ⟨1, ⟨#[]⟩, [k], 0, 0, 0, ⟨#[]⟩, false⟩ = (asked s i, ⟨1, 0, [⟨k, x.flags, x.cas, valueOf s x⟩]⟩) := by
  show ((got s [k]).1, Reply.mk 1 0 (got s [k]).2) = _
  have hg : got s [k] = got1 (s, []) k := rfl
  rw [hg]
  unfold got1
  simp only [hl, hx]
  rfl
 rw [e] at h1 h2
 exact ⟨h1, h2⟩
/-- a get that finds nothing -/
theorem get_miss {s : Store} {k : ByteArray} (h : SOk s) (hu : s.uses ≤ 1099511627766) (hk : keyOK k = true) (hl : (live s (bl k)).2 = none) :
  doOf s ⟨1, ⟨#[]⟩, [k], 0, 0, 0, ⟨#[]⟩, false⟩ = ((live s (bl k)).1, ⟨1, 0, []⟩, 0) ∧ SOk (live s (bl k)).1 := by
 obtain ⟨h1, h2, _⟩ := do_is h (fault_get (ks := [k]) (by simp) (by simp [hk])) hu
 have e : doReq s ⟨1, ⟨#[]⟩, [k], 0, 0, 0, ⟨#[]⟩, false⟩ = ((live s (bl k)).1, ⟨1, 0, []⟩) := by
  show ((got s [k]).1, Reply.mk 1 0 (got s [k]).2) = _
  have hg : got s [k] = got1 (s, []) k := rfl
  rw [hg]
  unfold got1
  simp only [hl]
 rw [e] at h1 h2
 exact ⟨h1, h2⟩
/-- a delete -/
theorem del_is {s : Store} {k : ByteArray} (h : SOk s) (hu : s.uses ≤ 1099511627766) (hk : keyOK k = true) :
  ∃ t, doOf s ⟨8, k, [], 0, 0, 0, ⟨#[]⟩, false⟩ = (t, ⟨if (live s (bl k)).2.isSome then 6 else 5, 0, []⟩, 0) ∧ SOk t ∧ t.uses = s.uses ∧ bl k ∉ keysOf t.items := by
 obtain ⟨h1, h2, _⟩ := do_is h (fault_key (k := 8) (key := k) (exp := 0) (n := 0) (by omega) hk (by omega) (.inr rfl) (by omega) (.inr (.inr rfl))) hu
 have e0 : doReq s ⟨8, k, [], 0, 0, 0, ⟨#[]⟩, false⟩ = goneReq s ⟨8, k, [], 0, 0, 0, ⟨#[]⟩, false⟩ := rfl
 have hw := h.without (bl k)
 cases hl : (live s (bl k)).2 with
 | none =>
  have e : goneReq s ⟨8, k, [], 0, 0, 0, ⟨#[]⟩, false⟩ = ((live s (bl k)).1, told 5) := by
   unfold goneReq
   simp only [hl]
  rw [e0, e] at h1 h2
  refine ⟨_, h1, h2, (live_uses s (bl k)).1, ?_⟩
  have hx : (live s (bl k)).1 = without s (bl k) := by
   unfold live at hl ⊢
   unfold without hasKey
   simp only at hl ⊢
   split
   ·rename_i x hx
    rw [hx] at hl
    simp only at hl
    by_cases hb : (bl x.key == bl k) = true
    ·rw [if_pos hb] at hl ⊢
     by_cases ht : x.till ≠ 0 ∧ x.till ≤ s.clock
     ·rw [if_pos ht, if_pos hb]
     ·rw [if_neg ht] at hl; cases hl
    ·rw [if_neg hb, if_neg hb]
   ·rfl
  show bl k ∉ keysOf (live s (bl k)).1.items
  rw [hx]; exact hw.2.1
 | some i =>
  obtain ⟨q1, q2, hi, q3, q4⟩ := live_some hl
  have e : goneReq s ⟨8, k, [], 0, 0, 0, ⟨#[]⟩, false⟩ = ({ s with items := s.items.eraseIdx i }, told 6) := by
   unfold goneReq
   simp only [hl, q1]
   rfl
  rw [e0, e] at h1 h2
  refine ⟨_, h1, h2, rfl, ?_⟩
  have hx : without s (bl k) = { s with items := s.items.eraseIdx i } := by
   unfold without
   rw [if_pos (hasKey_iff.2 ⟨by rw [← q2]; exact hi, by simp only [← q2]; exact q3⟩), ← q2]
  have := hw.2.1
  rw [hx] at this
  exact this
/-- all are flushed -/
theorem flush_is {s : Store} (h : SOk s) (hu : s.uses ≤ 1099511627766) : ∃ t, doOf s ⟨12, ⟨#[]⟩, [], 0, 0, 0, ⟨#[]⟩, false⟩ = (t, ⟨9, 0, []⟩, 0) ∧ SOk t ∧ t.items = [] ∧ t.cas = s.cas ∧ t.uses = s.uses := by
 obtain ⟨h1, h2, _⟩ := do_is h fault_flush hu
 exact ⟨_, h1, h2, rfl, rfl, rfl⟩
/-- keys of which none is there -/
theorem none_found {s : Store} {ks : List ByteArray} (h : SOk s) (hu : s.uses ≤ 1099511627766) (hk : 1 ≤ ks.length ∧ ks.length ≤ 10) (hok : ∀ k ∈ ks, keyOK k = true) (hi : s.items = []) :
  doOf s ⟨1, ⟨#[]⟩, ks, 0, 0, 0, ⟨#[]⟩, false⟩ = (s, ⟨1, 0, []⟩, 0) := by
 obtain ⟨h1, _, _⟩ := do_is h (fault_get hk hok) hu
 have hg : ∀ ks : List ByteArray, ks.foldl got1 (s, []) = (s, []) := by
  intro ks
  induction ks with
  | nil => rfl
  | cons k ks ih =>
   have h1 : got1 (s, []) k = (s, []) := by
    unfold got1
    simp only [live_absent (s := s) (k := bl k) (by rw [hi]; simp [keysOf])]
   rw [List.foldl_cons, h1]; exact ih
 rw [h1]
 show ((ks.foldl got1 (s, [])).1, Reply.mk 1 0 (ks.foldl got1 (s, [])).2, 0) = _
 rw [hg]
end Go.Proofs.YtbeegfkfpkfccaaGreatDoor.D

