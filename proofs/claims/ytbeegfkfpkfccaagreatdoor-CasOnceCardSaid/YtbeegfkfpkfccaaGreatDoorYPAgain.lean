/-
 Plain law: an item of a class takes the place of one of that class; who has the number may set once; what is there is not added. Nothing of the program stands here.
-/
import Derived.Test.YtbeegfkfpkfccaaGreatDoorYPSetGets
namespace Go.Proofs.YtbeegfkfpkfccaaGreatDoor.D
def never : ByteArray := ⟨#[110, 101, 118, 101, 114]⟩
theorem never_ok : keyOK never = true := by decide
theorem held_le {s : Store} (h : SOk s) {c : Int} (hc : 0 ≤ c ∧ c ≤ 3) : countIn s.items c ≤ s.held c * per c := by
 have h0 := h.c0; have h1 := h.c1; have h2 := h.c2; have h3 := h.c3
 have : c = 0 ∨ c = 1 ∨ c = 2 ∨ c = 3 := by omega
 rcases this with rfl | rfl | rfl | rfl <;> simp [Store.held, per] <;> omega
/-- in the place of an item of the same class there is room -/
theorem put_again {s : Store} {i : Nat} {x y : Item} (h : SOk s) (hi : s.items[i]? = some x) (hk : bl x.key = bl y.key) (hc : inCls x y.cls = true) (hy : MayPut y) (hcas : s.cas < maxN) : (put s y).2 = true := by
 obtain ⟨h1, h2⟩ := List.getElem?_eq_some_iff.1 hi
 have hf : findKey s.items (bl y.key) = i := has_mem h.rise h1 (by rw [h2]; exact hk)
 have hw : without s (bl y.key) = { s with items := s.items.eraseIdx i } := by
  unfold without
  rw [if_pos (hasKey_iff.2 ⟨by rw [hf]; exact h1, by simp only [hf]; rw [h2]; exact hk⟩), hf]
 have hle := held_le h hy.cls
 have hlen := h.len
 have hce := countIn_erase h1 y.cls
 rw [h2, hc] at hce
 simp only [if_true] at hce
 have hel : (s.items.eraseIdx i).length < 1000 := by rw [List.length_eraseIdx]; split <;> omega
 unfold put
 simp only [hw]
 rw [if_neg (by show ¬ s.cas = maxN; omega)]
 have hr : (room { s with items := s.items.eraseIdx i } y.cls).2 = true := by
  unfold room
  rw [if_pos (by show countIn (s.items.eraseIdx i) y.cls < s.held y.cls * per y.cls; omega)]
  exact decide_eq_true hel
 rw [hr]
 rfl
theorem inCls_small {k v : ByteArray} {f t c u : Int} (hk : 1 ≤ k.size ∧ k.size ≤ 20) (hv : 8 + k.size + v.size ≤ 32) : inCls ⟨k, f, t, c, u, v, false, ⟨0, 0⟩⟩ 0 = true := by
 have : Item.cls ⟨k, f, t, c, u, v, false, ⟨0, 0⟩⟩ = 0 := by
  show classOf k.size v.size = 0
  unfold classOf
  rw [if_pos (by omega), if_pos (by omega)]
 unfold inCls; rw [this]; rfl
theorem cls_zero {k v : ByteArray} {f t c u : Int} (hk : 1 ≤ k.size ∧ k.size ≤ 20) (hv : 8 + k.size + v.size ≤ 32) : Item.cls ⟨k, f, t, c, u, v, false, ⟨0, 0⟩⟩ = 0 := by
 show classOf k.size v.size = 0
 unfold classOf
 rw [if_pos (by omega), if_pos (by omega)]
/-- an item that comes into a store where its key is not -/
theorem set_new_key {s : Store} {k v : ByteArray} (h : SOk s) (hu : s.uses ≤ 1099511627700) (hk : keyOK k = true) (hout : bl k ∉ keysOf s.items) (hv : v.size ≤ 200) {kd : Int} (hkd : kd = 2 ∨ kd = 3) :
  (∃ T, doOf s ⟨kd, k, [], 0, 0, 0, v, false⟩ = (T, ⟨11, 0, []⟩, 0)) ∨
  (∃ (T : Store) (i : Nat) (u : Int), doOf s ⟨kd, k, [], 0, 0, 0, v, false⟩ = (T, ⟨2, 0, []⟩, 0) ∧ SOk T ∧ T.uses ≤ s.uses + 10 ∧ T.cas = s.cas + 1 ∧ T.clock = s.clock ∧ T.items[i]? = some ⟨k, 0, 0, T.cas, u, v, false, ⟨0, 0⟩⟩ ∧ ∀ y ∈ keysOf T.items, y ∈ keysOf s.items ∨ y = bl k) := by
 have hf := fault_put (k := kd) (key := k) (v := v) (fl := 0) (exp := 0) (n := 0) (by omega) hk (by omega) (by omega) (by omega) (.inr rfl) hv
 obtain ⟨h1, h2, h3⟩ := do_is h hf (by omega)
 have hst := doReq_step h (rok hf)
 obtain ⟨x, hx⟩ : ∃ x : Item, x = ⟨k, 0, 0, 0, 0, v, false, ⟨0, 0⟩⟩ := ⟨_, rfl⟩
 have hxx : newItem s ⟨kd, k, [], 0, 0, 0, v, false⟩ = x := by rw [hx]; rfl
 have hmp : MayPut x := by rw [hx]; exact ⟨hk, by dsimp only; omega, by dsimp only; exact ⟨by omega, by decide⟩, hv, rfl, rfl⟩
 have e0 : doReq s ⟨kd, k, [], 0, 0, 0, v, false⟩ = setReq s ⟨kd, k, [], 0, 0, 0, v, false⟩ := by rcases hkd with rfl | rfl <;> rfl
 have e : setReq s ⟨kd, k, [], 0, 0, 0, v, false⟩ = ((put s x).1, if (put s x).2 then told 2 else told 11) := by
  unfold setReq
  simp only [live_absent hout, hxx]
  rcases hkd with rfl | rfl <;> rfl
 rw [e0, e] at h1 h2 h3 hst
 cases hp : (put s x).2 with
 | false =>
  rw [hp] at h1
  exact .inl ⟨_, h1⟩
 | true =>
  rw [hp] at h1
  right
  have hput : put s x = ((put s x).1, true) := Prod.ext rfl hp
  obtain ⟨i, u, g1, g2, g3⟩ := put_here h hmp hput
  refine ⟨(put s x).1, i, u, h1, h2, h3, g2, g3, ?_, fun y hy => ?_⟩
  ·rw [g1, g2, hx]
  ·rcases hst.keys y hy with h4 | h4
   ·exact .inl h4
   ·split at h4
    ·exact .inr (List.mem_singleton.1 h4)
    ·cases h4
end Go.Proofs.YtbeegfkfpkfccaaGreatDoor.D

