/-
 Plain law: who has the number that a key has still may set it, and nobody else. Nothing of the program stands here.
-/
import Derived.Test.YtbeegfkfpkfccaaGreatDoorYPAgain
namespace Go.Proofs.YtbeegfkfpkfccaaGreatDoor.D
def vOne : ByteArray := ⟨#[49]⟩
def vTwo : ByteArray := ⟨#[50]⟩
abbrev casR (k : ByteArray) (n : Int) (v : ByteArray) : Req := ⟨7, k, [], 0, 0, n, v, false⟩
theorem cas_wrong {s : Store} {k v : ByteArray} {n : Int} {i : Nat} {x : Item} (h : SOk s) (hu : s.uses ≤ 1099511627700) (hk : keyOK k = true) (hv : v.size ≤ 200) (hn : 0 ≤ n ∧ n ≤ 1099511627776) (hl : live s (bl k) = (s, some i)) (hi : s.items[i]? = some x) (hne : x.cas ≠ n) :
  doOf s (casR k n v) = (s, ⟨4, 0, []⟩, 0) := by
 obtain ⟨h1, _, _⟩ := do_is h (fault_put (k := 7) (key := k) (v := v) (fl := 0) (exp := 0) (n := n) (by omega) hk (by omega) (by omega) hn (.inl rfl) hv) (by omega)
 have e : doReq s (casR k n v) = (s, told 4) := by
  show setReq s (casR k n v) = _
  unfold setReq
  simp only [hl, Option.bind_some, hi]
  show (if x.cas ≠ n then (s, told 4) else _) = _
  rw [if_pos hne]
 rw [e] at h1
 exact h1
theorem cas_miss {s : Store} {k v : ByteArray} {n : Int} (h : SOk s) (hu : s.uses ≤ 1099511627700) (hk : keyOK k = true) (hv : v.size ≤ 200) (hn : 0 ≤ n ∧ n ≤ 1099511627776) (hl : live s (bl k) = (s, none)) :
  doOf s (casR k n v) = (s, ⟨5, 0, []⟩, 0) := by
 obtain ⟨h1, _, _⟩ := do_is h (fault_put (k := 7) (key := k) (v := v) (fl := 0) (exp := 0) (n := n) (by omega) hk (by omega) (by omega) hn (.inl rfl) hv) (by omega)
 have e : doReq s (casR k n v) = (s, told 5) := by
  show setReq s (casR k n v) = _
  unfold setReq
  simp only [hl]
  rfl
 rw [e] at h1
 exact h1
theorem cas_right {s : Store} {k v : ByteArray} {n : Int} {i : Nat} {x : Item} (h : SOk s) (hu : s.uses ≤ 1099511627700) (hcas : s.cas < maxN) (hk : keyOK k = true) (hv : 8 + k.size + v.size ≤ 32) (hn : 0 ≤ n ∧ n ≤ 1099511627776) (hl : live s (bl k) = (s, some i)) (hi : s.items[i]? = some x) (hxk : bl x.key = bl k) (hxc : inCls x 0 = true) (hne : x.cas = n) :
  ∃ (T : Store) (j : Nat) (u : Int), doOf s (casR k n v) = (T, ⟨2, 0, []⟩, 0) ∧ SOk T ∧ T.uses ≤ s.uses + 10 ∧ T.clock = s.clock ∧ T.items[j]? = some ⟨k, 0, 0, s.cas + 1, u, v, false, ⟨0, 0⟩⟩ := by
 have hks := keyOK_len hk
 obtain ⟨h1, h2, h3⟩ := do_is h (fault_put (k := 7) (key := k) (v := v) (fl := 0) (exp := 0) (n := n) (by omega) hk (by omega) (by omega) hn (.inl rfl) (by omega)) (by omega)
 obtain ⟨y, hy⟩ : ∃ y : Item, y = ⟨k, 0, 0, 0, 0, v, false, ⟨0, 0⟩⟩ := ⟨_, rfl⟩
 have hyy : newItem s (casR k n v) = y := by rw [hy]; rfl
 have hmp : MayPut y := by rw [hy]; exact ⟨hk, by dsimp only; omega, by dsimp only; exact ⟨by omega, by decide⟩, by dsimp only; omega, rfl, rfl⟩
 have hyc : y.cls = 0 := by rw [hy]; exact cls_zero hks hv
 have hp : (put s y).2 = true := put_again h hi (by rw [hxk, hy]) (by rw [hyc]; exact hxc) hmp hcas
 have hput : put s y = ((put s y).1, true) := Prod.ext rfl hp
 obtain ⟨j, u, g1, g2, g3⟩ := put_here h hmp hput
 have e : doReq s (casR k n v) = ((put s y).1, told 2) := by
  show setReq s (casR k n v) = _
  unfold setReq
  simp only [hl, Option.bind_some, hi]
  show (if x.cas ≠ n then (s, told 4) else stored s (newItem s (casR k n v))) = _
  rw [if_neg (by omega), hyy]
  unfold stored
  rw [hp]
  rfl
 rw [e] at h1 h2 h3
 exact ⟨_, j, u, h1, h2, h3, g3, by rw [g1, hy]⟩
theorem cas_once {S : Store} {m : Int} (hP : Played 40 40 12 4 S) (hm : 0 ≤ m ∧ m ≤ 8) :
  (∃ T, doOf S ⟨2, mine, [], 0, 0, 0, vOne, false⟩ = (T, ⟨11, 0, []⟩, 0)) ∨
  (∃ T A B C D M : Store, doOf S ⟨2, mine, [], 0, 0, 0, vOne, false⟩ = (T, ⟨2, 0, []⟩, 0) ∧ doOf T (getR mine) = (A, ⟨1, 0, [⟨mine, 0, T.cas, vOne⟩]⟩, 0) ∧ doOf A (casR mine T.cas vTwo) = (B, ⟨2, 0, []⟩, 0) ∧ doOf B (casR mine T.cas vTwo) = (C, ⟨4, 0, []⟩, 0) ∧
   doOf A (casR mine (T.cas + 1 + m) vTwo) = (D, ⟨4, 0, []⟩, 0) ∧ doOf A (casR never (T.cas + 1 + m) vTwo) = (M, ⟨5, 0, []⟩, 0) ∧ 0 ≤ T.cas ∧ T.cas ≤ 100) := by
 have hM : maxN = 1099511627776 := rfl
 have hu := hP.uses
 have hc := hP.cas
 have hc0 := hP.ok.cas
 rcases set_new_key (v := vOne) hP.ok (by omega) mine_ok (mine_out hP.keys) (by decide) (.inl rfl) with h | ⟨T, i, u, t1, t2, t3, t4, t5, t6, t7⟩
 ·exact .inl h
 ·right
  have hcl := t2.clock
  have hl := live_here (k := bl mine) t2.rise t6 rfl (by simp)
  obtain ⟨e1, e2⟩ := get_hit t2 (by omega) mine_ok hl t6
  have a1 := asked_at t6
  have hcas : (asked T i).cas = T.cas := rfl
  have hus : (asked T i).uses = T.uses + 1 := rfl
  have hke : keysOf (asked T i).items = keysOf T.items := asked_same T i
  obtain ⟨A, hA⟩ : ∃ A, A = asked T i := ⟨_, rfl⟩
  rw [← hA] at e1 e2 a1 hcas hus hke
  have hlA := live_here (k := bl mine) e2.rise a1 rfl (by simp)
  obtain ⟨B, j, u2, b1, b2, b3, b4, b5⟩ := cas_right (v := vTwo) (n := T.cas) e2 (by omega) (by omega) mine_ok (by decide) (by omega) hlA a1 rfl (inCls_small (k := mine) (v := vOne) (by decide) (by decide)) rfl
  have hlB := live_here (k := bl mine) b2.rise b5 rfl (by simp)
  have c1 := cas_wrong (v := vTwo) (n := T.cas) b2 (by omega) mine_ok (by decide) (by omega) hlB b5 (by dsimp only; omega)
  have d1 := cas_wrong (v := vTwo) (n := T.cas + 1 + m) e2 (by omega) mine_ok (by decide) (by omega) hlA a1 (by dsimp only; omega)
  have hno : bl never ∉ keysOf A.items := fun hm' => by
   rw [hke] at hm'
   rcases t7 _ hm' with h | h
   ·exact absurd (hP.keys _ h) (by decide)
   ·exact absurd h (by decide)
  have m1 := cas_miss (v := vTwo) (n := T.cas + 1 + m) e2 (by omega) never_ok (by decide) (by omega) (live_absent hno)
  exact ⟨T, A, B, B, A, A, t1, e1, b1, c1, d1, m1, by omega, by omega⟩
end Go.Proofs.YtbeegfkfpkfccaaGreatDoor.D

