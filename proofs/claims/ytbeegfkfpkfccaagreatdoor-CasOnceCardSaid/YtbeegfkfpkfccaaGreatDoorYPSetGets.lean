/-
 Plain law: what was set is found, till its time is over. Nothing of the program stands here.
-/
import Derived.Test.YtbeegfkfpkfccaaGreatDoorYPFound
namespace Go.Proofs.YtbeegfkfpkfccaaGreatDoor.D
def mine : ByteArray := ⟨#[109, 105, 110, 101]⟩
theorem mine_ok : keyOK mine = true := by decide
theorem mine_out {s : Store} (h : ∀ y ∈ keysOf s.items, y ∈ K8.map bl) : bl mine ∉ keysOf s.items := fun hm => absurd (h _ hm) (by decide)
/-- time goes on -/
theorem SOk.later {s : Store} (h : SOk s) {m : Int} (hm : 0 ≤ m) (hc : s.clock + m ≤ maxN) : SOk { s with clock := s.clock + m } :=
 ⟨⟨by have := h.clock; show 0 ≤ s.clock + m; omega, hc⟩, h.cas, h.uses, h.most, h.len, h.flash, h.h0, h.h1, h.h2, h.h3, fun x hx => itemOK_up (h.items x hx) (Int.le_refl _) (Int.le_refl _) (fun _ => rfl), h.rise, h.c0, h.c1, h.c2, h.c3, h.sum⟩
theorem asked_at {s : Store} {i : Nat} {x : Item} (h : s.items[i]? = some x) : (asked s i).items[i]? = some { x with used := s.uses + 1 } := by
 show (s.items.modify i _)[i]? = _
 rw [List.getElem?_modify, h]; simp
/-- a get of this key, spelt out -/
abbrev getR (k : ByteArray) : Req := ⟨1, ⟨#[]⟩, [k], 0, 0, 0, ⟨#[]⟩, false⟩
theorem set_gets {S : Store} {v : ByteArray} {n : Int} (hP : Played 50 50 12 4 S) (hv : v.size ≤ 200) (hn : 1 ≤ n ∧ n ≤ 20) :
  (∃ T, doOf S ⟨2, mine, [], 5, n, 0, v, false⟩ = (T, ⟨11, 0, []⟩, 0)) ∨
  (∃ T U W Y, doOf S ⟨2, mine, [], 5, n, 0, v, false⟩ = (T, ⟨2, 0, []⟩, 0) ∧ doOf T (getR mine) = (U, ⟨1, 0, [⟨mine, 5, T.cas, v⟩]⟩, 0) ∧ SOk U ∧ U.clock ≤ 400 ∧
   doOf { U with clock := U.clock + (n - 1) } (getR mine) = (W, ⟨1, 0, [⟨mine, 5, T.cas, v⟩]⟩, 0) ∧ doOf { U with clock := U.clock + n } (getR mine) = (Y, ⟨1, 0, []⟩, 0)) := by
 have hM : maxN = 1099511627776 := rfl
 have hu := hP.uses
 have hc := hP.clock
 have hc0 := hP.ok.clock
 obtain ⟨h1, h2, h3⟩ := do_is hP.ok (fault_put (k := 2) (key := mine) (v := v) (fl := 5) (exp := n) (n := 0) (by omega) mine_ok (by omega) (by omega) (by omega) (.inr rfl) hv) (by omega)
 obtain ⟨x, hx⟩ : ∃ x : Item, x = ⟨mine, 5, S.clock + n, 0, 0, v, false, ⟨0, 0⟩⟩ := ⟨_, rfl⟩
 have hun : untilOf S n = S.clock + n := by unfold untilOf; rw [if_neg (by omega)]; omega
 have hxx : newItem S ⟨2, mine, [], 5, n, 0, v, false⟩ = x := by
  rw [hx]
  show Item.mk mine 5 (untilOf S n) 0 0 v false ⟨0, 0⟩ = _
  rw [hun]
 have hmp : MayPut x := by rw [hx]; exact ⟨mine_ok, by dsimp only; omega, by dsimp only; omega, hv, rfl, rfl⟩
 have e : doReq S ⟨2, mine, [], 5, n, 0, v, false⟩ = ((put S x).1, if (put S x).2 then told 2 else told 11) := by
  show stored (live S (bl mine)).1 (newItem (live S (bl mine)).1 ⟨2, mine, [], 5, n, 0, v, false⟩) = _
  rw [live_absent (mine_out hP.keys), hxx]
  rfl
 rw [e] at h1 h2 h3
 cases hp : (put S x).2 with
 | false =>
  rw [hp] at h1
  exact .inl ⟨_, h1⟩
 | true =>
  rw [hp] at h1
  right
  obtain ⟨T, hT⟩ : ∃ T, T = (put S x).1 := ⟨_, rfl⟩
  have hput : put S x = (T, true) := Prod.ext hT.symm hp
  obtain ⟨i, u, g1, g2, g3⟩ := put_here hP.ok hmp hput
  simp only [← hT] at h1 h2 h3
  have hl := live_here (k := bl mine) h2.rise g1 (by rw [hx]) (by rw [hx]; dsimp only; omega)
  obtain ⟨e1, e2⟩ := get_hit h2 (by omega) mine_ok hl g1
  have a1 := asked_at g1
  have hr := e2.rise
  have hcl : (asked T i).clock = S.clock := g3
  have hus : (asked T i).uses = T.uses + 1 := rfl
  have hv1 : ∀ s : Store, ∀ c w : Int, valueOf s { x with cas := c, used := w } = v := fun s c w => by rw [hx]; rfl
  obtain ⟨U, hU⟩ : ∃ U, U = asked T i := ⟨_, rfl⟩
  rw [← hU] at e1 e2 a1 hr hcl hus
  have k1 := e2.later (m := n - 1) (by omega) (by omega)
  have k2 := e2.later (m := n) (by omega) (by omega)
  have l1 : live { U with clock := U.clock + (n - 1) } (bl mine) = ({ U with clock := U.clock + (n - 1) }, some i) := live_here (s := { U with clock := U.clock + (n - 1) }) hr a1 (by rw [hx]) (by rw [hx]; dsimp only; omega)
  have l2 := live_over (s := { U with clock := U.clock + n }) (k := bl mine) hr a1 (by rw [hx]) (by rw [hx]; dsimp only; omega)
  obtain ⟨f1, _⟩ := get_hit k1 (by show U.uses ≤ _; omega) mine_ok l1 a1
  obtain ⟨f2, _⟩ := get_miss k2 (by show U.uses ≤ _; omega) mine_ok (by rw [l2])
  rw [hv1] at e1 f1
  have hfl : x.flags = 5 := by rw [hx]
  refine ⟨T, U, asked { U with clock := U.clock + (n - 1) } i, _, h1, ?_, e2, by omega, ?_, f2⟩
  ·rw [e1, g2, hfl]
  ·rw [f1, g2, hfl]
end Go.Proofs.YtbeegfkfpkfccaaGreatDoor.D

