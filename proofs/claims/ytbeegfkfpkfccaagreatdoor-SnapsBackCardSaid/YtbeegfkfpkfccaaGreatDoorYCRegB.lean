/-
 A region that draws its order, where more than one operation may come up: each way is walked. Lemmas on the walk alone; boxes that are made anywhere.
-/
import Derived.Test.YtbeegfkfpkfccaaGreatDoorYBase
import Derived.Test.YtbeegfkfpkfccaaGreatDoorYCKeeper
namespace Go.Proofs.YtbeegfkfpkfccaaGreatDoor.D
section
variable {P : Program} {ops : Array Oper} {Q : Exit → Act → World → Prop} {md : Region.Mode} {S : World → Prop} {n : Nat}
/-- what may come up, one by one -/
def ComesUp (P : Program) (md : Region.Mode) (ops : Array Oper) (Q : Exit → Act → World → Prop) (S : World → Prop) (n fuel : Nat) (listed : Array Bool) (a : Act) (w : World) (i : Nat) : Prop :=
 wpOp P ops Q i (fun a' w' => (i ≠ n → S w') ∧ wpAnyL P md ops Q S n fuel (listed.setIfInBounds i true) a' w') a w
theorem ComesUp.mk {i : Nat} {o : Oper} {fuel : Nat} {listed : Array Bool} {a : Act} {w : World} (ho : ops[i]? = some o)
  (h : ∀ K' : Act → World → Prop, Shut (∀ a w, S w → (S w → wpAnyL P md ops Q S n fuel (listed.setIfInBounds i true) a w) → K' a w) → if Region.wanted o (yielded ops a.tmps) = true then Oper.wp P o a w K' Q else K' (a.put o.dst undef) w) :
  ComesUp P md ops Q S n fuel listed a w i :=
 wpOp_step ho (fun K' hK => h K' (fun a w hS hW => hK a w ⟨fun _ => hS, hW hS⟩))
theorem wpAnyL_one {fuel : Nat} {listed : Array Bool} {a : Act} {w : World} (i : Nat) (hr : Region.ready md ops listed = [i]) (hi : ComesUp P md ops Q S n fuel listed a w i) : wpAnyL P md ops Q S n (fuel + 1) listed a w :=
 ⟨fun h0 => (by rw [hr] at h0; cases h0), fun x hx => by
  rw [hr] at hx
  obtain rfl := List.mem_singleton.1 hx
  exact hi⟩
theorem wpAnyL_two {fuel : Nat} {listed : Array Bool} {a : Act} {w : World} (i j : Nat) (hr : Region.ready md ops listed = [i, j]) (hi : ComesUp P md ops Q S n fuel listed a w i) (hj : ComesUp P md ops Q S n fuel listed a w j) : wpAnyL P md ops Q S n (fuel + 1) listed a w :=
 ⟨fun h0 => (by rw [hr] at h0; cases h0), fun x hx => by
  rw [hr] at hx
  simp only [List.mem_cons, List.not_mem_nil, or_false] at hx
  rcases hx with rfl | rfl
  ·exact hi
  ·exact hj⟩
theorem wpAnyL_three {fuel : Nat} {listed : Array Bool} {a : Act} {w : World} (i j k : Nat) (hr : Region.ready md ops listed = [i, j, k]) (hi : ComesUp P md ops Q S n fuel listed a w i) (hj : ComesUp P md ops Q S n fuel listed a w j) (hk : ComesUp P md ops Q S n fuel listed a w k) :
  wpAnyL P md ops Q S n (fuel + 1) listed a w :=
 ⟨fun h0 => (by rw [hr] at h0; cases h0), fun x hx => by
  rw [hr] at hx
  simp only [List.mem_cons, List.not_mem_nil, or_false] at hx
  rcases hx with rfl | rfl | rfl
  ·exact hi
  ·exact hj
  ·exact hk⟩
theorem wpAnyL_four {fuel : Nat} {listed : Array Bool} {a : Act} {w : World} (i j k m : Nat) (hr : Region.ready md ops listed = [i, j, k, m]) (hi : ComesUp P md ops Q S n fuel listed a w i) (hj : ComesUp P md ops Q S n fuel listed a w j) (hk : ComesUp P md ops Q S n fuel listed a w k)
  (hm : ComesUp P md ops Q S n fuel listed a w m) : wpAnyL P md ops Q S n (fuel + 1) listed a w :=
 ⟨fun h0 => (by rw [hr] at h0; cases h0), fun x hx => by
  rw [hr] at hx
  simp only [List.mem_cons, List.not_mem_nil, or_false] at hx
  rcases hx with rfl | rfl | rfl | rfl
  ·exact hi
  ·exact hj
  ·exact hk
  ·exact hm⟩
end
open Go.RowKit
/-- a box that may have been made -/
def Bx (B : Nat) (o : Option Nat) (row : Obj) (w : World) : Prop := ∀ b, o = some b → B ≤ b ∧ w.heap[b]? = some row
theorem Bx.none {B : Nat} {row : Obj} {w : World} : Bx B none row w := fun _ h => by cases h
theorem Bx.below {B : Nat} {o : Option Nat} {row : Obj} {w w' : World} (h : Bx B o row w) (hb : Below w.heap.size w w') : Bx B o row w' := fun b e => by
 obtain ⟨h1, h2⟩ := h b e
 exact ⟨h1, (hb.block b (blt h2)).trans h2⟩
theorem Bx.new {B : Nat} {row : Obj} {w w' : World} (hw : w' = w.alloc row) (hB : B ≤ w.heap.size) : Bx B (some w.heap.size) row w' := fun b e => by
 cases e
 subst hw
 exact ⟨hB, blk_new w row⟩
theorem below_new {w w' : World} {row : Obj} (hw : w' = w.alloc row) : Below w.heap.size w w' := by rw [hw]; exact (Below.refl _ _).alloc (Nat.le_refl _) _
theorem blk_ne {w : World} {b b' : Nat} {c c' : Array Value} {T T' : TypeId} {f f' : Nat × Nat} (h : w.heap[b]? = some (.cells c T f)) (h' : w.heap[b']? = some (.cells c' T' f')) (hn : T ≠ T') : b ≠ b' := fun e => by
 subst e; rw [h] at h'; cases h'; exact hn rfl
/-- a whole block is written, cell by cell -/
theorem blk_one {w : World} {b : Nat} {T : TypeId} {a x : Value} (h : w.heap[b]? = some (.cells #[a] T (0, 0))) : (w.setCell ⟨b, 0, none⟩ x).heap[b]? = some (.cells #[x] T (0, 0)) := by
 simp [World.setCell, Array.getElem?_modify, h]
theorem blk_two {w : World} {b : Nat} {T : TypeId} {a c x y : Value} (h : w.heap[b]? = some (.cells #[a, c] T (0, 0))) : ((w.setCell ⟨b, 0, none⟩ x).setCell ⟨b, 1, none⟩ y).heap[b]? = some (.cells #[x, y] T (0, 0)) := by
 simp [World.setCell, Array.getElem?_modify, h]
theorem blk_three {w : World} {b : Nat} {T : TypeId} {a c d x y z : Value} (h : w.heap[b]? = some (.cells #[a, c, d] T (0, 0))) : (((w.setCell ⟨b, 0, none⟩ x).setCell ⟨b, 1, none⟩ y).setCell ⟨b, 2, none⟩ z).heap[b]? = some (.cells #[x, y, z] T (0, 0)) := by
 simp [World.setCell, Array.getElem?_modify, h]
theorem blk_off {w : World} {b b' o : Nat} {v : Value} {x : Option Obj} (h : w.heap[b]? = x) (hn : b ≠ b') : (w.setCell ⟨b', o, none⟩ v).heap[b]? = x := (Below.heap_setCell w ⟨b', o, none⟩ v b hn).trans h
/-- pages that a call may have made -/
def Px (B : Nat) (o : Option (Value × List Page × List Value)) (w : World) : Prop := ∀ x, o = some x → PagesOwn B w x.1 x.2.1 x.2.2
theorem Px.none {B : Nat} {w : World} : Px B none w := fun _ h => by cases h
theorem Px.below {B : Nat} {o : Option (Value × List Page × List Value)} {w w' : World} (h : Px B o w) (hb : Below w.heap.size w w') : Px B o w' := fun x e => (h x e).keptT (KeptT.below (P := fun _ => True) hb) trivial trivial
end Go.Proofs.YtbeegfkfpkfccaaGreatDoor.D

