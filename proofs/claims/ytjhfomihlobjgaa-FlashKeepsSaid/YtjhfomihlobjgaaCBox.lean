/-
  Boxes: blocks of two and three cells that the call made, and what leaves them as they are. Lemmas on worlds alone.
-/
import Derived.Test.YtjhfomihlobjgaaCRCopy
namespace Go.Proofs.Ytjhfomihlobjgaa.D
open Go.RowKit
structure Box3 (w : World) (F : Nat) (x y z : Value) : Prop where
  a : w.cell? ⟨F, 0, none⟩ = some x
  b : w.cell? ⟨F, 1, none⟩ = some y
  c : w.cell? ⟨F, 2, none⟩ = some z
  free : ∀ j, w.frozen? ⟨F, j, none⟩ = false
structure Box2 (w : World) (F : Nat) (x y : Value) : Prop where
  a : w.cell? ⟨F, 0, none⟩ = some x
  b : w.cell? ⟨F, 1, none⟩ = some y
  free : ∀ j, w.frozen? ⟨F, j, none⟩ = false
theorem Box3.lt {w : World} {F : Nat} {x y z : Value} (h : Box3 w F x y z) : F < w.heap.size := cell_lt h.a
theorem Box2.lt {w : World} {F : Nat} {x y : Value} (h : Box2 w F x y) : F < w.heap.size := cell_lt h.a
theorem Box3.same {w w' : World} {F : Nat} {x y z : Value} (h : Box3 w F x y z) (hb : w'.heap[F]? = w.heap[F]?) : Box3 w' F x y z :=
  ⟨(World.cell?_of_block (w := w) hb).trans h.a, (World.cell?_of_block (w := w) hb).trans h.b, (World.cell?_of_block (w := w) hb).trans h.c, fun j => (World.frozen?_of_block (w := w) hb).trans (h.free j)⟩
theorem Box2.same {w w' : World} {F : Nat} {x y : Value} (h : Box2 w F x y) (hb : w'.heap[F]? = w.heap[F]?) : Box2 w' F x y :=
  ⟨(World.cell?_of_block (w := w) hb).trans h.a, (World.cell?_of_block (w := w) hb).trans h.b, fun j => (World.frozen?_of_block (w := w) hb).trans (h.free j)⟩
theorem Box3.below {w w' : World} {F : Nat} {x y z : Value} (h : Box3 w F x y z) (hb : Below w.heap.size w w') : Box3 w' F x y z := h.same (hb.block F h.lt)
theorem Box2.below {w w' : World} {F : Nat} {x y : Value} (h : Box2 w F x y) (hb : Below w.heap.size w w') : Box2 w' F x y := h.same (hb.block F h.lt)
theorem Box3.grown {w w' : World} {F : Nat} {x y z : Value} {r : Option Nat} (h : Box3 w F x y z) (hg : w.grownBy w' r) (hn : r ≠ some F) : Box3 w' F x y z := h.same (hg.block F h.lt (fun e => hn e.symm))
theorem Box2.grown {w w' : World} {F : Nat} {x y : Value} {r : Option Nat} (h : Box2 w F x y) (hg : w.grownBy w' r) (hn : r ≠ some F) : Box2 w' F x y := h.same (hg.block F h.lt (fun e => hn e.symm))
theorem Box3.far {w : World} {F b o : Nat} {x y z v : Value} (h : Box3 w F x y z) (hn : b ≠ F) : Box3 (w.setCell ⟨b, o, none⟩ v) F x y z := h.same (Below.heap_setCell w ⟨b, o, none⟩ v F (fun e => hn e.symm))
theorem Box2.far {w : World} {F b o : Nat} {x y v : Value} (h : Box2 w F x y) (hn : b ≠ F) : Box2 (w.setCell ⟨b, o, none⟩ v) F x y := h.same (Below.heap_setCell w ⟨b, o, none⟩ v F (fun e => hn e.symm))
theorem Box3.seta {w : World} {F : Nat} {x y z v : Value} (h : Box3 w F x y z) : Box3 (w.setCell ⟨F, 0, none⟩ v) F v y z :=
  ⟨setCell_self h.a, cell_setCell_off h.b (by omega), cell_setCell_off h.c (by omega), fun j => frozen_set (h.free j)⟩
theorem Box3.setb {w : World} {F : Nat} {x y z v : Value} (h : Box3 w F x y z) : Box3 (w.setCell ⟨F, 1, none⟩ v) F x v z :=
  ⟨cell_setCell_off h.a (by omega), setCell_self h.b, cell_setCell_off h.c (by omega), fun j => frozen_set (h.free j)⟩
theorem Box3.setc {w : World} {F : Nat} {x y z v : Value} (h : Box3 w F x y z) : Box3 (w.setCell ⟨F, 2, none⟩ v) F x y v :=
  ⟨cell_setCell_off h.a (by omega), cell_setCell_off h.b (by omega), setCell_self h.c, fun j => frozen_set (h.free j)⟩
theorem Box2.seta {w : World} {F : Nat} {x y v : Value} (h : Box2 w F x y) : Box2 (w.setCell ⟨F, 0, none⟩ v) F v y :=
  ⟨setCell_self h.a, cell_setCell_off h.b (by omega), fun j => frozen_set (h.free j)⟩
theorem Box2.setb {w : World} {F : Nat} {x y v : Value} (h : Box2 w F x y) : Box2 (w.setCell ⟨F, 1, none⟩ v) F x v :=
  ⟨cell_setCell_off h.a (by omega), setCell_self h.b, fun j => frozen_set (h.free j)⟩
theorem Box3.alloc {w : World} {F : Nat} {x y z : Value} (h : Box3 w F x y z) (o : Obj) : Box3 (w.alloc o) F x y z := h.same (Below.heap_alloc w o F h.lt)
theorem Box2.alloc {w : World} {F : Nat} {x y : Value} (h : Box2 w F x y) (o : Obj) : Box2 (w.alloc o) F x y := h.same (Below.heap_alloc w o F h.lt)
theorem PagesMid.below {base : Nat} {w w' : World} {v : Value} {ps : List Page} {vs : List Value} (h : PagesOwn base w v ps vs) (hb : Below w.heap.size w w') : PagesOwn base w' v ps vs := h.kept (fun k _ hk => hb.block k hk)
/-- the last page of a row of the call's own -/
theorem PagesMid.lastOf {base : Nat} {w : World} {va : Option Addr} {n vc : Nat} {front : List Page} {num : Int} {by' : Str} {vs : List Value} (h : PagesOwn base w (.slice va n vc) (front ++ [⟨num, by'⟩]) vs) :
    ∃ g ba bc vs', va = some ⟨g, 0, none⟩ ∧ base ≤ g ∧ g < w.heap.size ∧ n ≤ vc ∧ vs = vs' ++ [.slice ba by'.length bc] ∧ vs'.length = front.length ∧
      w.cell? ⟨g, front.length * 2, none⟩ = some (.int .i64 num) ∧ w.cell? ⟨g, front.length * 2 + 1, none⟩ = some (.slice ba by'.length bc) ∧ n = front.length + 1 ∧ vc ≤ maxLen := by
  obtain ⟨g, cap, hv, hb, hg, hnc, hcm, hcell⟩ := own_shape h.row (by simp)
  cases hv
  have hl : vs.length = front.length + 1 := by have := h.len; simpa using this
  have hne : vs ≠ [] := by intro e; rw [e] at hl; cases hl
  have hp : (front ++ [⟨num, by'⟩])[front.length]? = some ⟨num, by'⟩ := by simp
  have hu : vs[front.length]? = some (vs.getLast hne) := by
    rw [List.getLast_eq_getElem, List.getElem?_eq_getElem (by omega)]
    congr 2; omega
  obtain ⟨ba, bc, hs⟩ := own_slice (h.byte _ _ _ hp hu)
  have hc := hcell _ _ (pageCells_val _ _ _ _ h.len hu)
  rw [hs] at hc
  refine ⟨g, ba, bc, vs.dropLast, rfl, hb, hg, hnc, ?_, ?_, hcell _ _ (pageCells_num _ _ _ _ h.len hp), hc, by simp, hcm⟩
  · rw [← hs]; exact (List.dropLast_concat_getLast hne).symm
  · rw [List.length_dropLast, hl]; rfl
end Go.Proofs.Ytjhfomihlobjgaa.D
