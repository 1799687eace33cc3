/-
  ref.FlashCopy's loop: what holds at each round's head, and one round more. Lemmas on worlds alone.
-/
import Derived.Test.YtjhfomihlobjgaaCOwnMore
namespace Go.Proofs.Ytjhfomihlobjgaa.D
open Go.RowKit
def CopyRel (f : Flash) (a : Option Addr) (c : Nat) (w : World) (k : Nat) (vs : List Value) (va : Option Addr) (vc : Nat) (wr : World) : Prop :=
  PagesOwn (w.heap.size + 3) wr (.slice va k vc) (f.pages.take k) vs ∧ Below w.heap.size w wr ∧ w.heap.size + 3 ≤ wr.heap.size ∧
    wr.cell? ⟨w.heap.size, 2, none⟩ = some (.slice a f.pages.length c) ∧ wr.cell? ⟨w.heap.size + 1, 0, none⟩ = some (.int .i64 0) ∧ wr.cell? ⟨w.heap.size + 1, 1, none⟩ = some (.int .i64 0) ∧ wr.cell? ⟨w.heap.size + 1, 2, none⟩ = some (.slice none 0 0) ∧ (∀ j, wr.frozen? ⟨w.heap.size + 1, j, none⟩ = false) ∧
    wr.cell? ⟨w.heap.size + 2, 0, none⟩ = some (.int .i64 f.most) ∧ wr.cell? ⟨w.heap.size + 2, 1, none⟩ = some (.int .i64 f.next) ∧ wr.cell? ⟨w.heap.size + 2, 2, none⟩ = some (.slice va k vc) ∧ (∀ j, wr.frozen? ⟨w.heap.size + 2, j, none⟩ = false)
theorem cell_setCell_off {w : World} {b o o' : Nat} {v y : Value} (h : w.cell? ⟨b, o, none⟩ = some v) (hne : o ≠ o') : (w.setCell ⟨b, o', none⟩ y).cell? ⟨b, o, none⟩ = some v := by
  rw [World.cell?_setCell_other _ _ _ _ (fun e => hne (by cases e; rfl))]; exact h
theorem frozen_set {w : World} {a : Addr} {v : Value} {b j : Nat} (h : w.frozen? ⟨b, j, none⟩ = false) : (w.setCell a v).frozen? ⟨b, j, none⟩ = false := by
  have := World.frozen?_setCells a.block [v] a.off w ⟨b, j, none⟩
  go_simp
theorem CopyRel.more {f : Flash} {a : Option Addr} {c : Nat} {w : World} {k : Nat} {vs : List Value} {va : Option Addr} {vc : Nat} {wr W w2 : World} (h : CopyRel f a c w k vs va vc wr) (hb : Below wr.heap.size wr W) {pn : Int} {pb : Str} {u : Value} {gp cp : Nat}
    (hk : k < f.pages.length) (hT : Hid (f.pages.take (k + 1) = f.pages.take k ++ [⟨pn, pb⟩]))
    (hrow : w2.ownsRow (w.heap.size + 3) 69 2 (.slice (some ⟨gp, 0, none⟩) (k + 1) cp) (k + 1) (pageCells (f.pages.take k) vs ++ [.int .i64 pn, u]))
    (hg : W.grownBy w2 (Value.slice va k vc).ownBlock) (hu : W.ownsRow (w.heap.size + 3) 5 1 u pb.length (pb.map byteV)) (hnew : ∀ b, u.ownBlock = some b → wr.heap.size ≤ b) :
    CopyRel f a c w (k + 1) (vs ++ [u]) (some ⟨gp, 0, none⟩) cp (w2.setCell ⟨w.heap.size + 2, 2, none⟩ (.slice (some ⟨gp, 0, none⟩) (k + 1) cp)) := by
  obtain ⟨hP, hbl, hsz, d2, r0, r1, r2, rz, o0, o1, o2, oz⟩ := h
  have hl : (f.pages.take k).length = k := by rw [List.length_take]; omega
  have hrowW := owns_below hP.row hb
  have hsmall : ∀ b, b < w.heap.size + 3 → w2.heap[b]? = wr.heap[b]? := by
    intro b hb3
    rw [hg.block b (Nat.lt_of_lt_of_le (by omega) hb.size) (fun e => by have := (hrowW.lt b e.symm).1; omega), hb.block b (by omega)]
  have cc : ∀ {b j : Nat} {x : Value}, b < w.heap.size + 3 → wr.cell? ⟨b, j, none⟩ = some x → w2.cell? ⟨b, j, none⟩ = some x := fun hb3 h => (World.cell?_of_block (w := wr) (hsmall _ hb3)).trans h
  have ff : ∀ {b j : Nat}, b < w.heap.size + 3 → wr.frozen? ⟨b, j, none⟩ = false → w2.frozen? ⟨b, j, none⟩ = false := fun hb3 h => (World.frozen?_of_block (w := wr) (hsmall _ hb3)).trans h
  have hP2 : PagesOwn (w.heap.size + 3) w2 (.slice (some ⟨gp, 0, none⟩) (k + 1) cp) (f.pages.take (k + 1)) (vs ++ [u]) := by
    rw [hT.out]
    refine hP.snoc (fun x m xs hx => (owns_below hx hb).kept hg (own_types (owns_below hx hb) hrowW (by decide))) (hu.kept hg (own_types hu hrowW (by decide))) hnew ?_
    rw [hl]; exact hrow
  refine ⟨?_, ?_, ?_, ?_, ?_, ?_, ?_, ?_, ?_, ?_, ?_, ?_⟩
  · exact (hP2.setCell_below (a := ⟨w.heap.size + 2, 2, none⟩) (by show w.heap.size + 2 < w.heap.size + 3; omega) _).world
  · have hbw : Below w.heap.size w w2 := (hbl.trans (hb.mono hbl.size)).grown hg (Nat.le_trans hbl.size hb.size) (fun b e => by have := (hrowW.lt b e).1; omega)
    exact hbw.setCell (by show w.heap.size ≤ w.heap.size + 2; omega) _
  · have := hg.size
    have h2 := hb.size
    show w.heap.size + 3 ≤ (w2.setCell _ _).heap.size
    simp; omega
  · exact cell_setCell_ne (cc (by omega) d2) (by omega)
  · exact cell_setCell_ne (cc (by omega) r0) (by omega)
  · exact cell_setCell_ne (cc (by omega) r1) (by omega)
  · exact cell_setCell_ne (cc (by omega) r2) (by omega)
  · intro j; exact frozen_set (ff (by omega) (rz j))
  · exact cell_setCell_off (cc (by omega) o0) (by omega)
  · exact cell_setCell_off (cc (by omega) o1) (by omega)
  · exact setCell_self (cc (by omega) o2)
  · intro j; exact frozen_set (ff (by omega) (oz j))
end Go.Proofs.Ytjhfomihlobjgaa.D
