/-
 Contract: keeper.stored: an item is put, or there is no room. Condition: the table of chunks holds its four numbers.
-/
import Derived.Test.YtbeegfkfpkfccaaGreatDoorYCPut
import Derived.Test.YtbeegfkfpkfccaaGreatDoorYCHit
namespace Go.Proofs.YtbeegfkfpkfccaaGreatDoor.D
open Go.RowKit
/-- a reply without hits -/
def toldV (k : Int) : Value := .agg #[.int .i64 k, .int .i64 0, .slice none 0 0]
theorem KeptT.set_far {P : TypeId → Prop} {w w' : World} {B j : Nat} {v : Value} (h : KeptT P w w') (hB : w.heap.size ≤ B) : KeptT P w (w'.setCell ⟨B, j, none⟩ v) := fun k cs t fr hk hp =>
 (Below.heap_setCell w' ⟨B, j, none⟩ v k (by have := (blt hk); show k ≠ B; omega)).trans (h k cs t fr hk hp)
section
variable {base g : Nat} {s : Store} {va : Option Addr} {vc : Nat} {fa : Option Addr} {fc : Nat} {vs : List Value}
/-- a keeper's block and rows are not written -/
theorem Kept.set_far {w : World} {B j : Nat} {v : Value} {cs : Array Value} {T : TypeId} {fr : Nat × Nat} (h : Kept base g s w) (hB : w.heap[B]? = some (.cells cs T fr)) (h1 : T ≠ 74) (h2 : T ≠ 83) (h3 : T ≠ 98) (h4 : T ≠ 5) : Kept base g s (w.setCell ⟨B, j, none⟩ v) := by
 obtain ⟨va, vc, fa, fc, vs, h⟩ := h
 have hk := KeptT.set (j := j) (v := v) hB
 exact ⟨va, vc, fa, fc, vs, (hk g _ _ _ h.row h1.symm).trans h.row, owns_keptT h.own hk h2.symm, h.pages.keptT hk h3.symm h4.symm, h.here⟩
theorem reply_cells {w : World} {B T : Nat} {a b c : Value} (h : w.heap[B]? = some (.cells #[a, b, c] T (0, 0))) : w.cell? ⟨B, 0, none⟩ = some a ∧ w.cell? ⟨B, 1, none⟩ = some b ∧ w.cell? ⟨B, 2, none⟩ = some c :=
 ⟨cor h rfl, cor h rfl, cor h rfl⟩
theorem reply_far {w : World} {B j : Nat} {v : Value} (h : Kept base g s w ∧ ∃ cs : Array Value, w.heap[B]? = some (.cells cs 35 (0, 0))) : Kept base g s (w.setCell ⟨B, j, none⟩ v) ∧ ∃ cs : Array Value, (w.setCell ⟨B, j, none⟩ v).heap[B]? = some (.cells cs 35 (0, 0)) := by
 obtain ⟨hk, cs, hr⟩ := h
 refine ⟨hk.set_far hr (by decide) (by decide) (by decide) (by decide), cs.setIfInBounds j v, ?_⟩
 rw [setCell_eq_setRow w B j cs _ _ v hr]
 exact setRow_heap w B cs _ _ _ hr
def StoredEnd (base g : Nat) (s : Store) (x : Item) (w : World) (E : Ending) (w' : World) : Prop :=
 E = .returned (toldV (if (put s x).2 then 2 else 11)) ∧ Kept base g (put s x).1 w' ∧ Below base w w' ∧ KeptT Oth w w'
set_option maxHeartbeats 1000000 in
set_option maxRecDepth 100000 in
theorem keeper_stored (w : World) (h : KeepAt base g s va vc fa fc vs w) (hs : SOk s) (hch : Chunks w) (hgb : 0 < base) (x : Item) (hx : MayPut x) (hu : s.uses < maxN) :
  Calls Tryz.prog 116 #[.pointer (some ⟨g, 0, none⟩), .agg #[.string x.key, .int .i64 x.flags, .int .i64 x.till, .int .i64 x.cas, .int .i64 x.used, .string x.value, .bool x.far, .int .i64 x.place.page, .int .i64 x.place.off]] w (StoredEnd base g s x w) := by
 have H := hid h
 have HC := hid hch
 have hbase := h.base_le
 clear h hch
 go_enter Tryz.func116, Tryz.ntmps116
 go_wp2_with fail
 obtain ⟨W2, hW2⟩ : ∃ W2, W2 = (w.alloc (.cells #[.string x.key, .int .i64 x.flags, .int .i64 x.till, .int .i64 x.cas, .int .i64 x.used, .string x.value, .bool x.far, .int .i64 x.place.page, .int .i64 x.place.off] 83)).alloc (.cells #[.int .i64 0, .int .i64 0, .slice none 0 0] 35) := ⟨_, rfl⟩
 have HB2 : Hid (Below w.heap.size w W2) := by show Below _ _ _; rw [hW2]; go_grown
 have R2 : Hid (W2.heap[w.heap.size + 1]? = some (.cells #[.int .i64 0, .int .i64 0, .slice none 0 0] 35 (0, 0))) := by
  rw [hW2]
  have := blk_new (w.alloc (.cells #[.string x.key, .int .i64 x.flags, .int .i64 x.till, .int .i64 x.cas, .int .i64 x.used, .string x.value, .bool x.far, .int .i64 x.place.page, .int .i64 x.place.off] 83)) (.cells #[.int .i64 0, .int .i64 0, .slice none 0 0] 35)
  rwa [show (w.alloc (.cells #[.string x.key, .int .i64 x.flags, .int .i64 x.till, .int .i64 x.cas, .int .i64 x.used, .string x.value, .bool x.far, .int .i64 x.place.page, .int .i64 x.place.off] 83)).heap.size = w.heap.size + 1 by simp] at this
 rw [← hW2]
 clear hW2
 obtain ⟨B, hB⟩ : ∃ B, B = w.heap.size + 1 := ⟨_, rfl⟩
 have hBw : w.heap.size ≤ B := by omega
 rw [← hB] at R2 ⊢
 clear hB
 refine (keeper_put W2 (H.out.below HB2.out) hs (HC.out.keep (Below.keeps HB2.out)) hgb x hx hu).mono ?_
 rintro e w3 ⟨rfl, hk3, hb3, ht3⟩
 have R3 := hid ((ht3 _ _ _ _ R2.out ⟨by decide, by decide⟩).trans R2.out)
 have HK3 := hid hk3
 have HB3 := hid ((HB2.out.mono hbase).trans hb3)
 have HT3 : Hid (KeptT Oth w w3) := (KeptT.below HB2.out).trans ht3
 have e0 : w3.cell? ⟨B, 0, none⟩ = some (.int .i64 0) := cor R3.out rfl
 have e1 : w3.cell? ⟨B, 1, none⟩ = some (.int .i64 0) := cor R3.out rfl
 have e2 : w3.cell? ⟨B, 2, none⟩ = some (.slice none 0 0) := cor R3.out rfl
 have ef : ∀ i, w3.frozen? ⟨B, i, none⟩ = false := fun i => frozen_of_row w3 _ _ _ _ R3.out
 have hBl := cell_lt e0
 have HFIN : Hid (∀ k : Int, k = (if (put s x).2 then 2 else 11) → StoredEnd base g s x w (.returned (toldV k)) (((w3.setCell ⟨B, 0, none⟩ (.int .i64 k)).setCell ⟨B, 1, none⟩ (.int .i64 0)).setCell ⟨B, 2, none⟩ (.slice none 0 0))) := fun k hk => by
  have g1 := HK3.out.set_far (j := 0) (v := .int .i64 k) R3.out (by decide) (by decide) (by decide) (by decide)
  refine ⟨by rw [hk], (reply_far (j := 2) (reply_far (j := 1) (reply_far (j := 0) ⟨HK3.out, _, R3.out⟩))).1, ?_, ?_⟩
  ·exact ((HB3.out.setCell (p := ⟨B, 0, none⟩) (by show base ≤ B; omega) _).setCell (p := ⟨B, 1, none⟩) (by show base ≤ B; omega) _).setCell (p := ⟨B, 2, none⟩) (by show base ≤ B; omega) _
  ·exact ((HT3.out.set_far hBw).set_far hBw).set_far hBw
 obtain ⟨b, hb⟩ : ∃ b, b = (put s x).2 := ⟨_, rfl⟩
 rw [← hb] at HFIN ⊢
 clear hb hk3 hb3 ht3
 cases b
 ·have hf := hid (HFIN.out 11 rfl)
  have hr := hid (blk_three (x := .int .i64 11) (y := .int .i64 0) (z := .slice none 0 0) R3.out)
  clear HFIN
  go_wp2_with fail
  refine bodyPost_ret (v := toldV 11) ?_ rfl hf.out
  obtain ⟨q0, q1, q2⟩ := reply_cells hr.out
  simp [results, Tryz.results116, go_sem, q0, q1, q2, toldV]
 ·have hf := hid (HFIN.out 2 rfl)
  have hr := hid (blk_three (x := .int .i64 2) (y := .int .i64 0) (z := .slice none 0 0) R3.out)
  clear HFIN
  go_wp2_with fail
  refine bodyPost_ret (v := toldV 2) ?_ rfl hf.out
  obtain ⟨q0, q1, q2⟩ := reply_cells hr.out
  simp [results, Tryz.results116, go_sem, q0, q1, q2, toldV]
end
end Go.Proofs.YtbeegfkfpkfccaaGreatDoor.D

