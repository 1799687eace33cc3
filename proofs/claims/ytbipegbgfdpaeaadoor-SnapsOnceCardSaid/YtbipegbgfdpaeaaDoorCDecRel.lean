/-
  Decoding: pages and items laid into rows of the call's own, a store cell by cell.
-/
import Derived.Test.YtbipegbgfdpaeaaDoorPDecode
import Derived.Test.YtbipegbgfdpaeaaDoorCRItem
import Derived.Test.YtbipegbgfdpaeaaDoorCSpl
import Derived.Test.YtbipegbgfdpaeaaDoorCRCopy
namespace Go.Proofs.YtbipegbgfdpaeaaDoor.D
open Go.RowKit
/-- blocks of bytes are as they were -/
def U8Keep (w w' : World) : Prop := ∀ (b : Nat) (cs : Array Value) (fr : Nat × Nat), w.heap[b]? = some (Obj.cells cs 5 fr) → w'.heap[b]? = some (Obj.cells cs 5 fr)
theorem U8Keep.refl (w : World) : U8Keep w w := fun _ _ _ h => h
theorem U8Keep.trans {a b c : World} (h : U8Keep a b) (k : U8Keep b c) : U8Keep a c := fun j cs fr hj => k j cs fr (h j cs fr hj)
theorem U8Keep.below {w w' : World} (h : Below w.heap.size w w') : U8Keep w w' := fun b _ _ hb => (h.block b (Array.getElem?_eq_some_iff.1 hb).1).trans hb
theorem U8Keep.grown {w w' : World} {g T : Nat} {cs : Array Value} {fr : Nat × Nat} (h : w.grownBy w' (some g)) (hg : w.heap[g]? = some (.cells cs T fr)) (hT : T ≠ 5) : U8Keep w w' := fun b cs' fr' hb =>
  (h.block b (Array.getElem?_eq_some_iff.1 hb).1 (fun e => by cases e; rw [hg] at hb; cases hb; exact hT rfl)).trans hb
theorem U8Keep.row {w w' : World} {base : Nat} {T : TypeId} {size : Nat} {v : Value} {n : Nat} {xs : List Value} (h : w.ownsRow base T size v n xs) (hg : w.grownBy w' v.ownBlock) (hT : T ≠ 5) : U8Keep w w' := fun b cs fr hb => by
  have := own_type_ne h hb (fun e => hT e.symm)
  exact (hg.block b (Array.getElem?_eq_some_iff.1 hb).1 (fun e => this e.symm)).trans hb
theorem U8Keep.set {w : World} {g i T : Nat} {cs : Array Value} {fr : Nat × Nat} (v : Value) (hg : w.heap[g]? = some (.cells cs T fr)) (hT : T ≠ 5) : U8Keep w (w.setCell ⟨g, i, none⟩ v) := fun b cs' fr' hb =>
  (Below.heap_setCell w ⟨g, i, none⟩ v b (fun e => by rw [show b = g from e] at hb; rw [hg] at hb; cases hb; exact hT rfl)).trans hb
/-- a page's bytes: somewhere in a block of bytes -/
def PB (w : World) (u : Value) (p : Page) : Prop :=
  ∃ b c cs fr, u = .slice (some ⟨b, 0, none⟩) p.bytes.length c ∧ p.bytes.length ≤ c ∧ c ≤ 9223372036854775807 ∧ w.heap[b]? = some (.cells cs 5 fr) ∧ BytesAt w (some ⟨b, 0, none⟩) p.bytes
theorem PB.keep {w w' : World} {u : Value} {p : Page} (h : PB w u p) (k : U8Keep w w') : PB w' u p := by
  obtain ⟨b, c, cs, fr, h1, h2, h3, h4, h5⟩ := h
  exact ⟨b, c, cs, fr, h1, h2, h3, k b cs fr h4, h5.stay ((k b cs fr h4).trans h4.symm)⟩
structure PagesT (base : Nat) (w : World) (v : Value) (ps : List Page) (vs : List Value) : Prop where
  len : vs.length = ps.length
  row : w.ownsRow base 73 2 v ps.length (pageCells ps vs)
  bytes : ∀ (j : Nat) (p : Page) (u : Value), ps[j]? = some p → vs[j]? = some u → PB w u p
theorem PagesT.nil (base : Nat) (w : World) : PagesT base w (.slice none 0 0) [] [] := ⟨rfl, World.ownsRow_nil _ _ _ _, fun _ _ _ h => by simp at h⟩
theorem PagesT.kept {base : Nat} {w w' : World} {v : Value} {ps : List Page} {vs : List Value} {r : Option Nat} (h : PagesT base w v ps vs) (k : U8Keep w w') (hg : w.grownBy w' r) (hne : v.ownBlock = none ∨ v.ownBlock ≠ r) : PagesT base w' v ps vs :=
  ⟨h.len, h.row.kept hg hne, fun j p u h1 h2 => (h.bytes j p u h1 h2).keep k⟩
theorem PagesT.off {base : Nat} {w : World} {v x : Value} {ps : List Page} {vs : List Value} {g i T : Nat} {cs : Array Value} {fr : Nat × Nat} (h : PagesT base w v ps vs) (hg : w.heap[g]? = some (.cells cs T fr)) (hT : T ≠ 5) (hT2 : T ≠ 73) : PagesT base (w.setCell ⟨g, i, none⟩ x) v ps vs :=
  ⟨h.len, owns_off h.row (own_type_ne h.row hg hT2), fun j p u h1 h2 => (h.bytes j p u h1 h2).keep (U8Keep.set x hg hT)⟩
theorem PagesT.more {base : Nat} {w w' : World} {v v' : Value} {ps : List Page} {vs : List Value} {p : Page} {u : Value} (h : PagesT base w v ps vs) (hu : PB w u p) (hg : w.grownBy w' v.ownBlock) (hrow : w'.ownsRow base 73 2 v' (ps.length + 1) (pageCells ps vs ++ [.int .i64 p.number, u])) :
    PagesT base w' v' (ps ++ [p]) (vs ++ [u]) := by
  have k : U8Keep w w' := U8Keep.row h.row hg (by decide)
  refine ⟨by simp [h.len], ?_, ?_⟩
  · rw [pageCells_append ps [p] vs [u] h.len, List.length_append]; exact hrow
  · intro j q x h1 h2
    by_cases hj : j < ps.length
    · rw [List.getElem?_append_left hj] at h1
      rw [List.getElem?_append_left (by rw [h.len]; exact hj)] at h2
      exact (h.bytes j q x h1 h2).keep k
    · rw [List.getElem?_append_right (by omega)] at h1
      rw [List.getElem?_append_right (by rw [h.len]; omega), h.len] at h2
      have h0 : j - ps.length = 0 := by
        have := (List.getElem?_eq_some_iff.1 h1).1
        simp at this; omega
      rw [h0] at h1 h2
      cases h1; cases h2
      exact hu.keep k
theorem PagesT.rows {base : Nat} {w : World} {va : Option Addr} {n vc : Nat} {ps : List Page} {vs : List Value} (h : PagesT base w (.slice va n vc) ps vs) (hb : ∀ p ∈ ps, PageB p) : RowsAt w va 2 (PageR w) ps := by
  rcases Nat.eq_zero_or_pos ps.length with h0 | h0
  · exact .inl (List.eq_nil_of_length_eq_zero h0)
  · obtain ⟨g, cap, hv, _, _, _, _, hcell⟩ := own_shape h.row h0
    cases hv
    refine .inr ⟨g, 0, rfl, fun i hi => ?_⟩
    have hp : ps[i]? = some ps[i] := List.getElem?_eq_getElem hi
    obtain ⟨u, hu⟩ : ∃ u, vs[i]? = some u := ⟨_, List.getElem?_eq_getElem (by rw [h.len]; exact hi)⟩
    obtain ⟨b, c, cs, fr, rfl, h1, h2, _, h3⟩ := h.bytes i _ u hp hu
    have hpb := hb _ (List.getElem_mem hi)
    refine ⟨[.int .i64 ps[i].number, .slice (some ⟨b, 0, none⟩) ps[i].bytes.length c], rfl, ⟨hpb.1, _, _, rfl, h3, hpb.2, h1, h2⟩, fun j x hj => ?_⟩
    rw [Nat.zero_add]
    match j, hj with
    | 0, hj => cases hj; exact hcell (i * 2) _ (pageCells_num ps vs i _ h.len hp)
    | 1, hj => cases hj; exact hcell (i * 2 + 1) _ (pageCells_val ps vs i _ h.len hu)
/-- what is laid down so far -/
structure Dec (w0 : World) (R S : Nat) (w : World) (t : Store) (va fa : Option Addr) (vc fc : Nat) (vs : List Value) : Prop where
  res : w.heap[R]? = some (.cells storeZ 30 (0, 0))
  box : w.heap[S]? = some (.cells (storeV t va vc fa fc) 30 (0, 0))
  items : w.ownsRow (S + 1) 58 9 (.slice va t.items.length vc) t.items.length (t.items.flatMap itemCells)
  pages : PagesT (S + 1) w (.slice fa t.flash.pages.length fc) t.flash.pages vs
  below : Below w0.heap.size w0 w
theorem Dec.lt {w0 w : World} {R S : Nat} {t : Store} {va fa : Option Addr} {vc fc : Nat} {vs : List Value} (h : Dec w0 R S w t va fa vc fc vs) : S + 1 ≤ w.heap.size := (Array.getElem?_eq_some_iff.1 h.box).1
/-- a call that writes into its reader alone -/
theorem Dec.read {w0 w w' : World} {R S g T : Nat} {t : Store} {va fa : Option Addr} {vc fc : Nat} {vs : List Value} {cs : Array Value} {fr : Nat × Nat} (h : Dec w0 R S w t va fa vc fc vs) (hg : w.grownBy w' (some g)) (hT : w.heap[g]? = some (.cells cs T fr))
    (h8 : T ≠ 5) (hR : R < g) (hS : g < S) (h0 : w0.heap.size ≤ g) : Dec w0 R S w' t va fa vc fc vs := by
  have hRl := (Array.getElem?_eq_some_iff.1 h.res).1
  have hne : ∀ {v : Value} {e : TypeId} {size n : Nat} {xs : List Value}, w.ownsRow (S + 1) e size v n xs → v.ownBlock = none ∨ v.ownBlock ≠ some g := by
    intro v e size n xs ho
    cases hb : v.ownBlock with
    | none => exact .inl rfl
    | some k => exact .inr (fun e => by have := (ho.lt k hb).1; cases e; omega)
  exact ⟨(hg.block R hRl (fun e => by cases e; omega)).trans h.res, (hg.block S h.lt (fun e => by cases e; omega)).trans h.box, h.items.kept hg (hne h.items), h.pages.kept (U8Keep.grown hg hT h8) hg (hne h.pages.row),
    h.below.grown hg h.below.size (fun b e => by cases e; exact h0)⟩
/-- memory made -/
theorem Dec.made {w0 w w' : World} {R S : Nat} {t : Store} {va fa : Option Addr} {vc fc : Nat} {vs : List Value} (h : Dec w0 R S w t va fa vc fc vs) (hb : Below w.heap.size w w') : Dec w0 R S w' t va fa vc fc vs :=
  ⟨(hb.block R (Array.getElem?_eq_some_iff.1 h.res).1).trans h.res, (hb.block S h.lt).trans h.box, owns_below h.items hb, ⟨h.pages.len, owns_below h.pages.row hb, fun j p u h1 h2 => (h.pages.bytes j p u h1 h2).keep (U8Keep.below hb)⟩, h.below.trans (hb.mono h.below.size)⟩
/-- a cell of the store that is laid down -/
theorem Dec.put {w0 w : World} {R S i : Nat} {t t' : Store} {va fa : Option Addr} {vc fc : Nat} {vs : List Value} {v : Value} (h : Dec w0 R S w t va fa vc fc vs) (hv : (storeV t va vc fa fc).setIfInBounds i v = storeV t' va vc fa fc) (hi : t'.items = t.items) (hp : t'.flash.pages = t.flash.pages)
    (hR : R ≠ S) (h0 : w0.heap.size ≤ S) : Dec w0 R S (w.setCell ⟨S, i, none⟩ v) t' va fa vc fc vs := by
  have hb := cell_put w S i _ _ v h.box
  rw [hv] at hb
  refine ⟨(Below.heap_setCell w ⟨S, i, none⟩ v R hR).trans h.res, hb, ?_, ?_, h.below.setCell h0 v⟩
  · rw [hi]; exact owns_off h.items (own_type_ne h.items h.box (by decide))
  · rw [hp]; exact h.pages.off h.box (by decide) (by decide)
/-- a page more -/
theorem Dec.page {w0 w w' : World} {R S : Nat} {t : Store} {va fa fa' : Option Addr} {vc fc fc' : Nat} {vs : List Value} {p : Page} {u : Value} (h : Dec w0 R S w t va fa vc fc vs) (hu : PB w u p) (hg : w.grownBy w' (Value.slice fa t.flash.pages.length fc).ownBlock)
    (hrow : w'.ownsRow (S + 1) 73 2 (.slice fa' (t.flash.pages.length + 1) fc') (t.flash.pages.length + 1) (pageCells t.flash.pages vs ++ [.int .i64 p.number, u])) (hR : R < S) (h0 : w0.heap.size ≤ S) :
    Dec w0 R S (w'.setCell ⟨S, 11, none⟩ (.slice fa' (t.flash.pages.length + 1) fc')) { t with flash := ⟨t.flash.most, t.flash.next, t.flash.pages ++ [p]⟩ } va fa' vc fc' (vs ++ [u]) := by
  have hRl := (Array.getElem?_eq_some_iff.1 h.res).1
  have hne : ∀ k, (Value.slice fa t.flash.pages.length fc).ownBlock = some k → S < k := fun k hk => (h.pages.row.lt k hk).1
  have hbox : w'.heap[S]? = some (.cells (storeV t va vc fa fc) 30 (0, 0)) := (hg.block S h.lt (fun e => by have := hne S e.symm; omega)).trans h.box
  have hres : w'.heap[R]? = some (.cells storeZ 30 (0, 0)) := (hg.block R hRl (fun e => by have := hne R e.symm; omega)).trans h.res
  have hit := h.items.kept hg (own_types h.items h.pages.row (by decide))
  have hbl : Below w0.heap.size w0 w' := h.below.grown hg h.below.size (fun b e => by have := hne b e; omega)
  have hpm := h.pages.more hu hg hrow
  refine ⟨(Below.heap_setCell w' ⟨S, 11, none⟩ _ R (by show R ≠ S; omega)).trans hres, ?_, owns_off hit (own_type_ne hit hbox (by decide)), ?_, hbl.setCell h0 _⟩
  · have := cell_put w' S 11 _ _ (.slice fa' (t.flash.pages.length + 1) fc') hbox
    rw [this]
    simp [storeV]
  · have := hpm.off (i := 11) (x := .slice fa' (t.flash.pages.length + 1) fc') hbox (by decide) (by decide)
    simpa using this
/-- an item more -/
theorem Dec.item {w0 w w' : World} {R S : Nat} {t : Store} {va va' fa : Option Addr} {vc vc' fc : Nat} {vs : List Value} {x : Item} (h : Dec w0 R S w t va fa vc fc vs) (hg : w.grownBy w' (Value.slice va t.items.length vc).ownBlock)
    (hrow : w'.ownsRow (S + 1) 58 9 (.slice va' (t.items.length + 1) vc') (t.items.length + 1) (t.items.flatMap itemCells ++ itemCells x)) (hR : R < S) (h0 : w0.heap.size ≤ S) :
    Dec w0 R S (w'.setCell ⟨S, 8, none⟩ (.slice va' (t.items.length + 1) vc')) { t with items := t.items ++ [x] } va' fa vc' fc vs := by
  have hRl := (Array.getElem?_eq_some_iff.1 h.res).1
  have hne : ∀ k, (Value.slice va t.items.length vc).ownBlock = some k → S < k := fun k hk => (h.items.lt k hk).1
  have hbox : w'.heap[S]? = some (.cells (storeV t va vc fa fc) 30 (0, 0)) := (hg.block S h.lt (fun e => by have := hne S e.symm; omega)).trans h.box
  have hres : w'.heap[R]? = some (.cells storeZ 30 (0, 0)) := (hg.block R hRl (fun e => by have := hne R e.symm; omega)).trans h.res
  have hpg := h.pages.kept (U8Keep.row h.items hg (by decide)) hg (own_types h.pages.row h.items (by decide))
  have hbl : Below w0.heap.size w0 w' := h.below.grown hg h.below.size (fun b e => by have := hne b e; omega)
  have hit := owns_off (g := S) (i := 8) (x := .slice va' (t.items.length + 1) vc') hrow (own_type_ne hrow hbox (by decide))
  refine ⟨(Below.heap_setCell w' ⟨S, 8, none⟩ _ R (by show R ≠ S; omega)).trans hres, ?_, ?_, hpg.off hbox (by decide) (by decide), hbl.setCell h0 _⟩
  · have := cell_put w' S 8 _ _ (.slice va' (t.items.length + 1) vc') hbox
    rw [this]
    simp [storeV]
  · rw [List.flatMap_append, List.length_append]
    simpa using hit
end Go.Proofs.YtbipegbgfdpaeaaDoor.D
