/-
 What the walk of ref.done stands on: where its boxes and the store's rows are; what each kind of request makes of a store.
-/
import Derived.Test.YtbeegfkfpkfccaaGreatDoorYRefA
import Derived.Test.YtbeegfkfpkfccaaGreatDoorYRPut
import Derived.Test.YtbeegfkfpkfccaaGreatDoorYBase
import Derived.Test.YtbeegfkfpkfccaaGreatDoorYCGet
namespace Go.Proofs.YtbeegfkfpkfccaaGreatDoor.D
open Go.RowKit
abbrev reqD (r : Req) (a : Option Addr) (c : Nat) : Array Value := #[.int .i64 r.kind, .string r.key, .slice a r.keys.length c, .int .i64 r.flags, .int .i64 r.exp, .int .i64 r.n, .string r.value, .bool r.quiet]
abbrev itemD (x : Item) : Array Value := #[.string x.key, .int .i64 x.flags, .int .i64 x.till, .int .i64 x.cas, .int .i64 x.used, .string x.value, .bool x.far, .int .i64 x.place.page, .int .i64 x.place.off]
theorem replySizeD : (Tryz.prog.info? 35).map (·.size) = some 3 := by kernel_rfl
theorem reply_oneD (r : Reply) (a : Option Addr) (c : Nat) : (replyCells r a c).all (·.oneCell') = true := by simp [replyCells, Value.oneCell']
theorem item_oneD (x : Item) : (itemD x).all (·.oneCell') = true := by simp [Value.oneCell']
theorem hits_set {w : World} {base : Nat} {a : Option Addr} {n c : Nat} {l : List Hit} {B T : Nat} {cs ds : Array Value} {fr : Nat × Nat} (h : w.ownsRow base 53 4 (.slice a n c) l.length (l.flatMap hitCells)) (hB : w.heap[B]? = some (.cells cs T fr)) (hT : T ≠ 53) : (w.setRow B ds).ownsRow base 53 4 (.slice a n c) l.length (l.flatMap hitCells) := owns_setT h hB hT
structure DW (base : Nat) (va fa : Option Addr) (fp : List Page) (r : Req) (ka : Option Addr) (kc : Nat) (w : World) (t : Store) (va1 : Option Addr) (vc1 : Nat) (fa1 : Option Addr) (fc1 : Nat) (wx : World) : Prop where
 b2 : wx.heap[w.heap.size]? = some (.cells (storeV t va1 vc1 fa1 fc1) 28 (0, 0))
 b3 : wx.heap[w.heap.size + 1]? = some (.cells (reqD r ka kc) 31 (0, 0))
 b4 : wx.heap[w.heap.size + 2]? = some (.cells storeZ 28 (0, 0))
 b5 : wx.heap[w.heap.size + 3]? = some (.cells (replyCells Reply.zero none 0) 35 (0, 0))
 own : RSt base wx t va1 vc1 fa1 fc1
 butv : ButV va w wx
 low : Below base w wx
 pages : t.flash.pages ≠ [] → fa1 = fa ∧ fp = t.flash.pages
 old : fp ≠ [] → ∀ a, fa = some a → a.block < w.heap.size ∨ w.heap.size + 4 ≤ a.block
 base_le : base ≤ w.heap.size
section
variable {base : Nat} {va fa : Option Addr} {fp : List Page} {r : Req} {ka : Option Addr} {kc : Nat} {w : World} {t t2 : Store} {va1 va2 fa1 fa2 : Option Addr} {vc1 vc2 fc1 fc2 : Nat} {wx wy : World}
theorem DW.size (h : DW base va fa fp r ka kc w t va1 vc1 fa1 fc1 wx) : w.heap.size + 4 ≤ wx.heap.size := by have := (blt h.b5); omega
theorem DW.below (h : DW base va fa fp r ka kc w t va1 vc1 fa1 fc1 wx) (hb : Below wx.heap.size wx wy) : DW base va fa fp r ka kc w t va1 vc1 fa1 fc1 wy := by
 have hs := h.size;have hbl := h.base_le;exact ⟨(hb.block _ (by omega)).trans h.b2, (hb.block _ (by omega)).trans h.b3, (hb.block _ (by omega)).trans h.b4, (hb.block _ (by omega)).trans h.b5, h.own.below hb, h.butv.trans (ButV.below hb), h.low.trans (hb.mono (by omega)), h.pages, h.old, h.base_le⟩
theorem DW.na (h : DW base va fa fp r ka kc w t va1 vc1 fa1 fc1 wx) {k : Nat} (h1 : w.heap.size ≤ k) (h2 : k < w.heap.size + 4) (hp : t.flash.pages ≠ []) : ∀ a, fa1 = some a → a.block ≠ k := fun a ha => by
 obtain ⟨e1, e2⟩ := h.pages hp;have := h.old (by rw [e2]; exact hp) a (by rw [← e1]; exact ha);omega
theorem DW.nv (h : DW base va fa fp r ka kc w t va1 vc1 fa1 fc1 wx) {k T : Nat} {cs : Array Value} {fr : Nat × Nat} (hk : wx.heap[k]? = some (.cells cs T fr)) (hT : T ≠ 83) : ∀ a, va1 = some a → a.block ≠ k := h.own.ne hk hT
theorem DW.box (h : DW base va fa fp r ka kc w t va1 vc1 fa1 fc1 wx) {k T : Nat} {cs ds : Array Value} {fr : Nat × Nat} (hk : wx.heap[k]? = some (.cells cs T fr)) (hT : T ≠ 5) (h4 : w.heap.size + 4 ≤ k) (hv : ∀ a, va1 = some a → a.block ≠ k) (hf : t.flash.pages ≠ [] → ∀ a, fa1 = some a → a.block ≠ k) :
  DW base va fa fp r ka kc w t va1 vc1 fa1 fc1 (wx.setRow k ds) := by
 have hbl := h.base_le;exact ⟨(setRow_other _ _ _ _ (by omega)).trans h.b2, (setRow_other _ _ _ _ (by omega)).trans h.b3, (setRow_other _ _ _ _ (by omega)).trans h.b4, (setRow_other _ _ _ _ (by omega)).trans h.b5, h.own.setAt hk hT hv hf, h.butv.setNew _ (by omega), h.low.trans (Below.setRow _ k _ (by omega)), h.pages, h.old, h.base_le⟩
theorem DW.store (h : DW base va fa fp r ka kc w t va1 vc1 fa1 fc1 wx) (hO : RSt base wx t2 va2 vc2 fa2 fc2) (hp : t2.flash.pages ≠ [] → fa2 = fa ∧ fp = t2.flash.pages) :
  DW base va fa fp r ka kc w t2 va2 vc2 fa2 fc2 (wx.setRow w.heap.size (storeV t2 va2 vc2 fa2 fc2)) := by
 have hbl := h.base_le;refine ⟨setRow_heap _ _ _ _ _ _ h.b2, (setRow_other _ _ _ _ (by omega)).trans h.b3, (setRow_other _ _ _ _ (by omega)).trans h.b4, (setRow_other _ _ _ _ (by omega)).trans h.b5, hO.setAt h.b2 (by decide) (hO.ne h.b2 (by decide)) (fun hq a ha => ?_), h.butv.setNew _ (Nat.le_refl _), h.low.trans (Below.setRow _ w.heap.size _ hbl), hp, h.old, hbl⟩;obtain ⟨e1, e2⟩ := hp hq;have := h.old (by rw [e2]; exact hq) a (by rw [← e1]; exact ha);omega
theorem DW.typed (h : DW base va fa fp r ka kc w t va1 vc1 fa1 fc1 wx) (hit : va1 = va ∨ ∀ a, va1 = some a → w.heap.size + 4 ≤ a.block) (hO : RSt base wy t2 va1 vc1 fa1 fc1) (hv : ButV va1 wx wy) (hl : Below base wx wy) (hf : t2.flash.pages = t.flash.pages) :
  DW base va fa fp r ka kc w t2 va1 vc1 fa1 fc1 (wy.setRow w.heap.size (storeV t2 va1 vc1 fa1 fc1)) := by
 have hbl := h.base_le;have hs := h.size;have e2 := hv.at h.b2 (h.nv h.b2 (by decide));have e3 := hv.at h.b3 (h.nv h.b3 (by decide));have e4 := hv.at h.b4 (h.nv h.b4 (by decide));have e5 := hv.at h.b5 (h.nv h.b5 (by decide))
 have hbv : ButV va w wy := by
  rcases hit with e | e
  ·subst e; exact h.butv.trans hv
  ·exact ⟨Nat.le_trans h.butv.1 hv.1, fun k hk ha => (hv.2 k (by omega) (fun a ha' => by have := e a ha'; omega)).trans (h.butv.2 k hk ha)⟩
 refine ⟨setRow_heap _ _ _ _ _ _ e2, (setRow_other _ _ _ _ (by omega)).trans e3, (setRow_other _ _ _ _ (by omega)).trans e4, (setRow_other _ _ _ _ (by omega)).trans e5, hO.setAt e2 (by decide) (hO.ne e2 (by decide)) (fun hq a ha => ?_), hbv.setNew _ (Nat.le_refl _), (h.low.trans hl).trans (Below.setRow _ w.heap.size _ hbl), fun hq => by rw [hf] at hq ⊢; exact h.pages hq, h.old, hbl⟩;exact h.na (Nat.le_refl _) (by omega) (by rw [← hf]; exact hq) a ha
theorem DW.put {p : Store × Bool} (h : DW base va fa fp r ka kc w t va1 vc1 fa1 fc1 wx) (hO : RSt base wy p.1 va2 vc2 fa2 fc2) (hb : Below wx.heap.size wx wy) (hold : fp ≠ [] → ∀ a, fa = some a → a.block < w.heap.size) (hf : p.1.flash.pages ≠ [] → (fa2 = fa1 ∧ t.flash.pages = p.1.flash.pages) ∨ ∀ a, fa2 = some a → wx.heap.size ≤ a.block) :
  DW base va fa2 p.1.flash.pages r ka kc w p.1 va2 vc2 fa2 fc2 (wy.setRow w.heap.size (storeV p.1 va2 vc2 fa2 fc2)) ∧ (p.1.flash.pages ≠ [] → (fa2 = fa ∧ fp = p.1.flash.pages) ∨ ∀ a, fa2 = some a → w.heap.size ≤ a.block) := by
 have hs := h.size;have h2 := h.below hb
 have hfin : p.1.flash.pages ≠ [] → (fa2 = fa ∧ fp = p.1.flash.pages) ∨ ∀ a, fa2 = some a → w.heap.size + 4 ≤ a.block := fun hp => by
  rcases hf hp with ⟨e1, e2⟩ | e
  ·obtain ⟨g1, g2⟩ := h.pages (by rw [e2]; exact hp)
   exact .inl ⟨e1.trans g1, g2.trans e2⟩
  ·exact .inr (fun a ha => by have := e a ha; omega)
 have hno : p.1.flash.pages ≠ [] → ∀ a, fa2 = some a → a.block < w.heap.size ∨ w.heap.size + 4 ≤ a.block := fun hp a ha => by
  rcases hfin hp with ⟨e1, e2⟩ | e
  ·exact .inl (hold (by rw [e2]; exact hp) a (by rw [← e1]; exact ha))
  ·exact .inr (e a ha)
 have hbl := h.base_le;refine ⟨⟨setRow_heap _ _ _ _ _ _ h2.b2, (setRow_other _ _ _ _ (by omega)).trans h2.b3, (setRow_other _ _ _ _ (by omega)).trans h2.b4, (setRow_other _ _ _ _ (by omega)).trans h2.b5, hO.setAt h2.b2 (by decide) (hO.ne h2.b2 (by decide)) (fun hq a ha => ?_), h2.butv.setNew _ (Nat.le_refl _), h2.low.trans (Below.setRow _ w.heap.size _ hbl), fun _ => ⟨rfl, rfl⟩, hno, hbl⟩, fun hp => (hfin hp).imp id (fun e a ha => by have := e a ha; omega)⟩;have := hno hq a ha;omega
theorem DW.ends (h : DW base va fa fp r ka kc w t va1 vc1 fa1 fc1 wx) (rep : Reply) (ha : Option Addr) (hc : Nat) :
  Hid ((wx.setRow (w.heap.size + 2) (storeV t va1 vc1 fa1 fc1)).heap[w.heap.size + 3]? = some (.cells (replyCells Reply.zero none 0) 35 (0, 0))) ∧
  Hid (((wx.setRow (w.heap.size + 2) (storeV t va1 vc1 fa1 fc1)).setRow (w.heap.size + 3) (replyCells rep ha hc)).heap[w.heap.size + 3]? = some (.cells (replyCells rep ha hc) 35 (0, 0))) ∧
  Hid (((wx.setRow (w.heap.size + 2) (storeV t va1 vc1 fa1 fc1)).setRow (w.heap.size + 3) (replyCells rep ha hc)).heap[w.heap.size + 2]? = some (.cells (storeV t va1 vc1 fa1 fc1) 28 (0, 0))) := by
 have e := (setRow_other wx (w.heap.size + 2) (w.heap.size + 3) (storeV t va1 vc1 fa1 fc1) (by omega)).trans h.b5;exact ⟨e, setRow_heap _ _ _ _ _ _ e, (setRow_other _ _ _ _ (by omega)).trans (setRow_heap _ _ _ _ _ _ h.b4)⟩
theorem DW.fin {fa0 : Option Addr} {fp0 : List Page} (h : DW base va fa fp r ka kc w t va1 vc1 fa1 fc1 wx) (hfin : t.flash.pages ≠ [] → (fa1 = fa0 ∧ fp0 = t.flash.pages) ∨ ∀ a, fa1 = some a → w.heap.size ≤ a.block) (rep : Reply) (ha : Option Addr) (hc : Nat)
  (hh : RowsAt ((wx.setRow (w.heap.size + 2) (storeV t va1 vc1 fa1 fc1)).setRow (w.heap.size + 3) (replyCells rep ha hc)) ha 4 HitR rep.hits) :
  DoneREnd base va fa0 fp0 (t, rep) w (.returned (.tuple #[.agg (storeV t va1 vc1 fa1 fc1), .agg (replyCells rep ha hc)])) ((wx.setRow (w.heap.size + 2) (storeV t va1 vc1 fa1 fc1)).setRow (w.heap.size + 3) (replyCells rep ha hc)) := by
 have hbl := h.base_le;have e5 : (wx.setRow (w.heap.size + 2) (storeV t va1 vc1 fa1 fc1)).heap[w.heap.size + 3]? = some (.cells (replyCells Reply.zero none 0) 35 (0, 0)) := (setRow_other _ _ _ _ (by omega)).trans h.b5;have o4 := h.own.setAt (ds := storeV t va1 vc1 fa1 fc1) h.b4 (by decide) (h.nv h.b4 (by decide)) (fun hp => h.na (by omega) (by omega) hp);have o5 := o4.setAt (ds := replyCells rep ha hc) e5 (by decide) (o4.ne e5 (by decide)) (fun hp => h.na (by omega) (by omega) hp);exact ⟨va1, vc1, fa1, fc1, ha, hc, rfl, o5, hh, (h.butv.setNew _ (by omega)).setNew _ (by omega), (h.low.trans (Below.setRow _ (w.heap.size + 2) _ (by omega))).trans (Below.setRow _ (w.heap.size + 3) _ (by omega)), hfin⟩
theorem DW.told {fa0 : Option Addr} {fp0 : List Page} {p : Store × Reply} (h : DW base va fa fp r ka kc w t va1 vc1 fa1 fc1 wx) (hfin : t.flash.pages ≠ [] → (fa1 = fa0 ∧ fp0 = t.flash.pages) ∨ ∀ a, fa1 = some a → w.heap.size ≤ a.block) (rep : Reply) (hp : p = (t, rep)) (hh : rep.hits = []) :
  DoneREnd base va fa0 fp0 p w (.returned (.tuple #[.agg (storeV t va1 vc1 fa1 fc1), .agg (replyCells rep none 0)])) ((wx.setRow (w.heap.size + 2) (storeV t va1 vc1 fa1 fc1)).setRow (w.heap.size + 3) (replyCells rep none 0)) := by
 rw [hp];exact h.fin hfin rep none 0 (by rw [hh]; exact RowsAt.nil _ _ _ _)
end
theorem DW.req {base : Nat} {va fa : Option Addr} {fp : List Page} {r : Req} {ka : Option Addr} {kc : Nat} {w : World} {t : Store} {va1 fa1 : Option Addr} {vc1 fc1 : Nat} {wx : World} (h : DW base va fa fp r ka kc w t va1 vc1 fa1 fc1 wx) :
  wx.cell? ⟨w.heap.size + 1, 0, none⟩ = some (.int .i64 r.kind) ∧ wx.cell? ⟨w.heap.size + 1, 1, none⟩ = some (.string r.key) ∧ wx.cell? ⟨w.heap.size + 1, 2, none⟩ = some (.slice ka r.keys.length kc) ∧ wx.cell? ⟨w.heap.size + 1, 3, none⟩ = some (.int .i64 r.flags) ∧
  wx.cell? ⟨w.heap.size + 1, 4, none⟩ = some (.int .i64 r.exp) ∧ wx.cell? ⟨w.heap.size + 1, 5, none⟩ = some (.int .i64 r.n) ∧ wx.cell? ⟨w.heap.size + 1, 6, none⟩ = some (.string r.value) := by
 refine ⟨?_, ?_, ?_, ?_, ?_, ?_, ?_⟩ <;> (rw [cell_of_row wx _ _ _ _ _ h.b3]; rfl)
section
variable {base : Nat} {va fa : Option Addr} {fp : List Page} {r : Req} {ka : Option Addr} {kc : Nat} {w : World} {t t2 : Store} {va1 va2 fa1 fa2 : Option Addr} {vc1 vc2 fc1 fc2 : Nat} {wx wy : World}
theorem RSt.bare {base : Nat} {w : World} {s : Store} (h1 : s.items = []) (h2 : s.flash.pages = []) : RSt base w s none 0 none 0 := by
 refine ⟨?_, .inl h2, ?_, ?_, ?_, ?_⟩
 ·rw [h1]; exact World.ownsRow_nil _ _ _ _
 ·rw [h1]; intro x hx; cases hx
 ·rw [h2]; intro x hx; cases hx
 ·rw [h1]; exact Nat.zero_le _
 ·rw [h2]; exact Nat.zero_le _
theorem DW.flush (h : DW base va fa fp r ka kc w t va1 vc1 fa1 fc1 wx) :
  DW base va fa fp r ka kc w { t with items := [], flash := { t.flash with pages := [] } } none 0 none 0 ((wx.setCell ⟨w.heap.size, 8, none⟩ (.slice none 0 0)).setCell ⟨w.heap.size, 11, none⟩ (.slice none 0 0)) := by
 rw [setCell_eq_setRow wx w.heap.size 8 _ _ _ _ h.b2, setCell_eq_setRow _ w.heap.size 11 _ _ _ _ (setRow_heap _ _ _ _ _ _ h.b2), setRow_setRow];exact h.store (t2 := { t with items := [], flash := { t.flash with pages := [] } }) (RSt.bare rfl rfl) (fun hp => absurd rfl hp)
theorem DW.cell (h : DW base va fa fp r ka kc w t va1 vc1 fa1 fc1 wx) {k T : Nat} {cs : Array Value} (hk : wx.heap[k]? = some (.cells cs T (0, 0))) (hT : T ≠ 5) (h4 : w.heap.size + 4 ≤ k) (hv : ∀ a, va1 = some a → a.block ≠ k) (hf : t.flash.pages ≠ [] → ∀ a, fa1 = some a → a.block ≠ k) (j : Nat) (v : Value) :
  DW base va fa fp r ka kc w t va1 vc1 fa1 fc1 (wx.setCell ⟨k, j, none⟩ v) := by
 rw [setCell_eq_setRow wx k j _ _ _ _ hk];exact h.box hk hT h4 hv hf
theorem box_cell {wx : World} {k T j : Nat} {cs ds : Array Value} {v : Value} (hk : wx.heap[k]? = some (.cells cs T (0, 0))) (hd : cs.setIfInBounds j v = ds) : (wx.setCell ⟨k, j, none⟩ v).heap[k]? = some (.cells ds T (0, 0)) := by
 rw [setCell_eq_setRow wx k j _ _ _ _ hk, ← hd];exact setRow_heap _ _ _ _ _ _ hk
theorem DW.found (h : DW base va fa fp r ka kc w t va1 vc1 fa1 fc1 wx) (hb : Below wx.heap.size wx wy) (hO : RSt base wy t2 va2 vc2 fa1 fc1) (hf : t2.flash = t.flash) (hold : t.flash.pages ≠ [] → ∀ a, fa1 = some a → a.block < w.heap.size) (z : Array Value) (x : Item) :
  DW base va fa fp r ka kc w t2 va2 vc2 fa1 fc1 (((wy.alloc (.cells z 83)).setRow w.heap.size (storeV t2 va2 vc2 fa1 fc1)).setRow wy.heap.size (itemD x)) ∧
  (((wy.alloc (.cells z 83)).setRow w.heap.size (storeV t2 va2 vc2 fa1 fc1)).setRow wy.heap.size (itemD x)).heap[wy.heap.size]? = some (.cells (itemD x) 83 (0, 0)) := by
 have hs := h.size;have hsy := hb.size;have hba : Below wy.heap.size wy (wy.alloc (.cells z 83)) := below_new rfl;have h1 := (h.below hb).below hba;have h2 := h1.store (hO.below hba) (fun hp => by rw [hf] at hp ⊢; exact h.pages hp);have e : ((wy.alloc (.cells z 83)).setRow w.heap.size (storeV t2 va2 vc2 fa1 fc1)).heap[wy.heap.size]? = some (.cells z 83 (0, 0)) := (setRow_other _ _ _ _ (by omega)).trans (blk_new _ _);exact ⟨h2.box e (by decide) (by omega) (fun a ha => by have := (hO.va_lt a ha).2; omega) (fun hp a ha => by rw [hf] at hp; have := hold hp a ha; omega), setRow_heap _ _ _ _ _ _ e⟩
theorem DW.items {L : List Item} (h : DW base va fa fp r ka kc w t va1 vc1 fa1 fc1 wx) (hb : Below wx.heap.size wx wy) (how : wy.ownsRow wx.heap.size 83 9 (.slice va2 L.length vc2) L.length (L.flatMap itemCells)) (hLB : (∀ y ∈ L, ItemB y) ∧ L.length ≤ 1000) (hold : t.flash.pages ≠ [] → ∀ a, fa1 = some a → a.block < w.heap.size) :
  DW base va fa fp r ka kc w { t with items := L } va2 vc2 fa1 fc1 (wy.setCell ⟨w.heap.size, 8, none⟩ (.slice va2 L.length vc2)) := by
 have hs := h.size;have hbl := h.base_le;have h1 := h.below hb;rw [setCell_eq_setRow wy w.heap.size 8 _ _ _ _ h1.b2];exact h1.store (t2 := { t with items := L }) (h1.own.items (owns_low how (by omega)) hLB.1 hLB.2 (fun hp a f ha hf => by subst ha; have := (how.lt a.block rfl).1; have := hold hp f hf; omega)) h1.pages
theorem DW.item (h : DW base va fa fp r ka kc w t va1 vc1 fa1 fc1 wx) (hit : va1 = va ∨ ∀ a, va1 = some a → w.heap.size + 4 ≤ a.block) (hO : RSt base wy t2 va1 vc1 fa1 fc1) (hv : ButV va1 wx wy) (hl : Below base wx wy) (hf : t2.flash.pages = t.flash.pages) (hs : storeV t2 va1 vc1 fa1 fc1 = storeV t va1 vc1 fa1 fc1) :
  DW base va fa fp r ka kc w t2 va1 vc1 fa1 fc1 wy := by
 have hz := h.size
 have hbv : ButV va w wy := by
  rcases hit with e | e
  ·subst e; exact h.butv.trans hv
  ·exact ⟨Nat.le_trans h.butv.1 hv.1, fun k hk ha => (hv.2 k (by omega) (fun a ha' => by have := e a ha'; omega)).trans (h.butv.2 k hk ha)⟩
 exact ⟨by rw [hs]; exact hv.at h.b2 (h.nv h.b2 (by decide)), hv.at h.b3 (h.nv h.b3 (by decide)), hv.at h.b4 (h.nv h.b4 (by decide)), hv.at h.b5 (h.nv h.b5 (by decide)), hO, hbv, h.low.trans hl, fun hq => by rw [hf] at hq ⊢; exact h.pages hq, h.old, h.base_le⟩
theorem owns_butV {base' e size n : Nat} {v : Value} {xs : List Value} (h : wx.ownsRow base' e size v n xs) (hv : ButV va1 wx wy) (hO : RSt base wx t va1 vc1 fa1 fc1) (hT : e ≠ 83) : wy.ownsRow base' e size v n xs :=
 ⟨h.1, h.2.imp id (fun ⟨g, cap, cur, e1, hg, hh, rest⟩ => ⟨g, cap, cur, e1, hg, hv.at hh (hO.ne hh hT), rest⟩)⟩
theorem DW.hits {v : Value} {n : Nat} {xs : List Value} (h : DW base va fa fp r ka kc w t va1 vc1 fa1 fc1 wx) (ho : wx.ownsRow (w.heap.size + 4) 53 4 v n xs) (hg : wx.grownBy wy v.ownBlock) (hold : t.flash.pages ≠ [] → ∀ a, fa1 = some a → a.block < w.heap.size) :
  DW base va fa fp r ka kc w t va1 vc1 fa1 fc1 wy := by
 have hz := h.size;have hbl := h.base_le;have hk := KeptT.grown_own ho hg;have hle : wx.heap.size ≤ wy.heap.size := hg.size;refine ⟨(hk _ _ _ _ h.b2 (by decide)).trans h.b2, (hk _ _ _ _ h.b3 (by decide)).trans h.b3, (hk _ _ _ _ h.b4 (by decide)).trans h.b4, (hk _ _ _ _ h.b5 (by decide)).trans h.b5, ?_, ?_, ?_, h.pages, h.old, hbl⟩
 ·refine ⟨owns_keptT h.own.row hk (by decide), ?_, h.own.ib, h.own.pb, h.own.len, h.own.plen⟩
  rcases h.own.pages with h0 | ⟨b, o, vs, e, hp, ha⟩
  ·exact .inl h0
  ·by_cases hpe : t.flash.pages = []
   ·exact .inl hpe
   ·refine .inr ⟨b, o, vs, e, hp.but (hg.block b hp.lt (fun e' => ?_)) (fun x n xs hx => owns_keptT hx hk (by decide)) hle, ha⟩
    have h1 := (ho.lt b e'.symm).1;have h2 : b < w.heap.size := hold hpe _ e;omega
 ·exact ⟨Nat.le_trans h.butv.1 hle, fun k hk' ha => (hg.block k (by omega) (fun e' => by have := (ho.lt k e'.symm).1; omega)).trans (h.butv.2 k hk' ha)⟩
 ·exact h.low.grown hg (by omega) (fun b e => by have := (ho.lt b e).1; omega)
def NotV (o : Option Nat) (va : Option Addr) : Prop := ∀ b, o = some b → ∀ a, va = some a → a.block ≠ b
theorem NotV.call {L : Nat} {o : Option Nat} {row : Obj} (hx : Bx L o row wx) (hvl : ∀ a, va1 = some a → a.block < L) (hi : va2 = va1 ∨ ∀ a, va2 = some a → wx.heap.size ≤ a.block) : NotV o va2 := fun b e a ha => by
 rcases hi with h | h
 ·have := hvl a (h ▸ ha)
  have := (hx b e).1;omega
 ·have := h a ha
  have := (Array.getElem?_eq_some_iff.1 (hx b e).2).1;omega
theorem NotV.new (hO : RSt base wx t va1 vc1 fa1 fc1) : NotV (some wx.heap.size) va1 := fun b e a ha => by
 cases e
 have := (hO.va_lt a ha).2;omega
end
def tillTo (t : Store) (i j : Nat) (u : Int) : Store := { t with items := if j ≤ i then t.items else t.items.modify i (fun x => { x with till := u }) }
theorem tillTo_len (t : Store) (i j : Nat) (u : Int) : (tillTo t i j u).items.length = t.items.length := by unfold tillTo; dsimp only; split <;> simp
theorem tillTo_key {t : Store} {i j : Nat} {u : Int} (hj : j < t.items.length) : ∃ x, (tillTo t i j u).items[j]? = some x ∧ x.key = t.items[j].key := by
 unfold tillTo;dsimp only
 split
 ·exact ⟨_, List.getElem?_eq_getElem hj, rfl⟩
 ·rename_i h
  refine ⟨t.items[j], ?_, rfl⟩;have hij : ¬ i = j := by omega
  rw [List.getElem?_modify, List.getElem?_eq_getElem hj]
  simp [hij]
theorem tillTo_at (t : Store) (i : Nat) (u : Int) : tillTo t i (i + 1) u = { tillTo t i i u with items := (tillTo t i i u).items.modify i (fun x => { x with till := u }) } := by
 unfold tillTo;rw [if_neg (by omega), if_pos (Nat.le_refl _)]
theorem tillTo_past {t : Store} {i j : Nat} (u : Int) (h : ¬ j = i) : tillTo t i (j + 1) u = tillTo t i j u := by
 unfold tillTo
 by_cases h1 : j ≤ i
 ·rw [if_pos h1, if_pos (by omega)]
 ·rw [if_neg h1, if_neg (by omega)]
theorem tillTo_zero (t : Store) (i : Nat) (u : Int) : tillTo t i 0 u = t := by unfold tillTo; rw [if_pos (Nat.zero_le _)]
theorem tillTo_end {t : Store} {i : Nat} (u : Int) (hi : i < t.items.length) : tillTo t i t.items.length u = { t with items := t.items.modify i (fun x => { x with till := u }) } := by
 unfold tillTo;rw [if_neg (by omega)]
theorem tillTo_V (t : Store) (i j : Nat) (u : Int) (va fa : Option Addr) (vc fc : Nat) : storeV (tillTo t i j u) va vc fa fc = storeV t va vc fa fc := by
 unfold storeV;rw [tillTo_len]
 rfl
theorem DW.two {base : Nat} {va fa : Option Addr} {fp : List Page} {r : Req} {ka : Option Addr} {kc : Nat} {w : World} {t : Store} {va1 fa1 : Option Addr} {vc1 fc1 : Nat} {wx : World} (h : DW base va fa fp r ka kc w t va1 vc1 fa1 fc1 wx) {k : Nat} {y : Item} (hk : wx.heap[k]? = some (.cells (itemD y) 83 (0, 0))) (h4 : w.heap.size + 4 ≤ k) (hv : ∀ a, va1 = some a → a.block ≠ k) (hf : t.flash.pages ≠ [] → ∀ a, fa1 = some a → a.block < w.heap.size) (a b : Int) :
  DW base va fa fp r ka kc w t va1 vc1 fa1 fc1 ((wx.setCell ⟨k, 1, none⟩ (.int .i64 a)).setCell ⟨k, 2, none⟩ (.int .i64 b)) ∧
  ((wx.setCell ⟨k, 1, none⟩ (.int .i64 a)).setCell ⟨k, 2, none⟩ (.int .i64 b)).heap[k]? = some (.cells (itemD { y with flags := a, till := b }) 83 (0, 0)) ∧
  ∀ j, j ≠ k → ((wx.setCell ⟨k, 1, none⟩ (.int .i64 a)).setCell ⟨k, 2, none⟩ (.int .i64 b)).heap[j]? = wx.heap[j]? := by
 have hf2 : t.flash.pages ≠ [] → ∀ a, fa1 = some a → a.block ≠ k := fun hp a ha => by have := hf hp a ha; omega
 have e1 : (wx.setCell ⟨k, 1, none⟩ (.int .i64 a)).heap[k]? = some (.cells (itemD { y with flags := a }) 83 (0, 0)) := box_cell hk rfl;exact ⟨(h.cell hk (by decide) h4 hv hf2 _ _).cell e1 (by decide) h4 hv hf2 _ _, box_cell e1 rfl, fun j hj => (Below.heap_setCell _ ⟨k, 2, none⟩ _ j hj).trans (Below.heap_setCell _ ⟨k, 1, none⟩ _ j hj)⟩
theorem DW.val {base : Nat} {va fa : Option Addr} {fp : List Page} {r : Req} {ka : Option Addr} {kc : Nat} {w : World} {t : Store} {va1 fa1 : Option Addr} {vc1 fc1 : Nat} {wx : World} (h : DW base va fa fp r ka kc w t va1 vc1 fa1 fc1 wx) {k : Nat} {y : Item} (hk : wx.heap[k]? = some (.cells (itemD y) 83 (0, 0))) (h4 : w.heap.size + 4 ≤ k) (hv : ∀ a, va1 = some a → a.block ≠ k) (hf : t.flash.pages ≠ [] → ∀ a, fa1 = some a → a.block < w.heap.size) (u : ByteArray) :
  DW base va fa fp r ka kc w t va1 vc1 fa1 fc1 (wx.setCell ⟨k, 5, none⟩ (.string u)) ∧ (wx.setCell ⟨k, 5, none⟩ (.string u)).heap[k]? = some (.cells (itemD { y with value := u }) 83 (0, 0)) ∧ ∀ j, j ≠ k → (wx.setCell ⟨k, 5, none⟩ (.string u)).heap[j]? = wx.heap[j]? :=
 ⟨h.cell hk (by decide) h4 hv (fun hp a ha => by have := hf hp a ha; omega) _ _, box_cell hk rfl, fun j hj => Below.heap_setCell _ ⟨k, 5, none⟩ _ j hj⟩
theorem itemB_till {T : Store} {i j : Nat} {u e : Int} (h : SOk T) (hu : u = untilOf T e) (he : 0 ≤ e ∧ e ≤ maxN) : ∀ x ∈ (tillTo T i j u).items.modify i (fun x => { x with till := u }), ItemB x := by
 have hN : maxN = 1099511627776 := rfl;have hub : 0 ≤ u ∧ u ≤ maxN := by rw [hu]; exact untilOf_in h he.1
 have key : ∀ x ∈ T.items, ItemB { x with till := u } := fun x hx => by
  obtain ⟨a, b, c, d, e, f, g, h⟩ := h.itemB x hx;exact ⟨a, b, c, ⟨by dsimp only; omega, by dsimp only; omega⟩, e, f, g, h⟩
 have hall : ∀ x ∈ (tillTo T i j u).items, ItemB x ∧ ItemB { x with till := u } := fun x hx => by
  unfold tillTo at hx;dsimp only at hx
  split at hx
  ·exact ⟨h.itemB x hx, key x hx⟩
  ·rcases mem_modify hx with h1 | ⟨hi, rfl⟩
   ·exact ⟨h.itemB x h1, key x h1⟩
   ·have hx := key _ (List.getElem_mem hi)
    exact ⟨hx, hx⟩
 intro x hx
 rcases mem_modify hx with h1 | ⟨hi, rfl⟩
 ·exact (hall x h1).1
 ·exact (hall _ (List.getElem_mem hi)).2
theorem resultsCCD {fn : Func} {p q : Tmp} {ty ty2 : TypeId} (h : fn.results = #[.cell p ty, .cell q ty2]) (tmps : Array Value) (w : World) (g g2 : Nat) (cs ds : Array Value) (hp : tmps.getD p undef = .pointer (some ⟨g, 0, none⟩)) (hq : tmps.getD q undef = .pointer (some ⟨g2, 0, none⟩))
  (hr : (loadVar ty ⟨g, 0, none⟩).run Tryz.prog w = .ok (.agg cs) w) (hs : (loadVar ty2 ⟨g2, 0, none⟩).run Tryz.prog w = .ok (.agg ds) w) :
  (results fn tmps).run Tryz.prog w = .ok (.tuple #[.agg cs, .agg ds]) w := by
 have hp' : tmps[p]?.getD undef = .pointer (some ⟨g, 0, none⟩) := by simpa using hp
 have hq' : tmps[q]?.getD undef = .pointer (some ⟨g2, 0, none⟩) := by simpa using hq
 simp [results, h, hp', hq', asAddr, hr, hs]
theorem lit_doneD (x : Item) (q : Nat) (k : ByteArray) (t : Bool) (ht : Hid ((bl x.key == bl k) = t)) (w : World) (hq : w.cell? ⟨q, 1, none⟩ = some (.string k)) :
  Calls Tryz.prog 69 #[.agg #[.string x.key, .int .i64 x.flags, .int .i64 x.till, .int .i64 x.cas, .int .i64 x.used, .string x.value, .bool x.far, .int .i64 x.place.page, .int .i64 x.place.off], .pointer (some ⟨q, 0, none⟩)] w fun e w' => e = .returned (.bool t) ∧ Below w.heap.size w w' := by
 have hql := cell_lt hq;have h1 : (x.key.toList == k.toList) = t := by rw [bl_toList, bl_toList]; exact ht.out
 clear ht
 cases t <;>
 ·go_enter Tryz.func69, Tryz.ntmps69
  go_wp2_with fail
  go_ret;exact ⟨rfl, by go_grown⟩
theorem strikes_doneD {q : Nat} {k : ByteArray} {w : World} (hq : w.cell? ⟨q, 1, none⟩ = some (.string k)) : Strikes 69 q (fun y => bl y.key == bl k) w :=
 ⟨fun args w' => enters_fn Tryz.func69 (by kernel_rfl) rfl args w', fun x w' hb => lit_doneD x q k _ (hid rfl) w' (Below.keeps hb _ _ hq)⟩
theorem asked_key {t : Store} {i : Nat} (hi : i < t.items.length) (h : i < (asked t i).items.length) : (asked t i).items[i].key = t.items[i].key := by
 have e : (asked t i).items[i]? = some { t.items[i] with used := t.uses + 1 } := by
  show (t.items.modify i _)[i]? = _;rw [List.getElem?_modify_eq, List.getElem?_eq_getElem hi]; rfl
 obtain ⟨_, e2⟩ := List.getElem?_eq_some_iff.1 e;rw [e2]
theorem resD {fn : Func} {p q : Tmp} {tmps : Array Value} {w : World} {g g2 : Nat} {t : Store} {va fa ha : Option Addr} {vc fc hc : Nat} {rep : Reply} (h : fn.results = #[.cell p 28, .cell q 35]) (hs : Hid (w.heap[g]? = some (.cells (storeV t va vc fa fc) 28 (0, 0)))) (hr : Hid (w.heap[g2]? = some (.cells (replyCells rep ha hc) 35 (0, 0))))
  (hp : tmps.getD p undef = .pointer (some ⟨g, 0, none⟩)) (hq : tmps.getD q undef = .pointer (some ⟨g2, 0, none⟩)) : (results fn tmps).run Tryz.prog w = .ok (.tuple #[.agg (storeV t va vc fa fc), .agg (replyCells rep ha hc)]) w :=
 resultsCCD h tmps w g g2 _ _ hp hq (run_loadVar_row _ _ _ _ _ _ _ hs.out Tryz.underlying28 rfl storeSize) (run_loadVar_row _ _ _ _ _ _ _ hr.out Tryz.underlying35 rfl replySizeD)
theorem shareD {T G : Prop} (h : (True → T) → G) (k : T) : G := h (fun _ => k)
structure FoundIs (s : Store) (key : ByteArray) (t : Store) (x : Item) (v : ByteArray) (ok : Bool) : Prop where
 st : (live s (bl key)).1 = t
 no : ok = false → (live s (bl key)).2 = none
 yes : ok = true → ∃ i, live s (bl key) = (t, some i) ∧ t.items[i]? = some x ∧ v = valueOf t x ∧ x.key = key
abbrev Item.zero : Item := ⟨⟨#[]⟩, 0, 0, 0, 0, ⟨#[]⟩, false, ⟨0, 0⟩⟩
def FoundAll (base : Nat) (s : Store) (key : ByteArray) (va fa : Option Addr) (fc : Nat) (w : World) (E : Ending) (w' : World) : Prop :=
 ∃ (t : Store) (va' : Option Addr) (vc' : Nat) (x : Item) (v : ByteArray) (ok : Bool), E = .returned (.tuple #[.agg (storeV t va' vc' fa fc), .agg (itemD x), .string v, .bool ok]) ∧ RSt base w' t va' vc' fa fc ∧ Below w.heap.size w w' ∧ (va' = va ∨ ∀ a, va' = some a → w.heap.size ≤ a.block) ∧ FoundIs s key t x v ok
theorem ref_found (s : Store) (key : ByteArray) (hs : SOk s) (base : Nat) (va fa : Option Addr) (vc fc : Nat) (w : World) (ho : RSt base w s va vc fa fc) (hbw : base ≤ w.heap.size) :
  Calls Tryz.prog 65 #[.agg (storeV s va vc fa fc), .string key] w (FoundAll base s key va fa fc w) := by
 refine (ref_foundItem s key hs base va fa vc fc w ho hbw).mono ?_;rintro E w' (⟨hn, va', vc', rfl, hr, hb, hv⟩ | ⟨i, x, hl, hx, rfl, hr, hb⟩)
 ·exact ⟨_, va', vc', Item.zero, ⟨#[]⟩, false, rfl, hr, hb, hv, rfl, fun _ => hn, fun h => by cases h⟩
 ·obtain ⟨q1, q2, hi, q3, q4⟩ := live_some (by rw [hl] : (live s (bl key)).2 = some i)
  refine ⟨s, va, vc, x, valueOf s x, true, rfl, hr, hb, .inl rfl, q1, (fun h => by cases h), fun _ => ⟨i, hl, hx, rfl, ?_⟩⟩;have : s.items[i] = x := (List.getElem?_eq_some_iff.1 hx).2;rw [this] at q3;exact bl_inj q3
section
variable {s t : Store} {x : Item} {v key : ByteArray} {ok : Bool}
theorem FoundIs.sok (h : FoundIs s key t x v ok) (hs : SOk s) : SOk t := by rw [← h.st]; exact hs.live _
theorem FoundIs.uses (h : FoundIs s key t x v ok) : t.uses = s.uses ∧ t.clock = s.clock := by rw [← h.st]; exact ⟨(live_uses s _).1, (live_uses s _).2.1⟩
theorem FoundIs.flash (h : FoundIs s key t x v ok) : t.flash = s.flash := by
 rw [← h.st]
 rcases live_le (s := s) (k := bl key) with e | e <;> rw [e]
theorem set_is {r : Req} (h : FoundIs s r.key t x v ok) : setReq s r =
  if r.kind = 3 then (if ok = true then (t, told 3) else stored t (newItem t r)) else if r.kind = 4 then (if ok = true then stored t (newItem t r) else (t, told 3))
  else if r.kind = 5 ∨ r.kind = 6 then (if ok = true then (if 200 < (grownItem t r x).value.size then (t, told 11) else stored t (grownItem t r x)) else (t, told 3))
  else if r.kind = 7 then (if ok = true then (if x.cas ≠ r.n then (t, told 4) else stored t (newItem t r)) else (t, told 5)) else stored t (newItem t r) := by
 unfold setReq;simp only [h.st]
 cases ok with
 | false =>
  simp only [h.no rfl, Option.bind_none]
  all_goals rfl
 | true =>
  obtain ⟨i, e, hx, _⟩ := h.yes rfl;simp only [e, Option.bind_some, hx, if_true]
theorem count_is {r : Req} (h : FoundIs s r.key t x v ok) : countReq s r =
  if ok = true then (if numOf v < 0 then (t, told 12) else ((put t ⟨r.key, x.flags, x.till, 0, 0, decS (counted r (numOf v)), false, ⟨0, 0⟩⟩).1, if (put t ⟨r.key, x.flags, x.till, 0, 0, decS (counted r (numOf v)), false, ⟨0, 0⟩⟩).2 then ⟨7, counted r (numOf v), []⟩ else told 11)) else (t, told 5) := by
 unfold countReq;simp only [h.st]
 cases ok with
 | false =>
  simp only [h.no rfl, Option.bind_none]
  all_goals rfl
 | true =>
  obtain ⟨i, e, hx, hv, hk⟩ := h.yes rfl;simp only [e, Option.bind_some, hx, if_true, ← hv];rw [← hk]
  rfl
theorem gone_no {r : Req} (h : FoundIs s r.key t x v false) : goneReq s r = (t, told 5) := by
 unfold goneReq;simp only [h.st, h.no rfl]
theorem gone_yes {r : Req} {i : Nat} (e : live s (bl r.key) = (t, some i)) : goneReq s r =
  if r.kind = 11 then ({ asked t i with items := (asked t i).items.modify i (fun x => { x with till := untilOf (asked t i) r.exp }) }, told 8) else ({ t with items := t.items.eraseIdx i }, told 6) := by
 unfold goneReq;simp only [e]
 all_goals (split <;> rfl)
theorem do_set {r : Req} (h2 : 2 ≤ r.kind) (h7 : r.kind ≤ 7) : doReq s r = setReq s r := by
 unfold doReq;rw [if_neg (by omega), if_neg (by omega), if_neg (by omega), if_neg (by omega), if_neg (by omega)]
theorem do_count {r : Req} (h : r.kind = 9 ∨ r.kind = 10) : doReq s r = countReq s r := by
 unfold doReq;rw [if_neg (by omega), if_pos h]
theorem do_gone {r : Req} (h : r.kind = 8 ∨ r.kind = 11) : doReq s r = goneReq s r := by
 unfold doReq;rw [if_neg (by omega), if_neg (by omega), if_neg (by omega), if_neg (by omega), if_pos h]
theorem set_new {r : Req} (h : FoundIs s r.key t x v ok) (hk : r.kind = 2 ∨ (r.kind = 3 ∧ ok = false) ∨ (r.kind = 4 ∧ ok = true) ∨ (r.kind = 7 ∧ ok = true ∧ x.cas = r.n)) : doReq s r = stored t (newItem t r) := by
 rw [do_set (by omega) (by omega), set_is h]
 rcases hk with h1 | ⟨h1, h2⟩ | ⟨h1, h2⟩ | ⟨h1, h2, h3⟩
 ·rw [if_neg (by omega), if_neg (by omega), if_neg (by omega), if_neg (by omega)]
 ·rw [if_pos h1, if_neg (by rw [h2]; decide)]
 ·rw [if_neg (by omega), if_pos h1, if_pos h2]
 ·rw [if_neg (by omega), if_neg (by omega), if_neg (by omega), if_pos h1, if_pos h2, if_neg (by rw [h3]; simp)]
theorem set_told {r : Req} (c : Int) (h : FoundIs s r.key t x v ok) (hk : (r.kind = 3 ∧ ok = true ∧ c = 3) ∨ ((r.kind = 4 ∨ r.kind = 5 ∨ r.kind = 6) ∧ ok = false ∧ c = 3) ∨ (r.kind = 7 ∧ ok = false ∧ c = 5) ∨ (r.kind = 7 ∧ ok = true ∧ x.cas ≠ r.n ∧ c = 4)) : doReq s r = (t, told c) := by
 rw [do_set (by omega) (by omega), set_is h]
 rcases hk with ⟨h1, h2, h3⟩ | ⟨h1, h2, h3⟩ | ⟨h1, h2, h3⟩ | ⟨h1, h2, h3, h4⟩
 ·rw [if_pos h1, if_pos h2, h3]
 ·have hn : ¬ ok = true := by rw [h2]; decide
  rw [if_neg (by omega)]
  rcases h1 with h1 | h1
  ·rw [if_pos h1, if_neg hn, h3]
  ·rw [if_neg (by omega), if_pos h1, if_neg hn, h3]
 ·rw [if_neg (by omega), if_neg (by omega), if_neg (by omega), if_pos h1, if_neg (by rw [h2]; decide), h3]
 ·rw [if_neg (by omega), if_neg (by omega), if_neg (by omega), if_pos h1, if_pos h2, if_pos h3, h4]
theorem set_grown {r : Req} (h : FoundIs s r.key t x v true) (hk : r.kind = 5 ∨ r.kind = 6) (hl : ¬ 200 < (grownItem t r x).value.size) : doReq s r = stored t (grownItem t r x) := by
 rw [do_set (by omega) (by omega), set_is h, if_neg (by omega), if_neg (by omega), if_pos hk, if_pos rfl, if_neg hl]
theorem set_big {r : Req} (h : FoundIs s r.key t x v true) (hk : r.kind = 5 ∨ r.kind = 6) (hl : 200 < (grownItem t r x).value.size) : doReq s r = (t, told 11) := by
 rw [do_set (by omega) (by omega), set_is h, if_neg (by omega), if_neg (by omega), if_pos hk, if_pos rfl, if_pos hl]
theorem count_no {r : Req} (h : FoundIs s r.key t x v false) (hk : r.kind = 9 ∨ r.kind = 10) : doReq s r = (t, told 5) := by
 rw [do_count hk, count_is h, if_neg (by decide)]
theorem count_low {r : Req} (h : FoundIs s r.key t x v true) (hk : r.kind = 9 ∨ r.kind = 10) (hn : numOf v < 0) : doReq s r = (t, told 12) := by
 rw [do_count hk, count_is h, if_pos rfl, if_pos hn]
theorem count_yes {r : Req} {m c : Int} (h : FoundIs s r.key t x v true) (hk : r.kind = 9 ∨ r.kind = 10) (hm : m = numOf v) (hn : ¬ m < 0) (hc : counted r m = c) :
  doReq s r = ((put t ⟨r.key, x.flags, x.till, 0, 0, decS c, false, ⟨0, 0⟩⟩).1, if (put t ⟨r.key, x.flags, x.till, 0, 0, decS c, false, ⟨0, 0⟩⟩).2 = true then ⟨7, c, []⟩ else told 11) := by
 subst hm;rw [do_count hk, count_is h, if_pos rfl, if_neg hn, hc]
theorem FoundIs.item (h : FoundIs s key t x v true) (ht : SOk t) : itemOK t x = true ∧ x ∈ t.items ∧ v.size ≤ 200 := by
 obtain ⟨i, e, hx, hv, hk⟩ := h.yes rfl;have hm := List.mem_of_getElem? hx;exact ⟨ht.items x hm, hm, by rw [hv]; exact value_size ht hm⟩
theorem may_counted {c : Int} (h : itemOK t x = true) (hk : keyOK key = true) (hc : 0 ≤ c ∧ c ≤ maxN) : MayPut ⟨key, x.flags, x.till, 0, 0, decS c, false, ⟨0, 0⟩⟩ := by
 have hi := (itemOK_iff _ _).1 h;exact ⟨hk, hi.2.1, hi.2.2.1, by have := decS_small hc; show (decS c).size ≤ 200; omega, rfl, rfl⟩
theorem do_get {r : Req} (h : r.kind = 1) : doReq s r = ((got s r.keys).1, ⟨1, 0, (got s r.keys).2⟩) := by
 unfold doReq;rw [if_pos h]
theorem do_flush {r : Req} (h : r.kind = 12) : doReq s r = ({ s with items := [], flash := { s.flash with pages := [] } }, told 9) := by
 unfold doReq;rw [if_neg (by omega), if_neg (by omega), if_pos h]
theorem doD_bad {r : Req} (h : r.kind = 13) : doReq s r = (s, told 10) := by
 unfold doReq;rw [if_neg (by omega), if_neg (by omega), if_neg (by omega), if_pos h]
end
theorem ref_until (s : Store) (va fa : Option Addr) (vc fc : Nat) (e n : Int) (hn : Hid (n = untilOf s e)) (hc : 0 ≤ s.clock ∧ s.clock ≤ maxN) (he : 0 ≤ e ∧ e ≤ maxN) (w : World) :
  Calls Tryz.prog 67 #[.agg (storeV s va vc fa fc), .int .i64 e] w fun E w' => E = .returned (.int .i64 n) ∧ Below w.heap.size w w' := by
 rw [hn.out]; exact ref_untilOf s va fa vc fc e hc he w
theorem ref_number (s : ByteArray) (hs : s.size ≤ 1000000) (n : Int) (hn : Hid (n = numOf s)) (w : World) : Calls Tryz.prog 70 #[.string s] w fun e w' => e = .returned (.int .i64 n) ∧ w = w' := by
 rw [hn.out, ← numR_is]; exact ref_numberOf s hs w
end Go.Proofs.YtbeegfkfpkfccaaGreatDoor.D
