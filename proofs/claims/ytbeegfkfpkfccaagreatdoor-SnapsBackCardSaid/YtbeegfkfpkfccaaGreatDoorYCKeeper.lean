/-
 A keeper in memory: a block of twelve cells, the items' row, the pages' rows, all the call's own; what leaves them as they are. Lemmas on worlds alone.
-/
import Derived.Test.YtbeegfkfpkfccaaGreatDoorYCFind
import Derived.Test.YtbeegfkfpkfccaaGreatDoorYOwn
namespace Go.Proofs.YtbeegfkfpkfccaaGreatDoor.D
open Go.RowKit
/-- blocks of such types are as they were -/
def KeptT (P : TypeId → Prop) (w w' : World) : Prop := ∀ (k : Nat) (cs : Array Value) (t : TypeId) (fr : Nat × Nat), w.heap[k]? = some (Obj.cells cs t fr) → P t → w'.heap[k]? = w.heap[k]?
theorem KeptT.trans {P : TypeId → Prop} {a b c : World} (h : KeptT P a b) (k : KeptT P b c) : KeptT P a c := fun i cs t fr hi hp => by
 have h1 := h i cs t fr hi hp
 rw [k i cs t fr (h1.trans hi) hp, h1]
theorem KeptT.mono {P Q : TypeId → Prop} {a b : World} (h : KeptT P a b) (hq : ∀ t, Q t → P t) : KeptT Q a b := fun i cs t fr hi hp => h i cs t fr hi (hq t hp)
theorem KeptT.below {P : TypeId → Prop} {w w' : World} (h : Below w.heap.size w w') : KeptT P w w' := fun k _ _ _ hk _ => h.block k (blt hk)
theorem KeptT.grown {w w' : World} {g : Nat} {cs : Array Value} {T : TypeId} {fr : Nat × Nat} (hg : w.heap[g]? = some (.cells cs T fr)) (h : w.grownBy w' (some g)) : KeptT (· ≠ T) w w' := fun k cs' t fr' hk hp =>
 h.block k (blt hk) (fun e => by cases e; rw [hg] at hk; cases hk; exact hp rfl)
theorem KeptT.set {w : World} {g j : Nat} {v : Value} {cs : Array Value} {T : TypeId} {fr : Nat × Nat} (hg : w.heap[g]? = some (.cells cs T fr)) : KeptT (· ≠ T) w (w.setCell ⟨g, j, none⟩ v) := fun k cs' t fr' hk hp =>
 Below.heap_setCell w ⟨g, j, none⟩ v k (fun e => by subst e; rw [hg] at hk; cases hk; exact hp rfl)
theorem owns_keptT {w w' : World} {P : TypeId → Prop} {base : Nat} {e : TypeId} {size : Nat} {v : Value} {n : Nat} {xs : List Value} (h : w.ownsRow base e size v n xs) (hk : KeptT P w w') (hp : P e) : w'.ownsRow base e size v n xs := by
 refine ⟨h.1, ?_⟩
 rcases h.2 with hn | ⟨g, cap, cur, rfl, hg, hh, rest⟩
 ·exact .inl hn
 ·exact .inr ⟨g, cap, cur, rfl, hg, by rw [hk g _ _ _ hh hp]; exact hh, rest⟩
theorem PagesMid.keptT {base : Nat} {w w' : World} {P : TypeId → Prop} {v : Value} {ps : List Page} {vs : List Value} (h : PagesOwn base w v ps vs) (hk : KeptT P w w') (h1 : P 98) (h2 : P 5) : PagesOwn base w' v ps vs :=
 PagesOwn.mk h.len (owns_keptT h.row hk h1) (fun j p u a b => owns_keptT (h.byte j p u a b) hk h2) h.far

structure KeepAt (base g : Nat) (s : Store) (va : Option Addr) (vc : Nat) (fa : Option Addr) (fc : Nat) (vs : List Value) (w : World) : Prop where
 row : w.heap[g]? = some (.cells (storeV s va vc fa fc) 74 (0, 0))
 own : w.ownsRow base 83 9 (.slice va s.items.length vc) s.items.length (s.items.flatMap itemCells)
 pages : PagesOwn base w (.slice fa s.flash.pages.length fc) s.flash.pages vs
 here : base ≤ g
section
variable {base g : Nat} {s : Store} {va : Option Addr} {vc : Nat} {fa : Option Addr} {fc : Nat} {vs : List Value} {w w' : World}
theorem KeepAt.lt (h : KeepAt base g s va vc fa fc vs w) : g < w.heap.size := (blt h.row)
theorem KeepAt.cell (h : KeepAt base g s va vc fa fc vs w) (j : Nat) (v : Value) (hv : (storeV s va vc fa fc)[j]? = some v) : w.cell? ⟨g, j, none⟩ = some v := by
 unfold World.cell?
 rw [h.row]
 exact hv
theorem KeepAt.free (h : KeepAt base g s va vc fa fc vs w) (j : Nat) : w.frozen? ⟨g, j, none⟩ = false := by
 unfold World.frozen?
 rw [h.row]; simp
theorem KeepAt.cells (h : KeepAt base g s va vc fa fc vs w) :
  w.cell? ⟨g, 0, none⟩ = some (.int .i64 s.clock) ∧ w.cell? ⟨g, 1, none⟩ = some (.int .i64 s.cas) ∧ w.cell? ⟨g, 2, none⟩ = some (.int .i64 s.uses) ∧ w.cell? ⟨g, 3, none⟩ = some (.int .i64 s.most) ∧
  w.cell? ⟨g, 4, none⟩ = some (.int .i64 s.h0) ∧ w.cell? ⟨g, 5, none⟩ = some (.int .i64 s.h1) ∧ w.cell? ⟨g, 6, none⟩ = some (.int .i64 s.h2) ∧ w.cell? ⟨g, 7, none⟩ = some (.int .i64 s.h3) ∧
  w.cell? ⟨g, 8, none⟩ = some (.slice va s.items.length vc) ∧ w.cell? ⟨g, 9, none⟩ = some (.int .i64 s.flash.most) ∧ w.cell? ⟨g, 10, none⟩ = some (.int .i64 s.flash.next) ∧ w.cell? ⟨g, 11, none⟩ = some (.slice fa s.flash.pages.length fc) :=
 ⟨h.cell _ _ rfl, h.cell _ _ rfl, h.cell _ _ rfl, h.cell _ _ rfl, h.cell _ _ rfl, h.cell _ _ rfl, h.cell _ _ rfl, h.cell _ _ rfl, h.cell _ _ rfl, h.cell _ _ rfl, h.cell _ _ rfl, h.cell _ _ rfl⟩
theorem itemB_nums {x : Item} (h : ItemNums x) (hf : x.far = false → x.place = ⟨0, 0⟩) : ItemB x := by
 have h1 := h.key; have h2 := h.flags; have h3 := h.till; have h4 := h.cas; have h5 := h.used; have h6 := h.value
 have hr : 1000 ≤ reachBytes := by decide
 refine ⟨by omega, by omega, ?_, ?_, ?_, ?_, ?_, ?_⟩
 ·exact ⟨by omega, by omega⟩
 ·exact ⟨by omega, by omega⟩
 ·exact ⟨by omega, by omega⟩
 ·exact ⟨by omega, by omega⟩
 all_goals
  cases hx : x.far with
  | true => have := h.place hx; exact ⟨by omega, by omega⟩
  | false => rw [hf hx]; exact ⟨by decide, by decide⟩
theorem SOk.nums {s : Store} (h : SOk s) {x : Item} (hx : x ∈ s.items) : ItemNums x := by
 have hN : maxN = 1099511627776 := rfl
 have h1 := h.cas; have h2 := h.uses
 exact item_nums (h.items x hx) (by omega) (by omega)
theorem SOk.itemB {s : Store} (h : SOk s) : ∀ x ∈ s.items, ItemB x := fun x hx => itemB_nums (h.nums hx) ((itemOK_iff _ _).1 (h.items x hx)).2.2.2.2.2.2.2
theorem SOk.pageB {s : Store} (h : SOk s) : ∀ p ∈ s.flash.pages, PageB p := fun p hp => by
 have := (flash_nums h.flash).2.2.2 p hp
 have hr : 1000 ≤ reachBytes := by decide
 exact ⟨⟨by omega, by omega⟩, by omega⟩
theorem KeepAt.items (h : KeepAt base g s va vc fa fc vs w) (hs : SOk s) : RowsAt w va 9 ItemR s.items := own_items h.own hs.itemB
theorem KeepAt.pagesAt (h : KeepAt base g s va vc fa fc vs w) (hs : SOk s) : RowsAt w fa 2 (PageR w) s.flash.pages := h.pages.rows hs.pageB
theorem KeepAt.keptT (h : KeepAt base g s va vc fa fc vs w) (hk : KeptT (fun _ => True) w w') : KeepAt base g s va vc fa fc vs w' :=
 ⟨(hk g _ _ _ h.row trivial).trans h.row, owns_keptT h.own hk trivial, h.pages.keptT hk trivial trivial, h.here⟩
theorem KeepAt.below (h : KeepAt base g s va vc fa fc vs w) (hb : Below w.heap.size w w') : KeepAt base g s va vc fa fc vs w' := h.keptT (KeptT.below hb)
/-- one cell of a keeper is written -/
theorem keep_put {cur : Array Value} {s' : Store} {va' : Option Addr} {vc' : Nat} {fa' : Option Addr} {fc' : Nat} {vs' : List Value} (hrow : w.heap[g]? = some (.cells cur 74 (0, 0))) (here : base ≤ g)
  (own : w.ownsRow base 83 9 (.slice va' s'.items.length vc') s'.items.length (s'.items.flatMap itemCells)) (pages : PagesOwn base w (.slice fa' s'.flash.pages.length fc') s'.flash.pages vs') (j : Nat) (v : Value)
  (hv : cur.setIfInBounds j v = storeV s' va' vc' fa' fc') : KeepAt base g s' va' vc' fa' fc' vs' (w.setCell ⟨g, j, none⟩ v) := by
 have hk : KeptT (· ≠ 74) w (w.setCell ⟨g, j, none⟩ v) := KeptT.set hrow
 refine ⟨?_, owns_keptT own hk (by decide), pages.keptT hk (by decide) (by decide), here⟩
 rw [setCell_eq_setRow w g j cur _ _ v hrow, ← hv]
 exact setRow_heap w g cur _ _ _ hrow
theorem KeepAt.put (h : KeepAt base g s va vc fa fc vs w) {s' : Store} (j : Nat) (v : Value) (hv : (storeV s va vc fa fc).setIfInBounds j v = storeV s' va vc fa fc) (hi : s'.items = s.items) (hp : s'.flash.pages = s.flash.pages) :
  KeepAt base g s' va vc fa fc vs (w.setCell ⟨g, j, none⟩ v) := keep_put h.row h.here (by rw [hi]; exact h.own) (by rw [hp]; exact h.pages) j v hv
end
/-- what a step leaves: a keeper of a store; nothing below the base has changed -/
def Kept (base g : Nat) (s : Store) (w : World) : Prop := ∃ va vc fa fc vs, KeepAt base g s va vc fa fc vs w
theorem Kept.below {base g : Nat} {s : Store} {w w' : World} (h : Kept base g s w) (hb : Below w.heap.size w w') : Kept base g s w' := by
 obtain ⟨va, vc, fa, fc, vs, h⟩ := h
 exact ⟨va, vc, fa, fc, vs, h.below hb⟩
theorem flat_take {X : Type} (f : X → List Value) (n : Nat) (xs : List X) (hf : ∀ x, (f x).length = n) (i : Nat) : (xs.flatMap f).take (i * n) = (xs.take i).flatMap f := by
 induction xs generalizing i with
 | nil => simp
 | cons x xs ih =>
  cases i with
  | zero => simp
  | succ i =>
   rw [List.flatMap_cons, List.take_succ_cons, List.flatMap_cons, ← ih i, List.take_append, hf, Nat.succ_mul, Nat.add_sub_cancel, List.take_of_length_le (by rw [hf]; omega)]
theorem flat_drop {X : Type} (f : X → List Value) (n : Nat) (xs : List X) (hf : ∀ x, (f x).length = n) (i : Nat) : (xs.flatMap f).drop (i * n) = (xs.drop i).flatMap f := by
 induction xs generalizing i with
 | nil => simp
 | cons x xs ih =>
  cases i with
  | zero => simp
  | succ i =>
   rw [List.flatMap_cons, List.drop_succ_cons, ← ih i, List.drop_append, hf, Nat.succ_mul, Nat.add_sub_cancel, List.drop_of_length_le (by rw [hf]; omega), List.nil_append]
theorem flat_erase (xs : List Item) (i : Nat) : (xs.flatMap itemCells).take (i * 9) ++ (xs.flatMap itemCells).drop ((i + 1) * 9) = (xs.eraseIdx i).flatMap itemCells := by
 rw [flat_take itemCells 9 xs (fun _ => rfl), flat_drop itemCells 9 xs (fun _ => rfl), erase_is, List.flatMap_append]
theorem flat_set (xs : List Item) (i : Nat) (hi : i < xs.length) (j : Nat) (hj : j < 9) (v : Value) (f : Item → Item) (hf : itemCells (f xs[i]) = (itemCells xs[i]).set j v) : (xs.flatMap itemCells).set (i * 9 + j) v = (xs.modify i f).flatMap itemCells := by
 have h1 : xs.flatMap itemCells = (xs.take i).flatMap itemCells ++ (itemCells xs[i] ++ (xs.drop (i + 1)).flatMap itemCells) := by
  conv => lhs; rw [split_at hi]
  rw [List.flatMap_append, List.flatMap_cons]
 have hl : ((xs.take i).flatMap itemCells).length = i * 9 := by
  rw [flat_length itemCells 9 _ (fun _ => rfl), List.length_take, Nat.min_eq_left (by omega)]
 have hl2 : (itemCells xs[i]).length = 9 := rfl
 rw [h1, modify_is hi, List.flatMap_append, List.flatMap_cons, List.set_append_right _ _ (by omega), hl, List.set_append_left _ _ (by omega), hf]
 congr 3; omega
end Go.Proofs.YtbeegfkfpkfccaaGreatDoor.D

