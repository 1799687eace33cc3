/-
 Contracts: keeper.find and what it calls: where a key stands among items that rise.
-/
import Derived.Test.YtbeegfkfpkfccaaGreatDoorYBase
import Derived.Test.YtbeegfkfpkfccaaGreatDoorYPlain
import Derived.WalkArith
import Derived.Test.YtbeegfkfpkfccaaGreatDoorYOwn
import Derived.Test.YtbeegfkfpkfccaaGreatDoorYCItem
import Derived.Deep.RegionLaw
namespace Go.Proofs.YtbeegfkfpkfccaaGreatDoor.D
open Go.RowKit
def cmpOf (x : Item) (k : ByteArray) : Int := if bytesLess (bl x.key) (bl k) then -1 else if bytesLess (bl k) (bl x.key) then 1 else 0
theorem cmp_less {x : Item} {k : ByteArray} : cmpOf x k < 0 ↔ bytesLess (bl x.key) (bl k) = true := by
 unfold cmpOf
 cases bytesLess (bl x.key) (bl k) <;> cases bytesLess (bl k) (bl x.key) <;> simp
theorem cmp_zero {x : Item} {k : ByteArray} : cmpOf x k = 0 ↔ bl x.key = bl k := by
 unfold cmpOf
 constructor
 ·intro h
  cases h1 : bytesLess (bl x.key) (bl k) with
  | true => rw [h1] at h; simp at h
  | false =>
   cases h2 : bytesLess (bl k) (bl x.key) with
   | true => rw [h1, h2] at h; simp at h
   | false => exact less_tri h1 h2
 ·intro h
  rw [h, less_irrefl]; rfl
theorem cmp_range (x : Item) (k : ByteArray) : cmpOf x k = -1 ∨ cmpOf x k = 0 ∨ cmpOf x k = 1 := by
 unfold cmpOf
 cases bytesLess (bl x.key) (bl k) <;> cases bytesLess (bl k) (bl x.key) <;> simp
theorem find_cmp (x : Item) (k : ByteArray) (n : Int) (hn : Hid (cmpOf x k = n)) (w : World) :
  Calls Tryz.prog 129 #[.agg #[.string x.key, .int .i64 x.flags, .int .i64 x.till, .int .i64 x.cas, .int .i64 x.used, .string x.value, .bool x.far, .int .i64 x.place.page, .int .i64 x.place.off], .string k] w fun e w' => e = .returned (.int .i64 n) ∧ Below w.heap.size w w' := by
 cases h1 : bytesLess (bl x.key) (bl k) with
 | true =>
  have e : n = -1 := by rw [← hn.out]; unfold cmpOf; rw [h1]; rfl
  have h1 : Op.bytesLess x.key.toList k.toList = true := by rw [bl_toList, bl_toList]; exact h1
  subst e;clear hn
  go_enter Tryz.func129, Tryz.ntmps129
  go_wp2_with fail
  go_ret;exact ⟨rfl, by go_grown⟩
 | false =>
  have g1 : Op.bytesLess x.key.toList k.toList = false := by rw [bl_toList, bl_toList]; exact h1
  cases h2 : bytesLess (bl k) (bl x.key) with
  | true =>
   have e : n = 1 := by rw [← hn.out]; unfold cmpOf; rw [h1, h2]; rfl
   have h2 : Op.bytesLess k.toList x.key.toList = true := by rw [bl_toList, bl_toList]; exact h2
   have h3 : (x.key.toList == k.toList) = false := by
    rw [bl_toList, bl_toList, beq_eq_false_iff_ne]; intro e; rw [bl_toList, bl_toList, e] at h2; have := less_irrefl (bl k); rw [show bytesLess (bl k) (bl k) = true from h2] at this; cases this
   subst e;clear hn h1
   go_enter Tryz.func129, Tryz.ntmps129
   go_wp2_with fail
   go_ret;exact ⟨rfl, by go_grown⟩
  | false =>
   have e : n = 0 := by rw [← hn.out]; unfold cmpOf; rw [h1, h2]; rfl
   have h4 := less_tri h1 h2;have h2 : Op.bytesLess k.toList x.key.toList = false := by rw [bl_toList, bl_toList]; exact h2
   have h3 : (x.key.toList == k.toList) = true := by
    rw [bl_toList, bl_toList, h4, beq_self_eq_true]
   subst e;clear hn h1 h4
   go_enter Tryz.func129, Tryz.ntmps129
   go_wp2_with fail
   go_ret;exact ⟨rfl, by go_grown⟩
def FindEnd (l : List Item) (k : ByteArray) (w : World) (e : Ending) (w' : World) : Prop :=
 e = .returned (.tuple #[.int .i64 (findKey l (bl k) : Nat), .bool (hasKey l (bl k))]) ∧ Below w.heap.size w w'
theorem find_none {l : List Item} {k : Str} (h : l.length ≤ findKey l k) : hasKey l k = false := by
 cases hh : hasKey l k with
 | false => rfl
 | true => obtain ⟨h1, _⟩ := hasKey_iff.1 hh; omega
theorem find_has {l : List Item} {k : ByteArray} (h : findKey l (bl k) < l.length) (n : Int) (hn : cmpOf l[findKey l (bl k)] k = n) : hasKey l (bl k) = decide (n = 0) := by
 rw [← hn]
 cases hh : hasKey l (bl k) with
 | true => obtain ⟨_, h2⟩ := hasKey_iff.1 hh; rw [decide_eq_true (cmp_zero.2 h2)]
 | false =>
  rw [decide_eq_false];intro h0;have := hasKey_iff.2 ⟨h, cmp_zero.1 h0⟩;rw [hh] at this; cases this
set_option maxHeartbeats 4000000 in
set_option maxRecDepth 1000000 in
theorem bsearch_items (l : List Item) (k : ByteArray) (a : Option Addr) (c : Nat) (w : World) (hI : RowsAt w a 9 ItemR l) (hr : rising l = true) (hl : l.length ≤ 1000) :
  Calls Tryz.prog 128 #[.slice a l.length c, .string k, .func (.func 129) #[] #[]] w (FindEnd l k w) := by
 have HI := hid hI;have HR := hid hr;clear hI hr
 go_enter Tryz.func128, Tryz.ntmps128
 go_wp2_with fail
 go_loopw [9, 10] (fun s t wr => ∃ lo hi : Nat, s = .int .i64 lo ∧ t = .int .i64 hi ∧ lo ≤ hi ∧ hi ≤ l.length ∧ Below w.heap.size w wr ∧ Hid (∀ j (hj : j < l.length), j < lo → bytesLess (bl l[j].key) (bl k) = true) ∧ Hid (∀ j (hj : j < l.length), hi ≤ j → bytesLess (bl l[j].key) (bl k) = false)) (fun s t _ => (intOf t).toNat - (intOf s).toNat)
 case atStart => exact ⟨0, l.length, rfl, rfl, Nat.zero_le _, Nat.le_refl _, by go_grown, fun j hj h => absurd h (Nat.not_lt_zero _), fun j hj h => absurd hj (by omega)⟩
 case round =>
  obtain ⟨lo, hi, rfl, rfl, hlh, hhl, hb, HL, HH⟩ := hrel
  by_cases hlt : lo < hi
  ·obtain ⟨m, hm⟩ : ∃ m, m = (lo + hi) / 2 := ⟨_, rfl⟩
   have hml : m < l.length := by omega
   have hm1 : ((lo : Int) + (hi : Int)) / 2 = (m : Int) := by omega
   have hm2 : lo ≤ m ∧ m < hi := by omega
   clear hm;obtain ⟨b, o, rfl, hc⟩ := HI.out.pos (by omega);obtain ⟨cs, _, hcs, h3⟩ := hc m hml;obtain ⟨x, hxx⟩ : ∃ x, x = l[m] := ⟨_, rfl⟩;rw [← hxx] at hcs;have hcs := hcs.1;subst hcs;obtain ⟨c0, c1, c2, c3, c4, c5, c6, c7, c8, hbb⟩ := item_cells (Below.keeps hb) h3;obtain ⟨n, hn⟩ : ∃ n, cmpOf x k = n := ⟨_, rfl⟩;have HN := hid hn;have HX := hid hxx;have hn3 := cmp_range x k;rw [hn] at hn3;clear h3 hc hxx hn
   go_wp2_with fail
   refine (find_cmp x k n HN _).mono ?_;rintro e w5 ⟨rfl, hb5⟩;have hbx : Below w.heap.size w w5 := hb.trans (hb5.mono hb.size);obtain ⟨hm3, hm4⟩ := hm2
   by_cases hneg : n < 0
   ·have HL2 : Hid (∀ j (hj : j < l.length), j < m + 1 → bytesLess (bl l[j].key) (bl k) = true) := fun j hj hjm => by
     have h0 : bytesLess (bl l[m].key) (bl k) = true := by rw [← HX.out]; exact cmp_less.1 (by rw [HN.out]; exact hneg)
     rcases Nat.lt_or_ge j m with h | h
     ·exact less_trans (rising_get HR.out h hml) h0
     ·obtain rfl : j = m := by omega
      exact h0
    clear hb5 hb c0 c1 c2 c3 c4 c5 c6 c7 c8 HL
    go_wp2_with fail
    go_roundw
    case rel => exact ⟨m + 1, hi, by go_num, rfl, by omega, hhl, hbx, HL2, HH⟩
    case measure => simp [intOf]; omega
   ·have HH2 : Hid (∀ j (hj : j < l.length), m ≤ j → bytesLess (bl l[j].key) (bl k) = false) := fun j hj hjm => by
     have h0 : bytesLess (bl l[m].key) (bl k) = false := by
      rw [← HX.out]
      cases hc : bytesLess (bl x.key) (bl k) with
      | false => rfl
      | true => have := cmp_less.2 hc; rw [HN.out] at this; exact absurd this hneg
     rcases Nat.eq_or_lt_of_le hjm with h | h
     ·subst h; exact h0
     ·cases hc : bytesLess (bl l[j].key) (bl k) with
      | false => rfl
      | true => have := less_trans (rising_get HR.out h hj) hc; rw [h0] at this; cases this
    clear hb5 hb c0 c1 c2 c3 c4 c5 c6 c7 c8 HH
    go_wp2_with fail
    go_roundw
    case rel => exact ⟨lo, m, rfl, rfl, by omega, by omega, hbx, HL, HH2⟩
    case measure => simp [intOf]; omega
  ·obtain rfl : hi = lo := by omega
   have hf : findKey l (bl k) = hi := findKey_uniq hhl HL.out HH.out
   by_cases hn : hi < l.length
   ·obtain ⟨b, o, rfl, hc⟩ := HI.out.pos (by omega)
    obtain ⟨cs, _, hcs, h3⟩ := hc hi hn;obtain ⟨x, hxx⟩ : ∃ x, x = l[hi] := ⟨_, rfl⟩;rw [← hxx] at hcs;have hcs := hcs.1;subst hcs;obtain ⟨c0, c1, c2, c3, c4, c5, c6, c7, c8, hbb⟩ := item_cells (Below.keeps hb) h3;obtain ⟨n, hnn⟩ : ∃ n, cmpOf x k = n := ⟨_, rfl⟩;have HN := hid hnn
    have HE : Hid (FindEnd l k w = fun e w' => e = .returned (.tuple #[.int .i64 (hi : Nat), .bool (decide (n = 0))]) ∧ Below w.heap.size w w') := by
     show _ = _
     funext e w'
     unfold FindEnd;rw [find_has (by rw [hf]; exact hn) n (by rw [← hnn, hxx]; congr 1; simp only [hf]), hf]
    clear h3 hc hxx hnn hf
    go_wp2_with fail
    refine (find_cmp x k n HN _).mono ?_;rintro e w5 ⟨rfl, hb5⟩;have hbx : Below w.heap.size w w5 := hb.trans (hb5.mono hb.size);clear hb5 hb c0 c1 c2 c3 c4 c5 c6 c7 c8
    go_wp2_with fail
    go_ret2
    rw [HE.out];refine ⟨?_, hbx⟩
    by_cases h0 : n = 0 <;> simp [h0]
   ·have HE : Hid (FindEnd l k w = fun e w' => e = .returned (.tuple #[.int .i64 (hi : Nat), .bool false]) ∧ Below w.heap.size w w') := by
     show _ = _
     funext e w'
     unfold FindEnd;rw [find_none (by omega), hf]
    clear hf
    go_wp2_with fail
    go_ret2
    rw [HE.out];exact ⟨rfl, hb⟩
def KeptT (P : TypeId → Prop) (w w' : World) : Prop := ∀ (k : Nat) (cs : Array Value) (t : TypeId) (fr : Nat × Nat), w.heap[k]? = some (Obj.cells cs t fr) → P t → w'.heap[k]? = w.heap[k]?
theorem KeptT.trans {P : TypeId → Prop} {a b c : World} (h : KeptT P a b) (k : KeptT P b c) : KeptT P a c := fun i cs t fr hi hp => by
 have h1 := h i cs t fr hi hp;rw [k i cs t fr (h1.trans hi) hp, h1]
theorem KeptT.mono {P Q : TypeId → Prop} {a b : World} (h : KeptT P a b) (hq : ∀ t, Q t → P t) : KeptT Q a b := fun i cs t fr hi hp => h i cs t fr hi (hq t hp)
theorem KeptT.below {P : TypeId → Prop} {w w' : World} (h : Below w.heap.size w w') : KeptT P w w' := fun k _ _ _ hk _ => h.block k (blt hk)
theorem KeptT.grown {w w' : World} {g : Nat} {cs : Array Value} {T : TypeId} {fr : Nat × Nat} (hg : w.heap[g]? = some (.cells cs T fr)) (h : w.grownBy w' (some g)) : KeptT (· ≠ T) w w' := fun k cs' t fr' hk hp =>
 h.block k (blt hk) (fun e => by cases e; rw [hg] at hk; cases hk; exact hp rfl)
theorem KeptT.set {w : World} {g j : Nat} {v : Value} {cs : Array Value} {T : TypeId} {fr : Nat × Nat} (hg : w.heap[g]? = some (.cells cs T fr)) : KeptT (· ≠ T) w (w.setCell ⟨g, j, none⟩ v) := fun k cs' t fr' hk hp =>
 Below.heap_setCell w ⟨g, j, none⟩ v k (fun e => by subst e; rw [hg] at hk; cases hk; exact hp rfl)
theorem owns_keptT {w w' : World} {P : TypeId → Prop} {base : Nat} {e : TypeId} {size : Nat} {v : Value} {n : Nat} {xs : List Value} (h : w.ownsRow base e size v n xs) (hk : KeptT P w w') (hp : P e) : w'.ownsRow base e size v n xs := by
 refine ⟨h.1, ?_⟩
 rcases h.2 with hn | ⟨g, cap, cur, rfl, hg, hh, rest⟩
 ·exact .inl hn
 ·exact .inr ⟨g, cap, cur, rfl, hg, by rw [hk g _ _ _ hh hp]; exact hh, rest⟩
theorem PagesMid.keptT {base : Nat} {w w' : World} {P : TypeId → Prop} {v : Value} {ps : List Page} {vs : List Value} (h : PagesOwn base w v ps vs) (hk : KeptT P w w') (h1 : P 98) (h2 : P 5) : PagesOwn base w' v ps vs :=
 PagesOwn.mk h.len (owns_keptT h.row hk h1) (fun j p u a b => owns_keptT (h.byte j p u a b) hk h2) h.far
structure KeepAt (base g : Nat) (s : Store) (va : Option Addr) (vc : Nat) (fa : Option Addr) (fc : Nat) (vs : List Value) (w : World) : Prop where
 row : w.heap[g]? = some (.cells (storeV s va vc fa fc) 74 (0, 0))
 own : w.ownsRow base 83 9 (.slice va s.items.length vc) s.items.length (s.items.flatMap itemCells)
 pages : PagesOwn base w (.slice fa s.flash.pages.length fc) s.flash.pages vs
 here : base ≤ g
section
variable {base g : Nat} {s : Store} {va : Option Addr} {vc : Nat} {fa : Option Addr} {fc : Nat} {vs : List Value} {w w' : World}
theorem KeepAt.lt (h : KeepAt base g s va vc fa fc vs w) : g < w.heap.size := (blt h.row)
theorem KeepAt.cell (h : KeepAt base g s va vc fa fc vs w) (j : Nat) (v : Value) (hv : (storeV s va vc fa fc)[j]? = some v) : w.cell? ⟨g, j, none⟩ = some v := by
 unfold World.cell?;rw [h.row];exact hv
theorem KeepAt.free (h : KeepAt base g s va vc fa fc vs w) (j : Nat) : w.frozen? ⟨g, j, none⟩ = false := by
 unfold World.frozen?;rw [h.row]; simp
theorem KeepAt.cells (h : KeepAt base g s va vc fa fc vs w) :
  w.cell? ⟨g, 0, none⟩ = some (.int .i64 s.clock) ∧ w.cell? ⟨g, 1, none⟩ = some (.int .i64 s.cas) ∧ w.cell? ⟨g, 2, none⟩ = some (.int .i64 s.uses) ∧ w.cell? ⟨g, 3, none⟩ = some (.int .i64 s.most) ∧
  w.cell? ⟨g, 4, none⟩ = some (.int .i64 s.h0) ∧ w.cell? ⟨g, 5, none⟩ = some (.int .i64 s.h1) ∧ w.cell? ⟨g, 6, none⟩ = some (.int .i64 s.h2) ∧ w.cell? ⟨g, 7, none⟩ = some (.int .i64 s.h3) ∧
  w.cell? ⟨g, 8, none⟩ = some (.slice va s.items.length vc) ∧ w.cell? ⟨g, 9, none⟩ = some (.int .i64 s.flash.most) ∧ w.cell? ⟨g, 10, none⟩ = some (.int .i64 s.flash.next) ∧ w.cell? ⟨g, 11, none⟩ = some (.slice fa s.flash.pages.length fc) :=
 ⟨h.cell _ _ rfl, h.cell _ _ rfl, h.cell _ _ rfl, h.cell _ _ rfl, h.cell _ _ rfl, h.cell _ _ rfl, h.cell _ _ rfl, h.cell _ _ rfl, h.cell _ _ rfl, h.cell _ _ rfl, h.cell _ _ rfl, h.cell _ _ rfl⟩
theorem itemB_nums {x : Item} (h : ItemNums x) (hf : x.far = false → x.place = ⟨0, 0⟩) : ItemB x := by
 have h1 := h.key; have h2 := h.flags; have h3 := h.till; have h4 := h.cas; have h5 := h.used; have h6 := h.value;have hr : 1000 ≤ reachBytes := by decide
 refine ⟨by omega, by omega, ?_, ?_, ?_, ?_, ?_, ?_⟩
 ·exact ⟨by omega, by omega⟩
 ·exact ⟨by omega, by omega⟩
 ·exact ⟨by omega, by omega⟩
 ·exact ⟨by omega, by omega⟩
 all_goals
  cases hx : x.far with
  | true => have := h.place hx; exact ⟨by omega, by omega⟩
  | false => rw [hf hx]; exact ⟨by decide, by decide⟩
theorem SOk.nums {s : Store} (h : SOk s) {x : Item} (hx : x ∈ s.items) : ItemNums x := by
 have hN : maxN = 1099511627776 := rfl;have h1 := h.cas; have h2 := h.uses;exact item_nums (h.items x hx) (by omega) (by omega)
theorem SOk.itemB {s : Store} (h : SOk s) : ∀ x ∈ s.items, ItemB x := fun x hx => itemB_nums (h.nums hx) ((itemOK_iff _ _).1 (h.items x hx)).2.2.2.2.2.2.2
theorem SOk.pageB {s : Store} (h : SOk s) : ∀ p ∈ s.flash.pages, PageB p := fun p hp => by
 have := (flash_nums h.flash).2.2.2 p hp;have hr : 1000 ≤ reachBytes := by decide
 exact ⟨⟨by omega, by omega⟩, by omega⟩
theorem KeepAt.items (h : KeepAt base g s va vc fa fc vs w) (hs : SOk s) : RowsAt w va 9 ItemR s.items := own_items h.own hs.itemB
theorem KeepAt.pagesAt (h : KeepAt base g s va vc fa fc vs w) (hs : SOk s) : RowsAt w fa 2 (PageR w) s.flash.pages := h.pages.rows hs.pageB
theorem KeepAt.keptT (h : KeepAt base g s va vc fa fc vs w) (hk : KeptT (fun _ => True) w w') : KeepAt base g s va vc fa fc vs w' :=
 ⟨(hk g _ _ _ h.row trivial).trans h.row, owns_keptT h.own hk trivial, h.pages.keptT hk trivial trivial, h.here⟩
theorem KeepAt.below (h : KeepAt base g s va vc fa fc vs w) (hb : Below w.heap.size w w') : KeepAt base g s va vc fa fc vs w' := h.keptT (KeptT.below hb)
theorem keep_put {cur : Array Value} {s' : Store} {va' : Option Addr} {vc' : Nat} {fa' : Option Addr} {fc' : Nat} {vs' : List Value} (hrow : w.heap[g]? = some (.cells cur 74 (0, 0))) (here : base ≤ g)
  (own : w.ownsRow base 83 9 (.slice va' s'.items.length vc') s'.items.length (s'.items.flatMap itemCells)) (pages : PagesOwn base w (.slice fa' s'.flash.pages.length fc') s'.flash.pages vs') (j : Nat) (v : Value)
  (hv : cur.setIfInBounds j v = storeV s' va' vc' fa' fc') : KeepAt base g s' va' vc' fa' fc' vs' (w.setCell ⟨g, j, none⟩ v) := by
 have hk : KeptT (· ≠ 74) w (w.setCell ⟨g, j, none⟩ v) := KeptT.set hrow;refine ⟨?_, owns_keptT own hk (by decide), pages.keptT hk (by decide) (by decide), here⟩;rw [setCell_eq_setRow w g j cur _ _ v hrow, ← hv];exact setRow_heap w g cur _ _ _ hrow
theorem KeepAt.put (h : KeepAt base g s va vc fa fc vs w) {s' : Store} (j : Nat) (v : Value) (hv : (storeV s va vc fa fc).setIfInBounds j v = storeV s' va vc fa fc) (hi : s'.items = s.items) (hp : s'.flash.pages = s.flash.pages) :
  KeepAt base g s' va vc fa fc vs (w.setCell ⟨g, j, none⟩ v) := keep_put h.row h.here (by rw [hi]; exact h.own) (by rw [hp]; exact h.pages) j v hv
end
def Kept (base g : Nat) (s : Store) (w : World) : Prop := ∃ va vc fa fc vs, KeepAt base g s va vc fa fc vs w
theorem Kept.below {base g : Nat} {s : Store} {w w' : World} (h : Kept base g s w) (hb : Below w.heap.size w w') : Kept base g s w' := by
 obtain ⟨va, vc, fa, fc, vs, h⟩ := h;exact ⟨va, vc, fa, fc, vs, h.below hb⟩
theorem flat_take {X : Type} (f : X → List Value) (n : Nat) (xs : List X) (hf : ∀ x, (f x).length = n) (i : Nat) : (xs.flatMap f).take (i * n) = (xs.take i).flatMap f := by
 induction xs generalizing i with
 | nil => simp
 | cons x xs ih =>
  cases i with
  | zero => simp
  | succ i =>
   rw [List.flatMap_cons, List.take_succ_cons, List.flatMap_cons, ← ih i, List.take_append, hf, Nat.succ_mul, Nat.add_sub_cancel, List.take_of_length_le (by rw [hf]; omega)]
theorem flat_drop {X : Type} (f : X → List Value) (n : Nat) (xs : List X) (hf : ∀ x, (f x).length = n) (i : Nat) : (xs.flatMap f).drop (i * n) = (xs.drop i).flatMap f := by
 induction xs generalizing i with
 | nil => simp
 | cons x xs ih =>
  cases i with
  | zero => simp
  | succ i =>
   rw [List.flatMap_cons, List.drop_succ_cons, ← ih i, List.drop_append, hf, Nat.succ_mul, Nat.add_sub_cancel, List.drop_of_length_le (by rw [hf]; omega), List.nil_append]
theorem flat_erase (xs : List Item) (i : Nat) : (xs.flatMap itemCells).take (i * 9) ++ (xs.flatMap itemCells).drop ((i + 1) * 9) = (xs.eraseIdx i).flatMap itemCells := by
 rw [flat_take itemCells 9 xs (fun _ => rfl), flat_drop itemCells 9 xs (fun _ => rfl), erase_is, List.flatMap_append]
theorem flat_set (xs : List Item) (i : Nat) (hi : i < xs.length) (j : Nat) (hj : j < 9) (v : Value) (f : Item → Item) (hf : itemCells (f xs[i]) = (itemCells xs[i]).set j v) : (xs.flatMap itemCells).set (i * 9 + j) v = (xs.modify i f).flatMap itemCells := by
 have h1 : xs.flatMap itemCells = (xs.take i).flatMap itemCells ++ (itemCells xs[i] ++ (xs.drop (i + 1)).flatMap itemCells) := by
  conv => lhs; rw [split_at hi]
  rw [List.flatMap_append, List.flatMap_cons]
 have hl : ((xs.take i).flatMap itemCells).length = i * 9 := by
  rw [flat_length itemCells 9 _ (fun _ => rfl), List.length_take, Nat.min_eq_left (by omega)]
 have hl2 : (itemCells xs[i]).length = 9 := rfl;rw [h1, modify_is hi, List.flatMap_append, List.flatMap_cons, List.set_append_right _ _ (by omega), hl, List.set_append_left _ _ (by omega), hf]
 congr 3; omega
section
variable {base g : Nat} {s : Store} {va : Option Addr} {vc : Nat} {fa : Option Addr} {fc : Nat} {vs : List Value}
set_option maxHeartbeats 4000000 in
set_option maxRecDepth 100000 in
theorem keeper_find (w : World) (h : KeepAt base g s va vc fa fc vs w) (hs : SOk s) (k : ByteArray) :
  Calls Tryz.prog 115 #[.pointer (some ⟨g, 0, none⟩), .string k] w (FindEnd s.items k w) := by
 obtain ⟨c0, c1, c2, c3, c4, c5, c6, c7, c8, c9, c10, c11⟩ := h.cells;have HI := hid (h.items hs);have HR := hid hs.rise;have HL := hid hs.len;clear h hs
 go_enter Tryz.func115, Tryz.ntmps115
 go_wp2_with fail
 refine (bsearch_items s.items k va vc _ ?_ HR.out HL.out).mono ?_
 ·exact HI.out
 rintro e w1 ⟨rfl, hb⟩
 go_wp2_with fail
 go_ret2
 exact ⟨rfl, hb⟩
theorem keeper_until (w : World) (h : KeepAt base g s va vc fa fc vs w) (hs : SOk s) (e : Int) (he : 0 ≤ e ∧ e ≤ 1099511627776) :
  Calls Tryz.prog 91 #[.pointer (some ⟨g, 0, none⟩), .int .i64 e] w fun E w' => E = .returned (.int .i64 (untilOf s e)) ∧ Below w.heap.size w w' := by
 obtain ⟨c0, c1, c2, c3, c4, c5, c6, c7, c8, c9, c10, c11⟩ := h.cells;have hc := hs.clock;have hN : maxN = 1099511627776 := rfl;rw [hN] at hc;obtain ⟨hc1, hc2⟩ := hc;obtain ⟨he1, he2⟩ := he
 by_cases h0 : e = 0
 ·have HE : Hid (untilOf s e = 0) := by show _ = _; unfold untilOf; rw [if_pos h0]
  subst h0;clear h hs hN he1 he2
  go_enter Tryz.func91, Tryz.ntmps91
  go_wp2_with fail
  go_ret;exact ⟨by rw [HE.out]; rfl, by go_grown⟩
 ·have HE : Hid (untilOf s e = min (s.clock + e) 1099511627776) := by show _ = _; unfold untilOf; rw [if_neg h0, hN]
  have h1 : (e == 0) = false := by simp [h0]
  clear h hs hN
  go_enter Tryz.func91, Tryz.ntmps91
  go_wp2_with fail
  all_goals
   go_ret;refine ⟨?_, by go_grown⟩;rw [HE.out]
   first
    | (rw [show min (s.clock + e) 1099511627776 = 1099511627776 by omega]; rfl)
    | (rw [show min (s.clock + e) 1099511627776 = s.clock + e by omega]; rfl)
set_option maxHeartbeats 4000000 in
set_option maxRecDepth 100000 in
theorem keeper_value (w : World) (h : KeepAt base g s va vc fa fc vs w) (hs : SOk s) (i : Nat) (x : Item) (hx : s.items[i]? = some x) (v : ByteArray) (hv : Hid (valueOf s x = v)) :
  Calls Tryz.prog 111 #[.pointer (some ⟨g, 0, none⟩), .int .i64 i] w fun E w' => E = .returned (.string v) ∧ Below w.heap.size w w' := by
 obtain ⟨c0, c1, c2, c3, c4, c5, c6, c7, c8, c9, c10, c11⟩ := h.cells;obtain ⟨hi, hxi⟩ := List.getElem?_eq_some_iff.1 hx;obtain ⟨b, o, rfl, hc⟩ := (h.items hs).pos (by omega);obtain ⟨cs, _, hcs, h3⟩ := hc i hi;rw [hxi] at hcs;have hcs := hcs.1;subst hcs;obtain ⟨d0, d1, d2, d3, d4, d5, d6, d7, d8, hbb⟩ := item_cells (Keeps.refl w) h3;have HP := hid (h.pagesAt hs);have HG := hid h.row
 have HL : Hid (s.flash.pages.length ≤ 9223372036854775807) := by
  have := (flash_nums hs.flash).2.2.1;show _ ≤ _; omega
 have hg := h.lt
 cases hf : x.far with
 | false =>
  have HV : Hid (x.value = v) := by show _ = _; rw [← hv.out]; unfold valueOf; rw [hf]; rfl
  rw [hf] at d6;clear h hs hc h3 hx hxi hv
  go_enter Tryz.func111, Tryz.ntmps111
  go_wp2_with fail
  go_ret;exact ⟨by rw [HV.out]; rfl, by go_grown⟩
 | true =>
  have HV : Hid (bl v = (s.flash.read x.place).1) := by show _ = _; rw [← hv.out]; unfold valueOf; rw [hf, if_pos rfl]; exact bl_mk _
  rw [hf] at d6;obtain ⟨rn, hrn⟩ : ∃ n, n = (s.flash.read x.place).2 := ⟨_, rfl⟩;have HRN := hid hrn;clear h hs hc h3 hx hxi hv hrn
  go_enter Tryz.func111, Tryz.ntmps111
  go_wp2_with fail
  go_region_law (go_simp; go_at_call 75; go_must (refine (read_is s.flash x.place v rn HV HRN fa fc _ ?_ HL.out).mono ?_); (exact HP.out.keep (Below.keeps (by go_grown)) (PageR.keep (Below.keeps (by go_grown)))); rintro e w5 ⟨rfl, hb5⟩)
  all_goals
   go_wp2_with fail
   go_ret;exact ⟨rfl, Below.trans (by go_grown) (hb5.mono (by go_size))⟩
def Oth (t : TypeId) : Prop := t ≠ 74 ∧ t ≠ 83
theorem KeepAt.item_set {w : World} {gi : Nat} (h : KeepAt base g s (some ⟨gi, 0, none⟩) vc fa fc vs w) (i : Nat) (hi : i < s.items.length) (j : Nat) (hj : j < 9) (v : Value) (f : Item → Item) (hf : itemCells (f s.items[i]) = (itemCells s.items[i]).set j v) :
  KeepAt base g { s with items := s.items.modify i f } (some ⟨gi, 0, none⟩) vc fa fc vs (w.setCell ⟨gi, i * 9 + j, none⟩ v) := by
 obtain ⟨h1, h2⟩ := h.own.stored (i * 9 + j) v
 have hgi : ∃ cs fr, w.heap[gi]? = some (.cells cs 83 fr) := by
  rcases h.own.2 with ⟨hv, _⟩ | ⟨g', cap, cur, hv, _, hh, _⟩
  ·cases hv
  ·cases hv; exact ⟨_, _, hh⟩
 obtain ⟨cs, fr, hgi⟩ := hgi;have hk : KeptT (· ≠ 83) w (w.setCell ⟨gi, i * 9 + j, none⟩ v) := KeptT.set hgi;refine ⟨?_, ?_, h.pages.keptT hk (by decide) (by decide), h.here⟩
 ·have e : storeV { s with items := s.items.modify i f } (some ⟨gi, 0, none⟩) vc fa fc = storeV s (some ⟨gi, 0, none⟩) vc fa fc := by simp [storeV]
  rw [e, hk g _ _ _ h.row (by decide)]; exact h.row
 ·rw [flat_set s.items i hi j hj v f hf] at h1
  simpa using h1
theorem below_set {B : Nat} (w : World) {g j : Nat} (v : Value) (h : B ≤ g) : Below B w (w.setCell ⟨g, j, none⟩ v) :=
 ⟨rfl, rfl, rfl, by simp, fun k hk => Below.heap_setCell w ⟨g, j, none⟩ v k (by show k ≠ g; omega)⟩
set_option maxHeartbeats 4000000 in
set_option maxRecDepth 100000 in
theorem keeper_used (w : World) (h : KeepAt base g s va vc fa fc vs w) (hs : SOk s) (i : Nat) (hi : i < s.items.length) (hu : s.uses < maxN) :
  Calls Tryz.prog 90 #[.pointer (some ⟨g, 0, none⟩), .int .i64 i] w fun E w' => E = .returned (.tuple #[]) ∧ KeepAt base g (asked s i) va vc fa fc vs w' ∧ Below base w w' ∧ KeptT Oth w w' := by
 obtain ⟨c0, c1, c2, c3, c4, c5, c6, c7, c8, c9, c10, c11⟩ := h.cells;obtain ⟨gi, cap, hv, hbg, hgl, hnc, hcm, hcell⟩ := own_shape h.own (by omega);simp only [Value.slice.injEq, true_and] at hv;obtain ⟨rfl, rfl⟩ := hv;have hlen : (s.items.flatMap itemCells).length = s.items.length * 9 := flat_length itemCells 9 _ (fun _ => rfl);obtain ⟨q0, hq0⟩ := (own_cell h.own (i * 9 + 4) (by omega));have hfr := h.free 2;have hgk := h.lt;have huu := hs.uses;have hN : maxN = 1099511627776 := rfl;rw [hN] at huu hu;obtain ⟨hu1, hu2⟩ := huu;have H := hid h;clear h hs hcell c0 c1 c3 c4 c5 c6 c7 c9 c10 c11
 go_enter Tryz.func90, Tryz.ntmps90
 go_wp2_with fail
 have K1 := H.out.put (s' := { s with uses := s.uses + 1 }) 2 (.int .i64 (s.uses + 1)) rfl rfl rfl;have hb1 := below_set w (j := 2) (.int .i64 (s.uses + 1)) H.out.here;have HKT : Hid (KeptT Oth w (w.setCell ⟨g, 2, none⟩ (.int .i64 (s.uses + 1)))) := (KeptT.set H.out.row).mono (fun _ h => h.1);obtain ⟨W1, hW1⟩ : ∃ W1, W1 = w.setCell ⟨g, 2, none⟩ (.int .i64 (s.uses + 1)) := ⟨_, rfl⟩;rw [← hW1] at K1 hb1 HKT ⊢;clear hW1 c2 c8 q0 hq0 hfr hgk hgl H;obtain ⟨c0, c1, c2, c3, c4, c5, c6, c7, c8, c9, c10, c11⟩ := K1.cells;obtain ⟨q0, hq0⟩ := (own_cell K1.own (i * 9 + 4) (by show _ < s.items.length * 9; omega));obtain ⟨q, hq⟩ := Option.isSome_iff_exists.1 q0;clear q0;have hgk := K1.lt;have K := hid K1;have HB := hid hb1;clear c0 c1 c3 c4 c5 c6 c7 c9 c10 c11 K1 hb1
 go_region_law (fail)
 all_goals
  go_end0
  refine ⟨rfl, ?_, ?_, ?_⟩
  ·exact (K.out.item_set i hi 4 (by omega) (.int .i64 (s.uses + 1)) (fun x => { x with used := s.uses + 1 }) rfl).below (Below.drew (Below.refl _ _))
  ·exact (HB.out.trans (below_set W1 _ hbg)).drew
  ·obtain ⟨cs, hcs⟩ : ∃ cs, W1.heap[gi]? = some (.cells cs 83 (0, 0)) := by
    rcases K.out.own.2 with ⟨hv, _⟩ | ⟨g', cap, cur, hv, _, hh, _⟩
    ·cases hv
    ·cases hv; exact ⟨_, hh⟩
   exact (HKT.out.trans ((KeptT.set hcs).mono (fun _ h => h.2))).trans (KeptT.below (Below.drew (Below.refl _ _)))
end
theorem below_grown {B g : Nat} {w w' : World} (h : w.grownBy w' (some g)) (hg : B ≤ g) (hw : B ≤ w.heap.size) : Below B w w' :=
 ⟨h.os, h.tape, h.output, h.size, fun k hk => h.block k (by omega) (by simp; omega)⟩
theorem row_type {w : World} {base : Nat} {e : TypeId} {size gi m c n : Nat} {xs : List Value} (h : w.ownsRow base e size (.slice (some ⟨gi, 0, none⟩) m c) n xs) : ∃ cs, w.heap[gi]? = some (.cells cs e (0, 0)) := by
 rcases h.2 with ⟨hv, _⟩ | ⟨g', cap, cur, hv, _, hh, _⟩
 ·cases hv
 ·cases hv; exact ⟨_, hh⟩
section
variable {base g : Nat} {s : Store} {va : Option Addr} {vc : Nat} {fa : Option Addr} {fc : Nat} {vs : List Value}
theorem KeepAt.base_le {w : World} (h : KeepAt base g s va vc fa fc vs w) : base ≤ w.heap.size := by have := h.here; have := h.lt; omega
theorem KeepAt.deleted {w w1 : World} {gi i m : Nat} {E : Ending} (h : KeepAt base g s (some ⟨gi, 0, none⟩) vc fa fc vs w) (hi : i < s.items.length) (hm : m = s.items.length - 1)
  (hd : DelEnd base 83 9 gi vc s.items.length i (s.items.flatMap itemCells) w E w1) :
  KeepAt base g { s with items := s.items.eraseIdx i } (some ⟨gi, 0, none⟩) vc fa fc vs (w1.setCell ⟨g, 8, none⟩ (.slice (some ⟨gi, 0, none⟩) m vc)) ∧ Below base w (w1.setCell ⟨g, 8, none⟩ (.slice (some ⟨gi, 0, none⟩) m vc)) := by
 obtain ⟨_, h1, h2⟩ := hd;subst hm;obtain ⟨cs, hcs⟩ := row_type h.own;have hgi : base ≤ gi := (h.own.lt gi rfl).1;have hk : KeptT (· ≠ 83) w w1 := KeptT.grown hcs h2;rw [flat_erase] at h1;have hl : (s.items.eraseIdx i).length = s.items.length - 1 := by rw [List.length_eraseIdx, if_pos hi]
 have hrow := (hk g _ _ _ h.row (by decide)).trans h.row;refine ⟨keep_put (s' := { s with items := s.items.eraseIdx i }) hrow h.here (by show w1.ownsRow _ _ _ (.slice _ (s.items.eraseIdx i).length _) (s.items.eraseIdx i).length _; rw [hl]; exact h1) (h.pages.keptT hk (by decide) (by decide)) 8 _ ?_, (below_grown h2 hgi h.base_le).trans (below_set w1 _ h.here)⟩
 simp [storeV, hl]
def idxOf : Option Nat → Int
 | none => -1
 | some i => i
theorem live_no {s : Store} {k : Str} (h : hasKey s.items k = false) : live s k = (s, none) := by
 unfold live;simp only
 split
 ·rename_i x hx
  obtain ⟨h1, h2⟩ := List.getElem?_eq_some_iff.1 hx;rw [if_neg];intro he;have := hasKey_iff.2 ⟨h1, by rw [h2]; simpa using he⟩;rw [h] at this; cases this
 ·rfl
theorem live_yes {s : Store} {k : Str} (h : hasKey s.items k = true) : ∃ hi : findKey s.items k < s.items.length, live s k = if s.items[findKey s.items k].till ≠ 0 ∧ s.items[findKey s.items k].till ≤ s.clock then ({ s with items := s.items.eraseIdx (findKey s.items k) }, none) else (s, some (findKey s.items k)) := by
 obtain ⟨h1, h2⟩ := hasKey_iff.1 h;refine ⟨h1, ?_⟩;unfold live;simp only;rw [List.getElem?_eq_getElem h1];simp only;rw [if_pos (by simpa using h2)]
def LiveEnd (base g : Nat) (s : Store) (k : Str) (w : World) (E : Ending) (w' : World) : Prop :=
 E = .returned (.int .i64 (idxOf (live s k).2)) ∧ Kept base g (live s k).1 w' ∧ Below base w w' ∧ KeptT Oth w w'
set_option maxHeartbeats 4000000 in
set_option maxRecDepth 100000 in
theorem keeper_live (w : World) (h : KeepAt base g s va vc fa fc vs w) (hs : SOk s) (k : ByteArray) :
  Calls Tryz.prog 89 #[.pointer (some ⟨g, 0, none⟩), .string k] w (LiveEnd base g s (bl k) w) := by
 have H := hid h;have HS := hid hs;have hgk := h.lt;clear h hs
 cases hh : hasKey s.items (bl k) with
 | false =>
  have HE := hid (live_no hh);have HH := hid hh;clear hh
  go_enter Tryz.func89, Tryz.ntmps89
  go_wp2_with fail
  refine (keeper_find w H.out HS.out k).mono ?_;rintro e w1 ⟨rfl, hb⟩;rw [HH.out]
  go_wp2_with fail
  go_ret;refine ⟨by rw [HE.out]; rfl, ?_, hb.mono H.out.base_le, KeptT.below hb⟩;rw [HE.out];exact ⟨_, _, _, _, _, H.out.below hb⟩
 | true =>
  obtain ⟨i, HII, hi, HE⟩ : ∃ i : Nat, Hid (i = findKey s.items (bl k)) ∧ ∃ hi : i < s.items.length, Hid (live s (bl k) = if s.items[i].till ≠ 0 ∧ s.items[i].till ≤ s.clock then ({ s with items := s.items.eraseIdx i }, none) else (s, some i)) := by
   obtain ⟨hi, he⟩ := live_yes hh;exact ⟨_, rfl, hi, he⟩
  have HH := hid hh;clear hh
  go_enter Tryz.func89, Tryz.ntmps89
  go_wp2_with fail
  refine (keeper_find w H.out HS.out k).mono ?_;rintro e w1 ⟨rfl, hb⟩;rw [HH.out, ← HII.out];have K1 := H.out.below hb;have HB := hid (hb.mono H.out.base_le);have HKT : Hid (KeptT Oth w w1) := KeptT.below hb;have hgk1 := K1.lt;clear hgk hb;obtain ⟨c0, c1, c2, c3, c4, c5, c6, c7, c8, c9, c10, c11⟩ := K1.cells;obtain ⟨gi, cap, hv, hbg, hgl, hnc, hcm, hcell⟩ := own_shape K1.own (by omega);simp only [Value.slice.injEq, true_and] at hv;obtain ⟨rfl, rfl⟩ := hv;have hcm := le_maxLen hcm;obtain ⟨b, o, hbo, hc⟩ := (K1.items HS.out).pos (by omega)
  cases hbo
  obtain ⟨cs, _, hcs, h3⟩ := hc i hi;have hcs := hcs.1;obtain ⟨x, hx⟩ : ∃ x, x = s.items[i] := ⟨_, rfl⟩;rw [← hx] at hcs HE;subst hcs;obtain ⟨d0, d1, d2, d3, d4, d5, d6, d7, d8, hbb⟩ := item_cells (Keeps.refl w1) h3;simp only [Nat.zero_add] at d2;have hl := HS.out.len;have hfr := K1.free 8;have HX := hid hx;have K := hid K1;have hN := HS.out.clock;have ht := (HS.out.nums (x := x) (by rw [hx]; exact List.getElem_mem hi)).till;clear K1 hcell hc h3 hx c1 c2 c3 c4 c5 c6 c7 c9 c10 c11 d0 d1 d3 d4 d5 d6 d7 d8
  by_cases h0 : x.till = 0
  ·have HE2 : Hid (live s (bl k) = (s, some i)) := HE.out.trans (if_neg (fun hc => hc.1 h0))
   go_wp2_with fail
   go_ret;refine ⟨by rw [HE2.out]; rfl, ?_, HB.out, HKT.out⟩;rw [HE2.out];exact ⟨_, _, _, _, _, K.out⟩
  ·have e0 : (x.till != 0) = true := by simp [h0]
   by_cases h1 : x.till ≤ s.clock
   ·have HE2 : Hid (live s (bl k) = ({ s with items := s.items.eraseIdx i }, none)) := HE.out.trans (if_pos ⟨h0, h1⟩)
    clear HE
    go_wp2_with fail
    refine (delete_item base gi vc s.items.length i (s.items.flatMap itemCells) _ _ _ rfl rfl ?_ hi (items_one _)).mono ?_
    ·exact K.out.own
    rintro e w2 hd;have he := hd.1;subst he
    have hk2 : KeptT (· ≠ 83) w1 w2 := by
     obtain ⟨cs, hcs⟩ := row_type K.out.own;exact KeptT.grown hcs hd.2.2
    have hrow2 := hid ((hk2 g _ _ _ K.out.row (by decide)).trans K.out.row);have hfr2 : w2.frozen? ⟨g, 8, none⟩ = false := by unfold World.frozen?; rw [hrow2.out]; simp
    have hc2 : w2.cell? ⟨g, 8, none⟩ = some (.slice (some ⟨gi, 0, none⟩) s.items.length vc) := by unfold World.cell?; rw [hrow2.out]; rfl
    have HD := hid hd;have HK2 : Hid (KeptT Oth w1 w2) := hk2.mono (fun _ h => h.2);clear hd hk2
    go_wp2_with fail
    go_ret;obtain ⟨g1, g2⟩ := K.out.deleted hi rfl HD.out;refine ⟨by rw [HE2.out]; rfl, ?_, HB.out.trans g2, HKT.out.trans (HK2.out.trans ((KeptT.set hrow2.out).mono (fun _ h => h.1)))⟩;rw [HE2.out];exact ⟨_, _, _, _, _, g1⟩
   ·have HE2 : Hid (live s (bl k) = (s, some i)) := HE.out.trans (if_neg (fun hc => h1 hc.2))
    clear HE
    go_wp2_with fail
    go_ret;refine ⟨by rw [HE2.out]; rfl, ?_, HB.out, HKT.out⟩;rw [HE2.out];exact ⟨_, _, _, _, _, K.out⟩
end
section
variable {P : Program} {ops : Array Oper} {Q : Exit → Act → World → Prop} {md : Region.Mode} {S : World → Prop} {n : Nat}
def ComesUp (P : Program) (md : Region.Mode) (ops : Array Oper) (Q : Exit → Act → World → Prop) (S : World → Prop) (n fuel : Nat) (listed : Array Bool) (a : Act) (w : World) (i : Nat) : Prop :=
 wpOp P ops Q i (fun a' w' => (i ≠ n → S w') ∧ wpAnyL P md ops Q S n fuel (listed.setIfInBounds i true) a' w') a w
theorem ComesUp.mk {i : Nat} {o : Oper} {fuel : Nat} {listed : Array Bool} {a : Act} {w : World} (ho : ops[i]? = some o)
  (h : ∀ K' : Act → World → Prop, Shut (∀ a w, S w → (S w → wpAnyL P md ops Q S n fuel (listed.setIfInBounds i true) a w) → K' a w) → if Region.wanted o (yielded ops a.tmps) = true then Oper.wp P o a w K' Q else K' (a.put o.dst undef) w) :
  ComesUp P md ops Q S n fuel listed a w i :=
 wpOp_step ho (fun K' hK => h K' (fun a w hS hW => hK a w ⟨fun _ => hS, hW hS⟩))
theorem wpAnyL_one {fuel : Nat} {listed : Array Bool} {a : Act} {w : World} (i : Nat) (hr : Region.ready md ops listed = [i]) (hi : ComesUp P md ops Q S n fuel listed a w i) : wpAnyL P md ops Q S n (fuel + 1) listed a w :=
 ⟨fun h0 => (by rw [hr] at h0; cases h0), fun x hx => by
  rw [hr] at hx;obtain rfl := List.mem_singleton.1 hx
  exact hi⟩
theorem wpAnyL_two {fuel : Nat} {listed : Array Bool} {a : Act} {w : World} (i j : Nat) (hr : Region.ready md ops listed = [i, j]) (hi : ComesUp P md ops Q S n fuel listed a w i) (hj : ComesUp P md ops Q S n fuel listed a w j) : wpAnyL P md ops Q S n (fuel + 1) listed a w :=
 ⟨fun h0 => (by rw [hr] at h0; cases h0), fun x hx => by
  rw [hr] at hx;simp only [List.mem_cons, List.not_mem_nil, or_false] at hx
  rcases hx with rfl | rfl
  ·exact hi
  ·exact hj⟩
theorem wpAnyL_three {fuel : Nat} {listed : Array Bool} {a : Act} {w : World} (i j k : Nat) (hr : Region.ready md ops listed = [i, j, k]) (hi : ComesUp P md ops Q S n fuel listed a w i) (hj : ComesUp P md ops Q S n fuel listed a w j) (hk : ComesUp P md ops Q S n fuel listed a w k) :
  wpAnyL P md ops Q S n (fuel + 1) listed a w :=
 ⟨fun h0 => (by rw [hr] at h0; cases h0), fun x hx => by
  rw [hr] at hx;simp only [List.mem_cons, List.not_mem_nil, or_false] at hx
  rcases hx with rfl | rfl | rfl
  ·exact hi
  ·exact hj
  ·exact hk⟩
theorem wpAnyL_four {fuel : Nat} {listed : Array Bool} {a : Act} {w : World} (i j k m : Nat) (hr : Region.ready md ops listed = [i, j, k, m]) (hi : ComesUp P md ops Q S n fuel listed a w i) (hj : ComesUp P md ops Q S n fuel listed a w j) (hk : ComesUp P md ops Q S n fuel listed a w k)
  (hm : ComesUp P md ops Q S n fuel listed a w m) : wpAnyL P md ops Q S n (fuel + 1) listed a w :=
 ⟨fun h0 => (by rw [hr] at h0; cases h0), fun x hx => by
  rw [hr] at hx;simp only [List.mem_cons, List.not_mem_nil, or_false] at hx
  rcases hx with rfl | rfl | rfl | rfl
  ·exact hi
  ·exact hj
  ·exact hk
  ·exact hm⟩
end
def Bx (B : Nat) (o : Option Nat) (row : Obj) (w : World) : Prop := ∀ b, o = some b → B ≤ b ∧ w.heap[b]? = some row
theorem Bx.none {B : Nat} {row : Obj} {w : World} : Bx B none row w := fun _ h => by cases h
theorem Bx.below {B : Nat} {o : Option Nat} {row : Obj} {w w' : World} (h : Bx B o row w) (hb : Below w.heap.size w w') : Bx B o row w' := fun b e => by
 obtain ⟨h1, h2⟩ := h b e;exact ⟨h1, (hb.block b (blt h2)).trans h2⟩
theorem Bx.new {B : Nat} {row : Obj} {w w' : World} (hw : w' = w.alloc row) (hB : B ≤ w.heap.size) : Bx B (some w.heap.size) row w' := fun b e => by
 cases e
 subst hw;exact ⟨hB, blk_new w row⟩
theorem below_new {w w' : World} {row : Obj} (hw : w' = w.alloc row) : Below w.heap.size w w' := by rw [hw]; exact (Below.refl _ _).alloc (Nat.le_refl _) _
theorem blk_ne {w : World} {b b' : Nat} {c c' : Array Value} {T T' : TypeId} {f f' : Nat × Nat} (h : w.heap[b]? = some (.cells c T f)) (h' : w.heap[b']? = some (.cells c' T' f')) (hn : T ≠ T') : b ≠ b' := fun e => by
 subst e; rw [h] at h'; cases h'; exact hn rfl
theorem blk_one {w : World} {b : Nat} {T : TypeId} {a x : Value} (h : w.heap[b]? = some (.cells #[a] T (0, 0))) : (w.setCell ⟨b, 0, none⟩ x).heap[b]? = some (.cells #[x] T (0, 0)) := by
 simp [World.setCell, Array.getElem?_modify, h]
theorem blk_two {w : World} {b : Nat} {T : TypeId} {a c x y : Value} (h : w.heap[b]? = some (.cells #[a, c] T (0, 0))) : ((w.setCell ⟨b, 0, none⟩ x).setCell ⟨b, 1, none⟩ y).heap[b]? = some (.cells #[x, y] T (0, 0)) := by
 simp [World.setCell, Array.getElem?_modify, h]
theorem blk_three {w : World} {b : Nat} {T : TypeId} {a c d x y z : Value} (h : w.heap[b]? = some (.cells #[a, c, d] T (0, 0))) : (((w.setCell ⟨b, 0, none⟩ x).setCell ⟨b, 1, none⟩ y).setCell ⟨b, 2, none⟩ z).heap[b]? = some (.cells #[x, y, z] T (0, 0)) := by
 simp [World.setCell, Array.getElem?_modify, h]
theorem blk_off {w : World} {b b' o : Nat} {v : Value} {x : Option Obj} (h : w.heap[b]? = x) (hn : b ≠ b') : (w.setCell ⟨b', o, none⟩ v).heap[b]? = x := (Below.heap_setCell w ⟨b', o, none⟩ v b hn).trans h
def Px (B : Nat) (o : Option (Value × List Page × List Value)) (w : World) : Prop := ∀ x, o = some x → PagesOwn B w x.1 x.2.1 x.2.2
theorem Px.none {B : Nat} {w : World} : Px B none w := fun _ h => by cases h
theorem Px.below {B : Nat} {o : Option (Value × List Page × List Value)} {w w' : World} (h : Px B o w) (hb : Below w.heap.size w w') : Px B o w' := fun x e => (h x e).keptT (KeptT.below (P := fun _ => True) hb) trivial trivial
end Go.Proofs.YtbeegfkfpkfccaaGreatDoor.D
