/-
 Contract: ref.putItem: an item is put.
-/
import Derived.Test.YtbeegfkfpkfccaaGreatDoorYRRoom
import Derived.Test.YtbeegfkfpkfccaaGreatDoorYRefA
namespace Go.Proofs.YtbeegfkfpkfccaaGreatDoor.D
open Go.RowKit
def PutREnd (base : Nat) (r : Store × Bool) (fa : Option Addr) (fp : List Page) (w : World) (E : Ending) (w' : World) : Prop :=
 ∃ va' vc' fa' fc', E = .returned (.tuple #[.agg (storeV r.1 va' vc' fa' fc'), .bool r.2]) ∧ RSt base w' r.1 va' vc' fa' fc' ∧ Below w.heap.size w w' ∧ (r.1.flash.pages ≠ [] → (fa' = fa ∧ fp = r.1.flash.pages) ∨ ∀ a, fa' = some a → w.heap.size ≤ a.block)
theorem without_other {s : Store} (hr : rising s.items = true) (k : Str) : D.without s k = { s with items := otherKey s.items k } := by
 unfold D.without
 by_cases h : hasKey s.items k = true
 ·rw [if_pos h]
  obtain ⟨hi, he⟩ := hasKey_iff.1 h;have := other_erase hr hi;rw [he] at this;rw [this]
 ·rw [if_neg h]
  have hno : k ∉ keysOf s.items := fun hm => by
   obtain ⟨y, hy, e⟩ := List.mem_map.1 hm;obtain ⟨i, hi, rfl⟩ := List.getElem_of_mem hy;have hf := has_mem hr hi e;exact h (hasKey_iff.2 ⟨by rw [hf]; exact hi, by simp only [hf]; exact e⟩)
  rw [other_none hno]
theorem cls_rangeR {x : Item} (h : 0 ≤ x.cls ∧ x.cls ≤ 3) : ∃ q : Nat, q < 4 ∧ x.cls = (q : Int) := ⟨x.cls.toNat, by omega, by omega⟩
theorem three_newP (w : World) (o1 o2 o3 : Obj) : ∃ W, W = ((w.alloc o1).alloc o2).alloc o3 ∧ Below w.heap.size w W ∧ W.heap[w.heap.size]? = some o1 ∧ W.heap[w.heap.size + 1]? = some o2 ∧ W.heap[w.heap.size + 2]? = some o3 := three_newR w o1 o2 o3
theorem rowCU (w : World) (g : Nat) (s : Store) (a fa : Option Addr) (c fc T : Nat) (n u : Int) (h : w.heap[g]? = some (.cells (storeV s a c fa fc) T (0, 0))) :
  (w.setCell ⟨g, 1, none⟩ (.int .i64 n)).setCell ⟨g, 2, none⟩ (.int .i64 u) = w.setRow g (storeV { s with cas := n, uses := u } a c fa fc) := by
 rw [setCell_eq_setRow w g 1 _ _ _ _ h, setCell_eq_setRow _ g 2 _ _ _ _ (setRow_heap w g _ _ _ _ h), setRow_setRow]
 rfl
theorem rowIU (w : World) (g T : Nat) (x : Item) (n u : Int) (h : w.heap[g]? = some (.cells #[.string x.key, .int .i64 x.flags, .int .i64 x.till, .int .i64 x.cas, .int .i64 x.used, .string x.value, .bool x.far, .int .i64 x.place.page, .int .i64 x.place.off] T (0, 0))) :
  (w.setCell ⟨g, 3, none⟩ (.int .i64 n)).setCell ⟨g, 4, none⟩ (.int .i64 u) = w.setRow g (itemCells { x with cas := n, used := u }).toArray := by
 rw [setCell_eq_setRow w g 3 _ _ _ _ h, setCell_eq_setRow _ g 4 _ _ _ _ (setRow_heap w g _ _ _ _ h), setRow_setRow]
 rfl
theorem newItemB {x : Item} (h : MayPut x) {n u : Int} (hn : 0 ≤ n ∧ n ≤ 1099511627776) (hu : 0 ≤ u ∧ u ≤ 1099511627776) : ItemB { x with cas := n + 1, used := u + 1 } := by
 have h1 := keyOK_len h.key;have h2 := h.flags;have h3 := h.till;have h4 := h.value;have h5 := h.place;have hN : maxN = 1099511627776 := rfl;rw [hN] at h3;unfold ItemB I64 reachBytes;dsimp only;rw [h5];dsimp only;omega
set_option maxRecDepth 100000 in
set_option maxHeartbeats 8000000 in
theorem ref_putItem (s : Store) (x : Item) (hs : SOk s) (hx : MayPut x) (base : Nat) (va fa : Option Addr) (vc fc : Nat) (w : World) (ho : RSt base w s va vc fa fc) (hbw : base ≤ w.heap.size) :
  Calls Tryz.prog 72 #[.agg (storeV s va vc fa fc), .agg #[.string x.key, .int .i64 x.flags, .int .i64 x.till, .int .i64 x.cas, .int .i64 x.used, .string x.value, .bool x.far, .int .i64 x.place.page, .int .i64 x.place.off]] w (PutREnd base (put s x) fa s.flash.pages w) := by
 have hlen := hs.len;have HS := hid hs;have HMX := hid hx;obtain ⟨s1, hs1⟩ : ∃ t, t = D.without s (bl x.key) := ⟨_, rfl⟩;obtain ⟨k1, k2, k3, k4, k5⟩ := hs.without (bl x.key);rw [← hs1] at k1 k2 k3 k4 k5;obtain ⟨L, hL⟩ : ∃ L, L = s1.items := ⟨_, rfl⟩;have he1 : s1 = { s with items := L } := by rw [hL, hs1, without_other hs.rise]
 have HE1 := hid he1
 have HO : Hid (s.items.filter (fun y => !(bl y.key == bl x.key)) = L) := by
  show _ = _;rw [hL, hs1, without_other hs.rise]; rfl
 have HOK1 := hid k1;have HNO := hid k2;have HLB : Hid ((∀ y ∈ L, ItemB y) ∧ L.length ≤ 1000) := by rw [hL]; exact ⟨k1.itemB, k1.len⟩
 have HCAS : Hid (s1.cas = s.cas) := k3;have HPUT : Hid (put s x = if s1.cas = maxN then (s1, false) else if (room s1 x.cls).2 = true then (with1 (room s1 x.cls).1 x, true) else ((room s1 x.cls).1, false)) := by rw [hs1]; rfl
 obtain ⟨W, hW, hb0, r2, r3, r4⟩ := three_newP w (.cells (storeV s va vc fa fc) 28) (.cells #[.string x.key, .int .i64 x.flags, .int .i64 x.till, .int .i64 x.cas, .int .i64 x.used, .string x.value, .bool x.far, .int .i64 x.place.page, .int .i64 x.place.off] 83) (.cells storeZ 28);have R2 := hid r2;have R3 := hid r3;have R4 := hid r4;have O0 := hid (ho.below hb0);have HB0 := hid hb0;have HFA : Hid (s.flash.pages ≠ [] → ∀ a, fa = some a → a.block < w.heap.size) := fun hp a ha => (ho.fa_lt hp a ha).2
 have hwz : w.heap.size + 3 ≤ W.heap.size := by have := (blt r4); omega
 have y0 : W.cell? ⟨w.heap.size + 1, 0, none⟩ = some (.string x.key) := cor R3.out rfl;have y8 : W.cell? ⟨w.heap.size, 8, none⟩ = some (.slice va s.items.length vc) := cor R2.out rfl;clear hs ho hx r2 r3 r4 hb0 k1 k2 k3 k4 k5 hs1 hL he1
 go_enter Tryz.func72, Tryz.ntmps72
 go_upto_region 1 with (fail);rw [← hW];clear hW
 go_wp2_with fail
 have hx := ref_except 97 (w.heap.size + 1) (fun y => bl y.key == bl x.key) s.items va vc W O0.out.at.items hlen (strikes_putI y0);refine hx.mono ?_;clear hx;rintro e w1 ⟨v, rfl, how, hb1⟩;obtain ⟨va1, vc1, rfl⟩ := own_slice how;rw [HO.out] at how ⊢;have HOW := hid (owns_low (base' := base) how (by omega));have HVN : Hid (∀ a, va1 = some a → W.heap.size ≤ a.block) := fun a ha => by subst ha; exact (how.lt a.block rfl).1
 have hW1 := hb1.size;have O1 := hid (O0.out.below hb1);have HB1 := hid (HB0.out.trans (hb1.mono HB0.out.size));have P2 := hid ((hb1.block w.heap.size (by omega)).trans R2.out);have P3 := hid ((hb1.block (w.heap.size + 1) (by omega)).trans R3.out);have P4 := hid ((hb1.block (w.heap.size + 2) (by omega)).trans R4.out);clear how hb1 R2 R3 R4 O0 HB0 y0 y8 HO;have z8 : w1.cell? ⟨w.heap.size, 8, none⟩ = some (.slice va s.items.length vc) := cor P2.out rfl;have f8 : ∀ j, w1.frozen? ⟨w.heap.size, j, none⟩ = false := fun j => frozen_of_row w1 _ _ _ _ P2.out
 go_upto_region 2 with (fail);obtain ⟨W2, hW2⟩ : ∃ W2, W2 = w1.setCell ⟨w.heap.size, 8, none⟩ (.slice va1 L.length vc1) := ⟨_, rfl⟩;rw [← hW2]
 have Q2 : Hid (W2.heap[w.heap.size]? = some (.cells (storeV s1 va1 vc1 fa fc) 28 (0, 0))) := by
  show _ = _;rw [HE1.out, hW2, setCell_eq_setRow w1 w.heap.size 8 _ _ _ _ P2.out, setRow_heap w1 w.heap.size _ _ _ _ P2.out]
  simp [storeV]
 have Q3 : Hid (W2.heap[w.heap.size + 1]? = some (.cells #[.string x.key, .int .i64 x.flags, .int .i64 x.till, .int .i64 x.cas, .int .i64 x.used, .string x.value, .bool x.far, .int .i64 x.place.page, .int .i64 x.place.off] 83 (0, 0))) := by show _ = _; rw [hW2]; exact blk_off P3.out (by omega)
 have Q4 : Hid (W2.heap[w.heap.size + 2]? = some (.cells storeZ 28 (0, 0))) := by show _ = _; rw [hW2]; exact blk_off P4.out (by omega)
 have O2 : Hid (RSt base W2 s1 va1 vc1 fa fc) := by
  show RSt _ _ _ _ _ _ _;rw [HE1.out, hW2, setCell_eq_setRow w1 w.heap.size 8 _ _ _ _ P2.out];exact (O1.out.items HOW.out HLB.out.1 HLB.out.2 (fun hp a f ha hf => by have := HVN.out a ha; have := HFA.out hp f hf; omega)).setAt P2.out (by decide) (fun a ha => by have := HVN.out a ha; omega) (fun hp a ha => by have := HFA.out hp a ha; omega)
 have HB2 : Hid (Below w.heap.size w W2) := by show Below _ _ _; rw [hW2]; exact HB1.out.setCell (p := ⟨w.heap.size, 8, none⟩) (Nat.le_refl _) _
 have HFB : Hid (s1.flash.pages ≠ [] → ∀ a, fa = some a → a.block < w.heap.size) := by rw [HE1.out]; exact HFA
 have hz2 : w.heap.size + 3 ≤ W2.heap.size := by have := (blt Q4.out); omega
 have hWW : W.heap.size ≤ W2.heap.size := by rw [hW2]; simpa using hW1
 clear z8 f8 hW2 P2 P3 P4 O1 HB1 HOW HLB HFA;have x1 : W2.cell? ⟨w.heap.size, 1, none⟩ = some (.int .i64 s1.cas) := cor Q2.out rfl;have hN : maxN = 1099511627776 := rfl
 by_cases hc : s1.cas = 1099511627776
 ·have HR : Hid (put s x = (s1, false)) := HPUT.out.trans (if_pos (by rw [hN]; exact hc))
  have hc1 : (s1.cas == 1099511627776) = true := by simp [hc]
  go_wp2_with (first
   | refine wpList_load_row rfl 28 _ rfl w.heap.size rfl _ _ _ _ Q2.out Tryz.underlying28 rfl (by kernel_rfl) ?_
   | refine wpList_store_row rfl 28 _ _ rfl (w.heap.size + 2) _ rfl rfl _ _ Q4.out storeSize rfl (store_one _ _ _ _ _) ?_)
  refine bodyPost_ret (v := .tuple #[.agg (storeV (s1) va1 vc1 fa fc), .bool false]) (resultsCT rfl _ _ (w.heap.size + 2) _ _ rfl rfl (run_loadVar_row _ _ _ _ _ _ _ (setRow_heap _ _ _ _ _ _ Q4.out) Tryz.underlying28 rfl storeSize)) rfl ?_;refine ⟨va1, vc1, fa, fc, by rw [HR.out], ?_, ?_, fun _ => .inl ⟨rfl, by rw [HR.out, HE1.out]⟩⟩
  ·rw [HR.out]
   exact O2.out.setAt Q4.out (by decide) (fun a ha => by have := HVN.out a ha; omega) (fun hp a ha => by have := HFB.out hp a ha; omega)
  ·exact HB2.out.trans (Below.setRow _ (w.heap.size + 2) _ (by omega))
 ·have HP2 := hid (HPUT.out.trans (if_neg (by rw [hN]; exact hc)))
  have hc1 : (s1.cas == 1099511627776) = false := by simp [hc]
  obtain ⟨q, hq, hqc⟩ := cls_rangeR HMX.out.cls;have HQ := hid hqc;clear HPUT hqc;obtain ⟨⟨t, b⟩, hrr⟩ : ∃ r, r = room s1 (q : Int) := ⟨_, rfl⟩;have HRM := hid hrr;have HCQ : Hid ((q : Int) = classOf x.key.size x.value.size) := HQ.out.symm;have hrm := HOK1.out.room (c := (q : Int)) (by omega);rw [← hrr] at hrm;obtain ⟨m1, m2, m3, m4, m5, m6⟩ := hrm;have HOT := hid m1;have HTC : Hid (t.cas = s1.cas ∧ t.uses = s1.uses) := ⟨m3, m4⟩;have HTN : Hid (bl x.key ∉ keysOf t.items) := fun hm => HNO.out (m6.mem hm)
  have HP3 : Hid (put s x = if b = true then (with1 t x, true) else (t, false)) := by show _ = _; rw [HP2.out, HQ.out, ← HRM.out]
  have u0 : W2.cell? ⟨w.heap.size + 1, 0, none⟩ = some (.string x.key) := cor Q3.out rfl;have u5 : W2.cell? ⟨w.heap.size + 1, 5, none⟩ = some (.string x.value) := cor Q3.out rfl;clear hrr m1 m2 m3 m4 m5 m6 HP2;go_upto_region 4 with (fail)
  go_cut [6] (fun v wx => v = .bool b ∧ ∃ va5 vc5 fa5 fc5, Hid (wx.heap[w.heap.size]? = some (.cells (storeV t va5 vc5 fa5 fc5) 28 (0, 0))) ∧ Hid (wx.heap[w.heap.size + 1]? = some (.cells #[.string x.key, .int .i64 x.flags, .int .i64 x.till, .int .i64 x.cas, .int .i64 x.used, .string x.value, .bool x.far, .int .i64 x.place.page, .int .i64 x.place.off] 83 (0, 0))) ∧ Hid (wx.heap[w.heap.size + 2]? = some (.cells storeZ 28 (0, 0))) ∧ Hid (RSt base wx t va5 vc5 fa5 fc5) ∧ Hid (Below w.heap.size w wx) ∧ Hid (∀ a, va5 = some a → W.heap.size ≤ a.block) ∧ Hid (t.flash.pages ≠ [] → (fa5 = fa ∧ s1.flash.pages = t.flash.pages) ∨ ∀ a, fa5 = some a → W.heap.size ≤ a.block))
  case first =>
   refine wp_region_L (fun w' : World => w'.heap[w.heap.size + 1]? = some (.cells #[.string x.key, .int .i64 x.flags, .int .i64 x.till, .int .i64 x.cas, .int .i64 x.used, .string x.value, .bool x.far, .int .i64 x.place.page, .int .i64 x.place.off] 83 (0, 0))) 13 14 (by kernel_rfl) (by kernel_rfl) Q3.out (fun hHeld => ?_);refine tk 1 ?_ rfl (fun _ _ _ h=>h) (y:=?_) (h:=?_);rotate_left
   ·intro wS hSw; go_simp<;>with_reducible rfl
   walk_nrm;refine tk 2 ?_ rfl (fun _ _ _ h=>h) (y:=?_) (h:=?_);rotate_left
   ·intro wS hSw; have k0 := (World.cell?_of_block (w := W2) (hSw.trans Q3.out.symm)).trans u0; go_simp<;>with_reducible rfl
   walk_nrm;refine tk 3 ?_ rfl (fun _ _ _ h=>h) (y:=?_) (h:=?_);rotate_left
   ·intro wS hSw; go_simp<;>with_reducible rfl
   walk_nrm;refine tk 4 ?_ rfl (fun _ _ _ h=>h) (y:=?_) (h:=?_);rotate_left
   ·intro wS hSw; go_simp<;>with_reducible rfl
   walk_nrm;refine tk 5 ?_ rfl (fun _ _ _ h=>h) (y:=?_) (h:=?_);rotate_left
   ·intro wS hSw; have k5 := (World.cell?_of_block (w := W2) (hSw.trans Q3.out.symm)).trans u5; go_simp<;>with_reducible rfl
   walk_nrm;refine tk 6 ?_ rfl (fun _ _ _ h=>h) (y:=?_) (h:=?_);rotate_left
   ·intro wS hSw; go_simp<;>with_reducible rfl
   walk_nrm;obtain ⟨wx, hwx⟩ : ∃ wx, wx = W2.drew := ⟨_, rfl⟩;have hbx : Below W2.heap.size W2 wx := by rw [hwx]; exact (Below.refl _ _).drew
   rw [← hwx] at hHeld ⊢;have N2 := hid ((hbx.block w.heap.size (by omega)).trans Q2.out);have N3 := hid ((hbx.block (w.heap.size + 1) (by omega)).trans Q3.out);have N4 := hid ((hbx.block (w.heap.size + 2) (by omega)).trans Q4.out);have ON := hid (O2.out.below hbx);have HBN := hid (HB2.out.trans (hbx.mono HB2.out.size));have hzx := hbx.size;clear hwx hbx u0 u5 Q2 Q3 Q4 O2 HB2 x1;refine wpAnyL_two 0 7 (by kernel_rfl) ?_ ?_
   ·refine ComesUp.mk rfl (fun K hK => ?_)
    rw [if_pos (by rfl)];refine wp_load_row 28 _ rfl w.heap.size rfl _ _ _ _ N2.out Tryz.underlying28 rfl (by kernel_rfl) ?_;refine hK.out _ _ N3.out ?_;clear hK K hHeld;intro hHeld;walk_nrm;refine wpAnyL_one 7 (by kernel_rfl) ?_
    ·refine ComesUp.mk rfl (fun K hK => ?_)
     go_simp;refine (class_is x.key.size x.value.size q HCQ wx).mono ?_;rintro e wn ⟨rfl, hbn⟩;replace N2 := hid ((hbn.block w.heap.size (blt N2.out)).trans N2.out);replace N3 := hid ((hbn.block (w.heap.size + 1) (blt N3.out)).trans N3.out);replace N4 := hid ((hbn.block (w.heap.size + 2) (blt N4.out)).trans N4.out);replace ON := hid (ON.out.below hbn);replace HBN := hid (HBN.out.trans (hbn.mono HBN.out.size));replace hzx := Nat.le_trans hzx hbn.size;refine hK.out _ _ N3.out ?_;clear hK K hHeld hbn;intro hHeld;walk_nrm;clear wx;obtain ⟨wx, rfl⟩ := wld wn;refine wpAnyL_one 8 (by kernel_rfl) ?_;refine ComesUp.mk rfl (fun K hK => ?_);go_simp;have hm := ref_madeRoom s1 q hq HOK1.out base va1 fa vc1 fc wx ON.out (by have := HBN.out.size; omega);rw [← HRM.out] at hm;refine hm.mono ?_;clear hm;rintro e w5 ⟨va5, vc5, fa5, fc5, rfl, hr5, hv5, hb5, hva5, hfa5⟩;have hx3 := (blt N4.out);have hxb := HBN.out.size;have M2 := hid (hv5.at N2.out (fun a ha => by have := HVN.out a ha; omega));have M3 := hid (hv5.at N3.out (fun a ha => by have := HVN.out a ha; omega));have M4 := hid (hv5.at N4.out (fun a ha => by have := HVN.out a ha; omega));have OM := hid hr5;have hbw5 : Below w.heap.size wx w5 := ⟨hb5.os, hb5.tape, hb5.output, hb5.size, fun k hk => hv5.2 k (by omega) (fun a ha => by have := HVN.out a ha; omega)⟩;have HBM := hid (HBN.out.trans hbw5)
     have HV5 : Hid (∀ a, va5 = some a → W.heap.size ≤ a.block) := fun a ha => by
      rcases hva5 with h | h
      ·exact HVN.out a (h ▸ ha)
      ·have := h a ha; omega
     have HF5 : Hid (t.flash.pages ≠ [] → (fa5 = fa ∧ s1.flash.pages = t.flash.pages) ∨ ∀ a, fa5 = some a → W.heap.size ≤ a.block) := fun hp => (hfa5 hp).imp id (fun h a ha => by have := h a ha; omega)
     have HFX : Hid (t.flash.pages ≠ [] → ∀ a, fa5 = some a → a.block < w.heap.size ∨ W.heap.size ≤ a.block) := fun hp a ha => by
      rcases HF5.out hp with ⟨h1, h2⟩ | h
      ·exact .inl (HFB.out (by rw [h2]; exact hp) a (h1 ▸ ha))
      ·exact .inr (h a ha)
     refine hK.out _ _ M3.out ?_;clear hK K hHeld hr5 hv5 hb5 hva5 hfa5 hbw5 N2 N3 N4 ON HBN;intro hHeld;walk_nrm;refine tk 9 ?_ rfl (fun _ _ _ h=>h) (y:=?_) (h:=?_);rotate_left
     ·intro wS hSw; go_simp<;>with_reducible rfl
     walk_nrm;refine tk 10 ?_ rfl (fun _ _ _ h=>h) (y:=?_) (h:=?_);rotate_left
     ·intro wS hSw; go_simp<;>with_reducible rfl
     walk_nrm;refine tk 11 ?_ rfl (fun _ _ _ h=>h) (y:=?_) (h:=?_);rotate_left
     ·intro wS hSw; go_simp<;>with_reducible rfl
     walk_nrm;refine wpAnyL_one 12 (by kernel_rfl) ?_;refine ComesUp.mk rfl (fun K hK => ?_);rw [if_pos (by rfl)];refine wp_store_row 28 _ _ rfl w.heap.size _ rfl rfl _ _ M2.out storeSize rfl (store_one _ _ _ _ _) ?_;obtain ⟨W6, hW6⟩ : ∃ W6, W6 = w5.setRow w.heap.size (storeV t va5 vc5 fa5 fc5) := ⟨_, rfl⟩;rw [← hW6];have T2 : Hid (W6.heap[w.heap.size]? = some (.cells (storeV t va5 vc5 fa5 fc5) 28 (0, 0))) := by show _ = _; rw [hW6]; exact setRow_heap _ _ _ _ _ _ M2.out
     have T3 : Hid (W6.heap[w.heap.size + 1]? = some (.cells #[.string x.key, .int .i64 x.flags, .int .i64 x.till, .int .i64 x.cas, .int .i64 x.used, .string x.value, .bool x.far, .int .i64 x.place.page, .int .i64 x.place.off] 83 (0, 0))) := by show _ = _; rw [hW6, setRow_other _ _ _ _ (by omega)]; exact M3.out
     have T4 : Hid (W6.heap[w.heap.size + 2]? = some (.cells storeZ 28 (0, 0))) := by show _ = _; rw [hW6, setRow_other _ _ _ _ (by omega)]; exact M4.out
     have OT : Hid (RSt base W6 t va5 vc5 fa5 fc5) := by
      show RSt _ _ _ _ _ _ _;rw [hW6];exact OM.out.setAt M2.out (by decide) (fun a ha => by have := HV5.out a ha; omega) (fun hp a ha => by have := HFX.out hp a ha; omega)
     have HBT : Hid (Below w.heap.size w W6) := by show Below _ _ _; rw [hW6]; exact HBM.out.trans (Below.setRow _ w.heap.size _ (Nat.le_refl _))
     refine hK.out _ _ T3.out ?_;clear hK K hHeld hW6 M2 M3 M4 OM HBM;intro hHeld;walk_nrm;refine wpAnyL_last rfl (by kernel_rfl) (fun K hK => ?_);go_simp;refine hK.out _ _ ?_;clear hK K hHeld;walk_nrm;refine wpAnyL_done (by kernel_rfl) ?_ _
     go_wp2_with fail
     go_meet;exact ⟨rfl, va5, vc5, fa5, fc5, T2, T3, T4, OT, HBT, HV5, HF5⟩
   ·refine ComesUp.mk rfl (fun K hK => ?_)
    go_simp;refine (class_is x.key.size x.value.size q HCQ wx).mono ?_;rintro e wn ⟨rfl, hbn⟩;replace N2 := hid ((hbn.block w.heap.size (blt N2.out)).trans N2.out);replace N3 := hid ((hbn.block (w.heap.size + 1) (blt N3.out)).trans N3.out);replace N4 := hid ((hbn.block (w.heap.size + 2) (blt N4.out)).trans N4.out);replace ON := hid (ON.out.below hbn);replace HBN := hid (HBN.out.trans (hbn.mono HBN.out.size));replace hzx := Nat.le_trans hzx hbn.size;refine hK.out _ _ N3.out ?_;clear hK K hHeld hbn;intro hHeld;walk_nrm;clear wx;obtain ⟨wx, rfl⟩ := wld wn;refine wpAnyL_one 0 (by kernel_rfl) ?_
    ·refine ComesUp.mk rfl (fun K hK => ?_)
     rw [if_pos (by rfl)];refine wp_load_row 28 _ rfl w.heap.size rfl _ _ _ _ N2.out Tryz.underlying28 rfl (by kernel_rfl) ?_;refine hK.out _ _ N3.out ?_;clear hK K hHeld;intro hHeld;walk_nrm;refine wpAnyL_one 8 (by kernel_rfl) ?_;refine ComesUp.mk rfl (fun K hK => ?_);go_simp;have hm := ref_madeRoom s1 q hq HOK1.out base va1 fa vc1 fc wx ON.out (by have := HBN.out.size; omega);rw [← HRM.out] at hm;refine hm.mono ?_;clear hm;rintro e w5 ⟨va5, vc5, fa5, fc5, rfl, hr5, hv5, hb5, hva5, hfa5⟩;have hx3 := (blt N4.out);have hxb := HBN.out.size;have M2 := hid (hv5.at N2.out (fun a ha => by have := HVN.out a ha; omega));have M3 := hid (hv5.at N3.out (fun a ha => by have := HVN.out a ha; omega));have M4 := hid (hv5.at N4.out (fun a ha => by have := HVN.out a ha; omega));have OM := hid hr5;have hbw5 : Below w.heap.size wx w5 := ⟨hb5.os, hb5.tape, hb5.output, hb5.size, fun k hk => hv5.2 k (by omega) (fun a ha => by have := HVN.out a ha; omega)⟩;have HBM := hid (HBN.out.trans hbw5)
     have HV5 : Hid (∀ a, va5 = some a → W.heap.size ≤ a.block) := fun a ha => by
      rcases hva5 with h | h
      ·exact HVN.out a (h ▸ ha)
      ·have := h a ha; omega
     have HF5 : Hid (t.flash.pages ≠ [] → (fa5 = fa ∧ s1.flash.pages = t.flash.pages) ∨ ∀ a, fa5 = some a → W.heap.size ≤ a.block) := fun hp => (hfa5 hp).imp id (fun h a ha => by have := h a ha; omega)
     have HFX : Hid (t.flash.pages ≠ [] → ∀ a, fa5 = some a → a.block < w.heap.size ∨ W.heap.size ≤ a.block) := fun hp a ha => by
      rcases HF5.out hp with ⟨h1, h2⟩ | h
      ·exact .inl (HFB.out (by rw [h2]; exact hp) a (h1 ▸ ha))
      ·exact .inr (h a ha)
     refine hK.out _ _ M3.out ?_;clear hK K hHeld hr5 hv5 hb5 hva5 hfa5 hbw5 N2 N3 N4 ON HBN;intro hHeld;walk_nrm;refine tk 9 ?_ rfl (fun _ _ _ h=>h) (y:=?_) (h:=?_);rotate_left
     ·intro wS hSw; go_simp<;>with_reducible rfl
     walk_nrm;refine tk 10 ?_ rfl (fun _ _ _ h=>h) (y:=?_) (h:=?_);rotate_left
     ·intro wS hSw; go_simp<;>with_reducible rfl
     walk_nrm;refine tk 11 ?_ rfl (fun _ _ _ h=>h) (y:=?_) (h:=?_);rotate_left
     ·intro wS hSw; go_simp<;>with_reducible rfl
     walk_nrm;refine wpAnyL_one 12 (by kernel_rfl) ?_;refine ComesUp.mk rfl (fun K hK => ?_);rw [if_pos (by rfl)];refine wp_store_row 28 _ _ rfl w.heap.size _ rfl rfl _ _ M2.out storeSize rfl (store_one _ _ _ _ _) ?_;obtain ⟨W6, hW6⟩ : ∃ W6, W6 = w5.setRow w.heap.size (storeV t va5 vc5 fa5 fc5) := ⟨_, rfl⟩;rw [← hW6];have T2 : Hid (W6.heap[w.heap.size]? = some (.cells (storeV t va5 vc5 fa5 fc5) 28 (0, 0))) := by show _ = _; rw [hW6]; exact setRow_heap _ _ _ _ _ _ M2.out
     have T3 : Hid (W6.heap[w.heap.size + 1]? = some (.cells #[.string x.key, .int .i64 x.flags, .int .i64 x.till, .int .i64 x.cas, .int .i64 x.used, .string x.value, .bool x.far, .int .i64 x.place.page, .int .i64 x.place.off] 83 (0, 0))) := by show _ = _; rw [hW6, setRow_other _ _ _ _ (by omega)]; exact M3.out
     have T4 : Hid (W6.heap[w.heap.size + 2]? = some (.cells storeZ 28 (0, 0))) := by show _ = _; rw [hW6, setRow_other _ _ _ _ (by omega)]; exact M4.out
     have OT : Hid (RSt base W6 t va5 vc5 fa5 fc5) := by
      show RSt _ _ _ _ _ _ _;rw [hW6];exact OM.out.setAt M2.out (by decide) (fun a ha => by have := HV5.out a ha; omega) (fun hp a ha => by have := HFX.out hp a ha; omega)
     have HBT : Hid (Below w.heap.size w W6) := by show Below _ _ _; rw [hW6]; exact HBM.out.trans (Below.setRow _ w.heap.size _ (Nat.le_refl _))
     refine hK.out _ _ T3.out ?_;clear hK K hHeld hW6 M2 M3 M4 OM HBM;intro hHeld;walk_nrm;refine wpAnyL_last rfl (by kernel_rfl) (fun K hK => ?_);go_simp;refine hK.out _ _ ?_;clear hK K hHeld;walk_nrm;refine wpAnyL_done (by kernel_rfl) ?_ _
     go_wp2_with fail
     go_meet;exact ⟨rfl, va5, vc5, fa5, fc5, T2, T3, T4, OT, HBT, HV5, HF5⟩
  case rest =>
   obtain ⟨rfl, va5, vc5, fa5, fc5, T2, T3, T4, OT, HBT, HV5, HF5⟩ := hcut
   have HFX : Hid (t.flash.pages ≠ [] → ∀ a, fa5 = some a → a.block < w.heap.size ∨ W.heap.size ≤ a.block) := fun hp a ha => by
    rcases HF5.out hp with ⟨h1, h2⟩ | h
    ·exact .inl (HFB.out (by rw [h2]; exact hp) a (h1 ▸ ha))
    ·exact .inr (h a ha)
   clear Q2 Q3 Q4 O2 HB2 x1 u0 u5
   cases b with
   | false =>
    have HR : Hid (put s x = (t, false)) := HP3.out
    go_wp2_with (first
     | refine wpList_load_row rfl 28 _ rfl w.heap.size rfl _ _ _ _ T2.out Tryz.underlying28 rfl (by kernel_rfl) ?_
     | refine wpList_store_row rfl 28 _ _ rfl (w.heap.size + 2) _ rfl rfl _ _ T4.out storeSize rfl (store_one _ _ _ _ _) ?_)
    refine bodyPost_ret (v := .tuple #[.agg (storeV (t) va5 vc5 fa5 fc5), .bool false]) (resultsCT rfl _ _ (w.heap.size + 2) _ _ rfl rfl (run_loadVar_row _ _ _ _ _ _ _ (setRow_heap _ _ _ _ _ _ T4.out) Tryz.underlying28 rfl storeSize)) rfl ?_;refine ⟨va5, vc5, fa5, fc5, by rw [HR.out], ?_, ?_, fun hp => ?_⟩
    ·rw [HR.out]
     exact OT.out.setAt T4.out (by decide) (fun a ha => by have := HV5.out a ha; omega) (fun hp a ha => by have := HFX.out hp a ha; omega)
    ·exact HBT.out.trans (Below.setRow _ (w.heap.size + 2) _ (by omega))
    rw [HR.out] at hp;rw [HR.out];exact (HF5.out hp).imp (fun h => ⟨h.1, by rw [← h.2, HE1.out]⟩) (fun h a ha => by have := h a ha; omega)
   | true =>
    have HR : Hid (put s x = (with1 t x, true)) := HP3.out;have hcb := HOT.out.cas;have hub := HOT.out.uses;have hN2 : maxN = 1099511627776 := rfl;obtain ⟨n, hn⟩ : ∃ n, n = t.cas := ⟨_, rfl⟩;obtain ⟨u, hu⟩ : ∃ u, u = t.uses := ⟨_, rfl⟩;rw [← hn] at hcb;rw [← hu] at hub;rw [hN2] at hcb hub;have HN := hid hn;have HU := hid hu;have HNB := hid (newItemB HMX.out hcb hub)
    have HLT : Hid (t.items.length < 1000) := by
     have h := (HOK1.out.room (c := (q : Int)) (by omega)).2.1;rw [← HRM.out] at h;exact (h rfl).2
    clear hn hu hN2;have c1 : wc.cell? ⟨w.heap.size, 1, none⟩ = some (.int .i64 n) := by rw [HN.out, cell_of_row wc _ _ _ _ _ T2.out]; rfl
    have c2 : wc.cell? ⟨w.heap.size, 2, none⟩ = some (.int .i64 u) := by rw [HU.out, cell_of_row wc _ _ _ _ _ T2.out]; rfl
    have b3 : wc.cell? ⟨w.heap.size + 1, 3, none⟩ = some (.int .i64 x.cas) := cor T3.out rfl;have b4 : wc.cell? ⟨w.heap.size + 1, 4, none⟩ = some (.int .i64 x.used) := cor T3.out rfl;have f2 : ∀ j, wc.frozen? ⟨w.heap.size, j, none⟩ = false := fun j => frozen_of_row wc _ _ _ _ T2.out
    have f3 : ∀ j, wc.frozen? ⟨w.heap.size + 1, j, none⟩ = false := fun j => frozen_of_row wc _ _ _ _ T3.out
    have n1 : ¬ w.heap.size = w.heap.size + 1 := by omega
    have n2 : ¬ w.heap.size + 1 = w.heap.size := by omega
    go_upto_region 11 with (fail);have e3 : (wc.setRow w.heap.size (storeV { t with cas := n + 1, uses := u + 1 } va5 vc5 fa5 fc5)).heap[w.heap.size + 1]? = some (.cells #[.string x.key, .int .i64 x.flags, .int .i64 x.till, .int .i64 x.cas, .int .i64 x.used, .string x.value, .bool x.far, .int .i64 x.place.page, .int .i64 x.place.off] 83 (0, 0)) := (setRow_other _ _ _ _ (by omega)).trans T3.out;rw [rowCU wc w.heap.size t va5 fa5 vc5 fc5 _ (n + 1) (u + 1) T2.out, rowIU _ (w.heap.size + 1) _ x (n + 1) (u + 1) e3];obtain ⟨W8, hW8⟩ : ∃ W8, W8 = (wc.setRow w.heap.size (storeV { t with cas := n + 1, uses := u + 1 } va5 vc5 fa5 fc5)).setRow (w.heap.size + 1) (itemCells { x with cas := n + 1, used := u + 1 }).toArray := ⟨_, rfl⟩;rw [← hW8];have V2 : Hid (W8.heap[w.heap.size]? = some (.cells (storeV { t with cas := n + 1, uses := u + 1 } va5 vc5 fa5 fc5) 28 (0, 0))) := by show _ = _; rw [hW8, setRow_other _ _ _ _ (by omega)]; exact setRow_heap _ _ _ _ _ _ T2.out
    have V3 : Hid (W8.heap[w.heap.size + 1]? = some (.cells (itemCells { x with cas := n + 1, used := u + 1 }).toArray 83 (0, 0))) := by show _ = _; rw [hW8]; exact setRow_heap _ _ _ _ _ _ e3
    have V4 : Hid (W8.heap[w.heap.size + 2]? = some (.cells storeZ 28 (0, 0))) := by show _ = _; rw [hW8, setRow_other _ _ _ _ (by omega), setRow_other _ _ _ _ (by omega)]; exact T4.out
    have O8 : Hid (RSt base W8 { t with cas := n + 1, uses := u + 1 } va5 vc5 fa5 fc5) := by
     show RSt _ _ _ _ _ _ _;rw [hW8];refine RSt.nums (s := t) ?_ rfl rfl;exact (OT.out.setAt T2.out (by decide) (fun a ha => by have := HV5.out a ha; omega) (fun hp a ha => by have := HFX.out hp a ha; omega)).setAt e3 (by decide) (fun a ha => by have := HV5.out a ha; omega) (fun hp a ha => by have := HFX.out hp a ha; omega)
    have HB8 : Hid (Below w.heap.size w W8) := by show Below _ _ _; rw [hW8]; exact (HBT.out.trans (Below.setRow _ w.heap.size _ (Nat.le_refl _))).trans (Below.setRow _ (w.heap.size + 1) _ (by omega))
    have HF8 : Hid (t.flash.pages ≠ [] → ∀ a, fa5 = some a → a.block < W8.heap.size) := fun hp a ha => (O8.out.fa_lt hp a ha).2
    have hz8 : w.heap.size + 3 ≤ W8.heap.size := by have := (blt V4.out); omega
    clear c1 c2 b3 b4 f2 f3 e3 hW8 T2 T3 T4 OT HBT;have z8 : W8.cell? ⟨w.heap.size, 8, none⟩ = some (.slice va5 t.items.length vc5) := cor V2.out rfl
    go_wp2_with (first
     | refine wpList_load_row rfl 83 _ rfl (w.heap.size + 1) rfl _ _ _ _ V3.out Tryz.underlying83 rfl (by kernel_rfl) ?_)
    have hx := ref_withItem t.items { x with cas := n + 1, used := u + 1 } va5 vc5 W8 O8.out.at.items O8.out.len;rw [withR_insert (x := { x with cas := n + 1, used := u + 1 }) HOT.out.rise HTN.out] at hx;refine hx.mono ?_;clear hx;rintro e w9 ⟨v, rfl, how, hb9⟩;obtain ⟨va', vc', rfl⟩ := own_slice how;obtain ⟨L, hL⟩ : ∃ L, L = t.items.insertIdx (findKey t.items (bl x.key)) { x with cas := n + 1, used := u + 1 } := ⟨_, rfl⟩;have hLe : t.items.insertIdx (findKey t.items (bl { x with cas := n + 1, used := u + 1 }.key)) { x with cas := n + 1, used := u + 1 } = L := hL.symm;rw [hLe] at how ⊢;have HR2 : Hid (put s x = ({ t with cas := n + 1, uses := u + 1, items := L }, true)) := by show _ = _; rw [HR.out, hL, HN.out, HU.out]; rfl
    have HLB : Hid ((∀ y ∈ L, ItemB y) ∧ L.length ≤ 1000) := by
     rw [hL];refine ⟨fun y hy => ?_, ?_⟩
     ·rcases mem_insert (findKey_le _ _) hy with rfl | hy
      ·exact HNB.out
      ·exact HOT.out.itemB y hy
     ·have := HLT.out
      rw [List.length_insertIdx]; split <;> omega
    have HOW := hid (owns_low (base' := base) how (by omega));have HVN : Hid (∀ a, va' = some a → W8.heap.size ≤ a.block) := fun a ha => by subst ha; exact (how.lt a.block rfl).1
    have O9 := hid (O8.out.below hb9);have HB9 := hid (HB8.out.trans (hb9.mono HB8.out.size));have U2 := hid ((hb9.block w.heap.size (by omega)).trans V2.out);have U4 := hid ((hb9.block (w.heap.size + 2) (by omega)).trans V4.out);clear how hb9 hL hLe O8 V2 V3 V4 HB8 z8 n1 n2;have z8 : w9.cell? ⟨w.heap.size, 8, none⟩ = some (.slice va5 t.items.length vc5) := cor U2.out rfl;have f8 : ∀ j, w9.frozen? ⟨w.heap.size, j, none⟩ = false := fun j => frozen_of_row w9 _ _ _ _ U2.out
    go_upto_region 12 with (fail);obtain ⟨WA, hWA⟩ : ∃ WA, WA = w9.setCell ⟨w.heap.size, 8, none⟩ (.slice va' L.length vc') := ⟨_, rfl⟩;rw [← hWA]
    have M2 : Hid (WA.heap[w.heap.size]? = some (.cells (storeV { t with cas := n + 1, uses := u + 1, items := L } va' vc' fa5 fc5) 28 (0, 0))) := by
     show _ = _;rw [hWA, setCell_eq_setRow w9 w.heap.size 8 _ _ _ _ U2.out, setRow_heap w9 w.heap.size _ _ _ _ U2.out]
     simp [storeV]
    have M4 : Hid (WA.heap[w.heap.size + 2]? = some (.cells storeZ 28 (0, 0))) := by show _ = _; rw [hWA]; exact blk_off U4.out (by omega)
    have OA : Hid (RSt base WA { t with cas := n + 1, uses := u + 1, items := L } va' vc' fa5 fc5) := by
     show RSt _ _ _ _ _ _ _;rw [hWA, setCell_eq_setRow w9 w.heap.size 8 _ _ _ _ U2.out];exact (O9.out.items HOW.out HLB.out.1 HLB.out.2 (fun hp a f ha hf => by have := HVN.out a ha; have := HF8.out hp f hf; omega)).setAt U2.out (by decide) (fun a ha => by have := HVN.out a ha; omega) (fun hp a ha => by have := HFX.out hp a ha; omega)
    have HLA : Hid (Below w.heap.size w WA) := by show Below _ _ _; rw [hWA]; exact HB9.out.setCell (p := ⟨w.heap.size, 8, none⟩) (Nat.le_refl _) _
    have HVW : Hid (∀ a, va' = some a → w.heap.size + 3 ≤ a.block) := fun a ha => by have := HVN.out a ha; omega
    clear z8 f8 hWA U2 U4 O9 HB9 HOW HLB
    go_wp2_with (first
     | refine wpList_load_row rfl 28 _ rfl w.heap.size rfl _ _ _ _ M2.out Tryz.underlying28 rfl (by kernel_rfl) ?_
     | refine wpList_store_row rfl 28 _ _ rfl (w.heap.size + 2) _ rfl rfl _ _ M4.out storeSize rfl (store_one _ _ _ _ _) ?_)
    refine bodyPost_ret (v := .tuple #[.agg (storeV ({ t with cas := n + 1, uses := u + 1, items := L }) va' vc' fa5 fc5), .bool true]) (resultsCT rfl _ _ (w.heap.size + 2) _ _ rfl rfl (run_loadVar_row _ _ _ _ _ _ _ (setRow_heap _ _ _ _ _ _ M4.out) Tryz.underlying28 rfl storeSize)) rfl ?_;refine ⟨va', vc', fa5, fc5, by rw [HR2.out], ?_, ?_, fun hp => ?_⟩
    ·rw [HR2.out]
     exact OA.out.setAt M4.out (by decide) (fun a ha => by have := HVW.out a ha; omega) (fun hp a ha => by have := HFX.out hp a ha; omega)
    ·exact HLA.out.trans (Below.setRow _ (w.heap.size + 2) _ (by omega))
    rw [HR2.out] at hp;rw [HR2.out];exact (HF5.out hp).imp (fun h => ⟨h.1, by rw [← h.2, HE1.out]⟩) (fun h a ha => by have := h a ha; omega)
end Go.Proofs.YtbeegfkfpkfccaaGreatDoor.D
