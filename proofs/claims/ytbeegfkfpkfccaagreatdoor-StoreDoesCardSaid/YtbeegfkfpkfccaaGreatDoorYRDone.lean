/-
 Contract: ref.done answers doReq. (Printed by gen_rdone.py.)
-/
import Derived.Test.YtbeegfkfpkfccaaGreatDoorYRDoneC
namespace Go.Proofs.YtbeegfkfpkfccaaGreatDoor.D
open Go.RowKit
set_option maxRecDepth 100000 in
set_option maxHeartbeats 16000000 in
theorem ref_done (s : Store) (r : Req) (hs : SOk s) (hr : ROk r) (hu : s.uses ≤ 1099511627766) (base : Nat) (va fa ka : Option Addr) (vc fc kc : Nat) (w : World) (ho : RSt base w s va vc fa fc) (hbw : base ≤ w.heap.size) (hk : ∀ w', Below base w w' → RowsAt w' ka 1 strR r.keys) :
  Calls Tryz.prog 33 #[.agg (storeV s va vc fa fc), .agg (reqD r ka kc)] w (DoneREnd base va fa s.flash.pages (doReq s r) w) := by
 obtain ⟨k, key, keys, fl, ex, n, val, qt⟩ := r;have HS := hid hs;have HR := hid hr;have HK := hid hk;have HOLD : Hid (s.flash.pages ≠ [] → ∀ a, fa = some a → a.block < w.heap.size) := fun hp a ha => (ho.fa_lt hp a ha).2
 have HUS : Hid (s.uses ≤ 1099511627766) := hu;obtain ⟨W, hW, hb0, r2, r3, r4, r5⟩ := four_newR w (.cells (storeV s va vc fa fc) 28) (.cells #[.int .i64 k, .string key, .slice ka keys.length kc, .int .i64 fl, .int .i64 ex, .int .i64 n, .string val, .bool qt] 31) (.cells storeZ 28) (.cells (replyCells Reply.zero none 0) 35);have H0 : Hid (DW base va fa s.flash.pages ⟨k, key, keys, fl, ex, n, val, qt⟩ ka kc w s va vc fa fc W) := ⟨r2, r3, r4, r5, ho.below hb0, ButV.below hb0, hb0.mono hbw, fun _ => ⟨rfl, rfl⟩, fun hp a ha => .inl (HOLD.out hp a ha), hbw⟩;have HVA : Hid (∀ a, va = some a → a.block < w.heap.size) := fun a ha => (ho.va_lt a ha).2
 have hwz := H0.out.size;have q0 : W.cell? ⟨w.heap.size + 1, 0, none⟩ = some (.int .i64 k) := H0.out.req.1;clear hs hr hk ho hu r2 r3 r4 r5 hb0;show Calls Tryz.prog 33 #[.agg (storeV s va vc fa fc), .agg #[.int .i64 k, .string key, .slice ka keys.length kc, .int .i64 fl, .int .i64 ex, .int .i64 n, .string val, .bool qt]] w _
 go_enter Tryz.func33, Tryz.ntmps33
 go_upto_region 1 with (fail);rw [show (((w.alloc (.cells (storeV s va vc fa fc) 28)).alloc (.cells #[.int .i64 k, .string key, .slice ka keys.length kc, .int .i64 fl, .int .i64 ex, .int .i64 n, .string val, .bool qt] 31)).alloc (.cells storeZ 28)).alloc (.cells #[.int .i64 0, .int .i64 0, .slice none 0 0] 35) = W from hW.symm];clear hW
 by_cases k1 : k = 1
 ·subst k1
  clear q0;have q0 : W.cell? ⟨w.heap.size + 1, 0, none⟩ = some (.int .i64 1) := H0.out.req.1;obtain ⟨nn, hnn⟩ : ∃ m, m = keys.length := ⟨_, rfl⟩;have HN := hid hnn;have hnk : nn ≤ 10 := by rw [hnn]; exact (HR.out.keys rfl).1.2
  have HDO : Hid (doReq s ⟨1, key, keys, fl, ex, n, val, qt⟩ = ((got s keys).1, ⟨1, 0, (got s keys).2⟩)) := by show _ = _; exact do_get rfl
  clear hnn;go_upto_region 3 with (refine wpList_store_row rfl 35 _ _ rfl W.heap.size _ rfl rfl _ _ (blk_new _ _) replySizeD rfl (reply_oneD (Reply.mk 1 0 []) none 0) ?_);obtain ⟨W1, hW1⟩ : ∃ W1, W1 = (W.alloc (.cells #[.int .i64 0, .int .i64 0, .slice none 0 0] 35)).setRow W.heap.size #[.int .i64 1, .int .i64 0, .slice none 0 0] := ⟨_, rfl⟩;rw [← hW1];have hb1 : Below W.heap.size W W1 := by rw [hW1]; exact (below_new rfl).trans (Below.setRow _ _ _ (Nat.le_refl _))
  obtain ⟨b6, hb6⟩ : ∃ b, b = W.heap.size := ⟨_, rfl⟩;have H1 := hid (H0.out.below hb1);have R61 : Hid (W1.heap[b6]? = some (.cells (replyCells (Reply.mk 1 0 []) none 0) 35 (0, 0))) := by show _ = _; rw [hW1, hb6]; exact setRow_heap _ _ _ _ _ _ (blk_new _ _)
  have l6 : w.heap.size + 4 ≤ b6 := by omega
  rw [← hb6];clear hW1 hb1 hb6 q0 H0 hwz
  go_wp2_with fail
  go_loopw [7] (fun iv wr => ∃ (j : Nat) (t : Store) (l : List Hit) (va1 ha : Option Addr) (vc1 hc : Nat), j ≤ nn ∧ iv = .int .i64 j ∧ l.length ≤ j ∧ Hid ((keys.take j).foldl got1 (s, []) = (t, l)) ∧ Hid (SOk t) ∧ t.uses ≤ s.uses + j ∧ Hid (t.flash = s.flash) ∧ Hid (DW base va fa s.flash.pages ⟨1, key, keys, fl, ex, n, val, qt⟩ ka kc w t va1 vc1 fa fc wr) ∧ Hid (va1 = va ∨ ∀ a, va1 = some a → w.heap.size + 4 ≤ a.block) ∧ Hid (wr.heap[b6]? = some (.cells (replyCells (Reply.mk 1 0 l) ha hc) 35 (0, 0))) ∧ Hid (wr.ownsRow (w.heap.size + 4) 53 4 (.slice ha l.length hc) l.length (l.flatMap hitCells)) ∧ Hid (∀ y ∈ l, HitOk y)) (fun iv _ => nn - (intOf iv).toNat)
  case atStart => exact ⟨0, s, [], va, none, vc, 0, Nat.zero_le _, rfl, Nat.le_refl _, rfl, HS, by omega, rfl, H1, .inl rfl, R61, World.ownsRow_nil _ _ _ _, fun y hy => by cases hy⟩
  case round =>
   obtain ⟨j, t, l, va1, ha, vc1, hc, hjn, rfl, hlj, HG, HT, htu, HTF, HJ, HIT, R6, HOW, HOK⟩ := hrel;clear H1 R61
   by_cases hlt : j < nn
   ·have hjk : j < keys.length := by rw [← HN.out]; exact hlt
    obtain ⟨kb, ko, rfl, hcel⟩ := (HK.out wr HJ.out.low).pos (by omega);obtain ⟨cs, -, ⟨hcs, hks⟩, h3⟩ := hcel j hjk;obtain ⟨key1, hkey1⟩ : ∃ q, q = keys[j] := ⟨_, rfl⟩;rw [← hkey1] at hcs hks;subst hcs;have k0 := h3 0 _ rfl;rw [Nat.mul_one, Nat.add_zero] at k0;have HG1 : Hid ((keys.take (j + 1)).foldl got1 (s, []) = got1 (t, l) key1) := by show _ = _; rw [got_step hjk, HG.out, hkey1]
    have q2 : wr.cell? ⟨w.heap.size + 1, 2, none⟩ = some (.slice (some ⟨kb, ko, none⟩) nn kc) := by have h := HJ.out.req.2.2.1; rw [HN.out]; exact h
    have hj0 : ¬ ((j : Int) < 0) := by omega
    have hjz : (j : Int) < (nn : Int) := by omega
    have hl0 := HJ.out.size;clear h3 hcel hkey1 HG;go_upto_region 6 with (fail)
    go_cut [8, 9, 10, 11] (fun v8 v9 v10 v11 wx => ∃ (b8 b9 : Nat) (t2 : Store) (va2 : Option Addr) (vc2 : Nat) (x : Item) (v : ByteArray) (ok : Bool), v8 = .pointer (some ⟨b8, 0, none⟩) ∧ v9 = .pointer (some ⟨b9, 0, none⟩) ∧ v10 = .string v ∧ v11 = .bool ok ∧ Hid (FoundIs t key1 t2 x v ok) ∧ Hid (DW base va fa s.flash.pages ⟨1, key, keys, fl, ex, n, val, qt⟩ (some ⟨kb, ko, none⟩) kc w t va1 vc1 fa fc wx) ∧ Hid (RSt base wx t2 va2 vc2 fa fc) ∧ Hid (va2 = va ∨ ∀ a, va2 = some a → w.heap.size + 4 ≤ a.block) ∧ Hid (wx.heap[b8]? = some (.cells (storeV t2 va2 vc2 fa fc) 28 (0, 0))) ∧ Hid (wx.heap[b9]? = some (.cells (itemD x) 83 (0, 0))) ∧ Hid (wx.heap[b6]? = some (.cells (replyCells (Reply.mk 1 0 l) ha hc) 35 (0, 0))) ∧ Hid (wx.ownsRow (w.heap.size + 4) 53 4 (.slice ha l.length hc) l.length (l.flatMap hitCells)) ∧ w.heap.size + 4 ≤ b8 ∧ w.heap.size + 4 ≤ b9 ∧ b6 ≠ b9 ∧ Hid (∀ a, va2 = some a → a.block ≠ b9))
    case first =>
     have hvl : ∀ a, va1 = some a → a.block < wr.heap.size := fun a ha => (HJ.out.own.va_lt a ha).2
     refine wp_region_L (fun w' : World => Below wr.heap.size wr w') 17 18 (by kernel_rfl) (by kernel_rfl) (Below.refl _ _).drew (fun hHeld => ?_);refine wpAnyL_take (i := 0) (v := _) rfl (by kernel_rfl) (fun _ _ _ h => h) (Or.inl ⟨by rfl, fun wS hSw => exec_load_row 28 _ rfl (w.heap.size) rfl _ _ _ _ ((hSw.block w.heap.size (by omega)).trans HJ.out.b2) Tryz.underlying28 rfl (by kernel_rfl)⟩) (by assumption) ?_;walk_nrm;refine tk 1 ?_ rfl (fun _ _ _ h=>h) (y:=?_) (h:=?_);rotate_left
     ·intro wS hSw; go_simp<;>with_reducible rfl
     walk_nrm;refine tk 2 ?_ rfl (fun _ _ _ h=>h) (y:=?_) (h:=?_);rotate_left
     ·intro wS hSw; have p1 := Below.keeps hSw _ _ q2; go_simp<;>with_reducible rfl
     walk_nrm;refine tk 3 ?_ rfl (fun _ _ _ h=>h) (y:=?_) (h:=?_);rotate_left
     ·intro wS hSw; go_simp<;>with_reducible rfl
     walk_nrm;refine tk 4 ?_ rfl (fun _ _ _ h=>h) (y:=?_) (h:=?_);rotate_left
     ·intro wS hSw; go_simp<;>with_reducible rfl
     walk_nrm;refine tk 5 ?_ rfl (fun _ _ _ h=>h) (y:=?_) (h:=?_);rotate_left
     ·intro wS hSw; have p1 := Below.keeps hSw _ _ k0; go_simp<;>with_reducible rfl
     walk_nrm;obtain ⟨wx, hwx⟩ : ∃ wx, wx = wr.drew := ⟨_, rfl⟩;rw [← hwx] at hHeld ⊢;clear hwx q2 k0;obtain ⟨L, hL⟩ : ∃ L, L = wr.heap.size := ⟨_, rfl⟩;rw [← hL] at hvl;have hzx : L ≤ wx.heap.size := by have := hHeld.size; omega
     have hLw : w.heap.size + 4 ≤ L := by omega
     have HLL := hid hL;clear hL;have HX8 : Hid (Bx L none (.cells storeZ 28 (0, 0)) wx) := Bx.none;have HX9 : Hid (Bx L none (.cells #[.string ⟨#[]⟩, .int .i64 0, .int .i64 0, .int .i64 0, .int .i64 0, .string ⟨#[]⟩, .bool false, .int .i64 0, .int .i64 0] 83 (0, 0)) wx) := Bx.none;apply shareD
     ·
      intro key;have hHeld := hHeld;have hzx := hzx;refine wpAnyL_three 6 12 13 (by kernel_rfl) ?_ ?_ ?_
      ·refine ComesUp.mk rfl (fun K hK => ?_)
       go_simp;refine (ref_found t key1 HT.out base va1 fa vc1 fc wx (HJ.out.own.below hHeld) (by have := HJ.out.base_le; omega)).mono ?_;rintro e wn ⟨t2, va2, vc2, x, v, ok, rfl, hr2, hbn, hi2, hf2⟩;have HV9 := hid (NotV.call HX9.out hvl hi2);have HR2 := hid hr2;have HF2 := hid hf2
       have HI2 : Hid (va2 = va ∨ ∀ a, va2 = some a → w.heap.size + 4 ≤ a.block) := by
        rcases hi2 with e | e
        ·rw [e]; exact HIT
        ·exact .inr (fun a ha => by have := e a ha; omega)
       replace HX8 := hid (HX8.out.below hbn);replace HX9 := hid (HX9.out.below hbn);have S5 := hHeld.trans (hbn.mono (by have := HLL.out; omega));have hzn : L ≤ wn.heap.size := by have := hbn.size; omega
       refine hK.out _ _ S5 ?_;clear hK K hHeld hbn S5 hzx hr2 hf2 hi2;intro hHeld;walk_nrm;refine tk 7 ?_ rfl (fun _ _ _ h=>h) (y:=?_) (h:=?_);rotate_left
       ·intro wS hSw; go_simp<;>with_reducible rfl
       walk_nrm;refine tk 8 ?_ rfl (fun _ _ _ h=>h) (y:=?_) (h:=?_);rotate_left
       ·intro wS hSw; go_simp<;>with_reducible rfl
       walk_nrm;refine tk 9 ?_ rfl (fun _ _ _ h=>h) (y:=?_) (h:=?_);rotate_left
       ·intro wS hSw; go_simp<;>with_reducible rfl
       walk_nrm;refine tk 10 ?_ rfl (fun _ _ _ h=>h) (y:=?_) (h:=?_);rotate_left
       ·intro wS hSw; go_simp<;>with_reducible rfl
       walk_nrm;refine tk 11 ?_ rfl (fun _ _ _ h=>h) (y:=?_) (h:=?_);rotate_left
       ·intro wS hSw; go_simp<;>with_reducible rfl
       walk_nrm
       try clear wx
       obtain ⟨wx, rfl⟩ := wld wn;have hzx := hzn;clear hzn;refine wpAnyL_two 12 13 (by kernel_rfl) ?_ ?_
       ·refine ComesUp.mk rfl (fun K hK => ?_)
        go_simp;obtain ⟨wn, hwn⟩ : ∃ wn, wn = wx.alloc (.cells storeZ 28) := ⟨_, rfl⟩;obtain ⟨b8, hb8⟩ : ∃ b, b = wx.heap.size := ⟨_, rfl⟩;rw [← hwn, ← hb8];have hbn := below_new hwn;replace HX8 : Hid (Bx L (some b8) (.cells storeZ 28 (0, 0)) wn) := by rw [hb8]; exact Bx.new hwn hzx
        replace HX9 := hid (HX9.out.below hbn)
        try replace HR2 := hid (HR2.out.below hbn)
        have S5 := hHeld.trans (hbn.mono (by have := HLL.out; omega));have hzn : L ≤ wn.heap.size := by have := hbn.size; omega
        refine hK.out _ _ S5 ?_;clear hK K hHeld hbn S5 hzx hwn hb8;intro hHeld;walk_nrm
        try clear wx
        obtain ⟨wx, rfl⟩ := wld wn;have hzx := hzn;clear hzn;refine wpAnyL_one 13 (by kernel_rfl) ?_
        ·refine ComesUp.mk rfl (fun K hK => ?_)
         go_simp;obtain ⟨wn, hwn⟩ : ∃ wn, wn = wx.alloc (.cells #[.string ⟨#[]⟩, .int .i64 0, .int .i64 0, .int .i64 0, .int .i64 0, .string ⟨#[]⟩, .bool false, .int .i64 0, .int .i64 0] 83) := ⟨_, rfl⟩;obtain ⟨b9, hb9⟩ : ∃ b, b = wx.heap.size := ⟨_, rfl⟩;rw [← hwn, ← hb9];have hbn := below_new hwn;replace HX8 := hid (HX8.out.below hbn);replace HX9 : Hid (Bx L (some b9) (.cells #[.string ⟨#[]⟩, .int .i64 0, .int .i64 0, .int .i64 0, .int .i64 0, .string ⟨#[]⟩, .bool false, .int .i64 0, .int .i64 0] 83 (0, 0)) wn) := by rw [hb9]; exact Bx.new hwn hzx
         try replace HV9 : Hid (NotV (some b9) va2) := by rw [hb9]; exact NotV.new HR2.out
         try replace HR2 := hid (HR2.out.below hbn)
         have S5 := hHeld.trans (hbn.mono (by have := HLL.out; omega));have hzn : L ≤ wn.heap.size := by have := hbn.size; omega
         refine hK.out _ _ S5 ?_;clear hK K hHeld hbn S5 hzx hwn hb9;intro hHeld;walk_nrm
         try clear wx
         obtain ⟨wx, rfl⟩ := wld wn;have hzx := hzn;clear hzn;revert hHeld;revert hzx;revert HR2;revert HF2;revert HI2;revert HV9;revert HX8;revert HX9;revert ok;revert v;revert x;revert vc2;revert va2;revert t2;revert b9;revert b8;revert wx;exact key trivial
       ·refine ComesUp.mk rfl (fun K hK => ?_)
        go_simp;obtain ⟨wn, hwn⟩ : ∃ wn, wn = wx.alloc (.cells #[.string ⟨#[]⟩, .int .i64 0, .int .i64 0, .int .i64 0, .int .i64 0, .string ⟨#[]⟩, .bool false, .int .i64 0, .int .i64 0] 83) := ⟨_, rfl⟩;obtain ⟨b9, hb9⟩ : ∃ b, b = wx.heap.size := ⟨_, rfl⟩;rw [← hwn, ← hb9];have hbn := below_new hwn;replace HX8 := hid (HX8.out.below hbn);replace HX9 : Hid (Bx L (some b9) (.cells #[.string ⟨#[]⟩, .int .i64 0, .int .i64 0, .int .i64 0, .int .i64 0, .string ⟨#[]⟩, .bool false, .int .i64 0, .int .i64 0] 83 (0, 0)) wn) := by rw [hb9]; exact Bx.new hwn hzx
        try replace HV9 : Hid (NotV (some b9) va2) := by rw [hb9]; exact NotV.new HR2.out
        try replace HR2 := hid (HR2.out.below hbn)
        have S5 := hHeld.trans (hbn.mono (by have := HLL.out; omega));have hzn : L ≤ wn.heap.size := by have := hbn.size; omega
        refine hK.out _ _ S5 ?_;clear hK K hHeld hbn S5 hzx hwn hb9;intro hHeld;walk_nrm
        try clear wx
        obtain ⟨wx, rfl⟩ := wld wn;have hzx := hzn;clear hzn;refine wpAnyL_one 12 (by kernel_rfl) ?_
        ·refine ComesUp.mk rfl (fun K hK => ?_)
         go_simp;obtain ⟨wn, hwn⟩ : ∃ wn, wn = wx.alloc (.cells storeZ 28) := ⟨_, rfl⟩;obtain ⟨b8, hb8⟩ : ∃ b, b = wx.heap.size := ⟨_, rfl⟩;rw [← hwn, ← hb8];have hbn := below_new hwn;replace HX8 : Hid (Bx L (some b8) (.cells storeZ 28 (0, 0)) wn) := by rw [hb8]; exact Bx.new hwn hzx
         replace HX9 := hid (HX9.out.below hbn)
         try replace HR2 := hid (HR2.out.below hbn)
         have S5 := hHeld.trans (hbn.mono (by have := HLL.out; omega));have hzn : L ≤ wn.heap.size := by have := hbn.size; omega
         refine hK.out _ _ S5 ?_;clear hK K hHeld hbn S5 hzx hwn hb8;intro hHeld;walk_nrm
         try clear wx
         obtain ⟨wx, rfl⟩ := wld wn;have hzx := hzn;clear hzn;revert hHeld;revert hzx;revert HR2;revert HF2;revert HI2;revert HV9;revert HX8;revert HX9;revert ok;revert v;revert x;revert vc2;revert va2;revert t2;revert b9;revert b8;revert wx;exact key trivial
      ·refine ComesUp.mk rfl (fun K hK => ?_)
       go_simp;obtain ⟨wn, hwn⟩ : ∃ wn, wn = wx.alloc (.cells storeZ 28) := ⟨_, rfl⟩;obtain ⟨b8, hb8⟩ : ∃ b, b = wx.heap.size := ⟨_, rfl⟩;rw [← hwn, ← hb8];have hbn := below_new hwn;replace HX8 : Hid (Bx L (some b8) (.cells storeZ 28 (0, 0)) wn) := by rw [hb8]; exact Bx.new hwn hzx
       replace HX9 := hid (HX9.out.below hbn)
       try replace HR2 := hid (HR2.out.below hbn)
       have S5 := hHeld.trans (hbn.mono (by have := HLL.out; omega));have hzn : L ≤ wn.heap.size := by have := hbn.size; omega
       refine hK.out _ _ S5 ?_;clear hK K hHeld hbn S5 hzx hwn hb8;intro hHeld;walk_nrm
       try clear wx
       obtain ⟨wx, rfl⟩ := wld wn;have hzx := hzn;clear hzn;refine wpAnyL_two 6 13 (by kernel_rfl) ?_ ?_
       ·refine ComesUp.mk rfl (fun K hK => ?_)
        go_simp;refine (ref_found t key1 HT.out base va1 fa vc1 fc wx (HJ.out.own.below hHeld) (by have := HJ.out.base_le; omega)).mono ?_;rintro e wn ⟨t2, va2, vc2, x, v, ok, rfl, hr2, hbn, hi2, hf2⟩;have HV9 := hid (NotV.call HX9.out hvl hi2);have HR2 := hid hr2;have HF2 := hid hf2
        have HI2 : Hid (va2 = va ∨ ∀ a, va2 = some a → w.heap.size + 4 ≤ a.block) := by
         rcases hi2 with e | e
         ·rw [e]; exact HIT
         ·exact .inr (fun a ha => by have := e a ha; omega)
        replace HX8 := hid (HX8.out.below hbn);replace HX9 := hid (HX9.out.below hbn);have S5 := hHeld.trans (hbn.mono (by have := HLL.out; omega));have hzn : L ≤ wn.heap.size := by have := hbn.size; omega
        refine hK.out _ _ S5 ?_;clear hK K hHeld hbn S5 hzx hr2 hf2 hi2;intro hHeld;walk_nrm;refine tk 7 ?_ rfl (fun _ _ _ h=>h) (y:=?_) (h:=?_);rotate_left
        ·intro wS hSw; go_simp<;>with_reducible rfl
        walk_nrm;refine tk 8 ?_ rfl (fun _ _ _ h=>h) (y:=?_) (h:=?_);rotate_left
        ·intro wS hSw; go_simp<;>with_reducible rfl
        walk_nrm;refine tk 9 ?_ rfl (fun _ _ _ h=>h) (y:=?_) (h:=?_);rotate_left
        ·intro wS hSw; go_simp<;>with_reducible rfl
        walk_nrm;refine tk 10 ?_ rfl (fun _ _ _ h=>h) (y:=?_) (h:=?_);rotate_left
        ·intro wS hSw; go_simp<;>with_reducible rfl
        walk_nrm;refine tk 11 ?_ rfl (fun _ _ _ h=>h) (y:=?_) (h:=?_);rotate_left
        ·intro wS hSw; go_simp<;>with_reducible rfl
        walk_nrm
        try clear wx
        obtain ⟨wx, rfl⟩ := wld wn;have hzx := hzn;clear hzn;refine wpAnyL_one 13 (by kernel_rfl) ?_
        ·refine ComesUp.mk rfl (fun K hK => ?_)
         go_simp;obtain ⟨wn, hwn⟩ : ∃ wn, wn = wx.alloc (.cells #[.string ⟨#[]⟩, .int .i64 0, .int .i64 0, .int .i64 0, .int .i64 0, .string ⟨#[]⟩, .bool false, .int .i64 0, .int .i64 0] 83) := ⟨_, rfl⟩;obtain ⟨b9, hb9⟩ : ∃ b, b = wx.heap.size := ⟨_, rfl⟩;rw [← hwn, ← hb9];have hbn := below_new hwn;replace HX8 := hid (HX8.out.below hbn);replace HX9 : Hid (Bx L (some b9) (.cells #[.string ⟨#[]⟩, .int .i64 0, .int .i64 0, .int .i64 0, .int .i64 0, .string ⟨#[]⟩, .bool false, .int .i64 0, .int .i64 0] 83 (0, 0)) wn) := by rw [hb9]; exact Bx.new hwn hzx
         try replace HV9 : Hid (NotV (some b9) va2) := by rw [hb9]; exact NotV.new HR2.out
         try replace HR2 := hid (HR2.out.below hbn)
         have S5 := hHeld.trans (hbn.mono (by have := HLL.out; omega));have hzn : L ≤ wn.heap.size := by have := hbn.size; omega
         refine hK.out _ _ S5 ?_;clear hK K hHeld hbn S5 hzx hwn hb9;intro hHeld;walk_nrm
         try clear wx
         obtain ⟨wx, rfl⟩ := wld wn;have hzx := hzn;clear hzn;revert hHeld;revert hzx;revert HR2;revert HF2;revert HI2;revert HV9;revert HX8;revert HX9;revert ok;revert v;revert x;revert vc2;revert va2;revert t2;revert b9;revert b8;revert wx;exact key trivial
       ·refine ComesUp.mk rfl (fun K hK => ?_)
        go_simp;obtain ⟨wn, hwn⟩ : ∃ wn, wn = wx.alloc (.cells #[.string ⟨#[]⟩, .int .i64 0, .int .i64 0, .int .i64 0, .int .i64 0, .string ⟨#[]⟩, .bool false, .int .i64 0, .int .i64 0] 83) := ⟨_, rfl⟩;obtain ⟨b9, hb9⟩ : ∃ b, b = wx.heap.size := ⟨_, rfl⟩;rw [← hwn, ← hb9];have hbn := below_new hwn;replace HX8 := hid (HX8.out.below hbn);replace HX9 : Hid (Bx L (some b9) (.cells #[.string ⟨#[]⟩, .int .i64 0, .int .i64 0, .int .i64 0, .int .i64 0, .string ⟨#[]⟩, .bool false, .int .i64 0, .int .i64 0] 83 (0, 0)) wn) := by rw [hb9]; exact Bx.new hwn hzx
        try replace HV9 : Hid (NotV (some b9) va2) := by rw [hb9]; exact NotV.new HR2.out
        try replace HR2 := hid (HR2.out.below hbn)
        have S5 := hHeld.trans (hbn.mono (by have := HLL.out; omega));have hzn : L ≤ wn.heap.size := by have := hbn.size; omega
        refine hK.out _ _ S5 ?_;clear hK K hHeld hbn S5 hzx hwn hb9;intro hHeld;walk_nrm
        try clear wx
        obtain ⟨wx, rfl⟩ := wld wn;have hzx := hzn;clear hzn;refine wpAnyL_one 6 (by kernel_rfl) ?_
        ·refine ComesUp.mk rfl (fun K hK => ?_)
         go_simp;refine (ref_found t key1 HT.out base va1 fa vc1 fc wx (HJ.out.own.below hHeld) (by have := HJ.out.base_le; omega)).mono ?_;rintro e wn ⟨t2, va2, vc2, x, v, ok, rfl, hr2, hbn, hi2, hf2⟩;have HV9 := hid (NotV.call HX9.out hvl hi2);have HR2 := hid hr2;have HF2 := hid hf2
         have HI2 : Hid (va2 = va ∨ ∀ a, va2 = some a → w.heap.size + 4 ≤ a.block) := by
          rcases hi2 with e | e
          ·rw [e]; exact HIT
          ·exact .inr (fun a ha => by have := e a ha; omega)
         replace HX8 := hid (HX8.out.below hbn);replace HX9 := hid (HX9.out.below hbn);have S5 := hHeld.trans (hbn.mono (by have := HLL.out; omega));have hzn : L ≤ wn.heap.size := by have := hbn.size; omega
         refine hK.out _ _ S5 ?_;clear hK K hHeld hbn S5 hzx hr2 hf2 hi2;intro hHeld;walk_nrm;refine tk 7 ?_ rfl (fun _ _ _ h=>h) (y:=?_) (h:=?_);rotate_left
         ·intro wS hSw; go_simp<;>with_reducible rfl
         walk_nrm;refine tk 8 ?_ rfl (fun _ _ _ h=>h) (y:=?_) (h:=?_);rotate_left
         ·intro wS hSw; go_simp<;>with_reducible rfl
         walk_nrm;refine tk 9 ?_ rfl (fun _ _ _ h=>h) (y:=?_) (h:=?_);rotate_left
         ·intro wS hSw; go_simp<;>with_reducible rfl
         walk_nrm;refine tk 10 ?_ rfl (fun _ _ _ h=>h) (y:=?_) (h:=?_);rotate_left
         ·intro wS hSw; go_simp<;>with_reducible rfl
         walk_nrm;refine tk 11 ?_ rfl (fun _ _ _ h=>h) (y:=?_) (h:=?_);rotate_left
         ·intro wS hSw; go_simp<;>with_reducible rfl
         walk_nrm
         try clear wx
         obtain ⟨wx, rfl⟩ := wld wn;have hzx := hzn;clear hzn;revert hHeld;revert hzx;revert HR2;revert HF2;revert HI2;revert HV9;revert HX8;revert HX9;revert ok;revert v;revert x;revert vc2;revert va2;revert t2;revert b9;revert b8;revert wx;exact key trivial
      ·refine ComesUp.mk rfl (fun K hK => ?_)
       go_simp;obtain ⟨wn, hwn⟩ : ∃ wn, wn = wx.alloc (.cells #[.string ⟨#[]⟩, .int .i64 0, .int .i64 0, .int .i64 0, .int .i64 0, .string ⟨#[]⟩, .bool false, .int .i64 0, .int .i64 0] 83) := ⟨_, rfl⟩;obtain ⟨b9, hb9⟩ : ∃ b, b = wx.heap.size := ⟨_, rfl⟩;rw [← hwn, ← hb9];have hbn := below_new hwn;replace HX8 := hid (HX8.out.below hbn);replace HX9 : Hid (Bx L (some b9) (.cells #[.string ⟨#[]⟩, .int .i64 0, .int .i64 0, .int .i64 0, .int .i64 0, .string ⟨#[]⟩, .bool false, .int .i64 0, .int .i64 0] 83 (0, 0)) wn) := by rw [hb9]; exact Bx.new hwn hzx
       try replace HV9 : Hid (NotV (some b9) va2) := by rw [hb9]; exact NotV.new HR2.out
       try replace HR2 := hid (HR2.out.below hbn)
       have S5 := hHeld.trans (hbn.mono (by have := HLL.out; omega));have hzn : L ≤ wn.heap.size := by have := hbn.size; omega
       refine hK.out _ _ S5 ?_;clear hK K hHeld hbn S5 hzx hwn hb9;intro hHeld;walk_nrm
       try clear wx
       obtain ⟨wx, rfl⟩ := wld wn;have hzx := hzn;clear hzn;refine wpAnyL_two 6 12 (by kernel_rfl) ?_ ?_
       ·refine ComesUp.mk rfl (fun K hK => ?_)
        go_simp;refine (ref_found t key1 HT.out base va1 fa vc1 fc wx (HJ.out.own.below hHeld) (by have := HJ.out.base_le; omega)).mono ?_;rintro e wn ⟨t2, va2, vc2, x, v, ok, rfl, hr2, hbn, hi2, hf2⟩;have HV9 := hid (NotV.call HX9.out hvl hi2);have HR2 := hid hr2;have HF2 := hid hf2
        have HI2 : Hid (va2 = va ∨ ∀ a, va2 = some a → w.heap.size + 4 ≤ a.block) := by
         rcases hi2 with e | e
         ·rw [e]; exact HIT
         ·exact .inr (fun a ha => by have := e a ha; omega)
        replace HX8 := hid (HX8.out.below hbn);replace HX9 := hid (HX9.out.below hbn);have S5 := hHeld.trans (hbn.mono (by have := HLL.out; omega));have hzn : L ≤ wn.heap.size := by have := hbn.size; omega
        refine hK.out _ _ S5 ?_;clear hK K hHeld hbn S5 hzx hr2 hf2 hi2;intro hHeld;walk_nrm;refine tk 7 ?_ rfl (fun _ _ _ h=>h) (y:=?_) (h:=?_);rotate_left
        ·intro wS hSw; go_simp<;>with_reducible rfl
        walk_nrm;refine tk 8 ?_ rfl (fun _ _ _ h=>h) (y:=?_) (h:=?_);rotate_left
        ·intro wS hSw; go_simp<;>with_reducible rfl
        walk_nrm;refine tk 9 ?_ rfl (fun _ _ _ h=>h) (y:=?_) (h:=?_);rotate_left
        ·intro wS hSw; go_simp<;>with_reducible rfl
        walk_nrm;refine tk 10 ?_ rfl (fun _ _ _ h=>h) (y:=?_) (h:=?_);rotate_left
        ·intro wS hSw; go_simp<;>with_reducible rfl
        walk_nrm;refine tk 11 ?_ rfl (fun _ _ _ h=>h) (y:=?_) (h:=?_);rotate_left
        ·intro wS hSw; go_simp<;>with_reducible rfl
        walk_nrm
        try clear wx
        obtain ⟨wx, rfl⟩ := wld wn;have hzx := hzn;clear hzn;refine wpAnyL_one 12 (by kernel_rfl) ?_
        ·refine ComesUp.mk rfl (fun K hK => ?_)
         go_simp;obtain ⟨wn, hwn⟩ : ∃ wn, wn = wx.alloc (.cells storeZ 28) := ⟨_, rfl⟩;obtain ⟨b8, hb8⟩ : ∃ b, b = wx.heap.size := ⟨_, rfl⟩;rw [← hwn, ← hb8];have hbn := below_new hwn;replace HX8 : Hid (Bx L (some b8) (.cells storeZ 28 (0, 0)) wn) := by rw [hb8]; exact Bx.new hwn hzx
         replace HX9 := hid (HX9.out.below hbn)
         try replace HR2 := hid (HR2.out.below hbn)
         have S5 := hHeld.trans (hbn.mono (by have := HLL.out; omega));have hzn : L ≤ wn.heap.size := by have := hbn.size; omega
         refine hK.out _ _ S5 ?_;clear hK K hHeld hbn S5 hzx hwn hb8;intro hHeld;walk_nrm
         try clear wx
         obtain ⟨wx, rfl⟩ := wld wn;have hzx := hzn;clear hzn;revert hHeld;revert hzx;revert HR2;revert HF2;revert HI2;revert HV9;revert HX8;revert HX9;revert ok;revert v;revert x;revert vc2;revert va2;revert t2;revert b9;revert b8;revert wx;exact key trivial
       ·refine ComesUp.mk rfl (fun K hK => ?_)
        go_simp;obtain ⟨wn, hwn⟩ : ∃ wn, wn = wx.alloc (.cells storeZ 28) := ⟨_, rfl⟩;obtain ⟨b8, hb8⟩ : ∃ b, b = wx.heap.size := ⟨_, rfl⟩;rw [← hwn, ← hb8];have hbn := below_new hwn;replace HX8 : Hid (Bx L (some b8) (.cells storeZ 28 (0, 0)) wn) := by rw [hb8]; exact Bx.new hwn hzx
        replace HX9 := hid (HX9.out.below hbn)
        try replace HR2 := hid (HR2.out.below hbn)
        have S5 := hHeld.trans (hbn.mono (by have := HLL.out; omega));have hzn : L ≤ wn.heap.size := by have := hbn.size; omega
        refine hK.out _ _ S5 ?_;clear hK K hHeld hbn S5 hzx hwn hb8;intro hHeld;walk_nrm
        try clear wx
        obtain ⟨wx, rfl⟩ := wld wn;have hzx := hzn;clear hzn;refine wpAnyL_one 6 (by kernel_rfl) ?_
        ·refine ComesUp.mk rfl (fun K hK => ?_)
         go_simp;refine (ref_found t key1 HT.out base va1 fa vc1 fc wx (HJ.out.own.below hHeld) (by have := HJ.out.base_le; omega)).mono ?_;rintro e wn ⟨t2, va2, vc2, x, v, ok, rfl, hr2, hbn, hi2, hf2⟩;have HV9 := hid (NotV.call HX9.out hvl hi2);have HR2 := hid hr2;have HF2 := hid hf2
         have HI2 : Hid (va2 = va ∨ ∀ a, va2 = some a → w.heap.size + 4 ≤ a.block) := by
          rcases hi2 with e | e
          ·rw [e]; exact HIT
          ·exact .inr (fun a ha => by have := e a ha; omega)
         replace HX8 := hid (HX8.out.below hbn);replace HX9 := hid (HX9.out.below hbn);have S5 := hHeld.trans (hbn.mono (by have := HLL.out; omega));have hzn : L ≤ wn.heap.size := by have := hbn.size; omega
         refine hK.out _ _ S5 ?_;clear hK K hHeld hbn S5 hzx hr2 hf2 hi2;intro hHeld;walk_nrm;refine tk 7 ?_ rfl (fun _ _ _ h=>h) (y:=?_) (h:=?_);rotate_left
         ·intro wS hSw; go_simp<;>with_reducible rfl
         walk_nrm;refine tk 8 ?_ rfl (fun _ _ _ h=>h) (y:=?_) (h:=?_);rotate_left
         ·intro wS hSw; go_simp<;>with_reducible rfl
         walk_nrm;refine tk 9 ?_ rfl (fun _ _ _ h=>h) (y:=?_) (h:=?_);rotate_left
         ·intro wS hSw; go_simp<;>with_reducible rfl
         walk_nrm;refine tk 10 ?_ rfl (fun _ _ _ h=>h) (y:=?_) (h:=?_);rotate_left
         ·intro wS hSw; go_simp<;>with_reducible rfl
         walk_nrm;refine tk 11 ?_ rfl (fun _ _ _ h=>h) (y:=?_) (h:=?_);rotate_left
         ·intro wS hSw; go_simp<;>with_reducible rfl
         walk_nrm
         try clear wx
         obtain ⟨wx, rfl⟩ := wld wn;have hzx := hzn;clear hzn;revert hHeld;revert hzx;revert HR2;revert HF2;revert HI2;revert HV9;revert HX8;revert HX9;revert ok;revert v;revert x;revert vc2;revert va2;revert t2;revert b9;revert b8;revert wx;exact key trivial
     ·clear hHeld hzx HX8 HX9
      intro wx b8 b9 t2 va2 vc2 x v ok HX9 HX8 HV9 HI2 HF2 HR2 hzx hHeld;have h8 := HX8.out b8 rfl;have h9 := HX9.out b9 rfl;have n98 : b9 ≠ b8 := blk_ne h9.2 h8.2 (by decide);have l8 := h8.1;have l9 := h9.1;have l6' : b6 < L := by rw [HLL.out]; exact (blt R6.out)
      refine wpAnyL_one 14 (by kernel_rfl) ?_;refine ComesUp.mk rfl (fun K hK => ?_);rw [if_pos (by rfl)];refine wp_store_row 28 _ _ rfl b8 _ rfl rfl _ _ h8.2 storeSize rfl (store_one _ _ _ _ _) ?_;have S1 := hHeld.trans (Below.setRow wx b8 (storeV t2 va2 vc2 fa fc) (by have := HLL.out; omega));refine hK.out _ _ S1 ?_;clear hK K hHeld;intro hHeld;walk_nrm;have e9 : (wx.setRow b8 (storeV t2 va2 vc2 fa fc)).heap[b9]? = some (.cells #[.string ⟨#[]⟩, .int .i64 0, .int .i64 0, .int .i64 0, .int .i64 0, .string ⟨#[]⟩, .bool false, .int .i64 0, .int .i64 0] 83 (0, 0)) := (setRow_other _ _ _ _ n98).trans h9.2;refine wpAnyL_one 15 (by kernel_rfl) ?_;refine ComesUp.mk rfl (fun K hK => ?_);rw [if_pos (by rfl)];refine wp_store_row 83 _ _ rfl b9 _ rfl rfl _ _ e9 itemSizeR rfl (item_oneD x) ?_;have hold2 : t2.flash.pages ≠ [] → ∀ a, fa = some a → a.block < w.heap.size := by rw [HF2.out.flash, HTF.out]; exact HOLD.out
      have o8 := HR2.out.setAt (ds := storeV t2 va2 vc2 fa fc) h8.2 (by decide) (HR2.out.ne h8.2 (by decide)) (fun hp a ha => by have := hold2 hp a ha; omega);have O9 := hid (o8.setAt (ds := itemD x) e9 (by decide) (HV9.out b9 rfl) (fun hp a ha => by have := hold2 hp a ha; omega));obtain ⟨W8, hW8⟩ : ∃ W8, W8 = (wx.setRow b8 (storeV t2 va2 vc2 fa fc)).setRow b9 (itemD x) := ⟨_, rfl⟩;have S2 : Below wr.heap.size wr W8 := by rw [hW8]; exact hHeld.trans (Below.setRow _ b9 _ (by have := HLL.out; omega))
      have R8 : Hid (W8.heap[b8]? = some (.cells (storeV t2 va2 vc2 fa fc) 28 (0, 0))) := by show _ = _; rw [hW8]; exact (setRow_other _ _ _ _ n98.symm).trans (setRow_heap _ _ _ _ _ _ h8.2)
      have R9 : Hid (W8.heap[b9]? = some (.cells (itemD x) 83 (0, 0))) := by show _ = _; rw [hW8]; exact setRow_heap _ _ _ _ _ _ e9
      rw [← hW8] at O9;rw [show (wx.setRow b8 (storeV t2 va2 vc2 fa fc)).setRow b9 #[.string x.key, .int .i64 x.flags, .int .i64 x.till, .int .i64 x.cas, .int .i64 x.used, .string x.value, .bool x.far, .int .i64 x.place.page, .int .i64 x.place.off] = W8 from hW8.symm];refine hK.out _ _ S2 ?_;clear hK K hHeld hW8 e9 S1 o8 HX8 HX9 h8 h9 HR2 hold2 S2;intro hHeld;walk_nrm;refine wpAnyL_one 16 (by kernel_rfl) ?_;refine ComesUp.mk rfl (fun K hK => ?_);go_simp;refine hK.out _ _ hHeld ?_;clear hK K;walk_nrm;intro hHeld;refine wpAnyL_last rfl (by kernel_rfl) (fun K hK => ?_);go_simp;refine hK.out _ _ ?_;clear hK K;walk_nrm;refine wpAnyL_done (by kernel_rfl) ?_ _;have HD8 := hid (HJ.out.below hHeld);have R68 := hid ((hHeld.block b6 (by have := HLL.out; omega)).trans R6.out);have HOW8 := hid (owns_below HOW.out hHeld);have n69 : b6 ≠ b9 := by omega
      clear hHeld
      go_wp2_with fail
      go_meet;exact ⟨b8, b9, t2, va2, vc2, x, v, ok, rfl, rfl, rfl, rfl, HF2, HD8, O9, HI2, R8, R9, R68, HOW8, by omega, by omega, n69, HV9.out b9 rfl⟩
    case rest =>
     obtain ⟨b8, b9, t2, va2, vc2, x, v, ok, rfl, rfl, rfl, rfl, HF2, HC, HR2, HI2, R8, R9, R6c, HOWc, hl8, hl9, n69, HV9⟩ := hcut;clear HJ R6 HOW q2 k0;have HT2 := hid (HF2.out.sok HT.out);have HTF2 : Hid (t2.flash = s.flash) := HF2.out.flash.trans HTF.out;have HU2 : Hid (t2.uses = t.uses) := HF2.out.uses.1;have HOT : Hid (t2.flash.pages ≠ [] → ∀ a, fa = some a → a.block < w.heap.size) := by rw [HTF2.out]; exact HOLD
     have h7 := HC.out.store HR2.out (fun hp => by rw [HTF2.out] at hp ⊢; exact ⟨rfl, rfl⟩);have HB7 := hid HC.out.b2;have r67 := (setRow_other wc w.heap.size b6 (storeV t2 va2 vc2 fa fc) (by omega)).trans R6c.out;have r97 := (setRow_other wc w.heap.size b9 (storeV t2 va2 vc2 fa fc) (by omega)).trans R9.out;have how7 := hits_set (ds := storeV t2 va2 vc2 fa fc) HOWc.out HC.out.b2 (by decide)
     go_upto_region 8 with (first
      | refine wpList_load_row rfl 28 _ rfl b8 rfl _ _ _ _ (R8.out) Tryz.underlying28 rfl (by kernel_rfl) ?_
      | refine wpList_store_row rfl 28 _ _ rfl w.heap.size _ rfl rfl _ _ (HB7.out) storeSize rfl (store_one _ _ _ _ _) ?_)
     obtain ⟨W7, hW7⟩ : ∃ W7, W7 = wc.setRow w.heap.size (storeV t2 va2 vc2 fa fc) := ⟨_, rfl⟩;rw [← hW7];rw [← hW7] at h7 r67 r97 how7;have H7 := hid h7;have R67 := hid r67;have R97 := hid r97;have HOW7 := hid how7;clear hW7 h7 r67 r97 how7 HB7 HC HR2 R8 R9 R6c HOWc hl8
     cases ok with
     | false =>
      have HG2 : Hid ((keys.take (j + 1)).foldl got1 (s, []) = (t2, l)) := by
       show _ = _;rw [HG1.out, got1_none (HF2.out.no rfl)];show ((live t (bl key1)).1, l) = _;rw [HF2.out.st]
      have hu2 : t2.uses ≤ s.uses + ((j + 1 : Nat) : Int) := by rw [HU2.out]; omega
      go_wp2_with fail
      go_roundw
      case rel => first | exact ⟨j + 1, t2, l, va2, ha, vc2, hc, by omega, by go_num, by omega, HG2, HT2, hu2, HTF2, H7, HI2, R67, HOW7, HOK⟩ | (repeat apply Exists.intro; refine ⟨?_, rfl⟩; exact ⟨j + 1, t2, l, va2, ha, vc2, hc, by omega, by go_num, by omega, HG2, HT2, hu2, HTF2, H7, HI2, R67, HOW7, HOK⟩)
      case measure => simp [intOf]; omega
     | true =>
      obtain ⟨i, hl, hx, hv, hk⟩ := HF2.out.yes rfl;obtain ⟨e1, -, hi0, -⟩ := live_some (congrArg Prod.snd hl : (live t (bl key1)).2 = some i);have e2 : t2 = t := HF2.out.st.symm.trans e1;obtain ⟨hi, hxi⟩ := List.getElem?_eq_some_iff.1 hx
      have HG2 : Hid ((keys.take (j + 1)).foldl got1 (s, []) = (asked t2 i, l ++ [⟨x.key, x.flags, x.cas, v⟩])) := by
       show _ = _;rw [HG1.out, got1_some (congrArg Prod.snd hl : (live t (bl key1)).2 = some i) hi0, hk];subst e2;show (asked t2 i, l ++ [Hit.mk key1 t2.items[i].flags t2.items[i].cas (valueOf t2 t2.items[i])]) = _;rw [hxi, ← hv]
      have HYO : Hid (HitOk ⟨x.key, x.flags, x.cas, v⟩) := by
       have hm := List.mem_of_getElem? hx;have hin := HT2.out.nums hm;have h1 := hin.flags; have h2 := hin.cas;have h3 : v.size ≤ 200 := by rw [hv]; exact value_size HT2.out hm
       have hr : 1000 ≤ reachBytes := by decide
       exact ⟨⟨by show _ ≤ x.flags; omega, by show x.flags ≤ _; omega, by show _ ≤ x.cas; omega, by show x.cas ≤ _; omega⟩, by show x.key.size ≤ _; rw [hk]; exact hks, by show v.size ≤ _; omega⟩
      have hlt2 : t2.uses < maxN := by have := HUS.out; have := HU2.out; have : maxN = 1099511627776 := rfl; omega
      have hki : bl t2.items[i].key = bl x.key := by rw [hxi]
      obtain ⟨T, hT⟩ : ∃ T, T = asked t2 i := ⟨_, rfl⟩;have hak := ref_askedNow t2 x.key i HT2.out hi hki hlt2 base va2 fa vc2 fc W7 H7.out.own;rw [← hT] at hak HG2;have HTT : Hid (SOk T) := by rw [hT]; exact HT2.out.asked i hlt2
      have HTF3 : Hid (T.flash = s.flash) := by rw [hT]; exact HTF2
      have HTP : Hid (T.flash.pages = t2.flash.pages) := by show _ = _; rw [HTF3.out, HTF2.out]
      have hu2 : T.uses ≤ s.uses + ((j + 1 : Nat) : Int) := by rw [hT]; show t2.uses + 1 ≤ _; rw [HU2.out]; omega
      have HAK := hid hak;have HOT3 : Hid (T.flash.pages ≠ [] → ∀ a, fa = some a → a.block < w.heap.size) := by rw [HTP.out]; exact HOT
      clear hl hx hv e1 hi0 e2 hi hxi hlt2 hki hT hak hk;have z0 : W7.cell? ⟨b9, 0, none⟩ = some (.string x.key) := cor R97.out rfl
      go_wp2_with (refine wpList_load_row rfl 28 _ rfl w.heap.size rfl _ _ _ _ (H7.out.b2) Tryz.underlying28 rfl (by kernel_rfl) ?_)
      refine HAK.out.mono ?_;rintro e w9 ⟨rfl, hr9, hv9, hb9⟩;have H9 := hid (H7.out.typed HI2.out hr9 hv9 hb9 HTP.out);have HB9 := hid (hv9.at H7.out.b2 (H7.out.nv H7.out.b2 (by decide)));have R69 := hid ((setRow_other w9 w.heap.size b6 (storeV T va2 vc2 fa fc) (by omega)).trans (hv9.at R67.out (H7.out.nv R67.out (by decide))));have R99 := hid ((setRow_other w9 w.heap.size b9 (storeV T va2 vc2 fa fc) (by omega)).trans (hv9.at R97.out HV9.out));have HOW9 := hid (hits_set (ds := storeV T va2 vc2 fa fc) (owns_butV HOW7.out hv9 H7.out.own (by decide)) HB9.out (by decide));clear hr9 hv9 hb9 HAK z0 H7 R67 R97 HOW7;go_upto_region 10 with (refine wpList_store_row rfl 28 _ _ rfl w.heap.size _ rfl rfl _ _ (HB9.out) storeSize rfl (store_one _ _ _ _ _) ?_);obtain ⟨W9, hW9⟩ : ∃ W9, W9 = w9.setRow w.heap.size (storeV T va2 vc2 fa fc) := ⟨_, rfl⟩;rw [← hW9];rw [← hW9] at H9 R69 R99 HOW9;have z0 : W9.cell? ⟨b9, 0, none⟩ = some (.string x.key) := cor R99.out rfl;have z1 : W9.cell? ⟨b9, 1, none⟩ = some (.int .i64 x.flags) := cor R99.out rfl;have z3 : W9.cell? ⟨b9, 3, none⟩ = some (.int .i64 x.cas) := cor R99.out rfl;have e6 : W9.cell? ⟨b6, 2, none⟩ = some (.slice ha l.length hc) := cor R69.out rfl;have hlw : w.heap.size + 4 ≤ W9.heap.size := H9.out.size;have hll : (l.length + 1) * 48 ≤ 140737488355328 := by omega
      obtain ⟨i0, hi0, hz0, hz1, hz2⟩ := info_parts infoHit;clear hW9 R99 HB9
      go_wp2_with (at_builtin; go_must (refine wpList_append_own _ rfl (.tmp 49) (.tmp 58) 33 rfl (w.heap.size + 4) 53 i0 (.agg #[.string ByteArray.empty, .int .i64 0, .int .i64 0, .string ByteArray.empty]) 4 48 Tryz.underlying33 hi0 hz0 hz1 hz2 rfl (by decide) _ l.length (l.flatMap hitCells) rfl (HOW9.out.alloc _) ⟨W9.heap.size, 0, none⟩ 1 1 (hitCells ⟨x.key, x.flags, x.cas, v⟩) rfl rfl (news_lit _ _ _ _ _ rfl rfl) (ones rfl) (by unfold maxLen; omega) (by omega) (by go_size) ?_))
      intro v' w2 hown hg _;obtain ⟨hha, hhc, rfl⟩ := own_slice hown;have hal : Below W9.heap.size W9 (W9.alloc (.cells #[.string x.key, .int .i64 x.flags, .int .i64 x.cas, .string v] 53)) := below_new rfl;have hk2 := KeptT.grown_own (HOW9.out.alloc _) hg;have h10 := (H9.out.below hal).hits (HOW9.out.alloc _) hg HOT3.out;have r610 := (hk2 _ _ _ _ (bkp hal R69.out) (by decide)).trans (bkp hal R69.out);have h11 := h10.cell r610 (by decide) l6 (h10.nv r610 (by decide)) (fun hp a ha => by have := HOT3.out hp a ha; omega) 2 (.slice hha (l.length + 1) hhc);have r611 := box_cell (j := 2) (v := .slice hha (l.length + 1) hhc) (ds := replyCells (Reply.mk 1 0 (l ++ [⟨x.key, x.flags, x.cas, v⟩])) hha hhc) r610 (by simp [replyCells]);have hfe : (l ++ [Hit.mk x.key x.flags x.cas v]).flatMap hitCells = l.flatMap hitCells ++ hitCells ⟨x.key, x.flags, x.cas, v⟩ := by rw [List.flatMap_append]; simp
      have how11 : (w2.setCell ⟨b6, 2, none⟩ (.slice hha (l.length + 1) hhc)).ownsRow (w.heap.size + 4) 53 4 (.slice hha (l ++ [Hit.mk x.key x.flags x.cas v]).length hhc) (l ++ [Hit.mk x.key x.flags x.cas v]).length ((l ++ [Hit.mk x.key x.flags x.cas v]).flatMap hitCells) := by
       rw [setCell_eq_setRow w2 b6 2 _ _ _ _ r610, hfe, List.length_append];exact owns_setT hown r610 (by decide)
      have y2 : w2.cell? ⟨b6, 2, none⟩ = some (.slice ha l.length hc) := cor r610 rfl;have yf : ∀ j, w2.frozen? ⟨b6, j, none⟩ = false := fun j => frozen_of_row w2 _ _ _ _ r610
      have H11 := hid h11;have R611 := hid r611;have HOW11 := hid how11;clear hown hg hal hk2 h10 r610 h11 r611 hfe how11 e6 z0 z1 z3 H9 R69 HOW9 hi0 hz0 hz1 hz2;obtain ⟨W11, hW11⟩ : ∃ W11, W11 = w2.setCell ⟨b6, 2, none⟩ (.slice hha (l.length + 1) hhc) := ⟨_, rfl⟩;rw [← hW11] at H11 R611 HOW11
      have HOK2 : Hid (∀ y ∈ l ++ [Hit.mk x.key x.flags x.cas v], HitOk y) := fun y hy => by
       rcases List.mem_append.1 hy with h | h
       ·exact HOK.out y h
       ·rw [List.mem_singleton.1 h]; exact HYO.out
      have hll2 : (l ++ [Hit.mk x.key x.flags x.cas v]).length ≤ j + 1 := by rw [List.length_append]; show l.length + 1 ≤ _; omega
      have HLL := hid hll2;clear hll2
      go_wp2_with fail
      rw [← hW11];clear hW11 y2 yf;go_roundw
      case rel => first | exact ⟨j + 1, T, _, va2, hha, vc2, hhc, by omega, by go_num, HLL.out, HG2, HTT, hu2, HTF3, H11, HI2, R611, HOW11, HOK2⟩ | (repeat apply Exists.intro; refine ⟨?_, rfl⟩; exact ⟨j + 1, T, _, va2, hha, vc2, hhc, by omega, by go_num, HLL.out, HG2, HTT, hu2, HTF3, H11, HI2, R611, HOW11, HOK2⟩)
      case measure => simp [intOf]; omega
   ·
    have hj2 : j = keys.length := by have := HN.out; omega
    have HDO2 : Hid (doReq s ⟨1, key, keys, fl, ex, n, val, qt⟩ = (t, Reply.mk 1 0 l)) := by
     show _ = _;have h := HG.out;rw [hj2, List.take_length] at h;rw [HDO.out];unfold got;rw [h]
    have q2 : wr.cell? ⟨w.heap.size + 1, 2, none⟩ = some (.slice ka nn kc) := by have h := HJ.out.req.2.2.1; rw [HN.out]; exact h
    have hjz : ¬ (j : Int) < (nn : Int) := by omega
    clear HG HDO hj2;go_upto_region 11 with (fail);refine wp_region_L (fun w' : World => w'.heap[w.heap.size]? = some (.cells (storeV t va1 vc1 fa fc) 28 (0, 0)) ∧ w'.heap[b6]? = some (.cells (replyCells (Reply.mk 1 0 l) ha hc) 35 (0, 0))) 3 4 (by kernel_rfl) (by kernel_rfl) ⟨HJ.out.b2, R6.out⟩ (fun hHeld => ?_);refine wpAnyL_take (i := 0) (v := _) rfl (by kernel_rfl) (fun _ _ _ h => h) (Or.inl ⟨by rfl, fun wS hSw => exec_load_row 28 _ rfl (w.heap.size) rfl _ _ _ _ (hSw.1) Tryz.underlying28 rfl (by kernel_rfl)⟩) (by assumption) ?_;walk_nrm;refine wpAnyL_take (i := 1) (v := _) rfl (by kernel_rfl) (fun _ _ _ h => h) (Or.inl ⟨by rfl, fun wS hSw => exec_load_row 35 _ rfl (b6) rfl _ _ _ _ (hSw.2) Tryz.underlying35 rfl (by kernel_rfl)⟩) (by assumption) ?_;walk_nrm;obtain ⟨wx, hwx⟩ : ∃ wx, wx = wr.drew := ⟨_, rfl⟩;have hbn : Below wr.heap.size wr wx := by rw [hwx]; exact (Below.refl _ _).drew
    rw [← hwx] at hHeld ⊢;have HX := hid (HJ.out.below hbn);have HBN := hid hbn;clear hwx hbn;refine wpAnyL_one 2 (by kernel_rfl) ?_;refine ComesUp.mk rfl (fun K hK => ?_);rw [if_pos (by rfl)];refine wp_store_row 28 _ _ rfl (w.heap.size + 2) _ rfl rfl _ _ HX.out.b4 storeSize rfl (store_one _ _ _ _ _) ?_;refine hK.out _ _ ⟨(setRow_other _ _ _ _ (by omega)).trans HX.out.b2, (setRow_other _ _ _ _ (by omega)).trans hHeld.2⟩ ?_;clear hK K hHeld;intro hHeld;walk_nrm;obtain ⟨R5', ZRR, ZSS⟩ := HX.out.ends (Reply.mk 1 0 l) ha hc;refine wpAnyL_last rfl (by kernel_rfl) (fun K hK => ?_);rw [if_pos (by rfl)];refine wp_store_row 35 _ _ rfl (w.heap.size + 3) _ rfl rfl _ _ R5'.out replySizeD rfl (reply_oneD (Reply.mk 1 0 l) ha hc) ?_;refine hK.out _ _ ?_;clear hK K hHeld;walk_nrm;refine wpAnyL_done (by kernel_rfl) ?_ _
    iterate 3 go_step
    refine bodyPost_ret (resD rfl ZSS ZRR rfl rfl) rfl ?_;rw [HDO2.out];exact HX.out.fin (fun hp => .inl (HX.out.pages hp)) (Reply.mk 1 0 l) ha hc (own_hits (hits_set (hits_set (owns_below HOW.out HBN.out) HX.out.b4 (by decide)) R5'.out (by decide)) HOK.out)
 ·have e1 : (k == 1) = false := by simp [k1]
  by_cases k12 : k = 12
  ·subst k12
   as_aux_lemma =>
    clear q0;have q0 : W.cell? ⟨w.heap.size + 1, 0, none⟩ = some (.int .i64 12) := H0.out.req.1;have x8 : W.cell? ⟨w.heap.size, 8, none⟩ = some (.slice va s.items.length vc) := cor H0.out.b2 rfl;have x11 : W.cell? ⟨w.heap.size, 11, none⟩ = some (.slice fa s.flash.pages.length fc) := cor H0.out.b2 rfl;have ff : ∀ j, W.frozen? ⟨w.heap.size, j, none⟩ = false := fun j => frozen_of_row W _ _ _ _ H0.out.b2
    obtain ⟨t, ht⟩ : ∃ t : Store, t = { s with items := [], flash := { s.flash with pages := [] } } := ⟨_, rfl⟩;have HT := hid ht;have H1 := hid H0.out.flush;rw [← ht] at H1;obtain ⟨W1, hW1⟩ : ∃ W1, W1 = (W.setCell ⟨w.heap.size, 8, none⟩ (.slice none 0 0)).setCell ⟨w.heap.size, 11, none⟩ (.slice none 0 0) := ⟨_, rfl⟩;rw [← hW1] at H1;clear ht;go_upto_region 15 with (fail);rw [← hW1];clear hW1 x8 x11 ff q0 H0;have HDO : Hid (doReq s ⟨12, key, keys, fl, ex, n, val, qt⟩ = (t, told 9)) := by show _ = _; exact (do_flush rfl).trans (by rw [HT.out])
    obtain ⟨R5', ZRR, ZSS⟩ := H1.out.ends (told 9) none 0
    go_wp2_with (first
     | refine wpList_load_row rfl 28 _ rfl w.heap.size rfl _ _ _ _ (H1.out.b2) Tryz.underlying28 rfl (by kernel_rfl) ?_
     | refine wpList_store_row rfl 28 _ _ rfl (w.heap.size + 2) _ rfl rfl _ _ (H1.out.b4) storeSize rfl (store_one _ _ _ _ _) ?_
     | refine wpList_store_row rfl 35 _ _ rfl (w.heap.size + 3) _ rfl rfl _ _ (R5'.out) replySizeD rfl (reply_oneD (told 9) none 0) ?_)
    refine bodyPost_ret (resD rfl ZSS ZRR rfl rfl) rfl ?_;exact H1.out.told (fun hp => .inl (H1.out.pages hp)) (told 9) HDO.out rfl
  ·have e12 : (k == 12) = false := by simp [k12]
   by_cases k13 : k = 13
   ·subst k13
    as_aux_lemma =>
     have HDO : Hid (doReq s ⟨13, key, keys, fl, ex, n, val, qt⟩ = (s, told 10)) := by show _ = _; exact doD_bad rfl
     obtain ⟨R5', ZRR, ZSS⟩ := H0.out.ends (told 10) none 0
     go_wp2_with (first
      | refine wpList_load_row rfl 28 _ rfl w.heap.size rfl _ _ _ _ (H0.out.b2) Tryz.underlying28 rfl (by kernel_rfl) ?_
      | refine wpList_store_row rfl 28 _ _ rfl (w.heap.size + 2) _ rfl rfl _ _ (H0.out.b4) storeSize rfl (store_one _ _ _ _ _) ?_
      | refine wpList_store_row rfl 35 _ _ rfl (w.heap.size + 3) _ rfl rfl _ _ (R5'.out) replySizeD rfl (reply_oneD (told 10) none 0) ?_)
     refine bodyPost_ret (resD rfl ZSS ZRR rfl rfl) rfl ?_;exact H0.out.told (fun hp => .inl (H0.out.pages hp)) (told 10) HDO.out rfl
   ·have e13 : (k == 13) = false := by simp [k13]
    have HKD : Hid (2 ≤ k ∧ k ≤ 11) := by have := HR.out.kind; show _ ∧ _; dsimp only at this; omega
    clear k1 k12 k13;have q1 : W.cell? ⟨w.heap.size + 1, 1, none⟩ = some (.string key) := H0.out.req.2.1
    go_wp2_with (refine wpList_load_row rfl 28 _ rfl w.heap.size rfl _ _ _ _ (H0.out.b2) Tryz.underlying28 rfl (by kernel_rfl) ?_)
    refine (ref_found s key HS.out base va fa vc fc W H0.out.own (by have := H0.out.base_le; omega)).mono ?_;rintro e w1 ⟨t, va1, vc1, x, v, ok, rfl, hr1, hb1, hi1, hf1⟩;have HF := hid hf1;have HT := hid (hf1.sok HS.out);have hbk := H0.out.below hb1;obtain ⟨h2, r12⟩ := H0.out.found hb1 hr1 hf1.flash HOLD.out #[.string ⟨#[]⟩, .int .i64 0, .int .i64 0, .int .i64 0, .int .i64 0, .string ⟨#[]⟩, .bool false, .int .i64 0, .int .i64 0] x;have hsz1 : w.heap.size + 4 ≤ w1.heap.size := hbk.size;have hv12 : ∀ a, va1 = some a → a.block ≠ w1.heap.size := fun a ha => by have := (hr1.va_lt a ha).2; omega
    have HIT : Hid (va1 = va ∨ ∀ a, va1 = some a → w.heap.size + 4 ≤ a.block) := hi1.imp id (fun h a ha => by have := h a ha; omega);have HOT : Hid (t.flash.pages ≠ [] → ∀ a, fa = some a → a.block < w.heap.size) := by rw [hf1.flash]; exact HOLD
    have HB2' := hid hbk.b2;have HUT : Hid (t.uses ≤ 1099511627766) := by rw [hf1.uses.1]; exact HUS
    have HCT : Hid (0 ≤ t.clock ∧ t.clock ≤ maxN) := HT.out.clock;have HOLD2 := HOLD;clear hbk hf1 hb1 hr1 hi1 q0 q1 HOLD HUS
    go_upto_region 19 with (first
     | refine wpList_store_row rfl 28 _ _ rfl w.heap.size _ rfl rfl _ _ ((Below.heap_alloc _ _ _ (by omega)).trans HB2'.out) storeSize rfl (store_one _ _ _ _ _) ?_
     | refine wpList_store_row rfl 83 _ _ rfl w1.heap.size _ rfl rfl _ _ ((setRow_other _ _ _ _ (by omega)).trans (blk_new _ _)) itemSizeR rfl (item_oneD x) ?_)
    obtain ⟨W2, hW2⟩ : ∃ W2, W2 = ((w1.alloc (.cells #[.string ⟨#[]⟩, .int .i64 0, .int .i64 0, .int .i64 0, .int .i64 0, .string ⟨#[]⟩, .bool false, .int .i64 0, .int .i64 0] 83)).setRow w.heap.size (storeV t va1 vc1 fa fc)).setRow w1.heap.size (itemD x) := ⟨_, rfl⟩;rw [← hW2] at h2 r12;rw [show ((w1.alloc (.cells #[.string ⟨#[]⟩, .int .i64 0, .int .i64 0, .int .i64 0, .int .i64 0, .string ⟨#[]⟩, .bool false, .int .i64 0, .int .i64 0] 83)).setRow w.heap.size (storeV t va1 vc1 fa fc)).setRow w1.heap.size #[.string x.key, .int .i64 x.flags, .int .i64 x.till, .int .i64 x.cas, .int .i64 x.used, .string x.value, .bool x.far, .int .i64 x.place.page, .int .i64 x.place.off] = W2 from hW2.symm];have H2 := hid h2;have R12 := hid r12;obtain ⟨b12, hb12⟩ : ∃ b, b = w1.heap.size := ⟨_, rfl⟩;rw [← hb12] at R12 hv12 hsz1 ⊢;have HV12 := hid hv12;clear hW2 h2 r12 hb12 HB2' hv12 H0;have q1 : W2.cell? ⟨w.heap.size + 1, 1, none⟩ = some (.string key) := H2.out.req.2.1;have q3 : W2.cell? ⟨w.heap.size + 1, 3, none⟩ = some (.int .i64 fl) := H2.out.req.2.2.2.1;have q4 : W2.cell? ⟨w.heap.size + 1, 4, none⟩ = some (.int .i64 ex) := H2.out.req.2.2.2.2.1;have q6 : W2.cell? ⟨w.heap.size + 1, 6, none⟩ = some (.string val) := H2.out.req.2.2.2.2.2.2;obtain ⟨yt, hyt⟩ : ∃ yt, yt = untilOf t ex := ⟨_, rfl⟩;have HYT := hid hyt;clear hyt
    go_cut [15] (fun v15 wx => ∃ b15, v15 = .pointer (some ⟨b15, 0, none⟩) ∧ Hid (DW base va fa s.flash.pages ⟨k, key, keys, fl, ex, n, val, qt⟩ ka kc w t va1 vc1 fa fc wx) ∧ Hid (wx.heap[b12]? = some (.cells (itemD x) 83 (0, 0))) ∧ Hid (wx.heap[b15]? = some (.cells #[.string key, .int .i64 fl, .int .i64 yt, .int .i64 0, .int .i64 0, .string val, .bool false, .int .i64 0, .int .i64 0] 83 (0, 0))) ∧ b12 ≠ b15 ∧ w.heap.size + 4 ≤ b15 ∧ Hid (∀ a, va1 = some a → a.block ≠ b15))
    case first =>
     have hl0 := H2.out.size;refine wp_region_L (fun w' : World => Below W2.heap.size W2 w') 12 13 (by kernel_rfl) (by kernel_rfl) (Below.refl _ _).drew (fun hHeld => ?_);refine tk 0 ?_ rfl (fun _ _ _ h=>h) (y:=?_) (h:=?_);rotate_left
     ·intro wS hSw; go_simp<;>with_reducible rfl
     walk_nrm;refine tk 1 ?_ rfl (fun _ _ _ h=>h) (y:=?_) (h:=?_);rotate_left
     ·intro wS hSw; have p1 := Below.keeps hSw _ _ q1; go_simp<;>with_reducible rfl
     walk_nrm;refine tk 2 ?_ rfl (fun _ _ _ h=>h) (y:=?_) (h:=?_);rotate_left
     ·intro wS hSw; go_simp<;>with_reducible rfl
     walk_nrm;refine tk 3 ?_ rfl (fun _ _ _ h=>h) (y:=?_) (h:=?_);rotate_left
     ·intro wS hSw; have p1 := Below.keeps hSw _ _ q3; go_simp<;>with_reducible rfl
     walk_nrm;refine wpAnyL_take (i := 4) (v := _) rfl (by kernel_rfl) (fun _ _ _ h => h) (Or.inl ⟨by rfl, fun wS hSw => exec_load_row 28 _ rfl (w.heap.size) rfl _ _ _ _ ((hSw.block w.heap.size (by omega)).trans H2.out.b2) Tryz.underlying28 rfl (by kernel_rfl)⟩) (by assumption) ?_;walk_nrm;refine tk 5 ?_ rfl (fun _ _ _ h=>h) (y:=?_) (h:=?_);rotate_left
     ·intro wS hSw; go_simp<;>with_reducible rfl
     walk_nrm;refine tk 6 ?_ rfl (fun _ _ _ h=>h) (y:=?_) (h:=?_);rotate_left
     ·intro wS hSw; have p1 := Below.keeps hSw _ _ q4; go_simp<;>with_reducible rfl
     walk_nrm;refine tk 8 ?_ rfl (fun _ _ _ h=>h) (y:=?_) (h:=?_);rotate_left
     ·intro wS hSw; go_simp<;>with_reducible rfl
     walk_nrm;refine tk 9 ?_ rfl (fun _ _ _ h=>h) (y:=?_) (h:=?_);rotate_left
     ·intro wS hSw; have p1 := Below.keeps hSw _ _ q6; go_simp<;>with_reducible rfl
     walk_nrm;obtain ⟨wx, hwx⟩ : ∃ wx, wx = W2.drew := ⟨_, rfl⟩;rw [← hwx] at hHeld ⊢;clear hwx q1 q3 q4 q6;obtain ⟨L, hL⟩ : ∃ L, L = W2.heap.size := ⟨_, rfl⟩;have hzx : L ≤ wx.heap.size := by have := hHeld.size; omega
     have HX15 : Hid (Bx L none (.cells #[.string ⟨#[]⟩, .int .i64 0, .int .i64 0, .int .i64 0, .int .i64 0, .string ⟨#[]⟩, .bool false, .int .i64 0, .int .i64 0] 83 (0, 0)) wx) := Bx.none;refine wpAnyL_two 7 11 (by kernel_rfl) ?_ ?_
     ·refine ComesUp.mk rfl (fun K hK => ?_)
      go_simp;refine (ref_until t va1 fa vc1 fc ex yt HYT HCT.out HR.out.exp wx).mono ?_;rintro e wn ⟨rfl, hbn⟩;have S5 := hHeld.trans (hbn.mono hHeld.size);replace HX15 := hid (HX15.out.below hbn);have hzn : L ≤ wn.heap.size := by have := hbn.size; omega
      refine hK.out _ _ S5 ?_;clear hK K hHeld hbn S5 hzx;intro hHeld;walk_nrm;refine tk 10 ?_ rfl (fun _ _ _ h=>h) (y:=?_) (h:=?_);rotate_left
      ·intro wS hSw; go_simp<;>with_reducible rfl
      walk_nrm;clear wx;obtain ⟨wx, rfl⟩ := wld wn;have hzx := hzn;clear hzn;refine wpAnyL_one 11 (by kernel_rfl) ?_
      ·refine ComesUp.mk rfl (fun K hK => ?_)
       go_simp;obtain ⟨wn, hwn⟩ : ∃ wn, wn = wx.alloc (.cells #[.string ⟨#[]⟩, .int .i64 0, .int .i64 0, .int .i64 0, .int .i64 0, .string ⟨#[]⟩, .bool false, .int .i64 0, .int .i64 0] 83) := ⟨_, rfl⟩;obtain ⟨b15, hb15⟩ : ∃ b, b = wx.heap.size := ⟨_, rfl⟩;rw [← hwn, ← hb15];have hbn := below_new hwn;have S5 := hHeld.trans (hbn.mono hHeld.size);replace HX15 : Hid (Bx L (some b15) (.cells #[.string ⟨#[]⟩, .int .i64 0, .int .i64 0, .int .i64 0, .int .i64 0, .string ⟨#[]⟩, .bool false, .int .i64 0, .int .i64 0] 83 (0, 0)) wn) := by rw [hb15]; exact Bx.new hwn hzx
       have hzn : L ≤ wn.heap.size := by have := hbn.size; omega
       refine hK.out _ _ S5 ?_;clear hK K hHeld hbn hwn hb15 S5 hzx;intro hHeld;walk_nrm;clear wx;obtain ⟨wx, rfl⟩ := wld wn;have hzx := hzn;clear hzn;have h15 := HX15.out b15 rfl;refine wpAnyL_last rfl (by kernel_rfl) (fun K hK => ?_);rw [if_pos (by rfl)];refine wp_store_row 83 _ _ rfl b15 _ rfl rfl _ _ h15.2 itemSizeR rfl (by simp [Value.oneCell']) ?_;refine hK.out _ _ ?_;have HX := hid (H2.out.below hHeld);have hv15 : ∀ a, va1 = some a → a.block ≠ b15 := fun a ha => by have := (H2.out.own.va_lt a ha).2; have := h15.1; omega
       have h12 := (hHeld.block b12 (blt R12.out)).trans R12.out;have n15 : b12 ≠ b15 := by have := (blt R12.out); have := h15.1; omega
       have hl15 := h15.1;clear hK K hHeld;walk_nrm;refine wpAnyL_done (by kernel_rfl) ?_ _
       go_wp2_with fail
       go_meet;exact ⟨b15, rfl, HX.out.box h15.2 (by decide) (by omega) hv15 (fun hp a ha => by have := HOT.out hp a ha; omega), (setRow_other _ _ _ _ n15).trans h12, setRow_heap _ _ _ _ _ _ h15.2, n15, by omega, hv15⟩
     ·refine ComesUp.mk rfl (fun K hK => ?_)
      go_simp;obtain ⟨wn, hwn⟩ : ∃ wn, wn = wx.alloc (.cells #[.string ⟨#[]⟩, .int .i64 0, .int .i64 0, .int .i64 0, .int .i64 0, .string ⟨#[]⟩, .bool false, .int .i64 0, .int .i64 0] 83) := ⟨_, rfl⟩;obtain ⟨b15, hb15⟩ : ∃ b, b = wx.heap.size := ⟨_, rfl⟩;rw [← hwn, ← hb15];have hbn := below_new hwn;have S5 := hHeld.trans (hbn.mono hHeld.size);replace HX15 : Hid (Bx L (some b15) (.cells #[.string ⟨#[]⟩, .int .i64 0, .int .i64 0, .int .i64 0, .int .i64 0, .string ⟨#[]⟩, .bool false, .int .i64 0, .int .i64 0] 83 (0, 0)) wn) := by rw [hb15]; exact Bx.new hwn hzx
      have hzn : L ≤ wn.heap.size := by have := hbn.size; omega
      refine hK.out _ _ S5 ?_;clear hK K hHeld hbn hwn hb15 S5 hzx;intro hHeld;walk_nrm;clear wx;obtain ⟨wx, rfl⟩ := wld wn;have hzx := hzn;clear hzn;refine wpAnyL_one 7 (by kernel_rfl) ?_
      ·refine ComesUp.mk rfl (fun K hK => ?_)
       go_simp;refine (ref_until t va1 fa vc1 fc ex yt HYT HCT.out HR.out.exp wx).mono ?_;rintro e wn ⟨rfl, hbn⟩;have S5 := hHeld.trans (hbn.mono hHeld.size);replace HX15 := hid (HX15.out.below hbn);have hzn : L ≤ wn.heap.size := by have := hbn.size; omega
       refine hK.out _ _ S5 ?_;clear hK K hHeld hbn S5 hzx;intro hHeld;walk_nrm;refine tk 10 ?_ rfl (fun _ _ _ h=>h) (y:=?_) (h:=?_);rotate_left
       ·intro wS hSw; go_simp<;>with_reducible rfl
       walk_nrm;clear wx;obtain ⟨wx, rfl⟩ := wld wn;have hzx := hzn;clear hzn;have h15 := HX15.out b15 rfl;refine wpAnyL_last rfl (by kernel_rfl) (fun K hK => ?_);rw [if_pos (by rfl)];refine wp_store_row 83 _ _ rfl b15 _ rfl rfl _ _ h15.2 itemSizeR rfl (by simp [Value.oneCell']) ?_;refine hK.out _ _ ?_;have HX := hid (H2.out.below hHeld);have hv15 : ∀ a, va1 = some a → a.block ≠ b15 := fun a ha => by have := (H2.out.own.va_lt a ha).2; have := h15.1; omega
       have h12 := (hHeld.block b12 (blt R12.out)).trans R12.out;have n15 : b12 ≠ b15 := by have := (blt R12.out); have := h15.1; omega
       have hl15 := h15.1;clear hK K hHeld;walk_nrm;refine wpAnyL_done (by kernel_rfl) ?_ _
       go_wp2_with fail
       go_meet;exact ⟨b15, rfl, HX.out.box h15.2 (by decide) (by omega) hv15 (fun hp a ha => by have := HOT.out hp a ha; omega), (setRow_other _ _ _ _ n15).trans h12, setRow_heap _ _ _ _ _ _ h15.2, n15, by omega, hv15⟩
    case rest =>
     obtain ⟨b15, rfl, HC, R12c, R15c, n15, hl15, HV15⟩ := hcut;have hcz := HC.out.size;clear H2 R12 q1 q3 q4 q6;go_upto_region 21 with (refine wpList_store_row rfl 35 _ _ rfl wc.heap.size _ rfl rfl _ _ (blk_new _ _) replySizeD rfl (reply_oneD (told 2) none 0) ?_);obtain ⟨W3, hW3⟩ : ∃ W3, W3 = (wc.alloc (.cells #[.int .i64 0, .int .i64 0, .slice none 0 0] 35)).setRow wc.heap.size #[.int .i64 2, .int .i64 0, .slice none 0 0] := ⟨_, rfl⟩;rw [← hW3];have hb3 : Below wc.heap.size wc W3 := by rw [hW3]; exact (below_new rfl).trans (Below.setRow _ _ _ (Nat.le_refl _))
     obtain ⟨b16, hb16⟩ : ∃ b, b = wc.heap.size := ⟨_, rfl⟩;have H3 := hid (HC.out.below hb3);have R12 := hid (bkp hb3 R12c.out);have R15 := hid (bkp hb3 R15c.out);have R16 : Hid (W3.heap[b16]? = some (.cells (replyCells (told 2) none 0) 35 (0, 0))) := by show _ = _; rw [hW3, hb16]; exact setRow_heap _ _ _ _ _ _ (blk_new _ _)
     have n16 : b15 ≠ b16 := by have := (blt R15c.out); omega
     have m16 : b12 ≠ b16 := by have := (blt R12c.out); omega
     have l16 : w.heap.size + 4 ≤ b16 := by omega
     rw [← hb16];clear hW3 hb3 hb16 HC R12c R15c hcz;have q0 : W3.cell? ⟨w.heap.size + 1, 0, none⟩ = some (.int .i64 k) := H3.out.req.1
     go_upto_block 2 with (fail)
     go_cut [] (fun wx => ∃ (y : Item) (g : Reply), Hid (DW base va fa s.flash.pages ⟨k, key, keys, fl, ex, n, val, qt⟩ ka kc w t va1 vc1 fa fc wx) ∧ Hid (wx.heap[b15]? = some (.cells (itemD y) 83 (0, 0))) ∧ Hid (wx.heap[b16]? = some (.cells (replyCells g none 0) 35 (0, 0))) ∧ Hid (MayPut y) ∧ Hid (doReq s ⟨k, key, keys, fl, ex, n, val, qt⟩ = ((put t y).1, if (put t y).2 = true then g else told 11)) ∧ g.hits = [])
     case first =>
      clear e1 e12 e13 q0;have hkd : k = 2 ∨ k = 3 ∨ k = 4 ∨ k = 5 ∨ k = 6 ∨ k = 7 ∨ k = 8 ∨ k = 9 ∨ k = 10 ∨ k = 11 := by have := HKD.out; omega
      rcases hkd with rfl | rfl | rfl | rfl | rfl | rfl | rfl | rfl | rfl | rfl
      ·have q0 : W3.cell? ⟨w.heap.size + 1, 0, none⟩ = some (.int .i64 2) := H3.out.req.1
       as_aux_lemma =>
        have HDO : Hid (doReq s ⟨2, key, keys, fl, ex, n, val, qt⟩ = stored t ⟨key, fl, yt, 0, 0, val, false, ⟨0, 0⟩⟩) := by show _ = _; rw [HYT.out]; exact set_new HF.out (.inl rfl)
        have HMP : Hid (MayPut ⟨key, fl, yt, 0, 0, val, false, ⟨0, 0⟩⟩) := by show MayPut _; rw [HYT.out]; exact may_new HT.out HR.out HKD.out.1 HKD.out.2
        go_wp2_with fail
        go_meet;exact ⟨_, told 2, H3, R15, R16, HMP, HDO, rfl⟩
      ·have q0 : W3.cell? ⟨w.heap.size + 1, 0, none⟩ = some (.int .i64 3) := H3.out.req.1
       as_aux_lemma =>
        cases ok with
        | true =>
         have HDO : Hid (doReq s ⟨3, key, keys, fl, ex, n, val, qt⟩ = (t, told 3)) := by show _ = _; exact set_told 3 HF.out (.inl ⟨rfl, rfl, rfl⟩)
         obtain ⟨R5', ZRR, ZSS⟩ := H3.out.ends (told 3) none 0;go_upto_region 24 with (fail)
         repeat (first
          | refine wpList_load_row rfl 28 _ rfl w.heap.size rfl _ _ _ _ (H3.out.b2) Tryz.underlying28 rfl (by kernel_rfl) ?_
          | refine wpList_store_row rfl 28 _ _ rfl (w.heap.size + 2) _ rfl rfl _ _ (H3.out.b4) storeSize rfl (store_one _ _ _ _ _) ?_
          | refine wpList_store_row rfl 35 _ _ rfl (w.heap.size + 3) _ rfl rfl _ _ (R5'.out) replySizeD rfl (reply_oneD (told 3) none 0) ?_
          | go_step)
         refine bodyPost_ret (resD rfl ZSS ZRR rfl rfl) rfl ?_;exact H3.out.told (fun hp => .inl (H3.out.pages hp)) (told 3) HDO.out rfl
        | false =>
         have HDO : Hid (doReq s ⟨3, key, keys, fl, ex, n, val, qt⟩ = stored t ⟨key, fl, yt, 0, 0, val, false, ⟨0, 0⟩⟩) := by show _ = _; rw [HYT.out]; exact set_new HF.out (.inr (.inl ⟨rfl, rfl⟩))
         have HMP : Hid (MayPut ⟨key, fl, yt, 0, 0, val, false, ⟨0, 0⟩⟩) := by show MayPut _; rw [HYT.out]; exact may_new HT.out HR.out HKD.out.1 HKD.out.2
         go_wp2_with fail
         go_meet;exact ⟨_, told 2, H3, R15, R16, HMP, HDO, rfl⟩
      ·have q0 : W3.cell? ⟨w.heap.size + 1, 0, none⟩ = some (.int .i64 4) := H3.out.req.1
       as_aux_lemma =>
        cases ok with
        | false =>
         have HDO : Hid (doReq s ⟨4, key, keys, fl, ex, n, val, qt⟩ = (t, told 3)) := by show _ = _; exact set_told 3 HF.out (.inr (.inl ⟨.inl rfl, rfl, rfl⟩))
         obtain ⟨R5', ZRR, ZSS⟩ := H3.out.ends (told 3) none 0;go_upto_region 29 with (fail)
         repeat (first
          | refine wpList_load_row rfl 28 _ rfl w.heap.size rfl _ _ _ _ (H3.out.b2) Tryz.underlying28 rfl (by kernel_rfl) ?_
          | refine wpList_store_row rfl 28 _ _ rfl (w.heap.size + 2) _ rfl rfl _ _ (H3.out.b4) storeSize rfl (store_one _ _ _ _ _) ?_
          | refine wpList_store_row rfl 35 _ _ rfl (w.heap.size + 3) _ rfl rfl _ _ (R5'.out) replySizeD rfl (reply_oneD (told 3) none 0) ?_
          | go_step)
         refine bodyPost_ret (resD rfl ZSS ZRR rfl rfl) rfl ?_;exact H3.out.told (fun hp => .inl (H3.out.pages hp)) (told 3) HDO.out rfl
        | true =>
         have HDO : Hid (doReq s ⟨4, key, keys, fl, ex, n, val, qt⟩ = stored t ⟨key, fl, yt, 0, 0, val, false, ⟨0, 0⟩⟩) := by show _ = _; rw [HYT.out]; exact set_new HF.out (.inr (.inr (.inl ⟨rfl, rfl⟩)))
         have HMP : Hid (MayPut ⟨key, fl, yt, 0, 0, val, false, ⟨0, 0⟩⟩) := by show MayPut _; rw [HYT.out]; exact may_new HT.out HR.out HKD.out.1 HKD.out.2
         go_wp2_with fail
         go_meet;exact ⟨_, told 2, H3, R15, R16, HMP, HDO, rfl⟩
      ·have q0 : W3.cell? ⟨w.heap.size + 1, 0, none⟩ = some (.int .i64 5) := H3.out.req.1
       as_aux_lemma =>
        cases ok with
        | false =>
         have HDO : Hid (doReq s ⟨5, key, keys, fl, ex, n, val, qt⟩ = (t, told 3)) := by show _ = _; exact set_told 3 HF.out (.inr (.inl ⟨.inr (.inl rfl), rfl, rfl⟩))
         obtain ⟨R5', ZRR, ZSS⟩ := H3.out.ends (told 3) none 0;go_upto_region 29 with (fail)
         repeat (first
          | refine wpList_load_row rfl 28 _ rfl w.heap.size rfl _ _ _ _ (H3.out.b2) Tryz.underlying28 rfl (by kernel_rfl) ?_
          | refine wpList_store_row rfl 28 _ _ rfl (w.heap.size + 2) _ rfl rfl _ _ (H3.out.b4) storeSize rfl (store_one _ _ _ _ _) ?_
          | refine wpList_store_row rfl 35 _ _ rfl (w.heap.size + 3) _ rfl rfl _ _ (R5'.out) replySizeD rfl (reply_oneD (told 3) none 0) ?_
          | go_step)
         refine bodyPost_ret (resD rfl ZSS ZRR rfl rfl) rfl ?_;exact H3.out.told (fun hp => .inl (H3.out.pages hp)) (told 3) HDO.out rfl
        | true =>
         obtain ⟨hio, hxm, hvs⟩ := HF.out.item HT.out;have HIO := hid hio;obtain ⟨i, hl, hx, hvv, hxk⟩ := HF.out.yes rfl;have HVV := hid hvv;have hvl := HR.out.value;dsimp only at hvl;have hl1 : ¬ 9223372036854775807 < v.size + val.size := by omega
         have hl2 : ¬ 9223372036854775807 < val.size + v.size := by omega
         have q6 : W3.cell? ⟨w.heap.size + 1, 6, none⟩ = some (.string val) := H3.out.req.2.2.2.2.2.2;have f1 : W3.cell? ⟨b12, 1, none⟩ = some (.int .i64 x.flags) := cor R12.out rfl;have f2 : W3.cell? ⟨b12, 2, none⟩ = some (.int .i64 x.till) := cor R12.out rfl;have y1 : W3.cell? ⟨b15, 1, none⟩ = some (.int .i64 fl) := cor R15.out rfl;have y2 : W3.cell? ⟨b15, 2, none⟩ = some (.int .i64 yt) := cor R15.out rfl;have y5 : W3.cell? ⟨b15, 5, none⟩ = some (.string val) := cor R15.out rfl;have yf : ∀ j, W3.frozen? ⟨b15, j, none⟩ = false := fun j => frozen_of_row W3 _ _ _ _ R15.out
         obtain ⟨h4, r15, o4⟩ := H3.out.two (y := ⟨key, fl, yt, 0, 0, val, false, ⟨0, 0⟩⟩) R15.out hl15 HV15.out HOT.out x.flags x.till;obtain ⟨h5, r15, o5⟩ := h4.val r15 hl15 HV15.out HOT.out (v ++ val);have H5 := hid h5;have R155 := hid r15;have R165 := hid (((o5 b16 n16.symm).trans (o4 b16 n16.symm)).trans R16.out);clear h4 h5 r15 o4 o5  hl hx hxm hvv hxk;go_upto_region 36 with (fail);obtain ⟨W5, hW5⟩ : ∃ W5, W5 = ((W3.setCell ⟨b15, 1, none⟩ (.int .i64 x.flags)).setCell ⟨b15, 2, none⟩ (.int .i64 x.till)).setCell ⟨b15, 5, none⟩ (.string (v ++ val)) := ⟨_, rfl⟩;rw [← hW5];rw [← hW5] at H5 R155 R165;obtain ⟨u, hu⟩ : ∃ u, u = v ++ val := ⟨_, rfl⟩;rw [← hu] at R155;rw [← hu];have HU := hid hu;have HG : Hid (grownItem t ⟨5, key, keys, fl, ex, n, val, qt⟩ x = ⟨key, x.flags, x.till, 0, 0, u, false, ⟨0, 0⟩⟩) := by show _ = _; unfold grownItem; rw [HU.out, HVV.out]; rfl
         have z5 : W5.cell? ⟨b15, 5, none⟩ = some (.string u) := cor R155.out rfl;clear hW5 hu f1 f2 y1 y2 y5 yf q6 H3 R15 R16 R12
         by_cases hbig : 200 < u.size
         ·have hb1 : (200 : Int) < (u.size : Int) := by omega
          have HDO : Hid (doReq s ⟨5, key, keys, fl, ex, n, val, qt⟩ = (t, told 11)) := by show _ = _; exact set_big HF.out (.inl rfl) (by rw [HG.out]; exact hbig)
          obtain ⟨R5', ZRR, ZSS⟩ := H5.out.ends (told 11) none 0;go_upto_region 37 with (fail)
          repeat (first
           | refine wpList_load_row rfl 28 _ rfl w.heap.size rfl _ _ _ _ (H5.out.b2) Tryz.underlying28 rfl (by kernel_rfl) ?_
           | refine wpList_store_row rfl 28 _ _ rfl (w.heap.size + 2) _ rfl rfl _ _ (H5.out.b4) storeSize rfl (store_one _ _ _ _ _) ?_
           | refine wpList_store_row rfl 35 _ _ rfl (w.heap.size + 3) _ rfl rfl _ _ (R5'.out) replySizeD rfl (reply_oneD (told 11) none 0) ?_
           | go_step)
          refine bodyPost_ret (resD rfl ZSS ZRR rfl rfl) rfl ?_;exact H5.out.told (fun hp => .inl (H5.out.pages hp)) (told 11) HDO.out rfl
         ·have hb1 : ¬ (200 : Int) < (u.size : Int) := by omega
          have HDO : Hid (doReq s ⟨5, key, keys, fl, ex, n, val, qt⟩ = stored t ⟨key, x.flags, x.till, 0, 0, u, false, ⟨0, 0⟩⟩) := by show _ = _; rw [← HG.out]; exact set_grown HF.out (.inl rfl) (by rw [HG.out]; exact hbig)
          have HMP : Hid (MayPut ⟨key, x.flags, x.till, 0, 0, u, false, ⟨0, 0⟩⟩) := by show MayPut _; rw [← HG.out]; exact may_grown HIO.out HR.out HKD.out.1 HKD.out.2 (by rw [HG.out]; exact hbig)
          go_wp2_with fail
          go_meet;exact ⟨_, told 2, H5, R155, R165, HMP, HDO, rfl⟩
      ·have q0 : W3.cell? ⟨w.heap.size + 1, 0, none⟩ = some (.int .i64 6) := H3.out.req.1
       as_aux_lemma =>
        cases ok with
        | false =>
         have HDO : Hid (doReq s ⟨6, key, keys, fl, ex, n, val, qt⟩ = (t, told 3)) := by show _ = _; exact set_told 3 HF.out (.inr (.inl ⟨.inr (.inr rfl), rfl, rfl⟩))
         obtain ⟨R5', ZRR, ZSS⟩ := H3.out.ends (told 3) none 0;go_upto_region 29 with (fail)
         repeat (first
          | refine wpList_load_row rfl 28 _ rfl w.heap.size rfl _ _ _ _ (H3.out.b2) Tryz.underlying28 rfl (by kernel_rfl) ?_
          | refine wpList_store_row rfl 28 _ _ rfl (w.heap.size + 2) _ rfl rfl _ _ (H3.out.b4) storeSize rfl (store_one _ _ _ _ _) ?_
          | refine wpList_store_row rfl 35 _ _ rfl (w.heap.size + 3) _ rfl rfl _ _ (R5'.out) replySizeD rfl (reply_oneD (told 3) none 0) ?_
          | go_step)
         refine bodyPost_ret (resD rfl ZSS ZRR rfl rfl) rfl ?_;exact H3.out.told (fun hp => .inl (H3.out.pages hp)) (told 3) HDO.out rfl
        | true =>
         obtain ⟨hio, hxm, hvs⟩ := HF.out.item HT.out;have HIO := hid hio;obtain ⟨i, hl, hx, hvv, hxk⟩ := HF.out.yes rfl;have HVV := hid hvv;have hvl := HR.out.value;dsimp only at hvl;have hl1 : ¬ 9223372036854775807 < v.size + val.size := by omega
         have hl2 : ¬ 9223372036854775807 < val.size + v.size := by omega
         have q6 : W3.cell? ⟨w.heap.size + 1, 6, none⟩ = some (.string val) := H3.out.req.2.2.2.2.2.2;have f1 : W3.cell? ⟨b12, 1, none⟩ = some (.int .i64 x.flags) := cor R12.out rfl;have f2 : W3.cell? ⟨b12, 2, none⟩ = some (.int .i64 x.till) := cor R12.out rfl;have y1 : W3.cell? ⟨b15, 1, none⟩ = some (.int .i64 fl) := cor R15.out rfl;have y2 : W3.cell? ⟨b15, 2, none⟩ = some (.int .i64 yt) := cor R15.out rfl;have y5 : W3.cell? ⟨b15, 5, none⟩ = some (.string val) := cor R15.out rfl;have yf : ∀ j, W3.frozen? ⟨b15, j, none⟩ = false := fun j => frozen_of_row W3 _ _ _ _ R15.out
         obtain ⟨h4, r15, o4⟩ := H3.out.two (y := ⟨key, fl, yt, 0, 0, val, false, ⟨0, 0⟩⟩) R15.out hl15 HV15.out HOT.out x.flags x.till;obtain ⟨h5, r15, o5⟩ := h4.val r15 hl15 HV15.out HOT.out (v ++ val);obtain ⟨h5, r15, o6⟩ := h5.val r15 hl15 HV15.out HOT.out (val ++ v);have H5 := hid h5;have R155 := hid r15;have R165 := hid (((o6 b16 n16.symm).trans ((o5 b16 n16.symm).trans (o4 b16 n16.symm))).trans R16.out);clear h4 h5 r15 o4 o5 o6 hl hx hxm hvv hxk;go_upto_region 36 with (fail);obtain ⟨W5, hW5⟩ : ∃ W5, W5 = (((W3.setCell ⟨b15, 1, none⟩ (.int .i64 x.flags)).setCell ⟨b15, 2, none⟩ (.int .i64 x.till)).setCell ⟨b15, 5, none⟩ (.string (v ++ val))).setCell ⟨b15, 5, none⟩ (.string (val ++ v)) := ⟨_, rfl⟩;rw [← hW5];rw [← hW5] at H5 R155 R165;obtain ⟨u, hu⟩ : ∃ u, u = val ++ v := ⟨_, rfl⟩;rw [← hu] at R155;rw [← hu];have HU := hid hu;have HG : Hid (grownItem t ⟨6, key, keys, fl, ex, n, val, qt⟩ x = ⟨key, x.flags, x.till, 0, 0, u, false, ⟨0, 0⟩⟩) := by show _ = _; unfold grownItem; rw [HU.out, HVV.out]; rfl
         have z5 : W5.cell? ⟨b15, 5, none⟩ = some (.string u) := cor R155.out rfl;clear hW5 hu f1 f2 y1 y2 y5 yf q6 H3 R15 R16 R12
         by_cases hbig : 200 < u.size
         ·have hb1 : (200 : Int) < (u.size : Int) := by omega
          have HDO : Hid (doReq s ⟨6, key, keys, fl, ex, n, val, qt⟩ = (t, told 11)) := by show _ = _; exact set_big HF.out (.inr rfl) (by rw [HG.out]; exact hbig)
          obtain ⟨R5', ZRR, ZSS⟩ := H5.out.ends (told 11) none 0;go_upto_region 37 with (fail)
          repeat (first
           | refine wpList_load_row rfl 28 _ rfl w.heap.size rfl _ _ _ _ (H5.out.b2) Tryz.underlying28 rfl (by kernel_rfl) ?_
           | refine wpList_store_row rfl 28 _ _ rfl (w.heap.size + 2) _ rfl rfl _ _ (H5.out.b4) storeSize rfl (store_one _ _ _ _ _) ?_
           | refine wpList_store_row rfl 35 _ _ rfl (w.heap.size + 3) _ rfl rfl _ _ (R5'.out) replySizeD rfl (reply_oneD (told 11) none 0) ?_
           | go_step)
          refine bodyPost_ret (resD rfl ZSS ZRR rfl rfl) rfl ?_;exact H5.out.told (fun hp => .inl (H5.out.pages hp)) (told 11) HDO.out rfl
         ·have hb1 : ¬ (200 : Int) < (u.size : Int) := by omega
          have HDO : Hid (doReq s ⟨6, key, keys, fl, ex, n, val, qt⟩ = stored t ⟨key, x.flags, x.till, 0, 0, u, false, ⟨0, 0⟩⟩) := by show _ = _; rw [← HG.out]; exact set_grown HF.out (.inr rfl) (by rw [HG.out]; exact hbig)
          have HMP : Hid (MayPut ⟨key, x.flags, x.till, 0, 0, u, false, ⟨0, 0⟩⟩) := by show MayPut _; rw [← HG.out]; exact may_grown HIO.out HR.out HKD.out.1 HKD.out.2 (by rw [HG.out]; exact hbig)
          go_wp2_with fail
          go_meet;exact ⟨_, told 2, H5, R155, R165, HMP, HDO, rfl⟩
      ·have q0 : W3.cell? ⟨w.heap.size + 1, 0, none⟩ = some (.int .i64 7) := H3.out.req.1
       as_aux_lemma =>
        cases ok with
        | false =>
         have HDO : Hid (doReq s ⟨7, key, keys, fl, ex, n, val, qt⟩ = (t, told 5)) := by show _ = _; exact set_told 5 HF.out (.inr (.inr (.inl ⟨rfl, rfl, rfl⟩)))
         obtain ⟨R5', ZRR, ZSS⟩ := H3.out.ends (told 5) none 0;go_upto_region 40 with (fail)
         repeat (first
          | refine wpList_load_row rfl 28 _ rfl w.heap.size rfl _ _ _ _ (H3.out.b2) Tryz.underlying28 rfl (by kernel_rfl) ?_
          | refine wpList_store_row rfl 28 _ _ rfl (w.heap.size + 2) _ rfl rfl _ _ (H3.out.b4) storeSize rfl (store_one _ _ _ _ _) ?_
          | refine wpList_store_row rfl 35 _ _ rfl (w.heap.size + 3) _ rfl rfl _ _ (R5'.out) replySizeD rfl (reply_oneD (told 5) none 0) ?_
          | go_step)
         refine bodyPost_ret (resD rfl ZSS ZRR rfl rfl) rfl ?_;exact H3.out.told (fun hp => .inl (H3.out.pages hp)) (told 5) HDO.out rfl
        | true =>
         have q5 : W3.cell? ⟨w.heap.size + 1, 5, none⟩ = some (.int .i64 n) := H3.out.req.2.2.2.2.2.1;have f3 : W3.cell? ⟨b12, 3, none⟩ = some (.int .i64 x.cas) := cor R12.out rfl
         by_cases hxn : x.cas = n
         ·have hx1 : (x.cas == n) = true := by simp [hxn]
          have hx2 : (x.cas != n) = false := by simp [hxn]
          have HXN := hid hxn;clear hxn;have HDO : Hid (doReq s ⟨7, key, keys, fl, ex, n, val, qt⟩ = stored t ⟨key, fl, yt, 0, 0, val, false, ⟨0, 0⟩⟩) := by show _ = _; rw [HYT.out]; exact set_new HF.out (.inr (.inr (.inr ⟨rfl, rfl, HXN.out⟩)))
          have HMP : Hid (MayPut ⟨key, fl, yt, 0, 0, val, false, ⟨0, 0⟩⟩) := by show MayPut _; rw [HYT.out]; exact may_new HT.out HR.out HKD.out.1 HKD.out.2
          go_wp2_with fail
          go_meet;exact ⟨_, told 2, H3, R15, R16, HMP, HDO, rfl⟩
         ·have hx1 : (x.cas == n) = false := by simp [hxn]
          have hx2 : (x.cas != n) = true := by simp [hxn]
          have HXN := hid hxn;clear hxn;have HDO : Hid (doReq s ⟨7, key, keys, fl, ex, n, val, qt⟩ = (t, told 4)) := by show _ = _; exact set_told 4 HF.out (.inr (.inr (.inr ⟨rfl, rfl, HXN.out, rfl⟩)))
          obtain ⟨R5', ZRR, ZSS⟩ := H3.out.ends (told 4) none 0;go_upto_region 42 with (fail)
          repeat (first
           | refine wpList_load_row rfl 28 _ rfl w.heap.size rfl _ _ _ _ (H3.out.b2) Tryz.underlying28 rfl (by kernel_rfl) ?_
           | refine wpList_store_row rfl 28 _ _ rfl (w.heap.size + 2) _ rfl rfl _ _ (H3.out.b4) storeSize rfl (store_one _ _ _ _ _) ?_
           | refine wpList_store_row rfl 35 _ _ rfl (w.heap.size + 3) _ rfl rfl _ _ (R5'.out) replySizeD rfl (reply_oneD (told 4) none 0) ?_
           | go_step)
          refine bodyPost_ret (resD rfl ZSS ZRR rfl rfl) rfl ?_;exact H3.out.told (fun hp => .inl (H3.out.pages hp)) (told 4) HDO.out rfl
      ·have q0 : W3.cell? ⟨w.heap.size + 1, 0, none⟩ = some (.int .i64 8) := H3.out.req.1
       as_aux_lemma =>
        cases ok with
        | false =>
         have HDO : Hid (doReq s ⟨8, key, keys, fl, ex, n, val, qt⟩ = (t, told 5)) := by show _ = _; exact (do_gone (.inl rfl)).trans (gone_no HF.out)
         obtain ⟨R5', ZRR, ZSS⟩ := H3.out.ends (told 5) none 0;go_upto_region 48 with (fail)
         repeat (first
          | refine wpList_load_row rfl 28 _ rfl w.heap.size rfl _ _ _ _ (H3.out.b2) Tryz.underlying28 rfl (by kernel_rfl) ?_
          | refine wpList_store_row rfl 28 _ _ rfl (w.heap.size + 2) _ rfl rfl _ _ (H3.out.b4) storeSize rfl (store_one _ _ _ _ _) ?_
          | refine wpList_store_row rfl 35 _ _ rfl (w.heap.size + 3) _ rfl rfl _ _ (R5'.out) replySizeD rfl (reply_oneD (told 5) none 0) ?_
          | go_step)
         refine bodyPost_ret (resD rfl ZSS ZRR rfl rfl) rfl ?_;exact H3.out.told (fun hp => .inl (H3.out.pages hp)) (told 5) HDO.out rfl
        | true =>
         obtain ⟨i, hl, hx, hvv, hxk⟩ := HF.out.yes rfl;obtain ⟨hi, hxi⟩ := List.getElem?_eq_some_iff.1 hx;have q1 : W3.cell? ⟨w.heap.size + 1, 1, none⟩ = some (.string key) := H3.out.req.2.1;have z8 : W3.cell? ⟨w.heap.size, 8, none⟩ = some (.slice va1 t.items.length vc1) := cor H3.out.b2 rfl;obtain ⟨L, hL⟩ : ∃ L, L = t.items.eraseIdx i := ⟨_, rfl⟩
         have HEL : Hid (t.items.filter (fun y => !(bl y.key == bl key)) = L) := by
          show _ = _;rw [hL, ← hxk, ← hxi];exact other_erase HT.out.rise hi
         have HLB : Hid ((∀ y ∈ L, ItemB y) ∧ L.length ≤ 1000) := by
          refine ⟨fun y hy => HT.out.itemB y (by rw [hL] at hy; exact (List.eraseIdx_sublist _ _).mem hy), ?_⟩;have := (List.eraseIdx_sublist t.items i).length_le;have := HT.out.len;rw [hL]; omega
         have HDD : Hid (doReq s ⟨8, key, keys, fl, ex, n, val, qt⟩ = ({ t with items := L }, told 6)) := by show _ = _; rw [hL]; exact (do_gone (.inl rfl)).trans ((gone_yes hl).trans (if_neg (by show ¬ (8 : Int) = 11; decide)))
         have hlen := HT.out.len;obtain ⟨m, hm⟩ : ∃ m, m = t.items.length := ⟨_, rfl⟩;have hxc := ref_except 69 (w.heap.size + 1) (fun y => bl y.key == bl key) t.items va1 vc1 W3 H3.out.own.at.items hlen (strikes_doneD q1);rw [HEL.out] at hxc;rw [← hm] at hxc z8;have HXC := hid hxc;have HM := hid hm;clear hxc hl hx hvv hxk hxi hi hL hm hlen
         go_wp2_with fail
         refine HXC.out.mono ?_;rintro e w5 ⟨vv, rfl, how, hb5⟩;obtain ⟨va5, vc5, rfl⟩ := own_slice how;have h6 := H3.out.items hb5 how HLB.out HOT.out;have z8' : w5.cell? ⟨w.heap.size, 8, none⟩ = some (.slice va1 t.items.length vc1) := by rw [cell_of_row w5 _ _ _ _ _ (H3.out.below hb5).b2]; rfl
         have f8 : ∀ j, w5.frozen? ⟨w.heap.size, j, none⟩ = false := fun j => frozen_of_row w5 _ _ _ _ (H3.out.below hb5).b2
         have H6 := hid h6;clear how hb5 h6 z8 HXC;go_upto_region 51 with (fail);obtain ⟨W6, hW6⟩ : ∃ W6, W6 = w5.setCell ⟨w.heap.size, 8, none⟩ (.slice va5 L.length vc5) := ⟨_, rfl⟩;rw [← hW6];rw [← hW6] at H6;clear hW6 z8' f8 H3 R12 R15 R16;have HDO : Hid (doReq s ⟨8, key, keys, fl, ex, n, val, qt⟩ = (({ t with items := L }), told 6)) := by show _ = _; exact HDD.out
         obtain ⟨R5', ZRR, ZSS⟩ := H6.out.ends (told 6) none 0;go_upto_region 51 with (fail)
         repeat (first
          | refine wpList_load_row rfl 28 _ rfl w.heap.size rfl _ _ _ _ (H6.out.b2) Tryz.underlying28 rfl (by kernel_rfl) ?_
          | refine wpList_store_row rfl 28 _ _ rfl (w.heap.size + 2) _ rfl rfl _ _ (H6.out.b4) storeSize rfl (store_one _ _ _ _ _) ?_
          | refine wpList_store_row rfl 35 _ _ rfl (w.heap.size + 3) _ rfl rfl _ _ (R5'.out) replySizeD rfl (reply_oneD (told 6) none 0) ?_
          | go_step)
         refine bodyPost_ret (resD rfl ZSS ZRR rfl rfl) rfl ?_;exact H6.out.told (fun hp => .inl (H6.out.pages hp)) (told 6) HDO.out rfl
      ·have q0 : W3.cell? ⟨w.heap.size + 1, 0, none⟩ = some (.int .i64 9) := H3.out.req.1
       as_aux_lemma =>
        cases ok with
        | false =>
         have HDO : Hid (doReq s ⟨9, key, keys, fl, ex, n, val, qt⟩ = (t, told 5)) := by show _ = _; exact count_no HF.out (.inl rfl)
         obtain ⟨R5', ZRR, ZSS⟩ := H3.out.ends (told 5) none 0;go_upto_region 48 with (fail)
         repeat (first
          | refine wpList_load_row rfl 28 _ rfl w.heap.size rfl _ _ _ _ (H3.out.b2) Tryz.underlying28 rfl (by kernel_rfl) ?_
          | refine wpList_store_row rfl 28 _ _ rfl (w.heap.size + 2) _ rfl rfl _ _ (H3.out.b4) storeSize rfl (store_one _ _ _ _ _) ?_
          | refine wpList_store_row rfl 35 _ _ rfl (w.heap.size + 3) _ rfl rfl _ _ (R5'.out) replySizeD rfl (reply_oneD (told 5) none 0) ?_
          | go_step)
         refine bodyPost_ret (resD rfl ZSS ZRR rfl rfl) rfl ?_;exact H3.out.told (fun hp => .inl (H3.out.pages hp)) (told 5) HDO.out rfl
        | true =>
         obtain ⟨hio, hxm, hvs⟩ := HF.out.item HT.out;have HIO := hid hio;obtain ⟨m, hm⟩ : ∃ m, m = numOf v := ⟨_, rfl⟩;have HM := hid hm;have q5 : W3.cell? ⟨w.heap.size + 1, 5, none⟩ = some (.int .i64 n) := H3.out.req.2.2.2.2.2.1;have f1 : W3.cell? ⟨b12, 1, none⟩ = some (.int .i64 x.flags) := cor R12.out rfl;have f2 : W3.cell? ⟨b12, 2, none⟩ = some (.int .i64 x.till) := cor R12.out rfl;have y1 : W3.cell? ⟨b15, 1, none⟩ = some (.int .i64 fl) := cor R15.out rfl;have y2 : W3.cell? ⟨b15, 2, none⟩ = some (.int .i64 yt) := cor R15.out rfl;have yf : ∀ j, W3.frozen? ⟨b15, j, none⟩ = false := fun j => frozen_of_row W3 _ _ _ _ R15.out
         have hnb := HR.out.n;dsimp only at hnb;rw [show maxN = 1099511627776 from rfl] at hnb;clear hxm hio
         go_wp2_with fail
         refine (ref_number v (by omega) m HM W3).mono ?_;rintro e w' ⟨rfl, rfl⟩
         by_cases hm0 : m < 0
         ·clear f1 f2 y1 y2 yf
          have HDO : Hid (doReq s ⟨9, key, keys, fl, ex, n, val, qt⟩ = (t, told 12)) := by show _ = _; exact count_low HF.out (.inl rfl) (by rw [← HM.out]; exact hm0)
          obtain ⟨R5', ZRR, ZSS⟩ := H3.out.ends (told 12) none 0;go_upto_region 62 with (fail)
          repeat (first
           | refine wpList_load_row rfl 28 _ rfl w.heap.size rfl _ _ _ _ (H3.out.b2) Tryz.underlying28 rfl (by kernel_rfl) ?_
           | refine wpList_store_row rfl 28 _ _ rfl (w.heap.size + 2) _ rfl rfl _ _ (H3.out.b4) storeSize rfl (store_one _ _ _ _ _) ?_
           | refine wpList_store_row rfl 35 _ _ rfl (w.heap.size + 3) _ rfl rfl _ _ (R5'.out) replySizeD rfl (reply_oneD (told 12) none 0) ?_
           | go_step)
          refine bodyPost_ret (resD rfl ZSS ZRR rfl rfl) rfl ?_;exact H3.out.told (fun hp => .inl (H3.out.pages hp)) (told 12) HDO.out rfl
         ·have HM0 := hid hm0
          have HMB : Hid (0 ≤ m ∧ m ≤ maxN) := by show _ ∧ _; rw [HM.out]; rw [HM.out] at hm0; exact (numOf_in v hm0).1
          have hmb := HMB.out;rw [show maxN = 1099511627776 from rfl] at hmb;obtain ⟨c, hcc⟩ : ∃ c, c = counted ⟨9, key, keys, fl, ex, n, val, qt⟩ m := ⟨_, rfl⟩;clear hm;have w9 : wrap64 (m + n) = m + n := IntWalk.wrap64_in _ ⟨by omega, by omega⟩
          by_cases hov : 1099511627776 < m + n
          ·have hce : 1099511627776 = c := by rw [hcc]; unfold counted; rw [if_pos rfl]; show _ = min (m + n) 1099511627776; omega
           have HCE : Hid (1099511627776 = c) := hce;have HCB : Hid (0 ≤ c ∧ c ≤ maxN) := by rw [hcc]; exact counted_in HR.out HMB.out
           have HDD : Hid (doReq s ⟨9, key, keys, fl, ex, n, val, qt⟩ = ((put t ⟨key, x.flags, x.till, 0, 0, decS c, false, ⟨0, 0⟩⟩).1, if (put t ⟨key, x.flags, x.till, 0, 0, decS c, false, ⟨0, 0⟩⟩).2 = true then ⟨7, c, []⟩ else told 11)) := by show _ = _; exact count_yes HF.out (.inl rfl) HM.out HM0.out hcc.symm
           have HMP : Hid (MayPut ⟨key, x.flags, x.till, 0, 0, decS c, false, ⟨0, 0⟩⟩) := by show MayPut _; exact may_counted HIO.out (HR.out.key HKD.out.1 HKD.out.2) HCB.out
           clear hce hcc;obtain ⟨h4, r15, o4⟩ := H3.out.two (y := ⟨key, fl, yt, 0, 0, val, false, ⟨0, 0⟩⟩) R15.out hl15 HV15.out HOT.out x.flags x.till;have H4 := hid h4;have R154 := hid r15;have R164 := hid ((o4 b16 n16.symm).trans R16.out);clear h4 r15 o4;go_upto_region 72 with (fail);obtain ⟨W4, hW4⟩ : ∃ W4, W4 = (W3.setCell ⟨b15, 1, none⟩ (.int .i64 x.flags)).setCell ⟨b15, 2, none⟩ (.int .i64 x.till) := ⟨_, rfl⟩;rw [← hW4];rw [← hW4] at H4 R154 R164;clear hW4 f1 f2 y1 y2 yf q5 q0 H3 R15 R16 R12
           go_wp2_with fail
           rw [HCE.out];have hcb := HCB.out;rw [show maxN = 1099511627776 from rfl] at hcb;refine (ref_dec c (by omega) (by omega) W4).mono ?_;rintro e w5 ⟨rfl, hb5⟩;clear hcb;obtain ⟨h5, r15, o5⟩ := (H4.out.below hb5).val (bkp hb5 R154.out) hl15 HV15.out HOT.out (decS c);have r16 := (o5 b16 n16.symm).trans (bkp hb5 R164.out);have z5 : w5.cell? ⟨b15, 5, none⟩ = some (.string val) := by rw [cell_of_row w5 _ _ _ _ _ (bkp hb5 R154.out)]; rfl
           have zf : ∀ j, w5.frozen? ⟨b15, j, none⟩ = false := fun j => frozen_of_row w5 _ _ _ _ (bkp hb5 R154.out)
           obtain ⟨u, hu⟩ : ∃ u, u = decS c := ⟨_, rfl⟩;rw [← hu] at h5 r15 o5 r16 HDD HMP;rw [← hu];have H5 := hid h5;have R155 := hid r15;have R165 := hid r16;clear hu h5 r15 r16 o5 hb5 H4 R154 R164;go_upto_region 73 with (fail);obtain ⟨W6, hW6⟩ : ∃ W6, W6 = w5.setCell ⟨b15, 5, none⟩ (.string u) := ⟨_, rfl⟩;rw [← hW6];rw [← hW6] at H5 R155 R165;clear hW6 z5 zf
           go_wp2_with (refine wpList_store_row rfl 35 _ _ rfl b16 _ rfl rfl _ _ (R165.out) replySizeD rfl (reply_oneD ⟨7, c, []⟩ none 0) ?_)
           try rw [HCE.out]
           go_meet;exact ⟨_, ⟨7, c, []⟩, H5.out.box R165.out (by decide) l16 (H5.out.nv R165.out (by decide)) (fun hp a ha => by have := HOT.out hp a ha; omega), (setRow_other _ _ _ _ n16).trans R155.out, setRow_heap _ _ _ _ _ _ R165.out, HMP, HDD, rfl⟩
          ·have hce : m + n = c := by rw [hcc]; unfold counted; rw [if_pos rfl]; show _ = min (m + n) 1099511627776; omega
           have HCE : Hid (m + n = c) := hce;have HCB : Hid (0 ≤ c ∧ c ≤ maxN) := by rw [hcc]; exact counted_in HR.out HMB.out
           have HDD : Hid (doReq s ⟨9, key, keys, fl, ex, n, val, qt⟩ = ((put t ⟨key, x.flags, x.till, 0, 0, decS c, false, ⟨0, 0⟩⟩).1, if (put t ⟨key, x.flags, x.till, 0, 0, decS c, false, ⟨0, 0⟩⟩).2 = true then ⟨7, c, []⟩ else told 11)) := by show _ = _; exact count_yes HF.out (.inl rfl) HM.out HM0.out hcc.symm
           have HMP : Hid (MayPut ⟨key, x.flags, x.till, 0, 0, decS c, false, ⟨0, 0⟩⟩) := by show MayPut _; exact may_counted HIO.out (HR.out.key HKD.out.1 HKD.out.2) HCB.out
           clear hce hcc;obtain ⟨h4, r15, o4⟩ := H3.out.two (y := ⟨key, fl, yt, 0, 0, val, false, ⟨0, 0⟩⟩) R15.out hl15 HV15.out HOT.out x.flags x.till;have H4 := hid h4;have R154 := hid r15;have R164 := hid ((o4 b16 n16.symm).trans R16.out);clear h4 r15 o4;go_upto_region 72 with (fail);obtain ⟨W4, hW4⟩ : ∃ W4, W4 = (W3.setCell ⟨b15, 1, none⟩ (.int .i64 x.flags)).setCell ⟨b15, 2, none⟩ (.int .i64 x.till) := ⟨_, rfl⟩;rw [← hW4];rw [← hW4] at H4 R154 R164;clear hW4 f1 f2 y1 y2 yf q5 q0 H3 R15 R16 R12
           go_wp2_with fail
           rw [HCE.out];have hcb := HCB.out;rw [show maxN = 1099511627776 from rfl] at hcb;refine (ref_dec c (by omega) (by omega) W4).mono ?_;rintro e w5 ⟨rfl, hb5⟩;clear hcb;obtain ⟨h5, r15, o5⟩ := (H4.out.below hb5).val (bkp hb5 R154.out) hl15 HV15.out HOT.out (decS c);have r16 := (o5 b16 n16.symm).trans (bkp hb5 R164.out);have z5 : w5.cell? ⟨b15, 5, none⟩ = some (.string val) := by rw [cell_of_row w5 _ _ _ _ _ (bkp hb5 R154.out)]; rfl
           have zf : ∀ j, w5.frozen? ⟨b15, j, none⟩ = false := fun j => frozen_of_row w5 _ _ _ _ (bkp hb5 R154.out)
           obtain ⟨u, hu⟩ : ∃ u, u = decS c := ⟨_, rfl⟩;rw [← hu] at h5 r15 o5 r16 HDD HMP;rw [← hu];have H5 := hid h5;have R155 := hid r15;have R165 := hid r16;clear hu h5 r15 r16 o5 hb5 H4 R154 R164;go_upto_region 73 with (fail);obtain ⟨W6, hW6⟩ : ∃ W6, W6 = w5.setCell ⟨b15, 5, none⟩ (.string u) := ⟨_, rfl⟩;rw [← hW6];rw [← hW6] at H5 R155 R165;clear hW6 z5 zf
           go_wp2_with (refine wpList_store_row rfl 35 _ _ rfl b16 _ rfl rfl _ _ (R165.out) replySizeD rfl (reply_oneD ⟨7, c, []⟩ none 0) ?_)
           try rw [HCE.out]
           go_meet;exact ⟨_, ⟨7, c, []⟩, H5.out.box R165.out (by decide) l16 (H5.out.nv R165.out (by decide)) (fun hp a ha => by have := HOT.out hp a ha; omega), (setRow_other _ _ _ _ n16).trans R155.out, setRow_heap _ _ _ _ _ _ R165.out, HMP, HDD, rfl⟩
      ·have q0 : W3.cell? ⟨w.heap.size + 1, 0, none⟩ = some (.int .i64 10) := H3.out.req.1
       as_aux_lemma =>
        cases ok with
        | false =>
         have HDO : Hid (doReq s ⟨10, key, keys, fl, ex, n, val, qt⟩ = (t, told 5)) := by show _ = _; exact count_no HF.out (.inr rfl)
         obtain ⟨R5', ZRR, ZSS⟩ := H3.out.ends (told 5) none 0;go_upto_region 48 with (fail)
         repeat (first
          | refine wpList_load_row rfl 28 _ rfl w.heap.size rfl _ _ _ _ (H3.out.b2) Tryz.underlying28 rfl (by kernel_rfl) ?_
          | refine wpList_store_row rfl 28 _ _ rfl (w.heap.size + 2) _ rfl rfl _ _ (H3.out.b4) storeSize rfl (store_one _ _ _ _ _) ?_
          | refine wpList_store_row rfl 35 _ _ rfl (w.heap.size + 3) _ rfl rfl _ _ (R5'.out) replySizeD rfl (reply_oneD (told 5) none 0) ?_
          | go_step)
         refine bodyPost_ret (resD rfl ZSS ZRR rfl rfl) rfl ?_;exact H3.out.told (fun hp => .inl (H3.out.pages hp)) (told 5) HDO.out rfl
        | true =>
         obtain ⟨hio, hxm, hvs⟩ := HF.out.item HT.out;have HIO := hid hio;obtain ⟨m, hm⟩ : ∃ m, m = numOf v := ⟨_, rfl⟩;have HM := hid hm;have q5 : W3.cell? ⟨w.heap.size + 1, 5, none⟩ = some (.int .i64 n) := H3.out.req.2.2.2.2.2.1;have f1 : W3.cell? ⟨b12, 1, none⟩ = some (.int .i64 x.flags) := cor R12.out rfl;have f2 : W3.cell? ⟨b12, 2, none⟩ = some (.int .i64 x.till) := cor R12.out rfl;have y1 : W3.cell? ⟨b15, 1, none⟩ = some (.int .i64 fl) := cor R15.out rfl;have y2 : W3.cell? ⟨b15, 2, none⟩ = some (.int .i64 yt) := cor R15.out rfl;have yf : ∀ j, W3.frozen? ⟨b15, j, none⟩ = false := fun j => frozen_of_row W3 _ _ _ _ R15.out
         have hnb := HR.out.n;dsimp only at hnb;rw [show maxN = 1099511627776 from rfl] at hnb;clear hxm hio
         go_wp2_with fail
         refine (ref_number v (by omega) m HM W3).mono ?_;rintro e w' ⟨rfl, rfl⟩
         by_cases hm0 : m < 0
         ·clear f1 f2 y1 y2 yf
          have HDO : Hid (doReq s ⟨10, key, keys, fl, ex, n, val, qt⟩ = (t, told 12)) := by show _ = _; exact count_low HF.out (.inr rfl) (by rw [← HM.out]; exact hm0)
          obtain ⟨R5', ZRR, ZSS⟩ := H3.out.ends (told 12) none 0;go_upto_region 62 with (fail)
          repeat (first
           | refine wpList_load_row rfl 28 _ rfl w.heap.size rfl _ _ _ _ (H3.out.b2) Tryz.underlying28 rfl (by kernel_rfl) ?_
           | refine wpList_store_row rfl 28 _ _ rfl (w.heap.size + 2) _ rfl rfl _ _ (H3.out.b4) storeSize rfl (store_one _ _ _ _ _) ?_
           | refine wpList_store_row rfl 35 _ _ rfl (w.heap.size + 3) _ rfl rfl _ _ (R5'.out) replySizeD rfl (reply_oneD (told 12) none 0) ?_
           | go_step)
          refine bodyPost_ret (resD rfl ZSS ZRR rfl rfl) rfl ?_;exact H3.out.told (fun hp => .inl (H3.out.pages hp)) (told 12) HDO.out rfl
         ·have HM0 := hid hm0
          have HMB : Hid (0 ≤ m ∧ m ≤ maxN) := by show _ ∧ _; rw [HM.out]; rw [HM.out] at hm0; exact (numOf_in v hm0).1
          have hmb := HMB.out;rw [show maxN = 1099511627776 from rfl] at hmb;obtain ⟨c, hcc⟩ : ∃ c, c = counted ⟨10, key, keys, fl, ex, n, val, qt⟩ m := ⟨_, rfl⟩;clear hm;have w9 : wrap64 (m - n) = m - n := IntWalk.wrap64_in _ ⟨by omega, by omega⟩
          by_cases hov : m - n < 0
          ·have hce : 0 = c := by rw [hcc]; unfold counted; rw [if_neg (by show ¬ (10 : Int) = 9; decide)]; show _ = max (m - n) 0; omega
           have HCE : Hid (0 = c) := hce;have HCB : Hid (0 ≤ c ∧ c ≤ maxN) := by rw [hcc]; exact counted_in HR.out HMB.out
           have HDD : Hid (doReq s ⟨10, key, keys, fl, ex, n, val, qt⟩ = ((put t ⟨key, x.flags, x.till, 0, 0, decS c, false, ⟨0, 0⟩⟩).1, if (put t ⟨key, x.flags, x.till, 0, 0, decS c, false, ⟨0, 0⟩⟩).2 = true then ⟨7, c, []⟩ else told 11)) := by show _ = _; exact count_yes HF.out (.inr rfl) HM.out HM0.out hcc.symm
           have HMP : Hid (MayPut ⟨key, x.flags, x.till, 0, 0, decS c, false, ⟨0, 0⟩⟩) := by show MayPut _; exact may_counted HIO.out (HR.out.key HKD.out.1 HKD.out.2) HCB.out
           clear hce hcc;obtain ⟨h4, r15, o4⟩ := H3.out.two (y := ⟨key, fl, yt, 0, 0, val, false, ⟨0, 0⟩⟩) R15.out hl15 HV15.out HOT.out x.flags x.till;have H4 := hid h4;have R154 := hid r15;have R164 := hid ((o4 b16 n16.symm).trans R16.out);clear h4 r15 o4;go_upto_region 72 with (fail);obtain ⟨W4, hW4⟩ : ∃ W4, W4 = (W3.setCell ⟨b15, 1, none⟩ (.int .i64 x.flags)).setCell ⟨b15, 2, none⟩ (.int .i64 x.till) := ⟨_, rfl⟩;rw [← hW4];rw [← hW4] at H4 R154 R164;clear hW4 f1 f2 y1 y2 yf q5 q0 H3 R15 R16 R12
           go_wp2_with fail
           rw [HCE.out];have hcb := HCB.out;rw [show maxN = 1099511627776 from rfl] at hcb;refine (ref_dec c (by omega) (by omega) W4).mono ?_;rintro e w5 ⟨rfl, hb5⟩;clear hcb;obtain ⟨h5, r15, o5⟩ := (H4.out.below hb5).val (bkp hb5 R154.out) hl15 HV15.out HOT.out (decS c);have r16 := (o5 b16 n16.symm).trans (bkp hb5 R164.out);have z5 : w5.cell? ⟨b15, 5, none⟩ = some (.string val) := by rw [cell_of_row w5 _ _ _ _ _ (bkp hb5 R154.out)]; rfl
           have zf : ∀ j, w5.frozen? ⟨b15, j, none⟩ = false := fun j => frozen_of_row w5 _ _ _ _ (bkp hb5 R154.out)
           obtain ⟨u, hu⟩ : ∃ u, u = decS c := ⟨_, rfl⟩;rw [← hu] at h5 r15 o5 r16 HDD HMP;rw [← hu];have H5 := hid h5;have R155 := hid r15;have R165 := hid r16;clear hu h5 r15 r16 o5 hb5 H4 R154 R164;go_upto_region 73 with (fail);obtain ⟨W6, hW6⟩ : ∃ W6, W6 = w5.setCell ⟨b15, 5, none⟩ (.string u) := ⟨_, rfl⟩;rw [← hW6];rw [← hW6] at H5 R155 R165;clear hW6 z5 zf
           go_wp2_with (refine wpList_store_row rfl 35 _ _ rfl b16 _ rfl rfl _ _ (R165.out) replySizeD rfl (reply_oneD ⟨7, c, []⟩ none 0) ?_)
           try rw [HCE.out]
           go_meet;exact ⟨_, ⟨7, c, []⟩, H5.out.box R165.out (by decide) l16 (H5.out.nv R165.out (by decide)) (fun hp a ha => by have := HOT.out hp a ha; omega), (setRow_other _ _ _ _ n16).trans R155.out, setRow_heap _ _ _ _ _ _ R165.out, HMP, HDD, rfl⟩
          ·have hce : m - n = c := by rw [hcc]; unfold counted; rw [if_neg (by show ¬ (10 : Int) = 9; decide)]; show _ = max (m - n) 0; omega
           have HCE : Hid (m - n = c) := hce;have HCB : Hid (0 ≤ c ∧ c ≤ maxN) := by rw [hcc]; exact counted_in HR.out HMB.out
           have HDD : Hid (doReq s ⟨10, key, keys, fl, ex, n, val, qt⟩ = ((put t ⟨key, x.flags, x.till, 0, 0, decS c, false, ⟨0, 0⟩⟩).1, if (put t ⟨key, x.flags, x.till, 0, 0, decS c, false, ⟨0, 0⟩⟩).2 = true then ⟨7, c, []⟩ else told 11)) := by show _ = _; exact count_yes HF.out (.inr rfl) HM.out HM0.out hcc.symm
           have HMP : Hid (MayPut ⟨key, x.flags, x.till, 0, 0, decS c, false, ⟨0, 0⟩⟩) := by show MayPut _; exact may_counted HIO.out (HR.out.key HKD.out.1 HKD.out.2) HCB.out
           clear hce hcc;obtain ⟨h4, r15, o4⟩ := H3.out.two (y := ⟨key, fl, yt, 0, 0, val, false, ⟨0, 0⟩⟩) R15.out hl15 HV15.out HOT.out x.flags x.till;have H4 := hid h4;have R154 := hid r15;have R164 := hid ((o4 b16 n16.symm).trans R16.out);clear h4 r15 o4;go_upto_region 72 with (fail);obtain ⟨W4, hW4⟩ : ∃ W4, W4 = (W3.setCell ⟨b15, 1, none⟩ (.int .i64 x.flags)).setCell ⟨b15, 2, none⟩ (.int .i64 x.till) := ⟨_, rfl⟩;rw [← hW4];rw [← hW4] at H4 R154 R164;clear hW4 f1 f2 y1 y2 yf q5 q0 H3 R15 R16 R12
           go_wp2_with fail
           rw [HCE.out];have hcb := HCB.out;rw [show maxN = 1099511627776 from rfl] at hcb;refine (ref_dec c (by omega) (by omega) W4).mono ?_;rintro e w5 ⟨rfl, hb5⟩;clear hcb;obtain ⟨h5, r15, o5⟩ := (H4.out.below hb5).val (bkp hb5 R154.out) hl15 HV15.out HOT.out (decS c);have r16 := (o5 b16 n16.symm).trans (bkp hb5 R164.out);have z5 : w5.cell? ⟨b15, 5, none⟩ = some (.string val) := by rw [cell_of_row w5 _ _ _ _ _ (bkp hb5 R154.out)]; rfl
           have zf : ∀ j, w5.frozen? ⟨b15, j, none⟩ = false := fun j => frozen_of_row w5 _ _ _ _ (bkp hb5 R154.out)
           obtain ⟨u, hu⟩ : ∃ u, u = decS c := ⟨_, rfl⟩;rw [← hu] at h5 r15 o5 r16 HDD HMP;rw [← hu];have H5 := hid h5;have R155 := hid r15;have R165 := hid r16;clear hu h5 r15 r16 o5 hb5 H4 R154 R164;go_upto_region 73 with (fail);obtain ⟨W6, hW6⟩ : ∃ W6, W6 = w5.setCell ⟨b15, 5, none⟩ (.string u) := ⟨_, rfl⟩;rw [← hW6];rw [← hW6] at H5 R155 R165;clear hW6 z5 zf
           go_wp2_with (refine wpList_store_row rfl 35 _ _ rfl b16 _ rfl rfl _ _ (R165.out) replySizeD rfl (reply_oneD ⟨7, c, []⟩ none 0) ?_)
           try rw [HCE.out]
           go_meet;exact ⟨_, ⟨7, c, []⟩, H5.out.box R165.out (by decide) l16 (H5.out.nv R165.out (by decide)) (fun hp a ha => by have := HOT.out hp a ha; omega), (setRow_other _ _ _ _ n16).trans R155.out, setRow_heap _ _ _ _ _ _ R165.out, HMP, HDD, rfl⟩
      ·have q0 : W3.cell? ⟨w.heap.size + 1, 0, none⟩ = some (.int .i64 11) := H3.out.req.1
       as_aux_lemma =>
        cases ok with
        | false =>
         have HDO : Hid (doReq s ⟨11, key, keys, fl, ex, n, val, qt⟩ = (t, told 5)) := by show _ = _; exact (do_gone (.inr rfl)).trans (gone_no HF.out)
         obtain ⟨R5', ZRR, ZSS⟩ := H3.out.ends (told 5) none 0;go_upto_region 48 with (fail)
         repeat (first
          | refine wpList_load_row rfl 28 _ rfl w.heap.size rfl _ _ _ _ (H3.out.b2) Tryz.underlying28 rfl (by kernel_rfl) ?_
          | refine wpList_store_row rfl 28 _ _ rfl (w.heap.size + 2) _ rfl rfl _ _ (H3.out.b4) storeSize rfl (store_one _ _ _ _ _) ?_
          | refine wpList_store_row rfl 35 _ _ rfl (w.heap.size + 3) _ rfl rfl _ _ (R5'.out) replySizeD rfl (reply_oneD (told 5) none 0) ?_
          | go_step)
         refine bodyPost_ret (resD rfl ZSS ZRR rfl rfl) rfl ?_;exact H3.out.told (fun hp => .inl (H3.out.pages hp)) (told 5) HDO.out rfl
        | true =>
         obtain ⟨i, hl, hx, hvv, hxk⟩ := HF.out.yes rfl;obtain ⟨hi, hxi⟩ := List.getElem?_eq_some_iff.1 hx;have q1 : W3.cell? ⟨w.heap.size + 1, 1, none⟩ = some (.string key) := H3.out.req.2.1;obtain ⟨T, hT⟩ : ∃ T, T = asked t i := ⟨_, rfl⟩;have hlt : t.uses < maxN := by have := HUT.out; have : maxN = 1099511627776 := rfl; omega
         have hak := ref_askedNow t key i HT.out hi (by rw [hxi, hxk]) hlt base va1 fa vc1 fc W3 H3.out.own;rw [← hT] at hak;have HTT : Hid (SOk T) := by rw [hT]; exact HT.out.asked i hlt
         have hTl : i < T.items.length := by rw [hT]; show i < (t.items.modify i _).length; rw [List.length_modify]; exact hi
         have hTk : bl T.items[i].key = bl key := by
          subst hT;rw [asked_key hi hTl, hxi, hxk]
         have hTf : T.flash.pages = t.flash.pages := by rw [hT]; rfl
         have hTc : T.clock = t.clock := by rw [hT]; rfl
         obtain ⟨u, hu⟩ : ∃ u, u = untilOf T ex := ⟨_, rfl⟩;have HU := hid hu;have HDD : Hid (doReq s ⟨11, key, keys, fl, ex, n, val, qt⟩ = ({ T with items := T.items.modify i (fun x => { x with till := u }) }, told 8)) := by show _ = _; rw [hu, hT]; exact (do_gone (.inr rfl)).trans ((gone_yes hl).trans (if_pos rfl))
         have HAK := hid hak;have HTF := hid hTf;have HTK := hid hTk;have HTC : Hid (0 ≤ T.clock ∧ T.clock ≤ maxN) := by rw [hTc]; exact HCT
         have HOT2 : Hid (T.flash.pages ≠ [] → ∀ a, fa = some a → a.block < w.heap.size) := by rw [hTf]; exact HOT
         clear hak hl hx hvv hxk hxi hi hT hlt hTf hTc hTk hu
         go_wp2_with (refine wpList_load_row rfl 28 _ rfl w.heap.size rfl _ _ _ _ (H3.out.b2) Tryz.underlying28 rfl (by kernel_rfl) ?_)
         refine HAK.out.mono ?_;rintro e w5 ⟨rfl, hr5, hv5, hl5⟩;have h6 := H3.out.typed HIT.out hr5 hv5 hl5 HTF.out;have HB5 := hid (hv5.at H3.out.b2 (H3.out.nv H3.out.b2 (by decide)));have H6 := hid h6;clear h6 hr5 hv5 hl5 HAK;go_upto_region 54 with (refine wpList_store_row rfl 28 _ _ rfl w.heap.size _ rfl rfl _ _ (HB5.out) storeSize rfl (store_one _ _ _ _ _) ?_);obtain ⟨W6, hW6⟩ : ∃ W6, W6 = w5.setRow w.heap.size (storeV T va1 vc1 fa fc) := ⟨_, rfl⟩;rw [← hW6];rw [← hW6] at H6;clear hW6 HB5 H3 R12 R15 R16 q0 q1;obtain ⟨gi, rfl, hbg, hgl, hnc, hcm⟩ := H6.out.own.gi (by omega);obtain ⟨m, hm⟩ : ∃ m, m = T.items.length := ⟨_, rfl⟩;have HM := hid hm;clear hgl
         go_wp2_with fail
         go_loopw [17] (fun v wr => ∃ j : Nat, j ≤ m ∧ v = .int .i64 j ∧ Hid (DW base va fa s.flash.pages ⟨11, key, keys, fl, ex, n, val, qt⟩ ka kc w (tillTo T i j u) (some ⟨gi, 0, none⟩) vc1 fa fc wr)) (fun v _ => m - (intOf v).toNat)
         case atStart => exact ⟨0, Nat.zero_le _, rfl, by rw [tillTo_zero]; exact H6⟩
         case round =>
          obtain ⟨j, hj, rfl, HJ⟩ := hrel
          have x8 : wr.cell? ⟨w.heap.size, 8, none⟩ = some (.slice (some ⟨gi, 0, none⟩) m vc1) := by
           rw [cell_of_row wr _ _ _ _ _ HJ.out.b2];show some (Value.slice _ (tillTo T i j u).items.length _) = _;rw [tillTo_len, HM.out]
          by_cases hjm : j < m
          ·obtain ⟨x2, hx2, hxk2⟩ := tillTo_key (t := T) (i := i) (j := j) (u := u) (by omega)
           obtain ⟨d0, d1, d2, d3, d4, d5, d6, d7, d8⟩ := own_item HJ.out.own.row hx2;have df := own_free HJ.out.own.row;have q1 : wr.cell? ⟨w.heap.size + 1, 1, none⟩ = some (.string key) := HJ.out.req.2.1;have q4 : wr.cell? ⟨w.heap.size + 1, 4, none⟩ = some (.int .i64 ex) := HJ.out.req.2.2.2.2.1;have hj0 : ¬ ((j : Int) < 0) := by omega
           have hjz : (j : Int) < (m : Int) := by omega
           by_cases hji : j = i
           ·subst hji
            have he : (x2.key.toList == key.toList) = true := by rw [bl_toList, bl_toList, hxk2, HTK.out]; simp
            have hl0 := HJ.out.size;clear d1 d3 d4 d5 d6 d7 d8 hx2 hxk2 H6;go_upto_region 57 with (fail)
            go_quiet (fail)
            go_upto_region 58 with (fail);obtain ⟨W7, hW7⟩ : ∃ W7, W7 = wr.drewN nq := ⟨_, rfl⟩;have hb7 : Below wr.heap.size wr W7 := by rw [hW7]; exact below_drewN (Below.refl _ _) _
            rw [← hW7];have H7 := hid (HJ.out.below hb7);have x8' := Below.keeps hb7 _ _ x8;have q4' := Below.keeps hb7 _ _ q4;have d2' := Below.keeps hb7 _ _ d2;clear hW7 hb7 x8 q4 d2 d0 q1 he HJ df;refine wp_region_L (fun w' : World => Below W7.heap.size W7 w') 9 10 (by kernel_rfl) (by kernel_rfl) (Below.refl _ _).drew (fun hHeld => ?_);refine tk 0 ?_ rfl (fun _ _ _ h=>h) (y:=?_) (h:=?_);rotate_left
            ·intro wS hSw; go_simp<;>with_reducible rfl
            walk_nrm;refine tk 1 ?_ rfl (fun _ _ _ h=>h) (y:=?_) (h:=?_);rotate_left
            ·intro wS hSw; have p1 := Below.keeps hSw _ _ x8'; go_simp<;>with_reducible rfl
            walk_nrm;refine tk 2 ?_ rfl (fun _ _ _ h=>h) (y:=?_) (h:=?_);rotate_left
            ·intro wS hSw; go_simp<;>with_reducible rfl
            walk_nrm;refine wpAnyL_take (i := 3) (v := _) rfl (by kernel_rfl) (fun _ _ _ h => h) (Or.inl ⟨by rfl, fun wS hSw => exec_load_row 28 _ rfl (w.heap.size) rfl _ _ _ _ ((hSw.block w.heap.size (by have := H7.out.size; omega)).trans H7.out.b2) Tryz.underlying28 rfl (by kernel_rfl)⟩) (by assumption) ?_;walk_nrm;refine tk 4 ?_ rfl (fun _ _ _ h=>h) (y:=?_) (h:=?_);rotate_left
            ·intro wS hSw; go_simp<;>with_reducible rfl
            walk_nrm;refine tk 5 ?_ rfl (fun _ _ _ h=>h) (y:=?_) (h:=?_);rotate_left
            ·intro wS hSw; have p1 := Below.keeps hSw _ _ q4'; go_simp<;>with_reducible rfl
            walk_nrm;obtain ⟨wx, hwx⟩ : ∃ wx, wx = W7.drew := ⟨_, rfl⟩;rw [← hwx] at hHeld ⊢;clear hwx x8' q4';refine wpAnyL_one 6 (by kernel_rfl) ?_;refine ComesUp.mk rfl (fun K hK => ?_);go_simp;refine (ref_until (tillTo T j j u) (some ⟨gi, 0, none⟩) fa vc1 fc ex u (hid HU.out) HTC.out HR.out.exp wx).mono ?_;rintro e wn ⟨rfl, hbn⟩;have S5 := hHeld.trans (hbn.mono hHeld.size);refine hK.out _ _ S5 ?_;clear hK K hHeld hbn S5;intro hHeld;walk_nrm;refine tk 7 ?_ rfl (fun _ _ _ h=>h) (y:=?_) (h:=?_);rotate_left
            ·intro wS hSw; go_simp<;>with_reducible rfl
            walk_nrm;refine tk 8 ?_ rfl (fun _ _ _ h=>h) (y:=?_) (h:=?_);rotate_left
            ·intro wS hSw; go_simp<;>with_reducible rfl
            walk_nrm;have d2n := Below.keeps hHeld _ _ d2';have H8 := hid (H7.out.below hHeld);have dfn := own_free H8.out.own.row;have hO := H8.out.own.item_set j (by rw [tillTo_len]; exact hTl) 2 (by omega) (.int .i64 u) (fun x => { x with till := u }) rfl (itemB_till HTT.out HU.out HR.out.exp);rw [← tillTo_at] at hO;have H9 := hid (H8.out.item HIT.out hO ButV.set (below_set _ _ hbg) rfl (by rw [tillTo_V, tillTo_V]));clear hO H7 H8;refine wpAnyL_last rfl (by kernel_rfl) (fun K hK => ?_);go_simp;refine hK.out _ _ ?_;clear hK K hHeld;walk_nrm;refine wpAnyL_done (by kernel_rfl) ?_ _;clear d2n dfn d2'
            go_wp2_with fail
            go_roundw
            case rel => exact ⟨j + 1, by omega, by go_num, H9⟩
            case measure => simp [intOf]; omega
           ·have he : (x2.key.toList == key.toList) = false := by
             rw [bl_toList, bl_toList, hxk2, beq_eq_false_iff_ne];intro e;exact hji (rising_key HTT.out.rise (by omega) hTl (e.trans HTK.out.symm))
            have HJ2 : Hid (DW base va fa s.flash.pages ⟨11, key, keys, fl, ex, n, val, qt⟩ ka kc w (tillTo T i (j + 1) u) (some ⟨gi, 0, none⟩) vc1 fa fc wr) := by rw [tillTo_past u hji]; exact HJ
            clear d1 d2 d3 d4 d5 d6 d7 d8 hx2 hxk2 HJ H6 df;go_upto_region 57 with (fail)
            go_quiet (fail)
            go_wp2_with fail
            go_roundw
            case rel => exact ⟨j + 1, by omega, by go_num, hid (HJ2.out.below (below_drewN (Below.refl _ _) _))⟩
            case measure => simp [intOf]; omega
          ·have hjm2 : j = T.items.length := by have := HM.out; omega
           subst hjm2;have HDD2 : Hid (doReq s ⟨11, key, keys, fl, ex, n, val, qt⟩ = (tillTo T i T.items.length u, told 8)) := by show _ = _; rw [tillTo_end u hTl]; exact HDD.out
           obtain ⟨TT, hTT⟩ : ∃ TT, TT = tillTo T i T.items.length u := ⟨_, rfl⟩;rw [← hTT] at HJ HDD2;clear hTT H6;have HDO : Hid (doReq s ⟨11, key, keys, fl, ex, n, val, qt⟩ = (TT, told 8)) := by show _ = _; exact HDD2.out
           obtain ⟨R5', ZRR, ZSS⟩ := HJ.out.ends (told 8) none 0;go_upto_region 59 with (fail)
           repeat (first
            | refine wpList_load_row rfl 28 _ rfl w.heap.size rfl _ _ _ _ (HJ.out.b2) Tryz.underlying28 rfl (by kernel_rfl) ?_
            | refine wpList_store_row rfl 28 _ _ rfl (w.heap.size + 2) _ rfl rfl _ _ (HJ.out.b4) storeSize rfl (store_one _ _ _ _ _) ?_
            | refine wpList_store_row rfl 35 _ _ rfl (w.heap.size + 3) _ rfl rfl _ _ (R5'.out) replySizeD rfl (reply_oneD (told 8) none 0) ?_
            | go_step)
           refine bodyPost_ret (resD rfl ZSS ZRR rfl rfl) rfl ?_;exact HJ.out.told (fun hp => .inl (HJ.out.pages hp)) (told 8) HDO.out rfl
     case rest =>
      obtain ⟨y, g, H4, R15n, R16n, HMP, HDO, hg⟩ := hcut;clear H3 R12 R15 R16 q0;obtain ⟨⟨p, b⟩, hp⟩ : ∃ q, q = put t y := ⟨_, rfl⟩;have hpt := ref_putItem t y HT.out HMP.out base va1 fa vc1 fc wc H4.out.own (by have := H4.out.base_le; have := H4.out.size; omega);rw [← hp] at hpt;rw [← hp] at HDO;have HPT := hid hpt;clear hpt hp HMP
      go_wp2_with (first
       | refine wpList_load_row rfl 28 _ rfl w.heap.size rfl _ _ _ _ (H4.out.b2) Tryz.underlying28 rfl (by kernel_rfl) ?_
       | refine wpList_load_row rfl 83 _ rfl b15 rfl _ _ _ _ (R15n.out) Tryz.underlying83 rfl (by kernel_rfl) ?_)
      refine HPT.out.mono ?_;rintro e w5 ⟨va5, vc5, fa5, fc5, rfl, hr5, hb5, hf5⟩;simp only at hr5 hf5 ⊢;obtain ⟨h5, hfin⟩ := H4.out.put (p := (p, b)) hr5 hb5 HOLD2.out hf5;have HB5 := hid (H4.out.below hb5).b2;have r16 := (hb5.block b16 (blt R16n.out)).trans R16n.out;have n16s : b16 ≠ w.heap.size := by omega
      have R165 := hid ((setRow_other w5 w.heap.size b16 (storeV p va5 vc5 fa5 fc5) n16s).trans r16);have H5 := hid h5;have HFIN := hid hfin;simp only at H5 HFIN;clear h5 hfin hr5 hb5 hf5 r16 HPT;go_upto_region 75 with (refine wpList_store_row rfl 28 _ _ rfl w.heap.size _ rfl rfl _ _ (HB5.out) storeSize rfl (store_one _ _ _ _ _) ?_);obtain ⟨W6, hW6⟩ : ∃ W6, W6 = w5.setRow w.heap.size (storeV p va5 vc5 fa5 fc5) := ⟨_, rfl⟩;rw [← hW6];rw [← hW6] at H5 R165;clear hW6 HB5 H4 R15n R16n
      cases b with
      | false =>
       have HDO2 : Hid (doReq s ⟨k, key, keys, fl, ex, n, val, qt⟩ = (p, told 11)) := HDO;obtain ⟨R5', ZRR, ZSS⟩ := H5.out.ends (told 11) none 0;go_upto_region 76 with (fail)
       repeat (first
        | refine wpList_load_row rfl 28 _ rfl w.heap.size rfl _ _ _ _ (H5.out.b2) Tryz.underlying28 rfl (by kernel_rfl) ?_
        | refine wpList_store_row rfl 28 _ _ rfl (w.heap.size + 2) _ rfl rfl _ _ (H5.out.b4) storeSize rfl (store_one _ _ _ _ _) ?_
        | refine wpList_store_row rfl 35 _ _ rfl (w.heap.size + 3) _ rfl rfl _ _ (R5'.out) replySizeD rfl (reply_oneD (told 11) none 0) ?_
        | go_step)
       refine bodyPost_ret (resD rfl ZSS ZRR rfl rfl) rfl ?_;exact H5.out.told HFIN.out (told 11) HDO2.out rfl
      | true =>
       have HDO2 : Hid (doReq s ⟨k, key, keys, fl, ex, n, val, qt⟩ = (p, g)) := HDO;go_upto_region 77 with (fail);refine wp_region_L (fun w' : World => w'.heap[w.heap.size]? = some (.cells (storeV p va5 vc5 fa5 fc5) 28 (0, 0)) ∧ w'.heap[b16]? = some (.cells (replyCells g none 0) 35 (0, 0))) 3 4 (by kernel_rfl) (by kernel_rfl) ⟨H5.out.b2, R165.out⟩ (fun hHeld => ?_);refine wpAnyL_take (i := 0) (v := _) rfl (by kernel_rfl) (fun _ _ _ h => h) (Or.inl ⟨by rfl, fun wS hSw => exec_load_row 28 _ rfl (w.heap.size) rfl _ _ _ _ (hSw.1) Tryz.underlying28 rfl (by kernel_rfl)⟩) (by assumption) ?_;walk_nrm;refine wpAnyL_take (i := 1) (v := _) rfl (by kernel_rfl) (fun _ _ _ h => h) (Or.inl ⟨by rfl, fun wS hSw => exec_load_row 35 _ rfl (b16) rfl _ _ _ _ (hSw.2) Tryz.underlying35 rfl (by kernel_rfl)⟩) (by assumption) ?_;walk_nrm;obtain ⟨wx, hwx⟩ : ∃ wx, wx = W6.drew := ⟨_, rfl⟩;have hbn : Below W6.heap.size W6 wx := by rw [hwx]; exact (Below.refl _ _).drew
       rw [← hwx] at hHeld ⊢;have HX := hid (H5.out.below hbn);have HBN := hid hbn;clear hwx hbn;refine wpAnyL_one 2 (by kernel_rfl) ?_;refine ComesUp.mk rfl (fun K hK => ?_);rw [if_pos (by rfl)];refine wp_store_row 28 _ _ rfl (w.heap.size + 2) _ rfl rfl _ _ HX.out.b4 storeSize rfl (store_one _ _ _ _ _) ?_;refine hK.out _ _ ⟨(setRow_other _ _ _ _ (by omega)).trans HX.out.b2, (setRow_other _ _ _ _ (by omega)).trans hHeld.2⟩ ?_;clear hK K hHeld;intro hHeld;walk_nrm;obtain ⟨R5', ZRR, ZSS⟩ := HX.out.ends g none 0;refine wpAnyL_last rfl (by kernel_rfl) (fun K hK => ?_);rw [if_pos (by rfl)];refine wp_store_row 35 _ _ rfl (w.heap.size + 3) _ rfl rfl _ _ R5'.out replySizeD rfl (reply_oneD g none 0) ?_;refine hK.out _ _ ?_;clear hK K hHeld;walk_nrm;refine wpAnyL_done (by kernel_rfl) ?_ _
       iterate 3 go_step
       refine bodyPost_ret (resD rfl ZSS ZRR rfl rfl) rfl ?_;exact HX.out.told HFIN.out g HDO2.out hg
end Go.Proofs.YtbeegfkfpkfccaaGreatDoor.D
