/-
 Contract: ref.DoneOf, where 'done' answers as it ought to.
-/
import Derived.Test.YtbeegfkfpkfccaaGreatDoorYRefA
import Derived.Test.YtbeegfkfpkfccaaGreatDoorYCSMay
import Derived.Test.YtbeegfkfpkfccaaGreatDoorYCRFault
import Derived.Test.YtbeegfkfpkfccaaGreatDoorYCEnd
import Derived.Test.YtbeegfkfpkfccaaGreatDoorYCResult
namespace Go.Proofs.YtbeegfkfpkfccaaGreatDoor.D
open Go.RowKit
def TwoBx (L : Nat) (o8 o9 : Option Nat) (wx : World) : Prop := Bx L o8 (.cells storeZ 28 (0, 0)) wx ∧ Bx L o9 (.cells #[.int .i64 0, .int .i64 0, .slice none 0 0] 35 (0, 0)) wx
section
variable {L : Nat} {o8 o9 : Option Nat} {wx wn : World}
theorem TwoBx.below (h : TwoBx L o8 o9 wx) (hb : Below wx.heap.size wx wn) : TwoBx L o8 o9 wn := ⟨h.1.below hb, h.2.below hb⟩
theorem TwoBx.new8 {b : Nat} (h : TwoBx L none o9 wx) (hw : wn = wx.alloc (.cells storeZ 28)) (hb : b = wx.heap.size) (hz : L ≤ wx.heap.size) : TwoBx L (some b) o9 wn := by
 subst hb; exact ⟨Bx.new hw hz, h.2.below (below_new hw)⟩
theorem TwoBx.new9 {b : Nat} (h : TwoBx L o8 none wx) (hw : wn = wx.alloc (.cells #[.int .i64 0, .int .i64 0, .slice none 0 0] 35)) (hb : b = wx.heap.size) (hz : L ≤ wx.heap.size) : TwoBx L o8 (some b) wn := by
 subst hb; exact ⟨h.1.below (below_new hw), Bx.new hw hz⟩
theorem TwoBx.butV {base : Nat} {s : Store} {va fa : Option Addr} {vc fc : Nat} (h : TwoBx L o8 o9 wx) (hv : ButV va wx wn) (hO : RSt base wx s va vc fa fc) : TwoBx L o8 o9 wn := ⟨h.1.butV hv hO (by decide), h.2.butV hv hO (by decide)⟩
structure Copied (base L : Nat) (o8 o9 : Option Nat) (s : Store) (va : Option Addr) (vc : Nat) (fa : Option Addr) (fc : Nat) (wx : World) : Prop where
 own : RSt base wx s va vc fa fc
 n8 : NotAt o8 s.flash.pages fa
 n9 : NotAt o9 s.flash.pages fa
 le : base ≤ wx.heap.size
 lo : L ≤ base
theorem Copied.of {base : Nat} {s : Store} {va fa : Option Addr} {vc fc : Nat} (hbase : base = wx.heap.size) (ho : StOwn wx.heap.size wn s va vc fa fc) (hx : TwoBx L o8 o9 wx) (hbn : Below wx.heap.size wx wn) (hz : L ≤ wx.heap.size) : Copied base L o8 o9 s va vc fa fc wn := by
 subst hbase;have h := RSt.ofOwn ho;exact ⟨h, NotAt.before h hx.1 (Nat.le_refl _), NotAt.before h hx.2 (Nat.le_refl _), hbn.size, hz⟩
theorem Copied.new8 {base b : Nat} {s : Store} {va fa : Option Addr} {vc fc : Nat} {row : Obj} (h : Copied base L none o9 s va vc fa fc wx) (hw : wn = wx.alloc row) (hb : b = wx.heap.size) : Copied base L (some b) o9 s va vc fa fc wn := by
 subst hb;have hbn := below_new hw;exact ⟨h.own.below hbn, NotAt.new h.own, h.n9, Nat.le_trans h.le hbn.size, h.lo⟩
theorem Copied.new9 {base b : Nat} {s : Store} {va fa : Option Addr} {vc fc : Nat} {row : Obj} (h : Copied base L o8 none s va vc fa fc wx) (hw : wn = wx.alloc row) (hb : b = wx.heap.size) : Copied base L o8 (some b) s va vc fa fc wn := by
 subst hb;have hbn := below_new hw;exact ⟨h.own.below hbn, h.n8, NotAt.new h.own, Nat.le_trans h.le hbn.size, h.lo⟩
structure Done1 (base L : Nat) (o8 o9 : Option Nat) (t : Store × Reply) (va : Option Addr) (vc : Nat) (fa : Option Addr) (fc : Nat) (ha : Option Addr) (wx : World) : Prop where
 own : RSt base wx t.1 va vc fa fc
 hits : RowsAt wx ha 4 HitR t.2.hits
 n8 : NotAt o8 t.1.flash.pages fa
 n9 : NotAt o9 t.1.flash.pages fa
 lo : L ≤ base
theorem Copied.done {base : Nat} {s : Store} {va fa va' fa' ha : Option Addr} {vc fc vc' fc' : Nat} {t : Store × Reply} (h : Copied base L o8 o9 s va vc fa fc wx) (hx : TwoBx L o8 o9 wx) (ho : RSt base wn t.1 va' vc' fa' fc') (hh : RowsAt wn ha 4 HitR t.2.hits)
  (hf : t.1.flash.pages ≠ [] → (fa' = fa ∧ s.flash.pages = t.1.flash.pages) ∨ ∀ a, fa' = some a → wx.heap.size ≤ a.block) : Done1 base L o8 o9 t va' vc' fa' fc' ha wn :=
 ⟨ho, hh, NotAt.on h.n8 hx.1 hf, NotAt.on h.n9 hx.2 hf, h.lo⟩
theorem Done1.new8 {base b : Nat} {t : Store × Reply} {va fa ha : Option Addr} {vc fc : Nat} {row : Obj} (h : Done1 base L none o9 t va vc fa fc ha wx) (hw : wn = wx.alloc row) (hb : b = wx.heap.size) : Done1 base L (some b) o9 t va vc fa fc ha wn := by
 subst hb;have hbn := below_new hw;exact ⟨h.own.below hbn, h.hits.keep (Below.keeps hbn) (fun _ _ h => h), NotAt.new h.own, h.n9, h.lo⟩
theorem Done1.new9 {base b : Nat} {t : Store × Reply} {va fa ha : Option Addr} {vc fc : Nat} {row : Obj} (h : Done1 base L o8 none t va vc fa fc ha wx) (hw : wn = wx.alloc row) (hb : b = wx.heap.size) : Done1 base L o8 (some b) t va vc fa fc ha wn := by
 subst hb;have hbn := below_new hw;exact ⟨h.own.below hbn, h.hits.keep (Below.keeps hbn) (fun _ _ h => h), h.n8, NotAt.new h.own, h.lo⟩
end
theorem shareE {T G : Prop} (h : (True → T) → G) (k : T) : G := h (fun _ => k)
def DoneIs (s : Store) (r : Req) : Prop := ∀ (base : Nat) (va fa ka : Option Addr) (vc fc kc : Nat) (w : World), RSt base w s va vc fa fc → base ≤ w.heap.size → (∀ w', Below base w w' → RowsAt w' ka 1 strR r.keys) →
 Calls Tryz.prog 33 #[.agg (storeV s va vc fa fc), .agg (reqV r ka kc)] w (DoneREnd base va fa s.flash.pages (doReq s r) w)
set_option maxRecDepth 100000 in
set_option maxHeartbeats 4000000 in
theorem ref_DoneOf (s : Store) (r : Req) (hd : s.ok = true → r.fault = 0 → s.uses ≤ 1099511627766 → DoneIs s r) (a fa ka : Option Addr) (c fc kc : Nat) (w : World) (hI : RowsAt w a 9 ItemR s.items) (hF : RowsAt w fa 2 (PageR w) s.flash.pages)
  (hn : s.items.length * 88 ≤ 140737488355328) (hfn : s.flash.pages.length * 32 ≤ 140737488355328) (hK : RowsAt w ka 1 strR r.keys) (hkl : r.keys.length ≤ 140737488355328) (hks : r.key.size ≤ 140737488355328) :
  Calls Tryz.prog 12 #[.agg (storeV s a c fa fc), .agg (reqV r ka kc)] w (DoneOfEnd (doOf s r) w) := by
 have HD := hid hd;have HI := hid hI;have HF := hid hF;have HK := hid hK;obtain ⟨W, hW, hb0, r2, r3, r4, r5⟩ := four_newR w (.cells (storeV s a c fa fc) 28) (.cells (reqV r ka kc) 31) (.cells storeZ 28) (.cells (replyCells Reply.zero none 0) 35);have hwz : w.heap.size + 4 ≤ W.heap.size := by have := (blt r5); omega
 go_enter Tryz.func12, Tryz.ntmps12
 go_upto_region 1 with (fail);rw [show (((w.alloc (.cells (storeV s a c fa fc) 28)).alloc (.cells (reqV r ka kc) 31)).alloc (.cells storeZ 28)).alloc (.cells #[.int .i64 0, .int .i64 0, .slice none 0 0] 35) = W from hW.symm];have R2 := hid r2;have R3 := hid r3;have R4 := hid r4;have R5 := hid r5;have HB0 := hid hb0;clear hd hI hF hK hW r2 r3 r4 r5 hb0
 go_wp2_with (first
  | refine wpList_load_row rfl 28 _ rfl w.heap.size rfl _ _ _ _ R2.out Tryz.underlying28 rfl (by kernel_rfl) ?_)
 refine (ref_StoreMay s a fa c fc W (HI.out.keep (Below.keeps HB0.out) (fun _ _ h => h)) (HF.out.keep (Below.keeps HB0.out) (PageR.keep (Below.keeps HB0.out))) (by omega) (by omega)).mono ?_;rintro e w1 ⟨rfl, hb1⟩;have S2 := hid ((hb1.block w.heap.size (by omega)).trans R2.out);have S3 := hid ((hb1.block (w.heap.size + 1) (by omega)).trans R3.out);have S4 := hid ((hb1.block (w.heap.size + 2) (by omega)).trans R4.out);have S5 := hid ((hb1.block (w.heap.size + 3) (by omega)).trans R5.out);have HB1 := hid (HB0.out.trans (hb1.mono HB0.out.size));have hw1 := hb1.size;clear hb1 R2 R3 R4 R5 HB0
 cases hok : s.ok with
 | false =>
  have HDO : Hid (doOf s r = (Store.zero, Reply.zero, 8)) := by show _ = _; unfold doOf; rw [if_pos hok]
  have R5' : (w1.setRow (w.heap.size + 2) storeZ).heap[w.heap.size + 3]? = some (.cells (replyCells Reply.zero none 0) 35 (0, 0)) := (setRow_other _ _ _ _ (by omega)).trans S5.out;have ZR : ((w1.setRow (w.heap.size + 2) storeZ).setRow (w.heap.size + 3) (replyCells Reply.zero none 0)).heap[w.heap.size + 3]? = some (.cells (replyCells Reply.zero none 0) 35 (0, 0)) := setRow_heap _ _ _ _ _ _ R5';have ZS : ((w1.setRow (w.heap.size + 2) storeZ).setRow (w.heap.size + 3) (replyCells Reply.zero none 0)).heap[w.heap.size + 2]? = some (.cells storeZ 28 (0, 0)) := by rw [setRow_other _ _ _ _ (by omega)]; exact setRow_heap _ _ _ _ _ _ S4.out
  go_wp2_with (first
   | refine wpList_store_row rfl 28 _ _ rfl (w.heap.size + 2) _ rfl rfl _ _ S4.out storeSize rfl (store_one Store.zero none none 0 0) ?_
   | refine wpList_store_row rfl 35 _ _ rfl (w.heap.size + 3) _ rfl rfl _ _ R5' replySize rfl (reply_one Reply.zero none 0) ?_)
  refine bodyPost_ret (v := .tuple #[.agg (storeV Store.zero none 0 none 0), .agg (replyCells Reply.zero none 0), .int .i64 8]) (resultsCCT rfl _ _ (w.heap.size + 2) (w.heap.size + 3) _ _ _ rfl rfl rfl (run_loadVar_row _ _ _ _ _ _ _ ZS Tryz.underlying28 rfl storeSize) (run_loadVar_row _ _ _ _ _ _ _ ZR Tryz.underlying35 rfl replySize)) rfl ?_;rw [HDO.out];exact doneOf_none ((HB1.out.trans (Below.setRow _ (w.heap.size + 2) _ (by omega))).trans (Below.setRow _ (w.heap.size + 3) _ (by omega)))
 | true =>
  have HS := hid ((ok_iff s).1 hok);have hno : ¬ s.ok = false := by rw [hok]; decide
  go_wp2_with (first
   | refine wpList_load_row rfl 31 _ rfl (w.heap.size + 1) rfl _ _ _ _ S3.out Tryz.underlying31 rfl (by kernel_rfl) ?_)
  refine (ref_RequestFault r ka kc w1 (HK.out.keep (Below.keeps HB1.out) (fun _ _ h => h)) (by omega) (by omega)).mono ?_;rintro e w2 ⟨rfl, hb2⟩;have T2 := hid ((hb2.block w.heap.size (by omega)).trans S2.out);have T3 := hid ((hb2.block (w.heap.size + 1) (by omega)).trans S3.out);have T4 := hid ((hb2.block (w.heap.size + 2) (by omega)).trans S4.out);have T5 := hid ((hb2.block (w.heap.size + 3) (by omega)).trans S5.out);have HB2 := hid (HB1.out.trans (hb2.mono HB1.out.size));have hw2 := hb2.size;clear hb2 S2 S3 S4 S5 HB1;have x2 : w2.cell? ⟨w.heap.size, 2, none⟩ = some (.int .i64 s.uses) := cor T2.out rfl;have hub := HS.out.uses;have hN : maxN = 1099511627776 := rfl;rw [hN] at hub;obtain ⟨fl, hfl⟩ : ∃ f, f = r.fault := ⟨_, rfl⟩;rw [← hfl];have HFL := hid hfl
  by_cases hf0 : fl = 0
  ·subst hf0
   by_cases hu : 1099511627766 < s.uses
   ·have hu2 : 1099511627776 < s.uses + 10 := by omega
    have HDO : Hid (doOf s r = (Store.zero, Reply.zero, 2)) := by show _ = _; unfold doOf; rw [if_neg hno, if_neg (by rw [← hfl]; decide), if_pos hu]
    clear hfl;have R5' : (w2.setRow (w.heap.size + 2) storeZ).heap[w.heap.size + 3]? = some (.cells (replyCells Reply.zero none 0) 35 (0, 0)) := (setRow_other _ _ _ _ (by omega)).trans T5.out;have ZR : ((w2.setRow (w.heap.size + 2) storeZ).setRow (w.heap.size + 3) (replyCells Reply.zero none 0)).heap[w.heap.size + 3]? = some (.cells (replyCells Reply.zero none 0) 35 (0, 0)) := setRow_heap _ _ _ _ _ _ R5';have ZS : ((w2.setRow (w.heap.size + 2) storeZ).setRow (w.heap.size + 3) (replyCells Reply.zero none 0)).heap[w.heap.size + 2]? = some (.cells storeZ 28 (0, 0)) := by rw [setRow_other _ _ _ _ (by omega)]; exact setRow_heap _ _ _ _ _ _ T4.out
    go_wp2_with (first
     | refine wpList_store_row rfl 28 _ _ rfl (w.heap.size + 2) _ rfl rfl _ _ T4.out storeSize rfl (store_one Store.zero none none 0 0) ?_
     | refine wpList_store_row rfl 35 _ _ rfl (w.heap.size + 3) _ rfl rfl _ _ R5' replySize rfl (reply_one Reply.zero none 0) ?_)
    refine bodyPost_ret (v := .tuple #[.agg (storeV Store.zero none 0 none 0), .agg (replyCells Reply.zero none 0), .int .i64 2]) (resultsCCT rfl _ _ (w.heap.size + 2) (w.heap.size + 3) _ _ _ rfl rfl rfl (run_loadVar_row _ _ _ _ _ _ _ ZS Tryz.underlying28 rfl storeSize) (run_loadVar_row _ _ _ _ _ _ _ ZR Tryz.underlying35 rfl replySize)) rfl ?_;rw [HDO.out];exact doneOf_none ((HB2.out.trans (Below.setRow _ (w.heap.size + 2) _ (by omega))).trans (Below.setRow _ (w.heap.size + 3) _ (by omega)))
   ·have hu2 : ¬ 1099511627776 < s.uses + 10 := by omega
    have HDO : Hid (doOf s r = ((doReq s r).1, (doReq s r).2, 0)) := by show _ = _; unfold doOf; rw [if_neg hno, if_neg (by rw [← hfl]; decide), if_neg hu]
    have HIS := hid (HD.out hok hfl.symm (by omega));clear hfl HD;go_upto_region 8 with (fail);obtain ⟨t, ht⟩ : ∃ t, t = doReq s r := ⟨_, rfl⟩;have HT := hid ht;rw [← ht] at HDO;clear x2 ht
    go_cut [8, 9] (fun p q wx => ∃ (b8 b9 base : Nat) (va' fva' ha : Option Addr) (vc' fvc' hc : Nat), p = .pointer (some ⟨b8, 0, none⟩) ∧ q = .pointer (some ⟨b9, 0, none⟩) ∧ Hid (wx.heap[b8]? = some (.cells (storeV t.1 va' vc' fva' fvc') 28 (0, 0))) ∧ Hid (wx.heap[b9]? = some (.cells (replyCells t.2 ha hc) 35 (0, 0))) ∧ Hid (wx.heap[w.heap.size + 2]? = some (.cells storeZ 28 (0, 0))) ∧ Hid (wx.heap[w.heap.size + 3]? = some (.cells (replyCells Reply.zero none 0) 35 (0, 0))) ∧ Hid (RSt base wx t.1 va' vc' fva' fvc') ∧ Hid (RowsAt wx ha 4 HitR t.2.hits) ∧ Hid (Below w.heap.size w wx) ∧ w.heap.size + 4 ≤ b8 ∧ w.heap.size + 4 ≤ b9 ∧ w.heap.size + 4 ≤ base)
    case first =>
     obtain ⟨L, hL⟩ : ∃ L, L = w2.heap.size := ⟨_, rfl⟩;have HLL := hid hL;have hwL : w.heap.size + 4 ≤ L := by omega
     clear hL;refine wp_region_L (fun w' : World => Below w2.heap.size w2 w') 10 11 (by kernel_rfl) (by kernel_rfl) (Below.refl _ _).drew (fun hHeld => ?_);refine wpAnyL_take (i := 0) (v := _) rfl (by kernel_rfl) (fun _ _ _ h => h) (Or.inl ⟨by rfl, fun wS hSw => exec_load_row 28 _ rfl (w.heap.size) rfl _ _ _ _ ((hSw.block w.heap.size (by have := HLL.out; omega)).trans T2.out) Tryz.underlying28 rfl (by kernel_rfl)⟩) (by assumption) ?_;walk_nrm;refine wpAnyL_take (i := 2) (v := _) rfl (by kernel_rfl) (fun _ _ _ h => h) (Or.inl ⟨by rfl, fun wS hSw => exec_load_row 31 _ rfl (w.heap.size + 1) rfl _ _ _ _ ((hSw.block (w.heap.size + 1) (by have := HLL.out; omega)).trans T3.out) Tryz.underlying31 rfl (by kernel_rfl)⟩) (by assumption) ?_;walk_nrm;obtain ⟨wx, hwx⟩ : ∃ wx, wx = w2.drew := ⟨_, rfl⟩;rw [← hwx] at hHeld ⊢;have hzx : L ≤ wx.heap.size := by have := hHeld.size; have := HLL.out; omega
     have HX : Hid (TwoBx L none none wx) := ⟨Bx.none, Bx.none⟩;clear hwx hw2;apply shareE
     ·
      intro key;have hHeld := hHeld;have hzx := hzx;have HX := HX;refine wpAnyL_three 1 7 8 (by kernel_rfl) ?_ ?_ ?_
      ·refine ComesUp.mk rfl (fun K hK => ?_)
       go_simp;refine (ref_StoreCopy s a fa c fc wx (HI.out.keep (Below.keeps (HB2.out.trans (hHeld.mono (by have := HLL.out; omega)))) (fun _ _ h => h)) (HF.out.keep (Below.keeps (HB2.out.trans (hHeld.mono (by have := HLL.out; omega)))) (PageR.keep (Below.keeps (HB2.out.trans (hHeld.mono (by have := HLL.out; omega)))))) hn hfn).mono ?_;rintro e wn ⟨va, vc, fva, fvc, vs, rfl, hi3, hf3, hbn⟩;obtain ⟨base, hbase⟩ : ∃ b, b = wx.heap.size := ⟨_, rfl⟩;have HO := hid (Copied.of hbase (HS.out.at hi3 hf3) HX.out hbn hzx);replace HX := hid (HX.out.below hbn);have S5 := hHeld.trans (hbn.mono (by have := HLL.out; omega));have hzn : L ≤ wn.heap.size := by have := hbn.size; omega
       refine hK.out _ _ S5 ?_;clear hK K hHeld hbn S5 hzx hbase hi3 hf3;intro hHeld;walk_nrm
       try clear wx
       obtain ⟨wx, rfl⟩ := wld wn;have hzx := hzn;clear hzn;refine wpAnyL_three 3 7 8 (by kernel_rfl) ?_ ?_ ?_
       ·refine ComesUp.mk rfl (fun K hK => ?_)
        go_simp;have hdn := HIS.out base va fva ka vc fvc kc wx HO.out.own HO.out.le (fun w' hb' => HK.out.keep (Below.keeps ((HB2.out.trans (hHeld.mono (by have := HLL.out; omega))).trans (hb'.mono (by have := HO.out.lo; omega)))) (fun _ _ h => h));rw [← HT.out] at hdn;refine hdn.mono ?_;clear hdn;rintro e wn ⟨va', vc', fva', fvc', ha, hc, rfl, hon, hhn, hvn, hbn, hfn⟩;have HP := hid (HO.out.done HX.out hon hhn hfn);replace HX := hid (HX.out.butV hvn HO.out.own);have S5 := hHeld.trans (hbn.mono (by have := HLL.out; have := HO.out.lo; omega));have hzn : L ≤ wn.heap.size := by have := hbn.size; omega
        refine hK.out _ _ S5 ?_;clear hK K hHeld hbn S5 hzx hon hhn hvn hfn HO;intro hHeld;walk_nrm;refine tk 4 ?_ rfl (fun _ _ _ h=>h) (y:=?_) (h:=?_);rotate_left
        ·intro wS hSw; go_simp<;>with_reducible rfl
        walk_nrm;refine tk 5 ?_ rfl (fun _ _ _ h=>h) (y:=?_) (h:=?_);rotate_left
        ·intro wS hSw; go_simp<;>with_reducible rfl
        walk_nrm;refine tk 6 ?_ rfl (fun _ _ _ h=>h) (y:=?_) (h:=?_);rotate_left
        ·intro wS hSw; go_simp<;>with_reducible rfl
        walk_nrm
        try clear wx
        obtain ⟨wx, rfl⟩ := wld wn;have hzx := hzn;clear hzn;refine wpAnyL_two 7 8 (by kernel_rfl) ?_ ?_
        ·refine ComesUp.mk rfl (fun K hK => ?_)
         go_simp;obtain ⟨wn, hwn⟩ : ∃ wn, wn = wx.alloc (.cells storeZ 28) := ⟨_, rfl⟩;obtain ⟨b8, hb8⟩ : ∃ b, b = wx.heap.size := ⟨_, rfl⟩;rw [← hwn, ← hb8];have hbn := below_new hwn;replace HX := hid (HX.out.new8 hwn hb8 hzx)
         try replace HO := hid (HO.out.new8 hwn hb8)
         try replace HP := hid (HP.out.new8 hwn hb8)
         have S5 := hHeld.trans (hbn.mono (by have := HLL.out; omega));have hzn : L ≤ wn.heap.size := by have := hbn.size; omega
         refine hK.out _ _ S5 ?_;clear hK K hHeld hbn S5 hzx hwn hb8;intro hHeld;walk_nrm
         try clear wx
         obtain ⟨wx, rfl⟩ := wld wn;have hzx := hzn;clear hzn;refine wpAnyL_one 8 (by kernel_rfl) ?_
         ·refine ComesUp.mk rfl (fun K hK => ?_)
          go_simp;obtain ⟨wn, hwn⟩ : ∃ wn, wn = wx.alloc (.cells #[.int .i64 0, .int .i64 0, .slice none 0 0] 35) := ⟨_, rfl⟩;obtain ⟨b9, hb9⟩ : ∃ b, b = wx.heap.size := ⟨_, rfl⟩;rw [← hwn, ← hb9];have hbn := below_new hwn;replace HX := hid (HX.out.new9 hwn hb9 hzx)
          try replace HO := hid (HO.out.new9 hwn hb9)
          try replace HP := hid (HP.out.new9 hwn hb9)
          have S5 := hHeld.trans (hbn.mono (by have := HLL.out; omega));have hzn : L ≤ wn.heap.size := by have := hbn.size; omega
          refine hK.out _ _ S5 ?_;clear hK K hHeld hbn S5 hzx hwn hb9;intro hHeld;walk_nrm
          try clear wx
          obtain ⟨wx, rfl⟩ := wld wn;have hzx := hzn;clear hzn;revert hHeld;revert hzx;revert HX;revert HP;revert fvc;revert vc;revert fva;revert va;revert hc;revert fvc';revert vc';revert ha;revert fva';revert va';revert base;revert b9;revert b8;revert wx;exact key trivial
        ·refine ComesUp.mk rfl (fun K hK => ?_)
         go_simp;obtain ⟨wn, hwn⟩ : ∃ wn, wn = wx.alloc (.cells #[.int .i64 0, .int .i64 0, .slice none 0 0] 35) := ⟨_, rfl⟩;obtain ⟨b9, hb9⟩ : ∃ b, b = wx.heap.size := ⟨_, rfl⟩;rw [← hwn, ← hb9];have hbn := below_new hwn;replace HX := hid (HX.out.new9 hwn hb9 hzx)
         try replace HO := hid (HO.out.new9 hwn hb9)
         try replace HP := hid (HP.out.new9 hwn hb9)
         have S5 := hHeld.trans (hbn.mono (by have := HLL.out; omega));have hzn : L ≤ wn.heap.size := by have := hbn.size; omega
         refine hK.out _ _ S5 ?_;clear hK K hHeld hbn S5 hzx hwn hb9;intro hHeld;walk_nrm
         try clear wx
         obtain ⟨wx, rfl⟩ := wld wn;have hzx := hzn;clear hzn;refine wpAnyL_one 7 (by kernel_rfl) ?_
         ·refine ComesUp.mk rfl (fun K hK => ?_)
          go_simp;obtain ⟨wn, hwn⟩ : ∃ wn, wn = wx.alloc (.cells storeZ 28) := ⟨_, rfl⟩;obtain ⟨b8, hb8⟩ : ∃ b, b = wx.heap.size := ⟨_, rfl⟩;rw [← hwn, ← hb8];have hbn := below_new hwn;replace HX := hid (HX.out.new8 hwn hb8 hzx)
          try replace HO := hid (HO.out.new8 hwn hb8)
          try replace HP := hid (HP.out.new8 hwn hb8)
          have S5 := hHeld.trans (hbn.mono (by have := HLL.out; omega));have hzn : L ≤ wn.heap.size := by have := hbn.size; omega
          refine hK.out _ _ S5 ?_;clear hK K hHeld hbn S5 hzx hwn hb8;intro hHeld;walk_nrm
          try clear wx
          obtain ⟨wx, rfl⟩ := wld wn;have hzx := hzn;clear hzn;revert hHeld;revert hzx;revert HX;revert HP;revert fvc;revert vc;revert fva;revert va;revert hc;revert fvc';revert vc';revert ha;revert fva';revert va';revert base;revert b9;revert b8;revert wx;exact key trivial
       ·refine ComesUp.mk rfl (fun K hK => ?_)
        go_simp;obtain ⟨wn, hwn⟩ : ∃ wn, wn = wx.alloc (.cells storeZ 28) := ⟨_, rfl⟩;obtain ⟨b8, hb8⟩ : ∃ b, b = wx.heap.size := ⟨_, rfl⟩;rw [← hwn, ← hb8];have hbn := below_new hwn;replace HX := hid (HX.out.new8 hwn hb8 hzx)
        try replace HO := hid (HO.out.new8 hwn hb8)
        try replace HP := hid (HP.out.new8 hwn hb8)
        have S5 := hHeld.trans (hbn.mono (by have := HLL.out; omega));have hzn : L ≤ wn.heap.size := by have := hbn.size; omega
        refine hK.out _ _ S5 ?_;clear hK K hHeld hbn S5 hzx hwn hb8;intro hHeld;walk_nrm
        try clear wx
        obtain ⟨wx, rfl⟩ := wld wn;have hzx := hzn;clear hzn;refine wpAnyL_two 3 8 (by kernel_rfl) ?_ ?_
        ·refine ComesUp.mk rfl (fun K hK => ?_)
         go_simp;have hdn := HIS.out base va fva ka vc fvc kc wx HO.out.own HO.out.le (fun w' hb' => HK.out.keep (Below.keeps ((HB2.out.trans (hHeld.mono (by have := HLL.out; omega))).trans (hb'.mono (by have := HO.out.lo; omega)))) (fun _ _ h => h));rw [← HT.out] at hdn;refine hdn.mono ?_;clear hdn;rintro e wn ⟨va', vc', fva', fvc', ha, hc, rfl, hon, hhn, hvn, hbn, hfn⟩;have HP := hid (HO.out.done HX.out hon hhn hfn);replace HX := hid (HX.out.butV hvn HO.out.own);have S5 := hHeld.trans (hbn.mono (by have := HLL.out; have := HO.out.lo; omega));have hzn : L ≤ wn.heap.size := by have := hbn.size; omega
         refine hK.out _ _ S5 ?_;clear hK K hHeld hbn S5 hzx hon hhn hvn hfn HO;intro hHeld;walk_nrm;refine tk 4 ?_ rfl (fun _ _ _ h=>h) (y:=?_) (h:=?_);rotate_left
         ·intro wS hSw; go_simp<;>with_reducible rfl
         walk_nrm;refine tk 5 ?_ rfl (fun _ _ _ h=>h) (y:=?_) (h:=?_);rotate_left
         ·intro wS hSw; go_simp<;>with_reducible rfl
         walk_nrm;refine tk 6 ?_ rfl (fun _ _ _ h=>h) (y:=?_) (h:=?_);rotate_left
         ·intro wS hSw; go_simp<;>with_reducible rfl
         walk_nrm
         try clear wx
         obtain ⟨wx, rfl⟩ := wld wn;have hzx := hzn;clear hzn;refine wpAnyL_one 8 (by kernel_rfl) ?_
         ·refine ComesUp.mk rfl (fun K hK => ?_)
          go_simp;obtain ⟨wn, hwn⟩ : ∃ wn, wn = wx.alloc (.cells #[.int .i64 0, .int .i64 0, .slice none 0 0] 35) := ⟨_, rfl⟩;obtain ⟨b9, hb9⟩ : ∃ b, b = wx.heap.size := ⟨_, rfl⟩;rw [← hwn, ← hb9];have hbn := below_new hwn;replace HX := hid (HX.out.new9 hwn hb9 hzx)
          try replace HO := hid (HO.out.new9 hwn hb9)
          try replace HP := hid (HP.out.new9 hwn hb9)
          have S5 := hHeld.trans (hbn.mono (by have := HLL.out; omega));have hzn : L ≤ wn.heap.size := by have := hbn.size; omega
          refine hK.out _ _ S5 ?_;clear hK K hHeld hbn S5 hzx hwn hb9;intro hHeld;walk_nrm
          try clear wx
          obtain ⟨wx, rfl⟩ := wld wn;have hzx := hzn;clear hzn;revert hHeld;revert hzx;revert HX;revert HP;revert fvc;revert vc;revert fva;revert va;revert hc;revert fvc';revert vc';revert ha;revert fva';revert va';revert base;revert b9;revert b8;revert wx;exact key trivial
        ·refine ComesUp.mk rfl (fun K hK => ?_)
         go_simp;obtain ⟨wn, hwn⟩ : ∃ wn, wn = wx.alloc (.cells #[.int .i64 0, .int .i64 0, .slice none 0 0] 35) := ⟨_, rfl⟩;obtain ⟨b9, hb9⟩ : ∃ b, b = wx.heap.size := ⟨_, rfl⟩;rw [← hwn, ← hb9];have hbn := below_new hwn;replace HX := hid (HX.out.new9 hwn hb9 hzx)
         try replace HO := hid (HO.out.new9 hwn hb9)
         try replace HP := hid (HP.out.new9 hwn hb9)
         have S5 := hHeld.trans (hbn.mono (by have := HLL.out; omega));have hzn : L ≤ wn.heap.size := by have := hbn.size; omega
         refine hK.out _ _ S5 ?_;clear hK K hHeld hbn S5 hzx hwn hb9;intro hHeld;walk_nrm
         try clear wx
         obtain ⟨wx, rfl⟩ := wld wn;have hzx := hzn;clear hzn;refine wpAnyL_one 3 (by kernel_rfl) ?_
         ·refine ComesUp.mk rfl (fun K hK => ?_)
          go_simp;have hdn := HIS.out base va fva ka vc fvc kc wx HO.out.own HO.out.le (fun w' hb' => HK.out.keep (Below.keeps ((HB2.out.trans (hHeld.mono (by have := HLL.out; omega))).trans (hb'.mono (by have := HO.out.lo; omega)))) (fun _ _ h => h));rw [← HT.out] at hdn;refine hdn.mono ?_;clear hdn;rintro e wn ⟨va', vc', fva', fvc', ha, hc, rfl, hon, hhn, hvn, hbn, hfn⟩;have HP := hid (HO.out.done HX.out hon hhn hfn);replace HX := hid (HX.out.butV hvn HO.out.own);have S5 := hHeld.trans (hbn.mono (by have := HLL.out; have := HO.out.lo; omega));have hzn : L ≤ wn.heap.size := by have := hbn.size; omega
          refine hK.out _ _ S5 ?_;clear hK K hHeld hbn S5 hzx hon hhn hvn hfn HO;intro hHeld;walk_nrm;refine tk 4 ?_ rfl (fun _ _ _ h=>h) (y:=?_) (h:=?_);rotate_left
          ·intro wS hSw; go_simp<;>with_reducible rfl
          walk_nrm;refine tk 5 ?_ rfl (fun _ _ _ h=>h) (y:=?_) (h:=?_);rotate_left
          ·intro wS hSw; go_simp<;>with_reducible rfl
          walk_nrm;refine tk 6 ?_ rfl (fun _ _ _ h=>h) (y:=?_) (h:=?_);rotate_left
          ·intro wS hSw; go_simp<;>with_reducible rfl
          walk_nrm
          try clear wx
          obtain ⟨wx, rfl⟩ := wld wn;have hzx := hzn;clear hzn;revert hHeld;revert hzx;revert HX;revert HP;revert fvc;revert vc;revert fva;revert va;revert hc;revert fvc';revert vc';revert ha;revert fva';revert va';revert base;revert b9;revert b8;revert wx;exact key trivial
       ·refine ComesUp.mk rfl (fun K hK => ?_)
        go_simp;obtain ⟨wn, hwn⟩ : ∃ wn, wn = wx.alloc (.cells #[.int .i64 0, .int .i64 0, .slice none 0 0] 35) := ⟨_, rfl⟩;obtain ⟨b9, hb9⟩ : ∃ b, b = wx.heap.size := ⟨_, rfl⟩;rw [← hwn, ← hb9];have hbn := below_new hwn;replace HX := hid (HX.out.new9 hwn hb9 hzx)
        try replace HO := hid (HO.out.new9 hwn hb9)
        try replace HP := hid (HP.out.new9 hwn hb9)
        have S5 := hHeld.trans (hbn.mono (by have := HLL.out; omega));have hzn : L ≤ wn.heap.size := by have := hbn.size; omega
        refine hK.out _ _ S5 ?_;clear hK K hHeld hbn S5 hzx hwn hb9;intro hHeld;walk_nrm
        try clear wx
        obtain ⟨wx, rfl⟩ := wld wn;have hzx := hzn;clear hzn;refine wpAnyL_two 3 7 (by kernel_rfl) ?_ ?_
        ·refine ComesUp.mk rfl (fun K hK => ?_)
         go_simp;have hdn := HIS.out base va fva ka vc fvc kc wx HO.out.own HO.out.le (fun w' hb' => HK.out.keep (Below.keeps ((HB2.out.trans (hHeld.mono (by have := HLL.out; omega))).trans (hb'.mono (by have := HO.out.lo; omega)))) (fun _ _ h => h));rw [← HT.out] at hdn;refine hdn.mono ?_;clear hdn;rintro e wn ⟨va', vc', fva', fvc', ha, hc, rfl, hon, hhn, hvn, hbn, hfn⟩;have HP := hid (HO.out.done HX.out hon hhn hfn);replace HX := hid (HX.out.butV hvn HO.out.own);have S5 := hHeld.trans (hbn.mono (by have := HLL.out; have := HO.out.lo; omega));have hzn : L ≤ wn.heap.size := by have := hbn.size; omega
         refine hK.out _ _ S5 ?_;clear hK K hHeld hbn S5 hzx hon hhn hvn hfn HO;intro hHeld;walk_nrm;refine tk 4 ?_ rfl (fun _ _ _ h=>h) (y:=?_) (h:=?_);rotate_left
         ·intro wS hSw; go_simp<;>with_reducible rfl
         walk_nrm;refine tk 5 ?_ rfl (fun _ _ _ h=>h) (y:=?_) (h:=?_);rotate_left
         ·intro wS hSw; go_simp<;>with_reducible rfl
         walk_nrm;refine tk 6 ?_ rfl (fun _ _ _ h=>h) (y:=?_) (h:=?_);rotate_left
         ·intro wS hSw; go_simp<;>with_reducible rfl
         walk_nrm
         try clear wx
         obtain ⟨wx, rfl⟩ := wld wn;have hzx := hzn;clear hzn;refine wpAnyL_one 7 (by kernel_rfl) ?_
         ·refine ComesUp.mk rfl (fun K hK => ?_)
          go_simp;obtain ⟨wn, hwn⟩ : ∃ wn, wn = wx.alloc (.cells storeZ 28) := ⟨_, rfl⟩;obtain ⟨b8, hb8⟩ : ∃ b, b = wx.heap.size := ⟨_, rfl⟩;rw [← hwn, ← hb8];have hbn := below_new hwn;replace HX := hid (HX.out.new8 hwn hb8 hzx)
          try replace HO := hid (HO.out.new8 hwn hb8)
          try replace HP := hid (HP.out.new8 hwn hb8)
          have S5 := hHeld.trans (hbn.mono (by have := HLL.out; omega));have hzn : L ≤ wn.heap.size := by have := hbn.size; omega
          refine hK.out _ _ S5 ?_;clear hK K hHeld hbn S5 hzx hwn hb8;intro hHeld;walk_nrm
          try clear wx
          obtain ⟨wx, rfl⟩ := wld wn;have hzx := hzn;clear hzn;revert hHeld;revert hzx;revert HX;revert HP;revert fvc;revert vc;revert fva;revert va;revert hc;revert fvc';revert vc';revert ha;revert fva';revert va';revert base;revert b9;revert b8;revert wx;exact key trivial
        ·refine ComesUp.mk rfl (fun K hK => ?_)
         go_simp;obtain ⟨wn, hwn⟩ : ∃ wn, wn = wx.alloc (.cells storeZ 28) := ⟨_, rfl⟩;obtain ⟨b8, hb8⟩ : ∃ b, b = wx.heap.size := ⟨_, rfl⟩;rw [← hwn, ← hb8];have hbn := below_new hwn;replace HX := hid (HX.out.new8 hwn hb8 hzx)
         try replace HO := hid (HO.out.new8 hwn hb8)
         try replace HP := hid (HP.out.new8 hwn hb8)
         have S5 := hHeld.trans (hbn.mono (by have := HLL.out; omega));have hzn : L ≤ wn.heap.size := by have := hbn.size; omega
         refine hK.out _ _ S5 ?_;clear hK K hHeld hbn S5 hzx hwn hb8;intro hHeld;walk_nrm
         try clear wx
         obtain ⟨wx, rfl⟩ := wld wn;have hzx := hzn;clear hzn;refine wpAnyL_one 3 (by kernel_rfl) ?_
         ·refine ComesUp.mk rfl (fun K hK => ?_)
          go_simp;have hdn := HIS.out base va fva ka vc fvc kc wx HO.out.own HO.out.le (fun w' hb' => HK.out.keep (Below.keeps ((HB2.out.trans (hHeld.mono (by have := HLL.out; omega))).trans (hb'.mono (by have := HO.out.lo; omega)))) (fun _ _ h => h));rw [← HT.out] at hdn;refine hdn.mono ?_;clear hdn;rintro e wn ⟨va', vc', fva', fvc', ha, hc, rfl, hon, hhn, hvn, hbn, hfn⟩;have HP := hid (HO.out.done HX.out hon hhn hfn);replace HX := hid (HX.out.butV hvn HO.out.own);have S5 := hHeld.trans (hbn.mono (by have := HLL.out; have := HO.out.lo; omega));have hzn : L ≤ wn.heap.size := by have := hbn.size; omega
          refine hK.out _ _ S5 ?_;clear hK K hHeld hbn S5 hzx hon hhn hvn hfn HO;intro hHeld;walk_nrm;refine tk 4 ?_ rfl (fun _ _ _ h=>h) (y:=?_) (h:=?_);rotate_left
          ·intro wS hSw; go_simp<;>with_reducible rfl
          walk_nrm;refine tk 5 ?_ rfl (fun _ _ _ h=>h) (y:=?_) (h:=?_);rotate_left
          ·intro wS hSw; go_simp<;>with_reducible rfl
          walk_nrm;refine tk 6 ?_ rfl (fun _ _ _ h=>h) (y:=?_) (h:=?_);rotate_left
          ·intro wS hSw; go_simp<;>with_reducible rfl
          walk_nrm
          try clear wx
          obtain ⟨wx, rfl⟩ := wld wn;have hzx := hzn;clear hzn;revert hHeld;revert hzx;revert HX;revert HP;revert fvc;revert vc;revert fva;revert va;revert hc;revert fvc';revert vc';revert ha;revert fva';revert va';revert base;revert b9;revert b8;revert wx;exact key trivial
      ·refine ComesUp.mk rfl (fun K hK => ?_)
       go_simp;obtain ⟨wn, hwn⟩ : ∃ wn, wn = wx.alloc (.cells storeZ 28) := ⟨_, rfl⟩;obtain ⟨b8, hb8⟩ : ∃ b, b = wx.heap.size := ⟨_, rfl⟩;rw [← hwn, ← hb8];have hbn := below_new hwn;replace HX := hid (HX.out.new8 hwn hb8 hzx)
       try replace HO := hid (HO.out.new8 hwn hb8)
       try replace HP := hid (HP.out.new8 hwn hb8)
       have S5 := hHeld.trans (hbn.mono (by have := HLL.out; omega));have hzn : L ≤ wn.heap.size := by have := hbn.size; omega
       refine hK.out _ _ S5 ?_;clear hK K hHeld hbn S5 hzx hwn hb8;intro hHeld;walk_nrm
       try clear wx
       obtain ⟨wx, rfl⟩ := wld wn;have hzx := hzn;clear hzn;refine wpAnyL_two 1 8 (by kernel_rfl) ?_ ?_
       ·refine ComesUp.mk rfl (fun K hK => ?_)
        go_simp;refine (ref_StoreCopy s a fa c fc wx (HI.out.keep (Below.keeps (HB2.out.trans (hHeld.mono (by have := HLL.out; omega)))) (fun _ _ h => h)) (HF.out.keep (Below.keeps (HB2.out.trans (hHeld.mono (by have := HLL.out; omega)))) (PageR.keep (Below.keeps (HB2.out.trans (hHeld.mono (by have := HLL.out; omega)))))) hn hfn).mono ?_;rintro e wn ⟨va, vc, fva, fvc, vs, rfl, hi3, hf3, hbn⟩;obtain ⟨base, hbase⟩ : ∃ b, b = wx.heap.size := ⟨_, rfl⟩;have HO := hid (Copied.of hbase (HS.out.at hi3 hf3) HX.out hbn hzx);replace HX := hid (HX.out.below hbn);have S5 := hHeld.trans (hbn.mono (by have := HLL.out; omega));have hzn : L ≤ wn.heap.size := by have := hbn.size; omega
        refine hK.out _ _ S5 ?_;clear hK K hHeld hbn S5 hzx hbase hi3 hf3;intro hHeld;walk_nrm
        try clear wx
        obtain ⟨wx, rfl⟩ := wld wn;have hzx := hzn;clear hzn;refine wpAnyL_two 3 8 (by kernel_rfl) ?_ ?_
        ·refine ComesUp.mk rfl (fun K hK => ?_)
         go_simp;have hdn := HIS.out base va fva ka vc fvc kc wx HO.out.own HO.out.le (fun w' hb' => HK.out.keep (Below.keeps ((HB2.out.trans (hHeld.mono (by have := HLL.out; omega))).trans (hb'.mono (by have := HO.out.lo; omega)))) (fun _ _ h => h));rw [← HT.out] at hdn;refine hdn.mono ?_;clear hdn;rintro e wn ⟨va', vc', fva', fvc', ha, hc, rfl, hon, hhn, hvn, hbn, hfn⟩;have HP := hid (HO.out.done HX.out hon hhn hfn);replace HX := hid (HX.out.butV hvn HO.out.own);have S5 := hHeld.trans (hbn.mono (by have := HLL.out; have := HO.out.lo; omega));have hzn : L ≤ wn.heap.size := by have := hbn.size; omega
         refine hK.out _ _ S5 ?_;clear hK K hHeld hbn S5 hzx hon hhn hvn hfn HO;intro hHeld;walk_nrm;refine tk 4 ?_ rfl (fun _ _ _ h=>h) (y:=?_) (h:=?_);rotate_left
         ·intro wS hSw; go_simp<;>with_reducible rfl
         walk_nrm;refine tk 5 ?_ rfl (fun _ _ _ h=>h) (y:=?_) (h:=?_);rotate_left
         ·intro wS hSw; go_simp<;>with_reducible rfl
         walk_nrm;refine tk 6 ?_ rfl (fun _ _ _ h=>h) (y:=?_) (h:=?_);rotate_left
         ·intro wS hSw; go_simp<;>with_reducible rfl
         walk_nrm
         try clear wx
         obtain ⟨wx, rfl⟩ := wld wn;have hzx := hzn;clear hzn;refine wpAnyL_one 8 (by kernel_rfl) ?_
         ·refine ComesUp.mk rfl (fun K hK => ?_)
          go_simp;obtain ⟨wn, hwn⟩ : ∃ wn, wn = wx.alloc (.cells #[.int .i64 0, .int .i64 0, .slice none 0 0] 35) := ⟨_, rfl⟩;obtain ⟨b9, hb9⟩ : ∃ b, b = wx.heap.size := ⟨_, rfl⟩;rw [← hwn, ← hb9];have hbn := below_new hwn;replace HX := hid (HX.out.new9 hwn hb9 hzx)
          try replace HO := hid (HO.out.new9 hwn hb9)
          try replace HP := hid (HP.out.new9 hwn hb9)
          have S5 := hHeld.trans (hbn.mono (by have := HLL.out; omega));have hzn : L ≤ wn.heap.size := by have := hbn.size; omega
          refine hK.out _ _ S5 ?_;clear hK K hHeld hbn S5 hzx hwn hb9;intro hHeld;walk_nrm
          try clear wx
          obtain ⟨wx, rfl⟩ := wld wn;have hzx := hzn;clear hzn;revert hHeld;revert hzx;revert HX;revert HP;revert fvc;revert vc;revert fva;revert va;revert hc;revert fvc';revert vc';revert ha;revert fva';revert va';revert base;revert b9;revert b8;revert wx;exact key trivial
        ·refine ComesUp.mk rfl (fun K hK => ?_)
         go_simp;obtain ⟨wn, hwn⟩ : ∃ wn, wn = wx.alloc (.cells #[.int .i64 0, .int .i64 0, .slice none 0 0] 35) := ⟨_, rfl⟩;obtain ⟨b9, hb9⟩ : ∃ b, b = wx.heap.size := ⟨_, rfl⟩;rw [← hwn, ← hb9];have hbn := below_new hwn;replace HX := hid (HX.out.new9 hwn hb9 hzx)
         try replace HO := hid (HO.out.new9 hwn hb9)
         try replace HP := hid (HP.out.new9 hwn hb9)
         have S5 := hHeld.trans (hbn.mono (by have := HLL.out; omega));have hzn : L ≤ wn.heap.size := by have := hbn.size; omega
         refine hK.out _ _ S5 ?_;clear hK K hHeld hbn S5 hzx hwn hb9;intro hHeld;walk_nrm
         try clear wx
         obtain ⟨wx, rfl⟩ := wld wn;have hzx := hzn;clear hzn;refine wpAnyL_one 3 (by kernel_rfl) ?_
         ·refine ComesUp.mk rfl (fun K hK => ?_)
          go_simp;have hdn := HIS.out base va fva ka vc fvc kc wx HO.out.own HO.out.le (fun w' hb' => HK.out.keep (Below.keeps ((HB2.out.trans (hHeld.mono (by have := HLL.out; omega))).trans (hb'.mono (by have := HO.out.lo; omega)))) (fun _ _ h => h));rw [← HT.out] at hdn;refine hdn.mono ?_;clear hdn;rintro e wn ⟨va', vc', fva', fvc', ha, hc, rfl, hon, hhn, hvn, hbn, hfn⟩;have HP := hid (HO.out.done HX.out hon hhn hfn);replace HX := hid (HX.out.butV hvn HO.out.own);have S5 := hHeld.trans (hbn.mono (by have := HLL.out; have := HO.out.lo; omega));have hzn : L ≤ wn.heap.size := by have := hbn.size; omega
          refine hK.out _ _ S5 ?_;clear hK K hHeld hbn S5 hzx hon hhn hvn hfn HO;intro hHeld;walk_nrm;refine tk 4 ?_ rfl (fun _ _ _ h=>h) (y:=?_) (h:=?_);rotate_left
          ·intro wS hSw; go_simp<;>with_reducible rfl
          walk_nrm;refine tk 5 ?_ rfl (fun _ _ _ h=>h) (y:=?_) (h:=?_);rotate_left
          ·intro wS hSw; go_simp<;>with_reducible rfl
          walk_nrm;refine tk 6 ?_ rfl (fun _ _ _ h=>h) (y:=?_) (h:=?_);rotate_left
          ·intro wS hSw; go_simp<;>with_reducible rfl
          walk_nrm
          try clear wx
          obtain ⟨wx, rfl⟩ := wld wn;have hzx := hzn;clear hzn;revert hHeld;revert hzx;revert HX;revert HP;revert fvc;revert vc;revert fva;revert va;revert hc;revert fvc';revert vc';revert ha;revert fva';revert va';revert base;revert b9;revert b8;revert wx;exact key trivial
       ·refine ComesUp.mk rfl (fun K hK => ?_)
        go_simp;obtain ⟨wn, hwn⟩ : ∃ wn, wn = wx.alloc (.cells #[.int .i64 0, .int .i64 0, .slice none 0 0] 35) := ⟨_, rfl⟩;obtain ⟨b9, hb9⟩ : ∃ b, b = wx.heap.size := ⟨_, rfl⟩;rw [← hwn, ← hb9];have hbn := below_new hwn;replace HX := hid (HX.out.new9 hwn hb9 hzx)
        try replace HO := hid (HO.out.new9 hwn hb9)
        try replace HP := hid (HP.out.new9 hwn hb9)
        have S5 := hHeld.trans (hbn.mono (by have := HLL.out; omega));have hzn : L ≤ wn.heap.size := by have := hbn.size; omega
        refine hK.out _ _ S5 ?_;clear hK K hHeld hbn S5 hzx hwn hb9;intro hHeld;walk_nrm
        try clear wx
        obtain ⟨wx, rfl⟩ := wld wn;have hzx := hzn;clear hzn;refine wpAnyL_one 1 (by kernel_rfl) ?_
        ·refine ComesUp.mk rfl (fun K hK => ?_)
         go_simp;refine (ref_StoreCopy s a fa c fc wx (HI.out.keep (Below.keeps (HB2.out.trans (hHeld.mono (by have := HLL.out; omega)))) (fun _ _ h => h)) (HF.out.keep (Below.keeps (HB2.out.trans (hHeld.mono (by have := HLL.out; omega)))) (PageR.keep (Below.keeps (HB2.out.trans (hHeld.mono (by have := HLL.out; omega)))))) hn hfn).mono ?_;rintro e wn ⟨va, vc, fva, fvc, vs, rfl, hi3, hf3, hbn⟩;obtain ⟨base, hbase⟩ : ∃ b, b = wx.heap.size := ⟨_, rfl⟩;have HO := hid (Copied.of hbase (HS.out.at hi3 hf3) HX.out hbn hzx);replace HX := hid (HX.out.below hbn);have S5 := hHeld.trans (hbn.mono (by have := HLL.out; omega));have hzn : L ≤ wn.heap.size := by have := hbn.size; omega
         refine hK.out _ _ S5 ?_;clear hK K hHeld hbn S5 hzx hbase hi3 hf3;intro hHeld;walk_nrm
         try clear wx
         obtain ⟨wx, rfl⟩ := wld wn;have hzx := hzn;clear hzn;refine wpAnyL_one 3 (by kernel_rfl) ?_
         ·refine ComesUp.mk rfl (fun K hK => ?_)
          go_simp;have hdn := HIS.out base va fva ka vc fvc kc wx HO.out.own HO.out.le (fun w' hb' => HK.out.keep (Below.keeps ((HB2.out.trans (hHeld.mono (by have := HLL.out; omega))).trans (hb'.mono (by have := HO.out.lo; omega)))) (fun _ _ h => h));rw [← HT.out] at hdn;refine hdn.mono ?_;clear hdn;rintro e wn ⟨va', vc', fva', fvc', ha, hc, rfl, hon, hhn, hvn, hbn, hfn⟩;have HP := hid (HO.out.done HX.out hon hhn hfn);replace HX := hid (HX.out.butV hvn HO.out.own);have S5 := hHeld.trans (hbn.mono (by have := HLL.out; have := HO.out.lo; omega));have hzn : L ≤ wn.heap.size := by have := hbn.size; omega
          refine hK.out _ _ S5 ?_;clear hK K hHeld hbn S5 hzx hon hhn hvn hfn HO;intro hHeld;walk_nrm;refine tk 4 ?_ rfl (fun _ _ _ h=>h) (y:=?_) (h:=?_);rotate_left
          ·intro wS hSw; go_simp<;>with_reducible rfl
          walk_nrm;refine tk 5 ?_ rfl (fun _ _ _ h=>h) (y:=?_) (h:=?_);rotate_left
          ·intro wS hSw; go_simp<;>with_reducible rfl
          walk_nrm;refine tk 6 ?_ rfl (fun _ _ _ h=>h) (y:=?_) (h:=?_);rotate_left
          ·intro wS hSw; go_simp<;>with_reducible rfl
          walk_nrm
          try clear wx
          obtain ⟨wx, rfl⟩ := wld wn;have hzx := hzn;clear hzn;revert hHeld;revert hzx;revert HX;revert HP;revert fvc;revert vc;revert fva;revert va;revert hc;revert fvc';revert vc';revert ha;revert fva';revert va';revert base;revert b9;revert b8;revert wx;exact key trivial
      ·refine ComesUp.mk rfl (fun K hK => ?_)
       go_simp;obtain ⟨wn, hwn⟩ : ∃ wn, wn = wx.alloc (.cells #[.int .i64 0, .int .i64 0, .slice none 0 0] 35) := ⟨_, rfl⟩;obtain ⟨b9, hb9⟩ : ∃ b, b = wx.heap.size := ⟨_, rfl⟩;rw [← hwn, ← hb9];have hbn := below_new hwn;replace HX := hid (HX.out.new9 hwn hb9 hzx)
       try replace HO := hid (HO.out.new9 hwn hb9)
       try replace HP := hid (HP.out.new9 hwn hb9)
       have S5 := hHeld.trans (hbn.mono (by have := HLL.out; omega));have hzn : L ≤ wn.heap.size := by have := hbn.size; omega
       refine hK.out _ _ S5 ?_;clear hK K hHeld hbn S5 hzx hwn hb9;intro hHeld;walk_nrm
       try clear wx
       obtain ⟨wx, rfl⟩ := wld wn;have hzx := hzn;clear hzn;refine wpAnyL_two 1 7 (by kernel_rfl) ?_ ?_
       ·refine ComesUp.mk rfl (fun K hK => ?_)
        go_simp;refine (ref_StoreCopy s a fa c fc wx (HI.out.keep (Below.keeps (HB2.out.trans (hHeld.mono (by have := HLL.out; omega)))) (fun _ _ h => h)) (HF.out.keep (Below.keeps (HB2.out.trans (hHeld.mono (by have := HLL.out; omega)))) (PageR.keep (Below.keeps (HB2.out.trans (hHeld.mono (by have := HLL.out; omega)))))) hn hfn).mono ?_;rintro e wn ⟨va, vc, fva, fvc, vs, rfl, hi3, hf3, hbn⟩;obtain ⟨base, hbase⟩ : ∃ b, b = wx.heap.size := ⟨_, rfl⟩;have HO := hid (Copied.of hbase (HS.out.at hi3 hf3) HX.out hbn hzx);replace HX := hid (HX.out.below hbn);have S5 := hHeld.trans (hbn.mono (by have := HLL.out; omega));have hzn : L ≤ wn.heap.size := by have := hbn.size; omega
        refine hK.out _ _ S5 ?_;clear hK K hHeld hbn S5 hzx hbase hi3 hf3;intro hHeld;walk_nrm
        try clear wx
        obtain ⟨wx, rfl⟩ := wld wn;have hzx := hzn;clear hzn;refine wpAnyL_two 3 7 (by kernel_rfl) ?_ ?_
        ·refine ComesUp.mk rfl (fun K hK => ?_)
         go_simp;have hdn := HIS.out base va fva ka vc fvc kc wx HO.out.own HO.out.le (fun w' hb' => HK.out.keep (Below.keeps ((HB2.out.trans (hHeld.mono (by have := HLL.out; omega))).trans (hb'.mono (by have := HO.out.lo; omega)))) (fun _ _ h => h));rw [← HT.out] at hdn;refine hdn.mono ?_;clear hdn;rintro e wn ⟨va', vc', fva', fvc', ha, hc, rfl, hon, hhn, hvn, hbn, hfn⟩;have HP := hid (HO.out.done HX.out hon hhn hfn);replace HX := hid (HX.out.butV hvn HO.out.own);have S5 := hHeld.trans (hbn.mono (by have := HLL.out; have := HO.out.lo; omega));have hzn : L ≤ wn.heap.size := by have := hbn.size; omega
         refine hK.out _ _ S5 ?_;clear hK K hHeld hbn S5 hzx hon hhn hvn hfn HO;intro hHeld;walk_nrm;refine tk 4 ?_ rfl (fun _ _ _ h=>h) (y:=?_) (h:=?_);rotate_left
         ·intro wS hSw; go_simp<;>with_reducible rfl
         walk_nrm;refine tk 5 ?_ rfl (fun _ _ _ h=>h) (y:=?_) (h:=?_);rotate_left
         ·intro wS hSw; go_simp<;>with_reducible rfl
         walk_nrm;refine tk 6 ?_ rfl (fun _ _ _ h=>h) (y:=?_) (h:=?_);rotate_left
         ·intro wS hSw; go_simp<;>with_reducible rfl
         walk_nrm
         try clear wx
         obtain ⟨wx, rfl⟩ := wld wn;have hzx := hzn;clear hzn;refine wpAnyL_one 7 (by kernel_rfl) ?_
         ·refine ComesUp.mk rfl (fun K hK => ?_)
          go_simp;obtain ⟨wn, hwn⟩ : ∃ wn, wn = wx.alloc (.cells storeZ 28) := ⟨_, rfl⟩;obtain ⟨b8, hb8⟩ : ∃ b, b = wx.heap.size := ⟨_, rfl⟩;rw [← hwn, ← hb8];have hbn := below_new hwn;replace HX := hid (HX.out.new8 hwn hb8 hzx)
          try replace HO := hid (HO.out.new8 hwn hb8)
          try replace HP := hid (HP.out.new8 hwn hb8)
          have S5 := hHeld.trans (hbn.mono (by have := HLL.out; omega));have hzn : L ≤ wn.heap.size := by have := hbn.size; omega
          refine hK.out _ _ S5 ?_;clear hK K hHeld hbn S5 hzx hwn hb8;intro hHeld;walk_nrm
          try clear wx
          obtain ⟨wx, rfl⟩ := wld wn;have hzx := hzn;clear hzn;revert hHeld;revert hzx;revert HX;revert HP;revert fvc;revert vc;revert fva;revert va;revert hc;revert fvc';revert vc';revert ha;revert fva';revert va';revert base;revert b9;revert b8;revert wx;exact key trivial
        ·refine ComesUp.mk rfl (fun K hK => ?_)
         go_simp;obtain ⟨wn, hwn⟩ : ∃ wn, wn = wx.alloc (.cells storeZ 28) := ⟨_, rfl⟩;obtain ⟨b8, hb8⟩ : ∃ b, b = wx.heap.size := ⟨_, rfl⟩;rw [← hwn, ← hb8];have hbn := below_new hwn;replace HX := hid (HX.out.new8 hwn hb8 hzx)
         try replace HO := hid (HO.out.new8 hwn hb8)
         try replace HP := hid (HP.out.new8 hwn hb8)
         have S5 := hHeld.trans (hbn.mono (by have := HLL.out; omega));have hzn : L ≤ wn.heap.size := by have := hbn.size; omega
         refine hK.out _ _ S5 ?_;clear hK K hHeld hbn S5 hzx hwn hb8;intro hHeld;walk_nrm
         try clear wx
         obtain ⟨wx, rfl⟩ := wld wn;have hzx := hzn;clear hzn;refine wpAnyL_one 3 (by kernel_rfl) ?_
         ·refine ComesUp.mk rfl (fun K hK => ?_)
          go_simp;have hdn := HIS.out base va fva ka vc fvc kc wx HO.out.own HO.out.le (fun w' hb' => HK.out.keep (Below.keeps ((HB2.out.trans (hHeld.mono (by have := HLL.out; omega))).trans (hb'.mono (by have := HO.out.lo; omega)))) (fun _ _ h => h));rw [← HT.out] at hdn;refine hdn.mono ?_;clear hdn;rintro e wn ⟨va', vc', fva', fvc', ha, hc, rfl, hon, hhn, hvn, hbn, hfn⟩;have HP := hid (HO.out.done HX.out hon hhn hfn);replace HX := hid (HX.out.butV hvn HO.out.own);have S5 := hHeld.trans (hbn.mono (by have := HLL.out; have := HO.out.lo; omega));have hzn : L ≤ wn.heap.size := by have := hbn.size; omega
          refine hK.out _ _ S5 ?_;clear hK K hHeld hbn S5 hzx hon hhn hvn hfn HO;intro hHeld;walk_nrm;refine tk 4 ?_ rfl (fun _ _ _ h=>h) (y:=?_) (h:=?_);rotate_left
          ·intro wS hSw; go_simp<;>with_reducible rfl
          walk_nrm;refine tk 5 ?_ rfl (fun _ _ _ h=>h) (y:=?_) (h:=?_);rotate_left
          ·intro wS hSw; go_simp<;>with_reducible rfl
          walk_nrm;refine tk 6 ?_ rfl (fun _ _ _ h=>h) (y:=?_) (h:=?_);rotate_left
          ·intro wS hSw; go_simp<;>with_reducible rfl
          walk_nrm
          try clear wx
          obtain ⟨wx, rfl⟩ := wld wn;have hzx := hzn;clear hzn;revert hHeld;revert hzx;revert HX;revert HP;revert fvc;revert vc;revert fva;revert va;revert hc;revert fvc';revert vc';revert ha;revert fva';revert va';revert base;revert b9;revert b8;revert wx;exact key trivial
       ·refine ComesUp.mk rfl (fun K hK => ?_)
        go_simp;obtain ⟨wn, hwn⟩ : ∃ wn, wn = wx.alloc (.cells storeZ 28) := ⟨_, rfl⟩;obtain ⟨b8, hb8⟩ : ∃ b, b = wx.heap.size := ⟨_, rfl⟩;rw [← hwn, ← hb8];have hbn := below_new hwn;replace HX := hid (HX.out.new8 hwn hb8 hzx)
        try replace HO := hid (HO.out.new8 hwn hb8)
        try replace HP := hid (HP.out.new8 hwn hb8)
        have S5 := hHeld.trans (hbn.mono (by have := HLL.out; omega));have hzn : L ≤ wn.heap.size := by have := hbn.size; omega
        refine hK.out _ _ S5 ?_;clear hK K hHeld hbn S5 hzx hwn hb8;intro hHeld;walk_nrm
        try clear wx
        obtain ⟨wx, rfl⟩ := wld wn;have hzx := hzn;clear hzn;refine wpAnyL_one 1 (by kernel_rfl) ?_
        ·refine ComesUp.mk rfl (fun K hK => ?_)
         go_simp;refine (ref_StoreCopy s a fa c fc wx (HI.out.keep (Below.keeps (HB2.out.trans (hHeld.mono (by have := HLL.out; omega)))) (fun _ _ h => h)) (HF.out.keep (Below.keeps (HB2.out.trans (hHeld.mono (by have := HLL.out; omega)))) (PageR.keep (Below.keeps (HB2.out.trans (hHeld.mono (by have := HLL.out; omega)))))) hn hfn).mono ?_;rintro e wn ⟨va, vc, fva, fvc, vs, rfl, hi3, hf3, hbn⟩;obtain ⟨base, hbase⟩ : ∃ b, b = wx.heap.size := ⟨_, rfl⟩;have HO := hid (Copied.of hbase (HS.out.at hi3 hf3) HX.out hbn hzx);replace HX := hid (HX.out.below hbn);have S5 := hHeld.trans (hbn.mono (by have := HLL.out; omega));have hzn : L ≤ wn.heap.size := by have := hbn.size; omega
         refine hK.out _ _ S5 ?_;clear hK K hHeld hbn S5 hzx hbase hi3 hf3;intro hHeld;walk_nrm
         try clear wx
         obtain ⟨wx, rfl⟩ := wld wn;have hzx := hzn;clear hzn;refine wpAnyL_one 3 (by kernel_rfl) ?_
         ·refine ComesUp.mk rfl (fun K hK => ?_)
          go_simp;have hdn := HIS.out base va fva ka vc fvc kc wx HO.out.own HO.out.le (fun w' hb' => HK.out.keep (Below.keeps ((HB2.out.trans (hHeld.mono (by have := HLL.out; omega))).trans (hb'.mono (by have := HO.out.lo; omega)))) (fun _ _ h => h));rw [← HT.out] at hdn;refine hdn.mono ?_;clear hdn;rintro e wn ⟨va', vc', fva', fvc', ha, hc, rfl, hon, hhn, hvn, hbn, hfn⟩;have HP := hid (HO.out.done HX.out hon hhn hfn);replace HX := hid (HX.out.butV hvn HO.out.own);have S5 := hHeld.trans (hbn.mono (by have := HLL.out; have := HO.out.lo; omega));have hzn : L ≤ wn.heap.size := by have := hbn.size; omega
          refine hK.out _ _ S5 ?_;clear hK K hHeld hbn S5 hzx hon hhn hvn hfn HO;intro hHeld;walk_nrm;refine tk 4 ?_ rfl (fun _ _ _ h=>h) (y:=?_) (h:=?_);rotate_left
          ·intro wS hSw; go_simp<;>with_reducible rfl
          walk_nrm;refine tk 5 ?_ rfl (fun _ _ _ h=>h) (y:=?_) (h:=?_);rotate_left
          ·intro wS hSw; go_simp<;>with_reducible rfl
          walk_nrm;refine tk 6 ?_ rfl (fun _ _ _ h=>h) (y:=?_) (h:=?_);rotate_left
          ·intro wS hSw; go_simp<;>with_reducible rfl
          walk_nrm
          try clear wx
          obtain ⟨wx, rfl⟩ := wld wn;have hzx := hzn;clear hzn;revert hHeld;revert hzx;revert HX;revert HP;revert fvc;revert vc;revert fva;revert va;revert hc;revert fvc';revert vc';revert ha;revert fva';revert va';revert base;revert b9;revert b8;revert wx;exact key trivial
     ·clear hHeld hzx HX
      intro wx b8 b9 base va' fva' ha vc' fvc' hc va fva vc fvc HP HX hzx hHeld;have h8 := HX.out.1 b8 rfl;have h9 := HX.out.2 b9 rfl;have n98 : b9 ≠ b8 := blk_ne h9.2 h8.2 (by decide);have l8 := h8.1;have l9 := h9.1;have S1 := hHeld.trans (Below.setRow wx b8 (storeV t.1 va' vc' fva' fvc') (by have := HLL.out; omega));refine wpAnyL_one 9 (by kernel_rfl) ?_;refine ComesUp.mk rfl (fun K hK => ?_);rw [if_pos (by rfl)];refine wp_store_row 28 _ _ rfl b8 _ rfl rfl _ _ h8.2 storeSize rfl (store_one _ _ _ _ _) ?_;have e9 : (wx.setRow b8 (storeV t.1 va' vc' fva' fvc')).heap[b9]? = some (.cells #[.int .i64 0, .int .i64 0, .slice none 0 0] 35 (0, 0)) := (setRow_other _ _ _ _ n98).trans h9.2;refine hK.out _ _ S1 ?_;clear hK K hHeld S1;intro hHeld;walk_nrm;refine wpAnyL_last rfl (by kernel_rfl) (fun K hK => ?_);rw [if_pos (by rfl)];refine wp_store_row 35 _ _ rfl b9 _ rfl rfl _ _ e9 replySize rfl (reply_one _ _ _) ?_;have S2 := hHeld.trans (Below.setRow _ b9 (replyCells t.2 ha hc) (by have := HLL.out; omega));refine hK.out _ _ ?_;clear hK K hHeld;walk_nrm;refine wpAnyL_done (by kernel_rfl) ?_ _
      go_wp2_with fail
      go_meet;have HO8 := HP.out.own.setAt (ds := storeV t.1 va' vc' fva' fvc') h8.2 (by decide) (HP.out.own.ne h8.2 (by decide)) (HP.out.n8 b8 rfl);have HO9 := HO8.setAt (ds := replyCells t.2 ha hc) e9 (by decide) (HO8.ne e9 (by decide)) (HP.out.n9 b9 rfl);have HH8 : RowsAt (wx.setRow b8 (storeV t.1 va' vc' fva' fvc')) ha 4 HitR t.2.hits := hits_but HP.out.hits ⟨by simp [World.setRow], fun k _ hk => setRow_other _ _ _ _ hk⟩ h8.2 rfl;have HH9 : RowsAt ((wx.setRow b8 (storeV t.1 va' vc' fva' fvc')).setRow b9 (replyCells t.2 ha hc)) ha 4 HitR t.2.hits := hits_but HH8 ⟨by simp [World.setRow], fun k _ hk => setRow_other _ _ _ _ hk⟩ e9 rfl;have hlo := HP.out.lo;have hll := HLL.out;exact ⟨b8, b9, base, va', fva', ha, vc', fvc', hc, rfl, rfl, (setRow_other _ _ _ _ n98.symm).trans (setRow_heap _ _ _ _ _ _ h8.2), setRow_heap _ _ _ _ _ _ e9, (S2.block _ (by omega)).trans T4.out, (S2.block _ (by omega)).trans T5.out, HO9, HH9, HB2.out.trans (S2.mono (by omega)), by omega, by omega, by omega⟩
    case rest =>
     obtain ⟨b8, b9, base, va', fva', ha, vc', fvc', hc, rfl, rfl, V8, V9, V4, V5, HON, HHN, HBV, hb8, hb9, hbz⟩ := hcut;clear T2 T3 T4 T5 HB2;go_upto_region 9 with (fail);refine wp_region_L (fun w' : World => w'.heap[b8]? = some (.cells (storeV t.1 va' vc' fva' fvc') 28 (0, 0)) ∧ w'.heap[b9]? = some (.cells (replyCells t.2 ha hc) 35 (0, 0))) 4 5 (by kernel_rfl) (by kernel_rfl) ⟨V8.out, V9.out⟩ (fun hHeld => ?_);refine wpAnyL_take (i := 0) (v := _) rfl (by kernel_rfl) (fun _ _ _ h => h) (Or.inl ⟨by rfl, fun wS hSw => exec_load_row 28 _ rfl (b8) rfl _ _ _ _ (hSw.1) Tryz.underlying28 rfl (by kernel_rfl)⟩) (by assumption) ?_;walk_nrm;refine wpAnyL_take (i := 1) (v := _) rfl (by kernel_rfl) (fun _ _ _ h => h) (Or.inl ⟨by rfl, fun wS hSw => exec_load_row 35 _ rfl (b9) rfl _ _ _ _ (hSw.2) Tryz.underlying35 rfl (by kernel_rfl)⟩) (by assumption) ?_;walk_nrm;obtain ⟨wx, hwx⟩ : ∃ wx, wx = wc.drew := ⟨_, rfl⟩;have hbn : Below wc.heap.size wc wx := by rw [hwx]; exact (Below.refl _ _).drew
     rw [← hwx] at hHeld ⊢;have X4 := hid ((hbn.block (w.heap.size + 2) (blt V4.out)).trans V4.out);have X5 := hid ((hbn.block (w.heap.size + 3) (blt V5.out)).trans V5.out);have XO := hid (HON.out.below hbn);have XH := hid (HHN.out.keep (Below.keeps hbn) (fun _ _ h => h));have XB := hid (HBV.out.trans (hbn.mono HBV.out.size));clear hwx hbn V4 V5 V8 V9 HON HHN HBV HI HF HK HS HIS HT;refine wpAnyL_one 2 (by kernel_rfl) ?_;refine ComesUp.mk rfl (fun K hK => ?_);rw [if_pos (by rfl)];refine wp_store_row 28 _ _ rfl (w.heap.size + 2) _ rfl rfl _ _ X4.out storeSize rfl (store_one _ _ _ _ _) ?_;refine hK.out _ _ ⟨(setRow_other _ _ _ _ (by omega)).trans hHeld.1, (setRow_other _ _ _ _ (by omega)).trans hHeld.2⟩ ?_;clear hK K hHeld;intro hHeld;walk_nrm;have R5' := hid (show (wx.setRow (w.heap.size + 2) (storeV t.1 va' vc' fva' fvc')).heap[w.heap.size + 3]? = some (.cells (replyCells Reply.zero none 0) 35 (0, 0)) from (setRow_other _ _ _ _ (by omega)).trans X5.out);refine wpAnyL_one 3 (by kernel_rfl) ?_;refine ComesUp.mk rfl (fun K hK => ?_);rw [if_pos (by rfl)];refine wp_store_row 35 _ _ rfl (w.heap.size + 3) _ rfl rfl _ _ R5'.out replySize rfl (reply_one _ _ _) ?_;have ZRR := hid (show ((wx.setRow (w.heap.size + 2) (storeV t.1 va' vc' fva' fvc')).setRow (w.heap.size + 3) (replyCells t.2 ha hc)).heap[w.heap.size + 3]? = some (.cells (replyCells t.2 ha hc) 35 (0, 0)) from setRow_heap _ _ _ _ _ _ R5'.out);have ZSS := hid (show ((wx.setRow (w.heap.size + 2) (storeV t.1 va' vc' fva' fvc')).setRow (w.heap.size + 3) (replyCells t.2 ha hc)).heap[w.heap.size + 2]? = some (.cells (storeV t.1 va' vc' fva' fvc') 28 (0, 0)) from (setRow_other _ _ _ _ (by omega)).trans (setRow_heap _ _ _ _ _ _ X4.out));refine hK.out _ _ ⟨(setRow_other _ _ _ _ (by omega)).trans hHeld.1, (setRow_other _ _ _ _ (by omega)).trans hHeld.2⟩ ?_;clear hK K hHeld;intro hHeld;walk_nrm;refine wpAnyL_last rfl (by kernel_rfl) (fun K hK => ?_);go_simp;refine hK.out _ _ ?_;clear hK K hHeld;walk_nrm;refine wpAnyL_done (by kernel_rfl) ?_ _
     iterate 3 go_step
     refine bodyPost_ret (v := .tuple #[.agg (storeV t.1 va' vc' fva' fvc'), .agg (replyCells t.2 ha hc), .int .i64 0]) (resultsCCT rfl _ _ (w.heap.size + 2) (w.heap.size + 3) _ _ _ rfl rfl rfl (run_loadVar_row _ _ _ _ _ _ _ ZSS.out Tryz.underlying28 rfl storeSize) (run_loadVar_row _ _ _ _ _ _ _ ZRR.out Tryz.underlying35 rfl replySize)) rfl ?_;rw [HDO.out];have o4 := XO.out.setAt (ds := storeV t.1 va' vc' fva' fvc') X4.out (by decide) (XO.out.ne X4.out (by decide)) (fun hp a ha => by have := (XO.out.fa_lt hp a ha).1; omega);have o5 := o4.setAt (ds := replyCells t.2 ha hc) R5'.out (by decide) (o4.ne R5'.out (by decide)) (fun hp a ha => by have := (XO.out.fa_lt hp a ha).1; omega);have h4 : RowsAt (wx.setRow (w.heap.size + 2) (storeV t.1 va' vc' fva' fvc')) ha 4 HitR t.2.hits := hits_but XH.out ⟨by simp [World.setRow], fun k _ hk => setRow_other _ _ _ _ hk⟩ X4.out rfl;have h5 : RowsAt ((wx.setRow (w.heap.size + 2) (storeV t.1 va' vc' fva' fvc')).setRow (w.heap.size + 3) (replyCells t.2 ha hc)) ha 4 HitR t.2.hits := hits_but h4 ⟨by simp [World.setRow], fun k _ hk => setRow_other _ _ _ _ hk⟩ R5'.out rfl;exact ⟨va', vc', fva', fvc', ha, hc, rfl, o5.at, h5, (XB.out.trans (Below.setRow _ (w.heap.size + 2) _ (by omega))).trans (Below.setRow _ (w.heap.size + 3) _ (by omega))⟩
  ·have hf1 : (fl == 0) = false := by simp [hf0]
   have HDO : Hid (doOf s r = (Store.zero, Reply.zero, fl)) := by show _ = _; unfold doOf; rw [if_neg hno, if_pos (by rw [← hfl]; exact hf0), ← hfl]
   clear hfl;have R5' : (w2.setRow (w.heap.size + 2) storeZ).heap[w.heap.size + 3]? = some (.cells (replyCells Reply.zero none 0) 35 (0, 0)) := (setRow_other _ _ _ _ (by omega)).trans T5.out;have ZR : ((w2.setRow (w.heap.size + 2) storeZ).setRow (w.heap.size + 3) (replyCells Reply.zero none 0)).heap[w.heap.size + 3]? = some (.cells (replyCells Reply.zero none 0) 35 (0, 0)) := setRow_heap _ _ _ _ _ _ R5';have ZS : ((w2.setRow (w.heap.size + 2) storeZ).setRow (w.heap.size + 3) (replyCells Reply.zero none 0)).heap[w.heap.size + 2]? = some (.cells storeZ 28 (0, 0)) := by rw [setRow_other _ _ _ _ (by omega)]; exact setRow_heap _ _ _ _ _ _ T4.out
   go_wp2_with (first
    | refine wpList_store_row rfl 28 _ _ rfl (w.heap.size + 2) _ rfl rfl _ _ T4.out storeSize rfl (store_one Store.zero none none 0 0) ?_
    | refine wpList_store_row rfl 35 _ _ rfl (w.heap.size + 3) _ rfl rfl _ _ R5' replySize rfl (reply_one Reply.zero none 0) ?_)
   refine bodyPost_ret (v := .tuple #[.agg (storeV Store.zero none 0 none 0), .agg (replyCells Reply.zero none 0), .int .i64 fl]) (resultsCCT rfl _ _ (w.heap.size + 2) (w.heap.size + 3) _ _ _ rfl rfl rfl (run_loadVar_row _ _ _ _ _ _ _ ZS Tryz.underlying28 rfl storeSize) (run_loadVar_row _ _ _ _ _ _ _ ZR Tryz.underlying35 rfl replySize)) rfl ?_;rw [HDO.out];exact doneOf_none ((HB2.out.trans (Below.setRow _ (w.heap.size + 2) _ (by omega))).trans (Below.setRow _ (w.heap.size + 3) _ (by omega)))
end Go.Proofs.YtbeegfkfpkfccaaGreatDoor.D
