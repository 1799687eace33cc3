/-
 Contract: keeper.set in all its kinds. Conditions: the variables hold what they are laid with. (Printed by gen_set.py.)
-/
import Derived.Test.YtbeegfkfpkfccaaGreatDoorYCCount
namespace Go.Proofs.YtbeegfkfpkfccaaGreatDoor.D
open Go.RowKit
section
variable {base g : Nat} {s : Store} {va : Option Addr} {vc : Nat} {fa : Option Addr} {fc : Nat} {vs : List Value}
theorem set_none {s : Store} {r : Req} (h : (live s (bl r.key)).2 = none) : setReq s r =
  if r.kind = 3 then stored (live s (bl r.key)).1 (newItem (live s (bl r.key)).1 r) else if r.kind = 4 then ((live s (bl r.key)).1, told 3) else if r.kind = 5 ∨ r.kind = 6 then ((live s (bl r.key)).1, told 3)
  else if r.kind = 7 then ((live s (bl r.key)).1, told 5) else stored (live s (bl r.key)).1 (newItem (live s (bl r.key)).1 r) := by
 unfold setReq; simp only; rw [h]; rfl
theorem set_some {s : Store} {r : Req} {i : Nat} (h : (live s (bl r.key)).2 = some i) (h1 : (live s (bl r.key)).1 = s) (hi : i < s.items.length) : setReq s r =
  if r.kind = 3 then (s, told 3) else if r.kind = 4 then stored s (newItem s r) else if r.kind = 5 ∨ r.kind = 6 then (if 200 < (grownItem s r s.items[i]).value.size then (s, told 11) else stored s (grownItem s r s.items[i]))
  else if r.kind = 7 then (if s.items[i].cas ≠ r.n then (s, told 4) else stored s (newItem s r)) else stored s (newItem s r) := by
 unfold setReq; simp only; rw [h, h1]; simp only [Option.bind_some, List.getElem?_eq_getElem hi]
theorem KeepAt.own_lt {w : World} (h : KeepAt base g s va vc fa fc vs w) {a : Addr} (e : va = some a) : a.block < w.heap.size := by
 subst e
 rcases h.own.2 with ⟨hv, _⟩ | ⟨gi, cap, cur, hv, _, hh, _⟩
 ·cases hv
 ·cases hv
  exact (blt hh)
theorem until_is (w : World) (h : KeepAt base g s va vc fa fc vs w) (hs : SOk s) (e : Int) (he : 0 ≤ e ∧ e ≤ 1099511627776) (n : Int) (hn : Hid (untilOf s e = n)) :
  Calls Tryz.prog 91 #[.pointer (some ⟨g, 0, none⟩), .int .i64 e] w fun E w' => E = .returned (.int .i64 n) ∧ Below w.heap.size w w' := by
 have := keeper_until w h hs e he
 rwa [hn.out] at this
theorem set_box {w3 wx : World} {b6 : Nat} {Y : Item} {r : Req} (q1 : w3.heap.size ≤ b6) (r1 : wx.heap[b6]? = some (.cells #[.string ⟨#[]⟩, .int .i64 0, .int .i64 0, .int .i64 0, .int .i64 0, .string ⟨#[]⟩, .bool false, .int .i64 0, .int .i64 0] 83 (0, 0)))
  (hk : KeepAt base g s va vc fa fc vs wx) (hb : Below w3.heap.size w3 wx) (yt : Int) (hY : Y = ⟨r.key, r.flags, yt, 0, 0, r.value, false, ⟨0, 0⟩⟩) (hg : g ≠ b6) (ha : ∀ a, va = some a → a.block ≠ b6) :
  ∃ B6, Value.pointer (some ⟨b6, 0, none⟩) = .pointer (some ⟨B6, 0, none⟩) ∧ w3.heap.size ≤ B6 ∧
   Hid ((((((((((wx.setCell ⟨b6, 0, none⟩ (.string r.key)).setCell ⟨b6, 1, none⟩ (.int .i64 r.flags)).setCell ⟨b6, 2, none⟩ (.int .i64 yt)).setCell ⟨b6, 3, none⟩ (.int .i64 0)).setCell ⟨b6, 4, none⟩ (.int .i64 0)).setCell ⟨b6, 5, none⟩ (.string r.value)).setCell ⟨b6, 6, none⟩ (.bool false)).setCell ⟨b6, 7, none⟩ (.int .i64 0)).setCell ⟨b6, 8, none⟩ (.int .i64 0)).heap[B6]? =
    some (.cells #[.string Y.key, .int .i64 Y.flags, .int .i64 Y.till, .int .i64 Y.cas, .int .i64 Y.used, .string Y.value, .bool Y.far, .int .i64 Y.place.page, .int .i64 Y.place.off] 83 (0, 0))) ∧
   Hid (KeepAt base g s va vc fa fc vs (((((((((wx.setCell ⟨b6, 0, none⟩ (.string r.key)).setCell ⟨b6, 1, none⟩ (.int .i64 r.flags)).setCell ⟨b6, 2, none⟩ (.int .i64 yt)).setCell ⟨b6, 3, none⟩ (.int .i64 0)).setCell ⟨b6, 4, none⟩ (.int .i64 0)).setCell ⟨b6, 5, none⟩ (.string r.value)).setCell ⟨b6, 6, none⟩ (.bool false)).setCell ⟨b6, 7, none⟩ (.int .i64 0)).setCell ⟨b6, 8, none⟩ (.int .i64 0))) ∧
   Hid (Below w3.heap.size w3 (((((((((wx.setCell ⟨b6, 0, none⟩ (.string r.key)).setCell ⟨b6, 1, none⟩ (.int .i64 r.flags)).setCell ⟨b6, 2, none⟩ (.int .i64 yt)).setCell ⟨b6, 3, none⟩ (.int .i64 0)).setCell ⟨b6, 4, none⟩ (.int .i64 0)).setCell ⟨b6, 5, none⟩ (.string r.value)).setCell ⟨b6, 6, none⟩ (.bool false)).setCell ⟨b6, 7, none⟩ (.int .i64 0)).setCell ⟨b6, 8, none⟩ (.int .i64 0))) := by
 have hbut : But b6 wx (((((((((wx.setCell ⟨b6, 0, none⟩ (.string r.key)).setCell ⟨b6, 1, none⟩ (.int .i64 r.flags)).setCell ⟨b6, 2, none⟩ (.int .i64 yt)).setCell ⟨b6, 3, none⟩ (.int .i64 0)).setCell ⟨b6, 4, none⟩ (.int .i64 0)).setCell ⟨b6, 5, none⟩ (.string r.value)).setCell ⟨b6, 6, none⟩ (.bool false)).setCell ⟨b6, 7, none⟩ (.int .i64 0)).setCell ⟨b6, 8, none⟩ (.int .i64 0)) :=
  (((((((But.set.trans But.set).trans But.set).trans But.set).trans But.set).trans But.set).trans But.set).trans But.set).trans But.set
 refine ⟨b6, rfl, q1, ?_, hk.off hbut r1 hg ha, (((((((((hb.setCell (p := ⟨b6, 0, none⟩) q1 _).setCell (p := ⟨b6, 1, none⟩) q1 _).setCell (p := ⟨b6, 2, none⟩) q1 _).setCell (p := ⟨b6, 3, none⟩) q1 _).setCell (p := ⟨b6, 4, none⟩) q1 _).setCell (p := ⟨b6, 5, none⟩) q1 _).setCell (p := ⟨b6, 6, none⟩) q1 _).setCell (p := ⟨b6, 7, none⟩) q1 _).setCell (p := ⟨b6, 8, none⟩) q1 _)⟩;subst hY;show (World.setCell _ _ _).heap[b6]? = _
 simp [World.setCell, Array.getElem?_modify, r1]
set_option maxHeartbeats 40000000 in
set_option maxRecDepth 100000 in
theorem keeper_set (w : World) (h : KeepAt base g s va vc fa fc vs w) (hs : SOk s) (he : Env w) (hG : Globs base) (r : Req) (ka : Option Addr) (kc : Nat) (hr : ROk r) (h2 : 2 ≤ r.kind) (h3 : r.kind ≤ 11) (hu : s.uses < maxN) :
  Calls Tryz.prog 93 #[.pointer (some ⟨g, 0, none⟩), .agg #[.int .i64 r.kind, .string r.key, .slice ka r.keys.length kc, .int .i64 r.flags, .int .i64 r.exp, .int .i64 r.n, .string r.value, .bool r.quiet]] w (RepEnd base g (setReq s r) w) := by
 have H := hid h;have HS := hid hs;have HE := hid he;have HG := hid hG;have HU := hid hu;have HRO := hid hr;have hbase := h.base_le;have hre := hr.exp;have hrv := hr.value;rw [show maxN = 1099511627776 from rfl] at hre;clear h hs he hG hu hr
 go_enter Tryz.func93, Tryz.ntmps93
 go_wp2_with fail
 obtain ⟨W2, hW2, hb2, hr3, hr4⟩ := two_boxes w r ka kc;rw [← hW2];obtain ⟨B3, hB3⟩ : ∃ B, B = w.heap.size := ⟨_, rfl⟩;obtain ⟨B4, hB4⟩ : ∃ B, B = w.heap.size + 1 := ⟨_, rfl⟩;rw [← hB4] at hr4;rw [← hB3] at hr3;rw [← hB4, ← hB3];have hB4w : w.heap.size ≤ B4 := by omega
 have R3 := hid hr3;have R4 := hid hr4;have HB2 := hid hb2;have K2 := hid (H.out.below hb2);clear hW2 hB3 hB4 hr3 hr4 hb2 H;refine (keeper_live W2 K2.out HS.out r.key).mono ?_;rintro e w3 ⟨rfl, hk3, hb3, ht3⟩;have R33 := hid ((ht3 _ _ _ _ R3.out ⟨by decide, by decide⟩).trans R3.out);have R43 := hid ((ht3 _ _ _ _ R4.out ⟨by decide, by decide⟩).trans R4.out);have HB3 := hid ((HB2.out.mono hbase).trans hb3);have HT3 : Hid (KeptT Oth w w3) := (KeptT.below HB2.out).trans ht3;obtain ⟨va3, vc3, fa3, fc3, vs3, hk3⟩ := hk3;have K3 := hid hk3;have hw3 : w.heap.size ≤ w3.heap.size := Nat.le_trans HB2.out.size hb3.size;obtain ⟨li, hli⟩ : ∃ li, li = (live s (bl r.key)).2 := ⟨_, rfl⟩;have HLI := hid hli.symm;rw [← hli];have HS1 := hid (HS.out.live (bl r.key));have HU1 : Hid ((live s (bl r.key)).1.uses < maxN) := by show _ < _; rw [(live_uses s (bl r.key)).1]; exact HU.out
 clear hli hk3 hb3 ht3 K2 R3 R4 HB2;obtain ⟨Y, hY⟩ : ∃ Y, Y = newItem (live s (bl r.key)).1 r := ⟨_, rfl⟩;have HYY := hid hY;have hyt : untilOf (live s (bl r.key)).1 r.exp = Y.till := by rw [hY]; rfl
 have HYT := hid hyt;have HYA : Hid (Y = ⟨r.key, r.flags, Y.till, 0, 0, r.value, false, ⟨0, 0⟩⟩) := by rw [hY]; rfl
 clear hY hyt;go_upto_region 2 with (fail)
 go_cut [6] (fun v6 wx => ∃ B6, v6 = .pointer (some ⟨B6, 0, none⟩) ∧ w3.heap.size ≤ B6 ∧ Hid (wx.heap[B6]? = some (.cells #[.string Y.key, .int .i64 Y.flags, .int .i64 Y.till, .int .i64 Y.cas, .int .i64 Y.used, .string Y.value, .bool Y.far, .int .i64 Y.place.page, .int .i64 Y.place.off] 83 (0, 0))) ∧ Hid (KeepAt base g (live s (bl r.key)).1 va3 vc3 fa3 fc3 vs3 wx) ∧ Hid (Below w3.heap.size w3 wx))
 case first =>
  obtain ⟨u0, u1, u2, u3, u4, u5, u6, u7⟩ := req_cells R33.out;obtain ⟨yt, hyt⟩ : ∃ yt, yt = Y.till := ⟨_, rfl⟩;have HYTT := hid hyt;clear hyt;refine wp_region_L (Below w3.heap.size w3) 12 13 (by kernel_rfl) (by kernel_rfl) (Below.refl _ _).drew (fun hHeld => ?_);refine tk 0 ?_ rfl (fun _ _ _ h=>h) (y:=?_) (h:=?_);rotate_left
  ·intro wS hSw; go_simp<;>with_reducible rfl
  walk_nrm;refine tk 1 ?_ rfl (fun _ _ _ h=>h) (y:=?_) (h:=?_);rotate_left
  ·intro wS hSw; have q1 := Below.keeps hSw _ _ u1; go_simp<;>with_reducible rfl
  walk_nrm;refine tk 2 ?_ rfl (fun _ _ _ h=>h) (y:=?_) (h:=?_);rotate_left
  ·intro wS hSw; go_simp<;>with_reducible rfl
  walk_nrm;refine tk 3 ?_ rfl (fun _ _ _ h=>h) (y:=?_) (h:=?_);rotate_left
  ·intro wS hSw; have q1 := Below.keeps hSw _ _ u3; go_simp<;>with_reducible rfl
  walk_nrm;refine tk 4 ?_ rfl (fun _ _ _ h=>h) (y:=?_) (h:=?_);rotate_left
  ·intro wS hSw; go_simp<;>with_reducible rfl
  walk_nrm;refine tk 5 ?_ rfl (fun _ _ _ h=>h) (y:=?_) (h:=?_);rotate_left
  ·intro wS hSw; go_simp<;>with_reducible rfl
  walk_nrm;refine tk 6 ?_ rfl (fun _ _ _ h=>h) (y:=?_) (h:=?_);rotate_left
  ·intro wS hSw; have q1 := Below.keeps hSw _ _ u4; go_simp<;>with_reducible rfl
  walk_nrm;refine tk 8 ?_ rfl (fun _ _ _ h=>h) (y:=?_) (h:=?_);rotate_left
  ·intro wS hSw; go_simp<;>with_reducible rfl
  walk_nrm;refine tk 9 ?_ rfl (fun _ _ _ h=>h) (y:=?_) (h:=?_);rotate_left
  ·intro wS hSw; have q1 := Below.keeps hSw _ _ u6; go_simp<;>with_reducible rfl
  walk_nrm;obtain ⟨wx, hwx⟩ : ∃ wx, wx = w3.drew := ⟨_, rfl⟩;rw [← hwx] at hHeld ⊢;clear hwx;have HX1 : Hid (Bx w3.heap.size none (.cells #[.string ⟨#[]⟩, .int .i64 0, .int .i64 0, .int .i64 0, .int .i64 0, .string ⟨#[]⟩, .bool false, .int .i64 0, .int .i64 0] 83 (0, 0)) wx) := Bx.none;clear u0 u1 u2 u3 u4 u5 u6 u7;refine wpAnyL_two 7 11 (by kernel_rfl) ?_ ?_
  ·refine ComesUp.mk rfl (fun K hK => ?_)
   go_simp;refine (until_is _ (K3.out.below hHeld) HS1.out r.exp hre yt (by rw [HYTT.out]; exact HYT)).mono ?_;rintro e wn ⟨rfl, hbn⟩;replace HX1 := hid (HX1.out.below hbn);have S5 := hHeld.trans (hbn.mono hHeld.size);refine hK.out _ _ S5 ?_;clear hK K hHeld S5 hbn;intro hHeld;walk_nrm;refine tk 10 ?_ rfl (fun _ _ _ h=>h) (y:=?_) (h:=?_);rotate_left
   ·intro wS hSw; go_simp<;>with_reducible rfl
   walk_nrm;clear wx;obtain ⟨wx, rfl⟩ := wld wn;refine wpAnyL_one 11 (by kernel_rfl) ?_
   ·refine ComesUp.mk rfl (fun K hK => ?_)
    go_simp;obtain ⟨wn, hwn⟩ : ∃ wn, wn = wx.alloc (.cells #[.string ⟨#[]⟩, .int .i64 0, .int .i64 0, .int .i64 0, .int .i64 0, .string ⟨#[]⟩, .bool false, .int .i64 0, .int .i64 0] 83) := ⟨_, rfl⟩;obtain ⟨b6, hb6⟩ : ∃ b, b = wx.heap.size := ⟨_, rfl⟩;rw [← hwn, ← hb6];have hbn := below_new hwn;replace HX1 : Hid (Bx w3.heap.size (some b6) (.cells #[.string ⟨#[]⟩, .int .i64 0, .int .i64 0, .int .i64 0, .int .i64 0, .string ⟨#[]⟩, .bool false, .int .i64 0, .int .i64 0] 83 (0, 0)) wn) := by rw [hb6]; exact Bx.new hwn hHeld.size
    have S5 := hHeld.trans (hbn.mono hHeld.size);refine hK.out _ _ S5 ?_;clear hK K hHeld S5 hbn hwn hb6;intro hHeld;walk_nrm;clear wx;obtain ⟨wx, rfl⟩ := wld wn;obtain ⟨q1, r1⟩ := HX1.out _ rfl;have HFIN := hid (set_box (r := r) (Y := Y) q1 r1 (K3.out.below hHeld) hHeld yt (by rw [HYTT.out]; exact HYA.out) (by have := K3.out.lt; omega) (fun a e => by have := K3.out.own_lt e; omega));have t0 : wx.cell? ⟨b6, 0, none⟩ = some (.string ⟨#[]⟩) := cor r1 rfl;have t1 : wx.cell? ⟨b6, 1, none⟩ = some (.int .i64 0) := cor r1 rfl;have t2 : wx.cell? ⟨b6, 2, none⟩ = some (.int .i64 0) := cor r1 rfl;have t3 : wx.cell? ⟨b6, 3, none⟩ = some (.int .i64 0) := cor r1 rfl;have t4 : wx.cell? ⟨b6, 4, none⟩ = some (.int .i64 0) := cor r1 rfl;have t5 : wx.cell? ⟨b6, 5, none⟩ = some (.string ⟨#[]⟩) := cor r1 rfl;have t6 : wx.cell? ⟨b6, 6, none⟩ = some (.bool false) := cor r1 rfl;have t7 : wx.cell? ⟨b6, 7, none⟩ = some (.int .i64 0) := cor r1 rfl;have t8 : wx.cell? ⟨b6, 8, none⟩ = some (.int .i64 0) := cor r1 rfl;have tf : ∀ i, wx.frozen? ⟨b6, i, none⟩ = false := fun i => frozen_of_row wx _ _ _ _ r1
    clear r1 HX1;refine wpAnyL_last rfl (by kernel_rfl) (fun K hK => ?_);go_simp;refine hK.out _ _ ?_;clear hK K;walk_nrm;refine wpAnyL_done (by kernel_rfl) ?_ _
    go_wp2_with fail
    go_meet;exact HFIN.out
  ·refine ComesUp.mk rfl (fun K hK => ?_)
   go_simp;obtain ⟨wn, hwn⟩ : ∃ wn, wn = wx.alloc (.cells #[.string ⟨#[]⟩, .int .i64 0, .int .i64 0, .int .i64 0, .int .i64 0, .string ⟨#[]⟩, .bool false, .int .i64 0, .int .i64 0] 83) := ⟨_, rfl⟩;obtain ⟨b6, hb6⟩ : ∃ b, b = wx.heap.size := ⟨_, rfl⟩;rw [← hwn, ← hb6];have hbn := below_new hwn;replace HX1 : Hid (Bx w3.heap.size (some b6) (.cells #[.string ⟨#[]⟩, .int .i64 0, .int .i64 0, .int .i64 0, .int .i64 0, .string ⟨#[]⟩, .bool false, .int .i64 0, .int .i64 0] 83 (0, 0)) wn) := by rw [hb6]; exact Bx.new hwn hHeld.size
   have S5 := hHeld.trans (hbn.mono hHeld.size);refine hK.out _ _ S5 ?_;clear hK K hHeld S5 hbn hwn hb6;intro hHeld;walk_nrm;clear wx;obtain ⟨wx, rfl⟩ := wld wn;refine wpAnyL_one 7 (by kernel_rfl) ?_
   ·refine ComesUp.mk rfl (fun K hK => ?_)
    go_simp;refine (until_is _ (K3.out.below hHeld) HS1.out r.exp hre yt (by rw [HYTT.out]; exact HYT)).mono ?_;rintro e wn ⟨rfl, hbn⟩;replace HX1 := hid (HX1.out.below hbn);have S5 := hHeld.trans (hbn.mono hHeld.size);refine hK.out _ _ S5 ?_;clear hK K hHeld S5 hbn;intro hHeld;walk_nrm;refine tk 10 ?_ rfl (fun _ _ _ h=>h) (y:=?_) (h:=?_);rotate_left
    ·intro wS hSw; go_simp<;>with_reducible rfl
    walk_nrm;clear wx;obtain ⟨wx, rfl⟩ := wld wn;obtain ⟨q1, r1⟩ := HX1.out _ rfl;have HFIN := hid (set_box (r := r) (Y := Y) q1 r1 (K3.out.below hHeld) hHeld yt (by rw [HYTT.out]; exact HYA.out) (by have := K3.out.lt; omega) (fun a e => by have := K3.out.own_lt e; omega));have t0 : wx.cell? ⟨b6, 0, none⟩ = some (.string ⟨#[]⟩) := cor r1 rfl;have t1 : wx.cell? ⟨b6, 1, none⟩ = some (.int .i64 0) := cor r1 rfl;have t2 : wx.cell? ⟨b6, 2, none⟩ = some (.int .i64 0) := cor r1 rfl;have t3 : wx.cell? ⟨b6, 3, none⟩ = some (.int .i64 0) := cor r1 rfl;have t4 : wx.cell? ⟨b6, 4, none⟩ = some (.int .i64 0) := cor r1 rfl;have t5 : wx.cell? ⟨b6, 5, none⟩ = some (.string ⟨#[]⟩) := cor r1 rfl;have t6 : wx.cell? ⟨b6, 6, none⟩ = some (.bool false) := cor r1 rfl;have t7 : wx.cell? ⟨b6, 7, none⟩ = some (.int .i64 0) := cor r1 rfl;have t8 : wx.cell? ⟨b6, 8, none⟩ = some (.int .i64 0) := cor r1 rfl;have tf : ∀ i, wx.frozen? ⟨b6, i, none⟩ = false := fun i => frozen_of_row wx _ _ _ _ r1
    clear r1 HX1;refine wpAnyL_last rfl (by kernel_rfl) (fun K hK => ?_);go_simp;refine hK.out _ _ ?_;clear hK K;walk_nrm;refine wpAnyL_done (by kernel_rfl) ?_ _
    go_wp2_with fail
    go_meet;exact HFIN.out
 case rest =>
 obtain ⟨B6, rfl, hB6, R6c, Kc, HBx⟩ := hcut;have R3c := hid ((HBx.out.block _ (blt R33.out)).trans R33.out);have R4c := hid ((HBx.out.block _ (blt R43.out)).trans R43.out);have HBc := hid (HB3.out.trans (HBx.out.mono K3.out.base_le));have HTc : Hid (KeptT Oth w wc) := HT3.out.trans (KeptT.below HBx.out);have HEc := hid (HE.out.below HG.out HBc.out);have HNB : Hid (∀ a, va3 = some a → a.block ≠ B6) := fun a e => by have := K3.out.own_lt e; omega
 have hgB6 : g ≠ B6 := by have := K3.out.lt; omega
 have hB6b : base ≤ B6 := Nat.le_trans K3.out.base_le hB6;clear R33 R43 HB3 HT3 HBx K3;obtain ⟨u0, -, -, -, -, -, -, -⟩ := req_cells R3c.out
 cases li with
 | none =>
  simp only [idxOf];have HSE := hid (set_none (r := r) HLI.out)
  by_cases hk3 : r.kind = 3
  ·
   as_aux_lemma =>
    have HQ := hid (HSE.out.trans (if_pos hk3));have k3 : (r.kind == 3) = true := by simp [hk3]
    clear hk3
    have HSR : Hid (setReq s r = stored (live s (bl r.key)).1 Y) := by show _ = _; exact by rw [HYY.out]; exact HQ.out
    have HMP : Hid (MayPut Y) := by show MayPut _; exact by rw [HYY.out]; exact may_new HS1.out HRO.out h2 h3
    go_wp2_with (refine wpList_load_row rfl 83 _ rfl B6 rfl _ _ _ _ R6c.out Tryz.underlying83 rfl (by kernel_rfl) ?_)
    refine (keeper_stored wc Kc.out HS1.out HEc.out.chunks HG.out.chunks Y HMP.out HU1.out).mono ?_;rintro e w9 ⟨rfl, hk9, hb9, ht9⟩;have R49 := hid ((ht9 _ _ _ _ R4c.out ⟨by decide, by decide⟩).trans R4c.out);have HK9 := hid hk9;have HB9 := hid (HBc.out.trans hb9);have HT9 : Hid (KeptT Oth w w9) := HTc.out.trans ht9;obtain ⟨e0, e1, e2⟩ := reply_cells R49.out;have ef : ∀ i, w9.frozen? ⟨B4, i, none⟩ = false := fun i => frozen_of_row w9 _ _ _ _ R49.out
    obtain ⟨b, hb⟩ : ∃ b, b = (put (live s (bl r.key)).1 Y).2 := ⟨_, rfl⟩;have HSB : Hid (stored (live s (bl r.key)).1 Y = ((put (live s (bl r.key)).1 Y).1, if b then told 2 else told 11)) := by rw [hb]; rfl
    rw [← hb];clear hk9 hb9 ht9 hb
    cases b
    ·have hf := hid (rep_end (t := setReq s r) (k := 11) (n := 0) (by rw [HSR.out, HSB.out]; rfl) (by rw [HSR.out, HSB.out]; exact HK9.out) R49.out HB9.out HT9.out hB4w hbase)
     have hrr := hid (blk_three (x := .int .i64 11) (y := .int .i64 0) (z := .slice none 0 0) R49.out);simp only [toldV, Bool.false_eq_true, if_false]
     go_wp2_with fail
     refine bodyPost_ret (v := .agg #[.int .i64 11, .int .i64 0, .slice none 0 0]) ?_ rfl hf.out;obtain ⟨q0, q1, q2⟩ := reply_cells hrr.out
     simp [results, Tryz.results93, go_sem, q0, q1, q2]
    ·have hf := hid (rep_end (t := setReq s r) (k := 2) (n := 0) (by rw [HSR.out, HSB.out]; rfl) (by rw [HSR.out, HSB.out]; exact HK9.out) R49.out HB9.out HT9.out hB4w hbase)
     have hrr := hid (blk_three (x := .int .i64 2) (y := .int .i64 0) (z := .slice none 0 0) R49.out);simp only [toldV, if_true]
     go_wp2_with fail
     refine bodyPost_ret (v := .agg #[.int .i64 2, .int .i64 0, .slice none 0 0]) ?_ rfl hf.out;obtain ⟨q0, q1, q2⟩ := reply_cells hrr.out
     simp [results, Tryz.results93, go_sem, q0, q1, q2]
  have HSE3 := hid (HSE.out.trans (if_neg hk3));have k3 : (r.kind == 3) = false := by simp [hk3]
  clear hk3 HSE
  by_cases hk4 : r.kind = 4
  ·
   as_aux_lemma =>
    have HQ := hid (HSE3.out.trans (if_pos hk4));have k4 : (r.kind == 4) = true := by simp [hk4]
    clear hk4
    have HSR : Hid (setReq s r = ((live s (bl r.key)).1, ⟨3, 0, []⟩)) := by show _ = _; exact HQ.out
    have hf := hid (rep_end (t := setReq s r) (k := 3) (n := 0) (by rw [HSR.out]) (by rw [HSR.out]; exact ⟨_, _, _, _, _, Kc.out⟩) R4c.out HBc.out HTc.out hB4w hbase);have hrr := hid (blk_three (x := .int .i64 3) (y := .int .i64 0) (z := .slice none 0 0) R4c.out);obtain ⟨e0, e1, e2⟩ := reply_cells R4c.out;have ef : ∀ i, wc.frozen? ⟨B4, i, none⟩ = false := fun i => frozen_of_row wc _ _ _ _ R4c.out
    go_wp2_with fail
    refine bodyPost_ret (v := .agg #[.int .i64 3, .int .i64 0, .slice none 0 0]) ?_ rfl hf.out;obtain ⟨q0, q1, q2⟩ := reply_cells hrr.out
    simp [results, Tryz.results93, go_sem, q0, q1, q2]
  have HSE4 := hid (HSE3.out.trans (if_neg hk4));have k4 : (r.kind == 4) = false := by simp [hk4]
  clear hk4 HSE3
  by_cases hk5 : r.kind = 5 ∨ r.kind = 6
  ·
   as_aux_lemma =>
    have HQ := hid (HSE4.out.trans (if_pos hk5))
    rcases hk5 with hk5 | hk5
    ·have k5 : (r.kind == 5) = true := by simp [hk5]
     clear hk5;have HSR : Hid (setReq s r = ((live s (bl r.key)).1, ⟨3, 0, []⟩)) := by show _ = _; exact HQ.out
     have hf := hid (rep_end (t := setReq s r) (k := 3) (n := 0) (by rw [HSR.out]) (by rw [HSR.out]; exact ⟨_, _, _, _, _, Kc.out⟩) R4c.out HBc.out HTc.out hB4w hbase);have hrr := hid (blk_three (x := .int .i64 3) (y := .int .i64 0) (z := .slice none 0 0) R4c.out);obtain ⟨e0, e1, e2⟩ := reply_cells R4c.out;have ef : ∀ i, wc.frozen? ⟨B4, i, none⟩ = false := fun i => frozen_of_row wc _ _ _ _ R4c.out
     go_wp2_with fail
     refine bodyPost_ret (v := .agg #[.int .i64 3, .int .i64 0, .slice none 0 0]) ?_ rfl hf.out;obtain ⟨q0, q1, q2⟩ := reply_cells hrr.out
     simp [results, Tryz.results93, go_sem, q0, q1, q2]
    ·have k5 : (r.kind == 5) = false := by simp [hk5]
     have k6 : (r.kind == 6) = true := by simp [hk5]
     clear hk5;have HSR : Hid (setReq s r = ((live s (bl r.key)).1, ⟨3, 0, []⟩)) := by show _ = _; exact HQ.out
     have hf := hid (rep_end (t := setReq s r) (k := 3) (n := 0) (by rw [HSR.out]) (by rw [HSR.out]; exact ⟨_, _, _, _, _, Kc.out⟩) R4c.out HBc.out HTc.out hB4w hbase);have hrr := hid (blk_three (x := .int .i64 3) (y := .int .i64 0) (z := .slice none 0 0) R4c.out);obtain ⟨e0, e1, e2⟩ := reply_cells R4c.out;have ef : ∀ i, wc.frozen? ⟨B4, i, none⟩ = false := fun i => frozen_of_row wc _ _ _ _ R4c.out
     go_wp2_with fail
     refine bodyPost_ret (v := .agg #[.int .i64 3, .int .i64 0, .slice none 0 0]) ?_ rfl hf.out;obtain ⟨q0, q1, q2⟩ := reply_cells hrr.out
     simp [results, Tryz.results93, go_sem, q0, q1, q2]
  have HSE5 := hid (HSE4.out.trans (if_neg hk5));have k5 : (r.kind == 5) = false := by rw [beq_eq_false_iff_ne]; exact fun h => hk5 (.inl h)
  have k6 : (r.kind == 6) = false := by rw [beq_eq_false_iff_ne]; exact fun h => hk5 (.inr h)
  clear hk5 HSE4
  by_cases hk7 : r.kind = 7
  ·
   as_aux_lemma =>
    have HQ := hid (HSE5.out.trans (if_pos hk7));have k7 : (r.kind == 7) = true := by simp [hk7]
    clear hk7
    have HSR : Hid (setReq s r = ((live s (bl r.key)).1, ⟨5, 0, []⟩)) := by show _ = _; exact HQ.out
    have hf := hid (rep_end (t := setReq s r) (k := 5) (n := 0) (by rw [HSR.out]) (by rw [HSR.out]; exact ⟨_, _, _, _, _, Kc.out⟩) R4c.out HBc.out HTc.out hB4w hbase);have hrr := hid (blk_three (x := .int .i64 5) (y := .int .i64 0) (z := .slice none 0 0) R4c.out);obtain ⟨e0, e1, e2⟩ := reply_cells R4c.out;have ef : ∀ i, wc.frozen? ⟨B4, i, none⟩ = false := fun i => frozen_of_row wc _ _ _ _ R4c.out
    go_wp2_with fail
    refine bodyPost_ret (v := .agg #[.int .i64 5, .int .i64 0, .slice none 0 0]) ?_ rfl hf.out;obtain ⟨q0, q1, q2⟩ := reply_cells hrr.out
    simp [results, Tryz.results93, go_sem, q0, q1, q2]
  have HSE7 := hid (HSE5.out.trans (if_neg hk7));have k7 : (r.kind == 7) = false := by simp [hk7]
  clear hk7 HSE5
  ·
   as_aux_lemma =>
    have HSR : Hid (setReq s r = stored (live s (bl r.key)).1 Y) := by show _ = _; exact by rw [HYY.out]; exact HSE7.out
    have HMP : Hid (MayPut Y) := by show MayPut _; exact by rw [HYY.out]; exact may_new HS1.out HRO.out h2 h3
    go_wp2_with (refine wpList_load_row rfl 83 _ rfl B6 rfl _ _ _ _ R6c.out Tryz.underlying83 rfl (by kernel_rfl) ?_)
    refine (keeper_stored wc Kc.out HS1.out HEc.out.chunks HG.out.chunks Y HMP.out HU1.out).mono ?_;rintro e w9 ⟨rfl, hk9, hb9, ht9⟩;have R49 := hid ((ht9 _ _ _ _ R4c.out ⟨by decide, by decide⟩).trans R4c.out);have HK9 := hid hk9;have HB9 := hid (HBc.out.trans hb9);have HT9 : Hid (KeptT Oth w w9) := HTc.out.trans ht9;obtain ⟨e0, e1, e2⟩ := reply_cells R49.out;have ef : ∀ i, w9.frozen? ⟨B4, i, none⟩ = false := fun i => frozen_of_row w9 _ _ _ _ R49.out
    obtain ⟨b, hb⟩ : ∃ b, b = (put (live s (bl r.key)).1 Y).2 := ⟨_, rfl⟩;have HSB : Hid (stored (live s (bl r.key)).1 Y = ((put (live s (bl r.key)).1 Y).1, if b then told 2 else told 11)) := by rw [hb]; rfl
    rw [← hb];clear hk9 hb9 ht9 hb
    cases b
    ·have hf := hid (rep_end (t := setReq s r) (k := 11) (n := 0) (by rw [HSR.out, HSB.out]; rfl) (by rw [HSR.out, HSB.out]; exact HK9.out) R49.out HB9.out HT9.out hB4w hbase)
     have hrr := hid (blk_three (x := .int .i64 11) (y := .int .i64 0) (z := .slice none 0 0) R49.out);simp only [toldV, Bool.false_eq_true, if_false]
     go_wp2_with fail
     refine bodyPost_ret (v := .agg #[.int .i64 11, .int .i64 0, .slice none 0 0]) ?_ rfl hf.out;obtain ⟨q0, q1, q2⟩ := reply_cells hrr.out
     simp [results, Tryz.results93, go_sem, q0, q1, q2]
    ·have hf := hid (rep_end (t := setReq s r) (k := 2) (n := 0) (by rw [HSR.out, HSB.out]; rfl) (by rw [HSR.out, HSB.out]; exact HK9.out) R49.out HB9.out HT9.out hB4w hbase)
     have hrr := hid (blk_three (x := .int .i64 2) (y := .int .i64 0) (z := .slice none 0 0) R49.out);simp only [toldV, if_true]
     go_wp2_with fail
     refine bodyPost_ret (v := .agg #[.int .i64 2, .int .i64 0, .slice none 0 0]) ?_ rfl hf.out;obtain ⟨q0, q1, q2⟩ := reply_cells hrr.out
     simp [results, Tryz.results93, go_sem, q0, q1, q2]
 | some i =>
  obtain ⟨l1, -, hi, -⟩ := live_some HLI.out;have HL1 := hid l1;obtain ⟨x, hx⟩ : ∃ x, x = s.items[i] := ⟨_, rfl⟩;have HX := hid hx;have HXI : Hid (s.items[i]? = some x) := by show _ = _; rw [List.getElem?_eq_getElem hi, hx]
  have HXM : Hid (x ∈ s.items) := by rw [hx]; exact List.getElem_mem hi
  clear l1 hx;simp only [idxOf];have hi0 : ¬ (i : Int) < 0 := by omega
  have hi1 : (0 : Int) ≤ (i : Int) := by omega
  have HSE := hid (set_some (r := r) HLI.out HL1.out hi)
  by_cases hk3 : r.kind = 3
  ·
   as_aux_lemma =>
    have HQ := hid (HSE.out.trans (if_pos hk3));have k3 : (r.kind == 3) = true := by simp [hk3]
    clear hk3
    have HSR : Hid (setReq s r = ((live s (bl r.key)).1, ⟨3, 0, []⟩)) := by show _ = _; exact by rw [HQ.out, HL1.out]; rfl
    have hf := hid (rep_end (t := setReq s r) (k := 3) (n := 0) (by rw [HSR.out]) (by rw [HSR.out]; exact ⟨_, _, _, _, _, Kc.out⟩) R4c.out HBc.out HTc.out hB4w hbase);have hrr := hid (blk_three (x := .int .i64 3) (y := .int .i64 0) (z := .slice none 0 0) R4c.out);obtain ⟨e0, e1, e2⟩ := reply_cells R4c.out;have ef : ∀ i, wc.frozen? ⟨B4, i, none⟩ = false := fun i => frozen_of_row wc _ _ _ _ R4c.out
    go_wp2_with fail
    refine bodyPost_ret (v := .agg #[.int .i64 3, .int .i64 0, .slice none 0 0]) ?_ rfl hf.out;obtain ⟨q0, q1, q2⟩ := reply_cells hrr.out
    simp [results, Tryz.results93, go_sem, q0, q1, q2]
  have HSE3 := hid (HSE.out.trans (if_neg hk3));have k3 : (r.kind == 3) = false := by simp [hk3]
  clear hk3 HSE
  by_cases hk4 : r.kind = 4
  ·
   as_aux_lemma =>
    have HQ := hid (HSE3.out.trans (if_pos hk4));have k4 : (r.kind == 4) = true := by simp [hk4]
    clear hk4
    have HSR : Hid (setReq s r = stored (live s (bl r.key)).1 Y) := by show _ = _; exact by rw [HYY.out, HL1.out]; exact HQ.out
    have HMP : Hid (MayPut Y) := by show MayPut _; exact by rw [HYY.out]; exact may_new HS1.out HRO.out h2 h3
    go_wp2_with (refine wpList_load_row rfl 83 _ rfl B6 rfl _ _ _ _ R6c.out Tryz.underlying83 rfl (by kernel_rfl) ?_)
    refine (keeper_stored wc Kc.out HS1.out HEc.out.chunks HG.out.chunks Y HMP.out HU1.out).mono ?_;rintro e w9 ⟨rfl, hk9, hb9, ht9⟩;have R49 := hid ((ht9 _ _ _ _ R4c.out ⟨by decide, by decide⟩).trans R4c.out);have HK9 := hid hk9;have HB9 := hid (HBc.out.trans hb9);have HT9 : Hid (KeptT Oth w w9) := HTc.out.trans ht9;obtain ⟨e0, e1, e2⟩ := reply_cells R49.out;have ef : ∀ i, w9.frozen? ⟨B4, i, none⟩ = false := fun i => frozen_of_row w9 _ _ _ _ R49.out
    obtain ⟨b, hb⟩ : ∃ b, b = (put (live s (bl r.key)).1 Y).2 := ⟨_, rfl⟩;have HSB : Hid (stored (live s (bl r.key)).1 Y = ((put (live s (bl r.key)).1 Y).1, if b then told 2 else told 11)) := by rw [hb]; rfl
    rw [← hb];clear hk9 hb9 ht9 hb
    cases b
    ·have hf := hid (rep_end (t := setReq s r) (k := 11) (n := 0) (by rw [HSR.out, HSB.out]; rfl) (by rw [HSR.out, HSB.out]; exact HK9.out) R49.out HB9.out HT9.out hB4w hbase)
     have hrr := hid (blk_three (x := .int .i64 11) (y := .int .i64 0) (z := .slice none 0 0) R49.out);simp only [toldV, Bool.false_eq_true, if_false]
     go_wp2_with fail
     refine bodyPost_ret (v := .agg #[.int .i64 11, .int .i64 0, .slice none 0 0]) ?_ rfl hf.out;obtain ⟨q0, q1, q2⟩ := reply_cells hrr.out
     simp [results, Tryz.results93, go_sem, q0, q1, q2]
    ·have hf := hid (rep_end (t := setReq s r) (k := 2) (n := 0) (by rw [HSR.out, HSB.out]; rfl) (by rw [HSR.out, HSB.out]; exact HK9.out) R49.out HB9.out HT9.out hB4w hbase)
     have hrr := hid (blk_three (x := .int .i64 2) (y := .int .i64 0) (z := .slice none 0 0) R49.out);simp only [toldV, if_true]
     go_wp2_with fail
     refine bodyPost_ret (v := .agg #[.int .i64 2, .int .i64 0, .slice none 0 0]) ?_ rfl hf.out;obtain ⟨q0, q1, q2⟩ := reply_cells hrr.out
     simp [results, Tryz.results93, go_sem, q0, q1, q2]
  have HSE4 := hid (HSE3.out.trans (if_neg hk4));have k4 : (r.kind == 4) = false := by simp [hk4]
  clear hk4 HSE3
  by_cases hk5 : r.kind = 5 ∨ r.kind = 6
  ·
   have HQ := hid (HSE4.out.trans (if_pos hk5))
   rcases hk5 with hk5 | hk5
   ·
    as_aux_lemma =>
     have k5 : (r.kind == 5) = true := by simp [hk5]
     have k6 : (r.kind == 6) = false := by simp [hk5]
     have HK5 := hid hk5;clear hk5;obtain ⟨gi, cap, hv, hbg, hgl, hnc, hcm, -⟩ := own_shape Kc.out.own (by rw [HL1.out]; omega);simp only [Value.slice.injEq, true_and] at hv;obtain ⟨rfl, rfl⟩ := hv;have hcm := le_maxLen hcm;have hl := HS1.out.len;have hil : i < (live s (bl r.key)).1.items.length := by rw [HL1.out]; exact hi
     have HXJ : Hid ((live s (bl r.key)).1.items[i]? = some x) := by show _ = _; rw [HL1.out]; exact HXI.out
     obtain ⟨d0, d1, d2, d3, d4, d5, d6, d7, d8⟩ := own_item Kc.out.own HXJ.out;have c8 := Kc.out.cells.2.2.2.2.2.2.2.2.1;have hgk := Kc.out.lt;obtain ⟨ln, hln⟩ : ∃ ln, ln = (live s (bl r.key)).1.items.length := ⟨_, rfl⟩;rw [← hln] at c8 hil hl hnc;clear hln;go_upto_region 15 with (fail);obtain ⟨W7, hW7⟩ : ∃ W7, W7 = wc.alloc (.cells #[.string x.key, .int .i64 x.flags, .int .i64 x.till, .int .i64 x.cas, .int .i64 x.used, .string x.value, .bool x.far, .int .i64 x.place.page, .int .i64 x.place.off] 83) := ⟨_, rfl⟩;have hb7 := below_new hW7;have R77 : Hid (W7.heap[wc.heap.size]? = some (.cells #[.string x.key, .int .i64 x.flags, .int .i64 x.till, .int .i64 x.cas, .int .i64 x.used, .string x.value, .bool x.far, .int .i64 x.place.page, .int .i64 x.place.off] 83 (0, 0))) := by show _ = _; rw [hW7]; exact blk_new wc _
     rw [← hW7];clear hW7;obtain ⟨B7, hB7⟩ : ∃ B7, B7 = wc.heap.size := ⟨_, rfl⟩;rw [← hB7] at R77 ⊢;have h67 : B6 ≠ B7 := by have := (blt R6c.out); omega
     clear hB7;have K7 := hid (Kc.out.below hb7);have HB7 := hid (HBc.out.trans (hb7.mono Kc.out.base_le));have HT7 : Hid (KeptT Oth w W7) := HTc.out.trans (KeptT.below hb7);have R37 := hid (bkp hb7 R3c.out);have R47 := hid (bkp hb7 R4c.out);have R67 := hid (bkp hb7 R6c.out);have h63 : B6 ≠ B3 := blk_ne R67.out R37.out (by decide);clear hb7 R3c R4c R6c Kc HBc HTc HEc u0 c8 hgk hgl hnc hl hil hbg d0 d1 d2 d3 d4 d5 d6 d7 d8;obtain ⟨v, hv⟩ : ∃ v, v = valueOf (live s (bl r.key)).1 x := ⟨_, rfl⟩;have HV := hid hv.symm;have hvs : v.size ≤ 200 := by rw [hv, HL1.out]; exact value_size HS.out HXM.out
     clear hv;obtain ⟨u0, -, -, -, -, -, u6, -⟩ := req_cells R37.out;have x1 : W7.cell? ⟨B7, 1, none⟩ = some (.int .i64 x.flags) := cor R77.out rfl;have x2 : W7.cell? ⟨B7, 2, none⟩ = some (.int .i64 x.till) := cor R77.out rfl;have hadd : ¬ 9223372036854775807 < v.size + r.value.size := by omega
     have hadd2 : ¬ 9223372036854775807 < r.value.size + v.size := by omega
     refine wp_region_L (fun w' => w'.heap[B7]? = W7.heap[B7]? ∧ w'.heap[B3]? = W7.heap[B3]?) 15 16 (by kernel_rfl) (by kernel_rfl) ⟨rfl, rfl⟩ (fun hHeld => ?_);refine tk 0 ?_ rfl (fun _ _ _ h=>h) (y:=?_) (h:=?_);rotate_left
     ·intro wS hSw; go_simp<;>with_reducible rfl
     walk_nrm;refine tk 1 ?_ rfl (fun _ _ _ h=>h) (y:=?_) (h:=?_);rotate_left
     ·intro wS hSw; have q1 := (World.cell?_of_block (a := ⟨B7, 1, none⟩) hSw.1).trans x1; go_simp<;>with_reducible rfl
     walk_nrm;refine tk 2 ?_ rfl (fun _ _ _ h=>h) (y:=?_) (h:=?_);rotate_left
     ·intro wS hSw; go_simp<;>with_reducible rfl
     walk_nrm;refine tk 3 ?_ rfl (fun _ _ _ h=>h) (y:=?_) (h:=?_);rotate_left
     ·intro wS hSw; have q1 := (World.cell?_of_block (a := ⟨B7, 2, none⟩) hSw.1).trans x2; go_simp<;>with_reducible rfl
     walk_nrm;refine tk 4 ?_ rfl (fun _ _ _ h=>h) (y:=?_) (h:=?_);rotate_left
     ·intro wS hSw; go_simp<;>with_reducible rfl
     walk_nrm;refine tk 5 ?_ rfl (fun _ _ _ h=>h) (y:=?_) (h:=?_);rotate_left
     ·intro wS hSw; go_simp<;>with_reducible rfl
     walk_nrm;refine tk 7 ?_ rfl (fun _ _ _ h=>h) (y:=?_) (h:=?_);rotate_left
     ·intro wS hSw; go_simp<;>with_reducible rfl
     walk_nrm;refine tk 8 ?_ rfl (fun _ _ _ h=>h) (y:=?_) (h:=?_);rotate_left
     ·intro wS hSw; have q1 := (World.cell?_of_block (a := ⟨B3, 6, none⟩) hSw.2).trans u6; go_simp<;>with_reducible rfl
     walk_nrm;refine tk 10 ?_ rfl (fun _ _ _ h=>h) (y:=?_) (h:=?_);rotate_left
     ·intro wS hSw; go_simp<;>with_reducible rfl
     walk_nrm;refine wpAnyL_one 6 (by kernel_rfl) ?_;refine ComesUp.mk rfl (fun K hK => ?_);go_simp;refine (keeper_value W7.drew (K7.out.below (Below.drew (Below.refl _ _))) HS1.out i x HXJ.out v HV).mono ?_;rintro e w8 ⟨rfl, hb8⟩;have hb8 : Below W7.heap.size W7 w8 := (Below.drew (Below.refl _ _)).trans hb8;have K8 := hid (K7.out.below hb8);have HB8 := hid (HB7.out.trans (hb8.mono K7.out.base_le));have HT8 : Hid (KeptT Oth w w8) := HT7.out.trans (KeptT.below hb8);have R38 := hid (bkp hb8 R37.out);have R48 := hid (bkp hb8 R47.out);have R68 := hid (bkp hb8 R67.out);have S8 : w8.heap[B7]? = W7.heap[B7]? ∧ w8.heap[B3]? = W7.heap[B3]? := ⟨hb8.block _ (blt R77.out), hb8.block _ (blt R37.out)⟩;show K _ w8;refine hK.out _ _ S8 ?_;clear hK K hHeld hb8;intro hHeld;walk_nrm;refine tk 9 ?_ rfl (fun _ _ _ h=>h) (y:=?_) (h:=?_);rotate_left
     ·intro wS hSw; go_simp<;>with_reducible rfl
     walk_nrm;have t1 : w8.cell? ⟨B6, 1, none⟩ = some (.int .i64 Y.flags) := cor R68.out rfl;have t2 : w8.cell? ⟨B6, 2, none⟩ = some (.int .i64 Y.till) := cor R68.out rfl;have t5 : w8.cell? ⟨B6, 5, none⟩ = some (.string Y.value) := cor R68.out rfl;have tf : ∀ i, w8.frozen? ⟨B6, i, none⟩ = false := fun i => frozen_of_row w8 _ _ _ _ R68.out
     refine wpAnyL_one 11 (by kernel_rfl) ?_;refine ComesUp.mk rfl (fun K hK => ?_);go_simp;refine hK.out _ _ ⟨blk_off S8.1 h67.symm, blk_off S8.2 h63.symm⟩ ?_;clear hK K hHeld;intro hHeld;walk_nrm;refine tk 12 ?_ rfl (fun _ _ _ h=>h) (y:=?_) (h:=?_);rotate_left
     ·intro wS hSw; go_simp<;>with_reducible rfl
     walk_nrm;refine wpAnyL_one 13 (by kernel_rfl) ?_;refine ComesUp.mk rfl (fun K hK => ?_);go_simp;refine hK.out _ _ ⟨blk_off (blk_off S8.1 h67.symm) h67.symm, blk_off (blk_off S8.2 h63.symm) h63.symm⟩ ?_;clear hK K hHeld;intro hHeld;walk_nrm;refine tk 14 ?_ rfl (fun _ _ _ h=>h) (y:=?_) (h:=?_);rotate_left
     ·intro wS hSw; go_simp<;>with_reducible rfl
     walk_nrm;refine wpAnyL_last rfl (by kernel_rfl) (fun K hK => ?_);go_simp;refine hK.out _ _ ?_;clear hK K;walk_nrm;refine wpAnyL_done (by kernel_rfl) ?_ _;obtain ⟨val, hval⟩ : ∃ val, val = v ++ r.value := ⟨_, rfl⟩;obtain ⟨W9, hW9⟩ : ∃ W9, W9 = ((w8.setCell ⟨B6, 1, none⟩ (.int .i64 x.flags)).setCell ⟨B6, 2, none⟩ (.int .i64 x.till)).setCell ⟨B6, 5, none⟩ (.string (v ++ r.value)) := ⟨_, rfl⟩;rw [← hW9];have hbut : But B6 w8 W9 := by rw [hW9]; exact (But.set.trans But.set).trans But.set
     have K9 := hid (K8.out.off hbut R68.out hgB6 HNB.out);have HB9 : Hid (Below base w W9) := by rw [hW9]; exact HB8.out.trans (((below_set w8 (j := 1) (.int .i64 x.flags) hB6b).trans (below_set _ (j := 2) (.int .i64 x.till) hB6b)).trans (below_set _ (j := 5) (.string (v ++ r.value)) hB6b))
     have HT9 : Hid (KeptT Oth w W9) := HT8.out.trans ((But.keptT R68.out hbut).mono (fun _ h => h.2));have R39 := hid ((hbut.2 B3 (blt R38.out) h63.symm).trans R38.out);have R49 := hid ((hbut.2 B4 (blt R48.out) (blk_ne R48.out R68.out (by decide))).trans R48.out)
     have R69 : Hid (W9.heap[B6]? = some (.cells #[.string r.key, .int .i64 x.flags, .int .i64 x.till, .int .i64 0, .int .i64 0, .string val, .bool false, .int .i64 0, .int .i64 0] 83 (0, 0))) := by
      have hr := R68.out;rw [HYA.out] at hr;rw [hW9, hval];show (World.setCell _ _ _).heap[B6]? = _
      simp [World.setCell, Array.getElem?_modify, hr]
     have HVL := hid hval;clear hW9 hbut hval hHeld S8 t1 t2 t5 tf x1 x2 u0 u6 K7 K8 HB7 HB8 HT7 HT8 R37 R38 R47 R48 R67 R68 R77;obtain ⟨u0, -, -, -, -, -, u6, -⟩ := req_cells R39.out;obtain ⟨WX, rfl⟩ : ∃ WX : World, WX = W9 := ⟨_, rfl⟩;have KX := K9;have R4X := R49;have R6X := R69;have HBX := HB9;have HTX := HT9;obtain ⟨Z, hZ⟩ : ∃ Z : Item, Z = ⟨r.key, x.flags, x.till, 0, 0, val, false, ⟨0, 0⟩⟩ := ⟨_, rfl⟩
     have HZG : Hid (Z = grownItem (live s (bl r.key)).1 r x) := by
      show _ = _;rw [hZ, HVL.out]; unfold grownItem; rw [HK5.out, HV.out]; rfl
     have R6Z : Hid (WX.heap[B6]? = some (.cells #[.string Z.key, .int .i64 Z.flags, .int .i64 Z.till, .int .i64 Z.cas, .int .i64 Z.used, .string Z.value, .bool Z.far, .int .i64 Z.place.page, .int .i64 Z.place.off] 83 (0, 0))) := by rw [hZ]; exact R6X.out
     have HQ2 : Hid (setReq s r = if 200 < Z.value.size then ((live s (bl r.key)).1, told 11) else stored (live s (bl r.key)).1 Z) := by
      show _ = _;rw [HQ.out, HZG.out, HL1.out, ← HX.out]
     clear hZ;have z5 : WX.cell? ⟨B6, 5, none⟩ = some (.string Z.value) := cor R6Z.out rfl
     by_cases hsz : 200 < Z.value.size
     ·have hsz2 : (200 : Int) < (Z.value.size : Int) := by omega
      have HQ3 := hid (HQ2.out.trans (if_pos hsz));clear HQ2;have HSR : Hid (setReq s r = ((live s (bl r.key)).1, ⟨11, 0, []⟩)) := by show _ = _; exact HQ3.out
      have hf := hid (rep_end (t := setReq s r) (k := 11) (n := 0) (by rw [HSR.out]) (by rw [HSR.out]; exact ⟨_, _, _, _, _, KX.out⟩) R4X.out HBX.out HTX.out hB4w hbase);have hrr := hid (blk_three (x := .int .i64 11) (y := .int .i64 0) (z := .slice none 0 0) R4X.out);obtain ⟨e0, e1, e2⟩ := reply_cells R4X.out;have ef : ∀ i, WX.frozen? ⟨B4, i, none⟩ = false := fun i => frozen_of_row WX _ _ _ _ R4X.out
      go_wp2_with fail
      refine bodyPost_ret (v := .agg #[.int .i64 11, .int .i64 0, .slice none 0 0]) ?_ rfl hf.out;obtain ⟨q0, q1, q2⟩ := reply_cells hrr.out
      simp [results, Tryz.results93, go_sem, q0, q1, q2]
     ·have hsz2 : ¬ (200 : Int) < (Z.value.size : Int) := by omega
      have HQ3 := hid (HQ2.out.trans (if_neg hsz))
      have HMZ : Hid (MayPut Z) := by
       have hin := HS1.out.items x (by rw [HL1.out]; exact HXM.out);show MayPut _;rw [HZG.out] at hsz ⊢;exact may_grown hin HRO.out h2 h3 hsz
      have HEX := hid (HE.out.below HG.out HBX.out);clear HQ2 hsz;have HSR : Hid (setReq s r = stored (live s (bl r.key)).1 Z) := by show _ = _; exact HQ3.out
      have HMP : Hid (MayPut Z) := by show MayPut _; exact HMZ.out
      go_wp2_with (refine wpList_load_row rfl 83 _ rfl B6 rfl _ _ _ _ R6Z.out Tryz.underlying83 rfl (by kernel_rfl) ?_)
      refine (keeper_stored _ KX.out HS1.out HEX.out.chunks HG.out.chunks Z HMP.out HU1.out).mono ?_;rintro e w9 ⟨rfl, hk9, hb9, ht9⟩;have R49 := hid ((ht9 _ _ _ _ R4X.out ⟨by decide, by decide⟩).trans R4X.out);have HK9 := hid hk9;have HB9 := hid (HBX.out.trans hb9);have HT9 : Hid (KeptT Oth w w9) := HTX.out.trans ht9;obtain ⟨e0, e1, e2⟩ := reply_cells R49.out;have ef : ∀ i, w9.frozen? ⟨B4, i, none⟩ = false := fun i => frozen_of_row w9 _ _ _ _ R49.out
      obtain ⟨b, hb⟩ : ∃ b, b = (put (live s (bl r.key)).1 Z).2 := ⟨_, rfl⟩;have HSB : Hid (stored (live s (bl r.key)).1 Z = ((put (live s (bl r.key)).1 Z).1, if b then told 2 else told 11)) := by rw [hb]; rfl
      rw [← hb];clear hk9 hb9 ht9 hb
      cases b
      ·have hf := hid (rep_end (t := setReq s r) (k := 11) (n := 0) (by rw [HSR.out, HSB.out]; rfl) (by rw [HSR.out, HSB.out]; exact HK9.out) R49.out HB9.out HT9.out hB4w hbase)
       have hrr := hid (blk_three (x := .int .i64 11) (y := .int .i64 0) (z := .slice none 0 0) R49.out);simp only [toldV, Bool.false_eq_true, if_false]
       go_wp2_with fail
       refine bodyPost_ret (v := .agg #[.int .i64 11, .int .i64 0, .slice none 0 0]) ?_ rfl hf.out;obtain ⟨q0, q1, q2⟩ := reply_cells hrr.out
       simp [results, Tryz.results93, go_sem, q0, q1, q2]
      ·have hf := hid (rep_end (t := setReq s r) (k := 2) (n := 0) (by rw [HSR.out, HSB.out]; rfl) (by rw [HSR.out, HSB.out]; exact HK9.out) R49.out HB9.out HT9.out hB4w hbase)
       have hrr := hid (blk_three (x := .int .i64 2) (y := .int .i64 0) (z := .slice none 0 0) R49.out);simp only [toldV, if_true]
       go_wp2_with fail
       refine bodyPost_ret (v := .agg #[.int .i64 2, .int .i64 0, .slice none 0 0]) ?_ rfl hf.out;obtain ⟨q0, q1, q2⟩ := reply_cells hrr.out
       simp [results, Tryz.results93, go_sem, q0, q1, q2]
   ·
    as_aux_lemma =>
     have k5 : (r.kind == 5) = false := by simp [hk5]
     have k6 : (r.kind == 6) = true := by simp [hk5]
     have HK5 := hid hk5;clear hk5;obtain ⟨gi, cap, hv, hbg, hgl, hnc, hcm, -⟩ := own_shape Kc.out.own (by rw [HL1.out]; omega);simp only [Value.slice.injEq, true_and] at hv;obtain ⟨rfl, rfl⟩ := hv;have hcm := le_maxLen hcm;have hl := HS1.out.len;have hil : i < (live s (bl r.key)).1.items.length := by rw [HL1.out]; exact hi
     have HXJ : Hid ((live s (bl r.key)).1.items[i]? = some x) := by show _ = _; rw [HL1.out]; exact HXI.out
     obtain ⟨d0, d1, d2, d3, d4, d5, d6, d7, d8⟩ := own_item Kc.out.own HXJ.out;have c8 := Kc.out.cells.2.2.2.2.2.2.2.2.1;have hgk := Kc.out.lt;obtain ⟨ln, hln⟩ : ∃ ln, ln = (live s (bl r.key)).1.items.length := ⟨_, rfl⟩;rw [← hln] at c8 hil hl hnc;clear hln;go_upto_region 15 with (fail);obtain ⟨W7, hW7⟩ : ∃ W7, W7 = wc.alloc (.cells #[.string x.key, .int .i64 x.flags, .int .i64 x.till, .int .i64 x.cas, .int .i64 x.used, .string x.value, .bool x.far, .int .i64 x.place.page, .int .i64 x.place.off] 83) := ⟨_, rfl⟩;have hb7 := below_new hW7;have R77 : Hid (W7.heap[wc.heap.size]? = some (.cells #[.string x.key, .int .i64 x.flags, .int .i64 x.till, .int .i64 x.cas, .int .i64 x.used, .string x.value, .bool x.far, .int .i64 x.place.page, .int .i64 x.place.off] 83 (0, 0))) := by show _ = _; rw [hW7]; exact blk_new wc _
     rw [← hW7];clear hW7;obtain ⟨B7, hB7⟩ : ∃ B7, B7 = wc.heap.size := ⟨_, rfl⟩;rw [← hB7] at R77 ⊢;have h67 : B6 ≠ B7 := by have := (blt R6c.out); omega
     clear hB7;have K7 := hid (Kc.out.below hb7);have HB7 := hid (HBc.out.trans (hb7.mono Kc.out.base_le));have HT7 : Hid (KeptT Oth w W7) := HTc.out.trans (KeptT.below hb7);have R37 := hid (bkp hb7 R3c.out);have R47 := hid (bkp hb7 R4c.out);have R67 := hid (bkp hb7 R6c.out);have h63 : B6 ≠ B3 := blk_ne R67.out R37.out (by decide);clear hb7 R3c R4c R6c Kc HBc HTc HEc u0 c8 hgk hgl hnc hl hil hbg d0 d1 d2 d3 d4 d5 d6 d7 d8;obtain ⟨v, hv⟩ : ∃ v, v = valueOf (live s (bl r.key)).1 x := ⟨_, rfl⟩;have HV := hid hv.symm;have hvs : v.size ≤ 200 := by rw [hv, HL1.out]; exact value_size HS.out HXM.out
     clear hv;obtain ⟨u0, -, -, -, -, -, u6, -⟩ := req_cells R37.out;have x1 : W7.cell? ⟨B7, 1, none⟩ = some (.int .i64 x.flags) := cor R77.out rfl;have x2 : W7.cell? ⟨B7, 2, none⟩ = some (.int .i64 x.till) := cor R77.out rfl;have hadd : ¬ 9223372036854775807 < v.size + r.value.size := by omega
     have hadd2 : ¬ 9223372036854775807 < r.value.size + v.size := by omega
     refine wp_region_L (fun w' => w'.heap[B7]? = W7.heap[B7]? ∧ w'.heap[B3]? = W7.heap[B3]?) 15 16 (by kernel_rfl) (by kernel_rfl) ⟨rfl, rfl⟩ (fun hHeld => ?_);refine tk 0 ?_ rfl (fun _ _ _ h=>h) (y:=?_) (h:=?_);rotate_left
     ·intro wS hSw; go_simp<;>with_reducible rfl
     walk_nrm;refine tk 1 ?_ rfl (fun _ _ _ h=>h) (y:=?_) (h:=?_);rotate_left
     ·intro wS hSw; have q1 := (World.cell?_of_block (a := ⟨B7, 1, none⟩) hSw.1).trans x1; go_simp<;>with_reducible rfl
     walk_nrm;refine tk 2 ?_ rfl (fun _ _ _ h=>h) (y:=?_) (h:=?_);rotate_left
     ·intro wS hSw; go_simp<;>with_reducible rfl
     walk_nrm;refine tk 3 ?_ rfl (fun _ _ _ h=>h) (y:=?_) (h:=?_);rotate_left
     ·intro wS hSw; have q1 := (World.cell?_of_block (a := ⟨B7, 2, none⟩) hSw.1).trans x2; go_simp<;>with_reducible rfl
     walk_nrm;refine tk 4 ?_ rfl (fun _ _ _ h=>h) (y:=?_) (h:=?_);rotate_left
     ·intro wS hSw; go_simp<;>with_reducible rfl
     walk_nrm;refine tk 5 ?_ rfl (fun _ _ _ h=>h) (y:=?_) (h:=?_);rotate_left
     ·intro wS hSw; go_simp<;>with_reducible rfl
     walk_nrm;refine tk 7 ?_ rfl (fun _ _ _ h=>h) (y:=?_) (h:=?_);rotate_left
     ·intro wS hSw; go_simp<;>with_reducible rfl
     walk_nrm;refine tk 8 ?_ rfl (fun _ _ _ h=>h) (y:=?_) (h:=?_);rotate_left
     ·intro wS hSw; have q1 := (World.cell?_of_block (a := ⟨B3, 6, none⟩) hSw.2).trans u6; go_simp<;>with_reducible rfl
     walk_nrm;refine tk 10 ?_ rfl (fun _ _ _ h=>h) (y:=?_) (h:=?_);rotate_left
     ·intro wS hSw; go_simp<;>with_reducible rfl
     walk_nrm;refine wpAnyL_one 6 (by kernel_rfl) ?_;refine ComesUp.mk rfl (fun K hK => ?_);go_simp;refine (keeper_value W7.drew (K7.out.below (Below.drew (Below.refl _ _))) HS1.out i x HXJ.out v HV).mono ?_;rintro e w8 ⟨rfl, hb8⟩;have hb8 : Below W7.heap.size W7 w8 := (Below.drew (Below.refl _ _)).trans hb8;have K8 := hid (K7.out.below hb8);have HB8 := hid (HB7.out.trans (hb8.mono K7.out.base_le));have HT8 : Hid (KeptT Oth w w8) := HT7.out.trans (KeptT.below hb8);have R38 := hid (bkp hb8 R37.out);have R48 := hid (bkp hb8 R47.out);have R68 := hid (bkp hb8 R67.out);have S8 : w8.heap[B7]? = W7.heap[B7]? ∧ w8.heap[B3]? = W7.heap[B3]? := ⟨hb8.block _ (blt R77.out), hb8.block _ (blt R37.out)⟩;show K _ w8;refine hK.out _ _ S8 ?_;clear hK K hHeld hb8;intro hHeld;walk_nrm;refine tk 9 ?_ rfl (fun _ _ _ h=>h) (y:=?_) (h:=?_);rotate_left
     ·intro wS hSw; go_simp<;>with_reducible rfl
     walk_nrm;have t1 : w8.cell? ⟨B6, 1, none⟩ = some (.int .i64 Y.flags) := cor R68.out rfl;have t2 : w8.cell? ⟨B6, 2, none⟩ = some (.int .i64 Y.till) := cor R68.out rfl;have t5 : w8.cell? ⟨B6, 5, none⟩ = some (.string Y.value) := cor R68.out rfl;have tf : ∀ i, w8.frozen? ⟨B6, i, none⟩ = false := fun i => frozen_of_row w8 _ _ _ _ R68.out
     refine wpAnyL_one 11 (by kernel_rfl) ?_;refine ComesUp.mk rfl (fun K hK => ?_);go_simp;refine hK.out _ _ ⟨blk_off S8.1 h67.symm, blk_off S8.2 h63.symm⟩ ?_;clear hK K hHeld;intro hHeld;walk_nrm;refine tk 12 ?_ rfl (fun _ _ _ h=>h) (y:=?_) (h:=?_);rotate_left
     ·intro wS hSw; go_simp<;>with_reducible rfl
     walk_nrm;refine wpAnyL_one 13 (by kernel_rfl) ?_;refine ComesUp.mk rfl (fun K hK => ?_);go_simp;refine hK.out _ _ ⟨blk_off (blk_off S8.1 h67.symm) h67.symm, blk_off (blk_off S8.2 h63.symm) h63.symm⟩ ?_;clear hK K hHeld;intro hHeld;walk_nrm;refine tk 14 ?_ rfl (fun _ _ _ h=>h) (y:=?_) (h:=?_);rotate_left
     ·intro wS hSw; go_simp<;>with_reducible rfl
     walk_nrm;refine wpAnyL_last rfl (by kernel_rfl) (fun K hK => ?_);go_simp;refine hK.out _ _ ?_;clear hK K;walk_nrm;refine wpAnyL_done (by kernel_rfl) ?_ _;obtain ⟨val, hval⟩ : ∃ val, val = v ++ r.value := ⟨_, rfl⟩;obtain ⟨W9, hW9⟩ : ∃ W9, W9 = ((w8.setCell ⟨B6, 1, none⟩ (.int .i64 x.flags)).setCell ⟨B6, 2, none⟩ (.int .i64 x.till)).setCell ⟨B6, 5, none⟩ (.string (v ++ r.value)) := ⟨_, rfl⟩;rw [← hW9];have hbut : But B6 w8 W9 := by rw [hW9]; exact (But.set.trans But.set).trans But.set
     have K9 := hid (K8.out.off hbut R68.out hgB6 HNB.out);have HB9 : Hid (Below base w W9) := by rw [hW9]; exact HB8.out.trans (((below_set w8 (j := 1) (.int .i64 x.flags) hB6b).trans (below_set _ (j := 2) (.int .i64 x.till) hB6b)).trans (below_set _ (j := 5) (.string (v ++ r.value)) hB6b))
     have HT9 : Hid (KeptT Oth w W9) := HT8.out.trans ((But.keptT R68.out hbut).mono (fun _ h => h.2));have R39 := hid ((hbut.2 B3 (blt R38.out) h63.symm).trans R38.out);have R49 := hid ((hbut.2 B4 (blt R48.out) (blk_ne R48.out R68.out (by decide))).trans R48.out)
     have R69 : Hid (W9.heap[B6]? = some (.cells #[.string r.key, .int .i64 x.flags, .int .i64 x.till, .int .i64 0, .int .i64 0, .string val, .bool false, .int .i64 0, .int .i64 0] 83 (0, 0))) := by
      have hr := R68.out;rw [HYA.out] at hr;rw [hW9, hval];show (World.setCell _ _ _).heap[B6]? = _
      simp [World.setCell, Array.getElem?_modify, hr]
     have HVL := hid hval;clear hW9 hbut hval hHeld S8 t1 t2 t5 tf x1 x2 u0 u6 K7 K8 HB7 HB8 HT7 HT8 R37 R38 R47 R48 R67 R68 R77;obtain ⟨u0, -, -, -, -, -, u6, -⟩ := req_cells R39.out;go_upto_region 17 with (fail);refine wp_region_L (fun w' => w'.heap[B3]? = W9.heap[B3]?) 7 8 (by kernel_rfl) (by kernel_rfl) rfl (fun hHeld => ?_);refine tk 0 ?_ rfl (fun _ _ _ h=>h) (y:=?_) (h:=?_);rotate_left
     ·intro wS hSw; go_simp<;>with_reducible rfl
     walk_nrm;refine tk 1 ?_ rfl (fun _ _ _ h=>h) (y:=?_) (h:=?_);rotate_left
     ·intro wS hSw; have q1 := (World.cell?_of_block (a := ⟨B3, 6, none⟩) hSw).trans u6; go_simp<;>with_reducible rfl
     walk_nrm;refine tk 2 ?_ rfl (fun _ _ _ h=>h) (y:=?_) (h:=?_);rotate_left
     ·intro wS hSw; go_simp<;>with_reducible rfl
     walk_nrm;refine tk 3 ?_ rfl (fun _ _ _ h=>h) (y:=?_) (h:=?_);rotate_left
     ·intro wS hSw; go_simp<;>with_reducible rfl
     walk_nrm;refine wpAnyL_one 4 (by kernel_rfl) ?_;refine ComesUp.mk rfl (fun K hK => ?_);go_simp;refine (keeper_value W9.drew (K9.out.below (Below.drew (Below.refl _ _))) HS1.out i x HXJ.out v HV).mono ?_;rintro e w8 ⟨rfl, hb8⟩;have hb8 : Below W9.heap.size W9 w8 := (Below.drew (Below.refl _ _)).trans hb8;have K8 := hid (K9.out.below hb8);have HB8 := hid (HB9.out.trans (hb8.mono K9.out.base_le));have HT8 : Hid (KeptT Oth w w8) := HT9.out.trans (KeptT.below hb8);have R48 := hid (bkp hb8 R49.out);have R68 := hid (bkp hb8 R69.out);have S8 : w8.heap[B3]? = W9.heap[B3]? := hb8.block _ (blt R39.out);show K _ w8;refine hK.out _ _ S8 ?_;clear hK K hHeld hb8;intro hHeld;walk_nrm;refine tk 5 ?_ rfl (fun _ _ _ h=>h) (y:=?_) (h:=?_);rotate_left
     ·intro wS hSw; go_simp<;>with_reducible rfl
     walk_nrm;refine tk 6 ?_ rfl (fun _ _ _ h=>h) (y:=?_) (h:=?_);rotate_left
     ·intro wS hSw; go_simp<;>with_reducible rfl
     walk_nrm;have t5 : w8.cell? ⟨B6, 5, none⟩ = some (.string val) := cor R68.out rfl;have tf : ∀ i, w8.frozen? ⟨B6, i, none⟩ = false := fun i => frozen_of_row w8 _ _ _ _ R68.out
     refine wpAnyL_last rfl (by kernel_rfl) (fun K hK => ?_);go_simp;refine hK.out _ _ ?_;clear hK K;walk_nrm;refine wpAnyL_done (by kernel_rfl) ?_ _;obtain ⟨vb, hvb⟩ : ∃ vb, vb = r.value ++ v := ⟨_, rfl⟩;obtain ⟨WX, hWX⟩ : ∃ WX, WX = w8.setCell ⟨B6, 5, none⟩ (.string (r.value ++ v)) := ⟨_, rfl⟩;rw [← hWX];have hbut : But B6 w8 WX := by rw [hWX]; exact But.set
     have KX := hid (K8.out.off hbut R68.out hgB6 HNB.out);have HBX : Hid (Below base w WX) := by rw [hWX]; exact HB8.out.trans (below_set w8 (j := 5) (.string (r.value ++ v)) hB6b)
     have HTX : Hid (KeptT Oth w WX) := HT8.out.trans ((But.keptT R68.out hbut).mono (fun _ h => h.2));have R4X := hid ((hbut.2 B4 (blt R48.out) (blk_ne R48.out R68.out (by decide))).trans R48.out)
     have R6X : Hid (WX.heap[B6]? = some (.cells #[.string r.key, .int .i64 x.flags, .int .i64 x.till, .int .i64 0, .int .i64 0, .string vb, .bool false, .int .i64 0, .int .i64 0] 83 (0, 0))) := by
      have hr := R68.out;rw [hWX, hvb];show (World.setCell _ _ _).heap[B6]? = _
      simp [World.setCell, Array.getElem?_modify, hr]
     have HVL2 := hid hvb;clear HVL hWX hbut hvb hHeld S8 t5 tf u0 u6 K9 K8 HB9 HB8 HT9 HT8 R39 R49 R48 R69 R68;obtain ⟨Z, hZ⟩ : ∃ Z : Item, Z = ⟨r.key, x.flags, x.till, 0, 0, vb, false, ⟨0, 0⟩⟩ := ⟨_, rfl⟩
     have HZG : Hid (Z = grownItem (live s (bl r.key)).1 r x) := by
      show _ = _;rw [hZ, HVL2.out]; unfold grownItem; rw [HK5.out, HV.out]; rfl
     have R6Z : Hid (WX.heap[B6]? = some (.cells #[.string Z.key, .int .i64 Z.flags, .int .i64 Z.till, .int .i64 Z.cas, .int .i64 Z.used, .string Z.value, .bool Z.far, .int .i64 Z.place.page, .int .i64 Z.place.off] 83 (0, 0))) := by rw [hZ]; exact R6X.out
     have HQ2 : Hid (setReq s r = if 200 < Z.value.size then ((live s (bl r.key)).1, told 11) else stored (live s (bl r.key)).1 Z) := by
      show _ = _;rw [HQ.out, HZG.out, HL1.out, ← HX.out]
     clear hZ;have z5 : WX.cell? ⟨B6, 5, none⟩ = some (.string Z.value) := cor R6Z.out rfl
     by_cases hsz : 200 < Z.value.size
     ·have hsz2 : (200 : Int) < (Z.value.size : Int) := by omega
      have HQ3 := hid (HQ2.out.trans (if_pos hsz));clear HQ2;have HSR : Hid (setReq s r = ((live s (bl r.key)).1, ⟨11, 0, []⟩)) := by show _ = _; exact HQ3.out
      have hf := hid (rep_end (t := setReq s r) (k := 11) (n := 0) (by rw [HSR.out]) (by rw [HSR.out]; exact ⟨_, _, _, _, _, KX.out⟩) R4X.out HBX.out HTX.out hB4w hbase);have hrr := hid (blk_three (x := .int .i64 11) (y := .int .i64 0) (z := .slice none 0 0) R4X.out);obtain ⟨e0, e1, e2⟩ := reply_cells R4X.out;have ef : ∀ i, WX.frozen? ⟨B4, i, none⟩ = false := fun i => frozen_of_row WX _ _ _ _ R4X.out
      go_wp2_with fail
      refine bodyPost_ret (v := .agg #[.int .i64 11, .int .i64 0, .slice none 0 0]) ?_ rfl hf.out;obtain ⟨q0, q1, q2⟩ := reply_cells hrr.out
      simp [results, Tryz.results93, go_sem, q0, q1, q2]
     ·have hsz2 : ¬ (200 : Int) < (Z.value.size : Int) := by omega
      have HQ3 := hid (HQ2.out.trans (if_neg hsz))
      have HMZ : Hid (MayPut Z) := by
       have hin := HS1.out.items x (by rw [HL1.out]; exact HXM.out);show MayPut _;rw [HZG.out] at hsz ⊢;exact may_grown hin HRO.out h2 h3 hsz
      have HEX := hid (HE.out.below HG.out HBX.out);clear HQ2 hsz;have HSR : Hid (setReq s r = stored (live s (bl r.key)).1 Z) := by show _ = _; exact HQ3.out
      have HMP : Hid (MayPut Z) := by show MayPut _; exact HMZ.out
      go_wp2_with (refine wpList_load_row rfl 83 _ rfl B6 rfl _ _ _ _ R6Z.out Tryz.underlying83 rfl (by kernel_rfl) ?_)
      refine (keeper_stored _ KX.out HS1.out HEX.out.chunks HG.out.chunks Z HMP.out HU1.out).mono ?_;rintro e w9 ⟨rfl, hk9, hb9, ht9⟩;have R49 := hid ((ht9 _ _ _ _ R4X.out ⟨by decide, by decide⟩).trans R4X.out);have HK9 := hid hk9;have HB9 := hid (HBX.out.trans hb9);have HT9 : Hid (KeptT Oth w w9) := HTX.out.trans ht9;obtain ⟨e0, e1, e2⟩ := reply_cells R49.out;have ef : ∀ i, w9.frozen? ⟨B4, i, none⟩ = false := fun i => frozen_of_row w9 _ _ _ _ R49.out
      obtain ⟨b, hb⟩ : ∃ b, b = (put (live s (bl r.key)).1 Z).2 := ⟨_, rfl⟩;have HSB : Hid (stored (live s (bl r.key)).1 Z = ((put (live s (bl r.key)).1 Z).1, if b then told 2 else told 11)) := by rw [hb]; rfl
      rw [← hb];clear hk9 hb9 ht9 hb
      cases b
      ·have hf := hid (rep_end (t := setReq s r) (k := 11) (n := 0) (by rw [HSR.out, HSB.out]; rfl) (by rw [HSR.out, HSB.out]; exact HK9.out) R49.out HB9.out HT9.out hB4w hbase)
       have hrr := hid (blk_three (x := .int .i64 11) (y := .int .i64 0) (z := .slice none 0 0) R49.out);simp only [toldV, Bool.false_eq_true, if_false]
       go_wp2_with fail
       refine bodyPost_ret (v := .agg #[.int .i64 11, .int .i64 0, .slice none 0 0]) ?_ rfl hf.out;obtain ⟨q0, q1, q2⟩ := reply_cells hrr.out
       simp [results, Tryz.results93, go_sem, q0, q1, q2]
      ·have hf := hid (rep_end (t := setReq s r) (k := 2) (n := 0) (by rw [HSR.out, HSB.out]; rfl) (by rw [HSR.out, HSB.out]; exact HK9.out) R49.out HB9.out HT9.out hB4w hbase)
       have hrr := hid (blk_three (x := .int .i64 2) (y := .int .i64 0) (z := .slice none 0 0) R49.out);simp only [toldV, if_true]
       go_wp2_with fail
       refine bodyPost_ret (v := .agg #[.int .i64 2, .int .i64 0, .slice none 0 0]) ?_ rfl hf.out;obtain ⟨q0, q1, q2⟩ := reply_cells hrr.out
       simp [results, Tryz.results93, go_sem, q0, q1, q2]
  have HSE5 := hid (HSE4.out.trans (if_neg hk5));have k5 : (r.kind == 5) = false := by rw [beq_eq_false_iff_ne]; exact fun h => hk5 (.inl h)
  have k6 : (r.kind == 6) = false := by rw [beq_eq_false_iff_ne]; exact fun h => hk5 (.inr h)
  clear hk5 HSE4
  by_cases hk7 : r.kind = 7
  ·
   as_aux_lemma =>
    have HQ := hid (HSE5.out.trans (if_pos hk7));have k7 : (r.kind == 7) = true := by simp [hk7]
    clear hk7;obtain ⟨gi, cap, hv, hbg, hgl, hnc, hcm, -⟩ := own_shape Kc.out.own (by rw [HL1.out]; omega);simp only [Value.slice.injEq, true_and] at hv;obtain ⟨rfl, rfl⟩ := hv;have hcm := le_maxLen hcm;have hl := HS1.out.len;have hil : i < (live s (bl r.key)).1.items.length := by rw [HL1.out]; exact hi
    have HXJ : Hid ((live s (bl r.key)).1.items[i]? = some x) := by show _ = _; rw [HL1.out]; exact HXI.out
    obtain ⟨d0, d1, d2, d3, d4, d5, d6, d7, d8⟩ := own_item Kc.out.own HXJ.out;have c8 := Kc.out.cells.2.2.2.2.2.2.2.2.1;have hgk := Kc.out.lt;obtain ⟨u0, u1, u2, u3, u4, u5, u6, u7⟩ := req_cells R3c.out;obtain ⟨xc, hxc⟩ : ∃ xc, xc = x.cas := ⟨_, rfl⟩;obtain ⟨rn, hrn⟩ : ∃ rn, rn = r.n := ⟨_, rfl⟩;rw [← hxc] at d3;rw [← hrn] at u5;have HXC := hid hxc;have HRN := hid hrn;obtain ⟨ln, hln⟩ : ∃ ln, ln = (live s (bl r.key)).1.items.length := ⟨_, rfl⟩;rw [← hln] at c8 hil hl hnc;clear hxc hrn hln
    by_cases hne : xc = rn
    ·have n1 : (xc == rn) = true := by simp [hne]
     have n2 : (xc != rn) = false := by simp [hne]
     have HQ2 : Hid (setReq s r = stored s (newItem s r)) := HQ.out.trans (if_neg (fun h => h (by rw [← HX.out, ← HXC.out, ← HRN.out]; exact hne)));clear hne HQ
     go_wp2_with fail
     go_quiet (fail)
     clear d0 d1 d2 d3 d4 d5 d6 d7 d8 c8 hgk u0 u1 u2 u3 u4 u5 u6 u7 n1 n2 hbg hgl hnc hcm hil hl;obtain ⟨W7, hW7⟩ : ∃ W7, W7 = wc.drewN nq := ⟨_, rfl⟩;have hb7 : Below wc.heap.size wc W7 := by rw [hW7]; exact below_drewN (Below.refl _ _) _
     rw [← hW7];clear hW7;have K7 := hid (Kc.out.below hb7);have HB7 := hid (HBc.out.trans (hb7.mono Kc.out.base_le));have HT7 : Hid (KeptT Oth w W7) := HTc.out.trans (KeptT.below hb7);have R47 := hid (bkp hb7 R4c.out);have R67 := hid (bkp hb7 R6c.out);have HE7 := hid (HE.out.below HG.out HB7.out);clear hb7
     have HSR : Hid (setReq s r = stored (live s (bl r.key)).1 Y) := by show _ = _; exact by rw [HYY.out, HL1.out]; exact HQ2.out
     have HMP : Hid (MayPut Y) := by show MayPut _; exact by rw [HYY.out]; exact may_new HS1.out HRO.out h2 h3
     go_wp2_with (refine wpList_load_row rfl 83 _ rfl B6 rfl _ _ _ _ R67.out Tryz.underlying83 rfl (by kernel_rfl) ?_)
     refine (keeper_stored _ K7.out HS1.out HE7.out.chunks HG.out.chunks Y HMP.out HU1.out).mono ?_;rintro e w9 ⟨rfl, hk9, hb9, ht9⟩;have R49 := hid ((ht9 _ _ _ _ R47.out ⟨by decide, by decide⟩).trans R47.out);have HK9 := hid hk9;have HB9 := hid (HB7.out.trans hb9);have HT9 : Hid (KeptT Oth w w9) := HT7.out.trans ht9;obtain ⟨e0, e1, e2⟩ := reply_cells R49.out;have ef : ∀ i, w9.frozen? ⟨B4, i, none⟩ = false := fun i => frozen_of_row w9 _ _ _ _ R49.out
     obtain ⟨b, hb⟩ : ∃ b, b = (put (live s (bl r.key)).1 Y).2 := ⟨_, rfl⟩;have HSB : Hid (stored (live s (bl r.key)).1 Y = ((put (live s (bl r.key)).1 Y).1, if b then told 2 else told 11)) := by rw [hb]; rfl
     rw [← hb];clear hk9 hb9 ht9 hb
     cases b
     ·have hf := hid (rep_end (t := setReq s r) (k := 11) (n := 0) (by rw [HSR.out, HSB.out]; rfl) (by rw [HSR.out, HSB.out]; exact HK9.out) R49.out HB9.out HT9.out hB4w hbase)
      have hrr := hid (blk_three (x := .int .i64 11) (y := .int .i64 0) (z := .slice none 0 0) R49.out);simp only [toldV, Bool.false_eq_true, if_false]
      go_wp2_with fail
      refine bodyPost_ret (v := .agg #[.int .i64 11, .int .i64 0, .slice none 0 0]) ?_ rfl hf.out;obtain ⟨q0, q1, q2⟩ := reply_cells hrr.out
      simp [results, Tryz.results93, go_sem, q0, q1, q2]
     ·have hf := hid (rep_end (t := setReq s r) (k := 2) (n := 0) (by rw [HSR.out, HSB.out]; rfl) (by rw [HSR.out, HSB.out]; exact HK9.out) R49.out HB9.out HT9.out hB4w hbase)
      have hrr := hid (blk_three (x := .int .i64 2) (y := .int .i64 0) (z := .slice none 0 0) R49.out);simp only [toldV, if_true]
      go_wp2_with fail
      refine bodyPost_ret (v := .agg #[.int .i64 2, .int .i64 0, .slice none 0 0]) ?_ rfl hf.out;obtain ⟨q0, q1, q2⟩ := reply_cells hrr.out
      simp [results, Tryz.results93, go_sem, q0, q1, q2]
    ·have n1 : (xc == rn) = false := by simp [hne]
     have n2 : (xc != rn) = true := by simp [hne]
     have HQ2 : Hid (setReq s r = (s, told 4)) := HQ.out.trans (if_pos (fun h => hne (by rw [HXC.out, HRN.out, HX.out]; exact h)));clear hne HQ
     go_wp2_with fail
     go_quiet (fail)
     clear d0 d1 d2 d3 d4 d5 d6 d7 d8 c8 hgk u0 u1 u2 u3 u4 u5 u6 u7 n1 n2 hbg hgl hnc hcm hil hl;obtain ⟨W7, hW7⟩ : ∃ W7, W7 = wc.drewN nq := ⟨_, rfl⟩;have hb7 : Below wc.heap.size wc W7 := by rw [hW7]; exact below_drewN (Below.refl _ _) _
     rw [← hW7];clear hW7;have K7 := hid (Kc.out.below hb7);have HB7 := hid (HBc.out.trans (hb7.mono Kc.out.base_le));have HT7 : Hid (KeptT Oth w W7) := HTc.out.trans (KeptT.below hb7);have R47 := hid (bkp hb7 R4c.out);have R67 := hid (bkp hb7 R6c.out);have HE7 := hid (HE.out.below HG.out HB7.out);clear hb7
     have HSR : Hid (setReq s r = ((live s (bl r.key)).1, ⟨4, 0, []⟩)) := by show _ = _; exact by rw [HQ2.out, HL1.out]; rfl
     have hf := hid (rep_end (t := setReq s r) (k := 4) (n := 0) (by rw [HSR.out]) (by rw [HSR.out]; exact ⟨_, _, _, _, _, K7.out⟩) R47.out HB7.out HT7.out hB4w hbase);have hrr := hid (blk_three (x := .int .i64 4) (y := .int .i64 0) (z := .slice none 0 0) R47.out);obtain ⟨e0, e1, e2⟩ := reply_cells R47.out;have ef : ∀ i, W7.frozen? ⟨B4, i, none⟩ = false := fun i => frozen_of_row W7 _ _ _ _ R47.out
     go_wp2_with fail
     refine bodyPost_ret (v := .agg #[.int .i64 4, .int .i64 0, .slice none 0 0]) ?_ rfl hf.out;obtain ⟨q0, q1, q2⟩ := reply_cells hrr.out
     simp [results, Tryz.results93, go_sem, q0, q1, q2]
  have HSE7 := hid (HSE5.out.trans (if_neg hk7));have k7 : (r.kind == 7) = false := by simp [hk7]
  clear hk7 HSE5
  ·
   as_aux_lemma =>
    have HSR : Hid (setReq s r = stored (live s (bl r.key)).1 Y) := by show _ = _; exact by rw [HYY.out, HL1.out]; exact HSE7.out
    have HMP : Hid (MayPut Y) := by show MayPut _; exact by rw [HYY.out]; exact may_new HS1.out HRO.out h2 h3
    go_wp2_with (refine wpList_load_row rfl 83 _ rfl B6 rfl _ _ _ _ R6c.out Tryz.underlying83 rfl (by kernel_rfl) ?_)
    refine (keeper_stored wc Kc.out HS1.out HEc.out.chunks HG.out.chunks Y HMP.out HU1.out).mono ?_;rintro e w9 ⟨rfl, hk9, hb9, ht9⟩;have R49 := hid ((ht9 _ _ _ _ R4c.out ⟨by decide, by decide⟩).trans R4c.out);have HK9 := hid hk9;have HB9 := hid (HBc.out.trans hb9);have HT9 : Hid (KeptT Oth w w9) := HTc.out.trans ht9;obtain ⟨e0, e1, e2⟩ := reply_cells R49.out;have ef : ∀ i, w9.frozen? ⟨B4, i, none⟩ = false := fun i => frozen_of_row w9 _ _ _ _ R49.out
    obtain ⟨b, hb⟩ : ∃ b, b = (put (live s (bl r.key)).1 Y).2 := ⟨_, rfl⟩;have HSB : Hid (stored (live s (bl r.key)).1 Y = ((put (live s (bl r.key)).1 Y).1, if b then told 2 else told 11)) := by rw [hb]; rfl
    rw [← hb];clear hk9 hb9 ht9 hb
    cases b
    ·have hf := hid (rep_end (t := setReq s r) (k := 11) (n := 0) (by rw [HSR.out, HSB.out]; rfl) (by rw [HSR.out, HSB.out]; exact HK9.out) R49.out HB9.out HT9.out hB4w hbase)
     have hrr := hid (blk_three (x := .int .i64 11) (y := .int .i64 0) (z := .slice none 0 0) R49.out);simp only [toldV, Bool.false_eq_true, if_false]
     go_wp2_with fail
     refine bodyPost_ret (v := .agg #[.int .i64 11, .int .i64 0, .slice none 0 0]) ?_ rfl hf.out;obtain ⟨q0, q1, q2⟩ := reply_cells hrr.out
     simp [results, Tryz.results93, go_sem, q0, q1, q2]
    ·have hf := hid (rep_end (t := setReq s r) (k := 2) (n := 0) (by rw [HSR.out, HSB.out]; rfl) (by rw [HSR.out, HSB.out]; exact HK9.out) R49.out HB9.out HT9.out hB4w hbase)
     have hrr := hid (blk_three (x := .int .i64 2) (y := .int .i64 0) (z := .slice none 0 0) R49.out);simp only [toldV, if_true]
     go_wp2_with fail
     refine bodyPost_ret (v := .agg #[.int .i64 2, .int .i64 0, .slice none 0 0]) ?_ rfl hf.out;obtain ⟨q0, q1, q2⟩ := reply_cells hrr.out
     simp [results, Tryz.results93, go_sem, q0, q1, q2]
end
end Go.Proofs.YtbeegfkfpkfccaaGreatDoor.D
