/-
 PROVED: 'Rows.SetGetsCardSaid': what was set is found, till its time is over. No condition; the tables that the call reads are tied to the program's text.
-/
import Derived.Test.YtbeegfkfpkfccaaGreatDoorYCPlay
import Derived.Test.YtbeegfkfpkfccaaGreatDoorYCDoorS
import Derived.Test.YtbeegfkfpkfccaaGreatDoorYPSetGets
namespace Go.Proofs.YtbeegfkfpkfccaaGreatDoor.setGets
open Go.ChangeShapes Go.WideShapes Go.ChangeAt Go.RowKit Go.Proofs.YtbeegfkfpkfccaaGreatDoor.D
theorem tick_ok {U : Store} {m : Int} (h : SOk U) (hc : U.clock ≤ 400) (hm : 0 ≤ m ∧ m ≤ 20) : U.tick m = ({ U with clock := U.clock + m }, 0) := tick_good ((ok_iff U).2 h) (by omega)
theorem getOf_hit {S T : Store} {k : ByteArray} {x : Hit} (h : doOf S (getR k) = (T, ⟨1, 0, [x]⟩, 0)) : getOf S k = (T, x, true) := by
 unfold getOf
 rw [show doOf S (getReq k) = _ from h]
 rfl
theorem getOf_miss {S T : Store} {k : ByteArray} (h : doOf S (getR k) = (T, ⟨1, 0, []⟩, 0)) : getOf S k = (T, Hit.zero, false) := by
 unfold getOf
 rw [show doOf S (getReq k) = _ from h]
 rfl
set_option maxRecDepth 100000 in
set_option maxHeartbeats 4000000 in
theorem walk (l : List (Int × Int × Int × Int)) (a : Option Addr) (c : Nat) (r0 r1 r2 r3 : Int) (hr2 : I64 r2) (ex : Int) (hex : I64 ex) (w : World) (he : Env w) (h : RowsAt w a 4 rawR l) :
  Calls Tryz.prog 5 #[.slice a l.length c, .agg #[.int .i64 r0, .int .i64 r1, .int .i64 r2, .int .i64 r3], .int .i64 ex] w fun e w' => e = .returned (.bool true) ∧ Below w.heap.size w w' := by
 have HE := Lib.hid he
 have HR := Lib.hid h
 clear he h
 obtain ⟨W0, hW0⟩ : ∃ W0, W0 = w.alloc (.cells #[.int .i64 r0, .int .i64 r1, .int .i64 r2, .int .i64 r3] 50) := ⟨_, rfl⟩
 have hb0 := below_new hW0
 have R_raw : Hid (W0.heap[w.heap.size]? = some (.cells #[.int .i64 r0, .int .i64 r1, .int .i64 r2, .int .i64 r3] 50 (0, 0))) := by rw [hW0]; exact blk_new w _
 have hpl := played_is l a c 12 4 50 (by omega) (by omega) (by omega) W0 (HE.out.on hb0) (HR.out.keep (Below.keeps hb0) (fun _ _ h => h))
 rw [show ((50 : Nat) : Int) = 50 from rfl] at hpl
 have HPL := Lib.hid hpl
 have HB0 := Lib.hid hb0
 obtain ⟨ln, hn⟩ : ∃ n, n = l.length := ⟨_, rfl⟩
 rw [← hn] at HPL ⊢
 clear hpl hn HR hb0
 obtain ⟨n0, hn0⟩ : ∃ t, pick ex 20 = t := ⟨_, rfl⟩
 have hn1 := pick_lt ex 20 (by decide)
 rw [hn0] at hn1
 have HN0 := Lib.hid hn0
 obtain ⟨n, hn⟩ : ∃ n, 1 + n0 = n := ⟨_, rfl⟩
 have hn2 : 1 ≤ n ∧ n ≤ 20 := by omega
 have hw1 : wrap64 n = n := IntWalk.wrap64_in _ ⟨by omega, by omega⟩
 have hw2 : wrap64 (n - 1) = n - 1 := IntWalk.wrap64_in _ ⟨by omega, by omega⟩
 clear hn0 hn1
 go_enter Tryz.func5, Tryz.ntmps5
 go_wp2_with fail
 rw [← hW0]
 refine HPL.out.mono ?_
 rintro e w1 ⟨S, va_S, vc_S, fa_S, fc_S, oa, ol, oc, rfl, hso, hpd, hb1⟩
 obtain ⟨raw, hraw⟩ : ∃ B, B = w.heap.size := ⟨_, rfl⟩
 rw [← hraw] at R_raw
 replace R_raw := Lib.hid ((hb1.block raw (Array.getElem?_eq_some_iff.1 R_raw.out).1).trans R_raw.out)
 have HB := Lib.hid (HB0.out.trans (hb1.mono HB0.out.size))
 have HEx := Lib.hid (HE.out.on HB.out)
 have O_S := Lib.hid hso
 have HPD := Lib.hid hpd
 clear hb1 hso hpd HB0 HPL
 go_upto_region 2 with (fail)
 obtain ⟨wy, hwy⟩ : ∃ W, W = w1.alloc (.cells (storeV S va_S vc_S fa_S fc_S) 28) := ⟨_, rfl⟩
 obtain ⟨S_S, hS⟩ : ∃ B, B = w1.heap.size := ⟨_, rfl⟩
 have h1 : wy.heap[S_S]? = some (.cells (storeV S va_S vc_S fa_S fc_S) 28 (0, 0)) := by rw [hwy, hS]; exact blk_new w1 _
 have hbn := below_new hwy
 rw [← hwy, ← hS, ← hraw]
 replace R_raw := Lib.hid ((hbn.block raw (Array.getElem?_eq_some_iff.1 R_raw.out).1).trans R_raw.out)
 replace O_S := Lib.hid (O_S.out.below hbn)
 replace HEx := Lib.hid (HEx.out.on hbn)
 replace HB := Lib.hid (HB.out.trans (hbn.mono HB.out.size))
 have R_S_S := Lib.hid h1
 clear hbn h1 hwy hS hW0 hraw
 obtain ⟨wx, rfl⟩ : ∃ wx : World, wx = wy := ⟨_, rfl⟩
 go_wp2_with fail
 refine (picked_at ex 20 n0 HN0 hex.1 hex.2 (by decide) (by decide) _).mono ?_
 rintro e wd ⟨rfl, rfl⟩
 have x2 : wx.cell? ⟨raw, 2, none⟩ = some (.int .i64 r2) := by rw [cell_of_row wx _ _ _ _ _ R_raw.out]; rfl
 go_wp2_with fail
 refine (value_is r2 hr2.1 hr2.2 wx).mono ?_
 rintro e wn ⟨v, rfl, hv, hbn⟩
 clear x2
 replace R_raw := Lib.hid ((hbn.block raw (Array.getElem?_eq_some_iff.1 R_raw.out).1).trans R_raw.out)
 replace R_S_S := Lib.hid ((hbn.block S_S (Array.getElem?_eq_some_iff.1 R_S_S.out).1).trans R_S_S.out)
 replace O_S := Lib.hid (O_S.out.below hbn)
 replace HEx := Lib.hid (HEx.out.on hbn)
 replace HB := Lib.hid (HB.out.trans (hbn.mono HB.out.size))
 clear hbn
 obtain ⟨wx, rfl⟩ : ∃ wx : World, wx = wn := ⟨_, rfl⟩
 go_upto_if 42 with (fail)
 go_cut [11] (fun v11 wy => ∃ u : ByteArray, v11 = .string u ∧ u.size ≤ 200 ∧ wy = wx)
 case first =>
  by_cases hs : v.size ≤ 200
  ·have hs2 : (v.size : Int) ≤ 200 := by omega
   go_wp2_with fail
   go_meet
   exact ⟨v, rfl, hs, rfl⟩
  ·have hs2 : ¬ (v.size : Int) ≤ 200 := by omega
   go_wp2_with fail
   go_meet
   exact ⟨_, rfl, by rw [ByteArray.size_extract]; omega, rfl⟩
 case rest =>
  obtain ⟨u, rfl, hu, hwc⟩ := hcut
  rw [hwc]
  clear hwc
  rcases set_gets HPD.out hu hn2 with ⟨T, e1⟩ | ⟨T, U, W, Y, e1, e2, e3, e4, e5, e6⟩
  ·
   have HD1 := Lib.hid e1
   clear e1 HPD
   go_upto_region 6 with (fail)
   go_wp2_with (refine wpList_load_row rfl 28 _ rfl S_S rfl _ _ _ _ R_S_S.out Tryz.underlying28 rfl (by kernel_rfl) ?_)
   refine (do_at (s := S) (r := ⟨2, mine, [], 5, n, 0, u, false⟩) (ka := none) (kc := 0) HEx (Lib.hid O_S.out.at) (RowsAt.nil _ _ _ _) (by show _ ≤ 1000; exact Nat.zero_le _) (by show _ ≤ 1000; exact (by decide : mine.size ≤ 1000)) rfl rfl).mono ?_
   rw [HD1.out]
   rintro e wn ⟨va_T, vc_T, fa_T, fc_T, ha_T, hc_T, rfl, hso, -, hbn⟩
   replace R_raw := Lib.hid ((hbn.block raw (Array.getElem?_eq_some_iff.1 R_raw.out).1).trans R_raw.out)
   replace R_S_S := Lib.hid ((hbn.block S_S (Array.getElem?_eq_some_iff.1 R_S_S.out).1).trans R_S_S.out)
   replace O_S := Lib.hid (O_S.out.below hbn)
   replace HEx := Lib.hid (HEx.out.on hbn)
   replace HB := Lib.hid (HB.out.trans (hbn.mono HB.out.size))
   have O_T := Lib.hid hso
   clear hbn hso
   simp only [replyCells, List.length_nil]
   go_upto_region 7 with (fail)
   obtain ⟨wy, hwy, hbn, h1, h2⟩ := two_new wn (.cells (storeV T va_T vc_T fa_T fc_T) 28) (.cells #[.int .i64 11, .int .i64 0, .slice ha_T 0 hc_T] 35)
   rw [← hwy]
   obtain ⟨S_T, hS⟩ : ∃ B, B = wn.heap.size := ⟨_, rfl⟩
   obtain ⟨X_T, hX⟩ : ∃ B, B = wn.heap.size + 1 := ⟨_, rfl⟩
   rw [← hX] at h2
   rw [← hS] at h1
   rw [← hX, ← hS]
   replace R_raw := Lib.hid ((hbn.block raw (Array.getElem?_eq_some_iff.1 R_raw.out).1).trans R_raw.out)
   replace R_S_S := Lib.hid ((hbn.block S_S (Array.getElem?_eq_some_iff.1 R_S_S.out).1).trans R_S_S.out)
   replace O_S := Lib.hid (O_S.out.below hbn)
   replace O_T := Lib.hid (O_T.out.below hbn)
   replace HEx := Lib.hid (HEx.out.on hbn)
   replace HB := Lib.hid (HB.out.trans (hbn.mono HB.out.size))
   have R_S_T := Lib.hid h1
   have R_X_T := Lib.hid h2
   clear hbn h1 h2 hwy hS hX
   obtain ⟨wx, rfl⟩ : ∃ wx : World, wx = wy := ⟨_, rfl⟩
   have z0 : wx.cell? ⟨X_T, 0, none⟩ = some (.int .i64 11) := by rw [cell_of_row wx _ _ _ _ _ R_X_T.out]; rfl
   go_wp2_with fail
   go_ret
   exact ⟨rfl, HB.out⟩
  ·
   obtain ⟨V1, hV1⟩ : ∃ V : Store, V = { U with clock := U.clock + (n - 1) } := ⟨_, rfl⟩
   obtain ⟨V2, hV2⟩ : ∃ V : Store, V = { U with clock := U.clock + n } := ⟨_, rfl⟩
   have t1 : U.tick (n - 1) = (V1, 0) := by rw [hV1]; exact tick_ok e3 e4 ⟨by omega, by omega⟩
   have t2 : U.tick n = (V2, 0) := by rw [hV2]; exact tick_ok e3 e4 ⟨by omega, by omega⟩
   rw [← hV1] at e5
   rw [← hV2] at e6
   have HD1 := Lib.hid e1
   have HD2 := Lib.hid (getOf_hit e2)
   have HT1 := Lib.hid t1
   have HD3 := Lib.hid (getOf_hit e5)
   have HT2 := Lib.hid t2
   have e7 := getOf_miss e6
   obtain ⟨hz, hhz⟩ : ∃ h, h = Hit.zero := ⟨_, rfl⟩
   rw [← hhz] at e7
   have HD4 := Lib.hid e7
   clear e1 e2 e3 e4 e5 e6 e7 hhz t1 t2 hV1 hV2 HPD
   go_upto_region 6 with (fail)
   go_wp2_with (refine wpList_load_row rfl 28 _ rfl S_S rfl _ _ _ _ R_S_S.out Tryz.underlying28 rfl (by kernel_rfl) ?_)
   refine (do_at (s := S) (r := ⟨2, mine, [], 5, n, 0, u, false⟩) (ka := none) (kc := 0) HEx (Lib.hid O_S.out.at) (RowsAt.nil _ _ _ _) (by show _ ≤ 1000; exact Nat.zero_le _) (by show _ ≤ 1000; exact (by decide : mine.size ≤ 1000)) rfl rfl).mono ?_
   rw [HD1.out]
   rintro e wn ⟨va_T, vc_T, fa_T, fc_T, ha_T, hc_T, rfl, hso, -, hbn⟩
   replace R_raw := Lib.hid ((hbn.block raw (Array.getElem?_eq_some_iff.1 R_raw.out).1).trans R_raw.out)
   replace R_S_S := Lib.hid ((hbn.block S_S (Array.getElem?_eq_some_iff.1 R_S_S.out).1).trans R_S_S.out)
   replace O_S := Lib.hid (O_S.out.below hbn)
   replace HEx := Lib.hid (HEx.out.on hbn)
   replace HB := Lib.hid (HB.out.trans (hbn.mono HB.out.size))
   have O_T := Lib.hid hso
   clear hbn hso
   simp only [replyCells, List.length_nil]
   go_upto_region 7 with (fail)
   obtain ⟨wy, hwy, hbn, h1, h2⟩ := two_new wn (.cells (storeV T va_T vc_T fa_T fc_T) 28) (.cells #[.int .i64 2, .int .i64 0, .slice ha_T 0 hc_T] 35)
   rw [← hwy]
   obtain ⟨S_T, hS⟩ : ∃ B, B = wn.heap.size := ⟨_, rfl⟩
   obtain ⟨X_T, hX⟩ : ∃ B, B = wn.heap.size + 1 := ⟨_, rfl⟩
   rw [← hX] at h2
   rw [← hS] at h1
   rw [← hX, ← hS]
   replace R_raw := Lib.hid ((hbn.block raw (Array.getElem?_eq_some_iff.1 R_raw.out).1).trans R_raw.out)
   replace R_S_S := Lib.hid ((hbn.block S_S (Array.getElem?_eq_some_iff.1 R_S_S.out).1).trans R_S_S.out)
   replace O_S := Lib.hid (O_S.out.below hbn)
   replace O_T := Lib.hid (O_T.out.below hbn)
   replace HEx := Lib.hid (HEx.out.on hbn)
   replace HB := Lib.hid (HB.out.trans (hbn.mono HB.out.size))
   have R_S_T := Lib.hid h1
   have R_X_T := Lib.hid h2
   clear hbn h1 h2 hwy hS hX
   obtain ⟨wx, rfl⟩ : ∃ wx : World, wx = wy := ⟨_, rfl⟩
   have z0 : wx.cell? ⟨X_T, 0, none⟩ = some (.int .i64 2) := by rw [cell_of_row wx _ _ _ _ _ R_X_T.out]; rfl
   go_upto_region 9 with (fail)
   clear z0
   go_wp2_with (refine wpList_load_row rfl 28 _ rfl S_T rfl _ _ _ _ R_S_T.out Tryz.underlying28 rfl (by kernel_rfl) ?_)
   refine (keep_get T mine va_T fa_T vc_T fc_T wx HEx.out O_T.out.at (by show _ ≤ 1000; decide)).mono ?_
   rw [HD2.out]
   rintro e wn ⟨va_U, vc_U, fa_U, fc_U, rfl, hso, hbn⟩
   replace R_raw := Lib.hid ((hbn.block raw (Array.getElem?_eq_some_iff.1 R_raw.out).1).trans R_raw.out)
   replace R_S_S := Lib.hid ((hbn.block S_S (Array.getElem?_eq_some_iff.1 R_S_S.out).1).trans R_S_S.out)
   replace R_S_T := Lib.hid ((hbn.block S_T (Array.getElem?_eq_some_iff.1 R_S_T.out).1).trans R_S_T.out)
   replace R_X_T := Lib.hid ((hbn.block X_T (Array.getElem?_eq_some_iff.1 R_X_T.out).1).trans R_X_T.out)
   replace O_S := Lib.hid (O_S.out.below hbn)
   replace O_T := Lib.hid (O_T.out.below hbn)
   replace HEx := Lib.hid (HEx.out.on hbn)
   replace HB := Lib.hid (HB.out.trans (hbn.mono HB.out.size))
   have O_U := Lib.hid hso
   clear hbn hso
   go_upto_region 10 with (fail)
   obtain ⟨wy, hwy, hbn, h1, h2⟩ := two_new wn (.cells (storeV U va_U vc_U fa_U fc_U) 28) (.cells #[.string mine, .int .i64 5, .int .i64 T.cas, .string u] 53)
   rw [← hwy]
   obtain ⟨S_U, hS⟩ : ∃ B, B = wn.heap.size := ⟨_, rfl⟩
   obtain ⟨X_U, hX⟩ : ∃ B, B = wn.heap.size + 1 := ⟨_, rfl⟩
   rw [← hX] at h2
   rw [← hS] at h1
   rw [← hX, ← hS]
   replace R_raw := Lib.hid ((hbn.block raw (Array.getElem?_eq_some_iff.1 R_raw.out).1).trans R_raw.out)
   replace R_S_S := Lib.hid ((hbn.block S_S (Array.getElem?_eq_some_iff.1 R_S_S.out).1).trans R_S_S.out)
   replace R_S_T := Lib.hid ((hbn.block S_T (Array.getElem?_eq_some_iff.1 R_S_T.out).1).trans R_S_T.out)
   replace R_X_T := Lib.hid ((hbn.block X_T (Array.getElem?_eq_some_iff.1 R_X_T.out).1).trans R_X_T.out)
   replace O_S := Lib.hid (O_S.out.below hbn)
   replace O_T := Lib.hid (O_T.out.below hbn)
   replace O_U := Lib.hid (O_U.out.below hbn)
   replace HEx := Lib.hid (HEx.out.on hbn)
   replace HB := Lib.hid (HB.out.trans (hbn.mono HB.out.size))
   have R_S_U := Lib.hid h1
   have R_X_U := Lib.hid h2
   clear hbn h1 h2 hwy hS hX
   obtain ⟨wx, rfl⟩ : ∃ wx : World, wx = wy := ⟨_, rfl⟩
   go_wp2_with (refine wpList_load_row rfl 28 _ rfl S_U rfl _ _ _ _ R_S_U.out Tryz.underlying28 rfl (by kernel_rfl) ?_)
   refine (store_Tick U (n - 1) va_U fa_U vc_U fc_U wx HEx.out.chunks O_U.out.at.items O_U.out.at.pages (by have := O_U.out.len; omega) (by have := O_U.out.plen; omega)).mono ?_
   rw [HT1.out]
   rintro e wn ⟨va_V1, vc_V1, fa_V1, fc_V1, rfl, hso, hbn⟩
   replace R_raw := Lib.hid ((hbn.block raw (Array.getElem?_eq_some_iff.1 R_raw.out).1).trans R_raw.out)
   replace R_S_S := Lib.hid ((hbn.block S_S (Array.getElem?_eq_some_iff.1 R_S_S.out).1).trans R_S_S.out)
   replace R_S_T := Lib.hid ((hbn.block S_T (Array.getElem?_eq_some_iff.1 R_S_T.out).1).trans R_S_T.out)
   replace R_X_T := Lib.hid ((hbn.block X_T (Array.getElem?_eq_some_iff.1 R_X_T.out).1).trans R_X_T.out)
   replace R_S_U := Lib.hid ((hbn.block S_U (Array.getElem?_eq_some_iff.1 R_S_U.out).1).trans R_S_U.out)
   replace R_X_U := Lib.hid ((hbn.block X_U (Array.getElem?_eq_some_iff.1 R_X_U.out).1).trans R_X_U.out)
   replace O_S := Lib.hid (O_S.out.below hbn)
   replace O_T := Lib.hid (O_T.out.below hbn)
   replace O_U := Lib.hid (O_U.out.below hbn)
   replace HEx := Lib.hid (HEx.out.on hbn)
   replace HB := Lib.hid (HB.out.trans (hbn.mono HB.out.size))
   have O_V1 := Lib.hid hso
   clear hbn hso
   go_upto_region 11 with (fail)
   obtain ⟨wy, hwy⟩ : ∃ W, W = wn.alloc (.cells (storeV V1 va_V1 vc_V1 fa_V1 fc_V1) 28) := ⟨_, rfl⟩
   obtain ⟨S_V1, hS⟩ : ∃ B, B = wn.heap.size := ⟨_, rfl⟩
   have h1 : wy.heap[S_V1]? = some (.cells (storeV V1 va_V1 vc_V1 fa_V1 fc_V1) 28 (0, 0)) := by rw [hwy, hS]; exact blk_new wn _
   have hbn := below_new hwy
   rw [← hwy, ← hS]
   replace R_raw := Lib.hid ((hbn.block raw (Array.getElem?_eq_some_iff.1 R_raw.out).1).trans R_raw.out)
   replace R_S_S := Lib.hid ((hbn.block S_S (Array.getElem?_eq_some_iff.1 R_S_S.out).1).trans R_S_S.out)
   replace R_S_T := Lib.hid ((hbn.block S_T (Array.getElem?_eq_some_iff.1 R_S_T.out).1).trans R_S_T.out)
   replace R_X_T := Lib.hid ((hbn.block X_T (Array.getElem?_eq_some_iff.1 R_X_T.out).1).trans R_X_T.out)
   replace R_S_U := Lib.hid ((hbn.block S_U (Array.getElem?_eq_some_iff.1 R_S_U.out).1).trans R_S_U.out)
   replace R_X_U := Lib.hid ((hbn.block X_U (Array.getElem?_eq_some_iff.1 R_X_U.out).1).trans R_X_U.out)
   replace O_S := Lib.hid (O_S.out.below hbn)
   replace O_T := Lib.hid (O_T.out.below hbn)
   replace O_U := Lib.hid (O_U.out.below hbn)
   replace O_V1 := Lib.hid (O_V1.out.below hbn)
   replace HEx := Lib.hid (HEx.out.on hbn)
   replace HB := Lib.hid (HB.out.trans (hbn.mono HB.out.size))
   have R_S_V1 := Lib.hid h1
   clear hbn h1 hwy hS
   obtain ⟨wx, rfl⟩ : ∃ wx : World, wx = wy := ⟨_, rfl⟩
   go_wp2_with (refine wpList_load_row rfl 28 _ rfl S_V1 rfl _ _ _ _ R_S_V1.out Tryz.underlying28 rfl (by kernel_rfl) ?_)
   refine (keep_get V1 mine va_V1 fa_V1 vc_V1 fc_V1 wx HEx.out O_V1.out.at (by show _ ≤ 1000; decide)).mono ?_
   rw [HD3.out]
   rintro e wn ⟨va_W, vc_W, fa_W, fc_W, rfl, hso, hbn⟩
   replace R_raw := Lib.hid ((hbn.block raw (Array.getElem?_eq_some_iff.1 R_raw.out).1).trans R_raw.out)
   replace R_S_S := Lib.hid ((hbn.block S_S (Array.getElem?_eq_some_iff.1 R_S_S.out).1).trans R_S_S.out)
   replace R_S_T := Lib.hid ((hbn.block S_T (Array.getElem?_eq_some_iff.1 R_S_T.out).1).trans R_S_T.out)
   replace R_X_T := Lib.hid ((hbn.block X_T (Array.getElem?_eq_some_iff.1 R_X_T.out).1).trans R_X_T.out)
   replace R_S_U := Lib.hid ((hbn.block S_U (Array.getElem?_eq_some_iff.1 R_S_U.out).1).trans R_S_U.out)
   replace R_X_U := Lib.hid ((hbn.block X_U (Array.getElem?_eq_some_iff.1 R_X_U.out).1).trans R_X_U.out)
   replace R_S_V1 := Lib.hid ((hbn.block S_V1 (Array.getElem?_eq_some_iff.1 R_S_V1.out).1).trans R_S_V1.out)
   replace O_S := Lib.hid (O_S.out.below hbn)
   replace O_T := Lib.hid (O_T.out.below hbn)
   replace O_U := Lib.hid (O_U.out.below hbn)
   replace O_V1 := Lib.hid (O_V1.out.below hbn)
   replace HEx := Lib.hid (HEx.out.on hbn)
   replace HB := Lib.hid (HB.out.trans (hbn.mono HB.out.size))
   have O_W := Lib.hid hso
   clear hbn hso
   go_upto_region 12 with (fail)
   obtain ⟨wy, hwy, hbn, h1, h2⟩ := two_new wn (.cells (storeV W va_W vc_W fa_W fc_W) 28) (.cells #[.string mine, .int .i64 5, .int .i64 T.cas, .string u] 53)
   rw [← hwy]
   obtain ⟨S_W, hS⟩ : ∃ B, B = wn.heap.size := ⟨_, rfl⟩
   obtain ⟨X_W, hX⟩ : ∃ B, B = wn.heap.size + 1 := ⟨_, rfl⟩
   rw [← hX] at h2
   rw [← hS] at h1
   rw [← hX, ← hS]
   replace R_raw := Lib.hid ((hbn.block raw (Array.getElem?_eq_some_iff.1 R_raw.out).1).trans R_raw.out)
   replace R_S_S := Lib.hid ((hbn.block S_S (Array.getElem?_eq_some_iff.1 R_S_S.out).1).trans R_S_S.out)
   replace R_S_T := Lib.hid ((hbn.block S_T (Array.getElem?_eq_some_iff.1 R_S_T.out).1).trans R_S_T.out)
   replace R_X_T := Lib.hid ((hbn.block X_T (Array.getElem?_eq_some_iff.1 R_X_T.out).1).trans R_X_T.out)
   replace R_S_U := Lib.hid ((hbn.block S_U (Array.getElem?_eq_some_iff.1 R_S_U.out).1).trans R_S_U.out)
   replace R_X_U := Lib.hid ((hbn.block X_U (Array.getElem?_eq_some_iff.1 R_X_U.out).1).trans R_X_U.out)
   replace R_S_V1 := Lib.hid ((hbn.block S_V1 (Array.getElem?_eq_some_iff.1 R_S_V1.out).1).trans R_S_V1.out)
   replace O_S := Lib.hid (O_S.out.below hbn)
   replace O_T := Lib.hid (O_T.out.below hbn)
   replace O_U := Lib.hid (O_U.out.below hbn)
   replace O_V1 := Lib.hid (O_V1.out.below hbn)
   replace O_W := Lib.hid (O_W.out.below hbn)
   replace HEx := Lib.hid (HEx.out.on hbn)
   replace HB := Lib.hid (HB.out.trans (hbn.mono HB.out.size))
   have R_S_W := Lib.hid h1
   have R_X_W := Lib.hid h2
   clear hbn h1 h2 hwy hS hX
   obtain ⟨wx, rfl⟩ : ∃ wx : World, wx = wy := ⟨_, rfl⟩
   go_wp2_with (refine wpList_load_row rfl 28 _ rfl S_U rfl _ _ _ _ R_S_U.out Tryz.underlying28 rfl (by kernel_rfl) ?_)
   refine (store_Tick U n va_U fa_U vc_U fc_U wx HEx.out.chunks O_U.out.at.items O_U.out.at.pages (by have := O_U.out.len; omega) (by have := O_U.out.plen; omega)).mono ?_
   rw [HT2.out]
   rintro e wn ⟨va_V2, vc_V2, fa_V2, fc_V2, rfl, hso, hbn⟩
   replace R_raw := Lib.hid ((hbn.block raw (Array.getElem?_eq_some_iff.1 R_raw.out).1).trans R_raw.out)
   replace R_S_S := Lib.hid ((hbn.block S_S (Array.getElem?_eq_some_iff.1 R_S_S.out).1).trans R_S_S.out)
   replace R_S_T := Lib.hid ((hbn.block S_T (Array.getElem?_eq_some_iff.1 R_S_T.out).1).trans R_S_T.out)
   replace R_X_T := Lib.hid ((hbn.block X_T (Array.getElem?_eq_some_iff.1 R_X_T.out).1).trans R_X_T.out)
   replace R_S_U := Lib.hid ((hbn.block S_U (Array.getElem?_eq_some_iff.1 R_S_U.out).1).trans R_S_U.out)
   replace R_X_U := Lib.hid ((hbn.block X_U (Array.getElem?_eq_some_iff.1 R_X_U.out).1).trans R_X_U.out)
   replace R_S_V1 := Lib.hid ((hbn.block S_V1 (Array.getElem?_eq_some_iff.1 R_S_V1.out).1).trans R_S_V1.out)
   replace R_S_W := Lib.hid ((hbn.block S_W (Array.getElem?_eq_some_iff.1 R_S_W.out).1).trans R_S_W.out)
   replace R_X_W := Lib.hid ((hbn.block X_W (Array.getElem?_eq_some_iff.1 R_X_W.out).1).trans R_X_W.out)
   replace O_S := Lib.hid (O_S.out.below hbn)
   replace O_T := Lib.hid (O_T.out.below hbn)
   replace O_U := Lib.hid (O_U.out.below hbn)
   replace O_V1 := Lib.hid (O_V1.out.below hbn)
   replace O_W := Lib.hid (O_W.out.below hbn)
   replace HEx := Lib.hid (HEx.out.on hbn)
   replace HB := Lib.hid (HB.out.trans (hbn.mono HB.out.size))
   have O_V2 := Lib.hid hso
   clear hbn hso
   go_upto_region 13 with (fail)
   obtain ⟨wy, hwy⟩ : ∃ W, W = wn.alloc (.cells (storeV V2 va_V2 vc_V2 fa_V2 fc_V2) 28) := ⟨_, rfl⟩
   obtain ⟨S_V2, hS⟩ : ∃ B, B = wn.heap.size := ⟨_, rfl⟩
   have h1 : wy.heap[S_V2]? = some (.cells (storeV V2 va_V2 vc_V2 fa_V2 fc_V2) 28 (0, 0)) := by rw [hwy, hS]; exact blk_new wn _
   have hbn := below_new hwy
   rw [← hwy, ← hS]
   replace R_raw := Lib.hid ((hbn.block raw (Array.getElem?_eq_some_iff.1 R_raw.out).1).trans R_raw.out)
   replace R_S_S := Lib.hid ((hbn.block S_S (Array.getElem?_eq_some_iff.1 R_S_S.out).1).trans R_S_S.out)
   replace R_S_T := Lib.hid ((hbn.block S_T (Array.getElem?_eq_some_iff.1 R_S_T.out).1).trans R_S_T.out)
   replace R_X_T := Lib.hid ((hbn.block X_T (Array.getElem?_eq_some_iff.1 R_X_T.out).1).trans R_X_T.out)
   replace R_S_U := Lib.hid ((hbn.block S_U (Array.getElem?_eq_some_iff.1 R_S_U.out).1).trans R_S_U.out)
   replace R_X_U := Lib.hid ((hbn.block X_U (Array.getElem?_eq_some_iff.1 R_X_U.out).1).trans R_X_U.out)
   replace R_S_V1 := Lib.hid ((hbn.block S_V1 (Array.getElem?_eq_some_iff.1 R_S_V1.out).1).trans R_S_V1.out)
   replace R_S_W := Lib.hid ((hbn.block S_W (Array.getElem?_eq_some_iff.1 R_S_W.out).1).trans R_S_W.out)
   replace R_X_W := Lib.hid ((hbn.block X_W (Array.getElem?_eq_some_iff.1 R_X_W.out).1).trans R_X_W.out)
   replace O_S := Lib.hid (O_S.out.below hbn)
   replace O_T := Lib.hid (O_T.out.below hbn)
   replace O_U := Lib.hid (O_U.out.below hbn)
   replace O_V1 := Lib.hid (O_V1.out.below hbn)
   replace O_W := Lib.hid (O_W.out.below hbn)
   replace O_V2 := Lib.hid (O_V2.out.below hbn)
   replace HEx := Lib.hid (HEx.out.on hbn)
   replace HB := Lib.hid (HB.out.trans (hbn.mono HB.out.size))
   have R_S_V2 := Lib.hid h1
   clear hbn h1 hwy hS
   obtain ⟨wx, rfl⟩ : ∃ wx : World, wx = wy := ⟨_, rfl⟩
   go_wp2_with (refine wpList_load_row rfl 28 _ rfl S_V2 rfl _ _ _ _ R_S_V2.out Tryz.underlying28 rfl (by kernel_rfl) ?_)
   refine (keep_get V2 mine va_V2 fa_V2 vc_V2 fc_V2 wx HEx.out O_V2.out.at (by show _ ≤ 1000; decide)).mono ?_
   rw [HD4.out]
   rintro e wn ⟨va_Y, vc_Y, fa_Y, fc_Y, rfl, hso, hbn⟩
   replace R_raw := Lib.hid ((hbn.block raw (Array.getElem?_eq_some_iff.1 R_raw.out).1).trans R_raw.out)
   replace R_S_S := Lib.hid ((hbn.block S_S (Array.getElem?_eq_some_iff.1 R_S_S.out).1).trans R_S_S.out)
   replace R_S_T := Lib.hid ((hbn.block S_T (Array.getElem?_eq_some_iff.1 R_S_T.out).1).trans R_S_T.out)
   replace R_X_T := Lib.hid ((hbn.block X_T (Array.getElem?_eq_some_iff.1 R_X_T.out).1).trans R_X_T.out)
   replace R_S_U := Lib.hid ((hbn.block S_U (Array.getElem?_eq_some_iff.1 R_S_U.out).1).trans R_S_U.out)
   replace R_X_U := Lib.hid ((hbn.block X_U (Array.getElem?_eq_some_iff.1 R_X_U.out).1).trans R_X_U.out)
   replace R_S_V1 := Lib.hid ((hbn.block S_V1 (Array.getElem?_eq_some_iff.1 R_S_V1.out).1).trans R_S_V1.out)
   replace R_S_W := Lib.hid ((hbn.block S_W (Array.getElem?_eq_some_iff.1 R_S_W.out).1).trans R_S_W.out)
   replace R_X_W := Lib.hid ((hbn.block X_W (Array.getElem?_eq_some_iff.1 R_X_W.out).1).trans R_X_W.out)
   replace R_S_V2 := Lib.hid ((hbn.block S_V2 (Array.getElem?_eq_some_iff.1 R_S_V2.out).1).trans R_S_V2.out)
   replace O_S := Lib.hid (O_S.out.below hbn)
   replace O_T := Lib.hid (O_T.out.below hbn)
   replace O_U := Lib.hid (O_U.out.below hbn)
   replace O_V1 := Lib.hid (O_V1.out.below hbn)
   replace O_W := Lib.hid (O_W.out.below hbn)
   replace O_V2 := Lib.hid (O_V2.out.below hbn)
   replace HEx := Lib.hid (HEx.out.on hbn)
   replace HB := Lib.hid (HB.out.trans (hbn.mono HB.out.size))
   have O_Y := Lib.hid hso
   clear hbn hso
   go_upto_region 14 with (fail)
   obtain ⟨wy, hwy, hbn, h1, h2⟩ := two_new wn (.cells (storeV Y va_Y vc_Y fa_Y fc_Y) 28) (.cells #[.string hz.key, .int .i64 hz.flags, .int .i64 hz.cas, .string hz.value] 53)
   rw [← hwy]
   obtain ⟨S_Y, hS⟩ : ∃ B, B = wn.heap.size := ⟨_, rfl⟩
   obtain ⟨X_Y, hX⟩ : ∃ B, B = wn.heap.size + 1 := ⟨_, rfl⟩
   rw [← hX] at h2
   rw [← hS] at h1
   rw [← hX, ← hS]
   replace R_raw := Lib.hid ((hbn.block raw (Array.getElem?_eq_some_iff.1 R_raw.out).1).trans R_raw.out)
   replace R_S_S := Lib.hid ((hbn.block S_S (Array.getElem?_eq_some_iff.1 R_S_S.out).1).trans R_S_S.out)
   replace R_S_T := Lib.hid ((hbn.block S_T (Array.getElem?_eq_some_iff.1 R_S_T.out).1).trans R_S_T.out)
   replace R_X_T := Lib.hid ((hbn.block X_T (Array.getElem?_eq_some_iff.1 R_X_T.out).1).trans R_X_T.out)
   replace R_S_U := Lib.hid ((hbn.block S_U (Array.getElem?_eq_some_iff.1 R_S_U.out).1).trans R_S_U.out)
   replace R_X_U := Lib.hid ((hbn.block X_U (Array.getElem?_eq_some_iff.1 R_X_U.out).1).trans R_X_U.out)
   replace R_S_V1 := Lib.hid ((hbn.block S_V1 (Array.getElem?_eq_some_iff.1 R_S_V1.out).1).trans R_S_V1.out)
   replace R_S_W := Lib.hid ((hbn.block S_W (Array.getElem?_eq_some_iff.1 R_S_W.out).1).trans R_S_W.out)
   replace R_X_W := Lib.hid ((hbn.block X_W (Array.getElem?_eq_some_iff.1 R_X_W.out).1).trans R_X_W.out)
   replace R_S_V2 := Lib.hid ((hbn.block S_V2 (Array.getElem?_eq_some_iff.1 R_S_V2.out).1).trans R_S_V2.out)
   replace O_S := Lib.hid (O_S.out.below hbn)
   replace O_T := Lib.hid (O_T.out.below hbn)
   replace O_U := Lib.hid (O_U.out.below hbn)
   replace O_V1 := Lib.hid (O_V1.out.below hbn)
   replace O_W := Lib.hid (O_W.out.below hbn)
   replace O_V2 := Lib.hid (O_V2.out.below hbn)
   replace O_Y := Lib.hid (O_Y.out.below hbn)
   replace HEx := Lib.hid (HEx.out.on hbn)
   replace HB := Lib.hid (HB.out.trans (hbn.mono HB.out.size))
   have R_S_Y := Lib.hid h1
   have R_X_Y := Lib.hid h2
   clear hbn h1 h2 hwy hS hX
   obtain ⟨wx, rfl⟩ : ∃ wx : World, wx = wy := ⟨_, rfl⟩
   have z1 : wx.cell? ⟨X_U, 3, none⟩ = some (.string u) := by rw [cell_of_row wx _ _ _ _ _ R_X_U.out]; rfl
   have z2 : wx.cell? ⟨X_U, 1, none⟩ = some (.int .i64 5) := by rw [cell_of_row wx _ _ _ _ _ R_X_U.out]; rfl
   have z3 : wx.cell? ⟨X_U, 2, none⟩ = some (.int .i64 T.cas) := by rw [cell_of_row wx _ _ _ _ _ R_X_U.out]; rfl
   have z4 : wx.cell? ⟨S_T, 1, none⟩ = some (.int .i64 T.cas) := by rw [cell_of_row wx _ _ _ _ _ R_S_T.out]; rfl
   clear HD1 HD2 HD3 HD4 HT1 HT2
   have z5 : wx.cell? ⟨X_U, 0, none⟩ = some (.string mine) := by rw [cell_of_row wx _ _ _ _ _ R_X_U.out]; rfl
   have z6 : wx.cell? ⟨X_W, 0, none⟩ = some (.string mine) := by rw [cell_of_row wx _ _ _ _ _ R_X_W.out]; rfl
   have z7 : wx.cell? ⟨X_W, 1, none⟩ = some (.int .i64 5) := by rw [cell_of_row wx _ _ _ _ _ R_X_W.out]; rfl
   have z8 : wx.cell? ⟨X_W, 2, none⟩ = some (.int .i64 T.cas) := by rw [cell_of_row wx _ _ _ _ _ R_X_W.out]; rfl
   have z9 : wx.cell? ⟨X_W, 3, none⟩ = some (.string u) := by rw [cell_of_row wx _ _ _ _ _ R_X_W.out]; rfl
   go_wp2_with fail
   go_ret
   exact ⟨rfl, HB.out⟩
section
variable {H : Type} {enc : TypeId × Value → H} {w : World}
theorem bytes_raw : Tryz.prog.bytesOf 50 = 32 := by kernel_rfl
instance : Inhabited (Int × Int × Int × Int) := ⟨(0, 0, 0, 0)⟩
theorem read_raw {f : Nat} {cs : List Value} {y : DataW H × List MemPlace} (h : DataW.trod enc Tryz.prog w 0 (fun _ => true) true f 50 cs = some y) : ∃ r, rawR cs r := by
 obtain ⟨xs, n, _, _, hl, hx, hf⟩ := DataW.trod_struct Tryz.underlying50 h
 obtain ⟨c0, c1, c2, c3, rfl⟩ := four (hl.trans (by kernel_rfl))
 obtain ⟨y0, y1, y2, y3, rfl⟩ := four hx
 have h0 := hf 0 _ rfl
 have h1 := hf 1 _ rfl
 have h2 := hf 2 _ rfl
 have h3 := hf 3 _ rfl
 simp [cells_int] at h0 h1 h2 h3
 obtain ⟨n0, e0, b0⟩ := read_i64 Tryz.underlying3 h0
 obtain ⟨n1, e1, b1⟩ := read_i64 Tryz.underlying3 h1
 obtain ⟨n2, e2, b2⟩ := read_i64 Tryz.underlying3 h2
 obtain ⟨n3, e3, b3⟩ := read_i64 Tryz.underlying3 h3
 cases e0; cases e1; cases e2; cases e3
 exact ⟨(n0, n1, n2, n3), rfl, b0, b1, b2, b3⟩
end
set_option maxRecDepth 100000 in
theorem enters {H : Type} {enc : TypeId × Value → H} {W : World} {base : Nat} {args : Array Value} {ds : List (DataW H)} {p : List MemPlace}
  (hval : ∀ (j : Nat) t v, Tryz.f5.params[j]? = some t → args[j]? = some v → Value.okWide Tryz.prog W .any base t v)
  (hA : DataW.TrodAll enc Tryz.prog W 0 (fun _ => true) true Tryz.f5.params.toList args.toList ds p) (hsz : ∀ m ∈ DataW.weightsEach Tryz.prog Tryz.f5.params.toList ds, m ≤ reachBytes) (hL : laidMetH Tryz.prog Rows.setGetsRow.laid W) :
  Calls Tryz.prog 5 args W fun e W' => e = .returned (.bool true) ∧ Below W.heap.size W W' := by
 rw [Tryz.params5] at hA hval hsz
 obtain ⟨v0, vs0, d0, ds0, p0, q0, hargs, rfl, rfl, h0, r0⟩ := trodAll_cons hA
 obtain ⟨v1, vs1, d1, ds1, p1, q1, hargs1, rfl, rfl, h1, r1⟩ := trodAll_cons r0
 obtain ⟨v2, vs2, d2, ds2, p2, q2, hargs2, rfl, rfl, h2, r2⟩ := trodAll_cons r1
 obtain ⟨rfl, rfl, rfl⟩ := trodAll_nil r2
 obtain rfl : args = #[v0, v1, v2] := by cases args; simp_all
 obtain ⟨a0, n0, c0, rfl⟩ := okWide_slice Tryz.underlying42 (hval 0 42 v0 rfl rfl)
 obtain ⟨cs, rfl, hcs⟩ := okWide_struct Tryz.underlying50 (hval 1 50 v1 rfl rfl)
 obtain ⟨fuel, hf⟩ := h0
 obtain ⟨fuel1, hf1⟩ := h1
 obtain ⟨a, len, c, l, he, hll, hlc, hcm, hrow⟩ := read_slice (v := .slice a0 n0 c0) (n := 4) rawR Tryz.underlying42 (by kernel_rfl) (by omega) (fun f cs y hy _ => read_raw hy) hf (Wt.all hsz 0 rfl rfl)
 cases he
 subst hll
 obtain ⟨⟨x0, x1, x2, x3⟩, hx, b0, b1, b2, b3⟩ := read_raw hf1
 obtain rfl : cs = #[.int .i64 x0, .int .i64 x1, .int .i64 x2, .int .i64 x3] := by
  have : cs.toList = _ := hx
  cases cs; simp_all
 obtain ⟨d, rfl, rfl, rfl, hd⟩ := open_int Tryz.underlying3 (hval 2 3 v2 rfl rfl) h2
 exact walk l a0 c0 x0 x1 x2 x3 b2 d (bounds_i64 hd) W (env_of hL) hrow

set_option maxRecDepth 100000 in
theorem contract {H : Type} {enc : TypeId × Value → H} {W : World} {base : Nat} {args : Array Value} {ds gs : List (DataW H)} {before : List MemPlace}
  (hval0 : ∀ (j : Nat) t v, Tryz.f5.params[j]? = some t → args[j]? = some v → Value.okWide Tryz.prog W .any base t v)
  (hW : DataW.Whole enc Tryz.prog Tryz.f5.params.toList Rows.setGetsSpec.vars false W args.toList ds gs before)
  (hsz0 : (DataW.weightsEach Tryz.prog (Tryz.f5.params.toList ++ []) (ds ++ gs)).all (· ≤ reachBytes) = true) (hL : laidMetH Tryz.prog Rows.setGetsRow.laid W) :
  Calls Tryz.prog 5 args W fun e W' => ∃ v, e = .returned v ∧ Rows.setGetsSpec.post enc Tryz.prog Tryz.f5 false true false false W args v W' := by
 have hval : ∀ (j : Nat) t v, Tryz.f5.params[j]? = some t → args[j]? = some v → Value.okWide Tryz.prog W .any base t v := hval0
 have hW' := hW
 obtain ⟨p, q, hA0, hV, rfl, hfz, hnd⟩ := hW
 have hA : DataW.TrodAll enc Tryz.prog W 0 (fun _ => true) true Tryz.f5.params.toList args.toList ds p := hA0
 obtain ⟨rfl, rfl⟩ := trodVars_none hV
 have hsz : ∀ m ∈ DataW.weightsEach Tryz.prog Tryz.f5.params.toList ds, m ≤ reachBytes := by
  have h0 := hsz0
  rw [List.append_nil, List.append_nil] at h0
  intro m hm
  simpa using List.all_eq_true.1 h0 m hm
 have hds : Rows.setGetsSpec.fn H (ds ++ []) = { results := [.lit (.bool true)], args := ds } := by
  have hA1 := hA
  rw [Tryz.params5] at hA1
  obtain ⟨v0, vs0, d0, ds0, p0, q0, _, rfl, rfl, h0, r0⟩ := trodAll_cons hA1
  obtain ⟨v1, vs1, d1, ds1, p1, q1, _, rfl, rfl, h1, r1⟩ := trodAll_cons r0
  obtain ⟨v2, vs2, d2, ds2, p2, q2, _, rfl, rfl, h2, r2⟩ := trodAll_cons r1
  obtain ⟨_, rfl, rfl⟩ := trodAll_nil r2
  rfl
 refine (enters hval hA hsz hL).mono fun e W' ⟨he, hb⟩ => ⟨_, he, D.law_post rfl rfl hds (by kernel_rfl) hW' hb⟩
theorem laid_met (os : Os) : laidMet Tryz.prog Rows.setGetsRow.laid ((D.laidWorldS os).forCall (fun _ _ => 0) ⟨#[], #[.slice none 0 0, .agg #[.int .i64 0, .int .i64 0, .int .i64 0, .int .i64 0], .int .i64 0], []⟩).memory :=
 laidMet_of_run' 12 (by kernel_rfl) (by kernel_rfl)
theorem reads (os : Os) {H : Type} (enc : TypeId × Value → H) : ∃ places, DataW.whole enc Tryz.prog ((D.laidWorldS os).forCall (fun _ _ => 0) ⟨#[], #[.slice none 0 0, .agg #[.int .i64 0, .int .i64 0, .int .i64 0, .int .i64 0], .int .i64 0], []⟩).memory Tryz.f5.params.toList Rows.setGetsSpec.vars false (#[.slice none 0 0, .agg #[.int .i64 0, .int .i64 0, .int .i64 0, .int .i64 0], .int .i64 0] : Array Value).toList 12 = some ([.nil, .agg [.lit (.int .i64 0), .lit (.int .i64 0), .lit (.int .i64 0), .lit (.int .i64 0)], .lit (.int .i64 0)], [], places) :=
 ⟨[], by kernel_rfl⟩
set_option maxRecDepth 100000 in
theorem lifted (os : Os) (started : os.Started) (H : Type) (enc : TypeId × Value → H) (F : Stop.Interp) :
  ReturnsInHanded {} Tryz.checked os 5 .any ((OpenSpec.ofChange Rows.setGetsSpec).preRow enc Tryz.prog Tryz.f5 Rows.setGetsRow.domain false Rows.setGetsRow.laid) (((OpenSpec.ofChange Rows.setGetsSpec).at F).post enc Tryz.prog Tryz.f5 false true false false) := by
 obtain ⟨places, hx⟩ := reads os enc
 refine returnsInHanded_of_row (C := Tryz.checked) (s := OpenSpec.ofChange Rows.setGetsSpec) D.own started (by kernel_rfl) Tryz.func5
  (witness_row_at (enc := enc) (C := Tryz.checked) false (D.laidWorldS os) #[.slice none 0 0, .agg #[.int .i64 0, .int .i64 0, .int .i64 0, .int .i64 0], .int .i64 0] rfl (by kernel_rfl) (by kernel_rfl) (by kernel_rfl)
   (OpenSpec.preRow_of_cond 12 hx (by kernel_rfl) (fun k hk => by cases hk) (by kernel_rfl) (laid_met os))) ?_
 intro W base args ds gs before hval hW _ _ hsz hL _ _
 exact contract hval hW hsz hL
theorem said : Rows.SetGetsSaid :=
 OpenClaim.holds_of_cond 5 Tryz.f5 rfl rfl rfl rfl rfl rfl rfl ⟨rfl, rfl, rfl, rfl, rfl⟩ rfl rfl rfl rfl rfl (by kernel_rfl) Tryz.func5 (by kernel_rfl)
  (of_decide_eq_true (by kernel_rfl)) (by unfold Func.isWrapper; first | (rw [if_pos (by decide +kernel)]; kernel_rfl) | (rw [if_neg (by decide +kernel)]; exact ⟨rfl, rfl⟩))
  (fun os started H enc _ F => by rw [OpenClaim.pre_eq_preRow]; exact lifted os started H enc F)
theorem plain (f : FuncId) (fn : Func) (hf : Tryz.pinned.checked.prog.funcNamed "dovecote/dovecotekeep.SetGets" = some f) (hfn : Tryz.pinned.checked.prog.funcs[f]? = some fn) :
  true = Tryz.pinned.checked.prog.looks [] ∧ ∀ (j : Nat) t, fn.params[j]? = some t → Tryz.pinned.checked.prog.wantsStandIn t = false := by
 obtain rfl : f = 5 := Option.some.inj ((show Tryz.prog.funcNamed "dovecote/dovecotekeep.SetGets" = some 5 by kernel_rfl).symm.trans hf) |>.symm
 obtain rfl : fn = Tryz.f5 := (Option.some.inj (Tryz.func5.symm.trans hfn)).symm
 refine ⟨by kernel_rfl, fun j t ht => ?_⟩
 rw [Tryz.params5] at ht
 have k0 : Tryz.pinned.checked.prog.wantsStandIn 42 = false := by kernel_rfl
 have k1 : Tryz.pinned.checked.prog.wantsStandIn 50 = false := by kernel_rfl
 have k2 : Tryz.pinned.checked.prog.wantsStandIn 3 = false := by kernel_rfl
 have hh : t = 42 ∨ t = 50 ∨ t = 3 := by simpa using Array.mem_of_getElem? ht
 rcases hh with rfl | rfl | rfl
 ·exact k0
 ·exact k1
 ·exact k2
theorem card : Rows.SetGetsCardSaid :=
 Claim7.holds_tied_plain_at .later [] _ _ _ _ said (fun _ h => by cases h) (by kernel_rfl) (fun _ h => by cases h) setGets_row_tie rfl ⟨rfl, rfl⟩ (by kernel_rfl) rfl plain (by kernel_rfl)
end Go.Proofs.YtbeegfkfpkfccaaGreatDoor.setGets

