/-
 PROVED: 'Rows.CasOnceCardSaid': who has the number that a key has still may set it, and nobody else. No condition; the tables that the call reads are tied to the program's text.
-/
import Derived.Test.YtbeegfkfpkfccaaGreatDoorYCPlay
import Derived.Test.YtbeegfkfpkfccaaGreatDoorYCDoorS
import Derived.Test.YtbeegfkfpkfccaaGreatDoorYPCasOnce
namespace Go.Proofs.YtbeegfkfpkfccaaGreatDoor.casOnce
open Go.ChangeShapes Go.WideShapes Go.ChangeAt Go.RowKit Go.Proofs.YtbeegfkfpkfccaaGreatDoor.D
theorem getOf_hit {S T : Store} {k : ByteArray} {x : Hit} (h : doOf S (getR k) = (T, ⟨1, 0, [x]⟩, 0)) : getOf S k = (T, x, true) := by
 unfold getOf
 rw [show doOf S (getReq k) = _ from h]
 rfl
theorem owns_keptT1 {w w' : World} {base : Nat} {e : TypeId} {size : Nat} {v : Value} {n : Nat} {xs : List Value} {B : Nat} {T : TypeId} {cs : Array Value} {fr : Nat × Nat} (h : w.ownsRow base e size v n xs) (hB : w.heap[B]? = some (.cells cs T fr)) (hk : ∀ k, k ≠ B → w'.heap[k]? = w.heap[k]?) (hT : T ≠ e) : w'.ownsRow base e size v n xs :=
 ⟨h.1, h.2.imp id (fun ⟨g, cap, cur, e1, hg, hh, r⟩ => ⟨g, cap, cur, e1, hg, (hk g (fun e => by subst e; rw [hh] at hB; cases hB; exact hT rfl)).trans hh, r⟩)⟩
theorem keptT1 {base : Nat} {w w' : World} {s : Store} {va fa : Option Addr} {vc fc B : Nat} {T : TypeId} {cs : Array Value} {fr : Nat × Nat} (h : StOwn base w s va vc fa fc) (hB : w.heap[B]? = some (.cells cs T fr)) (hk : ∀ k, k ≠ B → w'.heap[k]? = w.heap[k]?) (h1 : T ≠ 83) (h2 : T ≠ 98) (h3 : T ≠ 5) : StOwn base w' s va vc fa fc := by
 obtain ⟨vs, hv⟩ := h.pages
 exact ⟨owns_keptT1 h.row hB hk h1, ⟨vs, PagesOwn.mk hv.len (owns_keptT1 hv.row hB hk h2) (fun j p u a b => owns_keptT1 (hv.byte j p u a b) hB hk h3) hv.far⟩, h.ib, h.pb, h.len, h.plen⟩
set_option maxRecDepth 100000 in
set_option maxHeartbeats 4000000 in
theorem walk (l : List (Int × Int × Int × Int)) (a : Option Addr) (c : Nat) (ex : Int) (hex : I64 ex) (w : World) (he : Env w) (h : RowsAt w a 4 rawR l) :
  Calls Tryz.prog 6 #[.slice a l.length c, .int .i64 ex] w fun e w' => e = .returned (.bool true) ∧ Below w.heap.size w w' := by
 have HE := Lib.hid he
 have HR := Lib.hid h
 clear he h
 have hpl := played_is l a c 12 4 40 (by omega) (by omega) (by omega) w HE.out HR.out
 rw [show ((40 : Nat) : Int) = 40 from rfl] at hpl
 have HPL := Lib.hid hpl
 obtain ⟨m, hm⟩ : ∃ t, pick ex 9 = t := ⟨_, rfl⟩
 have hm1 := pick_lt ex 9 (by decide)
 rw [hm] at hm1
 have HM := Lib.hid hm
 have hm2 : 0 ≤ m ∧ m ≤ 8 := by omega
 clear hm hm1
 obtain ⟨n, hn⟩ : ∃ n, n = l.length := ⟨_, rfl⟩
 rw [← hn] at HPL ⊢
 clear hpl hn HR
 go_enter Tryz.func6, Tryz.ntmps6
 go_wp2_with fail
 refine HPL.out.mono ?_
 rintro e w1 ⟨S, va_S, vc_S, fa_S, fc_S, oa, ol, oc, rfl, hso, hpd, hb1⟩
 have HB := Lib.hid hb1
 have HEx := Lib.hid (HE.out.on HB.out)
 have O_S := Lib.hid hso
 have HPD := Lib.hid hpd
 clear hb1 hso hpd HPL
 go_upto_region 2 with (fail)
 obtain ⟨wy, hwy⟩ : ∃ W, W = w1.alloc (.cells (storeV S va_S vc_S fa_S fc_S) 28) := ⟨_, rfl⟩
 obtain ⟨S_S, hS⟩ : ∃ B, B = w1.heap.size := ⟨_, rfl⟩
 have h1 : wy.heap[S_S]? = some (.cells (storeV S va_S vc_S fa_S fc_S) 28 (0, 0)) := by rw [hwy, hS]; exact blk_new w1 _
 have hbn := below_new hwy
 have hSw : w.heap.size ≤ S_S := by rw [hS]; exact HB.out.size
 rw [← hwy, ← hS]
 replace O_S := Lib.hid (O_S.out.below hbn)
 replace HEx := Lib.hid (HEx.out.on hbn)
 replace HB := Lib.hid (HB.out.trans (hbn.mono HB.out.size))
 have R_S_S := Lib.hid h1
 clear hbn h1 hwy hS
 obtain ⟨wx, rfl⟩ : ∃ wx : World, wx = wy := ⟨_, rfl⟩
 rcases cas_once HPD.out hm2 with ⟨T, e1⟩ | ⟨T, A, B, C, D, M, e1, e2, e3, e4, e5, e6, hc0, hc1⟩
 ·
  have HD1 := Lib.hid e1
  clear e1 HPD
  go_wp2_with (refine wpList_load_row rfl 28 _ rfl S_S rfl _ _ _ _ R_S_S.out Tryz.underlying28 rfl (by kernel_rfl) ?_)
  refine (do_at (s := S) (r := ⟨2, mine, [], 0, 0, 0, vOne, false⟩) (ka := none) (kc := 0) HEx (Lib.hid O_S.out.at) (RowsAt.nil _ _ _ _) (by show _ ≤ 1000; exact Nat.zero_le _) (by show _ ≤ 1000; exact (by decide : mine.size ≤ 1000)) rfl rfl).mono ?_
  rw [HD1.out]
  rintro e wn ⟨va_T, vc_T, fa_T, fc_T, ha_T, hc_T, rfl, hso, -, hbn⟩
  have hbl : S_S < wx.heap.size := (Array.getElem?_eq_some_iff.1 R_S_S.out).1
  clear O_S
  replace R_S_S := Lib.hid ((hbn.block S_S (Array.getElem?_eq_some_iff.1 R_S_S.out).1).trans R_S_S.out)
  replace HEx := Lib.hid (HEx.out.on hbn)
  replace HB := Lib.hid (HB.out.trans (hbn.mono HB.out.size))
  have hbw : S_S < wn.heap.size := (Array.getElem?_eq_some_iff.1 R_S_S.out).1
  go_upto_region 3 with (first
   | refine wpList_store_row rfl 28 _ _ rfl S_S _ rfl rfl _ _ ((Below.heap_alloc _ _ _ (by omega)).trans R_S_S.out) storeSize rfl (store_one _ _ _ _ _) ?_
   | refine wpList_store_row rfl 35 _ _ rfl wn.heap.size _ rfl rfl _ _ ((setRow_other _ _ _ _ (by omega)).trans (blk_new _ _)) replySize rfl (reply_one _ _ _) ?_)
  obtain ⟨wy, hwy⟩ : ∃ W, W = ((wn.alloc (.cells #[.int .i64 0, .int .i64 0, .slice none 0 0] 35)).setRow S_S (storeV T va_T vc_T fa_T fc_T)).setRow wn.heap.size (replyCells ⟨11, 0, []⟩ ha_T hc_T) := ⟨_, rfl⟩
  rw [← hwy]
  obtain ⟨hb1, r1, n1, k1⟩ := after_do R_S_S.out hwy hSw
  obtain ⟨X_T, hX⟩ : ∃ B, B = wn.heap.size := ⟨_, rfl⟩
  rw [← hX] at n1 ⊢
  replace R_S_S := Lib.hid r1
  have R_X_T := Lib.hid n1
  have O_T := Lib.hid (hso.kept (fun k h1 h2 => k1 k h2 (by omega)))
  replace HB := Lib.hid (HB.out.trans hb1)
  replace HEx := Lib.hid (HEx.out.below HE.out.globs hb1)
  clear hbn hb1 r1 n1 k1 hso hwy hX hbl hbw
  obtain ⟨wx, rfl⟩ : ∃ wx : World, wx = wy := ⟨_, rfl⟩
  have z0 : wx.cell? ⟨X_T, 0, none⟩ = some (.int .i64 11) := by rw [cell_of_row wx _ _ _ _ _ R_X_T.out]; rfl
  go_wp2_with fail
  go_ret
  exact ⟨rfl, HB.out⟩
 ·
  obtain ⟨cs, hcs⟩ : ∃ cs, T.cas = cs := ⟨_, rfl⟩
  rw [hcs] at e2 e3 e4 e5 e6 hc0 hc1
  obtain ⟨N, hN⟩ : ∃ N, cs + 1 + m = N := ⟨_, rfl⟩
  rw [hN] at e5 e6
  have hw1 : wrap64 (cs + 1) = cs + 1 := IntWalk.wrap64_in _ ⟨by omega, by omega⟩
  have hw2 : wrap64 (cs + 1 + m) = N := by rw [hN]; exact IntWalk.wrap64_in _ ⟨by omega, by omega⟩
  have HD1 := Lib.hid e1
  have HD2 := Lib.hid (getOf_hit e2)
  have HD3 := Lib.hid e3
  have HD4 := Lib.hid e4
  have HD5 := Lib.hid e5
  have HD6 := Lib.hid e6
  clear e1 e2 e3 e4 e5 e6 HPD hcs
  go_wp2_with (refine wpList_load_row rfl 28 _ rfl S_S rfl _ _ _ _ R_S_S.out Tryz.underlying28 rfl (by kernel_rfl) ?_)
  refine (do_at (s := S) (r := ⟨2, mine, [], 0, 0, 0, vOne, false⟩) (ka := none) (kc := 0) HEx (Lib.hid O_S.out.at) (RowsAt.nil _ _ _ _) (by show _ ≤ 1000; exact Nat.zero_le _) (by show _ ≤ 1000; exact (by decide : mine.size ≤ 1000)) rfl rfl).mono ?_
  rw [HD1.out]
  rintro e wn ⟨va_T, vc_T, fa_T, fc_T, ha_T, hc_T, rfl, hso, -, hbn⟩
  have hbl : S_S < wx.heap.size := (Array.getElem?_eq_some_iff.1 R_S_S.out).1
  clear O_S
  replace R_S_S := Lib.hid ((hbn.block S_S (Array.getElem?_eq_some_iff.1 R_S_S.out).1).trans R_S_S.out)
  replace HEx := Lib.hid (HEx.out.on hbn)
  replace HB := Lib.hid (HB.out.trans (hbn.mono HB.out.size))
  have hbw : S_S < wn.heap.size := (Array.getElem?_eq_some_iff.1 R_S_S.out).1
  go_upto_region 3 with (first
   | refine wpList_store_row rfl 28 _ _ rfl S_S _ rfl rfl _ _ ((Below.heap_alloc _ _ _ (by omega)).trans R_S_S.out) storeSize rfl (store_one _ _ _ _ _) ?_
   | refine wpList_store_row rfl 35 _ _ rfl wn.heap.size _ rfl rfl _ _ ((setRow_other _ _ _ _ (by omega)).trans (blk_new _ _)) replySize rfl (reply_one _ _ _) ?_)
  obtain ⟨wy, hwy⟩ : ∃ W, W = ((wn.alloc (.cells #[.int .i64 0, .int .i64 0, .slice none 0 0] 35)).setRow S_S (storeV T va_T vc_T fa_T fc_T)).setRow wn.heap.size (replyCells ⟨2, 0, []⟩ ha_T hc_T) := ⟨_, rfl⟩
  rw [← hwy]
  obtain ⟨hb1, r1, n1, k1⟩ := after_do R_S_S.out hwy hSw
  obtain ⟨X_T, hX⟩ : ∃ B, B = wn.heap.size := ⟨_, rfl⟩
  rw [← hX] at n1 ⊢
  replace R_S_S := Lib.hid r1
  have R_X_T := Lib.hid n1
  have O_T := Lib.hid (hso.kept (fun k h1 h2 => k1 k h2 (by omega)))
  replace HB := Lib.hid (HB.out.trans hb1)
  replace HEx := Lib.hid (HEx.out.below HE.out.globs hb1)
  clear hbn hb1 r1 n1 k1 hso hwy hX hbl hbw
  obtain ⟨wx, rfl⟩ : ∃ wx : World, wx = wy := ⟨_, rfl⟩
  have z0 : wx.cell? ⟨X_T, 0, none⟩ = some (.int .i64 2) := by rw [cell_of_row wx _ _ _ _ _ R_X_T.out]; rfl
  go_upto_region 5 with (fail)
  clear z0
  go_wp2_with (refine wpList_load_row rfl 28 _ rfl S_S rfl _ _ _ _ R_S_S.out Tryz.underlying28 rfl (by kernel_rfl) ?_)
  refine (keep_get T mine va_T fa_T vc_T fc_T wx HEx.out O_T.out.at (by show _ ≤ 1000; decide)).mono ?_
  rw [HD2.out]
  rintro e wn ⟨va_A, vc_A, fa_A, fc_A, rfl, hso, hbn⟩
  have hbl : S_S < wx.heap.size := (Array.getElem?_eq_some_iff.1 R_S_S.out).1
  clear O_T
  replace R_S_S := Lib.hid ((hbn.block S_S (Array.getElem?_eq_some_iff.1 R_S_S.out).1).trans R_S_S.out)
  replace R_X_T := Lib.hid ((hbn.block X_T (Array.getElem?_eq_some_iff.1 R_X_T.out).1).trans R_X_T.out)
  replace HEx := Lib.hid (HEx.out.on hbn)
  replace HB := Lib.hid (HB.out.trans (hbn.mono HB.out.size))
  have hbw : S_S < wn.heap.size := (Array.getElem?_eq_some_iff.1 R_S_S.out).1
  go_upto_region 6 with (first
   | refine wpList_store_row rfl 28 _ _ rfl S_S _ rfl rfl _ _ ((Below.heap_alloc _ _ _ (by omega)).trans R_S_S.out) storeSize rfl (store_one _ _ _ _ _) ?_
   | refine wpList_store_row rfl 53 _ _ rfl wn.heap.size _ rfl rfl _ _ ((setRow_other _ _ _ _ (by omega)).trans (blk_new _ _)) hitSize rfl (hit_one _ _ _ _) ?_)
  obtain ⟨wy, hwy⟩ : ∃ W, W = ((wn.alloc (.cells #[.string ⟨#[]⟩, .int .i64 0, .int .i64 0, .string ⟨#[]⟩] 53)).setRow S_S (storeV A va_A vc_A fa_A fc_A)).setRow wn.heap.size (#[.string mine, .int .i64 0, .int .i64 cs, .string vOne]) := ⟨_, rfl⟩
  rw [← hwy]
  obtain ⟨hb1, r1, n1, k1⟩ := after_do R_S_S.out hwy hSw
  obtain ⟨X_A, hX⟩ : ∃ B, B = wn.heap.size := ⟨_, rfl⟩
  rw [← hX] at n1 ⊢
  replace R_X_T := Lib.hid ((k1 _ (Array.getElem?_eq_some_iff.1 R_X_T.out).1 (blk_ne R_X_T.out R_S_S.out (by decide))).trans R_X_T.out)
  replace R_S_S := Lib.hid r1
  have R_X_A := Lib.hid n1
  have O_A := Lib.hid (hso.kept (fun k h1 h2 => k1 k h2 (by omega)))
  replace HB := Lib.hid (HB.out.trans hb1)
  replace HEx := Lib.hid (HEx.out.below HE.out.globs hb1)
  clear hbn hb1 r1 n1 k1 hso hwy hX hbl hbw
  obtain ⟨wx, rfl⟩ : ∃ wx : World, wx = wy := ⟨_, rfl⟩
  have z0 : wx.cell? ⟨X_A, 2, none⟩ = some (.int .i64 cs) := by rw [cell_of_row wx _ _ _ _ _ R_X_A.out]; rfl
  go_upto_region 7 with (fail)
  clear z0
  obtain ⟨wy, hwy⟩ : ∃ W, W = wx.alloc (.cells #[.int .i64 7, .string ⟨#[109, 105, 110, 101]⟩, .slice none 0 0, .int .i64 0, .int .i64 0, .int .i64 cs, .string ⟨#[50]⟩, .bool false] 31) := ⟨_, rfl⟩
  obtain ⟨Q, hQ⟩ : ∃ B, B = wx.heap.size := ⟨_, rfl⟩
  have hbn := below_new hwy
  have h1 : wy.heap[Q]? = some (.cells #[.int .i64 7, .string mine, .slice none 0 0, .int .i64 0, .int .i64 0, .int .i64 cs, .string vTwo, .bool false] 31 (0, 0)) := by rw [hwy, hQ]; exact blk_new wx _
  have hQw : w.heap.size ≤ Q := by rw [hQ]; exact HB.out.size
  rw [← hwy, ← hQ]
  replace R_S_S := Lib.hid ((hbn.block S_S (Array.getElem?_eq_some_iff.1 R_S_S.out).1).trans R_S_S.out)
  replace R_X_T := Lib.hid ((hbn.block X_T (Array.getElem?_eq_some_iff.1 R_X_T.out).1).trans R_X_T.out)
  replace R_X_A := Lib.hid ((hbn.block X_A (Array.getElem?_eq_some_iff.1 R_X_A.out).1).trans R_X_A.out)
  replace O_A := Lib.hid (O_A.out.below hbn)
  replace HEx := Lib.hid (HEx.out.on hbn)
  replace HB := Lib.hid (HB.out.trans (hbn.mono HB.out.size))
  have R_Q := Lib.hid h1
  clear hbn h1 hwy hQ
  obtain ⟨wx, rfl⟩ : ∃ wx : World, wx = wy := ⟨_, rfl⟩
  go_wp2_with (first
   | refine wpList_load_row rfl 28 _ rfl S_S rfl _ _ _ _ R_S_S.out Tryz.underlying28 rfl (by kernel_rfl) ?_
   | refine wpList_load_row rfl 31 _ rfl Q rfl _ _ _ _ R_Q.out Tryz.underlying31 rfl (by kernel_rfl) ?_)
  refine (do_at (s := A) (r := casR mine cs vTwo) (ka := none) (kc := 0) HEx (Lib.hid O_A.out.at) (RowsAt.nil _ _ _ _) (by show _ ≤ 1000; exact Nat.zero_le _) (by show _ ≤ 1000; exact (by decide : mine.size ≤ 1000)) rfl rfl).mono ?_
  rw [HD3.out]
  rintro e wn ⟨va_B, vc_B, fa_B, fc_B, ha_B, hc_B, rfl, hso, -, hbn⟩
  replace R_S_S := Lib.hid ((hbn.block S_S (Array.getElem?_eq_some_iff.1 R_S_S.out).1).trans R_S_S.out)
  replace R_X_T := Lib.hid ((hbn.block X_T (Array.getElem?_eq_some_iff.1 R_X_T.out).1).trans R_X_T.out)
  replace R_X_A := Lib.hid ((hbn.block X_A (Array.getElem?_eq_some_iff.1 R_X_A.out).1).trans R_X_A.out)
  replace R_Q := Lib.hid ((hbn.block Q (Array.getElem?_eq_some_iff.1 R_Q.out).1).trans R_Q.out)
  replace O_A := Lib.hid (O_A.out.below hbn)
  replace HEx := Lib.hid (HEx.out.on hbn)
  replace HB := Lib.hid (HB.out.trans (hbn.mono HB.out.size))
  have O_B := Lib.hid hso
  clear hbn hso
  simp only [replyCells, List.length_nil]
  go_upto_region 8 with (fail)
  obtain ⟨wy, hwy, hbn, h1, h2⟩ := two_new wn (.cells (storeV B va_B vc_B fa_B fc_B) 28) (.cells #[.int .i64 2, .int .i64 0, .slice ha_B 0 hc_B] 35)
  rw [← hwy]
  obtain ⟨S_B, hS⟩ : ∃ B, B = wn.heap.size := ⟨_, rfl⟩
  obtain ⟨X_B, hX⟩ : ∃ B, B = wn.heap.size + 1 := ⟨_, rfl⟩
  rw [← hX] at h2
  rw [← hS] at h1
  rw [← hX, ← hS]
  replace R_S_S := Lib.hid ((hbn.block S_S (Array.getElem?_eq_some_iff.1 R_S_S.out).1).trans R_S_S.out)
  replace R_X_T := Lib.hid ((hbn.block X_T (Array.getElem?_eq_some_iff.1 R_X_T.out).1).trans R_X_T.out)
  replace R_X_A := Lib.hid ((hbn.block X_A (Array.getElem?_eq_some_iff.1 R_X_A.out).1).trans R_X_A.out)
  replace R_Q := Lib.hid ((hbn.block Q (Array.getElem?_eq_some_iff.1 R_Q.out).1).trans R_Q.out)
  replace O_A := Lib.hid (O_A.out.below hbn)
  replace O_B := Lib.hid (O_B.out.below hbn)
  replace HEx := Lib.hid (HEx.out.on hbn)
  replace HB := Lib.hid (HB.out.trans (hbn.mono HB.out.size))
  have R_S_B := Lib.hid h1
  have R_X_B := Lib.hid h2
  clear hbn h1 h2 hwy hS hX
  obtain ⟨wx, rfl⟩ : ∃ wx : World, wx = wy := ⟨_, rfl⟩
  go_wp2_with (first
   | refine wpList_load_row rfl 28 _ rfl S_B rfl _ _ _ _ R_S_B.out Tryz.underlying28 rfl (by kernel_rfl) ?_
   | refine wpList_load_row rfl 31 _ rfl Q rfl _ _ _ _ R_Q.out Tryz.underlying31 rfl (by kernel_rfl) ?_)
  refine (do_at (s := B) (r := casR mine cs vTwo) (ka := none) (kc := 0) HEx (Lib.hid O_B.out.at) (RowsAt.nil _ _ _ _) (by show _ ≤ 1000; exact Nat.zero_le _) (by show _ ≤ 1000; exact (by decide : mine.size ≤ 1000)) rfl rfl).mono ?_
  rw [HD4.out]
  rintro e wn ⟨va_C, vc_C, fa_C, fc_C, ha_C, hc_C, rfl, hso, -, hbn⟩
  replace R_S_S := Lib.hid ((hbn.block S_S (Array.getElem?_eq_some_iff.1 R_S_S.out).1).trans R_S_S.out)
  replace R_X_T := Lib.hid ((hbn.block X_T (Array.getElem?_eq_some_iff.1 R_X_T.out).1).trans R_X_T.out)
  replace R_X_A := Lib.hid ((hbn.block X_A (Array.getElem?_eq_some_iff.1 R_X_A.out).1).trans R_X_A.out)
  replace R_Q := Lib.hid ((hbn.block Q (Array.getElem?_eq_some_iff.1 R_Q.out).1).trans R_Q.out)
  replace R_S_B := Lib.hid ((hbn.block S_B (Array.getElem?_eq_some_iff.1 R_S_B.out).1).trans R_S_B.out)
  replace R_X_B := Lib.hid ((hbn.block X_B (Array.getElem?_eq_some_iff.1 R_X_B.out).1).trans R_X_B.out)
  replace O_A := Lib.hid (O_A.out.below hbn)
  replace O_B := Lib.hid (O_B.out.below hbn)
  replace HEx := Lib.hid (HEx.out.on hbn)
  replace HB := Lib.hid (HB.out.trans (hbn.mono HB.out.size))
  have O_C := Lib.hid hso
  clear hbn hso
  simp only [replyCells, List.length_nil]
  go_upto_region 9 with (fail)
  obtain ⟨wy, hwy, hbn, h1, h2⟩ := two_new wn (.cells (storeV C va_C vc_C fa_C fc_C) 28) (.cells #[.int .i64 4, .int .i64 0, .slice ha_C 0 hc_C] 35)
  rw [← hwy]
  obtain ⟨S_C, hS⟩ : ∃ B, B = wn.heap.size := ⟨_, rfl⟩
  obtain ⟨X_C, hX⟩ : ∃ B, B = wn.heap.size + 1 := ⟨_, rfl⟩
  rw [← hX] at h2
  rw [← hS] at h1
  rw [← hX, ← hS]
  replace R_S_S := Lib.hid ((hbn.block S_S (Array.getElem?_eq_some_iff.1 R_S_S.out).1).trans R_S_S.out)
  replace R_X_T := Lib.hid ((hbn.block X_T (Array.getElem?_eq_some_iff.1 R_X_T.out).1).trans R_X_T.out)
  replace R_X_A := Lib.hid ((hbn.block X_A (Array.getElem?_eq_some_iff.1 R_X_A.out).1).trans R_X_A.out)
  replace R_Q := Lib.hid ((hbn.block Q (Array.getElem?_eq_some_iff.1 R_Q.out).1).trans R_Q.out)
  replace R_S_B := Lib.hid ((hbn.block S_B (Array.getElem?_eq_some_iff.1 R_S_B.out).1).trans R_S_B.out)
  replace R_X_B := Lib.hid ((hbn.block X_B (Array.getElem?_eq_some_iff.1 R_X_B.out).1).trans R_X_B.out)
  replace O_A := Lib.hid (O_A.out.below hbn)
  replace O_B := Lib.hid (O_B.out.below hbn)
  replace O_C := Lib.hid (O_C.out.below hbn)
  replace HEx := Lib.hid (HEx.out.on hbn)
  replace HB := Lib.hid (HB.out.trans (hbn.mono HB.out.size))
  have R_S_C := Lib.hid h1
  have R_X_C := Lib.hid h2
  clear hbn h1 h2 hwy hS hX
  obtain ⟨wx, rfl⟩ : ∃ wx : World, wx = wy := ⟨_, rfl⟩
  have z0 : wx.cell? ⟨X_A, 2, none⟩ = some (.int .i64 cs) := by rw [cell_of_row wx _ _ _ _ _ R_X_A.out]; rfl
  refine wp_region_L (fun w' : World => w'.heap[X_A]? = wx.heap[X_A]?) 7 8 (by kernel_rfl) (by kernel_rfl) rfl (fun hHeld => ?_)
  refine wpAnyL_take (i := 0) (v := ?_) rfl (by kernel_rfl) (fun _ _ _ h => h) (Or.inl ⟨by rfl, ?_⟩) (by assumption) ?_
  rotate_left
  ·intro wS hSw; go_simp <;> with_reducible rfl
  walk_nrm
  refine wpAnyL_take (i := 1) (v := ?_) rfl (by kernel_rfl) (fun _ _ _ h => h) (Or.inl ⟨by rfl, ?_⟩) (by assumption) ?_
  rotate_left
  ·intro wS hSw; have k2 := (World.cell?_of_block (w := wx) hSw).trans z0; go_simp <;> with_reducible rfl
  walk_nrm
  refine wpAnyL_take (i := 2) (v := ?_) rfl (by kernel_rfl) (fun _ _ _ h => h) (Or.inl ⟨by rfl, ?_⟩) (by assumption) ?_
  rotate_left
  ·intro wS hSw; go_simp <;> with_reducible rfl
  walk_nrm
  refine wpAnyL_take (i := 3) (v := ?_) rfl (by kernel_rfl) (fun _ _ _ h => h) (Or.inl ⟨by rfl, ?_⟩) (by assumption) ?_
  rotate_left
  ·intro wS hSw; go_simp <;> with_reducible rfl
  walk_nrm
  refine wpAnyL_call (i := 4) (v := (.int .i64 m)) rfl (by kernel_rfl) (fun _ _ _ h => h) ⟨by rfl, 16, #[.int .i64 ex, .int .i64 9], fun wS hSw => ⟨?_, (picked_at ex 9 _ HM hex.1 hex.2 (by decide) (by decide) wS).mono (fun _ _ h => ⟨h.1, h.2.symm⟩)⟩⟩ (by assumption) ?_
  ·go_simp
  walk_nrm
  refine wpAnyL_take (i := 5) (v := ?_) rfl (by kernel_rfl) (fun _ _ _ h => h) (Or.inl ⟨by rfl, ?_⟩) (by assumption) ?_
  rotate_left
  ·intro wS hSw; go_simp <;> with_reducible rfl
  walk_nrm
  refine wpAnyL_take (i := 6) (v := ?_) rfl (by kernel_rfl) (fun _ _ _ h => h) (Or.inl ⟨by rfl, ?_⟩) (by assumption) ?_
  rotate_left
  ·intro wS hSw; go_simp <;> with_reducible rfl
  walk_nrm
  clear hHeld z0
  obtain ⟨wy, hwy⟩ : ∃ wy, wy = wx.drew := ⟨_, rfl⟩
  have hbn : Below wx.heap.size wx wy := by rw [hwy]; exact (Below.refl _ _).drew
  rw [← hwy]
  replace R_S_S := Lib.hid ((hbn.block S_S (Array.getElem?_eq_some_iff.1 R_S_S.out).1).trans R_S_S.out)
  replace R_X_T := Lib.hid ((hbn.block X_T (Array.getElem?_eq_some_iff.1 R_X_T.out).1).trans R_X_T.out)
  replace R_X_A := Lib.hid ((hbn.block X_A (Array.getElem?_eq_some_iff.1 R_X_A.out).1).trans R_X_A.out)
  replace R_Q := Lib.hid ((hbn.block Q (Array.getElem?_eq_some_iff.1 R_Q.out).1).trans R_Q.out)
  replace R_S_B := Lib.hid ((hbn.block S_B (Array.getElem?_eq_some_iff.1 R_S_B.out).1).trans R_S_B.out)
  replace R_X_B := Lib.hid ((hbn.block X_B (Array.getElem?_eq_some_iff.1 R_X_B.out).1).trans R_X_B.out)
  replace R_S_C := Lib.hid ((hbn.block S_C (Array.getElem?_eq_some_iff.1 R_S_C.out).1).trans R_S_C.out)
  replace R_X_C := Lib.hid ((hbn.block X_C (Array.getElem?_eq_some_iff.1 R_X_C.out).1).trans R_X_C.out)
  replace O_A := Lib.hid (O_A.out.below hbn)
  replace O_B := Lib.hid (O_B.out.below hbn)
  replace O_C := Lib.hid (O_C.out.below hbn)
  replace HEx := Lib.hid (HEx.out.on hbn)
  replace HB := Lib.hid (HB.out.trans (hbn.mono HB.out.size))
  clear hbn hwy
  obtain ⟨wx, rfl⟩ : ∃ wx : World, wx = wy := ⟨_, rfl⟩
  have fz : ∀ i, wx.frozen? ⟨Q, i, none⟩ = false := fun v => frozen_of_row wx _ _ _ _ R_Q.out
  have t5 : wx.cell? ⟨Q, 5, none⟩ = some (.int .i64 cs) := by rw [cell_of_row wx _ _ _ _ _ R_Q.out]; rfl
  refine wpAnyL_last rfl (by kernel_rfl) (fun K hK => ?_)
  go_simp
  refine hK.out _ _ ?_
  clear hK K
  walk_nrm
  refine wpAnyL_done (by kernel_rfl) ?_ _
  clear O_B O_C HD3 HD4
  go_upto_region 10 with (fail)
  clear fz t5
  have hx1 : IntKind.i64.wrap (cs + 1) = cs + 1 := IntWalk.i64_in _ ⟨by omega, by omega⟩
  have hx2 : IntKind.i64.wrap (cs + 1 + m) = N := by rw [hN]; exact IntWalk.i64_in _ ⟨by omega, by omega⟩
  simp only [hx1, hx2]
  clear hx1 hx2 hw1 hw2
  obtain ⟨wy, hwy⟩ : ∃ W, W = wx.setCell ⟨Q, 5, none⟩ (.int .i64 N) := ⟨_, rfl⟩
  have hQl := (Array.getElem?_eq_some_iff.1 R_Q.out).1
  have h1 : wy.heap[Q]? = some (.cells #[.int .i64 7, .string mine, .slice none 0 0, .int .i64 0, .int .i64 0, .int .i64 N, .string vTwo, .bool false] 31 (0, 0)) := by rw [hwy]; simp [World.setCell, Array.getElem?_modify, R_Q.out]
  have k1 : ∀ k, k ≠ Q → wy.heap[k]? = wx.heap[k]? := fun k hk => by rw [hwy]; exact blk_off rfl hk
  have hb1 : Below w.heap.size wx wy := by rw [hwy]; exact (Below.refl _ _).setCell (p := ⟨Q, 5, none⟩) hQw _
  rw [← hwy]
  replace R_S_S := Lib.hid ((k1 _ (blk_ne R_S_S.out R_Q.out (by decide))).trans R_S_S.out)
  replace R_X_T := Lib.hid ((k1 _ (blk_ne R_X_T.out R_Q.out (by decide))).trans R_X_T.out)
  replace R_X_A := Lib.hid ((k1 _ (blk_ne R_X_A.out R_Q.out (by decide))).trans R_X_A.out)
  replace R_S_B := Lib.hid ((k1 _ (blk_ne R_S_B.out R_Q.out (by decide))).trans R_S_B.out)
  replace R_X_B := Lib.hid ((k1 _ (blk_ne R_X_B.out R_Q.out (by decide))).trans R_X_B.out)
  replace R_S_C := Lib.hid ((k1 _ (blk_ne R_S_C.out R_Q.out (by decide))).trans R_S_C.out)
  replace R_X_C := Lib.hid ((k1 _ (blk_ne R_X_C.out R_Q.out (by decide))).trans R_X_C.out)
  replace O_A := Lib.hid (keptT1 O_A.out R_Q.out k1 (by decide) (by decide) (by decide))
  replace R_Q := Lib.hid h1
  replace HB := Lib.hid (HB.out.trans hb1)
  replace HEx := Lib.hid (HEx.out.below HE.out.globs hb1)
  clear h1 k1 hb1 hQl hwy
  obtain ⟨wx, rfl⟩ : ∃ wx : World, wx = wy := ⟨_, rfl⟩
  go_wp2_with (first
   | refine wpList_load_row rfl 28 _ rfl S_S rfl _ _ _ _ R_S_S.out Tryz.underlying28 rfl (by kernel_rfl) ?_
   | refine wpList_load_row rfl 31 _ rfl Q rfl _ _ _ _ R_Q.out Tryz.underlying31 rfl (by kernel_rfl) ?_)
  refine (do_at (s := A) (r := casR mine N vTwo) (ka := none) (kc := 0) HEx (Lib.hid O_A.out.at) (RowsAt.nil _ _ _ _) (by show _ ≤ 1000; exact Nat.zero_le _) (by show _ ≤ 1000; exact (by decide : mine.size ≤ 1000)) rfl rfl).mono ?_
  rw [HD5.out]
  rintro e wn ⟨va_D, vc_D, fa_D, fc_D, ha_D, hc_D, rfl, hso, -, hbn⟩
  replace R_S_S := Lib.hid ((hbn.block S_S (Array.getElem?_eq_some_iff.1 R_S_S.out).1).trans R_S_S.out)
  replace R_X_T := Lib.hid ((hbn.block X_T (Array.getElem?_eq_some_iff.1 R_X_T.out).1).trans R_X_T.out)
  replace R_X_A := Lib.hid ((hbn.block X_A (Array.getElem?_eq_some_iff.1 R_X_A.out).1).trans R_X_A.out)
  replace R_Q := Lib.hid ((hbn.block Q (Array.getElem?_eq_some_iff.1 R_Q.out).1).trans R_Q.out)
  replace R_S_B := Lib.hid ((hbn.block S_B (Array.getElem?_eq_some_iff.1 R_S_B.out).1).trans R_S_B.out)
  replace R_X_B := Lib.hid ((hbn.block X_B (Array.getElem?_eq_some_iff.1 R_X_B.out).1).trans R_X_B.out)
  replace R_S_C := Lib.hid ((hbn.block S_C (Array.getElem?_eq_some_iff.1 R_S_C.out).1).trans R_S_C.out)
  replace R_X_C := Lib.hid ((hbn.block X_C (Array.getElem?_eq_some_iff.1 R_X_C.out).1).trans R_X_C.out)
  replace O_A := Lib.hid (O_A.out.below hbn)
  replace HEx := Lib.hid (HEx.out.on hbn)
  replace HB := Lib.hid (HB.out.trans (hbn.mono HB.out.size))
  have O_D := Lib.hid hso
  clear hbn hso
  simp only [replyCells, List.length_nil]
  go_upto_region 11 with (fail)
  obtain ⟨wy, hwy, hbn, h1, h2⟩ := two_new wn (.cells (storeV D va_D vc_D fa_D fc_D) 28) (.cells #[.int .i64 4, .int .i64 0, .slice ha_D 0 hc_D] 35)
  rw [← hwy]
  obtain ⟨S_D, hS⟩ : ∃ B, B = wn.heap.size := ⟨_, rfl⟩
  obtain ⟨X_D, hX⟩ : ∃ B, B = wn.heap.size + 1 := ⟨_, rfl⟩
  rw [← hX] at h2
  rw [← hS] at h1
  rw [← hX, ← hS]
  replace R_S_S := Lib.hid ((hbn.block S_S (Array.getElem?_eq_some_iff.1 R_S_S.out).1).trans R_S_S.out)
  replace R_X_T := Lib.hid ((hbn.block X_T (Array.getElem?_eq_some_iff.1 R_X_T.out).1).trans R_X_T.out)
  replace R_X_A := Lib.hid ((hbn.block X_A (Array.getElem?_eq_some_iff.1 R_X_A.out).1).trans R_X_A.out)
  replace R_Q := Lib.hid ((hbn.block Q (Array.getElem?_eq_some_iff.1 R_Q.out).1).trans R_Q.out)
  replace R_S_B := Lib.hid ((hbn.block S_B (Array.getElem?_eq_some_iff.1 R_S_B.out).1).trans R_S_B.out)
  replace R_X_B := Lib.hid ((hbn.block X_B (Array.getElem?_eq_some_iff.1 R_X_B.out).1).trans R_X_B.out)
  replace R_S_C := Lib.hid ((hbn.block S_C (Array.getElem?_eq_some_iff.1 R_S_C.out).1).trans R_S_C.out)
  replace R_X_C := Lib.hid ((hbn.block X_C (Array.getElem?_eq_some_iff.1 R_X_C.out).1).trans R_X_C.out)
  replace O_A := Lib.hid (O_A.out.below hbn)
  replace O_D := Lib.hid (O_D.out.below hbn)
  replace HEx := Lib.hid (HEx.out.on hbn)
  replace HB := Lib.hid (HB.out.trans (hbn.mono HB.out.size))
  have R_S_D := Lib.hid h1
  have R_X_D := Lib.hid h2
  clear hbn h1 h2 hwy hS hX
  obtain ⟨wx, rfl⟩ : ∃ wx : World, wx = wy := ⟨_, rfl⟩
  have fz : ∀ i, wx.frozen? ⟨Q, i, none⟩ = false := fun v => frozen_of_row wx _ _ _ _ R_Q.out
  have t1 : wx.cell? ⟨Q, 1, none⟩ = some (.string mine) := by rw [cell_of_row wx _ _ _ _ _ R_Q.out]; rfl
  clear O_D
  go_upto_region 12 with (fail)
  clear fz t1
  obtain ⟨wy, hwy⟩ : ∃ W, W = wx.setCell ⟨Q, 1, none⟩ (.string ⟨#[110, 101, 118, 101, 114]⟩) := ⟨_, rfl⟩
  have hQl := (Array.getElem?_eq_some_iff.1 R_Q.out).1
  have h1 : wy.heap[Q]? = some (.cells #[.int .i64 7, .string never, .slice none 0 0, .int .i64 0, .int .i64 0, .int .i64 N, .string vTwo, .bool false] 31 (0, 0)) := by rw [hwy]; simp [World.setCell, Array.getElem?_modify, R_Q.out, never]
  have k1 : ∀ k, k ≠ Q → wy.heap[k]? = wx.heap[k]? := fun k hk => by rw [hwy]; exact blk_off rfl hk
  have hb1 : Below w.heap.size wx wy := by rw [hwy]; exact (Below.refl _ _).setCell (p := ⟨Q, 1, none⟩) hQw _
  rw [← hwy]
  replace R_S_S := Lib.hid ((k1 _ (blk_ne R_S_S.out R_Q.out (by decide))).trans R_S_S.out)
  replace R_X_T := Lib.hid ((k1 _ (blk_ne R_X_T.out R_Q.out (by decide))).trans R_X_T.out)
  replace R_X_A := Lib.hid ((k1 _ (blk_ne R_X_A.out R_Q.out (by decide))).trans R_X_A.out)
  replace R_S_B := Lib.hid ((k1 _ (blk_ne R_S_B.out R_Q.out (by decide))).trans R_S_B.out)
  replace R_X_B := Lib.hid ((k1 _ (blk_ne R_X_B.out R_Q.out (by decide))).trans R_X_B.out)
  replace R_S_C := Lib.hid ((k1 _ (blk_ne R_S_C.out R_Q.out (by decide))).trans R_S_C.out)
  replace R_X_C := Lib.hid ((k1 _ (blk_ne R_X_C.out R_Q.out (by decide))).trans R_X_C.out)
  replace R_S_D := Lib.hid ((k1 _ (blk_ne R_S_D.out R_Q.out (by decide))).trans R_S_D.out)
  replace R_X_D := Lib.hid ((k1 _ (blk_ne R_X_D.out R_Q.out (by decide))).trans R_X_D.out)
  replace O_A := Lib.hid (keptT1 O_A.out R_Q.out k1 (by decide) (by decide) (by decide))
  replace R_Q := Lib.hid h1
  replace HB := Lib.hid (HB.out.trans hb1)
  replace HEx := Lib.hid (HEx.out.below HE.out.globs hb1)
  clear h1 k1 hb1 hQl hwy
  obtain ⟨wx, rfl⟩ : ∃ wx : World, wx = wy := ⟨_, rfl⟩
  go_wp2_with (first
   | refine wpList_load_row rfl 28 _ rfl S_S rfl _ _ _ _ R_S_S.out Tryz.underlying28 rfl (by kernel_rfl) ?_
   | refine wpList_load_row rfl 31 _ rfl Q rfl _ _ _ _ R_Q.out Tryz.underlying31 rfl (by kernel_rfl) ?_)
  refine (do_at (s := A) (r := casR never N vTwo) (ka := none) (kc := 0) HEx (Lib.hid O_A.out.at) (RowsAt.nil _ _ _ _) (by show _ ≤ 1000; exact Nat.zero_le _) (by show _ ≤ 1000; exact (by decide : never.size ≤ 1000)) rfl rfl).mono ?_
  rw [HD6.out]
  rintro e wn ⟨va_M, vc_M, fa_M, fc_M, ha_M, hc_M, rfl, hso, -, hbn⟩
  replace R_S_S := Lib.hid ((hbn.block S_S (Array.getElem?_eq_some_iff.1 R_S_S.out).1).trans R_S_S.out)
  replace R_X_T := Lib.hid ((hbn.block X_T (Array.getElem?_eq_some_iff.1 R_X_T.out).1).trans R_X_T.out)
  replace R_X_A := Lib.hid ((hbn.block X_A (Array.getElem?_eq_some_iff.1 R_X_A.out).1).trans R_X_A.out)
  replace R_Q := Lib.hid ((hbn.block Q (Array.getElem?_eq_some_iff.1 R_Q.out).1).trans R_Q.out)
  replace R_S_B := Lib.hid ((hbn.block S_B (Array.getElem?_eq_some_iff.1 R_S_B.out).1).trans R_S_B.out)
  replace R_X_B := Lib.hid ((hbn.block X_B (Array.getElem?_eq_some_iff.1 R_X_B.out).1).trans R_X_B.out)
  replace R_S_C := Lib.hid ((hbn.block S_C (Array.getElem?_eq_some_iff.1 R_S_C.out).1).trans R_S_C.out)
  replace R_X_C := Lib.hid ((hbn.block X_C (Array.getElem?_eq_some_iff.1 R_X_C.out).1).trans R_X_C.out)
  replace R_S_D := Lib.hid ((hbn.block S_D (Array.getElem?_eq_some_iff.1 R_S_D.out).1).trans R_S_D.out)
  replace R_X_D := Lib.hid ((hbn.block X_D (Array.getElem?_eq_some_iff.1 R_X_D.out).1).trans R_X_D.out)
  replace O_A := Lib.hid (O_A.out.below hbn)
  replace HEx := Lib.hid (HEx.out.on hbn)
  replace HB := Lib.hid (HB.out.trans (hbn.mono HB.out.size))
  have O_M := Lib.hid hso
  clear hbn hso
  simp only [replyCells, List.length_nil]
  go_upto_region 13 with (fail)
  obtain ⟨wy, hwy, hbn, h1, h2⟩ := two_new wn (.cells (storeV M va_M vc_M fa_M fc_M) 28) (.cells #[.int .i64 5, .int .i64 0, .slice ha_M 0 hc_M] 35)
  rw [← hwy]
  obtain ⟨S_M, hS⟩ : ∃ B, B = wn.heap.size := ⟨_, rfl⟩
  obtain ⟨X_M, hX⟩ : ∃ B, B = wn.heap.size + 1 := ⟨_, rfl⟩
  rw [← hX] at h2
  rw [← hS] at h1
  rw [← hX, ← hS]
  replace R_S_S := Lib.hid ((hbn.block S_S (Array.getElem?_eq_some_iff.1 R_S_S.out).1).trans R_S_S.out)
  replace R_X_T := Lib.hid ((hbn.block X_T (Array.getElem?_eq_some_iff.1 R_X_T.out).1).trans R_X_T.out)
  replace R_X_A := Lib.hid ((hbn.block X_A (Array.getElem?_eq_some_iff.1 R_X_A.out).1).trans R_X_A.out)
  replace R_Q := Lib.hid ((hbn.block Q (Array.getElem?_eq_some_iff.1 R_Q.out).1).trans R_Q.out)
  replace R_S_B := Lib.hid ((hbn.block S_B (Array.getElem?_eq_some_iff.1 R_S_B.out).1).trans R_S_B.out)
  replace R_X_B := Lib.hid ((hbn.block X_B (Array.getElem?_eq_some_iff.1 R_X_B.out).1).trans R_X_B.out)
  replace R_S_C := Lib.hid ((hbn.block S_C (Array.getElem?_eq_some_iff.1 R_S_C.out).1).trans R_S_C.out)
  replace R_X_C := Lib.hid ((hbn.block X_C (Array.getElem?_eq_some_iff.1 R_X_C.out).1).trans R_X_C.out)
  replace R_S_D := Lib.hid ((hbn.block S_D (Array.getElem?_eq_some_iff.1 R_S_D.out).1).trans R_S_D.out)
  replace R_X_D := Lib.hid ((hbn.block X_D (Array.getElem?_eq_some_iff.1 R_X_D.out).1).trans R_X_D.out)
  replace O_A := Lib.hid (O_A.out.below hbn)
  replace O_M := Lib.hid (O_M.out.below hbn)
  replace HEx := Lib.hid (HEx.out.on hbn)
  replace HB := Lib.hid (HB.out.trans (hbn.mono HB.out.size))
  have R_S_M := Lib.hid h1
  have R_X_M := Lib.hid h2
  clear hbn h1 h2 hwy hS hX
  obtain ⟨wx, rfl⟩ : ∃ wx : World, wx = wy := ⟨_, rfl⟩
  have z1 : wx.cell? ⟨X_B, 0, none⟩ = some (.int .i64 2) := by rw [cell_of_row wx _ _ _ _ _ R_X_B.out]; rfl
  have z2 : wx.cell? ⟨X_C, 0, none⟩ = some (.int .i64 4) := by rw [cell_of_row wx _ _ _ _ _ R_X_C.out]; rfl
  have z3 : wx.cell? ⟨X_D, 0, none⟩ = some (.int .i64 4) := by rw [cell_of_row wx _ _ _ _ _ R_X_D.out]; rfl
  have z4 : wx.cell? ⟨X_M, 0, none⟩ = some (.int .i64 5) := by rw [cell_of_row wx _ _ _ _ _ R_X_M.out]; rfl
  clear HD1 HD2 HD5 HD6
  go_wp2_with fail
  go_ret
  exact ⟨rfl, HB.out⟩
section
variable {H : Type} {enc : TypeId × Value → H} {w : World}
theorem bytes_raw : Tryz.prog.bytesOf 50 = 32 := by kernel_rfl
instance : Inhabited (Int × Int × Int × Int) := ⟨(0, 0, 0, 0)⟩
theorem read_raw {f : Nat} {cs : List Value} {y : DataW H × List MemPlace} (h : DataW.trod enc Tryz.prog w 0 (fun _ => true) true f 50 cs = some y) : ∃ r, rawR cs r := by
 obtain ⟨xs, n, _, _, hl, hx, hf⟩ := DataW.trod_struct Tryz.underlying50 h
 obtain ⟨c0, c1, c2, c3, rfl⟩ := four (hl.trans (by kernel_rfl))
 obtain ⟨y0, y1, y2, y3, rfl⟩ := four hx
 have h0 := hf 0 _ rfl
 have h1 := hf 1 _ rfl
 have h2 := hf 2 _ rfl
 have h3 := hf 3 _ rfl
 simp [cells_int] at h0 h1 h2 h3
 obtain ⟨n0, e0, b0⟩ := read_i64 Tryz.underlying3 h0
 obtain ⟨n1, e1, b1⟩ := read_i64 Tryz.underlying3 h1
 obtain ⟨n2, e2, b2⟩ := read_i64 Tryz.underlying3 h2
 obtain ⟨n3, e3, b3⟩ := read_i64 Tryz.underlying3 h3
 cases e0; cases e1; cases e2; cases e3
 exact ⟨(n0, n1, n2, n3), rfl, b0, b1, b2, b3⟩
end
set_option maxRecDepth 100000 in
theorem enters {H : Type} {enc : TypeId × Value → H} {W : World} {base : Nat} {args : Array Value} {ds : List (DataW H)} {p : List MemPlace}
  (hval : ∀ (j : Nat) t v, Tryz.f6.params[j]? = some t → args[j]? = some v → Value.okWide Tryz.prog W .any base t v)
  (hA : DataW.TrodAll enc Tryz.prog W 0 (fun _ => true) true Tryz.f6.params.toList args.toList ds p) (hsz : ∀ m ∈ DataW.weightsEach Tryz.prog Tryz.f6.params.toList ds, m ≤ reachBytes) (hL : laidMetH Tryz.prog Rows.casOnceRow.laid W) :
  Calls Tryz.prog 6 args W fun e W' => e = .returned (.bool true) ∧ Below W.heap.size W W' := by
 rw [Tryz.params6] at hA hval hsz
 obtain ⟨v0, vs0, d0, ds0, p0, q0, hargs, rfl, rfl, h0, r0⟩ := trodAll_cons hA
 obtain ⟨v1, vs1, d1, ds1, p1, q1, hargs1, rfl, rfl, h1, r1⟩ := trodAll_cons r0
 obtain ⟨rfl, rfl, rfl⟩ := trodAll_nil r1
 obtain rfl : args = #[v0, v1] := by cases args; simp_all
 obtain ⟨a0, n0, c0, rfl⟩ := okWide_slice Tryz.underlying42 (hval 0 42 v0 rfl rfl)
 obtain ⟨fuel, hf⟩ := h0
 obtain ⟨a, len, c, l, he, hll, hlc, hcm, hrow⟩ := read_slice (v := .slice a0 n0 c0) (n := 4) rawR Tryz.underlying42 (by kernel_rfl) (by omega) (fun f cs y hy _ => read_raw hy) hf (Wt.all hsz 0 rfl rfl)
 cases he
 subst hll
 obtain ⟨d, rfl, rfl, rfl, hd⟩ := open_int Tryz.underlying3 (hval 1 3 v1 rfl rfl) h1
 exact walk l a0 c0 d (bounds_i64 hd) W (env_of hL) hrow

set_option maxRecDepth 100000 in
theorem contract {H : Type} {enc : TypeId × Value → H} {W : World} {base : Nat} {args : Array Value} {ds gs : List (DataW H)} {before : List MemPlace}
  (hval0 : ∀ (j : Nat) t v, Tryz.f6.params[j]? = some t → args[j]? = some v → Value.okWide Tryz.prog W .any base t v)
  (hW : DataW.Whole enc Tryz.prog Tryz.f6.params.toList Rows.casOnceSpec.vars false W args.toList ds gs before)
  (hsz0 : (DataW.weightsEach Tryz.prog (Tryz.f6.params.toList ++ []) (ds ++ gs)).all (· ≤ reachBytes) = true) (hL : laidMetH Tryz.prog Rows.casOnceRow.laid W) :
  Calls Tryz.prog 6 args W fun e W' => ∃ v, e = .returned v ∧ Rows.casOnceSpec.post enc Tryz.prog Tryz.f6 false true false false W args v W' := by
 have hval : ∀ (j : Nat) t v, Tryz.f6.params[j]? = some t → args[j]? = some v → Value.okWide Tryz.prog W .any base t v := hval0
 have hW' := hW
 obtain ⟨p, q, hA0, hV, rfl, hfz, hnd⟩ := hW
 have hA : DataW.TrodAll enc Tryz.prog W 0 (fun _ => true) true Tryz.f6.params.toList args.toList ds p := hA0
 obtain ⟨rfl, rfl⟩ := trodVars_none hV
 have hsz : ∀ m ∈ DataW.weightsEach Tryz.prog Tryz.f6.params.toList ds, m ≤ reachBytes := by
  have h0 := hsz0
  rw [List.append_nil, List.append_nil] at h0
  intro m hm
  simpa using List.all_eq_true.1 h0 m hm
 have hds : Rows.casOnceSpec.fn H (ds ++ []) = { results := [.lit (.bool true)], args := ds } := by
  have hA1 := hA
  rw [Tryz.params6] at hA1
  obtain ⟨v0, vs0, d0, ds0, p0, q0, _, rfl, rfl, h0, r0⟩ := trodAll_cons hA1
  obtain ⟨v1, vs1, d1, ds1, p1, q1, _, rfl, rfl, h1, r1⟩ := trodAll_cons r0
  obtain ⟨_, rfl, rfl⟩ := trodAll_nil r1
  rfl
 refine (enters hval hA hsz hL).mono fun e W' ⟨he, hb⟩ => ⟨_, he, D.law_post rfl rfl hds (by kernel_rfl) hW' hb⟩
theorem laid_met (os : Os) : laidMet Tryz.prog Rows.casOnceRow.laid ((D.laidWorldS os).forCall (fun _ _ => 0) ⟨#[], #[.slice none 0 0, .int .i64 0], []⟩).memory :=
 laidMet_of_run' 12 (by kernel_rfl) (by kernel_rfl)
theorem reads (os : Os) {H : Type} (enc : TypeId × Value → H) : ∃ places, DataW.whole enc Tryz.prog ((D.laidWorldS os).forCall (fun _ _ => 0) ⟨#[], #[.slice none 0 0, .int .i64 0], []⟩).memory Tryz.f6.params.toList Rows.casOnceSpec.vars false (#[.slice none 0 0, .int .i64 0] : Array Value).toList 12 = some ([.nil, .lit (.int .i64 0)], [], places) :=
 ⟨[], by kernel_rfl⟩
set_option maxRecDepth 100000 in
theorem lifted (os : Os) (started : os.Started) (H : Type) (enc : TypeId × Value → H) (F : Stop.Interp) :
  ReturnsInHanded {} Tryz.checked os 6 .any ((OpenSpec.ofChange Rows.casOnceSpec).preRow enc Tryz.prog Tryz.f6 Rows.casOnceRow.domain false Rows.casOnceRow.laid) (((OpenSpec.ofChange Rows.casOnceSpec).at F).post enc Tryz.prog Tryz.f6 false true false false) := by
 obtain ⟨places, hx⟩ := reads os enc
 refine returnsInHanded_of_row (C := Tryz.checked) (s := OpenSpec.ofChange Rows.casOnceSpec) D.own started (by kernel_rfl) Tryz.func6
  (witness_row_at (enc := enc) (C := Tryz.checked) false (D.laidWorldS os) #[.slice none 0 0, .int .i64 0] rfl (by kernel_rfl) (by kernel_rfl) (by kernel_rfl)
   (OpenSpec.preRow_of_cond 12 hx (by kernel_rfl) (fun k hk => by cases hk) (by kernel_rfl) (laid_met os))) ?_
 intro W base args ds gs before hval hW _ _ hsz hL _ _
 exact contract hval hW hsz hL
theorem said : Rows.CasOnceSaid :=
 OpenClaim.holds_of_cond 6 Tryz.f6 rfl rfl rfl rfl rfl rfl rfl ⟨rfl, rfl, rfl, rfl, rfl⟩ rfl rfl rfl rfl rfl (by kernel_rfl) Tryz.func6 (by kernel_rfl)
  (of_decide_eq_true (by kernel_rfl)) (by unfold Func.isWrapper; first | (rw [if_pos (by decide +kernel)]; kernel_rfl) | (rw [if_neg (by decide +kernel)]; exact ⟨rfl, rfl⟩))
  (fun os started H enc _ F => by rw [OpenClaim.pre_eq_preRow]; exact lifted os started H enc F)
theorem plain (f : FuncId) (fn : Func) (hf : Tryz.pinned.checked.prog.funcNamed "dovecote/dovecotekeep.CasOnce" = some f) (hfn : Tryz.pinned.checked.prog.funcs[f]? = some fn) :
  true = Tryz.pinned.checked.prog.looks [] ∧ ∀ (j : Nat) t, fn.params[j]? = some t → Tryz.pinned.checked.prog.wantsStandIn t = false := by
 obtain rfl : f = 6 := Option.some.inj ((show Tryz.prog.funcNamed "dovecote/dovecotekeep.CasOnce" = some 6 by kernel_rfl).symm.trans hf) |>.symm
 obtain rfl : fn = Tryz.f6 := (Option.some.inj (Tryz.func6.symm.trans hfn)).symm
 refine ⟨by kernel_rfl, fun j t ht => ?_⟩
 rw [Tryz.params6] at ht
 have k0 : Tryz.pinned.checked.prog.wantsStandIn 42 = false := by kernel_rfl
 have k1 : Tryz.pinned.checked.prog.wantsStandIn 3 = false := by kernel_rfl
 have hh : t = 42 ∨ t = 3 := by simpa using Array.mem_of_getElem? ht
 rcases hh with rfl | rfl
 ·exact k0
 ·exact k1
theorem card : Rows.CasOnceCardSaid :=
 Claim7.holds_tied_plain_at .later [] _ _ _ _ said (fun _ h => by cases h) (by kernel_rfl) (fun _ h => by cases h) casOnce_row_tie rfl ⟨rfl, rfl⟩ (by kernel_rfl) rfl plain (by kernel_rfl)
end Go.Proofs.YtbeegfkfpkfccaaGreatDoor.casOnce

