/-
 PROVED: 'Rows.DeletesGoCardSaid': what is deleted, or flushed, is not found. No condition; the tables that the call reads are tied to the program's text.
-/
import Derived.Test.YtbeegfkfpkfccaaGreatDoorYCPlay
import Derived.Test.YtbeegfkfpkfccaaGreatDoorYCDoorS
import Derived.Test.YtbeegfkfpkfccaaGreatDoorYPFound
namespace Go.Proofs.YtbeegfkfpkfccaaGreatDoor.deletesGo
open Go.ChangeShapes Go.WideShapes Go.ChangeAt Go.RowKit Go.Proofs.YtbeegfkfpkfccaaGreatDoor.D
theorem laws {S : Store} {k : ByteArray} (hP : Played 50 50 12 4 S) (hk : k ∈ K8) : ∃ (T1 : Store) (h1 : Hit) (there : Bool) (T2 T3 : Store) (h3 : Hit) (T4 T5 : Store), getOf S k = (T1, h1, there) ∧ doOf S ⟨8, k, [], 0, 0, 0, ⟨#[]⟩, false⟩ = (T2, ⟨if there then 6 else 5, 0, []⟩, 0) ∧
  getOf T2 k = (T3, h3, false) ∧ doOf S ⟨12, ⟨#[]⟩, [], 0, 0, 0, ⟨#[]⟩, false⟩ = (T4, ⟨9, 0, []⟩, 0) ∧ doOf T4 ⟨1, ⟨#[]⟩, K8, 0, 0, 0, ⟨#[]⟩, false⟩ = (T5, ⟨1, 0, []⟩, 0) ∧ T4.items = [] ∧ T4.cas = S.cas := by
 have hu : S.uses ≤ 1099511627766 := by have := hP.uses; omega
 have hko := K8_ok k hk
 obtain ⟨T2, d1, d2, d3, d4⟩ := del_is hP.ok hu hko
 obtain ⟨T4, f1, f2, f3, f4, f5⟩ := flush_is hP.ok hu
 have g := none_found f2 (by rw [f5]; exact hu) (ks := K8) (by decide) K8_ok f3
 obtain ⟨g1, _⟩ := get_miss (k := k) d2 (by rw [d3]; exact hu) hko (by rw [live_absent d4])
 have hg3 : getOf T2 k = ((live T2 (bl k)).1, Hit.zero, false) := by
  unfold getOf
  rw [show doOf T2 (getReq k) = _ from g1]
  rfl
 cases hl : (live S (bl k)).2 with
 | none =>
  obtain ⟨e1, _⟩ := get_miss hP.ok hu hko hl
  have hg1 : getOf S k = ((live S (bl k)).1, Hit.zero, false) := by
   unfold getOf
   rw [show doOf S (getReq k) = _ from e1]
   rfl
  rw [hl] at d1
  exact ⟨_, _, _, T2, _, _, T4, T4, hg1, d1, hg3, f1, g, f3, f4⟩
 | some i =>
  obtain ⟨q1, _, hi, _, _⟩ := live_some hl
  have hl2 : live S (bl k) = (S, some i) := Prod.ext q1 hl
  obtain ⟨e1, _⟩ := get_hit hP.ok hu hko hl2 (List.getElem?_eq_getElem hi)
  have hg1 : getOf S k = (asked S i, ⟨k, S.items[i].flags, S.items[i].cas, valueOf S S.items[i]⟩, true) := by
   unfold getOf
   rw [show doOf S (getReq k) = _ from e1]
   rfl
  rw [hl] at d1
  exact ⟨_, _, _, T2, _, _, T4, T4, hg1, d1, hg3, f1, g, f3, f4⟩
theorem rows_of_strings {w : World} {B T : Nat} {ks : List ByteArray} {fr : Nat × Nat} (h : w.heap[B]? = some (.cells (ks.map Value.string).toArray T fr)) (hs : ∀ k ∈ ks, k.size ≤ reachBytes) : RowsAt w (some ⟨B, 0, none⟩) 1 strR ks := by
 refine .inr ⟨B, 0, rfl, fun i hi => ⟨[.string ks[i]], rfl, ⟨rfl, hs _ (List.getElem_mem hi)⟩, fun j v hj => ?_⟩⟩
 rcases j with _ | j
 ·rw [cell_of_row w _ _ _ _ _ h, ← hj]
  simp [hi]
 ·simp at hj
set_option maxRecDepth 100000 in
set_option maxHeartbeats 4000000 in
theorem walk (l : List (Int × Int × Int × Int)) (a : Option Addr) (c : Nat) (r0 r1 r2 r3 : Int) (hr1 : I64 r1) (w : World) (he : Env w) (h : RowsAt w a 4 rawR l) :
  Calls Tryz.prog 8 #[.slice a l.length c, .agg #[.int .i64 r0, .int .i64 r1, .int .i64 r2, .int .i64 r3]] w fun e w' => e = .returned (.bool true) ∧ Below w.heap.size w w' := by
 have HE := Lib.hid he
 have HR := Lib.hid h
 clear he h
 obtain ⟨W0, hW0⟩ : ∃ W0, W0 = w.alloc (.cells #[.int .i64 r0, .int .i64 r1, .int .i64 r2, .int .i64 r3] 50) := ⟨_, rfl⟩
 have hb0 := below_new hW0
 have R_raw : Hid (W0.heap[w.heap.size]? = some (.cells #[.int .i64 r0, .int .i64 r1, .int .i64 r2, .int .i64 r3] 50 (0, 0))) := by rw [hW0]; exact blk_new w _
 have hpl := played_is l a c 12 4 50 (by omega) (by omega) (by omega) W0 (HE.out.on hb0) (HR.out.keep (Below.keeps hb0) (fun _ _ h => h))
 rw [show ((50 : Nat) : Int) = 50 from rfl] at hpl
 have HPL := Lib.hid hpl
 have HB0 := Lib.hid hb0
 obtain ⟨n, hn⟩ : ∃ n, n = l.length := ⟨_, rfl⟩
 rw [← hn] at HPL ⊢
 clear hpl hn HR hb0
 go_enter Tryz.func8, Tryz.ntmps8
 go_wp2_with fail
 rw [← hW0]
 refine HPL.out.mono ?_
 rintro e w1 ⟨S, va_S, vc_S, fa_S, fc_S, oa, ol, oc, rfl, hso, hpd, hb1⟩
 obtain ⟨raw, hraw⟩ : ∃ B, B = w.heap.size := ⟨_, rfl⟩
 rw [← hraw] at R_raw
 replace R_raw := Lib.hid ((hb1.block raw (Array.getElem?_eq_some_iff.1 R_raw.out).1).trans R_raw.out)
 have HB := Lib.hid (HB0.out.trans (hb1.mono HB0.out.size))
 have HEx := Lib.hid (HE.out.on HB.out)
 have O_S := Lib.hid hso
 have HPD := Lib.hid hpd
 clear hb1 hso hpd HB0 HPL
 go_upto_region 2 with (fail)
 obtain ⟨wy, hwy⟩ : ∃ W, W = w1.alloc (.cells (storeV S va_S vc_S fa_S fc_S) 28) := ⟨_, rfl⟩
 obtain ⟨S_S, hS⟩ : ∃ B, B = w1.heap.size := ⟨_, rfl⟩
 have h1 : wy.heap[S_S]? = some (.cells (storeV S va_S vc_S fa_S fc_S) 28 (0, 0)) := by rw [hwy, hS]; exact blk_new w1 _
 have hbn := below_new hwy
 rw [← hwy, ← hS, ← hraw]
 replace R_raw := Lib.hid ((hbn.block raw (Array.getElem?_eq_some_iff.1 R_raw.out).1).trans R_raw.out)
 replace O_S := Lib.hid (O_S.out.below hbn)
 replace HEx := Lib.hid (HEx.out.on hbn)
 replace HB := Lib.hid (HB.out.trans (hbn.mono HB.out.size))
 have R_S_S := Lib.hid h1
 clear hbn h1 hwy hS hW0 hraw
 obtain ⟨wx, rfl⟩ : ∃ wx : World, wx = wy := ⟨_, rfl⟩
 have x1 : wx.cell? ⟨raw, 1, none⟩ = some (.int .i64 r1) := by rw [cell_of_row wx _ _ _ _ _ R_raw.out]; rfl
 go_wp2_with fail
 refine (key8_is r1 hr1.1 hr1.2 wx).mono ?_
 rintro e wn ⟨k, rfl, hk, hbn⟩
 clear x1
 replace R_raw := Lib.hid ((hbn.block raw (Array.getElem?_eq_some_iff.1 R_raw.out).1).trans R_raw.out)
 replace R_S_S := Lib.hid ((hbn.block S_S (Array.getElem?_eq_some_iff.1 R_S_S.out).1).trans R_S_S.out)
 replace O_S := Lib.hid (O_S.out.below hbn)
 replace HEx := Lib.hid (HEx.out.on hbn)
 replace HB := Lib.hid (HB.out.trans (hbn.mono HB.out.size))
 clear hbn
 obtain ⟨wx, rfl⟩ : ∃ wx : World, wx = wn := ⟨_, rfl⟩
 obtain ⟨T1, h1, there, T2, T3, h3, T4, T5, e1, e2, e3, e4, e5, e6, e7⟩ := laws HPD.out hk
 have HD1 := Lib.hid e1
 obtain ⟨kd, hkd⟩ : ∃ kd : Int, kd = if there = true then 6 else 5 := ⟨_, rfl⟩
 rw [← hkd] at e2
 have HKD := Lib.hid hkd
 have HD2 := Lib.hid e2
 have HD3 := Lib.hid e3
 have HD4 := Lib.hid e4
 have HD5 := Lib.hid e5
 have HI := Lib.hid e6
 have HC := Lib.hid e7
 have hks : k.size ≤ 20 := keyOK_20 (K8_ok k hk)
 clear e1 e2 e3 e4 e5 e6 e7 hk HPD hkd
 go_upto_region 3 with (fail)
 go_wp2_with (refine wpList_load_row rfl 28 _ rfl S_S rfl _ _ _ _ R_S_S.out Tryz.underlying28 rfl (by kernel_rfl) ?_)
 refine (keep_get S k va_S fa_S vc_S fc_S wx HEx.out O_S.out.at (by show _ ≤ 1000; omega)).mono ?_
 rw [HD1.out]
 rintro e wn ⟨va_T1, vc_T1, fa_T1, fc_T1, rfl, hso, hbn⟩
 replace R_raw := Lib.hid ((hbn.block raw (Array.getElem?_eq_some_iff.1 R_raw.out).1).trans R_raw.out)
 replace R_S_S := Lib.hid ((hbn.block S_S (Array.getElem?_eq_some_iff.1 R_S_S.out).1).trans R_S_S.out)
 replace O_S := Lib.hid (O_S.out.below hbn)
 replace HEx := Lib.hid (HEx.out.on hbn)
 replace HB := Lib.hid (HB.out.trans (hbn.mono HB.out.size))
 have O_T1 := Lib.hid hso
 clear hbn hso
 go_upto_region 4 with (fail)
 obtain ⟨wy, hwy, hbn, h1, h2⟩ := two_new wn (.cells (storeV T1 va_T1 vc_T1 fa_T1 fc_T1) 28) (.cells #[.string h1.key, .int .i64 h1.flags, .int .i64 h1.cas, .string h1.value] 53)
 rw [← hwy]
 obtain ⟨S_T1, hS⟩ : ∃ B, B = wn.heap.size := ⟨_, rfl⟩
 obtain ⟨X_T1, hX⟩ : ∃ B, B = wn.heap.size + 1 := ⟨_, rfl⟩
 rw [← hX] at h2
 rw [← hS] at h1
 rw [← hX, ← hS]
 replace R_raw := Lib.hid ((hbn.block raw (Array.getElem?_eq_some_iff.1 R_raw.out).1).trans R_raw.out)
 replace R_S_S := Lib.hid ((hbn.block S_S (Array.getElem?_eq_some_iff.1 R_S_S.out).1).trans R_S_S.out)
 replace O_S := Lib.hid (O_S.out.below hbn)
 replace O_T1 := Lib.hid (O_T1.out.below hbn)
 replace HEx := Lib.hid (HEx.out.on hbn)
 replace HB := Lib.hid (HB.out.trans (hbn.mono HB.out.size))
 have R_S_T1 := Lib.hid h1
 have R_X_T1 := Lib.hid h2
 clear hbn h1 h2 hwy hS hX
 obtain ⟨wx, rfl⟩ : ∃ wx : World, wx = wy := ⟨_, rfl⟩
 go_wp2_with (refine wpList_load_row rfl 28 _ rfl S_S rfl _ _ _ _ R_S_S.out Tryz.underlying28 rfl (by kernel_rfl) ?_)
 refine (do_at (s := S) (r := ⟨8, k, [], 0, 0, 0, ⟨#[]⟩, false⟩) (ka := none) (kc := 0) HEx (Lib.hid O_S.out.at) (RowsAt.nil _ _ _ _) (by show _ ≤ 1000; exact Nat.zero_le _) (by show _ ≤ 1000; show k.size ≤ 1000; omega) rfl rfl).mono ?_
 rw [HD2.out]
 rintro e wn ⟨va_T2, vc_T2, fa_T2, fc_T2, ha_T2, hc_T2, rfl, hso, -, hbn⟩
 replace R_raw := Lib.hid ((hbn.block raw (Array.getElem?_eq_some_iff.1 R_raw.out).1).trans R_raw.out)
 replace R_S_S := Lib.hid ((hbn.block S_S (Array.getElem?_eq_some_iff.1 R_S_S.out).1).trans R_S_S.out)
 replace R_S_T1 := Lib.hid ((hbn.block S_T1 (Array.getElem?_eq_some_iff.1 R_S_T1.out).1).trans R_S_T1.out)
 replace R_X_T1 := Lib.hid ((hbn.block X_T1 (Array.getElem?_eq_some_iff.1 R_X_T1.out).1).trans R_X_T1.out)
 replace O_S := Lib.hid (O_S.out.below hbn)
 replace O_T1 := Lib.hid (O_T1.out.below hbn)
 replace HEx := Lib.hid (HEx.out.on hbn)
 replace HB := Lib.hid (HB.out.trans (hbn.mono HB.out.size))
 have O_T2 := Lib.hid hso
 clear hbn hso
 simp only [replyCells, List.length_nil]
 go_upto_region 5 with (fail)
 obtain ⟨wy, hwy, hbn, h1, h2⟩ := two_new wn (.cells (storeV T2 va_T2 vc_T2 fa_T2 fc_T2) 28) (.cells #[.int .i64 kd, .int .i64 0, .slice ha_T2 0 hc_T2] 35)
 rw [← hwy]
 obtain ⟨S_T2, hS⟩ : ∃ B, B = wn.heap.size := ⟨_, rfl⟩
 obtain ⟨X_T2, hX⟩ : ∃ B, B = wn.heap.size + 1 := ⟨_, rfl⟩
 rw [← hX] at h2
 rw [← hS] at h1
 rw [← hX, ← hS]
 replace R_raw := Lib.hid ((hbn.block raw (Array.getElem?_eq_some_iff.1 R_raw.out).1).trans R_raw.out)
 replace R_S_S := Lib.hid ((hbn.block S_S (Array.getElem?_eq_some_iff.1 R_S_S.out).1).trans R_S_S.out)
 replace R_S_T1 := Lib.hid ((hbn.block S_T1 (Array.getElem?_eq_some_iff.1 R_S_T1.out).1).trans R_S_T1.out)
 replace R_X_T1 := Lib.hid ((hbn.block X_T1 (Array.getElem?_eq_some_iff.1 R_X_T1.out).1).trans R_X_T1.out)
 replace O_S := Lib.hid (O_S.out.below hbn)
 replace O_T1 := Lib.hid (O_T1.out.below hbn)
 replace O_T2 := Lib.hid (O_T2.out.below hbn)
 replace HEx := Lib.hid (HEx.out.on hbn)
 replace HB := Lib.hid (HB.out.trans (hbn.mono HB.out.size))
 have R_S_T2 := Lib.hid h1
 have R_X_T2 := Lib.hid h2
 clear hbn h1 h2 hwy hS hX
 obtain ⟨wx, rfl⟩ : ∃ wx : World, wx = wy := ⟨_, rfl⟩
 go_wp2_with (refine wpList_load_row rfl 28 _ rfl S_T2 rfl _ _ _ _ R_S_T2.out Tryz.underlying28 rfl (by kernel_rfl) ?_)
 refine (keep_get T2 k va_T2 fa_T2 vc_T2 fc_T2 wx HEx.out O_T2.out.at (by show _ ≤ 1000; omega)).mono ?_
 rw [HD3.out]
 rintro e wn ⟨va_T3, vc_T3, fa_T3, fc_T3, rfl, hso, hbn⟩
 replace R_raw := Lib.hid ((hbn.block raw (Array.getElem?_eq_some_iff.1 R_raw.out).1).trans R_raw.out)
 replace R_S_S := Lib.hid ((hbn.block S_S (Array.getElem?_eq_some_iff.1 R_S_S.out).1).trans R_S_S.out)
 replace R_S_T1 := Lib.hid ((hbn.block S_T1 (Array.getElem?_eq_some_iff.1 R_S_T1.out).1).trans R_S_T1.out)
 replace R_X_T1 := Lib.hid ((hbn.block X_T1 (Array.getElem?_eq_some_iff.1 R_X_T1.out).1).trans R_X_T1.out)
 replace R_S_T2 := Lib.hid ((hbn.block S_T2 (Array.getElem?_eq_some_iff.1 R_S_T2.out).1).trans R_S_T2.out)
 replace R_X_T2 := Lib.hid ((hbn.block X_T2 (Array.getElem?_eq_some_iff.1 R_X_T2.out).1).trans R_X_T2.out)
 replace O_S := Lib.hid (O_S.out.below hbn)
 replace O_T1 := Lib.hid (O_T1.out.below hbn)
 replace O_T2 := Lib.hid (O_T2.out.below hbn)
 replace HEx := Lib.hid (HEx.out.on hbn)
 replace HB := Lib.hid (HB.out.trans (hbn.mono HB.out.size))
 have O_T3 := Lib.hid hso
 clear hbn hso
 go_upto_region 6 with (fail)
 obtain ⟨wy, hwy, hbn, h1, h2⟩ := two_new wn (.cells (storeV T3 va_T3 vc_T3 fa_T3 fc_T3) 28) (.cells #[.string h3.key, .int .i64 h3.flags, .int .i64 h3.cas, .string h3.value] 53)
 rw [← hwy]
 obtain ⟨S_T3, hS⟩ : ∃ B, B = wn.heap.size := ⟨_, rfl⟩
 obtain ⟨X_T3, hX⟩ : ∃ B, B = wn.heap.size + 1 := ⟨_, rfl⟩
 rw [← hX] at h2
 rw [← hS] at h1
 rw [← hX, ← hS]
 replace R_raw := Lib.hid ((hbn.block raw (Array.getElem?_eq_some_iff.1 R_raw.out).1).trans R_raw.out)
 replace R_S_S := Lib.hid ((hbn.block S_S (Array.getElem?_eq_some_iff.1 R_S_S.out).1).trans R_S_S.out)
 replace R_S_T1 := Lib.hid ((hbn.block S_T1 (Array.getElem?_eq_some_iff.1 R_S_T1.out).1).trans R_S_T1.out)
 replace R_X_T1 := Lib.hid ((hbn.block X_T1 (Array.getElem?_eq_some_iff.1 R_X_T1.out).1).trans R_X_T1.out)
 replace R_S_T2 := Lib.hid ((hbn.block S_T2 (Array.getElem?_eq_some_iff.1 R_S_T2.out).1).trans R_S_T2.out)
 replace R_X_T2 := Lib.hid ((hbn.block X_T2 (Array.getElem?_eq_some_iff.1 R_X_T2.out).1).trans R_X_T2.out)
 replace O_S := Lib.hid (O_S.out.below hbn)
 replace O_T1 := Lib.hid (O_T1.out.below hbn)
 replace O_T2 := Lib.hid (O_T2.out.below hbn)
 replace O_T3 := Lib.hid (O_T3.out.below hbn)
 replace HEx := Lib.hid (HEx.out.on hbn)
 replace HB := Lib.hid (HB.out.trans (hbn.mono HB.out.size))
 have R_S_T3 := Lib.hid h1
 have R_X_T3 := Lib.hid h2
 clear hbn h1 h2 hwy hS hX
 obtain ⟨wx, rfl⟩ : ∃ wx : World, wx = wy := ⟨_, rfl⟩
 go_wp2_with (refine wpList_load_row rfl 28 _ rfl S_S rfl _ _ _ _ R_S_S.out Tryz.underlying28 rfl (by kernel_rfl) ?_)
 refine (do_at (s := S) (r := ⟨12, ⟨#[]⟩, [], 0, 0, 0, ⟨#[]⟩, false⟩) (ka := none) (kc := 0) HEx (Lib.hid O_S.out.at) (RowsAt.nil _ _ _ _) (by show _ ≤ 1000; exact Nat.zero_le _) (by show _ ≤ 1000; decide) rfl rfl).mono ?_
 rw [HD4.out]
 rintro e wn ⟨va_T4, vc_T4, fa_T4, fc_T4, ha_T4, hc_T4, rfl, hso, -, hbn⟩
 replace R_raw := Lib.hid ((hbn.block raw (Array.getElem?_eq_some_iff.1 R_raw.out).1).trans R_raw.out)
 replace R_S_S := Lib.hid ((hbn.block S_S (Array.getElem?_eq_some_iff.1 R_S_S.out).1).trans R_S_S.out)
 replace R_S_T1 := Lib.hid ((hbn.block S_T1 (Array.getElem?_eq_some_iff.1 R_S_T1.out).1).trans R_S_T1.out)
 replace R_X_T1 := Lib.hid ((hbn.block X_T1 (Array.getElem?_eq_some_iff.1 R_X_T1.out).1).trans R_X_T1.out)
 replace R_S_T2 := Lib.hid ((hbn.block S_T2 (Array.getElem?_eq_some_iff.1 R_S_T2.out).1).trans R_S_T2.out)
 replace R_X_T2 := Lib.hid ((hbn.block X_T2 (Array.getElem?_eq_some_iff.1 R_X_T2.out).1).trans R_X_T2.out)
 replace R_S_T3 := Lib.hid ((hbn.block S_T3 (Array.getElem?_eq_some_iff.1 R_S_T3.out).1).trans R_S_T3.out)
 replace R_X_T3 := Lib.hid ((hbn.block X_T3 (Array.getElem?_eq_some_iff.1 R_X_T3.out).1).trans R_X_T3.out)
 replace O_S := Lib.hid (O_S.out.below hbn)
 replace O_T1 := Lib.hid (O_T1.out.below hbn)
 replace O_T2 := Lib.hid (O_T2.out.below hbn)
 replace O_T3 := Lib.hid (O_T3.out.below hbn)
 replace HEx := Lib.hid (HEx.out.on hbn)
 replace HB := Lib.hid (HB.out.trans (hbn.mono HB.out.size))
 have O_T4 := Lib.hid hso
 clear hbn hso
 simp only [replyCells, List.length_nil]
 go_upto_region 7 with (fail)
 obtain ⟨wy, hwy, hbn, h1, h2⟩ := two_new wn (.cells (storeV T4 va_T4 vc_T4 fa_T4 fc_T4) 28) (.cells #[.int .i64 9, .int .i64 0, .slice ha_T4 0 hc_T4] 35)
 rw [← hwy]
 obtain ⟨S_T4, hS⟩ : ∃ B, B = wn.heap.size := ⟨_, rfl⟩
 obtain ⟨X_T4, hX⟩ : ∃ B, B = wn.heap.size + 1 := ⟨_, rfl⟩
 rw [← hX] at h2
 rw [← hS] at h1
 rw [← hX, ← hS]
 replace R_raw := Lib.hid ((hbn.block raw (Array.getElem?_eq_some_iff.1 R_raw.out).1).trans R_raw.out)
 replace R_S_S := Lib.hid ((hbn.block S_S (Array.getElem?_eq_some_iff.1 R_S_S.out).1).trans R_S_S.out)
 replace R_S_T1 := Lib.hid ((hbn.block S_T1 (Array.getElem?_eq_some_iff.1 R_S_T1.out).1).trans R_S_T1.out)
 replace R_X_T1 := Lib.hid ((hbn.block X_T1 (Array.getElem?_eq_some_iff.1 R_X_T1.out).1).trans R_X_T1.out)
 replace R_S_T2 := Lib.hid ((hbn.block S_T2 (Array.getElem?_eq_some_iff.1 R_S_T2.out).1).trans R_S_T2.out)
 replace R_X_T2 := Lib.hid ((hbn.block X_T2 (Array.getElem?_eq_some_iff.1 R_X_T2.out).1).trans R_X_T2.out)
 replace R_S_T3 := Lib.hid ((hbn.block S_T3 (Array.getElem?_eq_some_iff.1 R_S_T3.out).1).trans R_S_T3.out)
 replace R_X_T3 := Lib.hid ((hbn.block X_T3 (Array.getElem?_eq_some_iff.1 R_X_T3.out).1).trans R_X_T3.out)
 replace O_S := Lib.hid (O_S.out.below hbn)
 replace O_T1 := Lib.hid (O_T1.out.below hbn)
 replace O_T2 := Lib.hid (O_T2.out.below hbn)
 replace O_T3 := Lib.hid (O_T3.out.below hbn)
 replace O_T4 := Lib.hid (O_T4.out.below hbn)
 replace HEx := Lib.hid (HEx.out.on hbn)
 replace HB := Lib.hid (HB.out.trans (hbn.mono HB.out.size))
 have R_S_T4 := Lib.hid h1
 have R_X_T4 := Lib.hid h2
 clear hbn h1 h2 hwy hS hX
 obtain ⟨wx, rfl⟩ : ∃ wx : World, wx = wy := ⟨_, rfl⟩
 go_wp2_with (refine wpList_load_row rfl 28 _ rfl S_T4 rfl _ _ _ _ R_S_T4.out Tryz.underlying28 rfl (by kernel_rfl) ?_)
 obtain ⟨wy, hwy⟩ : ∃ W, W = wx.alloc (.cells #[.string ⟨#[97]⟩, .string ⟨#[98]⟩, .string ⟨#[99, 99]⟩, .string ⟨#[107, 101, 121]⟩, .string ⟨#[108, 111, 110, 103, 45, 107, 101, 121, 45, 110, 97, 109, 101]⟩, .string ⟨#[120, 47, 121]⟩, .string ⟨#[122, 57]⟩, .string ⟨#[126]⟩] 9) := ⟨_, rfl⟩
 obtain ⟨g, hg⟩ : ∃ B, B = wx.heap.size := ⟨_, rfl⟩
 have h1 : wy.heap[g]? = some (.cells (K8.map Value.string).toArray 9 (0, 0)) := by rw [hwy, hg]; exact blk_new wx _
 have hbn := below_new hwy
 have HKK := Lib.hid (rows_of_strings h1 (fun k hk => Nat.le_trans (keyOK_20 (K8_ok k hk)) (by decide)))
 replace R_raw := Lib.hid ((hbn.block raw (Array.getElem?_eq_some_iff.1 R_raw.out).1).trans R_raw.out)
 replace R_S_S := Lib.hid ((hbn.block S_S (Array.getElem?_eq_some_iff.1 R_S_S.out).1).trans R_S_S.out)
 replace R_S_T1 := Lib.hid ((hbn.block S_T1 (Array.getElem?_eq_some_iff.1 R_S_T1.out).1).trans R_S_T1.out)
 replace R_X_T1 := Lib.hid ((hbn.block X_T1 (Array.getElem?_eq_some_iff.1 R_X_T1.out).1).trans R_X_T1.out)
 replace R_S_T2 := Lib.hid ((hbn.block S_T2 (Array.getElem?_eq_some_iff.1 R_S_T2.out).1).trans R_S_T2.out)
 replace R_X_T2 := Lib.hid ((hbn.block X_T2 (Array.getElem?_eq_some_iff.1 R_X_T2.out).1).trans R_X_T2.out)
 replace R_S_T3 := Lib.hid ((hbn.block S_T3 (Array.getElem?_eq_some_iff.1 R_S_T3.out).1).trans R_S_T3.out)
 replace R_X_T3 := Lib.hid ((hbn.block X_T3 (Array.getElem?_eq_some_iff.1 R_X_T3.out).1).trans R_X_T3.out)
 replace R_S_T4 := Lib.hid ((hbn.block S_T4 (Array.getElem?_eq_some_iff.1 R_S_T4.out).1).trans R_S_T4.out)
 replace R_X_T4 := Lib.hid ((hbn.block X_T4 (Array.getElem?_eq_some_iff.1 R_X_T4.out).1).trans R_X_T4.out)
 replace O_S := Lib.hid (O_S.out.below hbn)
 replace O_T1 := Lib.hid (O_T1.out.below hbn)
 replace O_T2 := Lib.hid (O_T2.out.below hbn)
 replace O_T3 := Lib.hid (O_T3.out.below hbn)
 replace O_T4 := Lib.hid (O_T4.out.below hbn)
 replace HEx := Lib.hid (HEx.out.on hbn)
 replace HB := Lib.hid (HB.out.trans (hbn.mono HB.out.size))
 clear h1
 rw [← hwy, ← hg]
 clear hwy hg hbn
 obtain ⟨wx, rfl⟩ : ∃ wx : World, wx = wy := ⟨_, rfl⟩
 refine (do_at (s := T4) (r := ⟨1, ⟨#[]⟩, K8, 0, 0, 0, ⟨#[]⟩, false⟩) (ka := some ⟨g, 0, none⟩) (kc := 8) HEx (Lib.hid O_T4.out.at) HKK.out (by show _ ≤ 1000; decide) (by show _ ≤ 1000; decide) rfl rfl).mono ?_
 rw [HD5.out]
 rintro e wn ⟨va_T5, vc_T5, fa_T5, fc_T5, ha_T5, hc_T5, rfl, hso, -, hbn⟩
 replace R_raw := Lib.hid ((hbn.block raw (Array.getElem?_eq_some_iff.1 R_raw.out).1).trans R_raw.out)
 replace R_S_S := Lib.hid ((hbn.block S_S (Array.getElem?_eq_some_iff.1 R_S_S.out).1).trans R_S_S.out)
 replace R_S_T1 := Lib.hid ((hbn.block S_T1 (Array.getElem?_eq_some_iff.1 R_S_T1.out).1).trans R_S_T1.out)
 replace R_X_T1 := Lib.hid ((hbn.block X_T1 (Array.getElem?_eq_some_iff.1 R_X_T1.out).1).trans R_X_T1.out)
 replace R_S_T2 := Lib.hid ((hbn.block S_T2 (Array.getElem?_eq_some_iff.1 R_S_T2.out).1).trans R_S_T2.out)
 replace R_X_T2 := Lib.hid ((hbn.block X_T2 (Array.getElem?_eq_some_iff.1 R_X_T2.out).1).trans R_X_T2.out)
 replace R_S_T3 := Lib.hid ((hbn.block S_T3 (Array.getElem?_eq_some_iff.1 R_S_T3.out).1).trans R_S_T3.out)
 replace R_X_T3 := Lib.hid ((hbn.block X_T3 (Array.getElem?_eq_some_iff.1 R_X_T3.out).1).trans R_X_T3.out)
 replace R_S_T4 := Lib.hid ((hbn.block S_T4 (Array.getElem?_eq_some_iff.1 R_S_T4.out).1).trans R_S_T4.out)
 replace R_X_T4 := Lib.hid ((hbn.block X_T4 (Array.getElem?_eq_some_iff.1 R_X_T4.out).1).trans R_X_T4.out)
 replace O_S := Lib.hid (O_S.out.below hbn)
 replace O_T1 := Lib.hid (O_T1.out.below hbn)
 replace O_T2 := Lib.hid (O_T2.out.below hbn)
 replace O_T3 := Lib.hid (O_T3.out.below hbn)
 replace O_T4 := Lib.hid (O_T4.out.below hbn)
 replace HEx := Lib.hid (HEx.out.on hbn)
 replace HB := Lib.hid (HB.out.trans (hbn.mono HB.out.size))
 have O_T5 := Lib.hid hso
 clear hbn hso
 simp only [replyCells, List.length_nil]
 go_upto_region 8 with (fail)
 obtain ⟨wy, hwy, hbn, h1, h2⟩ := two_new wn (.cells (storeV T5 va_T5 vc_T5 fa_T5 fc_T5) 28) (.cells #[.int .i64 1, .int .i64 0, .slice ha_T5 0 hc_T5] 35)
 rw [← hwy]
 obtain ⟨S_T5, hS⟩ : ∃ B, B = wn.heap.size := ⟨_, rfl⟩
 obtain ⟨X_T5, hX⟩ : ∃ B, B = wn.heap.size + 1 := ⟨_, rfl⟩
 rw [← hX] at h2
 rw [← hS] at h1
 rw [← hX, ← hS]
 replace R_raw := Lib.hid ((hbn.block raw (Array.getElem?_eq_some_iff.1 R_raw.out).1).trans R_raw.out)
 replace R_S_S := Lib.hid ((hbn.block S_S (Array.getElem?_eq_some_iff.1 R_S_S.out).1).trans R_S_S.out)
 replace R_S_T1 := Lib.hid ((hbn.block S_T1 (Array.getElem?_eq_some_iff.1 R_S_T1.out).1).trans R_S_T1.out)
 replace R_X_T1 := Lib.hid ((hbn.block X_T1 (Array.getElem?_eq_some_iff.1 R_X_T1.out).1).trans R_X_T1.out)
 replace R_S_T2 := Lib.hid ((hbn.block S_T2 (Array.getElem?_eq_some_iff.1 R_S_T2.out).1).trans R_S_T2.out)
 replace R_X_T2 := Lib.hid ((hbn.block X_T2 (Array.getElem?_eq_some_iff.1 R_X_T2.out).1).trans R_X_T2.out)
 replace R_S_T3 := Lib.hid ((hbn.block S_T3 (Array.getElem?_eq_some_iff.1 R_S_T3.out).1).trans R_S_T3.out)
 replace R_X_T3 := Lib.hid ((hbn.block X_T3 (Array.getElem?_eq_some_iff.1 R_X_T3.out).1).trans R_X_T3.out)
 replace R_S_T4 := Lib.hid ((hbn.block S_T4 (Array.getElem?_eq_some_iff.1 R_S_T4.out).1).trans R_S_T4.out)
 replace R_X_T4 := Lib.hid ((hbn.block X_T4 (Array.getElem?_eq_some_iff.1 R_X_T4.out).1).trans R_X_T4.out)
 replace O_S := Lib.hid (O_S.out.below hbn)
 replace O_T1 := Lib.hid (O_T1.out.below hbn)
 replace O_T2 := Lib.hid (O_T2.out.below hbn)
 replace O_T3 := Lib.hid (O_T3.out.below hbn)
 replace O_T4 := Lib.hid (O_T4.out.below hbn)
 replace O_T5 := Lib.hid (O_T5.out.below hbn)
 replace HEx := Lib.hid (HEx.out.on hbn)
 replace HB := Lib.hid (HB.out.trans (hbn.mono HB.out.size))
 have R_S_T5 := Lib.hid h1
 have R_X_T5 := Lib.hid h2
 clear hbn h1 h2 hwy hS hX
 obtain ⟨wx, rfl⟩ : ∃ wx : World, wx = wy := ⟨_, rfl⟩
 have z0 : wx.cell? ⟨X_T2, 0, none⟩ = some (.int .i64 kd) := by rw [cell_of_row wx _ _ _ _ _ R_X_T2.out]; rfl
 have z1 : wx.cell? ⟨X_T4, 0, none⟩ = some (.int .i64 9) := by rw [cell_of_row wx _ _ _ _ _ R_X_T4.out]; rfl
 have z2 : wx.cell? ⟨X_T5, 2, none⟩ = some (.slice ha_T5 0 hc_T5) := by rw [cell_of_row wx _ _ _ _ _ R_X_T5.out]; rfl
 have z3 : wx.cell? ⟨S_T4, 8, none⟩ = some (.slice va_T4 0 vc_T4) := by
  rw [cell_of_row wx _ _ _ _ _ R_S_T4.out]
  show some (Value.slice va_T4 T4.items.length vc_T4) = _
  rw [HI.out]; rfl
 have z4 : wx.cell? ⟨S_T4, 1, none⟩ = some (.int .i64 S.cas) := by
  rw [cell_of_row wx _ _ _ _ _ R_S_T4.out]
  show some (Value.int .i64 T4.cas) = _
  rw [HC.out]
 have z5 : wx.cell? ⟨S_S, 1, none⟩ = some (.int .i64 S.cas) := by rw [cell_of_row wx _ _ _ _ _ R_S_S.out]; rfl
 clear HD1 HD2 HD3 HD4 HD5
 cases there
 ·have hk5 : kd = 5 := HKD.out
  subst hk5
  go_wp2_with fail
  go_ret
  exact ⟨rfl, HB.out⟩
 ·have hk6 : kd = 6 := HKD.out
  subst hk6
  go_wp2_with fail
  go_ret
  exact ⟨rfl, HB.out⟩
section
variable {H : Type} {enc : TypeId × Value → H} {w : World}
theorem bytes_raw : Tryz.prog.bytesOf 50 = 32 := by kernel_rfl
instance : Inhabited (Int × Int × Int × Int) := ⟨(0, 0, 0, 0)⟩
theorem read_raw {f : Nat} {cs : List Value} {y : DataW H × List MemPlace} (h : DataW.trod enc Tryz.prog w 0 (fun _ => true) true f 50 cs = some y) : ∃ r, rawR cs r := by
 obtain ⟨xs, n, _, _, hl, hx, hf⟩ := DataW.trod_struct Tryz.underlying50 h
 obtain ⟨c0, c1, c2, c3, rfl⟩ := four (hl.trans (by kernel_rfl))
 obtain ⟨y0, y1, y2, y3, rfl⟩ := four hx
 have h0 := hf 0 _ rfl
 have h1 := hf 1 _ rfl
 have h2 := hf 2 _ rfl
 have h3 := hf 3 _ rfl
 simp [cells_int] at h0 h1 h2 h3
 obtain ⟨n0, e0, b0⟩ := read_i64 Tryz.underlying3 h0
 obtain ⟨n1, e1, b1⟩ := read_i64 Tryz.underlying3 h1
 obtain ⟨n2, e2, b2⟩ := read_i64 Tryz.underlying3 h2
 obtain ⟨n3, e3, b3⟩ := read_i64 Tryz.underlying3 h3
 cases e0; cases e1; cases e2; cases e3
 exact ⟨(n0, n1, n2, n3), rfl, b0, b1, b2, b3⟩
end
set_option maxRecDepth 100000 in
theorem enters {H : Type} {enc : TypeId × Value → H} {W : World} {base : Nat} {args : Array Value} {ds : List (DataW H)} {p : List MemPlace}
  (hval : ∀ (j : Nat) t v, Tryz.f8.params[j]? = some t → args[j]? = some v → Value.okWide Tryz.prog W .any base t v)
  (hA : DataW.TrodAll enc Tryz.prog W 0 (fun _ => true) true Tryz.f8.params.toList args.toList ds p) (hsz : ∀ m ∈ DataW.weightsEach Tryz.prog Tryz.f8.params.toList ds, m ≤ reachBytes) (hL : laidMetH Tryz.prog Rows.deletesGoRow.laid W) :
  Calls Tryz.prog 8 args W fun e W' => e = .returned (.bool true) ∧ Below W.heap.size W W' := by
 rw [Tryz.params8] at hA hval hsz
 obtain ⟨v0, vs0, d0, ds0, p0, q0, hargs, rfl, rfl, h0, r0⟩ := trodAll_cons hA
 obtain ⟨v1, vs1, d1, ds1, p1, q1, hargs1, rfl, rfl, h1, r1⟩ := trodAll_cons r0
 obtain ⟨rfl, rfl, rfl⟩ := trodAll_nil r1
 obtain rfl : args = #[v0, v1] := by cases args; simp_all
 obtain ⟨a0, n0, c0, rfl⟩ := okWide_slice Tryz.underlying42 (hval 0 42 v0 rfl rfl)
 obtain ⟨cs, rfl, hcs⟩ := okWide_struct Tryz.underlying50 (hval 1 50 v1 rfl rfl)
 obtain ⟨fuel, hf⟩ := h0
 obtain ⟨fuel1, hf1⟩ := h1
 obtain ⟨a, len, c, l, he, hll, hlc, hcm, hrow⟩ := read_slice (v := .slice a0 n0 c0) (n := 4) rawR Tryz.underlying42 (by kernel_rfl) (by omega) (fun f cs y hy _ => read_raw hy) hf (Wt.all hsz 0 rfl rfl)
 cases he
 subst hll
 obtain ⟨⟨x0, x1, x2, x3⟩, hx, b0, b1, b2, b3⟩ := read_raw hf1
 obtain rfl : cs = #[.int .i64 x0, .int .i64 x1, .int .i64 x2, .int .i64 x3] := by
  have : cs.toList = _ := hx
  cases cs; simp_all
 exact walk l a0 c0 x0 x1 x2 x3 b1 W (env_of hL) hrow

set_option maxRecDepth 100000 in
theorem contract {H : Type} {enc : TypeId × Value → H} {W : World} {base : Nat} {args : Array Value} {ds gs : List (DataW H)} {before : List MemPlace}
  (hval0 : ∀ (j : Nat) t v, Tryz.f8.params[j]? = some t → args[j]? = some v → Value.okWide Tryz.prog W .any base t v)
  (hW : DataW.Whole enc Tryz.prog Tryz.f8.params.toList Rows.deletesGoSpec.vars false W args.toList ds gs before)
  (hsz0 : (DataW.weightsEach Tryz.prog (Tryz.f8.params.toList ++ []) (ds ++ gs)).all (· ≤ reachBytes) = true) (hL : laidMetH Tryz.prog Rows.deletesGoRow.laid W) :
  Calls Tryz.prog 8 args W fun e W' => ∃ v, e = .returned v ∧ Rows.deletesGoSpec.post enc Tryz.prog Tryz.f8 false true false false W args v W' := by
 have hval : ∀ (j : Nat) t v, Tryz.f8.params[j]? = some t → args[j]? = some v → Value.okWide Tryz.prog W .any base t v := hval0
 have hW' := hW
 obtain ⟨p, q, hA0, hV, rfl, hfz, hnd⟩ := hW
 have hA : DataW.TrodAll enc Tryz.prog W 0 (fun _ => true) true Tryz.f8.params.toList args.toList ds p := hA0
 obtain ⟨rfl, rfl⟩ := trodVars_none hV
 have hsz : ∀ m ∈ DataW.weightsEach Tryz.prog Tryz.f8.params.toList ds, m ≤ reachBytes := by
  have h0 := hsz0
  rw [List.append_nil, List.append_nil] at h0
  intro m hm
  simpa using List.all_eq_true.1 h0 m hm
 have hds : Rows.deletesGoSpec.fn H (ds ++ []) = { results := [.lit (.bool true)], args := ds } := by
  have hA1 := hA
  rw [Tryz.params8] at hA1
  obtain ⟨v0, vs0, d0, ds0, p0, q0, _, rfl, rfl, h0, r0⟩ := trodAll_cons hA1
  obtain ⟨v1, vs1, d1, ds1, p1, q1, _, rfl, rfl, h1, r1⟩ := trodAll_cons r0
  obtain ⟨_, rfl, rfl⟩ := trodAll_nil r1
  rfl
 refine (enters hval hA hsz hL).mono fun e W' ⟨he, hb⟩ => ⟨_, he, D.law_post rfl rfl hds (by kernel_rfl) hW' hb⟩
theorem laid_met (os : Os) : laidMet Tryz.prog Rows.deletesGoRow.laid ((D.laidWorldS os).forCall (fun _ _ => 0) ⟨#[], #[.slice none 0 0, .agg #[.int .i64 0, .int .i64 0, .int .i64 0, .int .i64 0]], []⟩).memory :=
 laidMet_of_run' 12 (by kernel_rfl) (by kernel_rfl)
theorem reads (os : Os) {H : Type} (enc : TypeId × Value → H) : ∃ places, DataW.whole enc Tryz.prog ((D.laidWorldS os).forCall (fun _ _ => 0) ⟨#[], #[.slice none 0 0, .agg #[.int .i64 0, .int .i64 0, .int .i64 0, .int .i64 0]], []⟩).memory Tryz.f8.params.toList Rows.deletesGoSpec.vars false (#[.slice none 0 0, .agg #[.int .i64 0, .int .i64 0, .int .i64 0, .int .i64 0]] : Array Value).toList 12 = some ([.nil, .agg [.lit (.int .i64 0), .lit (.int .i64 0), .lit (.int .i64 0), .lit (.int .i64 0)]], [], places) :=
 ⟨[], by kernel_rfl⟩
set_option maxRecDepth 100000 in
theorem lifted (os : Os) (started : os.Started) (H : Type) (enc : TypeId × Value → H) (F : Stop.Interp) :
  ReturnsInHanded {} Tryz.checked os 8 .any ((OpenSpec.ofChange Rows.deletesGoSpec).preRow enc Tryz.prog Tryz.f8 Rows.deletesGoRow.domain false Rows.deletesGoRow.laid) (((OpenSpec.ofChange Rows.deletesGoSpec).at F).post enc Tryz.prog Tryz.f8 false true false false) := by
 obtain ⟨places, hx⟩ := reads os enc
 refine returnsInHanded_of_row (C := Tryz.checked) (s := OpenSpec.ofChange Rows.deletesGoSpec) D.own started (by kernel_rfl) Tryz.func8
  (witness_row_at (enc := enc) (C := Tryz.checked) false (D.laidWorldS os) #[.slice none 0 0, .agg #[.int .i64 0, .int .i64 0, .int .i64 0, .int .i64 0]] rfl (by kernel_rfl) (by kernel_rfl) (by kernel_rfl)
   (OpenSpec.preRow_of_cond 12 hx (by kernel_rfl) (fun k hk => by cases hk) (by kernel_rfl) (laid_met os))) ?_
 intro W base args ds gs before hval hW _ _ hsz hL _ _
 exact contract hval hW hsz hL
theorem said : Rows.DeletesGoSaid :=
 OpenClaim.holds_of_cond 8 Tryz.f8 rfl rfl rfl rfl rfl rfl rfl ⟨rfl, rfl, rfl, rfl, rfl⟩ rfl rfl rfl rfl rfl (by kernel_rfl) Tryz.func8 (by kernel_rfl)
  (of_decide_eq_true (by kernel_rfl)) (by unfold Func.isWrapper; first | (rw [if_pos (by decide +kernel)]; kernel_rfl) | (rw [if_neg (by decide +kernel)]; exact ⟨rfl, rfl⟩))
  (fun os started H enc _ F => by rw [OpenClaim.pre_eq_preRow]; exact lifted os started H enc F)
theorem plain (f : FuncId) (fn : Func) (hf : Tryz.pinned.checked.prog.funcNamed "dovecote/dovecotekeep.DeletesGo" = some f) (hfn : Tryz.pinned.checked.prog.funcs[f]? = some fn) :
  true = Tryz.pinned.checked.prog.looks [] ∧ ∀ (j : Nat) t, fn.params[j]? = some t → Tryz.pinned.checked.prog.wantsStandIn t = false := by
 obtain rfl : f = 8 := Option.some.inj ((show Tryz.prog.funcNamed "dovecote/dovecotekeep.DeletesGo" = some 8 by kernel_rfl).symm.trans hf) |>.symm
 obtain rfl : fn = Tryz.f8 := (Option.some.inj (Tryz.func8.symm.trans hfn)).symm
 refine ⟨by kernel_rfl, fun j t ht => ?_⟩
 rw [Tryz.params8] at ht
 have k0 : Tryz.pinned.checked.prog.wantsStandIn 42 = false := by kernel_rfl
 have k1 : Tryz.pinned.checked.prog.wantsStandIn 50 = false := by kernel_rfl
 have hh : t = 42 ∨ t = 50 := by simpa using Array.mem_of_getElem? ht
 rcases hh with rfl | rfl
 ·exact k0
 ·exact k1
theorem card : Rows.DeletesGoCardSaid :=
 Claim7.holds_tied_plain_at .later [] _ _ _ _ said (fun _ h => by cases h) (by kernel_rfl) (fun _ h => by cases h) deletesGo_row_tie rfl ⟨rfl, rfl⟩ (by kernel_rfl) rfl plain (by kernel_rfl)
end Go.Proofs.YtbeegfkfpkfccaaGreatDoor.deletesGo

