/-
  Contract: ref.StoreOf: bytes as a store.
-/
import Derived.Test.YtbipegbgfdpaeaaDoorCRDecStep
namespace Go.Proofs.YtbipegbgfdpaeaaDoor.D
open Go.RowKit
set_option maxRecDepth 100000 in
set_option maxHeartbeats 20000000 in
theorem ref_StoreOf (b : Str) (a : Option Addr) (c : Nat) (w : World) (hB : BytesAt w a b) (hc1 : b.length ≤ c) (hc2 : c ≤ 9223372036854775807) :
    Calls Tryd.prog 20 #[.slice a b.length c] w (OutStore (decode b).1 (decode b).2 w) := by
  have HB := Lib.hid hB
  clear hB
  by_cases hbig : 200000 < b.length
  ·
    have HD := Lib.hid (decode_big hbig)
    have hbi : (200000 : Int) < (b.length : Int) := by omega
    go_enter Tryd.func20, Tryd.ntmps20
    go_wp2_with (refine wpList_store_row rfl 30 _ _ rfl w.heap.size storeZ rfl rfl _ _ (blk_new w _) storeSize rfl zero_one ?_)
    exact bodyPost_ret (v := .tuple #[.agg storeZ, .int .i64 1]) (results_row_int rfl _ _ w.heap.size _ _ rfl rfl (run_loadVar_row _ _ _ _ _ _ _ (setRow_heap _ _ _ _ _ _ (blk_new w _)) Tryd.underlying30 rfl storeSize)) rfl (out_no HD (by go_grown) (Nat.le_refl _))
  by_cases hsh : b.length < 7
  ·
    have HD := Lib.hid (decode_short hbig hsh)
    have hbi : ¬ (200000 : Int) < (b.length : Int) := by omega
    have hsi : (b.length : Int) < 7 := by omega
    go_enter Tryd.func20, Tryd.ntmps20
    go_wp2_with (refine wpList_store_row rfl 30 _ _ rfl w.heap.size storeZ rfl rfl _ _ (blk_new w _) storeSize rfl zero_one ?_)
    exact bodyPost_ret (v := .tuple #[.agg storeZ, .int .i64 5]) (results_row_int rfl _ _ w.heap.size _ _ rfl rfl (run_loadVar_row _ _ _ _ _ _ _ (setRow_heap _ _ _ _ _ _ (blk_new w _)) Tryd.underlying30 rfl storeSize)) rfl (out_no HD (by go_grown) (Nat.le_refl _))
  have hbi : ¬ (200000 : Int) < (b.length : Int) := by omega
  have hsi : ¬ (b.length : Int) < 7 := by omega
  have hc7 : 7 ≤ c := by omega
  have st3 := run_str (HB.out.take 3) 3 c (by rw [List.length_take]; omega) (w.alloc (.cells storeZ 30)) (Below.keeps (by go_grown))
  by_cases hf : b.take 3 = [100, 99, 49]
  rotate_left
  ·
    have HD := Lib.hid (decode_form hbig hsh hf)
    have hx : (!List.take 3 b == [100, 99, 49]) = true := by simp [hf]
    clear hf
    go_enter Tryd.func20, Tryd.ntmps20
    go_wp2_with (refine wpList_store_row rfl 30 _ _ rfl w.heap.size storeZ rfl rfl _ _ (blk_new w _) storeSize rfl zero_one ?_)
    exact bodyPost_ret (v := .tuple #[.agg storeZ, .int .i64 4]) (results_row_int rfl _ _ w.heap.size _ _ rfl rfl (run_loadVar_row _ _ _ _ _ _ _ (setRow_heap _ _ _ _ _ _ (blk_new w _)) Tryd.underlying30 rfl storeSize)) rfl (out_no HD (by go_grown) (Nat.le_refl _))
  have hx : (!List.take 3 b == [100, 99, 49]) = false := by simp [hf]
  obtain ⟨bb, o, rfl, hcell⟩ := HB.out.pos (by omega)
  have hbb : bb < w.heap.size := by have h := hcell 0 (by omega); exact cell_lt h
  obtain ⟨k, hk⟩ : ∃ k, b.length = k + 4 := ⟨b.length - 4, by omega⟩
  have hkl : k ≤ 200000 := by omega
  have hk3 : 3 ≤ k := by omega
  have HFB := Lib.hid hf
  have HK := Lib.hid hk
  have HDS : Hid (sealOf (b.take k) ≠ b.drop k → decode b = (Store.zero, 9)) := by
    intro h
    have e : b.length - 4 = k := by omega
    exact decode_seal hbig hsh HFB.out (by rw [e]; exact h)
  have HDB : Hid (sealOf (b.take k) = b.drop k → decode b = answer (Rd.store ⟨bodyIn b, 0⟩)) := by
    intro h
    have e : b.length - 4 = k := by omega
    exact decode_body hbig hsh HFB.out (by rw [e]; exact h)
  clear hbi hsi hf hcell
  have hbi : ¬ (200000 : Int) < (k : Int) + 4 := by omega
  have hsi : ¬ (k : Int) + 4 < 7 := by omega
  rw [hk] at hc1
  rw [hk]
  clear hk hbig hsh HFB
  go_enter Tryd.func20, Tryd.ntmps20
  go_upto_region 7 with (fail)
  obtain ⟨W0, hW0⟩ : ∃ W0, W0 = w.alloc (.cells storeZ 30) := ⟨_, rfl⟩
  have HB0 := Lib.hid (show Below w.heap.size w W0 by rw [hW0]; go_grown)
  have hz0 : w.heap.size + 1 = W0.heap.size := by rw [hW0]; simp
  have HR0 := Lib.hid (show W0.heap[w.heap.size]? = some (.cells storeZ 30 (0, 0)) by rw [hW0]; exact blk_new w _)
  rw [← hW0]
  clear hW0 st3 hx
  have ic : (k : Int) ≤ (c : Int) := by omega
  have i4 : (k : Int) + 4 ≤ (c : Int) := by omega
  have HZ0 := Lib.hid hz0
  clear hz0
  have HTL : Hid (k = (b.take k).length) := by show _ = _; have := HK.out; rw [List.length_take]; omega
  have HDL : Hid (4 = (b.drop k).length) := by show _ = _; have := HK.out; rw [List.length_drop]; omega
  have HB1 := Lib.hid (HB.out.keep (Below.keeps HB0.out))
  obtain ⟨sl, hsl⟩ : ∃ sl, sl = sealOf (b.take k) := ⟨_, rfl⟩
  rw [← hsl] at HDS HDB
  have HSL := Lib.hid hsl
  have hs4 : 0 < sl.length := by rw [hsl]; exact Nat.succ_pos _
  clear hsl
  obtain ⟨t, ht⟩ : ∃ t, t = !(sl == b.drop k) := ⟨_, rfl⟩
  have HT := Lib.hid ht
  clear ht
  have hkl2 : k ≤ 140737488355328 := by omega
  have hwk : IntKind.i64.wrap (k : Int) = (k : Int) := IntWalk.i64_in _ ⟨by omega, by omega⟩
  have hk0 : (0 : Int) ≤ (k : Int) := by omega
  have hk4 : (k : Int) ≤ (k : Int) + 4 := by omega
  have hck : ¬ c = k := by omega
  go_cut [39] (fun v wx => v = .bool t ∧ Hid (Below W0.heap.size W0 wx))
  case first =>
    refine wp_region_L (Below W0.heap.size W0) 13 14 (by kernel_rfl) (by kernel_rfl) (Below.refl _ _).drew (fun hHeld => ?_)
    refine wpAnyL_take (i := 0) (v := ?_) rfl (by kernel_rfl) (fun _ _ _ h => h) (Or.inl ⟨by rfl, ?_⟩) (by assumption) ?_
    rotate_left
    · intro wS hSw; go_simp <;> with_reducible rfl
    walk_nrm
    refine wpAnyL_take (i := 1) (v := ?_) rfl (by kernel_rfl) (fun _ _ _ h => h) (Or.inl ⟨by rfl, ?_⟩) (by assumption) ?_
    rotate_left
    · intro wS hSw; go_simp <;> with_reducible rfl
    walk_nrm
    refine wpAnyL_take (i := 2) (v := ?_) rfl (by kernel_rfl) (fun _ _ _ h => h) (Or.inl ⟨by rfl, ?_⟩) (by assumption) ?_
    rotate_left
    · intro wS hSw; go_simp <;> with_reducible rfl
    walk_nrm
    refine wpAnyL_take (i := 3) (v := ?_) rfl (by kernel_rfl) (fun _ _ _ h => h) (Or.inl ⟨by rfl, ?_⟩) (by assumption) ?_
    rotate_left
    · intro wS hSw; go_simp <;> with_reducible rfl
    walk_nrm
    refine wpAnyL_take (i := 4) (v := ?_) rfl (by kernel_rfl) (fun _ _ _ h => h) (Or.inl ⟨by rfl, ?_⟩) (by assumption) ?_
    rotate_left
    · intro wS hSw; go_simp <;> with_reducible rfl
    walk_nrm
    refine wpAnyL_take (i := 7) (v := ?_) rfl (by kernel_rfl) (fun _ _ _ h => h) (Or.inl ⟨by rfl, ?_⟩) (by assumption) ?_
    rotate_left
    · intro wS hSw; go_simp <;> with_reducible rfl
    walk_nrm
    refine wpAnyL_take (i := 8) (v := ?_) rfl (by kernel_rfl) (fun _ _ _ h => h) (Or.inl ⟨by rfl, ?_⟩) (by assumption) ?_
    rotate_left
    · intro wS hSw; go_simp <;> with_reducible rfl
    walk_nrm
    refine wpAnyL_take (i := 9) (v := ?_) rfl (by kernel_rfl) (fun _ _ _ h => h) (Or.inl ⟨by rfl, ?_⟩) (by assumption) ?_
    rotate_left
    · intro wS hSw; go_simp <;> with_reducible rfl
    walk_nrm
    refine wpAnyL_take (i := 10) (v := ?_) rfl (by kernel_rfl) (fun _ _ _ h => h) (Or.inl ⟨by rfl, ?_⟩) (by assumption) ?_
    rotate_left
    · intro wS hSw; go_simp <;> with_reducible rfl
    walk_nrm
    refine wpAnyL_take (i := 11) (v := ?_) rfl (by kernel_rfl) (fun _ _ _ h => h) (Or.inl ⟨by rfl, ?_⟩) (by assumption) ?_
    rotate_left
    · intro wS hSw; go_simp <;> with_reducible rfl
    walk_nrm
    refine wpAnyL_take (i := 12) (v := ?_) rfl (by kernel_rfl) (fun _ _ _ h => h) (Or.inl ⟨by rfl, ?_⟩) (by assumption) ?_
    rotate_left
    · intro wS hSw; have q := run_str (HB1.out.drop k) 4 (c - k) HDL.out _ (Below.keeps hSw); go_simp <;> with_reducible rfl
    walk_nrm
    refine wpAnyL_step (i := 5) rfl (by kernel_rfl) (fun K hK => ?_)
    go_simp
    refine (seal_at (b.take k) sl k HTL HSL _ c W0.drew ((HB1.out.take k).stay (w' := W0.drew) rfl) hkl2).mono ?_
    rintro e w5 ⟨v, rfl, hown, hb5⟩
    obtain ⟨x, xc, rfl, hx1, hx2, hx3, hx4, hx5⟩ := own_shape hown hs4
    have S5 : Below W0.heap.size W0 w5 := hHeld.trans (hb5.mono hHeld.size)
    have hby : BytesAt w5 (some ⟨x, 0, none⟩) sl := .inr ⟨x, 0, rfl, fun i u hu => by rw [Nat.zero_add]; exact hx5 i u hu⟩
    have ST6 := Lib.hid (run_str hby sl.length xc rfl w5 (Keeps.refl _))
    show K _ w5
    refine hK.out _ _ S5 (fun hHeld5 => ?_)
    clear hK K hHeld hown hb5 hby hx5 hx4 hx1 hx2
    walk_nrm
    refine wpAnyL_step (i := 6) rfl (by kernel_rfl) (fun K hK => ?_)
    have q := ST6.out
    go_simp
    show K _ w5
    refine hK.out _ _ S5 (fun hHeld6 => ?_)
    clear hK K q hHeld5
    walk_nrm
    refine wpAnyL_last rfl (by kernel_rfl) (fun K hK => ?_)
    go_simp
    refine hK.out _ _ ?_
    clear hK K
    walk_nrm
    refine wpAnyL_done (by kernel_rfl) ?_ _
    go_wp2_with fail
    go_meet
    exact ⟨by rw [HT.out], S5⟩
  case rest =>
    obtain ⟨rfl, HBC⟩ := hcut
    have HRQ := Lib.hid ((HBC.out.block w.heap.size (by have := HZ0.out; omega)).trans HR0.out)
    have HBQ := Lib.hid (HB0.out.trans (HBC.out.mono HB0.out.size))
    cases t with
    | true =>
      have HD : Hid (decode b = (Store.zero, 9)) := HDS.out (fun e => by have h := HT.out; rw [e] at h; simp at h)
      go_upto_region 8 with (fail)
      repeat (first | refine wpList_store_row rfl 30 _ _ rfl w.heap.size storeZ rfl rfl _ _ HRQ.out storeSize rfl zero_one ?_ | go_step)
      exact bodyPost_ret (v := .tuple #[.agg storeZ, .int .i64 9]) (results_row_int rfl _ _ w.heap.size _ _ rfl rfl (run_loadVar_row _ _ _ _ _ _ _ (setRow_heap wc _ _ _ _ _ HRQ.out) Tryd.underlying30 rfl storeSize)) rfl (out_no HD HBQ.out (Nat.le_refl _))
    | false =>
      have HD := Lib.hid (HDB.out (by have h := HT.out; simpa using h.symm))
      obtain ⟨full, hfu⟩ : ∃ full, full = b.take k := ⟨_, rfl⟩
      have HBB : Hid (BytesAt wc (some ⟨bb, o, none⟩) full) := by show BytesAt _ _ _; rw [hfu]; exact (HB.out.keep (Below.keeps HBQ.out)).take k
      have HLEN : Hid (k = full.length) := by show _ = _; rw [hfu]; exact HTL.out
      have HFD : Hid (full.drop 3 = bodyIn b) := by show _ = _; rw [hfu]; unfold bodyIn; rw [show b.length - 4 = k by have := HK.out; omega]
      clear hfu
      have hzq : w.heap.size + 1 ≤ wc.heap.size := by have := HZ0.out; have := HBC.out.size; omega
      clear HDS HDB HT HR0 HB0 HBC HB1 HB HSL HTL HDL hs4 HZ0 hkl2 hc7 HK
      go_upto_region 10 with (fail)
      obtain ⟨W1, hW1⟩ : ∃ W1, W1 = wc.alloc (.cells #[.slice (some ⟨bb, o, none⟩) k c, .int .i64 3, .int .i64 0] 89) := ⟨_, rfl⟩
      have hbl : Below wc.heap.size wc W1 := by rw [hW1]; exact (Below.refl _ _).alloc (Nat.le_refl _) _
      have HS0 : Hid (Spl wc.heap.size full W1 ⟨bodyIn b, 0⟩) := by
        refine ⟨bb, o, c, 3, by have := HLEN.out; omega, HFD.out, ?_, HBB.out.keep (Below.keeps hbl), by have := HLEN.out; omega, hc2, by omega⟩
        rw [hW1, blk_new, ← HLEN.out]
        rfl
      have hz1 : wc.heap.size + 1 = W1.heap.size := by rw [hW1]; simp
      have hgR : w.heap.size < wc.heap.size := by omega
      have hfull : full.length ≤ 1000000 := by have := HLEN.out; omega
      have HR1 := Lib.hid ((hbl.block w.heap.size (by omega)).trans HRQ.out)
      have HG1 := Lib.hid (HBQ.out.trans (hbl.mono (by omega)))
      show Code.wp _ _ _ _ (wc.alloc (.cells #[.slice (some ⟨bb, o, none⟩) k c, .int .i64 3, .int .i64 0] 89))
      rw [← hW1]
      clear hW1 hbl HRQ HBQ HBB HLEN HFD hzq hwk hk0 hk4 hck ic i4 hbi hsi hkl hk3 hbb hc1 hc2
      obtain ⟨V0, hV0⟩ : ∃ V0, V0 = W1.alloc (.cells (storeV (st4 0 0 0 0) none 0 none 0) 30) := ⟨_, rfl⟩
      go_upto_region 11 with (fail)
      show Code.wp _ _ _ _ (W1.alloc (.cells (storeV (st4 0 0 0 0) none 0 none 0) 30))
      rw [← hV0]
      have hbV := (show Below W1.heap.size W1 V0 by rw [hV0]; go_grown)
      have hRS : w.heap.size < W1.heap.size := by omega
      have hgS : wc.heap.size < W1.heap.size := by omega
      have HD0 : Hid (Dec w w.heap.size W1.heap.size V0 (st4 0 0 0 0) none none 0 0 []) :=
        ⟨(hbV.block w.heap.size (by omega)).trans HR1.out, by rw [hV0]; exact blk_new W1 _, World.ownsRow_nil _ _ _ _, PagesT.nil _ _, HG1.out.trans (hbV.mono (by omega))⟩
      have HSV : Hid (Spl wc.heap.size full V0 ⟨bodyIn b, 0⟩) := HS0.out.stay (fun j hj => hbV.block j (by omega))
      clear hV0 hbV HR1 HG1 HS0 hz1
      obtain ⟨⟨ea, s1⟩, ha⟩ : ∃ p, p = (⟨bodyIn b, 0⟩ : Rd).num := ⟨_, rfl⟩
      obtain ⟨⟨eb, s2⟩, hb⟩ : ∃ p, p = s1.num := ⟨_, rfl⟩
      obtain ⟨⟨ec, s3⟩, hc⟩ : ∃ p, p = s2.num := ⟨_, rfl⟩
      obtain ⟨⟨ed, s4⟩, hd⟩ : ∃ p, p = s3.num := ⟨_, rfl⟩
      have HA := Lib.hid ha
      have HBB := Lib.hid hb
      have HCC := Lib.hid hc
      have HDD := Lib.hid hd
      clear ha hb hc hd
      --@G
      go_wp2_with fail
      refine (next_is wc.heap.size full hfull ⟨bodyIn b, 0⟩ ea s1 HA _ HSV.out).mono ?_
      rintro e X0 ⟨rfl, hr, hgr⟩
      have HE := Lib.hid (HD0.out.spl HSV.out hgr hgR hgS (by omega))
      have c0 : X0.cell? ⟨W1.heap.size, 0, none⟩ = some (.int .i64 0) := by rw [cell_of_row X0 _ _ _ _ _ HE.out.box]; rfl
      have f0 : X0.frozen? ⟨W1.heap.size, 0, none⟩ = false := frozen_of_row X0 _ _ _ _ HE.out.box
      have HEE0 := Lib.hid (HE.out.put (i := 0) (v := .int .i64 ea) (t' := st4 ea 0 0 0) rfl rfl rfl (by omega) (by omega))
      have HEV0 : Hid (Spl wc.heap.size full (X0.setCell ⟨W1.heap.size, 0, none⟩ (.int .i64 ea)) s1) := hr.stay (fun j hj => Below.heap_setCell X0 ⟨W1.heap.size, 0, none⟩ _ j (show j ≠ W1.heap.size by omega))
      clear hr hgr HSV HD0 HE
      go_wp2_with fail
      clear c0 f0
      refine (next_is wc.heap.size full hfull s1 eb s2 HBB _ HEV0.out).mono ?_
      rintro e X1 ⟨rfl, hr, hgr⟩
      have HE := Lib.hid (HEE0.out.spl HEV0.out hgr hgR hgS (by omega))
      have c0 : X1.cell? ⟨W1.heap.size, 1, none⟩ = some (.int .i64 0) := by rw [cell_of_row X1 _ _ _ _ _ HE.out.box]; rfl
      have f0 : X1.frozen? ⟨W1.heap.size, 1, none⟩ = false := frozen_of_row X1 _ _ _ _ HE.out.box
      have HEE1 := Lib.hid (HE.out.put (i := 1) (v := .int .i64 eb) (t' := st4 ea eb 0 0) rfl rfl rfl (by omega) (by omega))
      have HEV1 : Hid (Spl wc.heap.size full (X1.setCell ⟨W1.heap.size, 1, none⟩ (.int .i64 eb)) s2) := hr.stay (fun j hj => Below.heap_setCell X1 ⟨W1.heap.size, 1, none⟩ _ j (show j ≠ W1.heap.size by omega))
      clear hr hgr HEV0 HEE0 HE
      go_wp2_with fail
      clear c0 f0
      refine (next_is wc.heap.size full hfull s2 ec s3 HCC _ HEV1.out).mono ?_
      rintro e X2 ⟨rfl, hr, hgr⟩
      have HE := Lib.hid (HEE1.out.spl HEV1.out hgr hgR hgS (by omega))
      have c0 : X2.cell? ⟨W1.heap.size, 2, none⟩ = some (.int .i64 0) := by rw [cell_of_row X2 _ _ _ _ _ HE.out.box]; rfl
      have f0 : X2.frozen? ⟨W1.heap.size, 2, none⟩ = false := frozen_of_row X2 _ _ _ _ HE.out.box
      have HEE2 := Lib.hid (HE.out.put (i := 2) (v := .int .i64 ec) (t' := st4 ea eb ec 0) rfl rfl rfl (by omega) (by omega))
      have HEV2 : Hid (Spl wc.heap.size full (X2.setCell ⟨W1.heap.size, 2, none⟩ (.int .i64 ec)) s3) := hr.stay (fun j hj => Below.heap_setCell X2 ⟨W1.heap.size, 2, none⟩ _ j (show j ≠ W1.heap.size by omega))
      clear hr hgr HEV1 HEE1 HE
      go_wp2_with fail
      clear c0 f0
      refine (next_is wc.heap.size full hfull s3 ed s4 HDD _ HEV2.out).mono ?_
      rintro e X3 ⟨rfl, hr, hgr⟩
      have HE := Lib.hid (HEE2.out.spl HEV2.out hgr hgR hgS (by omega))
      have c0 : X3.cell? ⟨W1.heap.size, 3, none⟩ = some (.int .i64 0) := by rw [cell_of_row X3 _ _ _ _ _ HE.out.box]; rfl
      have f0 : X3.frozen? ⟨W1.heap.size, 3, none⟩ = false := frozen_of_row X3 _ _ _ _ HE.out.box
      have HEE3 := Lib.hid (HE.out.put (i := 3) (v := .int .i64 ed) (t' := st4 ea eb ec ed) rfl rfl rfl (by omega) (by omega))
      have HEV3 : Hid (Spl wc.heap.size full (X3.setCell ⟨W1.heap.size, 3, none⟩ (.int .i64 ed)) s4) := hr.stay (fun j hj => Below.heap_setCell X3 ⟨W1.heap.size, 3, none⟩ _ j (show j ≠ W1.heap.size by omega))
      clear hr hgr HEV2 HEE2 HE
      go_wp2_with fail
      clear c0 f0
      have HDL : Hid (Dec w w.heap.size W1.heap.size (X3.setCell ⟨W1.heap.size, 3, none⟩ (.int .i64 ed)) (heldOf ea eb ec ed s4 0) none none 0 0 []) := HEE3.out
      have HSL : Hid (Spl wc.heap.size full (X3.setCell ⟨W1.heap.size, 3, none⟩ (.int .i64 ed)) (s4.skip 0)) := HEV3.out
      clear HEE3 HEV3
      go_loopw [6] (fun i wr => ∃ kk : Nat, kk ≤ 4 ∧ i = .int .i64 kk ∧ Hid (Spl wc.heap.size full wr (s4.skip kk)) ∧ Hid (Dec w w.heap.size W1.heap.size wr (heldOf ea eb ec ed s4 kk) none none 0 0 [])) (fun i _ => 4 - (intOf i).toNat)
      case atStart => exact ⟨0, by omega, rfl, HSL, HDL⟩
      case round =>
        obtain ⟨kk, hkk, rfl, HRD, HDC⟩ := hrel
        clear HSL HDL
        by_cases hlt : kk < 4
        ·
          obtain ⟨v, hv⟩ : ∃ v, v = (s4.skip kk).num.1 := ⟨_, rfl⟩
          have HN : Hid ((v, s4.skip (kk + 1)) = (s4.skip kk).num) := by show _ = _; rw [hv]; rfl
          have HP := Lib.hid (held_put ea eb ec ed s4 kk hlt)
          rw [← hv] at HP
          have hli : (kk : Int) < 4 := by omega
          clear hv
          go_wp2_with fail
          refine (next_is wc.heap.size full hfull (s4.skip kk) v (s4.skip (kk + 1)) HN _ HRD.out).mono ?_
          rintro e X1 ⟨rfl, hr, hgr⟩
          have HD1 := Lib.hid (HDC.out.spl HRD.out hgr hgR hgS (by omega))
          have HS1 := Lib.hid hr
          obtain ⟨u, cu⟩ : ∃ u, X1.cell? ⟨W1.heap.size, 4 + kk, none⟩ = some u := ⟨(storeV (heldOf ea eb ec ed s4 kk) none 0 none 0)[4 + kk]'(by show 4 + kk < 12; omega), by rw [cell_of_row X1 _ _ _ _ _ HD1.out.box]; exact Array.getElem?_eq_getElem _⟩
          have fu : X1.frozen? ⟨W1.heap.size, 4 + kk, none⟩ = false := frozen_of_row X1 _ _ _ _ HD1.out.box
          have HD2 : Hid (Dec w w.heap.size W1.heap.size (X1.setCell ⟨W1.heap.size, 4 + kk, none⟩ (.int .i64 v)) (heldOf ea eb ec ed s4 (kk + 1)) none none 0 0 []) := HD1.out.put HP.out rfl rfl (by omega) (by omega)
          have HS2 : Hid (Spl wc.heap.size full (X1.setCell ⟨W1.heap.size, 4 + kk, none⟩ (.int .i64 v)) (s4.skip (kk + 1))) := HS1.out.stay (fun j hj => Below.heap_setCell X1 ⟨W1.heap.size, 4 + kk, none⟩ _ j (show j ≠ W1.heap.size by omega))
          clear hr hgr HRD HDC HS1 HD1
          go_wp2_with fail
          go_roundw
          case rel => first | exact ⟨kk + 1, by omega, by go_num, HS2, HD2⟩ | ((repeat apply Exists.intro); exact ⟨⟨kk + 1, by omega, by go_num, HS2, HD2⟩, rfl⟩)
          case measure => simp [intOf]; omega
        ·
          obtain rfl : kk = 4 := by omega
          clear hlt hkk
          obtain ⟨⟨ei, s9⟩, hi⟩ : ∃ p, p = (s4.skip 4).num := ⟨_, rfl⟩
          obtain ⟨⟨ej, s10⟩, hj⟩ : ∃ p, p = s9.num := ⟨_, rfl⟩
          have HEAD := Lib.hid (head_held HA.out HBB.out HCC.out HDD.out hi hj)
          have HII := Lib.hid hi
          have HJJ := Lib.hid hj
          have hjr : 0 ≤ ej ∧ ej < 4398046511104 := by have := num_lt s9; rw [← hj] at this; exact this
          have HJR := Lib.hid hjr
          clear hi hj HA HBB HCC HDD hjr
          go_wp2_with fail
          refine (next_is wc.heap.size full hfull (s4.skip 4) ei s9 HII _ HRD.out).mono ?_
          rintro e Y1 ⟨rfl, hr, hgr⟩
          have HE1 := Lib.hid (HDC.out.spl HRD.out hgr hgR hgS (by omega))
          have c9 : Y1.cell? ⟨W1.heap.size, 9, none⟩ = some (.int .i64 0) := by rw [cell_of_row Y1 _ _ _ _ _ HE1.out.box]; rfl
          have f9 : Y1.frozen? ⟨W1.heap.size, 9, none⟩ = false := frozen_of_row Y1 _ _ _ _ HE1.out.box
          have HE2 := Lib.hid (HE1.out.put (i := 9) (v := .int .i64 ei) (t' := { heldOf ea eb ec ed s4 4 with flash := ⟨ei, 0, []⟩ }) rfl rfl rfl (by omega) (by omega))
          have HV2 : Hid (Spl wc.heap.size full (Y1.setCell ⟨W1.heap.size, 9, none⟩ (.int .i64 ei)) s9) := hr.stay (fun j hj => Below.heap_setCell Y1 ⟨W1.heap.size, 9, none⟩ _ j (show j ≠ W1.heap.size by omega))
          clear hr hgr HRD HDC HE1
          go_wp2_with fail
          refine (next_is wc.heap.size full hfull s9 ej s10 HJJ _ HV2.out).mono ?_
          rintro e Y2 ⟨rfl, hr, hgr⟩
          have HE3 := Lib.hid (HE2.out.spl HV2.out hgr hgR hgS (by omega))
          have c10 : Y2.cell? ⟨W1.heap.size, 10, none⟩ = some (.int .i64 0) := by rw [cell_of_row Y2 _ _ _ _ _ HE3.out.box]; rfl
          have f10 : Y2.frozen? ⟨W1.heap.size, 10, none⟩ = false := frozen_of_row Y2 _ _ _ _ HE3.out.box
          obtain ⟨th, hth⟩ : ∃ th, th = heldOf ea eb ec ed s4 4 := ⟨_, rfl⟩
          have HTI : Hid (th.items = []) := by show _ = _; rw [hth]; rfl
          have HE4 : Hid (Dec w w.heap.size W1.heap.size (Y2.setCell ⟨W1.heap.size, 10, none⟩ (.int .i64 ej)) { th with flash := ⟨ei, ej, []⟩ } none none 0 0 []) := by
            show Dec _ _ _ _ _ _ _ _ _ _
            rw [hth]
            exact HE3.out.put (i := 10) (v := .int .i64 ej) (t' := { heldOf ea eb ec ed s4 4 with flash := ⟨ei, ej, []⟩ }) rfl rfl rfl (by omega) (by omega)
          have HV4 : Hid (Spl wc.heap.size full (Y2.setCell ⟨W1.heap.size, 10, none⟩ (.int .i64 ej)) s10) := hr.stay (fun j hj => Below.heap_setCell Y2 ⟨W1.heap.size, 10, none⟩ _ j (show j ≠ W1.heap.size by omega))
          rw [← hth] at HEAD
          clear hr hgr HV2 HE2 HE3 hth c9 f9
          obtain ⟨⟨n0, s11⟩, hn⟩ : ∃ p, p = s10.many 20 := ⟨_, rfl⟩
          have hnb := many_to s10 20 (by omega)
          rw [← hn] at hnb
          simp only at hnb
          obtain ⟨nn, rfl⟩ : ∃ nn : Nat, n0 = nn := ⟨n0.toNat, by omega⟩
          have hn20 : nn ≤ 20 := by omega
          have HMN := Lib.hid hn
          clear hn hnb
          go_wp2_with fail
          clear c10 f10
          refine (manyp_is wc.heap.size full hfull s10 20 (by omega) nn s11 HMN _ HV4.out).mono ?_
          rintro e Y3 ⟨rfl, hr, hgr⟩
          have HD5 := Lib.hid (HE4.out.spl HV4.out hgr hgR hgS (by omega))
          have HS5 := Lib.hid hr
          clear hr hgr HV4 HE4
          obtain ⟨⟨P, sP⟩, hP⟩ : ∃ p, p = Rd.pages ej nn 0 s11 := ⟨_, rfl⟩
          have HPG : Hid ((P, sP) = ([] ++ (Rd.pages ej nn 0 s11).1, (Rd.pages ej nn 0 s11).2)) := hP
          have HPAGED : Hid ((⟨bodyIn b, 0⟩ : Rd).paged = ({ th with flash := ⟨ei, ej, P⟩ }, sP)) := by
            show _ = _
            unfold Rd.paged Rd.withPages
            rw [HEAD.out]; simp only
            rw [← HMN.out]; simp only [Int.toNat_natCast]
            rw [← hP]
          clear hP
          go_wp2_with fail
          go_loopw [8] (fun i wr => ∃ (ii : Nat) (ps : List Page) (vs : List Value) (fa : Option Addr) (fc : Nat) (st : Rd), ii ≤ nn ∧ ps.length = ii ∧ i = .int .i64 ii ∧ Hid ((P, sP) = (ps ++ (Rd.pages ej nn ii st).1, (Rd.pages ej nn ii st).2)) ∧ Hid (Spl wc.heap.size full wr st) ∧
            Hid (Dec w w.heap.size W1.heap.size wr { th with flash := ⟨ei, ej, ps⟩ } none fa 0 fc vs)) (fun i _ => nn - (intOf i).toNat)
          case atStart => exact ⟨0, [], [], none, 0, s11, by omega, rfl, rfl, HPG, HS5, HD5⟩
          case round =>
            obtain ⟨ii, ps, vs, fa, fc, st, hii, hpl, rfl, HPG2, HRD, HDC⟩ := hrel
            clear HPG HS5 HD5
            obtain ⟨t, ht⟩ : ∃ t, t = decide (ii < nn ∧ st.err = 0) := ⟨_, rfl⟩
            have HT := Lib.hid ht
            clear ht
            go_upto_region 23 with (fail)
            go_cut [89] (fun v wx => v = .bool t ∧ wx = wr)
            case first =>
              by_cases hlt : ii < nn
              · have hli : (ii : Int) < (nn : Int) := by omega
                have hl2 : decide ((ii : Int) < (nn : Int)) = true := decide_eq_true hli
                by_cases he : st.err = 0
                · have ht : t = true := by rw [HT.out]; simp [hlt, he]
                  have c1 : wr.cell? ⟨wc.heap.size, 2, none⟩ = some (.int .i64 0) := by rw [HRD.out.err_cell, he]
                  subst ht
                  clear he
                  go_wp2_with fail
                  go_meet
                  exact ⟨rfl, rfl⟩
                · have ht : t = false := by rw [HT.out]; simp [he]
                  have c1 : wr.cell? ⟨wc.heap.size, 2, none⟩ = some (.int .i64 st.err) := HRD.out.err_cell
                  have h1 : (st.err == 0) = false := by simp [he]
                  obtain ⟨x, hx⟩ : ∃ x, x = st.err := ⟨_, rfl⟩
                  rw [← hx] at c1 h1
                  subst ht
                  clear he hx
                  go_wp2_with fail
                  go_meet
                  exact ⟨rfl, rfl⟩
              · have hli : ¬ (ii : Int) < (nn : Int) := by omega
                have hl2 : decide ((ii : Int) < (nn : Int)) = false := decide_eq_false hli
                have ht : t = false := by rw [HT.out]; simp [hlt]
                subst ht
                go_wp2_with fail
                go_meet
                exact ⟨rfl, rfl⟩
            case rest =>
              obtain ⟨hv, hw⟩ := hcut
              have hw := hw.symm
              subst hv hw
              subst hpl
              cases t with
              | true =>
                obtain ⟨hlt, he⟩ : ps.length < nn ∧ st.err = 0 := of_decide_eq_true HT.out.symm
                obtain ⟨⟨tx, st2⟩, htx⟩ : ∃ p, p = st.text 256 := ⟨_, rfl⟩
                have htl := text_le st 256 (by omega)
                rw [← htx] at htl
                simp only at htl
                have HTX := Lib.hid htx
                obtain ⟨num, hnum⟩ : ∃ num, num = ej - nn + ps.length := ⟨_, rfl⟩
                have HPG3 : Hid ((P, sP) = ((ps ++ [⟨num, tx⟩]) ++ (Rd.pages ej nn (ps.length + 1) st2).1, (Rd.pages ej nn (ps.length + 1) st2).2)) := by
                  show _ = _
                  rw [HPG2.out, pages_go hlt he, ← htx, List.append_assoc, hnum]; rfl
                obtain ⟨hj0, hj1⟩ := HJR.out
                have hl1 : tx.length ≤ 1000 := by omega
                have hkk : (ps.length + 1) * 32 ≤ 140737488355328 := by omega
                have hSl := HDC.out.lt
                have hwr0 : w.heap.size < wr.heap.size := by omega
                have hgl : wc.heap.size < wr.heap.size := by omega
                have w1 : IntKind.i64.wrap (ej + ps.length) = ej + ps.length := IntWalk.i64_in _ ⟨by omega, by omega⟩
                have w2 : IntKind.i64.wrap (ej + ps.length - nn) = num := by rw [hnum, IntWalk.i64_in _ ⟨by omega, by omega⟩]; omega
                have HW : Hid (IntKind.i64.wrap (IntKind.i64.wrap (ej + ps.length) - nn) = num) := by show _ = _; rw [w1]; exact w2
                have HW2 : Hid (ej + ps.length - nn = num) := by show _ = _; omega
                clear w1 w2
                clear htx he hlt HPG2 hnum
                go_upto_block 3 with (fail)
                go_cut [] (fun wx => ∃ (fa' : Option Addr) (fc' : Nat) (vs' : List Value), Hid (Spl wc.heap.size full wx st2) ∧ Hid (Dec w w.heap.size W1.heap.size wx { th with flash := ⟨ei, ej, ps ++ [⟨num, tx⟩]⟩ } none fa' 0 fc' vs'))
                case first =>
                  go_wp2_with fail
                  refine (textp_is wc.heap.size full hfull st 256 (by omega) tx st2 HTX _ HRD.out).mono ?_
                  rintro e x1 ⟨rfl, hr, hgr⟩
                  have hz1 : wr.heap.size ≤ x1.heap.size := hgr.size
                  have HDX := Lib.hid (HDC.out.spl HRD.out hgr hgR hgS (by omega))
                  have HRX := Lib.hid hr
                  have c10 : x1.cell? ⟨W1.heap.size, 10, none⟩ = some (.int .i64 ej) := by rw [cell_of_row x1 _ _ _ _ _ HDX.out.box]; rfl
                  have c11 : x1.cell? ⟨W1.heap.size, 11, none⟩ = some (.slice fa ps.length fc) := by rw [cell_of_row x1 _ _ _ _ _ HDX.out.box]; rfl
                  clear hr hgr HRD HDC
                  go_wp2_with (refine list_conv x1 rfl (.tmp 104) rfl tx hl1 rfl ?_)
                  intro cc x2 hpb hb2
                  first | rw [HW.out] | rw [HW2.out]
                  have hz2 : x1.heap.size ≤ x2.heap.size := hb2.size
                  have hb3 : Below x2.heap.size x2 (x2.alloc (.cells #[.int .i64 num, .slice (some ⟨x1.heap.size, 0, none⟩) tx.length cc] 73)) := (Below.refl _ _).alloc (Nat.le_refl _) _
                  have HDX3 := Lib.hid ((HDX.out.made hb2).made hb3)
                  have HRX3 := Lib.hid ((HRX.out.stay (fun j hj => hb2.block j (by omega))).stay (fun j hj => hb3.block j (by omega)))
                  have HPB3 := Lib.hid ((hpb num).keep (U8Keep.below hb3))
                  have hbs : W1.heap.size + 1 ≤ (x2.alloc (.cells #[.int .i64 num, .slice (some ⟨x1.heap.size, 0, none⟩) tx.length cc] 73)).heap.size := by simp; omega
                  clear c10 c11 hpb hb2 HDX HRX
                  go_wp2_with (refine list_page _ rfl (.tmp 96) (.tmp 107) rfl (W1.heap.size + 1) ps.length x2.heap.size (.slice fa ps.length fc) (.slice (some ⟨x1.heap.size, 0, none⟩) tx.length cc) num _ rfl rfl HDX3.out.pages.row (blk_new x2 _) rfl hkk hbs ?_)
                  intro gp cp x4 how4 hgr4 hat4 hlt4
                  have hz4 : x2.heap.size < x4.heap.size := by have := hgr4.size; simp at this; omega
                  have hof : ∀ j, j ≤ W1.heap.size → some j ≠ (Value.slice fa ps.length fc).ownBlock := fun j hj e => by have := (HDX3.out.pages.row.lt j e.symm).1; omega
                  have HDX4 := Lib.hid (HDX3.out.page (p := ⟨num, tx⟩) HPB3.out hgr4 how4 (by omega) (by omega))
                  have HRX4 := Lib.hid (HRX3.out.stay (w' := x4.setCell ⟨W1.heap.size, 11, none⟩ (.slice (some ⟨gp, 0, none⟩) (ps.length + 1) cp)) (fun j hj => (Below.heap_setCell x4 ⟨W1.heap.size, 11, none⟩ _ j (show j ≠ W1.heap.size by omega)).trans (hgr4.block j (by simp; omega) (hof j (by omega)))))
                  have hbx : x4.heap[W1.heap.size]? = some (.cells (storeV { th with flash := ⟨ei, ej, ps⟩ } none 0 fa fc) 30 (0, 0)) := (hgr4.block _ (by simp; omega) (hof _ (Nat.le_refl _))).trans HDX3.out.box
                  have q11 : x4.cell? ⟨W1.heap.size, 11, none⟩ = some (.slice fa ps.length fc) := by rw [cell_of_row x4 _ _ _ _ _ hbx]; rfl
                  have qz : x4.frozen? ⟨W1.heap.size, 11, none⟩ = false := frozen_of_row x4 _ _ _ _ hbx
                  clear HDX3 HRX3 HPB3 how4 hgr4 hat4 hbx hb3
                  go_wp2_with fail
                  go_meet
                  exact ⟨_, _, _, HRX4, HDX4⟩
                case rest =>
                  obtain ⟨fa', fc', vs', HRD2, HDC2⟩ := hcut
                  have hgo : ps.length + 1 ≤ nn := by have := of_decide_eq_true HT.out.symm; omega
                  have hln : (ps ++ [(⟨num, tx⟩ : Page)]).length = ps.length + 1 := by simp
                  have HLN := Lib.hid hln
                  clear hln
                  go_wp2_with fail
                  go_roundw
                  case rel => first | exact ⟨ps.length + 1, ps ++ [⟨num, tx⟩], vs', fa', fc', st2, hgo, HLN.out, by go_num, HPG3, HRD2, HDC2⟩ | ((repeat apply Exists.intro); exact ⟨⟨ps.length + 1, ps ++ [⟨num, tx⟩], vs', fa', fc', st2, hgo, HLN.out, by go_num, HPG3, HRD2, HDC2⟩, rfl⟩)
                  case measure => simp [intOf]; omega
              | false =>
                have hst : ¬ (ps.length < nn ∧ st.err = 0) := of_decide_eq_false HT.out.symm
                have hpp := HPG2.out
                rw [pages_stop hst, List.append_nil] at hpp
                obtain ⟨rfl, rfl⟩ := Prod.mk.inj hpp
                clear hpp hst HT HPG2
                obtain ⟨tp, htp⟩ : ∃ tp : Store, tp = { th with flash := ⟨ei, ej, P⟩ } := ⟨_, rfl⟩
                have HTP : Hid ((⟨bodyIn b, 0⟩ : Rd).paged = (tp, sP)) := by show _ = _; rw [HPAGED.out, htp]
                have HDC2 : Hid (Dec w w.heap.size W1.heap.size wr { tp with items := [] } none fa 0 fc vs) := by
                  have h := HDC.out
                  have e : ({ th with flash := ⟨ei, ej, P⟩ } : Store) = { tp with items := [] } := by rw [htp, ← HTI.out]
                  rw [e] at h
                  exact h
                obtain ⟨⟨m0, s12⟩, hn2⟩ : ∃ p, p = sP.many 1000 := ⟨_, rfl⟩
                have hnb := many_to sP 1000 (by omega)
                rw [← hn2] at hnb
                simp only at hnb
                obtain ⟨nm, rfl⟩ : ∃ nm : Nat, m0 = nm := ⟨m0.toNat, by omega⟩
                have hm1000 : nm ≤ 1000 := by omega
                obtain ⟨⟨X, sX⟩, hX⟩ : ∃ p, p = Rd.items nm 0 s12 := ⟨_, rfl⟩
                have HIT : Hid ((X, sX) = ([] ++ (Rd.items nm 0 s12).1, (Rd.items nm 0 s12).2)) := hX
                have HSTO : Hid ((⟨bodyIn b, 0⟩ : Rd).store = ({ tp with items := X }, sX)) := by
                  show _ = _
                  unfold Rd.store Rd.withItems
                  rw [HTP.out]; simp only
                  rw [← hn2]; simp only [Int.toNat_natCast]
                  rw [← hX]
                have HMM := Lib.hid hn2
                clear hn2 hX hnb htp HDC HPAGED HTP HTI HMN HEAD HJR HII HJJ
                go_wp2_with fail
                refine (manyp_is wc.heap.size full hfull sP 1000 (by omega) nm s12 HMM _ HRD.out).mono ?_
                rintro e X4 ⟨rfl, hr, hgr⟩
                have HD5 := Lib.hid (HDC2.out.spl HRD.out hgr hgR hgS (by omega))
                have HS5 := Lib.hid hr
                clear hr hgr HRD HDC2
                go_wp2_with fail
                go_loopw [10] (fun i wy => ∃ (ii : Nat) (xs : List Item) (va : Option Addr) (vc : Nat) (st : Rd), ii ≤ nm ∧ xs.length = ii ∧ i = .int .i64 ii ∧ Hid ((X, sX) = (xs ++ (Rd.items nm ii st).1, (Rd.items nm ii st).2)) ∧ Hid (Spl wc.heap.size full wy st) ∧
                  Hid (Dec w w.heap.size W1.heap.size wy { tp with items := xs } va fa vc fc vs)) (fun i _ => nm - (intOf i).toNat)
                case atStart => exact ⟨0, [], none, 0, s12, by omega, rfl, rfl, HIT, HS5, HD5⟩
                case round =>
                  obtain ⟨ii, xs, va, vc, st, hii, hpl, rfl, HIT2, HRD, HDC⟩ := hrel
                  clear HIT HS5 HD5
                  obtain ⟨t, ht⟩ : ∃ t, t = decide (ii < nm ∧ st.err = 0) := ⟨_, rfl⟩
                  have HT := Lib.hid ht
                  clear ht
                  go_upto_region 29 with (fail)
                  go_cut [122] (fun v wx => v = .bool t ∧ wx = wr)
                  case first =>
                    by_cases hlt : ii < nm
                    · have hli : (ii : Int) < (nm : Int) := by omega
                      have hl2 : decide ((ii : Int) < (nm : Int)) = true := decide_eq_true hli
                      by_cases he : st.err = 0
                      · have ht : t = true := by rw [HT.out]; simp [hlt, he]
                        have c1 : wr.cell? ⟨wc.heap.size, 2, none⟩ = some (.int .i64 0) := by rw [HRD.out.err_cell, he]
                        subst ht
                        clear he
                        go_wp2_with fail
                        go_meet
                        exact ⟨rfl, rfl⟩
                      · have ht : t = false := by rw [HT.out]; simp [he]
                        have c1 : wr.cell? ⟨wc.heap.size, 2, none⟩ = some (.int .i64 st.err) := HRD.out.err_cell
                        have h1 : (st.err == 0) = false := by simp [he]
                        obtain ⟨x, hx⟩ : ∃ x, x = st.err := ⟨_, rfl⟩
                        rw [← hx] at c1 h1
                        subst ht
                        clear he hx
                        go_wp2_with fail
                        go_meet
                        exact ⟨rfl, rfl⟩
                    · have hli : ¬ (ii : Int) < (nm : Int) := by omega
                      have hl2 : decide ((ii : Int) < (nm : Int)) = false := decide_eq_false hli
                      have ht : t = false := by rw [HT.out]; simp [hlt]
                      subst ht
                      go_wp2_with fail
                      go_meet
                      exact ⟨rfl, rfl⟩
                  case rest =>
                    obtain ⟨hv, hw⟩ := hcut
                    have hw := hw.symm
                    subst hv hw
                    subst hpl
                    cases t with
                    | true =>
                      obtain ⟨hlt, he⟩ : xs.length < nm ∧ st.err = 0 := of_decide_eq_true HT.out.symm
                      obtain ⟨⟨x, st2⟩, hx⟩ : ∃ p, p = st.item := ⟨_, rfl⟩
                      have HIX := Lib.hid hx
                      have HIT3 : Hid ((X, sX) = ((xs ++ [x]) ++ (Rd.items nm (xs.length + 1) st2).1, (Rd.items nm (xs.length + 1) st2).2)) := by
                        show _ = _
                        rw [HIT2.out, items_go hlt he, ← hx, List.append_assoc]; rfl
                      have hgo : xs.length + 1 ≤ nm := hlt
                      have hkk : (xs.length + 1) * 88 ≤ 140737488355328 := by omega
                      have hSl := HDC.out.lt
                      have hwr0 : w.heap.size < wr.heap.size := by omega
                      have hgl : wc.heap.size < wr.heap.size := by omega
                      clear hx he hlt HIT2 HT
                      go_upto_block 5 with (fail)
                      go_cut [] (fun wx => ∃ (va' : Option Addr) (vc' : Nat), Hid (Spl wc.heap.size full wx st2) ∧ Hid (Dec w w.heap.size W1.heap.size wx { tp with items := xs ++ [x] } va' fa vc' fc vs))
                      case first =>
                        go_upto_region 32 with (fail)
                        obtain ⟨W6, hW6⟩ : ∃ W6, W6 = wr.alloc (.cells itemZ 58) := ⟨_, rfl⟩
                        show Code.wp _ _ _ _ (wr.alloc (.cells itemZ 58))
                        rw [← hW6]
                        have hb6 : Below wr.heap.size wr W6 := by rw [hW6]; exact (Below.refl _ _).alloc (Nat.le_refl _) _
                        have HI0 : Hid (W6.heap[wr.heap.size]? = some (.cells itemZ 58 (0, 0))) := by show _ = _; rw [hW6]; exact blk_new wr _
                        have HS0 := Lib.hid (HRD.out.stay (w' := W6) (fun j hj => hb6.block j (by omega)))
                        have HG0 : Hid (wr.grownBy W6 (some wc.heap.size)) := ⟨hb6.os, hb6.tape, hb6.output, hb6.size, fun j hj _ => hb6.block j hj⟩
                        have hy0 : wr.heap.size < W6.heap.size := by rw [hW6]; simp
                        clear hW6 hb6
                        obtain ⟨⟨k, q0⟩, hk⟩ : ∃ p, p = st.text 20 := ⟨_, rfl⟩
                        obtain ⟨⟨fl, q1⟩, hfl⟩ : ∃ p, p = q0.num := ⟨_, rfl⟩
                        obtain ⟨⟨ti, q2⟩, hti⟩ : ∃ p, p = q1.num := ⟨_, rfl⟩
                        obtain ⟨⟨ca, q3⟩, hca⟩ : ∃ p, p = q2.num := ⟨_, rfl⟩
                        obtain ⟨⟨us, q4⟩, hus⟩ : ∃ p, p = q3.num := ⟨_, rfl⟩
                        obtain ⟨⟨t, q5⟩, ht⟩ : ∃ p, p = q4.num := ⟨_, rfl⟩
                        have HXX := Lib.hid (HIX.out.trans (item_of hk hfl hti hca hus ht))
                        have HK := Lib.hid hk
                        have HFL := Lib.hid hfl
                        have HTI := Lib.hid hti
                        have HCA := Lib.hid hca
                        have HUS := Lib.hid hus
                        have HTT := Lib.hid ht
                        clear hk hfl hti hca hus ht HIX
                        go_wp2_with fail
                        refine (textp_is wc.heap.size full hfull st 20 (by omega) k q0 HK _ HS0.out).mono ?_
                        rintro e Z0 ⟨rfl, hr, hgr⟩
                        have hy1 : wr.heap.size < Z0.heap.size := by have := hgr.size; first | omega | (simp at this; omega)
                        have HJ := Lib.hid ((hgr.block wr.heap.size (by first | omega | (simp; omega)) (by simp; omega)).trans HI0.out)
                        have c0 : Z0.cell? ⟨wr.heap.size, 0, none⟩ = some (.string (mkB [])) := by rw [cell_of_row Z0 _ _ _ _ _ HJ.out]; rfl
                        have f0 : Z0.frozen? ⟨wr.heap.size, 0, none⟩ = false := frozen_of_row Z0 _ _ _ _ HJ.out
                        have HI1 : Hid ((Z0.setCell ⟨wr.heap.size, 0, none⟩ (.string (mkB k))).heap[wr.heap.size]? = some (.cells (itemA (mkB k) 0 0 0 0 (mkB []) false 0 0) 58 (0, 0))) := cell_put Z0 wr.heap.size 0 _ _ (.string (mkB k)) HJ.out
                        have hb := below_cell Z0 wr.heap.size 0 wr.heap.size (.string (mkB k)) (Nat.le_refl _)
                        have HS1 := Lib.hid (hr.stay (fun j hj => hb.block j (by omega)))
                        have HG1 := Lib.hid (grown_below (grown_trans HG0.out hgr) hb)
                        clear hr hgr hb HJ HI0 HS0 HG0 hy0
                        go_wp2_with fail
                        clear c0 f0
                        refine (next_is wc.heap.size full hfull q0 fl q1 HFL _ HS1.out).mono ?_
                        rintro e Z1 ⟨rfl, hr, hgr⟩
                        have hy2 : wr.heap.size < Z1.heap.size := by have := hgr.size; first | omega | (simp at this; omega)
                        have HJ := Lib.hid ((hgr.block wr.heap.size (by first | omega | (simp; omega)) (by simp; omega)).trans HI1.out)
                        have c0 : Z1.cell? ⟨wr.heap.size, 1, none⟩ = some (.int .i64 0) := by rw [cell_of_row Z1 _ _ _ _ _ HJ.out]; rfl
                        have f0 : Z1.frozen? ⟨wr.heap.size, 1, none⟩ = false := frozen_of_row Z1 _ _ _ _ HJ.out
                        have HI2 : Hid ((Z1.setCell ⟨wr.heap.size, 1, none⟩ (.int .i64 fl)).heap[wr.heap.size]? = some (.cells (itemA (mkB k) fl 0 0 0 (mkB []) false 0 0) 58 (0, 0))) := cell_put Z1 wr.heap.size 1 _ _ (.int .i64 fl) HJ.out
                        have hb := below_cell Z1 wr.heap.size 1 wr.heap.size (.int .i64 fl) (Nat.le_refl _)
                        have HS2 := Lib.hid (hr.stay (fun j hj => hb.block j (by omega)))
                        have HG2 := Lib.hid (grown_below (grown_trans HG1.out hgr) hb)
                        clear hr hgr hb HJ HI1 HS1 HG1 hy1
                        go_wp2_with fail
                        clear c0 f0
                        refine (next_is wc.heap.size full hfull q1 ti q2 HTI _ HS2.out).mono ?_
                        rintro e Z2 ⟨rfl, hr, hgr⟩
                        have hy3 : wr.heap.size < Z2.heap.size := by have := hgr.size; first | omega | (simp at this; omega)
                        have HJ := Lib.hid ((hgr.block wr.heap.size (by first | omega | (simp; omega)) (by simp; omega)).trans HI2.out)
                        have c0 : Z2.cell? ⟨wr.heap.size, 2, none⟩ = some (.int .i64 0) := by rw [cell_of_row Z2 _ _ _ _ _ HJ.out]; rfl
                        have f0 : Z2.frozen? ⟨wr.heap.size, 2, none⟩ = false := frozen_of_row Z2 _ _ _ _ HJ.out
                        have HI3 : Hid ((Z2.setCell ⟨wr.heap.size, 2, none⟩ (.int .i64 ti)).heap[wr.heap.size]? = some (.cells (itemA (mkB k) fl ti 0 0 (mkB []) false 0 0) 58 (0, 0))) := cell_put Z2 wr.heap.size 2 _ _ (.int .i64 ti) HJ.out
                        have hb := below_cell Z2 wr.heap.size 2 wr.heap.size (.int .i64 ti) (Nat.le_refl _)
                        have HS3 := Lib.hid (hr.stay (fun j hj => hb.block j (by omega)))
                        have HG3 := Lib.hid (grown_below (grown_trans HG2.out hgr) hb)
                        clear hr hgr hb HJ HI2 HS2 HG2 hy2
                        go_wp2_with fail
                        clear c0 f0
                        refine (next_is wc.heap.size full hfull q2 ca q3 HCA _ HS3.out).mono ?_
                        rintro e Z3 ⟨rfl, hr, hgr⟩
                        have hy4 : wr.heap.size < Z3.heap.size := by have := hgr.size; first | omega | (simp at this; omega)
                        have HJ := Lib.hid ((hgr.block wr.heap.size (by first | omega | (simp; omega)) (by simp; omega)).trans HI3.out)
                        have c0 : Z3.cell? ⟨wr.heap.size, 3, none⟩ = some (.int .i64 0) := by rw [cell_of_row Z3 _ _ _ _ _ HJ.out]; rfl
                        have f0 : Z3.frozen? ⟨wr.heap.size, 3, none⟩ = false := frozen_of_row Z3 _ _ _ _ HJ.out
                        have HI4 : Hid ((Z3.setCell ⟨wr.heap.size, 3, none⟩ (.int .i64 ca)).heap[wr.heap.size]? = some (.cells (itemA (mkB k) fl ti ca 0 (mkB []) false 0 0) 58 (0, 0))) := cell_put Z3 wr.heap.size 3 _ _ (.int .i64 ca) HJ.out
                        have hb := below_cell Z3 wr.heap.size 3 wr.heap.size (.int .i64 ca) (Nat.le_refl _)
                        have HS4 := Lib.hid (hr.stay (fun j hj => hb.block j (by omega)))
                        have HG4 := Lib.hid (grown_below (grown_trans HG3.out hgr) hb)
                        clear hr hgr hb HJ HI3 HS3 HG3 hy3
                        go_wp2_with fail
                        clear c0 f0
                        refine (next_is wc.heap.size full hfull q3 us q4 HUS _ HS4.out).mono ?_
                        rintro e Z4 ⟨rfl, hr, hgr⟩
                        have hy5 : wr.heap.size < Z4.heap.size := by have := hgr.size; first | omega | (simp at this; omega)
                        have HJ := Lib.hid ((hgr.block wr.heap.size (by first | omega | (simp; omega)) (by simp; omega)).trans HI4.out)
                        have c0 : Z4.cell? ⟨wr.heap.size, 4, none⟩ = some (.int .i64 0) := by rw [cell_of_row Z4 _ _ _ _ _ HJ.out]; rfl
                        have f0 : Z4.frozen? ⟨wr.heap.size, 4, none⟩ = false := frozen_of_row Z4 _ _ _ _ HJ.out
                        have HI5 : Hid ((Z4.setCell ⟨wr.heap.size, 4, none⟩ (.int .i64 us)).heap[wr.heap.size]? = some (.cells (itemA (mkB k) fl ti ca us (mkB []) false 0 0) 58 (0, 0))) := cell_put Z4 wr.heap.size 4 _ _ (.int .i64 us) HJ.out
                        have hb := below_cell Z4 wr.heap.size 4 wr.heap.size (.int .i64 us) (Nat.le_refl _)
                        have HS5 := Lib.hid (hr.stay (fun j hj => hb.block j (by omega)))
                        have HG5 := Lib.hid (grown_below (grown_trans HG4.out hgr) hb)
                        clear hr hgr hb HJ HI4 HS4 HG4 hy4
                        go_wp2_with fail
                        clear c0 f0
                        refine (next_is wc.heap.size full hfull q4 t q5 HTT _ HS5.out).mono ?_
                        rintro e Z5 ⟨rfl, hr, hgr⟩
                        have hy6 : wr.heap.size < Z5.heap.size := by have := hgr.size; first | omega | (simp at this; omega)
                        have HI6 := Lib.hid ((hgr.block wr.heap.size (by first | omega | (simp; omega)) (by simp; omega)).trans HI5.out)
                        have HS6 := Lib.hid hr
                        have HG6 := Lib.hid (grown_trans HG5.out hgr)
                        clear hr hgr HI5 HS5 HG5 hy5
                        have c2 : Z5.cell? ⟨wc.heap.size, 2, none⟩ = some (.int .i64 q5.err) := HS6.out.err_cell
                        have f2 : Z5.frozen? ⟨wc.heap.size, 2, none⟩ = false := HS6.out.free
                        have HZE := Lib.hid (num_zero q4)
                        have HT0 := Lib.hid (num_lt q4)
                        rw [← HTT.out] at HZE HT0
                        by_cases ht0 : t = 0
                        ·
                          subst ht0
                          obtain ⟨⟨tv, q6⟩, hv⟩ : ∃ p, p = q5.text 200 := ⟨_, rfl⟩
                          have HV := Lib.hid hv
                          obtain ⟨rfl, rfl⟩ := Prod.mk.inj (HXX.out.trans (tail_zero hv))
                          clear hv HXX HZE HT0
                          obtain ⟨er, her⟩ : ∃ er, er = q5.err := ⟨_, rfl⟩
                          rw [← her] at c2
                          clear her
                          by_cases he : er = 0
                          ·
                            subst he
                            go_wp2_with fail
                            refine (textp_is wc.heap.size full hfull q5 200 (by omega) tv st2 HV _ HS6.out).mono ?_
                            rintro e Z6 ⟨rfl, hr, hgr⟩
                            have hyT : wr.heap.size < Z6.heap.size := by have := hgr.size; first | omega | (simp at this; omega)
                            have HJ := Lib.hid ((hgr.block wr.heap.size (by first | omega | (simp; omega)) (by simp; omega)).trans HI6.out)
                            have c0 : Z6.cell? ⟨wr.heap.size, 5, none⟩ = some (.string (mkB [])) := by rw [cell_of_row Z6 _ _ _ _ _ HJ.out]; rfl
                            have f0 : Z6.frozen? ⟨wr.heap.size, 5, none⟩ = false := frozen_of_row Z6 _ _ _ _ HJ.out
                            have HIT : Hid ((Z6.setCell ⟨wr.heap.size, 5, none⟩ (.string (mkB tv))).heap[wr.heap.size]? = some (.cells (itemA (mkB k) fl ti ca us (mkB tv) false 0 0) 58 (0, 0))) := cell_put Z6 wr.heap.size 5 _ _ (.string (mkB tv)) HJ.out
                            have hb := below_cell Z6 wr.heap.size 5 wr.heap.size (.string (mkB tv)) (Nat.le_refl _)
                            have HST := Lib.hid (hr.stay (fun j hj => hb.block j (by omega)))
                            have HGT := Lib.hid (grown_below (grown_trans HG6.out hgr) hb)
                            clear hr hgr hb HJ HI6 HS6 HG6 hy6
                            go_upto_region 45 with (fail)
                            clear c0 f0
                            obtain ⟨V, hV⟩ : ∃ V, V = Z6.setCell ⟨wr.heap.size, 5, none⟩ (.string (mkB tv)) := ⟨_, rfl⟩
                            rw [← hV] at HST HGT HIT ⊢
                            clear hV
                            have HDV := Lib.hid (HDC.out.spl HRD.out HGT.out hgR hgS (by omega))
                            have hVs : wr.heap.size < V.heap.size := (Array.getElem?_eq_some_iff.1 HIT.out).1
                            have c8 : V.cell? ⟨W1.heap.size, 8, none⟩ = some (.slice va xs.length vc) := by rw [cell_of_row V _ _ _ _ _ HDV.out.box]; rfl
                            have hb3 : Below V.heap.size V (V.alloc (.cells (itemA (mkB k) fl ti ca us (mkB tv) false 0 0) 58)) := (Below.refl _ _).alloc (Nat.le_refl _) _
                            have HDX3 := Lib.hid (HDV.out.made hb3)
                            have HRX3 := Lib.hid (HST.out.stay (fun j hj => hb3.block j (by omega)))
                            have hbs : W1.heap.size + 1 ≤ (V.alloc (.cells (itemA (mkB k) fl ti ca us (mkB tv) false 0 0) 58)).heap.size := by simp; omega
                            clear HDV HST HGT HDC HRD hb3
                            go_wp2_with (first | refine wpList_load_row rfl 58 _ rfl wr.heap.size rfl _ _ _ _ HIT.out Tryd.underlying58 rfl (by kernel_rfl) ?_ | refine list_item _ rfl (.tmp 170) (.tmp 172) rfl (W1.heap.size + 1) xs.length V.heap.size (.slice va xs.length vc) (⟨mkB k, fl, ti, ca, us, mkB tv, false, ⟨0, 0⟩⟩ : Item) _ rfl rfl HDX3.out.items (blk_new V _) hkk hbs ?_)
                            intro gp cp x4 how4 hgr4 hat4 hlt4
                            have hz4 : V.heap.size < x4.heap.size := by have := hgr4.size; simp at this; omega
                            have hof : ∀ j, j ≤ W1.heap.size → some j ≠ (Value.slice va xs.length vc).ownBlock := fun j hj e => by have := (HDX3.out.items.lt j e.symm).1; omega
                            have HDX4 := Lib.hid (HDX3.out.item (x := (⟨mkB k, fl, ti, ca, us, mkB tv, false, ⟨0, 0⟩⟩ : Item)) hgr4 how4 (by omega) (by omega))
                            have HRX4 := Lib.hid (HRX3.out.stay (w' := x4.setCell ⟨W1.heap.size, 8, none⟩ (.slice (some ⟨gp, 0, none⟩) (xs.length + 1) cp)) (fun j hj => (Below.heap_setCell x4 ⟨W1.heap.size, 8, none⟩ _ j (show j ≠ W1.heap.size by omega)).trans (hgr4.block j (by simp; omega) (hof j (by omega)))))
                            have hbx : x4.heap[W1.heap.size]? = some (.cells (storeV { tp with items := xs } va vc fa fc) 30 (0, 0)) := (hgr4.block _ (by simp; omega) (hof _ (Nat.le_refl _))).trans HDX3.out.box
                            have q8 : x4.cell? ⟨W1.heap.size, 8, none⟩ = some (.slice va xs.length vc) := by rw [cell_of_row x4 _ _ _ _ _ hbx]; rfl
                            have qz : x4.frozen? ⟨W1.heap.size, 8, none⟩ = false := frozen_of_row x4 _ _ _ _ hbx
                            clear HDX3 HRX3 how4 hgr4 hat4 hbx c8
                            go_wp2_with fail
                            go_meet
                            exact ⟨_, _, HRX4, HDX4⟩
                          ·
                            have h1 : (er == 0) = false := by simp [he]
                            clear he
                            go_wp2_with fail
                            refine (textp_is wc.heap.size full hfull q5 200 (by omega) tv st2 HV _ HS6.out).mono ?_
                            rintro e Z6 ⟨rfl, hr, hgr⟩
                            have hyT : wr.heap.size < Z6.heap.size := by have := hgr.size; first | omega | (simp at this; omega)
                            have HJ := Lib.hid ((hgr.block wr.heap.size (by first | omega | (simp; omega)) (by simp; omega)).trans HI6.out)
                            have c0 : Z6.cell? ⟨wr.heap.size, 5, none⟩ = some (.string (mkB [])) := by rw [cell_of_row Z6 _ _ _ _ _ HJ.out]; rfl
                            have f0 : Z6.frozen? ⟨wr.heap.size, 5, none⟩ = false := frozen_of_row Z6 _ _ _ _ HJ.out
                            have HIT : Hid ((Z6.setCell ⟨wr.heap.size, 5, none⟩ (.string (mkB tv))).heap[wr.heap.size]? = some (.cells (itemA (mkB k) fl ti ca us (mkB tv) false 0 0) 58 (0, 0))) := cell_put Z6 wr.heap.size 5 _ _ (.string (mkB tv)) HJ.out
                            have hb := below_cell Z6 wr.heap.size 5 wr.heap.size (.string (mkB tv)) (Nat.le_refl _)
                            have HST := Lib.hid (hr.stay (fun j hj => hb.block j (by omega)))
                            have HGT := Lib.hid (grown_below (grown_trans HG6.out hgr) hb)
                            clear hr hgr hb HJ HI6 HS6 HG6 hy6
                            go_upto_region 45 with (fail)
                            clear c0 f0
                            obtain ⟨V, hV⟩ : ∃ V, V = Z6.setCell ⟨wr.heap.size, 5, none⟩ (.string (mkB tv)) := ⟨_, rfl⟩
                            rw [← hV] at HST HGT HIT ⊢
                            clear hV
                            have HDV := Lib.hid (HDC.out.spl HRD.out HGT.out hgR hgS (by omega))
                            have hVs : wr.heap.size < V.heap.size := (Array.getElem?_eq_some_iff.1 HIT.out).1
                            have c8 : V.cell? ⟨W1.heap.size, 8, none⟩ = some (.slice va xs.length vc) := by rw [cell_of_row V _ _ _ _ _ HDV.out.box]; rfl
                            have hb3 : Below V.heap.size V (V.alloc (.cells (itemA (mkB k) fl ti ca us (mkB tv) false 0 0) 58)) := (Below.refl _ _).alloc (Nat.le_refl _) _
                            have HDX3 := Lib.hid (HDV.out.made hb3)
                            have HRX3 := Lib.hid (HST.out.stay (fun j hj => hb3.block j (by omega)))
                            have hbs : W1.heap.size + 1 ≤ (V.alloc (.cells (itemA (mkB k) fl ti ca us (mkB tv) false 0 0) 58)).heap.size := by simp; omega
                            clear HDV HST HGT HDC HRD hb3
                            go_wp2_with (first | refine wpList_load_row rfl 58 _ rfl wr.heap.size rfl _ _ _ _ HIT.out Tryd.underlying58 rfl (by kernel_rfl) ?_ | refine list_item _ rfl (.tmp 170) (.tmp 172) rfl (W1.heap.size + 1) xs.length V.heap.size (.slice va xs.length vc) (⟨mkB k, fl, ti, ca, us, mkB tv, false, ⟨0, 0⟩⟩ : Item) _ rfl rfl HDX3.out.items (blk_new V _) hkk hbs ?_)
                            intro gp cp x4 how4 hgr4 hat4 hlt4
                            have hz4 : V.heap.size < x4.heap.size := by have := hgr4.size; simp at this; omega
                            have hof : ∀ j, j ≤ W1.heap.size → some j ≠ (Value.slice va xs.length vc).ownBlock := fun j hj e => by have := (HDX3.out.items.lt j e.symm).1; omega
                            have HDX4 := Lib.hid (HDX3.out.item (x := (⟨mkB k, fl, ti, ca, us, mkB tv, false, ⟨0, 0⟩⟩ : Item)) hgr4 how4 (by omega) (by omega))
                            have HRX4 := Lib.hid (HRX3.out.stay (w' := x4.setCell ⟨W1.heap.size, 8, none⟩ (.slice (some ⟨gp, 0, none⟩) (xs.length + 1) cp)) (fun j hj => (Below.heap_setCell x4 ⟨W1.heap.size, 8, none⟩ _ j (show j ≠ W1.heap.size by omega)).trans (hgr4.block j (by simp; omega) (hof j (by omega)))))
                            have hbx : x4.heap[W1.heap.size]? = some (.cells (storeV { tp with items := xs } va vc fa fc) 30 (0, 0)) := (hgr4.block _ (by simp; omega) (hof _ (Nat.le_refl _))).trans HDX3.out.box
                            have q8 : x4.cell? ⟨W1.heap.size, 8, none⟩ = some (.slice va xs.length vc) := by rw [cell_of_row x4 _ _ _ _ _ hbx]; rfl
                            have qz : x4.frozen? ⟨W1.heap.size, 8, none⟩ = false := frozen_of_row x4 _ _ _ _ hbx
                            clear HDX3 HRX3 how4 hgr4 hat4 hbx c8
                            go_wp2_with fail
                            go_meet
                            exact ⟨_, _, HRX4, HDX4⟩
                        have he : q5.err = 0 := by
                          by_cases he : q5.err = 0
                          · exact he
                          · exact absurd (HZE.out he) ht0
                        rw [he] at c2
                        clear HZE
                        by_cases ht1 : t = 1
                        ·
                          subst ht1
                          obtain ⟨⟨p, q6⟩, hp⟩ : ∃ p, p = q5.num := ⟨_, rfl⟩
                          obtain ⟨⟨o2, q7⟩, ho⟩ : ∃ p, p = q6.num := ⟨_, rfl⟩
                          have HP := Lib.hid hp
                          have HO := Lib.hid ho
                          obtain ⟨rfl, rfl⟩ := Prod.mk.inj (HXX.out.trans (tail_one hp ho))
                          have c6 : Z5.cell? ⟨wr.heap.size, 6, none⟩ = some (.bool false) := by rw [cell_of_row Z5 _ _ _ _ _ HI6.out]; rfl
                          have f6 : Z5.frozen? ⟨wr.heap.size, 6, none⟩ = false := frozen_of_row Z5 _ _ _ _ HI6.out
                          have HI7 : Hid ((Z5.setCell ⟨wr.heap.size, 6, none⟩ (.bool true)).heap[wr.heap.size]? = some (.cells (itemA (mkB k) fl ti ca us (mkB []) true 0 0) 58 (0, 0))) := cell_put Z5 wr.heap.size 6 _ _ (.bool true) HI6.out
                          have hb := below_cell Z5 wr.heap.size 6 wr.heap.size (.bool true) (Nat.le_refl _)
                          have HS7 := Lib.hid (HS6.out.stay (fun j hj => hb.block j (by omega)))
                          have HG7 := Lib.hid (grown_below HG6.out hb)
                          have hy7 := hy6
                          clear hb hp ho HXX ht0 he HI6 HS6 HG6 HT0
                          go_wp2_with fail
                          clear c6 f6 c2 f2
                          refine (next_is wc.heap.size full hfull q5 p q6 HP _ HS7.out).mono ?_
                          rintro e Z6 ⟨rfl, hr, hgr⟩
                          have hy8 : wr.heap.size < Z6.heap.size := by have := hgr.size; first | omega | (simp at this; omega)
                          have HJ := Lib.hid ((hgr.block wr.heap.size (by first | omega | (simp; omega)) (by simp; omega)).trans HI7.out)
                          have c0 : Z6.cell? ⟨wr.heap.size, 7, none⟩ = some (.int .i64 0) := by rw [cell_of_row Z6 _ _ _ _ _ HJ.out]; rfl
                          have f0 : Z6.frozen? ⟨wr.heap.size, 7, none⟩ = false := frozen_of_row Z6 _ _ _ _ HJ.out
                          have HI8 : Hid ((Z6.setCell ⟨wr.heap.size, 7, none⟩ (.int .i64 p)).heap[wr.heap.size]? = some (.cells (itemA (mkB k) fl ti ca us (mkB []) true p 0) 58 (0, 0))) := cell_put Z6 wr.heap.size 7 _ _ (.int .i64 p) HJ.out
                          have hb := below_cell Z6 wr.heap.size 7 wr.heap.size (.int .i64 p) (Nat.le_refl _)
                          have HS8 := Lib.hid (hr.stay (fun j hj => hb.block j (by omega)))
                          have HG8 := Lib.hid (grown_below (grown_trans HG7.out hgr) hb)
                          clear hr hgr hb HJ HI7 HS7 HG7 hy7
                          go_wp2_with fail
                          clear c0 f0
                          refine (next_is wc.heap.size full hfull q6 o2 st2 HO _ HS8.out).mono ?_
                          rintro e Z7 ⟨rfl, hr, hgr⟩
                          have hy9 : wr.heap.size < Z7.heap.size := by have := hgr.size; first | omega | (simp at this; omega)
                          have HJ := Lib.hid ((hgr.block wr.heap.size (by first | omega | (simp; omega)) (by simp; omega)).trans HI8.out)
                          have c0 : Z7.cell? ⟨wr.heap.size, 8, none⟩ = some (.int .i64 0) := by rw [cell_of_row Z7 _ _ _ _ _ HJ.out]; rfl
                          have f0 : Z7.frozen? ⟨wr.heap.size, 8, none⟩ = false := frozen_of_row Z7 _ _ _ _ HJ.out
                          have HI9 : Hid ((Z7.setCell ⟨wr.heap.size, 8, none⟩ (.int .i64 o2)).heap[wr.heap.size]? = some (.cells (itemA (mkB k) fl ti ca us (mkB []) true p o2) 58 (0, 0))) := cell_put Z7 wr.heap.size 8 _ _ (.int .i64 o2) HJ.out
                          have hb := below_cell Z7 wr.heap.size 8 wr.heap.size (.int .i64 o2) (Nat.le_refl _)
                          have HS9 := Lib.hid (hr.stay (fun j hj => hb.block j (by omega)))
                          have HG9 := Lib.hid (grown_below (grown_trans HG8.out hgr) hb)
                          clear hr hgr hb HJ HI8 HS8 HG8 hy8
                          go_upto_region 45 with (fail)
                          clear c0 f0
                          obtain ⟨V, hV⟩ : ∃ V, V = Z7.setCell ⟨wr.heap.size, 8, none⟩ (.int .i64 o2) := ⟨_, rfl⟩
                          rw [← hV] at HS9 HG9 HI9 ⊢
                          clear hV
                          have HDV := Lib.hid (HDC.out.spl HRD.out HG9.out hgR hgS (by omega))
                          have hVs : wr.heap.size < V.heap.size := (Array.getElem?_eq_some_iff.1 HI9.out).1
                          have c8 : V.cell? ⟨W1.heap.size, 8, none⟩ = some (.slice va xs.length vc) := by rw [cell_of_row V _ _ _ _ _ HDV.out.box]; rfl
                          have hb3 : Below V.heap.size V (V.alloc (.cells (itemA (mkB k) fl ti ca us (mkB []) true p o2) 58)) := (Below.refl _ _).alloc (Nat.le_refl _) _
                          have HDX3 := Lib.hid (HDV.out.made hb3)
                          have HRX3 := Lib.hid (HS9.out.stay (fun j hj => hb3.block j (by omega)))
                          have hbs : W1.heap.size + 1 ≤ (V.alloc (.cells (itemA (mkB k) fl ti ca us (mkB []) true p o2) 58)).heap.size := by simp; omega
                          clear HDV HS9 HG9 HDC HRD hb3
                          go_wp2_with (first | refine wpList_load_row rfl 58 _ rfl wr.heap.size rfl _ _ _ _ HI9.out Tryd.underlying58 rfl (by kernel_rfl) ?_ | refine list_item _ rfl (.tmp 170) (.tmp 172) rfl (W1.heap.size + 1) xs.length V.heap.size (.slice va xs.length vc) (⟨mkB k, fl, ti, ca, us, mkB [], true, ⟨p, o2⟩⟩ : Item) _ rfl rfl HDX3.out.items (blk_new V _) hkk hbs ?_)
                          intro gp cp x4 how4 hgr4 hat4 hlt4
                          have hz4 : V.heap.size < x4.heap.size := by have := hgr4.size; simp at this; omega
                          have hof : ∀ j, j ≤ W1.heap.size → some j ≠ (Value.slice va xs.length vc).ownBlock := fun j hj e => by have := (HDX3.out.items.lt j e.symm).1; omega
                          have HDX4 := Lib.hid (HDX3.out.item (x := (⟨mkB k, fl, ti, ca, us, mkB [], true, ⟨p, o2⟩⟩ : Item)) hgr4 how4 (by omega) (by omega))
                          have HRX4 := Lib.hid (HRX3.out.stay (w' := x4.setCell ⟨W1.heap.size, 8, none⟩ (.slice (some ⟨gp, 0, none⟩) (xs.length + 1) cp)) (fun j hj => (Below.heap_setCell x4 ⟨W1.heap.size, 8, none⟩ _ j (show j ≠ W1.heap.size by omega)).trans (hgr4.block j (by simp; omega) (hof j (by omega)))))
                          have hbx : x4.heap[W1.heap.size]? = some (.cells (storeV { tp with items := xs } va vc fa fc) 30 (0, 0)) := (hgr4.block _ (by simp; omega) (hof _ (Nat.le_refl _))).trans HDX3.out.box
                          have q8 : x4.cell? ⟨W1.heap.size, 8, none⟩ = some (.slice va xs.length vc) := by rw [cell_of_row x4 _ _ _ _ _ hbx]; rfl
                          have qz : x4.frozen? ⟨W1.heap.size, 8, none⟩ = false := frozen_of_row x4 _ _ _ _ hbx
                          clear HDX3 HRX3 how4 hgr4 hat4 hbx c8
                          go_wp2_with fail
                          go_meet
                          exact ⟨_, _, HRX4, HDX4⟩
                        ·
                          have ht2 : 1 < t := by have := HT0.out.1; omega
                          have h1f : (t == 1) = false := by rw [beq_eq_false_iff_ne]; exact ht1
                          have hX := HXX.out.trans (tail_bad ht0 ht1 he)
                          have HV : Hid (([], (⟨q5.rest, 4⟩ : Rd)) = (⟨q5.rest, 4⟩ : Rd).text 200) := (text_err (by show (4 : Int) ≠ 0; decide) (by omega)).symm
                          obtain ⟨rfl, rfl⟩ := Prod.mk.inj hX
                          have HS7 := Lib.hid (HS6.out.err 4)
                          have hb7 : (Z5.setCell ⟨wc.heap.size, 2, none⟩ (.int .i64 4)).heap[wr.heap.size]? = Z5.heap[wr.heap.size]? := Below.heap_setCell Z5 ⟨wc.heap.size, 2, none⟩ _ _ (show wr.heap.size ≠ wc.heap.size by omega)
                          have HI7 := Lib.hid (hb7.trans HI6.out)
                          have HG7 := Lib.hid (grown_trans HG6.out (grown_set Z5 wc.heap.size 2 (.int .i64 4)))
                          have hy7 : wr.heap.size < (Z5.setCell ⟨wc.heap.size, 2, none⟩ (.int .i64 4)).heap.size := by simp; omega
                          clear hX hb7 HXX ht0 ht1 he HI6 HS6 HG6 HT0
                          go_wp2_with fail
                          refine (textp_is wc.heap.size full hfull (⟨q5.rest, 4⟩ : Rd) 200 (by omega) [] ⟨q5.rest, 4⟩ HV _ HS7.out).mono ?_
                          rintro e Z6 ⟨rfl, hr, hgr⟩
                          have hyT : wr.heap.size < Z6.heap.size := by have := hgr.size; first | omega | (simp at this; omega)
                          have HJ := Lib.hid ((hgr.block wr.heap.size (by first | omega | (simp; omega)) (by simp; omega)).trans HI7.out)
                          have c0 : Z6.cell? ⟨wr.heap.size, 5, none⟩ = some (.string (mkB [])) := by rw [cell_of_row Z6 _ _ _ _ _ HJ.out]; rfl
                          have f0 : Z6.frozen? ⟨wr.heap.size, 5, none⟩ = false := frozen_of_row Z6 _ _ _ _ HJ.out
                          have HIT : Hid ((Z6.setCell ⟨wr.heap.size, 5, none⟩ (.string (mkB []))).heap[wr.heap.size]? = some (.cells (itemA (mkB k) fl ti ca us (mkB []) false 0 0) 58 (0, 0))) := cell_put Z6 wr.heap.size 5 _ _ (.string (mkB [])) HJ.out
                          have hb := below_cell Z6 wr.heap.size 5 wr.heap.size (.string (mkB [])) (Nat.le_refl _)
                          have HST := Lib.hid (hr.stay (fun j hj => hb.block j (by omega)))
                          have HGT := Lib.hid (grown_below (grown_trans HG7.out hgr) hb)
                          clear hr hgr hb HJ HI7 HS7 HG7 hy7
                          go_upto_region 45 with (fail)
                          clear c0 f0
                          obtain ⟨V, hV⟩ : ∃ V, V = Z6.setCell ⟨wr.heap.size, 5, none⟩ (.string (mkB [])) := ⟨_, rfl⟩
                          rw [← hV] at HST HGT HIT ⊢
                          clear hV
                          have HDV := Lib.hid (HDC.out.spl HRD.out HGT.out hgR hgS (by omega))
                          have hVs : wr.heap.size < V.heap.size := (Array.getElem?_eq_some_iff.1 HIT.out).1
                          have c8 : V.cell? ⟨W1.heap.size, 8, none⟩ = some (.slice va xs.length vc) := by rw [cell_of_row V _ _ _ _ _ HDV.out.box]; rfl
                          have hb3 : Below V.heap.size V (V.alloc (.cells (itemA (mkB k) fl ti ca us (mkB []) false 0 0) 58)) := (Below.refl _ _).alloc (Nat.le_refl _) _
                          have HDX3 := Lib.hid (HDV.out.made hb3)
                          have HRX3 := Lib.hid (HST.out.stay (fun j hj => hb3.block j (by omega)))
                          have hbs : W1.heap.size + 1 ≤ (V.alloc (.cells (itemA (mkB k) fl ti ca us (mkB []) false 0 0) 58)).heap.size := by simp; omega
                          clear HDV HST HGT HDC HRD hb3
                          go_wp2_with (first | refine wpList_load_row rfl 58 _ rfl wr.heap.size rfl _ _ _ _ HIT.out Tryd.underlying58 rfl (by kernel_rfl) ?_ | refine list_item _ rfl (.tmp 170) (.tmp 172) rfl (W1.heap.size + 1) xs.length V.heap.size (.slice va xs.length vc) (⟨mkB k, fl, ti, ca, us, mkB [], false, ⟨0, 0⟩⟩ : Item) _ rfl rfl HDX3.out.items (blk_new V _) hkk hbs ?_)
                          intro gp cp x4 how4 hgr4 hat4 hlt4
                          have hz4 : V.heap.size < x4.heap.size := by have := hgr4.size; simp at this; omega
                          have hof : ∀ j, j ≤ W1.heap.size → some j ≠ (Value.slice va xs.length vc).ownBlock := fun j hj e => by have := (HDX3.out.items.lt j e.symm).1; omega
                          have HDX4 := Lib.hid (HDX3.out.item (x := (⟨mkB k, fl, ti, ca, us, mkB [], false, ⟨0, 0⟩⟩ : Item)) hgr4 how4 (by omega) (by omega))
                          have HRX4 := Lib.hid (HRX3.out.stay (w' := x4.setCell ⟨W1.heap.size, 8, none⟩ (.slice (some ⟨gp, 0, none⟩) (xs.length + 1) cp)) (fun j hj => (Below.heap_setCell x4 ⟨W1.heap.size, 8, none⟩ _ j (show j ≠ W1.heap.size by omega)).trans (hgr4.block j (by simp; omega) (hof j (by omega)))))
                          have hbx : x4.heap[W1.heap.size]? = some (.cells (storeV { tp with items := xs } va vc fa fc) 30 (0, 0)) := (hgr4.block _ (by simp; omega) (hof _ (Nat.le_refl _))).trans HDX3.out.box
                          have q8 : x4.cell? ⟨W1.heap.size, 8, none⟩ = some (.slice va xs.length vc) := by rw [cell_of_row x4 _ _ _ _ _ hbx]; rfl
                          have qz : x4.frozen? ⟨W1.heap.size, 8, none⟩ = false := frozen_of_row x4 _ _ _ _ hbx
                          clear HDX3 HRX3 how4 hgr4 hat4 hbx c8
                          go_wp2_with fail
                          go_meet
                          exact ⟨_, _, HRX4, HDX4⟩
                      case rest =>
                        obtain ⟨va', vc', HRD2, HDC2⟩ := hcut
                        have HLN := Lib.hid (show (xs ++ [x]).length = xs.length + 1 by simp)
                        go_wp2_with fail
                        go_roundw
                        case rel => first | exact ⟨xs.length + 1, xs ++ [x], va', vc', st2, hgo, HLN.out, by go_num, HIT3, HRD2, HDC2⟩ | ((repeat apply Exists.intro); exact ⟨⟨xs.length + 1, xs ++ [x], va', vc', st2, hgo, HLN.out, by go_num, HIT3, HRD2, HDC2⟩, rfl⟩)
                        case measure => simp [intOf]; omega
                    | false =>
                      have hst : ¬ (xs.length < nm ∧ st.err = 0) := of_decide_eq_false HT.out.symm
                      have hpp := HIT2.out
                      rw [items_stop hst, List.append_nil] at hpp
                      obtain ⟨rfl, rfl⟩ := Prod.mk.inj hpp
                      clear hpp hst HT HIT2
                      have HANS : Hid (decode b = answer ({ tp with items := X }, sX)) := by show _ = _; rw [HD.out, HSTO.out]
                      have hbnd := store_b ⟨bodyIn b, 0⟩
                      rw [HSTO.out] at hbnd
                      have HBND := Lib.hid hbnd
                      clear hbnd HSTO HD
                      obtain ⟨lr, er⟩ := sX
                      obtain ⟨ts, hts⟩ : ∃ ts : Store, ts = { tp with items := X } := ⟨_, rfl⟩
                      rw [← hts] at HDC HANS HBND
                      clear hts
                      by_cases he : er = 0
                      rotate_left
                      ·
                        have HA2 : Hid (decode b = (Store.zero, er)) := by show _ = _; rw [HANS.out]; exact ans_err (by unfold Rd.fin; rw [if_neg (by simp [he])]) he
                        have c2 : wr.cell? ⟨wc.heap.size, 2, none⟩ = some (.int .i64 er) := HRD.out.err_cell
                        have h1 : (er == 0) = false := by simp [he]
                        have h2 : (er != 0) = true := by simp [he]
                        clear he
                        go_wp2_with fail
                        go_quiet (fail)
                        obtain ⟨V, hV⟩ : ∃ V, V = wr.drewN nq := ⟨_, rfl⟩
                        have HRV : Hid (Spl wc.heap.size full V ⟨lr, er⟩) := by show Spl _ _ _ _; rw [hV]; exact HRD.out.drewN nq
                        have HDV : Hid (Dec w w.heap.size W1.heap.size V ts va fa vc fc vs) := by show Dec _ _ _ _ _ _ _ _ _ _; rw [hV]; exact HDC.out.made (below_drewN (Below.refl _ _) nq)
                        rw [← hV]
                        clear hV HRD HDC
                        clear c2
                        have c2 : V.cell? ⟨wc.heap.size, 2, none⟩ = some (.int .i64 er) := HRV.out.err_cell
                        go_upto_region 51 with (fail)
                        have C2 := Lib.hid (HRV.out.err_cell)
                        clear c2 h1 h2
                        refine wp_region_L (SameAt wc.heap.size V) 6 7 (by kernel_rfl) (by kernel_rfl) rfl (fun hHeld => ?_)
                        refine wpAnyL_take (i := 0) (v := ?_) rfl (by kernel_rfl) (fun _ _ _ h => h) (Or.inl ⟨by rfl, ?_⟩) (by assumption) ?_
                        rotate_left
                        · intro wS hSw; go_simp <;> with_reducible rfl
                        walk_nrm
                        refine wpAnyL_take (i := 1) (v := ?_) rfl (by kernel_rfl) (fun _ _ _ h => h) (Or.inl ⟨by rfl, ?_⟩) (by assumption) ?_
                        rotate_left
                        · intro wS hSw; go_simp <;> with_reducible rfl
                        walk_nrm
                        refine wpAnyL_take (i := 2) (v := ?_) rfl (by kernel_rfl) (fun _ _ _ h => h) (Or.inl ⟨by rfl, ?_⟩) (by assumption) ?_
                        rotate_left
                        · intro wS hSw; go_simp <;> with_reducible rfl
                        walk_nrm
                        refine wpAnyL_take (i := 3) (v := ?_) rfl (by kernel_rfl) (fun _ _ _ h => h) (Or.inl ⟨by rfl, ?_⟩) (by assumption) ?_
                        rotate_left
                        · intro wS hSw; go_simp <;> with_reducible rfl
                        walk_nrm
                        refine wpAnyL_take (i := 4) (v := ?_) rfl (by kernel_rfl) (fun _ _ _ h => h) (Or.inl ⟨by rfl, ?_⟩) (by assumption) ?_
                        rotate_left
                        · intro wS hSw; have q := (World.cell?_of_block (w := V) (a := ⟨wc.heap.size, 2, none⟩) hSw).trans C2.out; go_simp <;> with_reducible rfl
                        walk_nrm
                        refine wpAnyL_step (i := 5) rfl (by kernel_rfl) (fun K hK => ?_)
                        refine step_store_row V.drew rfl 30 (.tmp 2) (.tmp 213) rfl w.heap.size storeZ rfl rfl 30 storeZ (show V.heap[w.heap.size]? = _ from HDV.out.res) storeSize rfl zero_one ?_
                        have S5 : SameAt wc.heap.size V (V.drew.setRow w.heap.size storeZ) := setRow_other _ _ _ _ (by omega)
                        refine hK.out _ _ S5 (fun hHeld5 => ?_)
                        clear hK K hHeld
                        walk_nrm
                        refine wpAnyL_last rfl (by kernel_rfl) (fun K hK => ?_)
                        go_simp
                        refine hK.out _ _ ?_
                        clear hK K
                        walk_nrm
                        refine wpAnyL_done (by kernel_rfl) ?_ _
                        iterate 3 go_step
                        exact bodyPost_ret (v := .tuple #[.agg storeZ, .int .i64 er]) (results_row_int rfl _ _ w.heap.size _ _ rfl rfl (run_loadVar_row _ _ _ _ _ _ _ (setRow_heap V.drew _ _ _ _ _ (show V.drew.heap[w.heap.size]? = _ from HDV.out.res)) Tryd.underlying30 rfl storeSize)) rfl (out_no HA2 HDV.out.below.drew (Nat.le_refl _))
                      subst he
                      obtain ⟨sb, so, sc, i, hil, hdr, rhh, hby, hsc, hsm, hsg⟩ := HRD.out.ex
                      simp only at hdr rhh
                      have c0 : wr.cell? ⟨wc.heap.size, 0, none⟩ = some (.slice (some ⟨sb, so, none⟩) full.length sc) := by rw [cell_of_row wr _ _ _ _ _ rhh]; rfl
                      have c1 : wr.cell? ⟨wc.heap.size, 1, none⟩ = some (.int .i64 i) := by rw [cell_of_row wr _ _ _ _ _ rhh]; rfl
                      have c2 : wr.cell? ⟨wc.heap.size, 2, none⟩ = some (.int .i64 0) := by rw [cell_of_row wr _ _ _ _ _ rhh]; rfl
                      have hll : lr.length = full.length - i := by rw [← hdr, List.length_drop]
                      clear hdr rhh hby hsc hsm hsg
                      by_cases hr0 : lr = []
                      rotate_left
                      ·
                        have hlp : 0 < lr.length := List.length_pos_iff.2 hr0
                        have HA2 : Hid (decode b = (Store.zero, 4)) := by show _ = _; rw [HANS.out]; exact ans_err (by unfold Rd.fin; rw [if_pos ⟨rfl, hlp⟩]) (by decide)
                        have hlt : (i : Int) < (full.length : Int) := by omega
                        clear hr0 hll hlp
                        go_wp2_with fail
                        go_quiet (fail)
                        obtain ⟨V, hV⟩ : ∃ V, V = wr.drewN nq := ⟨_, rfl⟩
                        have HRV : Hid (Spl wc.heap.size full V ⟨lr, 0⟩) := by show Spl _ _ _ _; rw [hV]; exact HRD.out.drewN nq
                        have HDV : Hid (Dec w w.heap.size W1.heap.size V ts va fa vc fc vs) := by show Dec _ _ _ _ _ _ _ _ _ _; rw [hV]; exact HDC.out.made (below_drewN (Below.refl _ _) nq)
                        rw [← hV]
                        clear hV HRD HDC
                        clear c0 c1 c2
                        have c2 : V.cell? ⟨wc.heap.size, 2, none⟩ = some (.int .i64 0) := HRV.out.err_cell
                        have f2 : V.frozen? ⟨wc.heap.size, 2, none⟩ = false := HRV.out.free
                        have hgV := HRV.out.lt
                        have HR2 := Lib.hid (HRV.out.err 4)
                        have HD2 := Lib.hid (HDV.out.spl HRV.out (grown_set V wc.heap.size 2 (.int .i64 4)) hgR hgS (by omega))
                        clear HRV HDV
                        go_upto_region 48 with (fail)
                        clear c2 f2
                        obtain ⟨V2, hV2⟩ : ∃ V2, V2 = V.setCell ⟨wc.heap.size, 2, none⟩ (.int .i64 4) := ⟨_, rfl⟩
                        rw [← hV2] at HR2 HD2 ⊢
                        clear hV2
                        have HRV := HR2
                        have HDV := HD2
                        clear HR2 HD2
                        have c2 : V2.cell? ⟨wc.heap.size, 2, none⟩ = some (.int .i64 4) := HRV.out.err_cell
                        go_upto_region 51 with (fail)
                        have C2 := Lib.hid (HRV.out.err_cell)
                        clear c2
                        refine wp_region_L (SameAt wc.heap.size V2) 6 7 (by kernel_rfl) (by kernel_rfl) rfl (fun hHeld => ?_)
                        refine wpAnyL_take (i := 0) (v := ?_) rfl (by kernel_rfl) (fun _ _ _ h => h) (Or.inl ⟨by rfl, ?_⟩) (by assumption) ?_
                        rotate_left
                        · intro wS hSw; go_simp <;> with_reducible rfl
                        walk_nrm
                        refine wpAnyL_take (i := 1) (v := ?_) rfl (by kernel_rfl) (fun _ _ _ h => h) (Or.inl ⟨by rfl, ?_⟩) (by assumption) ?_
                        rotate_left
                        · intro wS hSw; go_simp <;> with_reducible rfl
                        walk_nrm
                        refine wpAnyL_take (i := 2) (v := ?_) rfl (by kernel_rfl) (fun _ _ _ h => h) (Or.inl ⟨by rfl, ?_⟩) (by assumption) ?_
                        rotate_left
                        · intro wS hSw; go_simp <;> with_reducible rfl
                        walk_nrm
                        refine wpAnyL_take (i := 3) (v := ?_) rfl (by kernel_rfl) (fun _ _ _ h => h) (Or.inl ⟨by rfl, ?_⟩) (by assumption) ?_
                        rotate_left
                        · intro wS hSw; go_simp <;> with_reducible rfl
                        walk_nrm
                        refine wpAnyL_take (i := 4) (v := ?_) rfl (by kernel_rfl) (fun _ _ _ h => h) (Or.inl ⟨by rfl, ?_⟩) (by assumption) ?_
                        rotate_left
                        · intro wS hSw; have q := (World.cell?_of_block (w := V2) (a := ⟨wc.heap.size, 2, none⟩) hSw).trans C2.out; go_simp <;> with_reducible rfl
                        walk_nrm
                        refine wpAnyL_step (i := 5) rfl (by kernel_rfl) (fun K hK => ?_)
                        refine step_store_row V2.drew rfl 30 (.tmp 2) (.tmp 213) rfl w.heap.size storeZ rfl rfl 30 storeZ (show V2.heap[w.heap.size]? = _ from HDV.out.res) storeSize rfl zero_one ?_
                        have S5 : SameAt wc.heap.size V2 (V2.drew.setRow w.heap.size storeZ) := setRow_other _ _ _ _ (by omega)
                        refine hK.out _ _ S5 (fun hHeld5 => ?_)
                        clear hK K hHeld
                        walk_nrm
                        refine wpAnyL_last rfl (by kernel_rfl) (fun K hK => ?_)
                        go_simp
                        refine hK.out _ _ ?_
                        clear hK K
                        walk_nrm
                        refine wpAnyL_done (by kernel_rfl) ?_ _
                        iterate 3 go_step
                        exact bodyPost_ret (v := .tuple #[.agg storeZ, .int .i64 4]) (results_row_int rfl _ _ w.heap.size _ _ rfl rfl (run_loadVar_row _ _ _ _ _ _ _ (setRow_heap V2.drew _ _ _ _ _ (show V2.drew.heap[w.heap.size]? = _ from HDV.out.res)) Tryd.underlying30 rfl storeSize)) rfl (out_no HA2 HDV.out.below.drew (Nat.le_refl _))
                      subst hr0
                      have hlt : ¬ (i : Int) < (full.length : Int) := by simp at hll; omega
                      clear hll
                      go_wp2_with fail
                      go_quiet (fail)
                      obtain ⟨V, hV⟩ : ∃ V, V = wr.drewN nq := ⟨_, rfl⟩
                      have HRV : Hid (Spl wc.heap.size full V ⟨[], 0⟩) := by show Spl _ _ _ _; rw [hV]; exact HRD.out.drewN nq
                      have HDV : Hid (Dec w w.heap.size W1.heap.size V ts va fa vc fc vs) := by show Dec _ _ _ _ _ _ _ _ _ _; rw [hV]; exact HDC.out.made (below_drewN (Below.refl _ _) nq)
                      rw [← hV]
                      clear hV HRD HDC
                      clear c0 c1 c2
                      have c2 : V.cell? ⟨wc.heap.size, 2, none⟩ = some (.int .i64 0) := HRV.out.err_cell
                      have hl1 : ts.items.length ≤ 1000 := HBND.out.2.2.1
                      have hl2 : ts.flash.pages.length ≤ 20 := HBND.out.2.2.2
                      have p0 : V.cell? ⟨W1.heap.size, 0, none⟩ = some (.int .i64 ts.clock) := by rw [cell_of_row V _ _ _ _ _ HDV.out.box]; rfl
                      have p1 : V.cell? ⟨W1.heap.size, 1, none⟩ = some (.int .i64 ts.cas) := by rw [cell_of_row V _ _ _ _ _ HDV.out.box]; rfl
                      have p2 : V.cell? ⟨W1.heap.size, 2, none⟩ = some (.int .i64 ts.uses) := by rw [cell_of_row V _ _ _ _ _ HDV.out.box]; rfl
                      have p3 : V.cell? ⟨W1.heap.size, 3, none⟩ = some (.int .i64 ts.most) := by rw [cell_of_row V _ _ _ _ _ HDV.out.box]; rfl
                      have p4 : V.cell? ⟨W1.heap.size, 4, none⟩ = some (.int .i64 ts.h0) := by rw [cell_of_row V _ _ _ _ _ HDV.out.box]; rfl
                      have p5 : V.cell? ⟨W1.heap.size, 5, none⟩ = some (.int .i64 ts.h1) := by rw [cell_of_row V _ _ _ _ _ HDV.out.box]; rfl
                      have p6 : V.cell? ⟨W1.heap.size, 6, none⟩ = some (.int .i64 ts.h2) := by rw [cell_of_row V _ _ _ _ _ HDV.out.box]; rfl
                      have p7 : V.cell? ⟨W1.heap.size, 7, none⟩ = some (.int .i64 ts.h3) := by rw [cell_of_row V _ _ _ _ _ HDV.out.box]; rfl
                      have p8 : V.cell? ⟨W1.heap.size, 8, none⟩ = some (.slice va ts.items.length vc) := by rw [cell_of_row V _ _ _ _ _ HDV.out.box]; rfl
                      have p9 : V.cell? ⟨W1.heap.size, 9, none⟩ = some (.int .i64 ts.flash.most) := by rw [cell_of_row V _ _ _ _ _ HDV.out.box]; rfl
                      have p10 : V.cell? ⟨W1.heap.size, 10, none⟩ = some (.int .i64 ts.flash.next) := by rw [cell_of_row V _ _ _ _ _ HDV.out.box]; rfl
                      have p11 : V.cell? ⟨W1.heap.size, 11, none⟩ = some (.slice fa ts.flash.pages.length fc) := by rw [cell_of_row V _ _ _ _ _ HDV.out.box]; rfl
                      cases hok : ts.ok
                      ·
                        have HA2 : Hid (decode b = (Store.zero, 8)) := by show _ = _; rw [HANS.out]; exact ans_bad rfl hok
                        have HOK := Lib.hid hok
                        clear hok
                        go_wp2_with fail
                        refine (smay_is ts false HOK va fa vc fc _ (own_items HDV.out.items HBND.out.1) (HDV.out.pages.rows HBND.out.2.1) (by omega) (by omega)).mono ?_
                        rintro e y1 ⟨rfl, hb1⟩
                        have hgV := HRV.out.lt
                        have HR1 := Lib.hid (HRV.out.stay (fun j hj => hb1.block j (by omega)))
                        have HD1 := Lib.hid (HDV.out.made hb1)
                        clear hb1 HRV HDV c2 p0 p1 p2 p3 p4 p5 p6 p7 p8 p9 p10 p11
                        have c2 : y1.cell? ⟨wc.heap.size, 2, none⟩ = some (.int .i64 0) := HR1.out.err_cell
                        have f2 : y1.frozen? ⟨wc.heap.size, 2, none⟩ = false := HR1.out.free
                        have hgV := HR1.out.lt
                        have HR2 := Lib.hid (HR1.out.err 8)
                        have HD2 := Lib.hid (HD1.out.spl HR1.out (grown_set y1 wc.heap.size 2 (.int .i64 8)) hgR hgS (by omega))
                        clear HR1 HD1
                        go_upto_region 50 with (fail)
                        clear c2 f2
                        obtain ⟨V2, hV2⟩ : ∃ V2, V2 = y1.setCell ⟨wc.heap.size, 2, none⟩ (.int .i64 8) := ⟨_, rfl⟩
                        rw [← hV2] at HR2 HD2 ⊢
                        clear hV2
                        have HRV := HR2
                        have HDV := HD2
                        clear HR2 HD2
                        have c2 : V2.cell? ⟨wc.heap.size, 2, none⟩ = some (.int .i64 8) := HRV.out.err_cell
                        go_upto_region 51 with (fail)
                        have C2 := Lib.hid (HRV.out.err_cell)
                        clear c2
                        refine wp_region_L (SameAt wc.heap.size V2) 6 7 (by kernel_rfl) (by kernel_rfl) rfl (fun hHeld => ?_)
                        refine wpAnyL_take (i := 0) (v := ?_) rfl (by kernel_rfl) (fun _ _ _ h => h) (Or.inl ⟨by rfl, ?_⟩) (by assumption) ?_
                        rotate_left
                        · intro wS hSw; go_simp <;> with_reducible rfl
                        walk_nrm
                        refine wpAnyL_take (i := 1) (v := ?_) rfl (by kernel_rfl) (fun _ _ _ h => h) (Or.inl ⟨by rfl, ?_⟩) (by assumption) ?_
                        rotate_left
                        · intro wS hSw; go_simp <;> with_reducible rfl
                        walk_nrm
                        refine wpAnyL_take (i := 2) (v := ?_) rfl (by kernel_rfl) (fun _ _ _ h => h) (Or.inl ⟨by rfl, ?_⟩) (by assumption) ?_
                        rotate_left
                        · intro wS hSw; go_simp <;> with_reducible rfl
                        walk_nrm
                        refine wpAnyL_take (i := 3) (v := ?_) rfl (by kernel_rfl) (fun _ _ _ h => h) (Or.inl ⟨by rfl, ?_⟩) (by assumption) ?_
                        rotate_left
                        · intro wS hSw; go_simp <;> with_reducible rfl
                        walk_nrm
                        refine wpAnyL_take (i := 4) (v := ?_) rfl (by kernel_rfl) (fun _ _ _ h => h) (Or.inl ⟨by rfl, ?_⟩) (by assumption) ?_
                        rotate_left
                        · intro wS hSw; have q := (World.cell?_of_block (w := V2) (a := ⟨wc.heap.size, 2, none⟩) hSw).trans C2.out; go_simp <;> with_reducible rfl
                        walk_nrm
                        refine wpAnyL_step (i := 5) rfl (by kernel_rfl) (fun K hK => ?_)
                        refine step_store_row V2.drew rfl 30 (.tmp 2) (.tmp 213) rfl w.heap.size storeZ rfl rfl 30 storeZ (show V2.heap[w.heap.size]? = _ from HDV.out.res) storeSize rfl zero_one ?_
                        have S5 : SameAt wc.heap.size V2 (V2.drew.setRow w.heap.size storeZ) := setRow_other _ _ _ _ (by omega)
                        refine hK.out _ _ S5 (fun hHeld5 => ?_)
                        clear hK K hHeld
                        walk_nrm
                        refine wpAnyL_last rfl (by kernel_rfl) (fun K hK => ?_)
                        go_simp
                        refine hK.out _ _ ?_
                        clear hK K
                        walk_nrm
                        refine wpAnyL_done (by kernel_rfl) ?_ _
                        iterate 3 go_step
                        exact bodyPost_ret (v := .tuple #[.agg storeZ, .int .i64 8]) (results_row_int rfl _ _ w.heap.size _ _ rfl rfl (run_loadVar_row _ _ _ _ _ _ _ (setRow_heap V2.drew _ _ _ _ _ (show V2.drew.heap[w.heap.size]? = _ from HDV.out.res)) Tryd.underlying30 rfl storeSize)) rfl (out_no HA2 HDV.out.below.drew (Nat.le_refl _))
                      ·
                        have HA2 : Hid (decode b = (ts, 0)) := by show _ = _; rw [HANS.out]; exact ans_ok rfl hok
                        have HOK := Lib.hid hok
                        clear hok
                        go_wp2_with fail
                        refine (smay_is ts true HOK va fa vc fc _ (own_items HDV.out.items HBND.out.1) (HDV.out.pages.rows HBND.out.2.1) (by omega) (by omega)).mono ?_
                        rintro e y1 ⟨rfl, hb1⟩
                        have hgV := HRV.out.lt
                        have HB1 := Lib.hid hb1
                        have HR1 := Lib.hid (HRV.out.stay (fun j hj => hb1.block j (by omega)))
                        have HD8 := Lib.hid (HDV.out.made hb1)
                        clear hb1 HRV c2 p0 p1 p2 p3 p4 p5 p6 p7 p8 p9 p10 p11
                        have c2 : y1.cell? ⟨wc.heap.size, 2, none⟩ = some (.int .i64 0) := HR1.out.err_cell
                        go_upto_region 52 with (fail)
                        clear c2
                        repeat (first | refine wpList_load_row rfl 30 _ rfl W1.heap.size rfl _ _ _ _ HD8.out.box Tryd.underlying30 rfl (by kernel_rfl) ?_ | refine wpList_store_row rfl 30 _ _ rfl w.heap.size (storeV ts va vc fa fc) rfl rfl _ _ HD8.out.res storeSize rfl (store_one _ _ _ _ _) ?_ | go_step)
                        refine bodyPost_ret (v := .tuple #[.agg (storeV ts va vc fa fc), .int .i64 0]) (results_row_int rfl _ _ w.heap.size _ _ rfl rfl (run_loadVar_row _ _ _ _ _ _ _ (setRow_heap y1 _ _ _ _ _ HD8.out.res) Tryd.underlying30 rfl storeSize)) rfl ?_
                        rw [HA2.out]
                        exact HDV.out.out HB1.out HBND.out.1 HBND.out.2.1 hRS (Nat.le_refl _)
end Go.Proofs.YtbipegbgfdpaeaaDoor.D
