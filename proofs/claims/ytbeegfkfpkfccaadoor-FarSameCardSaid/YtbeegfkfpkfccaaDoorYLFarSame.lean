/-
  PROVED: 'Rows.FarSameCardSaid': a value that went to flash is the same. No condition; the tables that the call reads are tied to the program's text.
-/
import Derived.Test.YtbeegfkfpkfccaaDoorYCKGet
import Derived.Test.YtbeegfkfpkfccaaDoorYCPick
import Derived.Test.YtbeegfkfpkfccaaDoorYCItoaS
import Derived.Test.YtbeegfkfpkfccaaDoorYCDoorS
import Derived.Test.YtbeegfkfpkfccaaDoorYCRegB
import Derived.Test.YtbeegfkfpkfccaaDoorYCFirst
namespace Go.Proofs.YtbeegfkfpkfccaaDoor.farSame
open Go.ChangeShapes Go.WideShapes Go.ChangeAt Go.RowKit Go.Proofs.YtbeegfkfpkfccaaDoor.D
/-- behind so many items of the loop -/
def FInv (v : ByteArray) (k : Nat) (S : Store) : Prop := (k = 0 ∧ S = F1 v) ∨ (k = 1 ∧ S = F2 v) ∨ (2 ≤ k ∧ SOk S ∧ Hd v (k - 2) (k - 2) S)
theorem far_next {v : ByteArray} {k : Nat} {S : Store} (h : FInv v k S) (hk : k < 5) (hv : 53 ≤ v.size ∧ v.size ≤ 55) : ∃ T, doOf S (reqPut 2 (kn k) v 0) = (T, ⟨2, 0, []⟩, 0) ∧ FInv v (k + 1) T := by
  rcases h with ⟨rfl, rfl⟩ | ⟨rfl, rfl⟩ | ⟨h2, hs, hh⟩
  · exact ⟨_, (to_F2 hv).1, .inr (.inl ⟨rfl, rfl⟩)⟩
  · exact ⟨_, (to_F3 hv).1, .inr (.inr ⟨by omega, (to_F3 hv).2, F3_hd v⟩)⟩
  · obtain ⟨T, e, h1, h3⟩ := far_set hh hs (by omega) (by omega) hv (kn_ok k (by omega)).1 rfl (kn_ok k (by omega)).2
    refine ⟨T, e, .inr (.inr ⟨by omega, h1, ?_⟩)⟩
    have : k + 1 - 2 = k - 2 + 1 := by omega
    rw [this]; exact h3
theorem far_last {v : ByteArray} {k : Nat} {S : Store} (h : FInv v k S) (hk : 2 ≤ k ∧ k ≤ 5) (hv : 53 ≤ v.size ∧ v.size ≤ 55) :
    ∃ T U, getOf S fK = (T, ⟨fK, 0, 1, v⟩, true) ∧ doOf T (reqPut 5 fK ⟨#[33]⟩ 0) = (U, ⟨2, 0, []⟩, 0) ∧ S.items.length ≤ 1000 ∧ ∃ u rest, S.items = fI u :: rest := by
  rcases h with ⟨rfl, _⟩ | ⟨rfl, _⟩ | ⟨h2, hs, hh⟩
  · omega
  · omega
  · obtain ⟨T, U, h1, h3⟩ := far_end hh hs (by omega) hv
    obtain ⟨u, rest, e, _⟩ := hh.items
    refine ⟨T, U, ?_, h3, hs.len, u, rest, e⟩
    unfold getOf
    rw [show doOf S (getReq fK) = _ from h1]
    rfl
set_option maxRecDepth 100000 in
set_option maxHeartbeats 8000000 in
theorem walk (n kk0 : Int) (hn : -9223372036854775808 ≤ n ∧ n ≤ 9223372036854775807) (hkk0 : -9223372036854775808 ≤ kk0 ∧ kk0 ≤ 9223372036854775807) (w : World) (he : Env w) :
    Calls Tryd.prog 3 #[.int .i64 n, .int .i64 kk0] w fun e w' => e = .returned (.bool true) ∧ Below w.heap.size w w' := by
  have HE := Lib.hid he
  clear he
  obtain ⟨m, hm⟩ : ∃ m, pick n 1000 = m := ⟨_, rfl⟩
  have hm1 := pick_lt n 1000 (by decide)
  rw [hm] at hm1
  have HM := Lib.hid hm
  obtain ⟨j, hj, hj4⟩ : ∃ j : Nat, pick kk0 4 = (j : Int) ∧ j < 4 := ⟨(pick kk0 4).toNat, by have := pick_lt kk0 4 (by decide); omega, by have := pick_lt kk0 4 (by decide); omega⟩
  have HJ := Lib.hid hj
  obtain ⟨v, hv⟩ : ∃ v, v = (⟨#[97, 32, 118, 97, 108, 117, 101, 32, 111, 102, 32, 109, 111, 114, 101, 32, 116, 104, 97, 110, 32, 97, 32, 102, 101, 119, 32, 98, 121, 116, 101, 115, 44, 32, 115, 111, 32, 116, 104, 97, 116, 32, 105, 116, 32, 109, 97, 121, 32, 103, 111, 32]⟩ : ByteArray) ++ decS m := ⟨_, rfl⟩
  have hvs : 53 ≤ v.size ∧ v.size ≤ 55 := by
    have h1 := dec_len (m := m) (by omega)
    have h2 : (⟨#[97, 32, 118, 97, 108, 117, 101, 32, 111, 102, 32, 109, 111, 114, 101, 32, 116, 104, 97, 110, 32, 97, 32, 102, 101, 119, 32, 98, 121, 116, 101, 115, 44, 32, 115, 111, 32, 116, 104, 97, 116, 32, 105, 116, 32, 109, 97, 121, 32, 103, 111, 32]⟩ : ByteArray).size = 52 := rfl
    rw [hv, ByteArray.size_append, h2]; omega
  have HV := Lib.hid hv
  have HF1 := Lib.hid (to_F1 hvs).1
  obtain ⟨SF, hSF⟩ : ∃ S, S = F1 v := ⟨_, rfl⟩
  rw [← hSF] at HF1
  have HI0 : Hid (FInv v 0 SF) := .inl ⟨rfl, hSF⟩
  have hd1 : (decS m).size ≤ 3 := (dec_len (m := m) (by omega)).2
  clear hm hj hv hSF
  go_enter Tryd.func3, Tryd.ntmps3
  go_wp2_with fail
  refine (store_New 1 3 w).mono ?_
  rintro e w1 ⟨rfl, hb1⟩
  rw [newS_good (by omega) (by omega) (by omega)]
  have HB1 := Lib.hid hb1
  have HE1 := Lib.hid (HE.out.on hb1)
  clear hb1
  go_upto_region 2 with (fail)
  obtain ⟨W2, hW2⟩ : ∃ W2, W2 = w1.alloc (.cells #[.int .i64 0, .int .i64 0, .int .i64 0, .int .i64 1, .int .i64 0, .int .i64 0, .int .i64 0, .int .i64 0, .slice none 0 0, .int .i64 3, .int .i64 1, .slice none 0 0] 28) := ⟨_, rfl⟩
  obtain ⟨B10, hB10⟩ : ∃ B, B = w1.heap.size := ⟨_, rfl⟩
  have r10 : W2.heap[B10]? = some (.cells #[.int .i64 0, .int .i64 0, .int .i64 0, .int .i64 1, .int .i64 0, .int .i64 0, .int .i64 0, .int .i64 0, .slice none 0 0, .int .i64 3, .int .i64 1, .slice none 0 0] 28 (0, 0)) := by rw [hW2, hB10]; exact blk_new w1 _
  have hb2 := below_new hW2
  have hz2 : B10 + 1 = W2.heap.size := by rw [hW2, hB10]; simp
  have hB10w : w.heap.size ≤ B10 := by have := HB1.out.size; omega
  have HE2 := Lib.hid (HE1.out.on hb2)
  have HB2 := Lib.hid (HB1.out.trans (hb2.mono HB1.out.size))
  have R2 := Lib.hid r10
  rw [← hW2, ← hB10]
  clear hW2 hB10 r10 hb2 HE1 HB1
  go_wp2_with fail
  refine (picked_at n 1000 m HM hn.1 hn.2 (by decide) (by decide) _).mono ?_
  rintro e wd ⟨rfl, rfl⟩
  go_wp2_with fail
  refine (itoa_is m (by omega) (by omega) W2 HE2.out.pow).mono ?_
  rintro e w3 ⟨rfl, hb3⟩
  have HSw3 : Hid (StOwn w3.heap.size w3 F0 none 0 none 0) := StOwn.bare rfl rfl
  have Rw3 := Lib.hid ((hb3.block B10 (by omega)).trans R2.out)
  have HBw3 := Lib.hid (HB2.out.trans (hb3.mono HB2.out.size))
  have HEw3 := Lib.hid (HE2.out.on hb3)
  have hzw3 : B10 < w3.heap.size := by have := hb3.size; omega
  have LV : ¬ 9223372036854775807 < 52 + (decS m).size := by omega
  clear hb3 R2 HB2 HE2 hz2
  go_upto_region 3 with (fail)
  rw [← HV.out]
  clear LV hd1
  go_wp2_with (refine wpList_load_row rfl 28 _ rfl B10 rfl _ _ _ _ Rw3.out Tryd.underlying28 rfl (by kernel_rfl) ?_)
  refine (do_at (s := F0) (r := reqPut 2 fK v 0) (va := none) (vc := 0) (fa := none) (fc := 0) (ka := none) (kc := 0) HEw3 (Lib.hid HSw3.out.at) (RowsAt.nil _ _ _ _) (Nat.zero_le _) (by show _ ≤ 1000; exact (by decide : fK.size ≤ 1000)) rfl rfl).mono ?_
  rw [HF1.out]
  rintro e w4 ⟨va1, vc1, fa1, fc1, ha0, hc0, rfl, hsw4, -, hbw4⟩
  have HSw4 := Lib.hid hsw4
  have Rw4 := Lib.hid ((hbw4.block B10 hzw3).trans Rw3.out)
  have HBw4 := Lib.hid (HBw3.out.trans (hbw4.mono HBw3.out.size))
  have HEw4 := Lib.hid (HEw3.out.on hbw4)
  have hzw4 : B10 < w4.heap.size := by have := hbw4.size; omega
  clear hsw4 hbw4 Rw3 HBw3 HEw3 HSw3 HF1
  go_upto_region 4 with (first
    | refine wpList_store_row rfl 28 _ _ rfl B10 _ rfl rfl _ _ ((Below.heap_alloc _ _ _ (by omega)).trans Rw4.out) storeSize rfl (store_one _ _ _ _ _) ?_
    | refine wpList_store_row rfl 38 _ _ rfl w4.heap.size _ rfl rfl _ _ ((setRow_other _ _ _ _ (by omega)).trans (blk_new _ _)) replySize rfl (reply_one _ _ _) ?_)
  obtain ⟨W5, hW5⟩ : ∃ W, W = ((w4.alloc (.cells #[.int .i64 0, .int .i64 0, .slice none 0 0] 38)).setRow B10 (storeV SF va1 vc1 fa1 fc1)).setRow w4.heap.size (replyCells ⟨2, 0, []⟩ ha0 hc0) := ⟨_, rfl⟩
  rw [← hW5]
  obtain ⟨hbW5, rW5, nW5, kW5⟩ := after_do Rw4.out hW5 hB10w
  obtain ⟨B8, hB8⟩ : ∃ B, B = w4.heap.size := ⟨_, rfl⟩
  rw [← hB8]
  rw [← hB8] at nW5
  have RW5 := Lib.hid rW5
  have B8W5 := Lib.hid nW5
  have HBW5 := Lib.hid (HBw4.out.trans hbW5)
  have HEW5 := Lib.hid (HEw4.out.below HE.out.globs hbW5)
  have HSW5 := Lib.hid (HSw4.out.kept (fun k h1 h2 => kW5 k h2 (by omega)))
  have nB8 : B8 ≠ B10 := by omega
  have hzW5 : B10 < W5.heap.size := (Array.getElem?_eq_some_iff.1 RW5.out).1
  clear hW5 hbW5 rW5 nW5 kW5 hB8 Rw4 HBw4 HEw4 HSw4 hzw4 
  go_wp2_with fail
  refine (picked_at kk0 4 (j : Int) HJ hkk0.1 hkk0.2 (by decide) (by decide) _).mono ?_
  rintro e wd2 ⟨rfl, rfl⟩
  have hw2j : wrap64 (2 + (j : Int)) = 2 + (j : Int) := IntWalk.wrap64_in _ ⟨by omega, by omega⟩
  obtain ⟨jj, hjj⟩ : ∃ jj : Nat, jj = 2 + j := ⟨_, rfl⟩
  have hjz : 2 + (j : Int) = (jj : Int) := by omega
  have hjj2 : 2 ≤ jj ∧ jj ≤ 5 := by omega
  have RB8' : Hid (W5.heap[B8]? = some (.cells (replyCells ⟨2, 0, []⟩ ha0 hc0) 38 (0, 0))) := B8W5
  have hbs5 : B10 < w3.heap.size := hzw3
  obtain ⟨bs5, hbs5'⟩ : ∃ b, b = w3.heap.size := ⟨_, rfl⟩
  rw [← hbs5'] at HSW5 hbs5
  clear hbs5' hjj B8W5
  go_wp2_with fail
  go_loopw [41] (fun i' wr => ∃ (i : Nat) (S : Store) (va fa : Option Addr) (vc fc bs : Nat), i ≤ jj ∧ i' = .int .i64 i ∧ B10 < bs ∧ B10 < wr.heap.size ∧ Hid (FInv v i S) ∧ Hid (Below w.heap.size w wr) ∧ Hid (Env wr) ∧ Hid (wr.heap[B10]? = some (.cells (storeV S va vc fa fc) 28 (0, 0))) ∧ Hid (wr.heap[B8]? = some (.cells (replyCells ⟨2, 0, []⟩ ha0 hc0) 38 (0, 0))) ∧ Hid (StOwn bs wr S va vc fa fc)) (fun i _ => jj - (intOf i).toNat)
  case atStart => exact ⟨0, SF, va1, fa1, vc1, fc1, bs5, by omega, rfl, hbs5, hzW5, HI0, HBW5, HEW5, RW5, RB8', HSW5⟩
  case round =>
    obtain ⟨i, Sk, va, fa, vc, fc, bs, hi, rfl, hbs, hzr, HIk, HBx, HEx, R10, RB8, HSO⟩ := hrel
    clear HBW5 HEW5 RW5 RB8' HSW5 HI0 hzW5 hbs5
    by_cases hlt : i < jj
    ·
      have h8 : (i : Int) < (jj : Int) := by omega
      obtain ⟨Sn, hd1, hin⟩ := far_next HIk.out (by omega) hvs
      obtain ⟨ky, hky⟩ : ∃ ky, ky = (⟨#[107, 101, 121, 45]⟩ : ByteArray) ++ decS (i : Int) := ⟨_, rfl⟩
      have hkk : ky = kn i := by rw [hky]; exact kn_dec (by omega)
      have HKY := Lib.hid hky
      have HKS : Hid (ky.size ≤ 1000) := by show _ ≤ _; rw [hkk]; exact (by decide : 5 ≤ 1000)
      rw [← hkk] at hd1
      have HD1 := Lib.hid hd1
      have HIN := Lib.hid hin
      clear hd1 hin hky hkk HIk
      go_upto_region 7 with (fail)
      go_cut [11, 12, 13] (fun v11 v12 v13 wx => ∃ B11 B12 va' vc' fa' fc' ha' hc' bn, v11 = .pointer (some ⟨B11, 0, none⟩) ∧ v12 = .pointer (some ⟨B12, 0, none⟩) ∧ v13 = .int .i64 0 ∧ B10 < bn ∧ B11 ≠ B10 ∧ B10 < wx.heap.size ∧ Hid (Below w.heap.size w wx) ∧ Hid (Env wx) ∧ Hid (wx.heap[B10]? = some (.cells (storeV Sk va vc fa fc) 28 (0, 0))) ∧ Hid (wx.heap[B8]? = some (.cells (replyCells ⟨2, 0, []⟩ ha0 hc0) 38 (0, 0))) ∧ Hid (StOwn bn wx Sn va' vc' fa' fc') ∧ Hid (wx.heap[B11]? = some (.cells (storeV Sn va' vc' fa' fc') 28 (0, 0))) ∧ Hid (wx.heap[B12]? = some (.cells (replyCells ⟨2, 0, []⟩ ha' hc') 38 (0, 0))))
      case first =>
        obtain ⟨WS, hWS⟩ : ∃ W : World, W = wr := ⟨_, rfl⟩
        rw [← hWS] at HBx HEx R10 RB8 HSO hzr ⊢
        clear hWS
        obtain ⟨L, hL⟩ : ∃ L, L = WS.heap.size := ⟨_, rfl⟩
        have hBL : B10 < L := by omega
        have hbL : w.heap.size ≤ L := by have := HBx.out.size; omega
        refine wp_region_L (fun w' : World => w'.heap[B10]? = some (.cells (storeV (Sk) va vc fa fc) 28 (0, 0))) 15 16 (by kernel_rfl) (by kernel_rfl) R10.out (fun hHeld => ?_)
        have LN : ¬ 9223372036854775807 < 4 + (decS (i : Int)).size := by rw [← oneC_dec (by omega)]; show ¬ 9223372036854775807 < 4 + 1; omega
        refine wpAnyL_take (i := 1) (v := ?_) rfl (by kernel_rfl) (fun _ _ _ h => h) (Or.inl ⟨by rfl, ?_⟩) (by assumption) ?_
        rotate_left
        · intro wS hSw; go_simp <;> with_reducible rfl
        walk_nrm
        refine wpAnyL_call (i := 2) (v := (.string (decS (i : Int)))) rfl (by kernel_rfl) (fun _ _ _ h => h) ⟨by rfl, 7, #[.int .i64 (i : Int)], fun wS hSw => ⟨?_, (itoa_small (i : Int) (by omega) wS).mono (fun _ _ h => ⟨h.1, h.2.symm⟩)⟩⟩ (by assumption) ?_
        · go_simp
        walk_nrm
        refine wpAnyL_take (i := 3) (v := ?_) rfl (by kernel_rfl) (fun _ _ _ h => h) (Or.inl ⟨by rfl, ?_⟩) (by assumption) ?_
        rotate_left
        · intro wS hSw; go_simp <;> with_reducible rfl
        walk_nrm
        rw [← HKY.out]
        refine wpAnyL_take (i := 4) (v := ?_) rfl (by kernel_rfl) (fun _ _ _ h => h) (Or.inl ⟨by rfl, ?_⟩) (by assumption) ?_
        rotate_left
        · intro wS hSw; go_simp <;> with_reducible rfl
        walk_nrm
        refine wpAnyL_take (i := 5) (v := ?_) rfl (by kernel_rfl) (fun _ _ _ h => h) (Or.inl ⟨by rfl, ?_⟩) (by assumption) ?_
        rotate_left
        · intro wS hSw; go_simp <;> with_reducible rfl
        walk_nrm
        refine wpAnyL_take (i := 0) (v := _) rfl (by kernel_rfl) (fun _ _ _ h => h) (Or.inl ⟨by rfl, fun wS hSw => exec_load_row 28 _ rfl (B10) rfl _ _ _ _ (hSw) Tryd.underlying28 rfl (by kernel_rfl)⟩) (by assumption) ?_
        walk_nrm
        obtain ⟨wx, hwx⟩ : ∃ wx, wx = WS.drew := ⟨_, rfl⟩
        rw [← hwx]
        replace R10 : Hid (wx.heap[B10]? = some (.cells (storeV (Sk) va vc fa fc) 28 (0, 0))) := by rw [hwx]; exact R10
        replace HBx : Hid (Below w.heap.size w wx) := by rw [hwx]; exact HBx.out.drew
        replace HSO : Hid (StOwn bs wx (Sk) va vc fa fc) := by rw [hwx]; exact HSO.out.below (Below.refl _ _).drew
        replace HEx : Hid (Env wx) := by rw [hwx]; exact Lib.hid (HEx.out.on (Below.refl _ _).drew)
        have hzx : L ≤ wx.heap.size := by rw [hwx, hL]; exact Nat.le_refl _
        have lRB8 : B8 < L := by rw [hL]; exact (Array.getElem?_eq_some_iff.1 RB8.out).1
        replace RB8 : Hid (wx.heap[B8]? = some (.cells (replyCells ⟨2, 0, []⟩ ha0 hc0) 38 (0, 0))) := by rw [hwx]; exact RB8
        have HX11 : Hid (Bx L none (.cells #[.int .i64 0, .int .i64 0, .int .i64 0, .int .i64 0, .int .i64 0, .int .i64 0, .int .i64 0, .int .i64 0, .slice none 0 0, .int .i64 0, .int .i64 0, .slice none 0 0] 28 (0, 0)) wx) := Bx.none
        have HX12 : Hid (Bx L none (.cells #[.int .i64 0, .int .i64 0, .slice none 0 0] 38 (0, 0)) wx) := Bx.none
        clear hwx hL hzr
        refine wpAnyL_three 6 11 12 (by kernel_rfl) ?_ ?_ ?_
        · refine ComesUp.mk rfl (fun K hK => ?_)
          go_simp
          refine (do_at (s := Sk) (r := reqPut 2 ky v 0) (va := va) (vc := vc) (fa := fa) (fc := fc) (ka := none) (kc := 0) HEx (Lib.hid HSO.out.at) (RowsAt.nil _ _ _ _) (Nat.zero_le _) (by show _ ≤ 1000; exact HKS.out) rfl rfl).mono ?_
          rw [HD1.out]
          rintro e wn ⟨va', vc', fa', fc', ha', hc', rfl, hso, -, hbn⟩
          obtain ⟨bn, hbs'⟩ : ∃ b, b = wx.heap.size := ⟨_, rfl⟩
          rw [← hbs'] at hso
          have HSN := Lib.hid hso
          have hbn1 : B10 < bn := by omega
          clear hso hbs'
          replace HX11 := Lib.hid (HX11.out.below hbn)
          replace HX12 := Lib.hid (HX12.out.below hbn)
          replace R10 := Lib.hid ((hbn.block B10 (by omega)).trans R10.out)
          replace HEx := Lib.hid (HEx.out.on hbn)
          replace HBx := Lib.hid (HBx.out.trans (hbn.mono HBx.out.size))
          replace RB8 := Lib.hid ((hbn.block B8 (by omega)).trans RB8.out)
          have hzn : L ≤ wn.heap.size := by have := hbn.size; omega
          clear HSO
          refine hK.out _ _ R10.out ?_
          clear hK K hHeld hbn hzx 
          intro hHeld
          walk_nrm
          refine wpAnyL_take (i := 7) (v := ?_) rfl (by kernel_rfl) (fun _ _ _ h => h) (Or.inl ⟨by rfl, ?_⟩) (by assumption) ?_
          rotate_left
          · intro wS hSw; go_simp <;> with_reducible rfl
          walk_nrm
          refine wpAnyL_take (i := 8) (v := ?_) rfl (by kernel_rfl) (fun _ _ _ h => h) (Or.inl ⟨by rfl, ?_⟩) (by assumption) ?_
          rotate_left
          · intro wS hSw; go_simp <;> with_reducible rfl
          walk_nrm
          refine wpAnyL_take (i := 9) (v := ?_) rfl (by kernel_rfl) (fun _ _ _ h => h) (Or.inl ⟨by rfl, ?_⟩) (by assumption) ?_
          rotate_left
          · intro wS hSw; go_simp <;> with_reducible rfl
          walk_nrm
          refine wpAnyL_take (i := 10) (v := ?_) rfl (by kernel_rfl) (fun _ _ _ h => h) (Or.inl ⟨by rfl, ?_⟩) (by assumption) ?_
          rotate_left
          · intro wS hSw; go_simp <;> with_reducible rfl
          walk_nrm
          clear wx
          obtain ⟨wx, rfl⟩ : ∃ wx : World, wx = wn := ⟨_, rfl⟩
          have hzx := hzn
          clear hzn
          refine wpAnyL_two 11 12 (by kernel_rfl) ?_ ?_
          · refine ComesUp.mk rfl (fun K hK => ?_)
            go_simp
            obtain ⟨wn, hwn⟩ : ∃ wn, wn = wx.alloc (.cells #[.int .i64 0, .int .i64 0, .int .i64 0, .int .i64 0, .int .i64 0, .int .i64 0, .int .i64 0, .int .i64 0, .slice none 0 0, .int .i64 0, .int .i64 0, .slice none 0 0] 28) := ⟨_, rfl⟩
            obtain ⟨b11, hb11⟩ : ∃ b, b = wx.heap.size := ⟨_, rfl⟩
            rw [← hwn, ← hb11]
            have hbn := below_new hwn
            replace HX11 : Hid (Bx L (some b11) (.cells #[.int .i64 0, .int .i64 0, .int .i64 0, .int .i64 0, .int .i64 0, .int .i64 0, .int .i64 0, .int .i64 0, .slice none 0 0, .int .i64 0, .int .i64 0, .slice none 0 0] 28 (0, 0)) wn) := by rw [hb11]; exact Bx.new hwn hzx
            replace HX12 := Lib.hid (HX12.out.below hbn)
            replace R10 := Lib.hid ((hbn.block B10 (by omega)).trans R10.out)
            replace HEx := Lib.hid (HEx.out.on hbn)
            replace HBx := Lib.hid (HBx.out.trans (hbn.mono HBx.out.size))
            replace RB8 := Lib.hid ((hbn.block B8 (by omega)).trans RB8.out)
            try replace HSO := Lib.hid (HSO.out.below hbn)
            try replace HSN := Lib.hid (HSN.out.below hbn)
            have hzn : L ≤ wn.heap.size := by have := hbn.size; omega
            refine hK.out _ _ R10.out ?_
            clear hK K hHeld hbn hzx hwn hb11
            intro hHeld
            walk_nrm
            clear wx
            obtain ⟨wx, rfl⟩ : ∃ wx : World, wx = wn := ⟨_, rfl⟩
            have hzx := hzn
            clear hzn
            refine wpAnyL_one 12 (by kernel_rfl) ?_
            · refine ComesUp.mk rfl (fun K hK => ?_)
              go_simp
              obtain ⟨wn, hwn⟩ : ∃ wn, wn = wx.alloc (.cells #[.int .i64 0, .int .i64 0, .slice none 0 0] 38) := ⟨_, rfl⟩
              obtain ⟨b12, hb12⟩ : ∃ b, b = wx.heap.size := ⟨_, rfl⟩
              rw [← hwn, ← hb12]
              have hbn := below_new hwn
              replace HX11 := Lib.hid (HX11.out.below hbn)
              replace HX12 : Hid (Bx L (some b12) (.cells #[.int .i64 0, .int .i64 0, .slice none 0 0] 38 (0, 0)) wn) := by rw [hb12]; exact Bx.new hwn hzx
              replace R10 := Lib.hid ((hbn.block B10 (by omega)).trans R10.out)
              replace HEx := Lib.hid (HEx.out.on hbn)
              replace HBx := Lib.hid (HBx.out.trans (hbn.mono HBx.out.size))
              replace RB8 := Lib.hid ((hbn.block B8 (by omega)).trans RB8.out)
              try replace HSO := Lib.hid (HSO.out.below hbn)
              try replace HSN := Lib.hid (HSN.out.below hbn)
              have hzn : L ≤ wn.heap.size := by have := hbn.size; omega
              refine hK.out _ _ R10.out ?_
              clear hK K hHeld hbn hzx hwn hb12
              intro hHeld
              walk_nrm
              clear wx
              obtain ⟨wx, rfl⟩ : ∃ wx : World, wx = wn := ⟨_, rfl⟩
              have hzx := hzn
              clear hzn
              refine wpAnyL_one 13 (by kernel_rfl) ?_
              · refine ComesUp.mk rfl (fun K hK => ?_)
                rw [if_pos (by rfl)]
                have h11 := HX11.out b11 rfl
                refine wp_store_row 28 _ _ rfl b11 _ rfl rfl _ _ h11.2 storeSize rfl (store_one _ _ _ _ _) ?_
                have n11 : b11 ≠ B10 := by omega
                obtain ⟨wn, hwn⟩ : ∃ wn, wn = wx.setRow b11 (storeV Sn va' vc' fa' fc') := ⟨_, rfl⟩
                rw [← hwn]
                replace HX11 : Hid (Bx L (some b11) (.cells (storeV Sn va' vc' fa' fc') 28 (0, 0)) wn) := fun b hb => by cases hb; exact ⟨h11.1, by rw [hwn]; exact setRow_heap _ _ _ _ _ _ h11.2⟩
                replace HX12 : Hid (Bx L (some b12) (.cells (#[.int .i64 0, .int .i64 0, .slice none 0 0]) 38 (0, 0)) wn) := fun b hb => by cases hb; exact ⟨(HX12.out b12 rfl).1, by rw [hwn]; exact (setRow_other _ _ _ _ (blk_ne (HX12.out b12 rfl).2 h11.2 (by decide))).trans (HX12.out b12 rfl).2⟩
                replace RB8 : Hid (wn.heap[B8]? = some (.cells (replyCells ⟨2, 0, []⟩ ha0 hc0) 38 (0, 0))) := by show wn.heap[B8]? = _; rw [hwn]; exact (setRow_other _ _ _ _ (by omega)).trans RB8.out
                replace R10 : Hid (wn.heap[B10]? = some (.cells (storeV (Sk) va vc fa fc) 28 (0, 0))) := by show wn.heap[B10]? = _; rw [hwn]; exact (setRow_other _ _ _ _ (Ne.symm n11)).trans R10.out
                have hbn : Below w.heap.size wx wn := by rw [hwn]; exact Below.setRow _ b11 _ (by omega)
                replace HSN : Hid (StOwn bn wn (Sn) va' vc' fa' fc') := by rw [hwn]; exact HSN.out.setT h11.2 (by decide) (by decide) (by decide)
                replace HEx := Lib.hid (HEx.out.below HE.out.globs hbn)
                replace HBx := Lib.hid (HBx.out.trans hbn)
                have hzn : L ≤ wn.heap.size := by have := hbn.size; omega
                refine hK.out _ _ R10.out ?_
                clear hK K hHeld hbn hzx hwn h11 n11
                intro hHeld
                walk_nrm
                clear wx
                obtain ⟨wx, rfl⟩ : ∃ wx : World, wx = wn := ⟨_, rfl⟩
                have hzx := hzn
                clear hzn
                refine wpAnyL_one 14 (by kernel_rfl) ?_
                refine ComesUp.mk rfl (fun K hK => ?_)
                rw [if_pos (by rfl)]
                have h12 := HX12.out b12 rfl
                refine wp_store_row 38 _ _ rfl b12 _ rfl rfl _ _ h12.2 replySize rfl (reply_one _ _ _) ?_
                have n12 : b12 ≠ B10 := by omega
                obtain ⟨wn, hwn⟩ : ∃ wn, wn = wx.setRow b12 (replyCells ⟨2, 0, []⟩ ha' hc') := ⟨_, rfl⟩
                rw [← hwn]
                replace HX11 : Hid (Bx L (some b11) (.cells (storeV Sn va' vc' fa' fc') 28 (0, 0)) wn) := fun b hb => by cases hb; exact ⟨(HX11.out b11 rfl).1, by rw [hwn]; exact (setRow_other _ _ _ _ (blk_ne (HX11.out b11 rfl).2 h12.2 (by decide))).trans (HX11.out b11 rfl).2⟩
                replace HX12 : Hid (Bx L (some b12) (.cells (replyCells ⟨2, 0, []⟩ ha' hc') 38 (0, 0)) wn) := fun b hb => by cases hb; exact ⟨h12.1, by rw [hwn]; exact setRow_heap _ _ _ _ _ _ h12.2⟩
                replace RB8 : Hid (wn.heap[B8]? = some (.cells (replyCells ⟨2, 0, []⟩ ha0 hc0) 38 (0, 0))) := by show wn.heap[B8]? = _; rw [hwn]; exact (setRow_other _ _ _ _ (by omega)).trans RB8.out
                replace R10 : Hid (wn.heap[B10]? = some (.cells (storeV (Sk) va vc fa fc) 28 (0, 0))) := by show wn.heap[B10]? = _; rw [hwn]; exact (setRow_other _ _ _ _ (Ne.symm n12)).trans R10.out
                have hbn : Below w.heap.size wx wn := by rw [hwn]; exact Below.setRow _ b12 _ (by omega)
                replace HSN : Hid (StOwn bn wn (Sn) va' vc' fa' fc') := by rw [hwn]; exact HSN.out.setT h12.2 (by decide) (by decide) (by decide)
                replace HEx := Lib.hid (HEx.out.below HE.out.globs hbn)
                replace HBx := Lib.hid (HBx.out.trans hbn)
                have hzn : L ≤ wn.heap.size := by have := hbn.size; omega
                refine hK.out _ _ R10.out ?_
                clear hK K hHeld hbn hzx hwn h12 n12
                intro hHeld
                walk_nrm
                clear wx
                obtain ⟨wx, rfl⟩ : ∃ wx : World, wx = wn := ⟨_, rfl⟩
                have hzx := hzn
                clear hzn
                refine wpAnyL_last rfl (by kernel_rfl) (fun K hK => ?_)
                go_simp
                refine hK.out _ _ ?_
                clear hK K
                walk_nrm
                refine wpAnyL_done (by kernel_rfl) ?_ _
                go_wp2_with fail
                go_meet
                exact ⟨b11, b12, va', vc', fa', fc', ha', hc', bn, rfl, rfl, rfl, hbn1, (by have := (HX11.out b11 rfl).1; omega), (by omega), HBx, HEx, R10, RB8, HSN, (HX11.out b11 rfl).2, (HX12.out b12 rfl).2⟩
          · refine ComesUp.mk rfl (fun K hK => ?_)
            go_simp
            obtain ⟨wn, hwn⟩ : ∃ wn, wn = wx.alloc (.cells #[.int .i64 0, .int .i64 0, .slice none 0 0] 38) := ⟨_, rfl⟩
            obtain ⟨b12, hb12⟩ : ∃ b, b = wx.heap.size := ⟨_, rfl⟩
            rw [← hwn, ← hb12]
            have hbn := below_new hwn
            replace HX11 := Lib.hid (HX11.out.below hbn)
            replace HX12 : Hid (Bx L (some b12) (.cells #[.int .i64 0, .int .i64 0, .slice none 0 0] 38 (0, 0)) wn) := by rw [hb12]; exact Bx.new hwn hzx
            replace R10 := Lib.hid ((hbn.block B10 (by omega)).trans R10.out)
            replace HEx := Lib.hid (HEx.out.on hbn)
            replace HBx := Lib.hid (HBx.out.trans (hbn.mono HBx.out.size))
            replace RB8 := Lib.hid ((hbn.block B8 (by omega)).trans RB8.out)
            try replace HSO := Lib.hid (HSO.out.below hbn)
            try replace HSN := Lib.hid (HSN.out.below hbn)
            have hzn : L ≤ wn.heap.size := by have := hbn.size; omega
            refine hK.out _ _ R10.out ?_
            clear hK K hHeld hbn hzx hwn hb12
            intro hHeld
            walk_nrm
            clear wx
            obtain ⟨wx, rfl⟩ : ∃ wx : World, wx = wn := ⟨_, rfl⟩
            have hzx := hzn
            clear hzn
            refine wpAnyL_one 11 (by kernel_rfl) ?_
            · refine ComesUp.mk rfl (fun K hK => ?_)
              go_simp
              obtain ⟨wn, hwn⟩ : ∃ wn, wn = wx.alloc (.cells #[.int .i64 0, .int .i64 0, .int .i64 0, .int .i64 0, .int .i64 0, .int .i64 0, .int .i64 0, .int .i64 0, .slice none 0 0, .int .i64 0, .int .i64 0, .slice none 0 0] 28) := ⟨_, rfl⟩
              obtain ⟨b11, hb11⟩ : ∃ b, b = wx.heap.size := ⟨_, rfl⟩
              rw [← hwn, ← hb11]
              have hbn := below_new hwn
              replace HX11 : Hid (Bx L (some b11) (.cells #[.int .i64 0, .int .i64 0, .int .i64 0, .int .i64 0, .int .i64 0, .int .i64 0, .int .i64 0, .int .i64 0, .slice none 0 0, .int .i64 0, .int .i64 0, .slice none 0 0] 28 (0, 0)) wn) := by rw [hb11]; exact Bx.new hwn hzx
              replace HX12 := Lib.hid (HX12.out.below hbn)
              replace R10 := Lib.hid ((hbn.block B10 (by omega)).trans R10.out)
              replace HEx := Lib.hid (HEx.out.on hbn)
              replace HBx := Lib.hid (HBx.out.trans (hbn.mono HBx.out.size))
              replace RB8 := Lib.hid ((hbn.block B8 (by omega)).trans RB8.out)
              try replace HSO := Lib.hid (HSO.out.below hbn)
              try replace HSN := Lib.hid (HSN.out.below hbn)
              have hzn : L ≤ wn.heap.size := by have := hbn.size; omega
              refine hK.out _ _ R10.out ?_
              clear hK K hHeld hbn hzx hwn hb11
              intro hHeld
              walk_nrm
              clear wx
              obtain ⟨wx, rfl⟩ : ∃ wx : World, wx = wn := ⟨_, rfl⟩
              have hzx := hzn
              clear hzn
              refine wpAnyL_one 13 (by kernel_rfl) ?_
              · refine ComesUp.mk rfl (fun K hK => ?_)
                rw [if_pos (by rfl)]
                have h11 := HX11.out b11 rfl
                refine wp_store_row 28 _ _ rfl b11 _ rfl rfl _ _ h11.2 storeSize rfl (store_one _ _ _ _ _) ?_
                have n11 : b11 ≠ B10 := by omega
                obtain ⟨wn, hwn⟩ : ∃ wn, wn = wx.setRow b11 (storeV Sn va' vc' fa' fc') := ⟨_, rfl⟩
                rw [← hwn]
                replace HX11 : Hid (Bx L (some b11) (.cells (storeV Sn va' vc' fa' fc') 28 (0, 0)) wn) := fun b hb => by cases hb; exact ⟨h11.1, by rw [hwn]; exact setRow_heap _ _ _ _ _ _ h11.2⟩
                replace HX12 : Hid (Bx L (some b12) (.cells (#[.int .i64 0, .int .i64 0, .slice none 0 0]) 38 (0, 0)) wn) := fun b hb => by cases hb; exact ⟨(HX12.out b12 rfl).1, by rw [hwn]; exact (setRow_other _ _ _ _ (blk_ne (HX12.out b12 rfl).2 h11.2 (by decide))).trans (HX12.out b12 rfl).2⟩
                replace RB8 : Hid (wn.heap[B8]? = some (.cells (replyCells ⟨2, 0, []⟩ ha0 hc0) 38 (0, 0))) := by show wn.heap[B8]? = _; rw [hwn]; exact (setRow_other _ _ _ _ (by omega)).trans RB8.out
                replace R10 : Hid (wn.heap[B10]? = some (.cells (storeV (Sk) va vc fa fc) 28 (0, 0))) := by show wn.heap[B10]? = _; rw [hwn]; exact (setRow_other _ _ _ _ (Ne.symm n11)).trans R10.out
                have hbn : Below w.heap.size wx wn := by rw [hwn]; exact Below.setRow _ b11 _ (by omega)
                replace HSN : Hid (StOwn bn wn (Sn) va' vc' fa' fc') := by rw [hwn]; exact HSN.out.setT h11.2 (by decide) (by decide) (by decide)
                replace HEx := Lib.hid (HEx.out.below HE.out.globs hbn)
                replace HBx := Lib.hid (HBx.out.trans hbn)
                have hzn : L ≤ wn.heap.size := by have := hbn.size; omega
                refine hK.out _ _ R10.out ?_
                clear hK K hHeld hbn hzx hwn h11 n11
                intro hHeld
                walk_nrm
                clear wx
                obtain ⟨wx, rfl⟩ : ∃ wx : World, wx = wn := ⟨_, rfl⟩
                have hzx := hzn
                clear hzn
                refine wpAnyL_one 14 (by kernel_rfl) ?_
                refine ComesUp.mk rfl (fun K hK => ?_)
                rw [if_pos (by rfl)]
                have h12 := HX12.out b12 rfl
                refine wp_store_row 38 _ _ rfl b12 _ rfl rfl _ _ h12.2 replySize rfl (reply_one _ _ _) ?_
                have n12 : b12 ≠ B10 := by omega
                obtain ⟨wn, hwn⟩ : ∃ wn, wn = wx.setRow b12 (replyCells ⟨2, 0, []⟩ ha' hc') := ⟨_, rfl⟩
                rw [← hwn]
                replace HX11 : Hid (Bx L (some b11) (.cells (storeV Sn va' vc' fa' fc') 28 (0, 0)) wn) := fun b hb => by cases hb; exact ⟨(HX11.out b11 rfl).1, by rw [hwn]; exact (setRow_other _ _ _ _ (blk_ne (HX11.out b11 rfl).2 h12.2 (by decide))).trans (HX11.out b11 rfl).2⟩
                replace HX12 : Hid (Bx L (some b12) (.cells (replyCells ⟨2, 0, []⟩ ha' hc') 38 (0, 0)) wn) := fun b hb => by cases hb; exact ⟨h12.1, by rw [hwn]; exact setRow_heap _ _ _ _ _ _ h12.2⟩
                replace RB8 : Hid (wn.heap[B8]? = some (.cells (replyCells ⟨2, 0, []⟩ ha0 hc0) 38 (0, 0))) := by show wn.heap[B8]? = _; rw [hwn]; exact (setRow_other _ _ _ _ (by omega)).trans RB8.out
                replace R10 : Hid (wn.heap[B10]? = some (.cells (storeV (Sk) va vc fa fc) 28 (0, 0))) := by show wn.heap[B10]? = _; rw [hwn]; exact (setRow_other _ _ _ _ (Ne.symm n12)).trans R10.out
                have hbn : Below w.heap.size wx wn := by rw [hwn]; exact Below.setRow _ b12 _ (by omega)
                replace HSN : Hid (StOwn bn wn (Sn) va' vc' fa' fc') := by rw [hwn]; exact HSN.out.setT h12.2 (by decide) (by decide) (by decide)
                replace HEx := Lib.hid (HEx.out.below HE.out.globs hbn)
                replace HBx := Lib.hid (HBx.out.trans hbn)
                have hzn : L ≤ wn.heap.size := by have := hbn.size; omega
                refine hK.out _ _ R10.out ?_
                clear hK K hHeld hbn hzx hwn h12 n12
                intro hHeld
                walk_nrm
                clear wx
                obtain ⟨wx, rfl⟩ : ∃ wx : World, wx = wn := ⟨_, rfl⟩
                have hzx := hzn
                clear hzn
                refine wpAnyL_last rfl (by kernel_rfl) (fun K hK => ?_)
                go_simp
                refine hK.out _ _ ?_
                clear hK K
                walk_nrm
                refine wpAnyL_done (by kernel_rfl) ?_ _
                go_wp2_with fail
                go_meet
                exact ⟨b11, b12, va', vc', fa', fc', ha', hc', bn, rfl, rfl, rfl, hbn1, (by have := (HX11.out b11 rfl).1; omega), (by omega), HBx, HEx, R10, RB8, HSN, (HX11.out b11 rfl).2, (HX12.out b12 rfl).2⟩
        · refine ComesUp.mk rfl (fun K hK => ?_)
          go_simp
          obtain ⟨wn, hwn⟩ : ∃ wn, wn = wx.alloc (.cells #[.int .i64 0, .int .i64 0, .int .i64 0, .int .i64 0, .int .i64 0, .int .i64 0, .int .i64 0, .int .i64 0, .slice none 0 0, .int .i64 0, .int .i64 0, .slice none 0 0] 28) := ⟨_, rfl⟩
          obtain ⟨b11, hb11⟩ : ∃ b, b = wx.heap.size := ⟨_, rfl⟩
          rw [← hwn, ← hb11]
          have hbn := below_new hwn
          replace HX11 : Hid (Bx L (some b11) (.cells #[.int .i64 0, .int .i64 0, .int .i64 0, .int .i64 0, .int .i64 0, .int .i64 0, .int .i64 0, .int .i64 0, .slice none 0 0, .int .i64 0, .int .i64 0, .slice none 0 0] 28 (0, 0)) wn) := by rw [hb11]; exact Bx.new hwn hzx
          replace HX12 := Lib.hid (HX12.out.below hbn)
          replace R10 := Lib.hid ((hbn.block B10 (by omega)).trans R10.out)
          replace HEx := Lib.hid (HEx.out.on hbn)
          replace HBx := Lib.hid (HBx.out.trans (hbn.mono HBx.out.size))
          replace RB8 := Lib.hid ((hbn.block B8 (by omega)).trans RB8.out)
          try replace HSO := Lib.hid (HSO.out.below hbn)
          try replace HSN := Lib.hid (HSN.out.below hbn)
          have hzn : L ≤ wn.heap.size := by have := hbn.size; omega
          refine hK.out _ _ R10.out ?_
          clear hK K hHeld hbn hzx hwn hb11
          intro hHeld
          walk_nrm
          clear wx
          obtain ⟨wx, rfl⟩ : ∃ wx : World, wx = wn := ⟨_, rfl⟩
          have hzx := hzn
          clear hzn
          refine wpAnyL_two 6 12 (by kernel_rfl) ?_ ?_
          · refine ComesUp.mk rfl (fun K hK => ?_)
            go_simp
            refine (do_at (s := Sk) (r := reqPut 2 ky v 0) (va := va) (vc := vc) (fa := fa) (fc := fc) (ka := none) (kc := 0) HEx (Lib.hid HSO.out.at) (RowsAt.nil _ _ _ _) (Nat.zero_le _) (by show _ ≤ 1000; exact HKS.out) rfl rfl).mono ?_
            rw [HD1.out]
            rintro e wn ⟨va', vc', fa', fc', ha', hc', rfl, hso, -, hbn⟩
            obtain ⟨bn, hbs'⟩ : ∃ b, b = wx.heap.size := ⟨_, rfl⟩
            rw [← hbs'] at hso
            have HSN := Lib.hid hso
            have hbn1 : B10 < bn := by omega
            clear hso hbs'
            replace HX11 := Lib.hid (HX11.out.below hbn)
            replace HX12 := Lib.hid (HX12.out.below hbn)
            replace R10 := Lib.hid ((hbn.block B10 (by omega)).trans R10.out)
            replace HEx := Lib.hid (HEx.out.on hbn)
            replace HBx := Lib.hid (HBx.out.trans (hbn.mono HBx.out.size))
            replace RB8 := Lib.hid ((hbn.block B8 (by omega)).trans RB8.out)
            have hzn : L ≤ wn.heap.size := by have := hbn.size; omega
            clear HSO
            refine hK.out _ _ R10.out ?_
            clear hK K hHeld hbn hzx 
            intro hHeld
            walk_nrm
            refine wpAnyL_take (i := 7) (v := ?_) rfl (by kernel_rfl) (fun _ _ _ h => h) (Or.inl ⟨by rfl, ?_⟩) (by assumption) ?_
            rotate_left
            · intro wS hSw; go_simp <;> with_reducible rfl
            walk_nrm
            refine wpAnyL_take (i := 8) (v := ?_) rfl (by kernel_rfl) (fun _ _ _ h => h) (Or.inl ⟨by rfl, ?_⟩) (by assumption) ?_
            rotate_left
            · intro wS hSw; go_simp <;> with_reducible rfl
            walk_nrm
            refine wpAnyL_take (i := 9) (v := ?_) rfl (by kernel_rfl) (fun _ _ _ h => h) (Or.inl ⟨by rfl, ?_⟩) (by assumption) ?_
            rotate_left
            · intro wS hSw; go_simp <;> with_reducible rfl
            walk_nrm
            refine wpAnyL_take (i := 10) (v := ?_) rfl (by kernel_rfl) (fun _ _ _ h => h) (Or.inl ⟨by rfl, ?_⟩) (by assumption) ?_
            rotate_left
            · intro wS hSw; go_simp <;> with_reducible rfl
            walk_nrm
            clear wx
            obtain ⟨wx, rfl⟩ : ∃ wx : World, wx = wn := ⟨_, rfl⟩
            have hzx := hzn
            clear hzn
            refine wpAnyL_one 12 (by kernel_rfl) ?_
            · refine ComesUp.mk rfl (fun K hK => ?_)
              go_simp
              obtain ⟨wn, hwn⟩ : ∃ wn, wn = wx.alloc (.cells #[.int .i64 0, .int .i64 0, .slice none 0 0] 38) := ⟨_, rfl⟩
              obtain ⟨b12, hb12⟩ : ∃ b, b = wx.heap.size := ⟨_, rfl⟩
              rw [← hwn, ← hb12]
              have hbn := below_new hwn
              replace HX11 := Lib.hid (HX11.out.below hbn)
              replace HX12 : Hid (Bx L (some b12) (.cells #[.int .i64 0, .int .i64 0, .slice none 0 0] 38 (0, 0)) wn) := by rw [hb12]; exact Bx.new hwn hzx
              replace R10 := Lib.hid ((hbn.block B10 (by omega)).trans R10.out)
              replace HEx := Lib.hid (HEx.out.on hbn)
              replace HBx := Lib.hid (HBx.out.trans (hbn.mono HBx.out.size))
              replace RB8 := Lib.hid ((hbn.block B8 (by omega)).trans RB8.out)
              try replace HSO := Lib.hid (HSO.out.below hbn)
              try replace HSN := Lib.hid (HSN.out.below hbn)
              have hzn : L ≤ wn.heap.size := by have := hbn.size; omega
              refine hK.out _ _ R10.out ?_
              clear hK K hHeld hbn hzx hwn hb12
              intro hHeld
              walk_nrm
              clear wx
              obtain ⟨wx, rfl⟩ : ∃ wx : World, wx = wn := ⟨_, rfl⟩
              have hzx := hzn
              clear hzn
              refine wpAnyL_one 13 (by kernel_rfl) ?_
              · refine ComesUp.mk rfl (fun K hK => ?_)
                rw [if_pos (by rfl)]
                have h11 := HX11.out b11 rfl
                refine wp_store_row 28 _ _ rfl b11 _ rfl rfl _ _ h11.2 storeSize rfl (store_one _ _ _ _ _) ?_
                have n11 : b11 ≠ B10 := by omega
                obtain ⟨wn, hwn⟩ : ∃ wn, wn = wx.setRow b11 (storeV Sn va' vc' fa' fc') := ⟨_, rfl⟩
                rw [← hwn]
                replace HX11 : Hid (Bx L (some b11) (.cells (storeV Sn va' vc' fa' fc') 28 (0, 0)) wn) := fun b hb => by cases hb; exact ⟨h11.1, by rw [hwn]; exact setRow_heap _ _ _ _ _ _ h11.2⟩
                replace HX12 : Hid (Bx L (some b12) (.cells (#[.int .i64 0, .int .i64 0, .slice none 0 0]) 38 (0, 0)) wn) := fun b hb => by cases hb; exact ⟨(HX12.out b12 rfl).1, by rw [hwn]; exact (setRow_other _ _ _ _ (blk_ne (HX12.out b12 rfl).2 h11.2 (by decide))).trans (HX12.out b12 rfl).2⟩
                replace RB8 : Hid (wn.heap[B8]? = some (.cells (replyCells ⟨2, 0, []⟩ ha0 hc0) 38 (0, 0))) := by show wn.heap[B8]? = _; rw [hwn]; exact (setRow_other _ _ _ _ (by omega)).trans RB8.out
                replace R10 : Hid (wn.heap[B10]? = some (.cells (storeV (Sk) va vc fa fc) 28 (0, 0))) := by show wn.heap[B10]? = _; rw [hwn]; exact (setRow_other _ _ _ _ (Ne.symm n11)).trans R10.out
                have hbn : Below w.heap.size wx wn := by rw [hwn]; exact Below.setRow _ b11 _ (by omega)
                replace HSN : Hid (StOwn bn wn (Sn) va' vc' fa' fc') := by rw [hwn]; exact HSN.out.setT h11.2 (by decide) (by decide) (by decide)
                replace HEx := Lib.hid (HEx.out.below HE.out.globs hbn)
                replace HBx := Lib.hid (HBx.out.trans hbn)
                have hzn : L ≤ wn.heap.size := by have := hbn.size; omega
                refine hK.out _ _ R10.out ?_
                clear hK K hHeld hbn hzx hwn h11 n11
                intro hHeld
                walk_nrm
                clear wx
                obtain ⟨wx, rfl⟩ : ∃ wx : World, wx = wn := ⟨_, rfl⟩
                have hzx := hzn
                clear hzn
                refine wpAnyL_one 14 (by kernel_rfl) ?_
                refine ComesUp.mk rfl (fun K hK => ?_)
                rw [if_pos (by rfl)]
                have h12 := HX12.out b12 rfl
                refine wp_store_row 38 _ _ rfl b12 _ rfl rfl _ _ h12.2 replySize rfl (reply_one _ _ _) ?_
                have n12 : b12 ≠ B10 := by omega
                obtain ⟨wn, hwn⟩ : ∃ wn, wn = wx.setRow b12 (replyCells ⟨2, 0, []⟩ ha' hc') := ⟨_, rfl⟩
                rw [← hwn]
                replace HX11 : Hid (Bx L (some b11) (.cells (storeV Sn va' vc' fa' fc') 28 (0, 0)) wn) := fun b hb => by cases hb; exact ⟨(HX11.out b11 rfl).1, by rw [hwn]; exact (setRow_other _ _ _ _ (blk_ne (HX11.out b11 rfl).2 h12.2 (by decide))).trans (HX11.out b11 rfl).2⟩
                replace HX12 : Hid (Bx L (some b12) (.cells (replyCells ⟨2, 0, []⟩ ha' hc') 38 (0, 0)) wn) := fun b hb => by cases hb; exact ⟨h12.1, by rw [hwn]; exact setRow_heap _ _ _ _ _ _ h12.2⟩
                replace RB8 : Hid (wn.heap[B8]? = some (.cells (replyCells ⟨2, 0, []⟩ ha0 hc0) 38 (0, 0))) := by show wn.heap[B8]? = _; rw [hwn]; exact (setRow_other _ _ _ _ (by omega)).trans RB8.out
                replace R10 : Hid (wn.heap[B10]? = some (.cells (storeV (Sk) va vc fa fc) 28 (0, 0))) := by show wn.heap[B10]? = _; rw [hwn]; exact (setRow_other _ _ _ _ (Ne.symm n12)).trans R10.out
                have hbn : Below w.heap.size wx wn := by rw [hwn]; exact Below.setRow _ b12 _ (by omega)
                replace HSN : Hid (StOwn bn wn (Sn) va' vc' fa' fc') := by rw [hwn]; exact HSN.out.setT h12.2 (by decide) (by decide) (by decide)
                replace HEx := Lib.hid (HEx.out.below HE.out.globs hbn)
                replace HBx := Lib.hid (HBx.out.trans hbn)
                have hzn : L ≤ wn.heap.size := by have := hbn.size; omega
                refine hK.out _ _ R10.out ?_
                clear hK K hHeld hbn hzx hwn h12 n12
                intro hHeld
                walk_nrm
                clear wx
                obtain ⟨wx, rfl⟩ : ∃ wx : World, wx = wn := ⟨_, rfl⟩
                have hzx := hzn
                clear hzn
                refine wpAnyL_last rfl (by kernel_rfl) (fun K hK => ?_)
                go_simp
                refine hK.out _ _ ?_
                clear hK K
                walk_nrm
                refine wpAnyL_done (by kernel_rfl) ?_ _
                go_wp2_with fail
                go_meet
                exact ⟨b11, b12, va', vc', fa', fc', ha', hc', bn, rfl, rfl, rfl, hbn1, (by have := (HX11.out b11 rfl).1; omega), (by omega), HBx, HEx, R10, RB8, HSN, (HX11.out b11 rfl).2, (HX12.out b12 rfl).2⟩
          · refine ComesUp.mk rfl (fun K hK => ?_)
            go_simp
            obtain ⟨wn, hwn⟩ : ∃ wn, wn = wx.alloc (.cells #[.int .i64 0, .int .i64 0, .slice none 0 0] 38) := ⟨_, rfl⟩
            obtain ⟨b12, hb12⟩ : ∃ b, b = wx.heap.size := ⟨_, rfl⟩
            rw [← hwn, ← hb12]
            have hbn := below_new hwn
            replace HX11 := Lib.hid (HX11.out.below hbn)
            replace HX12 : Hid (Bx L (some b12) (.cells #[.int .i64 0, .int .i64 0, .slice none 0 0] 38 (0, 0)) wn) := by rw [hb12]; exact Bx.new hwn hzx
            replace R10 := Lib.hid ((hbn.block B10 (by omega)).trans R10.out)
            replace HEx := Lib.hid (HEx.out.on hbn)
            replace HBx := Lib.hid (HBx.out.trans (hbn.mono HBx.out.size))
            replace RB8 := Lib.hid ((hbn.block B8 (by omega)).trans RB8.out)
            try replace HSO := Lib.hid (HSO.out.below hbn)
            try replace HSN := Lib.hid (HSN.out.below hbn)
            have hzn : L ≤ wn.heap.size := by have := hbn.size; omega
            refine hK.out _ _ R10.out ?_
            clear hK K hHeld hbn hzx hwn hb12
            intro hHeld
            walk_nrm
            clear wx
            obtain ⟨wx, rfl⟩ : ∃ wx : World, wx = wn := ⟨_, rfl⟩
            have hzx := hzn
            clear hzn
            refine wpAnyL_one 6 (by kernel_rfl) ?_
            · refine ComesUp.mk rfl (fun K hK => ?_)
              go_simp
              refine (do_at (s := Sk) (r := reqPut 2 ky v 0) (va := va) (vc := vc) (fa := fa) (fc := fc) (ka := none) (kc := 0) HEx (Lib.hid HSO.out.at) (RowsAt.nil _ _ _ _) (Nat.zero_le _) (by show _ ≤ 1000; exact HKS.out) rfl rfl).mono ?_
              rw [HD1.out]
              rintro e wn ⟨va', vc', fa', fc', ha', hc', rfl, hso, -, hbn⟩
              obtain ⟨bn, hbs'⟩ : ∃ b, b = wx.heap.size := ⟨_, rfl⟩
              rw [← hbs'] at hso
              have HSN := Lib.hid hso
              have hbn1 : B10 < bn := by omega
              clear hso hbs'
              replace HX11 := Lib.hid (HX11.out.below hbn)
              replace HX12 := Lib.hid (HX12.out.below hbn)
              replace R10 := Lib.hid ((hbn.block B10 (by omega)).trans R10.out)
              replace HEx := Lib.hid (HEx.out.on hbn)
              replace HBx := Lib.hid (HBx.out.trans (hbn.mono HBx.out.size))
              replace RB8 := Lib.hid ((hbn.block B8 (by omega)).trans RB8.out)
              have hzn : L ≤ wn.heap.size := by have := hbn.size; omega
              clear HSO
              refine hK.out _ _ R10.out ?_
              clear hK K hHeld hbn hzx 
              intro hHeld
              walk_nrm
              refine wpAnyL_take (i := 7) (v := ?_) rfl (by kernel_rfl) (fun _ _ _ h => h) (Or.inl ⟨by rfl, ?_⟩) (by assumption) ?_
              rotate_left
              · intro wS hSw; go_simp <;> with_reducible rfl
              walk_nrm
              refine wpAnyL_take (i := 8) (v := ?_) rfl (by kernel_rfl) (fun _ _ _ h => h) (Or.inl ⟨by rfl, ?_⟩) (by assumption) ?_
              rotate_left
              · intro wS hSw; go_simp <;> with_reducible rfl
              walk_nrm
              refine wpAnyL_take (i := 9) (v := ?_) rfl (by kernel_rfl) (fun _ _ _ h => h) (Or.inl ⟨by rfl, ?_⟩) (by assumption) ?_
              rotate_left
              · intro wS hSw; go_simp <;> with_reducible rfl
              walk_nrm
              refine wpAnyL_take (i := 10) (v := ?_) rfl (by kernel_rfl) (fun _ _ _ h => h) (Or.inl ⟨by rfl, ?_⟩) (by assumption) ?_
              rotate_left
              · intro wS hSw; go_simp <;> with_reducible rfl
              walk_nrm
              clear wx
              obtain ⟨wx, rfl⟩ : ∃ wx : World, wx = wn := ⟨_, rfl⟩
              have hzx := hzn
              clear hzn
              refine wpAnyL_one 13 (by kernel_rfl) ?_
              · refine ComesUp.mk rfl (fun K hK => ?_)
                rw [if_pos (by rfl)]
                have h11 := HX11.out b11 rfl
                refine wp_store_row 28 _ _ rfl b11 _ rfl rfl _ _ h11.2 storeSize rfl (store_one _ _ _ _ _) ?_
                have n11 : b11 ≠ B10 := by omega
                obtain ⟨wn, hwn⟩ : ∃ wn, wn = wx.setRow b11 (storeV Sn va' vc' fa' fc') := ⟨_, rfl⟩
                rw [← hwn]
                replace HX11 : Hid (Bx L (some b11) (.cells (storeV Sn va' vc' fa' fc') 28 (0, 0)) wn) := fun b hb => by cases hb; exact ⟨h11.1, by rw [hwn]; exact setRow_heap _ _ _ _ _ _ h11.2⟩
                replace HX12 : Hid (Bx L (some b12) (.cells (#[.int .i64 0, .int .i64 0, .slice none 0 0]) 38 (0, 0)) wn) := fun b hb => by cases hb; exact ⟨(HX12.out b12 rfl).1, by rw [hwn]; exact (setRow_other _ _ _ _ (blk_ne (HX12.out b12 rfl).2 h11.2 (by decide))).trans (HX12.out b12 rfl).2⟩
                replace RB8 : Hid (wn.heap[B8]? = some (.cells (replyCells ⟨2, 0, []⟩ ha0 hc0) 38 (0, 0))) := by show wn.heap[B8]? = _; rw [hwn]; exact (setRow_other _ _ _ _ (by omega)).trans RB8.out
                replace R10 : Hid (wn.heap[B10]? = some (.cells (storeV (Sk) va vc fa fc) 28 (0, 0))) := by show wn.heap[B10]? = _; rw [hwn]; exact (setRow_other _ _ _ _ (Ne.symm n11)).trans R10.out
                have hbn : Below w.heap.size wx wn := by rw [hwn]; exact Below.setRow _ b11 _ (by omega)
                replace HSN : Hid (StOwn bn wn (Sn) va' vc' fa' fc') := by rw [hwn]; exact HSN.out.setT h11.2 (by decide) (by decide) (by decide)
                replace HEx := Lib.hid (HEx.out.below HE.out.globs hbn)
                replace HBx := Lib.hid (HBx.out.trans hbn)
                have hzn : L ≤ wn.heap.size := by have := hbn.size; omega
                refine hK.out _ _ R10.out ?_
                clear hK K hHeld hbn hzx hwn h11 n11
                intro hHeld
                walk_nrm
                clear wx
                obtain ⟨wx, rfl⟩ : ∃ wx : World, wx = wn := ⟨_, rfl⟩
                have hzx := hzn
                clear hzn
                refine wpAnyL_one 14 (by kernel_rfl) ?_
                refine ComesUp.mk rfl (fun K hK => ?_)
                rw [if_pos (by rfl)]
                have h12 := HX12.out b12 rfl
                refine wp_store_row 38 _ _ rfl b12 _ rfl rfl _ _ h12.2 replySize rfl (reply_one _ _ _) ?_
                have n12 : b12 ≠ B10 := by omega
                obtain ⟨wn, hwn⟩ : ∃ wn, wn = wx.setRow b12 (replyCells ⟨2, 0, []⟩ ha' hc') := ⟨_, rfl⟩
                rw [← hwn]
                replace HX11 : Hid (Bx L (some b11) (.cells (storeV Sn va' vc' fa' fc') 28 (0, 0)) wn) := fun b hb => by cases hb; exact ⟨(HX11.out b11 rfl).1, by rw [hwn]; exact (setRow_other _ _ _ _ (blk_ne (HX11.out b11 rfl).2 h12.2 (by decide))).trans (HX11.out b11 rfl).2⟩
                replace HX12 : Hid (Bx L (some b12) (.cells (replyCells ⟨2, 0, []⟩ ha' hc') 38 (0, 0)) wn) := fun b hb => by cases hb; exact ⟨h12.1, by rw [hwn]; exact setRow_heap _ _ _ _ _ _ h12.2⟩
                replace RB8 : Hid (wn.heap[B8]? = some (.cells (replyCells ⟨2, 0, []⟩ ha0 hc0) 38 (0, 0))) := by show wn.heap[B8]? = _; rw [hwn]; exact (setRow_other _ _ _ _ (by omega)).trans RB8.out
                replace R10 : Hid (wn.heap[B10]? = some (.cells (storeV (Sk) va vc fa fc) 28 (0, 0))) := by show wn.heap[B10]? = _; rw [hwn]; exact (setRow_other _ _ _ _ (Ne.symm n12)).trans R10.out
                have hbn : Below w.heap.size wx wn := by rw [hwn]; exact Below.setRow _ b12 _ (by omega)
                replace HSN : Hid (StOwn bn wn (Sn) va' vc' fa' fc') := by rw [hwn]; exact HSN.out.setT h12.2 (by decide) (by decide) (by decide)
                replace HEx := Lib.hid (HEx.out.below HE.out.globs hbn)
                replace HBx := Lib.hid (HBx.out.trans hbn)
                have hzn : L ≤ wn.heap.size := by have := hbn.size; omega
                refine hK.out _ _ R10.out ?_
                clear hK K hHeld hbn hzx hwn h12 n12
                intro hHeld
                walk_nrm
                clear wx
                obtain ⟨wx, rfl⟩ : ∃ wx : World, wx = wn := ⟨_, rfl⟩
                have hzx := hzn
                clear hzn
                refine wpAnyL_last rfl (by kernel_rfl) (fun K hK => ?_)
                go_simp
                refine hK.out _ _ ?_
                clear hK K
                walk_nrm
                refine wpAnyL_done (by kernel_rfl) ?_ _
                go_wp2_with fail
                go_meet
                exact ⟨b11, b12, va', vc', fa', fc', ha', hc', bn, rfl, rfl, rfl, hbn1, (by have := (HX11.out b11 rfl).1; omega), (by omega), HBx, HEx, R10, RB8, HSN, (HX11.out b11 rfl).2, (HX12.out b12 rfl).2⟩
        · refine ComesUp.mk rfl (fun K hK => ?_)
          go_simp
          obtain ⟨wn, hwn⟩ : ∃ wn, wn = wx.alloc (.cells #[.int .i64 0, .int .i64 0, .slice none 0 0] 38) := ⟨_, rfl⟩
          obtain ⟨b12, hb12⟩ : ∃ b, b = wx.heap.size := ⟨_, rfl⟩
          rw [← hwn, ← hb12]
          have hbn := below_new hwn
          replace HX11 := Lib.hid (HX11.out.below hbn)
          replace HX12 : Hid (Bx L (some b12) (.cells #[.int .i64 0, .int .i64 0, .slice none 0 0] 38 (0, 0)) wn) := by rw [hb12]; exact Bx.new hwn hzx
          replace R10 := Lib.hid ((hbn.block B10 (by omega)).trans R10.out)
          replace HEx := Lib.hid (HEx.out.on hbn)
          replace HBx := Lib.hid (HBx.out.trans (hbn.mono HBx.out.size))
          replace RB8 := Lib.hid ((hbn.block B8 (by omega)).trans RB8.out)
          try replace HSO := Lib.hid (HSO.out.below hbn)
          try replace HSN := Lib.hid (HSN.out.below hbn)
          have hzn : L ≤ wn.heap.size := by have := hbn.size; omega
          refine hK.out _ _ R10.out ?_
          clear hK K hHeld hbn hzx hwn hb12
          intro hHeld
          walk_nrm
          clear wx
          obtain ⟨wx, rfl⟩ : ∃ wx : World, wx = wn := ⟨_, rfl⟩
          have hzx := hzn
          clear hzn
          refine wpAnyL_two 6 11 (by kernel_rfl) ?_ ?_
          · refine ComesUp.mk rfl (fun K hK => ?_)
            go_simp
            refine (do_at (s := Sk) (r := reqPut 2 ky v 0) (va := va) (vc := vc) (fa := fa) (fc := fc) (ka := none) (kc := 0) HEx (Lib.hid HSO.out.at) (RowsAt.nil _ _ _ _) (Nat.zero_le _) (by show _ ≤ 1000; exact HKS.out) rfl rfl).mono ?_
            rw [HD1.out]
            rintro e wn ⟨va', vc', fa', fc', ha', hc', rfl, hso, -, hbn⟩
            obtain ⟨bn, hbs'⟩ : ∃ b, b = wx.heap.size := ⟨_, rfl⟩
            rw [← hbs'] at hso
            have HSN := Lib.hid hso
            have hbn1 : B10 < bn := by omega
            clear hso hbs'
            replace HX11 := Lib.hid (HX11.out.below hbn)
            replace HX12 := Lib.hid (HX12.out.below hbn)
            replace R10 := Lib.hid ((hbn.block B10 (by omega)).trans R10.out)
            replace HEx := Lib.hid (HEx.out.on hbn)
            replace HBx := Lib.hid (HBx.out.trans (hbn.mono HBx.out.size))
            replace RB8 := Lib.hid ((hbn.block B8 (by omega)).trans RB8.out)
            have hzn : L ≤ wn.heap.size := by have := hbn.size; omega
            clear HSO
            refine hK.out _ _ R10.out ?_
            clear hK K hHeld hbn hzx 
            intro hHeld
            walk_nrm
            refine wpAnyL_take (i := 7) (v := ?_) rfl (by kernel_rfl) (fun _ _ _ h => h) (Or.inl ⟨by rfl, ?_⟩) (by assumption) ?_
            rotate_left
            · intro wS hSw; go_simp <;> with_reducible rfl
            walk_nrm
            refine wpAnyL_take (i := 8) (v := ?_) rfl (by kernel_rfl) (fun _ _ _ h => h) (Or.inl ⟨by rfl, ?_⟩) (by assumption) ?_
            rotate_left
            · intro wS hSw; go_simp <;> with_reducible rfl
            walk_nrm
            refine wpAnyL_take (i := 9) (v := ?_) rfl (by kernel_rfl) (fun _ _ _ h => h) (Or.inl ⟨by rfl, ?_⟩) (by assumption) ?_
            rotate_left
            · intro wS hSw; go_simp <;> with_reducible rfl
            walk_nrm
            refine wpAnyL_take (i := 10) (v := ?_) rfl (by kernel_rfl) (fun _ _ _ h => h) (Or.inl ⟨by rfl, ?_⟩) (by assumption) ?_
            rotate_left
            · intro wS hSw; go_simp <;> with_reducible rfl
            walk_nrm
            clear wx
            obtain ⟨wx, rfl⟩ : ∃ wx : World, wx = wn := ⟨_, rfl⟩
            have hzx := hzn
            clear hzn
            refine wpAnyL_one 11 (by kernel_rfl) ?_
            · refine ComesUp.mk rfl (fun K hK => ?_)
              go_simp
              obtain ⟨wn, hwn⟩ : ∃ wn, wn = wx.alloc (.cells #[.int .i64 0, .int .i64 0, .int .i64 0, .int .i64 0, .int .i64 0, .int .i64 0, .int .i64 0, .int .i64 0, .slice none 0 0, .int .i64 0, .int .i64 0, .slice none 0 0] 28) := ⟨_, rfl⟩
              obtain ⟨b11, hb11⟩ : ∃ b, b = wx.heap.size := ⟨_, rfl⟩
              rw [← hwn, ← hb11]
              have hbn := below_new hwn
              replace HX11 : Hid (Bx L (some b11) (.cells #[.int .i64 0, .int .i64 0, .int .i64 0, .int .i64 0, .int .i64 0, .int .i64 0, .int .i64 0, .int .i64 0, .slice none 0 0, .int .i64 0, .int .i64 0, .slice none 0 0] 28 (0, 0)) wn) := by rw [hb11]; exact Bx.new hwn hzx
              replace HX12 := Lib.hid (HX12.out.below hbn)
              replace R10 := Lib.hid ((hbn.block B10 (by omega)).trans R10.out)
              replace HEx := Lib.hid (HEx.out.on hbn)
              replace HBx := Lib.hid (HBx.out.trans (hbn.mono HBx.out.size))
              replace RB8 := Lib.hid ((hbn.block B8 (by omega)).trans RB8.out)
              try replace HSO := Lib.hid (HSO.out.below hbn)
              try replace HSN := Lib.hid (HSN.out.below hbn)
              have hzn : L ≤ wn.heap.size := by have := hbn.size; omega
              refine hK.out _ _ R10.out ?_
              clear hK K hHeld hbn hzx hwn hb11
              intro hHeld
              walk_nrm
              clear wx
              obtain ⟨wx, rfl⟩ : ∃ wx : World, wx = wn := ⟨_, rfl⟩
              have hzx := hzn
              clear hzn
              refine wpAnyL_one 13 (by kernel_rfl) ?_
              · refine ComesUp.mk rfl (fun K hK => ?_)
                rw [if_pos (by rfl)]
                have h11 := HX11.out b11 rfl
                refine wp_store_row 28 _ _ rfl b11 _ rfl rfl _ _ h11.2 storeSize rfl (store_one _ _ _ _ _) ?_
                have n11 : b11 ≠ B10 := by omega
                obtain ⟨wn, hwn⟩ : ∃ wn, wn = wx.setRow b11 (storeV Sn va' vc' fa' fc') := ⟨_, rfl⟩
                rw [← hwn]
                replace HX11 : Hid (Bx L (some b11) (.cells (storeV Sn va' vc' fa' fc') 28 (0, 0)) wn) := fun b hb => by cases hb; exact ⟨h11.1, by rw [hwn]; exact setRow_heap _ _ _ _ _ _ h11.2⟩
                replace HX12 : Hid (Bx L (some b12) (.cells (#[.int .i64 0, .int .i64 0, .slice none 0 0]) 38 (0, 0)) wn) := fun b hb => by cases hb; exact ⟨(HX12.out b12 rfl).1, by rw [hwn]; exact (setRow_other _ _ _ _ (blk_ne (HX12.out b12 rfl).2 h11.2 (by decide))).trans (HX12.out b12 rfl).2⟩
                replace RB8 : Hid (wn.heap[B8]? = some (.cells (replyCells ⟨2, 0, []⟩ ha0 hc0) 38 (0, 0))) := by show wn.heap[B8]? = _; rw [hwn]; exact (setRow_other _ _ _ _ (by omega)).trans RB8.out
                replace R10 : Hid (wn.heap[B10]? = some (.cells (storeV (Sk) va vc fa fc) 28 (0, 0))) := by show wn.heap[B10]? = _; rw [hwn]; exact (setRow_other _ _ _ _ (Ne.symm n11)).trans R10.out
                have hbn : Below w.heap.size wx wn := by rw [hwn]; exact Below.setRow _ b11 _ (by omega)
                replace HSN : Hid (StOwn bn wn (Sn) va' vc' fa' fc') := by rw [hwn]; exact HSN.out.setT h11.2 (by decide) (by decide) (by decide)
                replace HEx := Lib.hid (HEx.out.below HE.out.globs hbn)
                replace HBx := Lib.hid (HBx.out.trans hbn)
                have hzn : L ≤ wn.heap.size := by have := hbn.size; omega
                refine hK.out _ _ R10.out ?_
                clear hK K hHeld hbn hzx hwn h11 n11
                intro hHeld
                walk_nrm
                clear wx
                obtain ⟨wx, rfl⟩ : ∃ wx : World, wx = wn := ⟨_, rfl⟩
                have hzx := hzn
                clear hzn
                refine wpAnyL_one 14 (by kernel_rfl) ?_
                refine ComesUp.mk rfl (fun K hK => ?_)
                rw [if_pos (by rfl)]
                have h12 := HX12.out b12 rfl
                refine wp_store_row 38 _ _ rfl b12 _ rfl rfl _ _ h12.2 replySize rfl (reply_one _ _ _) ?_
                have n12 : b12 ≠ B10 := by omega
                obtain ⟨wn, hwn⟩ : ∃ wn, wn = wx.setRow b12 (replyCells ⟨2, 0, []⟩ ha' hc') := ⟨_, rfl⟩
                rw [← hwn]
                replace HX11 : Hid (Bx L (some b11) (.cells (storeV Sn va' vc' fa' fc') 28 (0, 0)) wn) := fun b hb => by cases hb; exact ⟨(HX11.out b11 rfl).1, by rw [hwn]; exact (setRow_other _ _ _ _ (blk_ne (HX11.out b11 rfl).2 h12.2 (by decide))).trans (HX11.out b11 rfl).2⟩
                replace HX12 : Hid (Bx L (some b12) (.cells (replyCells ⟨2, 0, []⟩ ha' hc') 38 (0, 0)) wn) := fun b hb => by cases hb; exact ⟨h12.1, by rw [hwn]; exact setRow_heap _ _ _ _ _ _ h12.2⟩
                replace RB8 : Hid (wn.heap[B8]? = some (.cells (replyCells ⟨2, 0, []⟩ ha0 hc0) 38 (0, 0))) := by show wn.heap[B8]? = _; rw [hwn]; exact (setRow_other _ _ _ _ (by omega)).trans RB8.out
                replace R10 : Hid (wn.heap[B10]? = some (.cells (storeV (Sk) va vc fa fc) 28 (0, 0))) := by show wn.heap[B10]? = _; rw [hwn]; exact (setRow_other _ _ _ _ (Ne.symm n12)).trans R10.out
                have hbn : Below w.heap.size wx wn := by rw [hwn]; exact Below.setRow _ b12 _ (by omega)
                replace HSN : Hid (StOwn bn wn (Sn) va' vc' fa' fc') := by rw [hwn]; exact HSN.out.setT h12.2 (by decide) (by decide) (by decide)
                replace HEx := Lib.hid (HEx.out.below HE.out.globs hbn)
                replace HBx := Lib.hid (HBx.out.trans hbn)
                have hzn : L ≤ wn.heap.size := by have := hbn.size; omega
                refine hK.out _ _ R10.out ?_
                clear hK K hHeld hbn hzx hwn h12 n12
                intro hHeld
                walk_nrm
                clear wx
                obtain ⟨wx, rfl⟩ : ∃ wx : World, wx = wn := ⟨_, rfl⟩
                have hzx := hzn
                clear hzn
                refine wpAnyL_last rfl (by kernel_rfl) (fun K hK => ?_)
                go_simp
                refine hK.out _ _ ?_
                clear hK K
                walk_nrm
                refine wpAnyL_done (by kernel_rfl) ?_ _
                go_wp2_with fail
                go_meet
                exact ⟨b11, b12, va', vc', fa', fc', ha', hc', bn, rfl, rfl, rfl, hbn1, (by have := (HX11.out b11 rfl).1; omega), (by omega), HBx, HEx, R10, RB8, HSN, (HX11.out b11 rfl).2, (HX12.out b12 rfl).2⟩
          · refine ComesUp.mk rfl (fun K hK => ?_)
            go_simp
            obtain ⟨wn, hwn⟩ : ∃ wn, wn = wx.alloc (.cells #[.int .i64 0, .int .i64 0, .int .i64 0, .int .i64 0, .int .i64 0, .int .i64 0, .int .i64 0, .int .i64 0, .slice none 0 0, .int .i64 0, .int .i64 0, .slice none 0 0] 28) := ⟨_, rfl⟩
            obtain ⟨b11, hb11⟩ : ∃ b, b = wx.heap.size := ⟨_, rfl⟩
            rw [← hwn, ← hb11]
            have hbn := below_new hwn
            replace HX11 : Hid (Bx L (some b11) (.cells #[.int .i64 0, .int .i64 0, .int .i64 0, .int .i64 0, .int .i64 0, .int .i64 0, .int .i64 0, .int .i64 0, .slice none 0 0, .int .i64 0, .int .i64 0, .slice none 0 0] 28 (0, 0)) wn) := by rw [hb11]; exact Bx.new hwn hzx
            replace HX12 := Lib.hid (HX12.out.below hbn)
            replace R10 := Lib.hid ((hbn.block B10 (by omega)).trans R10.out)
            replace HEx := Lib.hid (HEx.out.on hbn)
            replace HBx := Lib.hid (HBx.out.trans (hbn.mono HBx.out.size))
            replace RB8 := Lib.hid ((hbn.block B8 (by omega)).trans RB8.out)
            try replace HSO := Lib.hid (HSO.out.below hbn)
            try replace HSN := Lib.hid (HSN.out.below hbn)
            have hzn : L ≤ wn.heap.size := by have := hbn.size; omega
            refine hK.out _ _ R10.out ?_
            clear hK K hHeld hbn hzx hwn hb11
            intro hHeld
            walk_nrm
            clear wx
            obtain ⟨wx, rfl⟩ : ∃ wx : World, wx = wn := ⟨_, rfl⟩
            have hzx := hzn
            clear hzn
            refine wpAnyL_one 6 (by kernel_rfl) ?_
            · refine ComesUp.mk rfl (fun K hK => ?_)
              go_simp
              refine (do_at (s := Sk) (r := reqPut 2 ky v 0) (va := va) (vc := vc) (fa := fa) (fc := fc) (ka := none) (kc := 0) HEx (Lib.hid HSO.out.at) (RowsAt.nil _ _ _ _) (Nat.zero_le _) (by show _ ≤ 1000; exact HKS.out) rfl rfl).mono ?_
              rw [HD1.out]
              rintro e wn ⟨va', vc', fa', fc', ha', hc', rfl, hso, -, hbn⟩
              obtain ⟨bn, hbs'⟩ : ∃ b, b = wx.heap.size := ⟨_, rfl⟩
              rw [← hbs'] at hso
              have HSN := Lib.hid hso
              have hbn1 : B10 < bn := by omega
              clear hso hbs'
              replace HX11 := Lib.hid (HX11.out.below hbn)
              replace HX12 := Lib.hid (HX12.out.below hbn)
              replace R10 := Lib.hid ((hbn.block B10 (by omega)).trans R10.out)
              replace HEx := Lib.hid (HEx.out.on hbn)
              replace HBx := Lib.hid (HBx.out.trans (hbn.mono HBx.out.size))
              replace RB8 := Lib.hid ((hbn.block B8 (by omega)).trans RB8.out)
              have hzn : L ≤ wn.heap.size := by have := hbn.size; omega
              clear HSO
              refine hK.out _ _ R10.out ?_
              clear hK K hHeld hbn hzx 
              intro hHeld
              walk_nrm
              refine wpAnyL_take (i := 7) (v := ?_) rfl (by kernel_rfl) (fun _ _ _ h => h) (Or.inl ⟨by rfl, ?_⟩) (by assumption) ?_
              rotate_left
              · intro wS hSw; go_simp <;> with_reducible rfl
              walk_nrm
              refine wpAnyL_take (i := 8) (v := ?_) rfl (by kernel_rfl) (fun _ _ _ h => h) (Or.inl ⟨by rfl, ?_⟩) (by assumption) ?_
              rotate_left
              · intro wS hSw; go_simp <;> with_reducible rfl
              walk_nrm
              refine wpAnyL_take (i := 9) (v := ?_) rfl (by kernel_rfl) (fun _ _ _ h => h) (Or.inl ⟨by rfl, ?_⟩) (by assumption) ?_
              rotate_left
              · intro wS hSw; go_simp <;> with_reducible rfl
              walk_nrm
              refine wpAnyL_take (i := 10) (v := ?_) rfl (by kernel_rfl) (fun _ _ _ h => h) (Or.inl ⟨by rfl, ?_⟩) (by assumption) ?_
              rotate_left
              · intro wS hSw; go_simp <;> with_reducible rfl
              walk_nrm
              clear wx
              obtain ⟨wx, rfl⟩ : ∃ wx : World, wx = wn := ⟨_, rfl⟩
              have hzx := hzn
              clear hzn
              refine wpAnyL_one 13 (by kernel_rfl) ?_
              · refine ComesUp.mk rfl (fun K hK => ?_)
                rw [if_pos (by rfl)]
                have h11 := HX11.out b11 rfl
                refine wp_store_row 28 _ _ rfl b11 _ rfl rfl _ _ h11.2 storeSize rfl (store_one _ _ _ _ _) ?_
                have n11 : b11 ≠ B10 := by omega
                obtain ⟨wn, hwn⟩ : ∃ wn, wn = wx.setRow b11 (storeV Sn va' vc' fa' fc') := ⟨_, rfl⟩
                rw [← hwn]
                replace HX11 : Hid (Bx L (some b11) (.cells (storeV Sn va' vc' fa' fc') 28 (0, 0)) wn) := fun b hb => by cases hb; exact ⟨h11.1, by rw [hwn]; exact setRow_heap _ _ _ _ _ _ h11.2⟩
                replace HX12 : Hid (Bx L (some b12) (.cells (#[.int .i64 0, .int .i64 0, .slice none 0 0]) 38 (0, 0)) wn) := fun b hb => by cases hb; exact ⟨(HX12.out b12 rfl).1, by rw [hwn]; exact (setRow_other _ _ _ _ (blk_ne (HX12.out b12 rfl).2 h11.2 (by decide))).trans (HX12.out b12 rfl).2⟩
                replace RB8 : Hid (wn.heap[B8]? = some (.cells (replyCells ⟨2, 0, []⟩ ha0 hc0) 38 (0, 0))) := by show wn.heap[B8]? = _; rw [hwn]; exact (setRow_other _ _ _ _ (by omega)).trans RB8.out
                replace R10 : Hid (wn.heap[B10]? = some (.cells (storeV (Sk) va vc fa fc) 28 (0, 0))) := by show wn.heap[B10]? = _; rw [hwn]; exact (setRow_other _ _ _ _ (Ne.symm n11)).trans R10.out
                have hbn : Below w.heap.size wx wn := by rw [hwn]; exact Below.setRow _ b11 _ (by omega)
                replace HSN : Hid (StOwn bn wn (Sn) va' vc' fa' fc') := by rw [hwn]; exact HSN.out.setT h11.2 (by decide) (by decide) (by decide)
                replace HEx := Lib.hid (HEx.out.below HE.out.globs hbn)
                replace HBx := Lib.hid (HBx.out.trans hbn)
                have hzn : L ≤ wn.heap.size := by have := hbn.size; omega
                refine hK.out _ _ R10.out ?_
                clear hK K hHeld hbn hzx hwn h11 n11
                intro hHeld
                walk_nrm
                clear wx
                obtain ⟨wx, rfl⟩ : ∃ wx : World, wx = wn := ⟨_, rfl⟩
                have hzx := hzn
                clear hzn
                refine wpAnyL_one 14 (by kernel_rfl) ?_
                refine ComesUp.mk rfl (fun K hK => ?_)
                rw [if_pos (by rfl)]
                have h12 := HX12.out b12 rfl
                refine wp_store_row 38 _ _ rfl b12 _ rfl rfl _ _ h12.2 replySize rfl (reply_one _ _ _) ?_
                have n12 : b12 ≠ B10 := by omega
                obtain ⟨wn, hwn⟩ : ∃ wn, wn = wx.setRow b12 (replyCells ⟨2, 0, []⟩ ha' hc') := ⟨_, rfl⟩
                rw [← hwn]
                replace HX11 : Hid (Bx L (some b11) (.cells (storeV Sn va' vc' fa' fc') 28 (0, 0)) wn) := fun b hb => by cases hb; exact ⟨(HX11.out b11 rfl).1, by rw [hwn]; exact (setRow_other _ _ _ _ (blk_ne (HX11.out b11 rfl).2 h12.2 (by decide))).trans (HX11.out b11 rfl).2⟩
                replace HX12 : Hid (Bx L (some b12) (.cells (replyCells ⟨2, 0, []⟩ ha' hc') 38 (0, 0)) wn) := fun b hb => by cases hb; exact ⟨h12.1, by rw [hwn]; exact setRow_heap _ _ _ _ _ _ h12.2⟩
                replace RB8 : Hid (wn.heap[B8]? = some (.cells (replyCells ⟨2, 0, []⟩ ha0 hc0) 38 (0, 0))) := by show wn.heap[B8]? = _; rw [hwn]; exact (setRow_other _ _ _ _ (by omega)).trans RB8.out
                replace R10 : Hid (wn.heap[B10]? = some (.cells (storeV (Sk) va vc fa fc) 28 (0, 0))) := by show wn.heap[B10]? = _; rw [hwn]; exact (setRow_other _ _ _ _ (Ne.symm n12)).trans R10.out
                have hbn : Below w.heap.size wx wn := by rw [hwn]; exact Below.setRow _ b12 _ (by omega)
                replace HSN : Hid (StOwn bn wn (Sn) va' vc' fa' fc') := by rw [hwn]; exact HSN.out.setT h12.2 (by decide) (by decide) (by decide)
                replace HEx := Lib.hid (HEx.out.below HE.out.globs hbn)
                replace HBx := Lib.hid (HBx.out.trans hbn)
                have hzn : L ≤ wn.heap.size := by have := hbn.size; omega
                refine hK.out _ _ R10.out ?_
                clear hK K hHeld hbn hzx hwn h12 n12
                intro hHeld
                walk_nrm
                clear wx
                obtain ⟨wx, rfl⟩ : ∃ wx : World, wx = wn := ⟨_, rfl⟩
                have hzx := hzn
                clear hzn
                refine wpAnyL_last rfl (by kernel_rfl) (fun K hK => ?_)
                go_simp
                refine hK.out _ _ ?_
                clear hK K
                walk_nrm
                refine wpAnyL_done (by kernel_rfl) ?_ _
                go_wp2_with fail
                go_meet
                exact ⟨b11, b12, va', vc', fa', fc', ha', hc', bn, rfl, rfl, rfl, hbn1, (by have := (HX11.out b11 rfl).1; omega), (by omega), HBx, HEx, R10, RB8, HSN, (HX11.out b11 rfl).2, (HX12.out b12 rfl).2⟩
      case rest =>
        obtain ⟨B11, B12, va', vc', fa', fc', ha', hc', bn, rfl, rfl, rfl, hbn, n11, hzc, HBc, HEc, Rc, RB8c, HSc, R11, R12⟩ := hcut
        clear HSO R10 HEx HBx hzr RB8
        have q0 : wc.cell? ⟨B12, 0, none⟩ = some (.int .i64 2) := by rw [cell_of_row wc _ _ _ _ _ R12.out]; rfl
        go_wp2_with (first
          | refine wpList_load_row rfl 28 _ rfl B11 rfl _ _ _ _ R11.out Tryd.underlying28 rfl (by kernel_rfl) ?_
          | refine wpList_store_row rfl 28 _ _ rfl B10 _ rfl rfl _ _ Rc.out storeSize rfl (store_one _ _ _ _ _) ?_)
        obtain ⟨wn, hwn⟩ : ∃ wn, wn = wc.setRow B10 (storeV Sn va' vc' fa' fc') := ⟨_, rfl⟩
        rw [← hwn]
        have hbw : Below w.heap.size wc wn := by rw [hwn]; exact Below.setRow _ B10 _ hB10w
        have F1 : Hid (wn.heap[B10]? = some (.cells (storeV Sn va' vc' fa' fc') 28 (0, 0))) := by rw [hwn]; exact setRow_heap _ _ _ _ _ _ Rc.out
        have F2 : Hid (StOwn bn wn Sn va' vc' fa' fc') := by rw [hwn]; exact HSc.out.set hbn
        have F3 : Hid (Env wn) := HEc.out.below HE.out.globs hbw
        have F4 : Hid (Below w.heap.size w wn) := HBc.out.trans hbw
        have F5 : B10 < wn.heap.size := by have := hbw.size; omega
        have F6 : Hid (wn.heap[B8]? = some (.cells (replyCells ⟨2, 0, []⟩ ha0 hc0) 38 (0, 0))) := by show wn.heap[B8]? = _; rw [hwn]; exact (setRow_other _ _ _ _ nB8).trans RB8c.out
        clear hwn hbw
        go_roundw
        case rel => exact ⟨i + 1, Sn, va', fa', vc', fc', bn, by omega, by go_num, hbn, F5, HIN, F4, F3, F1, F6, F2⟩
        case measure => simp [intOf]; omega
    ·
      obtain rfl : i = jj := by omega
      obtain ⟨ST, SU, hg, hd, hlen, u, rest, hit⟩ := far_last HIk.out hjj2 hvs
      obtain ⟨ln, hln⟩ : ∃ ln, ln = Sk.items.length := ⟨_, rfl⟩
      have hln0 : 0 < ln := by rw [hln, hit]; simp
      have hfirst : ∀ h : 0 < Sk.items.length, Sk.items[0].key = fK := fun h => by simp only [hit, List.getElem_cons_zero]; rfl
      have HIX := Lib.hid (index_first Sk.items va vc wr HSO.out.at.items (by omega) hfirst (by omega))
      have HRI := Lib.hid HSO.out.at.items
      rw [hit] at HRI
      obtain ⟨bI, oI, rfl, hcI⟩ := HRI.out.pos (by simp)
      obtain ⟨csI, _, hcsI, h3I⟩ := hcI 0 (by simp)
      have hcs1 := hcsI.1
      subst hcs1
      have c6 := h3I 6 _ rfl
      simp only [Nat.zero_mul, Nat.add_zero] at c6
      have C6 : Hid (wr.cell? ⟨bI, oI + 6, none⟩ = some (.bool true)) := c6
      have HG := Lib.hid hg
      have HD := Lib.hid hd
      rw [← hln] at HIX
      have HLN := Lib.hid hln
      clear hg hd hlen hit hfirst HRI hcI hcsI h3I c6 HIk hln
      have q8 : wr.cell? ⟨B10, 8, none⟩ = some (.slice (some ⟨bI, oI, none⟩) ln vc) := by rw [cell_of_row wr _ _ _ _ _ R10.out, HLN.out]; rfl
      go_wp2_with fail
      refine HIX.out.mono ?_
      rintro e w6 ⟨rfl, hb6⟩
      have HSw6 := Lib.hid (HSO.out.below hb6)
      have Rw6 := Lib.hid ((hb6.block B10 hzr).trans R10.out)
      have HBw6 := Lib.hid (HBx.out.trans (hb6.mono HBx.out.size))
      have HEw6 := Lib.hid (HEx.out.on hb6)
      have hzw6 : B10 < w6.heap.size := by have := hb6.size; omega
      have B8w6 := Lib.hid ((hb6.block B8 (Array.getElem?_eq_some_iff.1 RB8.out).1).trans RB8.out)
      have hbI : bI < wr.heap.size := cell_lt C6.out
      have C66 := Lib.hid ((World.cell?_of_block (hb6.block bI hbI)).trans C6.out)
      clear hb6 R10 HBx HEx hzr RB8 q8 HSO C6 HIX
      go_wp2_with (refine wpList_load_row rfl 28 _ rfl B10 rfl _ _ _ _ Rw6.out Tryd.underlying28 rfl (by kernel_rfl) ?_)
      refine (keep_get Sk fK (some ⟨bI, oI, none⟩) fa vc fc w6 HEw6.out HSw6.out.at (by decide)).mono ?_
      rw [HG.out]
      rintro e w7 ⟨va7, vc7, fa7, fc7, rfl, hs7, hb7⟩
      have HSw7 := Lib.hid hs7
      have Rw7 := Lib.hid ((hb7.block B10 hzw6).trans Rw6.out)
      have HBw7 := Lib.hid (HBw6.out.trans (hb7.mono HBw6.out.size))
      have HEw7 := Lib.hid (HEw6.out.on hb7)
      have hzw7 : B10 < w7.heap.size := by have := hb7.size; omega
      have B8w7 := Lib.hid ((hb7.block B8 (Array.getElem?_eq_some_iff.1 B8w6.out).1).trans B8w6.out)
      have hbI6 : bI < w6.heap.size := cell_lt C66.out
      have C67 := Lib.hid ((World.cell?_of_block (hb7.block bI hbI6)).trans C66.out)
      clear hs7 hb7 Rw6 HBw6 HEw6 hzw6 B8w6 HSw6 C66 HG
      go_upto_region 14 with (fail)
      obtain ⟨W8, hW8, hb8, h15, h16⟩ := two_new w7 (.cells (storeV ST va7 vc7 fa7 fc7) 28) (.cells #[.string fK, .int .i64 0, .int .i64 1, .string v] 51)
      rw [← hW8]
      obtain ⟨B15, hB15⟩ : ∃ B, B = w7.heap.size := ⟨_, rfl⟩
      obtain ⟨B16, hB16⟩ : ∃ B, B = w7.heap.size + 1 := ⟨_, rfl⟩
      rw [← hB16] at h16
      rw [← hB15] at h15
      rw [← hB16, ← hB15]
      have R15 := Lib.hid h15
      have R16 := Lib.hid h16
      have RW8 := Lib.hid ((hb8.block B10 hzw7).trans Rw7.out)
      have HBW8 := Lib.hid (HBw7.out.trans (hb8.mono HBw7.out.size))
      have HEW8 := Lib.hid (HEw7.out.on hb8)
      have HSW8 := Lib.hid (HSw7.out.below hb8)
      have B8W8 := Lib.hid ((hb8.block B8 (Array.getElem?_eq_some_iff.1 B8w7.out).1).trans B8w7.out)
      have hbI7 : bI < w7.heap.size := cell_lt C67.out
      have C68 := Lib.hid ((World.cell?_of_block (hb8.block bI hbI7)).trans C67.out)
      clear hW8 hB15 hB16 h15 h16 hb8 Rw7 HBw7 HEw7 hzw7 B8w7 HSw7 C67
      go_wp2_with (refine wpList_load_row rfl 28 _ rfl B15 rfl _ _ _ _ R15.out Tryd.underlying28 rfl (by kernel_rfl) ?_)
      refine (do_at (s := ST) (r := reqPut 5 fK ⟨#[33]⟩ 0) (ka := none) (kc := 0) HEW8 (Lib.hid HSW8.out.at) (RowsAt.nil _ _ _ _) (Nat.zero_le _) (by show _ ≤ 1000; exact (by decide : fK.size ≤ 1000)) rfl rfl).mono ?_
      rw [HD.out]
      rintro e w9 ⟨va9, vc9, fa9, fc9, ha9, hc9, rfl, -, -, hb9⟩
      have s0 : w9.cell? ⟨B8, 0, none⟩ = some (.int .i64 2) := by rw [cell_of_row w9 _ _ _ _ _ ((hb9.block B8 (Array.getElem?_eq_some_iff.1 B8W8.out).1).trans B8W8.out)]; rfl
      have s1 : w9.cell? ⟨B10, 8, none⟩ = some (.slice (some ⟨bI, oI, none⟩) ln vc) := by rw [cell_of_row w9 _ _ _ _ _ ((hb9.block B10 (Array.getElem?_eq_some_iff.1 RW8.out).1).trans RW8.out), HLN.out]; rfl
      have s2 : w9.cell? ⟨bI, oI + 6, none⟩ = some (.bool true) := (World.cell?_of_block (hb9.block bI (cell_lt C68.out))).trans C68.out
      have s3 : w9.cell? ⟨B16, 3, none⟩ = some (.string v) := by rw [cell_of_row w9 _ _ _ _ _ ((hb9.block B16 (Array.getElem?_eq_some_iff.1 R16.out).1).trans R16.out)]; rfl
      have HB9 := Lib.hid (HBW8.out.trans (hb9.mono HBW8.out.size))
      clear hb9 RW8 HBW8 HEW8 HSW8 B8W8 C68 R15 R16 HD
      simp only [replyCells, List.length_nil]
      go_upto_region 15 with (fail)
      obtain ⟨W10, hW10, hb10, h18, h19⟩ := two_new w9 (.cells (storeV SU va9 vc9 fa9 fc9) 28) (.cells #[.int .i64 2, .int .i64 0, .slice ha9 0 hc9] 38)
      rw [← hW10]
      have z0 : W10.cell? ⟨B8, 0, none⟩ = some (.int .i64 2) := (World.cell?_of_block (hb10.block B8 (cell_lt s0))).trans s0
      have z1 : W10.cell? ⟨B10, 8, none⟩ = some (.slice (some ⟨bI, oI, none⟩) ln vc) := (World.cell?_of_block (hb10.block B10 (cell_lt s1))).trans s1
      have z2 : W10.cell? ⟨bI, oI + 6, none⟩ = some (.bool true) := (World.cell?_of_block (hb10.block bI (cell_lt s2))).trans s2
      have z3 : W10.cell? ⟨B16, 3, none⟩ = some (.string v) := (World.cell?_of_block (hb10.block B16 (cell_lt s3))).trans s3
      have z4 : W10.cell? ⟨w9.heap.size + 1, 0, none⟩ = some (.int .i64 2) := by rw [cell_of_row W10 _ _ _ _ _ h19]; rfl
      have HB10 := Lib.hid (HB9.out.trans (hb10.mono HB9.out.size))
      have hlz : (0 : Int) < (ln : Int) := by omega
      clear hW10 hb10 h18 h19 s0 s1 s2 s3 HB9
      go_wp2_with fail
      go_ret
      exact ⟨rfl, HB10.out⟩
set_option maxRecDepth 100000 in
theorem enters {H : Type} {enc : TypeId × Value → H} {W : World} {base : Nat} {args : Array Value} {ds : List (DataW H)} {p : List MemPlace}
    (hval : ∀ (j : Nat) t v, Tryd.f3.params[j]? = some t → args[j]? = some v → Value.okWide Tryd.prog W .any base t v)
    (hA : DataW.TrodAll enc Tryd.prog W 0 (fun _ => true) true Tryd.f3.params.toList args.toList ds p) (hsz : ∀ m ∈ DataW.weightsEach Tryd.prog Tryd.f3.params.toList ds, m ≤ reachBytes) (hL : laidMetH Tryd.prog Rows.farSameRow.laid W) :
    Calls Tryd.prog 3 args W fun e W' => e = .returned (.bool true) ∧ Below W.heap.size W W' := by
  rw [Tryd.params3] at hA hval hsz
  obtain ⟨v0, vs0, d0, ds0, p0, q0, hargs, rfl, rfl, h0, r0⟩ := trodAll_cons hA
  obtain ⟨v1, vs1, d1, ds1, p1, q1, hargs1, rfl, rfl, h1, r1⟩ := trodAll_cons r0
  obtain ⟨rfl, rfl, rfl⟩ := trodAll_nil r1
  obtain rfl : args = #[v0, v1] := by cases args; simp_all
  obtain ⟨a, rfl, rfl, rfl, ha⟩ := open_int Tryd.underlying3 (hval 0 3 v0 rfl rfl) h0
  obtain ⟨b, rfl, rfl, rfl, hb⟩ := open_int Tryd.underlying3 (hval 1 3 v1 rfl rfl) h1
  exact walk a b (bounds_i64 ha) (bounds_i64 hb) W (env_of hL)

set_option maxRecDepth 100000 in
theorem contract {H : Type} {enc : TypeId × Value → H} {W : World} {base : Nat} {args : Array Value} {ds gs : List (DataW H)} {before : List MemPlace}
    (hval0 : ∀ (j : Nat) t v, Tryd.f3.params[j]? = some t → args[j]? = some v → Value.okWide Tryd.prog W .any base t v)
    (hW : DataW.Whole enc Tryd.prog Tryd.f3.params.toList Rows.farSameSpec.vars false W args.toList ds gs before)
    (hsz0 : (DataW.weightsEach Tryd.prog (Tryd.f3.params.toList ++ []) (ds ++ gs)).all (· ≤ reachBytes) = true) (hL : laidMetH Tryd.prog Rows.farSameRow.laid W) :
    Calls Tryd.prog 3 args W fun e W' => ∃ v, e = .returned v ∧ Rows.farSameSpec.post enc Tryd.prog Tryd.f3 false true false false W args v W' := by
  have hval : ∀ (j : Nat) t v, Tryd.f3.params[j]? = some t → args[j]? = some v → Value.okWide Tryd.prog W .any base t v := hval0
  have hW' := hW
  obtain ⟨p, q, hA0, hV, rfl, hfz, hnd⟩ := hW
  have hA : DataW.TrodAll enc Tryd.prog W 0 (fun _ => true) true Tryd.f3.params.toList args.toList ds p := hA0
  obtain ⟨rfl, rfl⟩ := trodVars_none hV
  have hsz : ∀ m ∈ DataW.weightsEach Tryd.prog Tryd.f3.params.toList ds, m ≤ reachBytes := by
    have h0 := hsz0
    rw [List.append_nil, List.append_nil] at h0
    intro m hm
    simpa using List.all_eq_true.1 h0 m hm
  have hds : Rows.farSameSpec.fn H (ds ++ []) = { results := [.lit (.bool true)], args := ds } := by
    have hA1 := hA
    rw [Tryd.params3] at hA1
    obtain ⟨v0, vs0, d0, ds0, p0, q0, _, rfl, rfl, h0, r0⟩ := trodAll_cons hA1
    obtain ⟨v1, vs1, d1, ds1, p1, q1, _, rfl, rfl, h1, r1⟩ := trodAll_cons r0
    obtain ⟨_, rfl, rfl⟩ := trodAll_nil r1
    rfl
  refine (enters hval hA hsz hL).mono fun e W' ⟨he, hb⟩ => ⟨_, he, D.law_post rfl rfl hds (by kernel_rfl) hW' hb⟩
theorem laid_met (os : Os) : laidMet Tryd.prog Rows.farSameRow.laid ((D.laidWorldS os).forCall (fun _ _ => 0) ⟨#[], #[.int .i64 0, .int .i64 0], []⟩).memory :=
  laidMet_of_run' 12 (by kernel_rfl) (by kernel_rfl)
theorem reads (os : Os) {H : Type} (enc : TypeId × Value → H) : ∃ places, DataW.whole enc Tryd.prog ((D.laidWorldS os).forCall (fun _ _ => 0) ⟨#[], #[.int .i64 0, .int .i64 0], []⟩).memory Tryd.f3.params.toList Rows.farSameSpec.vars false (#[.int .i64 0, .int .i64 0] : Array Value).toList 12 = some ([.lit (.int .i64 0), .lit (.int .i64 0)], [], places) :=
  ⟨[], by kernel_rfl⟩
set_option maxRecDepth 100000 in
theorem lifted (os : Os) (started : os.Started) (H : Type) (enc : TypeId × Value → H) (F : Stop.Interp) :
    ReturnsInHanded {} Tryd.checked os 3 .any ((OpenSpec.ofChange Rows.farSameSpec).preRow enc Tryd.prog Tryd.f3 Rows.farSameRow.domain false Rows.farSameRow.laid) (((OpenSpec.ofChange Rows.farSameSpec).at F).post enc Tryd.prog Tryd.f3 false true false false) := by
  obtain ⟨places, hx⟩ := reads os enc
  refine returnsInHanded_of_row (C := Tryd.checked) (s := OpenSpec.ofChange Rows.farSameSpec) D.own started (by kernel_rfl) Tryd.func3
    (witness_row_at (enc := enc) (C := Tryd.checked) false (D.laidWorldS os) #[.int .i64 0, .int .i64 0] rfl (by kernel_rfl) (by kernel_rfl) (by kernel_rfl)
      (OpenSpec.preRow_of_cond 12 hx (by kernel_rfl) (fun k hk => by cases hk) (by kernel_rfl) (laid_met os))) ?_
  intro W base args ds gs before hval hW _ _ hsz hL _ _
  exact contract hval hW hsz hL
theorem said : Rows.FarSameSaid :=
  OpenClaim.holds_of_cond 3 Tryd.f3 rfl rfl rfl rfl rfl rfl rfl ⟨rfl, rfl, rfl, rfl, rfl⟩ rfl rfl rfl rfl rfl (by kernel_rfl) Tryd.func3 (by kernel_rfl)
    (of_decide_eq_true (by kernel_rfl)) (by unfold Func.isWrapper; first | (rw [if_pos (by decide +kernel)]; kernel_rfl) | (rw [if_neg (by decide +kernel)]; exact ⟨rfl, rfl⟩))
    (fun os started H enc _ F => by rw [OpenClaim.pre_eq_preRow]; exact lifted os started H enc F)
theorem plain (f : FuncId) (fn : Func) (hf : Tryd.pinned.checked.prog.funcNamed "dovecote/dovecotekeep.FarSame" = some f) (hfn : Tryd.pinned.checked.prog.funcs[f]? = some fn) :
    true = Tryd.pinned.checked.prog.looks [] ∧ ∀ (j : Nat) t, fn.params[j]? = some t → Tryd.pinned.checked.prog.wantsStandIn t = false := by
  obtain rfl : f = 3 := Option.some.inj ((show Tryd.prog.funcNamed "dovecote/dovecotekeep.FarSame" = some 3 by kernel_rfl).symm.trans hf) |>.symm
  obtain rfl : fn = Tryd.f3 := (Option.some.inj (Tryd.func3.symm.trans hfn)).symm
  refine ⟨by kernel_rfl, fun j t ht => ?_⟩
  rw [Tryd.params3] at ht
  obtain rfl : t = 3 := by simpa using Array.mem_of_getElem? ht
  kernel_rfl
theorem card : Rows.FarSameCardSaid :=
  Claim7.holds_tied_plain_at .later [] _ _ _ _ said (fun _ h => by cases h) (by kernel_rfl) (fun _ h => by cases h) farSame_row_tie rfl ⟨rfl, rfl⟩ (by kernel_rfl) rfl plain (by kernel_rfl)
end Go.Proofs.YtbeegfkfpkfccaaDoor.farSame
