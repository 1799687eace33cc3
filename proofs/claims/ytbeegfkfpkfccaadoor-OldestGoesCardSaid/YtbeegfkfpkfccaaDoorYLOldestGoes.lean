/-
  PROVED: 'Rows.OldestGoesCardSaid': where there is no room the item that was asked longest ago goes. No condition; the tables that the call reads are tied to the program's text.
-/
import Derived.Test.YtbeegfkfpkfccaaDoorYCKGet
import Derived.Test.YtbeegfkfpkfccaaDoorYCPick
import Derived.Test.YtbeegfkfpkfccaaDoorYCItoaS
import Derived.Test.YtbeegfkfpkfccaaDoorYCDoorS
import Derived.Test.YtbeegfkfpkfccaaDoorYCRegB
namespace Go.Proofs.YtbeegfkfpkfccaaDoor.oldestGoes
open Go.ChangeShapes Go.WideShapes Go.ChangeAt Go.RowKit Go.Proofs.YtbeegfkfpkfccaaDoor.D
theorem get_one {s : Store} {k : ByteArray} {e : Int} {n : Nat} (h : asks s k = (e, n)) (he : e = 0) : ∃ t h', getOf s k = (t, h', decide (n = 1)) ∧ t = (doOf s (reqGet k)).1 := by
  obtain ⟨h1, h2⟩ := Prod.mk.inj h
  subst he
  have e1 : (doOf s (getReq k)).2.2 = 0 := h1
  have e2 : (doOf s (getReq k)).2.1.hits.length = n := h2
  unfold getOf
  rw [if_pos e1]
  split
  · rename_i x hx
    rw [hx] at e2
    exact ⟨(doOf s (reqGet k)).1, x, by rw [decide_eq_true (by simpa using e2.symm)]; rfl, rfl⟩
  · rename_i hx
    have hn1 : ¬ n = 1 := fun hn => by
      rw [hn] at e2
      obtain ⟨x, hx'⟩ := List.length_eq_one_iff.1 e2
      exact hx x hx'
    exact ⟨(doOf s (reqGet k)).1, Hit.zero, by rw [decide_eq_false hn1]; rfl, rfl⟩
theorem get_st {a : Nat} (h : a < 8) : getOf (st 8) (⟨#[107]⟩ ++ decS a) = (ga a, ⟨kk a, 0, (a : Int) + 1, vv⟩, true) := by
  rw [kk_dec (by omega)]
  unfold getOf
  rw [show doOf (st 8) (getReq (kk a)) = _ from get_k a h]
  rfl
theorem get_end {a i : Nat} (c : UInt8) (ha : a < 8) (hi : i < 8) : ∃ t h', getOf (fin a c) (⟨#[107]⟩ ++ decS i) = (t, h', decide (i ≠ goneOf a)) := by
  rw [kk_dec (by omega)]
  obtain ⟨t, h', e, _⟩ := get_one (get_fin c hi a ha) rfl
  refine ⟨t, h', ?_⟩
  rw [e]
  by_cases hg : i = goneOf a
  · rw [if_pos hg, decide_eq_false (by decide : ¬ (0:Nat) = 1), decide_eq_false (fun x => x hg)]
  · rw [if_neg hg, decide_eq_true (rfl : (1:Nat) = 1), decide_eq_true hg]
theorem facts {a m : Nat} (ha : a < 8) (hm : m < 9) : ∃ S8 SA SF : Store, S8 = st 8 ∧ getOf S8 (⟨#[107]⟩ ++ decS (a : Int)) = (SA, ⟨kk a, 0, (a : Int) + 1, vv⟩, true) ∧ doOf SA (reqPut 2 nw (decS (m : Int)) 0) = (SF, ⟨2, 0, []⟩, 0) ∧ SF.items.length = 8 ∧
    ∀ i : Nat, i < 8 → ∃ t h', getOf SF (⟨#[107]⟩ ++ decS (i : Int)) = (t, h', decide (i ≠ goneOf a)) := by
  obtain ⟨hd2, hlen⟩ := set_new (UInt8.ofNat (48 + m)) a ha
  have hdm : decS (m : Int) = ⟨#[UInt8.ofNat (48 + m)]⟩ := dec_one (by omega)
  rw [← hdm] at hd2
  have h1 := get_st ha
  have h2 := fun (i : Nat) (hi : i < 8) => get_end (UInt8.ofNat (48 + m)) ha hi
  generalize fin a (UInt8.ofNat (48 + m)) = SF at hd2 hlen h2
  generalize ga a = SA at hd2 h1
  exact ⟨st 8, SA, SF, rfl, h1, hd2, hlen, h2⟩
set_option maxRecDepth 100000 in
set_option maxHeartbeats 8000000 in
theorem walk (n ask : Int) (hn : -9223372036854775808 ≤ n ∧ n ≤ 9223372036854775807) (hask : -9223372036854775808 ≤ ask ∧ ask ≤ 9223372036854775807) (w : World) (he : Env w) :
    Calls Tryd.prog 4 #[.int .i64 n, .int .i64 ask] w fun e w' => e = .returned (.bool true) ∧ Below w.heap.size w w' := by
  have HE := Lib.hid he
  clear he
  obtain ⟨a, ha, ha8⟩ : ∃ a : Nat, pick ask 8 = (a : Int) ∧ a < 8 := ⟨(pick ask 8).toNat, by have := pick_lt ask 8 (by decide); omega, by have := pick_lt ask 8 (by decide); omega⟩
  obtain ⟨m, hm, hm9⟩ : ∃ m : Nat, pick n 9 = (m : Int) ∧ m < 9 := ⟨(pick n 9).toNat, by have := pick_lt n 9 (by decide); omega, by have := pick_lt n 9 (by decide); omega⟩
  have HA := Lib.hid ha
  have HM := Lib.hid hm
  obtain ⟨S8, SA, SF, hS8, hg1, hd2, hlen, hge⟩ := facts ha8 hm9
  have HG1 := Lib.hid hg1
  have HD2 := Lib.hid hd2
  have HLEN := Lib.hid hlen
  have HGE := Lib.hid hge
  have HS8 := Lib.hid hS8
  obtain ⟨ky, hky⟩ : ∃ ky, ky = (⟨#[107]⟩ : ByteArray) ++ decS (a : Int) := ⟨_, rfl⟩
  have hkk : ky = kk a := by rw [hky]; exact kk_dec (by omega)
  have HKY := Lib.hid hky
  have HKS : Hid (ky.size ≤ 1000) := by show _ ≤ _; rw [hkk, kk_size]; omega
  rw [← hky] at HG1
  have HAS := HKS
  have HKA := HKY
  clear ha hm hd2 hlen hge hg1 hS8 hky hkk HKS HKY
  obtain ⟨ka, hka⟩ : ∃ x, x = ky := ⟨_, rfl⟩
  rw [← hka] at HG1 HAS HKA
  clear hka
  go_enter Tryd.func4, Tryd.ntmps4
  go_wp2_with fail
  refine (store_New 1 0 w).mono ?_
  rintro e w1 ⟨rfl, hb1⟩
  rw [newS_good (by omega) (by omega) (by omega)]
  have HB1 := Lib.hid hb1
  have HE1 := Lib.hid (HE.out.on hb1)
  clear hb1
  go_upto_region 2 with (fail)
  obtain ⟨W2, hW2⟩ : ∃ W2, W2 = w1.alloc (.cells #[.int .i64 0, .int .i64 0, .int .i64 0, .int .i64 1, .int .i64 0, .int .i64 0, .int .i64 0, .int .i64 0, .slice none 0 0, .int .i64 0, .int .i64 1, .slice none 0 0] 28) := ⟨_, rfl⟩
  obtain ⟨B10, hB10⟩ : ∃ B, B = w1.heap.size := ⟨_, rfl⟩
  have r10 : W2.heap[B10]? = some (.cells (storeV (st 0) none 0 none 0) 28 (0, 0)) := by rw [hW2, hB10]; exact blk_new w1 _
  have hb2 := below_new hW2
  have hz2 : B10 + 1 = W2.heap.size := by rw [hW2, hB10]; simp
  have hB10w : w.heap.size ≤ B10 := by have := HB1.out.size; omega
  have HE2 := Lib.hid (HE1.out.on hb2)
  have HB2 := Lib.hid (HB1.out.trans (hb2.mono HB1.out.size))
  have R2 := Lib.hid r10
  rw [← hW2, ← hB10]
  clear hW2 hB10 r10 hb2 HE1 HB1
  have HS2 : Hid (StOwn W2.heap.size W2 (st 0) none 0 none 0) := StOwn.bare rfl rfl
  go_wp2_with fail
  go_loopw [26] (fun i wr => ∃ (k : Nat) (va fa : Option Addr) (vc fc bs : Nat), k ≤ 8 ∧ i = .int .i64 k ∧ B10 < bs ∧ B10 < wr.heap.size ∧ Hid (Below w.heap.size w wr) ∧ Hid (Env wr) ∧ Hid (wr.heap[B10]? = some (.cells (storeV (st k) va vc fa fc) 28 (0, 0))) ∧ Hid (StOwn bs wr (st k) va vc fa fc)) (fun i _ => 8 - (intOf i).toNat)
  case atStart => exact ⟨0, none, none, 0, 0, W2.heap.size, by omega, rfl, by omega, by omega, HB2, HE2, R2, HS2⟩
  case round =>
    obtain ⟨k, va, fa, vc, fc, bs, hk, rfl, hbs, hzr, HBx, HEx, R10, HSO⟩ := hrel
    clear HB2 HE2 R2 HS2
    by_cases hlt : k < 8
    ·
      have h8 : (k : Int) < 8 := by omega
      obtain ⟨Sk, hSk⟩ : ∃ S, S = st k := ⟨_, rfl⟩
      obtain ⟨Sn, hSn⟩ : ∃ S, S = st (k + 1) := ⟨_, rfl⟩
      obtain ⟨ky, hky⟩ : ∃ ky, ky = (⟨#[107]⟩ : ByteArray) ++ decS (k : Int) := ⟨_, rfl⟩
      have hkk : ky = kk k := by rw [hky]; exact kk_dec (by omega)
      have HKY := Lib.hid hky
      have HKS : Hid (ky.size ≤ 1000) := by show _ ≤ _; rw [hkk, kk_size]; omega
      have HD1 : Hid (doOf Sk (reqPut 2 ky vv 0) = (Sn, ⟨2, 0, []⟩, 0)) := by show _ = _; rw [hkk, hSk, hSn]; exact set_k k hlt
      rw [← hSk] at R10 HSO
      have HSn := Lib.hid hSn
      clear hSk hSn HS8 hky hkk
      go_upto_region 5 with (fail)
      go_cut [8, 9, 10] (fun v8 v9 v10 wx => ∃ B8 B9 va' vc' fa' fc' ha' hc' bn, v8 = .pointer (some ⟨B8, 0, none⟩) ∧ v9 = .pointer (some ⟨B9, 0, none⟩) ∧ v10 = .int .i64 0 ∧ B10 < bn ∧ B8 ≠ B10 ∧ B10 < wx.heap.size ∧ Hid (Below w.heap.size w wx) ∧ Hid (Env wx) ∧ Hid (wx.heap[B10]? = some (.cells (storeV Sk va vc fa fc) 28 (0, 0))) ∧ Hid (StOwn bn wx Sn va' vc' fa' fc') ∧ Hid (wx.heap[B8]? = some (.cells (storeV Sn va' vc' fa' fc') 28 (0, 0))) ∧ Hid (wx.heap[B9]? = some (.cells (replyCells ⟨2, 0, []⟩ ha' hc') 38 (0, 0))))
      case first =>
        obtain ⟨WS, hWS⟩ : ∃ W : World, W = wr := ⟨_, rfl⟩
        rw [← hWS] at HBx HEx R10 HSO hzr ⊢
        clear hWS
        obtain ⟨L, hL⟩ : ∃ L, L = WS.heap.size := ⟨_, rfl⟩
        have hBL : B10 < L := by omega
        have hbL : w.heap.size ≤ L := by have := HBx.out.size; omega
        refine wp_region_L (fun w' : World => w'.heap[B10]? = some (.cells (storeV (Sk) va vc fa fc) 28 (0, 0))) 14 15 (by kernel_rfl) (by kernel_rfl) R10.out (fun hHeld => ?_)
        have LN : ¬ 9223372036854775807 < 1 + (decS (k : Int)).size := by rw [← oneC_dec (by omega)]; show ¬ 9223372036854775807 < 1 + 1; omega
        refine wpAnyL_take (i := 1) (v := ?_) rfl (by kernel_rfl) (fun _ _ _ h => h) (Or.inl ⟨by rfl, ?_⟩) (by assumption) ?_
        rotate_left
        · intro wS hSw; go_simp <;> with_reducible rfl
        walk_nrm
        refine wpAnyL_call (i := 2) (v := (.string (decS (k : Int)))) rfl (by kernel_rfl) (fun _ _ _ h => h) ⟨by rfl, 7, #[.int .i64 (k : Int)], fun wS hSw => ⟨?_, (itoa_small (k : Int) (by omega) wS).mono (fun _ _ h => ⟨h.1, h.2.symm⟩)⟩⟩ (by assumption) ?_
        · go_simp
        walk_nrm
        refine wpAnyL_take (i := 3) (v := ?_) rfl (by kernel_rfl) (fun _ _ _ h => h) (Or.inl ⟨by rfl, ?_⟩) (by assumption) ?_
        rotate_left
        · intro wS hSw; go_simp <;> with_reducible rfl
        walk_nrm
        rw [← HKY.out]
        refine wpAnyL_take (i := 4) (v := ?_) rfl (by kernel_rfl) (fun _ _ _ h => h) (Or.inl ⟨by rfl, ?_⟩) (by assumption) ?_
        rotate_left
        · intro wS hSw; go_simp <;> with_reducible rfl
        walk_nrm
        refine wpAnyL_take (i := 0) (v := _) rfl (by kernel_rfl) (fun _ _ _ h => h) (Or.inl ⟨by rfl, fun wS hSw => exec_load_row 28 _ rfl (B10) rfl _ _ _ _ (hSw) Tryd.underlying28 rfl (by kernel_rfl)⟩) (by assumption) ?_
        walk_nrm
        obtain ⟨wx, hwx⟩ : ∃ wx, wx = WS.drew := ⟨_, rfl⟩
        rw [← hwx]
        replace R10 : Hid (wx.heap[B10]? = some (.cells (storeV (Sk) va vc fa fc) 28 (0, 0))) := by rw [hwx]; exact R10
        replace HBx : Hid (Below w.heap.size w wx) := by rw [hwx]; exact HBx.out.drew
        replace HSO : Hid (StOwn bs wx (Sk) va vc fa fc) := by rw [hwx]; exact HSO.out.below (Below.refl _ _).drew
        replace HEx : Hid (Env wx) := by rw [hwx]; exact Lib.hid (HEx.out.on (Below.refl _ _).drew)
        have hzx : L ≤ wx.heap.size := by rw [hwx, hL]; exact Nat.le_refl _
        have HX8 : Hid (Bx L none (.cells #[.int .i64 0, .int .i64 0, .int .i64 0, .int .i64 0, .int .i64 0, .int .i64 0, .int .i64 0, .int .i64 0, .slice none 0 0, .int .i64 0, .int .i64 0, .slice none 0 0] 28 (0, 0)) wx) := Bx.none
        have HX9 : Hid (Bx L none (.cells #[.int .i64 0, .int .i64 0, .slice none 0 0] 38 (0, 0)) wx) := Bx.none
        clear hwx hL hzr
        refine wpAnyL_three 5 10 11 (by kernel_rfl) ?_ ?_ ?_
        · refine ComesUp.mk rfl (fun K hK => ?_)
          go_simp
          refine (do_at (s := Sk) (r := reqPut 2 ky vv 0) (va := va) (vc := vc) (fa := fa) (fc := fc) (ka := none) (kc := 0) HEx (Lib.hid HSO.out.at) (RowsAt.nil _ _ _ _) (Nat.zero_le _) (by show _ ≤ 1000; exact HKS.out) rfl rfl).mono ?_
          rw [HD1.out]
          rintro e wn ⟨va', vc', fa', fc', ha', hc', rfl, hso, -, hbn⟩
          obtain ⟨bn, hbs'⟩ : ∃ b, b = wx.heap.size := ⟨_, rfl⟩
          rw [← hbs'] at hso
          have HSN := Lib.hid hso
          have hbn1 : B10 < bn := by omega
          clear hso hbs'
          replace HX8 := Lib.hid (HX8.out.below hbn)
          replace HX9 := Lib.hid (HX9.out.below hbn)
          replace R10 := Lib.hid ((hbn.block B10 (by omega)).trans R10.out)
          replace HEx := Lib.hid (HEx.out.on hbn)
          replace HBx := Lib.hid (HBx.out.trans (hbn.mono HBx.out.size))
          have hzn : L ≤ wn.heap.size := by have := hbn.size; omega
          clear HSO
          refine hK.out _ _ R10.out ?_
          clear hK K hHeld hbn hzx 
          intro hHeld
          walk_nrm
          refine wpAnyL_take (i := 6) (v := ?_) rfl (by kernel_rfl) (fun _ _ _ h => h) (Or.inl ⟨by rfl, ?_⟩) (by assumption) ?_
          rotate_left
          · intro wS hSw; go_simp <;> with_reducible rfl
          walk_nrm
          refine wpAnyL_take (i := 7) (v := ?_) rfl (by kernel_rfl) (fun _ _ _ h => h) (Or.inl ⟨by rfl, ?_⟩) (by assumption) ?_
          rotate_left
          · intro wS hSw; go_simp <;> with_reducible rfl
          walk_nrm
          refine wpAnyL_take (i := 8) (v := ?_) rfl (by kernel_rfl) (fun _ _ _ h => h) (Or.inl ⟨by rfl, ?_⟩) (by assumption) ?_
          rotate_left
          · intro wS hSw; go_simp <;> with_reducible rfl
          walk_nrm
          refine wpAnyL_take (i := 9) (v := ?_) rfl (by kernel_rfl) (fun _ _ _ h => h) (Or.inl ⟨by rfl, ?_⟩) (by assumption) ?_
          rotate_left
          · intro wS hSw; go_simp <;> with_reducible rfl
          walk_nrm
          clear wx
          obtain ⟨wx, rfl⟩ : ∃ wx : World, wx = wn := ⟨_, rfl⟩
          have hzx := hzn
          clear hzn
          refine wpAnyL_two 10 11 (by kernel_rfl) ?_ ?_
          · refine ComesUp.mk rfl (fun K hK => ?_)
            go_simp
            obtain ⟨wn, hwn⟩ : ∃ wn, wn = wx.alloc (.cells #[.int .i64 0, .int .i64 0, .int .i64 0, .int .i64 0, .int .i64 0, .int .i64 0, .int .i64 0, .int .i64 0, .slice none 0 0, .int .i64 0, .int .i64 0, .slice none 0 0] 28) := ⟨_, rfl⟩
            obtain ⟨b8, hb8⟩ : ∃ b, b = wx.heap.size := ⟨_, rfl⟩
            rw [← hwn, ← hb8]
            have hbn := below_new hwn
            replace HX8 : Hid (Bx L (some b8) (.cells #[.int .i64 0, .int .i64 0, .int .i64 0, .int .i64 0, .int .i64 0, .int .i64 0, .int .i64 0, .int .i64 0, .slice none 0 0, .int .i64 0, .int .i64 0, .slice none 0 0] 28 (0, 0)) wn) := by rw [hb8]; exact Bx.new hwn hzx
            replace HX9 := Lib.hid (HX9.out.below hbn)
            replace R10 := Lib.hid ((hbn.block B10 (by omega)).trans R10.out)
            replace HEx := Lib.hid (HEx.out.on hbn)
            replace HBx := Lib.hid (HBx.out.trans (hbn.mono HBx.out.size))
            try replace HSO := Lib.hid (HSO.out.below hbn)
            try replace HSN := Lib.hid (HSN.out.below hbn)
            have hzn : L ≤ wn.heap.size := by have := hbn.size; omega
            refine hK.out _ _ R10.out ?_
            clear hK K hHeld hbn hzx hwn hb8
            intro hHeld
            walk_nrm
            clear wx
            obtain ⟨wx, rfl⟩ : ∃ wx : World, wx = wn := ⟨_, rfl⟩
            have hzx := hzn
            clear hzn
            refine wpAnyL_one 11 (by kernel_rfl) ?_
            · refine ComesUp.mk rfl (fun K hK => ?_)
              go_simp
              obtain ⟨wn, hwn⟩ : ∃ wn, wn = wx.alloc (.cells #[.int .i64 0, .int .i64 0, .slice none 0 0] 38) := ⟨_, rfl⟩
              obtain ⟨b9, hb9⟩ : ∃ b, b = wx.heap.size := ⟨_, rfl⟩
              rw [← hwn, ← hb9]
              have hbn := below_new hwn
              replace HX8 := Lib.hid (HX8.out.below hbn)
              replace HX9 : Hid (Bx L (some b9) (.cells #[.int .i64 0, .int .i64 0, .slice none 0 0] 38 (0, 0)) wn) := by rw [hb9]; exact Bx.new hwn hzx
              replace R10 := Lib.hid ((hbn.block B10 (by omega)).trans R10.out)
              replace HEx := Lib.hid (HEx.out.on hbn)
              replace HBx := Lib.hid (HBx.out.trans (hbn.mono HBx.out.size))
              try replace HSO := Lib.hid (HSO.out.below hbn)
              try replace HSN := Lib.hid (HSN.out.below hbn)
              have hzn : L ≤ wn.heap.size := by have := hbn.size; omega
              refine hK.out _ _ R10.out ?_
              clear hK K hHeld hbn hzx hwn hb9
              intro hHeld
              walk_nrm
              clear wx
              obtain ⟨wx, rfl⟩ : ∃ wx : World, wx = wn := ⟨_, rfl⟩
              have hzx := hzn
              clear hzn
              refine wpAnyL_one 12 (by kernel_rfl) ?_
              · refine ComesUp.mk rfl (fun K hK => ?_)
                rw [if_pos (by rfl)]
                have h8 := HX8.out b8 rfl
                refine wp_store_row 28 _ _ rfl b8 _ rfl rfl _ _ h8.2 storeSize rfl (store_one _ _ _ _ _) ?_
                have n8 : b8 ≠ B10 := by omega
                obtain ⟨wn, hwn⟩ : ∃ wn, wn = wx.setRow b8 (storeV Sn va' vc' fa' fc') := ⟨_, rfl⟩
                rw [← hwn]
                replace HX8 : Hid (Bx L (some b8) (.cells (storeV Sn va' vc' fa' fc') 28 (0, 0)) wn) := fun b hb => by cases hb; exact ⟨h8.1, by rw [hwn]; exact setRow_heap _ _ _ _ _ _ h8.2⟩
                replace HX9 : Hid (Bx L (some b9) (.cells (#[.int .i64 0, .int .i64 0, .slice none 0 0]) 38 (0, 0)) wn) := fun b hb => by cases hb; exact ⟨(HX9.out b9 rfl).1, by rw [hwn]; exact (setRow_other _ _ _ _ (blk_ne (HX9.out b9 rfl).2 h8.2 (by decide))).trans (HX9.out b9 rfl).2⟩
                replace R10 : Hid (wn.heap[B10]? = some (.cells (storeV (Sk) va vc fa fc) 28 (0, 0))) := by show wn.heap[B10]? = _; rw [hwn]; exact (setRow_other _ _ _ _ (Ne.symm n8)).trans R10.out
                have hbn : Below w.heap.size wx wn := by rw [hwn]; exact Below.setRow _ b8 _ (by omega)
                replace HSN : Hid (StOwn bn wn (Sn) va' vc' fa' fc') := by rw [hwn]; exact HSN.out.setT h8.2 (by decide) (by decide) (by decide)
                replace HEx := Lib.hid (HEx.out.below HE.out.globs hbn)
                replace HBx := Lib.hid (HBx.out.trans hbn)
                have hzn : L ≤ wn.heap.size := by have := hbn.size; omega
                refine hK.out _ _ R10.out ?_
                clear hK K hHeld hbn hzx hwn h8 n8
                intro hHeld
                walk_nrm
                clear wx
                obtain ⟨wx, rfl⟩ : ∃ wx : World, wx = wn := ⟨_, rfl⟩
                have hzx := hzn
                clear hzn
                refine wpAnyL_one 13 (by kernel_rfl) ?_
                refine ComesUp.mk rfl (fun K hK => ?_)
                rw [if_pos (by rfl)]
                have h9 := HX9.out b9 rfl
                refine wp_store_row 38 _ _ rfl b9 _ rfl rfl _ _ h9.2 replySize rfl (reply_one _ _ _) ?_
                have n9 : b9 ≠ B10 := by omega
                obtain ⟨wn, hwn⟩ : ∃ wn, wn = wx.setRow b9 (replyCells ⟨2, 0, []⟩ ha' hc') := ⟨_, rfl⟩
                rw [← hwn]
                replace HX8 : Hid (Bx L (some b8) (.cells (storeV Sn va' vc' fa' fc') 28 (0, 0)) wn) := fun b hb => by cases hb; exact ⟨(HX8.out b8 rfl).1, by rw [hwn]; exact (setRow_other _ _ _ _ (blk_ne (HX8.out b8 rfl).2 h9.2 (by decide))).trans (HX8.out b8 rfl).2⟩
                replace HX9 : Hid (Bx L (some b9) (.cells (replyCells ⟨2, 0, []⟩ ha' hc') 38 (0, 0)) wn) := fun b hb => by cases hb; exact ⟨h9.1, by rw [hwn]; exact setRow_heap _ _ _ _ _ _ h9.2⟩
                replace R10 : Hid (wn.heap[B10]? = some (.cells (storeV (Sk) va vc fa fc) 28 (0, 0))) := by show wn.heap[B10]? = _; rw [hwn]; exact (setRow_other _ _ _ _ (Ne.symm n9)).trans R10.out
                have hbn : Below w.heap.size wx wn := by rw [hwn]; exact Below.setRow _ b9 _ (by omega)
                replace HSN : Hid (StOwn bn wn (Sn) va' vc' fa' fc') := by rw [hwn]; exact HSN.out.setT h9.2 (by decide) (by decide) (by decide)
                replace HEx := Lib.hid (HEx.out.below HE.out.globs hbn)
                replace HBx := Lib.hid (HBx.out.trans hbn)
                have hzn : L ≤ wn.heap.size := by have := hbn.size; omega
                refine hK.out _ _ R10.out ?_
                clear hK K hHeld hbn hzx hwn h9 n9
                intro hHeld
                walk_nrm
                clear wx
                obtain ⟨wx, rfl⟩ : ∃ wx : World, wx = wn := ⟨_, rfl⟩
                have hzx := hzn
                clear hzn
                refine wpAnyL_last rfl (by kernel_rfl) (fun K hK => ?_)
                go_simp
                refine hK.out _ _ ?_
                clear hK K
                walk_nrm
                refine wpAnyL_done (by kernel_rfl) ?_ _
                go_wp2_with fail
                go_meet
                exact ⟨b8, b9, va', vc', fa', fc', ha', hc', bn, rfl, rfl, rfl, hbn1, (by have := (HX8.out b8 rfl).1; omega), (by omega), HBx, HEx, R10, HSN, (HX8.out b8 rfl).2, (HX9.out b9 rfl).2⟩
          · refine ComesUp.mk rfl (fun K hK => ?_)
            go_simp
            obtain ⟨wn, hwn⟩ : ∃ wn, wn = wx.alloc (.cells #[.int .i64 0, .int .i64 0, .slice none 0 0] 38) := ⟨_, rfl⟩
            obtain ⟨b9, hb9⟩ : ∃ b, b = wx.heap.size := ⟨_, rfl⟩
            rw [← hwn, ← hb9]
            have hbn := below_new hwn
            replace HX8 := Lib.hid (HX8.out.below hbn)
            replace HX9 : Hid (Bx L (some b9) (.cells #[.int .i64 0, .int .i64 0, .slice none 0 0] 38 (0, 0)) wn) := by rw [hb9]; exact Bx.new hwn hzx
            replace R10 := Lib.hid ((hbn.block B10 (by omega)).trans R10.out)
            replace HEx := Lib.hid (HEx.out.on hbn)
            replace HBx := Lib.hid (HBx.out.trans (hbn.mono HBx.out.size))
            try replace HSO := Lib.hid (HSO.out.below hbn)
            try replace HSN := Lib.hid (HSN.out.below hbn)
            have hzn : L ≤ wn.heap.size := by have := hbn.size; omega
            refine hK.out _ _ R10.out ?_
            clear hK K hHeld hbn hzx hwn hb9
            intro hHeld
            walk_nrm
            clear wx
            obtain ⟨wx, rfl⟩ : ∃ wx : World, wx = wn := ⟨_, rfl⟩
            have hzx := hzn
            clear hzn
            refine wpAnyL_one 10 (by kernel_rfl) ?_
            · refine ComesUp.mk rfl (fun K hK => ?_)
              go_simp
              obtain ⟨wn, hwn⟩ : ∃ wn, wn = wx.alloc (.cells #[.int .i64 0, .int .i64 0, .int .i64 0, .int .i64 0, .int .i64 0, .int .i64 0, .int .i64 0, .int .i64 0, .slice none 0 0, .int .i64 0, .int .i64 0, .slice none 0 0] 28) := ⟨_, rfl⟩
              obtain ⟨b8, hb8⟩ : ∃ b, b = wx.heap.size := ⟨_, rfl⟩
              rw [← hwn, ← hb8]
              have hbn := below_new hwn
              replace HX8 : Hid (Bx L (some b8) (.cells #[.int .i64 0, .int .i64 0, .int .i64 0, .int .i64 0, .int .i64 0, .int .i64 0, .int .i64 0, .int .i64 0, .slice none 0 0, .int .i64 0, .int .i64 0, .slice none 0 0] 28 (0, 0)) wn) := by rw [hb8]; exact Bx.new hwn hzx
              replace HX9 := Lib.hid (HX9.out.below hbn)
              replace R10 := Lib.hid ((hbn.block B10 (by omega)).trans R10.out)
              replace HEx := Lib.hid (HEx.out.on hbn)
              replace HBx := Lib.hid (HBx.out.trans (hbn.mono HBx.out.size))
              try replace HSO := Lib.hid (HSO.out.below hbn)
              try replace HSN := Lib.hid (HSN.out.below hbn)
              have hzn : L ≤ wn.heap.size := by have := hbn.size; omega
              refine hK.out _ _ R10.out ?_
              clear hK K hHeld hbn hzx hwn hb8
              intro hHeld
              walk_nrm
              clear wx
              obtain ⟨wx, rfl⟩ : ∃ wx : World, wx = wn := ⟨_, rfl⟩
              have hzx := hzn
              clear hzn
              refine wpAnyL_one 12 (by kernel_rfl) ?_
              · refine ComesUp.mk rfl (fun K hK => ?_)
                rw [if_pos (by rfl)]
                have h8 := HX8.out b8 rfl
                refine wp_store_row 28 _ _ rfl b8 _ rfl rfl _ _ h8.2 storeSize rfl (store_one _ _ _ _ _) ?_
                have n8 : b8 ≠ B10 := by omega
                obtain ⟨wn, hwn⟩ : ∃ wn, wn = wx.setRow b8 (storeV Sn va' vc' fa' fc') := ⟨_, rfl⟩
                rw [← hwn]
                replace HX8 : Hid (Bx L (some b8) (.cells (storeV Sn va' vc' fa' fc') 28 (0, 0)) wn) := fun b hb => by cases hb; exact ⟨h8.1, by rw [hwn]; exact setRow_heap _ _ _ _ _ _ h8.2⟩
                replace HX9 : Hid (Bx L (some b9) (.cells (#[.int .i64 0, .int .i64 0, .slice none 0 0]) 38 (0, 0)) wn) := fun b hb => by cases hb; exact ⟨(HX9.out b9 rfl).1, by rw [hwn]; exact (setRow_other _ _ _ _ (blk_ne (HX9.out b9 rfl).2 h8.2 (by decide))).trans (HX9.out b9 rfl).2⟩
                replace R10 : Hid (wn.heap[B10]? = some (.cells (storeV (Sk) va vc fa fc) 28 (0, 0))) := by show wn.heap[B10]? = _; rw [hwn]; exact (setRow_other _ _ _ _ (Ne.symm n8)).trans R10.out
                have hbn : Below w.heap.size wx wn := by rw [hwn]; exact Below.setRow _ b8 _ (by omega)
                replace HSN : Hid (StOwn bn wn (Sn) va' vc' fa' fc') := by rw [hwn]; exact HSN.out.setT h8.2 (by decide) (by decide) (by decide)
                replace HEx := Lib.hid (HEx.out.below HE.out.globs hbn)
                replace HBx := Lib.hid (HBx.out.trans hbn)
                have hzn : L ≤ wn.heap.size := by have := hbn.size; omega
                refine hK.out _ _ R10.out ?_
                clear hK K hHeld hbn hzx hwn h8 n8
                intro hHeld
                walk_nrm
                clear wx
                obtain ⟨wx, rfl⟩ : ∃ wx : World, wx = wn := ⟨_, rfl⟩
                have hzx := hzn
                clear hzn
                refine wpAnyL_one 13 (by kernel_rfl) ?_
                refine ComesUp.mk rfl (fun K hK => ?_)
                rw [if_pos (by rfl)]
                have h9 := HX9.out b9 rfl
                refine wp_store_row 38 _ _ rfl b9 _ rfl rfl _ _ h9.2 replySize rfl (reply_one _ _ _) ?_
                have n9 : b9 ≠ B10 := by omega
                obtain ⟨wn, hwn⟩ : ∃ wn, wn = wx.setRow b9 (replyCells ⟨2, 0, []⟩ ha' hc') := ⟨_, rfl⟩
                rw [← hwn]
                replace HX8 : Hid (Bx L (some b8) (.cells (storeV Sn va' vc' fa' fc') 28 (0, 0)) wn) := fun b hb => by cases hb; exact ⟨(HX8.out b8 rfl).1, by rw [hwn]; exact (setRow_other _ _ _ _ (blk_ne (HX8.out b8 rfl).2 h9.2 (by decide))).trans (HX8.out b8 rfl).2⟩
                replace HX9 : Hid (Bx L (some b9) (.cells (replyCells ⟨2, 0, []⟩ ha' hc') 38 (0, 0)) wn) := fun b hb => by cases hb; exact ⟨h9.1, by rw [hwn]; exact setRow_heap _ _ _ _ _ _ h9.2⟩
                replace R10 : Hid (wn.heap[B10]? = some (.cells (storeV (Sk) va vc fa fc) 28 (0, 0))) := by show wn.heap[B10]? = _; rw [hwn]; exact (setRow_other _ _ _ _ (Ne.symm n9)).trans R10.out
                have hbn : Below w.heap.size wx wn := by rw [hwn]; exact Below.setRow _ b9 _ (by omega)
                replace HSN : Hid (StOwn bn wn (Sn) va' vc' fa' fc') := by rw [hwn]; exact HSN.out.setT h9.2 (by decide) (by decide) (by decide)
                replace HEx := Lib.hid (HEx.out.below HE.out.globs hbn)
                replace HBx := Lib.hid (HBx.out.trans hbn)
                have hzn : L ≤ wn.heap.size := by have := hbn.size; omega
                refine hK.out _ _ R10.out ?_
                clear hK K hHeld hbn hzx hwn h9 n9
                intro hHeld
                walk_nrm
                clear wx
                obtain ⟨wx, rfl⟩ : ∃ wx : World, wx = wn := ⟨_, rfl⟩
                have hzx := hzn
                clear hzn
                refine wpAnyL_last rfl (by kernel_rfl) (fun K hK => ?_)
                go_simp
                refine hK.out _ _ ?_
                clear hK K
                walk_nrm
                refine wpAnyL_done (by kernel_rfl) ?_ _
                go_wp2_with fail
                go_meet
                exact ⟨b8, b9, va', vc', fa', fc', ha', hc', bn, rfl, rfl, rfl, hbn1, (by have := (HX8.out b8 rfl).1; omega), (by omega), HBx, HEx, R10, HSN, (HX8.out b8 rfl).2, (HX9.out b9 rfl).2⟩
        · refine ComesUp.mk rfl (fun K hK => ?_)
          go_simp
          obtain ⟨wn, hwn⟩ : ∃ wn, wn = wx.alloc (.cells #[.int .i64 0, .int .i64 0, .int .i64 0, .int .i64 0, .int .i64 0, .int .i64 0, .int .i64 0, .int .i64 0, .slice none 0 0, .int .i64 0, .int .i64 0, .slice none 0 0] 28) := ⟨_, rfl⟩
          obtain ⟨b8, hb8⟩ : ∃ b, b = wx.heap.size := ⟨_, rfl⟩
          rw [← hwn, ← hb8]
          have hbn := below_new hwn
          replace HX8 : Hid (Bx L (some b8) (.cells #[.int .i64 0, .int .i64 0, .int .i64 0, .int .i64 0, .int .i64 0, .int .i64 0, .int .i64 0, .int .i64 0, .slice none 0 0, .int .i64 0, .int .i64 0, .slice none 0 0] 28 (0, 0)) wn) := by rw [hb8]; exact Bx.new hwn hzx
          replace HX9 := Lib.hid (HX9.out.below hbn)
          replace R10 := Lib.hid ((hbn.block B10 (by omega)).trans R10.out)
          replace HEx := Lib.hid (HEx.out.on hbn)
          replace HBx := Lib.hid (HBx.out.trans (hbn.mono HBx.out.size))
          try replace HSO := Lib.hid (HSO.out.below hbn)
          try replace HSN := Lib.hid (HSN.out.below hbn)
          have hzn : L ≤ wn.heap.size := by have := hbn.size; omega
          refine hK.out _ _ R10.out ?_
          clear hK K hHeld hbn hzx hwn hb8
          intro hHeld
          walk_nrm
          clear wx
          obtain ⟨wx, rfl⟩ : ∃ wx : World, wx = wn := ⟨_, rfl⟩
          have hzx := hzn
          clear hzn
          refine wpAnyL_two 5 11 (by kernel_rfl) ?_ ?_
          · refine ComesUp.mk rfl (fun K hK => ?_)
            go_simp
            refine (do_at (s := Sk) (r := reqPut 2 ky vv 0) (va := va) (vc := vc) (fa := fa) (fc := fc) (ka := none) (kc := 0) HEx (Lib.hid HSO.out.at) (RowsAt.nil _ _ _ _) (Nat.zero_le _) (by show _ ≤ 1000; exact HKS.out) rfl rfl).mono ?_
            rw [HD1.out]
            rintro e wn ⟨va', vc', fa', fc', ha', hc', rfl, hso, -, hbn⟩
            obtain ⟨bn, hbs'⟩ : ∃ b, b = wx.heap.size := ⟨_, rfl⟩
            rw [← hbs'] at hso
            have HSN := Lib.hid hso
            have hbn1 : B10 < bn := by omega
            clear hso hbs'
            replace HX8 := Lib.hid (HX8.out.below hbn)
            replace HX9 := Lib.hid (HX9.out.below hbn)
            replace R10 := Lib.hid ((hbn.block B10 (by omega)).trans R10.out)
            replace HEx := Lib.hid (HEx.out.on hbn)
            replace HBx := Lib.hid (HBx.out.trans (hbn.mono HBx.out.size))
            have hzn : L ≤ wn.heap.size := by have := hbn.size; omega
            clear HSO
            refine hK.out _ _ R10.out ?_
            clear hK K hHeld hbn hzx 
            intro hHeld
            walk_nrm
            refine wpAnyL_take (i := 6) (v := ?_) rfl (by kernel_rfl) (fun _ _ _ h => h) (Or.inl ⟨by rfl, ?_⟩) (by assumption) ?_
            rotate_left
            · intro wS hSw; go_simp <;> with_reducible rfl
            walk_nrm
            refine wpAnyL_take (i := 7) (v := ?_) rfl (by kernel_rfl) (fun _ _ _ h => h) (Or.inl ⟨by rfl, ?_⟩) (by assumption) ?_
            rotate_left
            · intro wS hSw; go_simp <;> with_reducible rfl
            walk_nrm
            refine wpAnyL_take (i := 8) (v := ?_) rfl (by kernel_rfl) (fun _ _ _ h => h) (Or.inl ⟨by rfl, ?_⟩) (by assumption) ?_
            rotate_left
            · intro wS hSw; go_simp <;> with_reducible rfl
            walk_nrm
            refine wpAnyL_take (i := 9) (v := ?_) rfl (by kernel_rfl) (fun _ _ _ h => h) (Or.inl ⟨by rfl, ?_⟩) (by assumption) ?_
            rotate_left
            · intro wS hSw; go_simp <;> with_reducible rfl
            walk_nrm
            clear wx
            obtain ⟨wx, rfl⟩ : ∃ wx : World, wx = wn := ⟨_, rfl⟩
            have hzx := hzn
            clear hzn
            refine wpAnyL_one 11 (by kernel_rfl) ?_
            · refine ComesUp.mk rfl (fun K hK => ?_)
              go_simp
              obtain ⟨wn, hwn⟩ : ∃ wn, wn = wx.alloc (.cells #[.int .i64 0, .int .i64 0, .slice none 0 0] 38) := ⟨_, rfl⟩
              obtain ⟨b9, hb9⟩ : ∃ b, b = wx.heap.size := ⟨_, rfl⟩
              rw [← hwn, ← hb9]
              have hbn := below_new hwn
              replace HX8 := Lib.hid (HX8.out.below hbn)
              replace HX9 : Hid (Bx L (some b9) (.cells #[.int .i64 0, .int .i64 0, .slice none 0 0] 38 (0, 0)) wn) := by rw [hb9]; exact Bx.new hwn hzx
              replace R10 := Lib.hid ((hbn.block B10 (by omega)).trans R10.out)
              replace HEx := Lib.hid (HEx.out.on hbn)
              replace HBx := Lib.hid (HBx.out.trans (hbn.mono HBx.out.size))
              try replace HSO := Lib.hid (HSO.out.below hbn)
              try replace HSN := Lib.hid (HSN.out.below hbn)
              have hzn : L ≤ wn.heap.size := by have := hbn.size; omega
              refine hK.out _ _ R10.out ?_
              clear hK K hHeld hbn hzx hwn hb9
              intro hHeld
              walk_nrm
              clear wx
              obtain ⟨wx, rfl⟩ : ∃ wx : World, wx = wn := ⟨_, rfl⟩
              have hzx := hzn
              clear hzn
              refine wpAnyL_one 12 (by kernel_rfl) ?_
              · refine ComesUp.mk rfl (fun K hK => ?_)
                rw [if_pos (by rfl)]
                have h8 := HX8.out b8 rfl
                refine wp_store_row 28 _ _ rfl b8 _ rfl rfl _ _ h8.2 storeSize rfl (store_one _ _ _ _ _) ?_
                have n8 : b8 ≠ B10 := by omega
                obtain ⟨wn, hwn⟩ : ∃ wn, wn = wx.setRow b8 (storeV Sn va' vc' fa' fc') := ⟨_, rfl⟩
                rw [← hwn]
                replace HX8 : Hid (Bx L (some b8) (.cells (storeV Sn va' vc' fa' fc') 28 (0, 0)) wn) := fun b hb => by cases hb; exact ⟨h8.1, by rw [hwn]; exact setRow_heap _ _ _ _ _ _ h8.2⟩
                replace HX9 : Hid (Bx L (some b9) (.cells (#[.int .i64 0, .int .i64 0, .slice none 0 0]) 38 (0, 0)) wn) := fun b hb => by cases hb; exact ⟨(HX9.out b9 rfl).1, by rw [hwn]; exact (setRow_other _ _ _ _ (blk_ne (HX9.out b9 rfl).2 h8.2 (by decide))).trans (HX9.out b9 rfl).2⟩
                replace R10 : Hid (wn.heap[B10]? = some (.cells (storeV (Sk) va vc fa fc) 28 (0, 0))) := by show wn.heap[B10]? = _; rw [hwn]; exact (setRow_other _ _ _ _ (Ne.symm n8)).trans R10.out
                have hbn : Below w.heap.size wx wn := by rw [hwn]; exact Below.setRow _ b8 _ (by omega)
                replace HSN : Hid (StOwn bn wn (Sn) va' vc' fa' fc') := by rw [hwn]; exact HSN.out.setT h8.2 (by decide) (by decide) (by decide)
                replace HEx := Lib.hid (HEx.out.below HE.out.globs hbn)
                replace HBx := Lib.hid (HBx.out.trans hbn)
                have hzn : L ≤ wn.heap.size := by have := hbn.size; omega
                refine hK.out _ _ R10.out ?_
                clear hK K hHeld hbn hzx hwn h8 n8
                intro hHeld
                walk_nrm
                clear wx
                obtain ⟨wx, rfl⟩ : ∃ wx : World, wx = wn := ⟨_, rfl⟩
                have hzx := hzn
                clear hzn
                refine wpAnyL_one 13 (by kernel_rfl) ?_
                refine ComesUp.mk rfl (fun K hK => ?_)
                rw [if_pos (by rfl)]
                have h9 := HX9.out b9 rfl
                refine wp_store_row 38 _ _ rfl b9 _ rfl rfl _ _ h9.2 replySize rfl (reply_one _ _ _) ?_
                have n9 : b9 ≠ B10 := by omega
                obtain ⟨wn, hwn⟩ : ∃ wn, wn = wx.setRow b9 (replyCells ⟨2, 0, []⟩ ha' hc') := ⟨_, rfl⟩
                rw [← hwn]
                replace HX8 : Hid (Bx L (some b8) (.cells (storeV Sn va' vc' fa' fc') 28 (0, 0)) wn) := fun b hb => by cases hb; exact ⟨(HX8.out b8 rfl).1, by rw [hwn]; exact (setRow_other _ _ _ _ (blk_ne (HX8.out b8 rfl).2 h9.2 (by decide))).trans (HX8.out b8 rfl).2⟩
                replace HX9 : Hid (Bx L (some b9) (.cells (replyCells ⟨2, 0, []⟩ ha' hc') 38 (0, 0)) wn) := fun b hb => by cases hb; exact ⟨h9.1, by rw [hwn]; exact setRow_heap _ _ _ _ _ _ h9.2⟩
                replace R10 : Hid (wn.heap[B10]? = some (.cells (storeV (Sk) va vc fa fc) 28 (0, 0))) := by show wn.heap[B10]? = _; rw [hwn]; exact (setRow_other _ _ _ _ (Ne.symm n9)).trans R10.out
                have hbn : Below w.heap.size wx wn := by rw [hwn]; exact Below.setRow _ b9 _ (by omega)
                replace HSN : Hid (StOwn bn wn (Sn) va' vc' fa' fc') := by rw [hwn]; exact HSN.out.setT h9.2 (by decide) (by decide) (by decide)
                replace HEx := Lib.hid (HEx.out.below HE.out.globs hbn)
                replace HBx := Lib.hid (HBx.out.trans hbn)
                have hzn : L ≤ wn.heap.size := by have := hbn.size; omega
                refine hK.out _ _ R10.out ?_
                clear hK K hHeld hbn hzx hwn h9 n9
                intro hHeld
                walk_nrm
                clear wx
                obtain ⟨wx, rfl⟩ : ∃ wx : World, wx = wn := ⟨_, rfl⟩
                have hzx := hzn
                clear hzn
                refine wpAnyL_last rfl (by kernel_rfl) (fun K hK => ?_)
                go_simp
                refine hK.out _ _ ?_
                clear hK K
                walk_nrm
                refine wpAnyL_done (by kernel_rfl) ?_ _
                go_wp2_with fail
                go_meet
                exact ⟨b8, b9, va', vc', fa', fc', ha', hc', bn, rfl, rfl, rfl, hbn1, (by have := (HX8.out b8 rfl).1; omega), (by omega), HBx, HEx, R10, HSN, (HX8.out b8 rfl).2, (HX9.out b9 rfl).2⟩
          · refine ComesUp.mk rfl (fun K hK => ?_)
            go_simp
            obtain ⟨wn, hwn⟩ : ∃ wn, wn = wx.alloc (.cells #[.int .i64 0, .int .i64 0, .slice none 0 0] 38) := ⟨_, rfl⟩
            obtain ⟨b9, hb9⟩ : ∃ b, b = wx.heap.size := ⟨_, rfl⟩
            rw [← hwn, ← hb9]
            have hbn := below_new hwn
            replace HX8 := Lib.hid (HX8.out.below hbn)
            replace HX9 : Hid (Bx L (some b9) (.cells #[.int .i64 0, .int .i64 0, .slice none 0 0] 38 (0, 0)) wn) := by rw [hb9]; exact Bx.new hwn hzx
            replace R10 := Lib.hid ((hbn.block B10 (by omega)).trans R10.out)
            replace HEx := Lib.hid (HEx.out.on hbn)
            replace HBx := Lib.hid (HBx.out.trans (hbn.mono HBx.out.size))
            try replace HSO := Lib.hid (HSO.out.below hbn)
            try replace HSN := Lib.hid (HSN.out.below hbn)
            have hzn : L ≤ wn.heap.size := by have := hbn.size; omega
            refine hK.out _ _ R10.out ?_
            clear hK K hHeld hbn hzx hwn hb9
            intro hHeld
            walk_nrm
            clear wx
            obtain ⟨wx, rfl⟩ : ∃ wx : World, wx = wn := ⟨_, rfl⟩
            have hzx := hzn
            clear hzn
            refine wpAnyL_one 5 (by kernel_rfl) ?_
            · refine ComesUp.mk rfl (fun K hK => ?_)
              go_simp
              refine (do_at (s := Sk) (r := reqPut 2 ky vv 0) (va := va) (vc := vc) (fa := fa) (fc := fc) (ka := none) (kc := 0) HEx (Lib.hid HSO.out.at) (RowsAt.nil _ _ _ _) (Nat.zero_le _) (by show _ ≤ 1000; exact HKS.out) rfl rfl).mono ?_
              rw [HD1.out]
              rintro e wn ⟨va', vc', fa', fc', ha', hc', rfl, hso, -, hbn⟩
              obtain ⟨bn, hbs'⟩ : ∃ b, b = wx.heap.size := ⟨_, rfl⟩
              rw [← hbs'] at hso
              have HSN := Lib.hid hso
              have hbn1 : B10 < bn := by omega
              clear hso hbs'
              replace HX8 := Lib.hid (HX8.out.below hbn)
              replace HX9 := Lib.hid (HX9.out.below hbn)
              replace R10 := Lib.hid ((hbn.block B10 (by omega)).trans R10.out)
              replace HEx := Lib.hid (HEx.out.on hbn)
              replace HBx := Lib.hid (HBx.out.trans (hbn.mono HBx.out.size))
              have hzn : L ≤ wn.heap.size := by have := hbn.size; omega
              clear HSO
              refine hK.out _ _ R10.out ?_
              clear hK K hHeld hbn hzx 
              intro hHeld
              walk_nrm
              refine wpAnyL_take (i := 6) (v := ?_) rfl (by kernel_rfl) (fun _ _ _ h => h) (Or.inl ⟨by rfl, ?_⟩) (by assumption) ?_
              rotate_left
              · intro wS hSw; go_simp <;> with_reducible rfl
              walk_nrm
              refine wpAnyL_take (i := 7) (v := ?_) rfl (by kernel_rfl) (fun _ _ _ h => h) (Or.inl ⟨by rfl, ?_⟩) (by assumption) ?_
              rotate_left
              · intro wS hSw; go_simp <;> with_reducible rfl
              walk_nrm
              refine wpAnyL_take (i := 8) (v := ?_) rfl (by kernel_rfl) (fun _ _ _ h => h) (Or.inl ⟨by rfl, ?_⟩) (by assumption) ?_
              rotate_left
              · intro wS hSw; go_simp <;> with_reducible rfl
              walk_nrm
              refine wpAnyL_take (i := 9) (v := ?_) rfl (by kernel_rfl) (fun _ _ _ h => h) (Or.inl ⟨by rfl, ?_⟩) (by assumption) ?_
              rotate_left
              · intro wS hSw; go_simp <;> with_reducible rfl
              walk_nrm
              clear wx
              obtain ⟨wx, rfl⟩ : ∃ wx : World, wx = wn := ⟨_, rfl⟩
              have hzx := hzn
              clear hzn
              refine wpAnyL_one 12 (by kernel_rfl) ?_
              · refine ComesUp.mk rfl (fun K hK => ?_)
                rw [if_pos (by rfl)]
                have h8 := HX8.out b8 rfl
                refine wp_store_row 28 _ _ rfl b8 _ rfl rfl _ _ h8.2 storeSize rfl (store_one _ _ _ _ _) ?_
                have n8 : b8 ≠ B10 := by omega
                obtain ⟨wn, hwn⟩ : ∃ wn, wn = wx.setRow b8 (storeV Sn va' vc' fa' fc') := ⟨_, rfl⟩
                rw [← hwn]
                replace HX8 : Hid (Bx L (some b8) (.cells (storeV Sn va' vc' fa' fc') 28 (0, 0)) wn) := fun b hb => by cases hb; exact ⟨h8.1, by rw [hwn]; exact setRow_heap _ _ _ _ _ _ h8.2⟩
                replace HX9 : Hid (Bx L (some b9) (.cells (#[.int .i64 0, .int .i64 0, .slice none 0 0]) 38 (0, 0)) wn) := fun b hb => by cases hb; exact ⟨(HX9.out b9 rfl).1, by rw [hwn]; exact (setRow_other _ _ _ _ (blk_ne (HX9.out b9 rfl).2 h8.2 (by decide))).trans (HX9.out b9 rfl).2⟩
                replace R10 : Hid (wn.heap[B10]? = some (.cells (storeV (Sk) va vc fa fc) 28 (0, 0))) := by show wn.heap[B10]? = _; rw [hwn]; exact (setRow_other _ _ _ _ (Ne.symm n8)).trans R10.out
                have hbn : Below w.heap.size wx wn := by rw [hwn]; exact Below.setRow _ b8 _ (by omega)
                replace HSN : Hid (StOwn bn wn (Sn) va' vc' fa' fc') := by rw [hwn]; exact HSN.out.setT h8.2 (by decide) (by decide) (by decide)
                replace HEx := Lib.hid (HEx.out.below HE.out.globs hbn)
                replace HBx := Lib.hid (HBx.out.trans hbn)
                have hzn : L ≤ wn.heap.size := by have := hbn.size; omega
                refine hK.out _ _ R10.out ?_
                clear hK K hHeld hbn hzx hwn h8 n8
                intro hHeld
                walk_nrm
                clear wx
                obtain ⟨wx, rfl⟩ : ∃ wx : World, wx = wn := ⟨_, rfl⟩
                have hzx := hzn
                clear hzn
                refine wpAnyL_one 13 (by kernel_rfl) ?_
                refine ComesUp.mk rfl (fun K hK => ?_)
                rw [if_pos (by rfl)]
                have h9 := HX9.out b9 rfl
                refine wp_store_row 38 _ _ rfl b9 _ rfl rfl _ _ h9.2 replySize rfl (reply_one _ _ _) ?_
                have n9 : b9 ≠ B10 := by omega
                obtain ⟨wn, hwn⟩ : ∃ wn, wn = wx.setRow b9 (replyCells ⟨2, 0, []⟩ ha' hc') := ⟨_, rfl⟩
                rw [← hwn]
                replace HX8 : Hid (Bx L (some b8) (.cells (storeV Sn va' vc' fa' fc') 28 (0, 0)) wn) := fun b hb => by cases hb; exact ⟨(HX8.out b8 rfl).1, by rw [hwn]; exact (setRow_other _ _ _ _ (blk_ne (HX8.out b8 rfl).2 h9.2 (by decide))).trans (HX8.out b8 rfl).2⟩
                replace HX9 : Hid (Bx L (some b9) (.cells (replyCells ⟨2, 0, []⟩ ha' hc') 38 (0, 0)) wn) := fun b hb => by cases hb; exact ⟨h9.1, by rw [hwn]; exact setRow_heap _ _ _ _ _ _ h9.2⟩
                replace R10 : Hid (wn.heap[B10]? = some (.cells (storeV (Sk) va vc fa fc) 28 (0, 0))) := by show wn.heap[B10]? = _; rw [hwn]; exact (setRow_other _ _ _ _ (Ne.symm n9)).trans R10.out
                have hbn : Below w.heap.size wx wn := by rw [hwn]; exact Below.setRow _ b9 _ (by omega)
                replace HSN : Hid (StOwn bn wn (Sn) va' vc' fa' fc') := by rw [hwn]; exact HSN.out.setT h9.2 (by decide) (by decide) (by decide)
                replace HEx := Lib.hid (HEx.out.below HE.out.globs hbn)
                replace HBx := Lib.hid (HBx.out.trans hbn)
                have hzn : L ≤ wn.heap.size := by have := hbn.size; omega
                refine hK.out _ _ R10.out ?_
                clear hK K hHeld hbn hzx hwn h9 n9
                intro hHeld
                walk_nrm
                clear wx
                obtain ⟨wx, rfl⟩ : ∃ wx : World, wx = wn := ⟨_, rfl⟩
                have hzx := hzn
                clear hzn
                refine wpAnyL_last rfl (by kernel_rfl) (fun K hK => ?_)
                go_simp
                refine hK.out _ _ ?_
                clear hK K
                walk_nrm
                refine wpAnyL_done (by kernel_rfl) ?_ _
                go_wp2_with fail
                go_meet
                exact ⟨b8, b9, va', vc', fa', fc', ha', hc', bn, rfl, rfl, rfl, hbn1, (by have := (HX8.out b8 rfl).1; omega), (by omega), HBx, HEx, R10, HSN, (HX8.out b8 rfl).2, (HX9.out b9 rfl).2⟩
        · refine ComesUp.mk rfl (fun K hK => ?_)
          go_simp
          obtain ⟨wn, hwn⟩ : ∃ wn, wn = wx.alloc (.cells #[.int .i64 0, .int .i64 0, .slice none 0 0] 38) := ⟨_, rfl⟩
          obtain ⟨b9, hb9⟩ : ∃ b, b = wx.heap.size := ⟨_, rfl⟩
          rw [← hwn, ← hb9]
          have hbn := below_new hwn
          replace HX8 := Lib.hid (HX8.out.below hbn)
          replace HX9 : Hid (Bx L (some b9) (.cells #[.int .i64 0, .int .i64 0, .slice none 0 0] 38 (0, 0)) wn) := by rw [hb9]; exact Bx.new hwn hzx
          replace R10 := Lib.hid ((hbn.block B10 (by omega)).trans R10.out)
          replace HEx := Lib.hid (HEx.out.on hbn)
          replace HBx := Lib.hid (HBx.out.trans (hbn.mono HBx.out.size))
          try replace HSO := Lib.hid (HSO.out.below hbn)
          try replace HSN := Lib.hid (HSN.out.below hbn)
          have hzn : L ≤ wn.heap.size := by have := hbn.size; omega
          refine hK.out _ _ R10.out ?_
          clear hK K hHeld hbn hzx hwn hb9
          intro hHeld
          walk_nrm
          clear wx
          obtain ⟨wx, rfl⟩ : ∃ wx : World, wx = wn := ⟨_, rfl⟩
          have hzx := hzn
          clear hzn
          refine wpAnyL_two 5 10 (by kernel_rfl) ?_ ?_
          · refine ComesUp.mk rfl (fun K hK => ?_)
            go_simp
            refine (do_at (s := Sk) (r := reqPut 2 ky vv 0) (va := va) (vc := vc) (fa := fa) (fc := fc) (ka := none) (kc := 0) HEx (Lib.hid HSO.out.at) (RowsAt.nil _ _ _ _) (Nat.zero_le _) (by show _ ≤ 1000; exact HKS.out) rfl rfl).mono ?_
            rw [HD1.out]
            rintro e wn ⟨va', vc', fa', fc', ha', hc', rfl, hso, -, hbn⟩
            obtain ⟨bn, hbs'⟩ : ∃ b, b = wx.heap.size := ⟨_, rfl⟩
            rw [← hbs'] at hso
            have HSN := Lib.hid hso
            have hbn1 : B10 < bn := by omega
            clear hso hbs'
            replace HX8 := Lib.hid (HX8.out.below hbn)
            replace HX9 := Lib.hid (HX9.out.below hbn)
            replace R10 := Lib.hid ((hbn.block B10 (by omega)).trans R10.out)
            replace HEx := Lib.hid (HEx.out.on hbn)
            replace HBx := Lib.hid (HBx.out.trans (hbn.mono HBx.out.size))
            have hzn : L ≤ wn.heap.size := by have := hbn.size; omega
            clear HSO
            refine hK.out _ _ R10.out ?_
            clear hK K hHeld hbn hzx 
            intro hHeld
            walk_nrm
            refine wpAnyL_take (i := 6) (v := ?_) rfl (by kernel_rfl) (fun _ _ _ h => h) (Or.inl ⟨by rfl, ?_⟩) (by assumption) ?_
            rotate_left
            · intro wS hSw; go_simp <;> with_reducible rfl
            walk_nrm
            refine wpAnyL_take (i := 7) (v := ?_) rfl (by kernel_rfl) (fun _ _ _ h => h) (Or.inl ⟨by rfl, ?_⟩) (by assumption) ?_
            rotate_left
            · intro wS hSw; go_simp <;> with_reducible rfl
            walk_nrm
            refine wpAnyL_take (i := 8) (v := ?_) rfl (by kernel_rfl) (fun _ _ _ h => h) (Or.inl ⟨by rfl, ?_⟩) (by assumption) ?_
            rotate_left
            · intro wS hSw; go_simp <;> with_reducible rfl
            walk_nrm
            refine wpAnyL_take (i := 9) (v := ?_) rfl (by kernel_rfl) (fun _ _ _ h => h) (Or.inl ⟨by rfl, ?_⟩) (by assumption) ?_
            rotate_left
            · intro wS hSw; go_simp <;> with_reducible rfl
            walk_nrm
            clear wx
            obtain ⟨wx, rfl⟩ : ∃ wx : World, wx = wn := ⟨_, rfl⟩
            have hzx := hzn
            clear hzn
            refine wpAnyL_one 10 (by kernel_rfl) ?_
            · refine ComesUp.mk rfl (fun K hK => ?_)
              go_simp
              obtain ⟨wn, hwn⟩ : ∃ wn, wn = wx.alloc (.cells #[.int .i64 0, .int .i64 0, .int .i64 0, .int .i64 0, .int .i64 0, .int .i64 0, .int .i64 0, .int .i64 0, .slice none 0 0, .int .i64 0, .int .i64 0, .slice none 0 0] 28) := ⟨_, rfl⟩
              obtain ⟨b8, hb8⟩ : ∃ b, b = wx.heap.size := ⟨_, rfl⟩
              rw [← hwn, ← hb8]
              have hbn := below_new hwn
              replace HX8 : Hid (Bx L (some b8) (.cells #[.int .i64 0, .int .i64 0, .int .i64 0, .int .i64 0, .int .i64 0, .int .i64 0, .int .i64 0, .int .i64 0, .slice none 0 0, .int .i64 0, .int .i64 0, .slice none 0 0] 28 (0, 0)) wn) := by rw [hb8]; exact Bx.new hwn hzx
              replace HX9 := Lib.hid (HX9.out.below hbn)
              replace R10 := Lib.hid ((hbn.block B10 (by omega)).trans R10.out)
              replace HEx := Lib.hid (HEx.out.on hbn)
              replace HBx := Lib.hid (HBx.out.trans (hbn.mono HBx.out.size))
              try replace HSO := Lib.hid (HSO.out.below hbn)
              try replace HSN := Lib.hid (HSN.out.below hbn)
              have hzn : L ≤ wn.heap.size := by have := hbn.size; omega
              refine hK.out _ _ R10.out ?_
              clear hK K hHeld hbn hzx hwn hb8
              intro hHeld
              walk_nrm
              clear wx
              obtain ⟨wx, rfl⟩ : ∃ wx : World, wx = wn := ⟨_, rfl⟩
              have hzx := hzn
              clear hzn
              refine wpAnyL_one 12 (by kernel_rfl) ?_
              · refine ComesUp.mk rfl (fun K hK => ?_)
                rw [if_pos (by rfl)]
                have h8 := HX8.out b8 rfl
                refine wp_store_row 28 _ _ rfl b8 _ rfl rfl _ _ h8.2 storeSize rfl (store_one _ _ _ _ _) ?_
                have n8 : b8 ≠ B10 := by omega
                obtain ⟨wn, hwn⟩ : ∃ wn, wn = wx.setRow b8 (storeV Sn va' vc' fa' fc') := ⟨_, rfl⟩
                rw [← hwn]
                replace HX8 : Hid (Bx L (some b8) (.cells (storeV Sn va' vc' fa' fc') 28 (0, 0)) wn) := fun b hb => by cases hb; exact ⟨h8.1, by rw [hwn]; exact setRow_heap _ _ _ _ _ _ h8.2⟩
                replace HX9 : Hid (Bx L (some b9) (.cells (#[.int .i64 0, .int .i64 0, .slice none 0 0]) 38 (0, 0)) wn) := fun b hb => by cases hb; exact ⟨(HX9.out b9 rfl).1, by rw [hwn]; exact (setRow_other _ _ _ _ (blk_ne (HX9.out b9 rfl).2 h8.2 (by decide))).trans (HX9.out b9 rfl).2⟩
                replace R10 : Hid (wn.heap[B10]? = some (.cells (storeV (Sk) va vc fa fc) 28 (0, 0))) := by show wn.heap[B10]? = _; rw [hwn]; exact (setRow_other _ _ _ _ (Ne.symm n8)).trans R10.out
                have hbn : Below w.heap.size wx wn := by rw [hwn]; exact Below.setRow _ b8 _ (by omega)
                replace HSN : Hid (StOwn bn wn (Sn) va' vc' fa' fc') := by rw [hwn]; exact HSN.out.setT h8.2 (by decide) (by decide) (by decide)
                replace HEx := Lib.hid (HEx.out.below HE.out.globs hbn)
                replace HBx := Lib.hid (HBx.out.trans hbn)
                have hzn : L ≤ wn.heap.size := by have := hbn.size; omega
                refine hK.out _ _ R10.out ?_
                clear hK K hHeld hbn hzx hwn h8 n8
                intro hHeld
                walk_nrm
                clear wx
                obtain ⟨wx, rfl⟩ : ∃ wx : World, wx = wn := ⟨_, rfl⟩
                have hzx := hzn
                clear hzn
                refine wpAnyL_one 13 (by kernel_rfl) ?_
                refine ComesUp.mk rfl (fun K hK => ?_)
                rw [if_pos (by rfl)]
                have h9 := HX9.out b9 rfl
                refine wp_store_row 38 _ _ rfl b9 _ rfl rfl _ _ h9.2 replySize rfl (reply_one _ _ _) ?_
                have n9 : b9 ≠ B10 := by omega
                obtain ⟨wn, hwn⟩ : ∃ wn, wn = wx.setRow b9 (replyCells ⟨2, 0, []⟩ ha' hc') := ⟨_, rfl⟩
                rw [← hwn]
                replace HX8 : Hid (Bx L (some b8) (.cells (storeV Sn va' vc' fa' fc') 28 (0, 0)) wn) := fun b hb => by cases hb; exact ⟨(HX8.out b8 rfl).1, by rw [hwn]; exact (setRow_other _ _ _ _ (blk_ne (HX8.out b8 rfl).2 h9.2 (by decide))).trans (HX8.out b8 rfl).2⟩
                replace HX9 : Hid (Bx L (some b9) (.cells (replyCells ⟨2, 0, []⟩ ha' hc') 38 (0, 0)) wn) := fun b hb => by cases hb; exact ⟨h9.1, by rw [hwn]; exact setRow_heap _ _ _ _ _ _ h9.2⟩
                replace R10 : Hid (wn.heap[B10]? = some (.cells (storeV (Sk) va vc fa fc) 28 (0, 0))) := by show wn.heap[B10]? = _; rw [hwn]; exact (setRow_other _ _ _ _ (Ne.symm n9)).trans R10.out
                have hbn : Below w.heap.size wx wn := by rw [hwn]; exact Below.setRow _ b9 _ (by omega)
                replace HSN : Hid (StOwn bn wn (Sn) va' vc' fa' fc') := by rw [hwn]; exact HSN.out.setT h9.2 (by decide) (by decide) (by decide)
                replace HEx := Lib.hid (HEx.out.below HE.out.globs hbn)
                replace HBx := Lib.hid (HBx.out.trans hbn)
                have hzn : L ≤ wn.heap.size := by have := hbn.size; omega
                refine hK.out _ _ R10.out ?_
                clear hK K hHeld hbn hzx hwn h9 n9
                intro hHeld
                walk_nrm
                clear wx
                obtain ⟨wx, rfl⟩ : ∃ wx : World, wx = wn := ⟨_, rfl⟩
                have hzx := hzn
                clear hzn
                refine wpAnyL_last rfl (by kernel_rfl) (fun K hK => ?_)
                go_simp
                refine hK.out _ _ ?_
                clear hK K
                walk_nrm
                refine wpAnyL_done (by kernel_rfl) ?_ _
                go_wp2_with fail
                go_meet
                exact ⟨b8, b9, va', vc', fa', fc', ha', hc', bn, rfl, rfl, rfl, hbn1, (by have := (HX8.out b8 rfl).1; omega), (by omega), HBx, HEx, R10, HSN, (HX8.out b8 rfl).2, (HX9.out b9 rfl).2⟩
          · refine ComesUp.mk rfl (fun K hK => ?_)
            go_simp
            obtain ⟨wn, hwn⟩ : ∃ wn, wn = wx.alloc (.cells #[.int .i64 0, .int .i64 0, .int .i64 0, .int .i64 0, .int .i64 0, .int .i64 0, .int .i64 0, .int .i64 0, .slice none 0 0, .int .i64 0, .int .i64 0, .slice none 0 0] 28) := ⟨_, rfl⟩
            obtain ⟨b8, hb8⟩ : ∃ b, b = wx.heap.size := ⟨_, rfl⟩
            rw [← hwn, ← hb8]
            have hbn := below_new hwn
            replace HX8 : Hid (Bx L (some b8) (.cells #[.int .i64 0, .int .i64 0, .int .i64 0, .int .i64 0, .int .i64 0, .int .i64 0, .int .i64 0, .int .i64 0, .slice none 0 0, .int .i64 0, .int .i64 0, .slice none 0 0] 28 (0, 0)) wn) := by rw [hb8]; exact Bx.new hwn hzx
            replace HX9 := Lib.hid (HX9.out.below hbn)
            replace R10 := Lib.hid ((hbn.block B10 (by omega)).trans R10.out)
            replace HEx := Lib.hid (HEx.out.on hbn)
            replace HBx := Lib.hid (HBx.out.trans (hbn.mono HBx.out.size))
            try replace HSO := Lib.hid (HSO.out.below hbn)
            try replace HSN := Lib.hid (HSN.out.below hbn)
            have hzn : L ≤ wn.heap.size := by have := hbn.size; omega
            refine hK.out _ _ R10.out ?_
            clear hK K hHeld hbn hzx hwn hb8
            intro hHeld
            walk_nrm
            clear wx
            obtain ⟨wx, rfl⟩ : ∃ wx : World, wx = wn := ⟨_, rfl⟩
            have hzx := hzn
            clear hzn
            refine wpAnyL_one 5 (by kernel_rfl) ?_
            · refine ComesUp.mk rfl (fun K hK => ?_)
              go_simp
              refine (do_at (s := Sk) (r := reqPut 2 ky vv 0) (va := va) (vc := vc) (fa := fa) (fc := fc) (ka := none) (kc := 0) HEx (Lib.hid HSO.out.at) (RowsAt.nil _ _ _ _) (Nat.zero_le _) (by show _ ≤ 1000; exact HKS.out) rfl rfl).mono ?_
              rw [HD1.out]
              rintro e wn ⟨va', vc', fa', fc', ha', hc', rfl, hso, -, hbn⟩
              obtain ⟨bn, hbs'⟩ : ∃ b, b = wx.heap.size := ⟨_, rfl⟩
              rw [← hbs'] at hso
              have HSN := Lib.hid hso
              have hbn1 : B10 < bn := by omega
              clear hso hbs'
              replace HX8 := Lib.hid (HX8.out.below hbn)
              replace HX9 := Lib.hid (HX9.out.below hbn)
              replace R10 := Lib.hid ((hbn.block B10 (by omega)).trans R10.out)
              replace HEx := Lib.hid (HEx.out.on hbn)
              replace HBx := Lib.hid (HBx.out.trans (hbn.mono HBx.out.size))
              have hzn : L ≤ wn.heap.size := by have := hbn.size; omega
              clear HSO
              refine hK.out _ _ R10.out ?_
              clear hK K hHeld hbn hzx 
              intro hHeld
              walk_nrm
              refine wpAnyL_take (i := 6) (v := ?_) rfl (by kernel_rfl) (fun _ _ _ h => h) (Or.inl ⟨by rfl, ?_⟩) (by assumption) ?_
              rotate_left
              · intro wS hSw; go_simp <;> with_reducible rfl
              walk_nrm
              refine wpAnyL_take (i := 7) (v := ?_) rfl (by kernel_rfl) (fun _ _ _ h => h) (Or.inl ⟨by rfl, ?_⟩) (by assumption) ?_
              rotate_left
              · intro wS hSw; go_simp <;> with_reducible rfl
              walk_nrm
              refine wpAnyL_take (i := 8) (v := ?_) rfl (by kernel_rfl) (fun _ _ _ h => h) (Or.inl ⟨by rfl, ?_⟩) (by assumption) ?_
              rotate_left
              · intro wS hSw; go_simp <;> with_reducible rfl
              walk_nrm
              refine wpAnyL_take (i := 9) (v := ?_) rfl (by kernel_rfl) (fun _ _ _ h => h) (Or.inl ⟨by rfl, ?_⟩) (by assumption) ?_
              rotate_left
              · intro wS hSw; go_simp <;> with_reducible rfl
              walk_nrm
              clear wx
              obtain ⟨wx, rfl⟩ : ∃ wx : World, wx = wn := ⟨_, rfl⟩
              have hzx := hzn
              clear hzn
              refine wpAnyL_one 12 (by kernel_rfl) ?_
              · refine ComesUp.mk rfl (fun K hK => ?_)
                rw [if_pos (by rfl)]
                have h8 := HX8.out b8 rfl
                refine wp_store_row 28 _ _ rfl b8 _ rfl rfl _ _ h8.2 storeSize rfl (store_one _ _ _ _ _) ?_
                have n8 : b8 ≠ B10 := by omega
                obtain ⟨wn, hwn⟩ : ∃ wn, wn = wx.setRow b8 (storeV Sn va' vc' fa' fc') := ⟨_, rfl⟩
                rw [← hwn]
                replace HX8 : Hid (Bx L (some b8) (.cells (storeV Sn va' vc' fa' fc') 28 (0, 0)) wn) := fun b hb => by cases hb; exact ⟨h8.1, by rw [hwn]; exact setRow_heap _ _ _ _ _ _ h8.2⟩
                replace HX9 : Hid (Bx L (some b9) (.cells (#[.int .i64 0, .int .i64 0, .slice none 0 0]) 38 (0, 0)) wn) := fun b hb => by cases hb; exact ⟨(HX9.out b9 rfl).1, by rw [hwn]; exact (setRow_other _ _ _ _ (blk_ne (HX9.out b9 rfl).2 h8.2 (by decide))).trans (HX9.out b9 rfl).2⟩
                replace R10 : Hid (wn.heap[B10]? = some (.cells (storeV (Sk) va vc fa fc) 28 (0, 0))) := by show wn.heap[B10]? = _; rw [hwn]; exact (setRow_other _ _ _ _ (Ne.symm n8)).trans R10.out
                have hbn : Below w.heap.size wx wn := by rw [hwn]; exact Below.setRow _ b8 _ (by omega)
                replace HSN : Hid (StOwn bn wn (Sn) va' vc' fa' fc') := by rw [hwn]; exact HSN.out.setT h8.2 (by decide) (by decide) (by decide)
                replace HEx := Lib.hid (HEx.out.below HE.out.globs hbn)
                replace HBx := Lib.hid (HBx.out.trans hbn)
                have hzn : L ≤ wn.heap.size := by have := hbn.size; omega
                refine hK.out _ _ R10.out ?_
                clear hK K hHeld hbn hzx hwn h8 n8
                intro hHeld
                walk_nrm
                clear wx
                obtain ⟨wx, rfl⟩ : ∃ wx : World, wx = wn := ⟨_, rfl⟩
                have hzx := hzn
                clear hzn
                refine wpAnyL_one 13 (by kernel_rfl) ?_
                refine ComesUp.mk rfl (fun K hK => ?_)
                rw [if_pos (by rfl)]
                have h9 := HX9.out b9 rfl
                refine wp_store_row 38 _ _ rfl b9 _ rfl rfl _ _ h9.2 replySize rfl (reply_one _ _ _) ?_
                have n9 : b9 ≠ B10 := by omega
                obtain ⟨wn, hwn⟩ : ∃ wn, wn = wx.setRow b9 (replyCells ⟨2, 0, []⟩ ha' hc') := ⟨_, rfl⟩
                rw [← hwn]
                replace HX8 : Hid (Bx L (some b8) (.cells (storeV Sn va' vc' fa' fc') 28 (0, 0)) wn) := fun b hb => by cases hb; exact ⟨(HX8.out b8 rfl).1, by rw [hwn]; exact (setRow_other _ _ _ _ (blk_ne (HX8.out b8 rfl).2 h9.2 (by decide))).trans (HX8.out b8 rfl).2⟩
                replace HX9 : Hid (Bx L (some b9) (.cells (replyCells ⟨2, 0, []⟩ ha' hc') 38 (0, 0)) wn) := fun b hb => by cases hb; exact ⟨h9.1, by rw [hwn]; exact setRow_heap _ _ _ _ _ _ h9.2⟩
                replace R10 : Hid (wn.heap[B10]? = some (.cells (storeV (Sk) va vc fa fc) 28 (0, 0))) := by show wn.heap[B10]? = _; rw [hwn]; exact (setRow_other _ _ _ _ (Ne.symm n9)).trans R10.out
                have hbn : Below w.heap.size wx wn := by rw [hwn]; exact Below.setRow _ b9 _ (by omega)
                replace HSN : Hid (StOwn bn wn (Sn) va' vc' fa' fc') := by rw [hwn]; exact HSN.out.setT h9.2 (by decide) (by decide) (by decide)
                replace HEx := Lib.hid (HEx.out.below HE.out.globs hbn)
                replace HBx := Lib.hid (HBx.out.trans hbn)
                have hzn : L ≤ wn.heap.size := by have := hbn.size; omega
                refine hK.out _ _ R10.out ?_
                clear hK K hHeld hbn hzx hwn h9 n9
                intro hHeld
                walk_nrm
                clear wx
                obtain ⟨wx, rfl⟩ : ∃ wx : World, wx = wn := ⟨_, rfl⟩
                have hzx := hzn
                clear hzn
                refine wpAnyL_last rfl (by kernel_rfl) (fun K hK => ?_)
                go_simp
                refine hK.out _ _ ?_
                clear hK K
                walk_nrm
                refine wpAnyL_done (by kernel_rfl) ?_ _
                go_wp2_with fail
                go_meet
                exact ⟨b8, b9, va', vc', fa', fc', ha', hc', bn, rfl, rfl, rfl, hbn1, (by have := (HX8.out b8 rfl).1; omega), (by omega), HBx, HEx, R10, HSN, (HX8.out b8 rfl).2, (HX9.out b9 rfl).2⟩
      case rest =>
        obtain ⟨B8, B9, va', vc', fa', fc', ha', hc', bn, rfl, rfl, rfl, hbn, n8, hzc, HBc, HEc, Rc, HSc, R8, R9⟩ := hcut
        clear HSO R10 HEx HBx hzr
        have q0 : wc.cell? ⟨B9, 0, none⟩ = some (.int .i64 2) := by rw [cell_of_row wc _ _ _ _ _ R9.out]; rfl
        have hz8 : B8 < wc.heap.size := (Array.getElem?_eq_some_iff.1 R8.out).1
        go_wp2_with (first
          | refine wpList_load_row rfl 28 _ rfl B8 rfl _ _ _ _ R8.out Tryd.underlying28 rfl (by kernel_rfl) ?_
          | refine wpList_store_row rfl 28 _ _ rfl B10 _ rfl rfl _ _ Rc.out storeSize rfl (store_one _ _ _ _ _) ?_)
        obtain ⟨wn, hwn⟩ : ∃ wn, wn = wc.setRow B10 (storeV Sn va' vc' fa' fc') := ⟨_, rfl⟩
        rw [← hwn]
        have hbw : Below w.heap.size wc wn := by rw [hwn]; exact Below.setRow _ B10 _ hB10w
        have F1 : Hid (wn.heap[B10]? = some (.cells (storeV Sn va' vc' fa' fc') 28 (0, 0))) := by rw [hwn]; exact setRow_heap _ _ _ _ _ _ Rc.out
        have F2 : Hid (StOwn bn wn Sn va' vc' fa' fc') := by rw [hwn]; exact HSc.out.set hbn
        have F3 : Hid (Env wn) := HEc.out.below HE.out.globs hbw
        have F4 : Hid (Below w.heap.size w wn) := HBc.out.trans hbw
        have F5 : B10 < wn.heap.size := by have := hbw.size; omega
        clear hwn hbw
        rw [HSn.out] at F1 F2
        go_roundw
        case rel => exact ⟨k + 1, va', fa', vc', fc', bn, by omega, by go_num, hbn, F5, F4, F3, F1, F2⟩
        case measure => simp [intOf]; omega
    ·
      obtain rfl : k = 8 := by omega
      rw [← HS8.out] at R10 HSO
      clear HS8
      go_wp2_with fail
      refine (picked_at ask 8 (a : Int) HA hask.1 hask.2 (by decide) (by decide) _).mono ?_
      rintro e w1' ⟨rfl, rfl⟩
      go_upto_region 11 with (fail)
      go_cut [13] (fun v13 wx => ∃ va' vc' fa' fc' bn, v13 = .bool true ∧ B10 < bn ∧ B10 < wx.heap.size ∧ Hid (Below w.heap.size w wx) ∧ Hid (Env wx) ∧ Hid (wx.heap[B10]? = some (.cells (storeV SA va' vc' fa' fc') 28 (0, 0))) ∧ Hid (StOwn bn wx SA va' vc' fa' fc'))
      case first =>
        obtain ⟨WS, hWS⟩ : ∃ W : World, W = wr := ⟨_, rfl⟩
        rw [← hWS] at HBx HEx R10 HSO hzr ⊢
        clear hWS
        obtain ⟨L, hL⟩ : ∃ L, L = WS.heap.size := ⟨_, rfl⟩
        have hBL : B10 < L := by omega
        have hbL : w.heap.size ≤ L := by have := HBx.out.size; omega
        refine wp_region_L (fun _ : World => True) 12 13 (by kernel_rfl) (by kernel_rfl) trivial (fun hHeld => ?_)
        have LN : ¬ 9223372036854775807 < 1 + (decS (a : Int)).size := by rw [← oneC_dec (by omega)]; show ¬ 9223372036854775807 < 1 + 1; omega
        refine wpAnyL_take (i := 1) (v := ?_) rfl (by kernel_rfl) (fun _ _ _ h => h) (Or.inl ⟨by rfl, ?_⟩) (by assumption) ?_
        rotate_left
        · intro wS hSw; go_simp <;> with_reducible rfl
        walk_nrm
        refine wpAnyL_call (i := 2) (v := (.string (decS (a : Int)))) rfl (by kernel_rfl) (fun _ _ _ h => h) ⟨by rfl, 7, #[.int .i64 (a : Int)], fun wS hSw => ⟨?_, (itoa_small (a : Int) (by omega) wS).mono (fun _ _ h => ⟨h.1, h.2.symm⟩)⟩⟩ (by assumption) ?_
        · go_simp
        walk_nrm
        refine wpAnyL_take (i := 3) (v := ?_) rfl (by kernel_rfl) (fun _ _ _ h => h) (Or.inl ⟨by rfl, ?_⟩) (by assumption) ?_
        rotate_left
        · intro wS hSw; go_simp <;> with_reducible rfl
        walk_nrm
        rw [← HKA.out]
        obtain ⟨wx, hwx⟩ : ∃ wx, wx = WS.drew := ⟨_, rfl⟩
        rw [← hwx]
        replace R10 : Hid (wx.heap[B10]? = some (.cells (storeV (S8) va vc fa fc) 28 (0, 0))) := by rw [hwx]; exact R10
        replace HBx : Hid (Below w.heap.size w wx) := by rw [hwx]; exact HBx.out.drew
        replace HSO : Hid (StOwn bs wx (S8) va vc fa fc) := by rw [hwx]; exact HSO.out.below (Below.refl _ _).drew
        replace HEx : Hid (Env wx) := by rw [hwx]; exact Lib.hid (HEx.out.on (Below.refl _ _).drew)
        have hzx : L ≤ wx.heap.size := by rw [hwx, hL]; exact Nat.le_refl _
        have HX12 : Hid (Bx L none (.cells #[.string ⟨#[]⟩, .int .i64 0, .int .i64 0, .string ⟨#[]⟩] 51 (0, 0)) wx) := Bx.none
        clear hwx hL hzr
        refine wpAnyL_two 0 9 (by kernel_rfl) ?_ ?_
        · refine ComesUp.mk rfl (fun K hK => ?_)
          rw [if_pos (by rfl)]
          refine wp_load_row 28 _ rfl B10 rfl _ _ _ _ R10.out Tryd.underlying28 rfl (by kernel_rfl) ?_
          refine hK.out _ _ trivial ?_
          clear hK K hHeld
          intro hHeld
          walk_nrm
          refine wpAnyL_two 4 9 (by kernel_rfl) ?_ ?_
          · refine ComesUp.mk rfl (fun K hK => ?_)
            go_simp
            refine (keep_get (S8) (ka) va fa vc fc wx HEx.out HSO.out.at (by show _ ≤ 1000; exact HAS.out)).mono ?_
            rw [HG1.out]
            rintro e wn ⟨va', vc', fa', fc', rfl, hso, hbn⟩
            obtain ⟨bn, hbs'⟩ : ∃ b, b = wx.heap.size := ⟨_, rfl⟩
            rw [← hbs'] at hso
            have HSN := Lib.hid hso
            have hbn1 : B10 < bn := by omega
            clear hso hbs'
            replace HX12 := Lib.hid (HX12.out.below hbn)
            replace R10 := Lib.hid ((hbn.block B10 (by omega)).trans R10.out)
            replace HEx := Lib.hid (HEx.out.on hbn)
            replace HBx := Lib.hid (HBx.out.trans (hbn.mono HBx.out.size))
            have hzn : L ≤ wn.heap.size := by have := hbn.size; omega
            clear HSO
            refine hK.out _ _ trivial ?_
            clear hK K hHeld hbn hzx 
            intro hHeld
            walk_nrm
            refine wpAnyL_take (i := 5) (v := ?_) rfl (by kernel_rfl) (fun _ _ _ h => h) (Or.inl ⟨by rfl, ?_⟩) (by assumption) ?_
            rotate_left
            · intro wS hSw; go_simp <;> with_reducible rfl
            walk_nrm
            refine wpAnyL_take (i := 6) (v := ?_) rfl (by kernel_rfl) (fun _ _ _ h => h) (Or.inl ⟨by rfl, ?_⟩) (by assumption) ?_
            rotate_left
            · intro wS hSw; go_simp <;> with_reducible rfl
            walk_nrm
            refine wpAnyL_take (i := 7) (v := ?_) rfl (by kernel_rfl) (fun _ _ _ h => h) (Or.inl ⟨by rfl, ?_⟩) (by assumption) ?_
            rotate_left
            · intro wS hSw; go_simp <;> with_reducible rfl
            walk_nrm
            refine wpAnyL_take (i := 8) (v := ?_) rfl (by kernel_rfl) (fun _ _ _ h => h) (Or.inl ⟨by rfl, ?_⟩) (by assumption) ?_
            rotate_left
            · intro wS hSw; go_simp <;> with_reducible rfl
            walk_nrm
            clear wx
            obtain ⟨wx, rfl⟩ : ∃ wx : World, wx = wn := ⟨_, rfl⟩
            have hzx := hzn
            clear hzn
            refine wpAnyL_one 9 (by kernel_rfl) ?_
            · refine ComesUp.mk rfl (fun K hK => ?_)
              go_simp
              obtain ⟨wn, hwn⟩ : ∃ wn, wn = wx.alloc (.cells #[.string ⟨#[]⟩, .int .i64 0, .int .i64 0, .string ⟨#[]⟩] 51) := ⟨_, rfl⟩
              obtain ⟨b12, hb12⟩ : ∃ b, b = wx.heap.size := ⟨_, rfl⟩
              rw [← hwn, ← hb12]
              have hbn := below_new hwn
              replace HX12 : Hid (Bx L (some b12) (.cells #[.string ⟨#[]⟩, .int .i64 0, .int .i64 0, .string ⟨#[]⟩] 51 (0, 0)) wn) := by rw [hb12]; exact Bx.new hwn hzx
              replace R10 := Lib.hid ((hbn.block B10 (by omega)).trans R10.out)
              replace HEx := Lib.hid (HEx.out.on hbn)
              replace HBx := Lib.hid (HBx.out.trans (hbn.mono HBx.out.size))
              try replace HSO := Lib.hid (HSO.out.below hbn)
              try replace HSN := Lib.hid (HSN.out.below hbn)
              have hzn : L ≤ wn.heap.size := by have := hbn.size; omega
              refine hK.out _ _ trivial ?_
              clear hK K hHeld hbn hzx hwn hb12
              intro hHeld
              walk_nrm
              clear wx
              obtain ⟨wx, rfl⟩ : ∃ wx : World, wx = wn := ⟨_, rfl⟩
              have hzx := hzn
              clear hzn
              refine wpAnyL_one 10 (by kernel_rfl) ?_
              · refine ComesUp.mk rfl (fun K hK => ?_)
                rw [if_pos (by rfl)]
                refine wp_store_row 28 _ _ rfl B10 _ rfl rfl _ _ R10.out storeSize rfl (store_one _ _ _ _ _) ?_
                obtain ⟨wn, hwn⟩ : ∃ wn, wn = wx.setRow B10 (storeV SA va' vc' fa' fc') := ⟨_, rfl⟩
                rw [← hwn]
                replace HX12 : Hid (Bx L (some b12) (.cells (#[.string ⟨#[]⟩, .int .i64 0, .int .i64 0, .string ⟨#[]⟩]) 51 (0, 0)) wn) := fun b hb => ⟨(HX12.out b hb).1, by rw [hwn]; exact (setRow_other _ _ _ _ (by have := (HX12.out b hb).1; omega)).trans (HX12.out b hb).2⟩
                replace R10 : Hid (wn.heap[B10]? = some (.cells (storeV SA va' vc' fa' fc') 28 (0, 0))) := by rw [hwn]; exact setRow_heap _ _ _ _ _ _ R10.out
                have hbn : Below w.heap.size wx wn := by rw [hwn]; exact Below.setRow _ B10 _ hB10w
                replace HSN : Hid (StOwn bn wn (SA) va' vc' fa' fc') := by rw [hwn]; exact HSN.out.set hbn1
                replace HEx := Lib.hid (HEx.out.below HE.out.globs hbn)
                replace HBx := Lib.hid (HBx.out.trans hbn)
                have hzn : L ≤ wn.heap.size := by have := hbn.size; omega
                refine hK.out _ _ trivial ?_
                clear hK K hHeld hbn hzx hwn
                intro hHeld
                walk_nrm
                clear wx
                obtain ⟨wx, rfl⟩ : ∃ wx : World, wx = wn := ⟨_, rfl⟩
                have hzx := hzn
                clear hzn
                refine wpAnyL_one 11 (by kernel_rfl) ?_
                refine ComesUp.mk rfl (fun K hK => ?_)
                rw [if_pos (by rfl)]
                have h12 := HX12.out b12 rfl
                refine wp_store_row 51 _ _ rfl b12 _ rfl rfl _ _ h12.2 hitSize rfl (hit_one _ _ _ _) ?_
                have n12 : b12 ≠ B10 := by omega
                obtain ⟨wn, hwn⟩ : ∃ wn, wn = wx.setRow b12 (#[.string (kk a), .int .i64 0, .int .i64 ((a : Int) + 1), .string vv]) := ⟨_, rfl⟩
                rw [← hwn]
                replace HX12 : Hid (Bx L (some b12) (.cells (#[.string (kk a), .int .i64 0, .int .i64 ((a : Int) + 1), .string vv]) 51 (0, 0)) wn) := fun b hb => by cases hb; exact ⟨h12.1, by rw [hwn]; exact setRow_heap _ _ _ _ _ _ h12.2⟩
                replace R10 : Hid (wn.heap[B10]? = some (.cells (storeV SA va' vc' fa' fc') 28 (0, 0))) := by show wn.heap[B10]? = _; rw [hwn]; exact (setRow_other _ _ _ _ (Ne.symm n12)).trans R10.out
                have hbn : Below w.heap.size wx wn := by rw [hwn]; exact Below.setRow _ b12 _ (by omega)
                replace HSN : Hid (StOwn bn wn (SA) va' vc' fa' fc') := by rw [hwn]; exact HSN.out.setT h12.2 (by decide) (by decide) (by decide)
                replace HEx := Lib.hid (HEx.out.below HE.out.globs hbn)
                replace HBx := Lib.hid (HBx.out.trans hbn)
                have hzn : L ≤ wn.heap.size := by have := hbn.size; omega
                refine hK.out _ _ trivial ?_
                clear hK K hHeld hbn hzx hwn h12 n12
                intro hHeld
                walk_nrm
                clear wx
                obtain ⟨wx, rfl⟩ : ∃ wx : World, wx = wn := ⟨_, rfl⟩
                have hzx := hzn
                clear hzn
                refine wpAnyL_last rfl (by kernel_rfl) (fun K hK => ?_)
                go_simp
                refine hK.out _ _ ?_
                clear hK K
                walk_nrm
                refine wpAnyL_done (by kernel_rfl) ?_ _
                go_wp2_with fail
                go_meet
                exact ⟨va', vc', fa', fc', bn, rfl, hbn1, (by omega), HBx, HEx, R10, HSN⟩
          · refine ComesUp.mk rfl (fun K hK => ?_)
            go_simp
            obtain ⟨wn, hwn⟩ : ∃ wn, wn = wx.alloc (.cells #[.string ⟨#[]⟩, .int .i64 0, .int .i64 0, .string ⟨#[]⟩] 51) := ⟨_, rfl⟩
            obtain ⟨b12, hb12⟩ : ∃ b, b = wx.heap.size := ⟨_, rfl⟩
            rw [← hwn, ← hb12]
            have hbn := below_new hwn
            replace HX12 : Hid (Bx L (some b12) (.cells #[.string ⟨#[]⟩, .int .i64 0, .int .i64 0, .string ⟨#[]⟩] 51 (0, 0)) wn) := by rw [hb12]; exact Bx.new hwn hzx
            replace R10 := Lib.hid ((hbn.block B10 (by omega)).trans R10.out)
            replace HEx := Lib.hid (HEx.out.on hbn)
            replace HBx := Lib.hid (HBx.out.trans (hbn.mono HBx.out.size))
            try replace HSO := Lib.hid (HSO.out.below hbn)
            try replace HSN := Lib.hid (HSN.out.below hbn)
            have hzn : L ≤ wn.heap.size := by have := hbn.size; omega
            refine hK.out _ _ trivial ?_
            clear hK K hHeld hbn hzx hwn hb12
            intro hHeld
            walk_nrm
            clear wx
            obtain ⟨wx, rfl⟩ : ∃ wx : World, wx = wn := ⟨_, rfl⟩
            have hzx := hzn
            clear hzn
            refine wpAnyL_one 4 (by kernel_rfl) ?_
            · refine ComesUp.mk rfl (fun K hK => ?_)
              go_simp
              refine (keep_get (S8) (ka) va fa vc fc wx HEx.out HSO.out.at (by show _ ≤ 1000; exact HAS.out)).mono ?_
              rw [HG1.out]
              rintro e wn ⟨va', vc', fa', fc', rfl, hso, hbn⟩
              obtain ⟨bn, hbs'⟩ : ∃ b, b = wx.heap.size := ⟨_, rfl⟩
              rw [← hbs'] at hso
              have HSN := Lib.hid hso
              have hbn1 : B10 < bn := by omega
              clear hso hbs'
              replace HX12 := Lib.hid (HX12.out.below hbn)
              replace R10 := Lib.hid ((hbn.block B10 (by omega)).trans R10.out)
              replace HEx := Lib.hid (HEx.out.on hbn)
              replace HBx := Lib.hid (HBx.out.trans (hbn.mono HBx.out.size))
              have hzn : L ≤ wn.heap.size := by have := hbn.size; omega
              clear HSO
              refine hK.out _ _ trivial ?_
              clear hK K hHeld hbn hzx 
              intro hHeld
              walk_nrm
              refine wpAnyL_take (i := 5) (v := ?_) rfl (by kernel_rfl) (fun _ _ _ h => h) (Or.inl ⟨by rfl, ?_⟩) (by assumption) ?_
              rotate_left
              · intro wS hSw; go_simp <;> with_reducible rfl
              walk_nrm
              refine wpAnyL_take (i := 6) (v := ?_) rfl (by kernel_rfl) (fun _ _ _ h => h) (Or.inl ⟨by rfl, ?_⟩) (by assumption) ?_
              rotate_left
              · intro wS hSw; go_simp <;> with_reducible rfl
              walk_nrm
              refine wpAnyL_take (i := 7) (v := ?_) rfl (by kernel_rfl) (fun _ _ _ h => h) (Or.inl ⟨by rfl, ?_⟩) (by assumption) ?_
              rotate_left
              · intro wS hSw; go_simp <;> with_reducible rfl
              walk_nrm
              refine wpAnyL_take (i := 8) (v := ?_) rfl (by kernel_rfl) (fun _ _ _ h => h) (Or.inl ⟨by rfl, ?_⟩) (by assumption) ?_
              rotate_left
              · intro wS hSw; go_simp <;> with_reducible rfl
              walk_nrm
              clear wx
              obtain ⟨wx, rfl⟩ : ∃ wx : World, wx = wn := ⟨_, rfl⟩
              have hzx := hzn
              clear hzn
              refine wpAnyL_one 10 (by kernel_rfl) ?_
              · refine ComesUp.mk rfl (fun K hK => ?_)
                rw [if_pos (by rfl)]
                refine wp_store_row 28 _ _ rfl B10 _ rfl rfl _ _ R10.out storeSize rfl (store_one _ _ _ _ _) ?_
                obtain ⟨wn, hwn⟩ : ∃ wn, wn = wx.setRow B10 (storeV SA va' vc' fa' fc') := ⟨_, rfl⟩
                rw [← hwn]
                replace HX12 : Hid (Bx L (some b12) (.cells (#[.string ⟨#[]⟩, .int .i64 0, .int .i64 0, .string ⟨#[]⟩]) 51 (0, 0)) wn) := fun b hb => ⟨(HX12.out b hb).1, by rw [hwn]; exact (setRow_other _ _ _ _ (by have := (HX12.out b hb).1; omega)).trans (HX12.out b hb).2⟩
                replace R10 : Hid (wn.heap[B10]? = some (.cells (storeV SA va' vc' fa' fc') 28 (0, 0))) := by rw [hwn]; exact setRow_heap _ _ _ _ _ _ R10.out
                have hbn : Below w.heap.size wx wn := by rw [hwn]; exact Below.setRow _ B10 _ hB10w
                replace HSN : Hid (StOwn bn wn (SA) va' vc' fa' fc') := by rw [hwn]; exact HSN.out.set hbn1
                replace HEx := Lib.hid (HEx.out.below HE.out.globs hbn)
                replace HBx := Lib.hid (HBx.out.trans hbn)
                have hzn : L ≤ wn.heap.size := by have := hbn.size; omega
                refine hK.out _ _ trivial ?_
                clear hK K hHeld hbn hzx hwn
                intro hHeld
                walk_nrm
                clear wx
                obtain ⟨wx, rfl⟩ : ∃ wx : World, wx = wn := ⟨_, rfl⟩
                have hzx := hzn
                clear hzn
                refine wpAnyL_one 11 (by kernel_rfl) ?_
                refine ComesUp.mk rfl (fun K hK => ?_)
                rw [if_pos (by rfl)]
                have h12 := HX12.out b12 rfl
                refine wp_store_row 51 _ _ rfl b12 _ rfl rfl _ _ h12.2 hitSize rfl (hit_one _ _ _ _) ?_
                have n12 : b12 ≠ B10 := by omega
                obtain ⟨wn, hwn⟩ : ∃ wn, wn = wx.setRow b12 (#[.string (kk a), .int .i64 0, .int .i64 ((a : Int) + 1), .string vv]) := ⟨_, rfl⟩
                rw [← hwn]
                replace HX12 : Hid (Bx L (some b12) (.cells (#[.string (kk a), .int .i64 0, .int .i64 ((a : Int) + 1), .string vv]) 51 (0, 0)) wn) := fun b hb => by cases hb; exact ⟨h12.1, by rw [hwn]; exact setRow_heap _ _ _ _ _ _ h12.2⟩
                replace R10 : Hid (wn.heap[B10]? = some (.cells (storeV SA va' vc' fa' fc') 28 (0, 0))) := by show wn.heap[B10]? = _; rw [hwn]; exact (setRow_other _ _ _ _ (Ne.symm n12)).trans R10.out
                have hbn : Below w.heap.size wx wn := by rw [hwn]; exact Below.setRow _ b12 _ (by omega)
                replace HSN : Hid (StOwn bn wn (SA) va' vc' fa' fc') := by rw [hwn]; exact HSN.out.setT h12.2 (by decide) (by decide) (by decide)
                replace HEx := Lib.hid (HEx.out.below HE.out.globs hbn)
                replace HBx := Lib.hid (HBx.out.trans hbn)
                have hzn : L ≤ wn.heap.size := by have := hbn.size; omega
                refine hK.out _ _ trivial ?_
                clear hK K hHeld hbn hzx hwn h12 n12
                intro hHeld
                walk_nrm
                clear wx
                obtain ⟨wx, rfl⟩ : ∃ wx : World, wx = wn := ⟨_, rfl⟩
                have hzx := hzn
                clear hzn
                refine wpAnyL_last rfl (by kernel_rfl) (fun K hK => ?_)
                go_simp
                refine hK.out _ _ ?_
                clear hK K
                walk_nrm
                refine wpAnyL_done (by kernel_rfl) ?_ _
                go_wp2_with fail
                go_meet
                exact ⟨va', vc', fa', fc', bn, rfl, hbn1, (by omega), HBx, HEx, R10, HSN⟩
        · refine ComesUp.mk rfl (fun K hK => ?_)
          go_simp
          obtain ⟨wn, hwn⟩ : ∃ wn, wn = wx.alloc (.cells #[.string ⟨#[]⟩, .int .i64 0, .int .i64 0, .string ⟨#[]⟩] 51) := ⟨_, rfl⟩
          obtain ⟨b12, hb12⟩ : ∃ b, b = wx.heap.size := ⟨_, rfl⟩
          rw [← hwn, ← hb12]
          have hbn := below_new hwn
          replace HX12 : Hid (Bx L (some b12) (.cells #[.string ⟨#[]⟩, .int .i64 0, .int .i64 0, .string ⟨#[]⟩] 51 (0, 0)) wn) := by rw [hb12]; exact Bx.new hwn hzx
          replace R10 := Lib.hid ((hbn.block B10 (by omega)).trans R10.out)
          replace HEx := Lib.hid (HEx.out.on hbn)
          replace HBx := Lib.hid (HBx.out.trans (hbn.mono HBx.out.size))
          try replace HSO := Lib.hid (HSO.out.below hbn)
          try replace HSN := Lib.hid (HSN.out.below hbn)
          have hzn : L ≤ wn.heap.size := by have := hbn.size; omega
          refine hK.out _ _ trivial ?_
          clear hK K hHeld hbn hzx hwn hb12
          intro hHeld
          walk_nrm
          clear wx
          obtain ⟨wx, rfl⟩ : ∃ wx : World, wx = wn := ⟨_, rfl⟩
          have hzx := hzn
          clear hzn
          refine wpAnyL_one 0 (by kernel_rfl) ?_
          · refine ComesUp.mk rfl (fun K hK => ?_)
            rw [if_pos (by rfl)]
            refine wp_load_row 28 _ rfl B10 rfl _ _ _ _ R10.out Tryd.underlying28 rfl (by kernel_rfl) ?_
            refine hK.out _ _ trivial ?_
            clear hK K hHeld
            intro hHeld
            walk_nrm
            refine wpAnyL_one 4 (by kernel_rfl) ?_
            · refine ComesUp.mk rfl (fun K hK => ?_)
              go_simp
              refine (keep_get (S8) (ka) va fa vc fc wx HEx.out HSO.out.at (by show _ ≤ 1000; exact HAS.out)).mono ?_
              rw [HG1.out]
              rintro e wn ⟨va', vc', fa', fc', rfl, hso, hbn⟩
              obtain ⟨bn, hbs'⟩ : ∃ b, b = wx.heap.size := ⟨_, rfl⟩
              rw [← hbs'] at hso
              have HSN := Lib.hid hso
              have hbn1 : B10 < bn := by omega
              clear hso hbs'
              replace HX12 := Lib.hid (HX12.out.below hbn)
              replace R10 := Lib.hid ((hbn.block B10 (by omega)).trans R10.out)
              replace HEx := Lib.hid (HEx.out.on hbn)
              replace HBx := Lib.hid (HBx.out.trans (hbn.mono HBx.out.size))
              have hzn : L ≤ wn.heap.size := by have := hbn.size; omega
              clear HSO
              refine hK.out _ _ trivial ?_
              clear hK K hHeld hbn hzx 
              intro hHeld
              walk_nrm
              refine wpAnyL_take (i := 5) (v := ?_) rfl (by kernel_rfl) (fun _ _ _ h => h) (Or.inl ⟨by rfl, ?_⟩) (by assumption) ?_
              rotate_left
              · intro wS hSw; go_simp <;> with_reducible rfl
              walk_nrm
              refine wpAnyL_take (i := 6) (v := ?_) rfl (by kernel_rfl) (fun _ _ _ h => h) (Or.inl ⟨by rfl, ?_⟩) (by assumption) ?_
              rotate_left
              · intro wS hSw; go_simp <;> with_reducible rfl
              walk_nrm
              refine wpAnyL_take (i := 7) (v := ?_) rfl (by kernel_rfl) (fun _ _ _ h => h) (Or.inl ⟨by rfl, ?_⟩) (by assumption) ?_
              rotate_left
              · intro wS hSw; go_simp <;> with_reducible rfl
              walk_nrm
              refine wpAnyL_take (i := 8) (v := ?_) rfl (by kernel_rfl) (fun _ _ _ h => h) (Or.inl ⟨by rfl, ?_⟩) (by assumption) ?_
              rotate_left
              · intro wS hSw; go_simp <;> with_reducible rfl
              walk_nrm
              clear wx
              obtain ⟨wx, rfl⟩ : ∃ wx : World, wx = wn := ⟨_, rfl⟩
              have hzx := hzn
              clear hzn
              refine wpAnyL_one 10 (by kernel_rfl) ?_
              · refine ComesUp.mk rfl (fun K hK => ?_)
                rw [if_pos (by rfl)]
                refine wp_store_row 28 _ _ rfl B10 _ rfl rfl _ _ R10.out storeSize rfl (store_one _ _ _ _ _) ?_
                obtain ⟨wn, hwn⟩ : ∃ wn, wn = wx.setRow B10 (storeV SA va' vc' fa' fc') := ⟨_, rfl⟩
                rw [← hwn]
                replace HX12 : Hid (Bx L (some b12) (.cells (#[.string ⟨#[]⟩, .int .i64 0, .int .i64 0, .string ⟨#[]⟩]) 51 (0, 0)) wn) := fun b hb => ⟨(HX12.out b hb).1, by rw [hwn]; exact (setRow_other _ _ _ _ (by have := (HX12.out b hb).1; omega)).trans (HX12.out b hb).2⟩
                replace R10 : Hid (wn.heap[B10]? = some (.cells (storeV SA va' vc' fa' fc') 28 (0, 0))) := by rw [hwn]; exact setRow_heap _ _ _ _ _ _ R10.out
                have hbn : Below w.heap.size wx wn := by rw [hwn]; exact Below.setRow _ B10 _ hB10w
                replace HSN : Hid (StOwn bn wn (SA) va' vc' fa' fc') := by rw [hwn]; exact HSN.out.set hbn1
                replace HEx := Lib.hid (HEx.out.below HE.out.globs hbn)
                replace HBx := Lib.hid (HBx.out.trans hbn)
                have hzn : L ≤ wn.heap.size := by have := hbn.size; omega
                refine hK.out _ _ trivial ?_
                clear hK K hHeld hbn hzx hwn
                intro hHeld
                walk_nrm
                clear wx
                obtain ⟨wx, rfl⟩ : ∃ wx : World, wx = wn := ⟨_, rfl⟩
                have hzx := hzn
                clear hzn
                refine wpAnyL_one 11 (by kernel_rfl) ?_
                refine ComesUp.mk rfl (fun K hK => ?_)
                rw [if_pos (by rfl)]
                have h12 := HX12.out b12 rfl
                refine wp_store_row 51 _ _ rfl b12 _ rfl rfl _ _ h12.2 hitSize rfl (hit_one _ _ _ _) ?_
                have n12 : b12 ≠ B10 := by omega
                obtain ⟨wn, hwn⟩ : ∃ wn, wn = wx.setRow b12 (#[.string (kk a), .int .i64 0, .int .i64 ((a : Int) + 1), .string vv]) := ⟨_, rfl⟩
                rw [← hwn]
                replace HX12 : Hid (Bx L (some b12) (.cells (#[.string (kk a), .int .i64 0, .int .i64 ((a : Int) + 1), .string vv]) 51 (0, 0)) wn) := fun b hb => by cases hb; exact ⟨h12.1, by rw [hwn]; exact setRow_heap _ _ _ _ _ _ h12.2⟩
                replace R10 : Hid (wn.heap[B10]? = some (.cells (storeV SA va' vc' fa' fc') 28 (0, 0))) := by show wn.heap[B10]? = _; rw [hwn]; exact (setRow_other _ _ _ _ (Ne.symm n12)).trans R10.out
                have hbn : Below w.heap.size wx wn := by rw [hwn]; exact Below.setRow _ b12 _ (by omega)
                replace HSN : Hid (StOwn bn wn (SA) va' vc' fa' fc') := by rw [hwn]; exact HSN.out.setT h12.2 (by decide) (by decide) (by decide)
                replace HEx := Lib.hid (HEx.out.below HE.out.globs hbn)
                replace HBx := Lib.hid (HBx.out.trans hbn)
                have hzn : L ≤ wn.heap.size := by have := hbn.size; omega
                refine hK.out _ _ trivial ?_
                clear hK K hHeld hbn hzx hwn h12 n12
                intro hHeld
                walk_nrm
                clear wx
                obtain ⟨wx, rfl⟩ : ∃ wx : World, wx = wn := ⟨_, rfl⟩
                have hzx := hzn
                clear hzn
                refine wpAnyL_last rfl (by kernel_rfl) (fun K hK => ?_)
                go_simp
                refine hK.out _ _ ?_
                clear hK K
                walk_nrm
                refine wpAnyL_done (by kernel_rfl) ?_ _
                go_wp2_with fail
                go_meet
                exact ⟨va', vc', fa', fc', bn, rfl, hbn1, (by omega), HBx, HEx, R10, HSN⟩
      case rest =>
        clear HSO R10 HEx HBx hzr hbs
        obtain ⟨va, vc, fa, fc, bs, rfl, hbs, hzr, HBx, HEx, R10, HSO⟩ := hcut
        go_upto_region 12 with (fail)
        go_cut [14, 15] (fun v14 v15 wx => ∃ B14 va' vc' fa' fc' ha' hc' bn, v14 = .pointer (some ⟨B14, 0, none⟩) ∧ v15 = .int .i64 0 ∧ B10 < bn ∧ B14 ≠ B10 ∧ B10 < wx.heap.size ∧ Hid (Below w.heap.size w wx) ∧ Hid (Env wx) ∧ Hid (wx.heap[B10]? = some (.cells (storeV SF va' vc' fa' fc') 28 (0, 0))) ∧ Hid (StOwn bn wx SF va' vc' fa' fc') ∧ Hid (wx.heap[B14]? = some (.cells (replyCells ⟨2, 0, []⟩ ha' hc') 38 (0, 0))))
        case first =>
          obtain ⟨WS, hWS⟩ : ∃ W : World, W = wc := ⟨_, rfl⟩
          rw [← hWS] at HBx HEx R10 HSO hzr ⊢
          clear hWS
          obtain ⟨L, hL⟩ : ∃ L, L = WS.heap.size := ⟨_, rfl⟩
          have hBL : B10 < L := by omega
          have hbL : w.heap.size ≤ L := by have := HBx.out.size; omega
          refine wp_region_L (fun _ : World => True) 13 14 (by kernel_rfl) (by kernel_rfl) trivial (fun hHeld => ?_)
          refine wpAnyL_take (i := 1) (v := ?_) rfl (by kernel_rfl) (fun _ _ _ h => h) (Or.inl ⟨by rfl, ?_⟩) (by assumption) ?_
          rotate_left
          · intro wS hSw; go_simp <;> with_reducible rfl
          walk_nrm
          refine wpAnyL_call (i := 2) (v := (.int .i64 (m : Int))) rfl (by kernel_rfl) (fun _ _ _ h => h) ⟨by rfl, 8, #[.int .i64 n, .int .i64 9], fun wS hSw => ⟨?_, (picked_at n 9 (m : Int) HM hn.1 hn.2 (by decide) (by decide) wS).mono (fun _ _ h => ⟨h.1, h.2.symm⟩)⟩⟩ (by assumption) ?_
          · go_simp
          walk_nrm
          refine wpAnyL_call (i := 3) (v := (.string (decS (m : Int)))) rfl (by kernel_rfl) (fun _ _ _ h => h) ⟨by rfl, 7, #[.int .i64 (m : Int)], fun wS hSw => ⟨?_, (itoa_small (m : Int) (by omega) wS).mono (fun _ _ h => ⟨h.1, h.2.symm⟩)⟩⟩ (by assumption) ?_
          · go_simp
          walk_nrm
          refine wpAnyL_take (i := 4) (v := ?_) rfl (by kernel_rfl) (fun _ _ _ h => h) (Or.inl ⟨by rfl, ?_⟩) (by assumption) ?_
          rotate_left
          · intro wS hSw; go_simp <;> with_reducible rfl
          walk_nrm
          obtain ⟨wx, hwx⟩ : ∃ wx, wx = WS.drew := ⟨_, rfl⟩
          rw [← hwx]
          replace R10 : Hid (wx.heap[B10]? = some (.cells (storeV (SA) va vc fa fc) 28 (0, 0))) := by rw [hwx]; exact R10
          replace HBx : Hid (Below w.heap.size w wx) := by rw [hwx]; exact HBx.out.drew
          replace HSO : Hid (StOwn bs wx (SA) va vc fa fc) := by rw [hwx]; exact HSO.out.below (Below.refl _ _).drew
          replace HEx : Hid (Env wx) := by rw [hwx]; exact Lib.hid (HEx.out.on (Below.refl _ _).drew)
          have hzx : L ≤ wx.heap.size := by rw [hwx, hL]; exact Nat.le_refl _
          have HX14 : Hid (Bx L none (.cells #[.int .i64 0, .int .i64 0, .slice none 0 0] 38 (0, 0)) wx) := Bx.none
          clear hwx hL hzr
          refine wpAnyL_two 0 10 (by kernel_rfl) ?_ ?_
          · refine ComesUp.mk rfl (fun K hK => ?_)
            rw [if_pos (by rfl)]
            refine wp_load_row 28 _ rfl B10 rfl _ _ _ _ R10.out Tryd.underlying28 rfl (by kernel_rfl) ?_
            refine hK.out _ _ trivial ?_
            clear hK K hHeld
            intro hHeld
            walk_nrm
            refine wpAnyL_two 5 10 (by kernel_rfl) ?_ ?_
            · refine ComesUp.mk rfl (fun K hK => ?_)
              go_simp
              refine (do_at (s := SA) (r := reqPut 2 nw (decS (m : Int)) 0) (va := va) (vc := vc) (fa := fa) (fc := fc) (ka := none) (kc := 0) HEx (Lib.hid HSO.out.at) (RowsAt.nil _ _ _ _) (Nat.zero_le _) (by show _ ≤ 1000; exact (by decide : nw.size ≤ 1000)) rfl rfl).mono ?_
              rw [HD2.out]
              rintro e wn ⟨va', vc', fa', fc', ha', hc', rfl, hso, -, hbn⟩
              obtain ⟨bn, hbs'⟩ : ∃ b, b = wx.heap.size := ⟨_, rfl⟩
              rw [← hbs'] at hso
              have HSN := Lib.hid hso
              have hbn1 : B10 < bn := by omega
              clear hso hbs'
              replace HX14 := Lib.hid (HX14.out.below hbn)
              replace R10 := Lib.hid ((hbn.block B10 (by omega)).trans R10.out)
              replace HEx := Lib.hid (HEx.out.on hbn)
              replace HBx := Lib.hid (HBx.out.trans (hbn.mono HBx.out.size))
              have hzn : L ≤ wn.heap.size := by have := hbn.size; omega
              clear HSO
              refine hK.out _ _ trivial ?_
              clear hK K hHeld hbn hzx 
              intro hHeld
              walk_nrm
              refine wpAnyL_take (i := 6) (v := ?_) rfl (by kernel_rfl) (fun _ _ _ h => h) (Or.inl ⟨by rfl, ?_⟩) (by assumption) ?_
              rotate_left
              · intro wS hSw; go_simp <;> with_reducible rfl
              walk_nrm
              refine wpAnyL_take (i := 7) (v := ?_) rfl (by kernel_rfl) (fun _ _ _ h => h) (Or.inl ⟨by rfl, ?_⟩) (by assumption) ?_
              rotate_left
              · intro wS hSw; go_simp <;> with_reducible rfl
              walk_nrm
              refine wpAnyL_take (i := 8) (v := ?_) rfl (by kernel_rfl) (fun _ _ _ h => h) (Or.inl ⟨by rfl, ?_⟩) (by assumption) ?_
              rotate_left
              · intro wS hSw; go_simp <;> with_reducible rfl
              walk_nrm
              refine wpAnyL_take (i := 9) (v := ?_) rfl (by kernel_rfl) (fun _ _ _ h => h) (Or.inl ⟨by rfl, ?_⟩) (by assumption) ?_
              rotate_left
              · intro wS hSw; go_simp <;> with_reducible rfl
              walk_nrm
              clear wx
              obtain ⟨wx, rfl⟩ : ∃ wx : World, wx = wn := ⟨_, rfl⟩
              have hzx := hzn
              clear hzn
              refine wpAnyL_one 10 (by kernel_rfl) ?_
              · refine ComesUp.mk rfl (fun K hK => ?_)
                go_simp
                obtain ⟨wn, hwn⟩ : ∃ wn, wn = wx.alloc (.cells #[.int .i64 0, .int .i64 0, .slice none 0 0] 38) := ⟨_, rfl⟩
                obtain ⟨b14, hb14⟩ : ∃ b, b = wx.heap.size := ⟨_, rfl⟩
                rw [← hwn, ← hb14]
                have hbn := below_new hwn
                replace HX14 : Hid (Bx L (some b14) (.cells #[.int .i64 0, .int .i64 0, .slice none 0 0] 38 (0, 0)) wn) := by rw [hb14]; exact Bx.new hwn hzx
                replace R10 := Lib.hid ((hbn.block B10 (by omega)).trans R10.out)
                replace HEx := Lib.hid (HEx.out.on hbn)
                replace HBx := Lib.hid (HBx.out.trans (hbn.mono HBx.out.size))
                try replace HSO := Lib.hid (HSO.out.below hbn)
                try replace HSN := Lib.hid (HSN.out.below hbn)
                have hzn : L ≤ wn.heap.size := by have := hbn.size; omega
                refine hK.out _ _ trivial ?_
                clear hK K hHeld hbn hzx hwn hb14
                intro hHeld
                walk_nrm
                clear wx
                obtain ⟨wx, rfl⟩ : ∃ wx : World, wx = wn := ⟨_, rfl⟩
                have hzx := hzn
                clear hzn
                refine wpAnyL_one 11 (by kernel_rfl) ?_
                · refine ComesUp.mk rfl (fun K hK => ?_)
                  rw [if_pos (by rfl)]
                  refine wp_store_row 28 _ _ rfl B10 _ rfl rfl _ _ R10.out storeSize rfl (store_one _ _ _ _ _) ?_
                  obtain ⟨wn, hwn⟩ : ∃ wn, wn = wx.setRow B10 (storeV SF va' vc' fa' fc') := ⟨_, rfl⟩
                  rw [← hwn]
                  replace HX14 : Hid (Bx L (some b14) (.cells (#[.int .i64 0, .int .i64 0, .slice none 0 0]) 38 (0, 0)) wn) := fun b hb => ⟨(HX14.out b hb).1, by rw [hwn]; exact (setRow_other _ _ _ _ (by have := (HX14.out b hb).1; omega)).trans (HX14.out b hb).2⟩
                  replace R10 : Hid (wn.heap[B10]? = some (.cells (storeV SF va' vc' fa' fc') 28 (0, 0))) := by rw [hwn]; exact setRow_heap _ _ _ _ _ _ R10.out
                  have hbn : Below w.heap.size wx wn := by rw [hwn]; exact Below.setRow _ B10 _ hB10w
                  replace HSN : Hid (StOwn bn wn (SF) va' vc' fa' fc') := by rw [hwn]; exact HSN.out.set hbn1
                  replace HEx := Lib.hid (HEx.out.below HE.out.globs hbn)
                  replace HBx := Lib.hid (HBx.out.trans hbn)
                  have hzn : L ≤ wn.heap.size := by have := hbn.size; omega
                  refine hK.out _ _ trivial ?_
                  clear hK K hHeld hbn hzx hwn
                  intro hHeld
                  walk_nrm
                  clear wx
                  obtain ⟨wx, rfl⟩ : ∃ wx : World, wx = wn := ⟨_, rfl⟩
                  have hzx := hzn
                  clear hzn
                  refine wpAnyL_one 12 (by kernel_rfl) ?_
                  refine ComesUp.mk rfl (fun K hK => ?_)
                  rw [if_pos (by rfl)]
                  have h14 := HX14.out b14 rfl
                  refine wp_store_row 38 _ _ rfl b14 _ rfl rfl _ _ h14.2 replySize rfl (reply_one _ _ _) ?_
                  have n14 : b14 ≠ B10 := by omega
                  obtain ⟨wn, hwn⟩ : ∃ wn, wn = wx.setRow b14 (replyCells ⟨2, 0, []⟩ ha' hc') := ⟨_, rfl⟩
                  rw [← hwn]
                  replace HX14 : Hid (Bx L (some b14) (.cells (replyCells ⟨2, 0, []⟩ ha' hc') 38 (0, 0)) wn) := fun b hb => by cases hb; exact ⟨h14.1, by rw [hwn]; exact setRow_heap _ _ _ _ _ _ h14.2⟩
                  replace R10 : Hid (wn.heap[B10]? = some (.cells (storeV SF va' vc' fa' fc') 28 (0, 0))) := by show wn.heap[B10]? = _; rw [hwn]; exact (setRow_other _ _ _ _ (Ne.symm n14)).trans R10.out
                  have hbn : Below w.heap.size wx wn := by rw [hwn]; exact Below.setRow _ b14 _ (by omega)
                  replace HSN : Hid (StOwn bn wn (SF) va' vc' fa' fc') := by rw [hwn]; exact HSN.out.setT h14.2 (by decide) (by decide) (by decide)
                  replace HEx := Lib.hid (HEx.out.below HE.out.globs hbn)
                  replace HBx := Lib.hid (HBx.out.trans hbn)
                  have hzn : L ≤ wn.heap.size := by have := hbn.size; omega
                  refine hK.out _ _ trivial ?_
                  clear hK K hHeld hbn hzx hwn h14 n14
                  intro hHeld
                  walk_nrm
                  clear wx
                  obtain ⟨wx, rfl⟩ : ∃ wx : World, wx = wn := ⟨_, rfl⟩
                  have hzx := hzn
                  clear hzn
                  refine wpAnyL_last rfl (by kernel_rfl) (fun K hK => ?_)
                  go_simp
                  refine hK.out _ _ ?_
                  clear hK K
                  walk_nrm
                  refine wpAnyL_done (by kernel_rfl) ?_ _
                  go_wp2_with fail
                  go_meet
                  exact ⟨b14, va', vc', fa', fc', ha', hc', bn, rfl, rfl, hbn1, (by have := (HX14.out b14 rfl).1; omega), (by omega), HBx, HEx, R10, HSN, (HX14.out b14 rfl).2⟩
            · refine ComesUp.mk rfl (fun K hK => ?_)
              go_simp
              obtain ⟨wn, hwn⟩ : ∃ wn, wn = wx.alloc (.cells #[.int .i64 0, .int .i64 0, .slice none 0 0] 38) := ⟨_, rfl⟩
              obtain ⟨b14, hb14⟩ : ∃ b, b = wx.heap.size := ⟨_, rfl⟩
              rw [← hwn, ← hb14]
              have hbn := below_new hwn
              replace HX14 : Hid (Bx L (some b14) (.cells #[.int .i64 0, .int .i64 0, .slice none 0 0] 38 (0, 0)) wn) := by rw [hb14]; exact Bx.new hwn hzx
              replace R10 := Lib.hid ((hbn.block B10 (by omega)).trans R10.out)
              replace HEx := Lib.hid (HEx.out.on hbn)
              replace HBx := Lib.hid (HBx.out.trans (hbn.mono HBx.out.size))
              try replace HSO := Lib.hid (HSO.out.below hbn)
              try replace HSN := Lib.hid (HSN.out.below hbn)
              have hzn : L ≤ wn.heap.size := by have := hbn.size; omega
              refine hK.out _ _ trivial ?_
              clear hK K hHeld hbn hzx hwn hb14
              intro hHeld
              walk_nrm
              clear wx
              obtain ⟨wx, rfl⟩ : ∃ wx : World, wx = wn := ⟨_, rfl⟩
              have hzx := hzn
              clear hzn
              refine wpAnyL_one 5 (by kernel_rfl) ?_
              · refine ComesUp.mk rfl (fun K hK => ?_)
                go_simp
                refine (do_at (s := SA) (r := reqPut 2 nw (decS (m : Int)) 0) (va := va) (vc := vc) (fa := fa) (fc := fc) (ka := none) (kc := 0) HEx (Lib.hid HSO.out.at) (RowsAt.nil _ _ _ _) (Nat.zero_le _) (by show _ ≤ 1000; exact (by decide : nw.size ≤ 1000)) rfl rfl).mono ?_
                rw [HD2.out]
                rintro e wn ⟨va', vc', fa', fc', ha', hc', rfl, hso, -, hbn⟩
                obtain ⟨bn, hbs'⟩ : ∃ b, b = wx.heap.size := ⟨_, rfl⟩
                rw [← hbs'] at hso
                have HSN := Lib.hid hso
                have hbn1 : B10 < bn := by omega
                clear hso hbs'
                replace HX14 := Lib.hid (HX14.out.below hbn)
                replace R10 := Lib.hid ((hbn.block B10 (by omega)).trans R10.out)
                replace HEx := Lib.hid (HEx.out.on hbn)
                replace HBx := Lib.hid (HBx.out.trans (hbn.mono HBx.out.size))
                have hzn : L ≤ wn.heap.size := by have := hbn.size; omega
                clear HSO
                refine hK.out _ _ trivial ?_
                clear hK K hHeld hbn hzx 
                intro hHeld
                walk_nrm
                refine wpAnyL_take (i := 6) (v := ?_) rfl (by kernel_rfl) (fun _ _ _ h => h) (Or.inl ⟨by rfl, ?_⟩) (by assumption) ?_
                rotate_left
                · intro wS hSw; go_simp <;> with_reducible rfl
                walk_nrm
                refine wpAnyL_take (i := 7) (v := ?_) rfl (by kernel_rfl) (fun _ _ _ h => h) (Or.inl ⟨by rfl, ?_⟩) (by assumption) ?_
                rotate_left
                · intro wS hSw; go_simp <;> with_reducible rfl
                walk_nrm
                refine wpAnyL_take (i := 8) (v := ?_) rfl (by kernel_rfl) (fun _ _ _ h => h) (Or.inl ⟨by rfl, ?_⟩) (by assumption) ?_
                rotate_left
                · intro wS hSw; go_simp <;> with_reducible rfl
                walk_nrm
                refine wpAnyL_take (i := 9) (v := ?_) rfl (by kernel_rfl) (fun _ _ _ h => h) (Or.inl ⟨by rfl, ?_⟩) (by assumption) ?_
                rotate_left
                · intro wS hSw; go_simp <;> with_reducible rfl
                walk_nrm
                clear wx
                obtain ⟨wx, rfl⟩ : ∃ wx : World, wx = wn := ⟨_, rfl⟩
                have hzx := hzn
                clear hzn
                refine wpAnyL_one 11 (by kernel_rfl) ?_
                · refine ComesUp.mk rfl (fun K hK => ?_)
                  rw [if_pos (by rfl)]
                  refine wp_store_row 28 _ _ rfl B10 _ rfl rfl _ _ R10.out storeSize rfl (store_one _ _ _ _ _) ?_
                  obtain ⟨wn, hwn⟩ : ∃ wn, wn = wx.setRow B10 (storeV SF va' vc' fa' fc') := ⟨_, rfl⟩
                  rw [← hwn]
                  replace HX14 : Hid (Bx L (some b14) (.cells (#[.int .i64 0, .int .i64 0, .slice none 0 0]) 38 (0, 0)) wn) := fun b hb => ⟨(HX14.out b hb).1, by rw [hwn]; exact (setRow_other _ _ _ _ (by have := (HX14.out b hb).1; omega)).trans (HX14.out b hb).2⟩
                  replace R10 : Hid (wn.heap[B10]? = some (.cells (storeV SF va' vc' fa' fc') 28 (0, 0))) := by rw [hwn]; exact setRow_heap _ _ _ _ _ _ R10.out
                  have hbn : Below w.heap.size wx wn := by rw [hwn]; exact Below.setRow _ B10 _ hB10w
                  replace HSN : Hid (StOwn bn wn (SF) va' vc' fa' fc') := by rw [hwn]; exact HSN.out.set hbn1
                  replace HEx := Lib.hid (HEx.out.below HE.out.globs hbn)
                  replace HBx := Lib.hid (HBx.out.trans hbn)
                  have hzn : L ≤ wn.heap.size := by have := hbn.size; omega
                  refine hK.out _ _ trivial ?_
                  clear hK K hHeld hbn hzx hwn
                  intro hHeld
                  walk_nrm
                  clear wx
                  obtain ⟨wx, rfl⟩ : ∃ wx : World, wx = wn := ⟨_, rfl⟩
                  have hzx := hzn
                  clear hzn
                  refine wpAnyL_one 12 (by kernel_rfl) ?_
                  refine ComesUp.mk rfl (fun K hK => ?_)
                  rw [if_pos (by rfl)]
                  have h14 := HX14.out b14 rfl
                  refine wp_store_row 38 _ _ rfl b14 _ rfl rfl _ _ h14.2 replySize rfl (reply_one _ _ _) ?_
                  have n14 : b14 ≠ B10 := by omega
                  obtain ⟨wn, hwn⟩ : ∃ wn, wn = wx.setRow b14 (replyCells ⟨2, 0, []⟩ ha' hc') := ⟨_, rfl⟩
                  rw [← hwn]
                  replace HX14 : Hid (Bx L (some b14) (.cells (replyCells ⟨2, 0, []⟩ ha' hc') 38 (0, 0)) wn) := fun b hb => by cases hb; exact ⟨h14.1, by rw [hwn]; exact setRow_heap _ _ _ _ _ _ h14.2⟩
                  replace R10 : Hid (wn.heap[B10]? = some (.cells (storeV SF va' vc' fa' fc') 28 (0, 0))) := by show wn.heap[B10]? = _; rw [hwn]; exact (setRow_other _ _ _ _ (Ne.symm n14)).trans R10.out
                  have hbn : Below w.heap.size wx wn := by rw [hwn]; exact Below.setRow _ b14 _ (by omega)
                  replace HSN : Hid (StOwn bn wn (SF) va' vc' fa' fc') := by rw [hwn]; exact HSN.out.setT h14.2 (by decide) (by decide) (by decide)
                  replace HEx := Lib.hid (HEx.out.below HE.out.globs hbn)
                  replace HBx := Lib.hid (HBx.out.trans hbn)
                  have hzn : L ≤ wn.heap.size := by have := hbn.size; omega
                  refine hK.out _ _ trivial ?_
                  clear hK K hHeld hbn hzx hwn h14 n14
                  intro hHeld
                  walk_nrm
                  clear wx
                  obtain ⟨wx, rfl⟩ : ∃ wx : World, wx = wn := ⟨_, rfl⟩
                  have hzx := hzn
                  clear hzn
                  refine wpAnyL_last rfl (by kernel_rfl) (fun K hK => ?_)
                  go_simp
                  refine hK.out _ _ ?_
                  clear hK K
                  walk_nrm
                  refine wpAnyL_done (by kernel_rfl) ?_ _
                  go_wp2_with fail
                  go_meet
                  exact ⟨b14, va', vc', fa', fc', ha', hc', bn, rfl, rfl, hbn1, (by have := (HX14.out b14 rfl).1; omega), (by omega), HBx, HEx, R10, HSN, (HX14.out b14 rfl).2⟩
          · refine ComesUp.mk rfl (fun K hK => ?_)
            go_simp
            obtain ⟨wn, hwn⟩ : ∃ wn, wn = wx.alloc (.cells #[.int .i64 0, .int .i64 0, .slice none 0 0] 38) := ⟨_, rfl⟩
            obtain ⟨b14, hb14⟩ : ∃ b, b = wx.heap.size := ⟨_, rfl⟩
            rw [← hwn, ← hb14]
            have hbn := below_new hwn
            replace HX14 : Hid (Bx L (some b14) (.cells #[.int .i64 0, .int .i64 0, .slice none 0 0] 38 (0, 0)) wn) := by rw [hb14]; exact Bx.new hwn hzx
            replace R10 := Lib.hid ((hbn.block B10 (by omega)).trans R10.out)
            replace HEx := Lib.hid (HEx.out.on hbn)
            replace HBx := Lib.hid (HBx.out.trans (hbn.mono HBx.out.size))
            try replace HSO := Lib.hid (HSO.out.below hbn)
            try replace HSN := Lib.hid (HSN.out.below hbn)
            have hzn : L ≤ wn.heap.size := by have := hbn.size; omega
            refine hK.out _ _ trivial ?_
            clear hK K hHeld hbn hzx hwn hb14
            intro hHeld
            walk_nrm
            clear wx
            obtain ⟨wx, rfl⟩ : ∃ wx : World, wx = wn := ⟨_, rfl⟩
            have hzx := hzn
            clear hzn
            refine wpAnyL_one 0 (by kernel_rfl) ?_
            · refine ComesUp.mk rfl (fun K hK => ?_)
              rw [if_pos (by rfl)]
              refine wp_load_row 28 _ rfl B10 rfl _ _ _ _ R10.out Tryd.underlying28 rfl (by kernel_rfl) ?_
              refine hK.out _ _ trivial ?_
              clear hK K hHeld
              intro hHeld
              walk_nrm
              refine wpAnyL_one 5 (by kernel_rfl) ?_
              · refine ComesUp.mk rfl (fun K hK => ?_)
                go_simp
                refine (do_at (s := SA) (r := reqPut 2 nw (decS (m : Int)) 0) (va := va) (vc := vc) (fa := fa) (fc := fc) (ka := none) (kc := 0) HEx (Lib.hid HSO.out.at) (RowsAt.nil _ _ _ _) (Nat.zero_le _) (by show _ ≤ 1000; exact (by decide : nw.size ≤ 1000)) rfl rfl).mono ?_
                rw [HD2.out]
                rintro e wn ⟨va', vc', fa', fc', ha', hc', rfl, hso, -, hbn⟩
                obtain ⟨bn, hbs'⟩ : ∃ b, b = wx.heap.size := ⟨_, rfl⟩
                rw [← hbs'] at hso
                have HSN := Lib.hid hso
                have hbn1 : B10 < bn := by omega
                clear hso hbs'
                replace HX14 := Lib.hid (HX14.out.below hbn)
                replace R10 := Lib.hid ((hbn.block B10 (by omega)).trans R10.out)
                replace HEx := Lib.hid (HEx.out.on hbn)
                replace HBx := Lib.hid (HBx.out.trans (hbn.mono HBx.out.size))
                have hzn : L ≤ wn.heap.size := by have := hbn.size; omega
                clear HSO
                refine hK.out _ _ trivial ?_
                clear hK K hHeld hbn hzx 
                intro hHeld
                walk_nrm
                refine wpAnyL_take (i := 6) (v := ?_) rfl (by kernel_rfl) (fun _ _ _ h => h) (Or.inl ⟨by rfl, ?_⟩) (by assumption) ?_
                rotate_left
                · intro wS hSw; go_simp <;> with_reducible rfl
                walk_nrm
                refine wpAnyL_take (i := 7) (v := ?_) rfl (by kernel_rfl) (fun _ _ _ h => h) (Or.inl ⟨by rfl, ?_⟩) (by assumption) ?_
                rotate_left
                · intro wS hSw; go_simp <;> with_reducible rfl
                walk_nrm
                refine wpAnyL_take (i := 8) (v := ?_) rfl (by kernel_rfl) (fun _ _ _ h => h) (Or.inl ⟨by rfl, ?_⟩) (by assumption) ?_
                rotate_left
                · intro wS hSw; go_simp <;> with_reducible rfl
                walk_nrm
                refine wpAnyL_take (i := 9) (v := ?_) rfl (by kernel_rfl) (fun _ _ _ h => h) (Or.inl ⟨by rfl, ?_⟩) (by assumption) ?_
                rotate_left
                · intro wS hSw; go_simp <;> with_reducible rfl
                walk_nrm
                clear wx
                obtain ⟨wx, rfl⟩ : ∃ wx : World, wx = wn := ⟨_, rfl⟩
                have hzx := hzn
                clear hzn
                refine wpAnyL_one 11 (by kernel_rfl) ?_
                · refine ComesUp.mk rfl (fun K hK => ?_)
                  rw [if_pos (by rfl)]
                  refine wp_store_row 28 _ _ rfl B10 _ rfl rfl _ _ R10.out storeSize rfl (store_one _ _ _ _ _) ?_
                  obtain ⟨wn, hwn⟩ : ∃ wn, wn = wx.setRow B10 (storeV SF va' vc' fa' fc') := ⟨_, rfl⟩
                  rw [← hwn]
                  replace HX14 : Hid (Bx L (some b14) (.cells (#[.int .i64 0, .int .i64 0, .slice none 0 0]) 38 (0, 0)) wn) := fun b hb => ⟨(HX14.out b hb).1, by rw [hwn]; exact (setRow_other _ _ _ _ (by have := (HX14.out b hb).1; omega)).trans (HX14.out b hb).2⟩
                  replace R10 : Hid (wn.heap[B10]? = some (.cells (storeV SF va' vc' fa' fc') 28 (0, 0))) := by rw [hwn]; exact setRow_heap _ _ _ _ _ _ R10.out
                  have hbn : Below w.heap.size wx wn := by rw [hwn]; exact Below.setRow _ B10 _ hB10w
                  replace HSN : Hid (StOwn bn wn (SF) va' vc' fa' fc') := by rw [hwn]; exact HSN.out.set hbn1
                  replace HEx := Lib.hid (HEx.out.below HE.out.globs hbn)
                  replace HBx := Lib.hid (HBx.out.trans hbn)
                  have hzn : L ≤ wn.heap.size := by have := hbn.size; omega
                  refine hK.out _ _ trivial ?_
                  clear hK K hHeld hbn hzx hwn
                  intro hHeld
                  walk_nrm
                  clear wx
                  obtain ⟨wx, rfl⟩ : ∃ wx : World, wx = wn := ⟨_, rfl⟩
                  have hzx := hzn
                  clear hzn
                  refine wpAnyL_one 12 (by kernel_rfl) ?_
                  refine ComesUp.mk rfl (fun K hK => ?_)
                  rw [if_pos (by rfl)]
                  have h14 := HX14.out b14 rfl
                  refine wp_store_row 38 _ _ rfl b14 _ rfl rfl _ _ h14.2 replySize rfl (reply_one _ _ _) ?_
                  have n14 : b14 ≠ B10 := by omega
                  obtain ⟨wn, hwn⟩ : ∃ wn, wn = wx.setRow b14 (replyCells ⟨2, 0, []⟩ ha' hc') := ⟨_, rfl⟩
                  rw [← hwn]
                  replace HX14 : Hid (Bx L (some b14) (.cells (replyCells ⟨2, 0, []⟩ ha' hc') 38 (0, 0)) wn) := fun b hb => by cases hb; exact ⟨h14.1, by rw [hwn]; exact setRow_heap _ _ _ _ _ _ h14.2⟩
                  replace R10 : Hid (wn.heap[B10]? = some (.cells (storeV SF va' vc' fa' fc') 28 (0, 0))) := by show wn.heap[B10]? = _; rw [hwn]; exact (setRow_other _ _ _ _ (Ne.symm n14)).trans R10.out
                  have hbn : Below w.heap.size wx wn := by rw [hwn]; exact Below.setRow _ b14 _ (by omega)
                  replace HSN : Hid (StOwn bn wn (SF) va' vc' fa' fc') := by rw [hwn]; exact HSN.out.setT h14.2 (by decide) (by decide) (by decide)
                  replace HEx := Lib.hid (HEx.out.below HE.out.globs hbn)
                  replace HBx := Lib.hid (HBx.out.trans hbn)
                  have hzn : L ≤ wn.heap.size := by have := hbn.size; omega
                  refine hK.out _ _ trivial ?_
                  clear hK K hHeld hbn hzx hwn h14 n14
                  intro hHeld
                  walk_nrm
                  clear wx
                  obtain ⟨wx, rfl⟩ : ∃ wx : World, wx = wn := ⟨_, rfl⟩
                  have hzx := hzn
                  clear hzn
                  refine wpAnyL_last rfl (by kernel_rfl) (fun K hK => ?_)
                  go_simp
                  refine hK.out _ _ ?_
                  clear hK K
                  walk_nrm
                  refine wpAnyL_done (by kernel_rfl) ?_ _
                  go_wp2_with fail
                  go_meet
                  exact ⟨b14, va', vc', fa', fc', ha', hc', bn, rfl, rfl, hbn1, (by have := (HX14.out b14 rfl).1; omega), (by omega), HBx, HEx, R10, HSN, (HX14.out b14 rfl).2⟩
        case rest =>
          clear HSO R10 HEx HBx hzr hbs
          obtain ⟨B14, va, vc, fa, fc, ha', hc', bs, rfl, rfl, hbs, n14, hzr, HB3, HE3, R3, HS3, R14⟩ := hcut
          obtain ⟨w3, rfl⟩ : ∃ w3 : World, w3 = wc := ⟨_, rfl⟩
          have c0 : ((a : Int) == 0) = decide (a = 0) := by by_cases h : a = 0 <;> simp [h]
          go_upto_if 70 with (fail)
          go_cut [16] (fun v16 wx => v16 = .int .i64 (goneOf a : Nat) ∧ wx = w3)
          case first =>
            by_cases h0 : a = 0
            · have f0 : decide (a = 0) = true := decide_eq_true h0
              go_wp2_with fail
              go_meet
              exact ⟨by unfold goneOf; rw [if_pos h0]; rfl, rfl⟩
            · have f0 : decide (a = 0) = false := decide_eq_false h0
              go_wp2_with fail
              go_meet
              exact ⟨by unfold goneOf; rw [if_neg h0]; rfl, rfl⟩
          case rest =>
            obtain ⟨rfl, hwc⟩ := hcut
            rw [hwc]
            clear hwc
            obtain ⟨g, hg⟩ : ∃ g, g = goneOf a := ⟨_, rfl⟩
            have HGN := Lib.hid hg
            rw [← hg]
            clear hg
            go_wp2_with fail
            go_loopw [71] (fun i wr => ∃ (k : Nat), k ≤ 8 ∧ i = .int .i64 k ∧ Hid (Below w3.heap.size w3 wr)) (fun i _ => 8 - (intOf i).toNat)
            case atStart => exact ⟨0, by omega, rfl, Below.refl _ _⟩
            case round =>
              obtain ⟨k, hk, rfl, HBR⟩ := hrel
              have HBx := Lib.hid (HB3.out.trans (HBR.out.mono HB3.out.size))
              have HEx := Lib.hid (HE3.out.on HBR.out)
              have R10 := Lib.hid ((HBR.out.block B10 hzr).trans R3.out)
              have HSO := Lib.hid (HS3.out.below HBR.out)
              have hzw : B10 < wr.heap.size := by have := HBR.out.size; omega
              by_cases hlt : k < 8
              ·
                have h8 : (k : Int) < 8 := by omega
                obtain ⟨gt, gh, hgo⟩ := HGE.out k hlt
                rw [← HGN.out] at hgo
                obtain ⟨there, hth⟩ : ∃ b, b = decide (k ≠ g) := ⟨_, rfl⟩
                rw [← hth] at hgo
                have HG2 := Lib.hid hgo
                have HTH := Lib.hid hth
                obtain ⟨ky, hky⟩ : ∃ ky, ky = (⟨#[107]⟩ : ByteArray) ++ decS (k : Int) := ⟨_, rfl⟩
                have hkk : ky = kk k := by rw [hky]; exact kk_dec (by omega)
                have HKY := Lib.hid hky
                have HKS : Hid (ky.size ≤ 1000) := by show _ ≤ _; rw [hkk, kk_size]; omega
                rw [← hky] at HG2
                clear hgo hth hky hkk
                go_upto_region 19 with (fail)
                go_cut [20] (fun v20 wx => v20 = .bool there ∧ Hid (Below w3.heap.size w3 wx))
                case first =>
                  clear HBx
                  have HBx := HBR
                  have hzr' := hzr
                  clear hzr
                  have hzr := hzw
                  obtain ⟨WS, hWS⟩ : ∃ W : World, W = wr := ⟨_, rfl⟩
                  rw [← hWS] at HBR HBx HEx R10 HSO hzw hzr ⊢
                  clear hWS
                  obtain ⟨L, hL⟩ : ∃ L, L = WS.heap.size := ⟨_, rfl⟩
                  have hBL : B10 < L := by omega
                  have hbL : w3.heap.size ≤ L := by have := HBx.out.size; omega
                  refine wp_region_L (fun w' : World => w'.heap[B10]? = some (.cells (storeV (SF) va vc fa fc) 28 (0, 0))) 13 14 (by kernel_rfl) (by kernel_rfl) R10.out (fun hHeld => ?_)
                  have LN : ¬ 9223372036854775807 < 1 + (decS (k : Int)).size := by rw [← oneC_dec (by omega)]; show ¬ 9223372036854775807 < 1 + 1; omega
                  refine wpAnyL_take (i := 1) (v := ?_) rfl (by kernel_rfl) (fun _ _ _ h => h) (Or.inl ⟨by rfl, ?_⟩) (by assumption) ?_
                  rotate_left
                  · intro wS hSw; go_simp <;> with_reducible rfl
                  walk_nrm
                  refine wpAnyL_call (i := 2) (v := (.string (decS (k : Int)))) rfl (by kernel_rfl) (fun _ _ _ h => h) ⟨by rfl, 7, #[.int .i64 (k : Int)], fun wS hSw => ⟨?_, (itoa_small (k : Int) (by omega) wS).mono (fun _ _ h => ⟨h.1, h.2.symm⟩)⟩⟩ (by assumption) ?_
                  · go_simp
                  walk_nrm
                  refine wpAnyL_take (i := 3) (v := ?_) rfl (by kernel_rfl) (fun _ _ _ h => h) (Or.inl ⟨by rfl, ?_⟩) (by assumption) ?_
                  rotate_left
                  · intro wS hSw; go_simp <;> with_reducible rfl
                  walk_nrm
                  rw [← HKY.out]
                  refine wpAnyL_take (i := 0) (v := _) rfl (by kernel_rfl) (fun _ _ _ h => h) (Or.inl ⟨by rfl, fun wS hSw => exec_load_row 28 _ rfl (B10) rfl _ _ _ _ (hSw) Tryd.underlying28 rfl (by kernel_rfl)⟩) (by assumption) ?_
                  walk_nrm
                  obtain ⟨wx, hwx⟩ : ∃ wx, wx = WS.drew := ⟨_, rfl⟩
                  rw [← hwx]
                  replace R10 : Hid (wx.heap[B10]? = some (.cells (storeV (SF) va vc fa fc) 28 (0, 0))) := by rw [hwx]; exact R10
                  replace HBx : Hid (Below w3.heap.size w3 wx) := by rw [hwx]; exact HBx.out.drew
                  replace HSO : Hid (StOwn bs wx (SF) va vc fa fc) := by rw [hwx]; exact HSO.out.below (Below.refl _ _).drew
                  replace HEx : Hid (Env wx) := by rw [hwx]; exact Lib.hid (HEx.out.on (Below.refl _ _).drew)
                  have hzx : L ≤ wx.heap.size := by rw [hwx, hL]; exact Nat.le_refl _
                  have HX18 : Hid (Bx L none (.cells #[.int .i64 0, .int .i64 0, .int .i64 0, .int .i64 0, .int .i64 0, .int .i64 0, .int .i64 0, .int .i64 0, .slice none 0 0, .int .i64 0, .int .i64 0, .slice none 0 0] 28 (0, 0)) wx) := Bx.none
                  have HX19 : Hid (Bx L none (.cells #[.string ⟨#[]⟩, .int .i64 0, .int .i64 0, .string ⟨#[]⟩] 51 (0, 0)) wx) := Bx.none
                  clear hwx hL hzr
                  refine wpAnyL_three 4 9 10 (by kernel_rfl) ?_ ?_ ?_
                  · refine ComesUp.mk rfl (fun K hK => ?_)
                    go_simp
                    refine (keep_get (SF) (ky) va fa vc fc wx HEx.out HSO.out.at (by show _ ≤ 1000; exact HKS.out)).mono ?_
                    rw [HG2.out]
                    rintro e wn ⟨va', vc', fa', fc', rfl, hso, hbn⟩
                    obtain ⟨bn, hbs'⟩ : ∃ b, b = wx.heap.size := ⟨_, rfl⟩
                    rw [← hbs'] at hso
                    have HSN := Lib.hid hso
                    have hbn1 : B10 < bn := by omega
                    clear hso hbs'
                    replace HX18 := Lib.hid (HX18.out.below hbn)
                    replace HX19 := Lib.hid (HX19.out.below hbn)
                    replace R10 := Lib.hid ((hbn.block B10 (by omega)).trans R10.out)
                    replace HEx := Lib.hid (HEx.out.on hbn)
                    replace HBx := Lib.hid (HBx.out.trans (hbn.mono HBx.out.size))
                    have hzn : L ≤ wn.heap.size := by have := hbn.size; omega
                    clear HSO
                    refine hK.out _ _ R10.out ?_
                    clear hK K hHeld hbn hzx 
                    intro hHeld
                    walk_nrm
                    refine wpAnyL_take (i := 5) (v := ?_) rfl (by kernel_rfl) (fun _ _ _ h => h) (Or.inl ⟨by rfl, ?_⟩) (by assumption) ?_
                    rotate_left
                    · intro wS hSw; go_simp <;> with_reducible rfl
                    walk_nrm
                    refine wpAnyL_take (i := 6) (v := ?_) rfl (by kernel_rfl) (fun _ _ _ h => h) (Or.inl ⟨by rfl, ?_⟩) (by assumption) ?_
                    rotate_left
                    · intro wS hSw; go_simp <;> with_reducible rfl
                    walk_nrm
                    refine wpAnyL_take (i := 7) (v := ?_) rfl (by kernel_rfl) (fun _ _ _ h => h) (Or.inl ⟨by rfl, ?_⟩) (by assumption) ?_
                    rotate_left
                    · intro wS hSw; go_simp <;> with_reducible rfl
                    walk_nrm
                    refine wpAnyL_take (i := 8) (v := ?_) rfl (by kernel_rfl) (fun _ _ _ h => h) (Or.inl ⟨by rfl, ?_⟩) (by assumption) ?_
                    rotate_left
                    · intro wS hSw; go_simp <;> with_reducible rfl
                    walk_nrm
                    clear wx
                    obtain ⟨wx, rfl⟩ : ∃ wx : World, wx = wn := ⟨_, rfl⟩
                    have hzx := hzn
                    clear hzn
                    refine wpAnyL_two 9 10 (by kernel_rfl) ?_ ?_
                    · refine ComesUp.mk rfl (fun K hK => ?_)
                      go_simp
                      obtain ⟨wn, hwn⟩ : ∃ wn, wn = wx.alloc (.cells #[.int .i64 0, .int .i64 0, .int .i64 0, .int .i64 0, .int .i64 0, .int .i64 0, .int .i64 0, .int .i64 0, .slice none 0 0, .int .i64 0, .int .i64 0, .slice none 0 0] 28) := ⟨_, rfl⟩
                      obtain ⟨b18, hb18⟩ : ∃ b, b = wx.heap.size := ⟨_, rfl⟩
                      rw [← hwn, ← hb18]
                      have hbn := below_new hwn
                      replace HX18 : Hid (Bx L (some b18) (.cells #[.int .i64 0, .int .i64 0, .int .i64 0, .int .i64 0, .int .i64 0, .int .i64 0, .int .i64 0, .int .i64 0, .slice none 0 0, .int .i64 0, .int .i64 0, .slice none 0 0] 28 (0, 0)) wn) := by rw [hb18]; exact Bx.new hwn hzx
                      replace HX19 := Lib.hid (HX19.out.below hbn)
                      replace R10 := Lib.hid ((hbn.block B10 (by omega)).trans R10.out)
                      replace HEx := Lib.hid (HEx.out.on hbn)
                      replace HBx := Lib.hid (HBx.out.trans (hbn.mono HBx.out.size))
                      try replace HSO := Lib.hid (HSO.out.below hbn)
                      try replace HSN := Lib.hid (HSN.out.below hbn)
                      have hzn : L ≤ wn.heap.size := by have := hbn.size; omega
                      refine hK.out _ _ R10.out ?_
                      clear hK K hHeld hbn hzx hwn hb18
                      intro hHeld
                      walk_nrm
                      clear wx
                      obtain ⟨wx, rfl⟩ : ∃ wx : World, wx = wn := ⟨_, rfl⟩
                      have hzx := hzn
                      clear hzn
                      refine wpAnyL_one 10 (by kernel_rfl) ?_
                      · refine ComesUp.mk rfl (fun K hK => ?_)
                        go_simp
                        obtain ⟨wn, hwn⟩ : ∃ wn, wn = wx.alloc (.cells #[.string ⟨#[]⟩, .int .i64 0, .int .i64 0, .string ⟨#[]⟩] 51) := ⟨_, rfl⟩
                        obtain ⟨b19, hb19⟩ : ∃ b, b = wx.heap.size := ⟨_, rfl⟩
                        rw [← hwn, ← hb19]
                        have hbn := below_new hwn
                        replace HX18 := Lib.hid (HX18.out.below hbn)
                        replace HX19 : Hid (Bx L (some b19) (.cells #[.string ⟨#[]⟩, .int .i64 0, .int .i64 0, .string ⟨#[]⟩] 51 (0, 0)) wn) := by rw [hb19]; exact Bx.new hwn hzx
                        replace R10 := Lib.hid ((hbn.block B10 (by omega)).trans R10.out)
                        replace HEx := Lib.hid (HEx.out.on hbn)
                        replace HBx := Lib.hid (HBx.out.trans (hbn.mono HBx.out.size))
                        try replace HSO := Lib.hid (HSO.out.below hbn)
                        try replace HSN := Lib.hid (HSN.out.below hbn)
                        have hzn : L ≤ wn.heap.size := by have := hbn.size; omega
                        refine hK.out _ _ R10.out ?_
                        clear hK K hHeld hbn hzx hwn hb19
                        intro hHeld
                        walk_nrm
                        clear wx
                        obtain ⟨wx, rfl⟩ : ∃ wx : World, wx = wn := ⟨_, rfl⟩
                        have hzx := hzn
                        clear hzn
                        refine wpAnyL_one 11 (by kernel_rfl) ?_
                        · refine ComesUp.mk rfl (fun K hK => ?_)
                          rw [if_pos (by rfl)]
                          have h18 := HX18.out b18 rfl
                          refine wp_store_row 28 _ _ rfl b18 _ rfl rfl _ _ h18.2 storeSize rfl (store_one _ _ _ _ _) ?_
                          have n18 : b18 ≠ B10 := by omega
                          obtain ⟨wn, hwn⟩ : ∃ wn, wn = wx.setRow b18 (storeV gt va' vc' fa' fc') := ⟨_, rfl⟩
                          rw [← hwn]
                          replace HX18 : Hid (Bx L (some b18) (.cells (storeV gt va' vc' fa' fc') 28 (0, 0)) wn) := fun b hb => by cases hb; exact ⟨h18.1, by rw [hwn]; exact setRow_heap _ _ _ _ _ _ h18.2⟩
                          replace HX19 : Hid (Bx L (some b19) (.cells (#[.string ⟨#[]⟩, .int .i64 0, .int .i64 0, .string ⟨#[]⟩]) 51 (0, 0)) wn) := fun b hb => by cases hb; exact ⟨(HX19.out b19 rfl).1, by rw [hwn]; exact (setRow_other _ _ _ _ (blk_ne (HX19.out b19 rfl).2 h18.2 (by decide))).trans (HX19.out b19 rfl).2⟩
                          replace R10 : Hid (wn.heap[B10]? = some (.cells (storeV (SF) va vc fa fc) 28 (0, 0))) := by show wn.heap[B10]? = _; rw [hwn]; exact (setRow_other _ _ _ _ (Ne.symm n18)).trans R10.out
                          have hbn : Below w3.heap.size wx wn := by rw [hwn]; exact Below.setRow _ b18 _ (by omega)
                          replace HSN : Hid (StOwn bn wn (gt) va' vc' fa' fc') := by rw [hwn]; exact HSN.out.setT h18.2 (by decide) (by decide) (by decide)
                          replace HEx := Lib.hid (HEx.out.below HE3.out.globs hbn)
                          replace HBx := Lib.hid (HBx.out.trans hbn)
                          have hzn : L ≤ wn.heap.size := by have := hbn.size; omega
                          refine hK.out _ _ R10.out ?_
                          clear hK K hHeld hbn hzx hwn h18 n18
                          intro hHeld
                          walk_nrm
                          clear wx
                          obtain ⟨wx, rfl⟩ : ∃ wx : World, wx = wn := ⟨_, rfl⟩
                          have hzx := hzn
                          clear hzn
                          refine wpAnyL_one 12 (by kernel_rfl) ?_
                          refine ComesUp.mk rfl (fun K hK => ?_)
                          rw [if_pos (by rfl)]
                          have h19 := HX19.out b19 rfl
                          refine wp_store_row 51 _ _ rfl b19 _ rfl rfl _ _ h19.2 hitSize rfl (hit_one _ _ _ _) ?_
                          have n19 : b19 ≠ B10 := by omega
                          obtain ⟨wn, hwn⟩ : ∃ wn, wn = wx.setRow b19 (#[.string gh.key, .int .i64 gh.flags, .int .i64 gh.cas, .string gh.value]) := ⟨_, rfl⟩
                          rw [← hwn]
                          replace HX18 : Hid (Bx L (some b18) (.cells (storeV gt va' vc' fa' fc') 28 (0, 0)) wn) := fun b hb => by cases hb; exact ⟨(HX18.out b18 rfl).1, by rw [hwn]; exact (setRow_other _ _ _ _ (blk_ne (HX18.out b18 rfl).2 h19.2 (by decide))).trans (HX18.out b18 rfl).2⟩
                          replace HX19 : Hid (Bx L (some b19) (.cells (#[.string gh.key, .int .i64 gh.flags, .int .i64 gh.cas, .string gh.value]) 51 (0, 0)) wn) := fun b hb => by cases hb; exact ⟨h19.1, by rw [hwn]; exact setRow_heap _ _ _ _ _ _ h19.2⟩
                          replace R10 : Hid (wn.heap[B10]? = some (.cells (storeV (SF) va vc fa fc) 28 (0, 0))) := by show wn.heap[B10]? = _; rw [hwn]; exact (setRow_other _ _ _ _ (Ne.symm n19)).trans R10.out
                          have hbn : Below w3.heap.size wx wn := by rw [hwn]; exact Below.setRow _ b19 _ (by omega)
                          replace HSN : Hid (StOwn bn wn (gt) va' vc' fa' fc') := by rw [hwn]; exact HSN.out.setT h19.2 (by decide) (by decide) (by decide)
                          replace HEx := Lib.hid (HEx.out.below HE3.out.globs hbn)
                          replace HBx := Lib.hid (HBx.out.trans hbn)
                          have hzn : L ≤ wn.heap.size := by have := hbn.size; omega
                          refine hK.out _ _ R10.out ?_
                          clear hK K hHeld hbn hzx hwn h19 n19
                          intro hHeld
                          walk_nrm
                          clear wx
                          obtain ⟨wx, rfl⟩ : ∃ wx : World, wx = wn := ⟨_, rfl⟩
                          have hzx := hzn
                          clear hzn
                          refine wpAnyL_last rfl (by kernel_rfl) (fun K hK => ?_)
                          go_simp
                          refine hK.out _ _ ?_
                          clear hK K
                          walk_nrm
                          refine wpAnyL_done (by kernel_rfl) ?_ _
                          go_wp2_with fail
                          go_meet
                          exact ⟨rfl, HBx⟩
                    · refine ComesUp.mk rfl (fun K hK => ?_)
                      go_simp
                      obtain ⟨wn, hwn⟩ : ∃ wn, wn = wx.alloc (.cells #[.string ⟨#[]⟩, .int .i64 0, .int .i64 0, .string ⟨#[]⟩] 51) := ⟨_, rfl⟩
                      obtain ⟨b19, hb19⟩ : ∃ b, b = wx.heap.size := ⟨_, rfl⟩
                      rw [← hwn, ← hb19]
                      have hbn := below_new hwn
                      replace HX18 := Lib.hid (HX18.out.below hbn)
                      replace HX19 : Hid (Bx L (some b19) (.cells #[.string ⟨#[]⟩, .int .i64 0, .int .i64 0, .string ⟨#[]⟩] 51 (0, 0)) wn) := by rw [hb19]; exact Bx.new hwn hzx
                      replace R10 := Lib.hid ((hbn.block B10 (by omega)).trans R10.out)
                      replace HEx := Lib.hid (HEx.out.on hbn)
                      replace HBx := Lib.hid (HBx.out.trans (hbn.mono HBx.out.size))
                      try replace HSO := Lib.hid (HSO.out.below hbn)
                      try replace HSN := Lib.hid (HSN.out.below hbn)
                      have hzn : L ≤ wn.heap.size := by have := hbn.size; omega
                      refine hK.out _ _ R10.out ?_
                      clear hK K hHeld hbn hzx hwn hb19
                      intro hHeld
                      walk_nrm
                      clear wx
                      obtain ⟨wx, rfl⟩ : ∃ wx : World, wx = wn := ⟨_, rfl⟩
                      have hzx := hzn
                      clear hzn
                      refine wpAnyL_one 9 (by kernel_rfl) ?_
                      · refine ComesUp.mk rfl (fun K hK => ?_)
                        go_simp
                        obtain ⟨wn, hwn⟩ : ∃ wn, wn = wx.alloc (.cells #[.int .i64 0, .int .i64 0, .int .i64 0, .int .i64 0, .int .i64 0, .int .i64 0, .int .i64 0, .int .i64 0, .slice none 0 0, .int .i64 0, .int .i64 0, .slice none 0 0] 28) := ⟨_, rfl⟩
                        obtain ⟨b18, hb18⟩ : ∃ b, b = wx.heap.size := ⟨_, rfl⟩
                        rw [← hwn, ← hb18]
                        have hbn := below_new hwn
                        replace HX18 : Hid (Bx L (some b18) (.cells #[.int .i64 0, .int .i64 0, .int .i64 0, .int .i64 0, .int .i64 0, .int .i64 0, .int .i64 0, .int .i64 0, .slice none 0 0, .int .i64 0, .int .i64 0, .slice none 0 0] 28 (0, 0)) wn) := by rw [hb18]; exact Bx.new hwn hzx
                        replace HX19 := Lib.hid (HX19.out.below hbn)
                        replace R10 := Lib.hid ((hbn.block B10 (by omega)).trans R10.out)
                        replace HEx := Lib.hid (HEx.out.on hbn)
                        replace HBx := Lib.hid (HBx.out.trans (hbn.mono HBx.out.size))
                        try replace HSO := Lib.hid (HSO.out.below hbn)
                        try replace HSN := Lib.hid (HSN.out.below hbn)
                        have hzn : L ≤ wn.heap.size := by have := hbn.size; omega
                        refine hK.out _ _ R10.out ?_
                        clear hK K hHeld hbn hzx hwn hb18
                        intro hHeld
                        walk_nrm
                        clear wx
                        obtain ⟨wx, rfl⟩ : ∃ wx : World, wx = wn := ⟨_, rfl⟩
                        have hzx := hzn
                        clear hzn
                        refine wpAnyL_one 11 (by kernel_rfl) ?_
                        · refine ComesUp.mk rfl (fun K hK => ?_)
                          rw [if_pos (by rfl)]
                          have h18 := HX18.out b18 rfl
                          refine wp_store_row 28 _ _ rfl b18 _ rfl rfl _ _ h18.2 storeSize rfl (store_one _ _ _ _ _) ?_
                          have n18 : b18 ≠ B10 := by omega
                          obtain ⟨wn, hwn⟩ : ∃ wn, wn = wx.setRow b18 (storeV gt va' vc' fa' fc') := ⟨_, rfl⟩
                          rw [← hwn]
                          replace HX18 : Hid (Bx L (some b18) (.cells (storeV gt va' vc' fa' fc') 28 (0, 0)) wn) := fun b hb => by cases hb; exact ⟨h18.1, by rw [hwn]; exact setRow_heap _ _ _ _ _ _ h18.2⟩
                          replace HX19 : Hid (Bx L (some b19) (.cells (#[.string ⟨#[]⟩, .int .i64 0, .int .i64 0, .string ⟨#[]⟩]) 51 (0, 0)) wn) := fun b hb => by cases hb; exact ⟨(HX19.out b19 rfl).1, by rw [hwn]; exact (setRow_other _ _ _ _ (blk_ne (HX19.out b19 rfl).2 h18.2 (by decide))).trans (HX19.out b19 rfl).2⟩
                          replace R10 : Hid (wn.heap[B10]? = some (.cells (storeV (SF) va vc fa fc) 28 (0, 0))) := by show wn.heap[B10]? = _; rw [hwn]; exact (setRow_other _ _ _ _ (Ne.symm n18)).trans R10.out
                          have hbn : Below w3.heap.size wx wn := by rw [hwn]; exact Below.setRow _ b18 _ (by omega)
                          replace HSN : Hid (StOwn bn wn (gt) va' vc' fa' fc') := by rw [hwn]; exact HSN.out.setT h18.2 (by decide) (by decide) (by decide)
                          replace HEx := Lib.hid (HEx.out.below HE3.out.globs hbn)
                          replace HBx := Lib.hid (HBx.out.trans hbn)
                          have hzn : L ≤ wn.heap.size := by have := hbn.size; omega
                          refine hK.out _ _ R10.out ?_
                          clear hK K hHeld hbn hzx hwn h18 n18
                          intro hHeld
                          walk_nrm
                          clear wx
                          obtain ⟨wx, rfl⟩ : ∃ wx : World, wx = wn := ⟨_, rfl⟩
                          have hzx := hzn
                          clear hzn
                          refine wpAnyL_one 12 (by kernel_rfl) ?_
                          refine ComesUp.mk rfl (fun K hK => ?_)
                          rw [if_pos (by rfl)]
                          have h19 := HX19.out b19 rfl
                          refine wp_store_row 51 _ _ rfl b19 _ rfl rfl _ _ h19.2 hitSize rfl (hit_one _ _ _ _) ?_
                          have n19 : b19 ≠ B10 := by omega
                          obtain ⟨wn, hwn⟩ : ∃ wn, wn = wx.setRow b19 (#[.string gh.key, .int .i64 gh.flags, .int .i64 gh.cas, .string gh.value]) := ⟨_, rfl⟩
                          rw [← hwn]
                          replace HX18 : Hid (Bx L (some b18) (.cells (storeV gt va' vc' fa' fc') 28 (0, 0)) wn) := fun b hb => by cases hb; exact ⟨(HX18.out b18 rfl).1, by rw [hwn]; exact (setRow_other _ _ _ _ (blk_ne (HX18.out b18 rfl).2 h19.2 (by decide))).trans (HX18.out b18 rfl).2⟩
                          replace HX19 : Hid (Bx L (some b19) (.cells (#[.string gh.key, .int .i64 gh.flags, .int .i64 gh.cas, .string gh.value]) 51 (0, 0)) wn) := fun b hb => by cases hb; exact ⟨h19.1, by rw [hwn]; exact setRow_heap _ _ _ _ _ _ h19.2⟩
                          replace R10 : Hid (wn.heap[B10]? = some (.cells (storeV (SF) va vc fa fc) 28 (0, 0))) := by show wn.heap[B10]? = _; rw [hwn]; exact (setRow_other _ _ _ _ (Ne.symm n19)).trans R10.out
                          have hbn : Below w3.heap.size wx wn := by rw [hwn]; exact Below.setRow _ b19 _ (by omega)
                          replace HSN : Hid (StOwn bn wn (gt) va' vc' fa' fc') := by rw [hwn]; exact HSN.out.setT h19.2 (by decide) (by decide) (by decide)
                          replace HEx := Lib.hid (HEx.out.below HE3.out.globs hbn)
                          replace HBx := Lib.hid (HBx.out.trans hbn)
                          have hzn : L ≤ wn.heap.size := by have := hbn.size; omega
                          refine hK.out _ _ R10.out ?_
                          clear hK K hHeld hbn hzx hwn h19 n19
                          intro hHeld
                          walk_nrm
                          clear wx
                          obtain ⟨wx, rfl⟩ : ∃ wx : World, wx = wn := ⟨_, rfl⟩
                          have hzx := hzn
                          clear hzn
                          refine wpAnyL_last rfl (by kernel_rfl) (fun K hK => ?_)
                          go_simp
                          refine hK.out _ _ ?_
                          clear hK K
                          walk_nrm
                          refine wpAnyL_done (by kernel_rfl) ?_ _
                          go_wp2_with fail
                          go_meet
                          exact ⟨rfl, HBx⟩
                  · refine ComesUp.mk rfl (fun K hK => ?_)
                    go_simp
                    obtain ⟨wn, hwn⟩ : ∃ wn, wn = wx.alloc (.cells #[.int .i64 0, .int .i64 0, .int .i64 0, .int .i64 0, .int .i64 0, .int .i64 0, .int .i64 0, .int .i64 0, .slice none 0 0, .int .i64 0, .int .i64 0, .slice none 0 0] 28) := ⟨_, rfl⟩
                    obtain ⟨b18, hb18⟩ : ∃ b, b = wx.heap.size := ⟨_, rfl⟩
                    rw [← hwn, ← hb18]
                    have hbn := below_new hwn
                    replace HX18 : Hid (Bx L (some b18) (.cells #[.int .i64 0, .int .i64 0, .int .i64 0, .int .i64 0, .int .i64 0, .int .i64 0, .int .i64 0, .int .i64 0, .slice none 0 0, .int .i64 0, .int .i64 0, .slice none 0 0] 28 (0, 0)) wn) := by rw [hb18]; exact Bx.new hwn hzx
                    replace HX19 := Lib.hid (HX19.out.below hbn)
                    replace R10 := Lib.hid ((hbn.block B10 (by omega)).trans R10.out)
                    replace HEx := Lib.hid (HEx.out.on hbn)
                    replace HBx := Lib.hid (HBx.out.trans (hbn.mono HBx.out.size))
                    try replace HSO := Lib.hid (HSO.out.below hbn)
                    try replace HSN := Lib.hid (HSN.out.below hbn)
                    have hzn : L ≤ wn.heap.size := by have := hbn.size; omega
                    refine hK.out _ _ R10.out ?_
                    clear hK K hHeld hbn hzx hwn hb18
                    intro hHeld
                    walk_nrm
                    clear wx
                    obtain ⟨wx, rfl⟩ : ∃ wx : World, wx = wn := ⟨_, rfl⟩
                    have hzx := hzn
                    clear hzn
                    refine wpAnyL_two 4 10 (by kernel_rfl) ?_ ?_
                    · refine ComesUp.mk rfl (fun K hK => ?_)
                      go_simp
                      refine (keep_get (SF) (ky) va fa vc fc wx HEx.out HSO.out.at (by show _ ≤ 1000; exact HKS.out)).mono ?_
                      rw [HG2.out]
                      rintro e wn ⟨va', vc', fa', fc', rfl, hso, hbn⟩
                      obtain ⟨bn, hbs'⟩ : ∃ b, b = wx.heap.size := ⟨_, rfl⟩
                      rw [← hbs'] at hso
                      have HSN := Lib.hid hso
                      have hbn1 : B10 < bn := by omega
                      clear hso hbs'
                      replace HX18 := Lib.hid (HX18.out.below hbn)
                      replace HX19 := Lib.hid (HX19.out.below hbn)
                      replace R10 := Lib.hid ((hbn.block B10 (by omega)).trans R10.out)
                      replace HEx := Lib.hid (HEx.out.on hbn)
                      replace HBx := Lib.hid (HBx.out.trans (hbn.mono HBx.out.size))
                      have hzn : L ≤ wn.heap.size := by have := hbn.size; omega
                      clear HSO
                      refine hK.out _ _ R10.out ?_
                      clear hK K hHeld hbn hzx 
                      intro hHeld
                      walk_nrm
                      refine wpAnyL_take (i := 5) (v := ?_) rfl (by kernel_rfl) (fun _ _ _ h => h) (Or.inl ⟨by rfl, ?_⟩) (by assumption) ?_
                      rotate_left
                      · intro wS hSw; go_simp <;> with_reducible rfl
                      walk_nrm
                      refine wpAnyL_take (i := 6) (v := ?_) rfl (by kernel_rfl) (fun _ _ _ h => h) (Or.inl ⟨by rfl, ?_⟩) (by assumption) ?_
                      rotate_left
                      · intro wS hSw; go_simp <;> with_reducible rfl
                      walk_nrm
                      refine wpAnyL_take (i := 7) (v := ?_) rfl (by kernel_rfl) (fun _ _ _ h => h) (Or.inl ⟨by rfl, ?_⟩) (by assumption) ?_
                      rotate_left
                      · intro wS hSw; go_simp <;> with_reducible rfl
                      walk_nrm
                      refine wpAnyL_take (i := 8) (v := ?_) rfl (by kernel_rfl) (fun _ _ _ h => h) (Or.inl ⟨by rfl, ?_⟩) (by assumption) ?_
                      rotate_left
                      · intro wS hSw; go_simp <;> with_reducible rfl
                      walk_nrm
                      clear wx
                      obtain ⟨wx, rfl⟩ : ∃ wx : World, wx = wn := ⟨_, rfl⟩
                      have hzx := hzn
                      clear hzn
                      refine wpAnyL_one 10 (by kernel_rfl) ?_
                      · refine ComesUp.mk rfl (fun K hK => ?_)
                        go_simp
                        obtain ⟨wn, hwn⟩ : ∃ wn, wn = wx.alloc (.cells #[.string ⟨#[]⟩, .int .i64 0, .int .i64 0, .string ⟨#[]⟩] 51) := ⟨_, rfl⟩
                        obtain ⟨b19, hb19⟩ : ∃ b, b = wx.heap.size := ⟨_, rfl⟩
                        rw [← hwn, ← hb19]
                        have hbn := below_new hwn
                        replace HX18 := Lib.hid (HX18.out.below hbn)
                        replace HX19 : Hid (Bx L (some b19) (.cells #[.string ⟨#[]⟩, .int .i64 0, .int .i64 0, .string ⟨#[]⟩] 51 (0, 0)) wn) := by rw [hb19]; exact Bx.new hwn hzx
                        replace R10 := Lib.hid ((hbn.block B10 (by omega)).trans R10.out)
                        replace HEx := Lib.hid (HEx.out.on hbn)
                        replace HBx := Lib.hid (HBx.out.trans (hbn.mono HBx.out.size))
                        try replace HSO := Lib.hid (HSO.out.below hbn)
                        try replace HSN := Lib.hid (HSN.out.below hbn)
                        have hzn : L ≤ wn.heap.size := by have := hbn.size; omega
                        refine hK.out _ _ R10.out ?_
                        clear hK K hHeld hbn hzx hwn hb19
                        intro hHeld
                        walk_nrm
                        clear wx
                        obtain ⟨wx, rfl⟩ : ∃ wx : World, wx = wn := ⟨_, rfl⟩
                        have hzx := hzn
                        clear hzn
                        refine wpAnyL_one 11 (by kernel_rfl) ?_
                        · refine ComesUp.mk rfl (fun K hK => ?_)
                          rw [if_pos (by rfl)]
                          have h18 := HX18.out b18 rfl
                          refine wp_store_row 28 _ _ rfl b18 _ rfl rfl _ _ h18.2 storeSize rfl (store_one _ _ _ _ _) ?_
                          have n18 : b18 ≠ B10 := by omega
                          obtain ⟨wn, hwn⟩ : ∃ wn, wn = wx.setRow b18 (storeV gt va' vc' fa' fc') := ⟨_, rfl⟩
                          rw [← hwn]
                          replace HX18 : Hid (Bx L (some b18) (.cells (storeV gt va' vc' fa' fc') 28 (0, 0)) wn) := fun b hb => by cases hb; exact ⟨h18.1, by rw [hwn]; exact setRow_heap _ _ _ _ _ _ h18.2⟩
                          replace HX19 : Hid (Bx L (some b19) (.cells (#[.string ⟨#[]⟩, .int .i64 0, .int .i64 0, .string ⟨#[]⟩]) 51 (0, 0)) wn) := fun b hb => by cases hb; exact ⟨(HX19.out b19 rfl).1, by rw [hwn]; exact (setRow_other _ _ _ _ (blk_ne (HX19.out b19 rfl).2 h18.2 (by decide))).trans (HX19.out b19 rfl).2⟩
                          replace R10 : Hid (wn.heap[B10]? = some (.cells (storeV (SF) va vc fa fc) 28 (0, 0))) := by show wn.heap[B10]? = _; rw [hwn]; exact (setRow_other _ _ _ _ (Ne.symm n18)).trans R10.out
                          have hbn : Below w3.heap.size wx wn := by rw [hwn]; exact Below.setRow _ b18 _ (by omega)
                          replace HSN : Hid (StOwn bn wn (gt) va' vc' fa' fc') := by rw [hwn]; exact HSN.out.setT h18.2 (by decide) (by decide) (by decide)
                          replace HEx := Lib.hid (HEx.out.below HE3.out.globs hbn)
                          replace HBx := Lib.hid (HBx.out.trans hbn)
                          have hzn : L ≤ wn.heap.size := by have := hbn.size; omega
                          refine hK.out _ _ R10.out ?_
                          clear hK K hHeld hbn hzx hwn h18 n18
                          intro hHeld
                          walk_nrm
                          clear wx
                          obtain ⟨wx, rfl⟩ : ∃ wx : World, wx = wn := ⟨_, rfl⟩
                          have hzx := hzn
                          clear hzn
                          refine wpAnyL_one 12 (by kernel_rfl) ?_
                          refine ComesUp.mk rfl (fun K hK => ?_)
                          rw [if_pos (by rfl)]
                          have h19 := HX19.out b19 rfl
                          refine wp_store_row 51 _ _ rfl b19 _ rfl rfl _ _ h19.2 hitSize rfl (hit_one _ _ _ _) ?_
                          have n19 : b19 ≠ B10 := by omega
                          obtain ⟨wn, hwn⟩ : ∃ wn, wn = wx.setRow b19 (#[.string gh.key, .int .i64 gh.flags, .int .i64 gh.cas, .string gh.value]) := ⟨_, rfl⟩
                          rw [← hwn]
                          replace HX18 : Hid (Bx L (some b18) (.cells (storeV gt va' vc' fa' fc') 28 (0, 0)) wn) := fun b hb => by cases hb; exact ⟨(HX18.out b18 rfl).1, by rw [hwn]; exact (setRow_other _ _ _ _ (blk_ne (HX18.out b18 rfl).2 h19.2 (by decide))).trans (HX18.out b18 rfl).2⟩
                          replace HX19 : Hid (Bx L (some b19) (.cells (#[.string gh.key, .int .i64 gh.flags, .int .i64 gh.cas, .string gh.value]) 51 (0, 0)) wn) := fun b hb => by cases hb; exact ⟨h19.1, by rw [hwn]; exact setRow_heap _ _ _ _ _ _ h19.2⟩
                          replace R10 : Hid (wn.heap[B10]? = some (.cells (storeV (SF) va vc fa fc) 28 (0, 0))) := by show wn.heap[B10]? = _; rw [hwn]; exact (setRow_other _ _ _ _ (Ne.symm n19)).trans R10.out
                          have hbn : Below w3.heap.size wx wn := by rw [hwn]; exact Below.setRow _ b19 _ (by omega)
                          replace HSN : Hid (StOwn bn wn (gt) va' vc' fa' fc') := by rw [hwn]; exact HSN.out.setT h19.2 (by decide) (by decide) (by decide)
                          replace HEx := Lib.hid (HEx.out.below HE3.out.globs hbn)
                          replace HBx := Lib.hid (HBx.out.trans hbn)
                          have hzn : L ≤ wn.heap.size := by have := hbn.size; omega
                          refine hK.out _ _ R10.out ?_
                          clear hK K hHeld hbn hzx hwn h19 n19
                          intro hHeld
                          walk_nrm
                          clear wx
                          obtain ⟨wx, rfl⟩ : ∃ wx : World, wx = wn := ⟨_, rfl⟩
                          have hzx := hzn
                          clear hzn
                          refine wpAnyL_last rfl (by kernel_rfl) (fun K hK => ?_)
                          go_simp
                          refine hK.out _ _ ?_
                          clear hK K
                          walk_nrm
                          refine wpAnyL_done (by kernel_rfl) ?_ _
                          go_wp2_with fail
                          go_meet
                          exact ⟨rfl, HBx⟩
                    · refine ComesUp.mk rfl (fun K hK => ?_)
                      go_simp
                      obtain ⟨wn, hwn⟩ : ∃ wn, wn = wx.alloc (.cells #[.string ⟨#[]⟩, .int .i64 0, .int .i64 0, .string ⟨#[]⟩] 51) := ⟨_, rfl⟩
                      obtain ⟨b19, hb19⟩ : ∃ b, b = wx.heap.size := ⟨_, rfl⟩
                      rw [← hwn, ← hb19]
                      have hbn := below_new hwn
                      replace HX18 := Lib.hid (HX18.out.below hbn)
                      replace HX19 : Hid (Bx L (some b19) (.cells #[.string ⟨#[]⟩, .int .i64 0, .int .i64 0, .string ⟨#[]⟩] 51 (0, 0)) wn) := by rw [hb19]; exact Bx.new hwn hzx
                      replace R10 := Lib.hid ((hbn.block B10 (by omega)).trans R10.out)
                      replace HEx := Lib.hid (HEx.out.on hbn)
                      replace HBx := Lib.hid (HBx.out.trans (hbn.mono HBx.out.size))
                      try replace HSO := Lib.hid (HSO.out.below hbn)
                      try replace HSN := Lib.hid (HSN.out.below hbn)
                      have hzn : L ≤ wn.heap.size := by have := hbn.size; omega
                      refine hK.out _ _ R10.out ?_
                      clear hK K hHeld hbn hzx hwn hb19
                      intro hHeld
                      walk_nrm
                      clear wx
                      obtain ⟨wx, rfl⟩ : ∃ wx : World, wx = wn := ⟨_, rfl⟩
                      have hzx := hzn
                      clear hzn
                      refine wpAnyL_one 4 (by kernel_rfl) ?_
                      · refine ComesUp.mk rfl (fun K hK => ?_)
                        go_simp
                        refine (keep_get (SF) (ky) va fa vc fc wx HEx.out HSO.out.at (by show _ ≤ 1000; exact HKS.out)).mono ?_
                        rw [HG2.out]
                        rintro e wn ⟨va', vc', fa', fc', rfl, hso, hbn⟩
                        obtain ⟨bn, hbs'⟩ : ∃ b, b = wx.heap.size := ⟨_, rfl⟩
                        rw [← hbs'] at hso
                        have HSN := Lib.hid hso
                        have hbn1 : B10 < bn := by omega
                        clear hso hbs'
                        replace HX18 := Lib.hid (HX18.out.below hbn)
                        replace HX19 := Lib.hid (HX19.out.below hbn)
                        replace R10 := Lib.hid ((hbn.block B10 (by omega)).trans R10.out)
                        replace HEx := Lib.hid (HEx.out.on hbn)
                        replace HBx := Lib.hid (HBx.out.trans (hbn.mono HBx.out.size))
                        have hzn : L ≤ wn.heap.size := by have := hbn.size; omega
                        clear HSO
                        refine hK.out _ _ R10.out ?_
                        clear hK K hHeld hbn hzx 
                        intro hHeld
                        walk_nrm
                        refine wpAnyL_take (i := 5) (v := ?_) rfl (by kernel_rfl) (fun _ _ _ h => h) (Or.inl ⟨by rfl, ?_⟩) (by assumption) ?_
                        rotate_left
                        · intro wS hSw; go_simp <;> with_reducible rfl
                        walk_nrm
                        refine wpAnyL_take (i := 6) (v := ?_) rfl (by kernel_rfl) (fun _ _ _ h => h) (Or.inl ⟨by rfl, ?_⟩) (by assumption) ?_
                        rotate_left
                        · intro wS hSw; go_simp <;> with_reducible rfl
                        walk_nrm
                        refine wpAnyL_take (i := 7) (v := ?_) rfl (by kernel_rfl) (fun _ _ _ h => h) (Or.inl ⟨by rfl, ?_⟩) (by assumption) ?_
                        rotate_left
                        · intro wS hSw; go_simp <;> with_reducible rfl
                        walk_nrm
                        refine wpAnyL_take (i := 8) (v := ?_) rfl (by kernel_rfl) (fun _ _ _ h => h) (Or.inl ⟨by rfl, ?_⟩) (by assumption) ?_
                        rotate_left
                        · intro wS hSw; go_simp <;> with_reducible rfl
                        walk_nrm
                        clear wx
                        obtain ⟨wx, rfl⟩ : ∃ wx : World, wx = wn := ⟨_, rfl⟩
                        have hzx := hzn
                        clear hzn
                        refine wpAnyL_one 11 (by kernel_rfl) ?_
                        · refine ComesUp.mk rfl (fun K hK => ?_)
                          rw [if_pos (by rfl)]
                          have h18 := HX18.out b18 rfl
                          refine wp_store_row 28 _ _ rfl b18 _ rfl rfl _ _ h18.2 storeSize rfl (store_one _ _ _ _ _) ?_
                          have n18 : b18 ≠ B10 := by omega
                          obtain ⟨wn, hwn⟩ : ∃ wn, wn = wx.setRow b18 (storeV gt va' vc' fa' fc') := ⟨_, rfl⟩
                          rw [← hwn]
                          replace HX18 : Hid (Bx L (some b18) (.cells (storeV gt va' vc' fa' fc') 28 (0, 0)) wn) := fun b hb => by cases hb; exact ⟨h18.1, by rw [hwn]; exact setRow_heap _ _ _ _ _ _ h18.2⟩
                          replace HX19 : Hid (Bx L (some b19) (.cells (#[.string ⟨#[]⟩, .int .i64 0, .int .i64 0, .string ⟨#[]⟩]) 51 (0, 0)) wn) := fun b hb => by cases hb; exact ⟨(HX19.out b19 rfl).1, by rw [hwn]; exact (setRow_other _ _ _ _ (blk_ne (HX19.out b19 rfl).2 h18.2 (by decide))).trans (HX19.out b19 rfl).2⟩
                          replace R10 : Hid (wn.heap[B10]? = some (.cells (storeV (SF) va vc fa fc) 28 (0, 0))) := by show wn.heap[B10]? = _; rw [hwn]; exact (setRow_other _ _ _ _ (Ne.symm n18)).trans R10.out
                          have hbn : Below w3.heap.size wx wn := by rw [hwn]; exact Below.setRow _ b18 _ (by omega)
                          replace HSN : Hid (StOwn bn wn (gt) va' vc' fa' fc') := by rw [hwn]; exact HSN.out.setT h18.2 (by decide) (by decide) (by decide)
                          replace HEx := Lib.hid (HEx.out.below HE3.out.globs hbn)
                          replace HBx := Lib.hid (HBx.out.trans hbn)
                          have hzn : L ≤ wn.heap.size := by have := hbn.size; omega
                          refine hK.out _ _ R10.out ?_
                          clear hK K hHeld hbn hzx hwn h18 n18
                          intro hHeld
                          walk_nrm
                          clear wx
                          obtain ⟨wx, rfl⟩ : ∃ wx : World, wx = wn := ⟨_, rfl⟩
                          have hzx := hzn
                          clear hzn
                          refine wpAnyL_one 12 (by kernel_rfl) ?_
                          refine ComesUp.mk rfl (fun K hK => ?_)
                          rw [if_pos (by rfl)]
                          have h19 := HX19.out b19 rfl
                          refine wp_store_row 51 _ _ rfl b19 _ rfl rfl _ _ h19.2 hitSize rfl (hit_one _ _ _ _) ?_
                          have n19 : b19 ≠ B10 := by omega
                          obtain ⟨wn, hwn⟩ : ∃ wn, wn = wx.setRow b19 (#[.string gh.key, .int .i64 gh.flags, .int .i64 gh.cas, .string gh.value]) := ⟨_, rfl⟩
                          rw [← hwn]
                          replace HX18 : Hid (Bx L (some b18) (.cells (storeV gt va' vc' fa' fc') 28 (0, 0)) wn) := fun b hb => by cases hb; exact ⟨(HX18.out b18 rfl).1, by rw [hwn]; exact (setRow_other _ _ _ _ (blk_ne (HX18.out b18 rfl).2 h19.2 (by decide))).trans (HX18.out b18 rfl).2⟩
                          replace HX19 : Hid (Bx L (some b19) (.cells (#[.string gh.key, .int .i64 gh.flags, .int .i64 gh.cas, .string gh.value]) 51 (0, 0)) wn) := fun b hb => by cases hb; exact ⟨h19.1, by rw [hwn]; exact setRow_heap _ _ _ _ _ _ h19.2⟩
                          replace R10 : Hid (wn.heap[B10]? = some (.cells (storeV (SF) va vc fa fc) 28 (0, 0))) := by show wn.heap[B10]? = _; rw [hwn]; exact (setRow_other _ _ _ _ (Ne.symm n19)).trans R10.out
                          have hbn : Below w3.heap.size wx wn := by rw [hwn]; exact Below.setRow _ b19 _ (by omega)
                          replace HSN : Hid (StOwn bn wn (gt) va' vc' fa' fc') := by rw [hwn]; exact HSN.out.setT h19.2 (by decide) (by decide) (by decide)
                          replace HEx := Lib.hid (HEx.out.below HE3.out.globs hbn)
                          replace HBx := Lib.hid (HBx.out.trans hbn)
                          have hzn : L ≤ wn.heap.size := by have := hbn.size; omega
                          refine hK.out _ _ R10.out ?_
                          clear hK K hHeld hbn hzx hwn h19 n19
                          intro hHeld
                          walk_nrm
                          clear wx
                          obtain ⟨wx, rfl⟩ : ∃ wx : World, wx = wn := ⟨_, rfl⟩
                          have hzx := hzn
                          clear hzn
                          refine wpAnyL_last rfl (by kernel_rfl) (fun K hK => ?_)
                          go_simp
                          refine hK.out _ _ ?_
                          clear hK K
                          walk_nrm
                          refine wpAnyL_done (by kernel_rfl) ?_ _
                          go_wp2_with fail
                          go_meet
                          exact ⟨rfl, HBx⟩
                  · refine ComesUp.mk rfl (fun K hK => ?_)
                    go_simp
                    obtain ⟨wn, hwn⟩ : ∃ wn, wn = wx.alloc (.cells #[.string ⟨#[]⟩, .int .i64 0, .int .i64 0, .string ⟨#[]⟩] 51) := ⟨_, rfl⟩
                    obtain ⟨b19, hb19⟩ : ∃ b, b = wx.heap.size := ⟨_, rfl⟩
                    rw [← hwn, ← hb19]
                    have hbn := below_new hwn
                    replace HX18 := Lib.hid (HX18.out.below hbn)
                    replace HX19 : Hid (Bx L (some b19) (.cells #[.string ⟨#[]⟩, .int .i64 0, .int .i64 0, .string ⟨#[]⟩] 51 (0, 0)) wn) := by rw [hb19]; exact Bx.new hwn hzx
                    replace R10 := Lib.hid ((hbn.block B10 (by omega)).trans R10.out)
                    replace HEx := Lib.hid (HEx.out.on hbn)
                    replace HBx := Lib.hid (HBx.out.trans (hbn.mono HBx.out.size))
                    try replace HSO := Lib.hid (HSO.out.below hbn)
                    try replace HSN := Lib.hid (HSN.out.below hbn)
                    have hzn : L ≤ wn.heap.size := by have := hbn.size; omega
                    refine hK.out _ _ R10.out ?_
                    clear hK K hHeld hbn hzx hwn hb19
                    intro hHeld
                    walk_nrm
                    clear wx
                    obtain ⟨wx, rfl⟩ : ∃ wx : World, wx = wn := ⟨_, rfl⟩
                    have hzx := hzn
                    clear hzn
                    refine wpAnyL_two 4 9 (by kernel_rfl) ?_ ?_
                    · refine ComesUp.mk rfl (fun K hK => ?_)
                      go_simp
                      refine (keep_get (SF) (ky) va fa vc fc wx HEx.out HSO.out.at (by show _ ≤ 1000; exact HKS.out)).mono ?_
                      rw [HG2.out]
                      rintro e wn ⟨va', vc', fa', fc', rfl, hso, hbn⟩
                      obtain ⟨bn, hbs'⟩ : ∃ b, b = wx.heap.size := ⟨_, rfl⟩
                      rw [← hbs'] at hso
                      have HSN := Lib.hid hso
                      have hbn1 : B10 < bn := by omega
                      clear hso hbs'
                      replace HX18 := Lib.hid (HX18.out.below hbn)
                      replace HX19 := Lib.hid (HX19.out.below hbn)
                      replace R10 := Lib.hid ((hbn.block B10 (by omega)).trans R10.out)
                      replace HEx := Lib.hid (HEx.out.on hbn)
                      replace HBx := Lib.hid (HBx.out.trans (hbn.mono HBx.out.size))
                      have hzn : L ≤ wn.heap.size := by have := hbn.size; omega
                      clear HSO
                      refine hK.out _ _ R10.out ?_
                      clear hK K hHeld hbn hzx 
                      intro hHeld
                      walk_nrm
                      refine wpAnyL_take (i := 5) (v := ?_) rfl (by kernel_rfl) (fun _ _ _ h => h) (Or.inl ⟨by rfl, ?_⟩) (by assumption) ?_
                      rotate_left
                      · intro wS hSw; go_simp <;> with_reducible rfl
                      walk_nrm
                      refine wpAnyL_take (i := 6) (v := ?_) rfl (by kernel_rfl) (fun _ _ _ h => h) (Or.inl ⟨by rfl, ?_⟩) (by assumption) ?_
                      rotate_left
                      · intro wS hSw; go_simp <;> with_reducible rfl
                      walk_nrm
                      refine wpAnyL_take (i := 7) (v := ?_) rfl (by kernel_rfl) (fun _ _ _ h => h) (Or.inl ⟨by rfl, ?_⟩) (by assumption) ?_
                      rotate_left
                      · intro wS hSw; go_simp <;> with_reducible rfl
                      walk_nrm
                      refine wpAnyL_take (i := 8) (v := ?_) rfl (by kernel_rfl) (fun _ _ _ h => h) (Or.inl ⟨by rfl, ?_⟩) (by assumption) ?_
                      rotate_left
                      · intro wS hSw; go_simp <;> with_reducible rfl
                      walk_nrm
                      clear wx
                      obtain ⟨wx, rfl⟩ : ∃ wx : World, wx = wn := ⟨_, rfl⟩
                      have hzx := hzn
                      clear hzn
                      refine wpAnyL_one 9 (by kernel_rfl) ?_
                      · refine ComesUp.mk rfl (fun K hK => ?_)
                        go_simp
                        obtain ⟨wn, hwn⟩ : ∃ wn, wn = wx.alloc (.cells #[.int .i64 0, .int .i64 0, .int .i64 0, .int .i64 0, .int .i64 0, .int .i64 0, .int .i64 0, .int .i64 0, .slice none 0 0, .int .i64 0, .int .i64 0, .slice none 0 0] 28) := ⟨_, rfl⟩
                        obtain ⟨b18, hb18⟩ : ∃ b, b = wx.heap.size := ⟨_, rfl⟩
                        rw [← hwn, ← hb18]
                        have hbn := below_new hwn
                        replace HX18 : Hid (Bx L (some b18) (.cells #[.int .i64 0, .int .i64 0, .int .i64 0, .int .i64 0, .int .i64 0, .int .i64 0, .int .i64 0, .int .i64 0, .slice none 0 0, .int .i64 0, .int .i64 0, .slice none 0 0] 28 (0, 0)) wn) := by rw [hb18]; exact Bx.new hwn hzx
                        replace HX19 := Lib.hid (HX19.out.below hbn)
                        replace R10 := Lib.hid ((hbn.block B10 (by omega)).trans R10.out)
                        replace HEx := Lib.hid (HEx.out.on hbn)
                        replace HBx := Lib.hid (HBx.out.trans (hbn.mono HBx.out.size))
                        try replace HSO := Lib.hid (HSO.out.below hbn)
                        try replace HSN := Lib.hid (HSN.out.below hbn)
                        have hzn : L ≤ wn.heap.size := by have := hbn.size; omega
                        refine hK.out _ _ R10.out ?_
                        clear hK K hHeld hbn hzx hwn hb18
                        intro hHeld
                        walk_nrm
                        clear wx
                        obtain ⟨wx, rfl⟩ : ∃ wx : World, wx = wn := ⟨_, rfl⟩
                        have hzx := hzn
                        clear hzn
                        refine wpAnyL_one 11 (by kernel_rfl) ?_
                        · refine ComesUp.mk rfl (fun K hK => ?_)
                          rw [if_pos (by rfl)]
                          have h18 := HX18.out b18 rfl
                          refine wp_store_row 28 _ _ rfl b18 _ rfl rfl _ _ h18.2 storeSize rfl (store_one _ _ _ _ _) ?_
                          have n18 : b18 ≠ B10 := by omega
                          obtain ⟨wn, hwn⟩ : ∃ wn, wn = wx.setRow b18 (storeV gt va' vc' fa' fc') := ⟨_, rfl⟩
                          rw [← hwn]
                          replace HX18 : Hid (Bx L (some b18) (.cells (storeV gt va' vc' fa' fc') 28 (0, 0)) wn) := fun b hb => by cases hb; exact ⟨h18.1, by rw [hwn]; exact setRow_heap _ _ _ _ _ _ h18.2⟩
                          replace HX19 : Hid (Bx L (some b19) (.cells (#[.string ⟨#[]⟩, .int .i64 0, .int .i64 0, .string ⟨#[]⟩]) 51 (0, 0)) wn) := fun b hb => by cases hb; exact ⟨(HX19.out b19 rfl).1, by rw [hwn]; exact (setRow_other _ _ _ _ (blk_ne (HX19.out b19 rfl).2 h18.2 (by decide))).trans (HX19.out b19 rfl).2⟩
                          replace R10 : Hid (wn.heap[B10]? = some (.cells (storeV (SF) va vc fa fc) 28 (0, 0))) := by show wn.heap[B10]? = _; rw [hwn]; exact (setRow_other _ _ _ _ (Ne.symm n18)).trans R10.out
                          have hbn : Below w3.heap.size wx wn := by rw [hwn]; exact Below.setRow _ b18 _ (by omega)
                          replace HSN : Hid (StOwn bn wn (gt) va' vc' fa' fc') := by rw [hwn]; exact HSN.out.setT h18.2 (by decide) (by decide) (by decide)
                          replace HEx := Lib.hid (HEx.out.below HE3.out.globs hbn)
                          replace HBx := Lib.hid (HBx.out.trans hbn)
                          have hzn : L ≤ wn.heap.size := by have := hbn.size; omega
                          refine hK.out _ _ R10.out ?_
                          clear hK K hHeld hbn hzx hwn h18 n18
                          intro hHeld
                          walk_nrm
                          clear wx
                          obtain ⟨wx, rfl⟩ : ∃ wx : World, wx = wn := ⟨_, rfl⟩
                          have hzx := hzn
                          clear hzn
                          refine wpAnyL_one 12 (by kernel_rfl) ?_
                          refine ComesUp.mk rfl (fun K hK => ?_)
                          rw [if_pos (by rfl)]
                          have h19 := HX19.out b19 rfl
                          refine wp_store_row 51 _ _ rfl b19 _ rfl rfl _ _ h19.2 hitSize rfl (hit_one _ _ _ _) ?_
                          have n19 : b19 ≠ B10 := by omega
                          obtain ⟨wn, hwn⟩ : ∃ wn, wn = wx.setRow b19 (#[.string gh.key, .int .i64 gh.flags, .int .i64 gh.cas, .string gh.value]) := ⟨_, rfl⟩
                          rw [← hwn]
                          replace HX18 : Hid (Bx L (some b18) (.cells (storeV gt va' vc' fa' fc') 28 (0, 0)) wn) := fun b hb => by cases hb; exact ⟨(HX18.out b18 rfl).1, by rw [hwn]; exact (setRow_other _ _ _ _ (blk_ne (HX18.out b18 rfl).2 h19.2 (by decide))).trans (HX18.out b18 rfl).2⟩
                          replace HX19 : Hid (Bx L (some b19) (.cells (#[.string gh.key, .int .i64 gh.flags, .int .i64 gh.cas, .string gh.value]) 51 (0, 0)) wn) := fun b hb => by cases hb; exact ⟨h19.1, by rw [hwn]; exact setRow_heap _ _ _ _ _ _ h19.2⟩
                          replace R10 : Hid (wn.heap[B10]? = some (.cells (storeV (SF) va vc fa fc) 28 (0, 0))) := by show wn.heap[B10]? = _; rw [hwn]; exact (setRow_other _ _ _ _ (Ne.symm n19)).trans R10.out
                          have hbn : Below w3.heap.size wx wn := by rw [hwn]; exact Below.setRow _ b19 _ (by omega)
                          replace HSN : Hid (StOwn bn wn (gt) va' vc' fa' fc') := by rw [hwn]; exact HSN.out.setT h19.2 (by decide) (by decide) (by decide)
                          replace HEx := Lib.hid (HEx.out.below HE3.out.globs hbn)
                          replace HBx := Lib.hid (HBx.out.trans hbn)
                          have hzn : L ≤ wn.heap.size := by have := hbn.size; omega
                          refine hK.out _ _ R10.out ?_
                          clear hK K hHeld hbn hzx hwn h19 n19
                          intro hHeld
                          walk_nrm
                          clear wx
                          obtain ⟨wx, rfl⟩ : ∃ wx : World, wx = wn := ⟨_, rfl⟩
                          have hzx := hzn
                          clear hzn
                          refine wpAnyL_last rfl (by kernel_rfl) (fun K hK => ?_)
                          go_simp
                          refine hK.out _ _ ?_
                          clear hK K
                          walk_nrm
                          refine wpAnyL_done (by kernel_rfl) ?_ _
                          go_wp2_with fail
                          go_meet
                          exact ⟨rfl, HBx⟩
                    · refine ComesUp.mk rfl (fun K hK => ?_)
                      go_simp
                      obtain ⟨wn, hwn⟩ : ∃ wn, wn = wx.alloc (.cells #[.int .i64 0, .int .i64 0, .int .i64 0, .int .i64 0, .int .i64 0, .int .i64 0, .int .i64 0, .int .i64 0, .slice none 0 0, .int .i64 0, .int .i64 0, .slice none 0 0] 28) := ⟨_, rfl⟩
                      obtain ⟨b18, hb18⟩ : ∃ b, b = wx.heap.size := ⟨_, rfl⟩
                      rw [← hwn, ← hb18]
                      have hbn := below_new hwn
                      replace HX18 : Hid (Bx L (some b18) (.cells #[.int .i64 0, .int .i64 0, .int .i64 0, .int .i64 0, .int .i64 0, .int .i64 0, .int .i64 0, .int .i64 0, .slice none 0 0, .int .i64 0, .int .i64 0, .slice none 0 0] 28 (0, 0)) wn) := by rw [hb18]; exact Bx.new hwn hzx
                      replace HX19 := Lib.hid (HX19.out.below hbn)
                      replace R10 := Lib.hid ((hbn.block B10 (by omega)).trans R10.out)
                      replace HEx := Lib.hid (HEx.out.on hbn)
                      replace HBx := Lib.hid (HBx.out.trans (hbn.mono HBx.out.size))
                      try replace HSO := Lib.hid (HSO.out.below hbn)
                      try replace HSN := Lib.hid (HSN.out.below hbn)
                      have hzn : L ≤ wn.heap.size := by have := hbn.size; omega
                      refine hK.out _ _ R10.out ?_
                      clear hK K hHeld hbn hzx hwn hb18
                      intro hHeld
                      walk_nrm
                      clear wx
                      obtain ⟨wx, rfl⟩ : ∃ wx : World, wx = wn := ⟨_, rfl⟩
                      have hzx := hzn
                      clear hzn
                      refine wpAnyL_one 4 (by kernel_rfl) ?_
                      · refine ComesUp.mk rfl (fun K hK => ?_)
                        go_simp
                        refine (keep_get (SF) (ky) va fa vc fc wx HEx.out HSO.out.at (by show _ ≤ 1000; exact HKS.out)).mono ?_
                        rw [HG2.out]
                        rintro e wn ⟨va', vc', fa', fc', rfl, hso, hbn⟩
                        obtain ⟨bn, hbs'⟩ : ∃ b, b = wx.heap.size := ⟨_, rfl⟩
                        rw [← hbs'] at hso
                        have HSN := Lib.hid hso
                        have hbn1 : B10 < bn := by omega
                        clear hso hbs'
                        replace HX18 := Lib.hid (HX18.out.below hbn)
                        replace HX19 := Lib.hid (HX19.out.below hbn)
                        replace R10 := Lib.hid ((hbn.block B10 (by omega)).trans R10.out)
                        replace HEx := Lib.hid (HEx.out.on hbn)
                        replace HBx := Lib.hid (HBx.out.trans (hbn.mono HBx.out.size))
                        have hzn : L ≤ wn.heap.size := by have := hbn.size; omega
                        clear HSO
                        refine hK.out _ _ R10.out ?_
                        clear hK K hHeld hbn hzx 
                        intro hHeld
                        walk_nrm
                        refine wpAnyL_take (i := 5) (v := ?_) rfl (by kernel_rfl) (fun _ _ _ h => h) (Or.inl ⟨by rfl, ?_⟩) (by assumption) ?_
                        rotate_left
                        · intro wS hSw; go_simp <;> with_reducible rfl
                        walk_nrm
                        refine wpAnyL_take (i := 6) (v := ?_) rfl (by kernel_rfl) (fun _ _ _ h => h) (Or.inl ⟨by rfl, ?_⟩) (by assumption) ?_
                        rotate_left
                        · intro wS hSw; go_simp <;> with_reducible rfl
                        walk_nrm
                        refine wpAnyL_take (i := 7) (v := ?_) rfl (by kernel_rfl) (fun _ _ _ h => h) (Or.inl ⟨by rfl, ?_⟩) (by assumption) ?_
                        rotate_left
                        · intro wS hSw; go_simp <;> with_reducible rfl
                        walk_nrm
                        refine wpAnyL_take (i := 8) (v := ?_) rfl (by kernel_rfl) (fun _ _ _ h => h) (Or.inl ⟨by rfl, ?_⟩) (by assumption) ?_
                        rotate_left
                        · intro wS hSw; go_simp <;> with_reducible rfl
                        walk_nrm
                        clear wx
                        obtain ⟨wx, rfl⟩ : ∃ wx : World, wx = wn := ⟨_, rfl⟩
                        have hzx := hzn
                        clear hzn
                        refine wpAnyL_one 11 (by kernel_rfl) ?_
                        · refine ComesUp.mk rfl (fun K hK => ?_)
                          rw [if_pos (by rfl)]
                          have h18 := HX18.out b18 rfl
                          refine wp_store_row 28 _ _ rfl b18 _ rfl rfl _ _ h18.2 storeSize rfl (store_one _ _ _ _ _) ?_
                          have n18 : b18 ≠ B10 := by omega
                          obtain ⟨wn, hwn⟩ : ∃ wn, wn = wx.setRow b18 (storeV gt va' vc' fa' fc') := ⟨_, rfl⟩
                          rw [← hwn]
                          replace HX18 : Hid (Bx L (some b18) (.cells (storeV gt va' vc' fa' fc') 28 (0, 0)) wn) := fun b hb => by cases hb; exact ⟨h18.1, by rw [hwn]; exact setRow_heap _ _ _ _ _ _ h18.2⟩
                          replace HX19 : Hid (Bx L (some b19) (.cells (#[.string ⟨#[]⟩, .int .i64 0, .int .i64 0, .string ⟨#[]⟩]) 51 (0, 0)) wn) := fun b hb => by cases hb; exact ⟨(HX19.out b19 rfl).1, by rw [hwn]; exact (setRow_other _ _ _ _ (blk_ne (HX19.out b19 rfl).2 h18.2 (by decide))).trans (HX19.out b19 rfl).2⟩
                          replace R10 : Hid (wn.heap[B10]? = some (.cells (storeV (SF) va vc fa fc) 28 (0, 0))) := by show wn.heap[B10]? = _; rw [hwn]; exact (setRow_other _ _ _ _ (Ne.symm n18)).trans R10.out
                          have hbn : Below w3.heap.size wx wn := by rw [hwn]; exact Below.setRow _ b18 _ (by omega)
                          replace HSN : Hid (StOwn bn wn (gt) va' vc' fa' fc') := by rw [hwn]; exact HSN.out.setT h18.2 (by decide) (by decide) (by decide)
                          replace HEx := Lib.hid (HEx.out.below HE3.out.globs hbn)
                          replace HBx := Lib.hid (HBx.out.trans hbn)
                          have hzn : L ≤ wn.heap.size := by have := hbn.size; omega
                          refine hK.out _ _ R10.out ?_
                          clear hK K hHeld hbn hzx hwn h18 n18
                          intro hHeld
                          walk_nrm
                          clear wx
                          obtain ⟨wx, rfl⟩ : ∃ wx : World, wx = wn := ⟨_, rfl⟩
                          have hzx := hzn
                          clear hzn
                          refine wpAnyL_one 12 (by kernel_rfl) ?_
                          refine ComesUp.mk rfl (fun K hK => ?_)
                          rw [if_pos (by rfl)]
                          have h19 := HX19.out b19 rfl
                          refine wp_store_row 51 _ _ rfl b19 _ rfl rfl _ _ h19.2 hitSize rfl (hit_one _ _ _ _) ?_
                          have n19 : b19 ≠ B10 := by omega
                          obtain ⟨wn, hwn⟩ : ∃ wn, wn = wx.setRow b19 (#[.string gh.key, .int .i64 gh.flags, .int .i64 gh.cas, .string gh.value]) := ⟨_, rfl⟩
                          rw [← hwn]
                          replace HX18 : Hid (Bx L (some b18) (.cells (storeV gt va' vc' fa' fc') 28 (0, 0)) wn) := fun b hb => by cases hb; exact ⟨(HX18.out b18 rfl).1, by rw [hwn]; exact (setRow_other _ _ _ _ (blk_ne (HX18.out b18 rfl).2 h19.2 (by decide))).trans (HX18.out b18 rfl).2⟩
                          replace HX19 : Hid (Bx L (some b19) (.cells (#[.string gh.key, .int .i64 gh.flags, .int .i64 gh.cas, .string gh.value]) 51 (0, 0)) wn) := fun b hb => by cases hb; exact ⟨h19.1, by rw [hwn]; exact setRow_heap _ _ _ _ _ _ h19.2⟩
                          replace R10 : Hid (wn.heap[B10]? = some (.cells (storeV (SF) va vc fa fc) 28 (0, 0))) := by show wn.heap[B10]? = _; rw [hwn]; exact (setRow_other _ _ _ _ (Ne.symm n19)).trans R10.out
                          have hbn : Below w3.heap.size wx wn := by rw [hwn]; exact Below.setRow _ b19 _ (by omega)
                          replace HSN : Hid (StOwn bn wn (gt) va' vc' fa' fc') := by rw [hwn]; exact HSN.out.setT h19.2 (by decide) (by decide) (by decide)
                          replace HEx := Lib.hid (HEx.out.below HE3.out.globs hbn)
                          replace HBx := Lib.hid (HBx.out.trans hbn)
                          have hzn : L ≤ wn.heap.size := by have := hbn.size; omega
                          refine hK.out _ _ R10.out ?_
                          clear hK K hHeld hbn hzx hwn h19 n19
                          intro hHeld
                          walk_nrm
                          clear wx
                          obtain ⟨wx, rfl⟩ : ∃ wx : World, wx = wn := ⟨_, rfl⟩
                          have hzx := hzn
                          clear hzn
                          refine wpAnyL_last rfl (by kernel_rfl) (fun K hK => ?_)
                          go_simp
                          refine hK.out _ _ ?_
                          clear hK K
                          walk_nrm
                          refine wpAnyL_done (by kernel_rfl) ?_ _
                          go_wp2_with fail
                          go_meet
                          exact ⟨rfl, HBx⟩
                case rest =>
                  obtain ⟨rfl, HBN⟩ := hcut
                  have hcmp : (there == ((k : Int) == (g : Int))) = false := by
                    rw [HTH.out]
                    by_cases e : k = g
                    · subst e; simp
                    · have : ¬ (k : Int) = (g : Int) := by omega
                      simp [e, this]
                  go_wp2_with fail
                  go_roundw
                  case rel => exact ⟨k + 1, by omega, by go_num, HBN⟩
                  case measure => simp [intOf]; omega
              ·
                obtain rfl : k = 8 := by omega
                have q0 : wr.cell? ⟨B14, 0, none⟩ = some (.int .i64 2) := by rw [cell_of_row wr _ _ _ _ _ ((HBR.out.block B14 (Array.getElem?_eq_some_iff.1 R14.out).1).trans R14.out)]; rfl
                have q8 : wr.cell? ⟨B10, 8, none⟩ = some (.slice va 8 vc) := by
                  rw [cell_of_row wr _ _ _ _ _ R10.out]
                  show some (Value.slice va SF.items.length vc) = _
                  rw [HLEN.out]
                go_wp2_with fail
                go_ret
                exact ⟨rfl, HBx.out⟩
set_option maxRecDepth 100000 in
theorem enters {H : Type} {enc : TypeId × Value → H} {W : World} {base : Nat} {args : Array Value} {ds : List (DataW H)} {p : List MemPlace}
    (hval : ∀ (j : Nat) t v, Tryd.f4.params[j]? = some t → args[j]? = some v → Value.okWide Tryd.prog W .any base t v)
    (hA : DataW.TrodAll enc Tryd.prog W 0 (fun _ => true) true Tryd.f4.params.toList args.toList ds p) (hsz : ∀ m ∈ DataW.weightsEach Tryd.prog Tryd.f4.params.toList ds, m ≤ reachBytes) (hL : laidMetH Tryd.prog Rows.oldestGoesRow.laid W) :
    Calls Tryd.prog 4 args W fun e W' => e = .returned (.bool true) ∧ Below W.heap.size W W' := by
  rw [Tryd.params4] at hA hval hsz
  obtain ⟨v0, vs0, d0, ds0, p0, q0, hargs, rfl, rfl, h0, r0⟩ := trodAll_cons hA
  obtain ⟨v1, vs1, d1, ds1, p1, q1, hargs1, rfl, rfl, h1, r1⟩ := trodAll_cons r0
  obtain ⟨rfl, rfl, rfl⟩ := trodAll_nil r1
  obtain rfl : args = #[v0, v1] := by cases args; simp_all
  obtain ⟨a, rfl, rfl, rfl, ha⟩ := open_int Tryd.underlying3 (hval 0 3 v0 rfl rfl) h0
  obtain ⟨b, rfl, rfl, rfl, hb⟩ := open_int Tryd.underlying3 (hval 1 3 v1 rfl rfl) h1
  exact walk a b (bounds_i64 ha) (bounds_i64 hb) W (env_of hL)

set_option maxRecDepth 100000 in
theorem contract {H : Type} {enc : TypeId × Value → H} {W : World} {base : Nat} {args : Array Value} {ds gs : List (DataW H)} {before : List MemPlace}
    (hval0 : ∀ (j : Nat) t v, Tryd.f4.params[j]? = some t → args[j]? = some v → Value.okWide Tryd.prog W .any base t v)
    (hW : DataW.Whole enc Tryd.prog Tryd.f4.params.toList Rows.oldestGoesSpec.vars false W args.toList ds gs before)
    (hsz0 : (DataW.weightsEach Tryd.prog (Tryd.f4.params.toList ++ []) (ds ++ gs)).all (· ≤ reachBytes) = true) (hL : laidMetH Tryd.prog Rows.oldestGoesRow.laid W) :
    Calls Tryd.prog 4 args W fun e W' => ∃ v, e = .returned v ∧ Rows.oldestGoesSpec.post enc Tryd.prog Tryd.f4 false true false false W args v W' := by
  have hval : ∀ (j : Nat) t v, Tryd.f4.params[j]? = some t → args[j]? = some v → Value.okWide Tryd.prog W .any base t v := hval0
  have hW' := hW
  obtain ⟨p, q, hA0, hV, rfl, hfz, hnd⟩ := hW
  have hA : DataW.TrodAll enc Tryd.prog W 0 (fun _ => true) true Tryd.f4.params.toList args.toList ds p := hA0
  obtain ⟨rfl, rfl⟩ := trodVars_none hV
  have hsz : ∀ m ∈ DataW.weightsEach Tryd.prog Tryd.f4.params.toList ds, m ≤ reachBytes := by
    have h0 := hsz0
    rw [List.append_nil, List.append_nil] at h0
    intro m hm
    simpa using List.all_eq_true.1 h0 m hm
  have hds : Rows.oldestGoesSpec.fn H (ds ++ []) = { results := [.lit (.bool true)], args := ds } := by
    have hA1 := hA
    rw [Tryd.params4] at hA1
    obtain ⟨v0, vs0, d0, ds0, p0, q0, _, rfl, rfl, h0, r0⟩ := trodAll_cons hA1
    obtain ⟨v1, vs1, d1, ds1, p1, q1, _, rfl, rfl, h1, r1⟩ := trodAll_cons r0
    obtain ⟨_, rfl, rfl⟩ := trodAll_nil r1
    rfl
  refine (enters hval hA hsz hL).mono fun e W' ⟨he, hb⟩ => ⟨_, he, D.law_post rfl rfl hds (by kernel_rfl) hW' hb⟩
theorem laid_met (os : Os) : laidMet Tryd.prog Rows.oldestGoesRow.laid ((D.laidWorldS os).forCall (fun _ _ => 0) ⟨#[], #[.int .i64 0, .int .i64 0], []⟩).memory :=
  laidMet_of_run' 12 (by kernel_rfl) (by kernel_rfl)
theorem reads (os : Os) {H : Type} (enc : TypeId × Value → H) : ∃ places, DataW.whole enc Tryd.prog ((D.laidWorldS os).forCall (fun _ _ => 0) ⟨#[], #[.int .i64 0, .int .i64 0], []⟩).memory Tryd.f4.params.toList Rows.oldestGoesSpec.vars false (#[.int .i64 0, .int .i64 0] : Array Value).toList 12 = some ([.lit (.int .i64 0), .lit (.int .i64 0)], [], places) :=
  ⟨[], by kernel_rfl⟩
set_option maxRecDepth 100000 in
theorem lifted (os : Os) (started : os.Started) (H : Type) (enc : TypeId × Value → H) (F : Stop.Interp) :
    ReturnsInHanded {} Tryd.checked os 4 .any ((OpenSpec.ofChange Rows.oldestGoesSpec).preRow enc Tryd.prog Tryd.f4 Rows.oldestGoesRow.domain false Rows.oldestGoesRow.laid) (((OpenSpec.ofChange Rows.oldestGoesSpec).at F).post enc Tryd.prog Tryd.f4 false true false false) := by
  obtain ⟨places, hx⟩ := reads os enc
  refine returnsInHanded_of_row (C := Tryd.checked) (s := OpenSpec.ofChange Rows.oldestGoesSpec) D.own started (by kernel_rfl) Tryd.func4
    (witness_row_at (enc := enc) (C := Tryd.checked) false (D.laidWorldS os) #[.int .i64 0, .int .i64 0] rfl (by kernel_rfl) (by kernel_rfl) (by kernel_rfl)
      (OpenSpec.preRow_of_cond 12 hx (by kernel_rfl) (fun k hk => by cases hk) (by kernel_rfl) (laid_met os))) ?_
  intro W base args ds gs before hval hW _ _ hsz hL _ _
  exact contract hval hW hsz hL
theorem said : Rows.OldestGoesSaid :=
  OpenClaim.holds_of_cond 4 Tryd.f4 rfl rfl rfl rfl rfl rfl rfl ⟨rfl, rfl, rfl, rfl, rfl⟩ rfl rfl rfl rfl rfl (by kernel_rfl) Tryd.func4 (by kernel_rfl)
    (of_decide_eq_true (by kernel_rfl)) (by unfold Func.isWrapper; first | (rw [if_pos (by decide +kernel)]; kernel_rfl) | (rw [if_neg (by decide +kernel)]; exact ⟨rfl, rfl⟩))
    (fun os started H enc _ F => by rw [OpenClaim.pre_eq_preRow]; exact lifted os started H enc F)
theorem plain (f : FuncId) (fn : Func) (hf : Tryd.pinned.checked.prog.funcNamed "dovecote/dovecotekeep.OldestGoes" = some f) (hfn : Tryd.pinned.checked.prog.funcs[f]? = some fn) :
    true = Tryd.pinned.checked.prog.looks [] ∧ ∀ (j : Nat) t, fn.params[j]? = some t → Tryd.pinned.checked.prog.wantsStandIn t = false := by
  obtain rfl : f = 4 := Option.some.inj ((show Tryd.prog.funcNamed "dovecote/dovecotekeep.OldestGoes" = some 4 by kernel_rfl).symm.trans hf) |>.symm
  obtain rfl : fn = Tryd.f4 := (Option.some.inj (Tryd.func4.symm.trans hfn)).symm
  refine ⟨by kernel_rfl, fun j t ht => ?_⟩
  rw [Tryd.params4] at ht
  obtain rfl : t = 3 := by simpa using Array.mem_of_getElem? ht
  kernel_rfl
theorem card : Rows.OldestGoesCardSaid :=
  Claim7.holds_tied_plain_at .later [] _ _ _ _ said (fun _ h => by cases h) (by kernel_rfl) (fun _ h => by cases h) oldestGoes_row_tie rfl ⟨rfl, rfl⟩ (by kernel_rfl) rfl plain (by kernel_rfl)
end Go.Proofs.YtbeegfkfpkfccaaDoor.oldestGoes
