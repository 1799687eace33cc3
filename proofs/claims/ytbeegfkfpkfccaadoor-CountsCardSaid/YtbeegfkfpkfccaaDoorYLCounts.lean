/-
  PROVED: 'Rows.CountsCardSaid'. No condition; the tables that the call reads are tied to the program's text.
-/
import Derived.Test.YtbeegfkfpkfccaaDoorYCKGet
import Derived.Test.YtbeegfkfpkfccaaDoorYCPick
import Derived.Test.YtbeegfkfpkfccaaDoorYPCounts
import Derived.Test.YtbeegfkfpkfccaaDoorYCDoorS
import Derived.Test.YtbeegfkfpkfccaaDoorYCRegB
import Derived.Test.YtbeegfkfpkfccaaDoorYCQuiet
namespace Go.Proofs.YtbeegfkfpkfccaaDoor.counts
open Go.ChangeShapes Go.WideShapes Go.ChangeAt Go.RowKit Go.Proofs.YtbeegfkfpkfccaaDoor.D
abbrev V0 : Array Value := #[.int .i64 0, .int .i64 0, .int .i64 0, .int .i64 4, .int .i64 0, .int .i64 0, .int .i64 0, .int .i64 0, .slice none 0 0, .int .i64 0, .int .i64 1, .slice none 0 0]
/-- what the calls answer, behind the first one -/
theorem runs {n u d m q : Int} (hn : 0 ≤ n ∧ n < 1000000) (hu : 0 ≤ u ∧ u ≤ 1099511627776) (hd : 0 ≤ d ∧ d ≤ 1099511627776) (hm : m = min (n + u) maxN) (hq : q = max (m - d) 0) (h : SOk (oneS 1 1 3 1 1 (decS n))) :
    ∃ S2 S3 S4 t5, doOf (oneS 1 1 3 1 1 (decS n)) (reqNum 9 nK u) = (S2, ⟨7, m, []⟩, 0) ∧ doOf S2 (reqNum 10 nK d) = (S3, ⟨7, q, []⟩, 0) ∧ getOf S3 nK = (S4, ⟨nK, 3, 3, decS q⟩, true) ∧ doOf S4 (reqPut 5 nK ⟨#[120]⟩ 0) = (t5, ⟨2, 0, []⟩, 0) := by
  have hM : maxN = 1099511627776 := rfl
  have h2 := count_n (c := 1) (u := 1) (ca := 1) (us := 1) (n := n) (m := u) (k := 9) (.inl rfl) h (by omega) (by omega) (by omega) (by omega)
  simp only [if_true] at h2
  rw [← hm] at h2
  have h3 := count_n (c := 1 + 1) (u := 1 + 1) (ca := 1 + 1) (us := 1 + 1) (n := m) (m := d) (k := 10) (.inr rfl) h2.2 (by omega) (by omega) (by omega) (by omega)
  simp only [show ¬ (10 : Int) = 9 by omega, if_false] at h3
  rw [← hq] at h3
  have h4 := get_n (c := 1 + 1 + 1) (u := 1 + 1 + 1) (fl := 3) (ca := 1 + 1 + 1) (us := 1 + 1 + 1) (v := decS q) h3.2 (by omega)
  have hs : (decS q).size ≤ 21 := decS_small ⟨by omega, by omega⟩
  obtain ⟨t, h5⟩ := append_n (z := ⟨#[120]⟩) h4.2 (by omega) (by omega) (by rw [ByteArray.size_append]; show (decS q).size + 1 ≤ 23; omega) (by decide)
  refine ⟨_, _, _, t, h2.1, h3.1, ?_, h5⟩
  have e : doOf (oneS (1 + 1 + 1) (1 + 1 + 1) 3 (1 + 1 + 1) (1 + 1 + 1) (decS q)) (getReq nK) = _ := h4.1
  unfold getOf
  rw [e]
  rfl
set_option maxRecDepth 100000 in
set_option maxHeartbeats 8000000 in
theorem walk (a b c : Int) (ha : -9223372036854775808 ≤ a ∧ a ≤ 9223372036854775807) (hb : -9223372036854775808 ≤ b ∧ b ≤ 9223372036854775807) (hc : -9223372036854775808 ≤ c ∧ c ≤ 9223372036854775807) (w : World) (he : Env w) :
    Calls Tryd.prog 5 #[.int .i64 a, .int .i64 b, .int .i64 c] w fun e w' => e = .returned (.bool true) ∧ Below w.heap.size w w' := by
  have HE := Lib.hid he
  clear he
  obtain ⟨n, hn⟩ : ∃ n, pick a 1000000 = n := ⟨_, rfl⟩
  obtain ⟨u, hu⟩ : ∃ u, pick b 1099511627777 = u := ⟨_, rfl⟩
  obtain ⟨d, hd⟩ : ∃ d, pick c 1099511627777 = d := ⟨_, rfl⟩
  have hn1 := pick_lt a 1000000 (by omega)
  have hu1 := pick_lt b 1099511627777 (by omega)
  have hd1 := pick_lt c 1099511627777 (by omega)
  rw [hn] at hn1
  rw [hu] at hu1
  rw [hd] at hd1
  have HN := Lib.hid hn
  have HU := Lib.hid hu
  have HD := Lib.hid hd
  clear hn hu hd
  go_enter Tryd.func5, Tryd.ntmps5
  go_wp2_with fail
  refine (picked_at a 1000000 n HN ha.1 ha.2 (by omega) (by omega) w).mono ?_
  rintro e w1 ⟨rfl, rfl⟩
  go_wp2_with fail
  refine (picked_at b 1099511627777 u HU hb.1 hb.2 (by omega) (by omega) w).mono ?_
  rintro e w1 ⟨rfl, rfl⟩
  go_wp2_with fail
  refine (picked_at c 1099511627777 d HD hc.1 hc.2 (by omega) (by omega) w).mono ?_
  rintro e w1 ⟨rfl, rfl⟩
  go_wp2_with fail
  refine (store_New 4 0 w).mono ?_
  rintro e w1 ⟨rfl, hb1⟩
  rw [newS_good (by omega) (by omega) (by omega)]
  have HB1 := Lib.hid hb1
  have HE1 := Lib.hid (HE.out.on hb1)
  clear hb1
  go_upto_region 5 with (fail)
  obtain ⟨W2, hW2⟩ : ∃ W2, W2 = w1.alloc (.cells V0 28) := ⟨_, rfl⟩
  obtain ⟨B10, hB10⟩ : ∃ B, B = w1.heap.size := ⟨_, rfl⟩
  have r10 : W2.heap[B10]? = some (.cells V0 28 (0, 0)) := by rw [hW2, hB10]; exact blk_new w1 _
  have hb2 := below_new hW2
  have hz2 : B10 + 1 = W2.heap.size := by rw [hW2, hB10]; simp
  have hB10w : w.heap.size ≤ B10 := by have := HB1.out.size; omega
  have HE2 := Lib.hid (HE1.out.on hb2)
  have HB2 := Lib.hid (HB1.out.trans (hb2.mono HB1.out.size))
  have R10 := Lib.hid r10
  rw [← hW2, ← hB10]
  clear hW2 hB10 r10 hb2 HE1 HB1
  have hm : maxN = 1099511627776 := rfl
  have hsz : ∀ k : Int, 0 ≤ k ∧ k ≤ maxN → (decS k).size ≤ 21 := fun k hk => decS_small hk
  obtain ⟨S1, hS1⟩ : ∃ S, S = oneS 1 1 3 1 1 (decS n) := ⟨_, rfl⟩
  have hd1 := set_n (v := decS n) (by have := hsz n (by omega); omega)
  rw [← hS1] at hd1
  have HD1 := Lib.hid hd1.1
  have HO1 := Lib.hid hd1.2
  have HS1 := Lib.hid hS1
  clear hd1 hS1
  go_cut [12, 13] (fun v12 v13 wx => ∃ B12 va vc fa fc ha hc bs, v12 = .pointer (some ⟨B12, 0, none⟩) ∧ v13 = .int .i64 0 ∧ B10 < bs ∧ B12 ≠ B10 ∧ w.heap.size ≤ B12 ∧ Hid (Below w.heap.size w wx) ∧ Hid (Env wx) ∧ Hid (wx.heap[B10]? = some (.cells (storeV S1 va vc fa fc) 28 (0, 0))) ∧ Hid (StOwn bs wx S1 va vc fa fc) ∧ Hid (wx.heap[B12]? = some (.cells #[.int .i64 2, .int .i64 0, .slice ha 0 hc] 38 (0, 0))))
  case first =>
    refine wp_region_L (fun _ => True) 12 13 (by kernel_rfl) (by kernel_rfl) trivial (fun hHeld => ?_)
    refine wpAnyL_take (i := 1) (v := ?_) rfl (by kernel_rfl) (fun _ _ _ h => h) (Or.inl ⟨by rfl, ?_⟩) (by assumption) ?_
    rotate_left
    · intro wS hSw; go_simp <;> with_reducible rfl
    walk_nrm
    obtain ⟨wx, hwx⟩ : ∃ wx, wx = W2.drew := ⟨_, rfl⟩
    rw [← hwx]
    replace R10 : Hid (wx.heap[B10]? = some (.cells V0 28 (0, 0))) := by rw [hwx]; exact R10
    have HBx : Hid (Below w.heap.size w wx) := by rw [hwx]; exact HB2.out.drew
    have HEx : Hid (Env wx) := by rw [hwx]; exact Lib.hid (HE2.out.on (Below.refl _ _).drew)
    have hzx : B10 + 1 ≤ wx.heap.size := by rw [hwx]; exact Nat.le_of_eq hz2
    have HX1 : Hid (Bx (B10 + 1) none (.cells #[.int .i64 0, .int .i64 0, .slice none 0 0] 38 (0, 0)) wx) := Bx.none
    clear hwx HB2 HE2 hz2
    refine wpAnyL_three 0 2 9 (by kernel_rfl) ?_ ?_ ?_
    · refine ComesUp.mk rfl (fun K hK => ?_)
      rw [if_pos (by rfl)]
      refine wp_load_row 28 _ rfl B10 rfl _ _ _ _ R10.out Tryd.underlying28 rfl (by kernel_rfl) ?_
      refine hK.out _ _ trivial ?_
      clear hK K hHeld
      intro hHeld
      walk_nrm
      refine wpAnyL_two 2 9 (by kernel_rfl) ?_ ?_
      · refine ComesUp.mk rfl (fun K hK => ?_)
        go_simp
        refine (itoa_is n (by omega) (by omega) wx HEx.out.pow).mono ?_
        rintro e wn ⟨rfl, hbn⟩
        replace HX1 := Lib.hid (HX1.out.below hbn)
        replace R10 := Lib.hid ((hbn.block B10 (by omega)).trans R10.out)
        replace HEx := Lib.hid (HEx.out.on hbn)
        replace HBx := Lib.hid (HBx.out.trans (hbn.mono HBx.out.size))
        have hzn : B10 + 1 ≤ wn.heap.size := by have := hbn.size; omega
        refine hK.out _ _ trivial ?_
        clear hK K hHeld hbn hzx
        intro hHeld
        walk_nrm
        refine wpAnyL_take (i := 3) (v := ?_) rfl (by kernel_rfl) (fun _ _ _ h => h) (Or.inl ⟨by rfl, ?_⟩) (by assumption) ?_
        rotate_left
        · intro wS hSw; go_simp <;> with_reducible rfl
        walk_nrm
        clear wx
        obtain ⟨wx, rfl⟩ : ∃ wx : World, wx = wn := ⟨_, rfl⟩
        have hzx := hzn
        clear hzn
        refine wpAnyL_two 4 9 (by kernel_rfl) ?_ ?_
        · refine ComesUp.mk rfl (fun K hK => ?_)
          go_simp
          refine (do_at (s := emptyS) (r := reqPut 2 nK (decS n) 3) (va := none) (vc := 0) (fa := none) (fc := 0) (ka := none) (kc := 0) HEx (Lib.hid (StOwn.bare (base := 0) rfl rfl).at) (RowsAt.nil _ _ _ _) (Nat.zero_le _) (by show 1 ≤ 1000; omega) rfl rfl).mono ?_
          rw [HD1.out]
          rintro e wn ⟨va, vc, fa, fc, ha', hc', rfl, hso, hh, hbn⟩
          have HSO := Lib.hid hso
          obtain ⟨bs, hbs⟩ : ∃ bs, bs = wx.heap.size := ⟨_, rfl⟩
          rw [← hbs] at HSO
          have hbs1 : B10 < bs := by omega
          replace HX1 := Lib.hid (HX1.out.below hbn)
          replace R10 := Lib.hid ((hbn.block B10 (by omega)).trans R10.out)
          replace HEx := Lib.hid (HEx.out.on hbn)
          replace HBx := Lib.hid (HBx.out.trans (hbn.mono HBx.out.size))
          have hzn : B10 + 1 ≤ wn.heap.size := by have := hbn.size; omega
          refine hK.out _ _ trivial ?_
          clear hK K hHeld hbn hzx hso hh hbs
          intro hHeld
          walk_nrm
          refine wpAnyL_take (i := 5) (v := ?_) rfl (by kernel_rfl) (fun _ _ _ h => h) (Or.inl ⟨by rfl, ?_⟩) (by assumption) ?_
          rotate_left
          · intro wS hSw; go_simp <;> with_reducible rfl
          walk_nrm
          refine wpAnyL_take (i := 6) (v := ?_) rfl (by kernel_rfl) (fun _ _ _ h => h) (Or.inl ⟨by rfl, ?_⟩) (by assumption) ?_
          rotate_left
          · intro wS hSw; go_simp <;> with_reducible rfl
          walk_nrm
          refine wpAnyL_take (i := 7) (v := ?_) rfl (by kernel_rfl) (fun _ _ _ h => h) (Or.inl ⟨by rfl, ?_⟩) (by assumption) ?_
          rotate_left
          · intro wS hSw; go_simp <;> with_reducible rfl
          walk_nrm
          refine wpAnyL_take (i := 8) (v := ?_) rfl (by kernel_rfl) (fun _ _ _ h => h) (Or.inl ⟨by rfl, ?_⟩) (by assumption) ?_
          rotate_left
          · intro wS hSw; go_simp <;> with_reducible rfl
          walk_nrm
          clear wx
          obtain ⟨wx, rfl⟩ : ∃ wx : World, wx = wn := ⟨_, rfl⟩
          have hzx := hzn
          clear hzn
          refine wpAnyL_one 9 (by kernel_rfl) ?_
          · refine ComesUp.mk rfl (fun K hK => ?_)
            go_simp
            obtain ⟨wn, hwn⟩ : ∃ wn, wn = wx.alloc (.cells #[.int .i64 0, .int .i64 0, .slice none 0 0] 38) := ⟨_, rfl⟩
            obtain ⟨b6, hb6⟩ : ∃ b, b = wx.heap.size := ⟨_, rfl⟩
            rw [← hwn, ← hb6]
            have hbn := below_new hwn
            replace HX1 : Hid (Bx (B10 + 1) (some b6) (.cells #[.int .i64 0, .int .i64 0, .slice none 0 0] 38 (0, 0)) wn) := by rw [hb6]; exact Bx.new hwn hzx
            replace R10 := Lib.hid ((hbn.block B10 (by omega)).trans R10.out)
            replace HEx := Lib.hid (HEx.out.on hbn)
            replace HBx := Lib.hid (HBx.out.trans (hbn.mono HBx.out.size))
            try replace HSO := Lib.hid (HSO.out.below hbn)
            have hzn : B10 + 1 ≤ wn.heap.size := by have := hbn.size; omega
            refine hK.out _ _ trivial ?_
            clear hK K hHeld hbn hzx hwn hb6
            intro hHeld
            walk_nrm
            clear wx
            obtain ⟨wx, rfl⟩ : ∃ wx : World, wx = wn := ⟨_, rfl⟩
            have hzx := hzn
            clear hzn
            refine wpAnyL_one 10 (by kernel_rfl) ?_
            · refine ComesUp.mk rfl (fun K hK => ?_)
              rw [if_pos (by rfl)]
              refine wp_store_row 28 _ _ rfl B10 _ rfl rfl _ _ R10.out storeSize rfl (store_one _ _ _ _ _) ?_
              obtain ⟨wn, hwn⟩ : ∃ wn, wn = wx.setRow B10 (storeV S1 va vc fa fc) := ⟨_, rfl⟩
              rw [← hwn]
              replace HX1 : Hid (Bx (B10 + 1) _ _ wn) := fun b hb => ⟨(HX1.out b hb).1, by rw [hwn]; exact (setRow_other _ _ _ _ (by have := (HX1.out b hb).1; omega)).trans (HX1.out b hb).2⟩
              replace R10 : Hid (wn.heap[B10]? = some (.cells (storeV S1 va vc fa fc) 28 (0, 0))) := by rw [hwn]; exact setRow_heap _ _ _ _ _ _ R10.out
              have hbn : Below w.heap.size wx wn := by rw [hwn]; exact Below.setRow _ B10 _ hB10w
              replace HEx := Lib.hid (HEx.out.below HE.out.globs hbn)
              replace HBx := Lib.hid (HBx.out.trans hbn)
              replace HSO : Hid (StOwn bs wn S1 va vc fa fc) := by rw [hwn]; exact HSO.out.set hbs1
              have hzn : B10 + 1 ≤ wn.heap.size := by have := hbn.size; omega
              refine hK.out _ _ trivial ?_
              clear hK K hHeld hbn hzx hwn
              intro hHeld
              walk_nrm
              clear wx
              obtain ⟨wx, rfl⟩ : ∃ wx : World, wx = wn := ⟨_, rfl⟩
              have hzx := hzn
              clear hzn
              refine wpAnyL_one 11 (by kernel_rfl) ?_
              refine ComesUp.mk rfl (fun K hK => ?_)
              rw [if_pos (by rfl)]
              have h6 := HX1.out b6 rfl
              refine wp_store_row 38 _ _ rfl b6 _ rfl rfl _ _ h6.2 replySize rfl (reply_one _ _ _) ?_
              have h610 : b6 ≠ B10 := by omega
              obtain ⟨wn, hwn⟩ : ∃ wn, wn = wx.setRow b6 (replyCells ⟨2, 0, []⟩ ha' hc') := ⟨_, rfl⟩
              rw [← hwn]
              have hbn : Below w.heap.size wx wn := by rw [hwn]; exact Below.setRow _ b6 _ (by omega)
              have HF1 : Hid (Below w.heap.size w wn) := HBx.out.trans hbn
              have HF2 : Hid (Env wn) := HEx.out.below HE.out.globs hbn
              have HF3 : Hid (wn.heap[B10]? = some (.cells (storeV S1 va vc fa fc) 28 (0, 0))) := by rw [hwn]; exact (setRow_other _ _ _ _ h610.symm).trans R10.out
              have HF4 : Hid (StOwn bs wn S1 va vc fa fc) := by rw [hwn]; exact HSO.out.setT h6.2 (by decide) (by decide) (by decide)
              have HF5 : Hid (wn.heap[b6]? = some (.cells #[.int .i64 2, .int .i64 0, .slice ha' 0 hc'] 38 (0, 0))) := by rw [hwn]; exact setRow_heap _ _ _ _ _ _ h6.2
              have h6w : w.heap.size ≤ b6 := by omega
              refine hK.out _ _ trivial ?_
              clear hK K hHeld hbn hzx hwn
              intro hHeld
              walk_nrm
              refine wpAnyL_last rfl (by kernel_rfl) (fun K hK => ?_)
              go_simp
              refine hK.out _ _ ?_
              clear hK K
              walk_nrm
              refine wpAnyL_done (by kernel_rfl) ?_ _
              go_wp2_with fail
              go_meet
              exact ⟨b6, va, vc, fa, fc, ha', hc', bs, rfl, rfl, hbs1, h610, h6w, HF1, HF2, HF3, HF4, HF5⟩
        · refine ComesUp.mk rfl (fun K hK => ?_)
          go_simp
          obtain ⟨wn, hwn⟩ : ∃ wn, wn = wx.alloc (.cells #[.int .i64 0, .int .i64 0, .slice none 0 0] 38) := ⟨_, rfl⟩
          obtain ⟨b6, hb6⟩ : ∃ b, b = wx.heap.size := ⟨_, rfl⟩
          rw [← hwn, ← hb6]
          have hbn := below_new hwn
          replace HX1 : Hid (Bx (B10 + 1) (some b6) (.cells #[.int .i64 0, .int .i64 0, .slice none 0 0] 38 (0, 0)) wn) := by rw [hb6]; exact Bx.new hwn hzx
          replace R10 := Lib.hid ((hbn.block B10 (by omega)).trans R10.out)
          replace HEx := Lib.hid (HEx.out.on hbn)
          replace HBx := Lib.hid (HBx.out.trans (hbn.mono HBx.out.size))
          try replace HSO := Lib.hid (HSO.out.below hbn)
          have hzn : B10 + 1 ≤ wn.heap.size := by have := hbn.size; omega
          refine hK.out _ _ trivial ?_
          clear hK K hHeld hbn hzx hwn hb6
          intro hHeld
          walk_nrm
          clear wx
          obtain ⟨wx, rfl⟩ : ∃ wx : World, wx = wn := ⟨_, rfl⟩
          have hzx := hzn
          clear hzn
          refine wpAnyL_one 4 (by kernel_rfl) ?_
          · refine ComesUp.mk rfl (fun K hK => ?_)
            go_simp
            refine (do_at (s := emptyS) (r := reqPut 2 nK (decS n) 3) (va := none) (vc := 0) (fa := none) (fc := 0) (ka := none) (kc := 0) HEx (Lib.hid (StOwn.bare (base := 0) rfl rfl).at) (RowsAt.nil _ _ _ _) (Nat.zero_le _) (by show 1 ≤ 1000; omega) rfl rfl).mono ?_
            rw [HD1.out]
            rintro e wn ⟨va, vc, fa, fc, ha', hc', rfl, hso, hh, hbn⟩
            have HSO := Lib.hid hso
            obtain ⟨bs, hbs⟩ : ∃ bs, bs = wx.heap.size := ⟨_, rfl⟩
            rw [← hbs] at HSO
            have hbs1 : B10 < bs := by omega
            replace HX1 := Lib.hid (HX1.out.below hbn)
            replace R10 := Lib.hid ((hbn.block B10 (by omega)).trans R10.out)
            replace HEx := Lib.hid (HEx.out.on hbn)
            replace HBx := Lib.hid (HBx.out.trans (hbn.mono HBx.out.size))
            have hzn : B10 + 1 ≤ wn.heap.size := by have := hbn.size; omega
            refine hK.out _ _ trivial ?_
            clear hK K hHeld hbn hzx hso hh hbs
            intro hHeld
            walk_nrm
            refine wpAnyL_take (i := 5) (v := ?_) rfl (by kernel_rfl) (fun _ _ _ h => h) (Or.inl ⟨by rfl, ?_⟩) (by assumption) ?_
            rotate_left
            · intro wS hSw; go_simp <;> with_reducible rfl
            walk_nrm
            refine wpAnyL_take (i := 6) (v := ?_) rfl (by kernel_rfl) (fun _ _ _ h => h) (Or.inl ⟨by rfl, ?_⟩) (by assumption) ?_
            rotate_left
            · intro wS hSw; go_simp <;> with_reducible rfl
            walk_nrm
            refine wpAnyL_take (i := 7) (v := ?_) rfl (by kernel_rfl) (fun _ _ _ h => h) (Or.inl ⟨by rfl, ?_⟩) (by assumption) ?_
            rotate_left
            · intro wS hSw; go_simp <;> with_reducible rfl
            walk_nrm
            refine wpAnyL_take (i := 8) (v := ?_) rfl (by kernel_rfl) (fun _ _ _ h => h) (Or.inl ⟨by rfl, ?_⟩) (by assumption) ?_
            rotate_left
            · intro wS hSw; go_simp <;> with_reducible rfl
            walk_nrm
            clear wx
            obtain ⟨wx, rfl⟩ : ∃ wx : World, wx = wn := ⟨_, rfl⟩
            have hzx := hzn
            clear hzn
            refine wpAnyL_one 10 (by kernel_rfl) ?_
            · refine ComesUp.mk rfl (fun K hK => ?_)
              rw [if_pos (by rfl)]
              refine wp_store_row 28 _ _ rfl B10 _ rfl rfl _ _ R10.out storeSize rfl (store_one _ _ _ _ _) ?_
              obtain ⟨wn, hwn⟩ : ∃ wn, wn = wx.setRow B10 (storeV S1 va vc fa fc) := ⟨_, rfl⟩
              rw [← hwn]
              replace HX1 : Hid (Bx (B10 + 1) _ _ wn) := fun b hb => ⟨(HX1.out b hb).1, by rw [hwn]; exact (setRow_other _ _ _ _ (by have := (HX1.out b hb).1; omega)).trans (HX1.out b hb).2⟩
              replace R10 : Hid (wn.heap[B10]? = some (.cells (storeV S1 va vc fa fc) 28 (0, 0))) := by rw [hwn]; exact setRow_heap _ _ _ _ _ _ R10.out
              have hbn : Below w.heap.size wx wn := by rw [hwn]; exact Below.setRow _ B10 _ hB10w
              replace HEx := Lib.hid (HEx.out.below HE.out.globs hbn)
              replace HBx := Lib.hid (HBx.out.trans hbn)
              replace HSO : Hid (StOwn bs wn S1 va vc fa fc) := by rw [hwn]; exact HSO.out.set hbs1
              have hzn : B10 + 1 ≤ wn.heap.size := by have := hbn.size; omega
              refine hK.out _ _ trivial ?_
              clear hK K hHeld hbn hzx hwn
              intro hHeld
              walk_nrm
              clear wx
              obtain ⟨wx, rfl⟩ : ∃ wx : World, wx = wn := ⟨_, rfl⟩
              have hzx := hzn
              clear hzn
              refine wpAnyL_one 11 (by kernel_rfl) ?_
              refine ComesUp.mk rfl (fun K hK => ?_)
              rw [if_pos (by rfl)]
              have h6 := HX1.out b6 rfl
              refine wp_store_row 38 _ _ rfl b6 _ rfl rfl _ _ h6.2 replySize rfl (reply_one _ _ _) ?_
              have h610 : b6 ≠ B10 := by omega
              obtain ⟨wn, hwn⟩ : ∃ wn, wn = wx.setRow b6 (replyCells ⟨2, 0, []⟩ ha' hc') := ⟨_, rfl⟩
              rw [← hwn]
              have hbn : Below w.heap.size wx wn := by rw [hwn]; exact Below.setRow _ b6 _ (by omega)
              have HF1 : Hid (Below w.heap.size w wn) := HBx.out.trans hbn
              have HF2 : Hid (Env wn) := HEx.out.below HE.out.globs hbn
              have HF3 : Hid (wn.heap[B10]? = some (.cells (storeV S1 va vc fa fc) 28 (0, 0))) := by rw [hwn]; exact (setRow_other _ _ _ _ h610.symm).trans R10.out
              have HF4 : Hid (StOwn bs wn S1 va vc fa fc) := by rw [hwn]; exact HSO.out.setT h6.2 (by decide) (by decide) (by decide)
              have HF5 : Hid (wn.heap[b6]? = some (.cells #[.int .i64 2, .int .i64 0, .slice ha' 0 hc'] 38 (0, 0))) := by rw [hwn]; exact setRow_heap _ _ _ _ _ _ h6.2
              have h6w : w.heap.size ≤ b6 := by omega
              refine hK.out _ _ trivial ?_
              clear hK K hHeld hbn hzx hwn
              intro hHeld
              walk_nrm
              refine wpAnyL_last rfl (by kernel_rfl) (fun K hK => ?_)
              go_simp
              refine hK.out _ _ ?_
              clear hK K
              walk_nrm
              refine wpAnyL_done (by kernel_rfl) ?_ _
              go_wp2_with fail
              go_meet
              exact ⟨b6, va, vc, fa, fc, ha', hc', bs, rfl, rfl, hbs1, h610, h6w, HF1, HF2, HF3, HF4, HF5⟩
      · refine ComesUp.mk rfl (fun K hK => ?_)
        go_simp
        obtain ⟨wn, hwn⟩ : ∃ wn, wn = wx.alloc (.cells #[.int .i64 0, .int .i64 0, .slice none 0 0] 38) := ⟨_, rfl⟩
        obtain ⟨b6, hb6⟩ : ∃ b, b = wx.heap.size := ⟨_, rfl⟩
        rw [← hwn, ← hb6]
        have hbn := below_new hwn
        replace HX1 : Hid (Bx (B10 + 1) (some b6) (.cells #[.int .i64 0, .int .i64 0, .slice none 0 0] 38 (0, 0)) wn) := by rw [hb6]; exact Bx.new hwn hzx
        replace R10 := Lib.hid ((hbn.block B10 (by omega)).trans R10.out)
        replace HEx := Lib.hid (HEx.out.on hbn)
        replace HBx := Lib.hid (HBx.out.trans (hbn.mono HBx.out.size))
        try replace HSO := Lib.hid (HSO.out.below hbn)
        have hzn : B10 + 1 ≤ wn.heap.size := by have := hbn.size; omega
        refine hK.out _ _ trivial ?_
        clear hK K hHeld hbn hzx hwn hb6
        intro hHeld
        walk_nrm
        clear wx
        obtain ⟨wx, rfl⟩ : ∃ wx : World, wx = wn := ⟨_, rfl⟩
        have hzx := hzn
        clear hzn
        refine wpAnyL_one 2 (by kernel_rfl) ?_
        · refine ComesUp.mk rfl (fun K hK => ?_)
          go_simp
          refine (itoa_is n (by omega) (by omega) wx HEx.out.pow).mono ?_
          rintro e wn ⟨rfl, hbn⟩
          replace HX1 := Lib.hid (HX1.out.below hbn)
          replace R10 := Lib.hid ((hbn.block B10 (by omega)).trans R10.out)
          replace HEx := Lib.hid (HEx.out.on hbn)
          replace HBx := Lib.hid (HBx.out.trans (hbn.mono HBx.out.size))
          have hzn : B10 + 1 ≤ wn.heap.size := by have := hbn.size; omega
          refine hK.out _ _ trivial ?_
          clear hK K hHeld hbn hzx
          intro hHeld
          walk_nrm
          refine wpAnyL_take (i := 3) (v := ?_) rfl (by kernel_rfl) (fun _ _ _ h => h) (Or.inl ⟨by rfl, ?_⟩) (by assumption) ?_
          rotate_left
          · intro wS hSw; go_simp <;> with_reducible rfl
          walk_nrm
          clear wx
          obtain ⟨wx, rfl⟩ : ∃ wx : World, wx = wn := ⟨_, rfl⟩
          have hzx := hzn
          clear hzn
          refine wpAnyL_one 4 (by kernel_rfl) ?_
          · refine ComesUp.mk rfl (fun K hK => ?_)
            go_simp
            refine (do_at (s := emptyS) (r := reqPut 2 nK (decS n) 3) (va := none) (vc := 0) (fa := none) (fc := 0) (ka := none) (kc := 0) HEx (Lib.hid (StOwn.bare (base := 0) rfl rfl).at) (RowsAt.nil _ _ _ _) (Nat.zero_le _) (by show 1 ≤ 1000; omega) rfl rfl).mono ?_
            rw [HD1.out]
            rintro e wn ⟨va, vc, fa, fc, ha', hc', rfl, hso, hh, hbn⟩
            have HSO := Lib.hid hso
            obtain ⟨bs, hbs⟩ : ∃ bs, bs = wx.heap.size := ⟨_, rfl⟩
            rw [← hbs] at HSO
            have hbs1 : B10 < bs := by omega
            replace HX1 := Lib.hid (HX1.out.below hbn)
            replace R10 := Lib.hid ((hbn.block B10 (by omega)).trans R10.out)
            replace HEx := Lib.hid (HEx.out.on hbn)
            replace HBx := Lib.hid (HBx.out.trans (hbn.mono HBx.out.size))
            have hzn : B10 + 1 ≤ wn.heap.size := by have := hbn.size; omega
            refine hK.out _ _ trivial ?_
            clear hK K hHeld hbn hzx hso hh hbs
            intro hHeld
            walk_nrm
            refine wpAnyL_take (i := 5) (v := ?_) rfl (by kernel_rfl) (fun _ _ _ h => h) (Or.inl ⟨by rfl, ?_⟩) (by assumption) ?_
            rotate_left
            · intro wS hSw; go_simp <;> with_reducible rfl
            walk_nrm
            refine wpAnyL_take (i := 6) (v := ?_) rfl (by kernel_rfl) (fun _ _ _ h => h) (Or.inl ⟨by rfl, ?_⟩) (by assumption) ?_
            rotate_left
            · intro wS hSw; go_simp <;> with_reducible rfl
            walk_nrm
            refine wpAnyL_take (i := 7) (v := ?_) rfl (by kernel_rfl) (fun _ _ _ h => h) (Or.inl ⟨by rfl, ?_⟩) (by assumption) ?_
            rotate_left
            · intro wS hSw; go_simp <;> with_reducible rfl
            walk_nrm
            refine wpAnyL_take (i := 8) (v := ?_) rfl (by kernel_rfl) (fun _ _ _ h => h) (Or.inl ⟨by rfl, ?_⟩) (by assumption) ?_
            rotate_left
            · intro wS hSw; go_simp <;> with_reducible rfl
            walk_nrm
            clear wx
            obtain ⟨wx, rfl⟩ : ∃ wx : World, wx = wn := ⟨_, rfl⟩
            have hzx := hzn
            clear hzn
            refine wpAnyL_one 10 (by kernel_rfl) ?_
            · refine ComesUp.mk rfl (fun K hK => ?_)
              rw [if_pos (by rfl)]
              refine wp_store_row 28 _ _ rfl B10 _ rfl rfl _ _ R10.out storeSize rfl (store_one _ _ _ _ _) ?_
              obtain ⟨wn, hwn⟩ : ∃ wn, wn = wx.setRow B10 (storeV S1 va vc fa fc) := ⟨_, rfl⟩
              rw [← hwn]
              replace HX1 : Hid (Bx (B10 + 1) _ _ wn) := fun b hb => ⟨(HX1.out b hb).1, by rw [hwn]; exact (setRow_other _ _ _ _ (by have := (HX1.out b hb).1; omega)).trans (HX1.out b hb).2⟩
              replace R10 : Hid (wn.heap[B10]? = some (.cells (storeV S1 va vc fa fc) 28 (0, 0))) := by rw [hwn]; exact setRow_heap _ _ _ _ _ _ R10.out
              have hbn : Below w.heap.size wx wn := by rw [hwn]; exact Below.setRow _ B10 _ hB10w
              replace HEx := Lib.hid (HEx.out.below HE.out.globs hbn)
              replace HBx := Lib.hid (HBx.out.trans hbn)
              replace HSO : Hid (StOwn bs wn S1 va vc fa fc) := by rw [hwn]; exact HSO.out.set hbs1
              have hzn : B10 + 1 ≤ wn.heap.size := by have := hbn.size; omega
              refine hK.out _ _ trivial ?_
              clear hK K hHeld hbn hzx hwn
              intro hHeld
              walk_nrm
              clear wx
              obtain ⟨wx, rfl⟩ : ∃ wx : World, wx = wn := ⟨_, rfl⟩
              have hzx := hzn
              clear hzn
              refine wpAnyL_one 11 (by kernel_rfl) ?_
              refine ComesUp.mk rfl (fun K hK => ?_)
              rw [if_pos (by rfl)]
              have h6 := HX1.out b6 rfl
              refine wp_store_row 38 _ _ rfl b6 _ rfl rfl _ _ h6.2 replySize rfl (reply_one _ _ _) ?_
              have h610 : b6 ≠ B10 := by omega
              obtain ⟨wn, hwn⟩ : ∃ wn, wn = wx.setRow b6 (replyCells ⟨2, 0, []⟩ ha' hc') := ⟨_, rfl⟩
              rw [← hwn]
              have hbn : Below w.heap.size wx wn := by rw [hwn]; exact Below.setRow _ b6 _ (by omega)
              have HF1 : Hid (Below w.heap.size w wn) := HBx.out.trans hbn
              have HF2 : Hid (Env wn) := HEx.out.below HE.out.globs hbn
              have HF3 : Hid (wn.heap[B10]? = some (.cells (storeV S1 va vc fa fc) 28 (0, 0))) := by rw [hwn]; exact (setRow_other _ _ _ _ h610.symm).trans R10.out
              have HF4 : Hid (StOwn bs wn S1 va vc fa fc) := by rw [hwn]; exact HSO.out.setT h6.2 (by decide) (by decide) (by decide)
              have HF5 : Hid (wn.heap[b6]? = some (.cells #[.int .i64 2, .int .i64 0, .slice ha' 0 hc'] 38 (0, 0))) := by rw [hwn]; exact setRow_heap _ _ _ _ _ _ h6.2
              have h6w : w.heap.size ≤ b6 := by omega
              refine hK.out _ _ trivial ?_
              clear hK K hHeld hbn hzx hwn
              intro hHeld
              walk_nrm
              refine wpAnyL_last rfl (by kernel_rfl) (fun K hK => ?_)
              go_simp
              refine hK.out _ _ ?_
              clear hK K
              walk_nrm
              refine wpAnyL_done (by kernel_rfl) ?_ _
              go_wp2_with fail
              go_meet
              exact ⟨b6, va, vc, fa, fc, ha', hc', bs, rfl, rfl, hbs1, h610, h6w, HF1, HF2, HF3, HF4, HF5⟩
    · refine ComesUp.mk rfl (fun K hK => ?_)
      go_simp
      refine (itoa_is n (by omega) (by omega) wx HEx.out.pow).mono ?_
      rintro e wn ⟨rfl, hbn⟩
      replace HX1 := Lib.hid (HX1.out.below hbn)
      replace R10 := Lib.hid ((hbn.block B10 (by omega)).trans R10.out)
      replace HEx := Lib.hid (HEx.out.on hbn)
      replace HBx := Lib.hid (HBx.out.trans (hbn.mono HBx.out.size))
      have hzn : B10 + 1 ≤ wn.heap.size := by have := hbn.size; omega
      refine hK.out _ _ trivial ?_
      clear hK K hHeld hbn hzx
      intro hHeld
      walk_nrm
      refine wpAnyL_take (i := 3) (v := ?_) rfl (by kernel_rfl) (fun _ _ _ h => h) (Or.inl ⟨by rfl, ?_⟩) (by assumption) ?_
      rotate_left
      · intro wS hSw; go_simp <;> with_reducible rfl
      walk_nrm
      clear wx
      obtain ⟨wx, rfl⟩ : ∃ wx : World, wx = wn := ⟨_, rfl⟩
      have hzx := hzn
      clear hzn
      refine wpAnyL_two 0 9 (by kernel_rfl) ?_ ?_
      · refine ComesUp.mk rfl (fun K hK => ?_)
        rw [if_pos (by rfl)]
        refine wp_load_row 28 _ rfl B10 rfl _ _ _ _ R10.out Tryd.underlying28 rfl (by kernel_rfl) ?_
        refine hK.out _ _ trivial ?_
        clear hK K hHeld
        intro hHeld
        walk_nrm
        refine wpAnyL_two 4 9 (by kernel_rfl) ?_ ?_
        · refine ComesUp.mk rfl (fun K hK => ?_)
          go_simp
          refine (do_at (s := emptyS) (r := reqPut 2 nK (decS n) 3) (va := none) (vc := 0) (fa := none) (fc := 0) (ka := none) (kc := 0) HEx (Lib.hid (StOwn.bare (base := 0) rfl rfl).at) (RowsAt.nil _ _ _ _) (Nat.zero_le _) (by show 1 ≤ 1000; omega) rfl rfl).mono ?_
          rw [HD1.out]
          rintro e wn ⟨va, vc, fa, fc, ha', hc', rfl, hso, hh, hbn⟩
          have HSO := Lib.hid hso
          obtain ⟨bs, hbs⟩ : ∃ bs, bs = wx.heap.size := ⟨_, rfl⟩
          rw [← hbs] at HSO
          have hbs1 : B10 < bs := by omega
          replace HX1 := Lib.hid (HX1.out.below hbn)
          replace R10 := Lib.hid ((hbn.block B10 (by omega)).trans R10.out)
          replace HEx := Lib.hid (HEx.out.on hbn)
          replace HBx := Lib.hid (HBx.out.trans (hbn.mono HBx.out.size))
          have hzn : B10 + 1 ≤ wn.heap.size := by have := hbn.size; omega
          refine hK.out _ _ trivial ?_
          clear hK K hHeld hbn hzx hso hh hbs
          intro hHeld
          walk_nrm
          refine wpAnyL_take (i := 5) (v := ?_) rfl (by kernel_rfl) (fun _ _ _ h => h) (Or.inl ⟨by rfl, ?_⟩) (by assumption) ?_
          rotate_left
          · intro wS hSw; go_simp <;> with_reducible rfl
          walk_nrm
          refine wpAnyL_take (i := 6) (v := ?_) rfl (by kernel_rfl) (fun _ _ _ h => h) (Or.inl ⟨by rfl, ?_⟩) (by assumption) ?_
          rotate_left
          · intro wS hSw; go_simp <;> with_reducible rfl
          walk_nrm
          refine wpAnyL_take (i := 7) (v := ?_) rfl (by kernel_rfl) (fun _ _ _ h => h) (Or.inl ⟨by rfl, ?_⟩) (by assumption) ?_
          rotate_left
          · intro wS hSw; go_simp <;> with_reducible rfl
          walk_nrm
          refine wpAnyL_take (i := 8) (v := ?_) rfl (by kernel_rfl) (fun _ _ _ h => h) (Or.inl ⟨by rfl, ?_⟩) (by assumption) ?_
          rotate_left
          · intro wS hSw; go_simp <;> with_reducible rfl
          walk_nrm
          clear wx
          obtain ⟨wx, rfl⟩ : ∃ wx : World, wx = wn := ⟨_, rfl⟩
          have hzx := hzn
          clear hzn
          refine wpAnyL_one 9 (by kernel_rfl) ?_
          · refine ComesUp.mk rfl (fun K hK => ?_)
            go_simp
            obtain ⟨wn, hwn⟩ : ∃ wn, wn = wx.alloc (.cells #[.int .i64 0, .int .i64 0, .slice none 0 0] 38) := ⟨_, rfl⟩
            obtain ⟨b6, hb6⟩ : ∃ b, b = wx.heap.size := ⟨_, rfl⟩
            rw [← hwn, ← hb6]
            have hbn := below_new hwn
            replace HX1 : Hid (Bx (B10 + 1) (some b6) (.cells #[.int .i64 0, .int .i64 0, .slice none 0 0] 38 (0, 0)) wn) := by rw [hb6]; exact Bx.new hwn hzx
            replace R10 := Lib.hid ((hbn.block B10 (by omega)).trans R10.out)
            replace HEx := Lib.hid (HEx.out.on hbn)
            replace HBx := Lib.hid (HBx.out.trans (hbn.mono HBx.out.size))
            try replace HSO := Lib.hid (HSO.out.below hbn)
            have hzn : B10 + 1 ≤ wn.heap.size := by have := hbn.size; omega
            refine hK.out _ _ trivial ?_
            clear hK K hHeld hbn hzx hwn hb6
            intro hHeld
            walk_nrm
            clear wx
            obtain ⟨wx, rfl⟩ : ∃ wx : World, wx = wn := ⟨_, rfl⟩
            have hzx := hzn
            clear hzn
            refine wpAnyL_one 10 (by kernel_rfl) ?_
            · refine ComesUp.mk rfl (fun K hK => ?_)
              rw [if_pos (by rfl)]
              refine wp_store_row 28 _ _ rfl B10 _ rfl rfl _ _ R10.out storeSize rfl (store_one _ _ _ _ _) ?_
              obtain ⟨wn, hwn⟩ : ∃ wn, wn = wx.setRow B10 (storeV S1 va vc fa fc) := ⟨_, rfl⟩
              rw [← hwn]
              replace HX1 : Hid (Bx (B10 + 1) _ _ wn) := fun b hb => ⟨(HX1.out b hb).1, by rw [hwn]; exact (setRow_other _ _ _ _ (by have := (HX1.out b hb).1; omega)).trans (HX1.out b hb).2⟩
              replace R10 : Hid (wn.heap[B10]? = some (.cells (storeV S1 va vc fa fc) 28 (0, 0))) := by rw [hwn]; exact setRow_heap _ _ _ _ _ _ R10.out
              have hbn : Below w.heap.size wx wn := by rw [hwn]; exact Below.setRow _ B10 _ hB10w
              replace HEx := Lib.hid (HEx.out.below HE.out.globs hbn)
              replace HBx := Lib.hid (HBx.out.trans hbn)
              replace HSO : Hid (StOwn bs wn S1 va vc fa fc) := by rw [hwn]; exact HSO.out.set hbs1
              have hzn : B10 + 1 ≤ wn.heap.size := by have := hbn.size; omega
              refine hK.out _ _ trivial ?_
              clear hK K hHeld hbn hzx hwn
              intro hHeld
              walk_nrm
              clear wx
              obtain ⟨wx, rfl⟩ : ∃ wx : World, wx = wn := ⟨_, rfl⟩
              have hzx := hzn
              clear hzn
              refine wpAnyL_one 11 (by kernel_rfl) ?_
              refine ComesUp.mk rfl (fun K hK => ?_)
              rw [if_pos (by rfl)]
              have h6 := HX1.out b6 rfl
              refine wp_store_row 38 _ _ rfl b6 _ rfl rfl _ _ h6.2 replySize rfl (reply_one _ _ _) ?_
              have h610 : b6 ≠ B10 := by omega
              obtain ⟨wn, hwn⟩ : ∃ wn, wn = wx.setRow b6 (replyCells ⟨2, 0, []⟩ ha' hc') := ⟨_, rfl⟩
              rw [← hwn]
              have hbn : Below w.heap.size wx wn := by rw [hwn]; exact Below.setRow _ b6 _ (by omega)
              have HF1 : Hid (Below w.heap.size w wn) := HBx.out.trans hbn
              have HF2 : Hid (Env wn) := HEx.out.below HE.out.globs hbn
              have HF3 : Hid (wn.heap[B10]? = some (.cells (storeV S1 va vc fa fc) 28 (0, 0))) := by rw [hwn]; exact (setRow_other _ _ _ _ h610.symm).trans R10.out
              have HF4 : Hid (StOwn bs wn S1 va vc fa fc) := by rw [hwn]; exact HSO.out.setT h6.2 (by decide) (by decide) (by decide)
              have HF5 : Hid (wn.heap[b6]? = some (.cells #[.int .i64 2, .int .i64 0, .slice ha' 0 hc'] 38 (0, 0))) := by rw [hwn]; exact setRow_heap _ _ _ _ _ _ h6.2
              have h6w : w.heap.size ≤ b6 := by omega
              refine hK.out _ _ trivial ?_
              clear hK K hHeld hbn hzx hwn
              intro hHeld
              walk_nrm
              refine wpAnyL_last rfl (by kernel_rfl) (fun K hK => ?_)
              go_simp
              refine hK.out _ _ ?_
              clear hK K
              walk_nrm
              refine wpAnyL_done (by kernel_rfl) ?_ _
              go_wp2_with fail
              go_meet
              exact ⟨b6, va, vc, fa, fc, ha', hc', bs, rfl, rfl, hbs1, h610, h6w, HF1, HF2, HF3, HF4, HF5⟩
        · refine ComesUp.mk rfl (fun K hK => ?_)
          go_simp
          obtain ⟨wn, hwn⟩ : ∃ wn, wn = wx.alloc (.cells #[.int .i64 0, .int .i64 0, .slice none 0 0] 38) := ⟨_, rfl⟩
          obtain ⟨b6, hb6⟩ : ∃ b, b = wx.heap.size := ⟨_, rfl⟩
          rw [← hwn, ← hb6]
          have hbn := below_new hwn
          replace HX1 : Hid (Bx (B10 + 1) (some b6) (.cells #[.int .i64 0, .int .i64 0, .slice none 0 0] 38 (0, 0)) wn) := by rw [hb6]; exact Bx.new hwn hzx
          replace R10 := Lib.hid ((hbn.block B10 (by omega)).trans R10.out)
          replace HEx := Lib.hid (HEx.out.on hbn)
          replace HBx := Lib.hid (HBx.out.trans (hbn.mono HBx.out.size))
          try replace HSO := Lib.hid (HSO.out.below hbn)
          have hzn : B10 + 1 ≤ wn.heap.size := by have := hbn.size; omega
          refine hK.out _ _ trivial ?_
          clear hK K hHeld hbn hzx hwn hb6
          intro hHeld
          walk_nrm
          clear wx
          obtain ⟨wx, rfl⟩ : ∃ wx : World, wx = wn := ⟨_, rfl⟩
          have hzx := hzn
          clear hzn
          refine wpAnyL_one 4 (by kernel_rfl) ?_
          · refine ComesUp.mk rfl (fun K hK => ?_)
            go_simp
            refine (do_at (s := emptyS) (r := reqPut 2 nK (decS n) 3) (va := none) (vc := 0) (fa := none) (fc := 0) (ka := none) (kc := 0) HEx (Lib.hid (StOwn.bare (base := 0) rfl rfl).at) (RowsAt.nil _ _ _ _) (Nat.zero_le _) (by show 1 ≤ 1000; omega) rfl rfl).mono ?_
            rw [HD1.out]
            rintro e wn ⟨va, vc, fa, fc, ha', hc', rfl, hso, hh, hbn⟩
            have HSO := Lib.hid hso
            obtain ⟨bs, hbs⟩ : ∃ bs, bs = wx.heap.size := ⟨_, rfl⟩
            rw [← hbs] at HSO
            have hbs1 : B10 < bs := by omega
            replace HX1 := Lib.hid (HX1.out.below hbn)
            replace R10 := Lib.hid ((hbn.block B10 (by omega)).trans R10.out)
            replace HEx := Lib.hid (HEx.out.on hbn)
            replace HBx := Lib.hid (HBx.out.trans (hbn.mono HBx.out.size))
            have hzn : B10 + 1 ≤ wn.heap.size := by have := hbn.size; omega
            refine hK.out _ _ trivial ?_
            clear hK K hHeld hbn hzx hso hh hbs
            intro hHeld
            walk_nrm
            refine wpAnyL_take (i := 5) (v := ?_) rfl (by kernel_rfl) (fun _ _ _ h => h) (Or.inl ⟨by rfl, ?_⟩) (by assumption) ?_
            rotate_left
            · intro wS hSw; go_simp <;> with_reducible rfl
            walk_nrm
            refine wpAnyL_take (i := 6) (v := ?_) rfl (by kernel_rfl) (fun _ _ _ h => h) (Or.inl ⟨by rfl, ?_⟩) (by assumption) ?_
            rotate_left
            · intro wS hSw; go_simp <;> with_reducible rfl
            walk_nrm
            refine wpAnyL_take (i := 7) (v := ?_) rfl (by kernel_rfl) (fun _ _ _ h => h) (Or.inl ⟨by rfl, ?_⟩) (by assumption) ?_
            rotate_left
            · intro wS hSw; go_simp <;> with_reducible rfl
            walk_nrm
            refine wpAnyL_take (i := 8) (v := ?_) rfl (by kernel_rfl) (fun _ _ _ h => h) (Or.inl ⟨by rfl, ?_⟩) (by assumption) ?_
            rotate_left
            · intro wS hSw; go_simp <;> with_reducible rfl
            walk_nrm
            clear wx
            obtain ⟨wx, rfl⟩ : ∃ wx : World, wx = wn := ⟨_, rfl⟩
            have hzx := hzn
            clear hzn
            refine wpAnyL_one 10 (by kernel_rfl) ?_
            · refine ComesUp.mk rfl (fun K hK => ?_)
              rw [if_pos (by rfl)]
              refine wp_store_row 28 _ _ rfl B10 _ rfl rfl _ _ R10.out storeSize rfl (store_one _ _ _ _ _) ?_
              obtain ⟨wn, hwn⟩ : ∃ wn, wn = wx.setRow B10 (storeV S1 va vc fa fc) := ⟨_, rfl⟩
              rw [← hwn]
              replace HX1 : Hid (Bx (B10 + 1) _ _ wn) := fun b hb => ⟨(HX1.out b hb).1, by rw [hwn]; exact (setRow_other _ _ _ _ (by have := (HX1.out b hb).1; omega)).trans (HX1.out b hb).2⟩
              replace R10 : Hid (wn.heap[B10]? = some (.cells (storeV S1 va vc fa fc) 28 (0, 0))) := by rw [hwn]; exact setRow_heap _ _ _ _ _ _ R10.out
              have hbn : Below w.heap.size wx wn := by rw [hwn]; exact Below.setRow _ B10 _ hB10w
              replace HEx := Lib.hid (HEx.out.below HE.out.globs hbn)
              replace HBx := Lib.hid (HBx.out.trans hbn)
              replace HSO : Hid (StOwn bs wn S1 va vc fa fc) := by rw [hwn]; exact HSO.out.set hbs1
              have hzn : B10 + 1 ≤ wn.heap.size := by have := hbn.size; omega
              refine hK.out _ _ trivial ?_
              clear hK K hHeld hbn hzx hwn
              intro hHeld
              walk_nrm
              clear wx
              obtain ⟨wx, rfl⟩ : ∃ wx : World, wx = wn := ⟨_, rfl⟩
              have hzx := hzn
              clear hzn
              refine wpAnyL_one 11 (by kernel_rfl) ?_
              refine ComesUp.mk rfl (fun K hK => ?_)
              rw [if_pos (by rfl)]
              have h6 := HX1.out b6 rfl
              refine wp_store_row 38 _ _ rfl b6 _ rfl rfl _ _ h6.2 replySize rfl (reply_one _ _ _) ?_
              have h610 : b6 ≠ B10 := by omega
              obtain ⟨wn, hwn⟩ : ∃ wn, wn = wx.setRow b6 (replyCells ⟨2, 0, []⟩ ha' hc') := ⟨_, rfl⟩
              rw [← hwn]
              have hbn : Below w.heap.size wx wn := by rw [hwn]; exact Below.setRow _ b6 _ (by omega)
              have HF1 : Hid (Below w.heap.size w wn) := HBx.out.trans hbn
              have HF2 : Hid (Env wn) := HEx.out.below HE.out.globs hbn
              have HF3 : Hid (wn.heap[B10]? = some (.cells (storeV S1 va vc fa fc) 28 (0, 0))) := by rw [hwn]; exact (setRow_other _ _ _ _ h610.symm).trans R10.out
              have HF4 : Hid (StOwn bs wn S1 va vc fa fc) := by rw [hwn]; exact HSO.out.setT h6.2 (by decide) (by decide) (by decide)
              have HF5 : Hid (wn.heap[b6]? = some (.cells #[.int .i64 2, .int .i64 0, .slice ha' 0 hc'] 38 (0, 0))) := by rw [hwn]; exact setRow_heap _ _ _ _ _ _ h6.2
              have h6w : w.heap.size ≤ b6 := by omega
              refine hK.out _ _ trivial ?_
              clear hK K hHeld hbn hzx hwn
              intro hHeld
              walk_nrm
              refine wpAnyL_last rfl (by kernel_rfl) (fun K hK => ?_)
              go_simp
              refine hK.out _ _ ?_
              clear hK K
              walk_nrm
              refine wpAnyL_done (by kernel_rfl) ?_ _
              go_wp2_with fail
              go_meet
              exact ⟨b6, va, vc, fa, fc, ha', hc', bs, rfl, rfl, hbs1, h610, h6w, HF1, HF2, HF3, HF4, HF5⟩
      · refine ComesUp.mk rfl (fun K hK => ?_)
        go_simp
        obtain ⟨wn, hwn⟩ : ∃ wn, wn = wx.alloc (.cells #[.int .i64 0, .int .i64 0, .slice none 0 0] 38) := ⟨_, rfl⟩
        obtain ⟨b6, hb6⟩ : ∃ b, b = wx.heap.size := ⟨_, rfl⟩
        rw [← hwn, ← hb6]
        have hbn := below_new hwn
        replace HX1 : Hid (Bx (B10 + 1) (some b6) (.cells #[.int .i64 0, .int .i64 0, .slice none 0 0] 38 (0, 0)) wn) := by rw [hb6]; exact Bx.new hwn hzx
        replace R10 := Lib.hid ((hbn.block B10 (by omega)).trans R10.out)
        replace HEx := Lib.hid (HEx.out.on hbn)
        replace HBx := Lib.hid (HBx.out.trans (hbn.mono HBx.out.size))
        try replace HSO := Lib.hid (HSO.out.below hbn)
        have hzn : B10 + 1 ≤ wn.heap.size := by have := hbn.size; omega
        refine hK.out _ _ trivial ?_
        clear hK K hHeld hbn hzx hwn hb6
        intro hHeld
        walk_nrm
        clear wx
        obtain ⟨wx, rfl⟩ : ∃ wx : World, wx = wn := ⟨_, rfl⟩
        have hzx := hzn
        clear hzn
        refine wpAnyL_one 0 (by kernel_rfl) ?_
        · refine ComesUp.mk rfl (fun K hK => ?_)
          rw [if_pos (by rfl)]
          refine wp_load_row 28 _ rfl B10 rfl _ _ _ _ R10.out Tryd.underlying28 rfl (by kernel_rfl) ?_
          refine hK.out _ _ trivial ?_
          clear hK K hHeld
          intro hHeld
          walk_nrm
          refine wpAnyL_one 4 (by kernel_rfl) ?_
          · refine ComesUp.mk rfl (fun K hK => ?_)
            go_simp
            refine (do_at (s := emptyS) (r := reqPut 2 nK (decS n) 3) (va := none) (vc := 0) (fa := none) (fc := 0) (ka := none) (kc := 0) HEx (Lib.hid (StOwn.bare (base := 0) rfl rfl).at) (RowsAt.nil _ _ _ _) (Nat.zero_le _) (by show 1 ≤ 1000; omega) rfl rfl).mono ?_
            rw [HD1.out]
            rintro e wn ⟨va, vc, fa, fc, ha', hc', rfl, hso, hh, hbn⟩
            have HSO := Lib.hid hso
            obtain ⟨bs, hbs⟩ : ∃ bs, bs = wx.heap.size := ⟨_, rfl⟩
            rw [← hbs] at HSO
            have hbs1 : B10 < bs := by omega
            replace HX1 := Lib.hid (HX1.out.below hbn)
            replace R10 := Lib.hid ((hbn.block B10 (by omega)).trans R10.out)
            replace HEx := Lib.hid (HEx.out.on hbn)
            replace HBx := Lib.hid (HBx.out.trans (hbn.mono HBx.out.size))
            have hzn : B10 + 1 ≤ wn.heap.size := by have := hbn.size; omega
            refine hK.out _ _ trivial ?_
            clear hK K hHeld hbn hzx hso hh hbs
            intro hHeld
            walk_nrm
            refine wpAnyL_take (i := 5) (v := ?_) rfl (by kernel_rfl) (fun _ _ _ h => h) (Or.inl ⟨by rfl, ?_⟩) (by assumption) ?_
            rotate_left
            · intro wS hSw; go_simp <;> with_reducible rfl
            walk_nrm
            refine wpAnyL_take (i := 6) (v := ?_) rfl (by kernel_rfl) (fun _ _ _ h => h) (Or.inl ⟨by rfl, ?_⟩) (by assumption) ?_
            rotate_left
            · intro wS hSw; go_simp <;> with_reducible rfl
            walk_nrm
            refine wpAnyL_take (i := 7) (v := ?_) rfl (by kernel_rfl) (fun _ _ _ h => h) (Or.inl ⟨by rfl, ?_⟩) (by assumption) ?_
            rotate_left
            · intro wS hSw; go_simp <;> with_reducible rfl
            walk_nrm
            refine wpAnyL_take (i := 8) (v := ?_) rfl (by kernel_rfl) (fun _ _ _ h => h) (Or.inl ⟨by rfl, ?_⟩) (by assumption) ?_
            rotate_left
            · intro wS hSw; go_simp <;> with_reducible rfl
            walk_nrm
            clear wx
            obtain ⟨wx, rfl⟩ : ∃ wx : World, wx = wn := ⟨_, rfl⟩
            have hzx := hzn
            clear hzn
            refine wpAnyL_one 10 (by kernel_rfl) ?_
            · refine ComesUp.mk rfl (fun K hK => ?_)
              rw [if_pos (by rfl)]
              refine wp_store_row 28 _ _ rfl B10 _ rfl rfl _ _ R10.out storeSize rfl (store_one _ _ _ _ _) ?_
              obtain ⟨wn, hwn⟩ : ∃ wn, wn = wx.setRow B10 (storeV S1 va vc fa fc) := ⟨_, rfl⟩
              rw [← hwn]
              replace HX1 : Hid (Bx (B10 + 1) _ _ wn) := fun b hb => ⟨(HX1.out b hb).1, by rw [hwn]; exact (setRow_other _ _ _ _ (by have := (HX1.out b hb).1; omega)).trans (HX1.out b hb).2⟩
              replace R10 : Hid (wn.heap[B10]? = some (.cells (storeV S1 va vc fa fc) 28 (0, 0))) := by rw [hwn]; exact setRow_heap _ _ _ _ _ _ R10.out
              have hbn : Below w.heap.size wx wn := by rw [hwn]; exact Below.setRow _ B10 _ hB10w
              replace HEx := Lib.hid (HEx.out.below HE.out.globs hbn)
              replace HBx := Lib.hid (HBx.out.trans hbn)
              replace HSO : Hid (StOwn bs wn S1 va vc fa fc) := by rw [hwn]; exact HSO.out.set hbs1
              have hzn : B10 + 1 ≤ wn.heap.size := by have := hbn.size; omega
              refine hK.out _ _ trivial ?_
              clear hK K hHeld hbn hzx hwn
              intro hHeld
              walk_nrm
              clear wx
              obtain ⟨wx, rfl⟩ : ∃ wx : World, wx = wn := ⟨_, rfl⟩
              have hzx := hzn
              clear hzn
              refine wpAnyL_one 11 (by kernel_rfl) ?_
              refine ComesUp.mk rfl (fun K hK => ?_)
              rw [if_pos (by rfl)]
              have h6 := HX1.out b6 rfl
              refine wp_store_row 38 _ _ rfl b6 _ rfl rfl _ _ h6.2 replySize rfl (reply_one _ _ _) ?_
              have h610 : b6 ≠ B10 := by omega
              obtain ⟨wn, hwn⟩ : ∃ wn, wn = wx.setRow b6 (replyCells ⟨2, 0, []⟩ ha' hc') := ⟨_, rfl⟩
              rw [← hwn]
              have hbn : Below w.heap.size wx wn := by rw [hwn]; exact Below.setRow _ b6 _ (by omega)
              have HF1 : Hid (Below w.heap.size w wn) := HBx.out.trans hbn
              have HF2 : Hid (Env wn) := HEx.out.below HE.out.globs hbn
              have HF3 : Hid (wn.heap[B10]? = some (.cells (storeV S1 va vc fa fc) 28 (0, 0))) := by rw [hwn]; exact (setRow_other _ _ _ _ h610.symm).trans R10.out
              have HF4 : Hid (StOwn bs wn S1 va vc fa fc) := by rw [hwn]; exact HSO.out.setT h6.2 (by decide) (by decide) (by decide)
              have HF5 : Hid (wn.heap[b6]? = some (.cells #[.int .i64 2, .int .i64 0, .slice ha' 0 hc'] 38 (0, 0))) := by rw [hwn]; exact setRow_heap _ _ _ _ _ _ h6.2
              have h6w : w.heap.size ≤ b6 := by omega
              refine hK.out _ _ trivial ?_
              clear hK K hHeld hbn hzx hwn
              intro hHeld
              walk_nrm
              refine wpAnyL_last rfl (by kernel_rfl) (fun K hK => ?_)
              go_simp
              refine hK.out _ _ ?_
              clear hK K
              walk_nrm
              refine wpAnyL_done (by kernel_rfl) ?_ _
              go_wp2_with fail
              go_meet
              exact ⟨b6, va, vc, fa, fc, ha', hc', bs, rfl, rfl, hbs1, h610, h6w, HF1, HF2, HF3, HF4, HF5⟩
    · refine ComesUp.mk rfl (fun K hK => ?_)
      go_simp
      obtain ⟨wn, hwn⟩ : ∃ wn, wn = wx.alloc (.cells #[.int .i64 0, .int .i64 0, .slice none 0 0] 38) := ⟨_, rfl⟩
      obtain ⟨b6, hb6⟩ : ∃ b, b = wx.heap.size := ⟨_, rfl⟩
      rw [← hwn, ← hb6]
      have hbn := below_new hwn
      replace HX1 : Hid (Bx (B10 + 1) (some b6) (.cells #[.int .i64 0, .int .i64 0, .slice none 0 0] 38 (0, 0)) wn) := by rw [hb6]; exact Bx.new hwn hzx
      replace R10 := Lib.hid ((hbn.block B10 (by omega)).trans R10.out)
      replace HEx := Lib.hid (HEx.out.on hbn)
      replace HBx := Lib.hid (HBx.out.trans (hbn.mono HBx.out.size))
      try replace HSO := Lib.hid (HSO.out.below hbn)
      have hzn : B10 + 1 ≤ wn.heap.size := by have := hbn.size; omega
      refine hK.out _ _ trivial ?_
      clear hK K hHeld hbn hzx hwn hb6
      intro hHeld
      walk_nrm
      clear wx
      obtain ⟨wx, rfl⟩ : ∃ wx : World, wx = wn := ⟨_, rfl⟩
      have hzx := hzn
      clear hzn
      refine wpAnyL_two 0 2 (by kernel_rfl) ?_ ?_
      · refine ComesUp.mk rfl (fun K hK => ?_)
        rw [if_pos (by rfl)]
        refine wp_load_row 28 _ rfl B10 rfl _ _ _ _ R10.out Tryd.underlying28 rfl (by kernel_rfl) ?_
        refine hK.out _ _ trivial ?_
        clear hK K hHeld
        intro hHeld
        walk_nrm
        refine wpAnyL_one 2 (by kernel_rfl) ?_
        · refine ComesUp.mk rfl (fun K hK => ?_)
          go_simp
          refine (itoa_is n (by omega) (by omega) wx HEx.out.pow).mono ?_
          rintro e wn ⟨rfl, hbn⟩
          replace HX1 := Lib.hid (HX1.out.below hbn)
          replace R10 := Lib.hid ((hbn.block B10 (by omega)).trans R10.out)
          replace HEx := Lib.hid (HEx.out.on hbn)
          replace HBx := Lib.hid (HBx.out.trans (hbn.mono HBx.out.size))
          have hzn : B10 + 1 ≤ wn.heap.size := by have := hbn.size; omega
          refine hK.out _ _ trivial ?_
          clear hK K hHeld hbn hzx
          intro hHeld
          walk_nrm
          refine wpAnyL_take (i := 3) (v := ?_) rfl (by kernel_rfl) (fun _ _ _ h => h) (Or.inl ⟨by rfl, ?_⟩) (by assumption) ?_
          rotate_left
          · intro wS hSw; go_simp <;> with_reducible rfl
          walk_nrm
          clear wx
          obtain ⟨wx, rfl⟩ : ∃ wx : World, wx = wn := ⟨_, rfl⟩
          have hzx := hzn
          clear hzn
          refine wpAnyL_one 4 (by kernel_rfl) ?_
          · refine ComesUp.mk rfl (fun K hK => ?_)
            go_simp
            refine (do_at (s := emptyS) (r := reqPut 2 nK (decS n) 3) (va := none) (vc := 0) (fa := none) (fc := 0) (ka := none) (kc := 0) HEx (Lib.hid (StOwn.bare (base := 0) rfl rfl).at) (RowsAt.nil _ _ _ _) (Nat.zero_le _) (by show 1 ≤ 1000; omega) rfl rfl).mono ?_
            rw [HD1.out]
            rintro e wn ⟨va, vc, fa, fc, ha', hc', rfl, hso, hh, hbn⟩
            have HSO := Lib.hid hso
            obtain ⟨bs, hbs⟩ : ∃ bs, bs = wx.heap.size := ⟨_, rfl⟩
            rw [← hbs] at HSO
            have hbs1 : B10 < bs := by omega
            replace HX1 := Lib.hid (HX1.out.below hbn)
            replace R10 := Lib.hid ((hbn.block B10 (by omega)).trans R10.out)
            replace HEx := Lib.hid (HEx.out.on hbn)
            replace HBx := Lib.hid (HBx.out.trans (hbn.mono HBx.out.size))
            have hzn : B10 + 1 ≤ wn.heap.size := by have := hbn.size; omega
            refine hK.out _ _ trivial ?_
            clear hK K hHeld hbn hzx hso hh hbs
            intro hHeld
            walk_nrm
            refine wpAnyL_take (i := 5) (v := ?_) rfl (by kernel_rfl) (fun _ _ _ h => h) (Or.inl ⟨by rfl, ?_⟩) (by assumption) ?_
            rotate_left
            · intro wS hSw; go_simp <;> with_reducible rfl
            walk_nrm
            refine wpAnyL_take (i := 6) (v := ?_) rfl (by kernel_rfl) (fun _ _ _ h => h) (Or.inl ⟨by rfl, ?_⟩) (by assumption) ?_
            rotate_left
            · intro wS hSw; go_simp <;> with_reducible rfl
            walk_nrm
            refine wpAnyL_take (i := 7) (v := ?_) rfl (by kernel_rfl) (fun _ _ _ h => h) (Or.inl ⟨by rfl, ?_⟩) (by assumption) ?_
            rotate_left
            · intro wS hSw; go_simp <;> with_reducible rfl
            walk_nrm
            refine wpAnyL_take (i := 8) (v := ?_) rfl (by kernel_rfl) (fun _ _ _ h => h) (Or.inl ⟨by rfl, ?_⟩) (by assumption) ?_
            rotate_left
            · intro wS hSw; go_simp <;> with_reducible rfl
            walk_nrm
            clear wx
            obtain ⟨wx, rfl⟩ : ∃ wx : World, wx = wn := ⟨_, rfl⟩
            have hzx := hzn
            clear hzn
            refine wpAnyL_one 10 (by kernel_rfl) ?_
            · refine ComesUp.mk rfl (fun K hK => ?_)
              rw [if_pos (by rfl)]
              refine wp_store_row 28 _ _ rfl B10 _ rfl rfl _ _ R10.out storeSize rfl (store_one _ _ _ _ _) ?_
              obtain ⟨wn, hwn⟩ : ∃ wn, wn = wx.setRow B10 (storeV S1 va vc fa fc) := ⟨_, rfl⟩
              rw [← hwn]
              replace HX1 : Hid (Bx (B10 + 1) _ _ wn) := fun b hb => ⟨(HX1.out b hb).1, by rw [hwn]; exact (setRow_other _ _ _ _ (by have := (HX1.out b hb).1; omega)).trans (HX1.out b hb).2⟩
              replace R10 : Hid (wn.heap[B10]? = some (.cells (storeV S1 va vc fa fc) 28 (0, 0))) := by rw [hwn]; exact setRow_heap _ _ _ _ _ _ R10.out
              have hbn : Below w.heap.size wx wn := by rw [hwn]; exact Below.setRow _ B10 _ hB10w
              replace HEx := Lib.hid (HEx.out.below HE.out.globs hbn)
              replace HBx := Lib.hid (HBx.out.trans hbn)
              replace HSO : Hid (StOwn bs wn S1 va vc fa fc) := by rw [hwn]; exact HSO.out.set hbs1
              have hzn : B10 + 1 ≤ wn.heap.size := by have := hbn.size; omega
              refine hK.out _ _ trivial ?_
              clear hK K hHeld hbn hzx hwn
              intro hHeld
              walk_nrm
              clear wx
              obtain ⟨wx, rfl⟩ : ∃ wx : World, wx = wn := ⟨_, rfl⟩
              have hzx := hzn
              clear hzn
              refine wpAnyL_one 11 (by kernel_rfl) ?_
              refine ComesUp.mk rfl (fun K hK => ?_)
              rw [if_pos (by rfl)]
              have h6 := HX1.out b6 rfl
              refine wp_store_row 38 _ _ rfl b6 _ rfl rfl _ _ h6.2 replySize rfl (reply_one _ _ _) ?_
              have h610 : b6 ≠ B10 := by omega
              obtain ⟨wn, hwn⟩ : ∃ wn, wn = wx.setRow b6 (replyCells ⟨2, 0, []⟩ ha' hc') := ⟨_, rfl⟩
              rw [← hwn]
              have hbn : Below w.heap.size wx wn := by rw [hwn]; exact Below.setRow _ b6 _ (by omega)
              have HF1 : Hid (Below w.heap.size w wn) := HBx.out.trans hbn
              have HF2 : Hid (Env wn) := HEx.out.below HE.out.globs hbn
              have HF3 : Hid (wn.heap[B10]? = some (.cells (storeV S1 va vc fa fc) 28 (0, 0))) := by rw [hwn]; exact (setRow_other _ _ _ _ h610.symm).trans R10.out
              have HF4 : Hid (StOwn bs wn S1 va vc fa fc) := by rw [hwn]; exact HSO.out.setT h6.2 (by decide) (by decide) (by decide)
              have HF5 : Hid (wn.heap[b6]? = some (.cells #[.int .i64 2, .int .i64 0, .slice ha' 0 hc'] 38 (0, 0))) := by rw [hwn]; exact setRow_heap _ _ _ _ _ _ h6.2
              have h6w : w.heap.size ≤ b6 := by omega
              refine hK.out _ _ trivial ?_
              clear hK K hHeld hbn hzx hwn
              intro hHeld
              walk_nrm
              refine wpAnyL_last rfl (by kernel_rfl) (fun K hK => ?_)
              go_simp
              refine hK.out _ _ ?_
              clear hK K
              walk_nrm
              refine wpAnyL_done (by kernel_rfl) ?_ _
              go_wp2_with fail
              go_meet
              exact ⟨b6, va, vc, fa, fc, ha', hc', bs, rfl, rfl, hbs1, h610, h6w, HF1, HF2, HF3, HF4, HF5⟩
      · refine ComesUp.mk rfl (fun K hK => ?_)
        go_simp
        refine (itoa_is n (by omega) (by omega) wx HEx.out.pow).mono ?_
        rintro e wn ⟨rfl, hbn⟩
        replace HX1 := Lib.hid (HX1.out.below hbn)
        replace R10 := Lib.hid ((hbn.block B10 (by omega)).trans R10.out)
        replace HEx := Lib.hid (HEx.out.on hbn)
        replace HBx := Lib.hid (HBx.out.trans (hbn.mono HBx.out.size))
        have hzn : B10 + 1 ≤ wn.heap.size := by have := hbn.size; omega
        refine hK.out _ _ trivial ?_
        clear hK K hHeld hbn hzx
        intro hHeld
        walk_nrm
        refine wpAnyL_take (i := 3) (v := ?_) rfl (by kernel_rfl) (fun _ _ _ h => h) (Or.inl ⟨by rfl, ?_⟩) (by assumption) ?_
        rotate_left
        · intro wS hSw; go_simp <;> with_reducible rfl
        walk_nrm
        clear wx
        obtain ⟨wx, rfl⟩ : ∃ wx : World, wx = wn := ⟨_, rfl⟩
        have hzx := hzn
        clear hzn
        refine wpAnyL_one 0 (by kernel_rfl) ?_
        · refine ComesUp.mk rfl (fun K hK => ?_)
          rw [if_pos (by rfl)]
          refine wp_load_row 28 _ rfl B10 rfl _ _ _ _ R10.out Tryd.underlying28 rfl (by kernel_rfl) ?_
          refine hK.out _ _ trivial ?_
          clear hK K hHeld
          intro hHeld
          walk_nrm
          refine wpAnyL_one 4 (by kernel_rfl) ?_
          · refine ComesUp.mk rfl (fun K hK => ?_)
            go_simp
            refine (do_at (s := emptyS) (r := reqPut 2 nK (decS n) 3) (va := none) (vc := 0) (fa := none) (fc := 0) (ka := none) (kc := 0) HEx (Lib.hid (StOwn.bare (base := 0) rfl rfl).at) (RowsAt.nil _ _ _ _) (Nat.zero_le _) (by show 1 ≤ 1000; omega) rfl rfl).mono ?_
            rw [HD1.out]
            rintro e wn ⟨va, vc, fa, fc, ha', hc', rfl, hso, hh, hbn⟩
            have HSO := Lib.hid hso
            obtain ⟨bs, hbs⟩ : ∃ bs, bs = wx.heap.size := ⟨_, rfl⟩
            rw [← hbs] at HSO
            have hbs1 : B10 < bs := by omega
            replace HX1 := Lib.hid (HX1.out.below hbn)
            replace R10 := Lib.hid ((hbn.block B10 (by omega)).trans R10.out)
            replace HEx := Lib.hid (HEx.out.on hbn)
            replace HBx := Lib.hid (HBx.out.trans (hbn.mono HBx.out.size))
            have hzn : B10 + 1 ≤ wn.heap.size := by have := hbn.size; omega
            refine hK.out _ _ trivial ?_
            clear hK K hHeld hbn hzx hso hh hbs
            intro hHeld
            walk_nrm
            refine wpAnyL_take (i := 5) (v := ?_) rfl (by kernel_rfl) (fun _ _ _ h => h) (Or.inl ⟨by rfl, ?_⟩) (by assumption) ?_
            rotate_left
            · intro wS hSw; go_simp <;> with_reducible rfl
            walk_nrm
            refine wpAnyL_take (i := 6) (v := ?_) rfl (by kernel_rfl) (fun _ _ _ h => h) (Or.inl ⟨by rfl, ?_⟩) (by assumption) ?_
            rotate_left
            · intro wS hSw; go_simp <;> with_reducible rfl
            walk_nrm
            refine wpAnyL_take (i := 7) (v := ?_) rfl (by kernel_rfl) (fun _ _ _ h => h) (Or.inl ⟨by rfl, ?_⟩) (by assumption) ?_
            rotate_left
            · intro wS hSw; go_simp <;> with_reducible rfl
            walk_nrm
            refine wpAnyL_take (i := 8) (v := ?_) rfl (by kernel_rfl) (fun _ _ _ h => h) (Or.inl ⟨by rfl, ?_⟩) (by assumption) ?_
            rotate_left
            · intro wS hSw; go_simp <;> with_reducible rfl
            walk_nrm
            clear wx
            obtain ⟨wx, rfl⟩ : ∃ wx : World, wx = wn := ⟨_, rfl⟩
            have hzx := hzn
            clear hzn
            refine wpAnyL_one 10 (by kernel_rfl) ?_
            · refine ComesUp.mk rfl (fun K hK => ?_)
              rw [if_pos (by rfl)]
              refine wp_store_row 28 _ _ rfl B10 _ rfl rfl _ _ R10.out storeSize rfl (store_one _ _ _ _ _) ?_
              obtain ⟨wn, hwn⟩ : ∃ wn, wn = wx.setRow B10 (storeV S1 va vc fa fc) := ⟨_, rfl⟩
              rw [← hwn]
              replace HX1 : Hid (Bx (B10 + 1) _ _ wn) := fun b hb => ⟨(HX1.out b hb).1, by rw [hwn]; exact (setRow_other _ _ _ _ (by have := (HX1.out b hb).1; omega)).trans (HX1.out b hb).2⟩
              replace R10 : Hid (wn.heap[B10]? = some (.cells (storeV S1 va vc fa fc) 28 (0, 0))) := by rw [hwn]; exact setRow_heap _ _ _ _ _ _ R10.out
              have hbn : Below w.heap.size wx wn := by rw [hwn]; exact Below.setRow _ B10 _ hB10w
              replace HEx := Lib.hid (HEx.out.below HE.out.globs hbn)
              replace HBx := Lib.hid (HBx.out.trans hbn)
              replace HSO : Hid (StOwn bs wn S1 va vc fa fc) := by rw [hwn]; exact HSO.out.set hbs1
              have hzn : B10 + 1 ≤ wn.heap.size := by have := hbn.size; omega
              refine hK.out _ _ trivial ?_
              clear hK K hHeld hbn hzx hwn
              intro hHeld
              walk_nrm
              clear wx
              obtain ⟨wx, rfl⟩ : ∃ wx : World, wx = wn := ⟨_, rfl⟩
              have hzx := hzn
              clear hzn
              refine wpAnyL_one 11 (by kernel_rfl) ?_
              refine ComesUp.mk rfl (fun K hK => ?_)
              rw [if_pos (by rfl)]
              have h6 := HX1.out b6 rfl
              refine wp_store_row 38 _ _ rfl b6 _ rfl rfl _ _ h6.2 replySize rfl (reply_one _ _ _) ?_
              have h610 : b6 ≠ B10 := by omega
              obtain ⟨wn, hwn⟩ : ∃ wn, wn = wx.setRow b6 (replyCells ⟨2, 0, []⟩ ha' hc') := ⟨_, rfl⟩
              rw [← hwn]
              have hbn : Below w.heap.size wx wn := by rw [hwn]; exact Below.setRow _ b6 _ (by omega)
              have HF1 : Hid (Below w.heap.size w wn) := HBx.out.trans hbn
              have HF2 : Hid (Env wn) := HEx.out.below HE.out.globs hbn
              have HF3 : Hid (wn.heap[B10]? = some (.cells (storeV S1 va vc fa fc) 28 (0, 0))) := by rw [hwn]; exact (setRow_other _ _ _ _ h610.symm).trans R10.out
              have HF4 : Hid (StOwn bs wn S1 va vc fa fc) := by rw [hwn]; exact HSO.out.setT h6.2 (by decide) (by decide) (by decide)
              have HF5 : Hid (wn.heap[b6]? = some (.cells #[.int .i64 2, .int .i64 0, .slice ha' 0 hc'] 38 (0, 0))) := by rw [hwn]; exact setRow_heap _ _ _ _ _ _ h6.2
              have h6w : w.heap.size ≤ b6 := by omega
              refine hK.out _ _ trivial ?_
              clear hK K hHeld hbn hzx hwn
              intro hHeld
              walk_nrm
              refine wpAnyL_last rfl (by kernel_rfl) (fun K hK => ?_)
              go_simp
              refine hK.out _ _ ?_
              clear hK K
              walk_nrm
              refine wpAnyL_done (by kernel_rfl) ?_ _
              go_wp2_with fail
              go_meet
              exact ⟨b6, va, vc, fa, fc, ha', hc', bs, rfl, rfl, hbs1, h610, h6w, HF1, HF2, HF3, HF4, HF5⟩
  case rest =>
  --rest
  obtain ⟨B12, va1, vc1, fa1, fc1, ha1, hc1, bs1, rfl, rfl, _, nB12, hB12w, HBwc, HEwc, Rwc, HSwc, B12wc⟩ := hcut
  clear HE2 HB2 R10 hz2
  have hzwc := (Array.getElem?_eq_some_iff.1 Rwc.out).1
  obtain ⟨m, hmm⟩ : ∃ m, m = min (n + u) maxN := ⟨_, rfl⟩
  obtain ⟨q, hq⟩ : ∃ q, q = max (m - d) 0 := ⟨_, rfl⟩
  have hm0 : 0 ≤ m ∧ m ≤ maxN := by omega
  have hq0 : 0 ≤ q ∧ q ≤ maxN := by omega
  obtain ⟨S2, S3, S4, t5, hd2, hd3, hd4, hd5⟩ := runs (n := n) (u := u) (d := d) (m := m) (q := q) (by omega) (by omega) (by omega) hmm hq (by rw [← HS1.out]; exact HO1.out)
  rw [← HS1.out] at hd2
  have HD2 := Lib.hid hd2
  have HD3 := Lib.hid hd3
  have HD4 := Lib.hid hd4
  have HD5 := Lib.hid hd5
  have HM := Lib.hid hmm
  have HQ := Lib.hid hq
  clear hd2 hd3 hd4 hd5 hmm hq HD1 HO1 HS1
  go_wp2_with (refine wpList_load_row rfl 28 _ rfl B10 rfl _ _ _ _ Rwc.out Tryd.underlying28 rfl (by kernel_rfl) ?_)
  refine (do_at (s := S1) (r := reqNum 9 nK u) (ka := none) (kc := 0) HEwc (Lib.hid HSwc.out.at) (RowsAt.nil _ _ _ _) (Nat.zero_le _) (by show 1 ≤ 1000; omega) rfl rfl).mono ?_
  rw [HD2.out]
  rintro e w3 ⟨va2, vc2, fa2, fc2, ha2, hc2, rfl, hsw3, -, hbw3⟩
  have HSw3 := Lib.hid hsw3
  have Rw3 := Lib.hid ((hbw3.block B10 hzwc).trans Rwc.out)
  have HBw3 := Lib.hid (HBwc.out.trans (hbw3.mono HBwc.out.size))
  have HEw3 := Lib.hid (HEwc.out.on hbw3)
  have hzw3 : B10 < w3.heap.size := by have := hbw3.size; omega
  have B12w3 := Lib.hid ((hbw3.block B12 (Array.getElem?_eq_some_iff.1 B12wc.out).1).trans B12wc.out)
  clear hsw3 hbw3 Rwc HBwc HEwc HSwc B12wc
  go_upto_region 7 with (first
    | refine wpList_store_row rfl 28 _ _ rfl B10 _ rfl rfl _ _ ((Below.heap_alloc _ _ _ (by omega)).trans Rw3.out) storeSize rfl (store_one _ _ _ _ _) ?_
    | refine wpList_store_row rfl 38 _ _ rfl w3.heap.size _ rfl rfl _ _ ((setRow_other _ _ _ _ (by omega)).trans (blk_new _ _)) replySize rfl (reply_one _ _ _) ?_)
  obtain ⟨W4, hW4⟩ : ∃ W, W = ((w3.alloc (.cells #[.int .i64 0, .int .i64 0, .slice none 0 0] 38)).setRow B10 (storeV S2 va2 vc2 fa2 fc2)).setRow w3.heap.size (replyCells ⟨7, m, []⟩ ha2 hc2) := ⟨_, rfl⟩
  rw [← hW4]
  obtain ⟨hbW4, rW4, nW4, kW4⟩ := after_do Rw3.out hW4 hB10w
  obtain ⟨B14, hB14⟩ : ∃ B, B = w3.heap.size := ⟨_, rfl⟩
  rw [← hB14]
  rw [← hB14] at nW4
  have RW4 := Lib.hid rW4
  have B14W4 := Lib.hid nW4
  have HBW4 := Lib.hid (HBw3.out.trans hbW4)
  have HEW4 := Lib.hid (HEw3.out.below HE.out.globs hbW4)
  have HSW4 := Lib.hid (HSw3.out.kept (fun k h1 h2 => kW4 k h2 (by omega)))
  have nB14 : B14 ≠ B10 := by omega
  have B12W4 := Lib.hid ((kW4 B12 (Array.getElem?_eq_some_iff.1 B12w3.out).1 nB12).trans B12w3.out)
  have hzW4 : B10 < W4.heap.size := (Array.getElem?_eq_some_iff.1 RW4.out).1
  clear hW4 hbW4 rW4 nW4 kW4 hB14 Rw3 HBw3 HEw3 HSw3 hzw3 B12w3
  go_wp2_with (refine wpList_load_row rfl 28 _ rfl B10 rfl _ _ _ _ RW4.out Tryd.underlying28 rfl (by kernel_rfl) ?_)
  refine (do_at (s := S2) (r := reqNum 10 nK d) (ka := none) (kc := 0) HEW4 (Lib.hid HSW4.out.at) (RowsAt.nil _ _ _ _) (Nat.zero_le _) (by show 1 ≤ 1000; omega) rfl rfl).mono ?_
  rw [HD3.out]
  rintro e w5 ⟨va3, vc3, fa3, fc3, ha3, hc3, rfl, hsw5, -, hbw5⟩
  have HSw5 := Lib.hid hsw5
  have Rw5 := Lib.hid ((hbw5.block B10 hzW4).trans RW4.out)
  have HBw5 := Lib.hid (HBW4.out.trans (hbw5.mono HBW4.out.size))
  have HEw5 := Lib.hid (HEW4.out.on hbw5)
  have hzw5 : B10 < w5.heap.size := by have := hbw5.size; omega
  have B12w5 := Lib.hid ((hbw5.block B12 (Array.getElem?_eq_some_iff.1 B12W4.out).1).trans B12W4.out)
  have B14w5 := Lib.hid ((hbw5.block B14 (Array.getElem?_eq_some_iff.1 B14W4.out).1).trans B14W4.out)
  clear hsw5 hbw5 RW4 HBW4 HEW4 HSW4 B12W4 B14W4
  go_upto_region 8 with (first
    | refine wpList_store_row rfl 28 _ _ rfl B10 _ rfl rfl _ _ ((Below.heap_alloc _ _ _ (by omega)).trans Rw5.out) storeSize rfl (store_one _ _ _ _ _) ?_
    | refine wpList_store_row rfl 38 _ _ rfl w5.heap.size _ rfl rfl _ _ ((setRow_other _ _ _ _ (by omega)).trans (blk_new _ _)) replySize rfl (reply_one _ _ _) ?_)
  obtain ⟨W6, hW6⟩ : ∃ W, W = ((w5.alloc (.cells #[.int .i64 0, .int .i64 0, .slice none 0 0] 38)).setRow B10 (storeV S3 va3 vc3 fa3 fc3)).setRow w5.heap.size (replyCells ⟨7, q, []⟩ ha3 hc3) := ⟨_, rfl⟩
  rw [← hW6]
  obtain ⟨hbW6, rW6, nW6, kW6⟩ := after_do Rw5.out hW6 hB10w
  obtain ⟨B16, hB16⟩ : ∃ B, B = w5.heap.size := ⟨_, rfl⟩
  rw [← hB16]
  rw [← hB16] at nW6
  have RW6 := Lib.hid rW6
  have B16W6 := Lib.hid nW6
  have HBW6 := Lib.hid (HBw5.out.trans hbW6)
  have HEW6 := Lib.hid (HEw5.out.below HE.out.globs hbW6)
  have HSW6 := Lib.hid (HSw5.out.kept (fun k h1 h2 => kW6 k h2 (by omega)))
  have nB16 : B16 ≠ B10 := by omega
  have B12W6 := Lib.hid ((kW6 B12 (Array.getElem?_eq_some_iff.1 B12w5.out).1 nB12).trans B12w5.out)
  have B14W6 := Lib.hid ((kW6 B14 (Array.getElem?_eq_some_iff.1 B14w5.out).1 nB14).trans B14w5.out)
  have hzW6 : B10 < W6.heap.size := (Array.getElem?_eq_some_iff.1 RW6.out).1
  clear hW6 hbW6 rW6 nW6 kW6 hB16 Rw5 HBw5 HEw5 HSw5 hzw5 B12w5 B14w5
  go_wp2_with (refine wpList_load_row rfl 28 _ rfl B10 rfl _ _ _ _ RW6.out Tryd.underlying28 rfl (by kernel_rfl) ?_)
  refine (keep_get S3 nK va3 fa3 vc3 fc3 W6 HEW6.out HSW6.out.at (by show 1 ≤ 1000; omega)).mono ?_
  rw [HD4.out]
  rintro e w7 ⟨va4, vc4, fa4, fc4, rfl, hsw7, hbw7⟩
  have HSw7 := Lib.hid hsw7
  have Rw7 := Lib.hid ((hbw7.block B10 hzW6).trans RW6.out)
  have HBw7 := Lib.hid (HBW6.out.trans (hbw7.mono HBW6.out.size))
  have HEw7 := Lib.hid (HEW6.out.on hbw7)
  have hzw7 : B10 < w7.heap.size := by have := hbw7.size; omega
  have B12w7 := Lib.hid ((hbw7.block B12 (Array.getElem?_eq_some_iff.1 B12W6.out).1).trans B12W6.out)
  have B14w7 := Lib.hid ((hbw7.block B14 (Array.getElem?_eq_some_iff.1 B14W6.out).1).trans B14W6.out)
  have B16w7 := Lib.hid ((hbw7.block B16 (Array.getElem?_eq_some_iff.1 B16W6.out).1).trans B16W6.out)
  clear hsw7 hbw7 RW6 HBW6 HEW6 HSW6 B12W6 B14W6 B16W6
  go_upto_region 9 with (first
    | refine wpList_store_row rfl 28 _ _ rfl B10 _ rfl rfl _ _ ((Below.heap_alloc _ _ _ (by omega)).trans Rw7.out) storeSize rfl (store_one _ _ _ _ _) ?_
    | refine wpList_store_row rfl 51 _ _ rfl w7.heap.size _ rfl rfl _ _ ((setRow_other _ _ _ _ (by omega)).trans (blk_new _ _)) hitSize rfl (hit_one _ _ _ _) ?_)
  obtain ⟨W8, hW8⟩ : ∃ W, W = ((w7.alloc (.cells #[.string ⟨#[]⟩, .int .i64 0, .int .i64 0, .string ⟨#[]⟩] 51)).setRow B10 (storeV S4 va4 vc4 fa4 fc4)).setRow w7.heap.size (#[.string nK, .int .i64 3, .int .i64 3, .string (decS q)]) := ⟨_, rfl⟩
  rw [← hW8]
  obtain ⟨hbW8, rW8, nW8, kW8⟩ := after_do Rw7.out hW8 hB10w
  obtain ⟨B18, hB18⟩ : ∃ B, B = w7.heap.size := ⟨_, rfl⟩
  rw [← hB18]
  rw [← hB18] at nW8
  have RW8 := Lib.hid rW8
  have B18W8 := Lib.hid nW8
  have HBW8 := Lib.hid (HBw7.out.trans hbW8)
  have HEW8 := Lib.hid (HEw7.out.below HE.out.globs hbW8)
  have HSW8 := Lib.hid (HSw7.out.kept (fun k h1 h2 => kW8 k h2 (by omega)))
  have nB18 : B18 ≠ B10 := by omega
  have B12W8 := Lib.hid ((kW8 B12 (Array.getElem?_eq_some_iff.1 B12w7.out).1 nB12).trans B12w7.out)
  have B14W8 := Lib.hid ((kW8 B14 (Array.getElem?_eq_some_iff.1 B14w7.out).1 nB14).trans B14w7.out)
  have B16W8 := Lib.hid ((kW8 B16 (Array.getElem?_eq_some_iff.1 B16w7.out).1 nB16).trans B16w7.out)
  have hzW8 : B10 < W8.heap.size := (Array.getElem?_eq_some_iff.1 RW8.out).1
  clear hW8 hbW8 rW8 nW8 kW8 hB18 Rw7 HBw7 HEw7 HSw7 hzw7 B12w7 B14w7 B16w7
  go_wp2_with (refine wpList_load_row rfl 28 _ rfl B10 rfl _ _ _ _ RW8.out Tryd.underlying28 rfl (by kernel_rfl) ?_)
  refine (do_at (s := S4) (r := reqPut 5 nK ⟨#[120]⟩ 0) (ka := none) (kc := 0) HEW8 (Lib.hid HSW8.out.at) (RowsAt.nil _ _ _ _) (Nat.zero_le _) (by show 1 ≤ 1000; omega) rfl rfl).mono ?_
  rw [HD5.out]
  rintro e w9 ⟨va5, vc5, fa5, fc5, ha5, hc5, rfl, hsw9, -, hbw9⟩
  have HSw9 := Lib.hid hsw9
  have Rw9 := Lib.hid ((hbw9.block B10 hzW8).trans RW8.out)
  have HBw9 := Lib.hid (HBW8.out.trans (hbw9.mono HBW8.out.size))
  have HEw9 := Lib.hid (HEW8.out.on hbw9)
  have hzw9 : B10 < w9.heap.size := by have := hbw9.size; omega
  have B12w9 := Lib.hid ((hbw9.block B12 (Array.getElem?_eq_some_iff.1 B12W8.out).1).trans B12W8.out)
  have B14w9 := Lib.hid ((hbw9.block B14 (Array.getElem?_eq_some_iff.1 B14W8.out).1).trans B14W8.out)
  have B16w9 := Lib.hid ((hbw9.block B16 (Array.getElem?_eq_some_iff.1 B16W8.out).1).trans B16W8.out)
  have B18w9 := Lib.hid ((hbw9.block B18 (Array.getElem?_eq_some_iff.1 B18W8.out).1).trans B18W8.out)
  clear hsw9 hbw9 RW8 HBW8 HEW8 HSW8 B12W8 B14W8 B16W8 B18W8
  simp only [replyCells, List.length_nil]
  go_upto_region 10 with (fail)
  obtain ⟨W10, hW10, hb10, h20, h21⟩ := two_new w9 (.cells (storeV t5 va5 vc5 fa5 fc5) 28) (.cells #[.int .i64 2, .int .i64 0, .slice ha5 0 hc5] 38)
  rw [← hW10]
  obtain ⟨B21, hB21⟩ : ∃ B, B = w9.heap.size + 1 := ⟨_, rfl⟩
  rw [← hB21] at h21
  rw [← hB21]
  have HB10 := Lib.hid (HBw9.out.trans (hb10.mono HBw9.out.size))
  have HE10 := Lib.hid (HEw9.out.on hb10)
  have q12 := (hb10.block B12 (Array.getElem?_eq_some_iff.1 B12w9.out).1).trans B12w9.out
  have q14 := (hb10.block B14 (Array.getElem?_eq_some_iff.1 B14w9.out).1).trans B14w9.out
  have q16 := (hb10.block B16 (Array.getElem?_eq_some_iff.1 B16w9.out).1).trans B16w9.out
  have q18 := (hb10.block B18 (Array.getElem?_eq_some_iff.1 B18w9.out).1).trans B18w9.out
  have c0 : W10.cell? ⟨B12, 0, none⟩ = some (.int .i64 2) := by rw [cell_of_row W10 _ _ _ _ _ q12]; rfl
  have c1 : W10.cell? ⟨B14, 0, none⟩ = some (.int .i64 7) := by rw [cell_of_row W10 _ _ _ _ _ q14]; rfl
  have c2 : W10.cell? ⟨B14, 1, none⟩ = some (.int .i64 m) := by rw [cell_of_row W10 _ _ _ _ _ q14]; rfl
  have c3 : W10.cell? ⟨B16, 1, none⟩ = some (.int .i64 q) := by rw [cell_of_row W10 _ _ _ _ _ q16]; rfl
  have H18 := Lib.hid q18
  have H21 := Lib.hid h21
  have c4 : W10.cell? ⟨B18, 3, none⟩ = some (.string (decS q)) := by rw [cell_of_row W10 _ _ _ _ _ q18]; rfl
  have e1 : wrap64 (n + u) = n + u := IntWalk.wrap64_in _ ⟨by omega, by omega⟩
  have e2 : wrap64 (m - d) = m - d := IntWalk.wrap64_in _ ⟨by omega, by omega⟩
  have e3 : max (m - d) 0 = q := HQ.out.symm
  have e4 : min (n + u) 1099511627776 = m := HM.out.symm
  have c5 : W10.cell? ⟨B18, 1, none⟩ = some (.int .i64 3) := by rw [cell_of_row W10 _ _ _ _ _ q18]; rfl
  have c6 : W10.cell? ⟨B21, 0, none⟩ = some (.int .i64 2) := by rw [cell_of_row W10 _ _ _ _ _ h21]; rfl
  clear H18 H21 hW10 hB21 h20 h21 hb10 q12 q14 q16 q18 HBw9 HEw9 B12w9 B14w9 B16w9 B18w9 Rw9 HSw9
  go_upto_region 11 with (fail)
  refine wp_region_quietC (Below W10.heap.size W10) (by kernel_rfl) (by kernel_rfl) (Below.refl _ _).drew ?_
  simp only [List.append]
  have HK0 : Hid (∀ w', Below W10.heap.size W10 w' → w'.cell? ⟨B12, 0, none⟩ = some (.int .i64 2)) := fun w' h => Below.keeps h _ _ c0
  have HK1 : Hid (∀ w', Below W10.heap.size W10 w' → w'.cell? ⟨B14, 0, none⟩ = some (.int .i64 7)) := fun w' h => Below.keeps h _ _ c1
  have HK2 : Hid (∀ w', Below W10.heap.size W10 w' → w'.cell? ⟨B14, 1, none⟩ = some (.int .i64 m)) := fun w' h => Below.keeps h _ _ c2
  have HK3 : Hid (∀ w', Below W10.heap.size W10 w' → w'.cell? ⟨B16, 1, none⟩ = some (.int .i64 q)) := fun w' h => Below.keeps h _ _ c3
  have HK4 : Hid (∀ w', Below W10.heap.size W10 w' → w'.cell? ⟨B18, 3, none⟩ = some (.string (decS q))) := fun w' h => Below.keeps h _ _ c4
  have HK5 : Hid (∀ w', Below W10.heap.size W10 w' → w'.cell? ⟨B18, 1, none⟩ = some (.int .i64 3)) := fun w' h => Below.keeps h _ _ c5
  have HK6 : Hid (∀ w', Below W10.heap.size W10 w' → w'.cell? ⟨B21, 0, none⟩ = some (.int .i64 2)) := fun w' h => Below.keeps h _ _ c6
  clear c0 c1 c2 c3 c4 c5 c6
  iterate 65 (go_big_quiet_step ((intro hSw; first | rfl | (simp only [HK0.out _ hSw]; exact ⟨rfl, rfl⟩) | (simp only [HK1.out _ hSw]; exact ⟨rfl, rfl⟩) | (simp only [HK2.out _ hSw]; exact ⟨rfl, rfl⟩) | (simp only [HK3.out _ hSw]; exact ⟨rfl, rfl⟩) | (simp only [HK4.out _ hSw]; exact ⟨rfl, rfl⟩) | (simp only [HK5.out _ hSw]; exact ⟨rfl, rfl⟩) | (simp only [HK6.out _ hSw]; exact ⟨rfl, rfl⟩) | (refine (itoa_is q (by omega) (by omega) _ (HE10.out.on hSw).pow).mono ?_; rintro e w5 ⟨rfl, hb5⟩; exact ⟨rfl, hSw.trans (hb5.mono hSw.size)⟩))))
  refine wpQuiet_nil ?_
  intro wq hwq
  go_wp2_with fail
  go_ret
  exact ⟨rfl, HB10.out.trans (hwq.mono HB10.out.size)⟩
set_option maxRecDepth 100000 in
theorem enters {H : Type} {enc : TypeId × Value → H} {W : World} {base : Nat} {args : Array Value} {ds : List (DataW H)} {p : List MemPlace}
    (hval : ∀ (j : Nat) t v, Tryd.f5.params[j]? = some t → args[j]? = some v → Value.okWide Tryd.prog W .any base t v)
    (hA : DataW.TrodAll enc Tryd.prog W 0 (fun _ => true) true Tryd.f5.params.toList args.toList ds p) (hsz : ∀ m ∈ DataW.weightsEach Tryd.prog Tryd.f5.params.toList ds, m ≤ reachBytes) (hL : laidMetH Tryd.prog Rows.countsRow.laid W) :
    Calls Tryd.prog 5 args W fun e W' => e = .returned (.bool true) ∧ Below W.heap.size W W' := by
  rw [Tryd.params5] at hA hval hsz
  obtain ⟨v0, vs0, d0, ds0, p0, q0, hargs, rfl, rfl, h0, r0⟩ := trodAll_cons hA
  obtain ⟨v1, vs1, d1, ds1, p1, q1, hargs1, rfl, rfl, h1, r1⟩ := trodAll_cons r0
  obtain ⟨v2, vs2, d2, ds2, p2, q2, hargs2, rfl, rfl, h2, r2⟩ := trodAll_cons r1
  obtain ⟨rfl, rfl, rfl⟩ := trodAll_nil r2
  obtain rfl : args = #[v0, v1, v2] := by cases args; simp_all
  obtain ⟨a, rfl, rfl, rfl, ha⟩ := open_int Tryd.underlying3 (hval 0 3 v0 rfl rfl) h0
  obtain ⟨b, rfl, rfl, rfl, hb⟩ := open_int Tryd.underlying3 (hval 1 3 v1 rfl rfl) h1
  obtain ⟨c, rfl, rfl, rfl, hc⟩ := open_int Tryd.underlying3 (hval 2 3 v2 rfl rfl) h2
  exact walk a b c (bounds_i64 ha) (bounds_i64 hb) (bounds_i64 hc) W (env_of hL)

set_option maxRecDepth 100000 in
theorem contract {H : Type} {enc : TypeId × Value → H} {W : World} {base : Nat} {args : Array Value} {ds gs : List (DataW H)} {before : List MemPlace}
    (hval0 : ∀ (j : Nat) t v, Tryd.f5.params[j]? = some t → args[j]? = some v → Value.okWide Tryd.prog W .any base t v)
    (hW : DataW.Whole enc Tryd.prog Tryd.f5.params.toList Rows.countsSpec.vars false W args.toList ds gs before)
    (hsz0 : (DataW.weightsEach Tryd.prog (Tryd.f5.params.toList ++ []) (ds ++ gs)).all (· ≤ reachBytes) = true) (hL : laidMetH Tryd.prog Rows.countsRow.laid W) :
    Calls Tryd.prog 5 args W fun e W' => ∃ v, e = .returned v ∧ Rows.countsSpec.post enc Tryd.prog Tryd.f5 false true false false W args v W' := by
  have hval : ∀ (j : Nat) t v, Tryd.f5.params[j]? = some t → args[j]? = some v → Value.okWide Tryd.prog W .any base t v := hval0
  have hW' := hW
  obtain ⟨p, q, hA0, hV, rfl, hfz, hnd⟩ := hW
  have hA : DataW.TrodAll enc Tryd.prog W 0 (fun _ => true) true Tryd.f5.params.toList args.toList ds p := hA0
  obtain ⟨rfl, rfl⟩ := trodVars_none hV
  have hsz : ∀ m ∈ DataW.weightsEach Tryd.prog Tryd.f5.params.toList ds, m ≤ reachBytes := by
    have h0 := hsz0
    rw [List.append_nil, List.append_nil] at h0
    intro m hm
    simpa using List.all_eq_true.1 h0 m hm
  have hds : Rows.countsSpec.fn H (ds ++ []) = { results := [.lit (.bool true)], args := ds } := by
    have hA1 := hA
    rw [Tryd.params5] at hA1
    obtain ⟨v0, vs0, d0, ds0, p0, q0, _, rfl, rfl, h0, r0⟩ := trodAll_cons hA1
    obtain ⟨v1, vs1, d1, ds1, p1, q1, _, rfl, rfl, h1, r1⟩ := trodAll_cons r0
    obtain ⟨v2, vs2, d2, ds2, p2, q2, _, rfl, rfl, h2, r2⟩ := trodAll_cons r1
    obtain ⟨_, rfl, rfl⟩ := trodAll_nil r2
    rfl
  refine (enters hval hA hsz hL).mono fun e W' ⟨he, hb⟩ => ⟨_, he, D.law_post rfl rfl hds (by kernel_rfl) hW' hb⟩
theorem laid_met (os : Os) : laidMet Tryd.prog Rows.countsRow.laid ((D.laidWorldS os).forCall (fun _ _ => 0) ⟨#[], #[.int .i64 0, .int .i64 0, .int .i64 0], []⟩).memory :=
  laidMet_of_run' 12 (by kernel_rfl) (by kernel_rfl)
theorem reads (os : Os) {H : Type} (enc : TypeId × Value → H) : ∃ places, DataW.whole enc Tryd.prog ((D.laidWorldS os).forCall (fun _ _ => 0) ⟨#[], #[.int .i64 0, .int .i64 0, .int .i64 0], []⟩).memory Tryd.f5.params.toList Rows.countsSpec.vars false (#[.int .i64 0, .int .i64 0, .int .i64 0] : Array Value).toList 12 = some ([.lit (.int .i64 0), .lit (.int .i64 0), .lit (.int .i64 0)], [], places) :=
  ⟨[], by kernel_rfl⟩
set_option maxRecDepth 100000 in
theorem lifted (os : Os) (started : os.Started) (H : Type) (enc : TypeId × Value → H) (F : Stop.Interp) :
    ReturnsInHanded {} Tryd.checked os 5 .any ((OpenSpec.ofChange Rows.countsSpec).preRow enc Tryd.prog Tryd.f5 Rows.countsRow.domain false Rows.countsRow.laid) (((OpenSpec.ofChange Rows.countsSpec).at F).post enc Tryd.prog Tryd.f5 false true false false) := by
  obtain ⟨places, hx⟩ := reads os enc
  refine returnsInHanded_of_row (C := Tryd.checked) (s := OpenSpec.ofChange Rows.countsSpec) D.own started (by kernel_rfl) Tryd.func5
    (witness_row_at (enc := enc) (C := Tryd.checked) false (D.laidWorldS os) #[.int .i64 0, .int .i64 0, .int .i64 0] rfl (by kernel_rfl) (by kernel_rfl) (by kernel_rfl)
      (OpenSpec.preRow_of_cond 12 hx (by kernel_rfl) (fun k hk => by cases hk) (by kernel_rfl) (laid_met os))) ?_
  intro W base args ds gs before hval hW _ _ hsz hL _ _
  exact contract hval hW hsz hL
theorem said : Rows.CountsSaid :=
  OpenClaim.holds_of_cond 5 Tryd.f5 rfl rfl rfl rfl rfl rfl rfl ⟨rfl, rfl, rfl, rfl, rfl⟩ rfl rfl rfl rfl rfl (by kernel_rfl) Tryd.func5 (by kernel_rfl)
    (of_decide_eq_true (by kernel_rfl)) (by unfold Func.isWrapper; first | (rw [if_pos (by decide +kernel)]; kernel_rfl) | (rw [if_neg (by decide +kernel)]; exact ⟨rfl, rfl⟩))
    (fun os started H enc _ F => by rw [OpenClaim.pre_eq_preRow]; exact lifted os started H enc F)
theorem plain (f : FuncId) (fn : Func) (hf : Tryd.pinned.checked.prog.funcNamed "dovecote/dovecotekeep.Counts" = some f) (hfn : Tryd.pinned.checked.prog.funcs[f]? = some fn) :
    true = Tryd.pinned.checked.prog.looks [] ∧ ∀ (j : Nat) t, fn.params[j]? = some t → Tryd.pinned.checked.prog.wantsStandIn t = false := by
  obtain rfl : f = 5 := Option.some.inj ((show Tryd.prog.funcNamed "dovecote/dovecotekeep.Counts" = some 5 by kernel_rfl).symm.trans hf) |>.symm
  obtain rfl : fn = Tryd.f5 := (Option.some.inj (Tryd.func5.symm.trans hfn)).symm
  refine ⟨by kernel_rfl, fun j t ht => ?_⟩
  rw [Tryd.params5] at ht
  obtain rfl : t = 3 := by simpa using Array.mem_of_getElem? ht
  kernel_rfl
theorem card : Rows.CountsCardSaid :=
  Claim7.holds_tied_plain_at .later [] _ _ _ _ said (fun _ h => by cases h) (by kernel_rfl) (fun _ h => by cases h) counts_row_tie rfl ⟨rfl, rfl⟩ (by kernel_rfl) rfl plain (by kernel_rfl)
end Go.Proofs.YtbeegfkfpkfccaaDoor.counts
