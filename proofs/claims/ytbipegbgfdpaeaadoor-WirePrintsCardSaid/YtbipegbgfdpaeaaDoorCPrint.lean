/-
  Contract: wire.Print is a reply's text. Conditions: the table of what is told holds its texts, the library's table of powers its numbers.
-/
import Derived.Test.YtbipegbgfdpaeaaDoorCHit
import Derived.Test.YtbipegbgfdpaeaaDoorCItoa
import Derived.Test.YtbipegbgfdpaeaaDoorCBuild
import Derived.Test.YtbipegbgfdpaeaaDoorCKey
import Derived.Test.YtbipegbgfdpaeaaDoorCRText
namespace Go.Proofs.YtbipegbgfdpaeaaDoor.D
open Go.RowKit
def Told (w : World) : Prop := ∀ i : Nat, i < 13 → w.cell? ⟨1, i, none⟩ = some (.string (toldS i))
theorem Told.keep {w w' : World} (h : Told w) (k : Keeps w w') : Told w' := fun i hi => k _ _ (h i hi)
set_option maxRecDepth 100000 in
theorem print_kind (k n : Int) (m : Nat) (a : Option Addr) (c : Nat) (w : World) (hk : ¬ (1 ≤ k ∧ k ≤ 12)) :
    Calls Tryd.prog 21 #[.agg #[.int .i64 k, .int .i64 n, .slice a m c]] w (TextEnd ByteArray.empty 3 w) := by
  by_cases h1 : 1 ≤ k
  · have h2 : 12 < k := by omega
    clear hk
    go_enter Tryd.func21, Tryd.ntmps21
    go_wp2_with fail
    go_ret2
    exact ⟨rfl, by go_grown⟩
  · have h2 : k < 1 := by omega
    clear hk h1
    go_enter Tryd.func21, Tryd.ntmps21
    go_wp2_with fail
    go_ret2
    exact ⟨rfl, by go_grown⟩
set_option maxRecDepth 100000 in
set_option maxHeartbeats 1000000 in
theorem print_is (r : Reply) (T : ByteArray) (E : Int) (HT : Hid ((T, E) = replyText r)) (k n : Int) (m : Nat) (hk0 : Hid (k = r.kind)) (hn0 : Hid (n = r.n)) (hm0 : Hid (m = r.hits.length)) (hn1 : -9223372036854775808 ≤ n) (hn2 : n ≤ 9223372036854775807)
    (a : Option Addr) (c : Nat) (w : World) (HR : Hid (RowsAt w a 4 HitR r.hits)) (HTD : Hid (Told w)) (HPW : Hid (PowTab w)) (hk : 1 ≤ k ∧ k ≤ 12) :
    Calls Tryd.prog 21 #[.agg #[.int .i64 k, .int .i64 n, .slice a m c]] w (TextEnd T E w) := by
  obtain ⟨k1, k2⟩ := hk
  obtain ⟨t, ht⟩ : ∃ t, t = decide ((k ≠ 1 ∧ 0 < m) ∨ (k ≠ 7 ∧ n ≠ 0) ∨ 10 < m) := ⟨_, rfl⟩
  have HF := Lib.hid ht
  clear ht
  go_enter Tryd.func21, Tryd.ntmps21
  go_upto_region 1 with (fail)
  obtain ⟨W1, hW1⟩ : ∃ W1, W1 = w.alloc (.cells #[.int .i64 k, .int .i64 n, .slice a m c] 45) := ⟨_, rfl⟩
  have HB1 := Lib.hid (show Below w.heap.size w W1 by rw [hW1]; go_grown)
  have hb1 : W1.heap[w.heap.size]? = some (.cells #[.int .i64 k, .int .i64 n, .slice a m c] 45 (0, 0)) := by rw [hW1]; exact blk_new w _
  rw [← hW1]
  clear hW1
  have p0 : W1.cell? ⟨w.heap.size, 0, none⟩ = some (.int .i64 k) := by rw [cell_of_row W1 _ _ _ _ _ hb1]; rfl
  have p1 : W1.cell? ⟨w.heap.size, 1, none⟩ = some (.int .i64 n) := by rw [cell_of_row W1 _ _ _ _ _ hb1]; rfl
  have p2 : W1.cell? ⟨w.heap.size, 2, none⟩ = some (.slice a m c) := by rw [cell_of_row W1 _ _ _ _ _ hb1]; rfl
  have HH1 := Lib.hid hb1
  clear hb1
  go_cut [0, 14] (fun _ v wx => v = .bool false ∧ wx = W1)
  case first =>
    have g1 : ¬ k < 1 := by omega
    have g2 : ¬ 12 < k := by omega
    go_wp2_with fail
    all_goals (go_meet; exact ⟨by simp, rfl⟩)
  case rest =>
    obtain ⟨rfl, rfl⟩ := hcut
    go_upto_region 3 with (fail)
    go_cut [39] (fun v wx => v = .bool t ∧ wx = wc)
    case first =>
      go_wp2_with fail
      all_goals (go_meet; refine ⟨congrArg Value.bool ?_, rfl⟩; rw [HF.out, Bool.eq_iff_iff]; simp; omega)
    case rest =>
      obtain ⟨rfl, rfl⟩ := hcut
      cases t
      rotate_left
      ·
        have HE : Hid ((T, E) = (ByteArray.empty, 4)) := by
          show _ = _
          rw [HT.out, text_form (by rw [← hk0.out]; exact ⟨k1, k2⟩) (by rw [← hk0.out, ← hn0.out, ← hm0.out]; exact of_decide_eq_true HF.out.symm)]
        go_wp2_with fail
        go_ret2
        cases HE.out
        exact ⟨rfl, HB1.out⟩
      have HE : Hid ((T, E) = (if k = 7 then (decS n ++ sLine, 0) else if k ≠ 1 then (toldS k ++ sLine, 0) else if r.hits.all hitOK = true then (hitsS r.hits ++ sEND, 0) else (ByteArray.empty, 4))) := by
        show _ = _
        rw [HT.out, hk0.out, hn0.out]
        exact text_rest (by rw [← hk0.out]; exact ⟨k1, k2⟩) (by rw [← hk0.out, ← hn0.out, ← hm0.out]; exact of_decide_eq_false HF.out.symm)
      have hml : m ≤ 10 := by have := of_decide_eq_false HF.out.symm; omega
      clear HF HT hn0
      by_cases h7 : k = 7
      ·
        subst h7
        rw [if_pos rfl] at HE
        have LN : ¬ 9223372036854775807 < (decS n).size + 1 := by rw [decS_size]; have := decL_le hn1 hn2; omega
        go_wp2_with fail
        refine (itoa_is n hn1 hn2 _ (HPW.out.keep HB1.out)).mono ?_
        rintro e w2 ⟨rfl, hb2⟩
        have HB2 := Lib.hid (HB1.out.trans (hb2.mono HB1.out.size))
        clear hb2
        go_wp2_with fail
        go_ret2
        cases HE.out
        exact ⟨rfl, HB2.out⟩
      rw [if_neg h7] at HE
      by_cases h1 : k = 1
      ·
        subst h1
        rw [if_neg (by decide)] at HE
        have pz : ∀ ob, (wc.alloc ob).cell? ⟨w.heap.size, 2, none⟩ = wc.cell? ⟨w.heap.size, 2, none⟩ := fun ob => World.cell?_of_block (Below.heap_alloc wc ob w.heap.size (cell_lt p0))
        rw [p2] at pz
        have hzw := (Array.getElem?_eq_some_iff.1 HH1.out).1
        have HBF := Lib.hid (Bld.fresh wc)
        go_wp2_with fail
        obtain ⟨W2, hW2⟩ : ∃ W2, W2 = wc.alloc (.cells #[.pointer none, .slice none 0 0] 93) := ⟨_, rfl⟩
        have HB2 := Lib.hid (show Below w.heap.size w W2 by rw [hW2]; exact HB1.out.alloc HB1.out.size _)
        have hz2 : wc.heap.size < W2.heap.size := by rw [hW2]; simp
        rw [← hW2] at HBF ⊢
        clear hW2 p0 p1 pz HH1
        obtain ⟨b0, hb0⟩ : ∃ b0, b0 = wc.heap.size := ⟨_, rfl⟩
        have hb01 : w.heap.size ≤ b0 := by omega
        rw [← hb0] at HBF hz2 ⊢
        clear hb0 hzw
        go_loopw [58] (fun i wr => ∃ (j : Nat) (sS : ByteArray), j ≤ m ∧ i = .int .i64 j ∧ Hid (sS = hitsS (r.hits.take j)) ∧ Hid (Below w.heap.size w wr) ∧ Hid (Bld b0 b0 sS wr) ∧ b0 < wr.heap.size ∧ Hid ((r.hits.take j).all hitOK = true)) (fun i _ => m - (intOf i).toNat)
        case atStart => exact ⟨0, ByteArray.empty, Nat.zero_le _, rfl, rfl, HB2, HBF, hz2, rfl⟩
        case round =>
          obtain ⟨j, sS, hj, rfl, HS, HB, HBL, hzb, HA⟩ := hrel
          by_cases hlt : j < m
          ·
            have hlt2 : j < r.hits.length := by rw [← hm0.out]; exact hlt
            obtain ⟨b, o, rfl, hc⟩ := HR.out.pos (by omega)
            obtain ⟨cs, _, ⟨hcs, hz1, hz2, hhb⟩, h3⟩ := hc j hlt2
            have HNO := Lib.hid (all_no hlt2)
            have HYES := Lib.hid (all_hit hlt2 HA.out)
            have HSN := Lib.hid (hitsS_snoc r.hits j hlt2)
            have HSZ := Lib.hid (hitsS_size (l := r.hits) (fun x hx => (HR.out.hitB x hx).1) j (by omega) HA.out)
            obtain ⟨⟨hk, hf, hcas, hv⟩, hh⟩ : ∃ h, h = r.hits[j] := ⟨_, rfl⟩
            rw [← hh] at hcs hz1 hz2 hhb HNO HYES HSN
            simp only at hz1 hz2
            unfold HitB at hhb
            simp only at hhb
            unfold hitCells at hcs
            simp only at hcs
            subst hcs
            have hkp := Below.keeps HB.out
            have c0 := hkp _ _ (h3 0 _ rfl)
            have c1 := hkp _ _ (h3 1 _ rfl)
            have c2 := hkp _ _ (h3 2 _ rfl)
            have c3 := hkp _ _ (h3 3 _ rfl)
            rw [Nat.add_zero] at c0
            have hzk : hk.size ≤ 9223372036854775807 := Nat.le_trans hz1 (by decide)
            clear h3 hc hkp hlt2 hh
            go_wp2_with fail
            obtain ⟨W3, hW3⟩ : ∃ W3, W3 = wr.alloc (.cells #[.string hk, .int .i64 hf, .int .i64 hcas, .string hv] 95) := ⟨_, rfl⟩
            have hbl3 : Below wr.heap.size wr W3 := by rw [hW3]; go_grown
            have hblk : W3.heap[wr.heap.size]? = some (.cells #[.string hk, .int .i64 hf, .int .i64 hcas, .string hv] 95 (0, 0)) := by rw [hW3]; exact blk_new wr _
            have hz3 : wr.heap.size < W3.heap.size := by rw [hW3]; simp
            rw [← hW3]
            clear hW3 c0 c1 c2 c3
            have HB3 := Lib.hid (HB.out.trans (hbl3.mono HB.out.size))
            have HBL3 := Lib.hid (HBL.out.below hbl3)
            have HKB := Lib.hid (show keyOK hk = keyL (bl hk) from rfl)
            refine (wire_Key hk _ hzk).mono ?_
            rintro e W4 ⟨rfl, hb4⟩
            have HB4 := Lib.hid (HB3.out.trans (hb4.mono HB3.out.size))
            have HBL4 := Lib.hid (HBL3.out.below hb4)
            have hz4 : wr.heap.size < W4.heap.size := by have := hb4.size; omega
            have hblk4 := (hb4.block wr.heap.size hz3).trans hblk
            have c0 : W4.cell? ⟨wr.heap.size, 0, none⟩ = some (.string hk) := by rw [cell_of_row W4 _ _ _ _ _ hblk4]; rfl
            have c1 : W4.cell? ⟨wr.heap.size, 1, none⟩ = some (.int .i64 hf) := by rw [cell_of_row W4 _ _ _ _ _ hblk4]; rfl
            have c2 : W4.cell? ⟨wr.heap.size, 2, none⟩ = some (.int .i64 hcas) := by rw [cell_of_row W4 _ _ _ _ _ hblk4]; rfl
            have c3 : W4.cell? ⟨wr.heap.size, 3, none⟩ = some (.string hv) := by rw [cell_of_row W4 _ _ _ _ _ hblk4]; rfl
            clear hblk hbl3 hblk4 hb4 hz3
            obtain ⟨kb, hkb⟩ : ∃ kb, kb = keyL (bl hk) := ⟨_, rfl⟩
            rw [← hkb] at HKB ⊢
            clear hkb
            cases kb
            ·
              have HF := Lib.hid (HNO.out (by unfold hitOK; rw [HKB.out]; rfl))
              go_wp2_with fail
              go_ret2
              rw [HF.out] at HE
              cases HE.out
              exact ⟨rfl, HB4.out⟩
            by_cases hvs : hv.size ≤ 200
            rotate_left
            ·
              have HF := Lib.hid (HNO.out (by unfold hitOK; rw [decide_eq_false hvs, Bool.and_false]))
              have hvs2 : (200 : Int) < (hv.size : Int) := by omega
              go_wp2_with fail
              go_ret2
              rw [HF.out] at HE
              cases HE.out
              exact ⟨rfl, HB4.out⟩
            have HY := Lib.hid (HYES.out (by unfold hitOK; rw [HKB.out, decide_eq_true hvs]; rfl))
            have hks := keyOK_size HKB.out
            have hvs2 : (hv.size : Int) ≤ 200 := by omega
            clear HNO HYES HKB
            go_wp2_with fail
            have hdz := decL_le (n := hv.size) (by omega) (by omega)
            have hd1 := decL_le hhb.1 hhb.2.1
            have hd2 := decL_le hhb.2.2.1 hhb.2.2.2
            have hs0 : sS.size ≤ 2940 := by rw [HS.out]; have := HSZ.out; omega
            rw [← decS_size] at hdz hd1 hd2
            have L2 : ¬ 9223372036854775807 < 6 + hk.size := by omega
            have L3 : ¬ 9223372036854775807 < 6 + hk.size + 1 := by omega
            have L4 : ¬ 9223372036854775807 < 6 + hk.size + 1 + (decS hf).size := by omega
            have L5 : ¬ 9223372036854775807 < 6 + hk.size + 1 + (decS hf).size + 1 := by omega
            have L6 : ¬ 9223372036854775807 < 6 + hk.size + 1 + (decS hf).size + 1 + (decS hv.size).size := by omega
            have L7 : ¬ 9223372036854775807 < 6 + hk.size + 1 + (decS hf).size + 1 + (decS hv.size).size + 1 := by omega
            have L8 : ¬ 9223372036854775807 < 6 + hk.size + 1 + (decS hf).size + 1 + (decS hv.size).size + 1 + (decS hcas).size := by omega
            have L9 : ¬ 9223372036854775807 < 6 + hk.size + 1 + (decS hf).size + 1 + (decS hv.size).size + 1 + (decS hcas).size + 1 := by omega
            have L10 : ¬ 9223372036854775807 < 6 + hk.size + 1 + (decS hf).size + 1 + (decS hv.size).size + 1 + (decS hcas).size + 1 + hv.size := by omega
            have L11 : ¬ 9223372036854775807 < 6 + hk.size + 1 + (decS hf).size + 1 + (decS hv.size).size + 1 + (decS hcas).size + 1 + hv.size + 1 := by omega
            have HLN := Lib.hid (show sS.size + (hitS ⟨hk, hf, hcas, hv⟩).size ≤ 140737488355328 by have := hitS_size (h := ⟨hk, hf, hcas, hv⟩) hhb hks hvs; omega)
            have S0 : Below W4.heap.size W4 W4.drew := (Below.refl _ _).drew
            have HP4 := Lib.hid (HPW.out.keep HB4.out)
            refine wp_region_L (Below W4.heap.size W4) 24 25 (by kernel_rfl) (by kernel_rfl) S0 (fun hHeld => ?_)
            clear hdz hd1 hd2 hs0
            refine wpAnyL_take (i := 0) (v := ?_) rfl (by kernel_rfl) (fun _ _ _ h => h) (Or.inl ⟨by rfl, ?_⟩) (by assumption) ?_
            rotate_left
            · intro wS hSw; go_simp <;> with_reducible rfl
            walk_nrm
            refine wpAnyL_take (i := 1) (v := ?_) rfl (by kernel_rfl) (fun _ _ _ h => h) (Or.inl ⟨by rfl, ?_⟩) (by assumption) ?_
            rotate_left
            · intro wS hSw; have q := (hSw.cell (p := ⟨wr.heap.size, 0, none⟩) hz4).trans c0; go_simp <;> with_reducible rfl
            walk_nrm
            refine wpAnyL_take (i := 2) (v := ?_) rfl (by kernel_rfl) (fun _ _ _ h => h) (Or.inl ⟨by rfl, ?_⟩) (by assumption) ?_
            rotate_left
            · intro wS hSw; go_simp <;> with_reducible rfl
            walk_nrm
            refine wpAnyL_take (i := 3) (v := ?_) rfl (by kernel_rfl) (fun _ _ _ h => h) (Or.inl ⟨by rfl, ?_⟩) (by assumption) ?_
            rotate_left
            · intro wS hSw; go_simp <;> with_reducible rfl
            walk_nrm
            refine wpAnyL_take (i := 4) (v := ?_) rfl (by kernel_rfl) (fun _ _ _ h => h) (Or.inl ⟨by rfl, ?_⟩) (by assumption) ?_
            rotate_left
            · intro wS hSw; go_simp <;> with_reducible rfl
            walk_nrm
            refine wpAnyL_take (i := 5) (v := ?_) rfl (by kernel_rfl) (fun _ _ _ h => h) (Or.inl ⟨by rfl, ?_⟩) (by assumption) ?_
            rotate_left
            · intro wS hSw; have q := (hSw.cell (p := ⟨wr.heap.size, 1, none⟩) hz4).trans c1; go_simp <;> with_reducible rfl
            walk_nrm
            refine wpAnyL_take (i := 9) (v := ?_) rfl (by kernel_rfl) (fun _ _ _ h => h) (Or.inl ⟨by rfl, ?_⟩) (by assumption) ?_
            rotate_left
            · intro wS hSw; go_simp <;> with_reducible rfl
            walk_nrm
            refine wpAnyL_take (i := 10) (v := ?_) rfl (by kernel_rfl) (fun _ _ _ h => h) (Or.inl ⟨by rfl, ?_⟩) (by assumption) ?_
            rotate_left
            · intro wS hSw; have q := (hSw.cell (p := ⟨wr.heap.size, 3, none⟩) hz4).trans c3; go_simp <;> with_reducible rfl
            walk_nrm
            refine wpAnyL_take (i := 11) (v := ?_) rfl (by kernel_rfl) (fun _ _ _ h => h) (Or.inl ⟨by rfl, ?_⟩) (by assumption) ?_
            rotate_left
            · intro wS hSw; go_simp <;> with_reducible rfl
            walk_nrm
            refine wpAnyL_take (i := 15) (v := ?_) rfl (by kernel_rfl) (fun _ _ _ h => h) (Or.inl ⟨by rfl, ?_⟩) (by assumption) ?_
            rotate_left
            · intro wS hSw; go_simp <;> with_reducible rfl
            walk_nrm
            refine wpAnyL_take (i := 16) (v := ?_) rfl (by kernel_rfl) (fun _ _ _ h => h) (Or.inl ⟨by rfl, ?_⟩) (by assumption) ?_
            rotate_left
            · intro wS hSw; have q := (hSw.cell (p := ⟨wr.heap.size, 2, none⟩) hz4).trans c2; go_simp <;> with_reducible rfl
            walk_nrm
            refine wpAnyL_take (i := 20) (v := ?_) rfl (by kernel_rfl) (fun _ _ _ h => h) (Or.inl ⟨by rfl, ?_⟩) (by assumption) ?_
            rotate_left
            · intro wS hSw; go_simp <;> with_reducible rfl
            walk_nrm
            refine wpAnyL_take (i := 21) (v := ?_) rfl (by kernel_rfl) (fun _ _ _ h => h) (Or.inl ⟨by rfl, ?_⟩) (by assumption) ?_
            rotate_left
            · intro wS hSw; have q := (hSw.cell (p := ⟨wr.heap.size, 3, none⟩) hz4).trans c3; go_simp <;> with_reducible rfl
            walk_nrm
            refine wpAnyL_step (i := 6) rfl (by kernel_rfl) (fun K hK => ?_)
            go_simp
            refine (itoa_is hf hhb.1 hhb.2.1 _ (HP4.out.keep S0)).mono ?_
            rintro e w5 ⟨rfl, hb5⟩
            have S5 : Below W4.heap.size W4 w5 := S0.trans (hb5.mono S0.size)
            show K _ w5
            refine hK.out _ _ S5 (fun hHeld2 => ?_)
            clear hK K hb5
            walk_nrm
            refine wpAnyL_take (i := 7) (v := ?_) rfl (by kernel_rfl) (fun _ _ _ h => h) (Or.inl ⟨by rfl, ?_⟩) (by assumption) ?_
            rotate_left
            · intro wS hSw; go_simp <;> with_reducible rfl
            walk_nrm
            refine wpAnyL_take (i := 8) (v := ?_) rfl (by kernel_rfl) (fun _ _ _ h => h) (Or.inl ⟨by rfl, ?_⟩) (by assumption) ?_
            rotate_left
            · intro wS hSw; go_simp <;> with_reducible rfl
            walk_nrm
            refine wpAnyL_step (i := 12) rfl (by kernel_rfl) (fun K hK => ?_)
            go_simp
            refine (itoa_is hv.size (by omega) (by omega) _ (HP4.out.keep S5)).mono ?_
            rintro e w6 ⟨rfl, hb6⟩
            have S6 : Below W4.heap.size W4 w6 := S5.trans (hb6.mono S5.size)
            show K _ w6
            refine hK.out _ _ S6 (fun hHeld3 => ?_)
            clear hK K hb6
            walk_nrm
            refine wpAnyL_take (i := 13) (v := ?_) rfl (by kernel_rfl) (fun _ _ _ h => h) (Or.inl ⟨by rfl, ?_⟩) (by assumption) ?_
            rotate_left
            · intro wS hSw; go_simp <;> with_reducible rfl
            walk_nrm
            refine wpAnyL_take (i := 14) (v := ?_) rfl (by kernel_rfl) (fun _ _ _ h => h) (Or.inl ⟨by rfl, ?_⟩) (by assumption) ?_
            rotate_left
            · intro wS hSw; go_simp <;> with_reducible rfl
            walk_nrm
            refine wpAnyL_step (i := 17) rfl (by kernel_rfl) (fun K hK => ?_)
            go_simp
            refine (itoa_is hcas hhb.2.2.1 hhb.2.2.2 _ (HP4.out.keep S6)).mono ?_
            rintro e w7 ⟨rfl, hb7⟩
            have S7 : Below W4.heap.size W4 w7 := S6.trans (hb7.mono S6.size)
            show K _ w7
            refine hK.out _ _ S7 (fun hHeld4 => ?_)
            clear hK K hb7
            walk_nrm
            refine wpAnyL_take (i := 18) (v := ?_) rfl (by kernel_rfl) (fun _ _ _ h => h) (Or.inl ⟨by rfl, ?_⟩) (by assumption) ?_
            rotate_left
            · intro wS hSw; go_simp <;> with_reducible rfl
            walk_nrm
            refine wpAnyL_take (i := 19) (v := ?_) rfl (by kernel_rfl) (fun _ _ _ h => h) (Or.inl ⟨by rfl, ?_⟩) (by assumption) ?_
            rotate_left
            · intro wS hSw; go_simp <;> with_reducible rfl
            walk_nrm
            refine wpAnyL_take (i := 22) (v := ?_) rfl (by kernel_rfl) (fun _ _ _ h => h) (Or.inl ⟨by rfl, ?_⟩) (by assumption) ?_
            rotate_left
            · intro wS hSw; go_simp <;> with_reducible rfl
            walk_nrm
            refine wpAnyL_take (i := 23) (v := ?_) rfl (by kernel_rfl) (fun _ _ _ h => h) (Or.inl ⟨by rfl, ?_⟩) (by assumption) ?_
            rotate_left
            · intro wS hSw; go_simp <;> with_reducible rfl
            walk_nrm
            refine wpAnyL_last rfl (by kernel_rfl) (fun K hK => ?_)
            go_simp
            have HBL7 := Lib.hid (HBL4.out.below S7)
            have HB7 := Lib.hid (HB4.out.trans (S7.mono HB4.out.size))
            have hz7 : b0 < w7.heap.size := by have := S7.size; omega
            clear S0 S5 S6 S7 hHeld hHeld2 hHeld3 hHeld4 L2 L3 L4 L5 L6 L7 L8 L9 L10 L11
            refine (bld_write b0 b0 sS (hitS ⟨hk, hf, hcas, hv⟩) _ HBL7.out HLN.out (by omega)).mono ?_
            rintro e w8 ⟨rfl, h8, hb8⟩
            have HBL8 := Lib.hid h8
            have HB8 := Lib.hid (HB7.out.trans (hb8.mono hb01))
            have hz8 : b0 < w8.heap.size := by have := hb8.size; omega
            show K _ w8
            refine hK.out _ _ ?_
            clear hK K h8 hb8
            walk_nrm
            refine wpAnyL_done (by kernel_rfl) ?_ _
            go_wp2_with fail
            go_roundw
            case rel => exact ⟨j + 1, sS ++ hitS ⟨hk, hf, hcas, hv⟩, by omega, by go_num, (by show _ = _; rw [HSN.out, ← HS.out]), HB8, HBL8, hz8, HY⟩
            case measure => simp [intOf]; omega
          ·
            have HALL : Hid (r.hits.all hitOK = true) := by
              show _ = _
              have := HA.out
              rwa [List.take_of_length_le (by rw [← hm0.out]; omega)] at this
            have HSS : Hid (sS = hitsS r.hits) := by show _ = _; rw [HS.out, List.take_of_length_le (by rw [← hm0.out]; omega)]
            have HLN := Lib.hid (show sS.size + sEND.size ≤ 140737488355328 by
              have := hitsS_size (l := r.hits) (fun x hx => (HR.out.hitB x hx).1) j (by rw [← hm0.out]; exact hj) HA.out
              have e : sEND.size = 4 := rfl
              rw [HS.out, e]; omega)
            rw [if_pos HALL.out, ← HSS.out] at HE
            go_wp2_with fail
            refine (bld_write b0 b0 sS sEND _ HBL.out HLN.out (by omega)).mono ?_
            rintro e w8 ⟨rfl, h8, hb8⟩
            have HBL8 := Lib.hid h8
            have HB8 := Lib.hid (HB.out.trans (hb8.mono hb01))
            have hz8 : b0 < w8.heap.size := by have := hb8.size; omega
            clear h8 hb8
            go_wp2_with fail
            refine (bld_string b0 b0 (sS ++ sEND) _ HBL8.out (by omega)).mono ?_
            rintro e w9 ⟨rfl, hb9⟩
            have HB9 := Lib.hid (HB8.out.trans (hb9.mono hb01))
            clear hb9
            go_wp2_with fail
            go_ret2
            cases HE.out
            exact ⟨rfl, HB9.out⟩
      ·
        rw [if_pos h1] at HE
        have hc : k = 2 ∨ k = 3 ∨ k = 4 ∨ k = 5 ∨ k = 6 ∨ k = 8 ∨ k = 9 ∨ k = 10 ∨ k = 11 ∨ k = 12 := by omega
        have HTW := Lib.hid (HTD.out.keep (Below.keeps HB1.out))
        clear h1 h7 hk0 HTD
        rcases hc with rfl | rfl | rfl | rfl | rfl | rfl | rfl | rfl | rfl | rfl
        · have q := HTW.out 2 (by decide)
          have LN : ¬ 9223372036854775807 < (toldS 2).size + 1 := by decide
          clear k1 k2
          go_wp2_with fail
          go_ret2
          cases HE.out
          exact ⟨rfl, HB1.out⟩
        · have q := HTW.out 3 (by decide)
          have LN : ¬ 9223372036854775807 < (toldS 3).size + 1 := by decide
          clear k1 k2
          go_wp2_with fail
          go_ret2
          cases HE.out
          exact ⟨rfl, HB1.out⟩
        · have q := HTW.out 4 (by decide)
          have LN : ¬ 9223372036854775807 < (toldS 4).size + 1 := by decide
          clear k1 k2
          go_wp2_with fail
          go_ret2
          cases HE.out
          exact ⟨rfl, HB1.out⟩
        · have q := HTW.out 5 (by decide)
          have LN : ¬ 9223372036854775807 < (toldS 5).size + 1 := by decide
          clear k1 k2
          go_wp2_with fail
          go_ret2
          cases HE.out
          exact ⟨rfl, HB1.out⟩
        · have q := HTW.out 6 (by decide)
          have LN : ¬ 9223372036854775807 < (toldS 6).size + 1 := by decide
          clear k1 k2
          go_wp2_with fail
          go_ret2
          cases HE.out
          exact ⟨rfl, HB1.out⟩
        · have q := HTW.out 8 (by decide)
          have LN : ¬ 9223372036854775807 < (toldS 8).size + 1 := by decide
          clear k1 k2
          go_wp2_with fail
          go_ret2
          cases HE.out
          exact ⟨rfl, HB1.out⟩
        · have q := HTW.out 9 (by decide)
          have LN : ¬ 9223372036854775807 < (toldS 9).size + 1 := by decide
          clear k1 k2
          go_wp2_with fail
          go_ret2
          cases HE.out
          exact ⟨rfl, HB1.out⟩
        · have q := HTW.out 10 (by decide)
          have LN : ¬ 9223372036854775807 < (toldS 10).size + 1 := by decide
          clear k1 k2
          go_wp2_with fail
          go_ret2
          cases HE.out
          exact ⟨rfl, HB1.out⟩
        · have q := HTW.out 11 (by decide)
          have LN : ¬ 9223372036854775807 < (toldS 11).size + 1 := by decide
          clear k1 k2
          go_wp2_with fail
          go_ret2
          cases HE.out
          exact ⟨rfl, HB1.out⟩
        · have q := HTW.out 12 (by decide)
          have LN : ¬ 9223372036854775807 < (toldS 12).size + 1 := by decide
          clear k1 k2
          go_wp2_with fail
          go_ret2
          cases HE.out
          exact ⟨rfl, HB1.out⟩
end Go.Proofs.YtbipegbgfdpaeaaDoor.D
