/-
  Contract: ref.ReplyText is a reply's text.
-/
import Derived.Test.YtbipegbgfdpaeaaDoorCHit
import Derived.Test.YtbipegbgfdpaeaaDoorCDec
import Derived.Test.YtbipegbgfdpaeaaDoorCKey
import Derived.Deep.LoopGhost
import Derived.Test.YtbipegbgfdpaeaaDoorCRegL
import Derived.Conc.WalkWords
import Derived.Deep.DeepCutAuto
import Derived.Deep.CutBlock
namespace Go.Proofs.YtbipegbgfdpaeaaDoor.D
open Go.RowKit
def TextEnd (s : ByteArray) (e : Int) (w : World) (x : Ending) (w' : World) : Prop := x = .returned (.tuple #[.string s, .int .i64 e]) ∧ Below w.heap.size w w'
set_option maxRecDepth 100000 in
theorem rtext_kind (k n : Int) (m : Nat) (a : Option Addr) (c : Nat) (w : World) (hk : ¬ (1 ≤ k ∧ k ≤ 12)) :
    Calls Tryd.prog 22 #[.agg #[.int .i64 k, .int .i64 n, .slice a m c]] w (TextEnd ByteArray.empty 3 w) := by
  have hb : decide (1 ≤ k ∧ k ≤ 12) = false := by simpa using hk
  clear hk
  go_enter Tryd.func22, Tryd.ntmps22
  go_wp2_with fail
  refine (ref_In _ _ _ _).mono ?_
  rintro e w' ⟨rfl, rfl⟩
  rw [hb]
  go_wp2_with fail
  go_ret2
  exact ⟨rfl, by go_grown⟩
set_option maxRecDepth 100000 in
set_option maxHeartbeats 1000000 in
theorem rtext_is (r : Reply) (T : ByteArray) (E : Int) (HT : Hid ((T, E) = replyText r)) (k n : Int) (m : Nat) (hk0 : Hid (k = r.kind)) (hn0 : Hid (n = r.n)) (hm0 : Hid (m = r.hits.length)) (hn1 : -9223372036854775808 ≤ n) (hn2 : n ≤ 9223372036854775807)
    (a : Option Addr) (c : Nat) (w : World) (HR : Hid (RowsAt w a 4 HitR r.hits)) (hk : 1 ≤ k ∧ k ≤ 12) :
    Calls Tryd.prog 22 #[.agg #[.int .i64 k, .int .i64 n, .slice a m c]] w (TextEnd T E w) := by
  have hb : decide (1 ≤ k ∧ k ≤ 12) = true := by simpa using hk
  obtain ⟨k1, k2⟩ := hk
  obtain ⟨t, ht⟩ : ∃ t, t = decide ((k ≠ 1 ∧ 0 < m) ∨ (k ≠ 7 ∧ n ≠ 0) ∨ 10 < m) := ⟨_, rfl⟩
  have HF := Lib.hid ht
  clear ht
  go_enter Tryd.func22, Tryd.ntmps22
  go_wp2_with fail
  refine (ref_In _ _ _ _).mono ?_
  rintro e w' ⟨rfl, rfl⟩
  rw [hb]
  clear hb
  obtain ⟨W1, hW1⟩ : ∃ W1, W1 = w.alloc (.cells #[.int .i64 k, .int .i64 n, .slice a m c] 45) := ⟨_, rfl⟩
  have HB1 := Lib.hid (show Below w.heap.size w W1 by rw [hW1]; go_grown)
  have hb1 : W1.heap[w.heap.size]? = some (.cells #[.int .i64 k, .int .i64 n, .slice a m c] 45 (0, 0)) := by rw [hW1]; exact blk_new w _
  rw [← hW1]
  clear hW1
  have p0 : W1.cell? ⟨w.heap.size, 0, none⟩ = some (.int .i64 k) := by rw [cell_of_row W1 _ _ _ _ _ hb1]; rfl
  have p1 : W1.cell? ⟨w.heap.size, 1, none⟩ = some (.int .i64 n) := by rw [cell_of_row W1 _ _ _ _ _ hb1]; rfl
  have p2 : W1.cell? ⟨w.heap.size, 2, none⟩ = some (.slice a m c) := by rw [cell_of_row W1 _ _ _ _ _ hb1]; rfl
  have HH1 := Lib.hid hb1
  clear hb1
  go_upto_region 3 with (fail)
  go_cut [0, 35] (fun _ v wx => v = .bool t ∧ wx = W1)
  case first =>
    go_wp2_with fail
    all_goals (go_meet; refine ⟨congrArg Value.bool ?_, rfl⟩; rw [HF.out, Bool.eq_iff_iff]; simp; omega)
  case rest =>
    obtain ⟨rfl, rfl⟩ := hcut
    cases t
    rotate_left
    ·
      have HE : Hid ((T, E) = (ByteArray.empty, 4)) := by
        show _ = _
        rw [HT.out, text_form (by rw [← hk0.out]; exact ⟨k1, k2⟩) (by rw [← hk0.out, ← hn0.out, ← hm0.out]; exact of_decide_eq_true HF.out.symm)]
      go_wp2_with fail
      go_ret2
      cases HE.out
      exact ⟨rfl, HB1.out⟩
    have HE : Hid ((T, E) = (if k = 7 then (decS n ++ sLine, 0) else if k ≠ 1 then (toldS k ++ sLine, 0) else if r.hits.all hitOK = true then (hitsS r.hits ++ sEND, 0) else (ByteArray.empty, 4))) := by
      show _ = _
      rw [HT.out, hk0.out, hn0.out]
      exact text_rest (by rw [← hk0.out]; exact ⟨k1, k2⟩) (by rw [← hk0.out, ← hn0.out, ← hm0.out]; exact of_decide_eq_false HF.out.symm)
    have hml : m ≤ 10 := by have := of_decide_eq_false HF.out.symm; omega
    clear HF HT hn0
    by_cases h7 : k = 7
    ·
      subst h7
      rw [if_pos rfl] at HE
      have LN : ¬ 9223372036854775807 < (decS n).size + 1 := by rw [decS_size]; have := decL_le hn1 hn2; omega
      go_wp2_with fail
      refine (ref_dec n hn1 hn2 _).mono ?_
      rintro e w2 ⟨rfl, hb2⟩
      have HB2 := Lib.hid (HB1.out.trans (hb2.mono HB1.out.size))
      clear hb2
      go_wp2_with fail
      go_ret2
      cases HE.out
      exact ⟨rfl, HB2.out⟩
    rw [if_neg h7] at HE
    by_cases h1 : k = 1
    ·
      subst h1
      rw [if_neg (by decide)] at HE
      go_wp2_with fail
      go_loopw [4, 5] (fun s i wr => ∃ (j : Nat) (sS : ByteArray), j ≤ m ∧ s = .string sS ∧ i = .int .i64 j ∧ Hid (sS = hitsS (r.hits.take j)) ∧ Hid (Below w.heap.size w wr) ∧ Hid (wr.heap[w.heap.size]? = some (.cells #[.int .i64 1, .int .i64 n, .slice a m c] 45 (0, 0))) ∧ Hid ((r.hits.take j).all hitOK = true)) (fun _ i _ => m - (intOf i).toNat)
      case atStart => exact ⟨0, ByteArray.empty, Nat.zero_le _, rfl, rfl, rfl, HB1, HH1, rfl⟩
      case round =>
        obtain ⟨j, sS, hj, rfl, rfl, HS, HB, HH, HA⟩ := hrel
        clear p0 p1 p2
        have q2 : wr.cell? ⟨w.heap.size, 2, none⟩ = some (.slice a m c) := by rw [cell_of_row wr _ _ _ _ _ HH.out]; rfl
        by_cases hlt : j < m
        ·
          have hlt2 : j < r.hits.length := by rw [← hm0.out]; exact hlt
          obtain ⟨b, o, rfl, hc⟩ := HR.out.pos (by omega)
          obtain ⟨cs, _, ⟨hcs, hz1, hz2, hhb⟩, h3⟩ := hc j hlt2
          have HNO := Lib.hid (all_no hlt2)
          have HYES := Lib.hid (all_hit hlt2 HA.out)
          have HSN := Lib.hid (hitsS_snoc r.hits j hlt2)
          have HSZ := Lib.hid (hitsS_size (l := r.hits) (fun x hx => (HR.out.hitB x hx).1) j (by omega) HA.out)
          obtain ⟨⟨hk, hf, hcas, hv⟩, hh⟩ : ∃ h, h = r.hits[j] := ⟨_, rfl⟩
          rw [← hh] at hcs hz1 hz2 hhb HNO HYES HSN
          simp only at hz1 hz2
          unfold HitB at hhb
          simp only at hhb
          unfold hitCells at hcs
          simp only at hcs
          subst hcs
          have hkp := Below.keeps HB.out
          have c0 := hkp _ _ (h3 0 _ rfl)
          have c1 := hkp _ _ (h3 1 _ rfl)
          have c2 := hkp _ _ (h3 2 _ rfl)
          have c3 := hkp _ _ (h3 3 _ rfl)
          rw [Nat.add_zero] at c0
          have hzk : hk.size ≤ 9223372036854775807 := Nat.le_trans hz1 (by decide)
          clear h3 hc hkp hlt2 hh
          go_wp2_with fail
          obtain ⟨W2, hW2⟩ : ∃ W2, W2 = wr.alloc (.cells #[.string hk, .int .i64 hf, .int .i64 hcas, .string hv] 95) := ⟨_, rfl⟩
          have hbl2 : Below wr.heap.size wr W2 := by rw [hW2]; go_grown
          have hblk : W2.heap[wr.heap.size]? = some (.cells #[.string hk, .int .i64 hf, .int .i64 hcas, .string hv] 95 (0, 0)) := by rw [hW2]; exact blk_new wr _
          have hzw : w.heap.size < wr.heap.size := (Array.getElem?_eq_some_iff.1 HH.out).1
          have hz3 : wr.heap.size < W2.heap.size := by rw [hW2]; simp
          rw [← hW2]
          clear hW2 c0 c1 c2 c3
          have HB2 := Lib.hid (HB.out.trans (hbl2.mono HB.out.size))
          have HH2 := Lib.hid ((hbl2.block w.heap.size hzw).trans HH.out)
          have c0 : W2.cell? ⟨wr.heap.size, 0, none⟩ = some (.string hk) := by rw [cell_of_row W2 _ _ _ _ _ hblk]; rfl
          have c1 : W2.cell? ⟨wr.heap.size, 1, none⟩ = some (.int .i64 hf) := by rw [cell_of_row W2 _ _ _ _ _ hblk]; rfl
          have c2 : W2.cell? ⟨wr.heap.size, 2, none⟩ = some (.int .i64 hcas) := by rw [cell_of_row W2 _ _ _ _ _ hblk]; rfl
          have c3 : W2.cell? ⟨wr.heap.size, 3, none⟩ = some (.string hv) := by rw [cell_of_row W2 _ _ _ _ _ hblk]; rfl
          clear hblk hbl2
          obtain ⟨kb, hkb⟩ : ∃ kb, kb = keyL (bl hk) := ⟨_, rfl⟩
          have HKB : Hid (keyOK hk = kb) := hkb.symm
          refine (ref_KeyMay hk _ hzk).mono ?_
          rw [← hkb]
          rintro e w' ⟨rfl, rfl⟩
          clear hkb
          cases kb
          ·
            have HF := Lib.hid (HNO.out (by unfold hitOK; rw [HKB.out]; rfl))
            go_wp2_with fail
            go_ret2
            rw [HF.out] at HE
            cases HE.out
            exact ⟨rfl, HB2.out⟩
          by_cases hvs : hv.size ≤ 200
          rotate_left
          ·
            have HF := Lib.hid (HNO.out (by unfold hitOK; rw [decide_eq_false hvs, Bool.and_false]))
            have hvs2 : (200 : Int) < (hv.size : Int) := by omega
            go_wp2_with fail
            go_ret2
            rw [HF.out] at HE
            cases HE.out
            exact ⟨rfl, HB2.out⟩
          have HY := Lib.hid (HYES.out (by unfold hitOK; rw [HKB.out, decide_eq_true hvs]; rfl))
          have hks := keyOK_size HKB.out
          have hvs2 : (hv.size : Int) ≤ 200 := by omega
          clear HNO HYES HKB
          go_wp2_with fail
          have hdz := decL_le (n := hv.size) (by omega) (by omega)
          have hd1 := decL_le hhb.1 hhb.2.1
          have hd2 := decL_le hhb.2.2.1 hhb.2.2.2
          have hs0 : sS.size ≤ 2940 := by rw [HS.out]; have := HSZ.out; omega
          rw [← decS_size] at hdz hd1 hd2
          have L1 : ¬ 9223372036854775807 < sS.size + 6 := by omega
          have L2 : ¬ 9223372036854775807 < sS.size + 6 + hk.size := by omega
          have L3 : ¬ 9223372036854775807 < sS.size + 6 + hk.size + 1 := by omega
          have L4 : ¬ 9223372036854775807 < sS.size + 6 + hk.size + 1 + (decS hf).size := by omega
          have L5 : ¬ 9223372036854775807 < sS.size + 6 + hk.size + 1 + (decS hf).size + 1 := by omega
          have L6 : ¬ 9223372036854775807 < sS.size + 6 + hk.size + 1 + (decS hf).size + 1 + (decS hv.size).size := by omega
          have L7 : ¬ 9223372036854775807 < sS.size + 6 + hk.size + 1 + (decS hf).size + 1 + (decS hv.size).size + 1 := by omega
          have L8 : ¬ 9223372036854775807 < sS.size + 6 + hk.size + 1 + (decS hf).size + 1 + (decS hv.size).size + 1 + (decS hcas).size := by omega
          have L9 : ¬ 9223372036854775807 < sS.size + 6 + hk.size + 1 + (decS hf).size + 1 + (decS hv.size).size + 1 + (decS hcas).size + 1 := by omega
          have L10 : ¬ 9223372036854775807 < sS.size + 6 + hk.size + 1 + (decS hf).size + 1 + (decS hv.size).size + 1 + (decS hcas).size + 1 + hv.size := by omega
          have L11 : ¬ 9223372036854775807 < sS.size + 6 + hk.size + 1 + (decS hf).size + 1 + (decS hv.size).size + 1 + (decS hcas).size + 1 + hv.size + 1 := by omega
          have S0 : Below W2.heap.size W2 W2.drew := (Below.refl _ _).drew
          refine wp_region_L (Below W2.heap.size W2) 26 27 (by kernel_rfl) (by kernel_rfl) S0 (fun hHeld => ?_)
          clear hdz hd1 hd2 hs0
          refine wpAnyL_take (i := 0) (v := ?_) rfl (by kernel_rfl) (fun _ _ _ h => h) (Or.inl ⟨by rfl, ?_⟩) (by assumption) ?_
          rotate_left
          · intro wS hSw; go_simp <;> with_reducible rfl
          walk_nrm
          refine wpAnyL_take (i := 1) (v := ?_) rfl (by kernel_rfl) (fun _ _ _ h => h) (Or.inl ⟨by rfl, ?_⟩) (by assumption) ?_
          rotate_left
          · intro wS hSw; go_simp <;> with_reducible rfl
          walk_nrm
          refine wpAnyL_take (i := 2) (v := ?_) rfl (by kernel_rfl) (fun _ _ _ h => h) (Or.inl ⟨by rfl, ?_⟩) (by assumption) ?_
          rotate_left
          · intro wS hSw; go_simp <;> with_reducible rfl
          walk_nrm
          refine wpAnyL_take (i := 3) (v := ?_) rfl (by kernel_rfl) (fun _ _ _ h => h) (Or.inl ⟨by rfl, ?_⟩) (by assumption) ?_
          rotate_left
          · intro wS hSw; have q := (hSw.cell (p := ⟨wr.heap.size, 0, none⟩) hz3).trans c0; go_simp <;> with_reducible rfl
          walk_nrm
          refine wpAnyL_take (i := 4) (v := ?_) rfl (by kernel_rfl) (fun _ _ _ h => h) (Or.inl ⟨by rfl, ?_⟩) (by assumption) ?_
          rotate_left
          · intro wS hSw; go_simp <;> with_reducible rfl
          walk_nrm
          refine wpAnyL_take (i := 5) (v := ?_) rfl (by kernel_rfl) (fun _ _ _ h => h) (Or.inl ⟨by rfl, ?_⟩) (by assumption) ?_
          rotate_left
          · intro wS hSw; go_simp <;> with_reducible rfl
          walk_nrm
          refine wpAnyL_take (i := 6) (v := ?_) rfl (by kernel_rfl) (fun _ _ _ h => h) (Or.inl ⟨by rfl, ?_⟩) (by assumption) ?_
          rotate_left
          · intro wS hSw; go_simp <;> with_reducible rfl
          walk_nrm
          refine wpAnyL_take (i := 7) (v := ?_) rfl (by kernel_rfl) (fun _ _ _ h => h) (Or.inl ⟨by rfl, ?_⟩) (by assumption) ?_
          rotate_left
          · intro wS hSw; have q := (hSw.cell (p := ⟨wr.heap.size, 1, none⟩) hz3).trans c1; go_simp <;> with_reducible rfl
          walk_nrm
          refine wpAnyL_take (i := 11) (v := ?_) rfl (by kernel_rfl) (fun _ _ _ h => h) (Or.inl ⟨by rfl, ?_⟩) (by assumption) ?_
          rotate_left
          · intro wS hSw; go_simp <;> with_reducible rfl
          walk_nrm
          refine wpAnyL_take (i := 12) (v := ?_) rfl (by kernel_rfl) (fun _ _ _ h => h) (Or.inl ⟨by rfl, ?_⟩) (by assumption) ?_
          rotate_left
          · intro wS hSw; have q := (hSw.cell (p := ⟨wr.heap.size, 3, none⟩) hz3).trans c3; go_simp <;> with_reducible rfl
          walk_nrm
          refine wpAnyL_take (i := 13) (v := ?_) rfl (by kernel_rfl) (fun _ _ _ h => h) (Or.inl ⟨by rfl, ?_⟩) (by assumption) ?_
          rotate_left
          · intro wS hSw; go_simp <;> with_reducible rfl
          walk_nrm
          refine wpAnyL_take (i := 17) (v := ?_) rfl (by kernel_rfl) (fun _ _ _ h => h) (Or.inl ⟨by rfl, ?_⟩) (by assumption) ?_
          rotate_left
          · intro wS hSw; go_simp <;> with_reducible rfl
          walk_nrm
          refine wpAnyL_take (i := 18) (v := ?_) rfl (by kernel_rfl) (fun _ _ _ h => h) (Or.inl ⟨by rfl, ?_⟩) (by assumption) ?_
          rotate_left
          · intro wS hSw; have q := (hSw.cell (p := ⟨wr.heap.size, 2, none⟩) hz3).trans c2; go_simp <;> with_reducible rfl
          walk_nrm
          refine wpAnyL_take (i := 22) (v := ?_) rfl (by kernel_rfl) (fun _ _ _ h => h) (Or.inl ⟨by rfl, ?_⟩) (by assumption) ?_
          rotate_left
          · intro wS hSw; go_simp <;> with_reducible rfl
          walk_nrm
          refine wpAnyL_take (i := 23) (v := ?_) rfl (by kernel_rfl) (fun _ _ _ h => h) (Or.inl ⟨by rfl, ?_⟩) (by assumption) ?_
          rotate_left
          · intro wS hSw; have q := (hSw.cell (p := ⟨wr.heap.size, 3, none⟩) hz3).trans c3; go_simp <;> with_reducible rfl
          walk_nrm
          refine wpAnyL_step (i := 8) rfl (by kernel_rfl) (fun K hK => ?_)
          go_simp
          refine (ref_dec hf hhb.1 hhb.2.1 _).mono ?_
          rintro e w5 ⟨rfl, hb5⟩
          have S5 : Below W2.heap.size W2 w5 := S0.trans (hb5.mono S0.size)
          show K _ w5
          refine hK.out _ _ S5 (fun hHeld2 => ?_)
          clear hK K hb5
          walk_nrm
          refine wpAnyL_take (i := 9) (v := ?_) rfl (by kernel_rfl) (fun _ _ _ h => h) (Or.inl ⟨by rfl, ?_⟩) (by assumption) ?_
          rotate_left
          · intro wS hSw; go_simp <;> with_reducible rfl
          walk_nrm
          refine wpAnyL_take (i := 10) (v := ?_) rfl (by kernel_rfl) (fun _ _ _ h => h) (Or.inl ⟨by rfl, ?_⟩) (by assumption) ?_
          rotate_left
          · intro wS hSw; go_simp <;> with_reducible rfl
          walk_nrm
          refine wpAnyL_step (i := 14) rfl (by kernel_rfl) (fun K hK => ?_)
          go_simp
          refine (ref_dec hv.size (by omega) (by omega) _).mono ?_
          rintro e w6 ⟨rfl, hb6⟩
          have S6 : Below W2.heap.size W2 w6 := S5.trans (hb6.mono S5.size)
          show K _ w6
          refine hK.out _ _ S6 (fun hHeld3 => ?_)
          clear hK K hb6
          walk_nrm
          refine wpAnyL_take (i := 15) (v := ?_) rfl (by kernel_rfl) (fun _ _ _ h => h) (Or.inl ⟨by rfl, ?_⟩) (by assumption) ?_
          rotate_left
          · intro wS hSw; go_simp <;> with_reducible rfl
          walk_nrm
          refine wpAnyL_take (i := 16) (v := ?_) rfl (by kernel_rfl) (fun _ _ _ h => h) (Or.inl ⟨by rfl, ?_⟩) (by assumption) ?_
          rotate_left
          · intro wS hSw; go_simp <;> with_reducible rfl
          walk_nrm
          refine wpAnyL_step (i := 19) rfl (by kernel_rfl) (fun K hK => ?_)
          go_simp
          refine (ref_dec hcas hhb.2.2.1 hhb.2.2.2 _).mono ?_
          rintro e w7 ⟨rfl, hb7⟩
          have S7 : Below W2.heap.size W2 w7 := S6.trans (hb7.mono S6.size)
          show K _ w7
          refine hK.out _ _ S7 (fun hHeld4 => ?_)
          clear hK K hb7
          walk_nrm
          refine wpAnyL_take (i := 20) (v := ?_) rfl (by kernel_rfl) (fun _ _ _ h => h) (Or.inl ⟨by rfl, ?_⟩) (by assumption) ?_
          rotate_left
          · intro wS hSw; go_simp <;> with_reducible rfl
          walk_nrm
          refine wpAnyL_take (i := 21) (v := ?_) rfl (by kernel_rfl) (fun _ _ _ h => h) (Or.inl ⟨by rfl, ?_⟩) (by assumption) ?_
          rotate_left
          · intro wS hSw; go_simp <;> with_reducible rfl
          walk_nrm
          refine wpAnyL_take (i := 24) (v := ?_) rfl (by kernel_rfl) (fun _ _ _ h => h) (Or.inl ⟨by rfl, ?_⟩) (by assumption) ?_
          rotate_left
          · intro wS hSw; go_simp <;> with_reducible rfl
          walk_nrm
          refine wpAnyL_take (i := 25) (v := ?_) rfl (by kernel_rfl) (fun _ _ _ h => h) (Or.inl ⟨by rfl, ?_⟩) (by assumption) ?_
          rotate_left
          · intro wS hSw; go_simp <;> with_reducible rfl
          walk_nrm
          refine wpAnyL_last rfl (by kernel_rfl) (fun K hK => ?_)
          go_simp
          refine hK.out _ _ ?_
          clear hK K
          walk_nrm
          refine wpAnyL_done (by kernel_rfl) ?_ _
          have HB7 := Lib.hid (HB2.out.trans (S7.mono HB2.out.size))
          have HH7 := Lib.hid ((S7.block w.heap.size (by omega)).trans HH2.out)
          clear S0 S5 S6 S7 hHeld hHeld2 hHeld3 hHeld4 L1 L2 L3 L4 L5 L6 L7 L8 L9 L10 L11
          go_wp2_with fail
          go_roundw
          case rel => exact ⟨j + 1, _, by omega, rfl, by go_num, (by show _ = _; rw [HSN.out, ← HS.out]; exact hitS_left sS ⟨hk, hf, hcas, hv⟩), HB7, HH7, HY⟩
          case measure => simp [intOf]; omega
        ·
          have HALL : Hid (r.hits.all hitOK = true) := by
            show _ = _
            have := HA.out
            rwa [List.take_of_length_le (by rw [← hm0.out]; omega)] at this
          have HSS : Hid (sS = hitsS r.hits) := by show _ = _; rw [HS.out, List.take_of_length_le (by rw [← hm0.out]; omega)]
          have LN : ¬ 9223372036854775807 < sS.size + 4 := by
            have := hitsS_size (l := r.hits) (fun x hx => (HR.out.hitB x hx).1) j (by rw [← hm0.out]; exact hj) HA.out
            rw [HS.out]; omega
          rw [if_pos HALL.out, ← HSS.out] at HE
          go_wp2_with fail
          go_ret2
          cases HE.out
          exact ⟨rfl, HB.out⟩
    ·
      rw [if_pos h1] at HE
      have hc : k = 2 ∨ k = 3 ∨ k = 4 ∨ k = 5 ∨ k = 6 ∨ k = 8 ∨ k = 9 ∨ k = 10 ∨ k = 11 ∨ k = 12 := by omega
      clear h1 h7 hk0
      rcases hc with rfl | rfl | rfl | rfl | rfl | rfl | rfl | rfl | rfl | rfl
      all_goals
        have pz : ∀ ob, (wc.alloc ob).cell? ⟨w.heap.size, 0, none⟩ = wc.cell? ⟨w.heap.size, 0, none⟩ := fun ob => World.cell?_of_block (Below.heap_alloc wc ob w.heap.size (cell_lt p0))
        rw [p0] at pz
        clear k1 k2
        go_wp2_with fail
        go_ret2
        cases HE.out
        exact ⟨rfl, HB1.out.alloc HB1.out.size _⟩
end Go.Proofs.YtbipegbgfdpaeaaDoor.D
