/-
 Contract: ref.StoreMay: may a store be?
-/
import Derived.Test.YtbeegfkfpkfccaaGreatDoorYCSCheck
import Derived.Test.YtbeegfkfpkfccaaGreatDoorYPlain
import Derived.Test.YtbeegfkfpkfccaaGreatDoorYCls
import Derived.Test.YtbeegfkfpkfccaaGreatDoorYRd
namespace Go.Proofs.YtbeegfkfpkfccaaGreatDoor.D
open Go.RowKit
def itemHead (s : Store) (x : Item) : Bool :=
 keyOK x.key && decide (0 ≤ x.flags ∧ x.flags ≤ 65535) && cnt x.till && decide (1 ≤ x.cas ∧ x.cas ≤ s.cas) && decide (1 ≤ x.used ∧ x.used ≤ s.uses) && decide (x.value.size ≤ 200)
def itemTail (s : Store) (x : Item) : Bool := if x.far then decide ((s.flash.read x.place).2 = 0) && decide (x.value.size = 0) && decide (24 ≤ (s.flash.read x.place).1.length) else decide (x.place = ⟨0, 0⟩)
theorem item_parts (s : Store) (x : Item) : itemOK s x = (itemHead s x && itemTail s x) := rfl
def SMayEnd (s : Store) (w : World) (e : Ending) (w' : World) : Prop := e = .returned (.bool s.ok) ∧ Below w.heap.size w w'
theorem smay_no {s : Store} {w w' : World} (h : s.ok = false) (hb : Below w.heap.size w w') : SMayEnd s w (.returned (.bool false)) w' := ⟨by rw [h], hb⟩
theorem big_is (n : Int) (t : Bool) (ht : Hid (cnt n = t)) (w : World) : Calls Tryz.prog 57 #[.int .i64 n] w fun e w' => e = .returned (.bool t) ∧ w = w' := by
 go_enter Tryz.func57, Tryz.ntmps57
 go_wp2_with fail
 refine (in_dec n 0 1099511627776 t ht.out.symm _).mono ?_;rintro e w1 ⟨rfl, rfl⟩
 go_wp2_with fail
 go_ret;exact ⟨rfl, rfl⟩
theorem keymay_is (s : ByteArray) (t : Bool) (ht : Hid (keyOK s = t)) (w : World) (hs : s.size ≤ 9223372036854775807) : Calls Tryz.prog 60 #[.string s] w fun e w' => e = .returned (.bool t) ∧ w = w' := by
 refine (ref_KeyMay s w hs).mono ?_;rintro e w' ⟨rfl, rfl⟩;exact ⟨by rw [← ht.out]; rfl, rfl⟩
theorem fread_is (f : Flash) (q : Place) (v : ByteArray) (n : Int) (hv : Hid (bl v = (f.read q).1)) (hn : Hid (n = (f.read q).2)) (a : Option Addr) (c : Nat) (w : World) (h : RowsAt w a 2 (PageR w) f.pages) (hl : f.pages.length ≤ 9223372036854775807) :
  Calls Tryz.prog 61 #[.agg #[.int .i64 f.most, .int .i64 f.next, .slice a f.pages.length c], .agg #[.int .i64 q.page, .int .i64 q.off]] w fun e w' => e = .returned (.tuple #[.string v, .int .i64 n]) ∧ Below w.heap.size w w' := by
 refine (ref_FlashRead f q a c w h hl).mono ?_;rintro e w' ⟨rfl, hb⟩;exact ⟨by rw [hn.out, ← hv.out, mk_bl], hb⟩
theorem fmay_is (f : Flash) (t : Bool) (ht : Hid (f.ok = t)) (a : Option Addr) (c : Nat) (w : World) (h : RowsAt w a 2 (PageR w) f.pages) (hc : f.pages.length ≤ 9223372036854775807) :
  Calls Tryz.prog 59 #[.agg #[.int .i64 f.most, .int .i64 f.next, .slice a f.pages.length c]] w fun e w' => e = .returned (.bool t) ∧ Below w.heap.size w w' := by
 refine (ref_FlashMay f a c w h hc).mono ?_;rintro e w' ⟨rfl, hb⟩;exact ⟨by rw [ht.out], hb⟩
theorem incls_is (s : Store) (q : Int) (n m : Int) (hn : Hid (n = countIn s.items q)) (hm : Hid (m = lastTo s.items q s.items.length)) (a fa : Option Addr) (c fc : Nat) (w : World) (hI : RowsAt w a 9 ItemR s.items) (hl : s.items.length ≤ 9223372036854775806) :
  Calls Tryz.prog 62 #[.agg (storeV s a c fa fc), .int .i64 q] w fun e w' => e = .returned (.tuple #[.int .i64 n, .int .i64 m]) ∧ Below w.heap.size w w' := by
 refine (ref_inClass s q a fa c fc w hI hl).mono ?_;rintro e w' ⟨rfl, hb⟩;exact ⟨by rw [hn.out, hm.out], hb⟩
theorem size_is (k : Nat) (y : Int) (hy : Hid (y = chunkAt k)) (hk : k < 4) (w : World) : Calls Tryz.prog 63 #[.int .i64 k] w (IdxC y w) := by
 have := ref_sizeOf k w hk
 rwa [← hy.out] at this
set_option maxHeartbeats 4000000 in
set_option maxRecDepth 100000 in
theorem ref_StoreMay (s : Store) (a fa : Option Addr) (c fc : Nat) (w : World) (hI : RowsAt w a 9 ItemR s.items) (hF : RowsAt w fa 2 (PageR w) s.flash.pages) (hl : s.items.length ≤ 9223372036854775806) (hfl : s.flash.pages.length ≤ 9223372036854775807) :
  Calls Tryz.prog 31 #[.agg (storeV s a c fa fc)] w (SMayEnd s w) := by
 have HI := hid hI;have HF := hid hF;clear hI hF;obtain ⟨t1, ht1⟩ : ∃ t, cnt s.clock = t := ⟨_, rfl⟩;obtain ⟨t2, ht2⟩ : ∃ t, cnt s.cas = t := ⟨_, rfl⟩;obtain ⟨t3, ht3⟩ : ∃ t, cnt s.uses = t := ⟨_, rfl⟩;obtain ⟨t4, ht4⟩ : ∃ t, t = decide (0 ≤ s.most ∧ s.most ≤ 40) := ⟨_, rfl⟩;obtain ⟨t6, ht6⟩ : ∃ t, s.flash.ok = t := ⟨_, rfl⟩;have H1 := hid ht1;have H2 := hid ht2;have H3 := hid ht3;have H4 := hid ht4;have H6 := hid ht6;clear ht1 ht2 ht3 ht4 ht6
 go_enter Tryz.func31, Tryz.ntmps31
 go_wp2_with fail
 obtain ⟨W0, hW0⟩ : ∃ W0, W0 = w.alloc (.cells (storeV s a c fa fc) 28) := ⟨_, rfl⟩;have hb0 : Below w.heap.size w W0 := by rw [hW0]; go_grown
 have hz0 : w.heap.size < W0.heap.size := by rw [hW0]; simp
 have HROW : Hid (W0.heap[w.heap.size]? = some (.cells (storeV s a c fa fc) 28 (0, 0))) := by show _ = _; rw [hW0]; exact blk_new w _
 have HS : Hid (∀ j v, (storeV s a c fa fc)[j]? = some v → W0.cell? ⟨w.heap.size, j, none⟩ = some v) := fun j v hv => by rw [hW0]; exact (cell_alloc_row w _ _ _ j).trans hv
 rw [← hW0];clear hW0;have HB0 := hid hb0;have HF0 := hid (HF.out.keep (Below.keeps hb0) (PageR.keep (Below.keeps hb0)));have s0 : W0.cell? ⟨w.heap.size, 0, none⟩ = some (.int .i64 s.clock) := HS.out 0 _ rfl;have s1 : W0.cell? ⟨w.heap.size, 1, none⟩ = some (.int .i64 s.cas) := HS.out 1 _ rfl;have s2 : W0.cell? ⟨w.heap.size, 2, none⟩ = some (.int .i64 s.uses) := HS.out 2 _ rfl;have s3 : W0.cell? ⟨w.heap.size, 3, none⟩ = some (.int .i64 s.most) := HS.out 3 _ rfl;have s8 : W0.cell? ⟨w.heap.size, 8, none⟩ = some (.slice a s.items.length c) := HS.out 8 _ rfl;have s9 : W0.cell? ⟨w.heap.size, 9, none⟩ = some (.int .i64 s.flash.most) := HS.out 9 _ rfl;have s10 : W0.cell? ⟨w.heap.size, 10, none⟩ = some (.int .i64 s.flash.next) := HS.out 10 _ rfl;have s11 : W0.cell? ⟨w.heap.size, 11, none⟩ = some (.slice fa s.flash.pages.length fc) := HS.out 11 _ rfl;clear hb0 HF;refine (big_is s.clock t1 H1 _).mono ?_;rintro e w1 ⟨rfl, rfl⟩
 cases t1
 ·
  have HB : Hid (s.ok = false) := head_bad (by unfold headOK; rw [H1.out]; rfl)
  go_wp2_with fail
  go_ret;exact smay_no HB.out HB0.out
 go_wp2_with fail
 refine (big_is s.cas t2 H2 _).mono ?_;rintro e w1 ⟨rfl, rfl⟩
 cases t2
 ·
  have HB : Hid (s.ok = false) := head_bad (by unfold headOK; rw [H2.out]; simp)
  go_wp2_with fail
  go_ret;exact smay_no HB.out HB0.out
 go_wp2_with fail
 refine (big_is s.uses t3 H3 _).mono ?_;rintro e w1 ⟨rfl, rfl⟩
 cases t3
 ·
  have HB : Hid (s.ok = false) := head_bad (by unfold headOK; rw [H3.out]; simp)
  go_wp2_with fail
  go_ret;exact smay_no HB.out HB0.out
 go_wp2_with fail
 refine (in_dec s.most 0 40 t4 H4 _).mono ?_;rintro e w1 ⟨rfl, rfl⟩
 cases t4
 ·
  have HB : Hid (s.ok = false) := head_bad (by unfold headOK; rw [← H4.out]; simp)
  go_wp2_with fail
  go_ret;exact smay_no HB.out HB0.out
 obtain ⟨h4a, h4b⟩ : 0 ≤ s.most ∧ s.most ≤ 40 := of_decide_eq_true H4.out.symm
 by_cases h5 : s.items.length ≤ 1000
 rotate_left
 ·
  have HB : Hid (s.ok = false) := head_bad (by unfold headOK; rw [decide_eq_false h5]; simp)
  go_wp2_with fail
  go_ret;exact smay_no HB.out HB0.out
 go_wp2_with fail
 refine (fmay_is s.flash t6 H6 fa fc _ HF0.out hfl).mono ?_;rintro e w2 ⟨rfl, hb2⟩;have s3' := (hb2.cell (p := ⟨w.heap.size, 3, none⟩) hz0).trans s3;have s8' := (hb2.cell (p := ⟨w.heap.size, 8, none⟩) hz0).trans s8
 cases t6
 ·
  have HB : Hid (s.ok = false) := head_bad (by unfold headOK; rw [H6.out]; simp);have hbw : Below w.heap.size w w2 := HB0.out.trans (hb2.mono HB0.out.size);clear s0 s1 s2 s3 s8 s9 s10 s11 hb2
  go_wp2_with fail
  go_ret;exact smay_no HB.out hbw
 have HH : Hid (headOK s = true) := by
  show headOK s = true;unfold headOK; rw [H1.out, H2.out, H3.out, ← H4.out, decide_eq_true h5, H6.out]; rfl
 have HS1 := hid s1;have HS2 := hid s2;have HS3 := hid s3;have HS8 := hid s8;have HS9 := hid s9;have HS10 := hid s10;have HS11 := hid s11;clear s0 s1 s2 s3 s8 s9 s10 s11 s3'
 go_wp2_with fail
 go_loopw [3] (fun i wr => ∃ k : Nat, k ≤ s.items.length ∧ i = .int .i64 k ∧ Below W0.heap.size W0 wr ∧ Hid (goodTo s k)) (fun i _ => s.items.length - (intOf i).toNat)
 case atStart => exact ⟨0, Nat.zero_le _, rfl, hb2, ⟨rfl, rfl⟩⟩
 case round =>
  clear hb2 s8';obtain ⟨k, hk, rfl, hb, HGT⟩ := hrel;have r8 := (hb.cell (p := ⟨w.heap.size, 8, none⟩) hz0).trans HS8.out;have hbw : Below w.heap.size w wr := HB0.out.trans (hb.mono HB0.out.size);have hz1 : w.heap.size < wr.heap.size := by have := hb.size; omega
  by_cases hlt : k < s.items.length
  ·
   obtain ⟨b, o, rfl, hc⟩ := HI.out.pos (by omega);obtain ⟨cs, _, hcs, h3⟩ := hc k hlt
   have HPREV : Hid (∀ j, k = j + 1 → ∀ hj : j < s.items.length, w.cell? ⟨b, o + j * 9, none⟩ = some (.string s.items[j].key)) := by
    intro j _ hj;obtain ⟨cs', _, hR, h3'⟩ := hc j hj;rw [hR.1] at h3';exact h3' 0 _ rfl
   obtain ⟨x, hxx⟩ : ∃ x, x = s.items[k] := ⟨_, rfl⟩;rw [← hxx] at hcs;have HXX := hid hxx;have HIT := hid hcs;have hcs := hcs.1;subst hcs;obtain ⟨c0, c1, c2, c3, c4, c5, c6, c7, c8, hbb⟩ := item_cells (Below.keeps hbw) h3;clear h3 hc hxx;go_upto_region 7 with (fail);obtain ⟨W4, hW4⟩ : ∃ W4, W4 = wr.alloc (.cells #[.string x.key, .int .i64 x.flags, .int .i64 x.till, .int .i64 x.cas, .int .i64 x.used, .string x.value, .bool x.far, .int .i64 x.place.page, .int .i64 x.place.off] 83) := ⟨_, rfl⟩;have hb4 : Below W0.heap.size W0 W4 := by rw [hW4]; exact hb.alloc hb.size _
   have hz5 : wr.heap.size < W4.heap.size := by rw [hW4]; simp
   have e0 : W4.cell? ⟨wr.heap.size, 0, none⟩ = some (.string x.key) := by rw [hW4]; go_simp
   have e1 : W4.cell? ⟨wr.heap.size, 1, none⟩ = some (.int .i64 x.flags) := by rw [hW4]; go_simp
   have e2 : W4.cell? ⟨wr.heap.size, 2, none⟩ = some (.int .i64 x.till) := by rw [hW4]; go_simp
   have e3 : W4.cell? ⟨wr.heap.size, 3, none⟩ = some (.int .i64 x.cas) := by rw [hW4]; go_simp
   have e4 : W4.cell? ⟨wr.heap.size, 4, none⟩ = some (.int .i64 x.used) := by rw [hW4]; go_simp
   have e5 : W4.cell? ⟨wr.heap.size, 5, none⟩ = some (.string x.value) := by rw [hW4]; go_simp
   have e6 : W4.cell? ⟨wr.heap.size, 6, none⟩ = some (.bool x.far) := by rw [hW4]; go_simp
   have e7 : W4.cell? ⟨wr.heap.size, 7, none⟩ = some (.int .i64 x.place.page) := by rw [hW4]; go_simp
   have e8 : W4.cell? ⟨wr.heap.size, 8, none⟩ = some (.int .i64 x.place.off) := by rw [hW4]; go_simp
   rw [← hW4];clear hW4 hb r8 hbw c0 c1 c2 c3 c4 c5 c6 c7 c8;have HE : Hid (W4.cell? ⟨wr.heap.size, 0, none⟩ = some (.string x.key) ∧ W4.cell? ⟨wr.heap.size, 5, none⟩ = some (.string x.value) ∧ W4.cell? ⟨wr.heap.size, 6, none⟩ = some (.bool x.far) ∧ W4.cell? ⟨wr.heap.size, 7, none⟩ = some (.int .i64 x.place.page) ∧ W4.cell? ⟨wr.heap.size, 8, none⟩ = some (.int .i64 x.place.off)) := ⟨e0, e5, e6, e7, e8⟩;have HB4 := hid hb4;have d1 := (hb4.cell (p := ⟨w.heap.size, 1, none⟩) hz0).trans HS1.out;have d2 := (hb4.cell (p := ⟨w.heap.size, 2, none⟩) hz0).trans HS2.out;clear hb4
   go_cut [94] (fun t wx => t = .bool (!itemHead s x) ∧ W4 = wx)
   case first =>
    as_aux_lemma =>
     clear e6 e7 e8;obtain ⟨u1, hu1⟩ : ∃ t, keyOK x.key = t := ⟨_, rfl⟩;obtain ⟨u2, hu2⟩ : ∃ t, t = decide (0 ≤ x.flags ∧ x.flags ≤ 65535) := ⟨_, rfl⟩;obtain ⟨u3, hu3⟩ : ∃ t, cnt x.till = t := ⟨_, rfl⟩;obtain ⟨u4, hu4⟩ : ∃ t, t = decide (1 ≤ x.cas ∧ x.cas ≤ s.cas) := ⟨_, rfl⟩;obtain ⟨u5, hu5⟩ : ∃ t, t = decide (1 ≤ x.used ∧ x.used ≤ s.uses) := ⟨_, rfl⟩;have U1 := hid hu1;have U2 := hid hu2;have U3 := hid hu3;have U4 := hid hu4;have U5 := hid hu5;have HHD : Hid (itemHead s x = (u1 && u2 && u3 && u4 && u5 && decide (x.value.size ≤ 200))) := by show _ = _; unfold itemHead; rw [U1.out, ← U2.out, U3.out, ← U4.out, ← U5.out]
     clear hu1 hu2 hu3 hu4 hu5
     go_wp2_with fail
     refine (keymay_is x.key u1 U1 _ (Nat.le_trans HIT.out.2.1 (by decide))).mono ?_;rintro e w5 ⟨rfl, rfl⟩
     cases u1
     ·
      have HH2 : Hid (itemHead s x = false) := by show _ = _; rw [HHD.out]; simp
      go_wp2_with fail
      go_meet;exact ⟨by rw [HH2.out]; rfl, rfl⟩
     go_wp2_with fail
     refine (in_dec x.flags 0 65535 u2 U2 _).mono ?_;rintro e w5 ⟨rfl, rfl⟩
     cases u2
     ·
      have HH2 : Hid (itemHead s x = false) := by show _ = _; rw [HHD.out]; simp
      go_wp2_with fail
      go_meet;exact ⟨by rw [HH2.out]; rfl, rfl⟩
     go_wp2_with fail
     refine (big_is x.till u3 U3 _).mono ?_;rintro e w5 ⟨rfl, rfl⟩
     cases u3
     ·
      have HH2 : Hid (itemHead s x = false) := by show _ = _; rw [HHD.out]; simp
      go_wp2_with fail
      go_meet;exact ⟨by rw [HH2.out]; rfl, rfl⟩
     go_wp2_with fail
     refine (in_dec x.cas 1 s.cas u4 U4 _).mono ?_;rintro e w5 ⟨rfl, rfl⟩
     cases u4
     ·
      have HH2 : Hid (itemHead s x = false) := by show _ = _; rw [HHD.out]; simp
      go_wp2_with fail
      go_meet;exact ⟨by rw [HH2.out]; rfl, rfl⟩
     go_wp2_with fail
     refine (in_dec x.used 1 s.uses u5 U5 _).mono ?_;rintro e w5 ⟨rfl, rfl⟩
     cases u5
     ·
      have HH2 : Hid (itemHead s x = false) := by show _ = _; rw [HHD.out]; simp
      go_wp2_with fail
      go_meet;exact ⟨by rw [HH2.out]; rfl, rfl⟩
     by_cases hv : x.value.size ≤ 200
     ·have HH2 : Hid (itemHead s x = true) := by show _ = _; rw [HHD.out]; simp [hv]
      go_wp2_with fail
      go_meet;exact ⟨by rw [HH2.out]; simp; omega, rfl⟩
     ·have HH2 : Hid (itemHead s x = false) := by show _ = _; rw [HHD.out]; simp [hv]
      go_wp2_with fail
      go_meet;exact ⟨by rw [HH2.out]; simp; omega, rfl⟩
   case rest =>
    obtain ⟨rfl, rfl⟩ := hcut;clear e1 e2 e3 e4 d1 d2
    cases hhd : itemHead s x
    ·
     have HB : Hid (s.ok = false) := items_bad (item_bad hlt (by rw [← HXX.out, item_parts, hhd]; rfl));clear hhd
     go_wp2_with fail
     go_ret;exact smay_no HB.out (HB0.out.trans (HB4.out.mono HB0.out.size))
    have HHD := hid hhd;clear hhd;have d8 := (HB4.out.cell (p := ⟨w.heap.size, 8, none⟩) hz0).trans HS8.out;go_upto_region 9 with (fail)
    go_cut [108] (fun t wx => t = .bool (!orderOK s k) ∧ Below W4.heap.size W4 wx)
    case first =>
     rcases Nat.eq_zero_or_pos k with hk0 | hkp
     ·have HO : Hid (orderOK s k = true) := by show _ = _; rw [hk0]; rfl
      have hk1 : ¬ (0 : Int) < (k : Int) := by omega
      have hk2 : decide ((0 : Int) < (k : Int)) = false := decide_eq_false hk1;have hk3 : ¬ 0 < k := by omega
      have hk4 : decide (0 < k) = false := decide_eq_false hk3;clear hk0
      go_quiet (fail)
      go_wp2_with fail
      go_meet;exact ⟨by rw [HO.out]; rfl, below_drewN (Below.refl _ _) _⟩
     ·obtain ⟨j, hj⟩ : ∃ j, k = j + 1 := ⟨k - 1, by omega⟩
      have hjl : j < s.items.length := by omega
      have hp := Below.keeps (HB0.out.trans (HB4.out.mono HB0.out.size)) _ _ (HPREV.out j hj hjl);obtain ⟨y, hy⟩ : ∃ y, y = s.items[j].key := ⟨_, rfl⟩;rw [← hy] at hp
      have HO : Hid (orderOK s k = bytesLess (bl y) (bl x.key)) := by
       show _ = _;subst hj;rw [orderOK_succ hlt, hy, HXX.out]
      have hk1 : (0 : Int) < (k : Int) := by omega
      have hk2 : decide ((0 : Int) < (k : Int)) = true := decide_eq_true hk1;have hk4 : decide (0 < k) = true := decide_eq_true hkp;have hj0 : (0 : Int) ≤ (j : Int) := by omega
      have hj1 : (j : Int) < (s.items.length : Int) := by omega
      have hw1 : IntKind.i64.wrap ((k : Int) - 1) = (j : Int) := by rw [IntWalk.i64_in _ (by omega)]; omega
      clear hy hj
      go_quiet (fail)
      go_wp2_with fail
      go_meet;exact ⟨by rw [HO.out, ← le_flip, bl_toList, bl_toList], below_drewN (Below.refl _ _) _⟩
    case rest =>
     obtain ⟨rfl, hb5⟩ := hcut;have hbc : Below W0.heap.size W0 wc := HB4.out.trans (hb5.mono HB4.out.size);have hbwc : Below w.heap.size w wc := HB0.out.trans (hbc.mono HB0.out.size);clear e0 e5 e6 e7 e8 d8;have e5 := (hb5.cell (p := ⟨wr.heap.size, 5, none⟩) hz5).trans HE.out.2.1;have e6 := (hb5.cell (p := ⟨wr.heap.size, 6, none⟩) hz5).trans HE.out.2.2.1;have e7 := (hb5.cell (p := ⟨wr.heap.size, 7, none⟩) hz5).trans HE.out.2.2.2.1;have e8 := (hb5.cell (p := ⟨wr.heap.size, 8, none⟩) hz5).trans HE.out.2.2.2.2;have hz6 : wr.heap.size < wc.heap.size := by have := hb5.size; omega
     clear hb5
     cases ho : orderOK s k
     ·
      have HB : Hid (s.ok = false) := items_bad (order_bad hlt ho);clear ho
      go_wp2_with fail
      go_ret;exact smay_no HB.out hbwc
     have HO := hid ho;clear ho;have HGO : Hid (itemTail s x = true → goodTo s (k + 1)) := fun h => goodTo_step hlt HGT.out (by rw [← HXX.out, item_parts, HHD.out, h]; rfl) HO.out
     have HNO : Hid (itemTail s x = false → s.ok = false) := fun h => items_bad (item_bad hlt (by rw [← HXX.out, item_parts, h]; simp))
     obtain ⟨far, hfar⟩ : ∃ b, b = x.far := ⟨_, rfl⟩;rw [← hfar] at e6;have HFAR := hid hfar;clear hfar HGT HO HHD
     cases far
     ·
      have HG2 : Hid (itemTail s x = decide (x.place = ⟨0, 0⟩)) := by show _ = _; unfold itemTail; rw [← HFAR.out]; rfl
      obtain ⟨⟨pp, po⟩, hpl⟩ : ∃ p, p = x.place := ⟨_, rfl⟩;rw [← hpl] at e7 e8 HG2;clear hpl
      by_cases q1 : pp = 0
      ·by_cases q2 : po = 0
       ·have HR := hid (HGO.out (by rw [HG2.out, q1, q2]; rfl))
        subst q1 q2
        go_wp2_with fail
        go_roundw
        case rel => exact ⟨k + 1, by omega, by go_num, hbc, HR.out⟩
        case measure => simp [intOf]; omega
       ·have HR : Hid (s.ok = false) := HNO.out (by rw [HG2.out]; simp [q2])
        subst q1;have q3 : (po == 0) = false := by simp [q2]
        have q4 : (po != 0) = true := by simp [q2]
        clear q2
        go_wp2_with fail
        go_ret;exact smay_no HR.out hbwc
      ·have HR : Hid (s.ok = false) := HNO.out (by rw [HG2.out]; simp [q1])
       have q3 : (pp == 0) = false := by simp [q1]
       have q4 : (pp != 0) = true := by simp [q1]
       clear q1
       go_wp2_with fail
       go_ret;exact smay_no HR.out hbwc
     ·
      obtain ⟨rv, hrv⟩ : ∃ v : ByteArray, bl v = (s.flash.read x.place).1 := ⟨⟨(s.flash.read x.place).1.toArray⟩, bl_mk _⟩;obtain ⟨rn, hrn⟩ : ∃ n, n = (s.flash.read x.place).2 := ⟨_, rfl⟩;have HRV := hid hrv;have HRN := hid hrn
      have HG2 : Hid (itemTail s x = (decide (rn = 0) && decide (x.value.size = 0) && decide (24 ≤ rv.size))) := by
       show _ = _; unfold itemTail; rw [← HFAR.out, ← HRN.out, ← HRV.out, bl_length]; rfl
      have d9 := (hbc.cell (p := ⟨w.heap.size, 9, none⟩) hz0).trans HS9.out;have d10 := (hbc.cell (p := ⟨w.heap.size, 10, none⟩) hz0).trans HS10.out;have d11 := (hbc.cell (p := ⟨w.heap.size, 11, none⟩) hz0).trans HS11.out;have HFC := hid (HF0.out.keep (Below.keeps hbc) (PageR.keep (Below.keeps hbc)));clear hrv hrn
      go_wp2_with fail
      refine (fread_is s.flash x.place rv rn HRV HRN fa fc _ HFC.out hfl).mono ?_;rintro e w6 ⟨rfl, hb6⟩;have g5 := (hb6.cell (p := ⟨wr.heap.size, 5, none⟩) hz6).trans e5;have hbd : Below W0.heap.size W0 w6 := hbc.trans (hb6.mono hbc.size);have hbwd : Below w.heap.size w w6 := HB0.out.trans (hbd.mono HB0.out.size);clear hb6 hbc hbwc d9 d10 d11 e5 e6 e7 e8
      by_cases q1 : rn = 0
      rotate_left
      ·have HR : Hid (s.ok = false) := HNO.out (by rw [HG2.out, decide_eq_false q1]; rfl)
       have q3 : (rn == 0) = false := by simp [q1]
       have q4 : (rn != 0) = true := by simp [q1]
       clear q1
       go_wp2_with fail
       go_ret;exact smay_no HR.out hbwd
      ·have q3 : (rn == 0) = true := by simp [q1]
       have q4 : (rn != 0) = false := by simp [q1]
       have HG3 : Hid (itemTail s x = (decide (x.value.size = 0) && decide (24 ≤ rv.size))) := by show _ = _; rw [HG2.out, decide_eq_true q1]; rfl
       clear q1
       by_cases q5 : x.value.size = 0
       ·have hv0 : x.value.toList = [] := by rw [bl_toList]; exact List.eq_nil_of_length_eq_zero (by rw [bl_length]; exact q5)
        have hv1 : x.value.toList.isEmpty = true := by rw [hv0]; rfl
        have HG4 : Hid (itemTail s x = decide (24 ≤ rv.size)) := by show _ = _; rw [HG3.out, decide_eq_true q5]; rfl
        clear q5
        by_cases q6 : 24 ≤ rv.size
        ·have HR := hid (HGO.out (by rw [HG4.out, decide_eq_true q6]))
         go_wp2_with fail
         go_roundw
         case rel => exact ⟨k + 1, by omega, by go_num, hbd, HR.out⟩
         case measure => simp [intOf]; omega
        ·have HR : Hid (s.ok = false) := HNO.out (by rw [HG4.out, decide_eq_false q6])
         have q7 : rv.size < 24 := by omega
         clear q6
         go_wp2_with fail
         go_ret;exact smay_no HR.out hbwd
       ·have hv0 : ¬ x.value.toList = [] := fun h => q5 (by rw [bl_toList] at h; rw [← bl_length, h]; rfl)
        have hv1 : x.value.toList.isEmpty = false := by simp [hv0]
        have HR : Hid (s.ok = false) := HNO.out (by rw [HG3.out, decide_eq_false q5]; rfl);clear q5
        go_wp2_with fail
        go_ret;exact smay_no HR.out hbwd
  ·
   have hk2 : k = s.items.length := by omega
   have HGI : Hid (itemsAll s = true) := goodTo_end (by rw [← hk2]; exact HGT.out)
   have HELD : Hid (∀ k, k < 4 → W0.cell? ⟨w.heap.size, 4 + k, none⟩ = some (.int .i64 (heldAt s k))) := by
    intro k hk;refine HS.out (4 + k) _ ?_;have h : k = 0 ∨ k = 1 ∨ k = 2 ∨ k = 3 := by omega
    rcases h with rfl | rfl | rfl | rfl <;> rfl
   clear HGT hk hk2
   go_wp2_with fail
   obtain ⟨wo, rfl⟩ : ∃ wo : World, wo = wr := ⟨_, rfl⟩
   go_loopw [7, 8] (fun t i wz => ∃ k : Nat, ∃ m : Int, k ≤ 4 ∧ i = .int .i64 k ∧ t = .int .i64 m ∧ 0 ≤ m ∧ m ≤ 40 * k ∧ Hid (m = heldSum s k) ∧ Hid (∀ j, j < k → heldOK s (heldAt s j) = true) ∧ Hid (∀ j, j < k → fitAt s j = true) ∧ Below W0.heap.size W0 wz) (fun _ i _ => 4 - (intOf i).toNat)
   case atStart => exact ⟨0, 0, by omega, rfl, rfl, by omega, by omega, rfl, fun j hj => absurd hj (Nat.not_lt_zero _), fun j hj => absurd hj (Nat.not_lt_zero _), hb⟩
   case round =>
    clear hb r8 hbw hz1;obtain ⟨k, m, hk, rfl, rfl, m0, m1, HM, HG, HFT, hb⟩ := hrel
    by_cases hk4 : k < 4
    ·
     obtain ⟨x, hx⟩ : ∃ x, x = heldAt s k := ⟨_, rfl⟩;obtain ⟨y, hy⟩ : ∃ y, y = chunkAt k := ⟨_, rfl⟩;obtain ⟨z, hz'⟩ : ∃ z, z = 256 / y := ⟨_, rfl⟩;obtain ⟨v, hv⟩ : ∃ v, v = countIn s.items k := ⟨_, rfl⟩;obtain ⟨v2, hv2⟩ : ∃ v, v = lastTo s.items k s.items.length := ⟨_, rfl⟩;obtain ⟨tt, htt⟩ : ∃ t, t = decide (0 ≤ x ∧ x ≤ s.most) := ⟨_, rfl⟩;have hy1 := chunkAt_range k;have hv1 := countIn_le s.items k;have HX := hid hx;have HY := hid hy;have HV := hid hv;have HV2 := hid hv2;have HTT := hid htt;rw [← hy] at hy1;rw [← hv] at hv1;have HHE : Hid (heldOK s (heldAt s k) = tt) := by show _ = _; rw [← hx]; exact htt.symm
     have HF1 : Hid (fitAt s k = decide (v ≤ x * z)) := by show _ = _; unfold fitAt; rw [← hx, ← hy, ← hz', ← hv]
     have hz1 : 1 ≤ z ∧ z ≤ 8 := by
      rw [hz'];obtain ⟨a1, a2⟩ := hy1
      constructor
      ·exact (Int.le_ediv_iff_mul_le (by omega)).2 (by omega)
      ·have : 256 / y < 9 := (Int.ediv_lt_iff_lt_mul (by omega)).2 (by omega)
       omega
     have HZ := hid hz';obtain ⟨y0, y1⟩ := hy1;obtain ⟨v0, v1⟩ := hv1;obtain ⟨z0, z1⟩ := hz1;have hvk : v ≤ 1000 := by omega
     have HELDK := hid (HELD.out k hk4);clear hx hy hz' hv hv2 htt;have hk0 : (0 : Int) ≤ (k : Int) := by omega
     have hk1 : (k : Int) < 4 := by omega
     go_wp2_with (refine wpList_load_row rfl 28 _ rfl w.heap.size rfl _ _ _ _ ((hb.block _ hz0).trans HROW.out) Tryz.underlying28 rfl (by kernel_rfl) ?_)
     refine (incls_is s k v v2 HV HV2 a fa c fc _ ?_ hl).mono ?_
     ·exact HI.out.keep (Below.keeps (HB0.out.trans (hb.mono HB0.out.size))) (fun _ _ h => h)
     rintro e w6 ⟨rfl, hb6⟩;have hb7 : Below W0.heap.size W0 w6 := hb.trans (hb6.mono hb.size);clear hb hb6;go_upto_region 22 with (fail)
     go_cut [170] (fun t wx => t = .bool (!(tt && decide (v ≤ x * z))) ∧ Below w6.heap.size w6 wx)
     case first =>
      have c4 := (hb7.cell (p := ⟨w.heap.size, 4 + k, none⟩) hz0).trans HELDK.out;rw [← HX.out] at c4;have c3 := (hb7.cell (p := ⟨w.heap.size, 3, none⟩) hz0).trans HS3.out;have hz6 : w.heap.size < w6.heap.size := by have := hb7.size; omega
      cases tt
      ·
       refine wp_region_L (Below w6.heap.size w6) 19 20 (by kernel_rfl) (by kernel_rfl) (Below.refl _ _).drew (fun hHeld => ?_);refine tk 0 ?_ rfl (fun _ _ _ h=>h) (y:=?_) (h:=?_);rotate_left
       ·intro wS hSw; go_simp<;>with_reducible rfl
       walk_nrm;refine tk 1 ?_ rfl (fun _ _ _ h=>h) (y:=?_) (h:=?_);rotate_left
       ·intro wS hSw; go_simp<;>with_reducible rfl
       walk_nrm;refine tk 2 ?_ rfl (fun _ _ _ h=>h) (y:=?_) (h:=?_);rotate_left
       ·intro wS hSw; go_simp<;>with_reducible rfl
       walk_nrm;refine tk 3 ?_ rfl (fun _ _ _ h=>h) (y:=?_) (h:=?_);rotate_left
       ·intro wS hSw; have q := (hSw.cell (p := ⟨w.heap.size, 4 + k, none⟩) hz6).trans c4; go_simp<;>with_reducible rfl
       walk_nrm;refine tk 4 ?_ rfl (fun _ _ _ h=>h) (y:=?_) (h:=?_);rotate_left
       ·intro wS hSw; go_simp<;>with_reducible rfl
       walk_nrm;refine tk 5 ?_ rfl (fun _ _ _ h=>h) (y:=?_) (h:=?_);rotate_left
       ·intro wS hSw; have q := (hSw.cell (p := ⟨w.heap.size, 3, none⟩) hz6).trans c3; go_simp<;>with_reducible rfl
       walk_nrm;refine wpAnyL_step (i := 6) rfl (by kernel_rfl) (fun K hK => ?_);go_simp;refine (in_dec x 0 s.most false HTT _).mono ?_;rintro e w8 ⟨rfl, rfl⟩;show K _ _;refine hK.out _ _ hHeld (fun hHeld5 => ?_);clear hK K;walk_nrm;refine tk 7 ?_ rfl (fun _ _ _ h=>h) (y:=?_) (h:=?_);rotate_left
       ·intro wS hSw; go_simp<;>with_reducible rfl
       walk_nrm;refine tk 8 ?_ rfl (fun _ _ _ h=>h) (y:=?_) (h:=?_);rotate_left
       ·intro wS hSw; go_simp<;>with_reducible rfl
       walk_nrm;refine wpAnyL_take (i := 9) (v := undef) rfl (by kernel_rfl) (fun _ _ _ h => h) (Or.inr ⟨by rfl, rfl⟩) (by assumption) ?_;walk_nrm;refine wpAnyL_take (i := 10) (v := undef) rfl (by kernel_rfl) (fun _ _ _ h => h) (Or.inr ⟨by rfl, rfl⟩) (by assumption) ?_;walk_nrm;refine wpAnyL_take (i := 11) (v := undef) rfl (by kernel_rfl) (fun _ _ _ h => h) (Or.inr ⟨by rfl, rfl⟩) (by assumption) ?_;walk_nrm;refine wpAnyL_take (i := 12) (v := undef) rfl (by kernel_rfl) (fun _ _ _ h => h) (Or.inr ⟨by rfl, rfl⟩) (by assumption) ?_;walk_nrm;refine wpAnyL_take (i := 13) (v := undef) rfl (by kernel_rfl) (fun _ _ _ h => h) (Or.inr ⟨by rfl, rfl⟩) (by assumption) ?_;walk_nrm;refine wpAnyL_take (i := 14) (v := undef) rfl (by kernel_rfl) (fun _ _ _ h => h) (Or.inr ⟨by rfl, rfl⟩) (by assumption) ?_;walk_nrm;refine wpAnyL_take (i := 15) (v := undef) rfl (by kernel_rfl) (fun _ _ _ h => h) (Or.inr ⟨by rfl, rfl⟩) (by assumption) ?_;walk_nrm;refine wpAnyL_take (i := 16) (v := undef) rfl (by kernel_rfl) (fun _ _ _ h => h) (Or.inr ⟨by rfl, rfl⟩) (by assumption) ?_;walk_nrm;refine wpAnyL_take (i := 17) (v := undef) rfl (by kernel_rfl) (fun _ _ _ h => h) (Or.inr ⟨by rfl, rfl⟩) (by assumption) ?_;walk_nrm;refine wpAnyL_take (i := 18) (v := undef) rfl (by kernel_rfl) (fun _ _ _ h => h) (Or.inr ⟨by rfl, rfl⟩) (by assumption) ?_;walk_nrm;refine wpAnyL_last rfl (by kernel_rfl) (fun K hK => ?_);go_simp;refine hK.out _ _ ?_;clear hK K;walk_nrm;refine wpAnyL_done (by kernel_rfl) ?_ _
       go_wp2_with fail
       go_meet;exact ⟨rfl, (Below.refl _ _).drew⟩
      ·
       obtain ⟨x0, x1⟩ : 0 ≤ x ∧ x ≤ s.most := of_decide_eq_true HTT.out.symm;have hxz : 0 ≤ x * z ∧ x * z ≤ 320 := ⟨Int.mul_nonneg x0 (by omega), Int.le_trans (Int.mul_le_mul (show x ≤ 40 by omega) z1 (by omega) (by omega)) (by omega)⟩;obtain ⟨mm, hmm⟩ : ∃ m, m = x * z := ⟨_, rfl⟩;rw [← hmm] at hxz;obtain ⟨xz0, xz1⟩ := hxz;have hy0 : ¬ y = 0 := by omega
       have HDD : Hid ((!(true && decide (v ≤ mm))) = decide (mm < v)) := by show _ = _; by_cases h : v ≤ mm <;> simp [h] <;> omega
       have hd1 : Int.tdiv 256 y = z := by rw [HZ.out]; exact Int.tdiv_eq_ediv_of_nonneg (by omega)
       have hd2 : (256 : Int) / y = z := HZ.out.symm;have hd3 : x * z = mm := hmm.symm;have hw1 : IntKind.i64.wrap z = z := IntWalk.i64_in _ (by omega);have hw2 : IntKind.i64.wrap mm = mm := IntWalk.i64_in _ (by omega);have HMM := hid hmm;clear hmm;refine wp_region_L (Below w6.heap.size w6) 19 20 (by kernel_rfl) (by kernel_rfl) (Below.refl _ _).drew (fun hHeld => ?_);refine tk 0 ?_ rfl (fun _ _ _ h=>h) (y:=?_) (h:=?_);rotate_left
       ·intro wS hSw; go_simp<;>with_reducible rfl
       walk_nrm;refine tk 1 ?_ rfl (fun _ _ _ h=>h) (y:=?_) (h:=?_);rotate_left
       ·intro wS hSw; go_simp<;>with_reducible rfl
       walk_nrm;refine tk 2 ?_ rfl (fun _ _ _ h=>h) (y:=?_) (h:=?_);rotate_left
       ·intro wS hSw; go_simp<;>with_reducible rfl
       walk_nrm;refine tk 3 ?_ rfl (fun _ _ _ h=>h) (y:=?_) (h:=?_);rotate_left
       ·intro wS hSw; have q := (hSw.cell (p := ⟨w.heap.size, 4 + k, none⟩) hz6).trans c4; go_simp<;>with_reducible rfl
       walk_nrm;refine tk 4 ?_ rfl (fun _ _ _ h=>h) (y:=?_) (h:=?_);rotate_left
       ·intro wS hSw; go_simp<;>with_reducible rfl
       walk_nrm;refine tk 5 ?_ rfl (fun _ _ _ h=>h) (y:=?_) (h:=?_);rotate_left
       ·intro wS hSw; have q := (hSw.cell (p := ⟨w.heap.size, 3, none⟩) hz6).trans c3; go_simp<;>with_reducible rfl
       walk_nrm;refine wpAnyL_step (i := 6) rfl (by kernel_rfl) (fun K hK => ?_);go_simp;refine (in_dec x 0 s.most true HTT _).mono ?_;rintro e w8 ⟨rfl, rfl⟩;show K _ _;refine hK.out _ _ hHeld (fun hHeld5 => ?_);clear hK K;walk_nrm;refine tk 7 ?_ rfl (fun _ _ _ h=>h) (y:=?_) (h:=?_);rotate_left
       ·intro wS hSw; go_simp<;>with_reducible rfl
       walk_nrm;refine tk 8 ?_ rfl (fun _ _ _ h=>h) (y:=?_) (h:=?_);rotate_left
       ·intro wS hSw; go_simp<;>with_reducible rfl
       walk_nrm;refine tk 9 ?_ rfl (fun _ _ _ h=>h) (y:=?_) (h:=?_);rotate_left
       ·intro wS hSw; go_simp<;>with_reducible rfl
       walk_nrm;refine tk 10 ?_ rfl (fun _ _ _ h=>h) (y:=?_) (h:=?_);rotate_left
       ·intro wS hSw; go_simp<;>with_reducible rfl
       walk_nrm;refine tk 11 ?_ rfl (fun _ _ _ h=>h) (y:=?_) (h:=?_);rotate_left
       ·intro wS hSw; go_simp<;>with_reducible rfl
       walk_nrm;refine tk 12 ?_ rfl (fun _ _ _ h=>h) (y:=?_) (h:=?_);rotate_left
       ·intro wS hSw; go_simp<;>with_reducible rfl
       walk_nrm;refine tk 13 ?_ rfl (fun _ _ _ h=>h) (y:=?_) (h:=?_);rotate_left
       ·intro wS hSw; have q := (hSw.cell (p := ⟨w.heap.size, 4 + k, none⟩) hz6).trans c4; go_simp<;>with_reducible rfl
       walk_nrm;refine tk 14 ?_ rfl (fun _ _ _ h=>h) (y:=?_) (h:=?_);rotate_left
       ·intro wS hSw; go_simp<;>with_reducible rfl
       walk_nrm;refine wpAnyL_step (i := 15) rfl (by kernel_rfl) (fun K hK => ?_);go_simp;refine (size_is k y HY hk4 _).mono ?_;rintro e w8 ⟨rfl, hb8⟩;have S8 : Below w6.heap.size w6 w8 := hHeld.trans (hb8.mono hHeld.size);show K _ w8;refine hK.out _ _ S8 (fun hHeld8 => ?_);clear hK K hHeld hHeld5 hb8;walk_nrm;refine tk 16 ?_ rfl (fun _ _ _ h=>h) (y:=?_) (h:=?_);rotate_left
       ·intro wS hSw; go_simp<;>with_reducible rfl
       walk_nrm;refine tk 17 ?_ rfl (fun _ _ _ h=>h) (y:=?_) (h:=?_);rotate_left
       ·intro wS hSw; go_simp<;>with_reducible rfl
       walk_nrm;refine tk 18 ?_ rfl (fun _ _ _ h=>h) (y:=?_) (h:=?_);rotate_left
       ·intro wS hSw; go_simp<;>with_reducible rfl
       walk_nrm;refine wpAnyL_last rfl (by kernel_rfl) (fun K hK => ?_);go_simp;refine hK.out _ _ ?_;clear hK K;walk_nrm;refine wpAnyL_done (by kernel_rfl) ?_ _
       go_wp2_with fail
       go_meet;refine ⟨?_, S8⟩;rw [← HMM.out, HDD.out]
     case rest =>
      obtain ⟨rfl, hb8⟩ := hcut;have hbz : Below W0.heap.size W0 wc := hb7.trans (hb8.mono hb7.size);have hbwz : Below w.heap.size w wc := HB0.out.trans (hbz.mono HB0.out.size);have c4 := (hbz.cell (p := ⟨w.heap.size, 4 + k, none⟩) hz0).trans HELDK.out;rw [← HX.out] at c4;clear hb7 hb8
      cases hfit : (tt && decide (v ≤ x * z))
      ·have HB : Hid (s.ok = false) := by
        rw [Bool.and_eq_false_iff] at hfit
        rcases hfit with h | h
        ·exact held_bad hk4 (by rw [HHE.out, h])
        ·exact fit_bad hk4 (by rw [HF1.out, h])
       clear hfit
       go_wp2_with fail
       go_ret;exact smay_no HB.out hbwz
      ·rw [Bool.and_eq_true] at hfit
       obtain ⟨htt, hfit⟩ := hfit;obtain ⟨x0, x1⟩ : 0 ≤ x ∧ x ≤ s.most := of_decide_eq_true (HTT.out.symm.trans htt)
       have HG2 : Hid (∀ j, j < k + 1 → heldOK s (heldAt s j) = true) := fun j hj => by
        rcases Nat.lt_or_ge j k with h | h
        ·exact HG.out j h
        ·obtain rfl : j = k := by omega
         rw [HHE.out, htt]
       have HFT2 : Hid (∀ j, j < k + 1 → fitAt s j = true) := fun j hj => by
        rcases Nat.lt_or_ge j k with h | h
        ·exact HFT.out j h
        ·obtain rfl : j = k := by omega
         rw [HF1.out, hfit]
       have HM2 : Hid (m + x = heldSum s (k + 1)) := by show _ = _; rw [heldSum, ← HM.out, ← HX.out]
       clear htt hfit
       go_wp2_with fail
       go_roundw
       case rel => exact ⟨k + 1, m + x, by omega, by go_num, rfl, by omega, by omega, HM2, HG2, HFT2, hbz⟩
       case measure => simp [intOf]; omega
    ·
     obtain rfl : k = 4 := by omega
     have HHA : Hid (heldAll s = true) := held_good HG.out
     have HALL : Hid (s.ok = decide (m ≤ s.most)) := by
      show _ = _;rw [ok_parts, HH.out, HHA.out, HGI.out, HFT.out 0 (by omega), HFT.out 1 (by omega), HFT.out 2 (by omega), HFT.out 3 (by omega), HM.out, heldSum_4]; rfl
     have r3 := (hb.cell (p := ⟨w.heap.size, 3, none⟩) hz0).trans HS3.out;have hbw : Below w.heap.size w wr := HB0.out.trans (hb.mono HB0.out.size)
     go_wp2_with fail
     go_ret;exact ⟨by rw [HALL.out]; rfl, hbw⟩
end Go.Proofs.YtbeegfkfpkfccaaGreatDoor.D
