/-
 Contract: snap.Decode.
-/
import Derived.Test.YtbeegfkfpkfccaaGreatDoorYZRd
import Derived.Test.YtbeegfkfpkfccaaGreatDoorYPOnce
import Derived.BigQuiet
namespace Go.Proofs.YtbeegfkfpkfccaaGreatDoor.D
open Go.RowKit
theorem seal_is (l : Str) (b0 b1 b2 b3 : UInt8) : sealOf l = [b0, b1, b2, b3] ↔ (ad l).2 * 65536 + (ad l).1 = b0.toNat * 16777216 + b1.toNat * 65536 + b2.toNat * 256 + b3.toNat := by
 have h := ad_lt l
 have h0 := b0.toNat_lt
 have h1 := b1.toNat_lt
 have h2 := b2.toNat_lt
 have h3 := b3.toNat_lt
 unfold sealOf
 constructor
 ·intro e
  simp only [List.cons.injEq, and_true] at e
  obtain ⟨e0, e1, e2, e3⟩ := e
  rw [← e0, ← e1, ← e2, ← e3, u8_back (by omega), u8_back (by omega), u8_back (by omega), u8_back (by omega)]
  omega
 ·intro e
  have q : ∀ (n : Nat) (c : UInt8), n = c.toNat → UInt8.ofNat n = c := fun n c hn => by rw [hn]; simp
  rw [q _ b0 (by omega), q _ b1 (by omega), q _ b2 (by omega), q _ b3 (by omega)]
theorem out_no {b : Str} {n : Int} {w V : World} {R : Nat} (h : Hid (decode b = (Store.zero, n))) (hb : Below w.heap.size w V) (hR : w.heap.size ≤ R) : OutSt (decode b).1 (decode b).2 w (.returned (.tuple #[.agg storeZt, .int .i64 n])) (V.setRow R storeZt) := by
 rw [h.out]; exact out_zeroR rfl (hb.trans (Below.setRow _ R _ hR))
theorem sum_at (l : Str) (m n : Nat) (hn : Hid (n = l.length)) (hm : Hid (m = (ad l).2 * 65536 + (ad l).1)) (a : Option Addr) (c : Nat) (w : World) (h : BytesAt w a l) (hl : n ≤ 140737488355328) :
  Calls Tryz.prog 44 #[.slice a n c] w fun e w' => e = .returned (.int .i64 m) ∧ w' = w := by
 have hn := hn.out
 subst hn
 refine (snap_sum l a c w h hl).mono ?_
 rintro e w' ⟨rfl, rfl⟩
 exact ⟨by rw [show (((ad l).2 : Int) * 65536 + ((ad l).1 : Nat)) = (m : Int) by rw [hm.out]; omega], rfl⟩
theorem or_at (x y s P m : Nat) (hP : P = 2 ^ s) (hx : x * P ≤ 4294967296) (hp : P ≤ 16777216) (hy : y < P) (hm : m = x * P + y) : bits .or .i64 (((x * P : Nat) : Int)) (y : Int) = (m : Int) := by
 subst hm
 have h := (bits_nat .i64 63 (by decide) (fun n h0 h1 => IntWalk.i64_in _ ⟨by omega, by omega⟩) (x * P) y (by omega) (by omega)).2
 rw [hP] at hy hx h ⊢
 rw [Nat.mul_comm x, ← Nat.two_pow_add_eq_or_of_lt hy] at h
 rw [Nat.mul_comm x]
 exact h
theorem seal_ors (d0 d1 d2 d3 : Nat) (l0 : d0 < 256) (l1 : d1 < 256) (l2 : d2 < 256) (l3 : d3 < 256) : ∃ m1 m2 m3 : Nat, m3 = d0 * 16777216 + d1 * 65536 + d2 * 256 + d3 ∧ m1 < 4294967296 ∧ m2 < 4294967296 ∧ m3 < 4294967296 ∧
  bits .or .i64 ((d0 : Int) * 16777216) ((d1 : Int) * 65536) = (m1 : Int) ∧ bits .or .i64 (m1 : Int) ((d2 : Int) * 256) = (m2 : Int) ∧ bits .or .i64 (m2 : Int) (d3 : Int) = (m3 : Int) := by
 have h1 := or_at d0 (d1 * 65536) 24 16777216 (d0 * 16777216 + d1 * 65536) (by decide) (by omega) (by omega) (by omega) rfl
 have h2 := or_at (d0 * 256 + d1) (d2 * 256) 16 65536 (d0 * 16777216 + d1 * 65536 + d2 * 256) (by decide) (by omega) (by omega) (by omega) (by omega)
 have h3 := or_at ((d0 * 256 + d1) * 256 + d2) d3 8 256 (d0 * 16777216 + d1 * 65536 + d2 * 256 + d3) (by decide) (by omega) (by omega) (by omega) (by omega)
 rw [show (d0 * 256 + d1) * 65536 = d0 * 16777216 + d1 * 65536 by omega] at h2
 rw [show ((d0 * 256 + d1) * 256 + d2) * 256 = d0 * 16777216 + d1 * 65536 + d2 * 256 by omega] at h3
 rw [show ((d0 * 16777216 : Nat) : Int) = (d0 : Int) * 16777216 by omega, show ((d1 * 65536 : Nat) : Int) = (d1 : Int) * 65536 by omega] at h1
 rw [show ((d2 * 256 : Nat) : Int) = (d2 : Int) * 256 by omega] at h2
 exact ⟨_, _, _, rfl, by omega, by omega, by omega, h1, h2, h3⟩
theorem ans_err {t : Store} {s : Rd} {e : Int} (h : s.fin.err = e) (he : e ≠ 0) : answer (t, s) = (Store.zero, e) := by unfold answer; rw [if_pos (by rw [h]; exact he), h]
theorem ans_bad {t : Store} {s : Rd} (h : s.fin.err = 0) (ht : t.ok = false) : answer (t, s) = (Store.zero, 8) := by unfold answer; rw [if_neg (by rw [h]; simp), if_pos ht]
theorem ans_ok {t : Store} {s : Rd} (h : s.fin.err = 0) (ht : t.ok = true) : answer (t, s) = (t, 0) := by unfold answer; rw [if_neg (by rw [h]; simp), if_neg (by rw [ht]; simp)]
/-- a block is as it was -/
def SameAt (S : Nat) (w w' : World) : Prop := w'.heap[S]? = w.heap[S]?
def Rd.skip : Nat → Rd → Rd
 | 0, s => s
 | k + 1, s => (Rd.skip k s).num.2
/-- the store behind so many of its four held numbers -/
def heldOf (a b c d : Int) (s : Rd) (k : Nat) : Store := ⟨a, b, c, d, if 0 < k then (s.skip 0).num.1 else 0, if 1 < k then (s.skip 1).num.1 else 0, if 2 < k then (s.skip 2).num.1 else 0, if 3 < k then (s.skip 3).num.1 else 0, [], ⟨0, 0, []⟩⟩
theorem held_put (a b c d : Int) (s : Rd) (k : Nat) (hk : k < 4) : (storeV (heldOf a b c d s k) none 0 none 0).setIfInBounds (4 + k) (.int .i64 (s.skip k).num.1) = storeV (heldOf a b c d s (k + 1)) none 0 none 0 := by
 match k, hk with
 | 0, _ => rfl
 | 1, _ => rfl
 | 2, _ => rfl
 | 3, _ => rfl
theorem head_held {a b c d i j : Int} {s s1 s2 s3 s4 s9 s10 : Rd} (h1 : (a, s1) = s.num) (h2 : (b, s2) = s1.num) (h3 : (c, s3) = s2.num) (h4 : (d, s4) = s3.num) (h9 : (i, s9) = (s4.skip 4).num) (h10 : (j, s10) = s9.num) :
  s.head = ({ heldOf a b c d s4 4 with flash := ⟨i, j, []⟩ }, s10) :=
 head_of h1 h2 h3 h4 (show _ = s4.num from rfl) (show _ = (s4.skip 1).num from rfl) (show _ = (s4.skip 2).num from rfl) (show (_, s4.skip 4) = (s4.skip 3).num from rfl) h9 h10
set_option maxRecDepth 100000 in
set_option maxHeartbeats 20000000 in
theorem snap_Decode (b : Str) (a : Option Addr) (c : Nat) (w : World) (hB : BytesAt w a b) (hc1 : b.length ≤ c) (hc2 : c ≤ 9223372036854775807) (hC : Chunks w) :
  Calls Tryz.prog 24 #[.slice a b.length c] w (OutSt (decode b).1 (decode b).2 w) := by
 have HB := hid hB
 have HC := hid hC
 clear hB hC
 by_cases hbig : 200000 < b.length
 ·
  have HD := hid (decode_big hbig)
  have hbi : (200000 : Int) < (b.length : Int) := by omega
  go_enter Tryz.func24, Tryz.ntmps24
  go_wp2_with (refine wpList_store_row rfl 28 _ _ rfl w.heap.size storeZt rfl rfl _ _ (blk_new w _) storeSize rfl zero_one ?_)
  exact bodyPost_ret (v := .tuple #[.agg storeZt, .int .i64 1]) (results_row_int rfl _ _ w.heap.size _ _ rfl rfl (run_loadVar_row _ _ _ _ _ _ _ (setRow_heap _ _ _ _ _ _ (blk_new w _)) Tryz.underlying28 rfl storeSize)) rfl (out_no HD (by go_grown) (Nat.le_refl _))
 by_cases hsh : b.length < 7
 ·
  have HD := hid (decode_short hbig hsh)
  have hbi : ¬ (200000 : Int) < (b.length : Int) := by omega
  have hsi : (b.length : Int) < 7 := by omega
  go_enter Tryz.func24, Tryz.ntmps24
  go_wp2_with (refine wpList_store_row rfl 28 _ _ rfl w.heap.size storeZt rfl rfl _ _ (blk_new w _) storeSize rfl zero_one ?_)
  exact bodyPost_ret (v := .tuple #[.agg storeZt, .int .i64 5]) (results_row_int rfl _ _ w.heap.size _ _ rfl rfl (run_loadVar_row _ _ _ _ _ _ _ (setRow_heap _ _ _ _ _ _ (blk_new w _)) Tryz.underlying28 rfl storeSize)) rfl (out_no HD (by go_grown) (Nat.le_refl _))
 have hbi : ¬ (200000 : Int) < (b.length : Int) := by omega
 have hsi : ¬ (b.length : Int) < 7 := by omega
 have hc7 : 7 ≤ c := by omega
 have st3 := run_str (HB.out.take 3) 3 c (by rw [List.length_take]; omega) (w.alloc (.cells storeZt 28)) (Below.keeps (by go_grown))
 by_cases hf : b.take 3 = [100, 99, 49]
 rotate_left
 ·
  have HD := hid (decode_form hbig hsh hf)
  have hx : (!List.take 3 b == [100, 99, 49]) = true := by simp [hf]
  clear hf
  go_enter Tryz.func24, Tryz.ntmps24
  go_wp2_with (refine wpList_store_row rfl 28 _ _ rfl w.heap.size storeZt rfl rfl _ _ (blk_new w _) storeSize rfl zero_one ?_)
  exact bodyPost_ret (v := .tuple #[.agg storeZt, .int .i64 4]) (results_row_int rfl _ _ w.heap.size _ _ rfl rfl (run_loadVar_row _ _ _ _ _ _ _ (setRow_heap _ _ _ _ _ _ (blk_new w _)) Tryz.underlying28 rfl storeSize)) rfl (out_no HD (by go_grown) (Nat.le_refl _))
 have hx : (!List.take 3 b == [100, 99, 49]) = false := by simp [hf]
 obtain ⟨bb, o, rfl, hcell⟩ := HB.out.pos (by omega)
 have hbb : bb < w.heap.size := by have h := hcell 0 (by omega); exact cell_lt h
 obtain ⟨k, hk⟩ : ∃ k, b.length = k + 4 := ⟨b.length - 4, by omega⟩
 obtain ⟨d0, hd0⟩ : ∃ d : Nat, d = (b[k]'(by omega)).toNat := ⟨_, rfl⟩
 obtain ⟨d1, hd1⟩ : ∃ d : Nat, d = (b[k + 1]'(by omega)).toNat := ⟨_, rfl⟩
 obtain ⟨d2, hd2⟩ : ∃ d : Nat, d = (b[k + 2]'(by omega)).toNat := ⟨_, rfl⟩
 obtain ⟨d3, hd3⟩ : ∃ d : Nat, d = (b[k + 3]'(by omega)).toNat := ⟨_, rfl⟩
 have q0 := hcell k (by omega)
 have q1 := hcell (k + 1) (by omega)
 have q2 := hcell (k + 2) (by omega)
 have q3 := hcell (k + 3) (by omega)
 rw [← hd0] at q0
 rw [← hd1] at q1
 rw [← hd2] at q2
 rw [← hd3] at q3
 have HSEAL : Hid (sealOf (b.take k) = b.drop k ↔ (ad (b.take k)).2 * 65536 + (ad (b.take k)).1 = d0 * 16777216 + d1 * 65536 + d2 * 256 + d3) := by
  show _ ↔ _
  have e : b.drop k = [b[k]'(by omega), b[k + 1]'(by omega), b[k + 2]'(by omega), b[k + 3]'(by omega)] := by
   rw [List.drop_eq_getElem_cons (by omega), List.drop_eq_getElem_cons (by omega), List.drop_eq_getElem_cons (by omega), List.drop_eq_getElem_cons (by omega), List.drop_of_length_le (by omega)]
  rw [e, seal_is, hd0, hd1, hd2, hd3]
 have l0 : d0 < 256 := by rw [hd0]; exact (b[k]'(by omega)).toNat_lt
 have l1 : d1 < 256 := by rw [hd1]; exact (b[k + 1]'(by omega)).toNat_lt
 have l2 : d2 < 256 := by rw [hd2]; exact (b[k + 2]'(by omega)).toNat_lt
 have l3 : d3 < 256 := by rw [hd3]; exact (b[k + 3]'(by omega)).toNat_lt
 have hal := ad_lt (b.take k)
 obtain ⟨m, hm⟩ : ∃ m, m = (ad (b.take k)).2 * 65536 + (ad (b.take k)).1 := ⟨_, rfl⟩
 have hkl : k ≤ 200000 := by omega
 have hk3 : 3 ≤ k := by omega
 have HBT := HB.out.take k
 have HFB := hid hf
 have HK := hid hk
 clear hd0 hd1 hd2 hd3 hcell hbi hsi hf
 have hbi : ¬ (200000 : Int) < (k : Int) + 4 := by omega
 have hsi : ¬ (k : Int) + 4 < 7 := by omega
 rw [hk] at hc1
 have HDS : Hid (m ≠ d0 * 16777216 + d1 * 65536 + d2 * 256 + d3 → decode b = (Store.zero, 9)) := by
  intro h
  have e : b.length - 4 = k := by omega
  exact decode_seal hbig hsh HFB.out (by rw [e]; exact fun h2 => h (by rw [hm]; exact HSEAL.out.1 h2))
 have HDB : Hid (m = d0 * 16777216 + d1 * 65536 + d2 * 256 + d3 → decode b = answer (Rd.store ⟨bodyIn b, 0⟩)) := by
  intro h
  have e : b.length - 4 = k := by omega
  exact decode_body hbig hsh HFB.out (by rw [e]; exact HSEAL.out.2 (by rw [← hm]; exact h))
 have HM := hid hm
 have HAL := hid hal
 have hml : m < 4294967296 := by rw [hm]; omega
 rw [hk]
 have HBT := hid HBT
 have Q0 := hid q0
 have Q1 := hid q1
 have Q2 := hid q2
 have Q3 := hid q3
 clear hk hbig hsh hm hal HFB HSEAL q0 q1 q2 q3
 go_enter Tryz.func24, Tryz.ntmps24
 go_upto_region 8 with (fail)
 obtain ⟨W0, hW0⟩ : ∃ W0, W0 = w.alloc (.cells storeZt 28) := ⟨_, rfl⟩
 have HB0 := hid (show Below w.heap.size w W0 by rw [hW0]; go_grown)
 have hz0 : w.heap.size + 1 = W0.heap.size := by rw [hW0]; simp
 have HR0 := hid (show W0.heap[w.heap.size]? = some (.cells storeZt 28 (0, 0)) by rw [hW0]; exact blk_new w _)
 rw [← hW0]
 clear hW0 st3 hx
 have q0 := (HB0.out.cell hbb).trans Q0.out
 have q1 := (HB0.out.cell hbb).trans Q1.out
 have q2 := (HB0.out.cell hbb).trans Q2.out
 have q3 := (HB0.out.cell hbb).trans Q3.out
 obtain ⟨m1, m2, m3, hm3, x1, x2, x3, r1, r2, r3⟩ := seal_ors d0 d1 d2 d3 l0 l1 l2 l3
 rw [← hm3] at HDS HDB
 have HTL : Hid (k = (b.take k).length) := by show _ = _; have := HK.out; rw [List.length_take]; omega
 have HB1 := hid (HBT.out.keep (Below.keeps HB0.out))
 have hkl2 : k ≤ 140737488355328 := by omega
 have i0 : (k : Int) < (k : Int) + 4 := by omega
 have ic : (k : Int) ≤ (c : Int) := by omega
 have i1 : (k : Int) + 1 < (k : Int) + 4 := by omega
 have i2 : (k : Int) + 2 < (k : Int) + 4 := by omega
 have i3 : (k : Int) + 3 < (k : Int) + 4 := by omega
 by_cases hmm : m = m3
 rotate_left
 ·
  have HD := hid (HDS.out hmm)
  have hme : ((m : Int) == (m3 : Int)) = false := by rw [beq_eq_false_iff_ne]; omega
  clear hmm
  go_quiet (first | (go_at_call 44; exact Calls.quiet_of_same (sum_at (b.take k) m k HTL HM _ c _ (HB1.out.stay rfl) hkl2)))
  have HRQ : Hid ((W0.drewN nq).heap[w.heap.size]? = some (.cells storeZt 28 (0, 0))) := HR0.out
  have HBQ : Hid (Below w.heap.size w (W0.drewN nq)) := ⟨HB0.out.os, HB0.out.tape, HB0.out.output, HB0.out.size, HB0.out.block⟩
  go_wp2_with (refine wpList_store_row rfl 28 _ _ rfl w.heap.size storeZt rfl rfl _ _ HRQ.out storeSize rfl zero_one ?_)
  exact bodyPost_ret (v := .tuple #[.agg storeZt, .int .i64 9]) (results_row_int rfl _ _ w.heap.size _ _ rfl rfl (run_loadVar_row _ _ _ _ _ _ _ (setRow_heap _ _ _ _ _ _ HRQ.out) Tryz.underlying28 rfl storeSize)) rfl (out_no HD HBQ.out (Nat.le_refl _))
 have HD := hid (HDB.out hmm)
 clear HDS HDB
 subst hmm
 go_quiet (first | (go_at_call 44; exact Calls.quiet_of_same (sum_at (b.take k) m k HTL HM _ c _ (HB1.out.stay rfl) hkl2)))
 have HRQ : Hid ((W0.drewN nq).heap[w.heap.size]? = some (.cells storeZt 28 (0, 0))) := HR0.out
 have HBQ : Hid (Below w.heap.size w (W0.drewN nq)) := ⟨HB0.out.os, HB0.out.tape, HB0.out.output, HB0.out.size, HB0.out.block⟩
 have hzq : w.heap.size + 1 = (W0.drewN nq).heap.size := hz0
 have HBB : Hid (BytesAt (W0.drewN nq) (some ⟨bb, o + 3, none⟩) (bodyIn b)) := by
  show BytesAt _ _ _
  have h := (HB1.out.stay (w' := W0.drewN nq) rfl).drop 3
  unfold bodyIn
  rw [show b.length - 4 = k by have := HK.out; omega]
  exact h
 have HLEN : Hid ((bodyIn b).length = k - 3) := by show _ = _; unfold bodyIn; have := HK.out; rw [List.length_drop, List.length_take]; omega
 have i4 : (3 : Int) ≤ (k : Int) := by omega
 clear HR0 HB0 hz0 q0 q1 q2 q3 i0 i1 i2 i3 HB1 HBT Q0 Q1 Q2 Q3 hm3 x1 x2 x3 r1 r2 r3 l0 l1 l2 l3 hml HM HAL HTL
 obtain ⟨WQ, hWQ⟩ : ∃ WQ, WQ = W0.drewN nq := ⟨_, rfl⟩
 rw [← hWQ] at HRQ HBQ hzq HBB
 rw [← hWQ]
 clear hWQ nq
 have HZQ := hid hzq
 clear hzq W0 hkl hkl2 hc7 hbi hsi
 go_wp2_with fail
 obtain ⟨W1, hW1⟩ : ∃ W1, W1 = WQ.alloc (.cells #[.slice (some ⟨bb, o + 3, none⟩) (k - 3) (c - 3), .int .i64 0] 104) := ⟨_, rfl⟩
 have hbl : Below WQ.heap.size WQ W1 := by rw [hW1]; exact (Below.refl _ _).alloc (Nat.le_refl _) _
 have hzq := HZQ.out
 have HS0 : Hid (Rdr WQ.heap.size W1 ⟨bodyIn b, 0⟩) := by
  refine ⟨bb, o + 3, c - 3, ?_, HBB.out.keep (Below.keeps hbl), by have := HLEN.out; show (bodyIn b).length ≤ c - 3; omega, by omega, by omega⟩
  rw [hW1, blk_new]
  show _ = some (Obj.cells #[.slice _ (bodyIn b).length _, .int .i64 0] _ _)
  rw [HLEN.out]
 have hz1 : WQ.heap.size + 1 = W1.heap.size := by rw [hW1]; simp
 have hgR : w.heap.size < WQ.heap.size := by omega
 have HR1 := hid ((hbl.block w.heap.size (by omega)).trans HRQ.out)
 have HG1 := hid (HBQ.out.trans (hbl.mono (by omega)))
 rw [← hW1]
 clear hW1 hbl HRQ HBQ HZQ HBB HLEN hzq i4 ic hc1 hc2 hbb HB HK
 obtain ⟨⟨ea, s1⟩, ha⟩ : ∃ p, p = (⟨bodyIn b, 0⟩ : Rd).num := ⟨_, rfl⟩
 obtain ⟨⟨eb, s2⟩, hb⟩ : ∃ p, p = s1.num := ⟨_, rfl⟩
 obtain ⟨⟨ec, s3⟩, hc⟩ : ∃ p, p = s2.num := ⟨_, rfl⟩
 obtain ⟨⟨ed, s4⟩, hd⟩ : ∃ p, p = s3.num := ⟨_, rfl⟩
 have HA := hid ha
 have HBB := hid hb
 have HCC := hid hc
 have HDD := hid hd
 clear ha hb hc hd hk3 HBT
 refine (num_isZ WQ.heap.size ⟨bodyIn b, 0⟩ ea s1 HA _ HS0.out).mono ?_
 rintro e W2 ⟨rfl, hr, hgr⟩
 have hz2 := Nat.le_trans (Nat.le_of_eq hz1) hgr.size
 have HR2 := hid ((hgr.block w.heap.size (by omega) (by simp; omega)).trans HR1.out)
 have HS2 := hid hr
 have HG2 := hid (HG1.out.grown hgr (by omega) (fun b e => by cases e; omega))
 clear hr hgr
 go_wp2_with fail
 refine (num_isZ WQ.heap.size s1 eb s2 HBB _ HS2.out).mono ?_
 rintro e W3 ⟨rfl, hr, hgr⟩
 have hz3 := Nat.le_trans hz2 hgr.size
 have HR3 := hid ((hgr.block w.heap.size (by omega) (by simp; omega)).trans HR2.out)
 have HS3 := hid hr
 have HG3 := hid (HG2.out.grown hgr (by omega) (fun b e => by cases e; omega))
 clear hr hgr
 go_wp2_with fail
 refine (num_isZ WQ.heap.size s2 ec s3 HCC _ HS3.out).mono ?_
 rintro e W4 ⟨rfl, hr, hgr⟩
 have hz4 := Nat.le_trans hz3 hgr.size
 have HR4 := hid ((hgr.block w.heap.size (by omega) (by simp; omega)).trans HR3.out)
 have HS4 := hid hr
 have HG4 := hid (HG3.out.grown hgr (by omega) (fun b e => by cases e; omega))
 clear hr hgr
 go_wp2_with fail
 refine (num_isZ WQ.heap.size s3 ed s4 HDD _ HS4.out).mono ?_
 rintro e W5 ⟨rfl, hr, hgr⟩
 have hz5 := Nat.le_trans hz4 hgr.size
 have HR5 := hid ((hgr.block w.heap.size (by omega) (by simp; omega)).trans HR4.out)
 have HS5 := hid hr
 have HG5 := hid (HG4.out.grown hgr (by omega) (fun b e => by cases e; omega))
 clear hr hgr
 clear HR1 HR2 HR3 HR4 HS0 HS2 HS3 HS4 HG1 HG2 HG3 HG4 hz1 hz2 hz3 hz4
 obtain ⟨V0, hV0⟩ : ∃ V0, V0 = W5.alloc (.cells (storeV (heldOf ea eb ec ed s4 0) none 0 none 0) 28) := ⟨_, rfl⟩
 go_upto_region 12 with (fail)
 show Code.wp _ _ _ _ (W5.alloc (.cells (storeV (heldOf ea eb ec ed s4 0) none 0 none 0) 28))
 rw [← hV0]
 have hbV := (show Below W5.heap.size W5 V0 by rw [hV0]; go_grown)
 have hRS : w.heap.size < W5.heap.size := by omega
 have hgS : WQ.heap.size < W5.heap.size := by omega
 have HDEC0 : Hid (Dec w w.heap.size W5.heap.size V0 (heldOf ea eb ec ed s4 0) none none 0 0 []) :=
  ⟨(hbV.block w.heap.size (by omega)).trans HR5.out, by rw [hV0]; exact blk_new W5 _, World.ownsRow_nil _ _ _ _, PagesT.nil _ _, HG5.out.trans (hbV.mono (by omega))⟩
 have HSV : Hid (Rdr WQ.heap.size V0 (s4.skip 0)) := HS5.out.stay (fun j hj => hbV.block j (by omega))
 clear hV0 hbV HR5 HS5 HG5 hz5 W1 W2 W3 W4
 go_wp2_with fail
 go_loopw [78] (fun i wr => ∃ kk : Nat, kk ≤ 4 ∧ i = .int .i64 kk ∧ Hid (Rdr WQ.heap.size wr (s4.skip kk)) ∧ Hid (Dec w w.heap.size W5.heap.size wr (heldOf ea eb ec ed s4 kk) none none 0 0 [])) (fun i _ => 4 - (intOf i).toNat)
 case atStart => exact ⟨0, by omega, rfl, HSV, HDEC0⟩
 case round =>
  obtain ⟨kk, hkk, rfl, HRD, HDC⟩ := hrel
  clear HSV HDEC0
  by_cases hlt : kk < 4
  ·
   obtain ⟨v, hv⟩ : ∃ v, v = (s4.skip kk).num.1 := ⟨_, rfl⟩
   have HN : Hid ((v, s4.skip (kk + 1)) = (s4.skip kk).num) := by show _ = _; rw [hv]; rfl
   have HP := hid (held_put ea eb ec ed s4 kk hlt)
   rw [← hv] at HP
   have hli : (kk : Int) < 4 := by omega
   clear hv
   go_wp2_with fail
   refine (num_isZ WQ.heap.size (s4.skip kk) v (s4.skip (kk + 1)) HN _ HRD.out).mono ?_
   rintro e X1 ⟨rfl, hr, hgr⟩
   obtain ⟨rb, ro, rc, rhh, _⟩ := HRD.out.ex
   have HD1 := hid (HDC.out.read hgr rhh (by decide) hgR hgS (by omega))
   have HS1 := hid hr
   obtain ⟨u, cu⟩ : ∃ u, X1.cell? ⟨W5.heap.size, 4 + kk, none⟩ = some u := ⟨(storeV (heldOf ea eb ec ed s4 kk) none 0 none 0)[4 + kk]'(by show 4 + kk < 12; omega), by rw [cell_of_row X1 _ _ _ _ _ HD1.out.box]; exact Array.getElem?_eq_getElem _⟩
   have fu : X1.frozen? ⟨W5.heap.size, 4 + kk, none⟩ = false := frozen_of_row X1 _ _ _ _ HD1.out.box
   have HD2 : Hid (Dec w w.heap.size W5.heap.size (X1.setCell ⟨W5.heap.size, 4 + kk, none⟩ (.int .i64 v)) (heldOf ea eb ec ed s4 (kk + 1)) none none 0 0 []) := HD1.out.put HP.out rfl rfl (by omega) (by omega)
   have HS2 : Hid (Rdr WQ.heap.size (X1.setCell ⟨W5.heap.size, 4 + kk, none⟩ (.int .i64 v)) (s4.skip (kk + 1))) := HS1.out.stay (fun j hj => Below.heap_setCell X1 ⟨W5.heap.size, 4 + kk, none⟩ _ j (show j ≠ W5.heap.size by omega))
   clear hr hgr rhh HRD HDC HS1 HD1
   go_wp2_with fail
   go_roundw
   case rel => first | exact ⟨kk + 1, by omega, by go_num, HS2, HD2⟩ | ((repeat apply Exists.intro); exact ⟨⟨kk + 1, by omega, by go_num, HS2, HD2⟩, rfl⟩)
   case measure => simp [intOf]; omega
  ·
   obtain rfl : kk = 4 := by omega
   clear hlt hkk
   obtain ⟨⟨ei, s9⟩, hi⟩ : ∃ p, p = (s4.skip 4).num := ⟨_, rfl⟩
   obtain ⟨⟨ej, s10⟩, hj⟩ : ∃ p, p = s9.num := ⟨_, rfl⟩
   have HEAD := hid (head_held HA.out HBB.out HCC.out HDD.out hi hj)
   have HII := hid hi
   have HJJ := hid hj
   have hjr : 0 ≤ ej ∧ ej < 4398046511104 := by have := num_lt s9; rw [← hj] at this; exact this
   have HJR := hid hjr
   clear hi hj HA HBB HCC HDD hjr
   go_wp2_with fail
   refine (num_isZ WQ.heap.size (s4.skip 4) ei s9 HII _ HRD.out).mono ?_
   rintro e X1 ⟨rfl, hr, hgr⟩
   obtain ⟨rb, ro, rc, rhh, _⟩ := HRD.out.ex
   have HD1 := hid (HDC.out.read hgr rhh (by decide) hgR hgS (by omega))
   have HS1 := hid hr
   clear hr hgr rhh HRD HDC
   go_wp2_with fail
   refine (num_isZ WQ.heap.size s9 ej s10 HJJ _ HS1.out).mono ?_
   rintro e X2 ⟨rfl, hr, hgr⟩
   obtain ⟨rb2, ro2, rc2, rhh, _⟩ := HS1.out.ex
   have HD2 := hid (HD1.out.read hgr rhh (by decide) hgR hgS (by omega))
   have HS2 := hid hr
   clear hr hgr rhh HS1 HD1
   have c9 : X2.cell? ⟨W5.heap.size, 9, none⟩ = some (.int .i64 0) := cor HD2.out.box rfl
   have c10 : X2.cell? ⟨W5.heap.size, 10, none⟩ = some (.int .i64 0) := cor HD2.out.box rfl
   have f9 : X2.frozen? ⟨W5.heap.size, 9, none⟩ = false := frozen_of_row X2 _ _ _ _ HD2.out.box
   have f10 : X2.frozen? ⟨W5.heap.size, 10, none⟩ = false := frozen_of_row X2 _ _ _ _ HD2.out.box
   have HD3 := hid (HD2.out.put (i := 9) (v := .int .i64 ei) (t' := { heldOf ea eb ec ed s4 4 with flash := ⟨ei, 0, []⟩ }) rfl rfl rfl (by omega) (by omega))
   have HD4 := hid (HD3.out.put (i := 10) (v := .int .i64 ej) (t' := { heldOf ea eb ec ed s4 4 with flash := ⟨ei, ej, []⟩ }) rfl rfl rfl (by omega) (by omega))
   have HS4 : Hid (Rdr WQ.heap.size ((X2.setCell ⟨W5.heap.size, 9, none⟩ (.int .i64 ei)).setCell ⟨W5.heap.size, 10, none⟩ (.int .i64 ej)) s10) := HS2.out.stay (fun j hj => (Below.heap_setCell _ ⟨W5.heap.size, 10, none⟩ _ j (show j ≠ W5.heap.size by omega)).trans (Below.heap_setCell X2 ⟨W5.heap.size, 9, none⟩ _ j (show j ≠ W5.heap.size by omega)))
   obtain ⟨th, hth⟩ : ∃ th, th = heldOf ea eb ec ed s4 4 := ⟨_, rfl⟩
   have HTI : Hid (th.items = []) := by show _ = _; rw [hth]; rfl
   rw [← hth] at HD3 HD4 HEAD
   clear HD2 HD3 HS2 hth
   obtain ⟨⟨n0, s11⟩, hn⟩ : ∃ p, p = s10.many 20 := ⟨_, rfl⟩
   have hnb := many_to s10 20 (by omega)
   rw [← hn] at hnb
   simp only at hnb
   obtain ⟨nn, rfl⟩ : ∃ nn : Nat, n0 = nn := ⟨n0.toNat, by omega⟩
   have hn20 : nn ≤ 20 := by omega
   have HMN := hid hn
   clear hn hnb
   go_wp2_with fail
   refine (count_is WQ.heap.size s10 20 nn s11 HMN _ HS4.out).mono ?_
   rintro e X3 ⟨rfl, hr, hgr⟩
   obtain ⟨rb3, ro3, rc3, rhh, _⟩ := HS4.out.ex
   have HD5 := hid (HD4.out.read hgr rhh (by decide) hgR hgS (by omega))
   have HS5 := hid hr
   clear hr hgr rhh HS4 HD4 c9 c10 f9 f10
   obtain ⟨⟨P, sP⟩, hP⟩ : ∃ p, p = Rd.pages ej nn 0 s11 := ⟨_, rfl⟩
   have HPG : Hid ((P, sP) = ([] ++ (Rd.pages ej nn 0 s11).1, (Rd.pages ej nn 0 s11).2)) := hP
   have HPAGED : Hid ((⟨bodyIn b, 0⟩ : Rd).paged = ({ th with flash := ⟨ei, ej, P⟩ }, sP)) := by
    show _ = _
    unfold Rd.paged Rd.withPages
    rw [HEAD.out]; simp only
    rw [← HMN.out]; simp only [Int.toNat_natCast]
    rw [← hP]
   clear hP
   go_wp2_with fail
   go_loopw [8] (fun i wr => ∃ (ii : Nat) (ps : List Page) (vs : List Value) (fa : Option Addr) (fc : Nat) (st : Rd), ii ≤ nn ∧ ps.length = ii ∧ i = .int .i64 ii ∧ Hid ((P, sP) = (ps ++ (Rd.pages ej nn ii st).1, (Rd.pages ej nn ii st).2)) ∧ Hid (Rdr WQ.heap.size wr st) ∧
    Hid (Dec w w.heap.size W5.heap.size wr { th with flash := ⟨ei, ej, ps⟩ } none fa 0 fc vs)) (fun i _ => nn - (intOf i).toNat)
   case atStart => exact ⟨0, [], [], none, 0, s11, by omega, rfl, rfl, HPG, HS5, HD5⟩
   case round =>
    obtain ⟨ii, ps, vs, fa, fc, st, hii, hpl, rfl, HPG2, HRD, HDC⟩ := hrel
    clear HPG HS5 HD5
    obtain ⟨t, ht⟩ : ∃ t, t = decide (ii < nn ∧ st.err = 0) := ⟨_, rfl⟩
    have HT := hid ht
    clear ht
    obtain ⟨rb4, ro4, rc4, rhh, _⟩ := HRD.out.ex
    have RHH := hid rhh
    clear rhh
    go_upto_region 19 with (fail)
    go_cut [106] (fun v wx => v = .bool t ∧ wx = wr)
    case first =>
     by_cases hlt : ii < nn
     ·have hli : (ii : Int) < (nn : Int) := by omega
      have hl2 : decide ((ii : Int) < (nn : Int)) = true := decide_eq_true hli
      by_cases he : st.err = 0
      ·have ht : t = true := by rw [HT.out]; simp [hlt, he]
       have c1 : wr.cell? ⟨WQ.heap.size, 1, none⟩ = some (.int .i64 0) := by rw [cell_of_row wr _ _ _ _ _ RHH.out, he]; rfl
       subst ht
       clear he
       go_wp2_with fail
       go_meet
       exact ⟨rfl, rfl⟩
      ·have ht : t = false := by rw [HT.out]; simp [he]
       have c1 : wr.cell? ⟨WQ.heap.size, 1, none⟩ = some (.int .i64 st.err) := cor RHH.out rfl
       have h1 : (st.err == 0) = false := by simp [he]
       obtain ⟨x, hx⟩ : ∃ x, x = st.err := ⟨_, rfl⟩
       rw [← hx] at c1 h1
       subst ht
       clear he hx
       go_wp2_with fail
       go_meet
       exact ⟨rfl, rfl⟩
     ·have hli : ¬ (ii : Int) < (nn : Int) := by omega
      have hl2 : decide ((ii : Int) < (nn : Int)) = false := decide_eq_false hli
      have ht : t = false := by rw [HT.out]; simp [hlt]
      subst ht
      go_wp2_with fail
      go_meet
      exact ⟨rfl, rfl⟩
    case rest =>
     obtain ⟨hv, hw⟩ := hcut
     have hw := hw.symm
     subst hv hw
     subst hpl
     cases t with
     | true =>
      obtain ⟨hlt, he⟩ : ps.length < nn ∧ st.err = 0 := of_decide_eq_true HT.out.symm
      obtain ⟨⟨tx, st2⟩, htx⟩ : ∃ p, p = st.text 256 := ⟨_, rfl⟩
      have htl := text_le st 256 (by omega)
      rw [← htx] at htl
      simp only at htl
      have HTX := hid htx
      obtain ⟨num, hnum⟩ : ∃ num, num = ej - nn + ps.length := ⟨_, rfl⟩
      have HPG3 : Hid ((P, sP) = ((ps ++ [⟨num, tx⟩]) ++ (Rd.pages ej nn (ps.length + 1) st2).1, (Rd.pages ej nn (ps.length + 1) st2).2)) := by
       show _ = _
       rw [HPG2.out, pages_go hlt he, ← htx, List.append_assoc, hnum]; rfl
      obtain ⟨hj0, hj1⟩ := HJR.out
      have hl1 : tx.length ≤ 1000 := by omega
      have hkk : (ps.length + 1) * 32 ≤ 140737488355328 := by omega
      have c10 : wr.cell? ⟨W5.heap.size, 10, none⟩ = some (.int .i64 ej) := cor HDC.out.box rfl
      have c11 : wr.cell? ⟨W5.heap.size, 11, none⟩ = some (.slice fa ps.length fc) := cor HDC.out.box rfl
      have C10 := hid c10
      have C11 := hid c11
      have hSl := HDC.out.lt
      have hwr0 : w.heap.size < wr.heap.size := by omega
      have hgl : WQ.heap.size < wr.heap.size := by omega
      have w1 : IntKind.i64.wrap (ej - nn) = ej - nn := IntWalk.i64_in _ ⟨by omega, by omega⟩
      have w2 : IntKind.i64.wrap (ej - nn + ps.length) = num := by rw [hnum]; exact IntWalk.i64_in _ ⟨by omega, by omega⟩
      have HW : Hid (IntKind.i64.wrap (IntKind.i64.wrap (ej - nn) + ps.length) = num) := by show _ = _; rw [w1]; exact w2
      have HNUM := hid hnum
      clear w1 w2
      clear htx he hlt HPG2 c10 c11 hnum
      go_upto_block 3 with (fail)
      go_cut [] (fun wx => ∃ (fa' : Option Addr) (fc' : Nat) (vs' : List Value), Hid (Rdr WQ.heap.size wx st2) ∧ Hid (Dec w w.heap.size W5.heap.size wx { th with flash := ⟨ei, ej, ps ++ [⟨num, tx⟩]⟩ } none fa' 0 fc' vs'))
      case first =>
       go_wp2_with fail
       refine wp_region_L (SameAt W5.heap.size wr) 18 19 (by kernel_rfl) (by kernel_rfl) rfl (fun hHeld => ?_)
       refine wpAnyL_take (i := 0) (v := ?_) rfl (by kernel_rfl) (fun _ _ _ h => h) (Or.inl ⟨by rfl, ?_⟩) (by assumption) ?_
       rotate_left
       ·intro wS hSw; go_simp <;> with_reducible rfl
       walk_nrm
       refine wpAnyL_take (i := 1) (v := ?_) rfl (by kernel_rfl) (fun _ _ _ h => h) (Or.inl ⟨by rfl, ?_⟩) (by assumption) ?_
       rotate_left
       ·intro wS hSw; go_simp <;> with_reducible rfl
       walk_nrm
       refine wpAnyL_take (i := 2) (v := ?_) rfl (by kernel_rfl) (fun _ _ _ h => h) (Or.inl ⟨by rfl, ?_⟩) (by assumption) ?_
       rotate_left
       ·intro wS hSw; have q := (World.cell?_of_block (w := wr) (a := ⟨W5.heap.size, 11, none⟩) hSw).trans C11.out; go_simp <;> with_reducible rfl
       walk_nrm
       refine wpAnyL_take (i := 3) (v := ?_) rfl (by kernel_rfl) (fun _ _ _ h => h) (Or.inl ⟨by rfl, ?_⟩) (by assumption) ?_
       rotate_left
       ·intro wS hSw; go_simp <;> with_reducible rfl
       walk_nrm
       refine wpAnyL_take (i := 4) (v := ?_) rfl (by kernel_rfl) (fun _ _ _ h => h) (Or.inl ⟨by rfl, ?_⟩) (by assumption) ?_
       rotate_left
       ·intro wS hSw; go_simp <;> with_reducible rfl
       walk_nrm
       refine wpAnyL_take (i := 5) (v := ?_) rfl (by kernel_rfl) (fun _ _ _ h => h) (Or.inl ⟨by rfl, ?_⟩) (by assumption) ?_
       rotate_left
       ·intro wS hSw; have q := (World.cell?_of_block (w := wr) (a := ⟨W5.heap.size, 10, none⟩) hSw).trans C10.out; go_simp <;> with_reducible rfl
       walk_nrm
       refine wpAnyL_take (i := 6) (v := ?_) rfl (by kernel_rfl) (fun _ _ _ h => h) (Or.inl ⟨by rfl, ?_⟩) (by assumption) ?_
       rotate_left
       ·intro wS hSw; go_simp <;> with_reducible rfl
       walk_nrm
       refine wpAnyL_take (i := 7) (v := ?_) rfl (by kernel_rfl) (fun _ _ _ h => h) (Or.inl ⟨by rfl, ?_⟩) (by assumption) ?_
       rotate_left
       ·intro wS hSw; go_simp <;> with_reducible rfl
       walk_nrm
       refine wpAnyL_take (i := 8) (v := ?_) rfl (by kernel_rfl) (fun _ _ _ h => h) (Or.inl ⟨by rfl, ?_⟩) (by assumption) ?_
       rotate_left
       ·intro wS hSw; go_simp <;> with_reducible rfl
       walk_nrm
       refine wpAnyL_take (i := 9) (v := ?_) rfl (by kernel_rfl) (fun _ _ _ h => h) (Or.inl ⟨by rfl, ?_⟩) (by assumption) ?_
       rotate_left
       ·intro wS hSw; go_simp <;> with_reducible rfl
       walk_nrm
       refine wpAnyL_take (i := 10) (v := ?_) rfl (by kernel_rfl) (fun _ _ _ h => h) (Or.inl ⟨by rfl, ?_⟩) (by assumption) ?_
       rotate_left
       ·intro wS hSw; go_simp <;> with_reducible rfl
       walk_nrm
       refine wpAnyL_step (i := 11) rfl (by kernel_rfl) (fun K hK => ?_)
       go_simp
       refine (text_is WQ.heap.size st 256 (by omega) tx st2 HTX wr.drew (HRD.out.stay (w' := wr.drew) (fun _ _ => rfl))).mono ?_
       rintro e x1 ⟨rfl, hr, hgr⟩
       have hz1 : wr.heap.size ≤ x1.heap.size := hgr.size
       have S1 : SameAt W5.heap.size wr x1 := hgr.block W5.heap.size (show W5.heap.size < wr.heap.size by omega) (by simp; omega)
       have HDX : Hid (Dec w w.heap.size W5.heap.size x1 { th with flash := ⟨ei, ej, ps⟩ } none fa 0 fc vs) := HDC.out.read (w' := x1) ⟨hgr.os, hgr.tape, hgr.output, hgr.size, hgr.block⟩ RHH.out (by decide) hgR hgS (by omega)
       have HRX := hid hr
       show K _ x1
       refine hK.out _ _ S1 (fun hHeld1 => ?_)
       clear hK K hHeld hr hgr
       walk_nrm
       refine wpAnyL_step (i := 12) rfl (by kernel_rfl) (fun K hK => ?_)
       refine step_conv x1 rfl (.tmp 120) rfl tx hl1 rfl ?_
       intro cc x2 hpb hb2
       have hz2 : x1.heap.size ≤ x2.heap.size := hb2.size
       have S2 : SameAt W5.heap.size wr x2 := (hb2.block W5.heap.size (by omega)).trans S1
       have HDX2 := hid (HDX.out.made hb2)
       have HRX2 := hid (HRX.out.stay (fun j hj => hb2.block j (by omega)))
       have HPB := hid (hpb num)
       refine hK.out _ _ S2 (fun hHeld2 => ?_)
       clear hK K hHeld1 hpb hb2 HDX HRX S1
       walk_nrm
       refine wpAnyL_take (i := 13) (v := ?_) rfl (by kernel_rfl) (fun _ _ _ h => h) (Or.inl ⟨by rfl, ?_⟩) (by assumption) ?_
       rotate_left
       ·intro wS hSw; go_simp <;> with_reducible rfl
       walk_nrm
       refine wpAnyL_step (i := 14) rfl (by kernel_rfl) (fun K hK => ?_)
       go_simp
       rw [HW.out]
       obtain ⟨x3, hx3⟩ : ∃ x3, x3 = x2.alloc (.cells #[.int .i64 num, .slice (some ⟨x1.heap.size, 0, none⟩) tx.length cc] 98) := ⟨_, rfl⟩
       have hb3 : Below x2.heap.size x2 x3 := by rw [hx3]; exact (Below.refl _ _).alloc (Nat.le_refl _) _
       have hz3 : x2.heap.size ≤ x3.heap.size := hb3.size
       have Hblk : Hid (x3.heap[x2.heap.size]? = some (.cells #[.int .i64 num, .slice (some ⟨x1.heap.size, 0, none⟩) tx.length cc] 98 (0, 0))) := by show _ = _; rw [hx3]; exact blk_new x2 _
       have S3 : SameAt W5.heap.size wr x3 := (hb3.block W5.heap.size (by omega)).trans S2
       have HDX3 := hid (HDX2.out.made hb3)
       have HRX3 := hid (HRX2.out.stay (fun j hj => hb3.block j (by omega)))
       have HPB3 := hid (HPB.out.keep (U8Keep.below hb3))
       have hbs : W5.heap.size + 1 ≤ x3.heap.size := by omega
       show K _ (x2.alloc (.cells #[.int .i64 num, .slice (some ⟨x1.heap.size, 0, none⟩) tx.length cc] 98))
       rw [← hx3]
       refine hK.out _ _ S3 (fun hHeld3 => ?_)
       clear hK K hHeld2 HDX2 HRX2 HPB S2 hb3 hx3
       walk_nrm
       refine wpAnyL_step (i := 15) rfl (by kernel_rfl) (fun K hK => ?_)
       refine step_page _ rfl (.tmp 111) (.tmp 123) rfl (W5.heap.size + 1) ps.length x2.heap.size (.slice fa ps.length fc) (.slice (some ⟨x1.heap.size, 0, none⟩) tx.length cc) num _ rfl rfl HDX3.out.pages.row Hblk.out rfl hkk hbs ?_
       intro gp cp x4 how4 hgr4 hat4 hlt4
       have hz4 : x3.heap.size ≤ x4.heap.size := hgr4.size
       have hof : ∀ j, j ≤ W5.heap.size → some j ≠ (Value.slice fa ps.length fc).ownBlock := fun j hj e => by have := (HDX3.out.pages.row.lt j e.symm).1; omega
       have S4 : SameAt W5.heap.size wr x4 := (hgr4.block W5.heap.size (by omega) (hof _ (Nat.le_refl _))).trans S3
       have HDX4 := hid (HDX3.out.page (p := ⟨num, tx⟩) HPB3.out hgr4 how4 (by omega) (by omega))
       have HRX4 := hid (HRX3.out.stay (w' := x4.setCell ⟨W5.heap.size, 11, none⟩ (.slice (some ⟨gp, 0, none⟩) (ps.length + 1) cp)) (fun j hj => (Below.heap_setCell x4 ⟨W5.heap.size, 11, none⟩ _ j (show j ≠ W5.heap.size by omega)).trans (hgr4.block j (by omega) (hof j (by omega)))))
       refine hK.out _ _ S4 (fun hHeld4 => ?_)
       clear hK K hHeld3 HDX3 HRX3 HPB3 S3 how4 hgr4 hat4 Hblk
       walk_nrm
       refine wpAnyL_take (i := 16) (v := ?_) rfl (by kernel_rfl) (fun _ _ _ h => h) (Or.inl ⟨by rfl, ?_⟩) (by assumption) ?_
       rotate_left
       ·intro wS hSw; go_simp <;> with_reducible rfl
       walk_nrm
       refine wpAnyL_take (i := 17) (v := ?_) rfl (by kernel_rfl) (fun _ _ _ h => h) (Or.inl ⟨by rfl, ?_⟩) (by assumption) ?_
       rotate_left
       ·intro wS hSw; go_simp <;> with_reducible rfl
       walk_nrm
       refine wpAnyL_last rfl (by kernel_rfl) (fun K hK => ?_)
       have q := (World.cell?_of_block (w := wr) (a := ⟨W5.heap.size, 11, none⟩) S4).trans C11.out
       have qz : x4.frozen? ⟨W5.heap.size, 11, none⟩ = false := (World.frozen?_of_block (w := wr) (a := ⟨W5.heap.size, 11, none⟩) S4).trans (frozen_of_row wr _ _ _ _ HDC.out.box)
       go_simp
       refine hK.out _ _ ?_
       clear hK K
       walk_nrm
       refine wpAnyL_done (by kernel_rfl) ?_ _
       go_wp2_with fail
       go_meet
       exact ⟨_, _, _, HRX4, HDX4⟩
      case rest =>
       obtain ⟨fa', fc', vs', HRD2, HDC2⟩ := hcut
       have hgo : ps.length + 1 ≤ nn := by have := of_decide_eq_true HT.out.symm; omega
       have hln : (ps ++ [(⟨num, tx⟩ : Page)]).length = ps.length + 1 := by simp
       have HLN := hid hln
       clear hln
       go_wp2_with fail
       go_roundw
       case rel => first | exact ⟨ps.length + 1, ps ++ [⟨num, tx⟩], vs', fa', fc', st2, hgo, HLN.out, by go_num, HPG3, HRD2, HDC2⟩ | ((repeat apply Exists.intro); exact ⟨⟨ps.length + 1, ps ++ [⟨num, tx⟩], vs', fa', fc', st2, hgo, HLN.out, by go_num, HPG3, HRD2, HDC2⟩, rfl⟩)
       case measure => simp [intOf]; omega
     | false =>
      have hst : ¬ (ps.length < nn ∧ st.err = 0) := of_decide_eq_false HT.out.symm
      have hpp := HPG2.out
      rw [pages_stop hst, List.append_nil] at hpp
      obtain ⟨rfl, rfl⟩ := Prod.mk.inj hpp
      clear hpp hst HT HPG2
      obtain ⟨tp, htp⟩ : ∃ tp : Store, tp = { th with flash := ⟨ei, ej, P⟩ } := ⟨_, rfl⟩
      have HTP : Hid ((⟨bodyIn b, 0⟩ : Rd).paged = (tp, sP)) := by show _ = _; rw [HPAGED.out, htp]
      have HDC2 : Hid (Dec w w.heap.size W5.heap.size wr { tp with items := [] } none fa 0 fc vs) := by
       have h := HDC.out
       have e : ({ th with flash := ⟨ei, ej, P⟩ } : Store) = { tp with items := [] } := by rw [htp, ← HTI.out]
       rw [e] at h
       exact h
      obtain ⟨⟨m0, s12⟩, hn2⟩ : ∃ p, p = sP.many 1000 := ⟨_, rfl⟩
      have hnb := many_to sP 1000 (by omega)
      rw [← hn2] at hnb
      simp only at hnb
      obtain ⟨nm, rfl⟩ : ∃ nm : Nat, m0 = nm := ⟨m0.toNat, by omega⟩
      have hm1000 : nm ≤ 1000 := by omega
      obtain ⟨⟨X, sX⟩, hX⟩ : ∃ p, p = Rd.items nm 0 s12 := ⟨_, rfl⟩
      have HIT : Hid ((X, sX) = ([] ++ (Rd.items nm 0 s12).1, (Rd.items nm 0 s12).2)) := hX
      have HSTO : Hid ((⟨bodyIn b, 0⟩ : Rd).store = ({ tp with items := X }, sX)) := by
       show _ = _
       unfold Rd.store Rd.withItems
       rw [HTP.out]; simp only
       rw [← hn2]; simp only [Int.toNat_natCast]
       rw [← hX]
      have HMM := hid hn2
      clear hn2 hX hnb htp HDC HPAGED HTP HTI HMN RHH HEAD HJR HII HJJ
      go_wp2_with fail
      refine (count_is WQ.heap.size sP 1000 nm s12 HMM _ HRD.out).mono ?_
      rintro e X4 ⟨rfl, hr, hgr⟩
      obtain ⟨rb5, ro5, rc5, rhh, _⟩ := HRD.out.ex
      have HD5 := hid (HDC2.out.read hgr rhh (by decide) hgR hgS (by omega))
      have HS5 := hid hr
      clear hr hgr rhh HRD HDC2
      go_wp2_with fail
      go_loopw [10] (fun i wy => ∃ (ii : Nat) (xs : List Item) (va : Option Addr) (vc : Nat) (st : Rd), ii ≤ nm ∧ xs.length = ii ∧ i = .int .i64 ii ∧ Hid ((X, sX) = (xs ++ (Rd.items nm ii st).1, (Rd.items nm ii st).2)) ∧ Hid (Rdr WQ.heap.size wy st) ∧
       Hid (Dec w w.heap.size W5.heap.size wy { tp with items := xs } va fa vc fc vs)) (fun i _ => nm - (intOf i).toNat)
      case atStart => exact ⟨0, [], none, 0, s12, by omega, rfl, rfl, HIT, HS5, HD5⟩
      case round =>
       obtain ⟨ii, xs, va, vc, st, hii, hpl, rfl, HIT2, HRD, HDC⟩ := hrel
       clear HIT HS5 HD5
       obtain ⟨t, ht⟩ : ∃ t, t = decide (ii < nm ∧ st.err = 0) := ⟨_, rfl⟩
       have HT := hid ht
       clear ht
       obtain ⟨rb6, ro6, rc6, rhh, _⟩ := HRD.out.ex
       have RHH := hid rhh
       clear rhh
       go_upto_region 23 with (fail)
       go_cut [138] (fun v wx => v = .bool t ∧ wx = wr)
       case first =>
        by_cases hlt : ii < nm
        ·have hli : (ii : Int) < (nm : Int) := by omega
         have hl2 : decide ((ii : Int) < (nm : Int)) = true := decide_eq_true hli
         by_cases he : st.err = 0
         ·have ht : t = true := by rw [HT.out]; simp [hlt, he]
          have c1 : wr.cell? ⟨WQ.heap.size, 1, none⟩ = some (.int .i64 0) := by rw [cell_of_row wr _ _ _ _ _ RHH.out, he]; rfl
          subst ht
          clear he
          go_wp2_with fail
          go_meet
          exact ⟨rfl, rfl⟩
         ·have ht : t = false := by rw [HT.out]; simp [he]
          have c1 : wr.cell? ⟨WQ.heap.size, 1, none⟩ = some (.int .i64 st.err) := cor RHH.out rfl
          have h1 : (st.err == 0) = false := by simp [he]
          obtain ⟨x, hx⟩ : ∃ x, x = st.err := ⟨_, rfl⟩
          rw [← hx] at c1 h1
          subst ht
          clear he hx
          go_wp2_with fail
          go_meet
          exact ⟨rfl, rfl⟩
        ·have hli : ¬ (ii : Int) < (nm : Int) := by omega
         have hl2 : decide ((ii : Int) < (nm : Int)) = false := decide_eq_false hli
         have ht : t = false := by rw [HT.out]; simp [hlt]
         subst ht
         go_wp2_with fail
         go_meet
         exact ⟨rfl, rfl⟩
       case rest =>
        obtain ⟨hv, hw⟩ := hcut
        have hw := hw.symm
        subst hv hw
        subst hpl
        cases t with
        | true =>
         obtain ⟨hlt, he⟩ : xs.length < nm ∧ st.err = 0 := of_decide_eq_true HT.out.symm
         obtain ⟨⟨x, st2⟩, hx⟩ : ∃ p, p = st.item := ⟨_, rfl⟩
         have HIX := hid hx
         have HIT3 : Hid ((X, sX) = ((xs ++ [x]) ++ (Rd.items nm (xs.length + 1) st2).1, (Rd.items nm (xs.length + 1) st2).2)) := by
          show _ = _
          rw [HIT2.out, items_go hlt he, ← hx, List.append_assoc]; rfl
         have hkk : (xs.length + 1) * 88 ≤ 140737488355328 := by omega
         have C8 := hid (show wr.cell? ⟨W5.heap.size, 8, none⟩ = some (.slice va xs.length vc) by rw [cell_of_row wr _ _ _ _ _ HDC.out.box]; rfl)
         have hSl := HDC.out.lt
         have hwr0 : w.heap.size < wr.heap.size := by omega
         have hgl : WQ.heap.size < wr.heap.size := by omega
         clear hx he hlt HIT2
         go_upto_block 5 with (fail)
         go_cut [] (fun wx => ∃ (va' : Option Addr) (vc' : Nat), Hid (Rdr WQ.heap.size wx st2) ∧ Hid (Dec w w.heap.size W5.heap.size wx { tp with items := xs ++ [x] } va' fa vc' fc vs))
         case first =>
          go_wp2_with fail
          refine wp_region_L (SameAt W5.heap.size wr) 7 8 (by kernel_rfl) (by kernel_rfl) rfl (fun hHeld => ?_)
          refine wpAnyL_take (i := 0) (v := ?_) rfl (by kernel_rfl) (fun _ _ _ h => h) (Or.inl ⟨by rfl, ?_⟩) (by assumption) ?_
          rotate_left
          ·intro wS hSw; go_simp <;> with_reducible rfl
          walk_nrm
          refine wpAnyL_take (i := 1) (v := ?_) rfl (by kernel_rfl) (fun _ _ _ h => h) (Or.inl ⟨by rfl, ?_⟩) (by assumption) ?_
          rotate_left
          ·intro wS hSw; have q := (World.cell?_of_block (w := wr) (a := ⟨W5.heap.size, 8, none⟩) hSw).trans C8.out; go_simp <;> with_reducible rfl
          walk_nrm
          refine wpAnyL_take (i := 2) (v := ?_) rfl (by kernel_rfl) (fun _ _ _ h => h) (Or.inl ⟨by rfl, ?_⟩) (by assumption) ?_
          rotate_left
          ·intro wS hSw; go_simp <;> with_reducible rfl
          walk_nrm
          refine wpAnyL_step (i := 3) rfl (by kernel_rfl) (fun K hK => ?_)
          go_simp
          refine (item_is WQ.heap.size st x st2 HIX wr.drew (HRD.out.stay (w' := wr.drew) (fun _ _ => rfl))).mono ?_
          rintro e x1 ⟨rfl, hr, hgr⟩
          have hz1 : wr.heap.size ≤ x1.heap.size := hgr.size
          have S1 : SameAt W5.heap.size wr x1 := hgr.block W5.heap.size (show W5.heap.size < wr.heap.size by omega) (by simp; omega)
          have HDX : Hid (Dec w w.heap.size W5.heap.size x1 { tp with items := xs } va fa vc fc vs) := HDC.out.read (w' := x1) ⟨hgr.os, hgr.tape, hgr.output, hgr.size, hgr.block⟩ RHH.out (by decide) hgR hgS (by omega)
          have HRX := hid hr
          show K _ x1
          refine hK.out _ _ S1 (fun hHeld1 => ?_)
          clear hK K hHeld hr hgr
          walk_nrm
          refine wpAnyL_step (i := 4) rfl (by kernel_rfl) (fun K hK => ?_)
          go_simp
          obtain ⟨x3, hx3⟩ : ∃ x3, x3 = x1.alloc (.cells (itemOf x) 83) := ⟨_, rfl⟩
          have hb3 : Below x1.heap.size x1 x3 := by rw [hx3]; exact (Below.refl _ _).alloc (Nat.le_refl _) _
          have hz3 : x1.heap.size ≤ x3.heap.size := hb3.size
          have Hblk : Hid (x3.heap[x1.heap.size]? = some (.cells (itemOf x) 83 (0, 0))) := by show _ = _; rw [hx3]; exact blk_new x1 _
          have S3 : SameAt W5.heap.size wr x3 := (hb3.block W5.heap.size (by omega)).trans S1
          have HDX3 := hid (HDX.out.made hb3)
          have HRX3 := hid (HRX.out.stay (fun j hj => hb3.block j (by omega)))
          have hbs : W5.heap.size + 1 ≤ x3.heap.size := by omega
          show K _ (x1.alloc (.cells (itemOf x) 83))
          rw [← hx3]
          refine hK.out _ _ S3 (fun hHeld3 => ?_)
          clear hK K hHeld1 HDX HRX S1 hb3 hx3
          walk_nrm
          refine wpAnyL_step (i := 5) rfl (by kernel_rfl) (fun K hK => ?_)
          refine step_item _ rfl (.tmp 142) (.tmp 145) rfl (W5.heap.size + 1) xs.length x1.heap.size (.slice va xs.length vc) x _ rfl rfl HDX3.out.items Hblk.out hkk hbs ?_
          intro gp cp x4 how4 hgr4 hat4 hlt4
          have hz4 : x3.heap.size ≤ x4.heap.size := hgr4.size
          have hof : ∀ j, j ≤ W5.heap.size → some j ≠ (Value.slice va xs.length vc).ownBlock := fun j hj e => by have := (HDX3.out.items.lt j e.symm).1; omega
          have S4 : SameAt W5.heap.size wr x4 := (hgr4.block W5.heap.size (by omega) (hof _ (Nat.le_refl _))).trans S3
          have HDX4 := hid (HDX3.out.item (x := x) hgr4 how4 (by omega) (by omega))
          have HRX4 := hid (HRX3.out.stay (w' := x4.setCell ⟨W5.heap.size, 8, none⟩ (.slice (some ⟨gp, 0, none⟩) (xs.length + 1) cp)) (fun j hj => (Below.heap_setCell x4 ⟨W5.heap.size, 8, none⟩ _ j (show j ≠ W5.heap.size by omega)).trans (hgr4.block j (by omega) (hof j (by omega)))))
          refine hK.out _ _ S4 (fun hHeld4 => ?_)
          clear hK K hHeld3 HDX3 HRX3 S3 how4 hgr4 hat4 Hblk
          walk_nrm
          refine wpAnyL_take (i := 6) (v := ?_) rfl (by kernel_rfl) (fun _ _ _ h => h) (Or.inl ⟨by rfl, ?_⟩) (by assumption) ?_
          rotate_left
          ·intro wS hSw; go_simp <;> with_reducible rfl
          walk_nrm
          refine wpAnyL_last rfl (by kernel_rfl) (fun K hK => ?_)
          have q := (World.cell?_of_block (w := wr) (a := ⟨W5.heap.size, 8, none⟩) S4).trans C8.out
          have qz : x4.frozen? ⟨W5.heap.size, 8, none⟩ = false := (World.frozen?_of_block (w := wr) (a := ⟨W5.heap.size, 8, none⟩) S4).trans (frozen_of_row wr _ _ _ _ HDC.out.box)
          go_simp
          refine hK.out _ _ ?_
          clear hK K
          walk_nrm
          refine wpAnyL_done (by kernel_rfl) ?_ _
          go_wp2_with fail
          go_meet
          exact ⟨_, _, HRX4, HDX4⟩
         case rest =>
          obtain ⟨va', vc', HRD2, HDC2⟩ := hcut
          have hgo : xs.length + 1 ≤ nm := by have := of_decide_eq_true HT.out.symm; omega
          have HLN := hid (show (xs ++ [x]).length = xs.length + 1 by simp)
          go_wp2_with fail
          go_roundw
          case rel => first | exact ⟨xs.length + 1, xs ++ [x], va', vc', st2, hgo, HLN.out, by go_num, HIT3, HRD2, HDC2⟩ | ((repeat apply Exists.intro); exact ⟨⟨xs.length + 1, xs ++ [x], va', vc', st2, hgo, HLN.out, by go_num, HIT3, HRD2, HDC2⟩, rfl⟩)
          case measure => simp [intOf]; omega
        | false =>
         have hst : ¬ (xs.length < nm ∧ st.err = 0) := of_decide_eq_false HT.out.symm
         have hpp := HIT2.out
         rw [items_stop hst, List.append_nil] at hpp
         obtain ⟨rfl, rfl⟩ := Prod.mk.inj hpp
         clear hpp hst HT HIT2
         have HANS : Hid (decode b = answer ({ tp with items := X }, sX)) := by show _ = _; rw [HD.out, HSTO.out]
         have hbnd := store_b ⟨bodyIn b, 0⟩
         rw [HSTO.out] at hbnd
         have HBND := hid hbnd
         clear hbnd HSTO HD
         obtain ⟨lr, er⟩ := sX
         have RC0 := RHH.out
         by_cases he : er = 0
         rotate_left
         ·
          have HA2 : Hid (decode b = (Store.zero, er)) := by show _ = _; rw [HANS.out]; exact ans_err (by unfold Rd.fin; rw [if_neg (by simp [he])]) he
          have c1 : wr.cell? ⟨WQ.heap.size, 1, none⟩ = some (.int .i64 er) := cor RC0 rfl
          have h1 : (er == 0) = false := by simp [he]
          have h2 : (er != 0) = true := by simp [he]
          have C1 := hid c1
          clear RC0 he
          go_upto_region 29 with (fail)
          clear c1 h1 h2
          refine wp_region_L (SameAt WQ.heap.size wr) 6 7 (by kernel_rfl) (by kernel_rfl) rfl (fun hHeld => ?_)
          refine wpAnyL_take (i := 0) (v := ?_) rfl (by kernel_rfl) (fun _ _ _ h => h) (Or.inl ⟨by rfl, ?_⟩) (by assumption) ?_
          rotate_left
          ·intro wS hSw; go_simp <;> with_reducible rfl
          walk_nrm
          refine wpAnyL_take (i := 1) (v := ?_) rfl (by kernel_rfl) (fun _ _ _ h => h) (Or.inl ⟨by rfl, ?_⟩) (by assumption) ?_
          rotate_left
          ·intro wS hSw; go_simp <;> with_reducible rfl
          walk_nrm
          refine wpAnyL_take (i := 2) (v := ?_) rfl (by kernel_rfl) (fun _ _ _ h => h) (Or.inl ⟨by rfl, ?_⟩) (by assumption) ?_
          rotate_left
          ·intro wS hSw; go_simp <;> with_reducible rfl
          walk_nrm
          refine wpAnyL_take (i := 3) (v := ?_) rfl (by kernel_rfl) (fun _ _ _ h => h) (Or.inl ⟨by rfl, ?_⟩) (by assumption) ?_
          rotate_left
          ·intro wS hSw; go_simp <;> with_reducible rfl
          walk_nrm
          refine wpAnyL_take (i := 4) (v := ?_) rfl (by kernel_rfl) (fun _ _ _ h => h) (Or.inl ⟨by rfl, ?_⟩) (by assumption) ?_
          rotate_left
          ·intro wS hSw; have q := (World.cell?_of_block (w := wr) (a := ⟨WQ.heap.size, 1, none⟩) hSw).trans C1.out; go_simp <;> with_reducible rfl
          walk_nrm
          refine wpAnyL_step (i := 5) rfl (by kernel_rfl) (fun K hK => ?_)
          refine step_store_row wr.drew rfl 28 (.tmp 2) (.tmp 168) rfl w.heap.size storeZt rfl rfl 28 storeZt (show wr.heap[w.heap.size]? = _ from HDC.out.res) storeSize rfl zero_one ?_
          have S5 : SameAt WQ.heap.size wr (wr.drew.setRow w.heap.size storeZt) := setRow_other _ _ _ _ (by omega)
          refine hK.out _ _ S5 (fun hHeld5 => ?_)
          clear hK K hHeld
          walk_nrm
          refine wpAnyL_last rfl (by kernel_rfl) (fun K hK => ?_)
          go_simp
          refine hK.out _ _ ?_
          clear hK K
          walk_nrm
          refine wpAnyL_done (by kernel_rfl) ?_ _
          iterate 3 go_step
          exact bodyPost_ret (v := .tuple #[.agg storeZt, .int .i64 er]) (results_row_int rfl _ _ w.heap.size _ _ rfl rfl (run_loadVar_row _ _ _ _ _ _ _ (setRow_heap wr.drew _ _ _ _ _ (show wr.drew.heap[w.heap.size]? = _ from HDC.out.res)) Tryz.underlying28 rfl storeSize)) rfl (out_no HA2 HDC.out.below.drew (Nat.le_refl _))
         subst he
         have c1 : wr.cell? ⟨WQ.heap.size, 1, none⟩ = some (.int .i64 0) := cor RC0 rfl
         have c0 : wr.cell? ⟨WQ.heap.size, 0, none⟩ = some (.slice (some ⟨rb6, ro6, none⟩) lr.length rc6) := cor RC0 rfl
         by_cases hr0 : lr = []
         rotate_left
         ·
          have hlp : 0 < lr.length := List.length_pos_iff.2 hr0
          have HA2 : Hid (decode b = (Store.zero, 4)) := by show _ = _; rw [HANS.out]; exact ans_err (by unfold Rd.fin; rw [if_pos ⟨rfl, hlp⟩]) (by decide)
          have hlpi : (0 : Int) < (lr.length : Int) := by omega
          have hlpd : decide ((0 : Int) < (lr.length : Int)) = true := decide_eq_true hlpi
          clear RC0 hr0
          go_wp2_with fail
          refine (r_wrong WQ.heap.size ⟨lr, 0⟩ 4 _ HRD.out).mono ?_
          rintro e y1 ⟨rfl, hr, hgr⟩
          have HD8 := hid (HDC.out.read hgr RHH.out (by decide) hgR hgS (by omega))
          obtain ⟨rb7, ro7, rc7, rhh7, _⟩ := hr.ex
          have c1 : y1.cell? ⟨WQ.heap.size, 1, none⟩ = some (.int .i64 4) := cor rhh7 rfl
          have C1 := hid c1
          clear hr hgr rhh7 HDC HRD c0
          go_upto_region 29 with (fail)
          clear c1
          refine wp_region_L (SameAt WQ.heap.size y1) 6 7 (by kernel_rfl) (by kernel_rfl) rfl (fun hHeld => ?_)
          refine wpAnyL_take (i := 0) (v := ?_) rfl (by kernel_rfl) (fun _ _ _ h => h) (Or.inl ⟨by rfl, ?_⟩) (by assumption) ?_
          rotate_left
          ·intro wS hSw; go_simp <;> with_reducible rfl
          walk_nrm
          refine wpAnyL_take (i := 1) (v := ?_) rfl (by kernel_rfl) (fun _ _ _ h => h) (Or.inl ⟨by rfl, ?_⟩) (by assumption) ?_
          rotate_left
          ·intro wS hSw; go_simp <;> with_reducible rfl
          walk_nrm
          refine wpAnyL_take (i := 2) (v := ?_) rfl (by kernel_rfl) (fun _ _ _ h => h) (Or.inl ⟨by rfl, ?_⟩) (by assumption) ?_
          rotate_left
          ·intro wS hSw; go_simp <;> with_reducible rfl
          walk_nrm
          refine wpAnyL_take (i := 3) (v := ?_) rfl (by kernel_rfl) (fun _ _ _ h => h) (Or.inl ⟨by rfl, ?_⟩) (by assumption) ?_
          rotate_left
          ·intro wS hSw; go_simp <;> with_reducible rfl
          walk_nrm
          refine wpAnyL_take (i := 4) (v := ?_) rfl (by kernel_rfl) (fun _ _ _ h => h) (Or.inl ⟨by rfl, ?_⟩) (by assumption) ?_
          rotate_left
          ·intro wS hSw; have q := (World.cell?_of_block (w := y1) (a := ⟨WQ.heap.size, 1, none⟩) hSw).trans C1.out; go_simp <;> with_reducible rfl
          walk_nrm
          refine wpAnyL_step (i := 5) rfl (by kernel_rfl) (fun K hK => ?_)
          refine step_store_row y1.drew rfl 28 (.tmp 2) (.tmp 168) rfl w.heap.size storeZt rfl rfl 28 storeZt (show y1.heap[w.heap.size]? = _ from HD8.out.res) storeSize rfl zero_one ?_
          have S5 : SameAt WQ.heap.size y1 (y1.drew.setRow w.heap.size storeZt) := setRow_other _ _ _ _ (by omega)
          refine hK.out _ _ S5 (fun hHeld5 => ?_)
          clear hK K hHeld
          walk_nrm
          refine wpAnyL_last rfl (by kernel_rfl) (fun K hK => ?_)
          go_simp
          refine hK.out _ _ ?_
          clear hK K
          walk_nrm
          refine wpAnyL_done (by kernel_rfl) ?_ _
          iterate 3 go_step
          exact bodyPost_ret (v := .tuple #[.agg storeZt, .int .i64 4]) (results_row_int rfl _ _ w.heap.size _ _ rfl rfl (run_loadVar_row _ _ _ _ _ _ _ (setRow_heap y1.drew _ _ _ _ _ (show y1.drew.heap[w.heap.size]? = _ from HD8.out.res)) Tryz.underlying28 rfl storeSize)) rfl (out_no HA2 HD8.out.below.drew (Nat.le_refl _))
         subst hr0
         obtain ⟨ts, hts⟩ : ∃ ts : Store, ts = { tp with items := X } := ⟨_, rfl⟩
         rw [← hts] at HDC HANS HBND
         clear hts RC0
         have hl1 : ts.items.length ≤ 1000 := HBND.out.2.2.1
         have hl2 : ts.flash.pages.length ≤ 20 := HBND.out.2.2.2
         have hRw : w.heap.size < wr.heap.size := by have := HDC.out.lt; omega
         have hSw : W5.heap.size < wr.heap.size := HDC.out.lt
         cases hok : ts.ok
         ·
          have HA2 : Hid (decode b = (Store.zero, 8)) := by show _ = _; rw [HANS.out]; exact ans_bad rfl hok
          have HCK : Hid (ts.chk = 8) := by show _ = _; unfold Store.chk; rw [hok]; rfl
          clear hok
          go_wp2_with (refine wpList_load_row rfl 28 _ rfl W5.heap.size rfl _ _ _ _ HDC.out.box Tryz.underlying28 rfl (by kernel_rfl) ?_)
          refine (scheck_is ts 8 HCK va fa vc fc _ (HC.out.keep (Below.keeps HDC.out.below)) (own_items HDC.out.items HBND.out.1) (HDC.out.pages.rows HBND.out.2.1) (by omega) (by omega)).mono ?_
          rintro e y1 ⟨rfl, hb1⟩
          have HD8 := hid (HDC.out.made hb1)
          clear hb1 HDC HRD c0 c1
          go_upto_region 32 with (fail)
          repeat (first | refine wpList_store_row rfl 28 _ _ rfl w.heap.size storeZt rfl rfl _ _ HD8.out.res storeSize rfl zero_one ?_ | go_step)
          exact bodyPost_ret (v := .tuple #[.agg storeZt, .int .i64 8]) (results_row_int rfl _ _ w.heap.size _ _ rfl rfl (run_loadVar_row _ _ _ _ _ _ _ (setRow_heap y1 _ _ _ _ _ HD8.out.res) Tryz.underlying28 rfl storeSize)) rfl (out_no HA2 HD8.out.below (Nat.le_refl _))
         ·
          have HA2 : Hid (decode b = (ts, 0)) := by show _ = _; rw [HANS.out]; exact ans_ok rfl hok
          have HCK : Hid (ts.chk = 0) := by show _ = _; unfold Store.chk; rw [hok]; rfl
          clear hok
          go_wp2_with (refine wpList_load_row rfl 28 _ rfl W5.heap.size rfl _ _ _ _ HDC.out.box Tryz.underlying28 rfl (by kernel_rfl) ?_)
          refine (scheck_is ts 0 HCK va fa vc fc _ (HC.out.keep (Below.keeps HDC.out.below)) (own_items HDC.out.items HBND.out.1) (HDC.out.pages.rows HBND.out.2.1) (by omega) (by omega)).mono ?_
          rintro e y1 ⟨rfl, hb1⟩
          have HB1 := hid hb1
          have HD8 := hid (HDC.out.made hb1)
          clear hb1 HRD c0 c1
          go_upto_region 33 with (fail)
          repeat (first | refine wpList_load_row rfl 28 _ rfl W5.heap.size rfl _ _ _ _ HD8.out.box Tryz.underlying28 rfl (by kernel_rfl) ?_ | refine wpList_store_row rfl 28 _ _ rfl w.heap.size (storeV ts va vc fa fc) rfl rfl _ _ HD8.out.res storeSize rfl (store_one _ _ _ _ _) ?_ | go_step)
          refine bodyPost_ret (v := .tuple #[.agg (storeV ts va vc fa fc), .int .i64 0]) (results_row_int rfl _ _ w.heap.size _ _ rfl rfl (run_loadVar_row _ _ _ _ _ _ _ (setRow_heap y1 _ _ _ _ _ HD8.out.res) Tryz.underlying28 rfl storeSize)) rfl ?_
          rw [HA2.out]
          exact HDC.out.out HB1.out HBND.out.1 HBND.out.2.1 hRS (Nat.le_refl _)
end Go.Proofs.YtbeegfkfpkfccaaGreatDoor.D
namespace Go.Proofs.YtbeegfkfpkfccaaGreatDoor.D
open Go.RowKit Go.ChangeShapes Go.WideShapes Go.Deep Go.Joins
theorem decode_is (l : Str) (n : Nat) (t : Store) (m : Int) (hn : Hid (n = l.length)) (ht : Hid ((t, m) = decode l)) (a : Option Addr) (c : Nat) (w : World) (hB : BytesAt w a l) (h1 : n ≤ c) (h2 : c ≤ 9223372036854775807) (hC : Chunks w) :
  Calls Tryz.prog 24 #[.slice a n c] w (OutSt t m w) := by
 have hn := hn.out
 subst hn
 have := snap_Decode l a c w hB h1 h2 hC
 rwa [← ht.out] at this
theorem list_bytes {ops : Array Oper} {rest : List Oper} {o : Oper} {a : Act} {Q : Exit → Act → World → Prop} (W : World) (hgd : o.guard = none) (s x : Operand)
  (ho : o.op = .call { callee := .builtin .append, args := #[s, x], argTypes := #[63, 63] }) (c n : Nat) (ad : Option Addr) (l : Str) (hnl : Hid (n = l.length))
  (hs : a.eval s = .slice none 0 0) (hx : a.eval x = .slice ad n c) (hn : BytesAt W ad l)
  (hk : n ≤ 140737488355328)
  (h : ∀ ua uc w', BytesAt w' ua l → n ≤ uc → uc ≤ 9223372036854775807 → Below W.heap.size W w' → wpList Tryz.prog ops Q rest (a.put o.dst (.slice ua n uc)) w') :
  wpList Tryz.prog ops Q (o :: rest) a W := by
 have hnl := hnl.out
 subst hnl
 obtain ⟨j0, hj, hw0, hw1, hw2⟩ := info_parts infoByte
 rcases Nat.eq_zero_or_pos l.length with h0 | h0
 ·obtain rfl := List.eq_nil_of_length_eq_zero h0
  refine wpList_plain hgd fun K hK => ?_
  have hr : (Builtin.append_ #[63, 63] o.type #[.slice none 0 0, .slice ad 0 c]).run Tryz.prog W = .ok (.slice none 0 0) W := by
   cases ad with
   | none => simp [Builtin.append_, go_sem]
   | some ad => simp [Builtin.append_, go_sem]
  unfold Oper.wp execOp
  simp only [ho, resolve, invoke, builtin, Sem.run_bind, Sem.run_pure, Result.andThen_ok, List.map_toArray, List.map_cons, List.map_nil, hs, hx, List.length_nil, hr]
  exact hK _ _ (h _ _ _ (.inl rfl) (Nat.le_refl _) (by omega) (Below.refl _ _))
 ·obtain ⟨b, of, rfl, hc⟩ := hn.pos h0
  refine wpList_append_lies W hgd s x _ ho W.heap.size 5 j0 _ 1 1 Tryz.underlying63 hj hw0 hw1 hw2 rfl (by decide) (.slice none 0 0) 0 [] hs (World.ownsRow_nil _ _ _ _) ⟨b, of, none⟩ l.length c (l.map byteV) hx (by simp) (news_bytes hc) (by simp [Value.oneCell']) h0 (by unfold maxLen; omega) (by omega) (Nat.le_refl _) _ rfl ?_
  intro g cap w' h1 h2 h3 h4
  rw [Nat.zero_add] at h1 ⊢
  rw [List.nil_append] at h1
  obtain ⟨g2, c2, hv, hg1, _, hg3, hg4, hg5⟩ := own_shape h1 h0
  cases hv
  refine h _ _ w' (.inr ⟨_, 0, rfl, fun i v hv => ?_⟩) hg3 (by unfold maxLen at hg4; omega) ⟨h2.os, h2.tape, h2.output, h2.size, fun k hk => h2.block k hk (by simp [Value.ownBlock])⟩
  rw [Nat.zero_add]; exact hg5 i v hv
theorem decode_b (b : Str) : (decode b).1.items.length ≤ 1000 ∧ (decode b).1.flash.pages.length ≤ 20 := by
 have hz : Store.zero.items.length ≤ 1000 ∧ Store.zero.flash.pages.length ≤ 20 := ⟨by decide, by decide⟩
 unfold decode
 split
 ·exact hz
 split
 ·exact hz
 split
 ·exact hz
 split
 ·exact hz
 unfold answer
 split
 ·exact hz
 split
 ·exact hz
 ·exact ⟨(store_b _).2.2.1, (store_b _).2.2.2⟩
end Go.Proofs.YtbeegfkfpkfccaaGreatDoor.D

