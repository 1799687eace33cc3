/-
  Contract: ref.dec is a number's decimal text.
-/
import Derived.Test.YtbipegbgfdpaeaaDoorCMem
import Derived.Test.YtbipegbgfdpaeaaDoorPItoa
namespace Go.Proofs.YtbipegbgfdpaeaaDoor.D
open Go.RowKit
def DecEnd (n : Int) (w : World) (e : Ending) (w' : World) : Prop := e = .returned (.string (decS n)) ∧ Below w.heap.size w w'
theorem ba_append (a b : ByteArray) : a ++ b = a.append b := rfl
theorem dec_conv {n : Int} (h0 : 0 ≤ n) (h1 : n < 10) (w : World) :
    (convert 38 9 (.slice (some ⟨w.heap.size, 0, none⟩) 1 1)).run Tryd.prog (w.alloc (.cells #[.int .u8 (48 + n)] 5)) = .ok (.string (decS n)) (w.alloc (.cells #[.int .u8 (48 + n)] 5)) := by
  have hb : BytesAt (w.alloc (.cells #[.int .u8 (48 + n)] 5)) (some ⟨w.heap.size, 0, none⟩) (decL n) := by
    refine .inr ⟨w.heap.size, 0, rfl, fun i v hv => ?_⟩
    rw [Nat.zero_add, cell_alloc_row]
    rw [dec_digit h0 h1] at hv
    match i, hv with
    | 0, hv =>
      simp at hv
      subst hv
      have : n.toNat < 10 := by omega
      simp [byteV]; omega
  have := run_str hb 1 1 (by rw [dec_digit h0 h1]; rfl) _ (Keeps.refl _)
  exact this
set_option maxRecDepth 100000 in
set_option maxHeartbeats 1000000 in
theorem ref_dec (n : Int) (h0 : -9223372036854775808 ≤ n) (h1 : n ≤ 9223372036854775807) (w : World) : Calls Tryd.prog 57 #[.int .i64 n] w (DecEnd n w) := by
  obtain ⟨k, hk⟩ : ∃ k, k = n.natAbs + (if n < 0 then 10 else 0) := ⟨_, rfl⟩
  induction k using Nat.strongRecOn generalizing n w with
  | _ k ih =>
    have HIH := Lib.hid ih
    clear ih
    by_cases hd : 0 ≤ n ∧ n < 10
    ·
      have HS := dec_conv hd.1 hd.2 w
      obtain ⟨g1, g2⟩ := hd
      clear HIH hk
      go_enter Tryd.func57, Tryd.ntmps57
      go_wp2_with fail
      go_ret
      exact ⟨rfl, by go_grown⟩
    by_cases hp : 10 ≤ n
    ·
      have HS := Lib.hid (dec_pos hp)
      obtain ⟨q, hq⟩ : ∃ q, q = n / 10 := ⟨_, rfl⟩
      obtain ⟨r, hr⟩ : ∃ r, r = n % 10 := ⟨_, rfl⟩
      have q1 : n / 10 = q := hq.symm
      have r1 : n % 10 = r := hr.symm
      have b1 : Hid (q.natAbs + (if q < 0 then 10 else 0) < k ∧ r.natAbs + (if r < 0 then 10 else 0) < k) := by
        rw [if_neg (by omega)] at hk; rw [show q.natAbs + (if q < 0 then 10 else 0) = q.natAbs by rw [if_neg (by omega)]; rfl, show r.natAbs + (if r < 0 then 10 else 0) = r.natAbs by rw [if_neg (by omega)]; rfl]; exact ⟨by omega, by omega⟩
      have b2 : Hid ((-9223372036854775808 ≤ q ∧ q ≤ 9223372036854775807) ∧ -9223372036854775808 ≤ r ∧ r ≤ 9223372036854775807) := ⟨⟨by omega, by omega⟩, by omega, by omega⟩
      rw [q1, r1] at HS
      have LN : ¬ 9223372036854775807 < (decS q).size + (decS r).size := by rw [decS_size, decS_size]; have := decL_le b2.out.1.1 b2.out.1.2; have := decL_le b2.out.2.1 b2.out.2.2; omega
      clear hk hq hr hd
      go_enter Tryd.func57, Tryd.ntmps57
      go_wp2_with fail
      refine (HIH.out _ b1.out.1 q b2.out.1.1 b2.out.1.2 _ rfl).mono ?_
      rintro e w1 ⟨rfl, hb1⟩
      have HB1 := Lib.hid hb1
      clear hb1
      go_wp2_with fail
      refine (HIH.out _ b1.out.2 r b2.out.2.1 b2.out.2.2 _ rfl).mono ?_
      rintro e w2 ⟨rfl, hb2⟩
      have HB2 := Lib.hid (HB1.out.trans (hb2.mono HB1.out.size))
      clear hb2
      go_wp2_with fail
      go_ret
      exact ⟨by rw [HS.out]; exact rfl, HB2.out⟩
    by_cases hm : -10 < n
    ·
      have h3 : n < 0 := by omega
      have HS := Lib.hid (dec_minus hm h3)
      obtain ⟨q, hq⟩ : ∃ q, q = -n := ⟨_, rfl⟩
      have q1 : -n = q := hq.symm
      have b1 : Hid (q.natAbs + (if q < 0 then 10 else 0) < k) := by
        rw [if_pos (by omega)] at hk; rw [show q.natAbs + (if q < 0 then 10 else 0) = q.natAbs by rw [if_neg (by omega)]; rfl]; show _ < _; omega
      have b2 : Hid (-9223372036854775808 ≤ q ∧ q ≤ 9223372036854775807) := ⟨by omega, by omega⟩
      rw [q1] at HS
      have LN : ¬ 9223372036854775807 < 1 + (decS q).size := by rw [decS_size]; have := decL_le b2.out.1 b2.out.2; omega
      clear hk hq hd
      go_enter Tryd.func57, Tryd.ntmps57
      go_wp2_with fail
      refine (HIH.out _ b1.out q b2.out.1 b2.out.2 _ rfl).mono ?_
      rintro e w1 ⟨rfl, hb1⟩
      have HB1 := Lib.hid hb1
      clear hb1
      go_wp2_with fail
      go_ret
      exact ⟨by rw [HS.out]; exact rfl, HB1.out⟩
    ·
      obtain ⟨q, hq⟩ : ∃ q, q = n.tdiv 10 := ⟨_, rfl⟩
      obtain ⟨r, hr⟩ : ∃ r, r = n.tmod 10 := ⟨_, rfl⟩
      have e1 : n = 10 * q + r := by rw [hq, hr, Int.mul_tdiv_add_tmod]
      have hr1 : -10 < r ∧ r ≤ 0 := by
        have a1 := Int.tmod_nonneg (a := -n) 10 (by omega)
        have a2 := Int.tmod_lt_of_pos (-n) (b := 10) (by decide)
        rw [Int.neg_tmod, ← hr] at a1 a2
        omega
      have w64 : wrap64 q = q := IntWalk.wrap64_in _ ⟨by omega, by omega⟩
      have q1 : n.tdiv 10 = q := hq.symm
      have r1 : n.tmod 10 = r := hr.symm
      obtain ⟨s, hs⟩ : ∃ s, s = -r := ⟨_, rfl⟩
      have s1 : -r = s := hs.symm
      have w65 : wrap64 s = s := IntWalk.wrap64_in _ ⟨by omega, by omega⟩
      have h4 : n < 0 := by omega
      have h5 : ¬ -10 < n := hm
      have HS := Lib.hid (dec_neg (by omega) e1 hr1.1 hr1.2 (by omega))
      have b1 : Hid (q.natAbs + (if q < 0 then 10 else 0) < k ∧ s.natAbs + (if s < 0 then 10 else 0) < k) := by
        rw [if_pos (by omega)] at hk; rw [show q.natAbs + (if q < 0 then 10 else 0) = q.natAbs + 10 by rw [if_pos (by omega)], show s.natAbs + (if s < 0 then 10 else 0) = s.natAbs by rw [if_neg (by omega)]; rfl]; exact ⟨by omega, by omega⟩
      have b2 : Hid ((-9223372036854775808 ≤ q ∧ q ≤ 9223372036854775807) ∧ -9223372036854775808 ≤ s ∧ s ≤ 9223372036854775807) := ⟨⟨by omega, by omega⟩, by omega, by omega⟩
      rw [s1] at HS
      have LN : ¬ 9223372036854775807 < (decS q).size + (decS s).size := by rw [decS_size, decS_size]; have := decL_le b2.out.1.1 b2.out.1.2; have := decL_le b2.out.2.1 b2.out.2.2; omega
      clear hk hq hr hd e1 hs hp hm
      go_enter Tryd.func57, Tryd.ntmps57
      go_wp2_with fail
      refine (HIH.out _ b1.out.1 q b2.out.1.1 b2.out.1.2 _ rfl).mono ?_
      rintro e w1 ⟨rfl, hb1⟩
      have HB1 := Lib.hid hb1
      clear hb1
      go_wp2_with fail
      refine (HIH.out _ b1.out.2 s b2.out.2.1 b2.out.2.2 _ rfl).mono ?_
      rintro e w2 ⟨rfl, hb2⟩
      have HB2 := Lib.hid (HB1.out.trans (hb2.mono HB1.out.size))
      clear hb2
      go_wp2_with fail
      go_ret
      exact ⟨by rw [HS.out]; exact rfl, HB2.out⟩
end Go.Proofs.YtbipegbgfdpaeaaDoor.D
