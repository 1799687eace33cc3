/-
 Contracts: keep.picked, keep.value.
-/
import Derived.Test.YtbeegfkfpkfccaaGreatDoorYBase
import Derived.Test.YtbeegfkfpkfccaaGreatDoorYCShelf2
import Derived.Conc.WalkWords
import Derived.Deep.DeepCutAuto
import Derived.Deep.CutBlock
namespace Go.Proofs.YtbeegfkfpkfccaaGreatDoor.D
open Go.RowKit
def pick (n m : Int) : Int := (if n < 0 then -(n + 1) else n) % m
theorem pick_lt (n m : Int) (h : 0 < m) : 0 ≤ pick n m ∧ pick n m < m := ⟨Int.emod_nonneg _ (by omega), Int.emod_lt_of_pos _ h⟩
theorem picked_is (n m : Int) (h0 : -9223372036854775808 ≤ n) (h1 : n ≤ 9223372036854775807) (hm : 0 < m) (hm2 : m ≤ 9223372036854775807) (w : World) :
  Calls Tryz.prog 16 #[.int .i64 n, .int .i64 m] w fun e w' => e = .returned (.int .i64 (pick n m)) ∧ w = w' := by
 have hl := pick_lt n m hm
 obtain ⟨p, hp⟩ : ∃ p, p = pick n m := ⟨_, rfl⟩
 rw [← hp] at hl ⊢
 have hmz : (m == 0) = false := by simp; omega
 have hmz2 : m ≠ 0 := by omega
 by_cases hn : n < 0
 ·obtain ⟨k, hk⟩ : ∃ k, k = -(n + 1) := ⟨_, rfl⟩
  have e1 : wrap64 (n + 1) = n + 1 := IntWalk.wrap64_in _ ⟨by omega, by omega⟩
  have e2 : -(n + 1) = k := hk.symm
  have e3 : wrap64 k = k := IntWalk.wrap64_in _ ⟨by omega, by omega⟩
  have e4 : k.tmod m = p := by rw [hp]; unfold pick; rw [if_pos hn, ← hk, Int.tmod_eq_emod_of_nonneg (by omega)]
  have e5 : wrap64 p = p := IntWalk.wrap64_in _ ⟨by omega, by omega⟩
  clear hp hk
  go_enter Tryz.func16, Tryz.ntmps16
  go_wp2_with fail
  go_ret
  exact ⟨rfl, rfl⟩
 ·have e4 : n.tmod m = p := by rw [hp]; unfold pick; rw [if_neg hn, Int.tmod_eq_emod_of_nonneg (by omega)]
  have e5 : wrap64 p = p := IntWalk.wrap64_in _ ⟨by omega, by omega⟩
  clear hp
  go_enter Tryz.func16, Tryz.ntmps16
  go_wp2_with fail
  go_ret
  exact ⟨rfl, rfl⟩
def ValEnd (w : World) (e : Ending) (w' : World) : Prop := ∃ s : ByteArray, e = .returned (.string s) ∧ s.size ≤ 1000 ∧ Below w.heap.size w w'
theorem picked_at (n m : Int) (k : Int) (hk : Hid (pick n m = k)) (h0 : -9223372036854775808 ≤ n) (h1 : n ≤ 9223372036854775807) (hm : 0 < m) (hm2 : m ≤ 9223372036854775807) (w : World) :
  Calls Tryz.prog 16 #[.int .i64 n, .int .i64 m] w fun e w' => e = .returned (.int .i64 k) ∧ w = w' := by
 have := picked_is n m h0 h1 hm hm2 w
 rwa [hk.out] at this
theorem repeat_is (s : ByteArray) (c : Int) (hc : 0 ≤ c) (hc2 : c < 8) (hs : s.size ≤ 20) (w : World) : Calls Tryz.prog 41 #[.string s, .int .i64 c] w fun e w' => ∃ t : ByteArray, e = .returned (.string t) ∧ t.size ≤ 140 ∧ Below w.heap.size w w' := by
 obtain ⟨k, rfl⟩ : ∃ k : Nat, c = (k : Int) := ⟨c.toNat, by omega⟩
 have hk : k < 8 := by omega
 have hm : s.size * k ≤ 20 * 7 := Nat.mul_le_mul hs (by omega)
 refine (Tryz.strings_Repeat s k w (by omega) (by omega)).mono ?_
 rintro e w' ⟨rfl, hb⟩
 refine ⟨_, rfl, ?_, hb⟩
 have e1 : (⟨(Lib.repeatL s.data.toList k).toArray⟩ : ByteArray).size = (Lib.repeatL s.data.toList k).length := by simp [ByteArray.size]
 rw [e1, Lib.repeatL_length]
 have : s.data.toList.length = s.size := by simp
 rw [this, Nat.mul_comm]; omega
theorem tdiv_in (n k : Int) (hk : 2 ≤ k) (h0 : -9223372036854775808 ≤ n) (h1 : n ≤ 9223372036854775807) : -9223372036854775808 ≤ n.tdiv k ∧ n.tdiv k ≤ 9223372036854775807 := by
 have h : (n.tdiv k).natAbs = n.natAbs / k.natAbs := Int.natAbs_tdiv n k
 have h2 : n.natAbs / k.natAbs ≤ n.natAbs / 2 := Nat.div_le_div_left (by omega) (by decide)
 omega
set_option maxRecDepth 100000 in
set_option maxHeartbeats 1000000 in
theorem value_is (n : Int) (h0 : -9223372036854775808 ≤ n) (h1 : n ≤ 9223372036854775807) (w : World) : Calls Tryz.prog 18 #[.int .i64 n] w (ValEnd w) := by
 obtain ⟨p, hp⟩ : ∃ p, pick n 8 = p := ⟨_, rfl⟩
 obtain ⟨q, hq⟩ : ∃ q, pick (n.tdiv 8) 4 = q := ⟨_, rfl⟩
 obtain ⟨c, hc⟩ : ∃ c, pick (n.tdiv 32) 8 = c := ⟨_, rfl⟩
 have b1 := pick_lt n 8 (by decide)
 have b2 := pick_lt (n.tdiv 8) 4 (by decide)
 have b3 := pick_lt (n.tdiv 32) 8 (by decide)
 rw [hp] at b1
 rw [hq] at b2
 rw [hc] at b3
 have HP := hid hp
 have HQ := hid hq
 have HC := hid hc
 obtain ⟨n8, hn8⟩ : ∃ k, n.tdiv 8 = k := ⟨_, rfl⟩
 obtain ⟨n32, hn32⟩ : ∃ k, n.tdiv 32 = k := ⟨_, rfl⟩
 have c8 : -9223372036854775808 ≤ n8 ∧ n8 ≤ 9223372036854775807 := by rw [← hn8]; exact tdiv_in n 8 (by decide) h0 h1
 have c32 : -9223372036854775808 ≤ n32 ∧ n32 ≤ 9223372036854775807 := by rw [← hn32]; exact tdiv_in n 32 (by decide) h0 h1
 have w8 : IntKind.i64.wrap n8 = n8 := IntWalk.i64_in _ ⟨by omega, by omega⟩
 have w32 : IntKind.i64.wrap n32 = n32 := IntWalk.i64_in _ ⟨by omega, by omega⟩
 rw [hn8] at HQ
 rw [hn32] at HC
 clear hp hq hc
 go_enter Tryz.func18, Tryz.ntmps18
 go_upto_region 1 with (fail)
 go_cut [3] (fun v wx => ∃ s : ByteArray, v = .string s ∧ s.size ≤ 40 ∧ Below w.heap.size w wx)
 case first =>
  go_wp2_with fail
  refine (picked_at n 8 p HP h0 h1 (by decide) (by decide) _).mono ?_
  rintro e w1 ⟨rfl, rfl⟩
  have hcs : p = 0 ∨ p = 1 ∨ p = 2 ∨ p = 3 ∨ p = 4 ∨ p = 5 ∨ p = 6 ∨ p = 7 := by omega
  rcases hcs with rfl | rfl | rfl | rfl | rfl | rfl | rfl | rfl
  all_goals
   go_wp2_with fail
   go_meet
   exact ⟨_, rfl, by decide, by go_grown⟩
 case rest =>
  obtain ⟨s, rfl, hs, hb⟩ := hcut
  have HB := hid hb
  clear hb
  have hcs : q = 0 ∨ q = 1 ∨ q = 2 ∨ q = 3 := by omega
  rcases hcs with rfl | rfl | rfl | rfl
  ·go_upto_region 2 with (fail)
   have S0 : Below wc.heap.size wc wc.drew := (Below.refl _ _).drew
   refine wp_region_L (Below wc.heap.size wc) 12 13 (by kernel_rfl) (by kernel_rfl) S0 (fun hHeld => ?_)
   refine wpAnyL_take (i := 0) (v := ?_) rfl (by kernel_rfl) (fun _ _ _ h => h) (Or.inl ⟨by rfl, ?_⟩) (by assumption) ?_
   rotate_left
   ·intro wS hSw; go_simp <;> with_reducible rfl
   walk_nrm
   refine wpAnyL_take (i := 2) (v := ?_) rfl (by kernel_rfl) (fun _ _ _ h => h) (Or.inl ⟨by rfl, ?_⟩) (by assumption) ?_
   rotate_left
   ·intro wS hSw; go_simp <;> with_reducible rfl
   walk_nrm
   refine wpAnyL_take (i := 3) (v := ?_) rfl (by kernel_rfl) (fun _ _ _ h => h) (Or.inl ⟨by rfl, ?_⟩) (by assumption) ?_
   rotate_left
   ·intro wS hSw; go_simp <;> with_reducible rfl
   walk_nrm
   refine wpAnyL_take (i := 7) (v := ?_) rfl (by kernel_rfl) (fun _ _ _ h => h) (Or.inl ⟨by rfl, ?_⟩) (by assumption) ?_
   rotate_left
   ·intro wS hSw; go_simp <;> with_reducible rfl
   walk_nrm
   refine wpAnyL_take (i := 8) (v := ?_) rfl (by kernel_rfl) (fun _ _ _ h => h) (Or.inl ⟨by rfl, ?_⟩) (by assumption) ?_
   rotate_left
   ·intro wS hSw; go_simp <;> with_reducible rfl
   walk_nrm
   refine wpAnyL_call (i := 4) (v := (.int .i64 0)) rfl (by kernel_rfl) (fun _ _ _ h => h) ⟨by rfl, 16, #[.int .i64 n8, .int .i64 4], fun wS hSw => ⟨?_, (picked_at n8 4 _ HQ c8.1 c8.2 (by decide) (by decide) wS).mono (fun _ _ h => ⟨h.1, h.2.symm⟩)⟩⟩ (by assumption) ?_
   ·go_simp
   walk_nrm
   refine wpAnyL_call (i := 9) (v := (.int .i64 c)) rfl (by kernel_rfl) (fun _ _ _ h => h) ⟨by rfl, 16, #[.int .i64 n32, .int .i64 8], fun wS hSw => ⟨?_, (picked_at n32 8 _ HC c32.1 c32.2 (by decide) (by decide) wS).mono (fun _ _ h => ⟨h.1, h.2.symm⟩)⟩⟩ (by assumption) ?_
   ·go_simp
   walk_nrm
   refine wpAnyL_step (i := 1) rfl (by kernel_rfl) (fun K hK => ?_)
   go_simp
   refine hK.out _ _ (hHeld.alloc (Nat.le_refl _) _) (fun hHeld2 => ?_)
   clear hK K
   walk_nrm
   refine wpAnyL_take (i := 5) (v := ?_) rfl (by kernel_rfl) (fun _ _ _ h => h) (Or.inl ⟨by rfl, ?_⟩) (by assumption) ?_
   rotate_left
   ·intro wS hSw; go_simp <;> with_reducible rfl
   walk_nrm
   refine wpAnyL_step (i := 6) rfl (by kernel_rfl) (fun K hK => ?_)
   go_simp
   refine hK.out _ _ hHeld2 (fun hHeld3 => ?_)
   clear hK K
   walk_nrm
   refine wpAnyL_step (i := 10) rfl (by kernel_rfl) (fun K hK => ?_)
   go_simp
   refine (repeat_is _ c b3.1 b3.2 (by decide) _).mono ?_
   rintro e w5 ⟨t, rfl, ht, hb5⟩
   have S5 : Below wc.heap.size wc w5 := hHeld3.trans (hb5.mono hHeld3.size)
   show K _ w5
   refine hK.out _ _ S5 (fun hHeld4 => ?_)
   clear hK K hb5
   have LN : ¬ 9223372036854775807 < s.size + t.size := by omega
   walk_nrm
   refine wpAnyL_take (i := 11) (v := ?_) rfl (by kernel_rfl) (fun _ _ _ h => h) (Or.inl ⟨by rfl, ?_⟩) (by assumption) ?_
   rotate_left
   ·intro wS hSw; go_simp <;> with_reducible rfl
   walk_nrm
   refine wpAnyL_last rfl (by kernel_rfl) (fun K hK => ?_)
   go_simp
   refine hK.out _ _ ?_
   clear hK K
   walk_nrm
   refine wpAnyL_done (by kernel_rfl) ?_ _
   go_wp2_with fail
   go_ret
   exact ⟨_, rfl, by rw [ByteArray.size_append]; omega, HB.out.trans (S5.mono HB.out.size)⟩
  ·go_upto_region 2 with (fail)
   have S0 : Below wc.heap.size wc wc.drew := (Below.refl _ _).drew
   refine wp_region_L (Below wc.heap.size wc) 12 13 (by kernel_rfl) (by kernel_rfl) S0 (fun hHeld => ?_)
   refine wpAnyL_take (i := 0) (v := ?_) rfl (by kernel_rfl) (fun _ _ _ h => h) (Or.inl ⟨by rfl, ?_⟩) (by assumption) ?_
   rotate_left
   ·intro wS hSw; go_simp <;> with_reducible rfl
   walk_nrm
   refine wpAnyL_take (i := 2) (v := ?_) rfl (by kernel_rfl) (fun _ _ _ h => h) (Or.inl ⟨by rfl, ?_⟩) (by assumption) ?_
   rotate_left
   ·intro wS hSw; go_simp <;> with_reducible rfl
   walk_nrm
   refine wpAnyL_take (i := 3) (v := ?_) rfl (by kernel_rfl) (fun _ _ _ h => h) (Or.inl ⟨by rfl, ?_⟩) (by assumption) ?_
   rotate_left
   ·intro wS hSw; go_simp <;> with_reducible rfl
   walk_nrm
   refine wpAnyL_take (i := 7) (v := ?_) rfl (by kernel_rfl) (fun _ _ _ h => h) (Or.inl ⟨by rfl, ?_⟩) (by assumption) ?_
   rotate_left
   ·intro wS hSw; go_simp <;> with_reducible rfl
   walk_nrm
   refine wpAnyL_take (i := 8) (v := ?_) rfl (by kernel_rfl) (fun _ _ _ h => h) (Or.inl ⟨by rfl, ?_⟩) (by assumption) ?_
   rotate_left
   ·intro wS hSw; go_simp <;> with_reducible rfl
   walk_nrm
   refine wpAnyL_call (i := 4) (v := (.int .i64 1)) rfl (by kernel_rfl) (fun _ _ _ h => h) ⟨by rfl, 16, #[.int .i64 n8, .int .i64 4], fun wS hSw => ⟨?_, (picked_at n8 4 _ HQ c8.1 c8.2 (by decide) (by decide) wS).mono (fun _ _ h => ⟨h.1, h.2.symm⟩)⟩⟩ (by assumption) ?_
   ·go_simp
   walk_nrm
   refine wpAnyL_call (i := 9) (v := (.int .i64 c)) rfl (by kernel_rfl) (fun _ _ _ h => h) ⟨by rfl, 16, #[.int .i64 n32, .int .i64 8], fun wS hSw => ⟨?_, (picked_at n32 8 _ HC c32.1 c32.2 (by decide) (by decide) wS).mono (fun _ _ h => ⟨h.1, h.2.symm⟩)⟩⟩ (by assumption) ?_
   ·go_simp
   walk_nrm
   refine wpAnyL_step (i := 1) rfl (by kernel_rfl) (fun K hK => ?_)
   go_simp
   refine hK.out _ _ (hHeld.alloc (Nat.le_refl _) _) (fun hHeld2 => ?_)
   clear hK K
   walk_nrm
   refine wpAnyL_take (i := 5) (v := ?_) rfl (by kernel_rfl) (fun _ _ _ h => h) (Or.inl ⟨by rfl, ?_⟩) (by assumption) ?_
   rotate_left
   ·intro wS hSw; go_simp <;> with_reducible rfl
   walk_nrm
   refine wpAnyL_step (i := 6) rfl (by kernel_rfl) (fun K hK => ?_)
   go_simp
   refine hK.out _ _ hHeld2 (fun hHeld3 => ?_)
   clear hK K
   walk_nrm
   refine wpAnyL_step (i := 10) rfl (by kernel_rfl) (fun K hK => ?_)
   go_simp
   refine (repeat_is _ c b3.1 b3.2 (by decide) _).mono ?_
   rintro e w5 ⟨t, rfl, ht, hb5⟩
   have S5 : Below wc.heap.size wc w5 := hHeld3.trans (hb5.mono hHeld3.size)
   show K _ w5
   refine hK.out _ _ S5 (fun hHeld4 => ?_)
   clear hK K hb5
   have LN : ¬ 9223372036854775807 < s.size + t.size := by omega
   walk_nrm
   refine wpAnyL_take (i := 11) (v := ?_) rfl (by kernel_rfl) (fun _ _ _ h => h) (Or.inl ⟨by rfl, ?_⟩) (by assumption) ?_
   rotate_left
   ·intro wS hSw; go_simp <;> with_reducible rfl
   walk_nrm
   refine wpAnyL_last rfl (by kernel_rfl) (fun K hK => ?_)
   go_simp
   refine hK.out _ _ ?_
   clear hK K
   walk_nrm
   refine wpAnyL_done (by kernel_rfl) ?_ _
   go_wp2_with fail
   go_ret
   exact ⟨_, rfl, by rw [ByteArray.size_append]; omega, HB.out.trans (S5.mono HB.out.size)⟩
  ·go_upto_region 2 with (fail)
   have S0 : Below wc.heap.size wc wc.drew := (Below.refl _ _).drew
   refine wp_region_L (Below wc.heap.size wc) 12 13 (by kernel_rfl) (by kernel_rfl) S0 (fun hHeld => ?_)
   refine wpAnyL_take (i := 0) (v := ?_) rfl (by kernel_rfl) (fun _ _ _ h => h) (Or.inl ⟨by rfl, ?_⟩) (by assumption) ?_
   rotate_left
   ·intro wS hSw; go_simp <;> with_reducible rfl
   walk_nrm
   refine wpAnyL_take (i := 2) (v := ?_) rfl (by kernel_rfl) (fun _ _ _ h => h) (Or.inl ⟨by rfl, ?_⟩) (by assumption) ?_
   rotate_left
   ·intro wS hSw; go_simp <;> with_reducible rfl
   walk_nrm
   refine wpAnyL_take (i := 3) (v := ?_) rfl (by kernel_rfl) (fun _ _ _ h => h) (Or.inl ⟨by rfl, ?_⟩) (by assumption) ?_
   rotate_left
   ·intro wS hSw; go_simp <;> with_reducible rfl
   walk_nrm
   refine wpAnyL_take (i := 7) (v := ?_) rfl (by kernel_rfl) (fun _ _ _ h => h) (Or.inl ⟨by rfl, ?_⟩) (by assumption) ?_
   rotate_left
   ·intro wS hSw; go_simp <;> with_reducible rfl
   walk_nrm
   refine wpAnyL_take (i := 8) (v := ?_) rfl (by kernel_rfl) (fun _ _ _ h => h) (Or.inl ⟨by rfl, ?_⟩) (by assumption) ?_
   rotate_left
   ·intro wS hSw; go_simp <;> with_reducible rfl
   walk_nrm
   refine wpAnyL_call (i := 4) (v := (.int .i64 2)) rfl (by kernel_rfl) (fun _ _ _ h => h) ⟨by rfl, 16, #[.int .i64 n8, .int .i64 4], fun wS hSw => ⟨?_, (picked_at n8 4 _ HQ c8.1 c8.2 (by decide) (by decide) wS).mono (fun _ _ h => ⟨h.1, h.2.symm⟩)⟩⟩ (by assumption) ?_
   ·go_simp
   walk_nrm
   refine wpAnyL_call (i := 9) (v := (.int .i64 c)) rfl (by kernel_rfl) (fun _ _ _ h => h) ⟨by rfl, 16, #[.int .i64 n32, .int .i64 8], fun wS hSw => ⟨?_, (picked_at n32 8 _ HC c32.1 c32.2 (by decide) (by decide) wS).mono (fun _ _ h => ⟨h.1, h.2.symm⟩)⟩⟩ (by assumption) ?_
   ·go_simp
   walk_nrm
   refine wpAnyL_step (i := 1) rfl (by kernel_rfl) (fun K hK => ?_)
   go_simp
   refine hK.out _ _ (hHeld.alloc (Nat.le_refl _) _) (fun hHeld2 => ?_)
   clear hK K
   walk_nrm
   refine wpAnyL_take (i := 5) (v := ?_) rfl (by kernel_rfl) (fun _ _ _ h => h) (Or.inl ⟨by rfl, ?_⟩) (by assumption) ?_
   rotate_left
   ·intro wS hSw; go_simp <;> with_reducible rfl
   walk_nrm
   refine wpAnyL_step (i := 6) rfl (by kernel_rfl) (fun K hK => ?_)
   go_simp
   refine hK.out _ _ hHeld2 (fun hHeld3 => ?_)
   clear hK K
   walk_nrm
   refine wpAnyL_step (i := 10) rfl (by kernel_rfl) (fun K hK => ?_)
   go_simp
   refine (repeat_is _ c b3.1 b3.2 (by decide) _).mono ?_
   rintro e w5 ⟨t, rfl, ht, hb5⟩
   have S5 : Below wc.heap.size wc w5 := hHeld3.trans (hb5.mono hHeld3.size)
   show K _ w5
   refine hK.out _ _ S5 (fun hHeld4 => ?_)
   clear hK K hb5
   have LN : ¬ 9223372036854775807 < s.size + t.size := by omega
   walk_nrm
   refine wpAnyL_take (i := 11) (v := ?_) rfl (by kernel_rfl) (fun _ _ _ h => h) (Or.inl ⟨by rfl, ?_⟩) (by assumption) ?_
   rotate_left
   ·intro wS hSw; go_simp <;> with_reducible rfl
   walk_nrm
   refine wpAnyL_last rfl (by kernel_rfl) (fun K hK => ?_)
   go_simp
   refine hK.out _ _ ?_
   clear hK K
   walk_nrm
   refine wpAnyL_done (by kernel_rfl) ?_ _
   go_wp2_with fail
   go_ret
   exact ⟨_, rfl, by rw [ByteArray.size_append]; omega, HB.out.trans (S5.mono HB.out.size)⟩
  ·go_upto_region 2 with (fail)
   have S0 : Below wc.heap.size wc wc.drew := (Below.refl _ _).drew
   refine wp_region_L (Below wc.heap.size wc) 12 13 (by kernel_rfl) (by kernel_rfl) S0 (fun hHeld => ?_)
   refine wpAnyL_take (i := 0) (v := ?_) rfl (by kernel_rfl) (fun _ _ _ h => h) (Or.inl ⟨by rfl, ?_⟩) (by assumption) ?_
   rotate_left
   ·intro wS hSw; go_simp <;> with_reducible rfl
   walk_nrm
   refine wpAnyL_take (i := 2) (v := ?_) rfl (by kernel_rfl) (fun _ _ _ h => h) (Or.inl ⟨by rfl, ?_⟩) (by assumption) ?_
   rotate_left
   ·intro wS hSw; go_simp <;> with_reducible rfl
   walk_nrm
   refine wpAnyL_take (i := 3) (v := ?_) rfl (by kernel_rfl) (fun _ _ _ h => h) (Or.inl ⟨by rfl, ?_⟩) (by assumption) ?_
   rotate_left
   ·intro wS hSw; go_simp <;> with_reducible rfl
   walk_nrm
   refine wpAnyL_take (i := 7) (v := ?_) rfl (by kernel_rfl) (fun _ _ _ h => h) (Or.inl ⟨by rfl, ?_⟩) (by assumption) ?_
   rotate_left
   ·intro wS hSw; go_simp <;> with_reducible rfl
   walk_nrm
   refine wpAnyL_take (i := 8) (v := ?_) rfl (by kernel_rfl) (fun _ _ _ h => h) (Or.inl ⟨by rfl, ?_⟩) (by assumption) ?_
   rotate_left
   ·intro wS hSw; go_simp <;> with_reducible rfl
   walk_nrm
   refine wpAnyL_call (i := 4) (v := (.int .i64 3)) rfl (by kernel_rfl) (fun _ _ _ h => h) ⟨by rfl, 16, #[.int .i64 n8, .int .i64 4], fun wS hSw => ⟨?_, (picked_at n8 4 _ HQ c8.1 c8.2 (by decide) (by decide) wS).mono (fun _ _ h => ⟨h.1, h.2.symm⟩)⟩⟩ (by assumption) ?_
   ·go_simp
   walk_nrm
   refine wpAnyL_call (i := 9) (v := (.int .i64 c)) rfl (by kernel_rfl) (fun _ _ _ h => h) ⟨by rfl, 16, #[.int .i64 n32, .int .i64 8], fun wS hSw => ⟨?_, (picked_at n32 8 _ HC c32.1 c32.2 (by decide) (by decide) wS).mono (fun _ _ h => ⟨h.1, h.2.symm⟩)⟩⟩ (by assumption) ?_
   ·go_simp
   walk_nrm
   refine wpAnyL_step (i := 1) rfl (by kernel_rfl) (fun K hK => ?_)
   go_simp
   refine hK.out _ _ (hHeld.alloc (Nat.le_refl _) _) (fun hHeld2 => ?_)
   clear hK K
   walk_nrm
   refine wpAnyL_take (i := 5) (v := ?_) rfl (by kernel_rfl) (fun _ _ _ h => h) (Or.inl ⟨by rfl, ?_⟩) (by assumption) ?_
   rotate_left
   ·intro wS hSw; go_simp <;> with_reducible rfl
   walk_nrm
   refine wpAnyL_step (i := 6) rfl (by kernel_rfl) (fun K hK => ?_)
   go_simp
   refine hK.out _ _ hHeld2 (fun hHeld3 => ?_)
   clear hK K
   walk_nrm
   refine wpAnyL_step (i := 10) rfl (by kernel_rfl) (fun K hK => ?_)
   go_simp
   refine (repeat_is _ c b3.1 b3.2 (by decide) _).mono ?_
   rintro e w5 ⟨t, rfl, ht, hb5⟩
   have S5 : Below wc.heap.size wc w5 := hHeld3.trans (hb5.mono hHeld3.size)
   show K _ w5
   refine hK.out _ _ S5 (fun hHeld4 => ?_)
   clear hK K hb5
   have LN : ¬ 9223372036854775807 < s.size + t.size := by omega
   walk_nrm
   refine wpAnyL_take (i := 11) (v := ?_) rfl (by kernel_rfl) (fun _ _ _ h => h) (Or.inl ⟨by rfl, ?_⟩) (by assumption) ?_
   rotate_left
   ·intro wS hSw; go_simp <;> with_reducible rfl
   walk_nrm
   refine wpAnyL_last rfl (by kernel_rfl) (fun K hK => ?_)
   go_simp
   refine hK.out _ _ ?_
   clear hK K
   walk_nrm
   refine wpAnyL_done (by kernel_rfl) ?_ _
   go_wp2_with fail
   go_ret
   exact ⟨_, rfl, by rw [ByteArray.size_append]; omega, HB.out.trans (S5.mono HB.out.size)⟩
end Go.Proofs.YtbeegfkfpkfccaaGreatDoor.D

