/-
 Contract: flash.record reads the record at a place that lies in the page.
-/
import Derived.Test.YtbeegfkfpkfccaaGreatDoorYBase
import Derived.Deep.Cut
import Derived.Deep.RegionLaw
namespace Go.Proofs.YtbeegfkfpkfccaaGreatDoor.D
open Go.RowKit
theorem BytesAt.drop {w : World} {b o : Nat} {l : Str} (h : BytesAt w (some ⟨b, o, none⟩) l) (n : Nat) : BytesAt w (some ⟨b, o + n, none⟩) (l.drop n) := by
 rcases h with h | ⟨b', o', ha, hc⟩
 ·simp at h; subst h; exact .inl (by simp)
 ·simp only [Option.some.injEq, Addr.mk.injEq, and_true] at ha
  obtain ⟨rfl, rfl⟩ := ha;refine .inr ⟨b, o + n, rfl, fun i v hv => ?_⟩;rw [List.map_drop, List.getElem?_drop] at hv;rw [Nat.add_assoc]; exact hc _ _ hv
theorem BytesAt.take {w : World} {a : Option Addr} {l : Str} (h : BytesAt w a l) (n : Nat) : BytesAt w a (l.take n) := by
 rcases h with h | ⟨b', o', ha, hc⟩
 ·simp at h; subst h; exact .inl (by simp)
 ·refine .inr ⟨b', o', ha, fun i v hv => hc i v ?_⟩
  rw [List.map_take] at hv
  by_cases hi : i < n
  ·rwa [List.getElem?_take_of_lt hi] at hv
  ·rw [List.getElem?_take_eq_none (by omega)] at hv; cases hv
def RecEnd (b : Str) (k : Nat) (w : World) (e : Ending) (w' : World) : Prop :=
 ∃ (s : ByteArray) (n : Int), e = .returned (.tuple #[.string s, .int .i64 n, .bool (recB b k)]) ∧ (recB b k = true → bl s = valAt b k ∧ n = (k + 3 + lenAt b k : Nat)) ∧ Below w.heap.size w w'
theorem recEnd_no {b : Str} {k : Nat} {w : World} (h : recB b k = false) : RecEnd b k w (.returned (.tuple #[.string ⟨#[]⟩, .int .i64 0, .bool false])) w :=
 ⟨_, _, by rw [h], (fun hh => absurd (h.symm.trans hh) (by decide)), Below.refl _ _⟩
theorem valAt_length {b : Str} {k : Nat} (h : k + 3 + lenAt b k ≤ b.length) : (valAt b k).length = lenAt b k := by
 simp [valAt]; omega
theorem rec_short {b : Str} {k : Nat} (h : b.length < k + 3 + lenAt b k) : recB b k = false := by
 simp only [recB, decide_eq_false_iff_not]; omega
theorem rec_long {b : Str} {k : Nat} (h : 200 < lenAt b k) : recB b k = false := by
 simp only [recB, decide_eq_false_iff_not]; omega
theorem recEnd_good {v : Str} {k n x y : Nat} {w w' : World} (hb : Below w.heap.size w w') :
  Ending.returned (.tuple #[.string ⟨v.toArray⟩, .int .i64 ((k : Int) + 3 + (n : Int)), .bool ((sumOf v : Int) == (x : Int) * 256 + (y : Int))]) = .returned (.tuple #[.string ⟨v.toArray⟩, .int .i64 (k + 3 + n : Nat), .bool (decide (sumOf v = x * 256 + y))]) ∧ Below w.heap.size w w' := by
 refine ⟨?_, hb⟩;have e1 : (k : Int) + 3 + (n : Int) = (k + 3 + n : Nat) := by omega
 have e2 : ((sumOf v : Int) == (x : Int) * 256 + (y : Int)) = decide (sumOf v = x * 256 + y) := by
  rw [Bool.eq_iff_iff, beq_iff_eq, decide_eq_true_eq]; omega
 rw [e1, e2]
theorem or_bytes (x y : Nat) (hX : x < 256) (hY : y < 256) : bits .or .i64 ((x : Int) * 256) (y : Int) = (x : Int) * 256 + y := by
 have h := (bits_nat .i64 16 (by decide) (fun n h0 h1 => IntWalk.i64_in _ ⟨by omega, by omega⟩) (2 ^ 8 * x) y (by omega) (by omega)).2;rw [← Nat.two_pow_add_eq_or_of_lt (show y < 2 ^ 8 by omega)] at h;have e : ((2 ^ 8 * x : Nat) : Int) = (x : Int) * 256 := by omega
 rw [e] at h;rw [h]; omega
theorem sum_list (v : Str) (w : World) (hs : v.length ≤ 9223372036854775807) : Calls Tryz.prog 100 #[.string ⟨v.toArray⟩] w fun e w' => e = .returned (.int .i64 (sumOf v : Nat)) ∧ w = w' := by
 have := flash_sum ⟨v.toArray⟩ w hs
 rwa [bl_mk] at this
set_option maxHeartbeats 1000000 in
theorem record_good (b : Str) (ab ao c k n x y : Nat) (w : World) (hc : b.length ≤ c) (hk : k < b.length) (hl : b.length ≤ 140737488355328) (hcc : c ≤ 9223372036854775807)
  (h4 : k + 3 + n ≤ b.length) (h5 : n ≤ 200) (hX : x < 256) (hY : y < 256)
  (c0 : w.cell? ⟨ab, ao + k, none⟩ = some (.int .u8 n)) (c1 : w.cell? ⟨ab, ao + (k + 1), none⟩ = some (.int .u8 x)) (c2 : w.cell? ⟨ab, ao + (k + 2), none⟩ = some (.int .u8 y))
  (v : Str) (HV : Hid (BytesAt w (some ⟨ab, ao + (k + 3), none⟩) v)) (HVL : Hid (v.length = n)) :
  Calls Tryz.prog 74 #[.slice (some ⟨ab, ao, none⟩) b.length c, .int .i64 k] w fun e w' => e = .returned (.tuple #[.string ⟨v.toArray⟩, .int .i64 (k + 3 + n : Nat), .bool (decide (sumOf v = x * 256 + y))]) ∧ Below w.heap.size w w' := by
 have wn : wrap64 (n : Int) = n := IntWalk.wrap64_in _ ⟨by omega, by omega⟩;have wx : wrap64 (x : Int) = x := IntWalk.wrap64_in _ ⟨by omega, by omega⟩;have wy : wrap64 (y : Int) = y := IntWalk.wrap64_in _ ⟨by omega, by omega⟩
 have HVA : BytesAt w (if c = k + 3 then some ⟨ab, ao, none⟩ else some ⟨ab, ao + (k + 3), none⟩) v := by
  by_cases h : c = k + 3
  ·rw [if_pos h]
   have : v.length = n := HVL.out;have : v = [] := List.eq_nil_of_length_eq_zero (by omega);subst this; exact CellsAt.nil _ _
  ·rw [if_neg h]; exact HV.out
 have hs := fun c' => run_str HVA n c' HVL.out.symm w (Keeps.refl w)
 have HVA' := hid HVA;have hvs : v.length ≤ 9223372036854775807 := by have : v.length = n := HVL.out; omega
 clear HVA
 go_enter Tryz.func74, Tryz.ntmps74
 go_wp2_with fail
 all_goals
  have g1 : IntKind.i64.wrap ((k : Int) + 1) = (k : Int) + 1 := IntWalk.i64_in _ ⟨by omega, by omega⟩;have g2 : IntKind.i64.wrap ((k : Int) + 2) = (k : Int) + 2 := IntWalk.i64_in _ ⟨by omega, by omega⟩;have g3 : ((k : Int) + 1).toNat = k + 1 := by omega
  have g4 : ((k : Int) + 2).toNat = k + 2 := by omega
  have g5 : (0 : Int) ≤ (k : Int) + 1 := by omega
  have g6 : (0 : Int) ≤ (k : Int) + 2 := by omega
  have g7 : (k : Int) + 1 < (b.length : Int) := by omega
  have g8 : (k : Int) + 2 < (b.length : Int) := by omega
  have g9 : IntKind.i64.wrap (x : Int) = (x : Int) := IntWalk.i64_in _ ⟨by omega, by omega⟩;have g10 : IntKind.i64.wrap (y : Int) = (y : Int) := IntWalk.i64_in _ ⟨by omega, by omega⟩;have g11 : IntKind.i64.wrap ((x : Int) * 256) = (x : Int) * 256 := IntWalk.i64_in _ ⟨by omega, by omega⟩;have g12 := or_bytes x y hX hY
  go_region_law (go_simp; go_at_call 100; go_must (refine (sum_list _ _ hvs).mono ?_); rintro e w' ⟨rfl, rfl⟩)
 all_goals
  go_wp2_with fail
  exact bodyPost_ret (v := .tuple #[.string ⟨v.toArray⟩, .int .i64 ((k : Int) + 3 + (n : Int)), .bool ((sumOf v : Int) == (x : Int) * 256 + (y : Int))]) (by simp [results, Tryz.results74, go_sem]) rfl (recEnd_good (by go_grown))
set_option maxHeartbeats 400000 in
theorem flash_record (b : Str) (a : Option Addr) (c : Nat) (k : Nat) (w : World) (h : BytesAt w a b) (hl : b.length ≤ 140737488355328) (hc : b.length ≤ c) (hcc : c ≤ 9223372036854775807) (hk : k < b.length) :
  Calls Tryz.prog 74 #[.slice a b.length c, .int .i64 k] w (RecEnd b k w) := by
 obtain ⟨ab, ao, rfl, hcell⟩ := h.pos (by omega)
 by_cases h3 : b.length < k + 3
 ·have hr := hid (rec_short (b := b) (k := k) (by omega))
  clear hcell h
  go_enter Tryz.func74, Tryz.ntmps74
  go_wp2_with fail
  exact bodyPost_ret (v := .tuple #[.string ⟨#[]⟩, .int .i64 0, .bool false]) (by simp [results, Tryz.results74, go_sem]) rfl (recEnd_no hr.out)
 ·have c0 := hcell k (by omega)
  have c1 := hcell (k + 1) (by omega);have c2 := hcell (k + 2) (by omega);have hn : b[k].toNat = lenAt b k := by simp [lenAt, List.getD_eq_getElem?_getD, hk]
  have h1 : b[k + 1].toNat = (b.getD (k + 1) 0).toNat := by simp [List.getD_eq_getElem?_getD, show k + 1 < b.length by omega]
  have h2 : b[k + 2].toNat = (b.getD (k + 2) 0).toNat := by simp [List.getD_eq_getElem?_getD, show k + 2 < b.length by omega]
  have hL : lenAt b k < 256 := by rw [← hn]; exact b[k].toNat_lt
  have hX : (b.getD (k + 1) 0).toNat < 256 := UInt8.toNat_lt _;have hY : (b.getD (k + 2) 0).toNat < 256 := UInt8.toNat_lt _;rw [hn] at c0;rw [h1] at c1;rw [h2] at c2;obtain ⟨n, hnn⟩ : ∃ n, n = lenAt b k := ⟨_, rfl⟩;obtain ⟨x, hx⟩ : ∃ x, x = (b.getD (k + 1) 0).toNat := ⟨_, rfl⟩;obtain ⟨y, hy⟩ : ∃ y, y = (b.getD (k + 2) 0).toNat := ⟨_, rfl⟩;have hA := hid hnn;have hX' := hid hx;have hY' := hid hy;rw [← hnn] at c0 hL;rw [← hx] at c1 hX;rw [← hy] at c2 hY;have wn : wrap64 (n : Int) = n := IntWalk.wrap64_in _ ⟨by omega, by omega⟩;have wx : wrap64 (x : Int) = x := IntWalk.wrap64_in _ ⟨by omega, by omega⟩;have wy : wrap64 (y : Int) = y := IntWalk.wrap64_in _ ⟨by omega, by omega⟩;have HB := hid h;clear hcell hn h1 h2 h hnn hx hy
  by_cases h4 : b.length < k + 3 + n
  ·have hr := hid (rec_short (b := b) (k := k) (by rw [← hA.out]; omega))
   go_enter Tryz.func74, Tryz.ntmps74
   go_wp2_with fail
   exact bodyPost_ret (v := .tuple #[.string ⟨#[]⟩, .int .i64 0, .bool false]) (by simp [results, Tryz.results74, go_sem]) rfl (recEnd_no hr.out)
  by_cases h5 : 200 < n
  ·have hr := hid (rec_long (b := b) (k := k) (by rw [← hA.out]; omega))
   go_enter Tryz.func74, Tryz.ntmps74
   go_wp2_with fail
   exact bodyPost_ret (v := .tuple #[.string ⟨#[]⟩, .int .i64 0, .bool false]) (by simp [results, Tryz.results74, go_sem]) rfl (recEnd_no hr.out)
  have hv : BytesAt w (some ⟨ab, ao + (k + 3), none⟩) (valAt b k) := (HB.out.drop (k + 3)).take _;have hvl := valAt_length (b := b) (k := k) (by rw [← hA.out]; omega);rw [← hA.out] at hvl;refine (record_good b ab ao c k n x y w hc hk hl hcc (by omega) (by omega) hX hY c0 c1 c2 (valAt b k) hv hvl).mono ?_;rintro e w' ⟨rfl, hb⟩
  have hd : decide (sumOf (valAt b k) = x * 256 + y) = recB b k := by
   rw [recB, decide_eq_decide, ← hA.out, ← hX'.out, ← hY'.out];exact ⟨fun h => ⟨by omega, by omega, h⟩, fun h => h.2.2⟩
  exact ⟨_, _, by rw [hd], fun _ => ⟨bl_mk _, by rw [hA.out]⟩, hb⟩
end Go.Proofs.YtbeegfkfpkfccaaGreatDoor.D
