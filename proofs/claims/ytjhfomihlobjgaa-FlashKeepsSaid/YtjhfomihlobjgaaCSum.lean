/-
  Contracts: flash.sum and ref.sumOf compute the sum of a value. Condition: a string's length is a Go int.
-/
import Derived.Test.YtjhfomihlobjgaaCMem
namespace Go.Proofs.Ytjhfomihlobjgaa.D
open Go.RowKit

theorem take_snoc (s : ByteArray) (k : Nat) (h : k < s.size) : (bl s).take (k + 1) = (bl s).take k ++ [s[k]] := by
  rw [List.take_succ_eq_append_getElem (by rw [bl_length]; exact h)]; rfl

theorem flash_sum (s : ByteArray) (w : World) (hs : s.size ≤ 9223372036854775807) :
    Calls Try.prog 50 #[.string s] w fun e w' => e = .returned (.int .i64 (sumOf (bl s) : Nat)) ∧ w = w' := by
  go_enter Try.func50, Try.ntmps50
  go_wp2
  go_loop [3, 7] (fun n i => ∃ k : Nat, k ≤ s.size ∧ i = .int .i64 k ∧ n = .int .i64 (sumOf ((bl s).take k) : Nat)) (fun _ i => s.size - (intOf i).toNat)
  case atStart => exact ⟨0, Nat.zero_le _, rfl, rfl⟩
  case round =>
    obtain ⟨k, hk, rfl, rfl⟩ := hrel
    have hlt := sumOf_lt ((bl s).take k)
    by_cases hlt : k < s.size
    · have hsn := Lib.hid (sumOf_snoc ((bl s).take k) s[k])
      have hts := Lib.hid (take_snoc s k hlt)
      have hb := u8_lt s[k]
      go_wp2
      go_round
      case rel => exact ⟨k + 1, by omega, by go_num, by rw [hts.out, hsn.out]; go_num⟩
      case measure => simp [intOf]; omega
    · go_wp2
      go_ret
      exact ⟨by rw [List.take_of_length_le (by rw [bl_length]; omega)]; rfl, rfl⟩

theorem ref_sumOf (s : ByteArray) (w : World) (hs : s.size ≤ 9223372036854775807) :
    Calls Try.prog 55 #[.string s] w fun e w' => e = .returned (.int .i64 (sumOf (bl s) : Nat)) ∧ w = w' := by
  go_enter Try.func55, Try.ntmps55
  go_wp2
  go_loop [3, 4] (fun n i => ∃ k : Nat, k ≤ s.size ∧ i = .int .i64 k ∧ n = .int .i64 (sumOf ((bl s).take k) : Nat)) (fun _ i => s.size - (intOf i).toNat)
  case atStart => exact ⟨0, Nat.zero_le _, rfl, rfl⟩
  case round =>
    obtain ⟨k, hk, rfl, rfl⟩ := hrel
    have hlt := sumOf_lt ((bl s).take k)
    by_cases hlt : k < s.size
    · have hsn := Lib.hid (sumOf_snoc ((bl s).take k) s[k])
      have hts := Lib.hid (take_snoc s k hlt)
      have hb := u8_lt s[k]
      go_wp2
      go_round
      case rel => exact ⟨k + 1, by omega, by go_num, by rw [hts.out, hsn.out]; go_num⟩
      case measure => simp [intOf]; omega
    · go_wp2
      go_ret
      exact ⟨by rw [List.take_of_length_le (by rw [bl_length]; omega)]; rfl, rfl⟩
end Go.Proofs.Ytjhfomihlobjgaa.D
