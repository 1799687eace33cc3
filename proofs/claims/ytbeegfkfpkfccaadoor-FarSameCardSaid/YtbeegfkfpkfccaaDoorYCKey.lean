/-
  Contracts: wire.Key and ref.KeyMay tell whether a text may be a key. Condition: a string's length is a Go int.
-/
import Derived.Test.YtbeegfkfpkfccaaDoorYBase
import Derived.Test.YtbeegfkfpkfccaaDoorYPlain
namespace Go.Proofs.YtbeegfkfpkfccaaDoor.D
open Go.RowKit

theorem key_lit (c : UInt8) (w : World) :
    Calls Tryd.prog 40 #[.int .u8 c.toNat] w fun e w' => e = .returned (.bool (badC c)) ∧ w = w' := by
  by_cases h1 : (c.toNat : Int) ≤ 32
  · have e1 : decide ((c.toNat : Int) ≤ 32) = true := by simpa using h1
    have e2 : badC c = true := by simp [badC]; omega
    have E2 := Lib.hid e2
    clear e2 h1
    go_enter Tryd.func40, Tryd.ntmps40
    go_wp2
    go_ret
    exact ⟨ret_bool E2.out.symm, rfl⟩
  · have e1 : decide ((c.toNat : Int) ≤ 32) = false := by simpa using h1
    have e2 : badC c = decide (126 < (c.toNat : Int)) := by
      unfold badC; rw [Bool.eq_iff_iff]; simp; omega
    have E2 := Lib.hid e2
    clear e2 h1
    go_enter Tryd.func40, Tryd.ntmps40
    go_wp2
    go_ret
    exact ⟨ret_bool E2.out.symm, rfl⟩

/-- 'slices.IndexFunc' at the key's closure: the first byte that is bad -/
theorem index_key (l : Str) (a : Option Addr) (c : Nat) (w : World) (h : BytesAt w a l) (hl : l.length ≤ 9223372036854775807) :
    Calls Tryd.prog 60 #[.slice a l.length c, .func (.func 40) #[] #[]] w fun e w' => e = .returned (.int .i64 (firstBad l 0)) ∧ w = w' := by
  go_enter Tryd.func60, Tryd.ntmps60
  go_wp2
  go_loop [8] (fun i => ∃ k : Nat, k ≤ l.length ∧ i = .int .i64 k ∧ (l.take k).all goodC = true) (fun i => l.length - (intOf i).toNat)
  case atStart => exact ⟨0, Nat.zero_le _, rfl, rfl⟩
  case round =>
    obtain ⟨k, hk, rfl, hg0⟩ := hrel
    have hg := Lib.hid hg0
    clear hg0
    by_cases hlt : k < l.length
    · obtain ⟨b, o, rfl, hc0⟩ := h.pos (by omega)
      obtain ⟨x, hx⟩ : ∃ x, x = l[k] := ⟨_, rfl⟩
      have hc := hc0 k hlt
      have hts := Lib.hid (all_take_succ l goodC k hlt)
      have hbg := Lib.hid (badC_eq l[k])
      have hC := Lib.hid (firstBad_hit l 0 k hlt hg.out)
      rw [← hx] at hc hts hbg hC
      clear hc0 h hx
      go_wp2_with (go_at_call 40; refine (key_lit _ _).mono ?_; rintro e w' ⟨rfl, rfl⟩)
      · have hbad : badC x = true := by assumption
        go_ret
        exact ⟨ret_int (by rw [hC.out hbad]; simp), rfl⟩
      · have hbad : badC x = false := by assumption
        go_round
        case rel => exact ⟨k + 1, by omega, by go_num, by rw [hts.out, hg.out]; rw [hbg.out] at hbad; simpa using hbad⟩
        case measure => simp [intOf]; omega
    · have hC := Lib.hid (firstBad_none l 0)
      have hkk : Hid (l.take k = l) := List.take_of_length_le (by omega)
      go_wp2
      go_ret
      exact ⟨ret_int (by rw [hC.out (by have := hg.out; rw [hkk.out] at this; exact this)]), rfl⟩

theorem contains_key (l : Str) (a : Option Addr) (c : Nat) (w : World) (h : BytesAt w a l) (hl : l.length ≤ 9223372036854775807) :
    Calls Tryd.prog 39 #[.slice a l.length c, .func (.func 40) #[] #[]] w fun e w' => e = .returned (.bool (!l.all goodC)) ∧ w = w' := by
  have hn := Lib.hid (firstBad_neg l 0)
  have h' := Lib.hid h
  clear h
  go_enter Tryd.func39, Tryd.ntmps39
  go_wp2_with fail
  refine (index_key l a c _ h'.out hl).mono ?_
  rintro e w' ⟨rfl, rfl⟩
  go_wp2
  go_ret
  exact ⟨ret_bool (by rw [Bool.eq_iff_iff]; simp [hn.out]), rfl⟩

def KeyEnd (s : ByteArray) (w : World) (e : Ending) (w' : World) : Prop := e = .returned (.bool (keyL (bl s))) ∧ Below w.heap.size w w'

theorem wire_Key (s : ByteArray) (w : World) (hs : s.size ≤ 9223372036854775807) :
    Calls Tryd.prog 26 #[.string s] w (KeyEnd s w) := by
  have hlen := Lib.hid (bl_length s)
  by_cases h0 : s.size = 0
  · have e1 : s.toList.isEmpty = true := by rw [bl_toList, List.isEmpty_iff_length_eq_zero, bl_length]; exact h0
    have hK : Hid (keyL (bl s) = false) := by show keyL (bl s) = false; simp [keyL, hlen.out, h0]
    go_enter Tryd.func26, Tryd.ntmps26
    go_wp2
    go_ret
    exact ⟨ret_bool hK.out.symm, Below.refl _ _⟩
  · have e1 : s.toList.isEmpty = false := by rw [bl_toList, Bool.eq_false_iff]; intro hE; rw [List.isEmpty_iff_length_eq_zero, bl_length] at hE; exact h0 hE
    by_cases h1 : (20 : Int) < s.size
    · have hK : Hid (keyL (bl s) = false) := by
        show keyL (bl s) = false
        have : ¬ (bl s).length ≤ 20 := by rw [hlen.out]; omega
        simp only [keyL, this, and_false, decide_false, Bool.false_and]
      go_enter Tryd.func26, Tryd.ntmps26
      go_wp2
      go_ret
      exact ⟨ret_bool hK.out.symm, Below.refl _ _⟩
    · have hK : Hid (keyL (bl s) = (bl s).all goodC) := by
        show keyL (bl s) = (bl s).all goodC
        have h3 : 1 ≤ (bl s).length ∧ (bl s).length ≤ 20 := by rw [hlen.out]; omega
        simp only [keyL, h3, and_self, decide_true, Bool.true_and]
      have e3 : decide ((20 : Int) < s.size) = false := by simpa using h1
      obtain ⟨c, w1, hr, hb, hbl, hc, hz⟩ := run_bytes w s
      have Hb := Lib.hid hb
      clear hb h1 h0
      go_enter Tryd.func26, Tryd.ntmps26
      go_wp2_with fail
      rw [← hlen.out]
      refine (contains_key (bl s) _ c _ Hb.out (by rw [hlen.out]; exact hs)).mono ?_
      rintro e w' ⟨rfl, rfl⟩
      go_wp2
      go_ret
      exact ⟨ret_bool (by rw [hK.out]), hbl⟩

end Go.Proofs.YtbeegfkfpkfccaaDoor.D
