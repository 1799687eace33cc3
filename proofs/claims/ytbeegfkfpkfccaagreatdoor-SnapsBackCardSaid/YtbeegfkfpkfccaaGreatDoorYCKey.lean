/-
 Contracts: wire.Key and ref.KeyMay tell whether a text may be a key. Condition: a string's length is a Go int.
-/
import Derived.Test.YtbeegfkfpkfccaaGreatDoorYBase
import Derived.Test.YtbeegfkfpkfccaaGreatDoorYPlain
namespace Go.Proofs.YtbeegfkfpkfccaaGreatDoor.D
open Go.RowKit

theorem ref_In (n lo hi : Int) (w : World) :
  Calls Tryz.prog 58 #[.int .i64 n, .int .i64 lo, .int .i64 hi] w fun e w' => e = .returned (.bool (decide (lo ≤ n ∧ n ≤ hi))) ∧ w = w' := by
 by_cases h1 : lo ≤ n
 ·by_cases h2 : n ≤ hi
  ·have e2 : decide (lo ≤ n ∧ n ≤ hi) = true := by simp; omega
   rw [e2]
   go_enter Tryz.func58, Tryz.ntmps58
   go_wp2
   go_ret
   exact ⟨rfl, rfl⟩
  ·have e2 : decide (lo ≤ n ∧ n ≤ hi) = false := by simp; omega
   have e3 : decide (n ≤ hi) = false := by simp; omega
   rw [e2]
   go_enter Tryz.func58, Tryz.ntmps58
   go_wp2
   go_ret
   exact ⟨rfl, rfl⟩
 ·have e2 : decide (lo ≤ n ∧ n ≤ hi) = false := by simp; omega
  have e3 : decide (lo ≤ n) = false := by simp; omega
  rw [e2]
  go_enter Tryz.func58, Tryz.ntmps58
  go_wp2
  go_ret
  exact ⟨rfl, rfl⟩

theorem key_lit (c : UInt8) (w : World) :
  Calls Tryz.prog 85 #[.int .u8 c.toNat] w fun e w' => e = .returned (.bool (badC c)) ∧ w = w' := by
 by_cases h1 : (c.toNat : Int) ≤ 32
 ·have e1 : decide ((c.toNat : Int) ≤ 32) = true := by simpa using h1
  have e2 : badC c = true := by simp [badC]; omega
  have E2 := hid e2
  clear e2 h1
  go_enter Tryz.func85, Tryz.ntmps85
  go_wp2
  go_ret
  exact ⟨ret_bool E2.out.symm, rfl⟩
 ·have e1 : decide ((c.toNat : Int) ≤ 32) = false := by simpa using h1
  have e2 : badC c = decide (126 < (c.toNat : Int)) := by
   unfold badC; rw [Bool.eq_iff_iff]; simp; omega
  have E2 := hid e2
  clear e2 h1
  go_enter Tryz.func85, Tryz.ntmps85
  go_wp2
  go_ret
  exact ⟨ret_bool E2.out.symm, rfl⟩

/-- 'slices.IndexFunc' at the key's closure: the first byte that is bad -/
theorem index_key (l : Str) (a : Option Addr) (c : Nat) (w : World) (h : BytesAt w a l) (hl : l.length ≤ 9223372036854775807) :
  Calls Tryz.prog 110 #[.slice a l.length c, .func (.func 85) #[] #[]] w fun e w' => e = .returned (.int .i64 (firstBad l 0)) ∧ w = w' := by
 go_enter Tryz.func110, Tryz.ntmps110
 go_wp2
 go_loop [8] (fun i => ∃ k : Nat, k ≤ l.length ∧ i = .int .i64 k ∧ (l.take k).all goodC = true) (fun i => l.length - (intOf i).toNat)
 case atStart => exact ⟨0, Nat.zero_le _, rfl, rfl⟩
 case round =>
  obtain ⟨k, hk, rfl, hg0⟩ := hrel
  have hg := hid hg0
  clear hg0
  by_cases hlt : k < l.length
  ·obtain ⟨b, o, rfl, hc0⟩ := h.pos (by omega)
   obtain ⟨x, hx⟩ : ∃ x, x = l[k] := ⟨_, rfl⟩
   have hc := hc0 k hlt
   have hts := hid (all_take_succ l goodC k hlt)
   have hbg := hid (badC_eq l[k])
   have hC := hid (firstBad_hit l 0 k hlt hg.out)
   rw [← hx] at hc hts hbg hC
   clear hc0 h hx
   go_wp2_with (go_at_call 85; refine (key_lit _ _).mono ?_; rintro e w' ⟨rfl, rfl⟩)
   ·have hbad : badC x = true := by assumption
    go_ret
    exact ⟨ret_int (by rw [hC.out hbad]; simp), rfl⟩
   ·have hbad : badC x = false := by assumption
    go_round
    case rel => exact ⟨k + 1, by omega, by go_num, by rw [hts.out, hg.out]; rw [hbg.out] at hbad; simpa using hbad⟩
    case measure => simp [intOf]; omega
  ·have hC := hid (firstBad_none l 0)
   have hkk : Hid (l.take k = l) := List.take_of_length_le (by omega)
   go_wp2
   go_ret
   exact ⟨ret_int (by rw [hC.out (by have := hg.out; rw [hkk.out] at this; exact this)]), rfl⟩

theorem contains_key (l : Str) (a : Option Addr) (c : Nat) (w : World) (h : BytesAt w a l) (hl : l.length ≤ 9223372036854775807) :
  Calls Tryz.prog 84 #[.slice a l.length c, .func (.func 85) #[] #[]] w fun e w' => e = .returned (.bool (!l.all goodC)) ∧ w = w' := by
 have hn := hid (firstBad_neg l 0)
 have h' := hid h
 clear h
 go_enter Tryz.func84, Tryz.ntmps84
 go_wp2_with fail
 refine (index_key l a c _ h'.out hl).mono ?_
 rintro e w' ⟨rfl, rfl⟩
 go_wp2
 go_ret
 exact ⟨ret_bool (by rw [Bool.eq_iff_iff]; simp [hn.out]), rfl⟩

def KeyEnd (s : ByteArray) (w : World) (e : Ending) (w' : World) : Prop := e = .returned (.bool (keyL (bl s))) ∧ Below w.heap.size w w'

theorem wire_Key (s : ByteArray) (w : World) (hs : s.size ≤ 9223372036854775807) :
  Calls Tryz.prog 52 #[.string s] w (KeyEnd s w) := by
 have hlen := hid (bl_length s)
 by_cases h0 : s.size = 0
 ·have e1 : s.toList.isEmpty = true := by rw [bl_toList, List.isEmpty_iff_length_eq_zero, bl_length]; exact h0
  have hK : Hid (keyL (bl s) = false) := by show keyL (bl s) = false; simp [keyL, hlen.out, h0]
  go_enter Tryz.func52, Tryz.ntmps52
  go_wp2
  go_ret
  exact ⟨ret_bool hK.out.symm, Below.refl _ _⟩
 ·have e1 : s.toList.isEmpty = false := by rw [bl_toList, Bool.eq_false_iff]; intro hE; rw [List.isEmpty_iff_length_eq_zero, bl_length] at hE; exact h0 hE
  by_cases h1 : (20 : Int) < s.size
  ·have hK : Hid (keyL (bl s) = false) := by
    show keyL (bl s) = false
    have : ¬ (bl s).length ≤ 20 := by rw [hlen.out]; omega
    simp only [keyL, this, and_false, decide_false, Bool.false_and]
   go_enter Tryz.func52, Tryz.ntmps52
   go_wp2
   go_ret
   exact ⟨ret_bool hK.out.symm, Below.refl _ _⟩
  ·have hK : Hid (keyL (bl s) = (bl s).all goodC) := by
    show keyL (bl s) = (bl s).all goodC
    have h3 : 1 ≤ (bl s).length ∧ (bl s).length ≤ 20 := by rw [hlen.out]; omega
    simp only [keyL, h3, and_self, decide_true, Bool.true_and]
   have e3 : decide ((20 : Int) < s.size) = false := by simpa using h1
   obtain ⟨c, w1, hr, hb, hbl, hc, hz⟩ := run_bytes w s
   have Hb := hid hb
   clear hb h1 h0
   go_enter Tryz.func52, Tryz.ntmps52
   go_wp2_with fail
   rw [← hlen.out]
   refine (contains_key (bl s) _ c _ Hb.out (by rw [hlen.out]; exact hs)).mono ?_
   rintro e w' ⟨rfl, rfl⟩
   go_wp2
   go_ret
   exact ⟨ret_bool (by rw [hK.out]), hbl⟩

theorem ref_KeyMay (s : ByteArray) (w : World) (hs : s.size ≤ 9223372036854775807) :
  Calls Tryz.prog 60 #[.string s] w fun e w' => e = .returned (.bool (keyL (bl s))) ∧ w = w' := by
 have hlen := hid (bl_length s)
 go_enter Tryz.func60, Tryz.ntmps60
 go_wp2_with fail
 go_loop [3] (fun i => ∃ k : Nat, k ≤ s.size ∧ i = .int .i64 k ∧ ((bl s).take k).all goodC = true) (fun i => s.size - (intOf i).toNat)
 case atStart => exact ⟨0, Nat.zero_le _, rfl, rfl⟩
 case round =>
  obtain ⟨k, hk, rfl, hg0⟩ := hrel
  have hg := hid hg0
  clear hg0
  by_cases hlt : k < s.size
  ·have hts := hid (all_take_succ (bl s) goodC k (by rw [hlen.out]; exact hlt))
   have hx : Hid ((bl s)[k]'(by rw [bl_length]; exact hlt) = s[k]) := bl_get s k hlt
   have hgx : Hid (decide (33 ≤ (s[k].toNat : Int) ∧ (s[k].toNat : Int) ≤ 126) = goodC s[k]) := by show decide _ = goodC s[k]; unfold goodC; rw [Bool.eq_iff_iff]; simp; omega
   go_wp2_with (go_at_call 58; rw [wrap64_byte]; refine (ref_In _ _ _ _).mono ?_; rw [hgx.out]; rintro e w' ⟨rfl, rfl⟩)
   ·have hbad : goodC s[k] = false := by simpa using ‹(!goodC s[k]) = true›
    have hK : keyL (bl s) = false := by
     have : (bl s).all goodC = false := by
      rw [Bool.eq_false_iff]; intro hA
      rw [List.all_eq_true] at hA
      have := hA ((bl s)[k]'(by rw [bl_length]; exact hlt)) (List.getElem_mem _)
      rw [hx.out, hbad] at this
      cases this
     unfold keyL; rw [this, Bool.and_false]
    go_ret
    exact ⟨ret_bool hK.symm, rfl⟩
   ·have hgood : goodC s[k] = true := by simpa using ‹(!goodC s[k]) = false›
    go_round
    case rel => exact ⟨k + 1, by omega, by go_num, by rw [hts.out, hg.out, hx.out, hgood]; rfl⟩
    case measure => simp [intOf]; omega
  ·have hall : Hid ((bl s).all goodC = true) := by
    have := hg.out
    rw [List.take_of_length_le (by rw [bl_length]; omega)] at this
    exact this
   go_wp2_with (go_at_call 58; refine (ref_In _ _ _ _).mono ?_; rintro e w' ⟨rfl, rfl⟩)
   go_ret
   exact ⟨ret_bool (by unfold keyL; rw [hall.out, hlen.out, Bool.and_true]; rw [Bool.eq_iff_iff]; simp; omega), rfl⟩
end Go.Proofs.YtbeegfkfpkfccaaGreatDoor.D

