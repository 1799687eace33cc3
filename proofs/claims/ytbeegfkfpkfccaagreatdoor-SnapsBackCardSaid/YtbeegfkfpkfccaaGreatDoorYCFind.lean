/-
 Contracts: keeper.find and what it calls: where a key stands among items that rise.
-/
import Derived.Test.YtbeegfkfpkfccaaGreatDoorYBase
import Derived.Test.YtbeegfkfpkfccaaGreatDoorYPlain
import Derived.WalkArith
namespace Go.Proofs.YtbeegfkfpkfccaaGreatDoor.D
open Go.RowKit
/-- an item against a key -/
def cmpOf (x : Item) (k : ByteArray) : Int := if bytesLess (bl x.key) (bl k) then -1 else if bytesLess (bl k) (bl x.key) then 1 else 0
theorem cmp_less {x : Item} {k : ByteArray} : cmpOf x k < 0 ↔ bytesLess (bl x.key) (bl k) = true := by
 unfold cmpOf
 cases bytesLess (bl x.key) (bl k) <;> cases bytesLess (bl k) (bl x.key) <;> simp
theorem cmp_zero {x : Item} {k : ByteArray} : cmpOf x k = 0 ↔ bl x.key = bl k := by
 unfold cmpOf
 constructor
 ·intro h
  cases h1 : bytesLess (bl x.key) (bl k) with
  | true => rw [h1] at h; simp at h
  | false =>
   cases h2 : bytesLess (bl k) (bl x.key) with
   | true => rw [h1, h2] at h; simp at h
   | false => exact less_tri h1 h2
 ·intro h
  rw [h, less_irrefl]; rfl
theorem cmp_range (x : Item) (k : ByteArray) : cmpOf x k = -1 ∨ cmpOf x k = 0 ∨ cmpOf x k = 1 := by
 unfold cmpOf
 cases bytesLess (bl x.key) (bl k) <;> cases bytesLess (bl k) (bl x.key) <;> simp
theorem find_cmp (x : Item) (k : ByteArray) (n : Int) (hn : Hid (cmpOf x k = n)) (w : World) :
  Calls Tryz.prog 129 #[.agg #[.string x.key, .int .i64 x.flags, .int .i64 x.till, .int .i64 x.cas, .int .i64 x.used, .string x.value, .bool x.far, .int .i64 x.place.page, .int .i64 x.place.off], .string k] w fun e w' => e = .returned (.int .i64 n) ∧ Below w.heap.size w w' := by
 cases h1 : bytesLess (bl x.key) (bl k) with
 | true =>
  have e : n = -1 := by rw [← hn.out]; unfold cmpOf; rw [h1]; rfl
  have h1 : Op.bytesLess x.key.toList k.toList = true := by rw [bl_toList, bl_toList]; exact h1
  subst e
  clear hn
  go_enter Tryz.func129, Tryz.ntmps129
  go_wp2_with fail
  go_ret
  exact ⟨rfl, by go_grown⟩
 | false =>
  have g1 : Op.bytesLess x.key.toList k.toList = false := by rw [bl_toList, bl_toList]; exact h1
  cases h2 : bytesLess (bl k) (bl x.key) with
  | true =>
   have e : n = 1 := by rw [← hn.out]; unfold cmpOf; rw [h1, h2]; rfl
   have h2 : Op.bytesLess k.toList x.key.toList = true := by rw [bl_toList, bl_toList]; exact h2
   have h3 : (x.key.toList == k.toList) = false := by
    rw [bl_toList, bl_toList, beq_eq_false_iff_ne]; intro e; rw [bl_toList, bl_toList, e] at h2; have := less_irrefl (bl k); rw [show bytesLess (bl k) (bl k) = true from h2] at this; cases this
   subst e
   clear hn h1
   go_enter Tryz.func129, Tryz.ntmps129
   go_wp2_with fail
   go_ret
   exact ⟨rfl, by go_grown⟩
  | false =>
   have e : n = 0 := by rw [← hn.out]; unfold cmpOf; rw [h1, h2]; rfl
   have h4 := less_tri h1 h2
   have h2 : Op.bytesLess k.toList x.key.toList = false := by rw [bl_toList, bl_toList]; exact h2
   have h3 : (x.key.toList == k.toList) = true := by
    rw [bl_toList, bl_toList, h4, beq_self_eq_true]
   subst e
   clear hn h1 h4
   go_enter Tryz.func129, Tryz.ntmps129
   go_wp2_with fail
   go_ret
   exact ⟨rfl, by go_grown⟩
def FindEnd (l : List Item) (k : ByteArray) (w : World) (e : Ending) (w' : World) : Prop :=
 e = .returned (.tuple #[.int .i64 (findKey l (bl k) : Nat), .bool (hasKey l (bl k))]) ∧ Below w.heap.size w w'
theorem find_none {l : List Item} {k : Str} (h : l.length ≤ findKey l k) : hasKey l k = false := by
 cases hh : hasKey l k with
 | false => rfl
 | true => obtain ⟨h1, _⟩ := hasKey_iff.1 hh; omega
theorem find_has {l : List Item} {k : ByteArray} (h : findKey l (bl k) < l.length) (n : Int) (hn : cmpOf l[findKey l (bl k)] k = n) : hasKey l (bl k) = decide (n = 0) := by
 rw [← hn]
 cases hh : hasKey l (bl k) with
 | true => obtain ⟨_, h2⟩ := hasKey_iff.1 hh; rw [decide_eq_true (cmp_zero.2 h2)]
 | false =>
  rw [decide_eq_false]
  intro h0
  have := hasKey_iff.2 ⟨h, cmp_zero.1 h0⟩
  rw [hh] at this; cases this
set_option maxHeartbeats 4000000 in
set_option maxRecDepth 1000000 in
theorem bsearch_items (l : List Item) (k : ByteArray) (a : Option Addr) (c : Nat) (w : World) (hI : RowsAt w a 9 ItemR l) (hr : rising l = true) (hl : l.length ≤ 1000) :
  Calls Tryz.prog 128 #[.slice a l.length c, .string k, .func (.func 129) #[] #[]] w (FindEnd l k w) := by
 have HI := hid hI
 have HR := hid hr
 clear hI hr
 go_enter Tryz.func128, Tryz.ntmps128
 go_wp2_with fail
 go_loopw [9, 10] (fun s t wr => ∃ lo hi : Nat, s = .int .i64 lo ∧ t = .int .i64 hi ∧ lo ≤ hi ∧ hi ≤ l.length ∧ Below w.heap.size w wr ∧ Hid (∀ j (hj : j < l.length), j < lo → bytesLess (bl l[j].key) (bl k) = true) ∧ Hid (∀ j (hj : j < l.length), hi ≤ j → bytesLess (bl l[j].key) (bl k) = false)) (fun s t _ => (intOf t).toNat - (intOf s).toNat)
 case atStart => exact ⟨0, l.length, rfl, rfl, Nat.zero_le _, Nat.le_refl _, by go_grown, fun j hj h => absurd h (Nat.not_lt_zero _), fun j hj h => absurd hj (by omega)⟩
 case round =>
  obtain ⟨lo, hi, rfl, rfl, hlh, hhl, hb, HL, HH⟩ := hrel
  by_cases hlt : lo < hi
  ·obtain ⟨m, hm⟩ : ∃ m, m = (lo + hi) / 2 := ⟨_, rfl⟩
   have hml : m < l.length := by omega
   have hm1 : ((lo : Int) + (hi : Int)) / 2 = (m : Int) := by omega
   have hm2 : lo ≤ m ∧ m < hi := by omega
   clear hm
   obtain ⟨b, o, rfl, hc⟩ := HI.out.pos (by omega)
   obtain ⟨cs, _, hcs, h3⟩ := hc m hml
   obtain ⟨x, hxx⟩ : ∃ x, x = l[m] := ⟨_, rfl⟩
   rw [← hxx] at hcs
   have hcs := hcs.1
   subst hcs
   obtain ⟨c0, c1, c2, c3, c4, c5, c6, c7, c8, hbb⟩ := item_cells (Below.keeps hb) h3
   obtain ⟨n, hn⟩ : ∃ n, cmpOf x k = n := ⟨_, rfl⟩
   have HN := hid hn
   have HX := hid hxx
   have hn3 := cmp_range x k
   rw [hn] at hn3
   clear h3 hc hxx hn
   go_wp2_with fail
   refine (find_cmp x k n HN _).mono ?_
   rintro e w5 ⟨rfl, hb5⟩
   have hbx : Below w.heap.size w w5 := hb.trans (hb5.mono hb.size)
   obtain ⟨hm3, hm4⟩ := hm2
   by_cases hneg : n < 0
   ·have HL2 : Hid (∀ j (hj : j < l.length), j < m + 1 → bytesLess (bl l[j].key) (bl k) = true) := fun j hj hjm => by
     have h0 : bytesLess (bl l[m].key) (bl k) = true := by rw [← HX.out]; exact cmp_less.1 (by rw [HN.out]; exact hneg)
     rcases Nat.lt_or_ge j m with h | h
     ·exact less_trans (rising_get HR.out h hml) h0
     ·obtain rfl : j = m := by omega
      exact h0
    clear hb5 hb c0 c1 c2 c3 c4 c5 c6 c7 c8 HL
    go_wp2_with fail
    go_roundw
    case rel => exact ⟨m + 1, hi, by go_num, rfl, by omega, hhl, hbx, HL2, HH⟩
    case measure => simp [intOf]; omega
   ·have HH2 : Hid (∀ j (hj : j < l.length), m ≤ j → bytesLess (bl l[j].key) (bl k) = false) := fun j hj hjm => by
     have h0 : bytesLess (bl l[m].key) (bl k) = false := by
      rw [← HX.out]
      cases hc : bytesLess (bl x.key) (bl k) with
      | false => rfl
      | true => have := cmp_less.2 hc; rw [HN.out] at this; exact absurd this hneg
     rcases Nat.eq_or_lt_of_le hjm with h | h
     ·subst h; exact h0
     ·cases hc : bytesLess (bl l[j].key) (bl k) with
      | false => rfl
      | true => have := less_trans (rising_get HR.out h hj) hc; rw [h0] at this; cases this
    clear hb5 hb c0 c1 c2 c3 c4 c5 c6 c7 c8 HH
    go_wp2_with fail
    go_roundw
    case rel => exact ⟨lo, m, rfl, rfl, by omega, by omega, hbx, HL, HH2⟩
    case measure => simp [intOf]; omega
  ·obtain rfl : hi = lo := by omega
   have hf : findKey l (bl k) = hi := findKey_uniq hhl HL.out HH.out
   by_cases hn : hi < l.length
   ·obtain ⟨b, o, rfl, hc⟩ := HI.out.pos (by omega)
    obtain ⟨cs, _, hcs, h3⟩ := hc hi hn
    obtain ⟨x, hxx⟩ : ∃ x, x = l[hi] := ⟨_, rfl⟩
    rw [← hxx] at hcs
    have hcs := hcs.1
    subst hcs
    obtain ⟨c0, c1, c2, c3, c4, c5, c6, c7, c8, hbb⟩ := item_cells (Below.keeps hb) h3
    obtain ⟨n, hnn⟩ : ∃ n, cmpOf x k = n := ⟨_, rfl⟩
    have HN := hid hnn
    have HE : Hid (FindEnd l k w = fun e w' => e = .returned (.tuple #[.int .i64 (hi : Nat), .bool (decide (n = 0))]) ∧ Below w.heap.size w w') := by
     show _ = _
     funext e w'
     unfold FindEnd
     rw [find_has (by rw [hf]; exact hn) n (by rw [← hnn, hxx]; congr 1; simp only [hf]), hf]
    clear h3 hc hxx hnn hf
    go_wp2_with fail
    refine (find_cmp x k n HN _).mono ?_
    rintro e w5 ⟨rfl, hb5⟩
    have hbx : Below w.heap.size w w5 := hb.trans (hb5.mono hb.size)
    clear hb5 hb c0 c1 c2 c3 c4 c5 c6 c7 c8
    go_wp2_with fail
    go_ret2
    rw [HE.out]
    refine ⟨?_, hbx⟩
    by_cases h0 : n = 0 <;> simp [h0]
   ·have HE : Hid (FindEnd l k w = fun e w' => e = .returned (.tuple #[.int .i64 (hi : Nat), .bool false]) ∧ Below w.heap.size w w') := by
     show _ = _
     funext e w'
     unfold FindEnd
     rw [find_none (by omega), hf]
    clear hf
    go_wp2_with fail
    go_ret2
    rw [HE.out]
    exact ⟨rfl, hb⟩
end Go.Proofs.YtbeegfkfpkfccaaGreatDoor.D

