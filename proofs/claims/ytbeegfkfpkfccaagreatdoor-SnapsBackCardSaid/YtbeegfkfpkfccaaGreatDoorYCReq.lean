/-
 What a request reads as; wire.stores, ref.brings; keys one by one.
-/
import Derived.Test.YtbeegfkfpkfccaaGreatDoorYBase
import Derived.Test.YtbeegfkfpkfccaaGreatDoorYCKey
import Derived.Test.YtbeegfkfpkfccaaGreatDoorYPlain
import Derived.Deep.LoopGhost
namespace Go.Proofs.YtbeegfkfpkfccaaGreatDoor.D
open Go.ChangeShapes Go.WideShapes Go.RowKit Go.Deep Go.Joins

def strR (cs : List Value) (s : ByteArray) : Prop := cs = [.string s] ∧ s.size ≤ reachBytes
section
variable {H : Type} {enc : TypeId × Value → H} {w : World}
instance : Inhabited ByteArray := ⟨ByteArray.empty⟩
end
theorem wire_stores (k : Int) (w : World) : Calls Tryz.prog 53 #[.int .i64 k] w fun e w' => e = .returned (.bool (decide (2 ≤ k ∧ k ≤ 7))) ∧ w = w' := by
 by_cases h1 : 2 ≤ k
 ·have e1 : decide (2 ≤ k ∧ k ≤ 7) = decide (k ≤ 7) := by simp [h1]
  rw [e1]
  go_enter Tryz.func53, Tryz.ntmps53
  go_wp2
  go_ret
  exact ⟨rfl, rfl⟩
 ·have e2 : decide (2 ≤ k ∧ k ≤ 7) = false := by simp; omega
  have e3 : k < 2 := by omega
  rw [e2]
  go_enter Tryz.func53, Tryz.ntmps53
  go_wp2
  go_ret
  exact ⟨rfl, rfl⟩
theorem brings_is (k : Int) (t : Bool) (ht : Hid (decide (2 ≤ k ∧ k ≤ 7) = t)) (w : World) : Calls Tryz.prog 64 #[.int .i64 k] w fun e w' => e = .returned (.bool t) ∧ w = w' := by
 go_enter Tryz.func64, Tryz.ntmps64
 go_wp2_with fail
 refine (ref_In _ _ _ _).mono ?_
 rintro e w' ⟨rfl, rfl⟩
 rw [ht.out]
 go_wp2_with fail
 go_ret
 exact ⟨rfl, rfl⟩
theorem keyq_is (s : ByteArray) (t : Bool) (ht : Hid (keyOK s = t)) (w : World) (hs : s.size ≤ 9223372036854775807) : Calls Tryz.prog 52 #[.string s] w fun e w' => e = .returned (.bool t) ∧ Below w.heap.size w w' := by
 refine (wire_Key s w hs).mono ?_
 rintro e w' ⟨rfl, hb⟩
 exact ⟨by rw [← ht.out]; rfl, hb⟩
theorem keyMay_is (s : ByteArray) (t : Bool) (ht : Hid (keyOK s = t)) (w : World) (hs : s.size ≤ 9223372036854775807) : Calls Tryz.prog 60 #[.string s] w fun e w' => e = .returned (.bool t) ∧ w = w' := by
 refine (ref_KeyMay s w hs).mono ?_
 rintro e w' ⟨rfl, rfl⟩
 exact ⟨by rw [← ht.out]; rfl, rfl⟩
theorem check_lit (s : ByteArray) (w : World) (hs : s.size ≤ 9223372036854775807) : Calls Tryz.prog 51 #[.string s] w fun e w' => e = .returned (.bool (!keyOK s)) ∧ Below w.heap.size w w' := by
 go_enter Tryz.func51, Tryz.ntmps51
 go_wp2_with fail
 refine (wire_Key s _ hs).mono ?_
 rintro e w' ⟨rfl, hb⟩
 go_wp2_with fail
 go_ret
 exact ⟨rfl, hb⟩
/-- the first key that is bad: is there one? -/
def KeysEnd (l : List ByteArray) (w : World) (e : Ending) (w' : World) : Prop := ∃ i : Int, e = .returned (.int .i64 i) ∧ ((0 ≤ i ∧ l.all keyOK = false) ∨ (i = -1 ∧ l.all keyOK = true)) ∧ Below w.heap.size w w'
theorem all_snoc {l : List ByteArray} {k : Nat} (hk : k < l.length) (h : (l.take k).all keyOK = true) (hx : keyOK l[k] = true) : (l.take (k + 1)).all keyOK = true := by
 rw [List.take_succ_eq_append_getElem hk, List.all_append, h]; simp [hx]
theorem all_not {l : List ByteArray} {k : Nat} (hk : k < l.length) (hx : keyOK l[k] = false) : l.all keyOK = false := by
 rw [Bool.eq_false_iff]; intro h
 have := List.all_eq_true.1 h _ (List.getElem_mem hk)
 rw [hx] at this; cases this
theorem index_keys (l : List ByteArray) (a : Option Addr) (c : Nat) (w : World) (h : RowsAt w a 1 strR l) (hl : l.length ≤ 9223372036854775807) :
  Calls Tryz.prog 83 #[.slice a l.length c, .func (.func 51) #[] #[]] w (KeysEnd l w) := by
 have H := hid h
 clear h
 go_enter Tryz.func83, Tryz.ntmps83
 go_wp2_with fail
 go_loopw [8] (fun i wr => ∃ k : Nat, k ≤ l.length ∧ i = .int .i64 k ∧ Below w.heap.size w wr ∧ Hid ((l.take k).all keyOK = true)) (fun i _ => l.length - (intOf i).toNat)
 case atStart => exact ⟨0, Nat.zero_le _, rfl, Below.refl _ _, rfl⟩
 case round =>
  obtain ⟨k, hk, rfl, hbl, hg⟩ := hrel
  by_cases hlt : k < l.length
  ·obtain ⟨b, o, rfl, hc⟩ := H.out.pos (by omega)
   obtain ⟨cs, _, ⟨hcs, hsz⟩, h3⟩ := hc k hlt
   subst hcs
   have c0 := Below.keeps hbl _ _ (h3 0 _ rfl)
   rw [Nat.add_zero, Nat.mul_one] at c0
   have hS := hid (all_snoc hlt hg.out)
   have hN := hid (all_not hlt)
   obtain ⟨s, hs⟩ : ∃ s, s = l[k] := ⟨_, rfl⟩
   rw [← hs] at c0 hsz hS hN
   have hs2 : s.size ≤ 9223372036854775807 := Nat.le_trans hsz (by decide)
   clear h3 hc hs hsz
   cases ht : keyOK s
   ·have HT := hid ht
    clear ht
    go_wp2_with fail
    refine (check_lit s _ hs2).mono ?_
    rintro e w2 ⟨rfl, hb2⟩
    rw [HT.out]
    have hb3 := hbl.trans (hb2.mono hbl.size)
    clear hb2
    go_wp2_with fail
    go_ret
    exact ⟨_, rfl, .inl ⟨by omega, hN.out HT.out⟩, hb3⟩
   ·have HT := hid ht
    clear ht
    go_wp2_with fail
    refine (check_lit s _ hs2).mono ?_
    rintro e w2 ⟨rfl, hb2⟩
    rw [HT.out]
    have hb3 := hbl.trans (hb2.mono hbl.size)
    clear hb2 hbl
    go_wp2_with fail
    go_roundw
    case rel => exact ⟨k + 1, by omega, by go_num, hb3, hS.out HT.out⟩
    case measure => simp [intOf]; omega
  ·have hA : Hid (l.all keyOK = true) := by
    have := hg.out
    rw [List.take_of_length_le (by omega)] at this
    exact this
   go_wp2_with fail
   go_ret
   exact ⟨_, rfl, .inr ⟨rfl, hA.out⟩, hbl⟩
theorem contains_keys (l : List ByteArray) (a : Option Addr) (c : Nat) (w : World) (h : RowsAt w a 1 strR l) (hl : l.length ≤ 9223372036854775807) :
  Calls Tryz.prog 50 #[.slice a l.length c, .func (.func 51) #[] #[]] w fun e w' => e = .returned (.bool (!l.all keyOK)) ∧ Below w.heap.size w w' := by
 have H := hid h
 clear h
 go_enter Tryz.func50, Tryz.ntmps50
 go_wp2_with fail
 refine (index_keys l a c _ H.out hl).mono ?_
 rintro e w1 ⟨i, rfl, hi, hb⟩
 rcases hi with ⟨hi, hA⟩ | ⟨rfl, hA⟩
 ·have HA := hid hA
  clear hA
  go_wp2_with fail
  go_ret
  exact ⟨ret_bool (by rw [HA.out]; rfl), hb⟩
 ·have HA := hid hA
  clear hA
  go_wp2_with fail
  go_ret
  exact ⟨ret_bool (by rw [HA.out]; rfl), hb⟩
end Go.Proofs.YtbeegfkfpkfccaaGreatDoor.D

