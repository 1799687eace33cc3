/-
 Contracts: new flash and a new store, by the program (printed by gen_halves.py).
-/
import Derived.Test.YtbeegfkfpkfccaaGreatDoorYCKey
import Derived.Test.YtbeegfkfpkfccaaGreatDoorYPlain
namespace Go.Proofs.YtbeegfkfpkfccaaGreatDoor.D
open Go.RowKit

abbrev retS (x : Store × Int) : Value :=
 .tuple #[.agg #[.int .i64 x.1.clock, .int .i64 x.1.cas, .int .i64 x.1.uses, .int .i64 x.1.most, .int .i64 x.1.h0, .int .i64 x.1.h1, .int .i64 x.1.h2, .int .i64 x.1.h3, .slice none 0 0,
  .int .i64 x.1.flash.most, .int .i64 x.1.flash.next, .slice none 0 0], .int .i64 x.2]
def RetS (x : Store × Int) (w : World) (e : Ending) (w' : World) : Prop := e = .returned (retS x) ∧ Below w.heap.size w w'

def zeroS : Store := ⟨0, 0, 0, 0, 0, 0, 0, 0, [], ⟨0, 0, []⟩⟩
def goodS (p f : Int) : Store := ⟨0, 0, 0, p, 0, 0, 0, 0, [], ⟨f, 1, []⟩⟩

set_option maxHeartbeats 1000000 in
theorem store_New (p f : Int) (w : World) : Calls Tryz.prog 35 #[.agg #[.int .i64 p, .int .i64 f]] w (RetS (newS p f) w) := by
 have h3 : p < 0 ∨ (0 ≤ p ∧ p ≤ 40) ∨ 40 < p := by omega
 rcases h3 with h | ⟨h, h'⟩ | h
 ·rw [newS_low h]
  go_enter Tryz.func35, Tryz.ntmps35
  go_wp2
  exact bodyPost_ret (v := retS (zeroS, 2)) (by simp [results, Tryz.results35, go_sem, zeroS]) rfl ⟨rfl, by go_grown⟩
 ·have h4 : f < 0 ∨ (0 ≤ f ∧ f ≤ 20) ∨ 20 < f := by omega
  rcases h4 with g | ⟨g, g'⟩ | g
  ·rw [newS_bad h h' (by omega)]
   go_enter Tryz.func35, Tryz.ntmps35
   go_wp2
   exact bodyPost_ret (v := retS (zeroS, 2)) (by simp [results, Tryz.results35, go_sem, zeroS]) rfl ⟨rfl, by go_grown⟩
  ·rw [newS_good h h' ⟨g, g'⟩]
   go_enter Tryz.func35, Tryz.ntmps35
   go_wp2
   exact bodyPost_ret (v := retS (goodS p f, 0)) (by simp [results, Tryz.results35, go_sem, goodS]) rfl ⟨rfl, by go_grown⟩
  ·rw [newS_bad h h' (by omega)]
   go_enter Tryz.func35, Tryz.ntmps35
   go_wp2
   exact bodyPost_ret (v := retS (zeroS, 2)) (by simp [results, Tryz.results35, go_sem, zeroS]) rfl ⟨rfl, by go_grown⟩
 ·rw [newS_high h]
  go_enter Tryz.func35, Tryz.ntmps35
  go_wp2
  exact bodyPost_ret (v := retS (zeroS, 2)) (by simp [results, Tryz.results35, go_sem, zeroS]) rfl ⟨rfl, by go_grown⟩

end Go.Proofs.YtbeegfkfpkfccaaGreatDoor.D

