/-
 Contract: sameReply answers true at two readings of one reply.
-/
import Derived.Test.YtbeegfkfpkfccaaGreatDoorYBase
import Derived.Test.YtbeegfkfpkfccaaGreatDoorYReq
namespace Go.Proofs.YtbeegfkfpkfccaaGreatDoor.D
open Go.RowKit
set_option maxRecDepth 100000 in
theorem same_reply (r : Reply) (a a' : Option Addr) (c c' : Nat) (w : World) (h : RowsAt w a 4 HitR r.hits) (h' : RowsAt w a' 4 HitR r.hits) (hl : r.hits.length ≤ 9223372036854775807) :
  Calls Tryz.prog 13 #[.agg (replyCells r a c), .agg (replyCells r a' c')] w
   fun e w' => e = .returned (.bool true) ∧ Below w.heap.size w w' := by
 have hI := hid h;have hI' := hid h';clear h h';unfold replyCells
 go_enter Tryz.func13, Tryz.ntmps13
 go_wp2_with fail
 go_loopw [5] (fun i wr => ∃ k : Nat, k ≤ r.hits.length ∧ i = .int .i64 k ∧ Below w.heap.size w wr ∧ wr.cell? ⟨w.heap.size, 2, none⟩ = some (.slice a r.hits.length c) ∧ wr.cell? ⟨w.heap.size + 1, 2, none⟩ = some (.slice a' r.hits.length c')) (fun i _ => r.hits.length - (intOf i).toNat)
 case atStart => exact ⟨0, Nat.zero_le _, rfl, by go_grown, by go_simp, by go_simp⟩
 case round =>
  obtain ⟨k, hk, rfl, hb, hx, hx'⟩ := hrel
  by_cases hlt : k < r.hits.length
  ·obtain ⟨b, o, rfl, hc⟩ := hI.out.pos (by omega)
   obtain ⟨b', o', rfl, hc'⟩ := hI'.out.pos (by omega);obtain ⟨cs, _, hcs, h3⟩ := hc k hlt;obtain ⟨cs', _, hcs', h3'⟩ := hc' k hlt;obtain ⟨x, hxx⟩ : ∃ x, x = r.hits[k] := ⟨_, rfl⟩;rw [← hxx] at hcs hcs';have hcs := hcs.1;have hcs' := hcs'.1;subst hcs hcs';have hkp := Below.keeps hb;have c0 := hkp _ _ (h3 0 _ rfl);have c1 := hkp _ _ (h3 1 _ rfl);have c2 := hkp _ _ (h3 2 _ rfl);have c3 := hkp _ _ (h3 3 _ rfl);have d0 := hkp _ _ (h3' 0 _ rfl);have d1 := hkp _ _ (h3' 1 _ rfl);have d2 := hkp _ _ (h3' 2 _ rfl);have d3 := hkp _ _ (h3' 3 _ rfl);rw [Nat.add_zero] at c0 d0;clear h3 h3' hc hc' hxx hI hI' hkp
   go_wp2_with fail
   go_quiet (fail)
   go_wp2_with fail
   go_roundw
   case rel => exact ⟨k + 1, by omega, by go_num, below_drewN hb _, hx, hx'⟩
   case measure => simp [intOf]; omega
  ·go_wp2
   go_ret;exact ⟨rfl, hb⟩
end Go.Proofs.YtbeegfkfpkfccaaGreatDoor.D
