/-
 Contract: ref.inClass: how many items in memory have a class; which of them was asked longest ago.
-/
import Derived.Test.YtbeegfkfpkfccaaGreatDoorYCClass
import Derived.Test.YtbeegfkfpkfccaaGreatDoorYBase
import Derived.Test.YtbeegfkfpkfccaaGreatDoorYPlain
namespace Go.Proofs.YtbeegfkfpkfccaaGreatDoor.D
open Go.RowKit
def InClsEnd (l : List Item) (q : Int) (w : World) (e : Ending) (w' : World) : Prop := e = .returned (.tuple #[.int .i64 (countIn l q), .int .i64 (lastTo l q l.length)]) ∧ Below w.heap.size w w'
theorem cls_far {x : Item} {q : Int} (h : x.far = true) : inCls x q = false := by unfold inCls; rw [h]; rfl
theorem cls_near {x : Item} {q : Int} (h : x.far = false) : inCls x q = (x.cls == q) := by unfold inCls; rw [h]; rfl
theorem class_is (key val q : Int) (hq : Hid (q = classOf key val)) (w : World) : Calls Tryz.prog 95 #[.int .i64 key, .int .i64 val] w (IdxC q w) := by
 have := ref_ClassOf key val w
 rwa [← hq.out] at this
theorem item_used {w w' : World} {b o : Nat} {l : List Item} (hk : Keeps w w') (h : ∀ i (h : i < l.length), ∃ cs, cs.length = 9 ∧ ItemR cs l[i] ∧ ∀ j v, cs[j]? = some v → w.cell? ⟨b, o + i * 9 + j, none⟩ = some v) (m : Nat) (hm : m < l.length) :
  w'.cell? ⟨b, o + m * 9 + 4, none⟩ = some (.int .i64 l[m].used) := by
 obtain ⟨cs, _, hR, h3⟩ := h m hm
 rw [hR.1] at h3
 exact hk _ _ (h3 4 _ rfl)
set_option maxHeartbeats 2000000 in
set_option maxRecDepth 100000 in
theorem ref_inClass (s : Store) (q : Int) (a fa : Option Addr) (c fc : Nat) (w : World) (hI : RowsAt w a 9 ItemR s.items) (hl : s.items.length ≤ 9223372036854775806) :
  Calls Tryz.prog 62 #[.agg (storeV s a c fa fc), .int .i64 q] w (InClsEnd s.items q w) := by
 have HI := hid hI
 clear hI
 go_enter Tryz.func62, Tryz.ntmps62
 go_wp2_with fail
 go_loopw [6, 7, 8] (fun n m i wr => ∃ k : Nat, ∃ nn mm : Int, k ≤ s.items.length ∧ i = .int .i64 k ∧ n = .int .i64 nn ∧ m = .int .i64 mm ∧ 0 ≤ nn ∧ nn ≤ k ∧ -1 ≤ mm ∧ mm < k ∧ Hid (nn = countIn (s.items.take k) q) ∧ Hid (mm = lastTo s.items q k) ∧ Below w.heap.size w wr ∧
  wr.cell? ⟨w.heap.size, 8, none⟩ = some (.slice a s.items.length c)) (fun _ _ i _ => s.items.length - (intOf i).toNat)
 case atStart => exact ⟨0, 0, -1, Nat.zero_le _, rfl, rfl, rfl, by omega, by omega, by omega, by omega, by show _ = _; rw [countIn_zero], rfl, by go_grown, by go_simp⟩
 case round =>
  obtain ⟨k, nn, mm, hk, rfl, rfl, rfl, n0, n1, m0, m1, HN, HM, hb, hx⟩ := hrel
  by_cases hlt : k < s.items.length
  ·obtain ⟨b, o, rfl, hc⟩ := HI.out.pos (by omega)
   obtain ⟨cs, _, hcs, h3⟩ := hc k hlt
   have HU := hid (item_used (Below.keeps hb) hc)
   have HS := hid (countIn_step (c := q) hlt)
   have L1 := hid (fun h => lastTo_skip (c := q) hlt h)
   have L2 := hid (fun h => lastTo_first (c := q) hlt h)
   have L3 := hid (fun m h => lastTo_less (c := q) (m := m) hlt h)
   have L4 := hid (fun m h => lastTo_more (c := q) (m := m) hlt h)
   obtain ⟨x, hxx⟩ : ∃ x, x = s.items[k] := ⟨_, rfl⟩
   rw [← hxx] at hcs HS L1 L2 L3 L4
   have hcs := hcs.1
   subst hcs
   obtain ⟨c0, c1, c2, c3, c4, c5, c6, c7, c8, hbb⟩ := item_cells (Below.keeps hb) h3
   have hz := cell_lt hx
   obtain ⟨far, hfar⟩ : ∃ b, b = x.far := ⟨_, rfl⟩
   rw [← hfar] at c6
   obtain ⟨ux, hux⟩ : ∃ u, u = x.used := ⟨_, rfl⟩
   rw [← hux] at c4 L3 L4
   have HFAR := hid hfar
   clear h3 hc hxx HI hfar hux
   cases far
   ·
    obtain ⟨cl, hcl⟩ : ∃ n, n = classOf x.key.size x.value.size := ⟨_, rfl⟩
    have HCL := hid hcl
    have HIC : Hid (inCls x q = (cl == q)) := by show _ = _; rw [cls_near HFAR.out.symm, HCL.out]; rfl
    clear hcl
    go_wp2_with fail
    refine (class_is _ _ cl HCL _).mono ?_
    rintro e w1 ⟨rfl, hb2⟩
    have hbw : Below w.heap.size w w1 := (hb.alloc hb.size _).trans (hb2.mono (by have := hb.size; go_size))
    have hx1 : w1.cell? ⟨w.heap.size, 8, none⟩ = some (.slice (some ⟨b, o, none⟩) s.items.length c) := (hb2.cell (p := ⟨w.heap.size, 8, none⟩) (by go_size)).trans (by go_simp)
    have hu1 : w1.cell? ⟨wr.heap.size, 4, none⟩ = some (.int .i64 ux) := (hb2.cell (p := ⟨wr.heap.size, 4, none⟩) (by go_size)).trans (by go_simp)
    have HU1 : Hid (∀ (m : Nat) (hm : m < s.items.length), w1.cell? ⟨b, o + m * 9 + 4, none⟩ = some (.int .i64 s.items[m].used)) := fun m hm => by
     have := HU.out m hm
     have hlt := cell_lt this
     exact (hb2.cell (p := ⟨b, o + m * 9 + 4, none⟩) (by go_size)).trans ((World.cell?_alloc_lt _ _ _ (by exact hlt)).trans this)
    clear hb hb2 hx c0 c1 c2 c3 c4 c5 c6 c7 c8 HU
    by_cases e : cl = q
    ·have e1 : (cl == q) = true := by simp [e]
     have e2 : (cl != q) = false := by simp [e]
     have HT : Hid (inCls x q = true) := by show _ = _; rw [HIC.out, e1]
     have HS2 : Hid (nn + 1 = countIn (s.items.take (k + 1)) q) := by show _ = _; rw [HS.out, HT.out, HN.out]; rfl
     clear e
     by_cases hm0 : mm < 0
     ·have HL : Hid ((k : Int) = lastTo s.items q (k + 1)) := (L2.out HT.out (by rw [← HM.out]; exact hm0)).symm
      go_wp2_with fail
      go_quiet (fail)
      go_wp2_with fail
      go_roundw
      case rel => exact ⟨k + 1, nn + 1, k, by omega, by go_num, rfl, rfl, by omega, by omega, by omega, by omega, HS2, HL, below_drewN hbw _, hx1⟩
      case measure => simp [intOf]; omega
     ·obtain ⟨m, hm⟩ : ∃ m : Nat, mm = m := ⟨mm.toNat, by omega⟩
      subst hm
      have hml : m < s.items.length := by omega
      have hu2 := HU1.out m hml
      obtain ⟨uy, huy⟩ : ∃ u, u = s.items[m].used := ⟨_, rfl⟩
      rw [← huy] at hu2
      have HUY := hid huy
      have hm1 : (m : Int) < (s.items.length : Int) := by omega
      clear huy
      by_cases hlt2 : ux < uy
      ·have HL : Hid ((k : Int) = lastTo s.items q (k + 1)) := (L3.out m HT.out HM.out.symm hml (by rw [← HUY.out]; exact hlt2)).symm
       go_wp2_with fail
       go_quiet (fail)
       go_wp2_with fail
       go_roundw
       case rel => exact ⟨k + 1, nn + 1, k, by omega, by go_num, rfl, rfl, by omega, by omega, by omega, by omega, HS2, HL, below_drewN hbw _, hx1⟩
       case measure => simp [intOf]; omega
      ·have HL : Hid ((m : Int) = lastTo s.items q (k + 1)) := (L4.out m HT.out HM.out.symm hml (by rw [← HUY.out]; omega)).symm
       go_wp2_with fail
       go_quiet (fail)
       go_wp2_with fail
       go_roundw
       case rel => exact ⟨k + 1, nn + 1, m, by omega, by go_num, rfl, rfl, by omega, by omega, by omega, by omega, HS2, HL, below_drewN hbw _, hx1⟩
       case measure => simp [intOf]; omega
    ·have e1 : (cl == q) = false := by simp [e]
     have e2 : (cl != q) = true := by simp [e]
     have HT : Hid (inCls x q = false) := by show _ = _; rw [HIC.out, e1]
     have HS2 : Hid (nn = countIn (s.items.take (k + 1)) q) := by show _ = _; rw [HS.out, HT.out, HN.out]; simp
     have HL : Hid (mm = lastTo s.items q (k + 1)) := by show _ = _; rw [L1.out HT.out, HM.out]
     clear e
     go_wp2_with fail
     go_roundw
     case rel => exact ⟨k + 1, nn, mm, by omega, by go_num, rfl, rfl, by omega, by omega, by omega, by omega, HS2, HL, hbw, hx1⟩
     case measure => simp [intOf]; omega
   ·
    have HT : Hid (inCls x q = false) := by show _ = _; rw [cls_far HFAR.out.symm]
    have HS2 : Hid (nn = countIn (s.items.take (k + 1)) q) := by show _ = _; rw [HS.out, HT.out, HN.out]; simp
    have HL : Hid (mm = lastTo s.items q (k + 1)) := by show _ = _; rw [L1.out HT.out, HM.out]
    go_wp2_with fail
    go_roundw
    case rel => exact ⟨k + 1, nn, mm, by omega, by go_num, rfl, rfl, by omega, by omega, by omega, by omega, HS2, HL, hb.alloc hb.size _, (World.cell?_alloc_lt _ _ _ hz).trans hx⟩
    case measure => simp [intOf]; omega
  ·have hk2 : k = s.items.length := by omega
   have HE : Hid (countIn s.items q = nn) := by show _ = _; rw [HN.out, hk2, List.take_length]
   have HE2 : Hid (lastTo s.items q s.items.length = mm) := by show _ = _; rw [HM.out, hk2]
   go_wp2_with fail
   go_ret2
   exact ⟨by rw [HE.out, HE2.out]; rfl, hb⟩
end Go.Proofs.YtbeegfkfpkfccaaGreatDoor.D

