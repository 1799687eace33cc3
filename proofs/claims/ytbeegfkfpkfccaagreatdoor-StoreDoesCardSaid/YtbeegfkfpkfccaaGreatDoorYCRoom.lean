/-
 Contract: keeper.room: room for an item of a class. Condition: the table of chunks holds its four numbers.
-/
import Derived.Test.YtbeegfkfpkfccaaGreatDoorYCAway
import Derived.Test.YtbeegfkfpkfccaaGreatDoorYCSCheck
import Derived.Test.YtbeegfkfpkfccaaGreatDoorYCls
namespace Go.Proofs.YtbeegfkfpkfccaaGreatDoor.D
open Go.RowKit
section
variable {base g : Nat} {s : Store} {va : Option Addr} {vc : Nat} {fa : Option Addr} {fc : Nat} {vs : List Value}
def RoomEnd (base g : Nat) (s : Store) (va : Option Addr) (c : Int) (w : World) (E : Ending) (w' : World) : Prop :=
 E = .returned (.bool (room s c).2) ∧ (∃ vc' fa' fc' vs', KeepAt base g (room s c).1 va vc' fa' fc' vs' w') ∧ Below base w w' ∧ ButK g va w w'
theorem held_at {s : Store} {q : Nat} (hq : q < 4) : s.held q = heldAt s q := by
 have h : q = 0 ∨ q = 1 ∨ q = 2 ∨ q = 3 := by omega
 rcases h with rfl | rfl | rfl | rfl <;> rfl
theorem per_at {q : Nat} (hq : q < 4) : per q = 256 / chunkAt q := by
 have h : q = 0 ∨ q = 1 ∨ q = 2 ∨ q = 3 := by omega
 rcases h with rfl | rfl | rfl | rfl <;> rfl
theorem add_cells {s : Store} {q : Nat} (hq : q < 4) (va : Option Addr) (vc : Nat) (fa : Option Addr) (fc : Nat) (x : Int) (hx : x = heldAt s q) :
  (storeV s va vc fa fc).setIfInBounds (4 + q) (.int .i64 (x + 1)) = storeV (addHeld s q) va vc fa fc := by
 have h : q = 0 ∨ q = 1 ∨ q = 2 ∨ q = 3 := by omega
 subst hx
 rcases h with rfl | rfl | rfl | rfl <;> rfl
theorem add_same (s : Store) (c : Int) : (addHeld s c).items = s.items ∧ (addHeld s c).flash = s.flash := by
 unfold addHeld
 split
 ·exact ⟨rfl, rfl⟩
 ·split
  ·exact ⟨rfl, rfl⟩
  ·split <;> exact ⟨rfl, rfl⟩
theorem heldAt_range {s : Store} (hs : SOk s) (k : Nat) : 0 ≤ heldAt s k ∧ heldAt s k ≤ 40 := by
 have := hs.h0; have := hs.h1; have := hs.h2; have := hs.h3; have := hs.most;unfold heldAt
 split <;> omega
theorem keep_at {w w' : World} (h : KeepAt base g s va vc fa fc vs w) (hk : w'.heap[g]? = w.heap[g]?) (q : Nat) (hq : q < 4) : w'.cell? ⟨g, 4 + q, none⟩ = some (.int .i64 (heldAt s q)) := by
 refine (World.cell?_of_block (w := w) hk).trans (h.cell (4 + q) _ ?_);have h : q = 0 ∨ q = 1 ∨ q = 2 ∨ q = 3 := by omega
 rcases h with rfl | rfl | rfl | rfl <;> rfl
theorem class_of (x : Item) (u : Int) (f : Bool) (hu : Hid (u = x.used)) (hf : Hid (f = x.far)) (w : World) (hc : Chunks w) :
  Calls Tryz.prog 40 #[.agg #[.string x.key, .int .i64 x.flags, .int .i64 x.till, .int .i64 x.cas, .int .i64 u, .string x.value, .bool f, .int .i64 x.place.page, .int .i64 x.place.off]] w (IdxC x.cls w) := by
 rw [hu.out, hf.out]; exact store_class x w hc
set_option maxHeartbeats 4000000 in
set_option maxRecDepth 100000 in
theorem keeper_room (w : World) (h : KeepAt base g s va vc fa fc vs w) (hs : SOk s) (hch : Chunks w) (q : Nat) (hq : q < 4) :
  Calls Tryz.prog 126 #[.pointer (some ⟨g, 0, none⟩), .int .i64 q] w (RoomEnd base g s va q w) := by
 have H := hid h;have HS := hid hs;have HC := hid hch;have HI := hid (h.items hs);have hl := hs.len;have c8 := h.cells.2.2.2.2.2.2.2.2.1;have hgk := h.lt;have hbase := h.base_le;clear h hs hch
 go_enter Tryz.func126, Tryz.ntmps126
 go_wp2_with fail
 clear c8
 go_loopw [5, 6, 18] (fun n m i wr => ∃ k : Nat, ∃ nn mm : Int, k ≤ s.items.length ∧ i = .int .i64 k ∧ n = .int .i64 nn ∧ m = .int .i64 mm ∧ 0 ≤ nn ∧ nn ≤ k ∧ -1 ≤ mm ∧ mm < k ∧ Hid (nn = countIn (s.items.take k) q) ∧ Hid (mm = lastTo s.items q k) ∧ Hid (Below w.heap.size w wr)) (fun _ _ i _ => s.items.length - (intOf i).toNat)
 case atStart => exact ⟨0, 0, -1, Nat.zero_le _, rfl, rfl, rfl, by omega, by omega, by omega, by omega, by show _ = _; rw [countIn_zero], rfl, Below.refl _ _⟩
 case round =>
  obtain ⟨k, nn, mm, hk, rfl, rfl, rfl, n0, n1, m0, m1, HN, HM, HB⟩ := hrel;have c8 : wr.cell? ⟨g, 8, none⟩ = some (.slice va s.items.length vc) := Below.keeps HB.out _ _ H.out.cells.2.2.2.2.2.2.2.2.1;have hgr : g < wr.heap.size := cell_lt c8
  by_cases hlt : k < s.items.length
  ·
   obtain ⟨b, o, rfl, hc⟩ := HI.out.pos (by omega);obtain ⟨cs, _, hcs, h3⟩ := hc k hlt;have HU := hid (item_used (Below.keeps HB.out) hc);have HSS := hid (countIn_step (c := (q : Int)) hlt);have L1 := hid (fun h => lastTo_skip (c := (q : Int)) hlt h);have L2 := hid (fun h => lastTo_first (c := (q : Int)) hlt h);have L3 := hid (fun m h => lastTo_less (c := (q : Int)) (m := m) hlt h);have L4 := hid (fun m h => lastTo_more (c := (q : Int)) (m := m) hlt h);obtain ⟨x, hxx⟩ : ∃ x, x = s.items[k] := ⟨_, rfl⟩;rw [← hxx] at hcs HSS L1 L2 L3 L4;have hcs := hcs.1;subst hcs;obtain ⟨d0, d1, d2, d3, d4, d5, d6, d7, d8, hbb⟩ := item_cells (Below.keeps HB.out) h3;obtain ⟨far, hfar⟩ : ∃ b, b = x.far := ⟨_, rfl⟩;obtain ⟨ux, hux⟩ : ∃ u, u = x.used := ⟨_, rfl⟩;rw [← hux] at L3 L4;have HFAR := hid hfar;have HUX := hid hux;clear h3 hc hxx hfar hux;go_upto_region 5 with (fail);obtain ⟨W4, hW4⟩ : ∃ W4, W4 = wr.alloc (.cells #[.string x.key, .int .i64 x.flags, .int .i64 x.till, .int .i64 x.cas, .int .i64 x.used, .string x.value, .bool x.far, .int .i64 x.place.page, .int .i64 x.place.off] 83) := ⟨_, rfl⟩;have R1 : Hid (W4.heap[wr.heap.size]? = some (.cells #[.string x.key, .int .i64 x.flags, .int .i64 x.till, .int .i64 x.cas, .int .i64 x.used, .string x.value, .bool x.far, .int .i64 x.place.page, .int .i64 x.place.off] 83 (0, 0))) := by show _ = _; rw [hW4]; exact blk_new wr _
   have hb4 : Below wr.heap.size wr W4 := by rw [hW4]; exact (Below.refl _ _).alloc (Nat.le_refl _) _
   have hz5 : wr.heap.size < W4.heap.size := by rw [hW4]; simp
   have x0 : W4.cell? ⟨wr.heap.size, 0, none⟩ = some (.string x.key) := cor R1.out rfl;have x1 : W4.cell? ⟨wr.heap.size, 1, none⟩ = some (.int .i64 x.flags) := cor R1.out rfl;have x2 : W4.cell? ⟨wr.heap.size, 2, none⟩ = some (.int .i64 x.till) := cor R1.out rfl;have x3 : W4.cell? ⟨wr.heap.size, 3, none⟩ = some (.int .i64 x.cas) := cor R1.out rfl;have x4 : W4.cell? ⟨wr.heap.size, 4, none⟩ = some (.int .i64 ux) := by rw [cell_of_row W4 _ _ _ _ _ R1.out, HUX.out]; rfl
   have x5 : W4.cell? ⟨wr.heap.size, 5, none⟩ = some (.string x.value) := cor R1.out rfl;have x6 : W4.cell? ⟨wr.heap.size, 6, none⟩ = some (.bool far) := by rw [cell_of_row W4 _ _ _ _ _ R1.out, HFAR.out]; rfl
   have x7 : W4.cell? ⟨wr.heap.size, 7, none⟩ = some (.int .i64 x.place.page) := cor R1.out rfl;have x8 : W4.cell? ⟨wr.heap.size, 8, none⟩ = some (.int .i64 x.place.off) := cor R1.out rfl;have HB4 := hid (HB.out.trans (hb4.mono HB.out.size));have HW4 := hid hb4;have c84 : W4.cell? ⟨g, 8, none⟩ = some (.slice (some ⟨b, o, none⟩) s.items.length vc) := Below.keeps hb4 _ _ c8;rw [← hW4];clear hW4 hb4 c8 d0 d1 d2 d3 d4 d5 d6 d7 d8
   cases far
   ·
    obtain ⟨cl, hcl⟩ : ∃ n, n = x.cls := ⟨_, rfl⟩;have HCL := hid hcl;have HIC : Hid (inCls x q = (cl == (q : Int))) := by show _ = _; rw [cls_near HFAR.out.symm, HCL.out]
    clear hcl
    go_wp2_with fail
    refine (class_of x ux false HUX HFAR _ ?_).mono ?_
    ·exact HC.out.keep (Below.keeps HB4.out)
    rintro e w1 ⟨rfl, hb2⟩;rw [← HCL.out];have HBW := hid (HB4.out.trans (hb2.mono HB4.out.size));have hx1 : w1.cell? ⟨g, 8, none⟩ = some (.slice (some ⟨b, o, none⟩) s.items.length vc) := Below.keeps hb2 _ _ c84;have hu1 : w1.cell? ⟨wr.heap.size, 4, none⟩ = some (.int .i64 ux) := Below.keeps hb2 _ _ x4;have HU1 : Hid (∀ (m : Nat) (hm : m < s.items.length), w1.cell? ⟨b, o + m * 9 + 4, none⟩ = some (.int .i64 s.items[m].used)) := fun m hm => Below.keeps hb2 _ _ (Below.keeps HW4.out _ _ (HU.out m hm))
    clear hb2 c84 x0 x1 x2 x3 x4 x5 x6 x7 x8 HU R1
    by_cases e : cl = (q : Int)
    ·have e1 : (cl == (q : Int)) = true := by simp [e]
     have e2 : (cl != (q : Int)) = false := by simp [e]
     have HT : Hid (inCls x q = true) := by show _ = _; rw [HIC.out, e1]
     have HS2 : Hid (nn + 1 = countIn (s.items.take (k + 1)) q) := by show _ = _; rw [HSS.out, HT.out, HN.out]; rfl
     clear e
     by_cases hm0 : mm < 0
     ·have HL : Hid ((k : Int) = lastTo s.items q (k + 1)) := (L2.out HT.out (by rw [← HM.out]; exact hm0)).symm
      go_wp2_with fail
      go_quiet (fail)
      go_wp2_with fail
      go_roundw
      case rel => exact ⟨k + 1, nn + 1, k, by omega, by go_num, rfl, rfl, by omega, by omega, by omega, by omega, HS2, HL, below_drewN HBW.out _⟩
      case measure => simp [intOf]; omega
     ·obtain ⟨m, hm⟩ : ∃ m : Nat, mm = m := ⟨mm.toNat, by omega⟩
      subst hm;have hml : m < s.items.length := by omega
      have hu2 := HU1.out m hml;obtain ⟨uy, huy⟩ : ∃ u, u = s.items[m].used := ⟨_, rfl⟩;rw [← huy] at hu2;have HUY := hid huy;have hm1 : (m : Int) < (s.items.length : Int) := by omega
      clear huy
      by_cases hlt2 : ux < uy
      ·have HL : Hid ((k : Int) = lastTo s.items q (k + 1)) := (L3.out m HT.out HM.out.symm hml (by rw [← HUY.out]; exact hlt2)).symm
       go_wp2_with fail
       go_quiet (fail)
       go_wp2_with fail
       go_roundw
       case rel => exact ⟨k + 1, nn + 1, k, by omega, by go_num, rfl, rfl, by omega, by omega, by omega, by omega, HS2, HL, below_drewN HBW.out _⟩
       case measure => simp [intOf]; omega
      ·have HL : Hid ((m : Int) = lastTo s.items q (k + 1)) := (L4.out m HT.out HM.out.symm hml (by rw [← HUY.out]; omega)).symm
       go_wp2_with fail
       go_quiet (fail)
       go_wp2_with fail
       go_roundw
       case rel => exact ⟨k + 1, nn + 1, m, by omega, by go_num, rfl, rfl, by omega, by omega, by omega, by omega, HS2, HL, below_drewN HBW.out _⟩
       case measure => simp [intOf]; omega
    ·have e1 : (cl == (q : Int)) = false := by simp [e]
     have e2 : (cl != (q : Int)) = true := by simp [e]
     have HT : Hid (inCls x q = false) := by show _ = _; rw [HIC.out, e1]
     have HS2 : Hid (nn = countIn (s.items.take (k + 1)) q) := by show _ = _; rw [HSS.out, HT.out, HN.out]; simp
     have HL : Hid (mm = lastTo s.items q (k + 1)) := by show _ = _; rw [L1.out HT.out, HM.out]
     clear e
     go_wp2_with fail
     go_roundw
     case rel => exact ⟨k + 1, nn, mm, by omega, by go_num, rfl, rfl, by omega, by omega, by omega, by omega, HS2, HL, HBW⟩
     case measure => simp [intOf]; omega
   ·
    have HT : Hid (inCls x q = false) := by show _ = _; rw [cls_far HFAR.out.symm]
    have HS2 : Hid (nn = countIn (s.items.take (k + 1)) q) := by show _ = _; rw [HSS.out, HT.out, HN.out]; simp
    have HL : Hid (mm = lastTo s.items q (k + 1)) := by show _ = _; rw [L1.out HT.out, HM.out]
    go_wp2_with fail
    go_roundw
    case rel => exact ⟨k + 1, nn, mm, by omega, by go_num, rfl, rfl, by omega, by omega, by omega, by omega, HS2, HL, HB4⟩
    case measure => simp [intOf]; omega
  ·
   have hk2 : k = s.items.length := by omega
   have HNN : Hid (countIn s.items q = nn) := by show _ = _; rw [HN.out, hk2, List.take_length]
   have HMM : Hid (oldest s.items q = mm) := by show lastTo _ _ _ = _; rw [HM.out, hk2]
   have K := hid (H.out.below HB.out);have HBB := hid (HB.out.mono hbase);have HKB : Hid (ButK g va w wr) := ButK.below HB.out;have HCC := hid (HC.out.keep (Below.keeps HB.out));clear HN HM HB HI hk hk2 m1 n1;have hnn := countIn_le s.items q;rw [HNN.out] at hnn;have hmm := lastTo_range s.items q s.items.length;rw [show lastTo s.items q s.items.length = mm from HMM.out] at hmm;obtain ⟨c0, c1, c2, c3, c4, c5, c6, c7, c8', c9, c10, c11⟩ := K.out.cells
   go_wp2_with fail
   go_loop [9, 56] (fun t i => ∃ j : Nat, ∃ m : Int, j ≤ 4 ∧ i = .int .i64 j ∧ t = .int .i64 m ∧ 0 ≤ m ∧ m ≤ 40 * j ∧ Hid (m = heldSum s j)) (fun _ i => 4 - (intOf i).toNat)
   case atStart => exact ⟨0, 0, by omega, rfl, rfl, by omega, by omega, rfl⟩
   case round =>
    obtain ⟨j, m, hj, rfl, rfl, mm0, mm1, HSM⟩ := hrel
    by_cases hj4 : j < 4
    ·
     obtain ⟨x, hx⟩ : ∃ x, x = heldAt s j := ⟨_, rfl⟩;have ik : ∀ w, (Instr.index 22 (.agg #[.int .i64 s.h0, .int .i64 s.h1, .int .i64 s.h2, .int .i64 s.h3]) (.int .i64 j)).run Tryz.prog w = .ok (.int .i64 x) w := fun w => by rw [hx]; exact index4 (heldAt s) j hj4 w
     have hx1 := heldAt_range HS.out j;rw [← hx] at hx1;obtain ⟨x0, x1⟩ := hx1;have HM2 : Hid (m + x = heldSum s (j + 1)) := by show _ = _; rw [heldSum, ← HSM.out, ← hx]
     clear hx
     go_wp2_with fail
     go_round
     case rel => exact ⟨j + 1, m + x, by omega, by go_num, rfl, by omega, by omega, HM2⟩
     case measure => simp [intOf]; omega
    ·
     obtain rfl : j = 4 := by omega
     have HSUM : Hid (s.h0 + s.h1 + s.h2 + s.h3 = m) := by show _ = _; rw [HSM.out, heldSum_4]
     clear HSM hj hj4;obtain ⟨x, hx⟩ : ∃ x, x = heldAt s q := ⟨_, rfl⟩;obtain ⟨y, hy⟩ : ∃ y, y = chunkAt q := ⟨_, rfl⟩;obtain ⟨z, hz'⟩ : ∃ z, z = 256 / y := ⟨_, rfl⟩;have hx1 := heldAt_range HS.out q;have hy1 := chunkAt_range q;have cq : wr.cell? ⟨g, 4 + q, none⟩ = some (.int .i64 (heldAt s q)) := keep_at K.out rfl q hq;have cc := HCC.out q hq;rw [← hx] at cq hx1;rw [← hy] at cc hy1
     have hz1 : 1 ≤ z ∧ z ≤ 8 := by
      rw [hz'];obtain ⟨a1, a2⟩ := hy1
      constructor
      ·exact (Int.le_ediv_iff_mul_le (by omega)).2 (by omega)
      ·have : 256 / y < 9 := (Int.ediv_lt_iff_lt_mul (by omega)).2 (by omega)
       omega
     obtain ⟨x0, x1⟩ := hx1;obtain ⟨y0, y1⟩ := hy1;obtain ⟨z0, z1⟩ := hz1;have hxz : 0 ≤ x * z ∧ x * z ≤ 320 := ⟨Int.mul_nonneg x0 (by omega), Int.le_trans (Int.mul_le_mul (show x ≤ 40 by omega) z1 (by omega) (by omega)) (by omega)⟩;obtain ⟨p, hp⟩ : ∃ p, p = x * z := ⟨_, rfl⟩;have HPER : Hid (s.held q * per q = p) := by show _ = _; rw [held_at hq, per_at hq, ← hx, ← hy, ← hz', ← hp]
     have HX := hid hx;rw [← hp] at hxz;obtain ⟨xz0, xz1⟩ := hxz;have hd1 : Int.tdiv 256 y = z := by rw [hz']; exact Int.tdiv_eq_ediv_of_nonneg (by omega)
     have hd2 : (256 : Int) / y = z := hz'.symm;have hd3 : x * z = p := hp.symm;have hw1 : IntKind.i64.wrap z = z := IntWalk.i64_in _ (by omega);have hw2 : IntKind.i64.wrap p = p := IntWalk.i64_in _ (by omega);have hq0 : (0 : Int) ≤ (q : Int) := by omega
     have hq1 : (q : Int) < 4 := by omega
     clear hx hy hz' hp;have hroom := hid (show room s q = _ from rfl)
     have HRM : Hid (room s q = if nn < p then (s, decide (s.items.length < 1000)) else if m < s.most then (addHeld s q, decide (s.items.length < 1000)) else if 0 ≤ mm then (away s mm.toNat, decide ((away s mm.toNat).items.length < 1000)) else (s, false)) := by
      show _ = _;unfold room;rw [HNN.out, HMM.out, HSUM.out, HPER.out]
     clear hroom
     by_cases h1 : nn < p
     ·
      have HR : Hid (room s q = (s, decide (s.items.length < 1000))) := HRM.out.trans (if_pos h1);clear HRM
      go_wp2_with fail
      go_quiet (fail)
      go_wp2_with fail
      go_ret;refine ⟨?_, ?_, below_drewN HBB.out _, HKB.out.trans (ButK.below (below_drewN (Below.refl _ _) _))⟩
      ·rw [HR.out]; congr 2; simp; omega
      ·rw [HR.out]; exact ⟨_, _, _, _, K.out.below (below_drewN (Below.refl _ _) _)⟩
     ·by_cases h2 : m < s.most
      ·
       have HR : Hid (room s q = (addHeld s q, decide (s.items.length < 1000))) := HRM.out.trans ((if_neg h1).trans (if_pos h2));clear HRM
       go_wp2_with fail
       go_quiet (fail)
       go_upto_region 19 with (fail);have hfq := K.out.free (4 + q);have hwx : IntKind.i64.wrap (x + 1) = x + 1 := IntWalk.i64_in _ (by omega);have hq8 : ¬ 4 + q = 8 := by omega
       have hq9 : ¬ 8 = 4 + q := by omega
       go_region
       go_wp2_with fail
       go_ret;refine ⟨?_, ?_, (below_drewN HBB.out _).trans (below_set _ _ K.out.here), HKB.out.trans ((ButK.below (below_drewN (Below.refl _ _) _)).trans ButK.set_g)⟩
       ·rw [HR.out]; congr 2; simp; omega
       ·rw [HR.out]
        exact ⟨_, _, _, _, (K.out.below (below_drewN (Below.refl _ _) _)).put (s' := addHeld s q) (4 + q) (.int .i64 (x + 1)) (add_cells hq va vc fa fc x HX.out) (add_same s q).1 (by rw [(add_same s q).2])⟩
      ·by_cases h3 : 0 ≤ mm
       ·
        have HR : Hid (room s q = (away s mm.toNat, decide ((away s mm.toNat).items.length < 1000))) := HRM.out.trans ((if_neg h1).trans ((if_neg h2).trans (if_pos h3)));clear HRM;obtain ⟨i, hi⟩ : ∃ i : Nat, mm = i := ⟨mm.toNat, by omega⟩;subst hi;have hil : i < s.items.length := by omega
        rw [Int.toNat_natCast] at HR;have hi0 : ¬ (i : Int) < 0 := by omega
        go_wp2_with fail
        go_quiet (fail)
        go_wp2_with fail
        refine (keeper_away _ (K.out.below (below_drewN (Below.refl _ _) _)) HS.out i hil).mono ?_;rintro e w5 ⟨rfl, ⟨vc5, fa5, fc5, vs5, hk5⟩, hb5, hbk5⟩;have K5 := hid hk5;have HB5 := hid ((below_drewN HBB.out _).trans hb5);have HK5 := hid (HKB.out.trans ((ButK.below (below_drewN (Below.refl _ _) _)).trans hbk5));have c85 := K5.out.cells.2.2.2.2.2.2.2.2.1;have hgk5 := K5.out.lt;obtain ⟨ln, hln⟩ : ∃ ln, ln = (away s i).items.length := ⟨_, rfl⟩;have HLN := hid hln;rw [← hln] at c85;clear hk5 hb5 hbk5 hln c0 c1 c2 c3 c4 c5 c6 c7 c8 c8' c9 c10 c11 cq cc
        go_wp2_with fail
        go_ret;refine ⟨?_, ?_, HB5.out, HK5.out⟩
        ·rw [HR.out, ← HLN.out]; congr 2; simp; omega
        ·rw [HR.out]; exact ⟨_, _, _, _, K5.out⟩
       ·
        have HR : Hid (room s q = (s, false)) := HRM.out.trans ((if_neg h1).trans ((if_neg h2).trans (if_neg h3)));clear HRM
        go_wp2_with fail
        go_quiet (fail)
        go_wp2_with fail
        go_ret;refine ⟨?_, ?_, below_drewN HBB.out _, HKB.out.trans (ButK.below (below_drewN (Below.refl _ _) _))⟩
        ·rw [HR.out]; rfl
        ·rw [HR.out]; exact ⟨_, _, _, _, K.out.below (below_drewN (Below.refl _ _) _)⟩
end
end Go.Proofs.YtbeegfkfpkfccaaGreatDoor.D
