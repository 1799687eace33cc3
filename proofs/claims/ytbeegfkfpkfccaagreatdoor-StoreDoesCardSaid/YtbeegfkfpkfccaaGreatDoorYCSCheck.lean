/-
 Contract: store.Check: may a store be? Condition: the table of chunks holds its four numbers.
-/
import Derived.Test.YtbeegfkfpkfccaaGreatDoorYCItem
import Derived.Test.YtbeegfkfpkfccaaGreatDoorYBase
import Derived.Test.YtbeegfkfpkfccaaGreatDoorYOwn
import Derived.Deep.DeepCutAuto
import Derived.Deep.CutBlock
import Derived.Conc.WalkWords
namespace Go.Proofs.YtbeegfkfpkfccaaGreatDoor.D
open Go.RowKit
def heldAt (s : Store) : Nat → Int
 | 0 => s.h0
 | 1 => s.h1
 | 2 => s.h2
 | _ => s.h3
def heldSum (s : Store) : Nat → Int
 | 0 => 0
 | k + 1 => heldSum s k + heldAt s k
theorem heldSum_4 (s : Store) : heldSum s 4 = s.h0 + s.h1 + s.h2 + s.h3 := by simp [heldSum, heldAt]
theorem heldOK_range {s : Store} {n : Int} (h : heldOK s n = true) : 0 ≤ n ∧ n ≤ s.most := by unfold heldOK at h; simpa using h
def Store.chk (s : Store) : Int := if s.ok then 0 else 8
def SChkEnd (s : Store) (w : World) (e : Ending) (w' : World) : Prop := e = .returned (.int .i64 s.chk) ∧ Below w.heap.size w w'
theorem schk_no {s : Store} {w w' : World} (h : s.ok = false) (hb : Below w.heap.size w w') : SChkEnd s w (.returned (.int .i64 8)) w' := ⟨by unfold Store.chk; rw [h]; rfl, hb⟩
theorem schk_yes {s : Store} {w w' : World} (h : s.ok = true) (hb : Below w.heap.size w w') : SChkEnd s w (.returned (.int .i64 0)) w' := ⟨by unfold Store.chk; rw [h]; rfl, hb⟩
def headOK (s : Store) : Bool := cnt s.clock && cnt s.cas && cnt s.uses && decide (0 ≤ s.most ∧ s.most ≤ 40) && decide (s.items.length ≤ 1000) && s.flash.ok
def heldAll (s : Store) : Bool := heldOK s s.h0 && heldOK s s.h1 && heldOK s s.h2 && heldOK s s.h3
def itemsAll (s : Store) : Bool := s.items.all (itemOK s) && rising s.items
def fitAt (s : Store) (k : Nat) : Bool := decide (countIn s.items k ≤ heldAt s k * (256 / chunkAt k))
theorem ok_parts (s : Store) : s.ok = (headOK s && heldAll s && itemsAll s && (fitAt s 0 && fitAt s 1 && fitAt s 2 && fitAt s 3) && decide (s.h0 + s.h1 + s.h2 + s.h3 ≤ s.most)) := by
 have e0 : fitAt s 0 = decide (countIn s.items 0 ≤ s.h0 * 8) := rfl;have e1 : fitAt s 1 = decide (countIn s.items 1 ≤ s.h1 * 4) := rfl;have e2 : fitAt s 2 = decide (countIn s.items 2 ≤ s.h2 * 2) := rfl;have e3 : fitAt s 3 = decide (countIn s.items 3 ≤ s.h3) := by show decide (countIn s.items 3 ≤ s.h3 * 1) = _; rw [Int.mul_one]
 rw [e0, e1, e2, e3];unfold Store.ok headOK heldAll itemsAll;simp only [Bool.and_assoc]
theorem held_bad {s : Store} {k : Nat} (hk : k < 4) (h : heldOK s (heldAt s k) = false) : s.ok = false := by
 rw [ok_parts]
 have : heldAll s = false := by
  unfold heldAll
  match k, hk with
  | 0, _ => rw [show heldOK s s.h0 = false from h]; rfl
  | 1, _ => rw [show heldOK s s.h1 = false from h]; simp
  | 2, _ => rw [show heldOK s s.h2 = false from h]; simp
  | 3, _ => rw [show heldOK s s.h3 = false from h]; simp
 rw [this]; simp
theorem held_good {s : Store} (h : ∀ j, j < 4 → heldOK s (heldAt s j) = true) : heldAll s = true := by
 unfold heldAll;rw [show heldOK s s.h0 = true from h 0 (by omega), show heldOK s s.h1 = true from h 1 (by omega), show heldOK s s.h2 = true from h 2 (by omega), show heldOK s s.h3 = true from h 3 (by omega)]; rfl
theorem head_bad {s : Store} (h : headOK s = false) : s.ok = false := by rw [ok_parts, h]; rfl
theorem fit_bad {s : Store} {k : Nat} (hk : k < 4) (h : fitAt s k = false) : s.ok = false := by
 rw [ok_parts]
 match k, hk with
 | 0, _ => rw [h]; simp
 | 1, _ => rw [h]; simp
 | 2, _ => rw [h]; simp
 | 3, _ => rw [h]; simp
theorem items_bad {s : Store} (h : itemsAll s = false) : s.ok = false := by rw [ok_parts, h]; simp
def orderOK (s : Store) (k : Nat) : Bool := match k with
 | 0 => true
 | j + 1 => bytesLess (bl (s.items.getD j default).key) (bl (s.items.getD (j + 1) default).key)
theorem orderOK_succ {s : Store} {j : Nat} (hk : j + 1 < s.items.length) : orderOK s (j + 1) = bytesLess (bl (s.items[j]'(by omega)).key) (bl s.items[j + 1].key) := by
 show bytesLess (bl (s.items.getD j default).key) (bl (s.items.getD (j + 1) default).key) = _;rw [List.getD_eq_getElem?_getD, List.getD_eq_getElem?_getD, List.getElem?_eq_getElem (by omega), List.getElem?_eq_getElem hk]; rfl
def goodTo (s : Store) (k : Nat) : Prop := (s.items.take k).all (itemOK s) = true ∧ rising (s.items.take k) = true
theorem goodTo_step {s : Store} {k : Nat} (hk : k < s.items.length) (h : goodTo s k) (h1 : itemOK s s.items[k] = true) (h2 : orderOK s k = true) : goodTo s (k + 1) := by
 refine ⟨by rw [all_step hk, h.1, h1]; rfl, ?_⟩
 cases k with
 | zero => exact rising_take1 _
 | succ j =>
  rw [rising_step hk, h.2, ← orderOK_succ hk, h2]; rfl
theorem order_bad {s : Store} {k : Nat} (hk : k < s.items.length) (h : orderOK s k = false) : itemsAll s = false := by
 cases k with
 | zero => cases h
 | succ j =>
  have : rising (s.items.take (j + 2)) = false := by rw [rising_step hk, ← orderOK_succ hk, h]; simp
  unfold itemsAll;rw [rising_bad this]; simp
theorem item_bad {s : Store} {k : Nat} (hk : k < s.items.length) (h : itemOK s s.items[k] = false) : itemsAll s = false := by
 unfold itemsAll;rw [all_bad hk h]; rfl
theorem goodTo_end {s : Store} (h : goodTo s s.items.length) : itemsAll s = true := by
 unfold itemsAll;have h1 := h.1;have h2 := h.2;rw [List.take_length] at h1 h2;rw [h1, h2]; rfl
theorem index4 (f : Nat → Int) (k : Nat) (hk : k < 4) (w : World) : (Instr.index 22 (.agg #[.int .i64 (f 0), .int .i64 (f 1), .int .i64 (f 2), .int .i64 (f 3)]) (.int .i64 k)).run Tryz.prog w = .ok (.int .i64 (f k)) w := by
 have h : k = 0 ∨ k = 1 ∨ k = 2 ∨ k = 3 := by omega
 have h0 : ∀ (x0 x1 x2 x3 : Int) w, (Instr.index 22 (.agg #[.int .i64 x0, .int .i64 x1, .int .i64 x2, .int .i64 x3]) (.int .i64 0)).run Tryz.prog w = .ok (.int .i64 x0) w := fun _ _ _ _ _ => by kernel_rfl
 have h1 : ∀ (x0 x1 x2 x3 : Int) w, (Instr.index 22 (.agg #[.int .i64 x0, .int .i64 x1, .int .i64 x2, .int .i64 x3]) (.int .i64 1)).run Tryz.prog w = .ok (.int .i64 x1) w := fun _ _ _ _ _ => by kernel_rfl
 have h2 : ∀ (x0 x1 x2 x3 : Int) w, (Instr.index 22 (.agg #[.int .i64 x0, .int .i64 x1, .int .i64 x2, .int .i64 x3]) (.int .i64 2)).run Tryz.prog w = .ok (.int .i64 x2) w := fun _ _ _ _ _ => by kernel_rfl
 have h3 : ∀ (x0 x1 x2 x3 : Int) w, (Instr.index 22 (.agg #[.int .i64 x0, .int .i64 x1, .int .i64 x2, .int .i64 x3]) (.int .i64 3)).run Tryz.prog w = .ok (.int .i64 x3) w := fun _ _ _ _ _ => by kernel_rfl
 rcases h with rfl | rfl | rfl | rfl
 ·exact h0 _ _ _ _ w
 ·exact h1 _ _ _ _ w
 ·exact h2 _ _ _ _ w
 ·exact h3 _ _ _ _ w
def UsedAt (l : List Item) (k B : Nat) (w : World) : Prop := ∀ c : Nat, c < 4 → w.cell? ⟨B, c, none⟩ = some (.int .i64 (countIn (l.take k) c))
theorem used_far {l : List Item} {k B : Nat} {w : World} (hk : k < l.length) (hx : l[k].far = true) (h : UsedAt l k B w) : UsedAt l (k + 1) B w := by
 intro c hc;rw [h c hc, countIn_step hk];unfold inCls;rw [hx]; simp
theorem used_near {l : List Item} {k B q : Nat} {w : World} (hk : k < l.length) (hx : l[k].far = false) (hq : l[k].cls = q) (hq4 : q < 4) (h : UsedAt l k B w) (n : Int) (hn : n = countIn (l.take k) q) :
  UsedAt l (k + 1) B (w.setCell ⟨B, q, none⟩ (.int .i64 (n + 1))) := by
 intro c hc;rw [countIn_step hk];unfold inCls;rw [hx, hq]
 by_cases e : c = q
 ·subst e
  rw [setCell_self (h c hc), hn]; simp
 ·have : ((q : Int) == (c : Int)) = false := by simp; omega
  rw [cell_setCell_off (h c hc) e, this]; simp
theorem item_cls {s : Store} {x : Item} (h : itemOK s x = true) : ∃ q : Nat, x.cls = q ∧ q < 4 := by
 unfold itemOK at h;simp only [Bool.and_eq_true, decide_eq_true_eq] at h;obtain ⟨⟨⟨⟨⟨⟨h1, _⟩, _⟩, _⟩, _⟩, h6⟩, _⟩ := h;unfold keyOK keyL at h1;rw [Bool.and_eq_true, decide_eq_true_eq, bl_length] at h1;have := classOf_range (k := x.key.size) (v := x.value.size) ⟨by omega, by omega, by omega, by omega⟩;have hc : x.cls = classOf x.key.size x.value.size := rfl;exact ⟨x.cls.toNat, by omega, by omega⟩
set_option maxHeartbeats 4000000 in
set_option maxRecDepth 100000 in
theorem store_Check (s : Store) (a fa : Option Addr) (c fc : Nat) (w : World) (hc : Chunks w) (hI : RowsAt w a 9 ItemR s.items) (hF : RowsAt w fa 2 (PageR w) s.flash.pages) (hl : s.items.length ≤ 9223372036854775807) (hfl : s.flash.pages.length ≤ 9223372036854775807) :
  Calls Tryz.prog 17 #[.agg (storeV s a c fa fc)] w (SChkEnd s w) := by
 have HC := hid hc;have HI := hid hI;have HF := hid hF;clear hc hI hF;obtain ⟨t1, ht1⟩ : ∃ t, cnt s.clock = t := ⟨_, rfl⟩;obtain ⟨t2, ht2⟩ : ∃ t, cnt s.cas = t := ⟨_, rfl⟩;obtain ⟨t3, ht3⟩ : ∃ t, cnt s.uses = t := ⟨_, rfl⟩;obtain ⟨n, hn⟩ : ∃ n, s.flash.chk = n := ⟨_, rfl⟩;have H1 := hid ht1;have H2 := hid ht2;have H3 := hid ht3;have HN := hid hn;clear ht1 ht2 ht3 hn
 go_enter Tryz.func17, Tryz.ntmps17
 go_wp2_with fail
 refine (counter_is s.clock t1 H1 _).mono ?_;rintro e w1 ⟨rfl, rfl⟩
 cases t1
 ·
  have HB : Hid (s.ok = false) := head_bad (by unfold headOK; rw [H1.out]; rfl)
  go_wp2_with fail
  go_ret;exact schk_no HB.out (by go_grown)
 go_wp2_with fail
 refine (counter_is s.cas t2 H2 _).mono ?_;rintro e w1 ⟨rfl, rfl⟩
 cases t2
 ·
  have HB : Hid (s.ok = false) := head_bad (by unfold headOK; rw [H2.out]; simp)
  go_wp2_with fail
  go_ret;exact schk_no HB.out (by go_grown)
 go_wp2_with fail
 refine (counter_is s.uses t3 H3 _).mono ?_;rintro e w1 ⟨rfl, rfl⟩
 cases t3
 ·
  have HB : Hid (s.ok = false) := head_bad (by unfold headOK; rw [H3.out]; simp)
  go_wp2_with fail
  go_ret;exact schk_no HB.out (by go_grown)
 by_cases h4 : 0 ≤ s.most ∧ s.most ≤ 40
 rotate_left
 ·
  have HB : Hid (s.ok = false) := head_bad (by unfold headOK; rw [decide_eq_false h4]; simp)
  rcases (show s.most < 0 ∨ (0 ≤ s.most ∧ 40 < s.most) by omega) with h | ⟨h, h2⟩
  all_goals
   clear h4
   go_wp2_with fail
   go_ret;exact schk_no HB.out (by go_grown)
 have H4 := hid h4;obtain ⟨h4a, h4b⟩ := h4
 by_cases h5 : s.items.length ≤ 1000
 rotate_left
 ·
  have HB : Hid (s.ok = false) := head_bad (by unfold headOK; rw [decide_eq_false h5]; simp)
  go_wp2_with fail
  go_ret;exact schk_no HB.out (by go_grown)
 go_wp2_with fail
 refine (check_is s.flash n HN fa fc _ ?_).mono ?_
 ·exact HF.out.keep (Below.keeps (by go_grown)) (PageR.keep (Below.keeps (by go_grown)))
 rintro e w2 ⟨rfl, hb⟩;have hbw : Below w.heap.size w w2 := Below.trans (by go_grown) (hb.mono (by go_size));have hz : w.heap.size + 1 ≤ w2.heap.size := by have := hb.size; simp at this; omega
 have s3 := (hb.cell (p := ⟨w.heap.size, 3, none⟩) (by go_size)).trans (show _ = some (.int .i64 s.most) by go_simp);have s4 := (hb.cell (p := ⟨w.heap.size, 4, none⟩) (by go_size)).trans (show _ = some (.int .i64 s.h0) by go_simp);have s5 := (hb.cell (p := ⟨w.heap.size, 5, none⟩) (by go_size)).trans (show _ = some (.int .i64 s.h1) by go_simp);have s6 := (hb.cell (p := ⟨w.heap.size, 6, none⟩) (by go_size)).trans (show _ = some (.int .i64 s.h2) by go_simp);have s7 := (hb.cell (p := ⟨w.heap.size, 7, none⟩) (by go_size)).trans (show _ = some (.int .i64 s.h3) by go_simp);have s8 := (hb.cell (p := ⟨w.heap.size, 8, none⟩) (by go_size)).trans (show _ = some (.slice a s.items.length c) by go_simp);have HS : Hid (∀ j v, j < 12 → (storeV s a c fa fc)[j]? = some v → w2.cell? ⟨w.heap.size, j, none⟩ = some v) := fun j v hj hv => (hb.cell (p := ⟨w.heap.size, j, none⟩) (by go_size)).trans ((cell_alloc_row w _ _ _ j).trans hv)
 have HROW0 := hid ((hb.block w.heap.size (by go_size)).trans (blk_new w _));clear hb
 by_cases h6 : n = 0
 rotate_left
 ·
  have HB : Hid (s.ok = false) := head_bad (by
   have : s.flash.ok = false := by have h := HN.out; unfold Flash.chk at h; cases hk : s.flash.ok with
    | false => rfl
    | true => rw [hk] at h; exact absurd h.symm h6
   unfold headOK; rw [this]; simp)
  have e6 : (n == 0) = false := by simp [h6]
  have e7 : (n != 0) = true := by simp [h6]
  clear h6
  go_wp2_with fail
  go_ret;exact schk_no HB.out hbw
 have HH : Hid (headOK s = true) := by
  have : s.flash.ok = true := by have h := HN.out; unfold Flash.chk at h; cases hk : s.flash.ok with
   | true => rfl
   | false => rw [hk] at h; rw [h6] at h; cases h
  show headOK s = true;unfold headOK; rw [H1.out, H2.out, H3.out, decide_eq_true H4.out, decide_eq_true h5, this]; rfl
 have e6 : (n != 0) = false := by simp [h6]
 clear h6;have HROW : Hid (w2.heap[w.heap.size]? = some (.cells (storeV s a c fa fc) 28 (0, 0))) := HROW0.out;have hz0 : w.heap.size < w2.heap.size := by omega
 go_wp2_with fail
 clear s4 s5 s6 s7
 go_loop [3, 51] (fun t i => ∃ k : Nat, ∃ m : Int, k ≤ 4 ∧ i = .int .i64 k ∧ t = .int .i64 m ∧ 0 ≤ m ∧ m ≤ 40 * k ∧ Hid (m = heldSum s k) ∧ Hid (∀ j, j < k → heldOK s (heldAt s j) = true)) (fun _ i => 4 - (intOf i).toNat)
 case atStart => exact ⟨0, 0, by omega, rfl, rfl, by omega, by omega, rfl, fun j hj => absurd hj (Nat.not_lt_zero _)⟩
 case round =>
  obtain ⟨k, m, hk, rfl, rfl, m0, m1, HM, HG⟩ := hrel
  by_cases hk4 : k < 4
  ·obtain ⟨x, hx⟩ : ∃ x, x = heldAt s k := ⟨_, rfl⟩
   have ik : ∀ w, (Instr.index 22 (.agg #[.int .i64 s.h0, .int .i64 s.h1, .int .i64 s.h2, .int .i64 s.h3]) (.int .i64 k)).run Tryz.prog w = .ok (.int .i64 x) w := fun w => by rw [hx]; exact index4 (heldAt s) k hk4 w
   have HX := hid hx
   by_cases hg : 0 ≤ x ∧ x ≤ s.most
   ·
    have HG2 : Hid (∀ j, j < k + 1 → heldOK s (heldAt s j) = true) := fun j hj => by
     rcases Nat.lt_or_ge j k with h | h
     ·exact HG.out j h
     ·obtain rfl : j = k := by omega
      rw [← HX.out]; unfold heldOK; rw [decide_eq_true_eq]; exact hg
    have HM2 : Hid (m + x = heldSum s (k + 1)) := by show _ = _; rw [heldSum, ← HM.out, ← HX.out]
    clear hx;obtain ⟨g1, g2⟩ := hg
    go_wp2_with fail
    go_round
    case rel => exact ⟨k + 1, m + x, by omega, by go_num, rfl, by omega, by omega, HM2, HG2⟩
    case measure => simp [intOf]; omega
   ·
    have HB : Hid (s.ok = false) := held_bad hk4 (by rw [← hx]; unfold heldOK; rw [decide_eq_false_iff_not]; exact hg)
    rcases (show x < 0 ∨ (0 ≤ x ∧ s.most < x) by omega) with h | ⟨h, h2⟩
    all_goals
     clear hg hx
     go_wp2_with fail
     go_ret;exact schk_no HB.out hbw
  ·
   obtain rfl : k = 4 := by omega
   have HHA : Hid (heldAll s = true) := held_good HG.out;clear hk hk4
   go_wp2_with fail
   obtain ⟨W3, hW3⟩ : ∃ W3, W3 = w2.alloc (.cells #[.int .i64 0, .int .i64 0, .int .i64 0, .int .i64 0] 22) := ⟨_, rfl⟩;have S3 : SameTo w2.heap.size w2 W3 := by rw [hW3]; exact (SameTo.refl _ _).alloc (Nat.le_refl _) _
   have hb3 : Below w.heap.size w W3 := by rw [hW3]; exact hbw.alloc (by omega) _
   have hz3 : w2.heap.size < W3.heap.size := by rw [hW3]; simp
   have HU3 : Hid (UsedAt s.items 0 w2.heap.size W3) := by
    intro q hq;have h : q = 0 ∨ q = 1 ∨ q = 2 ∨ q = 3 := by omega
    rw [hW3, countIn_zero, cell_alloc_row]
    rcases h with rfl | rfl | rfl | rfl <;> rfl
   have HZ3 : Hid (∀ j, W3.frozen? ⟨w2.heap.size, j, none⟩ = false) := by intro j; rw [hW3]; go_simp
   have HG3 : Hid (goodTo s 0) := ⟨rfl, rfl⟩;rw [← hW3];clear hW3
   go_loopw [69] (fun i wr => ∃ k : Nat, k ≤ s.items.length ∧ i = .int .i64 k ∧ Below w.heap.size w wr ∧ SameTo w2.heap.size w2 wr ∧ w2.heap.size < wr.heap.size ∧ Hid (UsedAt s.items k w2.heap.size wr) ∧ Hid (∀ j, wr.frozen? ⟨w2.heap.size, j, none⟩ = false) ∧ Hid (goodTo s k)) (fun i _ => s.items.length - (intOf i).toNat)
   case atStart => exact ⟨0, Nat.zero_le _, rfl, hb3, S3, hz3, HU3, HZ3, HG3⟩
   case round =>
    clear hb3 S3 hz3 HU3 HZ3 HG3;obtain ⟨k, hk, rfl, hb, hS, hzr, HU, HZ, HGT⟩ := hrel;have r3 := hS.cell hz0 s3;have r8 := hS.cell hz0 s8
    by_cases hlt : k < s.items.length
    ·
     obtain ⟨b, o, rfl, hc⟩ := HI.out.pos (by omega);obtain ⟨cs, _, hcs, h3⟩ := hc k hlt
     have HPREV : Hid (∀ j, k = j + 1 → ∀ hj : j < s.items.length, w.cell? ⟨b, o + j * 9, none⟩ = some (.string s.items[j].key)) := by
      intro j _ hj;obtain ⟨cs', _, hR, h3'⟩ := hc j hj;rw [hR.1] at h3';exact h3' 0 _ rfl
     obtain ⟨x, hxx⟩ : ∃ x, x = s.items[k] := ⟨_, rfl⟩;rw [← hxx] at hcs;have HXX := hid hxx;have HIT := hid hcs;have hcs := hcs.1;subst hcs;obtain ⟨c0, c1, c2, c3, c4, c5, c6, c7, c8, hbb⟩ := item_cells (Below.keeps hb) h3;clear h3 hc hxx;go_upto_region 15 with (fail);obtain ⟨W4, hW4⟩ : ∃ W4, W4 = wr.alloc (.cells #[.string x.key, .int .i64 x.flags, .int .i64 x.till, .int .i64 x.cas, .int .i64 x.used, .string x.value, .bool x.far, .int .i64 x.place.page, .int .i64 x.place.off] 83) := ⟨_, rfl⟩;have R1 : Hid (W4.heap[wr.heap.size]? = some (.cells #[.string x.key, .int .i64 x.flags, .int .i64 x.till, .int .i64 x.cas, .int .i64 x.used, .string x.value, .bool x.far, .int .i64 x.place.page, .int .i64 x.place.off] 83 (0, 0))) := by show _ = _; rw [hW4]; exact blk_new wr _
     have R0 : Hid (W4.heap[w.heap.size]? = some (.cells (storeV s (some ⟨b, o, none⟩) c fa fc) 28 (0, 0))) := by show _ = _; rw [hW4, Below.heap_alloc wr _ _ (by omega), hS _ hz0]; exact HROW.out
     have hb4 : Below w.heap.size w W4 := by rw [hW4]; exact hb.alloc (by omega) _
     have hS4 : SameTo w2.heap.size w2 W4 := by rw [hW4]; exact hS.alloc (by omega) _
     have HU4 : Hid (UsedAt s.items k w2.heap.size W4) := fun q hq => by rw [hW4, World.cell?_alloc_lt _ _ _ (by exact hzr)]; exact HU.out q hq
     have HZ4 : Hid (∀ j, W4.frozen? ⟨w2.heap.size, j, none⟩ = false) := fun j => by rw [hW4]; have := HZ.out j; go_simp
     have hz4 : w2.heap.size < W4.heap.size ∧ wr.heap.size < W4.heap.size := by rw [hW4]; simp; omega
     have HB4 := hid hb4;have d3 := hS4.cell hz0 s3;have d8 := hS4.cell hz0 s8;have e0 : W4.cell? ⟨wr.heap.size, 0, none⟩ = some (.string x.key) := by rw [hW4]; go_simp
     rw [← hW4];clear hW4 hb hS HU HZ r3 r8 c0 c1 c2 c3 c4 c5 c6 c7 c8;obtain ⟨hz4, hz5⟩ := hz4
     go_cut [93] (fun t wx => t = .bool (!(itemOK s x && orderOK s k)) ∧ Below W4.heap.size W4 wx)
     case first =>
      cases hok : itemOK s x
      ·
       have HOK := hid hok;clear hok;refine wp_region_L (Below W4.heap.size W4) 19 20 (by kernel_rfl) (by kernel_rfl) (Below.refl _ _).drew (fun hHeld => ?_);refine wpAnyL_take (i := 0) (v := _) rfl (by kernel_rfl) (fun _ _ _ h => h) (Or.inl ⟨by rfl, fun wS hSw => exec_load_row 28 _ rfl (w.heap.size) rfl _ _ _ _ ((hSw.block _ (by omega)).trans R0.out) Tryz.underlying28 rfl (by kernel_rfl)⟩) (by assumption) ?_;walk_nrm;refine wpAnyL_take (i := 1) (v := _) rfl (by kernel_rfl) (fun _ _ _ h => h) (Or.inl ⟨by rfl, fun wS hSw => exec_load_row 83 _ rfl (wr.heap.size) rfl _ _ _ _ ((hSw.block _ hz5).trans R1.out) Tryz.underlying83 rfl (by kernel_rfl)⟩) (by assumption) ?_;walk_nrm;refine wpAnyL_step (i := 2) rfl (by kernel_rfl) (fun K hK => ?_);go_simp;refine (store_item s x (some ⟨b, o, none⟩) fa c fc _ ?_ hfl ?_ ?_).mono ?_
       ·exact HF.out.keep (Below.keeps (HB4.out.trans (hHeld.mono HB4.out.size))) (PageR.keep (Below.keeps (HB4.out.trans (hHeld.mono HB4.out.size))))
       ·exact Nat.le_trans HIT.out.2.1 (by decide)
       ·exact Nat.le_trans HIT.out.2.2.1 (by decide)
       rintro e w5 ⟨rfl, hb5⟩;rw [HOK.out];have S5 : Below W4.heap.size W4 w5 := hHeld.trans (hb5.mono hHeld.size);show K _ w5;refine hK.out _ _ S5 (fun hHeld5 => ?_);clear hK K hHeld hb5;walk_nrm;refine tk 3 ?_ rfl (fun _ _ _ h=>h) (y:=?_) (h:=?_);rotate_left
       ·intro wS hSw; go_simp<;>with_reducible rfl
       walk_nrm;refine tk 4 ?_ rfl (fun _ _ _ h=>h) (y:=?_) (h:=?_);rotate_left
       ·intro wS hSw; go_simp<;>with_reducible rfl
       walk_nrm;refine wpAnyL_take (i := 5) (v := undef) rfl (by kernel_rfl) (fun _ _ _ h => h) (Or.inr ⟨by rfl, rfl⟩) (by assumption) ?_;walk_nrm;refine wpAnyL_take (i := 6) (v := undef) rfl (by kernel_rfl) (fun _ _ _ h => h) (Or.inr ⟨by rfl, rfl⟩) (by assumption) ?_;walk_nrm;refine wpAnyL_take (i := 7) (v := undef) rfl (by kernel_rfl) (fun _ _ _ h => h) (Or.inr ⟨by rfl, rfl⟩) (by assumption) ?_;walk_nrm;refine wpAnyL_take (i := 8) (v := undef) rfl (by kernel_rfl) (fun _ _ _ h => h) (Or.inr ⟨by rfl, rfl⟩) (by assumption) ?_;walk_nrm;refine wpAnyL_take (i := 9) (v := undef) rfl (by kernel_rfl) (fun _ _ _ h => h) (Or.inr ⟨by rfl, rfl⟩) (by assumption) ?_;walk_nrm;refine wpAnyL_take (i := 10) (v := undef) rfl (by kernel_rfl) (fun _ _ _ h => h) (Or.inr ⟨by rfl, rfl⟩) (by assumption) ?_;walk_nrm;refine wpAnyL_take (i := 11) (v := undef) rfl (by kernel_rfl) (fun _ _ _ h => h) (Or.inr ⟨by rfl, rfl⟩) (by assumption) ?_;walk_nrm;refine wpAnyL_take (i := 12) (v := undef) rfl (by kernel_rfl) (fun _ _ _ h => h) (Or.inr ⟨by rfl, rfl⟩) (by assumption) ?_;walk_nrm;refine wpAnyL_take (i := 13) (v := undef) rfl (by kernel_rfl) (fun _ _ _ h => h) (Or.inr ⟨by rfl, rfl⟩) (by assumption) ?_;walk_nrm;refine wpAnyL_take (i := 14) (v := undef) rfl (by kernel_rfl) (fun _ _ _ h => h) (Or.inr ⟨by rfl, rfl⟩) (by assumption) ?_;walk_nrm;refine wpAnyL_take (i := 15) (v := undef) rfl (by kernel_rfl) (fun _ _ _ h => h) (Or.inr ⟨by rfl, rfl⟩) (by assumption) ?_;walk_nrm;refine wpAnyL_take (i := 16) (v := undef) rfl (by kernel_rfl) (fun _ _ _ h => h) (Or.inr ⟨by rfl, rfl⟩) (by assumption) ?_;walk_nrm;refine wpAnyL_take (i := 17) (v := undef) rfl (by kernel_rfl) (fun _ _ _ h => h) (Or.inr ⟨by rfl, rfl⟩) (by assumption) ?_;walk_nrm;refine wpAnyL_take (i := 18) (v := undef) rfl (by kernel_rfl) (fun _ _ _ h => h) (Or.inr ⟨by rfl, rfl⟩) (by assumption) ?_;walk_nrm;refine wpAnyL_last rfl (by kernel_rfl) (fun K hK => ?_);go_simp;refine hK.out _ _ ?_;clear hK K;walk_nrm;refine wpAnyL_done (by kernel_rfl) ?_ _
       go_wp2_with fail
       go_meet;exact ⟨by rw [HOK.out]; rfl, S5⟩
      ·have HOK := hid hok
       clear hok
       rcases Nat.eq_zero_or_pos k with hk0 | hkp
       ·
        have HO : Hid (orderOK s k = true) := by show _ = _; rw [hk0]; rfl
        have hk1 : ¬ (0 : Int) < (k : Int) := by omega
        have hk2 : decide ((0 : Int) < (k : Int)) = false := decide_eq_false hk1;have hk3 : ¬ 0 < k := by omega
        have hk4 : decide (0 < k) = false := decide_eq_false hk3;clear hk0;refine wp_region_L (Below W4.heap.size W4) 19 20 (by kernel_rfl) (by kernel_rfl) (Below.refl _ _).drew (fun hHeld => ?_);refine wpAnyL_take (i := 0) (v := _) rfl (by kernel_rfl) (fun _ _ _ h => h) (Or.inl ⟨by rfl, fun wS hSw => exec_load_row 28 _ rfl (w.heap.size) rfl _ _ _ _ ((hSw.block _ (by omega)).trans R0.out) Tryz.underlying28 rfl (by kernel_rfl)⟩) (by assumption) ?_;walk_nrm;refine wpAnyL_take (i := 1) (v := _) rfl (by kernel_rfl) (fun _ _ _ h => h) (Or.inl ⟨by rfl, fun wS hSw => exec_load_row 83 _ rfl (wr.heap.size) rfl _ _ _ _ ((hSw.block _ hz5).trans R1.out) Tryz.underlying83 rfl (by kernel_rfl)⟩) (by assumption) ?_;walk_nrm;refine wpAnyL_step (i := 2) rfl (by kernel_rfl) (fun K hK => ?_);go_simp;refine (store_item s x (some ⟨b, o, none⟩) fa c fc _ ?_ hfl ?_ ?_).mono ?_
        ·exact HF.out.keep (Below.keeps (HB4.out.trans (hHeld.mono HB4.out.size))) (PageR.keep (Below.keeps (HB4.out.trans (hHeld.mono HB4.out.size))))
        ·exact Nat.le_trans HIT.out.2.1 (by decide)
        ·exact Nat.le_trans HIT.out.2.2.1 (by decide)
        rintro e w5 ⟨rfl, hb5⟩;rw [HOK.out];have S5 : Below W4.heap.size W4 w5 := hHeld.trans (hb5.mono hHeld.size);show K _ w5;refine hK.out _ _ S5 (fun hHeld5 => ?_);clear hK K hHeld hb5;walk_nrm;refine tk 3 ?_ rfl (fun _ _ _ h=>h) (y:=?_) (h:=?_);rotate_left
        ·intro wS hSw; go_simp<;>with_reducible rfl
        walk_nrm;refine tk 4 ?_ rfl (fun _ _ _ h=>h) (y:=?_) (h:=?_);rotate_left
        ·intro wS hSw; go_simp<;>with_reducible rfl
        walk_nrm;refine tk 5 ?_ rfl (fun _ _ _ h=>h) (y:=?_) (h:=?_);rotate_left
        ·intro wS hSw; go_simp<;>with_reducible rfl
        walk_nrm;refine tk 6 ?_ rfl (fun _ _ _ h=>h) (y:=?_) (h:=?_);rotate_left
        ·intro wS hSw; go_simp<;>with_reducible rfl
        walk_nrm;refine tk 7 ?_ rfl (fun _ _ _ h=>h) (y:=?_) (h:=?_);rotate_left
        ·intro wS hSw; go_simp<;>with_reducible rfl
        walk_nrm;refine wpAnyL_take (i := 8) (v := undef) rfl (by kernel_rfl) (fun _ _ _ h => h) (Or.inr ⟨by rfl, rfl⟩) (by assumption) ?_;walk_nrm;refine wpAnyL_take (i := 9) (v := undef) rfl (by kernel_rfl) (fun _ _ _ h => h) (Or.inr ⟨by rfl, rfl⟩) (by assumption) ?_;walk_nrm;refine wpAnyL_take (i := 10) (v := undef) rfl (by kernel_rfl) (fun _ _ _ h => h) (Or.inr ⟨by rfl, rfl⟩) (by assumption) ?_;walk_nrm;refine wpAnyL_take (i := 11) (v := undef) rfl (by kernel_rfl) (fun _ _ _ h => h) (Or.inr ⟨by rfl, rfl⟩) (by assumption) ?_;walk_nrm;refine wpAnyL_take (i := 12) (v := undef) rfl (by kernel_rfl) (fun _ _ _ h => h) (Or.inr ⟨by rfl, rfl⟩) (by assumption) ?_;walk_nrm;refine wpAnyL_take (i := 13) (v := undef) rfl (by kernel_rfl) (fun _ _ _ h => h) (Or.inr ⟨by rfl, rfl⟩) (by assumption) ?_;walk_nrm;refine wpAnyL_take (i := 14) (v := undef) rfl (by kernel_rfl) (fun _ _ _ h => h) (Or.inr ⟨by rfl, rfl⟩) (by assumption) ?_;walk_nrm;refine wpAnyL_take (i := 15) (v := undef) rfl (by kernel_rfl) (fun _ _ _ h => h) (Or.inr ⟨by rfl, rfl⟩) (by assumption) ?_;walk_nrm;refine wpAnyL_take (i := 16) (v := undef) rfl (by kernel_rfl) (fun _ _ _ h => h) (Or.inr ⟨by rfl, rfl⟩) (by assumption) ?_;walk_nrm;refine wpAnyL_take (i := 17) (v := undef) rfl (by kernel_rfl) (fun _ _ _ h => h) (Or.inr ⟨by rfl, rfl⟩) (by assumption) ?_;walk_nrm;refine tk 18 ?_ rfl (fun _ _ _ h=>h) (y:=?_) (h:=?_);rotate_left
        ·intro wS hSw; go_simp<;>with_reducible rfl
        walk_nrm;refine wpAnyL_last rfl (by kernel_rfl) (fun K hK => ?_);go_simp;refine hK.out _ _ ?_;clear hK K;walk_nrm;refine wpAnyL_done (by kernel_rfl) ?_ _
        go_wp2_with fail
        go_meet;exact ⟨by rw [HOK.out, HO.out]; rfl, S5⟩
       ·
        obtain ⟨j, hj⟩ : ∃ j, k = j + 1 := ⟨k - 1, by omega⟩;have hjl : j < s.items.length := by omega
        have hp := Below.keeps HB4.out _ _ (HPREV.out j hj hjl);obtain ⟨y, hy⟩ : ∃ y, y = s.items[j].key := ⟨_, rfl⟩;rw [← hy] at hp;have hpb := cell_lt hp
        have HO : Hid (orderOK s k = bytesLess (bl y) (bl x.key)) := by
         show _ = _;subst hj;rw [orderOK_succ hlt, hy, HXX.out]
        have hk1 : (0 : Int) < (k : Int) := by omega
        have hk2 : decide ((0 : Int) < (k : Int)) = true := decide_eq_true hk1;have hk4 : decide (0 < k) = true := decide_eq_true hkp;have hj0 : (0 : Int) ≤ (j : Int) := by omega
        have hj1 : (j : Int) < (s.items.length : Int) := by omega
        have hw1 : IntKind.i64.wrap ((k : Int) - 1) = (j : Int) := by rw [IntWalk.i64_in _ (by omega)]; omega
        have hz04 : w.heap.size < W4.heap.size := by omega
        clear hy hj;refine wp_region_L (Below W4.heap.size W4) 19 20 (by kernel_rfl) (by kernel_rfl) (Below.refl _ _).drew (fun hHeld => ?_);refine wpAnyL_take (i := 0) (v := _) rfl (by kernel_rfl) (fun _ _ _ h => h) (Or.inl ⟨by rfl, fun wS hSw => exec_load_row 28 _ rfl (w.heap.size) rfl _ _ _ _ ((hSw.block _ (by omega)).trans R0.out) Tryz.underlying28 rfl (by kernel_rfl)⟩) (by assumption) ?_;walk_nrm;refine wpAnyL_take (i := 1) (v := _) rfl (by kernel_rfl) (fun _ _ _ h => h) (Or.inl ⟨by rfl, fun wS hSw => exec_load_row 83 _ rfl (wr.heap.size) rfl _ _ _ _ ((hSw.block _ hz5).trans R1.out) Tryz.underlying83 rfl (by kernel_rfl)⟩) (by assumption) ?_;walk_nrm;refine wpAnyL_step (i := 2) rfl (by kernel_rfl) (fun K hK => ?_);go_simp;refine (store_item s x (some ⟨b, o, none⟩) fa c fc _ ?_ hfl ?_ ?_).mono ?_
        ·exact HF.out.keep (Below.keeps (HB4.out.trans (hHeld.mono HB4.out.size))) (PageR.keep (Below.keeps (HB4.out.trans (hHeld.mono HB4.out.size))))
        ·exact Nat.le_trans HIT.out.2.1 (by decide)
        ·exact Nat.le_trans HIT.out.2.2.1 (by decide)
        rintro e w5 ⟨rfl, hb5⟩;rw [HOK.out];have S5 : Below W4.heap.size W4 w5 := hHeld.trans (hb5.mono hHeld.size);show K _ w5;refine hK.out _ _ S5 (fun hHeld5 => ?_);clear hK K hHeld hb5;walk_nrm;refine tk 3 ?_ rfl (fun _ _ _ h=>h) (y:=?_) (h:=?_);rotate_left
        ·intro wS hSw; go_simp<;>with_reducible rfl
        walk_nrm;refine tk 4 ?_ rfl (fun _ _ _ h=>h) (y:=?_) (h:=?_);rotate_left
        ·intro wS hSw; go_simp<;>with_reducible rfl
        walk_nrm;refine tk 5 ?_ rfl (fun _ _ _ h=>h) (y:=?_) (h:=?_);rotate_left
        ·intro wS hSw; go_simp<;>with_reducible rfl
        walk_nrm;refine tk 6 ?_ rfl (fun _ _ _ h=>h) (y:=?_) (h:=?_);rotate_left
        ·intro wS hSw; go_simp<;>with_reducible rfl
        walk_nrm;refine tk 7 ?_ rfl (fun _ _ _ h=>h) (y:=?_) (h:=?_);rotate_left
        ·intro wS hSw; go_simp<;>with_reducible rfl
        walk_nrm;refine tk 8 ?_ rfl (fun _ _ _ h=>h) (y:=?_) (h:=?_);rotate_left
        ·intro wS hSw; go_simp<;>with_reducible rfl
        walk_nrm;refine tk 9 ?_ rfl (fun _ _ _ h=>h) (y:=?_) (h:=?_);rotate_left
        ·intro wS hSw; have q := (hSw.cell (p := ⟨w.heap.size, 8, none⟩) hz04).trans d8; go_simp<;>with_reducible rfl
        walk_nrm;refine tk 10 ?_ rfl (fun _ _ _ h=>h) (y:=?_) (h:=?_);rotate_left
        ·intro wS hSw; go_simp<;>with_reducible rfl
        walk_nrm;refine tk 11 ?_ rfl (fun _ _ _ h=>h) (y:=?_) (h:=?_);rotate_left
        ·intro wS hSw; go_simp<;>with_reducible rfl
        walk_nrm;refine tk 12 ?_ rfl (fun _ _ _ h=>h) (y:=?_) (h:=?_);rotate_left
        ·intro wS hSw; go_simp<;>with_reducible rfl
        walk_nrm;refine tk 13 ?_ rfl (fun _ _ _ h=>h) (y:=?_) (h:=?_);rotate_left
        ·intro wS hSw; go_simp<;>with_reducible rfl
        walk_nrm;refine tk 14 ?_ rfl (fun _ _ _ h=>h) (y:=?_) (h:=?_);rotate_left
        ·intro wS hSw; have q := (hSw.cell (p := ⟨b, o + j * 9, none⟩) hpb).trans hp; go_simp<;>with_reducible rfl
        walk_nrm;refine tk 15 ?_ rfl (fun _ _ _ h=>h) (y:=?_) (h:=?_);rotate_left
        ·intro wS hSw; go_simp<;>with_reducible rfl
        walk_nrm;refine tk 16 ?_ rfl (fun _ _ _ h=>h) (y:=?_) (h:=?_);rotate_left
        ·intro wS hSw; have q := (hSw.cell (p := ⟨wr.heap.size, 0, none⟩) hz5).trans e0; go_simp<;>with_reducible rfl
        walk_nrm;refine tk 17 ?_ rfl (fun _ _ _ h=>h) (y:=?_) (h:=?_);rotate_left
        ·intro wS hSw; go_simp<;>with_reducible rfl
        walk_nrm;refine tk 18 ?_ rfl (fun _ _ _ h=>h) (y:=?_) (h:=?_);rotate_left
        ·intro wS hSw; go_simp<;>with_reducible rfl
        walk_nrm;refine wpAnyL_last rfl (by kernel_rfl) (fun K hK => ?_);go_simp;refine hK.out _ _ ?_;clear hK K;walk_nrm;refine wpAnyL_done (by kernel_rfl) ?_ _
        go_wp2_with fail
        go_meet;refine ⟨?_, S5⟩;rw [HOK.out, HO.out, Bool.true_and, bl_toList, bl_toList]
     case rest =>
      obtain ⟨rfl, hb5⟩ := hcut;have hbx : Below w.heap.size w wc := HB4.out.trans (hb5.mono HB4.out.size);have hSx : SameTo w2.heap.size w2 wc := fun q hq => (hb5.block q (by omega)).trans (hS4 q hq)
      have hzx : w2.heap.size < wc.heap.size := by have := hb5.size; omega
      have HUx : Hid (UsedAt s.items k w2.heap.size wc) := fun q hq => (hb5.cell (p := ⟨w2.heap.size, q, none⟩) hz4).trans (HU4.out q hq)
      have HZx : Hid (∀ j, wc.frozen? ⟨w2.heap.size, j, none⟩ = false) := fun j => (hb5.frozen (p := ⟨w2.heap.size, j, none⟩) hz4).trans (HZ4.out j)
      have RX : Hid (wc.heap[wr.heap.size]? = some (.cells #[.string x.key, .int .i64 x.flags, .int .i64 x.till, .int .i64 x.cas, .int .i64 x.used, .string x.value, .bool x.far, .int .i64 x.place.page, .int .i64 x.place.off] 83 (0, 0))) := (hb5.block _ hz5).trans R1.out;have x3 := hSx.cell hz0 s3;have x8 := hSx.cell hz0 s8;clear hb4 hS4 HU4 HZ4 HB4 d3 d8 e0 hz4 R0 R1 hb5
      cases ht : (itemOK s x && orderOK s k)
      ·
       have HB : Hid (s.ok = false) := items_bad (by
        rw [Bool.and_eq_false_iff] at ht
        rcases ht with h | h
        ·exact item_bad hlt (by rw [← HXX.out]; exact h)
        ·exact order_bad hlt h)
       clear ht
       go_wp2_with fail
       go_ret;exact schk_no HB.out hbx
      ·rw [Bool.and_eq_true] at ht
       have HG2 : Hid (goodTo s (k + 1)) := goodTo_step hlt HGT.out (by rw [← HXX.out]; exact ht.1) ht.2;have HOK := hid ht.1;clear ht HGT;have x6 : wc.cell? ⟨wr.heap.size, 6, none⟩ = some (.bool x.far) := cor RX.out rfl
       cases hfar : x.far
       ·
        obtain ⟨q, hq, hq4⟩ := item_cls HOK.out;have HX2 := hid hfar;have HQ := hid hq;obtain ⟨cn, hcn⟩ : ∃ n, n = countIn (s.items.take k) q := ⟨_, rfl⟩;have hu := HUx.out q hq4;have hz7 := HZx.out q;have hcr := countIn_le (s.items.take k) q;have hlk : (s.items.take k).length ≤ k := List.length_take_le _ _;rw [← hcn] at hu hcr;have HCN := hid hcn;obtain ⟨cn0, cn1⟩ := hcr;have hcn2 : cn ≤ 1000 := by omega
        rw [hfar] at x6;clear hfar hq hcn hlk
        go_wp2_with (refine wpList_load_row rfl 83 _ rfl wr.heap.size rfl _ _ _ _ RX.out Tryz.underlying83 rfl (by kernel_rfl) ?_)
        refine (store_class x _ ?_).mono ?_
        ·exact HC.out.keep (Below.keeps hbx)
        rintro e w6 ⟨rfl, hb6⟩;rw [HQ.out];have hu6 := (hb6.cell (p := ⟨w2.heap.size, q, none⟩) hzx).trans hu;have hz6 := (hb6.frozen (p := ⟨w2.heap.size, q, none⟩) hzx).trans hz7;have hq0 : (0 : Int) ≤ (q : Int) := by omega
        have hq1 : (q : Int) < 4 := by omega
        have hb7 : Below w.heap.size w w6 := hbx.trans (hb6.mono hbx.size);have hS6 : SameTo w2.heap.size w2 w6 := fun j hj => (hb6.block j (by omega)).trans (hSx j hj)
        have hz8 : w2.heap.size < w6.heap.size := by have := hb6.size; omega
        have HU7 : Hid (UsedAt s.items (k + 1) w2.heap.size (w6.setCell ⟨w2.heap.size, q, none⟩ (.int .i64 (cn + 1)))) :=
         used_near hlt (by rw [← HXX.out]; exact HX2.out) (by rw [← HXX.out]; exact HQ.out) hq4 (fun j hj => (hb6.cell (p := ⟨w2.heap.size, j, none⟩) hzx).trans (HUx.out j hj)) cn HCN.out
        have HZ7 : Hid (∀ j, w6.frozen? ⟨w2.heap.size, j, none⟩ = false) := fun j => (hb6.frozen (p := ⟨w2.heap.size, j, none⟩) hzx).trans (HZx.out j)
        clear hb6 hbx hSx hzx hu hz7 HUx HZx RX
        go_wp2_with fail
        go_roundw
        case rel => exact ⟨k + 1, by omega, by go_num, hb7.setCell (by show w.heap.size ≤ w2.heap.size; omega) _, fun j hj => (Below.heap_setCell w6 ⟨w2.heap.size, q, none⟩ _ j (by show j ≠ w2.heap.size; omega)).trans (hS6 j hj), by simpa using hz8, HU7, fun j => frozen_set (HZ7.out j), HG2⟩
        case measure => simp [intOf]; omega
       ·
        have HX2 := hid hfar;have HU2 : Hid (UsedAt s.items (k + 1) w2.heap.size wc) := used_far hlt (by rw [← HXX.out]; exact hfar) HUx.out;rw [hfar] at x6;clear hfar
        go_wp2_with fail
        go_roundw
        case rel => exact ⟨k + 1, by omega, by go_num, hbx, hSx, hzx, HU2, HZx, HG2⟩
        case measure => simp [intOf]; omega
    ·
     have hk2 : k = s.items.length := by omega
     have HGI : Hid (itemsAll s = true) := goodTo_end (by rw [← hk2]; exact HGT.out);have HUL : Hid (UsedAt s.items s.items.length w2.heap.size wr) := by rw [← hk2]; exact HU.out
     have u0 := HUL.out 0 (by omega);have u1 := HUL.out 1 (by omega);have u2' := HUL.out 2 (by omega);have u3 := HUL.out 3 (by omega);rw [List.take_length] at u0 u1 u2' u3;clear HGT HU HZ r8 hk hk2
     have HELD : Hid (∀ k, k < 4 → w2.cell? ⟨w.heap.size, 4 + k, none⟩ = some (.int .i64 (heldAt s k))) := by
      intro k hk;refine HS.out (4 + k) _ (by omega) ?_;have h : k = 0 ∨ k = 1 ∨ k = 2 ∨ k = 3 := by omega
      rcases h with rfl | rfl | rfl | rfl <;> rfl
     go_wp2_with fail
     obtain ⟨wo, rfl⟩ : ∃ wo : World, wo = wr := ⟨_, rfl⟩
     go_loopw [105] (fun i wz => ∃ k : Nat, k ≤ 4 ∧ i = .int .i64 k ∧ Below w.heap.size w wz ∧ SameTo w2.heap.size w2 wz ∧ Hid (∀ j, j < k → fitAt s j = true)) (fun i _ => 4 - (intOf i).toNat)
     case atStart => exact ⟨0, by omega, rfl, hb, hS, fun j hj => absurd hj (Nat.not_lt_zero _)⟩
     case round =>
      clear hb hS r3 hzr u0 u1 u2' u3;obtain ⟨k, hk, rfl, hb, hS, HFT⟩ := hrel;have r3 := hS.cell hz0 s3
      by_cases hk4 : k < 4
      ·
       obtain ⟨x, hx⟩ : ∃ x, x = heldAt s k := ⟨_, rfl⟩;obtain ⟨y, hy⟩ : ∃ y, y = chunkAt k := ⟨_, rfl⟩;obtain ⟨z, hz'⟩ : ∃ z, z = 256 / y := ⟨_, rfl⟩;obtain ⟨v, hv⟩ : ∃ v, v = countIn s.items k := ⟨_, rfl⟩;have hx1 := heldOK_range (HG.out k hk4);have hy1 := chunkAt_range k;have hv1 := countIn_le s.items k;have c4 := hS.cell hz0 (HELD.out k hk4);have cc := Below.keeps hb _ _ (HC.out k hk4);rw [← hx] at c4 hx1;rw [← hy] at cc hy1;rw [← hv] at hv1
       have ik : ∀ w, (Instr.index 22 (.agg #[.int .i64 (countIn s.items 0), .int .i64 (countIn s.items 1), .int .i64 (countIn s.items 2), .int .i64 (countIn s.items 3)]) (.int .i64 k)).run Tryz.prog w = .ok (.int .i64 v) w := fun w => by
        rw [hv]; exact index4 (fun j => countIn s.items (j : Int)) k hk4 w
       have hz1 : 1 ≤ z ∧ z ≤ 8 := by
        rw [hz'];obtain ⟨a1, a2⟩ := hy1
        constructor
        ·exact (Int.le_ediv_iff_mul_le (by omega)).2 (by omega)
        ·have : 256 / y < 9 := (Int.ediv_lt_iff_lt_mul (by omega)).2 (by omega)
         omega
       have HF1 : Hid (fitAt s k = decide (v ≤ x * z)) := by show _ = _; unfold fitAt; rw [← hx, ← hy, ← hz', ← hv]
       obtain ⟨x0, x1⟩ := hx1;obtain ⟨y0, y1⟩ := hy1;obtain ⟨v0, v1⟩ := hv1;obtain ⟨z0, z1⟩ := hz1;have hxz : 0 ≤ x * z ∧ x * z ≤ 320 := ⟨Int.mul_nonneg x0 (by omega), Int.le_trans (Int.mul_le_mul (show x ≤ 40 by omega) z1 (by omega) (by omega)) (by omega)⟩;obtain ⟨m, hm⟩ : ∃ m, m = x * z := ⟨_, rfl⟩;rw [← hm] at hxz HF1;obtain ⟨xz0, xz1⟩ := hxz;have hd1 : Int.tdiv 256 y = z := by rw [hz']; exact Int.tdiv_eq_ediv_of_nonneg (by omega)
       have hd2 : (256 : Int) / y = z := hz'.symm;have hd3 : x * z = m := hm.symm;have hw1 : IntKind.i64.wrap z = z := IntWalk.i64_in _ (by omega);have hw2 : IntKind.i64.wrap m = m := IntWalk.i64_in _ (by omega);clear hx hy hz' hv hm
       by_cases hft : v ≤ m
       ·
        have HFT2 : Hid (∀ j, j < k + 1 → fitAt s j = true) := fun j hj => by
         rcases Nat.lt_or_ge j k with h | h
         ·exact HFT.out j h
         ·obtain rfl : j = k := by omega
          rw [HF1.out, decide_eq_true hft]
        go_wp2_with fail
        go_quiet (fail)
        go_wp2_with fail
        go_roundw
        case rel => exact ⟨k + 1, by omega, by go_num, below_drewN hb _, fun q hq => hS q hq, HFT2⟩
        case measure => simp [intOf]; omega
       ·
        have HB : Hid (s.ok = false) := fit_bad hk4 (by rw [HF1.out, decide_eq_false hft])
        go_wp2_with fail
        go_quiet (fail)
        go_wp2_with fail
        go_ret;exact schk_no HB.out (below_drewN hb _)
      ·
       obtain rfl : k = 4 := by omega
       have HALL : Hid (s.ok = decide (m ≤ s.most)) := by
        show _ = _;rw [ok_parts, HH.out, HHA.out, HGI.out, HFT.out 0 (by omega), HFT.out 1 (by omega), HFT.out 2 (by omega), HFT.out 3 (by omega), HM.out, heldSum_4]; rfl
       by_cases hm : m ≤ s.most
       ·have HB : Hid (s.ok = true) := by show _ = _; rw [HALL.out, decide_eq_true hm]
        go_wp2_with fail
        go_ret;exact schk_yes HB.out hb
       ·have HB : Hid (s.ok = false) := by show _ = _; rw [HALL.out, decide_eq_false hm]
        go_wp2_with fail
        go_ret;exact schk_no HB.out hb
end Go.Proofs.YtbeegfkfpkfccaaGreatDoor.D
