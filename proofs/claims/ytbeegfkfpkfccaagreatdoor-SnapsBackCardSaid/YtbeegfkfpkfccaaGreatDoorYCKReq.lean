/-
 Contracts: keep.key, keep.Request: a request over eight keys, and nothing is wrong with it.
-/
import Derived.Test.YtbeegfkfpkfccaaGreatDoorYCPick
import Derived.Test.YtbeegfkfpkfccaaGreatDoorYCRegB
import Derived.Test.YtbeegfkfpkfccaaGreatDoorYCReq
import Derived.Test.YtbeegfkfpkfccaaGreatDoorYPPlay
namespace Go.Proofs.YtbeegfkfpkfccaaGreatDoor.D
open Go.RowKit
def KeyEnd8 (w : World) (e : Ending) (w' : World) : Prop := ∃ k : ByteArray, e = .returned (.string k) ∧ k ∈ K8 ∧ Below w.heap.size w w'
set_option maxRecDepth 100000 in
theorem key8_is (n : Int) (h0 : -9223372036854775808 ≤ n) (h1 : n ≤ 9223372036854775807) (w : World) : Calls Tryz.prog 21 #[.int .i64 n] w (KeyEnd8 w) := by
 obtain ⟨p, hp⟩ : ∃ p, pick n 8 = p := ⟨_, rfl⟩
 have b1 := pick_lt n 8 (by decide)
 rw [hp] at b1
 have HP := hid hp
 clear hp
 go_enter Tryz.func21, Tryz.ntmps21
 go_wp2_with fail
 refine (picked_at n 8 p HP h0 h1 (by decide) (by decide) _).mono ?_
 rintro e w1 ⟨rfl, rfl⟩
 have hcs : p = 0 ∨ p = 1 ∨ p = 2 ∨ p = 3 ∨ p = 4 ∨ p = 5 ∨ p = 6 ∨ p = 7 := by omega
 rcases hcs with rfl | rfl | rfl | rfl | rfl | rfl | rfl | rfl
 all_goals
  go_wp2_with fail
  go_ret
  exact ⟨_, rfl, by simp [K8], by go_grown⟩
theorem results_cell {fn : Func} {p : Tmp} {ty : TypeId} (h : fn.results = #[.cell p ty]) (tmps : Array Value) (w : World) (g : Nat) (cs : Array Value) (hp : tmps.getD p undef = .pointer (some ⟨g, 0, none⟩)) (hr : (loadVar ty ⟨g, 0, none⟩).run Tryz.prog w = .ok (.agg cs) w) :
  (results fn tmps).run Tryz.prog w = .ok (.agg cs) w := by
 have hp' : tmps[p]?.getD undef = .pointer (some ⟨g, 0, none⟩) := by simpa using hp
 simp [results, h, hp', asAddr, hr]
theorem two_fresh (w : World) (o1 o2 : Obj) : ∃ W, W = (w.alloc o1).alloc o2 ∧ Below w.heap.size w W ∧ W.heap[w.heap.size]? = some o1 ∧ W.heap[w.heap.size + 1]? = some o2 := by
 have s1 : (w.alloc o1).heap.size = w.heap.size + 1 := by simp
 refine ⟨_, rfl, by go_grown, ?_, ?_⟩
 ·rw [Below.heap_alloc _ _ _ (by omega)]; exact blk_new w _
 ·rw [← s1]; exact blk_new _ _
theorem al_off {w : World} {o : Obj} {B i b : Nat} {v : Value} {x : Obj} (h : w.heap[b]? = some x) (hn : b ≠ B) : Hid (((w.setCell ⟨B, i, none⟩ v).alloc o).heap[b]? = some x) := by
 have h2 := (Below.heap_setCell w ⟨B, i, none⟩ v b hn).trans h
 exact (Below.heap_alloc _ _ _ (by have := (blt h2); omega)).trans h2
theorem al_key {w : World} {o : Obj} {B T : Nat} {v : Value} {k : ByteArray} (h : w.heap[B]? = some (.cells #[.int .i64 0, .string k, .slice none 0 0, .int .i64 0, .int .i64 0, .int .i64 0, .string ⟨#[]⟩, .bool false] T (0, 0))) : Hid (((w.setCell ⟨B, 0, none⟩ v).alloc o).heap[B]? = some (.cells #[v, .string k, .slice none 0 0, .int .i64 0, .int .i64 0, .int .i64 0, .string ⟨#[]⟩, .bool false] T (0, 0))) := by
 have h2 : (w.setCell ⟨B, 0, none⟩ v).heap[B]? = some (.cells #[v, .string k, .slice none 0 0, .int .i64 0, .int .i64 0, .int .i64 0, .string ⟨#[]⟩, .bool false] T (0, 0)) := by simp [World.setCell, Array.getElem?_modify, h]
 exact (Below.heap_alloc _ _ _ (by have := (blt h2); omega)).trans h2
def ReqEnd (w : World) (e : Ending) (w' : World) : Prop :=
 ∃ (q : Req) (ka : Option Addr) (kc : Nat), e = .returned (.agg #[.int .i64 q.kind, .string q.key, .slice ka q.keys.length kc, .int .i64 q.flags, .int .i64 q.exp, .int .i64 q.n, .string q.value, .bool q.quiet]) ∧ RowsAt w' ka 1 strR q.keys ∧ Req8 q ∧ Below w.heap.size w w'
theorem reqSize : (Tryz.prog.info? 31).map (·.size) = some 8 := by kernel_rfl
theorem keys_row {w : World} {B T : Nat} {ka kb : ByteArray} {fr : Nat × Nat} (h : w.heap[B]? = some (.cells #[.string ka, .string kb] T fr)) (ha : ka ∈ K8) (hb : kb ∈ K8) : RowsAt w (some ⟨B, 0, none⟩) 1 strR [ka, kb] ∧ RowsAt w (some ⟨B, 0, none⟩) 1 strR [ka] := by
 have sa : ka.size ≤ reachBytes := Nat.le_trans (keyOK_20 (K8_ok _ ha)) (by decide)
 have sb : kb.size ≤ reachBytes := Nat.le_trans (keyOK_20 (K8_ok _ hb)) (by decide)
 refine ⟨.inr ⟨B, 0, rfl, fun i hi => ?_⟩, .inr ⟨B, 0, rfl, fun i hi => ?_⟩⟩
 ·have : i = 0 ∨ i = 1 := by simp at hi; omega
  rcases this with rfl | rfl
  ·refine ⟨[.string ka], rfl, ⟨rfl, sa⟩, fun j v hj => ?_⟩
   rcases j with _ | j
   ·rw [cell_of_row w _ _ _ _ _ h]; exact hj
   ·simp at hj
  ·refine ⟨[.string kb], rfl, ⟨rfl, sb⟩, fun j v hj => ?_⟩
   rcases j with _ | j
   ·rw [cell_of_row w _ _ _ _ _ h]; exact hj
   ·simp at hj
 ·obtain rfl : i = 0 := by simpa using hi
  refine ⟨[.string ka], rfl, ⟨rfl, sa⟩, fun j v hj => ?_⟩
  rcases j with _ | j
  ·rw [cell_of_row w _ _ _ _ _ h]; exact hj
  ·simp at hj
theorem req_one (x y z u : Int) (s r : ByteArray) (q : Bool) (ka : Option Addr) (kc : Nat) {m : Nat} : (#[.int .i64 x, .string s, .slice ka m kc, .int .i64 y, .int .i64 z, .int .i64 u, .string r, .bool q] : Array Value).all (·.oneCell') = true := by simp [Value.oneCell']
abbrev zeroQ : Array Value := #[.int .i64 0, .string ⟨#[]⟩, .slice none 0 0, .int .i64 0, .int .i64 0, .int .i64 0, .string ⟨#[]⟩, .bool false]
abbrev keyQ (k : ByteArray) : Array Value := #[.int .i64 0, .string k, .slice none 0 0, .int .i64 0, .int .i64 0, .int .i64 0, .string ⟨#[]⟩, .bool false]
set_option maxRecDepth 100000 in
set_option maxHeartbeats 2000000 in
theorem request_is (k a b c : Int) (hk : I64 k) (ha : I64 a) (hb : I64 b) (hc : I64 c) (w : World) : Calls Tryz.prog 36 #[.agg #[.int .i64 k, .int .i64 a, .int .i64 b, .int .i64 c]] w (ReqEnd w) := by
 obtain ⟨p, hp⟩ : ∃ p, pick k 20 = p := ⟨_, rfl⟩
 have b1 := pick_lt k 20 (by decide)
 rw [hp] at b1
 have HP := hid hp
 clear hp
 go_enter Tryz.func36, Tryz.ntmps36
 go_wp2_with fail
 refine (key8_is a ha.1 ha.2 _).mono ?_
 rintro e w1 ⟨k1, rfl, hk1, hb1⟩
 obtain ⟨W0, hW0, hb0, r1, r2⟩ := two_fresh w (.cells #[.int .i64 k, .int .i64 a, .int .i64 b, .int .i64 c] 50) (.cells zeroQ 31)
 rw [← hW0] at hb1
 have r11 := (hb1.block _ (blt r1)).trans r1
 have r21 := (hb1.block _ (blt r2)).trans r2
 have HB1 := hid (hb0.trans (hb1.mono hb0.size))
 obtain ⟨B1, hB1⟩ : ∃ B, B = w.heap.size := ⟨_, rfl⟩
 obtain ⟨B2, hB2⟩ : ∃ B, B = w.heap.size + 1 := ⟨_, rfl⟩
 rw [← hB1] at r11
 rw [← hB2] at r21
 have hB2w : w.heap.size ≤ B2 := by omega
 have R1 := hid r11
 have R2 := hid r21
 clear hb0 hb1 r1 r2 hW0 r11 r21
 obtain ⟨W3, hW3⟩ : ∃ W3, W3 = w1.alloc (.cells (keyQ k1) 31) := ⟨_, rfl⟩
 obtain ⟨B3, hB3⟩ : ∃ B, B = w1.heap.size := ⟨_, rfl⟩
 have hb3 := below_new hW3
 have r3 : W3.heap[B3]? = some (.cells (keyQ k1) 31 (0, 0)) := by rw [hW3, hB3]; exact blk_new w1 _
 have hl1 : B1 < w1.heap.size := (blt R1.out)
 have hl2 : B2 < w1.heap.size := (blt R2.out)
 have R13 := hid ((hb3.block _ hl1).trans R1.out)
 have R23 := hid ((hb3.block _ hl2).trans R2.out)
 have R33 := hid r3
 have HB3 := hid (HB1.out.trans (hb3.mono HB1.out.size))
 have n13 : B1 ≠ B3 := by omega
 have n23 : B2 ≠ B3 := by omega
 have n12 : B1 ≠ B2 := by omega
 have hB3w : w.heap.size ≤ B3 := by have := HB1.out.size; omega
 go_upto_region 2 with (fail)
 rw [← hW3, ← hB3, ← hB2, ← hB1]
 clear hW3 hB3 hB1 hB2 hb3 r3 HB1 R1 R2 hl1 hl2
 have x0 : W3.cell? ⟨B1, 0, none⟩ = some (.int .i64 k) := cor R13.out rfl
 have x1 : W3.cell? ⟨B1, 1, none⟩ = some (.int .i64 a) := cor R13.out rfl
 have x2 : W3.cell? ⟨B1, 2, none⟩ = some (.int .i64 b) := cor R13.out rfl
 have x3 : W3.cell? ⟨B1, 3, none⟩ = some (.int .i64 c) := cor R13.out rfl
 go_wp2_with fail
 refine (picked_at k 20 p HP hk.1 hk.2 (by decide) (by decide) _).mono ?_
 rintro e w2 ⟨rfl, rfl⟩
 go_upto_region 6 with (fail)
 --rest
 have z0 : W3.cell? ⟨B3, 0, none⟩ = some (.int .i64 0) := cor R33.out rfl
 have z3 : W3.cell? ⟨B3, 3, none⟩ = some (.int .i64 0) := cor R33.out rfl
 have z4 : W3.cell? ⟨B3, 4, none⟩ = some (.int .i64 0) := cor R33.out rfl
 have z5 : W3.cell? ⟨B3, 5, none⟩ = some (.int .i64 0) := cor R33.out rfl
 have z6 : W3.cell? ⟨B3, 6, none⟩ = some (.string ⟨#[]⟩) := cor R33.out rfl
 have fx : ∀ i, W3.frozen? ⟨B3, i, none⟩ = false := fun v => frozen_of_row W3 _ _ _ _ R33.out
 have hcs : p < 5 ∨ (5 ≤ p ∧ p < 11) ∨ p = 11 ∨ p = 12 ∨ (13 ≤ p ∧ p < 17) ∨ p = 17 ∨ (p = 18 ∧ pick c 6 = 0) ∨ (p = 18 ∧ pick c 6 ≠ 0) ∨ p = 19 := by omega
 rcases hcs with hp5 | hp | rfl | rfl | hp | rfl | ⟨rfl, h6⟩ | ⟨rfl, h6⟩ | rfl
 ·
  obtain ⟨i2, hi2⟩ : ∃ s, pick c 2 = s := ⟨_, rfl⟩
  have bi := pick_lt c 2 (by decide)
  rw [hi2] at bi
  have HI := hid hi2
  clear hi2 z0 z3 z4 z5 z6 fx
  have hi : i2 = 0 ∨ i2 = 1 := by omega
  go_upto_region 7 with (fail)
  rcases hi with rfl | rfl
  ·
   refine wp_region_L (fun w' : World => w'.heap[B1]? = W3.heap[B1]?) 13 14 (by kernel_rfl) (by kernel_rfl) rfl (fun hHeld => ?_)
   refine wpAnyL_take (i := 0) (v := ?_) rfl (by kernel_rfl) (fun _ _ _ h => h) (Or.inl ⟨by rfl, ?_⟩) (by assumption) ?_
   rotate_left
   ·intro wS hSw; go_simp <;> with_reducible rfl
   walk_nrm
   refine wpAnyL_take (i := 1) (v := ?_) rfl (by kernel_rfl) (fun _ _ _ h => h) (Or.inl ⟨by rfl, ?_⟩) (by assumption) ?_
   rotate_left
   ·intro wS hSw; have k2 := (World.cell?_of_block (w := W3) hSw).trans x1; go_simp <;> with_reducible rfl
   walk_nrm
   refine wpAnyL_take (i := 3) (v := ?_) rfl (by kernel_rfl) (fun _ _ _ h => h) (Or.inl ⟨by rfl, ?_⟩) (by assumption) ?_
   rotate_left
   ·intro wS hSw; go_simp <;> with_reducible rfl
   walk_nrm
   refine wpAnyL_take (i := 4) (v := ?_) rfl (by kernel_rfl) (fun _ _ _ h => h) (Or.inl ⟨by rfl, ?_⟩) (by assumption) ?_
   rotate_left
   ·intro wS hSw; have k2 := (World.cell?_of_block (w := W3) hSw).trans x2; go_simp <;> with_reducible rfl
   walk_nrm
   refine wpAnyL_take (i := 7) (v := ?_) rfl (by kernel_rfl) (fun _ _ _ h => h) (Or.inl ⟨by rfl, ?_⟩) (by assumption) ?_
   rotate_left
   ·intro wS hSw; go_simp <;> with_reducible rfl
   walk_nrm
   refine wpAnyL_take (i := 8) (v := ?_) rfl (by kernel_rfl) (fun _ _ _ h => h) (Or.inl ⟨by rfl, ?_⟩) (by assumption) ?_
   rotate_left
   ·intro wS hSw; have k2 := (World.cell?_of_block (w := W3) hSw).trans x3; go_simp <;> with_reducible rfl
   walk_nrm
   obtain ⟨wx, hwx⟩ : ∃ wx, wx = W3.drew := ⟨_, rfl⟩
   rw [← hwx]
   have HS1 : Hid (wx.heap[B1]? = W3.heap[B1]?) := by rw [hwx]; exact rfl
   have RS2 : Hid (wx.heap[B2]? = some (.cells zeroQ 31 (0, 0))) := by rw [hwx]; exact R23
   have HBS : Hid (Below w.heap.size w wx) := by rw [hwx]; exact HB3.out.drew
   have l1 : B1 < wx.heap.size := by rw [hwx]; exact (blt R13.out)
   have l2 : B2 < wx.heap.size := by rw [hwx]; exact (blt R23.out)
   clear hwx R13 R23 R33 HB3 x0 x1 x2 x3
   refine wpAnyL_one 2 (by kernel_rfl) ?_
   refine ComesUp.mk rfl (fun K hK => ?_)
   go_simp
   refine (key8_is a ha.1 ha.2 wx).mono ?_
   rintro e wn ⟨ka, rfl, hka, hbn⟩
   have hs1 : wn.heap[B1]? = W3.heap[B1]? := (hbn.block B1 l1).trans HS1.out
   replace HS1 := hid hs1
   replace RS2 := hid ((hbn.block B2 l2).trans RS2.out)
   replace HBS := hid (HBS.out.trans (hbn.mono HBS.out.size))
   have l1n : B1 < wn.heap.size := by have := hbn.size; omega
   have l2n : B2 < wn.heap.size := by have := hbn.size; omega
   refine hK.out _ _ HS1.out ?_
   clear hK K hHeld hbn l1 l2 hs1
   intro hHeld
   walk_nrm
   clear wx
   obtain ⟨wx, rfl⟩ : ∃ wx : World, wx = wn := ⟨_, rfl⟩
   have l1 := l1n
   have l2 := l2n
   clear l1n l2n
   refine wpAnyL_one 5 (by kernel_rfl) ?_
   refine ComesUp.mk rfl (fun K hK => ?_)
   go_simp
   refine (key8_is b hb.1 hb.2 wx).mono ?_
   rintro e wn ⟨kb, rfl, hkb, hbn⟩
   have hs1 : wn.heap[B1]? = W3.heap[B1]? := (hbn.block B1 l1).trans HS1.out
   replace HS1 := hid hs1
   replace RS2 := hid ((hbn.block B2 l2).trans RS2.out)
   replace HBS := hid (HBS.out.trans (hbn.mono HBS.out.size))
   have l1n : B1 < wn.heap.size := by have := hbn.size; omega
   have l2n : B2 < wn.heap.size := by have := hbn.size; omega
   refine hK.out _ _ HS1.out ?_
   clear hK K hHeld hbn l1 l2 hs1
   intro hHeld
   walk_nrm
   clear wx
   obtain ⟨wx, rfl⟩ : ∃ wx : World, wx = wn := ⟨_, rfl⟩
   have l1 := l1n
   have l2 := l2n
   clear l1n l2n
   refine wpAnyL_call (i := 9) (v := (.int .i64 _)) rfl (by kernel_rfl) (fun _ _ _ h => h) ⟨by rfl, 16, #[.int .i64 c, .int .i64 2], fun wS hSw => ⟨?_, (picked_at c 2 _ HI hc.1 hc.2 (by decide) (by decide) wS).mono (fun _ _ h => ⟨h.1, h.2.symm⟩)⟩⟩ (by assumption) ?_
   ·go_simp
   walk_nrm
   refine wpAnyL_take (i := 10) (v := ?_) rfl (by kernel_rfl) (fun _ _ _ h => h) (Or.inl ⟨by rfl, ?_⟩) (by assumption) ?_
   rotate_left
   ·intro wS hSw; go_simp <;> with_reducible rfl
   walk_nrm
   refine wpAnyL_one 6 (by kernel_rfl) ?_
   refine ComesUp.mk rfl (fun K hK => ?_)
   go_simp
   obtain ⟨wn, hwn⟩ : ∃ wn, wn = wx.alloc (.cells #[.string ka, .string kb] 9) := ⟨_, rfl⟩
   obtain ⟨g, hg⟩ : ∃ g, g = wx.heap.size := ⟨_, rfl⟩
   rw [← hwn, ← hg]
   have hbn := below_new hwn
   have hgB : B2 ≠ g := by omega
   have rg : wn.heap[g]? = some (.cells #[.string ka, .string kb] 9 (0, 0)) := by rw [hwn, hg]; exact blk_new wx _
   replace RS2 := hid ((hbn.block B2 l2).trans RS2.out)
   replace HBS := hid (HBS.out.trans (hbn.mono HBS.out.size))
   refine hK.out _ _ ((hbn.block B1 l1).trans HS1.out) ?_
   clear hK K hHeld hbn hwn hg HS1 l1 l2
   intro hHeld
   walk_nrm
   refine wpAnyL_one 11 (by kernel_rfl) ?_
   refine ComesUp.mk rfl (fun K hK => ?_)
   go_simp
   refine hK.out _ _ hHeld ?_
   clear hK K hHeld
   intro hHeld
   walk_nrm
   refine wpAnyL_take (i := 12) (v := ?_) rfl (by kernel_rfl) (fun _ _ _ h => h) (Or.inl ⟨by rfl, ?_⟩) (by assumption) ?_
   rotate_left
   ·intro wS hSw; go_simp <;> with_reducible rfl
   walk_nrm
   refine wpAnyL_last rfl (by kernel_rfl) (fun K hK => ?_)
   rw [if_pos (by rfl)]
   refine wp_store_row 31 _ _ rfl B2 _ rfl rfl _ _ RS2.out reqSize rfl (req_one _ _ _ _ _ _ _ _ _) ?_
   refine hK.out _ _ ?_
   clear hK K hHeld
   walk_nrm
   refine wpAnyL_done (by kernel_rfl) ?_ _
   go_wp2_with fail
   refine bodyPost_ret (v := .agg #[.int .i64 1, .string ⟨#[]⟩, .slice (some ⟨g, 0, none⟩) 1 2, .int .i64 0, .int .i64 0, .int .i64 0, .string ⟨#[]⟩, .bool false]) (results_cell rfl _ _ B2 _ rfl (run_loadVar_row _ _ _ _ _ _ _ (setRow_heap _ _ _ _ _ _ RS2.out) Tryz.underlying31 rfl reqSize)) rfl ?_
   refine ⟨Req.mk 1 ⟨#[]⟩ [ka] 0 0 0 ⟨#[]⟩ false, some ⟨g, 0, none⟩, 2, rfl, ?_, ⟨fault_get (by simp) (by intro x hx; simp at hx; subst hx; exact K8_ok _ hka), fun h => absurd h.1 (by show ¬ (2 : Int) ≤ 1; omega)⟩, HBS.out.trans (Below.setRow _ B2 _ hB2w)⟩
   exact (keys_row ((setRow_other _ _ _ _ (Ne.symm hgB)).trans rg) hka hkb).2
  ·
   refine wp_region_L (fun w' : World => w'.heap[B1]? = W3.heap[B1]?) 13 14 (by kernel_rfl) (by kernel_rfl) rfl (fun hHeld => ?_)
   refine wpAnyL_take (i := 0) (v := ?_) rfl (by kernel_rfl) (fun _ _ _ h => h) (Or.inl ⟨by rfl, ?_⟩) (by assumption) ?_
   rotate_left
   ·intro wS hSw; go_simp <;> with_reducible rfl
   walk_nrm
   refine wpAnyL_take (i := 1) (v := ?_) rfl (by kernel_rfl) (fun _ _ _ h => h) (Or.inl ⟨by rfl, ?_⟩) (by assumption) ?_
   rotate_left
   ·intro wS hSw; have k2 := (World.cell?_of_block (w := W3) hSw).trans x1; go_simp <;> with_reducible rfl
   walk_nrm
   refine wpAnyL_take (i := 3) (v := ?_) rfl (by kernel_rfl) (fun _ _ _ h => h) (Or.inl ⟨by rfl, ?_⟩) (by assumption) ?_
   rotate_left
   ·intro wS hSw; go_simp <;> with_reducible rfl
   walk_nrm
   refine wpAnyL_take (i := 4) (v := ?_) rfl (by kernel_rfl) (fun _ _ _ h => h) (Or.inl ⟨by rfl, ?_⟩) (by assumption) ?_
   rotate_left
   ·intro wS hSw; have k2 := (World.cell?_of_block (w := W3) hSw).trans x2; go_simp <;> with_reducible rfl
   walk_nrm
   refine wpAnyL_take (i := 7) (v := ?_) rfl (by kernel_rfl) (fun _ _ _ h => h) (Or.inl ⟨by rfl, ?_⟩) (by assumption) ?_
   rotate_left
   ·intro wS hSw; go_simp <;> with_reducible rfl
   walk_nrm
   refine wpAnyL_take (i := 8) (v := ?_) rfl (by kernel_rfl) (fun _ _ _ h => h) (Or.inl ⟨by rfl, ?_⟩) (by assumption) ?_
   rotate_left
   ·intro wS hSw; have k2 := (World.cell?_of_block (w := W3) hSw).trans x3; go_simp <;> with_reducible rfl
   walk_nrm
   obtain ⟨wx, hwx⟩ : ∃ wx, wx = W3.drew := ⟨_, rfl⟩
   rw [← hwx]
   have HS1 : Hid (wx.heap[B1]? = W3.heap[B1]?) := by rw [hwx]; exact rfl
   have RS2 : Hid (wx.heap[B2]? = some (.cells zeroQ 31 (0, 0))) := by rw [hwx]; exact R23
   have HBS : Hid (Below w.heap.size w wx) := by rw [hwx]; exact HB3.out.drew
   have l1 : B1 < wx.heap.size := by rw [hwx]; exact (blt R13.out)
   have l2 : B2 < wx.heap.size := by rw [hwx]; exact (blt R23.out)
   clear hwx R13 R23 R33 HB3 x0 x1 x2 x3
   refine wpAnyL_one 2 (by kernel_rfl) ?_
   refine ComesUp.mk rfl (fun K hK => ?_)
   go_simp
   refine (key8_is a ha.1 ha.2 wx).mono ?_
   rintro e wn ⟨ka, rfl, hka, hbn⟩
   have hs1 : wn.heap[B1]? = W3.heap[B1]? := (hbn.block B1 l1).trans HS1.out
   replace HS1 := hid hs1
   replace RS2 := hid ((hbn.block B2 l2).trans RS2.out)
   replace HBS := hid (HBS.out.trans (hbn.mono HBS.out.size))
   have l1n : B1 < wn.heap.size := by have := hbn.size; omega
   have l2n : B2 < wn.heap.size := by have := hbn.size; omega
   refine hK.out _ _ HS1.out ?_
   clear hK K hHeld hbn l1 l2 hs1
   intro hHeld
   walk_nrm
   clear wx
   obtain ⟨wx, rfl⟩ : ∃ wx : World, wx = wn := ⟨_, rfl⟩
   have l1 := l1n
   have l2 := l2n
   clear l1n l2n
   refine wpAnyL_one 5 (by kernel_rfl) ?_
   refine ComesUp.mk rfl (fun K hK => ?_)
   go_simp
   refine (key8_is b hb.1 hb.2 wx).mono ?_
   rintro e wn ⟨kb, rfl, hkb, hbn⟩
   have hs1 : wn.heap[B1]? = W3.heap[B1]? := (hbn.block B1 l1).trans HS1.out
   replace HS1 := hid hs1
   replace RS2 := hid ((hbn.block B2 l2).trans RS2.out)
   replace HBS := hid (HBS.out.trans (hbn.mono HBS.out.size))
   have l1n : B1 < wn.heap.size := by have := hbn.size; omega
   have l2n : B2 < wn.heap.size := by have := hbn.size; omega
   refine hK.out _ _ HS1.out ?_
   clear hK K hHeld hbn l1 l2 hs1
   intro hHeld
   walk_nrm
   clear wx
   obtain ⟨wx, rfl⟩ : ∃ wx : World, wx = wn := ⟨_, rfl⟩
   have l1 := l1n
   have l2 := l2n
   clear l1n l2n
   refine wpAnyL_call (i := 9) (v := (.int .i64 _)) rfl (by kernel_rfl) (fun _ _ _ h => h) ⟨by rfl, 16, #[.int .i64 c, .int .i64 2], fun wS hSw => ⟨?_, (picked_at c 2 _ HI hc.1 hc.2 (by decide) (by decide) wS).mono (fun _ _ h => ⟨h.1, h.2.symm⟩)⟩⟩ (by assumption) ?_
   ·go_simp
   walk_nrm
   refine wpAnyL_take (i := 10) (v := ?_) rfl (by kernel_rfl) (fun _ _ _ h => h) (Or.inl ⟨by rfl, ?_⟩) (by assumption) ?_
   rotate_left
   ·intro wS hSw; go_simp <;> with_reducible rfl
   walk_nrm
   refine wpAnyL_one 6 (by kernel_rfl) ?_
   refine ComesUp.mk rfl (fun K hK => ?_)
   go_simp
   obtain ⟨wn, hwn⟩ : ∃ wn, wn = wx.alloc (.cells #[.string ka, .string kb] 9) := ⟨_, rfl⟩
   obtain ⟨g, hg⟩ : ∃ g, g = wx.heap.size := ⟨_, rfl⟩
   rw [← hwn, ← hg]
   have hbn := below_new hwn
   have hgB : B2 ≠ g := by omega
   have rg : wn.heap[g]? = some (.cells #[.string ka, .string kb] 9 (0, 0)) := by rw [hwn, hg]; exact blk_new wx _
   replace RS2 := hid ((hbn.block B2 l2).trans RS2.out)
   replace HBS := hid (HBS.out.trans (hbn.mono HBS.out.size))
   refine hK.out _ _ ((hbn.block B1 l1).trans HS1.out) ?_
   clear hK K hHeld hbn hwn hg HS1 l1 l2
   intro hHeld
   walk_nrm
   refine wpAnyL_one 11 (by kernel_rfl) ?_
   refine ComesUp.mk rfl (fun K hK => ?_)
   go_simp
   refine hK.out _ _ hHeld ?_
   clear hK K hHeld
   intro hHeld
   walk_nrm
   refine wpAnyL_take (i := 12) (v := ?_) rfl (by kernel_rfl) (fun _ _ _ h => h) (Or.inl ⟨by rfl, ?_⟩) (by assumption) ?_
   rotate_left
   ·intro wS hSw; go_simp <;> with_reducible rfl
   walk_nrm
   refine wpAnyL_last rfl (by kernel_rfl) (fun K hK => ?_)
   rw [if_pos (by rfl)]
   refine wp_store_row 31 _ _ rfl B2 _ rfl rfl _ _ RS2.out reqSize rfl (req_one _ _ _ _ _ _ _ _ _) ?_
   refine hK.out _ _ ?_
   clear hK K hHeld
   walk_nrm
   refine wpAnyL_done (by kernel_rfl) ?_ _
   go_wp2_with fail
   refine bodyPost_ret (v := .agg #[.int .i64 1, .string ⟨#[]⟩, .slice (some ⟨g, 0, none⟩) 2 2, .int .i64 0, .int .i64 0, .int .i64 0, .string ⟨#[]⟩, .bool false]) (results_cell rfl _ _ B2 _ rfl (run_loadVar_row _ _ _ _ _ _ _ (setRow_heap _ _ _ _ _ _ RS2.out) Tryz.underlying31 rfl reqSize)) rfl ?_
   refine ⟨Req.mk 1 ⟨#[]⟩ [ka, kb] 0 0 0 ⟨#[]⟩ false, some ⟨g, 0, none⟩, 2, rfl, ?_, ⟨fault_get (by simp) (by intro x hx; simp at hx; rcases hx with rfl | rfl; exact K8_ok _ hka; exact K8_ok _ hkb), fun h => absurd h.1 (by show ¬ (2 : Int) ≤ 1; omega)⟩, HBS.out.trans (Below.setRow _ B2 _ hB2w)⟩
   exact (keys_row ((setRow_other _ _ _ _ (Ne.symm hgB)).trans rg) hka hkb).1
 ·
  obtain ⟨s7, hs7⟩ : ∃ s, pick c 7 = s := ⟨_, rfl⟩
  have b7 := pick_lt c 7 (by decide)
  rw [hs7] at b7
  have HS7 := hid hs7
  have f1 : ¬ p < 5 := by omega
  have f2 : p < 11 := by omega
  have l1 : B1 < W3.heap.size := (blt R13.out)
  have l2 : B2 < W3.heap.size := (blt R23.out)
  have l3 : B3 < W3.heap.size := (blt R33.out)
  clear hs7
  go_upto_region 9 with (fail)
  go_cut [49] (fun v49 wx => ∃ kd, v49 = .int .i64 kd ∧ (2 ≤ kd ∧ kd ≤ 6) ∧ Hid (wx.heap[B3]? = some (.cells #[.int .i64 kd, .string k1, .slice none 0 0, .int .i64 0, .int .i64 0, .int .i64 0, .string ⟨#[]⟩, .bool false] 31 (0, 0))) ∧ Hid (wx.heap[B1]? = some (.cells #[.int .i64 k, .int .i64 a, .int .i64 b, .int .i64 c] 50 (0, 0))) ∧ Hid (wx.heap[B2]? = some (.cells zeroQ 31 (0, 0))) ∧ Hid (Below w.heap.size w wx))
  case first =>
   go_wp2_with fail
   refine (picked_at c 7 s7 HS7 hc.1 hc.2 (by decide) (by decide) _).mono ?_
   rintro e wd ⟨rfl, rfl⟩
   have hcs7 : s7 = 0 ∨ s7 = 1 ∨ s7 = 2 ∨ s7 = 3 ∨ s7 = 4 ∨ s7 = 5 ∨ s7 = 6 := by omega
   rcases hcs7 with rfl | rfl | rfl | rfl | rfl | rfl | rfl
   all_goals
    go_wp2_with fail
    go_meet
    exact ⟨_, rfl, by omega, al_key R33.out, al_off R13.out n13, al_off R23.out n23, (HB3.out.setCell (p := ⟨B3, 0, none⟩) hB3w _).alloc (by simpa using HB3.out.size) _⟩
  case rest =>
   obtain ⟨kd, rfl, hkd, RS, RS1, RS2, HBS⟩ := hcut
   clear R13 R23 R33 HB3 x0 x1 x2 x3 z0 z3 z4 z5 z6 fx HS7 b7 l1 l2 l3
   obtain ⟨f9, hf9⟩ : ∃ s, pick c 9 = s := ⟨_, rfl⟩
   have b9 := pick_lt c 9 (by decide)
   rw [hf9] at b9
   have HF9 := hid hf9
   obtain ⟨e8, he8⟩ : ∃ s, pick b 8 = s := ⟨_, rfl⟩
   have b8 := pick_lt b 8 (by decide)
   rw [he8] at b8
   have HE8 := hid he8
   obtain ⟨e30, he30⟩ : ∃ s, pick c 30 = s := ⟨_, rfl⟩
   have b30 := pick_lt c 30 (by decide)
   rw [he30] at b30
   have HE30 := hid he30
   obtain ⟨d5, hd5⟩ : ∃ d, e8.tdiv 5 = d := ⟨_, rfl⟩
   have hd01 : d5 = 0 ∨ d5 = 1 := by rw [Int.tdiv_eq_ediv_of_nonneg b8.1] at hd5; omega
   obtain ⟨E, hE⟩ : ∃ E, d5 * e30 = E := ⟨_, rfl⟩
   have hE30 : 0 ≤ E ∧ E ≤ 29 := by rcases hd01 with h | h <;> rw [h] at hE <;> omega
   have w5' : IntKind.i64.wrap d5 = d5 := IntWalk.i64_in _ ⟨by omega, by omega⟩
   have wE : wrap64 E = E := IntWalk.wrap64_in _ ⟨by omega, by omega⟩
   have y1 : wc.cell? ⟨B1, 1, none⟩ = some (.int .i64 a) := cor RS1.out rfl
   have y2 : wc.cell? ⟨B1, 2, none⟩ = some (.int .i64 b) := cor RS1.out rfl
   have y3 : wc.cell? ⟨B1, 3, none⟩ = some (.int .i64 c) := cor RS1.out rfl
   clear hf9 he8 he30 hd01
   go_upto_region 10 with (fail)
   refine wp_region_L (fun w' : World => w'.heap[B1]? = wc.heap[B1]?) 19 20 (by kernel_rfl) (by kernel_rfl) rfl (fun hHeld => ?_)
   refine wpAnyL_take (i := 0) (v := ?_) rfl (by kernel_rfl) (fun _ _ _ h => h) (Or.inl ⟨by rfl, ?_⟩) (by assumption) ?_
   rotate_left
   ·intro wS hSw; go_simp <;> with_reducible rfl
   walk_nrm
   refine wpAnyL_take (i := 1) (v := ?_) rfl (by kernel_rfl) (fun _ _ _ h => h) (Or.inl ⟨by rfl, ?_⟩) (by assumption) ?_
   rotate_left
   ·intro wS hSw; have k2 := (World.cell?_of_block (w := wc) hSw).trans y3; go_simp <;> with_reducible rfl
   walk_nrm
   refine wpAnyL_call (i := 2) (v := (.int .i64 f9)) rfl (by kernel_rfl) (fun _ _ _ h => h) ⟨by rfl, 16, #[.int .i64 c, .int .i64 9], fun wS hSw => ⟨?_, (picked_at c 9 _ HF9 hc.1 hc.2 (by decide) (by decide) wS).mono (fun _ _ h => ⟨h.1, h.2.symm⟩)⟩⟩ (by assumption) ?_
   ·go_simp
   walk_nrm
   refine wpAnyL_take (i := 3) (v := ?_) rfl (by kernel_rfl) (fun _ _ _ h => h) (Or.inl ⟨by rfl, ?_⟩) (by assumption) ?_
   rotate_left
   ·intro wS hSw; go_simp <;> with_reducible rfl
   walk_nrm
   refine wpAnyL_take (i := 4) (v := ?_) rfl (by kernel_rfl) (fun _ _ _ h => h) (Or.inl ⟨by rfl, ?_⟩) (by assumption) ?_
   rotate_left
   ·intro wS hSw; have k2 := (World.cell?_of_block (w := wc) hSw).trans y2; go_simp <;> with_reducible rfl
   walk_nrm
   refine wpAnyL_call (i := 5) (v := (.int .i64 e8)) rfl (by kernel_rfl) (fun _ _ _ h => h) ⟨by rfl, 16, #[.int .i64 b, .int .i64 8], fun wS hSw => ⟨?_, (picked_at b 8 _ HE8 hb.1 hb.2 (by decide) (by decide) wS).mono (fun _ _ h => ⟨h.1, h.2.symm⟩)⟩⟩ (by assumption) ?_
   ·go_simp
   walk_nrm
   refine wpAnyL_take (i := 6) (v := ?_) rfl (by kernel_rfl) (fun _ _ _ h => h) (Or.inl ⟨by rfl, ?_⟩) (by assumption) ?_
   rotate_left
   ·intro wS hSw; go_simp <;> with_reducible rfl
   walk_nrm
   refine wpAnyL_take (i := 7) (v := ?_) rfl (by kernel_rfl) (fun _ _ _ h => h) (Or.inl ⟨by rfl, ?_⟩) (by assumption) ?_
   rotate_left
   ·intro wS hSw; go_simp <;> with_reducible rfl
   walk_nrm
   refine wpAnyL_take (i := 8) (v := ?_) rfl (by kernel_rfl) (fun _ _ _ h => h) (Or.inl ⟨by rfl, ?_⟩) (by assumption) ?_
   rotate_left
   ·intro wS hSw; have k2 := (World.cell?_of_block (w := wc) hSw).trans y3; go_simp <;> with_reducible rfl
   walk_nrm
   refine wpAnyL_call (i := 9) (v := (.int .i64 e30)) rfl (by kernel_rfl) (fun _ _ _ h => h) ⟨by rfl, 16, #[.int .i64 c, .int .i64 30], fun wS hSw => ⟨?_, (picked_at c 30 _ HE30 hc.1 hc.2 (by decide) (by decide) wS).mono (fun _ _ h => ⟨h.1, h.2.symm⟩)⟩⟩ (by assumption) ?_
   ·go_simp
   walk_nrm
   refine wpAnyL_take (i := 10) (v := ?_) rfl (by kernel_rfl) (fun _ _ _ h => h) (Or.inl ⟨by rfl, ?_⟩) (by assumption) ?_
   rotate_left
   ·intro wS hSw; go_simp <;> with_reducible rfl
   walk_nrm
   refine wpAnyL_take (i := 11) (v := ?_) rfl (by kernel_rfl) (fun _ _ _ h => h) (Or.inl ⟨by rfl, ?_⟩) (by assumption) ?_
   rotate_left
   ·intro wS hSw; go_simp <;> with_reducible rfl
   walk_nrm
   refine wpAnyL_take (i := 12) (v := ?_) rfl (by kernel_rfl) (fun _ _ _ h => h) (Or.inl ⟨by rfl, ?_⟩) (by assumption) ?_
   rotate_left
   ·intro wS hSw; have k2 := (World.cell?_of_block (w := wc) hSw).trans y2; go_simp <;> with_reducible rfl
   walk_nrm
   obtain ⟨wx, hwx⟩ : ∃ wx, wx = wc.drew := ⟨_, rfl⟩
   rw [← hwx]
   have HS1 : Hid (wx.heap[B1]? = wc.heap[B1]?) := by rw [hwx]; exact rfl
   replace RS : Hid (wx.heap[B3]? = some (.cells #[.int .i64 kd, .string k1, .slice none 0 0, .int .i64 0, .int .i64 0, .int .i64 0, .string ⟨#[]⟩, .bool false] 31 (0, 0))) := by rw [hwx]; exact RS
   replace RS1 : Hid (wx.heap[B1]? = some (.cells #[.int .i64 k, .int .i64 a, .int .i64 b, .int .i64 c] 50 (0, 0))) := by rw [hwx]; exact RS1
   replace RS2 : Hid (wx.heap[B2]? = some (.cells zeroQ 31 (0, 0))) := by rw [hwx]; exact RS2
   replace HBS : Hid (Below w.heap.size w wx) := by rw [hwx]; exact HBS.out.drew
   clear hwx y1 y2 y3
   refine wpAnyL_take (i := 14) (v := ?_) rfl (by kernel_rfl) (fun _ _ _ h => h) (Or.inl ⟨by rfl, ?_⟩) (by assumption) ?_
   rotate_left
   ·intro wS hSw; go_simp <;> with_reducible rfl
   walk_nrm
   refine wpAnyL_one 13 (by kernel_rfl) ?_
   refine ComesUp.mk rfl (fun K hK => ?_)
   go_simp
   refine (value_is b hb.1 hb.2 wx).mono ?_
   rintro e w5 ⟨v, rfl, hv, hb5⟩
   have hs1 : w5.heap[B1]? = wc.heap[B1]? := (hb5.block B1 (blt RS1.out)).trans HS1.out
   replace RS := hid ((hb5.block _ (blt RS.out)).trans RS.out)
   replace RS1 := hid ((hb5.block _ (blt RS1.out)).trans RS1.out)
   replace RS2 := hid ((hb5.block _ (blt RS2.out)).trans RS2.out)
   replace HBS := hid (HBS.out.trans (hb5.mono HBS.out.size))
   refine hK.out _ _ hs1 ?_
   clear hK K hHeld hb5 hs1 HS1
   intro hHeld
   walk_nrm
   have fz : ∀ i, w5.frozen? ⟨B3, i, none⟩ = false := fun v => frozen_of_row w5 _ _ _ _ RS.out
   have t6 : w5.cell? ⟨B3, 6, none⟩ = some (.string ⟨#[]⟩) := cor RS.out rfl
   have t0 : w5.cell? ⟨B3, 3, none⟩ = some (.int .i64 0) := cor RS.out rfl
   have t4 : w5.cell? ⟨B3, 4, none⟩ = some (.int .i64 0) := cor RS.out rfl
   refine wpAnyL_one 15 (by kernel_rfl) ?_
   refine ComesUp.mk rfl (fun K hK => ?_)
   go_simp
   refine hK.out _ _ ((Below.heap_setCell _ ⟨B3, 3, none⟩ _ _ n13).trans hHeld) ?_
   clear hK K hHeld
   intro hHeld
   walk_nrm
   refine wpAnyL_take (i := 16) (v := ?_) rfl (by kernel_rfl) (fun _ _ _ h => h) (Or.inl ⟨by rfl, ?_⟩) (by assumption) ?_
   rotate_left
   ·intro wS hSw; go_simp <;> with_reducible rfl
   walk_nrm
   refine wpAnyL_one 17 (by kernel_rfl) ?_
   refine ComesUp.mk rfl (fun K hK => ?_)
   go_simp
   refine hK.out _ _ ((Below.heap_setCell _ ⟨B3, 4, none⟩ _ _ n13).trans hHeld) ?_
   clear hK K hHeld
   intro hHeld
   walk_nrm
   refine wpAnyL_take (i := 18) (v := ?_) rfl (by kernel_rfl) (fun _ _ _ h => h) (Or.inl ⟨by rfl, ?_⟩) (by assumption) ?_
   rotate_left
   ·intro wS hSw; go_simp <;> with_reducible rfl
   walk_nrm
   refine wpAnyL_last rfl (by kernel_rfl) (fun K hK => ?_)
   go_simp
   refine hK.out _ _ ?_
   clear hK K hHeld
   walk_nrm
   refine wpAnyL_done (by kernel_rfl) ?_ _
   by_cases hs : v.size ≤ 200
   ·
    go_upto_region 23 with (fail)
    obtain ⟨WZ, hWZ⟩ : ∃ W, W = (((w5.setCell ⟨B3, 3, none⟩ (.int .i64 f9)).setCell ⟨B3, 4, none⟩ (.int .i64 E)).setCell ⟨B3, 6, none⟩ (.string v)) := ⟨_, rfl⟩
    have RZ : Hid (WZ.heap[B3]? = some (.cells #[.int .i64 kd, .string k1, .slice none 0 0, .int .i64 f9, .int .i64 E, .int .i64 0, .string v, .bool false] 31 (0, 0))) := by show _ = _; rw [hWZ]; simp [World.setCell, Array.getElem?_modify, RS.out]
    have RZ1 : Hid (WZ.heap[B1]? = some (.cells #[.int .i64 k, .int .i64 a, .int .i64 b, .int .i64 c] 50 (0, 0))) := by show _ = _; rw [hWZ]; simp [World.setCell, Array.getElem?_modify, RS1.out, Ne.symm n13]
    have RZ2 : Hid (WZ.heap[B2]? = some (.cells zeroQ 31 (0, 0))) := by show _ = _; rw [hWZ]; simp [World.setCell, Array.getElem?_modify, RS2.out, Ne.symm n23]
    have HBZ : Hid (Below w.heap.size w WZ) := by rw [hWZ]; exact (((HBS.out.setCell (p := ⟨B3, 3, none⟩) hB3w _).setCell (p := ⟨B3, 4, none⟩) hB3w _).setCell (p := ⟨B3, 6, none⟩) hB3w _)
    rw [← hWZ]
    clear hWZ RS RS1 RS2 HBS t0 t4 t6 fz
    have y2 : WZ.cell? ⟨B1, 2, none⟩ = some (.int .i64 b) := cor RZ1.out rfl
    have y7 : WZ.cell? ⟨B3, 7, none⟩ = some (.bool false) := cor RZ.out rfl
    obtain ⟨q7, hq7⟩ : ∃ q7, pick b 7 = q7 := ⟨_, rfl⟩
    have HQ7 := hid hq7
    clear hq7
    have f7 : ∀ v, WZ.frozen? ⟨B3, v, none⟩ = false := fun v => frozen_of_row WZ _ _ _ _ RZ.out
    go_wp2_with fail
    refine (picked_at b 7 q7 HQ7 hb.1 hb.2 (by decide) (by decide) _).mono ?_
    rintro e wd ⟨rfl, rfl⟩
    obtain ⟨qt, hqt⟩ : ∃ qt, (q7 == (0 : Int)) = qt := ⟨_, rfl⟩
    go_upto_region 24 with (fail)
    obtain ⟨WY, hWY⟩ : ∃ W, W = WZ.setCell ⟨B3, 7, none⟩ (.bool qt) := ⟨_, rfl⟩
    have RY : Hid (WY.heap[B3]? = some (.cells #[.int .i64 kd, .string k1, .slice none 0 0, .int .i64 f9, .int .i64 E, .int .i64 0, .string v, .bool qt] 31 (0, 0))) := by show _ = _; rw [hWY]; simp [World.setCell, Array.getElem?_modify, RZ.out]
    have RY2 : Hid (WY.heap[B2]? = some (.cells zeroQ 31 (0, 0))) := by show _ = _; rw [hWY]; simp [World.setCell, Array.getElem?_modify, RZ2.out, Ne.symm n23]
    have HBY : Hid (Below w.heap.size w WY) := by rw [hWY]; exact HBZ.out.setCell (p := ⟨B3, 7, none⟩) hB3w _
    rw [← hWY]
    clear hWY RZ RZ1 RZ2 HBZ hqt
    go_wp2_with (first
     | refine wpList_load_row rfl 31 _ rfl B3 rfl _ _ _ _ RY.out Tryz.underlying31 rfl (by kernel_rfl) ?_
     | refine wpList_store_row rfl 31 _ _ rfl B2 _ rfl rfl _ _ RY2.out reqSize rfl (req_one _ _ _ _ _ _ _ _ _) ?_)
    refine bodyPost_ret (v := .agg #[.int .i64 kd, .string k1, .slice none 0 0, .int .i64 f9, .int .i64 E, .int .i64 0, .string v, .bool qt]) (results_cell rfl _ _ B2 _ rfl (run_loadVar_row _ _ _ _ _ _ _ (setRow_heap WY _ _ _ _ _ RY2.out) Tryz.underlying31 rfl reqSize)) rfl ?_
    exact ⟨Req.mk kd k1 [] f9 E 0 v qt, none, 0, rfl, RowsAt.nil _ _ _ _, ⟨fault_quiet (r := Req.mk kd k1 [] f9 E 0 v false) (fault_put (k := kd) (v := v) (fl := f9) (exp := E) (n := 0) (by omega) (K8_ok _ hk1) (by omega) (by omega) (by omega) (.inr rfl) (by omega)) ⟨by show (kd : Int) ≠ 1; omega, by show (kd : Int) ≠ 13; omega⟩ qt, fun _ => hk1⟩, HBY.out.trans (Below.setRow _ B2 _ hB2w)⟩
   ·
    have hs2 : ¬ (v.size : Int) ≤ 200 := by omega
    go_upto_region 23 with (fail)
    obtain ⟨u, hu⟩ : ∃ u, u = v.extract 0 200 := ⟨_, rfl⟩
    rw [← hu]
    have hus : u.size ≤ 200 := by rw [hu, ByteArray.size_extract]; omega
    clear hu
    obtain ⟨WZ, hWZ⟩ : ∃ W, W = ((((w5.setCell ⟨B3, 3, none⟩ (.int .i64 f9)).setCell ⟨B3, 4, none⟩ (.int .i64 E)).setCell ⟨B3, 6, none⟩ (.string v)).setCell ⟨B3, 6, none⟩ (.string u)) := ⟨_, rfl⟩
    have RZ : Hid (WZ.heap[B3]? = some (.cells #[.int .i64 kd, .string k1, .slice none 0 0, .int .i64 f9, .int .i64 E, .int .i64 0, .string u, .bool false] 31 (0, 0))) := by show _ = _; rw [hWZ]; simp [World.setCell, Array.getElem?_modify, RS.out]
    have RZ1 : Hid (WZ.heap[B1]? = some (.cells #[.int .i64 k, .int .i64 a, .int .i64 b, .int .i64 c] 50 (0, 0))) := by show _ = _; rw [hWZ]; simp [World.setCell, Array.getElem?_modify, RS1.out, Ne.symm n13]
    have RZ2 : Hid (WZ.heap[B2]? = some (.cells zeroQ 31 (0, 0))) := by show _ = _; rw [hWZ]; simp [World.setCell, Array.getElem?_modify, RS2.out, Ne.symm n23]
    have HBZ : Hid (Below w.heap.size w WZ) := by rw [hWZ]; exact ((((HBS.out.setCell (p := ⟨B3, 3, none⟩) hB3w _).setCell (p := ⟨B3, 4, none⟩) hB3w _).setCell (p := ⟨B3, 6, none⟩) hB3w _).setCell (p := ⟨B3, 6, none⟩) hB3w _)
    rw [← hWZ]
    clear hWZ RS RS1 RS2 HBS t0 t4 t6 fz
    have y2 : WZ.cell? ⟨B1, 2, none⟩ = some (.int .i64 b) := cor RZ1.out rfl
    have y7 : WZ.cell? ⟨B3, 7, none⟩ = some (.bool false) := cor RZ.out rfl
    obtain ⟨q7, hq7⟩ : ∃ q7, pick b 7 = q7 := ⟨_, rfl⟩
    have HQ7 := hid hq7
    clear hq7
    have f7 : ∀ v, WZ.frozen? ⟨B3, v, none⟩ = false := fun v => frozen_of_row WZ _ _ _ _ RZ.out
    go_wp2_with fail
    refine (picked_at b 7 q7 HQ7 hb.1 hb.2 (by decide) (by decide) _).mono ?_
    rintro e wd ⟨rfl, rfl⟩
    obtain ⟨qt, hqt⟩ : ∃ qt, (q7 == (0 : Int)) = qt := ⟨_, rfl⟩
    go_upto_region 24 with (fail)
    obtain ⟨WY, hWY⟩ : ∃ W, W = WZ.setCell ⟨B3, 7, none⟩ (.bool qt) := ⟨_, rfl⟩
    have RY : Hid (WY.heap[B3]? = some (.cells #[.int .i64 kd, .string k1, .slice none 0 0, .int .i64 f9, .int .i64 E, .int .i64 0, .string u, .bool qt] 31 (0, 0))) := by show _ = _; rw [hWY]; simp [World.setCell, Array.getElem?_modify, RZ.out]
    have RY2 : Hid (WY.heap[B2]? = some (.cells zeroQ 31 (0, 0))) := by show _ = _; rw [hWY]; simp [World.setCell, Array.getElem?_modify, RZ2.out, Ne.symm n23]
    have HBY : Hid (Below w.heap.size w WY) := by rw [hWY]; exact HBZ.out.setCell (p := ⟨B3, 7, none⟩) hB3w _
    rw [← hWY]
    clear hWY RZ RZ1 RZ2 HBZ hqt
    go_wp2_with (first
     | refine wpList_load_row rfl 31 _ rfl B3 rfl _ _ _ _ RY.out Tryz.underlying31 rfl (by kernel_rfl) ?_
     | refine wpList_store_row rfl 31 _ _ rfl B2 _ rfl rfl _ _ RY2.out reqSize rfl (req_one _ _ _ _ _ _ _ _ _) ?_)
    refine bodyPost_ret (v := .agg #[.int .i64 kd, .string k1, .slice none 0 0, .int .i64 f9, .int .i64 E, .int .i64 0, .string u, .bool qt]) (results_cell rfl _ _ B2 _ rfl (run_loadVar_row _ _ _ _ _ _ _ (setRow_heap WY _ _ _ _ _ RY2.out) Tryz.underlying31 rfl reqSize)) rfl ?_
    exact ⟨Req.mk kd k1 [] f9 E 0 u qt, none, 0, rfl, RowsAt.nil _ _ _ _, ⟨fault_quiet (r := Req.mk kd k1 [] f9 E 0 u false) (fault_put (k := kd) (v := u) (fl := f9) (exp := E) (n := 0) (by omega) (K8_ok _ hk1) (by omega) (by omega) (by omega) (.inr rfl) (by omega)) ⟨by show (kd : Int) ≠ 1; omega, by show (kd : Int) ≠ 13; omega⟩ qt, fun _ => hk1⟩, HBY.out.trans (Below.setRow _ B2 _ hB2w)⟩
 ·
  obtain ⟨m, hm⟩ : ∃ m, pick c 20 = m := ⟨_, rfl⟩
  have hm2 := pick_lt c 20 (by decide)
  rw [hm] at hm2
  have HM := hid hm
  clear hm
  have RS := R33
  have RS1 := R13
  have RS2 := R23
  have HBS := HB3
  clear R33 R13 R23 HB3
  go_wp2_with fail
  refine (picked_at c 20 m HM hc.1 hc.2 (by decide) (by decide) _).mono ?_
  rintro e wd ⟨rfl, rfl⟩
  go_upto_region 23 with (fail)
  obtain ⟨WZ, hWZ⟩ : ∃ W, W = ((((W3.setCell ⟨B3, 0, none⟩ (.int .i64 7)).setCell ⟨B3, 3, none⟩ (.int .i64 1)).setCell ⟨B3, 6, none⟩ (.string ⟨#[98, 121, 32, 110, 117, 109, 98, 101, 114]⟩)).setCell ⟨B3, 5, none⟩ (.int .i64 m)) := ⟨_, rfl⟩
  have RZ : Hid (WZ.heap[B3]? = some (.cells #[.int .i64 7, .string k1, .slice none 0 0, .int .i64 1, .int .i64 0, .int .i64 m, .string ⟨#[98, 121, 32, 110, 117, 109, 98, 101, 114]⟩, .bool false] 31 (0, 0))) := by show _ = _; rw [hWZ]; simp [World.setCell, Array.getElem?_modify, RS.out]
  have RZ1 : Hid (WZ.heap[B1]? = some (.cells #[.int .i64 k, .int .i64 a, .int .i64 b, .int .i64 c] 50 (0, 0))) := by show _ = _; rw [hWZ]; simp [World.setCell, Array.getElem?_modify, RS1.out, Ne.symm n13]
  have RZ2 : Hid (WZ.heap[B2]? = some (.cells zeroQ 31 (0, 0))) := by show _ = _; rw [hWZ]; simp [World.setCell, Array.getElem?_modify, RS2.out, Ne.symm n23]
  have HBZ : Hid (Below w.heap.size w WZ) := by rw [hWZ]; exact ((((HBS.out.setCell (p := ⟨B3, 0, none⟩) hB3w _).setCell (p := ⟨B3, 3, none⟩) hB3w _).setCell (p := ⟨B3, 6, none⟩) hB3w _).setCell (p := ⟨B3, 5, none⟩) hB3w _)
  rw [← hWZ]
  clear hWZ RS RS1 RS2 HBS x0 x1 x2 x3 z0 z3 z4 z5 z6 fx
  have y2 : WZ.cell? ⟨B1, 2, none⟩ = some (.int .i64 b) := cor RZ1.out rfl
  have y7 : WZ.cell? ⟨B3, 7, none⟩ = some (.bool false) := cor RZ.out rfl
  obtain ⟨q7, hq7⟩ : ∃ q7, pick b 7 = q7 := ⟨_, rfl⟩
  have HQ7 := hid hq7
  clear hq7
  have f7 : ∀ v, WZ.frozen? ⟨B3, v, none⟩ = false := fun v => frozen_of_row WZ _ _ _ _ RZ.out
  go_wp2_with fail
  refine (picked_at b 7 q7 HQ7 hb.1 hb.2 (by decide) (by decide) _).mono ?_
  rintro e wd ⟨rfl, rfl⟩
  obtain ⟨qt, hqt⟩ : ∃ qt, (q7 == (0 : Int)) = qt := ⟨_, rfl⟩
  go_upto_region 24 with (fail)
  obtain ⟨WY, hWY⟩ : ∃ W, W = WZ.setCell ⟨B3, 7, none⟩ (.bool qt) := ⟨_, rfl⟩
  have RY : Hid (WY.heap[B3]? = some (.cells #[.int .i64 7, .string k1, .slice none 0 0, .int .i64 1, .int .i64 0, .int .i64 m, .string ⟨#[98, 121, 32, 110, 117, 109, 98, 101, 114]⟩, .bool qt] 31 (0, 0))) := by show _ = _; rw [hWY]; simp [World.setCell, Array.getElem?_modify, RZ.out]
  have RY2 : Hid (WY.heap[B2]? = some (.cells zeroQ 31 (0, 0))) := by show _ = _; rw [hWY]; simp [World.setCell, Array.getElem?_modify, RZ2.out, Ne.symm n23]
  have HBY : Hid (Below w.heap.size w WY) := by rw [hWY]; exact HBZ.out.setCell (p := ⟨B3, 7, none⟩) hB3w _
  rw [← hWY]
  clear hWY RZ RZ1 RZ2 HBZ hqt
  go_wp2_with (first
   | refine wpList_load_row rfl 31 _ rfl B3 rfl _ _ _ _ RY.out Tryz.underlying31 rfl (by kernel_rfl) ?_
   | refine wpList_store_row rfl 31 _ _ rfl B2 _ rfl rfl _ _ RY2.out reqSize rfl (req_one _ _ _ _ _ _ _ _ _) ?_)
  refine bodyPost_ret (v := .agg #[.int .i64 7, .string k1, .slice none 0 0, .int .i64 1, .int .i64 0, .int .i64 m, .string ⟨#[98, 121, 32, 110, 117, 109, 98, 101, 114]⟩, .bool qt]) (results_cell rfl _ _ B2 _ rfl (run_loadVar_row _ _ _ _ _ _ _ (setRow_heap WY _ _ _ _ _ RY2.out) Tryz.underlying31 rfl reqSize)) rfl ?_
  exact ⟨Req.mk 7 k1 [] 1 0 m ⟨#[98, 121, 32, 110, 117, 109, 98, 101, 114]⟩ qt, none, 0, rfl, RowsAt.nil _ _ _ _, ⟨fault_quiet (r := Req.mk 7 k1 [] 1 0 m ⟨#[98, 121, 32, 110, 117, 109, 98, 101, 114]⟩ false) (fault_put (k := 7) (v := ⟨#[98, 121, 32, 110, 117, 109, 98, 101, 114]⟩) (fl := 1) (exp := 0) (n := m) (by omega) (K8_ok _ hk1) (by omega) (by omega) (by omega) (.inl rfl) (by decide)) ⟨by show (7 : Int) ≠ 1; omega, by show (7 : Int) ≠ 13; omega⟩ qt, fun _ => hk1⟩, HBY.out.trans (Below.setRow _ B2 _ hB2w)⟩
 ·
  have RS := R33
  have RS1 := R13
  have RS2 := R23
  have HBS := HB3
  clear R33 R13 R23 HB3
  go_upto_region 23 with (fail)
  obtain ⟨WZ, hWZ⟩ : ∃ W, W = (W3.setCell ⟨B3, 0, none⟩ (.int .i64 8)) := ⟨_, rfl⟩
  have RZ : Hid (WZ.heap[B3]? = some (.cells #[.int .i64 8, .string k1, .slice none 0 0, .int .i64 0, .int .i64 0, .int .i64 0, .string ⟨#[]⟩, .bool false] 31 (0, 0))) := by show _ = _; rw [hWZ]; simp [World.setCell, Array.getElem?_modify, RS.out]
  have RZ1 : Hid (WZ.heap[B1]? = some (.cells #[.int .i64 k, .int .i64 a, .int .i64 b, .int .i64 c] 50 (0, 0))) := by show _ = _; rw [hWZ]; simp [World.setCell, Array.getElem?_modify, RS1.out, Ne.symm n13]
  have RZ2 : Hid (WZ.heap[B2]? = some (.cells zeroQ 31 (0, 0))) := by show _ = _; rw [hWZ]; simp [World.setCell, Array.getElem?_modify, RS2.out, Ne.symm n23]
  have HBZ : Hid (Below w.heap.size w WZ) := by rw [hWZ]; exact (HBS.out.setCell (p := ⟨B3, 0, none⟩) hB3w _)
  rw [← hWZ]
  clear hWZ RS RS1 RS2 HBS x0 x1 x2 x3 z0 z3 z4 z5 z6 fx
  have y2 : WZ.cell? ⟨B1, 2, none⟩ = some (.int .i64 b) := cor RZ1.out rfl
  have y7 : WZ.cell? ⟨B3, 7, none⟩ = some (.bool false) := cor RZ.out rfl
  obtain ⟨q7, hq7⟩ : ∃ q7, pick b 7 = q7 := ⟨_, rfl⟩
  have HQ7 := hid hq7
  clear hq7
  have f7 : ∀ v, WZ.frozen? ⟨B3, v, none⟩ = false := fun v => frozen_of_row WZ _ _ _ _ RZ.out
  go_wp2_with fail
  refine (picked_at b 7 q7 HQ7 hb.1 hb.2 (by decide) (by decide) _).mono ?_
  rintro e wd ⟨rfl, rfl⟩
  obtain ⟨qt, hqt⟩ : ∃ qt, (q7 == (0 : Int)) = qt := ⟨_, rfl⟩
  go_upto_region 24 with (fail)
  obtain ⟨WY, hWY⟩ : ∃ W, W = WZ.setCell ⟨B3, 7, none⟩ (.bool qt) := ⟨_, rfl⟩
  have RY : Hid (WY.heap[B3]? = some (.cells #[.int .i64 8, .string k1, .slice none 0 0, .int .i64 0, .int .i64 0, .int .i64 0, .string ⟨#[]⟩, .bool qt] 31 (0, 0))) := by show _ = _; rw [hWY]; simp [World.setCell, Array.getElem?_modify, RZ.out]
  have RY2 : Hid (WY.heap[B2]? = some (.cells zeroQ 31 (0, 0))) := by show _ = _; rw [hWY]; simp [World.setCell, Array.getElem?_modify, RZ2.out, Ne.symm n23]
  have HBY : Hid (Below w.heap.size w WY) := by rw [hWY]; exact HBZ.out.setCell (p := ⟨B3, 7, none⟩) hB3w _
  rw [← hWY]
  clear hWY RZ RZ1 RZ2 HBZ hqt
  go_wp2_with (first
   | refine wpList_load_row rfl 31 _ rfl B3 rfl _ _ _ _ RY.out Tryz.underlying31 rfl (by kernel_rfl) ?_
   | refine wpList_store_row rfl 31 _ _ rfl B2 _ rfl rfl _ _ RY2.out reqSize rfl (req_one _ _ _ _ _ _ _ _ _) ?_)
  refine bodyPost_ret (v := .agg #[.int .i64 8, .string k1, .slice none 0 0, .int .i64 0, .int .i64 0, .int .i64 0, .string ⟨#[]⟩, .bool qt]) (results_cell rfl _ _ B2 _ rfl (run_loadVar_row _ _ _ _ _ _ _ (setRow_heap WY _ _ _ _ _ RY2.out) Tryz.underlying31 rfl reqSize)) rfl ?_
  exact ⟨Req.mk 8 k1 [] 0 0 0 ⟨#[]⟩ qt, none, 0, rfl, RowsAt.nil _ _ _ _, ⟨fault_quiet (r := Req.mk 8 k1 [] 0 0 0 ⟨#[]⟩ false) (fault_key (k := 8) (exp := 0) (n := 0) (by omega) (K8_ok _ hk1) (by omega) (.inr rfl) (by omega) (.inr (.inr rfl))) ⟨by show (8 : Int) ≠ 1; omega, by show (8 : Int) ≠ 13; omega⟩ qt, fun _ => hk1⟩, HBY.out.trans (Below.setRow _ B2 _ hB2w)⟩
 ·
  obtain ⟨i2, hi2⟩ : ∃ s, pick b 2 = s := ⟨_, rfl⟩
  obtain ⟨n12', hn12⟩ : ∃ s, pick c 12 = s := ⟨_, rfl⟩
  have bi := pick_lt b 2 (by decide)
  have bn := pick_lt c 12 (by decide)
  rw [hi2] at bi
  rw [hn12] at bn
  have HI := hid hi2
  have HN := hid hn12
  clear hi2 hn12
  have f1 : ¬ p < 11 := by omega
  have f2 : ¬ p < 5 := by omega
  have f3 : p < 17 := by omega
  have f4 : (p == 11) = false := by simp; omega
  have f5 : (p == 12) = false := by simp; omega
  have hi : i2 = 0 ∨ i2 = 1 := by omega
  go_upto_region 18 with (fail)
  rcases hi with rfl | rfl
  ·
   refine wp_region_L (fun w' : World => w'.heap[B1]? = W3.heap[B1]?) 12 13 (by kernel_rfl) (by kernel_rfl) rfl (fun hHeld => ?_)
   refine wpAnyL_take (i := 1) (v := ?_) rfl (by kernel_rfl) (fun _ _ _ h => h) (Or.inl ⟨by rfl, ?_⟩) (by assumption) ?_
   rotate_left
   ·intro wS hSw; go_simp <;> with_reducible rfl
   walk_nrm
   refine wpAnyL_take (i := 2) (v := ?_) rfl (by kernel_rfl) (fun _ _ _ h => h) (Or.inl ⟨by rfl, ?_⟩) (by assumption) ?_
   rotate_left
   ·intro wS hSw; have k2 := (World.cell?_of_block (w := W3) hSw).trans x2; go_simp <;> with_reducible rfl
   walk_nrm
   refine wpAnyL_call (i := 3) (v := (.int .i64 _)) rfl (by kernel_rfl) (fun _ _ _ h => h) ⟨by rfl, 16, #[.int .i64 b, .int .i64 2], fun wS hSw => ⟨?_, (picked_at b 2 _ HI hb.1 hb.2 (by decide) (by decide) wS).mono (fun _ _ h => ⟨h.1, h.2.symm⟩)⟩⟩ (by assumption) ?_
   ·go_simp
   walk_nrm
   refine wpAnyL_take (i := 6) (v := ?_) rfl (by kernel_rfl) (fun _ _ _ h => h) (Or.inl ⟨by rfl, ?_⟩) (by assumption) ?_
   rotate_left
   ·intro wS hSw; go_simp <;> with_reducible rfl
   walk_nrm
   refine wpAnyL_take (i := 7) (v := ?_) rfl (by kernel_rfl) (fun _ _ _ h => h) (Or.inl ⟨by rfl, ?_⟩) (by assumption) ?_
   rotate_left
   ·intro wS hSw; have k2 := (World.cell?_of_block (w := W3) hSw).trans x3; go_simp <;> with_reducible rfl
   walk_nrm
   refine wpAnyL_call (i := 8) (v := (.int .i64 n12')) rfl (by kernel_rfl) (fun _ _ _ h => h) ⟨by rfl, 16, #[.int .i64 c, .int .i64 12], fun wS hSw => ⟨?_, (picked_at c 12 _ HN hc.1 hc.2 (by decide) (by decide) wS).mono (fun _ _ h => ⟨h.1, h.2.symm⟩)⟩⟩ (by assumption) ?_
   ·go_simp
   walk_nrm
   refine wpAnyL_one 0 (by kernel_rfl) ?_
   refine ComesUp.mk rfl (fun K hK => ?_)
   go_simp
   obtain ⟨wn, hwn⟩ : ∃ wn, wn = (W3.alloc (.cells #[.int .i64 9, .int .i64 10] 3)).drew := ⟨_, rfl⟩
   rw [← hwn]
   obtain ⟨g, hg⟩ : ∃ g, g = W3.heap.size := ⟨_, rfl⟩
   rw [← hg]
   have hbn : Below W3.heap.size W3 wn := by rw [hwn]; exact ((Below.refl _ _).alloc (Nat.le_refl _) _).drew
   have rg : wn.heap[g]? = some (.cells #[.int .i64 9, .int .i64 10] 3 (0, 0)) := by rw [hwn, hg]; exact blk_new W3 _
   have RS := hid ((hbn.block _ (blt R33.out)).trans R33.out)
   have RS1 := hid ((hbn.block _ (blt R13.out)).trans R13.out)
   have RS2 := hid ((hbn.block _ (blt R23.out)).trans R23.out)
   have HBS := hid (HB3.out.trans (hbn.mono HB3.out.size))
   have hgB : g ≠ B1 ∧ g ≠ B3 := by have h1 := (blt R13.out); have h3 := (blt R33.out); omega
   refine hK.out _ _ (hbn.block _ (blt R13.out)) ?_
   clear hK K hHeld hwn hg hbn R13 R23 R33 HB3 x0 x1 x2 x3 z0 z3 z4 z5 z6 fx
   intro hHeld
   walk_nrm
   have fz : ∀ i, wn.frozen? ⟨B3, i, none⟩ = false := fun v => frozen_of_row wn _ _ _ _ RS.out
   have t5 : wn.cell? ⟨B3, 5, none⟩ = some (.int .i64 0) := cor RS.out rfl
   have t0 : wn.cell? ⟨B3, 0, none⟩ = some (.int .i64 0) := cor RS.out rfl
   have g0 : wn.cell? ⟨g, 0, none⟩ = some (.int .i64 9) := cor rg rfl
   have g1 : wn.cell? ⟨g, 1, none⟩ = some (.int .i64 10) := cor rg rfl
   clear rg
   refine wpAnyL_take (i := 4) (v := ?_) rfl (by kernel_rfl) (fun _ _ _ h => h) (Or.inl ⟨by rfl, ?_⟩) (by assumption) ?_
   rotate_left
   ·intro wS hSw; go_simp <;> with_reducible rfl
   walk_nrm
   refine wpAnyL_one 5 (by kernel_rfl) ?_
   refine ComesUp.mk rfl (fun K hK => ?_)
   go_simp
   refine hK.out _ _ hHeld ?_
   clear hK K hHeld g0 g1
   intro hHeld
   walk_nrm
   refine wpAnyL_take (i := 9) (v := ?_) rfl (by kernel_rfl) (fun _ _ _ h => h) (Or.inl ⟨by rfl, ?_⟩) (by assumption) ?_
   rotate_left
   ·intro wS hSw; go_simp <;> with_reducible rfl
   walk_nrm
   refine wpAnyL_one 10 (by kernel_rfl) ?_
   refine ComesUp.mk rfl (fun K hK => ?_)
   go_simp
   refine hK.out _ _ ((Below.heap_setCell _ ⟨B3, 0, none⟩ _ _ n13).trans hHeld) ?_
   clear hK K hHeld
   intro hHeld
   walk_nrm
   refine wpAnyL_take (i := 11) (v := ?_) rfl (by kernel_rfl) (fun _ _ _ h => h) (Or.inl ⟨by rfl, ?_⟩) (by assumption) ?_
   rotate_left
   ·intro wS hSw; go_simp <;> with_reducible rfl
   walk_nrm
   refine wpAnyL_last rfl (by kernel_rfl) (fun K hK => ?_)
   go_simp
   refine hK.out _ _ ?_
   clear hK K hHeld
   walk_nrm
   refine wpAnyL_done (by kernel_rfl) ?_ _
   go_upto_region 23 with (fail)
   obtain ⟨WZ, hWZ⟩ : ∃ W, W = ((wn.setCell ⟨B3, 0, none⟩ (.int .i64 9)).setCell ⟨B3, 5, none⟩ (.int .i64 n12')) := ⟨_, rfl⟩
   have RZ : Hid (WZ.heap[B3]? = some (.cells #[.int .i64 9, .string k1, .slice none 0 0, .int .i64 0, .int .i64 0, .int .i64 n12', .string ⟨#[]⟩, .bool false] 31 (0, 0))) := by show _ = _; rw [hWZ]; simp [World.setCell, Array.getElem?_modify, RS.out]
   have RZ1 : Hid (WZ.heap[B1]? = some (.cells #[.int .i64 k, .int .i64 a, .int .i64 b, .int .i64 c] 50 (0, 0))) := by show _ = _; rw [hWZ]; simp [World.setCell, Array.getElem?_modify, RS1.out, Ne.symm n13]
   have RZ2 : Hid (WZ.heap[B2]? = some (.cells zeroQ 31 (0, 0))) := by show _ = _; rw [hWZ]; simp [World.setCell, Array.getElem?_modify, RS2.out, Ne.symm n23]
   have HBZ : Hid (Below w.heap.size w WZ) := by rw [hWZ]; exact ((HBS.out.setCell (p := ⟨B3, 0, none⟩) hB3w _).setCell (p := ⟨B3, 5, none⟩) hB3w _)
   rw [← hWZ]
   clear hWZ RS RS1 RS2 HBS t0 t5 fz hgB
   have y2 : WZ.cell? ⟨B1, 2, none⟩ = some (.int .i64 b) := cor RZ1.out rfl
   have y7 : WZ.cell? ⟨B3, 7, none⟩ = some (.bool false) := cor RZ.out rfl
   obtain ⟨q7, hq7⟩ : ∃ q7, pick b 7 = q7 := ⟨_, rfl⟩
   have HQ7 := hid hq7
   clear hq7
   have f7 : ∀ v, WZ.frozen? ⟨B3, v, none⟩ = false := fun v => frozen_of_row WZ _ _ _ _ RZ.out
   go_wp2_with fail
   refine (picked_at b 7 q7 HQ7 hb.1 hb.2 (by decide) (by decide) _).mono ?_
   rintro e wd ⟨rfl, rfl⟩
   obtain ⟨qt, hqt⟩ : ∃ qt, (q7 == (0 : Int)) = qt := ⟨_, rfl⟩
   go_upto_region 24 with (fail)
   obtain ⟨WY, hWY⟩ : ∃ W, W = WZ.setCell ⟨B3, 7, none⟩ (.bool qt) := ⟨_, rfl⟩
   have RY : Hid (WY.heap[B3]? = some (.cells #[.int .i64 9, .string k1, .slice none 0 0, .int .i64 0, .int .i64 0, .int .i64 n12', .string ⟨#[]⟩, .bool qt] 31 (0, 0))) := by show _ = _; rw [hWY]; simp [World.setCell, Array.getElem?_modify, RZ.out]
   have RY2 : Hid (WY.heap[B2]? = some (.cells zeroQ 31 (0, 0))) := by show _ = _; rw [hWY]; simp [World.setCell, Array.getElem?_modify, RZ2.out, Ne.symm n23]
   have HBY : Hid (Below w.heap.size w WY) := by rw [hWY]; exact HBZ.out.setCell (p := ⟨B3, 7, none⟩) hB3w _
   rw [← hWY]
   clear hWY RZ RZ1 RZ2 HBZ hqt
   go_wp2_with (first
    | refine wpList_load_row rfl 31 _ rfl B3 rfl _ _ _ _ RY.out Tryz.underlying31 rfl (by kernel_rfl) ?_
    | refine wpList_store_row rfl 31 _ _ rfl B2 _ rfl rfl _ _ RY2.out reqSize rfl (req_one _ _ _ _ _ _ _ _ _) ?_)
   refine bodyPost_ret (v := .agg #[.int .i64 9, .string k1, .slice none 0 0, .int .i64 0, .int .i64 0, .int .i64 n12', .string ⟨#[]⟩, .bool qt]) (results_cell rfl _ _ B2 _ rfl (run_loadVar_row _ _ _ _ _ _ _ (setRow_heap WY _ _ _ _ _ RY2.out) Tryz.underlying31 rfl reqSize)) rfl ?_
   exact ⟨Req.mk 9 k1 [] 0 0 n12' ⟨#[]⟩ qt, none, 0, rfl, RowsAt.nil _ _ _ _, ⟨fault_quiet (r := Req.mk 9 k1 [] 0 0 n12' ⟨#[]⟩ false) (fault_key (k := 9) (exp := 0) (n := n12') (by omega) (K8_ok _ hk1) (by omega) (.inr rfl) (by omega) (.inl rfl)) ⟨by show (9 : Int) ≠ 1; omega, by show (9 : Int) ≠ 13; omega⟩ qt, fun _ => hk1⟩, HBY.out.trans (Below.setRow _ B2 _ hB2w)⟩
  ·
   refine wp_region_L (fun w' : World => w'.heap[B1]? = W3.heap[B1]?) 12 13 (by kernel_rfl) (by kernel_rfl) rfl (fun hHeld => ?_)
   refine wpAnyL_take (i := 1) (v := ?_) rfl (by kernel_rfl) (fun _ _ _ h => h) (Or.inl ⟨by rfl, ?_⟩) (by assumption) ?_
   rotate_left
   ·intro wS hSw; go_simp <;> with_reducible rfl
   walk_nrm
   refine wpAnyL_take (i := 2) (v := ?_) rfl (by kernel_rfl) (fun _ _ _ h => h) (Or.inl ⟨by rfl, ?_⟩) (by assumption) ?_
   rotate_left
   ·intro wS hSw; have k2 := (World.cell?_of_block (w := W3) hSw).trans x2; go_simp <;> with_reducible rfl
   walk_nrm
   refine wpAnyL_call (i := 3) (v := (.int .i64 _)) rfl (by kernel_rfl) (fun _ _ _ h => h) ⟨by rfl, 16, #[.int .i64 b, .int .i64 2], fun wS hSw => ⟨?_, (picked_at b 2 _ HI hb.1 hb.2 (by decide) (by decide) wS).mono (fun _ _ h => ⟨h.1, h.2.symm⟩)⟩⟩ (by assumption) ?_
   ·go_simp
   walk_nrm
   refine wpAnyL_take (i := 6) (v := ?_) rfl (by kernel_rfl) (fun _ _ _ h => h) (Or.inl ⟨by rfl, ?_⟩) (by assumption) ?_
   rotate_left
   ·intro wS hSw; go_simp <;> with_reducible rfl
   walk_nrm
   refine wpAnyL_take (i := 7) (v := ?_) rfl (by kernel_rfl) (fun _ _ _ h => h) (Or.inl ⟨by rfl, ?_⟩) (by assumption) ?_
   rotate_left
   ·intro wS hSw; have k2 := (World.cell?_of_block (w := W3) hSw).trans x3; go_simp <;> with_reducible rfl
   walk_nrm
   refine wpAnyL_call (i := 8) (v := (.int .i64 n12')) rfl (by kernel_rfl) (fun _ _ _ h => h) ⟨by rfl, 16, #[.int .i64 c, .int .i64 12], fun wS hSw => ⟨?_, (picked_at c 12 _ HN hc.1 hc.2 (by decide) (by decide) wS).mono (fun _ _ h => ⟨h.1, h.2.symm⟩)⟩⟩ (by assumption) ?_
   ·go_simp
   walk_nrm
   refine wpAnyL_one 0 (by kernel_rfl) ?_
   refine ComesUp.mk rfl (fun K hK => ?_)
   go_simp
   obtain ⟨wn, hwn⟩ : ∃ wn, wn = (W3.alloc (.cells #[.int .i64 9, .int .i64 10] 3)).drew := ⟨_, rfl⟩
   rw [← hwn]
   obtain ⟨g, hg⟩ : ∃ g, g = W3.heap.size := ⟨_, rfl⟩
   rw [← hg]
   have hbn : Below W3.heap.size W3 wn := by rw [hwn]; exact ((Below.refl _ _).alloc (Nat.le_refl _) _).drew
   have rg : wn.heap[g]? = some (.cells #[.int .i64 9, .int .i64 10] 3 (0, 0)) := by rw [hwn, hg]; exact blk_new W3 _
   have RS := hid ((hbn.block _ (blt R33.out)).trans R33.out)
   have RS1 := hid ((hbn.block _ (blt R13.out)).trans R13.out)
   have RS2 := hid ((hbn.block _ (blt R23.out)).trans R23.out)
   have HBS := hid (HB3.out.trans (hbn.mono HB3.out.size))
   have hgB : g ≠ B1 ∧ g ≠ B3 := by have h1 := (blt R13.out); have h3 := (blt R33.out); omega
   refine hK.out _ _ (hbn.block _ (blt R13.out)) ?_
   clear hK K hHeld hwn hg hbn R13 R23 R33 HB3 x0 x1 x2 x3 z0 z3 z4 z5 z6 fx
   intro hHeld
   walk_nrm
   have fz : ∀ i, wn.frozen? ⟨B3, i, none⟩ = false := fun v => frozen_of_row wn _ _ _ _ RS.out
   have t5 : wn.cell? ⟨B3, 5, none⟩ = some (.int .i64 0) := cor RS.out rfl
   have t0 : wn.cell? ⟨B3, 0, none⟩ = some (.int .i64 0) := cor RS.out rfl
   have g0 : wn.cell? ⟨g, 0, none⟩ = some (.int .i64 9) := cor rg rfl
   have g1 : wn.cell? ⟨g, 1, none⟩ = some (.int .i64 10) := cor rg rfl
   clear rg
   refine wpAnyL_take (i := 4) (v := ?_) rfl (by kernel_rfl) (fun _ _ _ h => h) (Or.inl ⟨by rfl, ?_⟩) (by assumption) ?_
   rotate_left
   ·intro wS hSw; go_simp <;> with_reducible rfl
   walk_nrm
   refine wpAnyL_one 5 (by kernel_rfl) ?_
   refine ComesUp.mk rfl (fun K hK => ?_)
   go_simp
   refine hK.out _ _ hHeld ?_
   clear hK K hHeld g0 g1
   intro hHeld
   walk_nrm
   refine wpAnyL_take (i := 9) (v := ?_) rfl (by kernel_rfl) (fun _ _ _ h => h) (Or.inl ⟨by rfl, ?_⟩) (by assumption) ?_
   rotate_left
   ·intro wS hSw; go_simp <;> with_reducible rfl
   walk_nrm
   refine wpAnyL_one 10 (by kernel_rfl) ?_
   refine ComesUp.mk rfl (fun K hK => ?_)
   go_simp
   refine hK.out _ _ ((Below.heap_setCell _ ⟨B3, 0, none⟩ _ _ n13).trans hHeld) ?_
   clear hK K hHeld
   intro hHeld
   walk_nrm
   refine wpAnyL_take (i := 11) (v := ?_) rfl (by kernel_rfl) (fun _ _ _ h => h) (Or.inl ⟨by rfl, ?_⟩) (by assumption) ?_
   rotate_left
   ·intro wS hSw; go_simp <;> with_reducible rfl
   walk_nrm
   refine wpAnyL_last rfl (by kernel_rfl) (fun K hK => ?_)
   go_simp
   refine hK.out _ _ ?_
   clear hK K hHeld
   walk_nrm
   refine wpAnyL_done (by kernel_rfl) ?_ _
   go_upto_region 23 with (fail)
   obtain ⟨WZ, hWZ⟩ : ∃ W, W = ((wn.setCell ⟨B3, 0, none⟩ (.int .i64 10)).setCell ⟨B3, 5, none⟩ (.int .i64 n12')) := ⟨_, rfl⟩
   have RZ : Hid (WZ.heap[B3]? = some (.cells #[.int .i64 10, .string k1, .slice none 0 0, .int .i64 0, .int .i64 0, .int .i64 n12', .string ⟨#[]⟩, .bool false] 31 (0, 0))) := by show _ = _; rw [hWZ]; simp [World.setCell, Array.getElem?_modify, RS.out]
   have RZ1 : Hid (WZ.heap[B1]? = some (.cells #[.int .i64 k, .int .i64 a, .int .i64 b, .int .i64 c] 50 (0, 0))) := by show _ = _; rw [hWZ]; simp [World.setCell, Array.getElem?_modify, RS1.out, Ne.symm n13]
   have RZ2 : Hid (WZ.heap[B2]? = some (.cells zeroQ 31 (0, 0))) := by show _ = _; rw [hWZ]; simp [World.setCell, Array.getElem?_modify, RS2.out, Ne.symm n23]
   have HBZ : Hid (Below w.heap.size w WZ) := by rw [hWZ]; exact ((HBS.out.setCell (p := ⟨B3, 0, none⟩) hB3w _).setCell (p := ⟨B3, 5, none⟩) hB3w _)
   rw [← hWZ]
   clear hWZ RS RS1 RS2 HBS t0 t5 fz hgB
   have y2 : WZ.cell? ⟨B1, 2, none⟩ = some (.int .i64 b) := cor RZ1.out rfl
   have y7 : WZ.cell? ⟨B3, 7, none⟩ = some (.bool false) := cor RZ.out rfl
   obtain ⟨q7, hq7⟩ : ∃ q7, pick b 7 = q7 := ⟨_, rfl⟩
   have HQ7 := hid hq7
   clear hq7
   have f7 : ∀ v, WZ.frozen? ⟨B3, v, none⟩ = false := fun v => frozen_of_row WZ _ _ _ _ RZ.out
   go_wp2_with fail
   refine (picked_at b 7 q7 HQ7 hb.1 hb.2 (by decide) (by decide) _).mono ?_
   rintro e wd ⟨rfl, rfl⟩
   obtain ⟨qt, hqt⟩ : ∃ qt, (q7 == (0 : Int)) = qt := ⟨_, rfl⟩
   go_upto_region 24 with (fail)
   obtain ⟨WY, hWY⟩ : ∃ W, W = WZ.setCell ⟨B3, 7, none⟩ (.bool qt) := ⟨_, rfl⟩
   have RY : Hid (WY.heap[B3]? = some (.cells #[.int .i64 10, .string k1, .slice none 0 0, .int .i64 0, .int .i64 0, .int .i64 n12', .string ⟨#[]⟩, .bool qt] 31 (0, 0))) := by show _ = _; rw [hWY]; simp [World.setCell, Array.getElem?_modify, RZ.out]
   have RY2 : Hid (WY.heap[B2]? = some (.cells zeroQ 31 (0, 0))) := by show _ = _; rw [hWY]; simp [World.setCell, Array.getElem?_modify, RZ2.out, Ne.symm n23]
   have HBY : Hid (Below w.heap.size w WY) := by rw [hWY]; exact HBZ.out.setCell (p := ⟨B3, 7, none⟩) hB3w _
   rw [← hWY]
   clear hWY RZ RZ1 RZ2 HBZ hqt
   go_wp2_with (first
    | refine wpList_load_row rfl 31 _ rfl B3 rfl _ _ _ _ RY.out Tryz.underlying31 rfl (by kernel_rfl) ?_
    | refine wpList_store_row rfl 31 _ _ rfl B2 _ rfl rfl _ _ RY2.out reqSize rfl (req_one _ _ _ _ _ _ _ _ _) ?_)
   refine bodyPost_ret (v := .agg #[.int .i64 10, .string k1, .slice none 0 0, .int .i64 0, .int .i64 0, .int .i64 n12', .string ⟨#[]⟩, .bool qt]) (results_cell rfl _ _ B2 _ rfl (run_loadVar_row _ _ _ _ _ _ _ (setRow_heap WY _ _ _ _ _ RY2.out) Tryz.underlying31 rfl reqSize)) rfl ?_
   exact ⟨Req.mk 10 k1 [] 0 0 n12' ⟨#[]⟩ qt, none, 0, rfl, RowsAt.nil _ _ _ _, ⟨fault_quiet (r := Req.mk 10 k1 [] 0 0 n12' ⟨#[]⟩ false) (fault_key (k := 10) (exp := 0) (n := n12') (by omega) (K8_ok _ hk1) (by omega) (.inr rfl) (by omega) (.inr (.inl rfl))) ⟨by show (10 : Int) ≠ 1; omega, by show (10 : Int) ≠ 13; omega⟩ qt, fun _ => hk1⟩, HBY.out.trans (Below.setRow _ B2 _ hB2w)⟩
 ·
  obtain ⟨m, hm⟩ : ∃ m, pick c 30 = m := ⟨_, rfl⟩
  have hm2 := pick_lt c 30 (by decide)
  rw [hm] at hm2
  have HM := hid hm
  clear hm
  have RS := R33
  have RS1 := R13
  have RS2 := R23
  have HBS := HB3
  clear R33 R13 R23 HB3
  go_wp2_with fail
  refine (picked_at c 30 m HM hc.1 hc.2 (by decide) (by decide) _).mono ?_
  rintro e wd ⟨rfl, rfl⟩
  go_upto_region 23 with (fail)
  obtain ⟨WZ, hWZ⟩ : ∃ W, W = ((W3.setCell ⟨B3, 0, none⟩ (.int .i64 11)).setCell ⟨B3, 4, none⟩ (.int .i64 m)) := ⟨_, rfl⟩
  have RZ : Hid (WZ.heap[B3]? = some (.cells #[.int .i64 11, .string k1, .slice none 0 0, .int .i64 0, .int .i64 m, .int .i64 0, .string ⟨#[]⟩, .bool false] 31 (0, 0))) := by show _ = _; rw [hWZ]; simp [World.setCell, Array.getElem?_modify, RS.out]
  have RZ1 : Hid (WZ.heap[B1]? = some (.cells #[.int .i64 k, .int .i64 a, .int .i64 b, .int .i64 c] 50 (0, 0))) := by show _ = _; rw [hWZ]; simp [World.setCell, Array.getElem?_modify, RS1.out, Ne.symm n13]
  have RZ2 : Hid (WZ.heap[B2]? = some (.cells zeroQ 31 (0, 0))) := by show _ = _; rw [hWZ]; simp [World.setCell, Array.getElem?_modify, RS2.out, Ne.symm n23]
  have HBZ : Hid (Below w.heap.size w WZ) := by rw [hWZ]; exact ((HBS.out.setCell (p := ⟨B3, 0, none⟩) hB3w _).setCell (p := ⟨B3, 4, none⟩) hB3w _)
  rw [← hWZ]
  clear hWZ RS RS1 RS2 HBS x0 x1 x2 x3 z0 z3 z4 z5 z6 fx
  have y2 : WZ.cell? ⟨B1, 2, none⟩ = some (.int .i64 b) := cor RZ1.out rfl
  have y7 : WZ.cell? ⟨B3, 7, none⟩ = some (.bool false) := cor RZ.out rfl
  obtain ⟨q7, hq7⟩ : ∃ q7, pick b 7 = q7 := ⟨_, rfl⟩
  have HQ7 := hid hq7
  clear hq7
  have f7 : ∀ v, WZ.frozen? ⟨B3, v, none⟩ = false := fun v => frozen_of_row WZ _ _ _ _ RZ.out
  go_wp2_with fail
  refine (picked_at b 7 q7 HQ7 hb.1 hb.2 (by decide) (by decide) _).mono ?_
  rintro e wd ⟨rfl, rfl⟩
  obtain ⟨qt, hqt⟩ : ∃ qt, (q7 == (0 : Int)) = qt := ⟨_, rfl⟩
  go_upto_region 24 with (fail)
  obtain ⟨WY, hWY⟩ : ∃ W, W = WZ.setCell ⟨B3, 7, none⟩ (.bool qt) := ⟨_, rfl⟩
  have RY : Hid (WY.heap[B3]? = some (.cells #[.int .i64 11, .string k1, .slice none 0 0, .int .i64 0, .int .i64 m, .int .i64 0, .string ⟨#[]⟩, .bool qt] 31 (0, 0))) := by show _ = _; rw [hWY]; simp [World.setCell, Array.getElem?_modify, RZ.out]
  have RY2 : Hid (WY.heap[B2]? = some (.cells zeroQ 31 (0, 0))) := by show _ = _; rw [hWY]; simp [World.setCell, Array.getElem?_modify, RZ2.out, Ne.symm n23]
  have HBY : Hid (Below w.heap.size w WY) := by rw [hWY]; exact HBZ.out.setCell (p := ⟨B3, 7, none⟩) hB3w _
  rw [← hWY]
  clear hWY RZ RZ1 RZ2 HBZ hqt
  go_wp2_with (first
   | refine wpList_load_row rfl 31 _ rfl B3 rfl _ _ _ _ RY.out Tryz.underlying31 rfl (by kernel_rfl) ?_
   | refine wpList_store_row rfl 31 _ _ rfl B2 _ rfl rfl _ _ RY2.out reqSize rfl (req_one _ _ _ _ _ _ _ _ _) ?_)
  refine bodyPost_ret (v := .agg #[.int .i64 11, .string k1, .slice none 0 0, .int .i64 0, .int .i64 m, .int .i64 0, .string ⟨#[]⟩, .bool qt]) (results_cell rfl _ _ B2 _ rfl (run_loadVar_row _ _ _ _ _ _ _ (setRow_heap WY _ _ _ _ _ RY2.out) Tryz.underlying31 rfl reqSize)) rfl ?_
  exact ⟨Req.mk 11 k1 [] 0 m 0 ⟨#[]⟩ qt, none, 0, rfl, RowsAt.nil _ _ _ _, ⟨fault_quiet (r := Req.mk 11 k1 [] 0 m 0 ⟨#[]⟩ false) (fault_key (k := 11) (exp := m) (n := 0) (by omega) (K8_ok _ hk1) (by omega) (.inl rfl) (by omega) (.inr (.inr rfl))) ⟨by show (11 : Int) ≠ 1; omega, by show (11 : Int) ≠ 13; omega⟩ qt, fun _ => hk1⟩, HBY.out.trans (Below.setRow _ B2 _ hB2w)⟩
 ·
  obtain ⟨r2, hr2⟩ : ∃ s, pick b 2 = s := ⟨_, rfl⟩
  have HR2 := hid hr2
  clear hr2
  have H6 := hid h6
  clear h6 z0 z3 z4 z5 z6 fx
  go_wp2_with fail
  refine (picked_at c 6 0 H6 hc.1 hc.2 (by decide) (by decide) _).mono ?_
  rintro e wd ⟨rfl, rfl⟩
  go_wp2_with fail
  refine (picked_at b 2 r2 HR2 hb.1 hb.2 (by decide) (by decide) _).mono ?_
  rintro e wd ⟨rfl, rfl⟩
  obtain ⟨qt, hqt⟩ : ∃ qt, (r2 == (0 : Int)) = qt := ⟨_, rfl⟩
  go_wp2_with (refine wpList_store_row rfl 31 _ _ rfl B2 _ rfl rfl _ _ R23.out reqSize rfl (req_one _ _ _ _ _ _ _ _ _) ?_)
  refine bodyPost_ret (v := .agg #[.int .i64 12, .string ⟨#[]⟩, .slice none 0 0, .int .i64 0, .int .i64 0, .int .i64 0, .string ⟨#[]⟩, .bool qt]) (results_cell rfl _ _ B2 _ rfl (run_loadVar_row _ _ _ _ _ _ _ (setRow_heap _ _ _ _ _ _ R23.out) Tryz.underlying31 rfl reqSize)) rfl ?_
  exact ⟨Req.mk 12 ⟨#[]⟩ [] 0 0 0 ⟨#[]⟩ qt, none, 0, rfl, RowsAt.nil _ _ _ _, ⟨fault_quiet (r := Req.mk 12 ⟨#[]⟩ [] 0 0 0 ⟨#[]⟩ false) fault_flush ⟨by show (12 : Int) ≠ 1; omega, by show (12 : Int) ≠ 13; omega⟩ qt, fun h => absurd h.2 (by show ¬ (12 : Int) ≤ 11; omega)⟩, HB3.out.trans (Below.setRow _ B2 _ hB2w)⟩
 ·
  obtain ⟨s6, hs6⟩ : ∃ s, pick c 6 = s := ⟨_, rfl⟩
  rw [hs6] at h6
  have HS6 := hid hs6
  clear hs6
  have g6 : (s6 == 0) = false := by simp [h6]
  have RS := R33
  have RS1 := R13
  have RS2 := R23
  have HBS := HB3
  clear R33 R13 R23 HB3
  go_wp2_with fail
  refine (picked_at c 6 s6 HS6 hc.1 hc.2 (by decide) (by decide) _).mono ?_
  rintro e wd ⟨rfl, rfl⟩
  go_wp2_with fail
  refine (value_is c hc.1 hc.2 _).mono ?_
  rintro e w5 ⟨v, rfl, hv, hb5⟩
  replace RS := hid ((hb5.block _ (blt RS.out)).trans RS.out)
  replace RS1 := hid ((hb5.block _ (blt RS1.out)).trans RS1.out)
  replace RS2 := hid ((hb5.block _ (blt RS2.out)).trans RS2.out)
  replace HBS := hid (HBS.out.trans (hb5.mono HBS.out.size))
  clear hb5 x0 x1 x2 x3 z0 z3 z4 z5 z6 fx
  have fz : ∀ i, w5.frozen? ⟨B3, i, none⟩ = false := fun v => frozen_of_row w5 _ _ _ _ RS.out
  have t6 : w5.cell? ⟨B3, 6, none⟩ = some (.string ⟨#[]⟩) := cor RS.out rfl
  have t0 : w5.cell? ⟨B3, 0, none⟩ = some (.int .i64 0) := cor RS.out rfl
  by_cases hs : v.size ≤ 200
  ·
   go_upto_region 23 with (fail)
   obtain ⟨WZ, hWZ⟩ : ∃ W, W = ((w5.setCell ⟨B3, 0, none⟩ (.int .i64 2)).setCell ⟨B3, 6, none⟩ (.string v)) := ⟨_, rfl⟩
   have RZ : Hid (WZ.heap[B3]? = some (.cells #[.int .i64 2, .string k1, .slice none 0 0, .int .i64 0, .int .i64 0, .int .i64 0, .string v, .bool false] 31 (0, 0))) := by show _ = _; rw [hWZ]; simp [World.setCell, Array.getElem?_modify, RS.out]
   have RZ1 : Hid (WZ.heap[B1]? = some (.cells #[.int .i64 k, .int .i64 a, .int .i64 b, .int .i64 c] 50 (0, 0))) := by show _ = _; rw [hWZ]; simp [World.setCell, Array.getElem?_modify, RS1.out, Ne.symm n13]
   have RZ2 : Hid (WZ.heap[B2]? = some (.cells zeroQ 31 (0, 0))) := by show _ = _; rw [hWZ]; simp [World.setCell, Array.getElem?_modify, RS2.out, Ne.symm n23]
   have HBZ : Hid (Below w.heap.size w WZ) := by rw [hWZ]; exact ((HBS.out.setCell (p := ⟨B3, 0, none⟩) hB3w _).setCell (p := ⟨B3, 6, none⟩) hB3w _)
   rw [← hWZ]
   clear hWZ RS RS1 RS2 HBS t0 t6 fz
   have y2 : WZ.cell? ⟨B1, 2, none⟩ = some (.int .i64 b) := cor RZ1.out rfl
   have y7 : WZ.cell? ⟨B3, 7, none⟩ = some (.bool false) := cor RZ.out rfl
   obtain ⟨q7, hq7⟩ : ∃ q7, pick b 7 = q7 := ⟨_, rfl⟩
   have HQ7 := hid hq7
   clear hq7
   have f7 : ∀ v, WZ.frozen? ⟨B3, v, none⟩ = false := fun v => frozen_of_row WZ _ _ _ _ RZ.out
   go_wp2_with fail
   refine (picked_at b 7 q7 HQ7 hb.1 hb.2 (by decide) (by decide) _).mono ?_
   rintro e wd ⟨rfl, rfl⟩
   obtain ⟨qt, hqt⟩ : ∃ qt, (q7 == (0 : Int)) = qt := ⟨_, rfl⟩
   go_upto_region 24 with (fail)
   obtain ⟨WY, hWY⟩ : ∃ W, W = WZ.setCell ⟨B3, 7, none⟩ (.bool qt) := ⟨_, rfl⟩
   have RY : Hid (WY.heap[B3]? = some (.cells #[.int .i64 2, .string k1, .slice none 0 0, .int .i64 0, .int .i64 0, .int .i64 0, .string v, .bool qt] 31 (0, 0))) := by show _ = _; rw [hWY]; simp [World.setCell, Array.getElem?_modify, RZ.out]
   have RY2 : Hid (WY.heap[B2]? = some (.cells zeroQ 31 (0, 0))) := by show _ = _; rw [hWY]; simp [World.setCell, Array.getElem?_modify, RZ2.out, Ne.symm n23]
   have HBY : Hid (Below w.heap.size w WY) := by rw [hWY]; exact HBZ.out.setCell (p := ⟨B3, 7, none⟩) hB3w _
   rw [← hWY]
   clear hWY RZ RZ1 RZ2 HBZ hqt
   go_wp2_with (first
    | refine wpList_load_row rfl 31 _ rfl B3 rfl _ _ _ _ RY.out Tryz.underlying31 rfl (by kernel_rfl) ?_
    | refine wpList_store_row rfl 31 _ _ rfl B2 _ rfl rfl _ _ RY2.out reqSize rfl (req_one _ _ _ _ _ _ _ _ _) ?_)
   refine bodyPost_ret (v := .agg #[.int .i64 2, .string k1, .slice none 0 0, .int .i64 0, .int .i64 0, .int .i64 0, .string v, .bool qt]) (results_cell rfl _ _ B2 _ rfl (run_loadVar_row _ _ _ _ _ _ _ (setRow_heap WY _ _ _ _ _ RY2.out) Tryz.underlying31 rfl reqSize)) rfl ?_
   exact ⟨Req.mk 2 k1 [] 0 0 0 v qt, none, 0, rfl, RowsAt.nil _ _ _ _, ⟨fault_quiet (r := Req.mk 2 k1 [] 0 0 0 v false) (fault_put (k := 2) (v := v) (fl := 0) (exp := 0) (n := 0) (by omega) (K8_ok _ hk1) (by omega) (by omega) (by omega) (.inr rfl) (by omega)) ⟨by show (2 : Int) ≠ 1; omega, by show (2 : Int) ≠ 13; omega⟩ qt, fun _ => hk1⟩, HBY.out.trans (Below.setRow _ B2 _ hB2w)⟩
  ·
   have hs2 : ¬ (v.size : Int) ≤ 200 := by omega
   go_upto_region 23 with (fail)
   obtain ⟨u, hu⟩ : ∃ u, u = v.extract 0 200 := ⟨_, rfl⟩
   rw [← hu]
   have hus : u.size ≤ 200 := by rw [hu, ByteArray.size_extract]; omega
   clear hu
   obtain ⟨WZ, hWZ⟩ : ∃ W, W = (((w5.setCell ⟨B3, 0, none⟩ (.int .i64 2)).setCell ⟨B3, 6, none⟩ (.string v)).setCell ⟨B3, 6, none⟩ (.string u)) := ⟨_, rfl⟩
   have RZ : Hid (WZ.heap[B3]? = some (.cells #[.int .i64 2, .string k1, .slice none 0 0, .int .i64 0, .int .i64 0, .int .i64 0, .string u, .bool false] 31 (0, 0))) := by show _ = _; rw [hWZ]; simp [World.setCell, Array.getElem?_modify, RS.out]
   have RZ1 : Hid (WZ.heap[B1]? = some (.cells #[.int .i64 k, .int .i64 a, .int .i64 b, .int .i64 c] 50 (0, 0))) := by show _ = _; rw [hWZ]; simp [World.setCell, Array.getElem?_modify, RS1.out, Ne.symm n13]
   have RZ2 : Hid (WZ.heap[B2]? = some (.cells zeroQ 31 (0, 0))) := by show _ = _; rw [hWZ]; simp [World.setCell, Array.getElem?_modify, RS2.out, Ne.symm n23]
   have HBZ : Hid (Below w.heap.size w WZ) := by rw [hWZ]; exact (((HBS.out.setCell (p := ⟨B3, 0, none⟩) hB3w _).setCell (p := ⟨B3, 6, none⟩) hB3w _).setCell (p := ⟨B3, 6, none⟩) hB3w _)
   rw [← hWZ]
   clear hWZ RS RS1 RS2 HBS t0 t6 fz
   have y2 : WZ.cell? ⟨B1, 2, none⟩ = some (.int .i64 b) := cor RZ1.out rfl
   have y7 : WZ.cell? ⟨B3, 7, none⟩ = some (.bool false) := cor RZ.out rfl
   obtain ⟨q7, hq7⟩ : ∃ q7, pick b 7 = q7 := ⟨_, rfl⟩
   have HQ7 := hid hq7
   clear hq7
   have f7 : ∀ v, WZ.frozen? ⟨B3, v, none⟩ = false := fun v => frozen_of_row WZ _ _ _ _ RZ.out
   go_wp2_with fail
   refine (picked_at b 7 q7 HQ7 hb.1 hb.2 (by decide) (by decide) _).mono ?_
   rintro e wd ⟨rfl, rfl⟩
   obtain ⟨qt, hqt⟩ : ∃ qt, (q7 == (0 : Int)) = qt := ⟨_, rfl⟩
   go_upto_region 24 with (fail)
   obtain ⟨WY, hWY⟩ : ∃ W, W = WZ.setCell ⟨B3, 7, none⟩ (.bool qt) := ⟨_, rfl⟩
   have RY : Hid (WY.heap[B3]? = some (.cells #[.int .i64 2, .string k1, .slice none 0 0, .int .i64 0, .int .i64 0, .int .i64 0, .string u, .bool qt] 31 (0, 0))) := by show _ = _; rw [hWY]; simp [World.setCell, Array.getElem?_modify, RZ.out]
   have RY2 : Hid (WY.heap[B2]? = some (.cells zeroQ 31 (0, 0))) := by show _ = _; rw [hWY]; simp [World.setCell, Array.getElem?_modify, RZ2.out, Ne.symm n23]
   have HBY : Hid (Below w.heap.size w WY) := by rw [hWY]; exact HBZ.out.setCell (p := ⟨B3, 7, none⟩) hB3w _
   rw [← hWY]
   clear hWY RZ RZ1 RZ2 HBZ hqt
   go_wp2_with (first
    | refine wpList_load_row rfl 31 _ rfl B3 rfl _ _ _ _ RY.out Tryz.underlying31 rfl (by kernel_rfl) ?_
    | refine wpList_store_row rfl 31 _ _ rfl B2 _ rfl rfl _ _ RY2.out reqSize rfl (req_one _ _ _ _ _ _ _ _ _) ?_)
   refine bodyPost_ret (v := .agg #[.int .i64 2, .string k1, .slice none 0 0, .int .i64 0, .int .i64 0, .int .i64 0, .string u, .bool qt]) (results_cell rfl _ _ B2 _ rfl (run_loadVar_row _ _ _ _ _ _ _ (setRow_heap WY _ _ _ _ _ RY2.out) Tryz.underlying31 rfl reqSize)) rfl ?_
   exact ⟨Req.mk 2 k1 [] 0 0 0 u qt, none, 0, rfl, RowsAt.nil _ _ _ _, ⟨fault_quiet (r := Req.mk 2 k1 [] 0 0 0 u false) (fault_put (k := 2) (v := u) (fl := 0) (exp := 0) (n := 0) (by omega) (K8_ok _ hk1) (by omega) (by omega) (by omega) (.inr rfl) (by omega)) ⟨by show (2 : Int) ≠ 1; omega, by show (2 : Int) ≠ 13; omega⟩ qt, fun _ => hk1⟩, HBY.out.trans (Below.setRow _ B2 _ hB2w)⟩
 ·
  have RS := R33
  have RS1 := R13
  have RS2 := R23
  have HBS := HB3
  clear R33 R13 R23 HB3
  go_wp2_with fail
  refine (value_is c hc.1 hc.2 _).mono ?_
  rintro e w5 ⟨v, rfl, hv, hb5⟩
  replace RS := hid ((hb5.block _ (blt RS.out)).trans RS.out)
  replace RS1 := hid ((hb5.block _ (blt RS1.out)).trans RS1.out)
  replace RS2 := hid ((hb5.block _ (blt RS2.out)).trans RS2.out)
  replace HBS := hid (HBS.out.trans (hb5.mono HBS.out.size))
  clear hb5 x0 x1 x2 x3 z0 z3 z4 z5 z6 fx
  have fz : ∀ i, w5.frozen? ⟨B3, i, none⟩ = false := fun v => frozen_of_row w5 _ _ _ _ RS.out
  have t6 : w5.cell? ⟨B3, 6, none⟩ = some (.string ⟨#[]⟩) := cor RS.out rfl
  have t0 : w5.cell? ⟨B3, 0, none⟩ = some (.int .i64 0) := cor RS.out rfl
  by_cases hs : v.size ≤ 200
  ·
   go_upto_region 23 with (fail)
   obtain ⟨WZ, hWZ⟩ : ∃ W, W = ((w5.setCell ⟨B3, 0, none⟩ (.int .i64 2)).setCell ⟨B3, 6, none⟩ (.string v)) := ⟨_, rfl⟩
   have RZ : Hid (WZ.heap[B3]? = some (.cells #[.int .i64 2, .string k1, .slice none 0 0, .int .i64 0, .int .i64 0, .int .i64 0, .string v, .bool false] 31 (0, 0))) := by show _ = _; rw [hWZ]; simp [World.setCell, Array.getElem?_modify, RS.out]
   have RZ1 : Hid (WZ.heap[B1]? = some (.cells #[.int .i64 k, .int .i64 a, .int .i64 b, .int .i64 c] 50 (0, 0))) := by show _ = _; rw [hWZ]; simp [World.setCell, Array.getElem?_modify, RS1.out, Ne.symm n13]
   have RZ2 : Hid (WZ.heap[B2]? = some (.cells zeroQ 31 (0, 0))) := by show _ = _; rw [hWZ]; simp [World.setCell, Array.getElem?_modify, RS2.out, Ne.symm n23]
   have HBZ : Hid (Below w.heap.size w WZ) := by rw [hWZ]; exact ((HBS.out.setCell (p := ⟨B3, 0, none⟩) hB3w _).setCell (p := ⟨B3, 6, none⟩) hB3w _)
   rw [← hWZ]
   clear hWZ RS RS1 RS2 HBS t0 t6 fz
   have y2 : WZ.cell? ⟨B1, 2, none⟩ = some (.int .i64 b) := cor RZ1.out rfl
   have y7 : WZ.cell? ⟨B3, 7, none⟩ = some (.bool false) := cor RZ.out rfl
   obtain ⟨q7, hq7⟩ : ∃ q7, pick b 7 = q7 := ⟨_, rfl⟩
   have HQ7 := hid hq7
   clear hq7
   have f7 : ∀ v, WZ.frozen? ⟨B3, v, none⟩ = false := fun v => frozen_of_row WZ _ _ _ _ RZ.out
   go_wp2_with fail
   refine (picked_at b 7 q7 HQ7 hb.1 hb.2 (by decide) (by decide) _).mono ?_
   rintro e wd ⟨rfl, rfl⟩
   obtain ⟨qt, hqt⟩ : ∃ qt, (q7 == (0 : Int)) = qt := ⟨_, rfl⟩
   go_upto_region 24 with (fail)
   obtain ⟨WY, hWY⟩ : ∃ W, W = WZ.setCell ⟨B3, 7, none⟩ (.bool qt) := ⟨_, rfl⟩
   have RY : Hid (WY.heap[B3]? = some (.cells #[.int .i64 2, .string k1, .slice none 0 0, .int .i64 0, .int .i64 0, .int .i64 0, .string v, .bool qt] 31 (0, 0))) := by show _ = _; rw [hWY]; simp [World.setCell, Array.getElem?_modify, RZ.out]
   have RY2 : Hid (WY.heap[B2]? = some (.cells zeroQ 31 (0, 0))) := by show _ = _; rw [hWY]; simp [World.setCell, Array.getElem?_modify, RZ2.out, Ne.symm n23]
   have HBY : Hid (Below w.heap.size w WY) := by rw [hWY]; exact HBZ.out.setCell (p := ⟨B3, 7, none⟩) hB3w _
   rw [← hWY]
   clear hWY RZ RZ1 RZ2 HBZ hqt
   go_wp2_with (first
    | refine wpList_load_row rfl 31 _ rfl B3 rfl _ _ _ _ RY.out Tryz.underlying31 rfl (by kernel_rfl) ?_
    | refine wpList_store_row rfl 31 _ _ rfl B2 _ rfl rfl _ _ RY2.out reqSize rfl (req_one _ _ _ _ _ _ _ _ _) ?_)
   refine bodyPost_ret (v := .agg #[.int .i64 2, .string k1, .slice none 0 0, .int .i64 0, .int .i64 0, .int .i64 0, .string v, .bool qt]) (results_cell rfl _ _ B2 _ rfl (run_loadVar_row _ _ _ _ _ _ _ (setRow_heap WY _ _ _ _ _ RY2.out) Tryz.underlying31 rfl reqSize)) rfl ?_
   exact ⟨Req.mk 2 k1 [] 0 0 0 v qt, none, 0, rfl, RowsAt.nil _ _ _ _, ⟨fault_quiet (r := Req.mk 2 k1 [] 0 0 0 v false) (fault_put (k := 2) (v := v) (fl := 0) (exp := 0) (n := 0) (by omega) (K8_ok _ hk1) (by omega) (by omega) (by omega) (.inr rfl) (by omega)) ⟨by show (2 : Int) ≠ 1; omega, by show (2 : Int) ≠ 13; omega⟩ qt, fun _ => hk1⟩, HBY.out.trans (Below.setRow _ B2 _ hB2w)⟩
  ·
   have hs2 : ¬ (v.size : Int) ≤ 200 := by omega
   go_upto_region 23 with (fail)
   obtain ⟨u, hu⟩ : ∃ u, u = v.extract 0 200 := ⟨_, rfl⟩
   rw [← hu]
   have hus : u.size ≤ 200 := by rw [hu, ByteArray.size_extract]; omega
   clear hu
   obtain ⟨WZ, hWZ⟩ : ∃ W, W = (((w5.setCell ⟨B3, 0, none⟩ (.int .i64 2)).setCell ⟨B3, 6, none⟩ (.string v)).setCell ⟨B3, 6, none⟩ (.string u)) := ⟨_, rfl⟩
   have RZ : Hid (WZ.heap[B3]? = some (.cells #[.int .i64 2, .string k1, .slice none 0 0, .int .i64 0, .int .i64 0, .int .i64 0, .string u, .bool false] 31 (0, 0))) := by show _ = _; rw [hWZ]; simp [World.setCell, Array.getElem?_modify, RS.out]
   have RZ1 : Hid (WZ.heap[B1]? = some (.cells #[.int .i64 k, .int .i64 a, .int .i64 b, .int .i64 c] 50 (0, 0))) := by show _ = _; rw [hWZ]; simp [World.setCell, Array.getElem?_modify, RS1.out, Ne.symm n13]
   have RZ2 : Hid (WZ.heap[B2]? = some (.cells zeroQ 31 (0, 0))) := by show _ = _; rw [hWZ]; simp [World.setCell, Array.getElem?_modify, RS2.out, Ne.symm n23]
   have HBZ : Hid (Below w.heap.size w WZ) := by rw [hWZ]; exact (((HBS.out.setCell (p := ⟨B3, 0, none⟩) hB3w _).setCell (p := ⟨B3, 6, none⟩) hB3w _).setCell (p := ⟨B3, 6, none⟩) hB3w _)
   rw [← hWZ]
   clear hWZ RS RS1 RS2 HBS t0 t6 fz
   have y2 : WZ.cell? ⟨B1, 2, none⟩ = some (.int .i64 b) := cor RZ1.out rfl
   have y7 : WZ.cell? ⟨B3, 7, none⟩ = some (.bool false) := cor RZ.out rfl
   obtain ⟨q7, hq7⟩ : ∃ q7, pick b 7 = q7 := ⟨_, rfl⟩
   have HQ7 := hid hq7
   clear hq7
   have f7 : ∀ v, WZ.frozen? ⟨B3, v, none⟩ = false := fun v => frozen_of_row WZ _ _ _ _ RZ.out
   go_wp2_with fail
   refine (picked_at b 7 q7 HQ7 hb.1 hb.2 (by decide) (by decide) _).mono ?_
   rintro e wd ⟨rfl, rfl⟩
   obtain ⟨qt, hqt⟩ : ∃ qt, (q7 == (0 : Int)) = qt := ⟨_, rfl⟩
   go_upto_region 24 with (fail)
   obtain ⟨WY, hWY⟩ : ∃ W, W = WZ.setCell ⟨B3, 7, none⟩ (.bool qt) := ⟨_, rfl⟩
   have RY : Hid (WY.heap[B3]? = some (.cells #[.int .i64 2, .string k1, .slice none 0 0, .int .i64 0, .int .i64 0, .int .i64 0, .string u, .bool qt] 31 (0, 0))) := by show _ = _; rw [hWY]; simp [World.setCell, Array.getElem?_modify, RZ.out]
   have RY2 : Hid (WY.heap[B2]? = some (.cells zeroQ 31 (0, 0))) := by show _ = _; rw [hWY]; simp [World.setCell, Array.getElem?_modify, RZ2.out, Ne.symm n23]
   have HBY : Hid (Below w.heap.size w WY) := by rw [hWY]; exact HBZ.out.setCell (p := ⟨B3, 7, none⟩) hB3w _
   rw [← hWY]
   clear hWY RZ RZ1 RZ2 HBZ hqt
   go_wp2_with (first
    | refine wpList_load_row rfl 31 _ rfl B3 rfl _ _ _ _ RY.out Tryz.underlying31 rfl (by kernel_rfl) ?_
    | refine wpList_store_row rfl 31 _ _ rfl B2 _ rfl rfl _ _ RY2.out reqSize rfl (req_one _ _ _ _ _ _ _ _ _) ?_)
   refine bodyPost_ret (v := .agg #[.int .i64 2, .string k1, .slice none 0 0, .int .i64 0, .int .i64 0, .int .i64 0, .string u, .bool qt]) (results_cell rfl _ _ B2 _ rfl (run_loadVar_row _ _ _ _ _ _ _ (setRow_heap WY _ _ _ _ _ RY2.out) Tryz.underlying31 rfl reqSize)) rfl ?_
   exact ⟨Req.mk 2 k1 [] 0 0 0 u qt, none, 0, rfl, RowsAt.nil _ _ _ _, ⟨fault_quiet (r := Req.mk 2 k1 [] 0 0 0 u false) (fault_put (k := 2) (v := u) (fl := 0) (exp := 0) (n := 0) (by omega) (K8_ok _ hk1) (by omega) (by omega) (by omega) (.inr rfl) (by omega)) ⟨by show (2 : Int) ≠ 1; omega, by show (2 : Int) ≠ 13; omega⟩ qt, fun _ => hk1⟩, HBY.out.trans (Below.setRow _ B2 _ hB2w)⟩
end Go.Proofs.YtbeegfkfpkfccaaGreatDoor.D

