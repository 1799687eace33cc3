/-
 Contract: store.Do does what the plain law says of a request. Conditions: the variables hold what they are laid with. (Printed by gen_do.py.)
-/
import Derived.Test.YtbeegfkfpkfccaaGreatDoorYCResult
import Derived.Test.YtbeegfkfpkfccaaGreatDoorYCFault
namespace Go.Proofs.YtbeegfkfpkfccaaGreatDoor.D
open Go.RowKit
theorem four_boxes (w : World) (o1 o2 o3 o4 : Obj) : ∃ W4, W4 = (((w.alloc o1).alloc o2).alloc o3).alloc o4 ∧ Below w.heap.size w W4 ∧ W4.heap[w.heap.size]? = some o1 ∧ W4.heap[w.heap.size + 1]? = some o2 ∧ W4.heap[w.heap.size + 1 + 1]? = some o3 ∧ W4.heap[w.heap.size + 1 + 1 + 1]? = some o4 := by
 obtain ⟨W3, h3, hb, h1, h2, h4⟩ := three_boxes w o1 o2 o3
 have s3 : W3.heap.size = w.heap.size + 1 + 1 + 1 := by rw [h3]; simp
 refine ⟨_, rfl, ?_, ?_, ?_, ?_, ?_⟩
 ·rw [← h3]; exact hb.alloc hb.size _
 ·rw [← h3, Below.heap_alloc _ _ _ (by omega)]; exact h1
 ·rw [← h3, Below.heap_alloc _ _ _ (by omega)]; exact h2
 ·rw [← h3, Below.heap_alloc _ _ _ (by omega)]; exact h4
 ·rw [← h3, ← s3]; exact blk_new _ _
theorem do_bad {s : Store} {r : Req} (h : s.ok = false) : doOf s r = (Store.zero, Reply.zero, 8) := by unfold doOf; rw [if_pos h]
theorem do_fault {s : Store} {r : Req} {e : Int} (h : s.ok = true) (he : r.fault = e) (h0 : e ≠ 0) : doOf s r = (Store.zero, Reply.zero, e) := by unfold doOf; rw [if_neg (by rw [h]; decide), if_pos (by rw [he]; exact h0), he]
theorem do_late {s : Store} {r : Req} (h : s.ok = true) (he : r.fault = 0) (hu : 1099511627766 < s.uses) : doOf s r = (Store.zero, Reply.zero, 2) := by unfold doOf; rw [if_neg (by rw [h]; decide), if_neg (by rw [he]; decide), if_pos hu]
theorem do_good {s : Store} {r : Req} (h : s.ok = true) (he : r.fault = 0) (hu : ¬ 1099511627766 < s.uses) : doOf s r = ((doReq s r).1, (doReq s r).2, 0) := by unfold doOf; rw [if_neg (by rw [h]; decide), if_neg (by rw [he]; decide), if_neg hu]
theorem keeper_new {w : World} {base : Nat} {s : Store} {va : Option Addr} {vc : Nat} {fa : Option Addr} {fc : Nat} {vs : List Value} (h1 : w.ownsRow base 83 9 (.slice va s.items.length vc) s.items.length (s.items.flatMap itemCells)) (h2 : PagesOwn base w (.slice fa s.flash.pages.length fc) s.flash.pages vs) (hb : base ≤ w.heap.size) :
  KeepAt base w.heap.size s va vc fa fc vs (w.alloc (.cells (storeV s va vc fa fc) 74)) := by
 have hbl : Below w.heap.size w (w.alloc (.cells (storeV s va vc fa fc) 74)) := (Below.refl _ _).alloc (Nat.le_refl _) _
 exact ⟨blk_new w _, owns_keptT h1 (KeptT.below (P := fun _ => True) hbl) trivial, h2.keptT (KeptT.below (P := fun _ => True) hbl) trivial trivial, hb⟩
theorem fault_is (r : Req) (e : Int) (he : Hid (r.fault = e)) (a : Option Addr) (c : Nat) (w : World) (h : RowsAt w a 1 strR r.keys) (hl : r.keys.length ≤ 9223372036854775807) (hk : r.key.size ≤ 9223372036854775807) :
  Calls Tryz.prog 28 #[.agg #[.int .i64 r.kind, .string r.key, .slice a r.keys.length c, .int .i64 r.flags, .int .i64 r.exp, .int .i64 r.n, .string r.value, .bool r.quiet]] w fun E w' => E = .returned (.int .i64 e) ∧ Below w.heap.size w w' := by
 have := wire_Check r a c w h hl hk
 unfold FaultEnd at this
 rwa [he.out] at this
theorem check_store (s : Store) (e : Int) (he : Hid (s.chk = e)) (a fa : Option Addr) (c fc : Nat) (w : World) (hc : Chunks w) (hI : RowsAt w a 9 ItemR s.items) (hF : RowsAt w fa 2 (PageR w) s.flash.pages) (hl : s.items.length ≤ 9223372036854775807) (hfl : s.flash.pages.length ≤ 9223372036854775807) :
  Calls Tryz.prog 17 #[.agg #[.int .i64 s.clock, .int .i64 s.cas, .int .i64 s.uses, .int .i64 s.most, .int .i64 s.h0, .int .i64 s.h1, .int .i64 s.h2, .int .i64 s.h3, .slice a s.items.length c, .int .i64 s.flash.most, .int .i64 s.flash.next, .slice fa s.flash.pages.length fc]] w fun E w' => E = .returned (.int .i64 e) ∧ Below w.heap.size w w' := by
 have := store_Check s a fa c fc w hc hI hF hl hfl
 unfold SChkEnd at this
 rwa [he.out] at this
set_option maxHeartbeats 8000000 in
set_option maxRecDepth 100000 in
theorem store_Do (s : Store) (a fa : Option Addr) (c fc : Nat) (w : World) (he : Env w) (hI : RowsAt w a 9 ItemR s.items) (hF : RowsAt w fa 2 (PageR w) s.flash.pages) (hn : s.items.length * 88 ≤ 140737488355328) (hfn : s.flash.pages.length * 32 ≤ 140737488355328)
  (r : Req) (ka : Option Addr) (kc : Nat) (hK : RowsAt w ka 1 strR r.keys) (hkl : r.keys.length ≤ 140737488355328) (hks : r.key.size ≤ 140737488355328) :
  Calls Tryz.prog 11 #[.agg #[.int .i64 s.clock, .int .i64 s.cas, .int .i64 s.uses, .int .i64 s.most, .int .i64 s.h0, .int .i64 s.h1, .int .i64 s.h2, .int .i64 s.h3, .slice a s.items.length c, .int .i64 s.flash.most, .int .i64 s.flash.next, .slice fa s.flash.pages.length fc], .agg #[.int .i64 r.kind, .string r.key, .slice ka r.keys.length kc, .int .i64 r.flags, .int .i64 r.exp, .int .i64 r.n, .string r.value, .bool r.quiet]] w (Out3 ((doOf s r).1, (doOf s r).2.1) (doOf s r).2.2 w.heap.size w) := by
 have HE := hid he
 have HI := hid hI
 have HF := hid hF
 have HK := hid hK
 clear he hI hF hK
 go_enter Tryz.func11, Tryz.ntmps11
 go_upto_region 1 with (fail)
 obtain ⟨W4, hW4, hb4, hr2, hr3, hr4, hr5⟩ := four_boxes w (.cells #[.int .i64 s.clock, .int .i64 s.cas, .int .i64 s.uses, .int .i64 s.most, .int .i64 s.h0, .int .i64 s.h1, .int .i64 s.h2, .int .i64 s.h3, .slice a s.items.length c, .int .i64 s.flash.most, .int .i64 s.flash.next, .slice fa s.flash.pages.length fc] 28) (.cells #[.int .i64 r.kind, .string r.key, .slice ka r.keys.length kc, .int .i64 r.flags, .int .i64 r.exp, .int .i64 r.n, .string r.value, .bool r.quiet] 31) (.cells #[.int .i64 0, .int .i64 0, .int .i64 0, .int .i64 0, .int .i64 0, .int .i64 0, .int .i64 0, .int .i64 0, .slice none 0 0, .int .i64 0, .int .i64 0, .slice none 0 0] 28) (.cells #[.int .i64 0, .int .i64 0, .slice none 0 0] 35)
 rw [← hW4]
 obtain ⟨B2, hB2⟩ : ∃ B, B = w.heap.size := ⟨_, rfl⟩
 obtain ⟨B3, hB3⟩ : ∃ B, B = w.heap.size + 1 := ⟨_, rfl⟩
 obtain ⟨B4, hB4⟩ : ∃ B, B = w.heap.size + 1 + 1 := ⟨_, rfl⟩
 obtain ⟨B5, hB5⟩ : ∃ B, B = w.heap.size + 1 + 1 + 1 := ⟨_, rfl⟩
 rw [← hB5] at hr5
 rw [← hB4] at hr4
 rw [← hB3] at hr3
 rw [← hB2] at hr2
 rw [← hB5, ← hB4, ← hB3, ← hB2]
 have hB4w : w.heap.size ≤ B4 := by omega
 have hB5w : w.heap.size ≤ B5 := by omega
 have h45 : B4 ≠ B5 := by omega
 have R2 := hid hr2
 have R3 := hid hr3
 have R4 := hid hr4
 have R5 := hid hr5
 have HB4 := hid hb4
 have HE4 := hid (HE.out.on hb4)
 have HI4 := hid (HI.out.keep (Below.keeps hb4) (fun _ _ h => h))
 have HF4 := hid (HF.out.keep (Below.keeps hb4) (PageR.keep (Below.keeps hb4)))
 have HK4 := hid (HK.out.keep (Below.keeps hb4) (fun _ _ h => h))
 clear hW4 hB2 hB3 hB4 hB5 hr2 hr3 hr4 hr5 hb4
 obtain ⟨ce, hce⟩ : ∃ ce, s.chk = ce := ⟨_, rfl⟩
 have HCE := hid hce
 clear hce
 go_wp2_with (refine wpList_load_row rfl 28 _ rfl B2 rfl _ _ _ _ R2.out Tryz.underlying28 rfl (by kernel_rfl) ?_)
 refine (check_store s ce HCE a fa c fc W4 HE4.out.chunks HI4.out HF4.out (by omega) (by omega)).mono ?_
 rintro e w5 ⟨rfl, hb5⟩
 have R25 := hid ((hb5.block _ (blt R2.out)).trans R2.out)
 have R35 := hid ((hb5.block _ (blt R3.out)).trans R3.out)
 have R45 := hid ((hb5.block _ (blt R4.out)).trans R4.out)
 have R55 := hid ((hb5.block _ (blt R5.out)).trans R5.out)
 have HB5 := hid (HB4.out.trans (hb5.mono HB4.out.size))
 have HI5 := hid (HI4.out.keep (Below.keeps hb5) (fun _ _ h => h))
 have HF5 := hid (HF4.out.keep (Below.keeps hb5) (PageR.keep (Below.keeps hb5)))
 have HK5 := hid (HK4.out.keep (Below.keeps hb5) (fun _ _ h => h))
 have HE5 := hid (HE4.out.on hb5)
 clear hb5 R2 R3 R4 R5 HB4 HI4 HF4 HK4 HE4
 cases hok : s.ok
 ·
  have HOK := hid hok
  have hce8 : ce = 8 := by rw [← HCE.out]; unfold Store.chk; rw [hok]; rfl
  clear hok
  subst hce8
  have z0 : w5.cell? ⟨B4, 0, none⟩ = some (.int .i64 0) := cor R45.out rfl
  have z1 : w5.cell? ⟨B4, 1, none⟩ = some (.int .i64 0) := cor R45.out rfl
  have z2 : w5.cell? ⟨B4, 2, none⟩ = some (.int .i64 0) := cor R45.out rfl
  have z3 : w5.cell? ⟨B4, 3, none⟩ = some (.int .i64 0) := cor R45.out rfl
  have z4 : w5.cell? ⟨B4, 4, none⟩ = some (.int .i64 0) := cor R45.out rfl
  have z5 : w5.cell? ⟨B4, 5, none⟩ = some (.int .i64 0) := cor R45.out rfl
  have z6 : w5.cell? ⟨B4, 6, none⟩ = some (.int .i64 0) := cor R45.out rfl
  have z7 : w5.cell? ⟨B4, 7, none⟩ = some (.int .i64 0) := cor R45.out rfl
  have z8 : w5.cell? ⟨B4, 8, none⟩ = some (.slice none 0 0) := cor R45.out rfl
  have z9 : w5.cell? ⟨B4, 9, none⟩ = some (.int .i64 0) := cor R45.out rfl
  have z10 : w5.cell? ⟨B4, 10, none⟩ = some (.int .i64 0) := cor R45.out rfl
  have z11 : w5.cell? ⟨B4, 11, none⟩ = some (.slice none 0 0) := cor R45.out rfl
  have zf : ∀ i, w5.frozen? ⟨B4, i, none⟩ = false := fun i => frozen_of_row w5 _ _ _ _ R45.out
  obtain ⟨y0, y1, y2⟩ := reply_cells R55.out
  have yf : ∀ i, w5.frozen? ⟨B5, i, none⟩ = false := fun i => frozen_of_row w5 _ _ _ _ R55.out
  have hz4 := cell_lt z0
  have hz5 := cell_lt y0
  have HDO : Hid (doOf s r = (Store.zero, Reply.zero, 8)) := by show _ = _; exact do_bad HOK.out
  go_wp2_with fail
  obtain ⟨Wt, hWt⟩ : ∃ Wt, Wt = ((((((((((((w5.setCell ⟨B4, 0, none⟩ (.int .i64 0)).setCell ⟨B4, 1, none⟩ (.int .i64 0)).setCell ⟨B4, 2, none⟩ (.int .i64 0)).setCell ⟨B4, 3, none⟩ (.int .i64 0)).setCell ⟨B4, 4, none⟩ (.int .i64 0)).setCell ⟨B4, 5, none⟩ (.int .i64 0)).setCell ⟨B4, 6, none⟩ (.int .i64 0)).setCell ⟨B4, 7, none⟩ (.int .i64 0)).setCell ⟨B4, 8, none⟩ (.slice none 0 0)).setCell ⟨B4, 9, none⟩ (.int .i64 0)).setCell ⟨B4, 10, none⟩ (.int .i64 0)).setCell ⟨B4, 11, none⟩ (.slice none 0 0)) := ⟨_, rfl⟩
  have hbt : But B4 w5 Wt := by rw [hWt]; exact but_twelve
  have hrt : Wt.heap[B4]? = some (.cells #[.int .i64 0, .int .i64 0, .int .i64 0, .int .i64 0, .int .i64 0, .int .i64 0, .int .i64 0, .int .i64 0, .slice none 0 0, .int .i64 0, .int .i64 0, .slice none 0 0] 28 (0, 0)) := by rw [hWt]; exact blk_twelve R45.out
  have hblt : Below w.heap.size w5 Wt := by rw [hWt]; exact below_twelve hB4w
  obtain ⟨Wu, hWu⟩ : ∃ Wu, Wu = ((Wt.setCell ⟨B5, 0, none⟩ (.int .i64 0)).setCell ⟨B5, 1, none⟩ (.int .i64 0)).setCell ⟨B5, 2, none⟩ (.slice none 0 0) := ⟨_, rfl⟩
  have hb5t := (hbt.2 B5 hz5 h45.symm).trans R55.out
  have hru : Wu.heap[B5]? = some (.cells #[.int .i64 0, .int .i64 0, .slice none 0 0] 35 (0, 0)) := by rw [hWu]; exact blk_three hb5t
  have hr4u : Wu.heap[B4]? = some (.cells #[.int .i64 0, .int .i64 0, .int .i64 0, .int .i64 0, .int .i64 0, .int .i64 0, .int .i64 0, .int .i64 0, .slice none 0 0, .int .i64 0, .int .i64 0, .slice none 0 0] 28 (0, 0)) := by rw [hWu]; exact blk_off (blk_off (blk_off hrt h45) h45) h45
  have hblu : Below w.heap.size w Wu := by rw [hWu]; exact ((HB5.out.trans hblt).trans (((below_set Wt (j := 0) (.int .i64 0) hB5w).trans (below_set _ (j := 1) (.int .i64 0) hB5w)).trans (below_set _ (j := 2) (.slice none 0 0) hB5w)))
  have HFIN : Hid (Out3 ((doOf s r).1, (doOf s r).2.1) (doOf s r).2.2 w.heap.size w (.returned (.tuple #[.agg #[.int .i64 0, .int .i64 0, .int .i64 0, .int .i64 0, .int .i64 0, .int .i64 0, .int .i64 0, .int .i64 0, .slice none 0 0, .int .i64 0, .int .i64 0, .slice none 0 0], .agg #[.int .i64 0, .int .i64 0, .slice none 0 0], .int .i64 8])) Wu) := by
   show Out3 _ _ _ _ _ _
   rw [HDO.out]
   exact ⟨none, 0, none, 0, [], none, 0, rfl, World.ownsRow_nil _ _ _ _, pages_nil _ _, .inl rfl, hblu⟩
  have H4 := hid hr4u
  have H5 := hid hru
  rw [← hWt, ← hWu]
  clear hWt hWu hbt hrt hblt hb5t hru hr4u hblu z0 z1 z2 z3 z4 z5 z6 z7 z8 z9 z10 z11 zf y0 y1 y2 yf
  refine bodyPost_ret (v := .tuple #[.agg #[.int .i64 0, .int .i64 0, .int .i64 0, .int .i64 0, .int .i64 0, .int .i64 0, .int .i64 0, .int .i64 0, .slice none 0 0, .int .i64 0, .int .i64 0, .slice none 0 0], .agg #[.int .i64 0, .int .i64 0, .slice none 0 0], .int .i64 8]) ?_ rfl HFIN.out
  obtain ⟨q0, q1, q2⟩ := reply_cells H5.out
  obtain ⟨p0, p1, p2, p3, p4, p5, p6, p7, p8, p9, p10, p11⟩ := store_cells (s := Store.zero) (a := none) (c := 0) (fa := none) (fc := 0) H4.out
  simp [results, Tryz.results11, go_sem, q0, q1, q2, p0, p1, p2, p3, p4, p5, p6, p7, p8, p9, p10, p11]
  first | rfl | simp [Store.zero, Flash.zero]
 have HOK := hid hok
 have hce0 : ce = 0 := by rw [← HCE.out]; unfold Store.chk; rw [hok]; rfl
 clear hok
 subst hce0
 obtain ⟨fe, hfe⟩ : ∃ fe, r.fault = fe := ⟨_, rfl⟩
 have HFE := hid hfe
 clear hfe
 go_wp2_with (refine wpList_load_row rfl 31 _ rfl B3 rfl _ _ _ _ R35.out Tryz.underlying31 rfl (by kernel_rfl) ?_)
 refine (fault_is r fe HFE ka kc w5 HK5.out (by omega) (by omega)).mono ?_
 rintro e w6 ⟨rfl, hb6⟩
 have R26 := hid ((hb6.block _ (blt R25.out)).trans R25.out)
 have R36 := hid ((hb6.block _ (blt R35.out)).trans R35.out)
 have R46 := hid ((hb6.block _ (blt R45.out)).trans R45.out)
 have R56 := hid ((hb6.block _ (blt R55.out)).trans R55.out)
 have HB6 := hid (HB5.out.trans (hb6.mono HB5.out.size))
 have HI6 := hid (HI5.out.keep (Below.keeps hb6) (fun _ _ h => h))
 have HF6 := hid (HF5.out.keep (Below.keeps hb6) (PageR.keep (Below.keeps hb6)))
 have HK6 := hid (HK5.out.keep (Below.keeps hb6) (fun _ _ h => h))
 have HE6 := hid (HE5.out.on hb6)
 clear hb6 R25 R35 R45 R55 HB5 HI5 HF5 HK5 HE5
 by_cases hf0 : fe = 0
 rotate_left
 ·
  have HF0 := hid hf0
  have f1 : (fe == 0) = false := by simp [hf0]
  have f2 : (fe != 0) = true := by simp [hf0]
  clear hf0
  have z0 : w6.cell? ⟨B4, 0, none⟩ = some (.int .i64 0) := cor R46.out rfl
  have z1 : w6.cell? ⟨B4, 1, none⟩ = some (.int .i64 0) := cor R46.out rfl
  have z2 : w6.cell? ⟨B4, 2, none⟩ = some (.int .i64 0) := cor R46.out rfl
  have z3 : w6.cell? ⟨B4, 3, none⟩ = some (.int .i64 0) := cor R46.out rfl
  have z4 : w6.cell? ⟨B4, 4, none⟩ = some (.int .i64 0) := cor R46.out rfl
  have z5 : w6.cell? ⟨B4, 5, none⟩ = some (.int .i64 0) := cor R46.out rfl
  have z6 : w6.cell? ⟨B4, 6, none⟩ = some (.int .i64 0) := cor R46.out rfl
  have z7 : w6.cell? ⟨B4, 7, none⟩ = some (.int .i64 0) := cor R46.out rfl
  have z8 : w6.cell? ⟨B4, 8, none⟩ = some (.slice none 0 0) := cor R46.out rfl
  have z9 : w6.cell? ⟨B4, 9, none⟩ = some (.int .i64 0) := cor R46.out rfl
  have z10 : w6.cell? ⟨B4, 10, none⟩ = some (.int .i64 0) := cor R46.out rfl
  have z11 : w6.cell? ⟨B4, 11, none⟩ = some (.slice none 0 0) := cor R46.out rfl
  have zf : ∀ i, w6.frozen? ⟨B4, i, none⟩ = false := fun i => frozen_of_row w6 _ _ _ _ R46.out
  obtain ⟨y0, y1, y2⟩ := reply_cells R56.out
  have yf : ∀ i, w6.frozen? ⟨B5, i, none⟩ = false := fun i => frozen_of_row w6 _ _ _ _ R56.out
  have hz4 := cell_lt z0
  have hz5 := cell_lt y0
  have HDO : Hid (doOf s r = (Store.zero, Reply.zero, fe)) := by show _ = _; exact do_fault HOK.out HFE.out HF0.out
  go_wp2_with fail
  obtain ⟨Wt, hWt⟩ : ∃ Wt, Wt = ((((((((((((w6.setCell ⟨B4, 0, none⟩ (.int .i64 0)).setCell ⟨B4, 1, none⟩ (.int .i64 0)).setCell ⟨B4, 2, none⟩ (.int .i64 0)).setCell ⟨B4, 3, none⟩ (.int .i64 0)).setCell ⟨B4, 4, none⟩ (.int .i64 0)).setCell ⟨B4, 5, none⟩ (.int .i64 0)).setCell ⟨B4, 6, none⟩ (.int .i64 0)).setCell ⟨B4, 7, none⟩ (.int .i64 0)).setCell ⟨B4, 8, none⟩ (.slice none 0 0)).setCell ⟨B4, 9, none⟩ (.int .i64 0)).setCell ⟨B4, 10, none⟩ (.int .i64 0)).setCell ⟨B4, 11, none⟩ (.slice none 0 0)) := ⟨_, rfl⟩
  have hbt : But B4 w6 Wt := by rw [hWt]; exact but_twelve
  have hrt : Wt.heap[B4]? = some (.cells #[.int .i64 0, .int .i64 0, .int .i64 0, .int .i64 0, .int .i64 0, .int .i64 0, .int .i64 0, .int .i64 0, .slice none 0 0, .int .i64 0, .int .i64 0, .slice none 0 0] 28 (0, 0)) := by rw [hWt]; exact blk_twelve R46.out
  have hblt : Below w.heap.size w6 Wt := by rw [hWt]; exact below_twelve hB4w
  obtain ⟨Wu, hWu⟩ : ∃ Wu, Wu = ((Wt.setCell ⟨B5, 0, none⟩ (.int .i64 0)).setCell ⟨B5, 1, none⟩ (.int .i64 0)).setCell ⟨B5, 2, none⟩ (.slice none 0 0) := ⟨_, rfl⟩
  have hb5t := (hbt.2 B5 hz5 h45.symm).trans R56.out
  have hru : Wu.heap[B5]? = some (.cells #[.int .i64 0, .int .i64 0, .slice none 0 0] 35 (0, 0)) := by rw [hWu]; exact blk_three hb5t
  have hr4u : Wu.heap[B4]? = some (.cells #[.int .i64 0, .int .i64 0, .int .i64 0, .int .i64 0, .int .i64 0, .int .i64 0, .int .i64 0, .int .i64 0, .slice none 0 0, .int .i64 0, .int .i64 0, .slice none 0 0] 28 (0, 0)) := by rw [hWu]; exact blk_off (blk_off (blk_off hrt h45) h45) h45
  have hblu : Below w.heap.size w Wu := by rw [hWu]; exact ((HB6.out.trans hblt).trans (((below_set Wt (j := 0) (.int .i64 0) hB5w).trans (below_set _ (j := 1) (.int .i64 0) hB5w)).trans (below_set _ (j := 2) (.slice none 0 0) hB5w)))
  have HFIN : Hid (Out3 ((doOf s r).1, (doOf s r).2.1) (doOf s r).2.2 w.heap.size w (.returned (.tuple #[.agg #[.int .i64 0, .int .i64 0, .int .i64 0, .int .i64 0, .int .i64 0, .int .i64 0, .int .i64 0, .int .i64 0, .slice none 0 0, .int .i64 0, .int .i64 0, .slice none 0 0], .agg #[.int .i64 0, .int .i64 0, .slice none 0 0], .int .i64 fe])) Wu) := by
   show Out3 _ _ _ _ _ _
   rw [HDO.out]
   exact ⟨none, 0, none, 0, [], none, 0, rfl, World.ownsRow_nil _ _ _ _, pages_nil _ _, .inl rfl, hblu⟩
  have H4 := hid hr4u
  have H5 := hid hru
  rw [← hWt, ← hWu]
  clear hWt hWu hbt hrt hblt hb5t hru hr4u hblu z0 z1 z2 z3 z4 z5 z6 z7 z8 z9 z10 z11 zf y0 y1 y2 yf
  refine bodyPost_ret (v := .tuple #[.agg #[.int .i64 0, .int .i64 0, .int .i64 0, .int .i64 0, .int .i64 0, .int .i64 0, .int .i64 0, .int .i64 0, .slice none 0 0, .int .i64 0, .int .i64 0, .slice none 0 0], .agg #[.int .i64 0, .int .i64 0, .slice none 0 0], .int .i64 fe]) ?_ rfl HFIN.out
  obtain ⟨q0, q1, q2⟩ := reply_cells H5.out
  obtain ⟨p0, p1, p2, p3, p4, p5, p6, p7, p8, p9, p10, p11⟩ := store_cells (s := Store.zero) (a := none) (c := 0) (fa := none) (fc := 0) H4.out
  simp [results, Tryz.results11, go_sem, q0, q1, q2, p0, p1, p2, p3, p4, p5, p6, p7, p8, p9, p10, p11]
  first | rfl | simp [Store.zero, Flash.zero]
 subst hf0
 have p2 : w6.cell? ⟨B2, 2, none⟩ = some (.int .i64 s.uses) := cor R26.out rfl
 have huo := ((ok_iff s).1 HOK.out).uses
 rw [show maxN = 1099511627776 from rfl] at huo
 obtain ⟨u, hu⟩ : ∃ u, u = s.uses := ⟨_, rfl⟩
 rw [← hu] at p2 huo
 have HUU := hid hu
 obtain ⟨hu0, hu1⟩ := huo
 clear hu
 by_cases hlate : 1099511627766 < u
 ·
  have z0 : w6.cell? ⟨B4, 0, none⟩ = some (.int .i64 0) := cor R46.out rfl
  have z1 : w6.cell? ⟨B4, 1, none⟩ = some (.int .i64 0) := cor R46.out rfl
  have z2 : w6.cell? ⟨B4, 2, none⟩ = some (.int .i64 0) := cor R46.out rfl
  have z3 : w6.cell? ⟨B4, 3, none⟩ = some (.int .i64 0) := cor R46.out rfl
  have z4 : w6.cell? ⟨B4, 4, none⟩ = some (.int .i64 0) := cor R46.out rfl
  have z5 : w6.cell? ⟨B4, 5, none⟩ = some (.int .i64 0) := cor R46.out rfl
  have z6 : w6.cell? ⟨B4, 6, none⟩ = some (.int .i64 0) := cor R46.out rfl
  have z7 : w6.cell? ⟨B4, 7, none⟩ = some (.int .i64 0) := cor R46.out rfl
  have z8 : w6.cell? ⟨B4, 8, none⟩ = some (.slice none 0 0) := cor R46.out rfl
  have z9 : w6.cell? ⟨B4, 9, none⟩ = some (.int .i64 0) := cor R46.out rfl
  have z10 : w6.cell? ⟨B4, 10, none⟩ = some (.int .i64 0) := cor R46.out rfl
  have z11 : w6.cell? ⟨B4, 11, none⟩ = some (.slice none 0 0) := cor R46.out rfl
  have zf : ∀ i, w6.frozen? ⟨B4, i, none⟩ = false := fun i => frozen_of_row w6 _ _ _ _ R46.out
  obtain ⟨y0, y1, y2⟩ := reply_cells R56.out
  have yf : ∀ i, w6.frozen? ⟨B5, i, none⟩ = false := fun i => frozen_of_row w6 _ _ _ _ R56.out
  have hz4 := cell_lt z0
  have hz5 := cell_lt y0
  have HDO : Hid (doOf s r = (Store.zero, Reply.zero, 2)) := by show _ = _; exact do_late HOK.out HFE.out (by rw [← HUU.out]; exact hlate)
  go_wp2_with fail
  obtain ⟨Wt, hWt⟩ : ∃ Wt, Wt = ((((((((((((w6.setCell ⟨B4, 0, none⟩ (.int .i64 0)).setCell ⟨B4, 1, none⟩ (.int .i64 0)).setCell ⟨B4, 2, none⟩ (.int .i64 0)).setCell ⟨B4, 3, none⟩ (.int .i64 0)).setCell ⟨B4, 4, none⟩ (.int .i64 0)).setCell ⟨B4, 5, none⟩ (.int .i64 0)).setCell ⟨B4, 6, none⟩ (.int .i64 0)).setCell ⟨B4, 7, none⟩ (.int .i64 0)).setCell ⟨B4, 8, none⟩ (.slice none 0 0)).setCell ⟨B4, 9, none⟩ (.int .i64 0)).setCell ⟨B4, 10, none⟩ (.int .i64 0)).setCell ⟨B4, 11, none⟩ (.slice none 0 0)) := ⟨_, rfl⟩
  have hbt : But B4 w6 Wt := by rw [hWt]; exact but_twelve
  have hrt : Wt.heap[B4]? = some (.cells #[.int .i64 0, .int .i64 0, .int .i64 0, .int .i64 0, .int .i64 0, .int .i64 0, .int .i64 0, .int .i64 0, .slice none 0 0, .int .i64 0, .int .i64 0, .slice none 0 0] 28 (0, 0)) := by rw [hWt]; exact blk_twelve R46.out
  have hblt : Below w.heap.size w6 Wt := by rw [hWt]; exact below_twelve hB4w
  obtain ⟨Wu, hWu⟩ : ∃ Wu, Wu = ((Wt.setCell ⟨B5, 0, none⟩ (.int .i64 0)).setCell ⟨B5, 1, none⟩ (.int .i64 0)).setCell ⟨B5, 2, none⟩ (.slice none 0 0) := ⟨_, rfl⟩
  have hb5t := (hbt.2 B5 hz5 h45.symm).trans R56.out
  have hru : Wu.heap[B5]? = some (.cells #[.int .i64 0, .int .i64 0, .slice none 0 0] 35 (0, 0)) := by rw [hWu]; exact blk_three hb5t
  have hr4u : Wu.heap[B4]? = some (.cells #[.int .i64 0, .int .i64 0, .int .i64 0, .int .i64 0, .int .i64 0, .int .i64 0, .int .i64 0, .int .i64 0, .slice none 0 0, .int .i64 0, .int .i64 0, .slice none 0 0] 28 (0, 0)) := by rw [hWu]; exact blk_off (blk_off (blk_off hrt h45) h45) h45
  have hblu : Below w.heap.size w Wu := by rw [hWu]; exact ((HB6.out.trans hblt).trans (((below_set Wt (j := 0) (.int .i64 0) hB5w).trans (below_set _ (j := 1) (.int .i64 0) hB5w)).trans (below_set _ (j := 2) (.slice none 0 0) hB5w)))
  have HFIN : Hid (Out3 ((doOf s r).1, (doOf s r).2.1) (doOf s r).2.2 w.heap.size w (.returned (.tuple #[.agg #[.int .i64 0, .int .i64 0, .int .i64 0, .int .i64 0, .int .i64 0, .int .i64 0, .int .i64 0, .int .i64 0, .slice none 0 0, .int .i64 0, .int .i64 0, .slice none 0 0], .agg #[.int .i64 0, .int .i64 0, .slice none 0 0], .int .i64 2])) Wu) := by
   show Out3 _ _ _ _ _ _
   rw [HDO.out]
   exact ⟨none, 0, none, 0, [], none, 0, rfl, World.ownsRow_nil _ _ _ _, pages_nil _ _, .inl rfl, hblu⟩
  have H4 := hid hr4u
  have H5 := hid hru
  rw [← hWt, ← hWu]
  clear hWt hWu hbt hrt hblt hb5t hru hr4u hblu z0 z1 z2 z3 z4 z5 z6 z7 z8 z9 z10 z11 zf y0 y1 y2 yf
  refine bodyPost_ret (v := .tuple #[.agg #[.int .i64 0, .int .i64 0, .int .i64 0, .int .i64 0, .int .i64 0, .int .i64 0, .int .i64 0, .int .i64 0, .slice none 0 0, .int .i64 0, .int .i64 0, .slice none 0 0], .agg #[.int .i64 0, .int .i64 0, .slice none 0 0], .int .i64 2]) ?_ rfl HFIN.out
  obtain ⟨q0, q1, q2⟩ := reply_cells H5.out
  obtain ⟨p0, p1, p2, p3, p4, p5, p6, p7, p8, p9, p10, p11⟩ := store_cells (s := Store.zero) (a := none) (c := 0) (fa := none) (fc := 0) H4.out
  simp [results, Tryz.results11, go_sem, q0, q1, q2, p0, p1, p2, p3, p4, p5, p6, p7, p8, p9, p10, p11]
  first | rfl | simp [Store.zero, Flash.zero]
 ·
  have HDO : Hid (doOf s r = ((doReq s r).1, (doReq s r).2, 0)) := do_good HOK.out HFE.out (by rw [← HUU.out]; exact hlate)
  go_wp2_with (first
   | (refine wpList_load_row rfl 28 _ rfl B2 rfl _ _ _ _ R26.out Tryz.underlying28 rfl (by kernel_rfl) ?_))
  clear p2
  refine (store_Copy s a fa c fc w6 HI6.out HF6.out hn hfn).mono ?_
  rintro e w7 ⟨va7, vc7, fa7, fc7, vs7, rfl, how7, hpg7, hb7⟩
  have R37 := hid ((hb7.block _ (blt R36.out)).trans R36.out)
  have R47 := hid ((hb7.block _ (blt R46.out)).trans R46.out)
  have R57 := hid ((hb7.block _ (blt R56.out)).trans R56.out)
  have HB7 := hid (HB6.out.trans (hb7.mono HB6.out.size))
  have HE7 := hid (HE6.out.on hb7)
  have HK7 := hid (HK6.out.keep (Below.keeps hb7) (fun _ _ h => h))
  have HKN := hid (keeper_new how7 hpg7 hb7.size)
  have hsz67 := hb7.size
  have HB67 := hid hb7
  have HGL := hid HE6.out.globs
  simp only [storeV]
  clear how7 hpg7 hb7
  go_upto_region 10 with (fail)
  obtain ⟨W8, hW8⟩ : ∃ W8, W8 = w7.alloc (.cells (storeV s va7 vc7 fa7 fc7) 74) := ⟨_, rfl⟩
  have hb8 := below_new hW8
  rw [← hW8] at HKN
  show Code.wp _ _ _ _ (w7.alloc (.cells (storeV s va7 vc7 fa7 fc7) 74))
  rw [← hW8]
  clear hW8
  have R38 := hid ((hb8.block _ (blt R37.out)).trans R37.out)
  have R48 := hid ((hb8.block _ (blt R47.out)).trans R47.out)
  have R58 := hid ((hb8.block _ (blt R57.out)).trans R57.out)
  have HB68 : Hid (Below w6.heap.size w6 W8) := HB67.out.trans (hb8.mono hsz67)
  have HB8 := hid (HB6.out.trans (HB68.out.mono HB6.out.size))
  have HE8 := hid (HE7.out.on hb8)
  have hl46 := (blt R46.out)
  have hl56 := (blt R56.out)
  have hlate2 : s.uses ≤ 1099511627766 := by rw [← HUU.out]; omega
  have HLT := hid hlate2
  obtain ⟨⟨ts, ⟨tk, tn, th⟩⟩, hT⟩ : ∃ T, T = doReq s r := ⟨_, rfl⟩
  have HT := hid hT
  clear hT hlate2 hlate hb8 R37 R47 R57 HB7 HE7 HK7
  go_wp2_with (refine wpList_load_row rfl 31 _ rfl B3 rfl _ _ _ _ R38.out Tryz.underlying31 rfl (by kernel_rfl) ?_)
  refine (keeper_result W8 HKN.out ((ok_iff s).1 HOK.out) HE8.out HGL.out r ka kc (rok HFE.out) (fun w' hw' => HK6.out.keep (Below.keeps (HB68.out.trans hw')) (fun _ _ h => h)) HLT.out).mono ?_
  rw [← HT.out]
  rintro e w9 ⟨va8, vc8, fa8, fc8, vs8, ha, hc, rfl, how9, hpg9, hh9, hb9⟩
  have R49 := hid ((hb9.block _ hl46).trans R48.out)
  have R59 := hid ((hb9.block _ hl56).trans R58.out)
  have HB9 := hid (HB8.out.trans (hb9.mono HB6.out.size))
  have HOW9 := hid how9
  have HPG9 := hid hpg9
  have HH9 := hid hh9
  simp only [replyCells, storeV]
  obtain ⟨m, hm⟩ : ∃ m, m = th.length := ⟨_, rfl⟩
  rw [← hm]
  have HM := hid hm
  clear how9 hpg9 hh9 hb9 hm hl46 hl56
  have z0 : w9.cell? ⟨B4, 0, none⟩ = some (.int .i64 0) := cor R49.out rfl
  have z1 : w9.cell? ⟨B4, 1, none⟩ = some (.int .i64 0) := cor R49.out rfl
  have z2 : w9.cell? ⟨B4, 2, none⟩ = some (.int .i64 0) := cor R49.out rfl
  have z3 : w9.cell? ⟨B4, 3, none⟩ = some (.int .i64 0) := cor R49.out rfl
  have z4 : w9.cell? ⟨B4, 4, none⟩ = some (.int .i64 0) := cor R49.out rfl
  have z5 : w9.cell? ⟨B4, 5, none⟩ = some (.int .i64 0) := cor R49.out rfl
  have z6 : w9.cell? ⟨B4, 6, none⟩ = some (.int .i64 0) := cor R49.out rfl
  have z7 : w9.cell? ⟨B4, 7, none⟩ = some (.int .i64 0) := cor R49.out rfl
  have z8 : w9.cell? ⟨B4, 8, none⟩ = some (.slice none 0 0) := cor R49.out rfl
  have z9 : w9.cell? ⟨B4, 9, none⟩ = some (.int .i64 0) := cor R49.out rfl
  have z10 : w9.cell? ⟨B4, 10, none⟩ = some (.int .i64 0) := cor R49.out rfl
  have z11 : w9.cell? ⟨B4, 11, none⟩ = some (.slice none 0 0) := cor R49.out rfl
  have zf : ∀ i, w9.frozen? ⟨B4, i, none⟩ = false := fun i => frozen_of_row w9 _ _ _ _ R49.out
  obtain ⟨y0, y1, y2⟩ := reply_cells R59.out
  have yf : ∀ i, w9.frozen? ⟨B5, i, none⟩ = false := fun i => frozen_of_row w9 _ _ _ _ R59.out
  have hz4 := cell_lt z0
  have hz5 := cell_lt y0
  go_wp2_with fail
  obtain ⟨Wt, hWt⟩ : ∃ Wt, Wt = ((((((((((((w9.setCell ⟨B4, 0, none⟩ (.int .i64 ts.clock)).setCell ⟨B4, 1, none⟩ (.int .i64 ts.cas)).setCell ⟨B4, 2, none⟩ (.int .i64 ts.uses)).setCell ⟨B4, 3, none⟩ (.int .i64 ts.most)).setCell ⟨B4, 4, none⟩ (.int .i64 ts.h0)).setCell ⟨B4, 5, none⟩ (.int .i64 ts.h1)).setCell ⟨B4, 6, none⟩ (.int .i64 ts.h2)).setCell ⟨B4, 7, none⟩ (.int .i64 ts.h3)).setCell ⟨B4, 8, none⟩ (.slice va8 ts.items.length vc8)).setCell ⟨B4, 9, none⟩ (.int .i64 ts.flash.most)).setCell ⟨B4, 10, none⟩ (.int .i64 ts.flash.next)).setCell ⟨B4, 11, none⟩ (.slice fa8 ts.flash.pages.length fc8)) := ⟨_, rfl⟩
  have hbt : But B4 w9 Wt := by rw [hWt]; exact but_twelve
  have hrt : Wt.heap[B4]? = some (.cells #[.int .i64 ts.clock, .int .i64 ts.cas, .int .i64 ts.uses, .int .i64 ts.most, .int .i64 ts.h0, .int .i64 ts.h1, .int .i64 ts.h2, .int .i64 ts.h3, .slice va8 ts.items.length vc8, .int .i64 ts.flash.most, .int .i64 ts.flash.next, .slice fa8 ts.flash.pages.length fc8] 28 (0, 0)) := by rw [hWt]; exact blk_twelve R49.out
  have hblt : Below w.heap.size w9 Wt := by rw [hWt]; exact below_twelve hB4w
  obtain ⟨Wu, hWu⟩ : ∃ Wu, Wu = ((Wt.setCell ⟨B5, 0, none⟩ (.int .i64 tk)).setCell ⟨B5, 1, none⟩ (.int .i64 tn)).setCell ⟨B5, 2, none⟩ (.slice ha m hc) := ⟨_, rfl⟩
  have hb5t := (hbt.2 B5 hz5 h45.symm).trans R59.out
  have hbu : But B5 Wt Wu := by rw [hWu]; exact (But.set.trans But.set).trans But.set
  have hru : Wu.heap[B5]? = some (.cells #[.int .i64 tk, .int .i64 tn, .slice ha m hc] 35 (0, 0)) := by rw [hWu]; exact blk_three hb5t
  have hr4u : Wu.heap[B4]? = some (.cells #[.int .i64 ts.clock, .int .i64 ts.cas, .int .i64 ts.uses, .int .i64 ts.most, .int .i64 ts.h0, .int .i64 ts.h1, .int .i64 ts.h2, .int .i64 ts.h3, .slice va8 ts.items.length vc8, .int .i64 ts.flash.most, .int .i64 ts.flash.next, .slice fa8 ts.flash.pages.length fc8] 28 (0, 0)) := by rw [hWu]; exact blk_off (blk_off (blk_off hrt h45) h45) h45
  have hblu : Below w.heap.size w Wu := by rw [hWu]; exact ((HB9.out.trans hblt).trans (((below_set Wt (j := 0) (.int .i64 tk) hB5w).trans (below_set _ (j := 1) (.int .i64 tn) hB5w)).trans (below_set _ (j := 2) (.slice ha m hc) hB5w)))
  have hk1 := But.keptT R49.out hbt
  have hk2 := But.keptT hb5t hbu
  have HFIN : Hid (Out3 ((doOf s r).1, (doOf s r).2.1) (doOf s r).2.2 w.heap.size w (.returned (.tuple #[.agg #[.int .i64 ts.clock, .int .i64 ts.cas, .int .i64 ts.uses, .int .i64 ts.most, .int .i64 ts.h0, .int .i64 ts.h1, .int .i64 ts.h2, .int .i64 ts.h3, .slice va8 ts.items.length vc8, .int .i64 ts.flash.most, .int .i64 ts.flash.next, .slice fa8 ts.flash.pages.length fc8], .agg #[.int .i64 tk, .int .i64 tn, .slice ha m hc], .int .i64 0])) Wu) := by
   show Out3 _ _ _ _ _ _
   rw [HDO.out, ← HT.out]
   refine ⟨va8, vc8, fa8, fc8, vs8, ha, hc, by rw [HM.out]; rfl, ?_, ?_, hits_but (hits_but HH9.out hbt R49.out rfl) hbu hb5t rfl, hblu⟩
   ·exact owns_base (owns_keptT (owns_keptT HOW9.out hk1 (by decide)) hk2 (by decide)) HB6.out.size
   ·exact ((HPG9.out.keptT hk1 (by decide) (by decide)).keptT hk2 (by decide) (by decide)).base HB6.out.size
  have H4 := hid hr4u
  have H5 := hid hru
  rw [← hWt, ← hWu]
  clear hWt hWu hbt hrt hblt hb5t hru hr4u hblu hbu hk1 hk2 z0 z1 z2 z3 z4 z5 z6 z7 z8 z9 z10 z11 zf y0 y1 y2 yf
  refine bodyPost_ret (v := .tuple #[.agg #[.int .i64 ts.clock, .int .i64 ts.cas, .int .i64 ts.uses, .int .i64 ts.most, .int .i64 ts.h0, .int .i64 ts.h1, .int .i64 ts.h2, .int .i64 ts.h3, .slice va8 ts.items.length vc8, .int .i64 ts.flash.most, .int .i64 ts.flash.next, .slice fa8 ts.flash.pages.length fc8], .agg #[.int .i64 tk, .int .i64 tn, .slice ha m hc], .int .i64 0]) ?_ rfl HFIN.out
  obtain ⟨q0, q1, q2⟩ := reply_cells H5.out
  obtain ⟨p0, p1, p2, p3, p4, p5, p6, p7, p8, p9, p10, p11⟩ := store_cells (s := ts) (a := va8) (c := vc8) (fa := fa8) (fc := fc8) H4.out
  simp [results, Tryz.results11, go_sem, q0, q1, q2, p0, p1, p2, p3, p4, p5, p6, p7, p8, p9, p10, p11]
end Go.Proofs.YtbeegfkfpkfccaaGreatDoor.D

