/-
 Contract: keeper.result. Conditions: the variables hold what they are laid with.
-/
import Derived.Test.YtbeegfkfpkfccaaGreatDoorYCDoK
namespace Go.Proofs.YtbeegfkfpkfccaaGreatDoor.D
open Go.RowKit
section
variable {base g : Nat} {s : Store} {va : Option Addr} {vc : Nat} {fa : Option Addr} {fc : Nat} {vs : List Value}
def Out3 (t : Store × Reply) (n : Int) (base : Nat) (w : World) (E : Ending) (w' : World) : Prop :=
 ∃ va vc fa fc vs ha hc, E = .returned (.tuple #[.agg (storeV t.1 va vc fa fc), .agg (replyCells t.2 ha hc), .int .i64 n]) ∧ w'.ownsRow base 83 9 (.slice va t.1.items.length vc) t.1.items.length (t.1.items.flatMap itemCells) ∧ PagesOwn base w' (.slice fa t.1.flash.pages.length fc) t.1.flash.pages vs ∧ RowsAt w' ha 4 HitR t.2.hits ∧ Below base w w'
def noStr : Value → Bool
 | .string _ => false
 | _ => true
theorem hits_but {w w' : World} {a : Option Addr} {l : List Hit} {B T : Nat} {cs : Array Value} {fr : Nat × Nat} (h : RowsAt w a 4 HitR l) (hb : But B w w') (hB : w.heap[B]? = some (.cells cs T fr)) (hn : cs.toList.all noStr = true) : RowsAt w' a 4 HitR l := by
 rcases h with h | ⟨b, o, ha, hc⟩
 ·exact .inl h
 ·refine .inr ⟨b, o, ha, fun i hi => ?_⟩
  obtain ⟨ds, hl, hR, h3⟩ := hc i hi;refine ⟨ds, hl, hR, fun j v hj => ?_⟩;have hcell := h3 j v hj;have h0 := h3 0 (.string l[i].key) (by rw [hR.1]; rfl)
  have hne : b ≠ B := fun e => by
   subst e;rw [cell_of_row w _ _ _ _ _ hB, ← Array.getElem?_toList] at h0;have := List.all_eq_true.1 hn _ (List.mem_of_getElem? h0)
   cases this
  exact (World.cell?_of_block (w := w) (hb.2 b (cell_lt hcell) hne)).trans hcell
theorem keep_but {w w' : World} {B : Nat} {cs : Array Value} {T : TypeId} {fr : Nat × Nat} (h : KeepAt base g s va vc fa fc vs w) (hb : But B w w') (hB : w.heap[B]? = some (.cells cs T fr)) (h1 : T ≠ 74) (h2 : T ≠ 83) (h3 : T ≠ 98) (h4 : T ≠ 5) : KeepAt base g s va vc fa fc vs w' :=
 h.typed (But.keptT hB hb) h1.symm h2.symm h3.symm h4.symm
theorem blk_twelve {w : World} {B : Nat} {T : TypeId} {fr : Nat × Nat} {a0 a1 a2 a3 a4 a5 a6 a7 a8 a9 a10 a11 x0 x1 x2 x3 x4 x5 x6 x7 x8 x9 x10 x11 : Value} (h : w.heap[B]? = some (.cells #[a0, a1, a2, a3, a4, a5, a6, a7, a8, a9, a10, a11] T fr)) :
  ((((((((((((w.setCell ⟨B, 0, none⟩ x0).setCell ⟨B, 1, none⟩ x1).setCell ⟨B, 2, none⟩ x2).setCell ⟨B, 3, none⟩ x3).setCell ⟨B, 4, none⟩ x4).setCell ⟨B, 5, none⟩ x5).setCell ⟨B, 6, none⟩ x6).setCell ⟨B, 7, none⟩ x7).setCell ⟨B, 8, none⟩ x8).setCell ⟨B, 9, none⟩ x9).setCell ⟨B, 10, none⟩ x10).setCell ⟨B, 11, none⟩ x11).heap[B]? =
   some (.cells #[x0, x1, x2, x3, x4, x5, x6, x7, x8, x9, x10, x11] T fr) := by
 simp [World.setCell, Array.getElem?_modify, h]
theorem but_twelve {w : World} {B : Nat} {x0 x1 x2 x3 x4 x5 x6 x7 x8 x9 x10 x11 : Value} :
  But B w ((((((((((((w.setCell ⟨B, 0, none⟩ x0).setCell ⟨B, 1, none⟩ x1).setCell ⟨B, 2, none⟩ x2).setCell ⟨B, 3, none⟩ x3).setCell ⟨B, 4, none⟩ x4).setCell ⟨B, 5, none⟩ x5).setCell ⟨B, 6, none⟩ x6).setCell ⟨B, 7, none⟩ x7).setCell ⟨B, 8, none⟩ x8).setCell ⟨B, 9, none⟩ x9).setCell ⟨B, 10, none⟩ x10).setCell ⟨B, 11, none⟩ x11) :=
 ((((((((((But.set.trans But.set).trans But.set).trans But.set).trans But.set).trans But.set).trans But.set).trans But.set).trans But.set).trans But.set).trans But.set).trans But.set
theorem below_twelve {b B : Nat} {w : World} {x0 x1 x2 x3 x4 x5 x6 x7 x8 x9 x10 x11 : Value} (h : b ≤ B) :
  Below b w ((((((((((((w.setCell ⟨B, 0, none⟩ x0).setCell ⟨B, 1, none⟩ x1).setCell ⟨B, 2, none⟩ x2).setCell ⟨B, 3, none⟩ x3).setCell ⟨B, 4, none⟩ x4).setCell ⟨B, 5, none⟩ x5).setCell ⟨B, 6, none⟩ x6).setCell ⟨B, 7, none⟩ x7).setCell ⟨B, 8, none⟩ x8).setCell ⟨B, 9, none⟩ x9).setCell ⟨B, 10, none⟩ x10).setCell ⟨B, 11, none⟩ x11) :=
 ((((((((((((below_set w _ h).trans (below_set _ _ h)).trans (below_set _ _ h)).trans (below_set _ _ h)).trans (below_set _ _ h)).trans (below_set _ _ h)).trans (below_set _ _ h)).trans (below_set _ _ h)).trans (below_set _ _ h)).trans (below_set _ _ h)).trans (below_set _ _ h)).trans (below_set _ _ h))
theorem store_cells {w : World} {B T : Nat} {a c fa fc} {s : Store} (h : w.heap[B]? = some (.cells (storeV s a c fa fc) T (0, 0))) :
  w.cell? ⟨B, 0, none⟩ = some (.int .i64 s.clock) ∧ w.cell? ⟨B, 1, none⟩ = some (.int .i64 s.cas) ∧ w.cell? ⟨B, 2, none⟩ = some (.int .i64 s.uses) ∧ w.cell? ⟨B, 3, none⟩ = some (.int .i64 s.most) ∧ w.cell? ⟨B, 4, none⟩ = some (.int .i64 s.h0) ∧ w.cell? ⟨B, 5, none⟩ = some (.int .i64 s.h1) ∧
  w.cell? ⟨B, 6, none⟩ = some (.int .i64 s.h2) ∧ w.cell? ⟨B, 7, none⟩ = some (.int .i64 s.h3) ∧ w.cell? ⟨B, 8, none⟩ = some (.slice a s.items.length c) ∧ w.cell? ⟨B, 9, none⟩ = some (.int .i64 s.flash.most) ∧ w.cell? ⟨B, 10, none⟩ = some (.int .i64 s.flash.next) ∧ w.cell? ⟨B, 11, none⟩ = some (.slice fa s.flash.pages.length fc) := by
 refine ⟨?_, ?_, ?_, ?_, ?_, ?_, ?_, ?_, ?_, ?_, ?_, ?_⟩ <;> (rw [cell_of_row w _ _ _ _ _ h]; rfl)
theorem three_boxes (w : World) (o1 o2 o3 : Obj) : ∃ W3, W3 = ((w.alloc o1).alloc o2).alloc o3 ∧ Below w.heap.size w W3 ∧ W3.heap[w.heap.size]? = some o1 ∧ W3.heap[w.heap.size + 1]? = some o2 ∧ W3.heap[w.heap.size + 1 + 1]? = some o3 := by
 have s1 : (w.alloc o1).heap.size = w.heap.size + 1 := by simp
 have s2 : ((w.alloc o1).alloc o2).heap.size = w.heap.size + 1 + 1 := by simp
 refine ⟨_, rfl, by go_grown, ?_, ?_, ?_⟩
 ·rw [Below.heap_alloc _ _ _ (by rw [s2]; omega), Below.heap_alloc _ _ _ (by rw [s1]; omega)]
  exact blk_new w _
 ·rw [Below.heap_alloc _ _ _ (by rw [s2]; omega), ← s1]
  exact blk_new _ _
 ·rw [← s2]
  exact blk_new _ _
set_option maxHeartbeats 4000000 in
set_option maxRecDepth 100000 in
theorem keeper_result (w : World) (h : KeepAt base g s va vc fa fc vs w) (hs : SOk s) (he : Env w) (hG : Globs base) (r : Req) (ka : Option Addr) (kc : Nat) (hr : ROk r) (hk : ∀ w', Below base w w' → RowsAt w' ka 1 strR r.keys) (hu : s.uses ≤ 1099511627766) :
  Calls Tryz.prog 30 #[.pointer (some ⟨g, 0, none⟩), .agg #[.int .i64 r.kind, .string r.key, .slice ka r.keys.length kc, .int .i64 r.flags, .int .i64 r.exp, .int .i64 r.n, .string r.value, .bool r.quiet]] w (Out3 (doReq s r) 0 base w) := by
 have H := hid h;have HS := hid hs;have HE := hid he;have HG := hid hG;have HRO := hid hr;have HKY := hid hk;have HU := hid hu;have hbase := h.base_le;clear h hs he hG hr hk hu
 go_enter Tryz.func30, Tryz.ntmps30
 go_upto_region 1 with (fail);obtain ⟨W3, hW3, hb3, hr3, hr4, hr5⟩ := three_boxes w (.cells #[.int .i64 r.kind, .string r.key, .slice ka r.keys.length kc, .int .i64 r.flags, .int .i64 r.exp, .int .i64 r.n, .string r.value, .bool r.quiet] 31) (.cells #[.int .i64 0, .int .i64 0, .int .i64 0, .int .i64 0, .int .i64 0, .int .i64 0, .int .i64 0, .int .i64 0, .slice none 0 0, .int .i64 0, .int .i64 0, .slice none 0 0] 28) (.cells #[.int .i64 0, .int .i64 0, .slice none 0 0] 35);rw [← hW3];obtain ⟨B3, hB3⟩ : ∃ B, B = w.heap.size := ⟨_, rfl⟩;obtain ⟨B4, hB4⟩ : ∃ B, B = w.heap.size + 1 := ⟨_, rfl⟩;obtain ⟨B5, hB5⟩ : ∃ B, B = w.heap.size + 1 + 1 := ⟨_, rfl⟩;rw [← hB5] at hr5;rw [← hB4] at hr4;rw [← hB3] at hr3;rw [← hB5, ← hB4, ← hB3];have hB4b : base ≤ B4 := by omega
 have hB5b : base ≤ B5 := by omega
 have R3 := hid hr3;have R4 := hid hr4;have R5 := hid hr5;have HB3 := hid hb3;have K3 := hid (H.out.below hb3);have HE3 := hid (HE.out.on hb3);clear hW3 hB3 hB4 hB5 hr3 hr4 hr5 hb3 H;obtain ⟨⟨ts, ⟨tkd, tn, th⟩⟩, hT⟩ : ∃ T, T = doReq s r := ⟨_, rfl⟩;have HT := hid hT;clear hT
 go_wp2_with (refine wpList_load_row rfl 31 _ rfl B3 rfl _ _ _ _ R3.out Tryz.underlying31 rfl (by kernel_rfl) ?_)
 refine (do_named HT rfl (keeper_do W3 K3.out HS.out HE3.out HG.out r ka kc HRO.out (fun w' hw' => HKY.out w' ((HB3.out.mono hbase).trans hw')) HU.out)).mono ?_;rintro e w4 ⟨ha, hc, rfl, hh, ⟨va4, vc4, fa4, fc4, vs4, hk4⟩, hb4, ht4⟩;have R44 := hid ((ht4 _ _ _ _ R4.out ⟨by decide, by decide⟩).trans R4.out);have R54 := hid ((ht4 _ _ _ _ R5.out ⟨by decide, by decide⟩).trans R5.out);have K4 := hid hk4;have HB4 := hid ((HB3.out.mono hbase).trans hb4);have HH := hid hh;simp only [replyCells] at hh ⊢;obtain ⟨m, hm⟩ : ∃ m, m = th.length := ⟨_, rfl⟩;rw [← hm];have HM := hid hm;clear hh hk4 hb4 ht4 hm;go_upto_region 2 with (fail);obtain ⟨W5, hW5⟩ : ∃ W5, W5 = w4.alloc (.cells #[.int .i64 tkd, .int .i64 tn, .slice ha m hc] 35) := ⟨_, rfl⟩;have hb5 := below_new hW5;have R75 : Hid (W5.heap[w4.heap.size]? = some (.cells #[.int .i64 tkd, .int .i64 tn, .slice ha m hc] 35 (0, 0))) := by show _ = _; rw [hW5]; exact blk_new w4 _
 rw [← hW5];clear hW5;obtain ⟨B7, hB7⟩ : ∃ B, B = w4.heap.size := ⟨_, rfl⟩;rw [← hB7] at R75 ⊢;have R45 := hid (bkp hb5 R44.out);have R55 := hid (bkp hb5 R54.out);have h57 : B5 ≠ B7 := by have := (blt R54.out); omega
 have h47 : B4 ≠ B7 := blk_ne R45.out R75.out (by decide);have h45 : B4 ≠ B5 := blk_ne R45.out R55.out (by decide);have K5 := hid (K4.out.below hb5);have HB5 := hid (HB4.out.trans (hb5.mono K4.out.base_le));have HH5 := hid (HH.out.keep (Below.keeps hb5) (fun _ _ h => h));have RK : Hid (W5.heap[g]? = some (.cells #[.int .i64 ts.clock, .int .i64 ts.cas, .int .i64 ts.uses, .int .i64 ts.most, .int .i64 ts.h0, .int .i64 ts.h1, .int .i64 ts.h2, .int .i64 ts.h3, .slice va4 ts.items.length vc4, .int .i64 ts.flash.most, .int .i64 ts.flash.next, .slice fa4 ts.flash.pages.length fc4] 74 (0, 0))) := K5.out.row;have hg4 : g ≠ B4 := blk_ne RK.out R45.out (by decide);have hg5 : g ≠ B5 := blk_ne RK.out R55.out (by decide);clear hb5 hB7 K4 HB4 HH R44 R54 K3 HE3 HB3 R3 R4 R5;have z0 : W5.cell? ⟨B4, 0, none⟩ = some (.int .i64 0) := cor R45.out rfl;have z1 : W5.cell? ⟨B4, 1, none⟩ = some (.int .i64 0) := cor R45.out rfl;have z2 : W5.cell? ⟨B4, 2, none⟩ = some (.int .i64 0) := cor R45.out rfl;have z3 : W5.cell? ⟨B4, 3, none⟩ = some (.int .i64 0) := cor R45.out rfl;have z4 : W5.cell? ⟨B4, 4, none⟩ = some (.int .i64 0) := cor R45.out rfl;have z5 : W5.cell? ⟨B4, 5, none⟩ = some (.int .i64 0) := cor R45.out rfl;have z6 : W5.cell? ⟨B4, 6, none⟩ = some (.int .i64 0) := cor R45.out rfl;have z7 : W5.cell? ⟨B4, 7, none⟩ = some (.int .i64 0) := cor R45.out rfl;have z8 : W5.cell? ⟨B4, 8, none⟩ = some (.slice none 0 0) := cor R45.out rfl;have z9 : W5.cell? ⟨B4, 9, none⟩ = some (.int .i64 0) := cor R45.out rfl;have z10 : W5.cell? ⟨B4, 10, none⟩ = some (.int .i64 0) := cor R45.out rfl;have z11 : W5.cell? ⟨B4, 11, none⟩ = some (.slice none 0 0) := cor R45.out rfl;have zf : ∀ i, W5.frozen? ⟨B4, i, none⟩ = false := fun i => frozen_of_row W5 _ _ _ _ R45.out
 have y0 : W5.cell? ⟨B5, 0, none⟩ = some (.int .i64 0) := cor R55.out rfl;have y1 : W5.cell? ⟨B5, 1, none⟩ = some (.int .i64 0) := cor R55.out rfl;have y2 : W5.cell? ⟨B5, 2, none⟩ = some (.slice none 0 0) := cor R55.out rfl;have yf : ∀ i, W5.frozen? ⟨B5, i, none⟩ = false := fun i => frozen_of_row W5 _ _ _ _ R55.out
 have hgl5 := (blt RK.out);have h7l5 := (blt R75.out);refine wp_region_L (fun w' => w'.heap[g]? = W5.heap[g]? ∧ w'.heap[B7]? = W5.heap[B7]?) 7 8 (by kernel_rfl) (by kernel_rfl) ⟨rfl, rfl⟩ (fun hHeld => ?_);refine tk 0 ?_ rfl (fun _ _ _ h=>h) (y:=?_) (h:=?_);rotate_left
 ·intro wS hSw; go_simp<;>with_reducible rfl
 walk_nrm;refine tk 1 ?_ rfl (fun _ _ _ h=>h) (y:=?_) (h:=?_);rotate_left
 ·intro wS hSw; go_simp<;>with_reducible rfl
 walk_nrm;refine tk 2 ?_ rfl (fun _ _ _ h=>h) (y:=?_) (h:=?_);rotate_left
 ·intro wS hSw; go_simp<;>with_reducible rfl
 walk_nrm;refine wpAnyL_take (i := 3) (v := _) rfl (by kernel_rfl) (fun _ _ _ h => h) (Or.inl ⟨by rfl, fun wS hSw => exec_load_row 28 _ rfl (g) rfl _ _ _ _ (hSw.1.trans RK.out) Tryz.underlying28 rfl (by kernel_rfl)⟩) (by assumption) ?_;walk_nrm;refine wpAnyL_take (i := 4) (v := _) rfl (by kernel_rfl) (fun _ _ _ h => h) (Or.inl ⟨by rfl, fun wS hSw => exec_load_row 35 _ rfl (B7) rfl _ _ _ _ (hSw.2.trans R75.out) Tryz.underlying35 rfl (by kernel_rfl)⟩) (by assumption) ?_;walk_nrm;refine wpAnyL_one 5 (by kernel_rfl) ?_;refine ComesUp.mk rfl (fun K hK => ?_);go_simp;obtain ⟨Wt, hWt⟩ : ∃ Wt, Wt = ((((((((((((W5.setCell ⟨B4, 0, none⟩ (.int .i64 ts.clock)).setCell ⟨B4, 1, none⟩ (.int .i64 ts.cas)).setCell ⟨B4, 2, none⟩ (.int .i64 ts.uses)).setCell ⟨B4, 3, none⟩ (.int .i64 ts.most)).setCell ⟨B4, 4, none⟩ (.int .i64 ts.h0)).setCell ⟨B4, 5, none⟩ (.int .i64 ts.h1)).setCell ⟨B4, 6, none⟩ (.int .i64 ts.h2)).setCell ⟨B4, 7, none⟩ (.int .i64 ts.h3)).setCell ⟨B4, 8, none⟩ (.slice va4 ts.items.length vc4)).setCell ⟨B4, 9, none⟩ (.int .i64 ts.flash.most)).setCell ⟨B4, 10, none⟩ (.int .i64 ts.flash.next)).setCell ⟨B4, 11, none⟩ (.slice fa4 ts.flash.pages.length fc4)) := ⟨_, rfl⟩;rw [← hWt];have hbt : But B4 W5 Wt := by rw [hWt]; exact but_twelve
 have hrt : Wt.heap[B4]? = some (.cells #[.int .i64 ts.clock, .int .i64 ts.cas, .int .i64 ts.uses, .int .i64 ts.most, .int .i64 ts.h0, .int .i64 ts.h1, .int .i64 ts.h2, .int .i64 ts.h3, .slice va4 ts.items.length vc4, .int .i64 ts.flash.most, .int .i64 ts.flash.next, .slice fa4 ts.flash.pages.length fc4] 28 (0, 0)) := by rw [hWt]; exact blk_twelve R45.out
 have hblt : Below base W5 Wt := by rw [hWt]; exact below_twelve hB4b
 clear hWt;obtain ⟨W6, hW6⟩ : ∃ W6, W6 = Wt.drew := ⟨_, rfl⟩;rw [← hW6];have hbut6 : But B4 W5 W6 := by rw [hW6]; exact hbt.trans (But.below (Below.drew (Below.refl _ _)))
 have R46 : Hid (W6.heap[B4]? = some (.cells #[.int .i64 ts.clock, .int .i64 ts.cas, .int .i64 ts.uses, .int .i64 ts.most, .int .i64 ts.h0, .int .i64 ts.h1, .int .i64 ts.h2, .int .i64 ts.h3, .slice va4 ts.items.length vc4, .int .i64 ts.flash.most, .int .i64 ts.flash.next, .slice fa4 ts.flash.pages.length fc4] 28 (0, 0))) := by rw [hW6]; exact hrt
 have HB6 : Hid (Below base w W6) := by rw [hW6]; exact (HB5.out.trans hblt).drew
 have K6 := hid (keep_but K5.out hbut6 R45.out (by decide) (by decide) (by decide) (by decide));have R56 := hid ((hbut6.2 B5 (blt R55.out) h45.symm).trans R55.out);have S6 : W6.heap[g]? = W5.heap[g]? ∧ W6.heap[B7]? = W5.heap[B7]? := ⟨hbut6.2 g hgl5 hg4, hbut6.2 B7 h7l5 h47.symm⟩;have HH6 : Hid (RowsAt W6 ha 4 HitR th) := hits_but HH5.out hbut6 R45.out rfl;clear hW6 hbut6 hbt hrt hblt z0 z1 z2 z3 z4 z5 z6 z7 z8 z9 z10 z11 zf y0 y1 y2 yf HH5 HB5;refine hK.out _ _ S6 ?_;clear hK K hHeld;intro hHeld;walk_nrm;obtain ⟨y0, y1, y2⟩ := reply_cells R56.out;have yf : ∀ i, W6.frozen? ⟨B5, i, none⟩ = false := fun i => frozen_of_row W6 _ _ _ _ R56.out
 refine wpAnyL_one 6 (by kernel_rfl) ?_;refine ComesUp.mk rfl (fun K hK => ?_);go_simp;refine hK.out _ _ ⟨blk_off (blk_off (blk_off S6.1 hg5) hg5) hg5, blk_off (blk_off (blk_off S6.2 h57.symm) h57.symm) h57.symm⟩ ?_;clear hK K hHeld;intro _;walk_nrm;refine wpAnyL_last rfl (by kernel_rfl) (fun K hK => ?_);go_simp;refine hK.out _ _ ?_;clear hK K;walk_nrm;refine wpAnyL_done (by kernel_rfl) ?_ _;obtain ⟨W7, hW7⟩ : ∃ W7, W7 = ((W6.setCell ⟨B5, 0, none⟩ (.int .i64 tkd)).setCell ⟨B5, 1, none⟩ (.int .i64 tn)).setCell ⟨B5, 2, none⟩ (.slice ha m hc) := ⟨_, rfl⟩;rw [← hW7];have hbut7 : But B5 W6 W7 := by rw [hW7]; exact (But.set.trans But.set).trans But.set
 have R47 := hid ((hbut7.2 B4 (blt R46.out) h45).trans R46.out);have R57 : Hid (W7.heap[B5]? = some (.cells #[.int .i64 tkd, .int .i64 tn, .slice ha m hc] 35 (0, 0))) := by rw [hW7]; exact blk_three R56.out
 have HB7 : Hid (Below base w W7) := by rw [hW7]; exact HB6.out.trans (((below_set W6 (j := 0) (.int .i64 tkd) hB5b).trans (below_set _ (j := 1) (.int .i64 tn) hB5b)).trans (below_set _ (j := 2) (.slice ha m hc) hB5b))
 have K7 := hid (keep_but K6.out hbut7 R56.out (by decide) (by decide) (by decide) (by decide));have HH7 : Hid (RowsAt W7 ha 4 HitR th) := hits_but HH6.out hbut7 R56.out rfl
 have HFIN : Hid (Out3 (doReq s r) 0 base w (.returned (.tuple #[.agg #[.int .i64 ts.clock, .int .i64 ts.cas, .int .i64 ts.uses, .int .i64 ts.most, .int .i64 ts.h0, .int .i64 ts.h1, .int .i64 ts.h2, .int .i64 ts.h3, .slice va4 ts.items.length vc4, .int .i64 ts.flash.most, .int .i64 ts.flash.next, .slice fa4 ts.flash.pages.length fc4], .agg #[.int .i64 tkd, .int .i64 tn, .slice ha m hc], .int .i64 0])) W7) := by
  show Out3 _ _ _ _ _ _;rw [← HT.out];exact ⟨va4, vc4, fa4, fc4, _, ha, hc, by rw [HM.out]; rfl, K7.out.own, K7.out.pages, HH7.out, HB7.out⟩
 clear hW7 hbut7
 go_wp2_with fail
 refine bodyPost_ret (v := .tuple #[.agg #[.int .i64 ts.clock, .int .i64 ts.cas, .int .i64 ts.uses, .int .i64 ts.most, .int .i64 ts.h0, .int .i64 ts.h1, .int .i64 ts.h2, .int .i64 ts.h3, .slice va4 ts.items.length vc4, .int .i64 ts.flash.most, .int .i64 ts.flash.next, .slice fa4 ts.flash.pages.length fc4], .agg #[.int .i64 tkd, .int .i64 tn, .slice ha m hc], .int .i64 0]) ?_ rfl HFIN.out;obtain ⟨q0, q1, q2⟩ := reply_cells R57.out;obtain ⟨p0, p1, p2, p3, p4, p5, p6, p7, p8, p9, p10, p11⟩ := store_cells (s := ts) (a := va4) (c := vc4) (fa := fa4) (fc := fc4) R47.out
 simp [results, Tryz.results30, go_sem, q0, q1, q2, p0, p1, p2, p3, p4, p5, p6, p7, p8, p9, p10, p11]
end
end Go.Proofs.YtbeegfkfpkfccaaGreatDoor.D
