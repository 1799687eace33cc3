/-
  Contract: snap's reader: an item.
-/
import Derived.Test.YtbipegbgfdpaeaaDoorCRdr
import Derived.Test.YtbipegbgfdpaeaaDoorCTick
namespace Go.Proofs.YtbipegbgfdpaeaaDoor.D
open Go.RowKit
theorem itemSize : (Tryd.prog.info? 58).map (·.size) = some 9 := by kernel_rfl
abbrev itemA (k : ByteArray) (fl ti ca us : Int) (v : ByteArray) (far : Bool) (p o : Int) : Array Value := #[.string k, .int .i64 fl, .int .i64 ti, .int .i64 ca, .int .i64 us, .string v, .bool far, .int .i64 p, .int .i64 o]
def itemOf (x : Item) : Array Value := itemA x.key x.flags x.till x.cas x.used x.value x.far x.place.page x.place.off
def itemZ : Array Value := itemA (mkB []) 0 0 0 0 (mkB []) false 0 0
theorem itemA_one (k : ByteArray) (fl ti ca us : Int) (v : ByteArray) (far : Bool) (p o : Int) : (itemA k fl ti ca us v far p o).all (·.oneCell') = true := by simp [itemA, Value.oneCell']
/-- the end of a reading behind the fields -/
theorem tail_zero {s : Rd} {k : Str} {fl ti ca us : Int} {v : Str} {s2 : Rd} (h : (v, s2) = s.text 200) : s.tail k fl ti ca us 0 = (⟨mkB k, fl, ti, ca, us, mkB v, false, ⟨0, 0⟩⟩, s2) := by
  unfold Rd.tail; rw [if_pos rfl, ← h]
theorem tail_one {s : Rd} {k : Str} {fl ti ca us p o : Int} {s2 s3 : Rd} (h : (p, s2) = s.num) (h2 : (o, s3) = s2.num) : s.tail k fl ti ca us 1 = (⟨mkB k, fl, ti, ca, us, mkB [], true, ⟨p, o⟩⟩, s3) := by
  unfold Rd.tail; rw [if_neg (by decide), if_pos rfl, ← h]; simp only; rw [← h2]
theorem tail_else {s : Rd} {k : Str} {fl ti ca us t : Int} (h0 : t ≠ 0) (h1 : t ≠ 1) : s.tail k fl ti ca us t = (⟨mkB k, fl, ti, ca, us, mkB [], false, ⟨0, 0⟩⟩, s.wrong 4) := by
  unfold Rd.tail; rw [if_neg h0, if_neg h1]
theorem item_of {s s0 s1 s2 s3 s4 s5 : Rd} {k : Str} {fl ti ca us t : Int} (h0 : (k, s0) = s.text 20) (h1 : (fl, s1) = s0.num) (h2 : (ti, s2) = s1.num) (h3 : (ca, s3) = s2.num) (h4 : (us, s4) = s3.num) (h5 : (t, s5) = s4.num) : s.item = s5.tail k fl ti ca us t := by
  unfold Rd.item
  rw [← h0]; simp only
  rw [← h1]; simp only
  rw [← h2]; simp only
  rw [← h3]; simp only
  rw [← h4]; simp only
  rw [← h5]
theorem grown_below {w V V' : World} {r : Option Nat} (h : w.grownBy V r) (hb : Below w.heap.size V V') : w.grownBy V' r :=
  ⟨hb.os.trans h.os, hb.tape.trans h.tape, hb.output.trans h.output, Nat.le_trans h.size hb.size, fun j hj hne => (hb.block j hj).trans (h.block j hj hne)⟩
theorem below_cell (V : World) (g i B : Nat) (v : Value) (h : B ≤ g) : Below B V (V.setCell ⟨g, i, none⟩ v) :=
  ⟨rfl, rfl, rfl, by simp, fun k hk => Below.heap_setCell V ⟨g, i, none⟩ v k (show k ≠ g by omega)⟩
theorem cell_put (V : World) (g i : Nat) (cs : Array Value) (T : TypeId) (v : Value) (h : V.heap[g]? = some (.cells cs T (0, 0))) : (V.setCell ⟨g, i, none⟩ v).heap[g]? = some (.cells (cs.setIfInBounds i v) T (0, 0)) := by
  rw [setCell_eq_setRow V g i _ _ _ _ h]; exact setRow_heap V g _ _ _ _ h
theorem item_end {g : Nat} {w V : World} {s s2 : Rd} {x : Item} {R : Nat} {cs : Array Value} (hx : Hid (s.item = (x, s2))) (hs : Rdr g V s2) (hg : w.grownBy V (some g)) (hR : w.heap.size ≤ R) (hgw : g < w.heap.size) :
    RdEnd g (.agg (itemOf s.item.1)) s.item.2 w (.returned (.agg (itemOf x))) (V.setRow R cs) := by
  have hb : Below w.heap.size V (V.setRow R cs) := Below.setRow _ R _ hR
  rw [hx.out]
  exact ⟨rfl, hs.stay (fun j hj => hb.block j (by omega)), grown_below hg hb⟩
set_option maxRecDepth 100000 in
set_option maxHeartbeats 2000000 in
theorem r_item (g : Nat) (s : Rd) (w : World) (h : Rdr g w s) :
    Calls Tryd.prog 48 #[.pointer (some ⟨g, 0, none⟩)] w (RdEnd g (.agg (itemOf s.item.1)) s.item.2 w) := by
  have hg := h.lt
  obtain ⟨⟨k, s0⟩, hk⟩ : ∃ p, p = s.text 20 := ⟨_, rfl⟩
  obtain ⟨⟨fl, s1⟩, hfl⟩ : ∃ p, p = s0.num := ⟨_, rfl⟩
  obtain ⟨⟨ti, s2⟩, hti⟩ : ∃ p, p = s1.num := ⟨_, rfl⟩
  obtain ⟨⟨ca, s3⟩, hca⟩ : ∃ p, p = s2.num := ⟨_, rfl⟩
  obtain ⟨⟨us, s4⟩, hus⟩ : ∃ p, p = s3.num := ⟨_, rfl⟩
  obtain ⟨⟨t, s5⟩, ht⟩ : ∃ p, p = s4.num := ⟨_, rfl⟩
  have HX := Lib.hid (item_of hk hfl hti hca hus ht)
  have HK := Lib.hid hk
  have HFL := Lib.hid hfl
  have HTI := Lib.hid hti
  have HCA := Lib.hid hca
  have HUS := Lib.hid hus
  have HT := Lib.hid ht
  clear hk hfl hti hca hus ht
  go_enter Tryd.func48, Tryd.ntmps48
  go_wp2_with fail
  obtain ⟨W0, hW0⟩ : ∃ W0, W0 = w.alloc (.cells itemZ 58) := ⟨_, rfl⟩
  have HB0 := Lib.hid (show Below w.heap.size w W0 by rw [hW0]; go_grown)
  have hz0 : w.heap.size + 1 = W0.heap.size := by rw [hW0]; simp
  have HR0 := Lib.hid (show W0.heap[w.heap.size]? = some (.cells itemZ 58 (0, 0)) by rw [hW0]; exact blk_new w _)
  have HS0 := Lib.hid (h.stay (fun j hj => HB0.out.block j (by omega)))
  show Calls _ _ _ (w.alloc (.cells itemZ 58)) _
  rw [← hW0]
  clear hW0 h
  refine (text_is g s 20 (by omega) k s0 HK _ HS0.out).mono ?_
  rintro e W1 ⟨rfl, hr, hgr⟩
  have hz1 := Nat.le_trans (Nat.le_of_eq hz0) hgr.size
  have HR1 := Lib.hid ((hgr.block w.heap.size (by omega) (by simp; omega)).trans HR0.out)
  have HS1 := Lib.hid hr
  have HG1 := Lib.hid (grown_trans (⟨HB0.out.os, HB0.out.tape, HB0.out.output, HB0.out.size, fun j hj _ => HB0.out.block j hj⟩) hgr)
  clear hr hgr
  go_wp2_with fail
  refine (num_is g s0 fl s1 HFL _ HS1.out).mono ?_
  rintro e W2 ⟨rfl, hr, hgr⟩
  have hz2 := Nat.le_trans hz1 hgr.size
  have HR2 := Lib.hid ((hgr.block w.heap.size (by omega) (by simp; omega)).trans HR1.out)
  have HS2 := Lib.hid hr
  have HG2 := Lib.hid (grown_trans HG1.out hgr)
  clear hr hgr
  go_wp2_with fail
  refine (num_is g s1 ti s2 HTI _ HS2.out).mono ?_
  rintro e W3 ⟨rfl, hr, hgr⟩
  have hz3 := Nat.le_trans hz2 hgr.size
  have HR3 := Lib.hid ((hgr.block w.heap.size (by omega) (by simp; omega)).trans HR2.out)
  have HS3 := Lib.hid hr
  have HG3 := Lib.hid (grown_trans HG2.out hgr)
  clear hr hgr
  go_wp2_with fail
  refine (num_is g s2 ca s3 HCA _ HS3.out).mono ?_
  rintro e W4 ⟨rfl, hr, hgr⟩
  have hz4 := Nat.le_trans hz3 hgr.size
  have HR4 := Lib.hid ((hgr.block w.heap.size (by omega) (by simp; omega)).trans HR3.out)
  have HS4 := Lib.hid hr
  have HG4 := Lib.hid (grown_trans HG3.out hgr)
  clear hr hgr
  go_wp2_with fail
  refine (num_is g s3 us s4 HUS _ HS4.out).mono ?_
  rintro e W5 ⟨rfl, hr, hgr⟩
  have hz5 := Nat.le_trans hz4 hgr.size
  have HR5 := Lib.hid ((hgr.block w.heap.size (by omega) (by simp; omega)).trans HR4.out)
  have HS5 := Lib.hid hr
  have HG5 := Lib.hid (grown_trans HG4.out hgr)
  clear hr hgr
  go_wp2_with fail
  obtain ⟨V0, hV0⟩ : ∃ V0, V0 = W5.alloc (.cells (itemA (mkB k) fl ti ca us (mkB []) false 0 0) 58) := ⟨_, rfl⟩
  show Calls _ _ _ (W5.alloc (.cells (itemA (mkB k) fl ti ca us (mkB []) false 0 0) 58)) _
  rw [← hV0]
  have hbV := (show Below W5.heap.size W5 V0 by rw [hV0]; go_grown)
  have HIT0 := Lib.hid (show V0.heap[W5.heap.size]? = some (.cells (itemA (mkB k) fl ti ca us (mkB []) false 0 0) 58 (0, 0)) by rw [hV0]; exact blk_new W5 _)
  have hzV : W5.heap.size + 1 = V0.heap.size := by rw [hV0]; simp
  have HRV := Lib.hid ((hbV.block w.heap.size (by omega)).trans HR5.out)
  have HSV := Lib.hid (HS5.out.stay (fun j hj => hbV.block j (by omega)))
  have HGV := Lib.hid (grown_trans HG5.out ⟨hbV.os, hbV.tape, hbV.output, hbV.size, fun j hj _ => hbV.block j hj⟩)
  clear hV0 hbV HR0 HR1 HR2 HR3 HR4 HR5 HS0 HS1 HS2 HS3 HS4 HG1 HG2 HG3 HG4 hz1 hz2 hz3 hz4
  refine (num_is g s4 t s5 HT _ HSV.out).mono ?_
  rintro e V1 ⟨rfl, hr, hgr⟩
  have hy1 : W5.heap.size < V1.heap.size := by have := hgr.size; omega
  have HIT := Lib.hid ((hgr.block W5.heap.size (by omega) (by simp; omega)).trans HIT0.out)
  have HR := Lib.hid ((hgr.block w.heap.size (by omega) (by simp; omega)).trans HRV.out)
  have HS := Lib.hid hr
  have HG := Lib.hid (grown_trans HGV.out hgr)
  clear hr hgr HIT0 HRV HSV HGV HS5 HG5
  by_cases ht0 : t = 0
  ·
    subst ht0
    obtain ⟨⟨v, s6⟩, hv⟩ : ∃ p, p = s5.text 200 := ⟨_, rfl⟩
    have HV := Lib.hid hv
    have HXX := Lib.hid (HX.out.trans (tail_zero hv))
    clear hv
    go_wp2_with fail
    refine (text_is g s5 200 (by omega) v s6 HV _ HS.out).mono ?_
    rintro e V2 ⟨rfl, hr, hgr⟩
    have hy2 : W5.heap.size < V2.heap.size := Nat.lt_of_lt_of_le hy1 hgr.size
    have HIT2 := Lib.hid ((hgr.block W5.heap.size (by omega) (by simp; omega)).trans HIT.out)
    have HR2 := Lib.hid ((hgr.block w.heap.size (by omega) (by simp; omega)).trans HR.out)
    have HS2 := Lib.hid hr
    have HG2 := Lib.hid (grown_trans HG.out hgr)
    have c5 : V2.cell? ⟨W5.heap.size, 5, none⟩ = some (.string (mkB [])) := by rw [cell_of_row V2 _ _ _ _ _ HIT2.out]; rfl
    have f5 : V2.frozen? ⟨W5.heap.size, 5, none⟩ = false := frozen_of_row V2 _ _ _ _ HIT2.out
    clear hr hgr
    have HIT3 := Lib.hid (cell_put V2 W5.heap.size 5 _ _ (.string (mkB v)) HIT2.out)
    have HB3 := Lib.hid (below_cell V2 W5.heap.size 5 w.heap.size (.string (mkB v)) (by omega))
    have HB3' := Lib.hid (below_cell V2 W5.heap.size 5 (w.heap.size + 1) (.string (mkB v)) (by omega))
    have HR3 := Lib.hid ((HB3'.out.block w.heap.size (by omega)).trans HR2.out)
    go_wp2_with (first | refine wpList_load_row rfl 58 _ rfl W5.heap.size rfl _ _ _ _ HIT3.out Tryd.underlying58 rfl (by kernel_rfl) ?_ | refine wpList_store_row rfl 58 _ _ rfl w.heap.size (itemA (mkB k) fl ti ca us (mkB v) false 0 0) rfl rfl _ _ HR3.out itemSize rfl (itemA_one _ _ _ _ _ _ _ _ _) ?_)
    exact bodyPost_ret (v := .agg (itemA (mkB k) fl ti ca us (mkB v) false 0 0)) (results_cell_row rfl _ _ w.heap.size _ _ _ _ rfl (setRow_heap _ _ _ _ _ _ HR3.out) Tryd.underlying58 rfl itemSize) rfl (item_end HXX (HS2.out.stay (fun j hj => HB3.out.block j (by omega))) (grown_below HG2.out HB3.out) (Nat.le_refl _) hg)
  by_cases ht1 : t = 1
  ·
    subst ht1
    obtain ⟨⟨p, s6⟩, hp⟩ : ∃ p, p = s5.num := ⟨_, rfl⟩
    obtain ⟨⟨o, s7⟩, ho⟩ : ∃ p, p = s6.num := ⟨_, rfl⟩
    have HP := Lib.hid hp
    have HO := Lib.hid ho
    have HXX := Lib.hid (HX.out.trans (tail_one hp ho))
    clear hp ho
    have c6 : V1.cell? ⟨W5.heap.size, 6, none⟩ = some (.bool false) := by rw [cell_of_row V1 _ _ _ _ _ HIT.out]; rfl
    have f6 : V1.frozen? ⟨W5.heap.size, 6, none⟩ = false := frozen_of_row V1 _ _ _ _ HIT.out
    have HIT2 := Lib.hid (cell_put V1 W5.heap.size 6 _ _ (.bool true) HIT.out)
    have HB2 := Lib.hid (below_cell V1 W5.heap.size 6 w.heap.size (.bool true) (by omega))
    have HB2' := Lib.hid (below_cell V1 W5.heap.size 6 (w.heap.size + 1) (.bool true) (by omega))
    have HR2 := Lib.hid ((HB2'.out.block w.heap.size (by omega)).trans HR.out)
    have HS2 := Lib.hid (HS.out.stay (fun j hj => HB2.out.block j (by omega)))
    have HG2 := Lib.hid (grown_below HG.out HB2.out)
    go_wp2_with fail
    refine (num_is g s5 p s6 HP _ HS2.out).mono ?_
    rintro e V2 ⟨rfl, hr, hgr⟩
    have hy2 : W5.heap.size < V2.heap.size := by have := hgr.size; simp at this; omega
    have HIT3 := Lib.hid ((hgr.block W5.heap.size (by simp; omega) (by simp; omega)).trans HIT2.out)
    have HR3 := Lib.hid ((hgr.block w.heap.size (by simp; omega) (by simp; omega)).trans HR2.out)
    have HS3 := Lib.hid hr
    have HG3 := Lib.hid (grown_trans HG2.out hgr)
    clear hr hgr
    go_wp2_with fail
    refine (num_is g s6 o s7 HO _ HS3.out).mono ?_
    rintro e V3 ⟨rfl, hr, hgr⟩
    have hy3 : W5.heap.size < V3.heap.size := by have := hgr.size; omega
    have HIT4 := Lib.hid ((hgr.block W5.heap.size (by omega) (by simp; omega)).trans HIT3.out)
    have HR4 := Lib.hid ((hgr.block w.heap.size (by omega) (by simp; omega)).trans HR3.out)
    have HS4 := Lib.hid hr
    have HG4 := Lib.hid (grown_trans HG3.out hgr)
    have c7 : V3.cell? ⟨W5.heap.size, 7, none⟩ = some (.int .i64 0) := by rw [cell_of_row V3 _ _ _ _ _ HIT4.out]; rfl
    have f7 : V3.frozen? ⟨W5.heap.size, 7, none⟩ = false := frozen_of_row V3 _ _ _ _ HIT4.out
    have c8 : V3.cell? ⟨W5.heap.size, 8, none⟩ = some (.int .i64 0) := by rw [cell_of_row V3 _ _ _ _ _ HIT4.out]; rfl
    have f8 : V3.frozen? ⟨W5.heap.size, 8, none⟩ = false := frozen_of_row V3 _ _ _ _ HIT4.out
    clear hr hgr
    have HIT5 := Lib.hid (cell_put (V3.setCell ⟨W5.heap.size, 7, none⟩ (.int .i64 p)) W5.heap.size 8 _ _ (.int .i64 o) (cell_put V3 W5.heap.size 7 _ _ (.int .i64 p) HIT4.out))
    have HB5 := Lib.hid ((below_cell V3 W5.heap.size 7 w.heap.size (.int .i64 p) (by omega)).trans (below_cell (V3.setCell ⟨W5.heap.size, 7, none⟩ (.int .i64 p)) W5.heap.size 8 w.heap.size (.int .i64 o) (by omega)))
    have HB5' := Lib.hid ((below_cell V3 W5.heap.size 7 (w.heap.size + 1) (.int .i64 p) (by omega)).trans (below_cell (V3.setCell ⟨W5.heap.size, 7, none⟩ (.int .i64 p)) W5.heap.size 8 (w.heap.size + 1) (.int .i64 o) (by omega)))
    have HR5 := Lib.hid ((HB5'.out.block w.heap.size (by omega)).trans HR4.out)
    go_wp2_with (first | refine wpList_load_row rfl 58 _ rfl W5.heap.size rfl _ _ _ _ HIT5.out Tryd.underlying58 rfl (by kernel_rfl) ?_ | refine wpList_store_row rfl 58 _ _ rfl w.heap.size (itemA (mkB k) fl ti ca us (mkB []) true p o) rfl rfl _ _ HR5.out itemSize rfl (itemA_one _ _ _ _ _ _ _ _ _) ?_)
    exact bodyPost_ret (v := .agg (itemA (mkB k) fl ti ca us (mkB []) true p o)) (results_cell_row rfl _ _ w.heap.size _ _ _ _ rfl (setRow_heap _ _ _ _ _ _ HR5.out) Tryd.underlying58 rfl itemSize) rfl (item_end HXX (HS4.out.stay (fun j hj => HB5.out.block j (by omega))) (grown_below HG4.out HB5.out) (Nat.le_refl _) hg)
  ·
    have HXX := Lib.hid (HX.out.trans (tail_else ht0 ht1))
    have e0 : (t == 0) = false := by rw [beq_eq_false_iff_ne]; exact ht0
    have e1 : (t == 1) = false := by rw [beq_eq_false_iff_ne]; exact ht1
    clear ht0 ht1
    go_wp2_with fail
    refine (r_wrong g s5 4 _ HS.out).mono ?_
    rintro e V2 ⟨rfl, hr, hgr⟩
    have hy2 : W5.heap.size < V2.heap.size := Nat.lt_of_lt_of_le hy1 hgr.size
    have HIT2 := Lib.hid ((hgr.block W5.heap.size (by omega) (by simp; omega)).trans HIT.out)
    have HR2 := Lib.hid ((hgr.block w.heap.size (by omega) (by simp; omega)).trans HR.out)
    have HS2 := Lib.hid hr
    have HG2 := Lib.hid (grown_trans HG.out hgr)
    clear hr hgr
    go_wp2_with (first | refine wpList_load_row rfl 58 _ rfl W5.heap.size rfl _ _ _ _ HIT2.out Tryd.underlying58 rfl (by kernel_rfl) ?_ | refine wpList_store_row rfl 58 _ _ rfl w.heap.size (itemA (mkB k) fl ti ca us (mkB []) false 0 0) rfl rfl _ _ HR2.out itemSize rfl (itemA_one _ _ _ _ _ _ _ _ _) ?_)
    exact bodyPost_ret (v := .agg (itemA (mkB k) fl ti ca us (mkB []) false 0 0)) (results_cell_row rfl _ _ w.heap.size _ _ _ _ rfl (setRow_heap _ _ _ _ _ _ HR2.out) Tryd.underlying58 rfl itemSize) rfl (item_end HXX HS2.out HG2.out (Nat.le_refl _) hg)
end Go.Proofs.YtbipegbgfdpaeaaDoor.D
