/-
  Contracts: ref.items, ref.StoreCopy: the same items, the same store, in memory of the call's own. Condition: what is copied takes at most 2^47 bytes.
-/
import Derived.Test.YtbipegbgfdpaeaaDoorCStoreCopy
import Derived.Test.YtbipegbgfdpaeaaDoorCRCopy
namespace Go.Proofs.YtbipegbgfdpaeaaDoor.D
open Go.RowKit
def ItemsEnd (xs : List Item) (w : World) (e : Ending) (w' : World) : Prop :=
  ∃ v, e = .returned v ∧ w'.ownsRow w.heap.size 58 9 v xs.length (xs.flatMap itemCells) ∧ Below w.heap.size w w'
theorem take_flat {xs : List Item} {k : Nat} (hk : k < xs.length) : (xs.take (k + 1)).flatMap itemCells = (xs.take k).flatMap itemCells ++ itemCells xs[k] := by
  rw [List.take_succ_eq_append_getElem hk, List.flatMap_append]; simp
set_option maxHeartbeats 1000000 in
theorem ref_items (xs : List Item) (a : Option Addr) (c : Nat) (w : World) (h : RowsAt w a 9 ItemR xs) (hn : xs.length * 88 ≤ 140737488355328) :
    Calls Tryd.prog 63 #[.slice a xs.length c] w (ItemsEnd xs w) := by
  have HI := Lib.hid h
  clear h
  obtain ⟨i0, hi, hz0, hz1, hz2⟩ := info_parts infoItem
  go_enter Tryd.func63, Tryd.ntmps63
  go_wp2_with fail
  go_loopw [3, 4] (fun v i wr => ∃ k : Nat, k ≤ xs.length ∧ i = .int .i64 k ∧ Hid (wr.ownsRow w.heap.size 58 9 v k ((xs.take k).flatMap itemCells)) ∧ Below w.heap.size w wr) (fun _ i _ => xs.length - (intOf i).toNat)
  case atStart => exact ⟨0, Nat.zero_le _, rfl, World.ownsRow_nil _ _ _ _, Below.refl _ _⟩
  case round =>
    obtain ⟨k, hk, rfl, HO, hb⟩ := hrel
    by_cases hlt : k < xs.length
    · obtain ⟨b, o, rfl, hc⟩ := HI.out.pos (by omega)
      obtain ⟨cs, _, hcs, h3⟩ := hc k hlt
      have HT := Lib.hid (take_flat hlt)
      obtain ⟨x, hxx⟩ : ∃ x, x = xs[k] := ⟨_, rfl⟩
      rw [← hxx] at hcs HT
      have hcs := hcs.1
      subst hcs
      obtain ⟨c0, c1, c2, c3, c4, c5, c6, c7, c8, hbb⟩ := item_cells (Below.keeps hb) h3
      clear h3 hc hxx HI
      go_wp2_with (at_builtin; go_must (refine wpList_append_own _ rfl (.tmp 11) (.tmp 16) 25 rfl w.heap.size 58 i0 (.agg #[.string ByteArray.empty, .int .i64 0, .int .i64 0, .int .i64 0, .int .i64 0, .string ByteArray.empty, .bool false, .int .i64 0, .int .i64 0]) 9 88 Tryd.underlying25 hi hz0 hz1 hz2 rfl (by decide) _ k ((xs.take k).flatMap itemCells) rfl (HO.out.alloc _) ⟨wr.heap.size, 0, none⟩ 1 1 (itemCells x) rfl rfl (news_lit _ _ _ _ _ rfl rfl) (ones rfl) (by unfold maxLen; omega) (by omega) (by have := hb.size; go_size) ?_))
      intro v' w2 hown hg _
      rw [← HT.out] at hown
      have HO2 := Lib.hid hown
      have hb2 : Below w.heap.size w w2 := (hb.alloc hb.size _).grown hg (by have := hb.size; simp; omega) (fun b e => (HO.out.lt b e).1)
      clear hown hg HO hb
      go_wp2_with fail
      go_roundw
      case rel => exact ⟨k + 1, by omega, by go_num, HO2, hb2⟩
      case measure => simp [intOf]; omega
    · have hk2 : k = xs.length := by omega
      have HO2 : Hid (wr.ownsRow w.heap.size 58 9 u3 xs.length (xs.flatMap itemCells)) := by
        have h := HO.out
        rw [hk2, List.take_length] at h
        exact h
      go_wp2_with fail
      go_ret
      exact ⟨_, rfl, HO2.out, hb⟩
theorem row3 (w : World) (g : Nat) (s : Store) (a fa fva : Option Addr) (c fc fvc T : Nat) (h : w.heap[g]? = some (.cells (storeV s a c fa fc) T (0, 0))) :
    (((w.setCell ⟨g, 9, none⟩ (.int .i64 s.flash.most)).setCell ⟨g, 10, none⟩ (.int .i64 s.flash.next)).setCell ⟨g, 11, none⟩ (.slice fva s.flash.pages.length fvc)) = w.setRow g (storeV s a c fva fvc) := by
  rw [setCell_eq_setRow w g 9 _ _ _ _ h, setCell_eq_setRow _ g 10 _ _ _ _ (setRow_heap w g _ _ _ _ h), setRow_setRow, setCell_eq_setRow _ g 11 _ _ _ _ (setRow_heap w g _ _ _ _ h), setRow_setRow]
  rfl
theorem row1 (w : World) (g : Nat) (s : Store) (a fa va : Option Addr) (c fc vc T : Nat) (h : w.heap[g]? = some (.cells (storeV s a c fa fc) T (0, 0))) :
    w.setCell ⟨g, 8, none⟩ (.slice va s.items.length vc) = w.setRow g (storeV s va vc fa fc) := by
  rw [setCell_eq_setRow w g 8 _ _ _ _ h]
  rfl
abbrev storeZ : Array Value := #[.int .i64 0, .int .i64 0, .int .i64 0, .int .i64 0, .int .i64 0, .int .i64 0, .int .i64 0, .int .i64 0, .slice none 0 0, .int .i64 0, .int .i64 0, .slice none 0 0]
set_option maxRecDepth 100000 in
set_option maxHeartbeats 2000000 in
theorem ref_StoreCopy (s : Store) (a fa : Option Addr) (c fc : Nat) (w : World) (h : RowsAt w a 9 ItemR s.items) (hf : RowsAt w fa 2 (PageR w) s.flash.pages)
    (hn : s.items.length * 88 ≤ 140737488355328) (hfn : s.flash.pages.length * 32 ≤ 140737488355328) :
    Calls Tryd.prog 37 #[.agg (storeV s a c fa fc)] w (StoreEnd s w) := by
  have HI := Lib.hid h
  have HF := Lib.hid hf
  clear h hf
  go_enter Tryd.func37, Tryd.ntmps37
  go_wp2_with fail
  obtain ⟨W0, hW0⟩ : ∃ W0, W0 = (w.alloc (.cells (storeV s a c fa fc) 30)).alloc (.cells storeZ 30) := ⟨_, rfl⟩
  have hbW : Below w.heap.size w W0 := by rw [hW0]; go_grown
  have hsW : w.heap.size + 2 = W0.heap.size := by rw [hW0]; simp
  have hB0 : W0.heap[w.heap.size]? = some (.cells (storeV s a c fa fc) 30 (0, 0)) := by rw [hW0, Below.heap_alloc _ _ _ (by simp)]; exact blk_new w _
  have hR0 : W0.heap[w.heap.size + 1]? = some (.cells storeZ 30 (0, 0)) := by
    have e : w.heap.size + 1 = (w.alloc (.cells (storeV s a c fa fc) 30)).heap.size := by simp
    rw [hW0, e]; exact blk_new _ _
  rw [← hW0]
  clear hW0
  have HB0 := Lib.hid hB0
  have HR0 := Lib.hid hR0
  have HBW := Lib.hid hbW
  clear hB0 hR0 hbW
  refine (ref_items s.items a c _ (HI.out.keep (Below.keeps HBW.out) (fun _ _ h => h)) hn).mono ?_
  rintro e w1 ⟨v, rfl, how, hb1⟩
  obtain ⟨va, vc, rfl⟩ := own_slice how
  have hz1 : w.heap.size + 2 ≤ w1.heap.size := by have := hb1.size; omega
  have hB1 := (hb1.block w.heap.size (by omega)).trans HB0.out
  have hR1 := (hb1.block (w.heap.size + 1) (by omega)).trans HR0.out
  have e8 : w1.cell? ⟨w.heap.size, 8, none⟩ = some (.slice a s.items.length c) := by rw [cell_of_row w1 _ _ _ _ _ hB1]; rfl
  have f8 : w1.frozen? ⟨w.heap.size, 8, none⟩ = false := frozen_of_row w1 _ _ _ _ hB1
  have HOW := Lib.hid how
  have HB1 := Lib.hid hB1
  have HR1 := Lib.hid hR1
  have Hb1 := Lib.hid hb1
  clear how hB1 hR1 hb1
  go_upto_region 2 with (fail)
  have hrow := row1 w1 w.heap.size s a fa va c fc vc _ HB1.out
  obtain ⟨W2, hW2⟩ : ∃ W2, W2 = w1.setCell ⟨w.heap.size, 8, none⟩ (.slice va s.items.length vc) := ⟨_, rfl⟩
  have hB2 : W2.heap[w.heap.size]? = some (.cells (storeV s va vc fa fc) 30 (0, 0)) := by rw [hW2, hrow]; exact setRow_heap w1 _ _ _ _ _ HB1.out
  have hR2 : W2.heap[w.heap.size + 1]? = some (.cells storeZ 30 (0, 0)) := by rw [hW2, hrow, setRow_other _ _ _ _ (by omega)]; exact HR1.out
  have hb2 : Below w.heap.size w W2 := by
    rw [hW2]
    exact (HBW.out.trans (Hb1.out.mono HBW.out.size)).setCell (Nat.le_refl _) _
  have how2 : W2.ownsRow (w.heap.size + 2) 58 9 (.slice va s.items.length vc) s.items.length (s.items.flatMap itemCells) := by
    rw [hW2, hsW]; exact ownsRow_setCell_below HOW.out (by show w.heap.size < W0.heap.size; omega) _
  have hz2 : w.heap.size + 2 ≤ W2.heap.size := by rw [hW2]; simpa using hz1
  rw [← hW2]
  clear hW2 hrow e8 f8 HOW HB1 HR1 Hb1
  have e9 : W2.cell? ⟨w.heap.size, 9, none⟩ = some (.int .i64 s.flash.most) := by rw [cell_of_row W2 _ _ _ _ _ hB2]; rfl
  have e10 : W2.cell? ⟨w.heap.size, 10, none⟩ = some (.int .i64 s.flash.next) := by rw [cell_of_row W2 _ _ _ _ _ hB2]; rfl
  have e11 : W2.cell? ⟨w.heap.size, 11, none⟩ = some (.slice fa s.flash.pages.length fc) := by rw [cell_of_row W2 _ _ _ _ _ hB2]; rfl
  have HB2 := Lib.hid hB2
  have HR2 := Lib.hid hR2
  have HOW2 := Lib.hid how2
  have Hb2 := Lib.hid hb2
  clear hB2 hR2 how2 hb2
  go_wp2_with fail
  refine (ref_FlashCopy s.flash fa fc _ (HF.out.keep (Below.keeps Hb2.out) (PageR.keep (Below.keeps Hb2.out))) hfn (fun p hp => Nat.le_trans (HF.out.pageB p hp).2 (by decide))).mono ?_
  rintro e w3 ⟨fv, fvs, rfl, hpm, hb3⟩
  obtain ⟨fva, fvc, rfl⟩ := own_slice hpm.row
  have hB3 := (hb3.block w.heap.size (by omega)).trans HB2.out
  have hR3 := (hb3.block (w.heap.size + 1) (by omega)).trans HR2.out
  have g9 : w3.cell? ⟨w.heap.size, 9, none⟩ = some (.int .i64 s.flash.most) := by rw [cell_of_row w3 _ _ _ _ _ hB3]; rfl
  have g10 : w3.cell? ⟨w.heap.size, 10, none⟩ = some (.int .i64 s.flash.next) := by rw [cell_of_row w3 _ _ _ _ _ hB3]; rfl
  have g11 : w3.cell? ⟨w.heap.size, 11, none⟩ = some (.slice fa s.flash.pages.length fc) := by rw [cell_of_row w3 _ _ _ _ _ hB3]; rfl
  have gz : ∀ j, w3.frozen? ⟨w.heap.size, j, none⟩ = false := fun j => frozen_of_row w3 _ _ _ _ hB3
  have HB3 := Lib.hid hB3
  have HR3 := Lib.hid hR3
  have HOW3 := Lib.hid (owns_below HOW2.out hb3)
  have Hb3 := Lib.hid (Hb2.out.trans (hb3.mono Hb2.out.size))
  have HPM := Lib.hid hpm
  have hz3 : w.heap.size + 2 ≤ w3.heap.size := by have := hb3.size; omega
  clear hB3 hR3 hpm hb3 e9 e10 e11 HB2 HR2 HOW2 Hb2
  go_upto_region 3 with (fail)
  rw [row3 w3 w.heap.size s va fa fva vc fc fvc _ HB3.out]
  obtain ⟨W4, hW4⟩ : ∃ W4, W4 = w3.setRow w.heap.size (storeV s va vc fva fvc) := ⟨_, rfl⟩
  have HB4 : Hid (W4.heap[w.heap.size]? = some (.cells (storeV s va vc fva fvc) 30 (0, 0))) := by show _ = _; rw [hW4]; exact setRow_heap w3 _ _ _ _ _ HB3.out
  have HR4 : Hid (W4.heap[w.heap.size + 1]? = some (.cells storeZ 30 (0, 0))) := by show _ = _; rw [hW4, setRow_other _ _ _ _ (by omega)]; exact HR3.out
  have hab : ∀ k, w.heap.size + 2 ≤ k → (W4.setRow (w.heap.size + 1) (storeV s va vc fva fvc)).heap[k]? = w3.heap[k]? := fun k hk => by rw [hW4]; exact (setRow_other _ _ k _ (by omega)).trans (setRow_other _ _ k _ (by omega))
  have HOW5 := Lib.hid (owns_base (owns_above HOW3.out hab) (show w.heap.size ≤ w.heap.size + 2 by omega))
  have HPM5 := Lib.hid ((HPM.out.above (fun k hk => hab k (Nat.le_trans hz2 hk))).base (show w.heap.size ≤ W2.heap.size by omega))
  have HBB5 : Hid (Below w.heap.size w (W4.setRow (w.heap.size + 1) (storeV s va vc fva fvc))) := by rw [hW4]; exact (Hb3.out.trans (Below.setRow w3 w.heap.size _ (Nat.le_refl _))).trans (Below.setRow _ (w.heap.size + 1) _ (Nat.le_succ _))
  have HR5 := Lib.hid (setRow_heap _ (w.heap.size + 1) _ (storeV s va vc fva fvc) _ _ HR4.out)
  rw [← hW4]
  clear hW4 hab g9 g10 g11 gz
  have k1 : (Tryd.prog.info? 30).map (·.size) = some 12 := by kernel_rfl
  go_wp2_with (first
    | refine wpList_load_row rfl 30 _ rfl w.heap.size rfl _ _ _ _ HB4.out Tryd.underlying30 rfl (by kernel_rfl) ?_
    | refine wpList_store_row rfl 30 _ _ rfl (w.heap.size + 1) _ rfl rfl _ _ HR4.out k1 rfl (store_one _ _ _ _ _) ?_)
  exact bodyPost_ret (v := .agg (storeV s va vc fva fvc)) (results_cell_row rfl _ _ (w.heap.size + 1) _ _ _ _ rfl HR5.out Tryd.underlying30 rfl k1) rfl ⟨va, vc, fva, fvc, fvs, rfl, HOW5.out, HPM5.out.world, HBB5.out⟩
end Go.Proofs.YtbipegbgfdpaeaaDoor.D
