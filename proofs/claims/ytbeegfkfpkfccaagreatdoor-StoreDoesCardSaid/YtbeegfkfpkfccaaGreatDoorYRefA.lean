/-
 Contracts: ref.items, ref.StoreCopy: the same items, the same store, in memory of the call's own. Condition: what is copied takes at most 2^47 bytes.
-/
import Derived.Test.YtbeegfkfpkfccaaGreatDoorYOwn
import Derived.Test.YtbeegfkfpkfccaaGreatDoorYCut
import Derived.Test.YtbeegfkfpkfccaaGreatDoorYPlain
import Derived.Test.YtbeegfkfpkfccaaGreatDoorYKeep
import Derived.Test.YtbeegfkfpkfccaaGreatDoorYCPagesAt
import Derived.Test.YtbeegfkfpkfccaaGreatDoorYReq
import Derived.Test.YtbeegfkfpkfccaaGreatDoorYTick
import Derived.Test.YtbeegfkfpkfccaaGreatDoorYCls
import Derived.Conc.WalkWords
import Derived.Deep.DeepCutAuto
import Derived.Deep.CutBlock
namespace Go.Proofs.YtbeegfkfpkfccaaGreatDoor.D
open Go.RowKit
def ItemsEnd (xs : List Item) (w : World) (e : Ending) (w' : World) : Prop :=
 ∃ v, e = .returned v ∧ w'.ownsRow w.heap.size 83 9 v xs.length (xs.flatMap itemCells) ∧ Below w.heap.size w w'
theorem take_flat {xs : List Item} {k : Nat} (hk : k < xs.length) : (xs.take (k + 1)).flatMap itemCells = (xs.take k).flatMap itemCells ++ itemCells xs[k] := by
 rw [List.take_succ_eq_append_getElem hk, List.flatMap_append]; simp
set_option maxHeartbeats 1000000 in
theorem ref_items (xs : List Item) (a : Option Addr) (c : Nat) (w : World) (h : RowsAt w a 9 ItemR xs) (hn : xs.length * 88 ≤ 140737488355328) :
  Calls Tryz.prog 26 #[.slice a xs.length c] w (ItemsEnd xs w) := by
 have HI := hid h;clear h;obtain ⟨i0, hi, hz0, hz1, hz2⟩ := info_parts infoItem
 go_enter Tryz.func26, Tryz.ntmps26
 go_wp2_with fail
 go_loopw [3, 4] (fun v i wr => ∃ k : Nat, k ≤ xs.length ∧ i = .int .i64 k ∧ Hid (wr.ownsRow w.heap.size 83 9 v k ((xs.take k).flatMap itemCells)) ∧ Below w.heap.size w wr) (fun _ i _ => xs.length - (intOf i).toNat)
 case atStart => exact ⟨0, Nat.zero_le _, rfl, World.ownsRow_nil _ _ _ _, Below.refl _ _⟩
 case round =>
  obtain ⟨k, hk, rfl, HO, hb⟩ := hrel
  by_cases hlt : k < xs.length
  ·obtain ⟨b, o, rfl, hc⟩ := HI.out.pos (by omega)
   obtain ⟨cs, _, hcs, h3⟩ := hc k hlt;have HT := hid (take_flat hlt);obtain ⟨x, hxx⟩ : ∃ x, x = xs[k] := ⟨_, rfl⟩;rw [← hxx] at hcs HT;have hcs := hcs.1;subst hcs;obtain ⟨c0, c1, c2, c3, c4, c5, c6, c7, c8, hbb⟩ := item_cells (Below.keeps hb) h3;clear h3 hc hxx HI
   go_wp2_with (at_builtin; go_must (refine wpList_append_own _ rfl (.tmp 11) (.tmp 16) 23 rfl w.heap.size 83 i0 (.agg #[.string ByteArray.empty, .int .i64 0, .int .i64 0, .int .i64 0, .int .i64 0, .string ByteArray.empty, .bool false, .int .i64 0, .int .i64 0]) 9 88 Tryz.underlying23 hi hz0 hz1 hz2 rfl (by decide) _ k ((xs.take k).flatMap itemCells) rfl (HO.out.alloc _) ⟨wr.heap.size, 0, none⟩ 1 1 (itemCells x) rfl rfl (news_lit _ _ _ _ _ rfl rfl) (ones rfl) (by unfold maxLen; omega) (by omega) (by have := hb.size; go_size) ?_))
   intro v' w2 hown hg _;rw [← HT.out] at hown;have HO2 := hid hown;have hb2 : Below w.heap.size w w2 := (hb.alloc hb.size _).grown hg (by have := hb.size; simp; omega) (fun b e => (HO.out.lt b e).1);clear hown hg HO hb
   go_wp2_with fail
   go_roundw
   case rel => exact ⟨k + 1, by omega, by go_num, HO2, hb2⟩
   case measure => simp [intOf]; omega
  ·have hk2 : k = xs.length := by omega
   have HO2 : Hid (wr.ownsRow w.heap.size 83 9 u3 xs.length (xs.flatMap itemCells)) := by
    have h := HO.out;rw [hk2, List.take_length] at h;exact h
   go_wp2_with fail
   go_ret;exact ⟨_, rfl, HO2.out, hb⟩
theorem row3 (w : World) (g : Nat) (s : Store) (a fa fva : Option Addr) (c fc fvc T : Nat) (h : w.heap[g]? = some (.cells (storeV s a c fa fc) T (0, 0))) :
  (((w.setCell ⟨g, 9, none⟩ (.int .i64 s.flash.most)).setCell ⟨g, 10, none⟩ (.int .i64 s.flash.next)).setCell ⟨g, 11, none⟩ (.slice fva s.flash.pages.length fvc)) = w.setRow g (storeV s a c fva fvc) := by
 rw [setCell_eq_setRow w g 9 _ _ _ _ h, setCell_eq_setRow _ g 10 _ _ _ _ (setRow_heap w g _ _ _ _ h), setRow_setRow, setCell_eq_setRow _ g 11 _ _ _ _ (setRow_heap w g _ _ _ _ h), setRow_setRow]
 rfl
theorem row1 (w : World) (g : Nat) (s : Store) (a fa va : Option Addr) (c fc vc T : Nat) (h : w.heap[g]? = some (.cells (storeV s a c fa fc) T (0, 0))) :
  w.setCell ⟨g, 8, none⟩ (.slice va s.items.length vc) = w.setRow g (storeV s va vc fa fc) := by
 rw [setCell_eq_setRow w g 8 _ _ _ _ h]
 rfl
abbrev storeZ : Array Value := #[.int .i64 0, .int .i64 0, .int .i64 0, .int .i64 0, .int .i64 0, .int .i64 0, .int .i64 0, .int .i64 0, .slice none 0 0, .int .i64 0, .int .i64 0, .slice none 0 0]
set_option maxRecDepth 100000 in
set_option maxHeartbeats 2000000 in
theorem ref_StoreCopy (s : Store) (a fa : Option Addr) (c fc : Nat) (w : World) (h : RowsAt w a 9 ItemR s.items) (hf : RowsAt w fa 2 (PageR w) s.flash.pages)
  (hn : s.items.length * 88 ≤ 140737488355328) (hfn : s.flash.pages.length * 32 ≤ 140737488355328) :
  Calls Tryz.prog 10 #[.agg (storeV s a c fa fc)] w (StoreEnd s w) := by
 have HI := hid h;have HF := hid hf;clear h hf
 go_enter Tryz.func10, Tryz.ntmps10
 go_wp2_with fail
 obtain ⟨W0, hW0⟩ : ∃ W0, W0 = (w.alloc (.cells (storeV s a c fa fc) 28)).alloc (.cells storeZ 28) := ⟨_, rfl⟩;have hbW : Below w.heap.size w W0 := by rw [hW0]; go_grown
 have hsW : w.heap.size + 2 = W0.heap.size := by rw [hW0]; simp
 have hB0 : W0.heap[w.heap.size]? = some (.cells (storeV s a c fa fc) 28 (0, 0)) := by rw [hW0, Below.heap_alloc _ _ _ (by simp)]; exact blk_new w _
 have hR0 : W0.heap[w.heap.size + 1]? = some (.cells storeZ 28 (0, 0)) := by
  have e : w.heap.size + 1 = (w.alloc (.cells (storeV s a c fa fc) 28)).heap.size := by simp
  rw [hW0, e]; exact blk_new _ _
 rw [← hW0];clear hW0;have HB0 := hid hB0;have HR0 := hid hR0;have HBW := hid hbW;clear hB0 hR0 hbW;refine (ref_items s.items a c _ (HI.out.keep (Below.keeps HBW.out) (fun _ _ h => h)) hn).mono ?_;rintro e w1 ⟨v, rfl, how, hb1⟩;obtain ⟨va, vc, rfl⟩ := own_slice how;have hz1 : w.heap.size + 2 ≤ w1.heap.size := by have := hb1.size; omega
 have hB1 := (hb1.block w.heap.size (by omega)).trans HB0.out;have hR1 := (hb1.block (w.heap.size + 1) (by omega)).trans HR0.out;have e8 : w1.cell? ⟨w.heap.size, 8, none⟩ = some (.slice a s.items.length c) := cor hB1 rfl;have f8 : w1.frozen? ⟨w.heap.size, 8, none⟩ = false := frozen_of_row w1 _ _ _ _ hB1;have HOW := hid how;have HB1 := hid hB1;have HR1 := hid hR1;have Hb1 := hid hb1;clear how hB1 hR1 hb1;go_upto_region 2 with (fail);have hrow := row1 w1 w.heap.size s a fa va c fc vc _ HB1.out;obtain ⟨W2, hW2⟩ : ∃ W2, W2 = w1.setCell ⟨w.heap.size, 8, none⟩ (.slice va s.items.length vc) := ⟨_, rfl⟩;have hB2 : W2.heap[w.heap.size]? = some (.cells (storeV s va vc fa fc) 28 (0, 0)) := by rw [hW2, hrow]; exact setRow_heap w1 _ _ _ _ _ HB1.out
 have hR2 : W2.heap[w.heap.size + 1]? = some (.cells storeZ 28 (0, 0)) := by rw [hW2, hrow, setRow_other _ _ _ _ (by omega)]; exact HR1.out
 have hb2 : Below w.heap.size w W2 := by
  rw [hW2];exact (HBW.out.trans (Hb1.out.mono HBW.out.size)).setCell (Nat.le_refl _) _
 have how2 : W2.ownsRow (w.heap.size + 2) 83 9 (.slice va s.items.length vc) s.items.length (s.items.flatMap itemCells) := by
  rw [hW2, hsW]; exact ownsRow_setCell_below HOW.out (by show w.heap.size < W0.heap.size; omega) _
 have hz2 : w.heap.size + 2 ≤ W2.heap.size := by rw [hW2]; simpa using hz1
 rw [← hW2];clear hW2 hrow e8 f8 HOW HB1 HR1 Hb1;have e9 : W2.cell? ⟨w.heap.size, 9, none⟩ = some (.int .i64 s.flash.most) := cor hB2 rfl;have e10 : W2.cell? ⟨w.heap.size, 10, none⟩ = some (.int .i64 s.flash.next) := cor hB2 rfl;have e11 : W2.cell? ⟨w.heap.size, 11, none⟩ = some (.slice fa s.flash.pages.length fc) := cor hB2 rfl;have HB2 := hid hB2;have HR2 := hid hR2;have HOW2 := hid how2;have Hb2 := hid hb2;clear hB2 hR2 how2 hb2
 go_wp2_with fail
 refine (ref_FlashCopy s.flash fa fc _ (HF.out.keep (Below.keeps Hb2.out) (PageR.keep (Below.keeps Hb2.out))) hfn (fun p hp => Nat.le_trans (HF.out.pageB p hp).2 (by decide))).mono ?_;rintro e w3 ⟨fv, fvs, rfl, hpm, hb3⟩;obtain ⟨fva, fvc, rfl⟩ := own_slice hpm.row;have hB3 := (hb3.block w.heap.size (by omega)).trans HB2.out;have hR3 := (hb3.block (w.heap.size + 1) (by omega)).trans HR2.out;have g9 : w3.cell? ⟨w.heap.size, 9, none⟩ = some (.int .i64 s.flash.most) := cor hB3 rfl;have g10 : w3.cell? ⟨w.heap.size, 10, none⟩ = some (.int .i64 s.flash.next) := cor hB3 rfl;have g11 : w3.cell? ⟨w.heap.size, 11, none⟩ = some (.slice fa s.flash.pages.length fc) := cor hB3 rfl;have gz : ∀ j, w3.frozen? ⟨w.heap.size, j, none⟩ = false := fun j => frozen_of_row w3 _ _ _ _ hB3
 have HB3 := hid hB3;have HR3 := hid hR3;have HOW3 := hid (owns_below HOW2.out hb3);have Hb3 := hid (Hb2.out.trans (hb3.mono Hb2.out.size));have HPM := hid hpm;have hz3 : w.heap.size + 2 ≤ w3.heap.size := by have := hb3.size; omega
 clear hB3 hR3 hpm hb3 e9 e10 e11 HB2 HR2 HOW2 Hb2;go_upto_region 3 with (fail);rw [row3 w3 w.heap.size s va fa fva vc fc fvc _ HB3.out];obtain ⟨W4, hW4⟩ : ∃ W4, W4 = w3.setRow w.heap.size (storeV s va vc fva fvc) := ⟨_, rfl⟩;have HB4 : Hid (W4.heap[w.heap.size]? = some (.cells (storeV s va vc fva fvc) 28 (0, 0))) := by show _ = _; rw [hW4]; exact setRow_heap w3 _ _ _ _ _ HB3.out
 have HR4 : Hid (W4.heap[w.heap.size + 1]? = some (.cells storeZ 28 (0, 0))) := by show _ = _; rw [hW4, setRow_other _ _ _ _ (by omega)]; exact HR3.out
 have hab : ∀ k, w.heap.size + 2 ≤ k → (W4.setRow (w.heap.size + 1) (storeV s va vc fva fvc)).heap[k]? = w3.heap[k]? := fun k hk => by rw [hW4]; exact (setRow_other _ _ k _ (by omega)).trans (setRow_other _ _ k _ (by omega))
 have HOW5 := hid (owns_base (owns_above HOW3.out hab) (show w.heap.size ≤ w.heap.size + 2 by omega));have HPM5 := hid ((HPM.out.above (fun k hk => hab k (Nat.le_trans hz2 hk))).base (show w.heap.size ≤ W2.heap.size by omega));have HBB5 : Hid (Below w.heap.size w (W4.setRow (w.heap.size + 1) (storeV s va vc fva fvc))) := by rw [hW4]; exact (Hb3.out.trans (Below.setRow w3 w.heap.size _ (Nat.le_refl _))).trans (Below.setRow _ (w.heap.size + 1) _ (Nat.le_succ _))
 have HR5 := hid (setRow_heap _ (w.heap.size + 1) _ (storeV s va vc fva fvc) _ _ HR4.out);rw [← hW4];clear hW4 hab g9 g10 g11 gz;have k1 : (Tryz.prog.info? 28).map (·.size) = some 12 := by kernel_rfl
 go_wp2_with (first
  | refine wpList_load_row rfl 28 _ rfl w.heap.size rfl _ _ _ _ HB4.out Tryz.underlying28 rfl (by kernel_rfl) ?_
  | refine wpList_store_row rfl 28 _ _ rfl (w.heap.size + 1) _ rfl rfl _ _ HR4.out k1 rfl (store_one _ _ _ _ _) ?_)
 exact bodyPost_ret (v := .agg (storeV s va vc fva fvc)) (results_cell_row rfl _ _ (w.heap.size + 1) _ _ _ _ rfl HR5.out Tryz.underlying28 rfl k1) rfl ⟨va, vc, fva, fvc, fvs, rfl, HOW5.out, HPM5.out.world, HBB5.out⟩
theorem enters_fn {F : FuncId} {fn : Func} {c : Code} (hf : Tryz.prog.funcs[F]? = some fn) (hname : (fn.name == "runtime.NumGoroutine") = false) (hb : fn.body = some c) (args : Array Value) (w : World) :
  (callFunc F args).run Tryz.prog w = .ok (.enter F args) w := by
 have h1 : (fn.name = "runtime.NumGoroutine") = False := by simpa using hname
 simp [callFunc, hf, h1, hb]
structure Strikes (F q : Nat) (p : Item → Bool) (w : World) : Prop where
 enter : ∀ args w', (callFunc F args).run Tryz.prog w' = .ok (.enter F args) w'
 call : ∀ (x : Item) (w' : World), Below w.heap.size w w' → Calls Tryz.prog F #[.agg #[.string x.key, .int .i64 x.flags, .int .i64 x.till, .int .i64 x.cas, .int .i64 x.used, .string x.value, .bool x.far, .int .i64 x.place.page, .int .i64 x.place.off], .pointer (some ⟨q, 0, none⟩)] w' fun e w'' => e = .returned (.bool (p x)) ∧ Below w'.heap.size w' w''
theorem filter_step {l : List Item} (p : Item → Bool) {k : Nat} (hk : k < l.length) : (l.take (k + 1)).filter (fun x => !p x) = (l.take k).filter (fun x => !p x) ++ (if p l[k] then [] else [l[k]]) := by
 rw [List.take_succ_eq_append_getElem hk, List.filter_append]
 cases h : p l[k] <;> simp [h]
set_option maxRecDepth 100000 in
set_option maxHeartbeats 1000000 in
theorem ref_except (F q : Nat) (p : Item → Bool) (xs : List Item) (a : Option Addr) (c : Nat) (w : World) (h : RowsAt w a 9 ItemR xs) (hn : xs.length ≤ 1000) (hF : Strikes F q p w) :
  Calls Tryz.prog 68 #[.slice a xs.length c, .func (.func F) #[] #[.pointer (some ⟨q, 0, none⟩)]] w (ItemsEnd (xs.filter (fun x => !p x)) w) := by
 have HI := hid h;have HF := hid hF;clear h hF;obtain ⟨i0, hi, hz0, hz1, hz2⟩ := info_parts infoItem
 go_enter Tryz.func68, Tryz.ntmps68
 go_wp2_with fail
 go_loopw [5, 6] (fun v i wr => ∃ (k n : Nat) (ys : List Item), k ≤ xs.length ∧ i = .int .i64 k ∧ Hid (ys = (xs.take k).filter (fun x => !p x)) ∧ Hid (n = ys.length) ∧ n ≤ k ∧ Hid (wr.ownsRow w.heap.size 83 9 v n (ys.flatMap itemCells)) ∧ Below w.heap.size w wr) (fun _ i _ => xs.length - (intOf i).toNat)
 case atStart => exact ⟨0, 0, [], Nat.zero_le _, rfl, rfl, rfl, Nat.le_refl _, World.ownsRow_nil _ _ _ _, Below.refl _ _⟩
 case round =>
  obtain ⟨k, n, ys, hk, rfl, HY, HN, hnk, HO, hb⟩ := hrel
  by_cases hlt : k < xs.length
  ·obtain ⟨b, o, rfl, hc⟩ := HI.out.pos (by omega)
   obtain ⟨cs, _, hcs, h3⟩ := hc k hlt;have HT := hid (filter_step p hlt);obtain ⟨x, hxx⟩ : ∃ x, x = xs[k] := ⟨_, rfl⟩;rw [← hxx] at hcs HT;have hcs := hcs.1;subst hcs;have H3 := hid h3;obtain ⟨c0, c1, c2, c3, c4, c5, c6, c7, c8, hbb⟩ := item_cells (Below.keeps hb) h3;have HP := hid (HF.out.call x wr hb);clear h3 hc hxx HI
   go_wp2_with fail
   rw [HF.out.enter];refine HP.out.mono ?_;rintro e w1 ⟨rfl, hb1⟩;clear HP c0 c1 c2 c3 c4 c5 c6 c7 c8;have HO1 := hid (owns_below HO.out hb1);have hb2 : Below w.heap.size w w1 := hb.trans (hb1.mono hb.size);clear HO hb hb1
   cases hp : p x with
   | true =>
    rw [hp] at HT;have HY2 : Hid (ys = (xs.take (k + 1)).filter (fun x => !p x)) := by show _ = _; rw [HT.out, HY.out]; simp
    clear HT HY hp
    go_wp2_with fail
    go_roundw
    case rel => exact ⟨k + 1, n, ys, by omega, by go_num, HY2, HN, by omega, HO1, hb2⟩
    case measure => simp [intOf]; omega
   | false =>
    rw [hp] at HT;have HY2 : Hid (ys ++ [x] = (xs.take (k + 1)).filter (fun x => !p x)) := by show _ = _; rw [HT.out, HY.out]; simp
    have HN2 : Hid (n + 1 = (ys ++ [x]).length) := by show _ = _; rw [List.length_append, HN.out]; rfl
    clear HT HY HN hp;obtain ⟨c0, c1, c2, c3, c4, c5, c6, c7, c8, -⟩ := item_cells (Below.keeps hb2) H3.out;clear H3
    go_wp2_with (at_builtin; go_must (refine wpList_append_own _ rfl (.tmp 20) (.tmp 25) 23 rfl w.heap.size 83 i0 (.agg #[.string ByteArray.empty, .int .i64 0, .int .i64 0, .int .i64 0, .int .i64 0, .string ByteArray.empty, .bool false, .int .i64 0, .int .i64 0]) 9 88 Tryz.underlying23 hi hz0 hz1 hz2 rfl (by decide) _ n (ys.flatMap itemCells) rfl (HO1.out.alloc _) ⟨w1.heap.size, 0, none⟩ 1 1 (itemCells x) rfl rfl (news_lit _ _ _ _ _ rfl rfl) (ones rfl) (by unfold maxLen; omega) (by omega) (by have := hb2.size; go_size) ?_))
    intro v' w2 hown hg _
    have HO2 : Hid (w2.ownsRow w.heap.size 83 9 v' (n + 1) ((ys ++ [x]).flatMap itemCells)) := by
     show World.ownsRow _ _ _ _ _ _ _;rw [List.flatMap_append]
     simpa using hown
    have hb3 : Below w.heap.size w w2 := (hb2.alloc hb2.size _).grown hg (by have := hb2.size; simp; omega) (fun b e => (HO1.out.lt b e).1);clear hown hg HO1 hb2
    go_wp2_with fail
    go_roundw
    case rel => exact ⟨k + 1, n + 1, ys ++ [x], by omega, by go_num, HY2, HN2, by omega, HO2, hb3⟩
    case measure => simp [intOf]; omega
  ·have hk2 : k = xs.length := by omega
   have HY2 : Hid (xs.filter (fun x => !p x) = ys) := by
    show _ = _;rw [HY.out, hk2, List.take_length]
   go_wp2_with fail
   go_ret;unfold ItemsEnd;rw [HY2.out, ← HN.out];exact ⟨_, rfl, HO.out, hb⟩
def ButV (va : Option Addr) (w w' : World) : Prop := w.heap.size ≤ w'.heap.size ∧ ∀ k, k < w.heap.size → (∀ a, va = some a → a.block ≠ k) → w'.heap[k]? = w.heap[k]?
theorem ButV.refl {va : Option Addr} (w : World) : ButV va w w := ⟨Nat.le_refl _, fun _ _ _ => rfl⟩
theorem ButV.trans {va : Option Addr} {a b c : World} (h : ButV va a b) (k : ButV va b c) : ButV va a c := ⟨Nat.le_trans h.1 k.1, fun i hi ha => (k.2 i (Nat.lt_of_lt_of_le hi h.1) ha).trans (h.2 i hi ha)⟩
theorem ButV.below {va : Option Addr} {w w' : World} (h : Below w.heap.size w w') : ButV va w w' := ⟨h.size, fun k hk _ => h.block k hk⟩
theorem ButV.set {g o j : Nat} {w : World} {v : Value} : ButV (some ⟨g, o, none⟩) w (w.setCell ⟨g, j, none⟩ v) := ⟨by simp, fun k _ ha => Below.heap_setCell w ⟨g, j, none⟩ v k (fun e => ha _ rfl e.symm)⟩
theorem ButV.at {va : Option Addr} {w w' : World} (h : ButV va w w') {k : Nat} {cs : Array Value} {T : TypeId} (hk : w.heap[k]? = some (.cells cs T (0, 0))) (ha : ∀ a, va = some a → a.block ≠ k) : w'.heap[k]? = some (.cells cs T (0, 0)) :=
 (h.2 k (blt hk) ha).trans hk
theorem PagesAt.but {base b o : Nat} {w w' : World} {ps : List Page} {vs : List Value} (h : PagesAt base w b o ps vs) (hb : w'.heap[b]? = w.heap[b]?) (hk : ∀ (x : Value) (n : Nat) (xs : List Value), w.ownsRow base 5 1 x n xs → w'.ownsRow base 5 1 x n xs) (hs : w.heap.size ≤ w'.heap.size) : PagesAt base w' b o ps vs :=
 ⟨h.len, h.big, Nat.lt_of_lt_of_le h.lt hs, fun j v hv => (World.cell?_of_block (w := w) hb).trans (h.cells j v hv), fun j hj => (World.frozen?_of_block (w := w) hb).trans (h.free j hj), fun j p u h1 h2 => hk _ _ _ (h.byte j p u h1 h2), h.off, h.far⟩
structure RSt (base : Nat) (w : World) (s : Store) (va : Option Addr) (vc : Nat) (fa : Option Addr) (fc : Nat) : Prop where
 row : w.ownsRow base 83 9 (.slice va s.items.length vc) s.items.length (s.items.flatMap itemCells)
 pages : s.flash.pages = [] ∨ ∃ b o vs, fa = some ⟨b, o, none⟩ ∧ PagesAt base w b o s.flash.pages vs ∧ ∀ a, va = some a → a.block ≠ b
 ib : ∀ x ∈ s.items, ItemB x
 pb : ∀ p ∈ s.flash.pages, PageB p
 len : s.items.length ≤ 1000
 plen : s.flash.pages.length ≤ 20
section
variable {base : Nat} {w w' : World} {s t : Store} {va va' fa fa' : Option Addr} {vc vc' fc fc' : Nat}
theorem RSt.ofOwn (h : StOwn base w s va vc fa fc) : RSt base w s va vc fa fc := by
 refine ⟨h.row, ?_, h.ib, h.pb, h.len, h.plen⟩
 rcases Nat.eq_zero_or_pos s.flash.pages.length with h0 | h0
 ·exact .inl (List.eq_nil_of_length_eq_zero h0)
 ·obtain ⟨vs, hv⟩ := h.pages
  obtain ⟨g, cap, he, _⟩ := own_shape hv.row h0
  cases he
  refine .inr ⟨g, 0, vs, rfl, hv.at rfl, fun a ha e => ?_⟩;subst ha
  rcases own_types h.row hv.row (by decide) with e1 | e1
  ·cases e1
  ·exact e1 (by show some a.block = some g; rw [e])
theorem RSt.at (h : RSt base w s va vc fa fc) : StAt w s va vc fa fc := by
 refine ⟨own_items h.row h.ib, ?_, h.len, h.plen⟩
 rcases h.pages with h0 | ⟨b, o, vs, rfl, hp, _⟩
 ·rw [h0]; exact RowsAt.nil _ _ _ _
 ·exact hp.rows h.pb
theorem RSt.below (h : RSt base w s va vc fa fc) (hb : Below w.heap.size w w') : RSt base w' s va vc fa fc :=
 ⟨owns_below h.row hb, h.pages.imp id (fun ⟨b, o, vs, e, hp, ha⟩ => ⟨b, o, vs, e, hp.below hb, ha⟩), h.ib, h.pb, h.len, h.plen⟩
theorem RSt.va_lt (h : RSt base w s va vc fa fc) : ∀ a, va = some a → base ≤ a.block ∧ a.block < w.heap.size := fun a ha => by
 subst ha;exact h.row.lt a.block rfl
theorem RSt.fa_lt (h : RSt base w s va vc fa fc) (hp : s.flash.pages ≠ []) : ∀ a, fa = some a → base ≤ a.block ∧ a.block < w.heap.size := fun a ha => by
 rcases h.pages with h0 | ⟨b, o, vs, e, hq, _⟩
 ·exact absurd h0 hp
 ·rw [ha] at e
  cases e
  exact ⟨hq.big, hq.lt⟩
theorem RSt.apart (h : RSt base w s va vc fa fc) (hp : s.flash.pages ≠ []) : ∀ a f, va = some a → fa = some f → a.block ≠ f.block := fun a f ha hf => by
 rcases h.pages with h0 | ⟨b, o, vs, e, _, hq⟩
 ·exact absurd h0 hp
 ·rw [hf] at e
  cases e
  exact hq a ha
theorem RSt.gi (h : RSt base w s va vc fa fc) (hp : 0 < s.items.length) : ∃ gi, va = some ⟨gi, 0, none⟩ ∧ base ≤ gi ∧ gi < w.heap.size ∧ s.items.length ≤ vc ∧ vc ≤ 9223372036854775807 := by
 obtain ⟨g, cap, hv, h1, h2, h3, h4, _⟩ := own_shape h.row hp
 cases hv
 exact ⟨g, rfl, h1, h2, h3, le_maxLen h4⟩
theorem RSt.item_set {gi : Nat} (h : RSt base w s (some ⟨gi, 0, none⟩) vc fa fc) (i : Nat) (hi : i < s.items.length) (j : Nat) (hj : j < 9) (v : Value) (f : Item → Item)
  (hf : itemCells (f s.items[i]) = (itemCells s.items[i]).set j v) (hb : ∀ x ∈ s.items.modify i f, ItemB x) :
  RSt base (w.setCell ⟨gi, i * 9 + j, none⟩ v) { s with items := s.items.modify i f } (some ⟨gi, 0, none⟩) vc fa fc := by
 obtain ⟨h1, h2⟩ := h.row.stored (i * 9 + j) v;obtain ⟨cs, hgi⟩ := row_type h.row;have hk : KeptT (· ≠ 83) w (w.setCell ⟨gi, i * 9 + j, none⟩ v) := KeptT.set hgi;rw [flat_set s.items i hi j hj v f hf] at h1;refine ⟨by simpa using h1, h.pages.imp id (fun ⟨b, o, vs, e, hp, ha⟩ => ⟨b, o, vs, e, hp.but (Below.heap_setCell w ⟨gi, i * 9 + j, none⟩ v b (fun e' => ha _ rfl e'.symm)) (fun x n xs hx => owns_keptT hx hk (by decide)) (by simp), ha⟩), hb, h.pb, by simpa using h.len, h.plen⟩
theorem RSt.nums (h : RSt base w s va vc fa fc) (hi : t.items = s.items) (hf : t.flash.pages = s.flash.pages) : RSt base w t va vc fa fc := by
 obtain ⟨h1, h2, h3, h4, h5, h6⟩ := h;rw [← hi] at h1 h3 h5;rw [← hf] at h2 h4 h6;exact ⟨h1, h2, h3, h4, h5, h6⟩
theorem RSt.items {l : List Item} (h : RSt base w s va vc fa fc) (hr : w.ownsRow base 83 9 (.slice va' l.length vc') l.length (l.flatMap itemCells)) (hb : ∀ x ∈ l, ItemB x) (hl : l.length ≤ 1000) (hne : s.flash.pages ≠ [] → ∀ a f, va' = some a → fa = some f → a.block ≠ f.block) :
  RSt base w { s with items := l } va' vc' fa fc :=
 ⟨hr, (Classical.em (s.flash.pages = [])).imp id (fun hp => (h.pages.resolve_left hp).imp fun _ ⟨o, vs, e, hq, _⟩ => ⟨o, vs, e, hq, fun a ha => hne hp a _ ha e⟩), hb, h.pb, hl, h.plen⟩
theorem RSt.setAt {B T : Nat} {cs ds : Array Value} {fr : Nat × Nat} (h : RSt base w s va vc fa fc) (hB : w.heap[B]? = some (.cells cs T fr)) (hT : T ≠ 5) (hva : ∀ a, va = some a → a.block ≠ B) (hfa : s.flash.pages ≠ [] → ∀ a, fa = some a → a.block ≠ B) : RSt base (w.setRow B ds) s va vc fa fc := by
 refine ⟨⟨h.row.1, ?_⟩, ?_, h.ib, h.pb, h.len, h.plen⟩
 ·rcases h.row.2 with hn | ⟨g, cap, cur, e, hg, hh, rest⟩
  ·exact .inl hn
  ·exact .inr ⟨g, cap, cur, e, hg, (setRow_other _ _ _ _ (fun e' => hva ⟨g, 0, none⟩ (by cases e; rfl) e')).trans hh, rest⟩
 ·rcases h.pages with h0 | ⟨b, o, vs, e, hp, ha⟩
  ·exact .inl h0
  ·by_cases hpe : s.flash.pages = []
   ·exact .inl hpe
   ·exact .inr ⟨b, o, vs, e, hp.but (setRow_other _ _ _ _ (fun e' => hfa hpe _ e e')) (fun x n xs hx => owns_setT hx hB hT) (by simp [World.setRow]), ha⟩
theorem RSt.setNew {B T : Nat} {cs ds : Array Value} {fr : Nat × Nat} (h : RSt base w s va vc fa fc) (hB : w.heap[B]? = some (.cells cs T fr)) (hT : T ≠ 5) {w0 : World} (hb : w0.heap.size ≤ B) (hva : ∀ a, va = some a → a.block < w0.heap.size) (hfa : s.flash.pages ≠ [] → ∀ a, fa = some a → a.block < w0.heap.size) : RSt base (w.setRow B ds) s va vc fa fc :=
 h.setAt hB hT (fun a ha => by have := hva a ha; omega) (fun hp a ha => by have := hfa hp a ha; omega)
end
theorem two_newR (w : World) (o1 o2 : Obj) : ∃ W, W = (w.alloc o1).alloc o2 ∧ Below w.heap.size w W ∧ W.heap[w.heap.size]? = some o1 ∧ W.heap[w.heap.size + 1]? = some o2 := by
 have s1 : (w.alloc o1).heap.size = w.heap.size + 1 := by simp
 refine ⟨_, rfl, by go_grown, ?_, ?_⟩
 ·rw [Below.heap_alloc _ _ _ (by omega)]; exact blk_new w _
 ·rw [← s1]; exact blk_new _ _
theorem resultsC {fn : Func} {p : Tmp} {ty : TypeId} (h : fn.results = #[.cell p ty]) (tmps : Array Value) (w : World) (g : Nat) (cs : Array Value) (hp : tmps.getD p undef = .pointer (some ⟨g, 0, none⟩)) (hr : (loadVar ty ⟨g, 0, none⟩).run Tryz.prog w = .ok (.agg cs) w) :
  (results fn tmps).run Tryz.prog w = .ok (.agg cs) w := by
 have hp' : tmps[p]?.getD undef = .pointer (some ⟨g, 0, none⟩) := by simpa using hp
 simp [results, h, hp', asAddr, hr]
theorem resultsCT {fn : Func} {p q : Tmp} {ty : TypeId} (h : fn.results = #[.cell p ty, .tmp q]) (tmps : Array Value) (w : World) (g : Nat) (cs : Array Value) (u : Value) (hp : tmps.getD p undef = .pointer (some ⟨g, 0, none⟩)) (hq : tmps.getD q undef = u) (hr : (loadVar ty ⟨g, 0, none⟩).run Tryz.prog w = .ok (.agg cs) w) :
  (results fn tmps).run Tryz.prog w = .ok (.tuple #[.agg cs, u]) w := by
 have hp' : tmps[p]?.getD undef = .pointer (some ⟨g, 0, none⟩) := by simpa using hp
 have hq' : tmps[q]?.getD undef = u := by simpa using hq
 simp [results, h, hp', hq', asAddr, hr]
theorem resultsCCTT {fn : Func} {p q r s : Tmp} {ty ty2 : TypeId} (h : fn.results = #[.cell p ty, .cell q ty2, .tmp r, .tmp s]) (tmps : Array Value) (w : World) (g g2 : Nat) (cs ds : Array Value) (u v : Value) (hp : tmps.getD p undef = .pointer (some ⟨g, 0, none⟩)) (hq : tmps.getD q undef = .pointer (some ⟨g2, 0, none⟩))
  (hu : tmps.getD r undef = u) (hv : tmps.getD s undef = v) (hr : (loadVar ty ⟨g, 0, none⟩).run Tryz.prog w = .ok (.agg cs) w) (hs : (loadVar ty2 ⟨g2, 0, none⟩).run Tryz.prog w = .ok (.agg ds) w) :
  (results fn tmps).run Tryz.prog w = .ok (.tuple #[.agg cs, .agg ds, u, v]) w := by
 have hp' : tmps[p]?.getD undef = .pointer (some ⟨g, 0, none⟩) := by simpa using hp
 have hq' : tmps[q]?.getD undef = .pointer (some ⟨g2, 0, none⟩) := by simpa using hq
 have hu' : tmps[r]?.getD undef = u := by simpa using hu
 have hv' : tmps[s]?.getD undef = v := by simpa using hv
 simp [results, h, hp', hq', hu', hv', asAddr, hr, hs]
def DoneREnd (base : Nat) (va fa : Option Addr) (fp : List Page) (t : Store × Reply) (w : World) (E : Ending) (w' : World) : Prop :=
 ∃ va' vc' fa' fc' ha hc, E = .returned (.tuple #[.agg (storeV t.1 va' vc' fa' fc'), .agg (replyCells t.2 ha hc)]) ∧ RSt base w' t.1 va' vc' fa' fc' ∧ RowsAt w' ha 4 HitR t.2.hits ∧ ButV va w w' ∧ Below base w w' ∧ (t.1.flash.pages ≠ [] → (fa' = fa ∧ fp = t.1.flash.pages) ∨ ∀ a, fa' = some a → w.heap.size ≤ a.block)
def NotAt (o : Option Nat) (ps : List Page) (fa : Option Addr) : Prop := ∀ b, o = some b → ps ≠ [] → ∀ a, fa = some a → a.block ≠ b
theorem RSt.ne {base k T : Nat} {w : World} {s : Store} {va fa : Option Addr} {vc fc : Nat} {cs : Array Value} {fr : Nat × Nat} (h : RSt base w s va vc fa fc) (hk : w.heap[k]? = some (.cells cs T fr)) (hT : T ≠ 83) : ∀ a, va = some a → a.block ≠ k := fun a ha e => by
 subst ha
 rcases h.row.2 with hn | ⟨g, cap, cur, e1, hg, hh, _⟩
 ·simp at hn
 ·cases e1
  rw [show g = k from e] at hh;rw [hh] at hk
  cases hk
  exact hT rfl
def DoneOfEnd (t : Store × Reply × Int) (w : World) (E : Ending) (w' : World) : Prop :=
 ∃ va vc fa fc ha hc, E = .returned (.tuple #[.agg (storeV t.1 va vc fa fc), .agg (replyCells t.2.1 ha hc), .int .i64 t.2.2]) ∧ StAt w' t.1 va vc fa fc ∧ RowsAt w' ha 4 HitR t.2.1.hits ∧ Below w.heap.size w w'
theorem doneOf_none {e : Int} {w w' : World} (hb : Below w.heap.size w w') : DoneOfEnd (Store.zero, Reply.zero, e) w (.returned (.tuple #[.agg (storeV Store.zero none 0 none 0), .agg (replyCells Reply.zero none 0), .int .i64 e])) w' :=
 ⟨none, 0, none, 0, none, 0, rfl, ⟨RowsAt.nil _ _ _ _, RowsAt.nil _ _ _ _, Nat.zero_le _, Nat.zero_le _⟩, RowsAt.nil _ _ _ _, hb⟩
theorem Bx.butV {L base T : Nat} {o : Option Nat} {w w' : World} {s : Store} {va fa : Option Addr} {vc fc : Nat} {cs : Array Value} (h : Bx L o (.cells cs T (0, 0)) w) (hv : ButV va w w') (hO : RSt base w s va vc fa fc) (hT : T ≠ 83) : Bx L o (.cells cs T (0, 0)) w' :=
 fun b hb => ⟨(h b hb).1, hv.at (h b hb).2 (hO.ne (h b hb).2 hT)⟩
theorem NotAt.new {base : Nat} {w : World} {s : Store} {va fa : Option Addr} {vc fc : Nat} (h : RSt base w s va vc fa fc) : NotAt (some w.heap.size) s.flash.pages fa := fun b e hp a ha => by
 cases e
 have := h.fa_lt hp a ha;omega
theorem NotAt.before {L base : Nat} {o : Option Nat} {row : Obj} {w w0 : World} {s : Store} {va fa : Option Addr} {vc fc : Nat} (h : RSt base w s va vc fa fc) (hx : Bx L o row w0) (hb : w0.heap.size ≤ base) : NotAt o s.flash.pages fa := fun b e hp a ha => by
 have := h.fa_lt hp a ha;have := (Array.getElem?_eq_some_iff.1 (hx b e).2).1;omega
theorem NotAt.on {L : Nat} {o : Option Nat} {row : Obj} {w : World} {ps fp : List Page} {fa fa' : Option Addr} (h : NotAt o fp fa) (hx : Bx L o row w) (hf : ps ≠ [] → (fa' = fa ∧ fp = ps) ∨ ∀ a, fa' = some a → w.heap.size ≤ a.block) : NotAt o ps fa' := fun b e hp a ha => by
 rcases hf hp with ⟨h1, h2⟩ | h1
 ·exact h b e (by rw [h2]; exact hp) a (by rw [← h1]; exact ha)
 ·have := h1 a ha
  have := (Array.getElem?_eq_some_iff.1 (hx b e).2).1;omega
theorem resultsCCT {fn : Func} {p q r : Tmp} {ty ty2 : TypeId} (h : fn.results = #[.cell p ty, .cell q ty2, .tmp r]) (tmps : Array Value) (w : World) (g g2 : Nat) (cs ds : Array Value) (u : Value) (hp : tmps.getD p undef = .pointer (some ⟨g, 0, none⟩)) (hq : tmps.getD q undef = .pointer (some ⟨g2, 0, none⟩))
  (hu : tmps.getD r undef = u) (hr : (loadVar ty ⟨g, 0, none⟩).run Tryz.prog w = .ok (.agg cs) w) (hs : (loadVar ty2 ⟨g2, 0, none⟩).run Tryz.prog w = .ok (.agg ds) w) :
  (results fn tmps).run Tryz.prog w = .ok (.tuple #[.agg cs, .agg ds, u]) w := by
 have hp' : tmps[p]?.getD undef = .pointer (some ⟨g, 0, none⟩) := by simpa using hp
 have hq' : tmps[q]?.getD undef = .pointer (some ⟨g2, 0, none⟩) := by simpa using hq
 have hu' : tmps[r]?.getD undef = u := by simpa using hu
 simp [results, h, hp', hq', hu', asAddr, hr, hs]
theorem four_newR (w : World) (o1 o2 o3 o4 : Obj) : ∃ W, W = (((w.alloc o1).alloc o2).alloc o3).alloc o4 ∧ Below w.heap.size w W ∧ W.heap[w.heap.size]? = some o1 ∧ W.heap[w.heap.size + 1]? = some o2 ∧ W.heap[w.heap.size + 2]? = some o3 ∧ W.heap[w.heap.size + 3]? = some o4 := by
 have s1 : (w.alloc o1).heap.size = w.heap.size + 1 := by simp
 have s2 : ((w.alloc o1).alloc o2).heap.size = w.heap.size + 2 := by simp
 have s3 : (((w.alloc o1).alloc o2).alloc o3).heap.size = w.heap.size + 3 := by simp
 refine ⟨_, rfl, by go_grown, ?_, ?_, ?_, ?_⟩
 ·rw [Below.heap_alloc _ _ _ (by omega), Below.heap_alloc _ _ _ (by omega), Below.heap_alloc _ _ _ (by omega)]; exact blk_new w _
 ·rw [Below.heap_alloc _ _ _ (by omega), Below.heap_alloc _ _ _ (by omega), ← s1]; exact blk_new _ _
 ·rw [Below.heap_alloc _ _ _ (by omega), ← s2]; exact blk_new _ _
 ·rw [← s3]; exact blk_new _ _
theorem ref_untilOf (s : Store) (va fa : Option Addr) (vc fc : Nat) (e : Int) (hc : 0 ≤ s.clock ∧ s.clock ≤ maxN) (he : 0 ≤ e ∧ e ≤ maxN) (w : World) :
  Calls Tryz.prog 67 #[.agg (storeV s va vc fa fc), .int .i64 e] w fun E w' => E = .returned (.int .i64 (untilOf s e)) ∧ Below w.heap.size w w' := by
 have hN : maxN = 1099511627776 := rfl;rw [hN] at hc he;obtain ⟨W, hW⟩ : ∃ W, W = w.alloc (.cells (storeV s va vc fa fc) 28) := ⟨_, rfl⟩;have hbW := below_new hW;have R := hid (show W.heap[w.heap.size]? = some (.cells (storeV s va vc fa fc) 28 (0, 0)) by rw [hW]; exact blk_new w _);have HBW := hid hbW;have x0 : W.cell? ⟨w.heap.size, 0, none⟩ = some (.int .i64 s.clock) := cor R.out rfl;have w1 : wrap64 (s.clock + e) = s.clock + e := IntWalk.wrap64_in _ ⟨by omega, by omega⟩;have w2 : IntKind.i64.wrap (s.clock + e) = s.clock + e := IntWalk.i64_in _ ⟨by omega, by omega⟩;clear hbW
 by_cases h0 : e = 0
 ·have hu : untilOf s e = 0 := by unfold untilOf; rw [if_pos h0]
  rw [hu];subst h0
  go_enter Tryz.func67, Tryz.ntmps67
  go_wp2_with fail
  go_ret;rw [← hW];exact ⟨rfl, HBW.out⟩
 ·have h1 : (e == 0) = false := by simp [h0]
  by_cases hg : 1099511627776 < s.clock + e
  ·have hu : untilOf s e = 1099511627776 := by unfold untilOf; rw [if_neg h0, hN]; omega
   rw [hu]
   go_enter Tryz.func67, Tryz.ntmps67
   go_wp2_with fail
   rw [← hW]
   go_wp2_with fail
   go_ret;exact ⟨rfl, HBW.out⟩
  ·have hu : untilOf s e = s.clock + e := by unfold untilOf; rw [if_neg h0, hN]; omega
   rw [hu]
   go_enter Tryz.func67, Tryz.ntmps67
   go_wp2_with fail
   rw [← hW]
   go_wp2_with fail
   go_ret;exact ⟨rfl, HBW.out⟩
def askTo (s : Store) (i j : Nat) : Store := { s with uses := s.uses + 1, items := if j ≤ i then s.items else s.items.modify i (fun x => { x with used := s.uses + 1 }) }
theorem askTo_len (s : Store) (i j : Nat) : (askTo s i j).items.length = s.items.length := by unfold askTo; dsimp only; split <;> simp
theorem askTo_end {s : Store} {i : Nat} (hi : i < s.items.length) : askTo s i s.items.length = asked s i := by
 unfold askTo asked;rw [if_neg (by omega)]
theorem askTo_key {s : Store} {i j : Nat} (hj : j < s.items.length) : ∃ x, (askTo s i j).items[j]? = some x ∧ x.key = s.items[j].key := by
 unfold askTo;dsimp only
 split
 ·exact ⟨_, List.getElem?_eq_getElem hj, rfl⟩
 ·rename_i h
  refine ⟨s.items[j], ?_, rfl⟩;have hij : ¬ i = j := by omega
  rw [List.getElem?_modify, List.getElem?_eq_getElem hj]
  simp [hij]
theorem rising_key {l : List Item} (hr : rising l = true) {i j : Nat} (hi : i < l.length) (hj : j < l.length) (h : bl l[i].key = bl l[j].key) : i = j := by
 rcases Nat.lt_trichotomy i j with h1 | h1 | h1
 ·have := rising_get hr h1 hj; rw [h, less_irrefl] at this; cases this
 ·exact h1
 ·have := rising_get hr h1 hi; rw [h, less_irrefl] at this; cases this
theorem itemB_used {s : Store} (hs : SOk s) (i : Nat) (hu : s.uses < maxN) : ∀ x ∈ s.items.modify i (fun x => { x with used := s.uses + 1 }), ItemB x := by
 intro x hx;have hN : maxN = 1099511627776 := rfl;have h1 := hs.uses
 rcases mem_modify hx with h | ⟨hi, rfl⟩
 ·exact hs.itemB x h
 ·obtain ⟨a, b, c, d, e, f, g, h⟩ := hs.itemB _ (List.getElem_mem hi)
  exact ⟨a, b, c, d, e, ⟨by dsimp only; omega, by dsimp only; omega⟩, g, h⟩
set_option maxRecDepth 100000 in
set_option maxHeartbeats 2000000 in
theorem ref_askedNow (s : Store) (key : ByteArray) (i : Nat) (hs : SOk s) (hi : i < s.items.length) (hk : bl s.items[i].key = bl key) (hu : s.uses < maxN) (base : Nat) (va fa : Option Addr) (vc fc : Nat) (w : World) (ho : RSt base w s va vc fa fc) :
  Calls Tryz.prog 66 #[.agg (storeV s va vc fa fc), .string key] w fun E w' => E = .returned (.agg (storeV (asked s i) va vc fa fc)) ∧ RSt base w' (asked s i) va vc fa fc ∧ ButV va w w' ∧ Below base w w' := by
 have hN : maxN = 1099511627776 := rfl;obtain ⟨gi, rfl, hbg, hgl, hnc, hcm⟩ := ho.gi (by omega);have hlen := hs.len;have huu := hs.uses;have hr := hs.rise;obtain ⟨n, hn⟩ : ∃ n, n = s.items.length := ⟨_, rfl⟩;have HNN := hid hn;have HS := hid hs;have w1 : wrap64 (s.uses + 1) = s.uses + 1 := IntWalk.wrap64_in _ ⟨by omega, by omega⟩;obtain ⟨W0, hW0⟩ : ∃ W0, W0 = (w.alloc (.cells (storeV s (some ⟨gi, 0, none⟩) vc fa fc) 28)).alloc (.cells storeZ 28) := ⟨_, rfl⟩;have hbW : Below w.heap.size w W0 := by rw [hW0]; go_grown
 have hsW : w.heap.size + 2 = W0.heap.size := by rw [hW0]; simp
 have R2 : Hid (W0.heap[w.heap.size]? = some (.cells (storeV s (some ⟨gi, 0, none⟩) vc fa fc) 28 (0, 0))) := by show _ = _; rw [hW0, Below.heap_alloc _ _ _ (by simp)]; exact blk_new w _
 have R4 : Hid (W0.heap[w.heap.size + 1]? = some (.cells storeZ 28 (0, 0))) := by
  have e : w.heap.size + 1 = (w.alloc (.cells (storeV s (some ⟨gi, 0, none⟩) vc fa fc) 28)).heap.size := by simp
  show _ = _;rw [hW0, e]; exact blk_new _ _
 have O0 := hid (ho.below hbW);have HFA : Hid (s.flash.pages ≠ [] → ∀ a, fa = some a → a.block < w.heap.size) := fun hp a ha => (ho.fa_lt hp a ha).2
 have HB0 := hid hbW;clear hs ho hbW
 go_enter Tryz.func66, Tryz.ntmps66
 go_upto_region 1 with (fail);rw [← hW0];clear hW0;have x2 : W0.cell? ⟨w.heap.size, 2, none⟩ = some (.int .i64 s.uses) := cor R2.out rfl;have f2 : ∀ j, W0.frozen? ⟨w.heap.size, j, none⟩ = false := fun j => frozen_of_row W0 _ _ _ _ R2.out
 go_upto_region 2 with (fail);obtain ⟨W1, hW1⟩ : ∃ W1, W1 = W0.setCell ⟨w.heap.size, 2, none⟩ (.int .i64 (s.uses + 1)) := ⟨_, rfl⟩;rw [← hW1]
 have R21 : Hid (W1.heap[w.heap.size]? = some (.cells (storeV (askTo s i 0) (some ⟨gi, 0, none⟩) vc fa fc) 28 (0, 0))) := by
  show _ = _;rw [hW1, setCell_eq_setRow W0 w.heap.size 2 _ _ _ _ R2.out, setRow_heap W0 w.heap.size _ _ _ _ R2.out]
  simp [storeV, askTo]
 have R41 : Hid (W1.heap[w.heap.size + 1]? = some (.cells storeZ 28 (0, 0))) := by show _ = _; rw [hW1]; exact blk_off R4.out (by omega)
 have O1 : Hid (RSt base W1 (askTo s i 0) (some ⟨gi, 0, none⟩) vc fa fc) := by
  rw [hW1];refine hid (RSt.nums (s := s) ?_ (by simp [askTo]) rfl);rw [setCell_eq_setRow W0 w.heap.size 2 _ _ _ _ R2.out];exact O0.out.setNew R2.out (by decide) (w0 := w) (Nat.le_refl _) (fun a ha => by cases ha; exact hgl) HFA.out
 have HB1 : Hid (Below w.heap.size w W1) := by show Below _ _ _; rw [hW1]; exact HB0.out.setCell (p := ⟨w.heap.size, 2, none⟩) (by show _ ≤ w.heap.size; omega) _
 have hz1 : w.heap.size + 2 ≤ W1.heap.size := by rw [hW1]; simp; omega
 clear x2 f2 hW1 R2 R4 O0 HB0
 go_wp2_with fail
 go_loopw [5] (fun v wr => ∃ j : Nat, j ≤ s.items.length ∧ v = .int .i64 j ∧ Hid (RSt base wr (askTo s i j) (some ⟨gi, 0, none⟩) vc fa fc) ∧ Hid (ButV (some ⟨gi, 0, none⟩) W1 wr) ∧ Hid (Below base W1 wr)) (fun v _ => s.items.length - (intOf v).toNat)
 case atStart => exact ⟨0, Nat.zero_le _, rfl, O1, ButV.refl _, Below.refl _ _⟩
 case round =>
  obtain ⟨j, hj, rfl, HO, HV, HL⟩ := hrel;have ng : gi ≠ w.heap.size := by omega
  have ng1 : gi ≠ w.heap.size + 1 := by omega
  have R22 := hid (HV.out.at R21.out (fun a ha => by cases ha; exact ng))
  have x8 : wr.cell? ⟨w.heap.size, 8, none⟩ = some (.slice (some ⟨gi, 0, none⟩) n vc) := by
   rw [cell_of_row wr _ _ _ _ _ R22.out];show some (Value.slice _ (askTo s i 0).items.length _) = _;rw [askTo_len, HNN.out]
  have x2 : wr.cell? ⟨w.heap.size, 2, none⟩ = some (.int .i64 (s.uses + 1)) := cor R22.out rfl;have hjn : j ≤ n := by omega
  by_cases hlt : j < n
  ·obtain ⟨x, hx, hxk⟩ := askTo_key (s := s) (i := i) (j := j) (by omega)
   obtain ⟨d0, d1, d2, d3, d4, d5, d6, d7, d8⟩ := own_item HO.out.row hx;have df := own_free HO.out.row;have hgw : gi < wr.heap.size := by have := HV.out.1; omega
   by_cases hji : j = i
   ·subst hji
    have he : (x.key.toList == key.toList) = true := by rw [bl_toList, bl_toList, hxk, hk]; simp
    obtain ⟨W2, hW2⟩ : ∃ W2, W2 = wr.setCell ⟨gi, j * 9 + 4, none⟩ (.int .i64 (s.uses + 1)) := ⟨_, rfl⟩
    have hO2 : RSt base W2 (askTo s j (j + 1)) (some ⟨gi, 0, none⟩) vc fa fc := by
     have e1 : askTo s j j = { s with uses := s.uses + 1 } := by unfold askTo; rw [if_pos (Nat.le_refl _)]
     have e2 : askTo s j (j + 1) = { ({ s with uses := s.uses + 1 } : Store) with items := s.items.modify j (fun x => { x with used := s.uses + 1 }) } := by unfold askTo; rw [if_neg (by omega)]
     have h := HO.out;rw [e1] at h;rw [hW2, e2];exact h.item_set j hi 4 (by omega) _ (fun x => { x with used := s.uses + 1 }) rfl (itemB_used HS.out j hu)
    have HO2 := hid hO2;have HV2 : Hid (ButV (some ⟨gi, 0, none⟩) W1 W2) := by show ButV _ _ _; rw [hW2]; exact HV.out.trans ButV.set
    have HL2 : Hid (Below base W1 W2) := by show Below _ _ _; rw [hW2]; exact HL.out.setCell (p := ⟨gi, j * 9 + 4, none⟩) hbg _
    clear hx hxk hO2 HO HV O1
    go_wp2_with fail
    rw [← hW2];clear hW2;go_roundw
    case rel => exact ⟨j + 1, by omega, by go_num, HO2, HV2, HL2⟩
    case measure => simp [intOf]; omega
   ·have he : (x.key.toList == key.toList) = false := by
     rw [bl_toList, bl_toList, hxk, beq_eq_false_iff_ne];intro e;exact hji (rising_key hr (by omega) hi (e.trans hk.symm))
    have HO2 : Hid (RSt base wr (askTo s i (j + 1)) (some ⟨gi, 0, none⟩) vc fa fc) := by
     have e1 : askTo s i (j + 1) = askTo s i j := by
      unfold askTo
      by_cases h : j ≤ i
      ·rw [if_pos h, if_pos (by omega)]
      ·rw [if_neg h, if_neg (by omega)]
     rw [e1]; exact HO
    clear hx hxk O1 HO
    go_wp2_with fail
    go_roundw
    case rel => exact ⟨j + 1, by omega, by go_num, HO2, HV, HL⟩
    case measure => simp [intOf]; omega
  ·have hj2 : j = s.items.length := by omega
   have HE : Hid (askTo s i j = asked s i) := by rw [hj2]; exact askTo_end hi
   have R42 := hid (HV.out.at R41.out (fun a ha => by cases ha; exact ng1))
   have hRB : Hid (wr.heap[w.heap.size]? = some (.cells (storeV (asked s i) (some ⟨gi, 0, none⟩) vc fa fc) 28 (0, 0))) := by
    show _ = _;rw [R22.out]
    simp [storeV, askTo, asked]
   clear x2 R22 O1 R21 R41;rw [HE.out] at HO
   go_wp2_with (first
    | refine wpList_load_row rfl 28 _ rfl w.heap.size rfl _ _ _ _ hRB.out Tryz.underlying28 rfl (by kernel_rfl) ?_
    | refine wpList_store_row rfl 28 _ _ rfl (w.heap.size + 1) _ rfl rfl _ _ R42.out storeSize rfl (store_one _ _ _ _ _) ?_)
   refine bodyPost_ret (v := .agg (storeV (asked s i) (some ⟨gi, 0, none⟩) vc fa fc)) (resultsC rfl _ _ (w.heap.size + 1) _ rfl (run_loadVar_row _ _ _ _ _ _ _ (setRow_heap _ _ _ _ _ _ R42.out) Tryz.underlying28 rfl storeSize)) rfl ?_;have hbV : ButV (some ⟨gi, 0, none⟩) w wr := (ButV.below HB1.out).trans HV.out;refine ⟨rfl, HO.out.setNew R42.out (by decide) (w0 := w) (by omega) (fun a ha => by cases ha; exact hgl) HFA.out, ⟨by have := hbV.1; simpa using this, fun k hk ha => (setRow_other _ _ k _ (by omega)).trans (hbV.2 k hk ha)⟩, ?_⟩;exact ((HB1.out.mono (by omega)).trans HL.out).trans (Below.setRow _ (w.heap.size + 1) _ (by omega))
theorem lit_found (x : Item) (q : Nat) (k : ByteArray) (t : Bool) (ht : Hid ((bl x.key == bl k) = t)) (w : World) (hq : w.cell? ⟨q, 0, none⟩ = some (.string k)) :
  Calls Tryz.prog 96 #[.agg #[.string x.key, .int .i64 x.flags, .int .i64 x.till, .int .i64 x.cas, .int .i64 x.used, .string x.value, .bool x.far, .int .i64 x.place.page, .int .i64 x.place.off], .pointer (some ⟨q, 0, none⟩)] w fun e w' => e = .returned (.bool t) ∧ Below w.heap.size w w' := by
 have hql := cell_lt hq;have h1 : (x.key.toList == k.toList) = t := by rw [bl_toList, bl_toList]; exact ht.out
 clear ht
 cases t <;>
 ·go_enter Tryz.func96, Tryz.ntmps96
  go_wp2_with fail
  go_ret;exact ⟨rfl, by go_grown⟩
theorem strikes_found {q : Nat} {k : ByteArray} {w : World} (hq : w.cell? ⟨q, 0, none⟩ = some (.string k)) : Strikes 96 q (fun y => bl y.key == bl k) w :=
 ⟨fun args w' => enters_fn Tryz.func96 (by kernel_rfl) rfl args w', fun x w' hb => lit_found x q k _ (hid rfl) w' (Below.keeps hb _ _ hq)⟩
theorem lit_putI (x : Item) (q : Nat) (k : ByteArray) (t : Bool) (ht : Hid ((bl x.key == bl k) = t)) (w : World) (hq : w.cell? ⟨q, 0, none⟩ = some (.string k)) :
  Calls Tryz.prog 97 #[.agg #[.string x.key, .int .i64 x.flags, .int .i64 x.till, .int .i64 x.cas, .int .i64 x.used, .string x.value, .bool x.far, .int .i64 x.place.page, .int .i64 x.place.off], .pointer (some ⟨q, 0, none⟩)] w fun e w' => e = .returned (.bool t) ∧ Below w.heap.size w w' := by
 have hql := cell_lt hq;have h1 : (x.key.toList == k.toList) = t := by rw [bl_toList, bl_toList]; exact ht.out
 clear ht
 cases t <;>
 ·go_enter Tryz.func97, Tryz.ntmps97
  go_wp2_with fail
  go_ret;exact ⟨rfl, by go_grown⟩
theorem strikes_putI {q : Nat} {k : ByteArray} {w : World} (hq : w.cell? ⟨q, 0, none⟩ = some (.string k)) : Strikes 97 q (fun y => bl y.key == bl k) w :=
 ⟨fun args w' => enters_fn Tryz.func97 (by kernel_rfl) rfl args w', fun x w' hb => lit_putI x q k _ (hid rfl) w' (Below.keeps hb _ _ hq)⟩
theorem lit_room1 (x : Item) (q : Nat) (k : ByteArray) (t : Bool) (ht : Hid ((bl x.key == bl k) = t)) (w : World) (hq : w.cell? ⟨q, 0, none⟩ = some (.string k)) :
  Calls Tryz.prog 119 #[.agg #[.string x.key, .int .i64 x.flags, .int .i64 x.till, .int .i64 x.cas, .int .i64 x.used, .string x.value, .bool x.far, .int .i64 x.place.page, .int .i64 x.place.off], .pointer (some ⟨q, 0, none⟩)] w fun e w' => e = .returned (.bool t) ∧ Below w.heap.size w w' := by
 have hql := cell_lt hq;have h1 : (x.key.toList == k.toList) = t := by rw [bl_toList, bl_toList]; exact ht.out
 clear ht
 cases t <;>
 ·go_enter Tryz.func119, Tryz.ntmps119
  go_wp2_with fail
  go_ret;exact ⟨rfl, by go_grown⟩
theorem strikes_room1 {q : Nat} {k : ByteArray} {w : World} (hq : w.cell? ⟨q, 0, none⟩ = some (.string k)) : Strikes 119 q (fun y => bl y.key == bl k) w :=
 ⟨fun args w' => enters_fn Tryz.func119 (by kernel_rfl) rfl args w', fun x w' hb => lit_room1 x q k _ (hid rfl) w' (Below.keeps hb _ _ hq)⟩
theorem lit_room2 (x : Item) (q : Nat) (p : Int) (t : Bool) (hp : 0 < p) (ht : Hid (onPage p x = t)) (w : World) (hq : w.cell? ⟨q, 0, none⟩ = some (.int .i64 p)) :
  Calls Tryz.prog 120 #[.agg #[.string x.key, .int .i64 x.flags, .int .i64 x.till, .int .i64 x.cas, .int .i64 x.used, .string x.value, .bool x.far, .int .i64 x.place.page, .int .i64 x.place.off], .pointer (some ⟨q, 0, none⟩)] w fun e w' => e = .returned (.bool t) ∧ Below w.heap.size w w' := by
 have hql := cell_lt hq
 cases hf : x.far with
 | false =>
  have e : t = false := by rw [← ht.out]; unfold onPage; rw [hf]; rfl
  subst e;clear ht
  go_enter Tryz.func120, Tryz.ntmps120
  go_wp2_with fail
  go_ret;exact ⟨rfl, by go_grown⟩
 | true =>
  have e : t = (x.place.page == p) := by rw [← ht.out]; unfold onPage; rw [hf]; rfl
  subst e;clear ht
  go_enter Tryz.func120, Tryz.ntmps120
  go_wp2_with fail
  go_ret;exact ⟨rfl, by go_grown⟩
theorem lit_room0 (x : Item) (q : Nat) (p : Int) (hp : ¬ 0 < p) (w : World) (hq : w.cell? ⟨q, 0, none⟩ = some (.int .i64 p)) :
  Calls Tryz.prog 120 #[.agg #[.string x.key, .int .i64 x.flags, .int .i64 x.till, .int .i64 x.cas, .int .i64 x.used, .string x.value, .bool x.far, .int .i64 x.place.page, .int .i64 x.place.off], .pointer (some ⟨q, 0, none⟩)] w fun e w' => e = .returned (.bool false) ∧ Below w.heap.size w w' := by
 have hql := cell_lt hq
 go_enter Tryz.func120, Tryz.ntmps120
 go_wp2_with fail
 go_ret;exact ⟨rfl, by go_grown⟩
theorem strikes_room2 {q : Nat} {p : Int} {w : World} (hq : w.cell? ⟨q, 0, none⟩ = some (.int .i64 p)) : Strikes 120 q (fun y => decide (0 < p) && onPage p y) w := by
 refine ⟨fun args w' => enters_fn Tryz.func120 (by kernel_rfl) rfl args w', fun x w' hb => ?_⟩
 by_cases hp : 0 < p
 ·simp only [hp, decide_true, Bool.true_and]
  exact lit_room2 x q p _ hp (hid rfl) w' (Below.keeps hb _ _ hq)
 ·simp only [hp, decide_false, Bool.false_and]
  exact lit_room0 x q p hp w' (Below.keeps hb _ _ hq)
theorem gtr_less (a b : Str) : (!bytesLess a b && !(a == b)) = bytesLess b a := by
 cases h : bytesLess a b with
 | true => rw [less_asymm h]; rfl
 | false =>
  cases h2 : bytesLess b a with
  | true =>
   have : (a == b) = false := by rw [beq_eq_false_iff_ne]; intro e; rw [e, less_irrefl] at h2; cases h2
   rw [this]; rfl
  | false =>
   have := less_tri h h2;subst this
   simp
def WithTo (l : List Item) (x : Item) (k : Nat) (d : Bool) (ys : List Item) : Prop :=
 if d then ys = withR (l.take k) x ∧ ∃ z ∈ l.take k, bytesLess (bl x.key) (bl z.key) = true else ys = l.take k ∧ ∀ z ∈ l.take k, bytesLess (bl x.key) (bl z.key) = false
theorem WithTo.past {l : List Item} {x : Item} {k : Nat} {ys : List Item} (h : WithTo l x k true ys) (hk : k < l.length) : WithTo l x (k + 1) true (ys ++ [l[k]]) := by
 obtain ⟨rfl, z, hz, hl⟩ := h;refine ⟨?_, z, ?_, hl⟩
 ·rw [List.take_succ_eq_append_getElem hk]; exact (withR_past ⟨z, hz, hl⟩).symm
 ·rw [List.take_succ_eq_append_getElem hk]; exact List.mem_append.2 (.inl hz)
theorem WithTo.at {l : List Item} {x : Item} {k : Nat} {ys : List Item} (h : WithTo l x k false ys) (hk : k < l.length) (hl : bytesLess (bl x.key) (bl l[k].key) = true) : WithTo l x (k + 1) true (ys ++ [x] ++ [l[k]]) := by
 obtain ⟨rfl, hn⟩ := h;refine ⟨?_, l[k], ?_, hl⟩
 ·rw [List.take_succ_eq_append_getElem hk, withR_at hn hl]; simp
 ·rw [List.take_succ_eq_append_getElem hk]; exact List.mem_append.2 (.inr (List.mem_singleton.2 rfl))
theorem WithTo.ahead {l : List Item} {x : Item} {k : Nat} {ys : List Item} (h : WithTo l x k false ys) (hk : k < l.length) (hl : bytesLess (bl x.key) (bl l[k].key) = false) : WithTo l x (k + 1) false (ys ++ [l[k]]) := by
 obtain ⟨rfl, hn⟩ := h;refine ⟨by rw [List.take_succ_eq_append_getElem hk], fun z hz => ?_⟩;rw [List.take_succ_eq_append_getElem hk] at hz
 rcases List.mem_append.1 hz with hz | hz
 ·exact hn z hz
 ·rw [List.mem_singleton.1 hz]; exact hl
theorem WithTo.done {l : List Item} {x : Item} {ys : List Item} (h : WithTo l x l.length true ys) : ys = withR l x := by
 have := h.1
 rwa [List.take_length] at this
theorem WithTo.end {l : List Item} {x : Item} {ys : List Item} (h : WithTo l x l.length false ys) : ys ++ [x] = withR l x := by
 obtain ⟨rfl, hn⟩ := h;rw [List.take_length] at hn ⊢;exact (withR_none hn).symm
set_option maxRecDepth 100000 in
set_option maxHeartbeats 2000000 in
theorem ref_withItem (xs : List Item) (x : Item) (a : Option Addr) (c : Nat) (w : World) (h : RowsAt w a 9 ItemR xs) (hn : xs.length ≤ 1000) :
  Calls Tryz.prog 99 #[.slice a xs.length c, .agg #[.string x.key, .int .i64 x.flags, .int .i64 x.till, .int .i64 x.cas, .int .i64 x.used, .string x.value, .bool x.far, .int .i64 x.place.page, .int .i64 x.place.off]] w (ItemsEnd (withR xs x) w) := by
 have HI := hid h;clear h;obtain ⟨i0, hi, hz0, hz1, hz2⟩ := info_parts infoItem
 go_enter Tryz.func99, Tryz.ntmps99
 go_wp2_with fail
 obtain ⟨W, hW⟩ : ∃ W, W = w.alloc (.cells #[.string x.key, .int .i64 x.flags, .int .i64 x.till, .int .i64 x.cas, .int .i64 x.used, .string x.value, .bool x.far, .int .i64 x.place.page, .int .i64 x.place.off] 83) := ⟨_, rfl⟩;obtain ⟨B, hB⟩ : ∃ B, B = w.heap.size := ⟨_, rfl⟩;have RX : Hid (W.heap[B]? = some (.cells #[.string x.key, .int .i64 x.flags, .int .i64 x.till, .int .i64 x.cas, .int .i64 x.used, .string x.value, .bool x.far, .int .i64 x.place.page, .int .i64 x.place.off] 83 (0, 0))) := by rw [hW, hB]; exact blk_new w _
 have hbW := below_new hW;have HBW := hid hbW;have hBW : B < W.heap.size := (blt RX.out);rw [← hW, ← hB];clear hW hB hbW
 go_loopw [5, 6, 7] (fun v d i wr => ∃ (k n : Nat) (t : Bool) (ys : List Item), k ≤ xs.length ∧ i = .int .i64 k ∧ d = .bool t ∧ Hid (WithTo xs x k t ys) ∧ Hid (n = ys.length) ∧ n ≤ 2 * k + 1 ∧ Hid (wr.ownsRow W.heap.size 83 9 v n (ys.flatMap itemCells)) ∧ Below W.heap.size W wr) (fun _ _ i _ => xs.length - (intOf i).toNat)
 case atStart => exact ⟨0, 0, false, [], Nat.zero_le _, rfl, rfl, ⟨rfl, fun z hz => by cases hz⟩, rfl, by omega, World.ownsRow_nil _ _ _ _, Below.refl _ _⟩
 case round =>
  obtain ⟨k, n, t, ys, hk, rfl, rfl, HT, HN, hnk, HO, hb⟩ := hrel;have RX1 := hid ((hb.block B hBW).trans RX.out)
  by_cases hlt : k < xs.length
  ·obtain ⟨b, o, rfl, hc⟩ := HI.out.pos (by omega)
   obtain ⟨cs, _, hcs, h3⟩ := hc k hlt;obtain ⟨y, hyy⟩ : ∃ y, y = xs[k] := ⟨_, rfl⟩;rw [← hyy] at hcs;have HK := hid hlt;have HY := hid hyy;have hcs := hcs.1;subst hcs;have H3 := hid h3;have HBK := hid (HBW.out.trans (hb.mono HBW.out.size));obtain ⟨c0, c1, c2, c3, c4, c5, c6, c7, c8, hbb⟩ := item_cells (Below.keeps HBK.out) h3;clear h3 hc hyy HI hbb;have x0 : wr.cell? ⟨B, 0, none⟩ = some (.string x.key) := cor RX1.out rfl;obtain ⟨g, hg⟩ : ∃ g, g = (!t && bytesLess (bl x.key) (bl y.key)) := ⟨_, rfl⟩;have hgl : (!Op.bytesLess y.key.toList x.key.toList && !y.key.toList == x.key.toList) = bytesLess (bl x.key) (bl y.key) := by rw [bl_toList, bl_toList]; exact gtr_less _ _
   go_upto_region 6 with (fail)
   go_cut [25] (fun v wx => v = .bool g ∧ Below wr.heap.size wr wx)
   case first =>
    have HG := hid hg;clear hg;obtain ⟨lt, hlt2⟩ : ∃ lt, lt = bytesLess (bl x.key) (bl y.key) := ⟨_, rfl⟩;rw [← hlt2] at hgl HG;have HL2 := hid hgl;clear hlt2 hgl
    cases t <;> cases lt <;>
    ·go_quiet (fail)
     go_wp2_with fail
     go_meet;exact ⟨by rw [HG.out]; first | rfl | (rw [HL2.out]; rfl), ⟨rfl, rfl, rfl, Nat.le_refl _, fun _ _ => rfl⟩⟩
   case rest =>
    obtain ⟨rfl, hbq⟩ := hcut;clear x0 hgl;replace RX1 := hid ((hbq.block B (by have := hb.size; omega)).trans RX1.out);replace HO := hid (owns_below HO.out hbq);replace HBK := hid (HBK.out.trans (hbq.mono HBK.out.size));replace hb := hb.trans (hbq.mono hb.size);obtain ⟨c0, c1, c2, c3, c4, c5, c6, c7, c8, -⟩ := item_cells (Below.keeps HBK.out) H3.out;clear hbq
    cases hgg : g with
    | true =>
     have ht : t = false := by cases t with
      | false => rfl
      | true => rw [hgg] at hg; cases hg
     have HL : Hid (bytesLess (bl x.key) (bl y.key) = true) := by show _ = _; rw [hgg, ht] at hg; simpa using hg.symm
     subst ht;subst hgg;have HT2 : Hid (WithTo xs x (k + 1) true (ys ++ [x] ++ [y])) := by show WithTo _ _ _ _ _; rw [HY.out]; exact HT.out.at HK.out (by rw [← HY.out]; exact HL.out)
     have HN2 : Hid (n + 1 + 1 = (ys ++ [x] ++ [y]).length) := by show _ = _; rw [List.length_append, List.length_append, ← HN.out]; rfl
     clear hg HL HT HN
     go_wp2_with (first
      | refine wpList_load_row rfl 83 _ rfl B rfl _ _ _ _ RX1.out Tryz.underlying83 rfl (by kernel_rfl) ?_
      | (at_builtin; go_must (refine wpList_append_own _ rfl (.tmp 26) (.tmp 28) 23 rfl W.heap.size 83 i0 (.agg #[.string ByteArray.empty, .int .i64 0, .int .i64 0, .int .i64 0, .int .i64 0, .string ByteArray.empty, .bool false, .int .i64 0, .int .i64 0]) 9 88 Tryz.underlying23 hi hz0 hz1 hz2 rfl (by decide) _ n (ys.flatMap itemCells) rfl (HO.out.alloc _) ⟨wc.heap.size, 0, none⟩ 1 1 (itemCells x) rfl rfl (news_lit _ _ _ _ _ rfl rfl) (ones rfl) (by unfold maxLen; omega) (by omega) (by have := hb.size; go_size) ?_)))
     intro v1 w1 hown hg1 _
     have HO1 : Hid (w1.ownsRow W.heap.size 83 9 v1 (n + 1) ((ys ++ [x]).flatMap itemCells)) := by
      show World.ownsRow _ _ _ _ _ _ _;rw [List.flatMap_append]
      simpa using hown
     have hb1 : Below W.heap.size W w1 := (hb.alloc hb.size _).grown hg1 (by have := hb.size; simp; omega) (fun b e => (HO.out.lt b e).1);clear hown hg1 HO hb c0 c1 c2 c3 c4 c5 c6 c7 c8;have RX2 := hid ((hb1.block B hBW).trans RX.out);have HBK1 := hid (HBW.out.trans (hb1.mono HBW.out.size));obtain ⟨c0, c1, c2, c3, c4, c5, c6, c7, c8, -⟩ := item_cells (Below.keeps HBK1.out) H3.out;clear HBK HBK1 H3 RX1
     go_wp2_with (at_builtin; go_must (refine wpList_append_own _ rfl (.tmp 30) (.tmp 35) 23 rfl W.heap.size 83 i0 (.agg #[.string ByteArray.empty, .int .i64 0, .int .i64 0, .int .i64 0, .int .i64 0, .string ByteArray.empty, .bool false, .int .i64 0, .int .i64 0]) 9 88 Tryz.underlying23 hi hz0 hz1 hz2 rfl (by decide) _ (n + 1) ((ys ++ [x]).flatMap itemCells) rfl (HO1.out.alloc _) ⟨w1.heap.size, 0, none⟩ 1 1 (itemCells y) rfl rfl (news_lit _ _ _ _ _ rfl rfl) (ones rfl) (by unfold maxLen; omega) (by omega) (by have := hb1.size; go_size) ?_))
     intro v2 w2 hown hg1 _
     have HO2 : Hid (w2.ownsRow W.heap.size 83 9 v2 (n + 1 + 1) ((ys ++ [x] ++ [y]).flatMap itemCells)) := by
      show World.ownsRow _ _ _ _ _ _ _;rw [List.flatMap_append]
      simpa using hown
     have hb2 : Below W.heap.size W w2 := (hb1.alloc hb1.size _).grown hg1 (by have := hb1.size; simp; omega) (fun b e => (HO1.out.lt b e).1);clear hown hg1 HO1 hb1 c0 c1 c2 c3 c4 c5 c6 c7 c8 RX2
     go_wp2_with fail
     go_roundw
     case rel => exact ⟨k + 1, n + 1 + 1, true, ys ++ [x] ++ [y], by omega, by go_num, rfl, HT2, HN2, by omega, HO2, hb2⟩
     case measure => simp [intOf]; omega
    | false =>
     subst hgg
     have HT2 : Hid (WithTo xs x (k + 1) t (ys ++ [y])) := by
      show WithTo _ _ _ _ _;rw [HY.out]
      cases t with
      | true => exact HT.out.past HK.out
      | false => exact HT.out.ahead HK.out (by rw [← HY.out]; simpa using hg.symm)
     have HN2 : Hid (n + 1 = (ys ++ [y]).length) := by show _ = _; rw [List.length_append, ← HN.out]; rfl
     clear hg HT HN
     go_wp2_with (at_builtin; go_must (refine wpList_append_own _ rfl (.tmp 30) (.tmp 35) 23 rfl W.heap.size 83 i0 (.agg #[.string ByteArray.empty, .int .i64 0, .int .i64 0, .int .i64 0, .int .i64 0, .string ByteArray.empty, .bool false, .int .i64 0, .int .i64 0]) 9 88 Tryz.underlying23 hi hz0 hz1 hz2 rfl (by decide) _ n (ys.flatMap itemCells) rfl (HO.out.alloc _) ⟨wc.heap.size, 0, none⟩ 1 1 (itemCells y) rfl rfl (news_lit _ _ _ _ _ rfl rfl) (ones rfl) (by unfold maxLen; omega) (by omega) (by have := hb.size; go_size) ?_))
     intro v2 w2 hown hg1 _
     have HO2 : Hid (w2.ownsRow W.heap.size 83 9 v2 (n + 1) ((ys ++ [y]).flatMap itemCells)) := by
      show World.ownsRow _ _ _ _ _ _ _;rw [List.flatMap_append]
      simpa using hown
     have hb2 : Below W.heap.size W w2 := (hb.alloc hb.size _).grown hg1 (by have := hb.size; simp; omega) (fun b e => (HO.out.lt b e).1);clear hown hg1 HO hb c0 c1 c2 c3 c4 c5 c6 c7 c8
     go_wp2_with fail
     go_roundw
     case rel => exact ⟨k + 1, n + 1, t, ys ++ [y], by omega, by go_num, rfl, HT2, HN2, by omega, HO2, hb2⟩
     case measure => simp [intOf]; omega
  ·have hk2 : k = xs.length := by omega
   subst hk2
   cases t with
   | true =>
    have HY2 : Hid (withR xs x = ys) := HT.out.done.symm
    go_wp2_with fail
    go_ret;unfold ItemsEnd;rw [HY2.out, ← HN.out];exact ⟨_, rfl, owns_low HO.out HBW.out.size, HBW.out.trans (hb.mono HBW.out.size)⟩
   | false =>
    have HY2 : Hid (withR xs x = ys ++ [x]) := HT.out.end.symm;have HN2 : Hid ((ys ++ [x]).length = n + 1) := by show _ = _; rw [List.length_append, ← HN.out]; rfl
    clear HT HN
    go_wp2_with (first
     | refine wpList_load_row rfl 83 _ rfl B rfl _ _ _ _ RX1.out Tryz.underlying83 rfl (by kernel_rfl) ?_
     | (at_builtin; go_must (refine wpList_append_own _ rfl (.tmp 39) (.tmp 41) 23 rfl W.heap.size 83 i0 (.agg #[.string ByteArray.empty, .int .i64 0, .int .i64 0, .int .i64 0, .int .i64 0, .string ByteArray.empty, .bool false, .int .i64 0, .int .i64 0]) 9 88 Tryz.underlying23 hi hz0 hz1 hz2 rfl (by decide) _ n (ys.flatMap itemCells) rfl (HO.out.alloc _) ⟨wr.heap.size, 0, none⟩ 1 1 (itemCells x) rfl rfl (news_lit _ _ _ _ _ rfl rfl) (ones rfl) (by unfold maxLen; omega) (by omega) (by have := hb.size; go_size) ?_)))
    intro v1 w1 hown hg1 _
    have HO1 : Hid (w1.ownsRow W.heap.size 83 9 v1 (n + 1) ((ys ++ [x]).flatMap itemCells)) := by
     show World.ownsRow _ _ _ _ _ _ _;rw [List.flatMap_append]
     simpa using hown
    have hb1 : Below W.heap.size W w1 := (hb.alloc hb.size _).grown hg1 (by have := hb.size; simp; omega) (fun b e => (HO.out.lt b e).1);clear hown hg1 HO hb
    go_wp2_with fail
    go_ret;unfold ItemsEnd;rw [HY2.out, HN2.out];exact ⟨_, rfl, owns_low HO1.out HBW.out.size, HBW.out.trans (hb1.mono HBW.out.size)⟩
theorem take_all {l : Str} {k : Nat} (hk : k < l.length) : (l.take (k + 1)).all isDig = ((l.take k).all isDig && isDig l[k]) := by
 rw [List.take_succ_eq_append_getElem hk, List.all_append]; simp
theorem val_step {l : Str} {k : Nat} (hk : k < l.length) : valD (l.take (k + 1)) = 10 * valD (l.take k) + (l[k].toNat - 48) := by
 rw [List.take_succ_eq_append_getElem hk, valD_snoc]
theorem numR_none {l : Str} (h : l.length = 0 ∨ 13 < l.length ∨ (1 < l.length ∧ l.head? = some 48)) : numR l = -1 := by unfold numR; rw [if_pos h]
theorem numR_bad {l : Str} {k : Nat} (hk : k < l.length) (h : isDig l[k] = false) : numR l = -1 := by
 unfold numR
 split
 ·rfl
 ·rw [if_neg]
  intro ha;have := List.all_eq_true.1 ha l[k] (List.getElem_mem hk);rw [h] at this; cases this
theorem numR_val {l : Str} (h : ¬ (l.length = 0 ∨ 13 < l.length ∨ (1 < l.length ∧ l.head? = some 48))) (ha : l.all isDig = true) : numR l = if 1099511627776 < (valD l : Int) then -1 else (valD l : Int) := by
 unfold numR; rw [if_neg h, if_pos ha]
theorem num_wraps {m d : Nat} (h : 10 * m + d < 10000000000000) : wrap64 (10 * (m : Int)) = 10 * (m : Int) ∧ wrap64 (d : Int) = (d : Int) ∧ wrap64 (10 * (m : Int) + (d : Int)) = 10 * (m : Int) + (d : Int) ∧
  IntKind.i64.wrap (10 * (m : Int)) = 10 * (m : Int) ∧ IntKind.i64.wrap (d : Int) = (d : Int) ∧ IntKind.i64.wrap (10 * (m : Int) + (d : Int)) = 10 * (m : Int) + (d : Int) :=
 ⟨IntWalk.wrap64_in _ ⟨by omega, by omega⟩, IntWalk.wrap64_in _ ⟨by omega, by omega⟩, IntWalk.wrap64_in _ ⟨by omega, by omega⟩, IntWalk.i64_in _ ⟨by omega, by omega⟩, IntWalk.i64_in _ ⟨by omega, by omega⟩, IntWalk.i64_in _ ⟨by omega, by omega⟩⟩
theorem head_48 {s : ByteArray} (h : 0 < s.size) : (bl s).head? = some 48 ↔ s[0].toNat = 48 := by
 have h1 : (bl s).head? = some ((bl s)[0]'(by rw [bl_length]; exact h)) := by
  rw [List.head?_eq_getElem?, List.getElem?_eq_getElem]
 rw [h1, bl_get s 0 h, Option.some.injEq]
 constructor
 ·intro e; rw [e]; rfl
 ·intro e; exact u8_of e
set_option maxRecDepth 100000 in
set_option maxHeartbeats 2000000 in
theorem ref_numberOf (s : ByteArray) (hs : s.size ≤ 1000000) (w : World) : Calls Tryz.prog 70 #[.string s] w fun e w' => e = .returned (.int .i64 (numR (bl s))) ∧ w = w' := by
 have hlen := hid (bl_length s)
 by_cases hl : 1 ≤ (s.size : Int) ∧ (s.size : Int) ≤ 13
 rotate_left
 ·have HR : Hid (numR (bl s) = -1) := numR_none (by rw [bl_length]; omega)
  have ht : Hid (false = decide (1 ≤ (s.size : Int) ∧ (s.size : Int) ≤ 13)) := (decide_eq_false hl).symm
  go_enter Tryz.func70, Tryz.ntmps70
  go_wp2_with fail
  refine (in_dec _ 1 13 false ht w).mono ?_;rintro e w' ⟨rfl, rfl⟩
  go_wp2_with fail
  go_ret;exact ⟨by rw [HR.out]; rfl, rfl⟩
 ·have ht : Hid (true = decide (1 ≤ (s.size : Int) ∧ (s.size : Int) ≤ 13)) := (decide_eq_true hl).symm
  have h0 : 0 < s.size := by omega
  have h00 : (0 : Int) < (s.size : Int) := by omega
  by_cases hz : 1 < s.size ∧ s[0].toNat = 48
  ·have HR : Hid (numR (bl s) = -1) := numR_none (.inr (.inr ⟨by rw [bl_length]; exact hz.1, (head_48 h0).2 hz.2⟩))
   obtain ⟨hz1, hz2⟩ := hz;have hz3 : (1 : Int) < (s.size : Int) := by omega
   go_enter Tryz.func70, Tryz.ntmps70
   go_wp2_with fail
   refine (in_dec _ 1 13 true ht w).mono ?_;rintro e w' ⟨rfl, rfl⟩
   go_wp2_with fail
   go_ret;exact ⟨by rw [HR.out]; rfl, rfl⟩
  ·have HC : Hid (¬ ((bl s).length = 0 ∨ 13 < (bl s).length ∨ (1 < (bl s).length ∧ (bl s).head? = some 48))) := by
    show ¬ _;rw [bl_length, head_48 h0];omega
   have hz0 : 1 < s.size → (s[0].toNat : Int) ≠ 48 := fun h => by
    intro e;exact hz ⟨h, by omega⟩
   go_enter Tryz.func70, Tryz.ntmps70
   go_upto_region 1 with (fail)
   go_cut [18] (fun v wx => v = .bool false ∧ wx = w)
   case first =>
    by_cases h1 : 1 < s.size
    ·have h1i : (1 : Int) < (s.size : Int) := by omega
     have hz1 : ((s[0].toNat : Int) == 48) = false := by rw [beq_eq_false_iff_ne]; exact hz0 h1
     have hz2 : ¬ s[0].toNat = 48 := fun e => hz ⟨h1, e⟩
     clear hz hz0
     go_wp2_with fail
     refine (in_dec _ 1 13 true ht w).mono ?_;rintro e w' ⟨rfl, rfl⟩
     go_wp2_with fail
     go_meet;exact ⟨rfl, rfl⟩
    ·have h1i : ¬ (1 : Int) < (s.size : Int) := by omega
     clear hz hz0
     go_wp2_with fail
     refine (in_dec _ 1 13 true ht w).mono ?_;rintro e w' ⟨rfl, rfl⟩
     go_wp2_with fail
     go_meet;exact ⟨rfl, rfl⟩
   case rest =>
    obtain ⟨rfl, hwc⟩ := hcut;rw [hwc];clear hwc hz hz0;have hl13 : s.size ≤ 13 := by omega
    go_wp2_with fail
    go_loop [3, 4] (fun n i => ∃ k m : Nat, k ≤ s.size ∧ i = .int .i64 k ∧ n = .int .i64 m ∧ Hid (m = valD ((bl s).take k)) ∧ Hid (((bl s).take k).all isDig = true) ∧ m < 10000000000000) (fun _ i => s.size - (intOf i).toNat)
    case atStart => exact ⟨0, 0, Nat.zero_le _, rfl, rfl, rfl, rfl, by omega⟩
    case round =>
     obtain ⟨k, m, hk, rfl, rfl, HM, HD, hm⟩ := hrel
     by_cases hlt : k < s.size
     ·
      obtain ⟨xk, hxk⟩ : ∃ x : Nat, x = s[k].toNat := ⟨_, rfl⟩;have HX := hid hxk;have hx2 : s[k].toNat = xk := hxk.symm;have hx3 : xk < 256 := by rw [hxk]; exact s[k].toNat_lt
      clear hxk;have hlb : k < (bl s).length := by rw [bl_length]; exact hlt
      have HS1 := hid (take_all hlb);have HS2 := hid (val_step hlb);have HG : Hid ((bl s)[k]'hlb = s[k]'hlt) := bl_get s k hlt
      have HBAD : Hid (isDig ((bl s)[k]'hlb) = decide (48 ≤ (xk : Int) ∧ (xk : Int) ≤ 57)) := by
       show _ = _;rw [HG.out];unfold isDig;rw [← HX.out, decide_eq_decide];omega
      have ww : wrap64 (xk : Int) = xk := IntWalk.wrap64_in _ ⟨by omega, by omega⟩;have wi : IntKind.i64.wrap (xk : Int) = xk := IntWalk.i64_in _ ⟨by omega, by omega⟩;have hki : (k : Int) < (s.size : Int) := by omega
      by_cases hd : 48 ≤ (xk : Int) ∧ (xk : Int) ≤ 57
      ·have hdt : Hid (true = decide (48 ≤ (xk : Int) ∧ (xk : Int) ≤ 57)) := (decide_eq_true hd).symm
       obtain ⟨d, hdd⟩ : ∃ d : Nat, (xk : Int) - 48 = d ∧ d ≤ 9 := ⟨xk - 48, by omega⟩;obtain ⟨hd1, hd2⟩ := hdd
       have HS3 : Hid (10 * m + d = valD ((bl s).take (k + 1))) := by
        show _ = _;rw [HS2.out, ← HM.out, HG.out, ← HX.out];omega
       have HD3 : Hid (((bl s).take (k + 1)).all isDig = true) := by
        show _ = _;rw [HS1.out, HD.out, HBAD.out, ← hdt.out]; rfl
       have hm3 : 10 * m + d < 10000000000000 := by
        have := valD_lt _ HD3.out;rw [← HS3.out] at this;have hle : ((bl s).take (k + 1)).length ≤ 13 := by rw [List.length_take, bl_length]; omega
        exact Nat.lt_of_lt_of_le this (Nat.pow_le_pow_right (by omega) hle)
       have wu : ((xk : Int) - 48) % 256 = (d : Int) := by omega
       obtain ⟨wm, wd, wa, wm2, wd2, wa2⟩ := num_wraps hm3;clear hx3 hd hm
       go_wp2_with fail
       try simp only [wrap64_byte, hx2]
       refine (in_dec (xk : Int) 48 57 true hdt w).mono ?_;rintro e w' ⟨rfl, rfl⟩;clear hd1 HS1 HS2 HM HD HBAD
       go_wp2_with fail
       go_round
       case rel => exact ⟨k + 1, 10 * m + d, by omega, by go_num, by go_num, HS3, HD3, hm3⟩
       case measure => simp [intOf]; omega
      ·have hdf : Hid (false = decide (48 ≤ (xk : Int) ∧ (xk : Int) ≤ 57)) := (decide_eq_false hd).symm
       have HR : Hid (numR (bl s) = -1) := numR_bad hlb (by rw [HBAD.out]; exact decide_eq_false hd);clear hx3
       go_wp2_with fail
       try simp only [wrap64_byte, hx2]
       refine (in_dec (xk : Int) 48 57 false hdf w).mono ?_;rintro e w' ⟨rfl, rfl⟩
       go_wp2_with fail
       go_ret;exact ⟨by rw [HR.out]; rfl, rfl⟩
     ·have hk2 : k = s.size := by omega
      have HV : Hid (m = valD (bl s)) := by show _ = _; rw [HM.out, hk2, List.take_of_length_le (by rw [bl_length]; exact Nat.le_refl _)]
      have HA : Hid ((bl s).all isDig = true) := by have := HD.out; rwa [hk2, List.take_of_length_le (by rw [bl_length]; exact Nat.le_refl _)] at this
      have HR : Hid (numR (bl s) = if 1099511627776 < (m : Int) then -1 else (m : Int)) := by show _ = _; rw [HV.out]; exact numR_val HC.out HA.out
      by_cases hb : 1099511627776 < (m : Int)
      ·have HR2 := hid (HR.out.trans (if_pos hb))
       clear HR
       go_wp2_with fail
       go_ret;exact ⟨by rw [HR2.out]; rfl, rfl⟩
      ·have HR2 := hid (HR.out.trans (if_neg hb))
       clear HR
       go_wp2_with fail
       go_ret;exact ⟨by rw [HR2.out]; rfl, rfl⟩
end Go.Proofs.YtbeegfkfpkfccaaGreatDoor.D
