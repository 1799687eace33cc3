/-
 Contract: slices.Insert of one item: in place where there is room, else in a new row.
-/
import Derived.Test.YtbeegfkfpkfccaaGreatDoorYKeep
import Derived.Shelf.Spec.SlicesInsert
import Derived.Lib.AppendZerosOnto
import Derived.Laws.NewBlocks
namespace Go.Proofs.YtbeegfkfpkfccaaGreatDoor.D
open Go.RowKit
theorem run_copy_wide {P : Program} (w : World) (dT sT ty elem : TypeId) (size b o dLen dCap : Nat) (a : Addr) (sLen sCap n : Nat) (cs : List Value)
  (hu : P.underlying dT = some (.slice elem)) (hs : (P.info? elem).map (·.size) = some size) (hn : n = Nat.min sLen dLen) (hl : cs.length = n * size)
  (hsrc : ∀ j v, cs[j]? = some v → w.cell? (a.add j) = some v) (hc : ∀ j, j < cs.length → (w.cell? ⟨b, o + j, none⟩).isSome = true) (hf : ∀ j, j < cs.length → w.frozen? ⟨b, o + j, none⟩ = false) (h1 : ∀ v ∈ cs, v.oneCell' = true) :
  (Builtin.copy_ #[dT, sT] ty #[.slice (some ⟨b, o, none⟩) dLen dCap, .slice (some a) sLen sCap]).run P w = .ok (goInt n) (w.setCells b o cs) := by
 have hld := run_loadCells_list (P := P) w a cs hsrc;rw [hl] at hld;have hst := run_storeCells_cells (P := P) b o cs 0 w (by simpa using hc) (by simpa using hf) h1
 cases hq : P.info? elem with
 | none => simp [hq] at hs
 | some i =>
  have hi : i.size = size := by simpa [hq] using hs
  simp [Builtin.copy_, run_underlying hu, Builtin.lenOf, Builtin.firstCells, sizeOf, typeInfo, hq, hi, ← hn, hld, hst]
def InsEnd (base n : Nat) (ys : List Value) (w : World) (E : Ending) (w' : World) : Prop :=
 ∃ v, E = .returned v ∧ w'.ownsRow base 83 9 v (n + 1) ys ∧ KeptT (· ≠ 83) w w' ∧ Below base w w'
theorem below_setCells {B g : Nat} (w : World) (o : Nat) (vs : List Value) (h : B ≤ g) (hw : B ≤ w.heap.size) : Below B w (w.setCells g o vs) := below_grown (setCells_kept g w o vs) h hw
section
variable {base : Nat} {w : World} {b n c : Nat} {xs : List Value} {vb vc : Nat} {ys : List Value}
theorem row_set {o : Nat} {vs : List Value} {W : World} {cur : Array Value} (hh : W.heap[b]? = some (.cells cur 83 (0, 0))) (ho : o + vs.length ≤ cur.size) :
  (W.setCells b o vs).heap[b]? = some (.cells (cur.toList.take o ++ vs ++ cur.toList.drop (o + vs.length)).toArray 83 (0, 0)) := setCells_block b _ _ vs o W cur hh ho
theorem insert_room (h : w.ownsRow base 83 9 (.slice (some ⟨b, 0, none⟩) n c) n xs) (hroom : n + 1 ≤ c) (hy : ys.length = 9) (hone : ∀ v ∈ ys, v.oneCell' = true) (hvs : ∀ j v, ys[j]? = some v → w.cell? ⟨vb, j, none⟩ = some v) (hbase : base ≤ w.heap.size) :
  Calls Tryz.prog 127 #[.slice (some ⟨b, 0, none⟩) n c, .int .i64 n, .slice (some ⟨vb, 0, none⟩) 1 vc] w (InsEnd base n (xs ++ ys) w) := by
 obtain ⟨i0, hi0, hz0, hzs, hzb⟩ := info_parts infoItem;obtain ⟨hx, ⟨hv, _⟩ | ⟨b', c', cur, hv, hb, hh, hnc, hm, hsz, htk⟩⟩ := h
 ·cases hv
 cases hv
 have hcell : ∀ j, j < c * 9 → (w.cell? ⟨b, j, none⟩).isSome = true := fun j hj => by unfold World.cell?; rw [hh]; simp; omega
 have hfro : ∀ j, w.frozen? ⟨b, j, none⟩ = false := fun j => by unfold World.frozen?; rw [hh]; simp
 have hc63 := le_maxLen hm
 have HE : Hid (InsEnd base n (xs ++ ys) w (.returned (.slice (some ⟨b, 0, none⟩) (n + 1) c)) (w.setCells b (0 + n * 9) ys)) := by
  refine ⟨_, rfl, ⟨by simp [hx, hy]; omega, .inr ⟨b, c, _, rfl, hb, row_set hh (by rw [hsz, hy]; omega), hroom, hm, ?_, ?_⟩⟩, KeptT.grown hh (setCells_kept b w _ _), below_setCells w _ _ hb hbase⟩
  ·simp only [List.size_toArray, List.length_append, List.length_take, List.length_drop, Array.length_toList, hsz, hy]; omega
  ·rw [Nat.zero_add]
   simp only;rw [htk];exact List.take_left' (by simp [hx, hy]; omega)
 have hsrc : Src Tryz.prog i0.size 23 (.slice (some ⟨vb, 0, none⟩) 1 vc) 1 ys w := by
  rw [hzs];exact Src.ofSlice w Tryz.underlying23 ⟨vb, 0, none⟩ 1 vc ys (by omega) (fun j u hj => by rw [addr_add, Nat.zero_add]; exact hvs j u hj) hone
 have hS := hid hsrc;have e9 : i0.size = 9 := hzs;have HC : Hid (∀ j, j < ys.length → (w.cell? ⟨b, 0 + n * i0.size + j, none⟩).isSome = true) := fun j hj => by rw [e9, Nat.zero_add]; exact hcell _ (by rw [hy] at hj; omega)
 have HF : Hid (∀ j, j < ys.length → w.frozen? ⟨b, 0 + n * i0.size + j, none⟩ = false) := fun j hj => hfro _
 clear hsrc hcell hfro hvs hone hx hh hsz htk
 go_enter Tryz.func127, Tryz.ntmps127
 go_wp2_with (at_builtin; go_must (refine wpList_append_room_src _ rfl _ _ 23 23 rfl 83 i0 Tryz.underlying23 hi0 b 0 n c rfl _ rfl 1 ys hS.out hroom HC.out HF.out ?_))
 go_ret;have h := HE.out;rw [Nat.zero_add] at h;exact h
theorem cap_fits (c n : Nat) (h1 : c < n + 1) (h2 : n ≤ 1000) : Builtin.nextslicecap (n + 1) c * 88 ≤ 281474976710656 := growslice_fits h1 (by omega)
theorem insert_end_grow (va : Option Addr) (h : w.ownsRow base 83 9 (.slice va n c) n xs) (hgrow : c < n + 1) (hn : n ≤ 1000) (hy : ys.length = 9) (hone : ∀ v ∈ ys, v.oneCell' = true) (hvs : ∀ j v, ys[j]? = some v → w.cell? ⟨vb, j, none⟩ = some v) (hbase : base ≤ w.heap.size) :
  Calls Tryz.prog 127 #[.slice va n c, .int .i64 n, .slice (some ⟨vb, 0, none⟩) 1 vc] w (InsEnd base n (xs ++ ys) w) := by
 obtain ⟨i0, hi0, hz0, hzs, hzb⟩ := info_parts infoItem;have hx : xs.length = n * 9 := h.1
 have hsrc : Src Tryz.prog i0.size 23 (.slice (some ⟨vb, 0, none⟩) 1 vc) 1 ys w := by
  rw [hzs];exact Src.ofSlice w Tryz.underlying23 ⟨vb, 0, none⟩ 1 vc ys (by omega) (fun j u hj => by rw [addr_add, Nat.zero_add]; exact hvs j u hj) hone
 have hold : (Builtin.firstCells i0.size n (.slice va n c)).run Tryz.prog w.drew = .ok xs.toArray w.drew := by
  rw [hzs]
  cases va with
  | none =>
   rcases h.2 with ⟨hv, h0⟩ | ⟨_, _, _, hv, _⟩
   ·simp only [Value.slice.injEq, true_and] at hv
    obtain ⟨rfl, _⟩ := hv;have hx0 : xs = [] := List.length_eq_zero_iff.1 (by simpa using hx);rw [hx0];exact run_firstCells_none w.drew 9 0 0 c
   ·cases hv
  | some a =>
   rcases h.2 with ⟨hv, _⟩ | ⟨g, _, _, hv, _⟩
   ·cases hv
   ·simp only [Value.slice.injEq, Option.some.injEq, true_and] at hv
    obtain ⟨rfl, _⟩ := hv;exact run_firstCells_some w.drew 9 n _ n c xs (by omega) (fun j v hj => h.cells (g := g) rfl j v hj)
 have hrun : ∀ ty, (Builtin.append_ #[23, 23] ty #[.slice va n c, .slice (some ⟨vb, 0, none⟩) 1 vc]).run Tryz.prog w = _ := fun ty =>
  run_append_grow_src w 23 23 ty 83 i0 _ Tryz.underlying23 hi0 hz0 va n c xs hold _ 1 ys hsrc hgrow (by omega) (by rw [hzb]; exact cap_fits c n hgrow hn)
 have hge := grownCap_ge w (n + 1) c 83;have hle := grownCap_le_maxLen w (n + 1) c 83 (by unfold maxLen; omega)
 generalize grownCap w (n + 1) c 83 = G at hrun hge hle
 have HE : Hid (InsEnd base n (xs ++ ys) w (.returned (.slice (some ⟨w.heap.size, 0, none⟩) (n + 1) G)) (w.drew.alloc (.cells ((xs ++ ys).toArray ++ Builtin.zeroCells (Value.agg #[.string ByteArray.empty, .int .i64 0, .int .i64 0, .int .i64 0, .int .i64 0, .string ByteArray.empty, .bool false, .int .i64 0, .int .i64 0]).cells (G - (n + 1))) 83))) := by
  refine ⟨_, rfl, ⟨by simp [hx, hy]; omega, .inr ⟨w.heap.size, G, _, rfl, hbase, blk_new w.drew _, hge, hle, ?_, ?_⟩⟩, KeptT.below (((Below.refl _ _).drew).alloc (Nat.le_refl _) _), ((Below.refl _ _).drew).alloc hbase _⟩
  ·simp only [Array.size_append, List.size_toArray, List.length_append, hx, hy]
   have : (Builtin.zeroCells (Value.agg #[.string ByteArray.empty, .int .i64 0, .int .i64 0, .int .i64 0, .int .i64 0, .string ByteArray.empty, .bool false, .int .i64 0, .int .i64 0]).cells (G - (n + 1))).size = (G - (n + 1)) * 9 := by simp [Builtin.zeroCells, Value.cells]
   rw [this]; omega
  ·simp only [Array.toList_append]
   exact List.take_left' (by simp [hx, hy]; omega)
 clear hsrc hold hvs hone hx hi0 hz0 hzs hzb
 cases va with
 | none =>
  rcases h.2 with ⟨hv, h0⟩ | ⟨_, _, _, hv, _⟩
  ·simp only [Value.slice.injEq, true_and] at hv
   obtain ⟨rfl, rfl⟩ := hv;clear h h0
   go_enter Tryz.func127, Tryz.ntmps127
   go_wp2_with (at_builtin; refine Lib.wpList_append_run _ rfl _ _ _ _ rfl _ _ rfl rfl _ _ (hrun _) ?_)
   go_ret;exact HE.out
  ·cases hv
 | some a =>
  obtain ⟨g, cap, hv⟩ : ∃ g cap, (Value.slice (some a) n c) = .slice (some ⟨g, 0, none⟩) n cap := by
   rcases h.2 with ⟨hv, _⟩ | ⟨g, cap, _, hv, _⟩
   ·cases hv
   ·exact ⟨g, cap, hv⟩
  simp only [Value.slice.injEq, Option.some.injEq, true_and] at hv;obtain ⟨rfl, rfl⟩ := hv
  have hnc : n ≤ c := by
   rcases h.2 with ⟨hv, _⟩ | ⟨_, _, _, hv, _, _, hnc, _⟩
   ·cases hv
   ·cases hv; exact hnc
  clear h
  go_enter Tryz.func127, Tryz.ntmps127
  go_wp2_with (at_builtin; refine Lib.wpList_append_run _ rfl _ _ _ _ rfl _ _ rfl rfl _ _ (hrun _) ?_)
  all_goals
   go_ret;exact HE.out
theorem shift_row {W1 W2 W3 : World} {cur : Array Value} {i m : Nat} (hh : W1.heap[b]? = some (.cells cur 83 (0, 0))) (hsz : cur.size = m * 9) (hx : xs.length = n * 9) (hy : ys.length = 9) (hi : i ≤ n) (hroom : n + 1 ≤ m) (htk : cur.toList.take (i * 9) = xs.take (i * 9))
  (h2 : W2.heap = (W1.setCells b ((i + 1) * 9) (xs.drop (i * 9))).heap) (h3 : W3.heap = (W2.setCells b (i * 9) ys).heap) :
  ∃ cur', W3.heap[b]? = some (.cells cur' 83 (0, 0)) ∧ cur'.size = m * 9 ∧ cur'.toList.take ((n + 1) * 9) = xs.take (i * 9) ++ ys ++ xs.drop (i * 9) := by
 have hdl : (xs.drop (i * 9)).length = n * 9 - i * 9 := by rw [List.length_drop, hx]
 have b1 := row_set (vs := xs.drop (i * 9)) (o := (i + 1) * 9) hh (by rw [hsz, hdl]; omega);rw [← h2] at b1;have l0 : (cur.toList.take ((i + 1) * 9)).length = (i + 1) * 9 := by rw [List.length_take, Array.length_toList, hsz]; omega
 obtain ⟨mid, hmid⟩ : ∃ mid, mid = cur.toList.take ((i + 1) * 9) ++ xs.drop (i * 9) ++ cur.toList.drop ((i + 1) * 9 + (xs.drop (i * 9)).length) := ⟨_, rfl⟩;rw [← hmid] at b1
 have lm : mid.length = m * 9 := by
  rw [hmid];simp only [List.length_append, l0, hdl, List.length_drop, Array.length_toList, hsz]; omega
 have b2 := row_set (vs := ys) (o := i * 9) b1 (by rw [List.size_toArray, lm, hy]; omega);rw [← h3] at b2;refine ⟨_, b2, ?_, ?_⟩
 ·simp only [List.size_toArray, List.length_append, List.length_take, List.length_drop, lm, hy]; omega
 ·have e1 : mid.take (i * 9) = xs.take (i * 9) := by
   rw [hmid, List.append_assoc, List.take_append_of_le_length (by rw [l0]; omega), List.take_take, Nat.min_eq_left (by omega), htk]
  have e2 : mid.drop (i * 9 + 9) = xs.drop (i * 9) ++ cur.toList.drop ((i + 1) * 9 + (xs.drop (i * 9)).length) := by
   rw [hmid, List.append_assoc];exact List.drop_left' (by rw [l0]; omega)
  simp only [hy];rw [e1, e2, ← List.append_assoc];exact List.take_left' (by simp only [List.length_append, List.length_take, hx, hy, hdl]; omega)
set_option maxHeartbeats 4000000 in
set_option maxRecDepth 100000 in
theorem insert_shift (h : w.ownsRow base 83 9 (.slice (some ⟨b, 0, none⟩) n c) n xs) (i : Nat) (hi : i < n) (hroom : n + 1 ≤ c) (hy : ys.length = 9) (hone : ∀ v ∈ ys, v.oneCell' = true) (honex : ∀ v ∈ xs, v.oneCell' = true)
  (hvb : w.heap[vb]? = some (.cells ys.toArray 83 (0, 0))) (hne : vb ≠ b) (hbase : base ≤ w.heap.size) :
  Calls Tryz.prog 127 #[.slice (some ⟨b, 0, none⟩) n c, .int .i64 i, .slice (some ⟨vb, 0, none⟩) 1 vc] w (InsEnd base n (xs.take (i * 9) ++ ys ++ xs.drop (i * 9)) w) := by
 obtain ⟨i0, hi0, hz0, hzs, hzb⟩ := info_parts infoItem;have hsz9 : (Tryz.prog.info? 83).map (·.size) = some 9 := by rw [hi0]; simp [hzs]
 obtain ⟨hx, ⟨hv, _⟩ | ⟨b', c', cur, hv, hb, hh, hnc, hm, hsz, htk⟩⟩ := h
 ·cases hv
 cases hv
 have hc63 := le_maxLen hm;have hvs : ∀ j v, ys[j]? = some v → w.cell? ⟨vb, j, none⟩ = some v := fun j v hj => by unfold World.cell?; rw [hvb]; simpa using hj
 have hcell : ∀ j, j < c * 9 → (w.cell? ⟨b, j, none⟩).isSome = true := fun j hj => by unfold World.cell?; rw [hh]; simp; omega
 have hfro : ∀ j, w.frozen? ⟨b, j, none⟩ = false := fun j => by unfold World.frozen?; rw [hh]; simp
 have hxs : ∀ j v, xs[j]? = some v → w.cell? ⟨b, j, none⟩ = some v := fun j v hj => by
  have hj1 := (List.getElem?_eq_some_iff.1 hj).1;unfold World.cell?; rw [hh];rw [← htk, List.getElem?_take] at hj
  split at hj
  ·simpa using hj
  ·cases hj
 have hdl : (xs.drop (i * 9)).length = (n - i) * 9 := by rw [List.length_drop, hx]; omega
 obtain ⟨W1, hW1⟩ : ∃ W1, W1 = w.drew.setCells b ((i + 1) * 9) (xs.drop (i * 9)) := ⟨_, rfl⟩
 have hcp1 : ∀ ty dc sc, (Builtin.copy_ #[23, 23] ty #[.slice (some ⟨b, (i + 1) * 9, none⟩) (n - i) dc, .slice (some ⟨b, i * 9, none⟩) (n + 1 - i) sc]).run Tryz.prog w.drew = .ok (goInt (n - i : Nat)) W1 := fun ty dc sc => by
  rw [hW1]
  exact run_copy_wide w.drew _ _ ty 83 9 b ((i + 1) * 9) (n - i) dc ⟨b, i * 9, none⟩ (n + 1 - i) sc (n - i) (xs.drop (i * 9)) Tryz.underlying23 hsz9 (by simp only [Nat.min_def]; split <;> omega) hdl
   (fun j v hj => by rw [addr_add]; exact hxs _ v (by rwa [List.getElem?_drop] at hj)) (fun j hj => hcell _ (by rw [hdl] at hj; omega)) (fun j hj => hfro _) (fun v hv => honex v (List.mem_of_mem_drop hv))
 have hW1v : W1.heap[vb]? = w.heap[vb]? := by rw [hW1]; exact (setCells_kept b w.drew _ _).block vb (blt hvb) (by simpa using hne)
 have hcell1 : ∀ j, j < c * 9 → (W1.cell? ⟨b, j, none⟩).isSome = true := fun j hj => by rw [hW1]; exact World.isSome_setCells b _ _ _ _ (hcell j hj)
 have hfro1 : ∀ j, W1.frozen? ⟨b, j, none⟩ = false := fun j => by rw [hW1]; exact (World.frozen?_setCells b _ _ _ _).trans (hfro j)
 have hcp2 : ∀ (W : World), W.heap = W1.heap → ∀ ty dc, (Builtin.copy_ #[23, 23] ty #[.slice (some ⟨b, i * 9, none⟩) (n + 1 - i) dc, .slice (some ⟨vb, 0, none⟩) 1 vc]).run Tryz.prog W = .ok (goInt (1 : Nat)) (W.setCells b (i * 9) ys) := fun W hW ty dc =>
  run_copy_wide W _ _ ty 83 9 b (i * 9) (n + 1 - i) dc ⟨vb, 0, none⟩ 1 vc 1 ys Tryz.underlying23 hsz9 (by simp only [Nat.min_def]; split <;> omega) (by omega)
   (fun j v hj => by rw [addr_add, Nat.zero_add]; unfold World.cell?; rw [hW, hW1v, hvb]; simpa using hj)
   (fun j hj => by have := hcell1 (i * 9 + j) (by omega); unfold World.cell? at this ⊢; rw [hW]; exact this)
   (fun j hj => by have := hfro1 (i * 9 + j); unfold World.frozen? at this ⊢; rw [hW]; exact this) hone
 have hov : ∀ lb cb, (callFunc 138 #[.slice (some ⟨vb, 0, none⟩) 1 vc, .slice (some ⟨b, (i + 1) * 9, none⟩) lb cb]).run Tryz.prog w = .ok (.value (.bool false)) w := fun lb cb => by
  rw [run_callFunc_extern Tryz.func138 (by kernel_rfl) (by kernel_rfl) (by kernel_rfl) (e := Extern.SlicesOverlaps.overlaps #[23, 23] #[4]) (by kernel_rfl),
   Lib.run_overlaps_apart w 23 4 83 Tryz.underlying23 9 (fun w => by kernel_rfl) ⟨vb, 0, none⟩ ⟨b, (i + 1) * 9, none⟩ 1 vc lb cb hne 83 83 9 (c * 9) (by unfold World.shape?; rw [hvb]; simp [hy]) (by unfold World.shape?; rw [hh]; simp [hsz]) (by omega)
    (by unfold World.frozen?; rw [hvb]; simp) (by unfold World.frozen?; rw [hvb]; simp)]
  rfl
 have HE : Hid (∀ W2 : World, W2.heap = (W1.setCells b (i * 9) ys).heap → W2.os = (W1.setCells b (i * 9) ys).os → W2.tape = (W1.setCells b (i * 9) ys).tape → W2.output = (W1.setCells b (i * 9) ys).output → InsEnd base n (xs.take (i * 9) ++ ys ++ xs.drop (i * 9)) w (.returned (.slice (some ⟨b, 0, none⟩) (n + 1) c)) W2) := by
  intro W2 e1 e2 e3 e4;obtain ⟨cur', q1, q2, q3⟩ := shift_row (W1 := w.drew) (W2 := W1) (W3 := W2) (i := i) (m := c) hh hsz hx hy (by omega) hroom (by rw [← htk, List.take_take, Nat.min_eq_left (by omega)]) (by rw [hW1]) e1
  have hg : w.grownBy W2 (some b) := by
   have g1 : w.grownBy (W1.setCells b (i * 9) ys) (some b) := by
    rw [hW1];exact grownBy_trans (grownBy_trans (grownBy_drew w _) (setCells_kept b _ _ _)) (setCells_kept b _ _ _)
   exact ⟨e2.trans g1.os, e3.trans g1.tape, e4.trans g1.output, by rw [e1]; exact g1.size, fun k hk hne => by rw [e1]; exact g1.block k hk hne⟩
  refine ⟨_, rfl, ⟨?_, .inr ⟨b, c, cur', rfl, hb, q1, hroom, hm, q2, q3⟩⟩, KeptT.grown hh hg, below_grown hg hb hbase⟩;simp only [List.length_append, List.length_take, hdl, hx, hy]; omega
 have hw1 : IntKind.i64.wrap ((i : Int) + 1) = (i : Int) + 1 := by rw [IntKind.wrap_i64]; omega
 have hb1 : (0 : Int) ≤ (i : Int) + 1 := by omega
 have hz2 : ¬ ((i : Int) = (n : Int)) := by omega
 have hin : i ≤ n := by omega
 have htn : ((i : Int) + 1).toNat = i + 1 := by omega
 have hb2 : ¬ (c = i + 1) := by omega
 have hb3 : (i : Int) ≤ (n : Int) + 1 := by omega
 have hb4 : ¬ (c = i) := by omega
 clear hcell1 hfro1 hcell hfro hxs hvs hh hvb hW1v hone honex hsz htk hW1 hx hdl
 go_enter Tryz.func127, Tryz.ntmps127
 go_wp2_with (simp only [hov])
 go_region_law (refine step_copy_runI rfl _ _ 23 23 rfl _ _ (by simp [Act.eval, Act.put]) (by simp [Act.eval, Act.put]) (hcp1 _ _ _) ?_)
 go_wp2_with (at_builtin; refine wpList_copy_runI _ rfl _ _ 23 23 rfl _ _ rfl rfl (hcp2 _ rfl _ _) ?_)
 go_ret;exact HE.out _ rfl rfl rfl rfl
theorem grow_row {W1 W2 W3 : World} {N : Nat} {cur : Array Value} {i m : Nat} (hh : W1.heap[N]? = some (.cells cur 83 (0, 0))) (hsz : cur.size = m * 9) (hx : xs.length = n * 9) (hy : ys.length = 9) (hi : i ≤ n) (hroom : n + 1 ≤ m) (htk : cur.toList.take (i * 9) = xs.take (i * 9))
  (h2 : W2.heap = (W1.setCells N (i * 9) ys).heap) (h3 : W3.heap = (W2.setCells N ((i + 1) * 9) (xs.drop (i * 9))).heap) :
  ∃ cur', W3.heap[N]? = some (.cells cur' 83 (0, 0)) ∧ cur'.size = m * 9 ∧ cur'.toList.take ((n + 1) * 9) = xs.take (i * 9) ++ ys ++ xs.drop (i * 9) := by
 have hdl : (xs.drop (i * 9)).length = n * 9 - i * 9 := by rw [List.length_drop, hx]
 have b1 := setCells_block N _ _ ys (i * 9) W1 cur hh (by rw [hsz, hy]; omega);rw [← h2] at b1;obtain ⟨mid, hmid⟩ : ∃ mid, mid = cur.toList.take (i * 9) ++ ys ++ cur.toList.drop (i * 9 + ys.length) := ⟨_, rfl⟩;rw [← hmid] at b1;have l0 : (cur.toList.take (i * 9)).length = i * 9 := by rw [List.length_take, Array.length_toList, hsz]; omega
 have lm : mid.length = m * 9 := by
  rw [hmid];simp only [List.length_append, l0, hy, List.length_drop, Array.length_toList, hsz]; omega
 have b2 := setCells_block N _ _ (xs.drop (i * 9)) ((i + 1) * 9) W2 _ b1 (by rw [List.size_toArray, lm, hdl]; omega);rw [← h3] at b2;refine ⟨_, b2, ?_, ?_⟩
 ·simp only [List.size_toArray, List.length_append, List.length_take, List.length_drop, lm, hx]; omega
 ·have e1 : mid.take ((i + 1) * 9) = xs.take (i * 9) ++ ys := by
   rw [hmid, htk];exact List.take_left' (by simp only [List.length_append, List.length_take, hx, hy]; omega)
  simp only;rw [e1];exact List.take_left' (by simp only [List.length_append, List.length_take, hx, hy, hdl]; omega)
set_option maxHeartbeats 4000000 in
set_option maxRecDepth 100000 in
theorem insert_grow (h : w.ownsRow base 83 9 (.slice (some ⟨b, 0, none⟩) n c) n xs) (i : Nat) (hi : i < n) (hroom : c < n + 1) (hn : n ≤ 1000) (hy : ys.length = 9) (hone : ∀ v ∈ ys, v.oneCell' = true) (honex : ∀ v ∈ xs, v.oneCell' = true)
  (hvb : w.heap[vb]? = some (.cells ys.toArray 83 (0, 0))) (hbase : base ≤ w.heap.size) :
  Calls Tryz.prog 127 #[.slice (some ⟨b, 0, none⟩) n c, .int .i64 i, .slice (some ⟨vb, 0, none⟩) 1 vc] w (InsEnd base n (xs.take (i * 9) ++ ys ++ xs.drop (i * 9)) w) := by
 obtain ⟨i0, hi0, hz0, hzs, hzb⟩ := info_parts infoItem;have hsz9 : (Tryz.prog.info? 83).map (·.size) = some 9 := by rw [hi0]; simp [hzs]
 have hcells := h.cells (g := b) rfl;obtain ⟨hx, ⟨hv, _⟩ | ⟨b', c', cur, hv, hb, hh, hnc, hm, hsz, htk⟩⟩ := h
 ·cases hv
 cases hv
 obtain rfl : c = n := by omega
 have hbw : b < w.heap.size := (blt hh);have hvw : vb < w.heap.size := (blt hvb)
 have hxs : ∀ j v, xs[j]? = some v → w.cell? ⟨b, j, none⟩ = some v := fun j v hj => by
  have := hcells j v hj
  rwa [addr_add, Nat.zero_add] at this
 have hdl : (xs.drop (i * 9)).length = (c - i) * 9 := by rw [List.length_drop, hx]; omega
 have hold : (Builtin.firstCells i0.size i (.slice (some ⟨b, 0, none⟩) i c)).run Tryz.prog w.drew = .ok (xs.take (i * 9)).toArray w.drew := by
  rw [hzs]
  exact run_firstCells_some w.drew 9 i ⟨b, 0, none⟩ i c (xs.take (i * 9)) (by rw [List.length_take, hx]; omega) (fun j v hj => by
   rw [addr_add, Nat.zero_add];rw [List.getElem?_take] at hj
   split at hj
   ·exact hxs j v hj
   ·cases hj)
 have hkk : (c : Int) + 1 - (i : Int) = ((c + 1 - i : Nat) : Int) := by omega
 have hik : i + (c + 1 - i) = c + 1 := by omega
 have hrz0 : ∀ ty, _ := fun ty => Lib.run_append_grow_zeros w 23 3 ty 83 i0 _ .i64 .i64 Tryz.underlying23 Tryz.underlying3 hi0 hz0 (some ⟨b, 0, none⟩) i c (xs.take (i * 9)) hold (c + 1 - i) (by omega) (by omega) (by omega) (by omega) (by rw [hzb]; omega) (by rw [hzb, hik]; exact cap_fits c c (by omega) hn)
 have hge := grownCap_ge w (c + 1) c 83;have hle := grownCap_le_maxLen w (c + 1) c 83 (by unfold maxLen; omega);rw [hik] at hrz0
 generalize grownCap w (c + 1) c 83 = G at hrz0 hge hle
 obtain ⟨ROW, hROW⟩ : ∃ ROW : Array Value, ROW = (xs.take (i * 9)).toArray ++ Builtin.zeroCells (Value.agg #[.string ByteArray.empty, .int .i64 0, .int .i64 0, .int .i64 0, .int .i64 0, .string ByteArray.empty, .bool false, .int .i64 0, .int .i64 0]).cells (c + 1 - i) ++ Builtin.zeroCells (Value.agg #[.string ByteArray.empty, .int .i64 0, .int .i64 0, .int .i64 0, .int .i64 0, .string ByteArray.empty, .bool false, .int .i64 0, .int .i64 0]).cells (G - (c + 1)) := ⟨_, rfl⟩;rw [← hROW] at hrz0;have hzc : ∀ k, (Builtin.zeroCells (Value.agg #[.string ByteArray.empty, .int .i64 0, .int .i64 0, .int .i64 0, .int .i64 0, .string ByteArray.empty, .bool false, .int .i64 0, .int .i64 0]).cells k).size = k * 9 := fun k => by simp [Builtin.zeroCells, Value.cells]
 have hRsz : ROW.size = G * 9 := by
  rw [hROW];simp only [Array.size_append, hzc, List.size_toArray, List.length_take, hx];omega
 have hRtk : ROW.toList.take (i * 9) = xs.take (i * 9) := by
  rw [hROW];simp only [Array.toList_append, List.append_assoc];exact List.take_left' (by rw [List.length_take, hx]; omega)
 obtain ⟨W1, hW1⟩ : ∃ W1, W1 = w.drew.alloc (.cells ROW 83) := ⟨_, rfl⟩;obtain ⟨N, hN⟩ : ∃ N, N = w.heap.size := ⟨_, rfl⟩
 have hrz : ∀ ty, (Builtin.append_ #[23, 3] ty #[.slice (some ⟨b, 0, none⟩) i c, .int .i64 ((c : Int) + 1 - (i : Int))]).run Tryz.prog w = .ok (.slice (some ⟨N, 0, none⟩) (c + 1) G) W1 := fun ty => by
  rw [hkk, hW1, hN]; exact hrz0 ty
 have hh1 : W1.heap[N]? = some (.cells ROW 83 (0, 0)) := by rw [hW1, hN]; exact blk_new w.drew _
 have hcN : ∀ j, j < G * 9 → (W1.cell? ⟨N, j, none⟩).isSome = true := fun j hj => by unfold World.cell?; rw [hh1]; simp; omega
 have hfN : ∀ j, W1.frozen? ⟨N, j, none⟩ = false := fun j => by unfold World.frozen?; rw [hh1]; simp
 have hold1 : ∀ k, k < w.heap.size → W1.heap[k]? = w.heap[k]? := fun k hk => by rw [hW1]; exact Below.heap_alloc w.drew _ k hk
 have hcpA : ∀ (W : World), W.heap = W1.heap → ∀ ty dc, (Builtin.copy_ #[23, 23] ty #[.slice (some ⟨N, i * 9, none⟩) (c + 1 - i) dc, .slice (some ⟨vb, 0, none⟩) 1 vc]).run Tryz.prog W = .ok (goInt (1 : Nat)) (W.setCells N (i * 9) ys) := fun W hW ty dc =>
  run_copy_wide W _ _ ty 83 9 N (i * 9) (c + 1 - i) dc ⟨vb, 0, none⟩ 1 vc 1 ys Tryz.underlying23 hsz9 (by simp only [Nat.min_def]; split <;> omega) (by omega)
   (fun j v hj => by rw [addr_add, Nat.zero_add]; unfold World.cell?; rw [hW, hold1 vb hvw, hvb]; simpa using hj)
   (fun j hj => by have := hcN (i * 9 + j) (by omega); unfold World.cell? at this ⊢; rw [hW]; exact this)
   (fun j hj => by have := hfN (i * 9 + j); unfold World.frozen? at this ⊢; rw [hW]; exact this) hone
 have hb2 : (W1.setCells N (i * 9) ys).heap[b]? = w.heap[b]? := by
  rw [(setCells_kept N W1 (i * 9) ys).block b (by rw [hW1]; simp; omega) (by simp; omega)]; exact hold1 b hbw
 have hcpB : ∀ (W : World), W.heap = (W1.setCells N (i * 9) ys).heap → ∀ ty dc sc, (Builtin.copy_ #[23, 23] ty #[.slice (some ⟨N, (i + 1) * 9, none⟩) (c - i) dc, .slice (some ⟨b, i * 9, none⟩) (c - i) sc]).run Tryz.prog W = .ok (goInt (c - i : Nat)) (W.setCells N ((i + 1) * 9) (xs.drop (i * 9))) := fun W hW ty dc sc =>
  run_copy_wide W _ _ ty 83 9 N ((i + 1) * 9) (c - i) dc ⟨b, i * 9, none⟩ (c - i) sc (c - i) (xs.drop (i * 9)) Tryz.underlying23 hsz9 (by simp only [Nat.min_def]; split <;> omega) hdl
   (fun j v hj => by
    have := hxs (i * 9 + j) v (by rwa [List.getElem?_drop] at hj)
    rw [addr_add]; unfold World.cell? at this ⊢; rw [hW, hb2]; exact this)
   (fun j hj => by
    have : ((W1.setCells N (i * 9) ys).cell? ⟨N, (i + 1) * 9 + j, none⟩).isSome = true := World.isSome_setCells N _ _ _ _ (hcN ((i + 1) * 9 + j) (by rw [hdl] at hj; omega))
    unfold World.cell? at this ⊢; rw [hW]; exact this)
   (fun j hj => by
    have : (W1.setCells N (i * 9) ys).frozen? ⟨N, (i + 1) * 9 + j, none⟩ = false := (World.frozen?_setCells N _ _ _ _).trans (hfN _)
    unfold World.frozen? at this ⊢; rw [hW]; exact this) (fun v hv => honex v (List.mem_of_mem_drop hv))
 have HE : Hid (∀ W3 : World, W3.heap = ((W1.setCells N (i * 9) ys).setCells N ((i + 1) * 9) (xs.drop (i * 9))).heap → W3.os = ((W1.setCells N (i * 9) ys).setCells N ((i + 1) * 9) (xs.drop (i * 9))).os → W3.tape = ((W1.setCells N (i * 9) ys).setCells N ((i + 1) * 9) (xs.drop (i * 9))).tape → W3.output = ((W1.setCells N (i * 9) ys).setCells N ((i + 1) * 9) (xs.drop (i * 9))).output →
   InsEnd base c (xs.take (i * 9) ++ ys ++ xs.drop (i * 9)) w (.returned (.slice (some ⟨N, 0, none⟩) (c + 1) G)) W3) := by
  intro W3 e1 e2 e3 e4;obtain ⟨cur', q1, q2, q3⟩ := grow_row (W1 := W1) (W2 := W1.setCells N (i * 9) ys) (W3 := W3) (i := i) (m := G) hh1 hRsz hx hy (by omega) hge hRtk rfl e1
  have hg : Below w.heap.size w W3 := by
   have g1 : Below w.heap.size w ((W1.setCells N (i * 9) ys).setCells N ((i + 1) * 9) (xs.drop (i * 9))) := by
    have g0 : Below w.heap.size w W1 := by rw [hW1]; exact ((Below.refl _ _).drew).alloc (Nat.le_refl _) _
    have g2 := g0.trans (below_setCells W1 (i * 9) ys (show w.heap.size ≤ N by omega) g0.size);exact g2.trans (below_setCells _ ((i + 1) * 9) (xs.drop (i * 9)) (show w.heap.size ≤ N by omega) g2.size)
   exact ⟨e2.trans g1.os, e3.trans g1.tape, e4.trans g1.output, by rw [e1]; exact g1.size, fun k hk => by rw [e1]; exact g1.block k hk⟩
  refine ⟨_, rfl, ⟨?_, .inr ⟨N, G, cur', rfl, by omega, q1, hge, hle, q2, q3⟩⟩, KeptT.below hg, hg.mono hbase⟩;simp only [List.length_append, List.length_take, hdl, hx, hy]; omega
 have hz2 : ¬ ((i : Int) = (c : Int)) := by omega
 have hz3 : (c : Int) < (c : Int) + 1 := by omega
 have hG63 := le_maxLen hle;have hGi : ¬ (G = i) := by omega
 have hGim : ¬ (G = i + 1) := by omega
 have hci : ¬ (c = i) := by omega
 have hw1 : IntKind.i64.wrap ((i : Int) + 1) = (i : Int) + 1 := by rw [IntKind.wrap_i64]; omega
 have hb1 : (0 : Int) ≤ (i : Int) + 1 := by omega
 have hin : i ≤ c := by omega
 have htn : ((i : Int) + 1).toNat = i + 1 := by omega
 have hb3 : (i : Int) ≤ (c : Int) := by omega
 have hc63 := le_maxLen hm;clear hcells hrz0 hold hROW hzc hRsz hRtk hh1 hcN hfN hold1 hb2 hxs hh hvb hone honex hsz htk hx hdl hkk hik hN hW1
 go_enter Tryz.func127, Tryz.ntmps127
 go_wp2_with (first
  | (at_builtin; refine Lib.wpList_append_run _ rfl _ _ _ _ rfl _ _ rfl rfl _ _ (hrz _) ?_)
  | (at_builtin; refine wpList_copy_runI _ rfl _ _ 23 23 rfl _ _ rfl rfl (hcpA _ rfl _ _) ?_))
 go_region_law (refine step_copy_runI rfl _ _ 23 23 rfl (.slice (some ⟨N, (i + 1) * 9, none⟩) (c - i) (G - (i + 1))) (.slice (some ⟨b, i * 9, none⟩) (c - i) (c - i)) (by simp [Act.eval, Act.put]) (by simp [Act.eval, Act.put]) (hcpB (W1.setCells N (i * 9) ys).drew rfl 3 (G - (i + 1)) (c - i)) ?_)
 all_goals
  go_wp2_with fail
  go_ret;rw [← drew_setCells];exact HE.out _ rfl rfl rfl rfl
end
theorem flat_insert (l : List Item) (i : Nat) (x : Item) (hi : i ≤ l.length) : (l.flatMap itemCells).take (i * 9) ++ itemCells x ++ (l.flatMap itemCells).drop (i * 9) = (l.insertIdx i x).flatMap itemCells := by
 rw [flat_take itemCells 9 l (fun _ => rfl), flat_drop itemCells 9 l (fun _ => rfl), insertIdx_is l i x hi, List.flatMap_append, List.flatMap_cons, List.append_assoc]
theorem item_ones (x : Item) : ∀ v ∈ itemCells x, v.oneCell' = true := ones (l := itemCells x) rfl
theorem slices_insert {base : Nat} {w : World} {va : Option Addr} {c : Nat} {l : List Item} (x : Item) (i vb : Nat) (h : w.ownsRow base 83 9 (.slice va l.length c) l.length (l.flatMap itemCells)) (hi : i ≤ l.length) (hl : l.length ≤ 1000)
  (hvb : w.heap[vb]? = some (.cells (itemCells x).toArray 83 (0, 0))) (hne : ∀ a, va = some a → a.block ≠ vb) (hbase : base ≤ w.heap.size) :
  Calls Tryz.prog 127 #[.slice va l.length c, .int .i64 i, .slice (some ⟨vb, 0, none⟩) 1 1] w (InsEnd base l.length ((l.insertIdx i x).flatMap itemCells) w) := by
 have hvs : ∀ j v, (itemCells x)[j]? = some v → w.cell? ⟨vb, j, none⟩ = some v := fun j v hj => by unfold World.cell?; rw [hvb]; simpa using hj
 have hx : (l.flatMap itemCells).length = l.length * 9 := flat_length itemCells 9 _ (fun _ => rfl)
 rcases Nat.eq_or_lt_of_le hi with e | hlt
 ·subst e
  have hf := flat_insert l l.length x (Nat.le_refl _);rw [List.take_of_length_le (by omega), List.drop_of_length_le (by omega), List.append_nil] at hf;rw [← hf]
  by_cases hr : l.length + 1 ≤ c
  ·cases va with
   | none =>
    rcases h.2 with ⟨hv, h0⟩ | ⟨_, _, _, hv, _⟩
    ·simp only [Value.slice.injEq, true_and] at hv; omega
    ·cases hv
   | some a =>
    rcases h.2 with ⟨hv, h0⟩ | ⟨g, cap, _, hv, _⟩
    ·cases hv
    ·simp only [Value.slice.injEq, Option.some.injEq, true_and] at hv
     obtain ⟨rfl, rfl⟩ := hv;exact insert_room h hr rfl (item_ones x) hvs hbase
  ·exact insert_end_grow va h (by omega) hl rfl (item_ones x) hvs hbase
 ·rw [← flat_insert l i x hi]
  cases va with
  | none =>
   rcases h.2 with ⟨hv, h0⟩ | ⟨_, _, _, hv, _⟩
   ·simp only [Value.slice.injEq, true_and] at hv; omega
   ·cases hv
  | some a =>
   rcases h.2 with ⟨hv, h0⟩ | ⟨g, cap, _, hv, _⟩
   ·cases hv
   ·simp only [Value.slice.injEq, Option.some.injEq, true_and] at hv
    obtain ⟨rfl, rfl⟩ := hv
    by_cases hr : l.length + 1 ≤ c
    ·exact insert_shift h i hlt hr rfl (item_ones x) (ones (items_one l)) hvb (fun e => hne _ rfl e.symm) hbase
    ·exact insert_grow h i hlt (by omega) hl rfl (item_ones x) (ones (items_one l)) hvb hbase
section
variable {base g : Nat} {s : Store} {va : Option Addr} {vc : Nat} {fa : Option Addr} {fc : Nat} {vs : List Value}
theorem KeepAt.inserted {w w1 : World} {E : Ending} {l : List Item} (h : KeepAt base g s va vc fa fc vs w) (hl : l.length = s.items.length + 1) (hd : InsEnd base s.items.length (l.flatMap itemCells) w E w1) :
  ∃ va' vc', E = .returned (.slice va' (s.items.length + 1) vc') ∧ Below base w w1 ∧ w1.heap[g]? = w.heap[g]? ∧
   KeepAt base g { s with items := l } va' vc' fa fc vs (w1.setCell ⟨g, 8, none⟩ (.slice va' (s.items.length + 1) vc')) ∧ Below base w (w1.setCell ⟨g, 8, none⟩ (.slice va' (s.items.length + 1) vc')) := by
 obtain ⟨v, hE, h1, hk, hb⟩ := hd;obtain ⟨va', vc', rfl⟩ := own_slice h1;have hg := hk g _ _ _ h.row (by decide);refine ⟨va', vc', hE, hb, hg, keep_put (s' := { s with items := l }) (hg.trans h.row) h.here ?_ (h.pages.keptT hk (by decide) (by decide)) 8 _ ?_, hb.trans (below_set w1 _ h.here)⟩
 ·show w1.ownsRow _ _ _ (.slice _ l.length _) l.length _
  rw [hl]; exact h1
 ·simp [storeV, hl]
end
def onPage (p : Int) (y : Item) : Bool := y.far && y.place.page == p
theorem gone_lit (x : Item) (q : Nat) (p : Int) (t : Bool) (ht : Hid (onPage p x = t)) (w : World) (hq : w.cell? ⟨q, 0, none⟩ = some (.int .i64 p)) :
  Calls Tryz.prog 149 #[.agg #[.string x.key, .int .i64 x.flags, .int .i64 x.till, .int .i64 x.cas, .int .i64 x.used, .string x.value, .bool x.far, .int .i64 x.place.page, .int .i64 x.place.off], .pointer (some ⟨q, 0, none⟩)] w fun e w' => e = .returned (.bool t) ∧ Below w.heap.size w w' := by
 have hql := cell_lt hq
 cases hf : x.far with
 | false =>
  have e : t = false := by rw [← ht.out]; unfold onPage; rw [hf]; rfl
  subst e;clear ht
  go_enter Tryz.func149, Tryz.ntmps149
  go_wp2_with fail
  go_ret;exact ⟨rfl, by go_grown⟩
 | true =>
  have e : t = (x.place.page == p) := by rw [← ht.out]; unfold onPage; rw [hf]; rfl
  subst e;clear ht
  go_enter Tryz.func149, Tryz.ntmps149
  go_wp2_with fail
  go_ret;exact ⟨rfl, by go_grown⟩
theorem findIdx_none {l : List Item} {p : Item → Bool} (h : ∀ j (hj : j < l.length), p l[j] = false) : l.findIdx? p = none := by
 rw [List.findIdx?_eq_none_iff];intro x hx;obtain ⟨j, hj, rfl⟩ := List.mem_iff_getElem.1 hx;exact h j hj
theorem findIdx_some {l : List Item} {p : Item → Bool} {k : Nat} (hk : k < l.length) (h : ∀ j (hj : j < l.length), j < k → p l[j] = false) (hp : p l[k] = true) : l.findIdx? p = some k := by
 rw [List.findIdx?_eq_some_iff_getElem];exact ⟨hk, hp, fun j hj => by simp [h j (by omega) hj]⟩
set_option maxHeartbeats 1000000 in
theorem index_gone (l : List Item) (a : Option Addr) (c q : Nat) (p : Int) (w : World) (h : RowsAt w a 9 ItemR l) (hq : w.cell? ⟨q, 0, none⟩ = some (.int .i64 p)) (hl : l.length ≤ 1000) :
  Calls Tryz.prog 159 #[.slice a l.length c, .func (.func 149) #[] #[.pointer (some ⟨q, 0, none⟩)]] w fun e w' => e = .returned (.int .i64 (idxOf (l.findIdx? (onPage p)))) ∧ Below w.heap.size w w' := by
 have H := hid h;have HQ := hid hq;clear h hq
 go_enter Tryz.func159, Tryz.ntmps159
 go_wp2_with fail
 go_loopw [8] (fun i wr => ∃ k : Nat, k ≤ l.length ∧ i = .int .i64 k ∧ Below w.heap.size w wr ∧ Hid (∀ j (hj : j < l.length), j < k → onPage p l[j] = false)) (fun i _ => l.length - (intOf i).toNat)
 case atStart => exact ⟨0, Nat.zero_le _, rfl, Below.refl _ _, fun j hj h => absurd h (Nat.not_lt_zero _)⟩
 case round =>
  obtain ⟨k, hk, rfl, hbl, hf⟩ := hrel
  by_cases hlt : k < l.length
  ·obtain ⟨b, o, rfl, hc⟩ := H.out.pos (by omega)
   obtain ⟨cs, _, hcs, h3⟩ := hc k hlt;obtain ⟨x, hxx⟩ : ∃ x, x = l[k] := ⟨_, rfl⟩;rw [← hxx] at hcs;have hcs := hcs.1;subst hcs;obtain ⟨c0, c1, c2, c3, c4, c5, c6, c7, c8, hbb⟩ := item_cells (Below.keeps hbl) h3;have hqr := Below.keeps hbl _ _ HQ.out;have HX := hid hxx;obtain ⟨t, ht⟩ : ∃ t, onPage p x = t := ⟨_, rfl⟩;have HT := hid ht;clear h3 hc hxx ht
   go_wp2_with fail
   refine (gone_lit x q p t HT _ hqr).mono ?_;rintro e w2 ⟨rfl, hb2⟩;have hb3 := hbl.trans (hb2.mono hbl.size);clear hbl hb2 c0 c1 c2 c3 c4 c5 c6 c7 c8 hqr
   cases t with
   | false =>
    have HS : Hid (∀ j (hj : j < l.length), j < k + 1 → onPage p l[j] = false) := fun j hj hjk => by
     rcases Nat.lt_or_ge j k with h | h
     ·exact hf.out j hj h
     ·obtain rfl : j = k := by omega
      rw [← HX.out]; exact HT.out
    go_wp2_with fail
    go_roundw
    case rel => exact ⟨k + 1, by omega, by go_num, hb3, HS⟩
    case measure => simp [intOf]; omega
   | true =>
    have HE : Hid (l.findIdx? (onPage p) = some k) := findIdx_some hlt hf.out (by rw [← HX.out]; exact HT.out)
    go_wp2_with fail
    go_ret;exact ⟨by rw [HE.out]; rfl, hb3⟩
  ·have HE : Hid (l.findIdx? (onPage p) = none) := findIdx_none (fun j hj => hf.out j hj (by omega))
   go_wp2_with fail
   go_ret;exact ⟨by rw [HE.out]; rfl, hbl⟩
theorem run_clear_many {P : Program} (w : World) (t e ty : TypeId) (z : Value) (k : Nat) (hk : 0 < k) (ht : P.underlying t = some (.slice e)) (hv : ∀ w, (zeroValue e).run P w = .ok z w) (h1 : (Builtin.zeroCells z.cells k).toList.all (·.oneCell') = true) (b o c : Nat)
  (hc : ∀ j, j < k * z.cells.size → (w.cell? ⟨b, o + j, none⟩).isSome = true) (hf : ∀ j, j < k * z.cells.size → w.frozen? ⟨b, o + j, none⟩ = false) :
  (Builtin.clear_ #[t] ty #[.slice (some ⟨b, o, none⟩) k c]).run P w = .ok (.tuple #[]) (w.setCells b o (Builtin.zeroCells z.cells k).toList) := by
 have hl : (Builtin.zeroCells z.cells k).toList.length = k * z.cells.size := by simp [Builtin.zeroCells]
 have hst := run_storeCells_cells (P := P) b o (Builtin.zeroCells z.cells k).toList 0 w (by rw [hl]; simpa using hc) (by rw [hl]; simpa using hf) (fun v hv' => List.all_eq_true.1 h1 v hv');simp only [Nat.add_zero] at hst;obtain ⟨k, rfl⟩ : ∃ j, k = j + 1 := ⟨k - 1, by omega⟩
 simp [Builtin.clear_, run_underlying ht, hv, hst]
structure KInv (p : Item → Bool) (l : List Item) (i j : Nat) (m : List Item) : Prop where
 len : m.length = l.length
 low : m.take i = (l.take j).filter (fun y => !p y)
 lt : i < j
 high : ∀ t, i ≤ t → m[t]? = l[t]?
theorem KInv.start {p : Item → Bool} {l : List Item} {k : Nat} (hk : k < l.length) (h : ∀ j (hj : j < l.length), j < k → p l[j] = false) (hp : p l[k] = true) : KInv p l k (k + 1) l :=
 ⟨rfl, by
  rw [List.take_succ_eq_append_getElem hk, List.filter_append, List.filter_eq_self.2 (fun y hy => by
   obtain ⟨j, hj, rfl⟩ := List.mem_iff_getElem.1 hy;rw [List.length_take] at hj
   rw [List.getElem_take, h j (by omega) (by omega)]; rfl)]
  simp [hp], Nat.lt_succ_self k, fun _ _ => rfl⟩
theorem KInv.keep {p : Item → Bool} {l m : List Item} {i j : Nat} (h : KInv p l i j m) (hj : j < l.length) (hp : p l[j] = false) : KInv p l (i + 1) (j + 1) (m.set i l[j]) := by
 have hi : i < m.length := by have := h.lt; have := h.len; omega
 refine ⟨by rw [List.length_set, h.len], ?_, by have := h.lt; omega, fun t ht => ?_⟩
 ·rw [List.take_succ_eq_append_getElem (by rw [List.length_set]; exact hi), List.take_set_of_le (Nat.le_refl _), h.low, List.getElem_set_self, List.take_succ_eq_append_getElem hj, List.filter_append]
  simp [hp]
 ·rw [List.getElem?_set_ne (by omega)]; exact h.high t (by omega)
theorem KInv.skip {p : Item → Bool} {l m : List Item} {i j : Nat} (h : KInv p l i j m) (hj : j < l.length) (hp : p l[j] = true) : KInv p l i (j + 1) m :=
 ⟨h.len, by rw [h.low, List.take_succ_eq_append_getElem hj, List.filter_append]; simp [hp], by have := h.lt; omega, h.high⟩
theorem own_setCells {w : World} {base gi n c o : Nat} {xs vs : List Value} (h : w.ownsRow base 83 9 (.slice (some ⟨gi, 0, none⟩) n c) n xs) (ho : o + vs.length ≤ n * 9) :
  (w.setCells gi o vs).ownsRow base 83 9 (.slice (some ⟨gi, 0, none⟩) n c) n (xs.take o ++ vs ++ xs.drop (o + vs.length)) := by
 obtain ⟨hx, ⟨hv, _⟩ | ⟨b', c', cur, hv, hb, hh, hnc, hm, hsz, htk⟩⟩ := h
 ·cases hv
 cases hv
 refine ⟨by simp only [List.length_append, List.length_take, List.length_drop, hx]; omega, .inr ⟨gi, c, _, rfl, hb, row_set hh (by rw [hsz]; omega), hnc, hm, ?_, ?_⟩⟩
 ·simp only [List.size_toArray, List.length_append, List.length_take, List.length_drop, Array.length_toList, hsz]; omega
 ·subst htk
  simp only;have hcl : cur.toList.length = c * 9 := by simpa using hsz
  have e1 : (cur.toList.take (n * 9)).take o = cur.toList.take o := by rw [List.take_take, Nat.min_eq_left (by omega)]
  have e2 : (cur.toList.take (n * 9)).drop (o + vs.length) = (cur.toList.drop (o + vs.length)).take (n * 9 - (o + vs.length)) := by rw [List.drop_take]
  rw [e1, e2, List.take_append, List.take_of_length_le (l := cur.toList.take o ++ vs) (by simp only [List.length_append, List.length_take, hcl]; omega)]
  congr 2
  simp only [List.length_append, List.length_take, hcl]; omega
theorem flat_put (m : List Item) (i : Nat) (x : Item) (hi : i < m.length) : (m.flatMap itemCells).take (i * 9) ++ itemCells x ++ (m.flatMap itemCells).drop (i * 9 + (itemCells x).length) = (m.set i x).flatMap itemCells := by
 have e : i * 9 + (itemCells x).length = (i + 1) * 9 := by show i * 9 + 9 = _; omega
 rw [e, flat_take itemCells 9 m (fun _ => rfl), flat_drop itemCells 9 m (fun _ => rfl)]
 have : m.set i x = m.take i ++ x :: m.drop (i + 1) := by
  have h1 := modify_is hi (fun _ => x);rw [← h1];apply List.ext_getElem?;intro j;rw [List.getElem?_modify, List.getElem?_set]
  split <;> rename_i h
  ·subst h; simp [hi]
  ·simp
 rw [this, List.flatMap_append, List.flatMap_cons, List.append_assoc]
theorem own_item {w : World} {base gi n c : Nat} {m : List Item} (h : w.ownsRow base 83 9 (.slice (some ⟨gi, 0, none⟩) n c) n (m.flatMap itemCells)) {i : Nat} {x : Item} (hx : m[i]? = some x) :
  w.cell? ⟨gi, i * 9, none⟩ = some (.string x.key) ∧ w.cell? ⟨gi, i * 9 + 1, none⟩ = some (.int .i64 x.flags) ∧ w.cell? ⟨gi, i * 9 + 2, none⟩ = some (.int .i64 x.till) ∧
  w.cell? ⟨gi, i * 9 + 3, none⟩ = some (.int .i64 x.cas) ∧ w.cell? ⟨gi, i * 9 + 4, none⟩ = some (.int .i64 x.used) ∧ w.cell? ⟨gi, i * 9 + 5, none⟩ = some (.string x.value) ∧
  w.cell? ⟨gi, i * 9 + 6, none⟩ = some (.bool x.far) ∧ w.cell? ⟨gi, i * 9 + 7, none⟩ = some (.int .i64 x.place.page) ∧ w.cell? ⟨gi, i * 9 + 8, none⟩ = some (.int .i64 x.place.off) := by
 have hc : ∀ j v, (itemCells x)[j]? = some v → w.cell? ⟨gi, i * 9 + j, none⟩ = some v := fun j v hj => by
  have hj9 : j < 9 := (List.getElem?_eq_some_iff.1 hj).1;have := h.cells (g := gi) rfl (i * 9 + j) v ((flat_get itemCells 9 m i x j (fun _ => rfl) hx hj9).trans hj)
  rwa [addr_add, Nat.zero_add] at this
 exact ⟨hc 0 _ rfl, hc 1 _ rfl, hc 2 _ rfl, hc 3 _ rfl, hc 4 _ rfl, hc 5 _ rfl, hc 6 _ rfl, hc 7 _ rfl, hc 8 _ rfl⟩
theorem own_free {w : World} {base gi n c : Nat} {xs : List Value} (h : w.ownsRow base 83 9 (.slice (some ⟨gi, 0, none⟩) n c) n xs) (j : Nat) : w.frozen? ⟨gi, j, none⟩ = false := by
 obtain ⟨cs, hcs⟩ := row_type h;unfold World.frozen?; rw [hcs]; simp
def But (gi : Nat) (w w' : World) : Prop := w.heap.size ≤ w'.heap.size ∧ ∀ k, k < w.heap.size → k ≠ gi → w'.heap[k]? = w.heap[k]?
theorem But.trans {gi : Nat} {a b c : World} (h : But gi a b) (k : But gi b c) : But gi a c := ⟨Nat.le_trans h.1 k.1, fun i hi hn => (k.2 i (Nat.lt_of_lt_of_le hi h.1) hn).trans (h.2 i hi hn)⟩
theorem But.below {gi : Nat} {w w' : World} (h : Below w.heap.size w w') : But gi w w' := ⟨h.size, fun k hk _ => h.block k hk⟩
theorem But.grown {gi : Nat} {w w' : World} (h : w.grownBy w' (some gi)) : But gi w w' := ⟨h.size, fun k hk hn => h.block k hk (fun e => hn (by cases e; rfl))⟩
theorem But.keptT {gi : Nat} {w w' : World} {cs : Array Value} {T : TypeId} {fr : Nat × Nat} (hg : w.heap[gi]? = some (.cells cs T fr)) (h : But gi w w') : KeptT (· ≠ T) w w' := fun k cs' t fr' hk hp =>
 h.2 k (blt hk) (fun e => by subst e; rw [hg] at hk; cases hk; exact hp rfl)
def ButK (g : Nat) (va : Option Addr) (w w' : World) : Prop := w.heap.size ≤ w'.heap.size ∧ ∀ k, k < w.heap.size → k ≠ g → (∀ a, va = some a → a.block ≠ k) → w'.heap[k]? = w.heap[k]?
theorem ButK.trans {g : Nat} {va : Option Addr} {a b c : World} (h : ButK g va a b) (k : ButK g va b c) : ButK g va a c := ⟨Nat.le_trans h.1 k.1, fun i hi hn ha => (k.2 i (Nat.lt_of_lt_of_le hi h.1) hn ha).trans (h.2 i hi hn ha)⟩
theorem ButK.below {g : Nat} {va : Option Addr} {w w' : World} (h : Below w.heap.size w w') : ButK g va w w' := ⟨h.size, fun k hk _ _ => h.block k hk⟩
theorem ButK.but {g gi o : Nat} {w w' : World} (h : But gi w w') : ButK g (some ⟨gi, o, none⟩) w w' := ⟨h.1, fun k hk _ ha => h.2 k hk (fun e => ha _ rfl e.symm)⟩
theorem ButK.set_g {g j : Nat} {va : Option Addr} {w : World} {v : Value} : ButK g va w (w.setCell ⟨g, j, none⟩ v) := ⟨by simp, fun k _ hn _ => Below.heap_setCell w ⟨g, j, none⟩ v k hn⟩
theorem ButK.set_i {g gi o j : Nat} {w : World} {v : Value} : ButK g (some ⟨gi, o, none⟩) w (w.setCell ⟨gi, j, none⟩ v) := ⟨by simp, fun k _ _ ha => Below.heap_setCell w ⟨gi, j, none⟩ v k (fun e => ha _ rfl e.symm)⟩
def DelFEnd (base gi c : Nat) (l : List Item) (w : World) (E : Ending) (w' : World) : Prop :=
 E = .returned (.slice (some ⟨gi, 0, none⟩) l.length c) ∧ w'.ownsRow base 83 9 (.slice (some ⟨gi, 0, none⟩) l.length c) l.length (l.flatMap itemCells) ∧ But gi w w' ∧ Below base w w'
theorem zero_items (k : Nat) : (Builtin.zeroCells (Value.agg #[.string ByteArray.empty, .int .i64 0, .int .i64 0, .int .i64 0, .int .i64 0, .string ByteArray.empty, .bool false, .int .i64 0, .int .i64 0]).cells k).toList.all (·.oneCell') = true := by
 rw [List.all_eq_true];intro v hv;simp only [Builtin.zeroCells, Array.toList_map, List.mem_map] at hv;obtain ⟨i, _, rfl⟩ := hv;have hr : i % 9 < 9 := Nat.mod_lt _ (by decide);show Value.oneCell' ((Value.agg #[.string ByteArray.empty, .int .i64 0, .int .i64 0, .int .i64 0, .int .i64 0, .string ByteArray.empty, .bool false, .int .i64 0, .int .i64 0]).cells[i % 9]!) = true
 generalize i % 9 = r at hr ⊢
 match r, hr with
 | 0, _ => rfl
 | 1, _ => rfl
 | 2, _ => rfl
 | 3, _ => rfl
 | 4, _ => rfl
 | 5, _ => rfl
 | 6, _ => rfl
 | 7, _ => rfl
 | 8, _ => rfl
theorem set_item (w : World) (g o : Nat) (x : Item) : (((((((((w.setCell ⟨g, o, none⟩ (.string x.key)).setCell ⟨g, o + 1, none⟩ (.int .i64 x.flags)).setCell ⟨g, o + 2, none⟩ (.int .i64 x.till)).setCell ⟨g, o + 3, none⟩ (.int .i64 x.cas)).setCell ⟨g, o + 4, none⟩ (.int .i64 x.used)).setCell
  ⟨g, o + 5, none⟩ (.string x.value)).setCell ⟨g, o + 6, none⟩ (.bool x.far)).setCell ⟨g, o + 7, none⟩ (.int .i64 x.place.page)).setCell ⟨g, o + 8, none⟩ (.int .i64 x.place.off)) = w.setCells g o (itemCells x) := rfl
theorem own_cut {w : World} {base gi n c i : Nat} {xs zs : List Value} (h : w.ownsRow base 83 9 (.slice (some ⟨gi, 0, none⟩) n c) n xs) (hi : i ≤ n) (hz : zs.length = (n - i) * 9) :
  (w.setCells gi (i * 9) zs).ownsRow base 83 9 (.slice (some ⟨gi, 0, none⟩) i c) i (xs.take (i * 9)) := by
 obtain ⟨hx, ⟨hv, _⟩ | ⟨b', c', cur, hv, hb, hh, hnc, hm, hsz, htk⟩⟩ := h
 ·cases hv
 cases hv
 refine ⟨by rw [List.length_take, hx]; omega, .inr ⟨gi, c, _, rfl, hb, row_set hh (by rw [hsz, hz]; omega), by omega, hm, ?_, ?_⟩⟩
 ·simp only [List.size_toArray, List.length_append, List.length_take, List.length_drop, Array.length_toList, hsz, hz]; omega
 ·simp only
  rw [← htk, List.append_assoc, List.take_take, Nat.min_eq_left (by omega)];exact List.take_left' (by rw [List.length_take, Array.length_toList, hsz]; omega)
theorem item_put {base gi c q n i : Nat} {p : Int} {m : List Item} {x : Item} {w w5 : World} (hgi : base ≤ gi) (hqg : q ≠ gi) (ho : w5.ownsRow base 83 9 (.slice (some ⟨gi, 0, none⟩) n c) n (m.flatMap itemCells)) (hk : But gi w w5) (hb : Below base w w5)
  (hq : w5.cell? ⟨q, 0, none⟩ = some (.int .i64 p)) (him : i < m.length) (hin : i < n) :
  (w5.setCells gi (i * 9) (itemCells x)).ownsRow base 83 9 (.slice (some ⟨gi, 0, none⟩) n c) n ((m.set i x).flatMap itemCells) ∧ But gi w (w5.setCells gi (i * 9) (itemCells x)) ∧ Below base w (w5.setCells gi (i * 9) (itemCells x)) ∧ (w5.setCells gi (i * 9) (itemCells x)).cell? ⟨q, 0, none⟩ = some (.int .i64 p) := by
 obtain ⟨cs, hcs⟩ := row_type ho;have hl : (itemCells x).length = 9 := rfl;have h1 := own_setCells (vs := itemCells x) (o := i * 9) ho (by rw [hl]; omega);rw [flat_put m i x him] at h1;have hbw : base ≤ w5.heap.size := by have := (ho.lt gi rfl).2; omega
 generalize itemCells x = vs at h1 ⊢
 refine ⟨h1, hk.trans (But.grown (setCells_kept gi w5 (i * 9) vs)), hb.trans (below_setCells w5 (i * 9) vs hgi hbw), ?_⟩;exact (World.cell?_of_block (w := w5) ((setCells_kept gi w5 (i * 9) vs).block q (cell_lt hq) (by simpa using hqg))).trans hq
set_option maxHeartbeats 4000000 in
set_option maxRecDepth 1000000 in
theorem delete_gone (base gi c q : Nat) (p : Int) (l : List Item) (w : World) (h : w.ownsRow base 83 9 (.slice (some ⟨gi, 0, none⟩) l.length c) l.length (l.flatMap itemCells)) (hb : ∀ x ∈ l, ItemB x) (hq : w.cell? ⟨q, 0, none⟩ = some (.int .i64 p)) (hqg : q ≠ gi) (hl : l.length ≤ 1000) (hbase : base ≤ w.heap.size) :
  Calls Tryz.prog 148 #[.slice (some ⟨gi, 0, none⟩) l.length c, .func (.func 149) #[] #[.pointer (some ⟨q, 0, none⟩)]] w (DelFEnd base gi c (l.filter (fun y => !onPage p y)) w) := by
 have hI := own_items h hb
 have hnc : l.length ≤ c ∧ c ≤ 9223372036854775807 := by
  obtain ⟨_, ⟨hv, _⟩ | ⟨g', cap', cur, hv, hb, hh, hnc, hm, hsz, htk⟩⟩ := h
  ·cases hv
  cases hv
  exact ⟨hnc, le_maxLen hm⟩
 obtain ⟨hnc, hcm⟩ := hnc;have hgi : base ≤ gi := (h.lt gi rfl).1;have H := hid h;have HI := hid hI;clear h hI hb
 cases hf : l.findIdx? (onPage p) with
 | none =>
  have HE : Hid (l.filter (fun y => !onPage p y) = l) := by
   show _ = _;rw [List.filter_eq_self];intro y hy;rw [List.findIdx?_eq_none_iff] at hf;rw [hf y hy]; rfl
  have HF := hid hf;clear hf
  go_enter Tryz.func148, Tryz.ntmps148
  go_wp2_with fail
  refine (index_gone l (some ⟨gi, 0, none⟩) c q p _ HI.out hq hl).mono ?_;rintro e w1 ⟨rfl, hb1⟩;rw [HF.out];show _;simp only [idxOf]
  go_wp2_with fail
  go_ret;unfold DelFEnd;rw [HE.out];exact ⟨rfl, owns_below H.out hb1, But.below hb1, hb1.mono hbase⟩
 | some k =>
  rw [List.findIdx?_eq_some_iff_getElem] at hf;obtain ⟨hk, hpk, hall⟩ := hf;have HS : Hid (KInv (onPage p) l k (k + 1) l) := KInv.start hk (fun j hj hjk => by simpa using hall j hjk) hpk;have HF : Hid (l.findIdx? (onPage p) = some k) := findIdx_some hk (fun j hj hjk => by simpa using hall j hjk) hpk;clear hall hpk
  go_enter Tryz.func148, Tryz.ntmps148
  go_wp2_with fail
  refine (index_gone l (some ⟨gi, 0, none⟩) c q p _ HI.out hq hl).mono ?_;rintro e w1 ⟨rfl, hb1⟩;rw [HF.out];simp only [idxOf];have HO1 := hid (owns_below H.out hb1);have HK1 : Hid (But gi w w1) := But.below hb1;have HB1 := hid (hb1.mono hbase);have HQ1 := hid (Below.keeps hb1 _ _ hq);clear hq hb1 HI
  go_wp2_with fail
  go_loopw [5, 6, 7] (fun s5 s6 _ wr => ∃ (i j : Nat) (m : List Item), s5 = .int .i64 i ∧ s6 = .int .i64 j ∧ j ≤ l.length ∧ i < j ∧ Hid (KInv (onPage p) l i j m) ∧ Hid (wr.ownsRow base 83 9 (.slice (some ⟨gi, 0, none⟩) l.length c) l.length (m.flatMap itemCells)) ∧ Hid (But gi w wr) ∧ Hid (Below base w wr) ∧ Hid (wr.cell? ⟨q, 0, none⟩ = some (.int .i64 p))) (fun _ s6 _ _ => l.length - (intOf s6).toNat)
  case atStart => exact ⟨k, k + 1, l, rfl, by go_num, by omega, by omega, HS, HO1, HK1, HB1, HQ1⟩
  case round =>
   clear HS HO1 HK1 HB1 HQ1;obtain ⟨i, j, m, rfl, rfl, hj, hij, HV, HO, HK, HB, HQ⟩ := hrel;have hlm := HV.out.len
   by_cases hlt : j < l.length
   ·obtain ⟨x, hx⟩ : ∃ x, x = l[j] := ⟨_, rfl⟩
    have hxm : m[j]? = some x := by rw [HV.out.high j (by omega), List.getElem?_eq_getElem hlt, hx]
    obtain ⟨c0, c1, c2, c3, c4, c5, c6, c7, c8⟩ := own_item HO.out hxm;have hgl := (HO.out.lt gi rfl).2;obtain ⟨t, ht⟩ : ∃ t, onPage p x = t := ⟨_, rfl⟩;have HT := hid ht;have HX := hid hx;clear ht hx hxm;have hbw := HB.out.size
    go_wp2_with fail
    obtain ⟨W4, hW4⟩ : ∃ W4, W4 = wr.alloc (.cells #[.string x.key, .int .i64 x.flags, .int .i64 x.till, .int .i64 x.cas, .int .i64 x.used, .string x.value, .bool x.far, .int .i64 x.place.page, .int .i64 x.place.off] 83) := ⟨_, rfl⟩;have hb4 : Below wr.heap.size wr W4 := by rw [hW4]; exact (Below.refl _ _).alloc (Nat.le_refl _) _
    have hrow4 : W4.heap[wr.heap.size]? = some (.cells #[.string x.key, .int .i64 x.flags, .int .i64 x.till, .int .i64 x.cas, .int .i64 x.used, .string x.value, .bool x.far, .int .i64 x.place.page, .int .i64 x.place.off] 83 (0, 0)) := by rw [hW4]; exact blk_new wr _
    rw [← hW4];clear hW4 c0 c1 c2 c3 c4 c5 c6 c7 c8;refine (gone_lit x q p t HT _ (Below.keeps hb4 _ _ HQ.out)).mono ?_;rintro e w5 ⟨rfl, hb5⟩;have hb45 : Below wr.heap.size wr w5 := hb4.trans (hb5.mono hb4.size);have hrow5 := (hb5.block _ (blt hrow4)).trans hrow4;have HO5 := hid (owns_below HO.out hb45);have HK5 := hid (HK.out.trans (But.below hb45));have HB5 := hid (HB.out.trans (hb45.mono (Nat.le_trans hbase hbw)));have HQ5 := hid (Below.keeps hb45 _ _ HQ.out);have hgl5 := Nat.lt_of_lt_of_le hgl hb45.size;have hbx : wr.heap.size < w5.heap.size := (blt hrow5);have hB : ∀ (j : Nat) (v : Value), (#[.string x.key, .int .i64 x.flags, .int .i64 x.till, .int .i64 x.cas, .int .i64 x.used, .string x.value, .bool x.far, .int .i64 x.place.page, .int .i64 x.place.off] : Array Value)[j]? = some v → w5.cell? ⟨wr.heap.size, j, none⟩ = some v := fun j v hv => by unfold World.cell?; rw [hrow5]; exact hv
    have b0 := hB 0 _ rfl;have b1 := hB 1 _ rfl;have b2 := hB 2 _ rfl;have b3 := hB 3 _ rfl;have b4 := hB 4 _ rfl;have b5 := hB 5 _ rfl;have b6 := hB 6 _ rfl;have b7 := hB 7 _ rfl;have b8 := hB 8 _ rfl;clear hB hb4 hrow4 hb5 hb45 hrow5 HO HK HB HQ
    cases t with
    | true =>
     have HV2 : Hid (KInv (onPage p) l i (j + 1) m) := HV.out.skip hlt (by rw [← HX.out]; exact HT.out);clear b0 b1 b2 b3 b4 b5 b6 b7 b8
     go_wp2_with fail
     go_roundw
     case rel =>
      repeat apply Exists.intro
      refine ⟨?_, rfl⟩;exact ⟨i, j + 1, m, rfl, by go_num, by omega, by omega, HV2, HO5, HK5, HB5, HQ5⟩
     case measure => simp [intOf]; omega
    | false =>
     have HV2 : Hid (KInv (onPage p) l (i + 1) (j + 1) (m.set i x)) := by
      have := HV.out.keep hlt (by rw [← HX.out]; exact HT.out)
      rwa [← HX.out] at this
     have him : i < m.length := by omega
     obtain ⟨y, hy⟩ : ∃ y, m[i]? = some y := ⟨_, List.getElem?_eq_getElem him⟩;obtain ⟨e0, e1, e2, e3, e4, e5, e6, e7, e8⟩ := own_item HO5.out hy;have f0 := own_free HO5.out (i * 9);have f1 := own_free HO5.out (i * 9 + 1);have f2 := own_free HO5.out (i * 9 + 2);have f3 := own_free HO5.out (i * 9 + 3);have f4 := own_free HO5.out (i * 9 + 4);have f5 := own_free HO5.out (i * 9 + 5);have f6 := own_free HO5.out (i * 9 + 6);have f7 := own_free HO5.out (i * 9 + 7);have f8 := own_free HO5.out (i * 9 + 8);have HR : Hid ((w5.setCells gi (i * 9) (itemCells x)).ownsRow base 83 9 (.slice (some ⟨gi, 0, none⟩) l.length c) l.length ((m.set i x).flatMap itemCells) ∧ But gi w (w5.setCells gi (i * 9) (itemCells x)) ∧ Below base w (w5.setCells gi (i * 9) (itemCells x)) ∧ (w5.setCells gi (i * 9) (itemCells x)).cell? ⟨q, 0, none⟩ = some (.int .i64 p)) := item_put hgi hqg HO5.out HK5.out HB5.out HQ5.out him (by omega);clear hy
     go_wp2_with fail
     go_roundw
     case rel =>
      repeat apply Exists.intro
      refine ⟨?_, rfl⟩;refine ⟨i + 1, j + 1, m.set i x, by go_num, by go_num, by omega, by omega, HV2, ?_⟩;rw [set_item w5 gi (i * 9) x];exact ⟨HR.out.1, HR.out.2.1, HR.out.2.2.1, HR.out.2.2.2⟩
     case measure => simp [intOf]; omega
   ·obtain rfl : j = l.length := by omega
    have hcells : ∀ j, j < l.length * 9 → (wr.cell? ⟨gi, j, none⟩).isSome = true ∧ wr.frozen? ⟨gi, j, none⟩ = false := fun j hj => own_cell HO.out j hj
    have hclr : ∀ ty, (Builtin.clear_ #[23] ty #[.slice (some ⟨gi, i * 9, none⟩) (l.length - i) (c - i)]).run Tryz.prog wr = .ok (.tuple #[]) (wr.setCells gi (i * 9) (Builtin.zeroCells (.agg #[.string ByteArray.empty, .int .i64 0, .int .i64 0, .int .i64 0, .int .i64 0, .string ByteArray.empty, .bool false, .int .i64 0, .int .i64 0] : Value).cells (l.length - i)).toList) := by
     intro ty;exact run_clear_many wr _ _ ty _ (l.length - i) (by omega) Tryz.underlying23 zero_item (zero_items _) gi _ _ (fun j hj => (hcells _ (by have : j < (l.length - i) * 9 := hj; omega)).1) (fun j hj => (hcells _ (by have : j < (l.length - i) * 9 := hj; omega)).2)
    have HFIN : Hid (DelFEnd base gi c (l.filter (fun y => !onPage p y)) w (.returned (.slice (some ⟨gi, 0, none⟩) i c)) (wr.setCells gi (i * 9) (Builtin.zeroCells (.agg #[.string ByteArray.empty, .int .i64 0, .int .i64 0, .int .i64 0, .int .i64 0, .string ByteArray.empty, .bool false, .int .i64 0, .int .i64 0] : Value).cells (l.length - i)).toList)) := by
     have hfl : l.filter (fun y => !onPage p y) = m.take i := by rw [HV.out.low, List.take_length]
     have hlen : (l.filter (fun y => !onPage p y)).length = i := by rw [hfl, List.length_take]; omega
     obtain ⟨cs, hcs⟩ := row_type HO.out;have hzl : (Builtin.zeroCells (.agg #[.string ByteArray.empty, .int .i64 0, .int .i64 0, .int .i64 0, .int .i64 0, .string ByteArray.empty, .bool false, .int .i64 0, .int .i64 0] : Value).cells (l.length - i)).toList.length = (l.length - i) * 9 := by simp [Builtin.zeroCells, Value.cells]
     generalize (Builtin.zeroCells (.agg #[.string ByteArray.empty, .int .i64 0, .int .i64 0, .int .i64 0, .int .i64 0, .string ByteArray.empty, .bool false, .int .i64 0, .int .i64 0] : Value).cells (l.length - i)).toList = zs at hzl ⊢
     have h1 := own_cut (i := i) HO.out (by omega) hzl;rw [flat_take itemCells 9 m (fun _ => rfl), ← hfl] at h1;show DelFEnd _ _ _ _ _ _ _;unfold DelFEnd;rw [hlen];exact ⟨rfl, h1, HK.out.trans (But.grown (setCells_kept gi wr _ zs)), HB.out.trans (below_setCells wr _ zs hgi (Nat.le_trans hbase HB.out.size))⟩
    have hci : ¬ c = i := by omega
    clear hcells
    go_wp2_with fail
    go_ret;exact HFIN.out
end Go.Proofs.YtbeegfkfpkfccaaGreatDoor.D
