/-
 Contract: ref.madeRoom: room for an item of a class.
-/
import Derived.Test.YtbeegfkfpkfccaaGreatDoorYRFound
import Derived.Test.YtbeegfkfpkfccaaGreatDoorYCRoom
import Derived.Test.YtbeegfkfpkfccaaGreatDoorYCls
import Derived.Test.YtbeegfkfpkfccaaGreatDoorYCAppOf
namespace Go.Proofs.YtbeegfkfpkfccaaGreatDoor.D
open Go.RowKit
theorem filter_if (l : List Item) (g : Int) : (if 0 < g then l.filter (fun y => !onPage g y) else l) = l.filter (fun y => !(decide (0 < g) && onPage g y)) := by
 by_cases h : 0 < g
 ·rw [if_pos h]; simp [h]
 ·rw [if_neg h]
  exact (List.filter_eq_self.2 (fun y _ => by rw [decide_eq_false h]; rfl)).symm
theorem three_newR (w : World) (o1 o2 o3 : Obj) : ∃ W, W = ((w.alloc o1).alloc o2).alloc o3 ∧ Below w.heap.size w W ∧ W.heap[w.heap.size]? = some o1 ∧ W.heap[w.heap.size + 1]? = some o2 ∧ W.heap[w.heap.size + 1 + 1]? = some o3 := by
 have s1 : (w.alloc o1).heap.size = w.heap.size + 1 := by simp
 have s2 : ((w.alloc o1).alloc o2).heap.size = w.heap.size + 1 + 1 := by simp
 refine ⟨_, rfl, by go_grown, ?_, ?_, ?_⟩
 ·rw [Below.heap_alloc _ _ _ (by omega), Below.heap_alloc _ _ _ (by omega)]; exact blk_new w _
 ·rw [Below.heap_alloc _ _ _ (by omega), ← s1]; exact blk_new _ _
 ·rw [← s2]; exact blk_new _ _
theorem rowF (w : World) (g : Nat) (s : Store) (a fa fva : Option Addr) (c fc fvc T : Nat) (mo nx : Int) (ps : List Page) (h : w.heap[g]? = some (.cells (storeV s a c fa fc) T (0, 0))) :
  (((w.setCell ⟨g, 9, none⟩ (.int .i64 mo)).setCell ⟨g, 10, none⟩ (.int .i64 nx)).setCell ⟨g, 11, none⟩ (.slice fva ps.length fvc)) = w.setRow g (storeV { s with flash := ⟨mo, nx, ps⟩ } a c fva fvc) := by
 rw [setCell_eq_setRow w g 9 _ _ _ _ h, setCell_eq_setRow _ g 10 _ _ _ _ (setRow_heap w g _ _ _ _ h), setRow_setRow, setCell_eq_setRow _ g 11 _ _ _ _ (setRow_heap w g _ _ _ _ h), setRow_setRow]
 rfl
theorem itemB_mod {l : List Item} (h : ∀ x ∈ l, ItemB x) {i : Nat} (hi : i < l.length) {f : Item → Item} (hf : ItemB (f l[i])) : ∀ x ∈ l.modify i f, ItemB x := fun x hx => by
 rcases mem_modify hx with h1 | ⟨_, rfl⟩
 ·exact h x h1
 ·exact hf
theorem RSt.item_far {base gi : Nat} {w : World} {s : Store} {fa : Option Addr} {vc fc : Nat} (h : RSt base w s (some ⟨gi, 0, none⟩) vc fa fc) (i : Nat) (hi : i < s.items.length) (p : Place) (h1 : I64 p.page) (h2 : I64 p.off) :
  RSt base ((((w.setCell ⟨gi, i * 9 + 5, none⟩ (.string ⟨#[]⟩)).setCell ⟨gi, i * 9 + 6, none⟩ (.bool true)).setCell ⟨gi, i * 9 + 7, none⟩ (.int .i64 p.page)).setCell ⟨gi, i * 9 + 8, none⟩ (.int .i64 p.off))
   { s with items := s.items.modify i (fun x => { x with value := ByteArray.empty, far := true, place := p }) } (some ⟨gi, 0, none⟩) vc fa fc := by
 have hb := h.ib _ (List.getElem_mem hi);obtain ⟨b1, b2, b3, b4, b5, b6, b7, b8⟩ := hb;have he : (ByteArray.empty).size ≤ reachBytes := by decide
 have k1 := h.item_set i hi 5 (by omega) (.string ⟨#[]⟩) (fun x => { x with value := ByteArray.empty }) rfl (itemB_mod h.ib hi ⟨b1, he, b3, b4, b5, b6, b7, b8⟩);have hi1 : i < (s.items.modify i (fun x => { x with value := ByteArray.empty })).length := by simpa using hi
 have hb1 := k1.ib _ (List.getElem_mem hi1);obtain ⟨b1, b2, b3, b4, b5, b6, b7, b8⟩ := hb1;have k2 := k1.item_set i hi1 6 (by omega) (.bool true) (fun x => { x with far := true }) rfl (itemB_mod k1.ib hi1 ⟨b1, b2, b3, b4, b5, b6, b7, b8⟩);have hi2 : i < ((s.items.modify i (fun x => { x with value := ByteArray.empty })).modify i (fun x => { x with far := true })).length := by simpa using hi
 have hb2 := k2.ib _ (List.getElem_mem hi2);obtain ⟨b1, b2, b3, b4, b5, b6, b7, b8⟩ := hb2;have k3 := k2.item_set i hi2 7 (by omega) (.int .i64 p.page) (fun x => { x with place := ⟨p.page, x.place.off⟩ }) rfl (itemB_mod k2.ib hi2 ⟨b1, b2, b3, b4, b5, b6, h1, b8⟩);have hi3 : i < (((s.items.modify i (fun x => { x with value := ByteArray.empty })).modify i (fun x => { x with far := true })).modify i (fun x => { x with place := ⟨p.page, x.place.off⟩ })).length := by simpa using hi
 have hb3 := k3.ib _ (List.getElem_mem hi3);obtain ⟨b1, b2, b3, b4, b5, b6, b7, b8⟩ := hb3;have k4 := k3.item_set i hi3 8 (by omega) (.int .i64 p.off) (fun x => { x with place := ⟨x.place.page, p.off⟩ }) rfl (itemB_mod k3.ib hi3 ⟨b1, b2, b3, b4, b5, b6, b7, h2⟩);simp only [modify_two] at k4;exact k4
def MadeEnd (base : Nat) (r : Store × Bool) (va fa : Option Addr) (fp : List Page) (w : World) (E : Ending) (w' : World) : Prop :=
 ∃ va' vc' fa' fc', E = .returned (.tuple #[.agg (storeV r.1 va' vc' fa' fc'), .bool r.2]) ∧ RSt base w' r.1 va' vc' fa' fc' ∧ ButV va w w' ∧ Below base w w' ∧ (va' = va ∨ ∀ a, va' = some a → w.heap.size ≤ a.block) ∧ (r.1.flash.pages ≠ [] → (fa' = fa ∧ fp = r.1.flash.pages) ∨ ∀ a, fa' = some a → w.heap.size ≤ a.block)
theorem dec_len (n : Nat) : decide ((n : Int) < 1000) = decide (n < 1000) := by rw [decide_eq_decide]; omega
theorem ButV.setNew {va : Option Addr} {w w' : World} (h : ButV va w w') {B : Nat} (cs : Array Value) (hB : w.heap.size ≤ B) : ButV va w (w'.setRow B cs) :=
 ⟨by have := h.1; simpa [World.setRow] using this, fun k hk ha => (setRow_other _ _ k _ (by omega)).trans (h.2 k hk ha)⟩
theorem heldAt_cell {w : World} {s : Store} {va fa : Option Addr} {vc fc g T : Nat} (h : w.heap[g]? = some (.cells (storeV s va vc fa fc) T (0, 0))) (q : Nat) (hq : q < 4) : w.cell? ⟨g, 4 + q, none⟩ = some (.int .i64 (heldAt s q)) := by
 rw [cell_of_row w _ _ _ _ _ h];have h : q = 0 ∨ q = 1 ∨ q = 2 ∨ q = 3 := by omega
 rcases h with rfl | rfl | rfl | rfl <;> rfl
theorem incls_isR (s : Store) (q n l : Int) (hn : Hid (n = countIn s.items q)) (hl : Hid (l = oldest s.items q)) (a fa : Option Addr) (c fc : Nat) (w : World) (hI : RowsAt w a 9 ItemR s.items) (hlen : s.items.length ≤ 1000) :
  Calls Tryz.prog 62 #[.agg (storeV s a c fa fc), .int .i64 q] w fun e w' => e = .returned (.tuple #[.int .i64 n, .int .i64 l]) ∧ Below w.heap.size w w' := by
 have := ref_inClass s q a fa c fc w hI (by omega);refine this.mono ?_;rintro e w' ⟨rfl, hb⟩;exact ⟨by rw [hn.out, hl.out]; rfl, hb⟩
set_option maxRecDepth 100000 in
set_option maxHeartbeats 8000000 in
theorem ref_madeRoom (s : Store) (q : Nat) (hq : q < 4) (hs : SOk s) (base : Nat) (va fa : Option Addr) (vc fc : Nat) (w : World) (ho : RSt base w s va vc fa fc) (hbw : base ≤ w.heap.size) :
  Calls Tryz.prog 98 #[.agg (storeV s va vc fa fc), .int .i64 q] w (MadeEnd base (room s q) va fa s.flash.pages w) := by
 have hlen := hs.len;have HS := hid hs;obtain ⟨n, hn⟩ : ∃ n : Int, n = countIn s.items q := ⟨_, rfl⟩;have HN := hid hn;obtain ⟨l, hl⟩ : ∃ l : Int, l = oldest s.items q := ⟨_, rfl⟩;have HL := hid hl;have hnr := countIn_le s.items q;rw [← hn] at hnr;have hlr := lastTo_range s.items q s.items.length;rw [show lastTo s.items q s.items.length = l from hl.symm] at hlr;have hq3 : q ≤ 3 := by omega
 obtain ⟨W, hW, hb0, r2, r4⟩ := two_newR w (.cells (storeV s va vc fa fc) 28) (.cells storeZ 28);have R2 := hid r2;have R4 := hid r4;have O0 := hid (ho.below hb0);have HB0 := hid hb0;have HVA : Hid (∀ a, va = some a → a.block < w.heap.size) := fun a ha => (ho.va_lt a ha).2
 have HFA : Hid (s.flash.pages ≠ [] → ∀ a, fa = some a → a.block < w.heap.size) := fun hp a ha => (ho.fa_lt hp a ha).2
 have hwz : w.heap.size + 2 ≤ W.heap.size := by have := (blt r4); omega
 clear hs ho r2 r4 hb0 hn hl
 go_enter Tryz.func98, Tryz.ntmps98
 go_upto_region 1 with (fail);rw [← hW];clear hW
 go_wp2_with (refine wpList_load_row rfl 28 _ rfl w.heap.size rfl _ _ _ _ R2.out Tryz.underlying28 rfl (by kernel_rfl) ?_)
 refine (incls_isR s q n l HN HL va fa vc fc W O0.out.at.items hlen).mono ?_;rintro e w1 ⟨rfl, hb1⟩;have P2 := hid ((hb1.block w.heap.size (by omega)).trans R2.out);have P4 := hid ((hb1.block (w.heap.size + 1) (by omega)).trans R4.out);have O1 := hid (O0.out.below hb1);have HB1 := hid (HB0.out.trans (hb1.mono HB0.out.size));have hz1 : w.heap.size + 2 ≤ w1.heap.size := by have := hb1.size; omega
 clear R2 R4 O0 HB0 hb1 hwz;obtain ⟨hh, hhh⟩ : ∃ h, h = heldAt s q := ⟨_, rfl⟩;obtain ⟨ck, hck⟩ : ∃ c, c = chunkAt q := ⟨_, rfl⟩;obtain ⟨pp, hpp⟩ : ∃ p, p = 256 / ck := ⟨_, rfl⟩;have hhr := heldAt_range HS.out q;rw [← hhh] at hhr;have hcr := chunkAt_range q;rw [← hck] at hcr
 have hpr : 0 ≤ pp ∧ pp ≤ 8 := by
  rw [hpp, hck, ← per_at hq];unfold per
  split
  ·omega
  ·split
   ·omega
   ·split <;> omega
 have HPP : Hid (s.held q * per q = hh * pp) := by show _ = _; rw [held_at hq, per_at hq, ← hhh, ← hck, ← hpp]
 have xh : w1.cell? ⟨w.heap.size, 4 + q, none⟩ = some (.int .i64 hh) := by rw [hhh]; exact heldAt_cell P2.out q hq
 have hcn : ¬ ck = 0 := by omega
 obtain ⟨mm, hmm⟩ : ∃ m, m = hh * pp := ⟨_, rfl⟩
 have hm1 : 0 ≤ mm ∧ mm ≤ 320 := by
  rw [hmm];exact ⟨Int.mul_nonneg hhr.1 hpr.1, Int.le_trans (Int.mul_le_mul hhr.2 hpr.2 hpr.1 (by omega)) (by omega)⟩
 have HMM : Hid (s.held q * per q = mm) := by show _ = _; rw [HPP.out, hmm]
 have HM := hid hmm;have HP := hid hpp;have HCK := hid hck;have HHH := hid hhh;clear hmm hpp hck hhh HPP;have hq4 : (q : Int) < 4 := by omega
 have ht : Int.tdiv 256 ck = pp := by rw [HP.out]; exact Int.tdiv_eq_ediv_of_nonneg (by omega)
 have wp1 : IntKind.i64.wrap pp = pp := IntWalk.i64_in _ ⟨by omega, by omega⟩;have wp2 : IntKind.i64.wrap (hh * pp) = mm := by rw [← HM.out]; exact IntWalk.i64_in _ ⟨by omega, by omega⟩
 have wp3 : wrap64 (hh * pp) = mm := by rw [← HM.out]; exact IntWalk.wrap64_in _ ⟨by omega, by omega⟩
 clear hcr;go_upto_region 2 with (fail)
 go_cut [28] (fun v wx => v = .bool (decide (n < mm)) ∧ Below w1.heap.size w1 wx)
 case first =>
  refine wp_region_L (Below w1.heap.size w1) 9 10 (by kernel_rfl) (by kernel_rfl) (Below.refl _ _).drew (fun hHeld => ?_);refine tk 0 ?_ rfl (fun _ _ _ h=>h) (y:=?_) (h:=?_);rotate_left
  ·intro wS hSw; go_simp<;>with_reducible rfl
  walk_nrm;refine tk 1 ?_ rfl (fun _ _ _ h=>h) (y:=?_) (h:=?_);rotate_left
  ·intro wS hSw; go_simp<;>with_reducible rfl
  walk_nrm;refine tk 2 ?_ rfl (fun _ _ _ h=>h) (y:=?_) (h:=?_);rotate_left
  ·intro wS hSw; go_simp<;>with_reducible rfl
  walk_nrm;refine tk 3 ?_ rfl (fun _ _ _ h=>h) (y:=?_) (h:=?_);rotate_left
  ·intro wS hSw; go_simp<;>with_reducible rfl
  walk_nrm;refine tk 4 ?_ rfl (fun _ _ _ h=>h) (y:=?_) (h:=?_);rotate_left
  ·intro wS hSw; have k1 := Below.keeps hSw _ _ xh; go_simp<;>with_reducible rfl
  walk_nrm;refine tk 5 ?_ rfl (fun _ _ _ h=>h) (y:=?_) (h:=?_);rotate_left
  ·intro wS hSw; go_simp<;>with_reducible rfl
  walk_nrm;refine wpAnyL_one 6 (by kernel_rfl) ?_;refine ComesUp.mk rfl (fun K hK => ?_);go_simp;refine (ref_sizeOf q _ hq).mono ?_;rintro e w2 ⟨rfl, hb2⟩;rw [← HCK.out];refine hK.out _ _ (hHeld.trans (hb2.mono hHeld.size)) ?_;clear hK K hHeld hb2;intro hHeld;walk_nrm;refine tk 7 ?_ rfl (fun _ _ _ h=>h) (y:=?_) (h:=?_);rotate_left
  ·intro wS hSw; go_simp<;>with_reducible rfl
  walk_nrm;refine tk 8 ?_ rfl (fun _ _ _ h=>h) (y:=?_) (h:=?_);rotate_left
  ·intro wS hSw; go_simp<;>with_reducible rfl
  walk_nrm;refine wpAnyL_last rfl (by kernel_rfl) (fun K hK => ?_);go_simp;refine hK.out _ _ ?_;clear hK K;walk_nrm;refine wpAnyL_done (by kernel_rfl) ?_ _
  go_wp2_with fail
  go_meet;exact ⟨rfl, hHeld⟩
 case rest =>
  obtain ⟨rfl, hbq⟩ := hcut;have Q2 := hid ((hbq.block w.heap.size (by omega)).trans P2.out);have Q4 := hid ((hbq.block (w.heap.size + 1) (by omega)).trans P4.out);have O2 := hid (O1.out.below hbq);have HB2 := hid (HB1.out.trans (hbq.mono HB1.out.size));have hz2 : w.heap.size + 2 ≤ wc.heap.size := by have := hbq.size; omega
  have HV2 : Hid (ButV va w wc) := ButV.below HB2.out;have HL2 : Hid (Below base w wc) := HB2.out.mono hbw;clear P2 P4 O1 HB1 hbq xh ht wp1 wp2 wp3
  have HRM : Hid (room s q = if n < mm then (s, decide (s.items.length < 1000)) else if s.h0 + s.h1 + s.h2 + s.h3 < s.most then (addHeld s q, decide (s.items.length < 1000)) else if 0 ≤ l then (away s l.toNat, decide ((away s l.toNat).items.length < 1000)) else (s, false)) := by
   show _ = _;unfold room;rw [HMM.out, ← HN.out, ← HL.out]
  by_cases h1 : n < mm
  ·have HR : Hid (room s q = (s, decide (s.items.length < 1000))) := HRM.out.trans (if_pos h1)
   clear HRM;go_upto_region 3 with (fail);have z8 : wc.cell? ⟨w.heap.size, 8, none⟩ = some (.slice va s.items.length vc) := cor Q2.out rfl;refine wp_region_L (fun w' : World => w'.heap[w.heap.size]? = some (.cells (storeV (s) va vc fa fc) 28 (0, 0))) 6 7 (by kernel_rfl) (by kernel_rfl) Q2.out (fun hHeld => ?_);refine tk 1 ?_ rfl (fun _ _ _ h=>h) (y:=?_) (h:=?_);rotate_left
   ·intro wS hSw; go_simp<;>with_reducible rfl
   walk_nrm;refine tk 2 ?_ rfl (fun _ _ _ h=>h) (y:=?_) (h:=?_);rotate_left
   ·intro wS hSw; have k8 := (World.cell?_of_block (w := wc) (hSw.trans Q2.out.symm)).trans z8; go_simp<;>with_reducible rfl
   walk_nrm;refine tk 3 ?_ rfl (fun _ _ _ h=>h) (y:=?_) (h:=?_);rotate_left
   ·intro wS hSw; go_simp<;>with_reducible rfl
   walk_nrm;refine tk 4 ?_ rfl (fun _ _ _ h=>h) (y:=?_) (h:=?_);rotate_left
   ·intro wS hSw; go_simp<;>with_reducible rfl
   walk_nrm;refine wpAnyL_take (i := 0) (v := _) rfl (by kernel_rfl) (fun _ _ _ h => h) (Or.inl ⟨by rfl, fun wS hSw => exec_load_row 28 _ rfl (w.heap.size) rfl _ _ _ _ (hSw) Tryz.underlying28 rfl (by kernel_rfl)⟩) (by assumption) ?_;walk_nrm;clear hHeld z8;obtain ⟨W5, hW5⟩ : ∃ W5, W5 = wc.drew := ⟨_, rfl⟩;have hb5 : Below wc.heap.size wc W5 := by rw [hW5]; exact (Below.refl _ _).drew
   rw [← hW5];have N2 := hid ((hb5.block w.heap.size (blt Q2.out)).trans Q2.out);have N4 := hid ((hb5.block (w.heap.size + 1) (blt Q4.out)).trans Q4.out);have HB5 := hid hb5;clear hb5 hW5;refine wpAnyL_one 5 (by kernel_rfl) ?_;refine ComesUp.mk rfl (fun K hK => ?_);rw [if_pos (by rfl)];refine wp_store_row 28 _ _ rfl (w.heap.size + 1) _ rfl rfl _ _ N4.out storeSize rfl (store_one _ _ _ _ _) ?_;refine hK.out _ _ ((setRow_other _ _ _ _ (by omega)).trans N2.out) ?_;clear hK K;intro hHeld;walk_nrm;refine wpAnyL_last rfl (by kernel_rfl) (fun K hK => ?_);go_simp;refine hK.out _ _ ?_;clear hK K hHeld;walk_nrm;refine wpAnyL_done (by kernel_rfl) ?_ _
   go_wp2_with fail
   refine bodyPost_ret (v := .tuple #[.agg (storeV (s) va vc fa fc), .bool _]) (resultsCT rfl _ _ (w.heap.size + 1) _ _ rfl rfl (run_loadVar_row _ _ _ _ _ _ _ (setRow_heap _ _ _ _ _ _ N4.out) Tryz.underlying28 rfl storeSize)) rfl ?_;refine ⟨va, vc, fa, fc, by rw [HR.out]; exact congrArg (fun b : Bool => Ending.returned (.tuple #[.agg _, .bool b])) (dec_len _), ?_, ?_, ?_, .inl rfl, fun _ => .inl ⟨rfl, by rw [HR.out]⟩⟩
   ·rw [HR.out]
    exact (O2.out.below HB5.out).setAt N4.out (by decide) (fun a ha => by have := HVA.out a ha; omega) (fun hp a ha => by have := HFA.out hp a ha; omega)
   ·exact (HV2.out.trans (ButV.below HB5.out)).setNew _ (by omega)
   ·exact (HL2.out.trans (HB5.out.mono (by have := HL2.out.size; omega))).trans (Below.setRow _ (w.heap.size + 1) _ (by omega))
  ·have h1d : decide (n < mm) = false := by simp [h1]
   have HRM2 := hid (HRM.out.trans (if_neg h1));clear HRM;have HS4 := hid (HS.out.sum);have hm4 := HS.out.most;have h40 := HS.out.h0;have h41 := HS.out.h1;have h42 := HS.out.h2;have h43 := HS.out.h3;have e4 : wc.cell? ⟨w.heap.size, 4, none⟩ = some (.int .i64 s.h0) := cor Q2.out rfl;have e5 : wc.cell? ⟨w.heap.size, 5, none⟩ = some (.int .i64 s.h1) := cor Q2.out rfl;have e6 : wc.cell? ⟨w.heap.size, 6, none⟩ = some (.int .i64 s.h2) := cor Q2.out rfl;have e7 : wc.cell? ⟨w.heap.size, 7, none⟩ = some (.int .i64 s.h3) := cor Q2.out rfl;have e3 : wc.cell? ⟨w.heap.size, 3, none⟩ = some (.int .i64 s.most) := cor Q2.out rfl;have a1 : wrap64 (s.h0 + s.h1) = s.h0 + s.h1 := IntWalk.wrap64_in _ ⟨by omega, by omega⟩;have a2 : wrap64 (s.h0 + s.h1 + s.h2) = s.h0 + s.h1 + s.h2 := IntWalk.wrap64_in _ ⟨by omega, by omega⟩;have a3 : wrap64 (s.h0 + s.h1 + s.h2 + s.h3) = s.h0 + s.h1 + s.h2 + s.h3 := IntWalk.wrap64_in _ ⟨by omega, by omega⟩;clear hm4 h40 h41 h42 h43
   by_cases h2 : s.h0 + s.h1 + s.h2 + s.h3 < s.most
   ·have HR : Hid (room s q = (addHeld s q, decide (s.items.length < 1000))) := HRM2.out.trans (if_pos h2)
    clear HRM2;have xq : wc.cell? ⟨w.heap.size, 4 + q, none⟩ = some (.int .i64 hh) := by rw [HHH.out]; exact heldAt_cell Q2.out q hq
    have fq : ∀ j, wc.frozen? ⟨w.heap.size, j, none⟩ = false := fun j => frozen_of_row wc _ _ _ _ Q2.out
    have wq : wrap64 (hh + 1) = hh + 1 := IntWalk.wrap64_in _ ⟨by omega, by omega⟩;go_upto_region 6 with (fail);obtain ⟨t, ht⟩ : ∃ t, t = addHeld s q := ⟨_, rfl⟩;obtain ⟨W6, hW6⟩ : ∃ W6, W6 = wc.setCell ⟨w.heap.size, 4 + q, none⟩ (.int .i64 (hh + 1)) := ⟨_, rfl⟩;rw [← hW6]
    have M2 : Hid (W6.heap[w.heap.size]? = some (.cells (storeV t va vc fa fc) 28 (0, 0))) := by
     show _ = _;rw [hW6, setCell_eq_setRow wc w.heap.size (4 + q) _ _ _ _ Q2.out, add_cells hq va vc fa fc hh HHH.out, ← ht];exact setRow_heap wc w.heap.size _ _ _ _ Q2.out
    have M4 : Hid (W6.heap[w.heap.size + 1]? = some (.cells storeZ 28 (0, 0))) := by show _ = _; rw [hW6]; exact blk_off Q4.out (by omega)
    have O6 : Hid (RSt base W6 t va vc fa fc) := by
     have h := O2.out.setAt (ds := storeV t va vc fa fc) Q2.out (by decide) (fun a ha => by have := HVA.out a ha; omega) (fun hp a ha => by have := HFA.out hp a ha; omega);show RSt _ _ _ _ _ _ _;rw [hW6, setCell_eq_setRow wc w.heap.size (4 + q) _ _ _ _ Q2.out, add_cells hq va vc fa fc hh HHH.out, ← ht];exact h.nums (by rw [ht]; exact (add_same s q).1) (by rw [ht, (add_same s q).2])
    have HV6 : Hid (ButV va w W6) := by
     show ButV _ _ _;rw [hW6, setCell_eq_setRow wc w.heap.size (4 + q) _ _ _ _ Q2.out];exact HV2.out.setNew _ (Nat.le_refl _)
    have HL6 : Hid (Below base w W6) := by show Below _ _ _; rw [hW6]; exact HL2.out.setCell (p := ⟨w.heap.size, 4 + q, none⟩) hbw _
    have hz6 : w.heap.size + 2 ≤ W6.heap.size := by rw [hW6]; simpa using hz2
    have HTF : Hid (t.flash.pages = s.flash.pages) := by show _ = _; rw [ht, (add_same s q).2]
    have HFT : Hid (t.flash.pages ≠ [] → ∀ a, fa = some a → a.block < w.heap.size) := by rw [ht, (add_same s q).2]; exact HFA
    have HR2 : Hid (room s q = (t, decide (t.items.length < 1000))) := by
     show _ = _;rw [HR.out, ht, (add_same s q).1]
    clear xq fq hW6 HR Q2 Q4 O2 HV2 HL2 HB2 ht e3 e4 e5 e6 e7;have z8 : W6.cell? ⟨w.heap.size, 8, none⟩ = some (.slice va t.items.length vc) := cor M2.out rfl;refine wp_region_L (fun w' : World => w'.heap[w.heap.size]? = some (.cells (storeV (t) va vc fa fc) 28 (0, 0))) 6 7 (by kernel_rfl) (by kernel_rfl) M2.out (fun hHeld => ?_);refine tk 1 ?_ rfl (fun _ _ _ h=>h) (y:=?_) (h:=?_);rotate_left
    ·intro wS hSw; go_simp<;>with_reducible rfl
    walk_nrm;refine tk 2 ?_ rfl (fun _ _ _ h=>h) (y:=?_) (h:=?_);rotate_left
    ·intro wS hSw; have k8 := (World.cell?_of_block (w := W6) (hSw.trans M2.out.symm)).trans z8; go_simp<;>with_reducible rfl
    walk_nrm;refine tk 3 ?_ rfl (fun _ _ _ h=>h) (y:=?_) (h:=?_);rotate_left
    ·intro wS hSw; go_simp<;>with_reducible rfl
    walk_nrm;refine tk 4 ?_ rfl (fun _ _ _ h=>h) (y:=?_) (h:=?_);rotate_left
    ·intro wS hSw; go_simp<;>with_reducible rfl
    walk_nrm;refine wpAnyL_take (i := 0) (v := _) rfl (by kernel_rfl) (fun _ _ _ h => h) (Or.inl ⟨by rfl, fun wS hSw => exec_load_row 28 _ rfl (w.heap.size) rfl _ _ _ _ (hSw) Tryz.underlying28 rfl (by kernel_rfl)⟩) (by assumption) ?_;walk_nrm;clear hHeld z8;obtain ⟨W5, hW5⟩ : ∃ W5, W5 = W6.drew := ⟨_, rfl⟩;have hb5 : Below W6.heap.size W6 W5 := by rw [hW5]; exact (Below.refl _ _).drew
    rw [← hW5];have N2 := hid ((hb5.block w.heap.size (blt M2.out)).trans M2.out);have N4 := hid ((hb5.block (w.heap.size + 1) (blt M4.out)).trans M4.out);have HB5 := hid hb5;clear hb5 hW5;refine wpAnyL_one 5 (by kernel_rfl) ?_;refine ComesUp.mk rfl (fun K hK => ?_);rw [if_pos (by rfl)];refine wp_store_row 28 _ _ rfl (w.heap.size + 1) _ rfl rfl _ _ N4.out storeSize rfl (store_one _ _ _ _ _) ?_;refine hK.out _ _ ((setRow_other _ _ _ _ (by omega)).trans N2.out) ?_;clear hK K;intro hHeld;walk_nrm;refine wpAnyL_last rfl (by kernel_rfl) (fun K hK => ?_);go_simp;refine hK.out _ _ ?_;clear hK K hHeld;walk_nrm;refine wpAnyL_done (by kernel_rfl) ?_ _
    go_wp2_with fail
    refine bodyPost_ret (v := .tuple #[.agg (storeV (t) va vc fa fc), .bool _]) (resultsCT rfl _ _ (w.heap.size + 1) _ _ rfl rfl (run_loadVar_row _ _ _ _ _ _ _ (setRow_heap _ _ _ _ _ _ N4.out) Tryz.underlying28 rfl storeSize)) rfl ?_;refine ⟨va, vc, fa, fc, by rw [HR2.out]; exact congrArg (fun b : Bool => Ending.returned (.tuple #[.agg _, .bool b])) (dec_len _), ?_, ?_, ?_, .inl rfl, fun _ => .inl ⟨rfl, by rw [HR2.out]; exact HTF.out.symm⟩⟩
    ·rw [HR2.out]
     exact (O6.out.below HB5.out).setAt N4.out (by decide) (fun a ha => by have := HVA.out a ha; omega) (fun hp a ha => by have := HFT.out hp a ha; omega)
    ·exact (HV6.out.trans (ButV.below HB5.out)).setNew _ (by omega)
    ·exact (HL6.out.trans (HB5.out.mono (by have := HL6.out.size; omega))).trans (Below.setRow _ (w.heap.size + 1) _ (by omega))
   ·have h2d : decide (s.h0 + s.h1 + s.h2 + s.h3 < s.most) = false := by simp [h2]
    have HRM3 := hid (HRM2.out.trans (if_neg h2));clear HRM2
    by_cases h3 : 0 ≤ l
    rotate_left
    ·have HR : Hid (room s q = (s, false)) := HRM3.out.trans (if_neg h3)
     have h3a : l < 0 := by omega
     clear HRM3
     go_wp2_with (first
      | refine wpList_load_row rfl 28 _ rfl w.heap.size rfl _ _ _ _ Q2.out Tryz.underlying28 rfl (by kernel_rfl) ?_
      | refine wpList_store_row rfl 28 _ _ rfl (w.heap.size + 1) _ rfl rfl _ _ Q4.out storeSize rfl (store_one _ _ _ _ _) ?_)
     refine bodyPost_ret (v := .tuple #[.agg (storeV s va vc fa fc), .bool _]) (resultsCT rfl _ _ (w.heap.size + 1) _ _ rfl rfl (run_loadVar_row _ _ _ _ _ _ _ (setRow_heap _ _ _ _ _ _ Q4.out) Tryz.underlying28 rfl storeSize)) rfl ?_;refine ⟨va, vc, fa, fc, by rw [HR.out], ?_, HV2.out.setNew _ (by omega), HL2.out.trans (Below.setRow _ (w.heap.size + 1) _ (by omega)), .inl rfl, fun _ => .inl ⟨rfl, by rw [HR.out]⟩⟩;rw [HR.out];exact O2.out.setAt Q4.out (by decide) (fun a ha => by have := HVA.out a ha; omega) (fun hp a ha => by have := HFA.out hp a ha; omega)
    ·have HR : Hid (room s q = (away s l.toNat, decide ((away s l.toNat).items.length < 1000))) := HRM3.out.trans (if_pos h3)
     have h3a : ¬ l < 0 := by omega
     clear HRM3;obtain ⟨i, rfl⟩ : ∃ i : Nat, l = (i : Int) := ⟨l.toNat, by omega⟩;rw [Int.toNat_natCast] at HR;have hi : i < s.items.length := by omega
     obtain ⟨x, hx⟩ : ∃ x, s.items[i]? = some x := ⟨_, List.getElem?_eq_getElem hi⟩;have hxi : s.items[i] = x := (List.getElem?_eq_some_iff.1 hx).2;have HX := hid hx;have HXI := hid hxi;obtain ⟨gi, rfl, hbg, hgl, hnc, hcm⟩ := O2.out.gi (by omega);obtain ⟨d0, d1, d2, d3, d4, d5, d6, d7, d8⟩ := own_item O2.out.row hx;have e8 : wc.cell? ⟨w.heap.size, 8, none⟩ = some (.slice (some ⟨gi, 0, none⟩) s.items.length vc) := cor Q2.out rfl;clear hx hxi;go_upto_region 10 with (fail);obtain ⟨W3, hW3⟩ : ∃ W3, W3 = wc.alloc (.cells #[.string x.key, .int .i64 x.flags, .int .i64 x.till, .int .i64 x.cas, .int .i64 x.used, .string x.value, .bool x.far, .int .i64 x.place.page, .int .i64 x.place.off] 83) := ⟨_, rfl⟩;have hb3 := below_new hW3;obtain ⟨X, hX⟩ : ∃ X, X = wc.heap.size := ⟨_, rfl⟩;have RX : Hid (W3.heap[X]? = some (.cells #[.string x.key, .int .i64 x.flags, .int .i64 x.till, .int .i64 x.cas, .int .i64 x.used, .string x.value, .bool x.far, .int .i64 x.place.page, .int .i64 x.place.off] 83 (0, 0))) := by show _ = _; rw [hW3, hX]; exact blk_new wc _
     rw [← hW3, ← hX];have J2 := hid ((hb3.block w.heap.size (by omega)).trans Q2.out);have J4 := hid ((hb3.block (w.heap.size + 1) (by omega)).trans Q4.out);have O3 := hid (O2.out.below hb3);have HB3 := hid (HB2.out.trans (hb3.mono HB2.out.size));have hz3 : w.heap.size + 2 ≤ X := by omega
     clear hW3 hb3 hX d0 d1 d2 d3 d4 d5 d6 d7 d8 Q2 Q4 O2 HB2 HV2 HL2 e3 e4 e5 e6 e7 e8 hgl;obtain ⟨mo, nx, ps, pg, po, gone, er, hR⟩ : ∃ mo nx ps pg po gone er, s.flash.append (bl x.value) = (⟨mo, nx, ps⟩, ⟨pg, po⟩, gone, er) := ⟨_, _, _, _, _, _, _, rfl⟩;have HRR := hid hR;clear hR;have c5 : W3.cell? ⟨X, 5, none⟩ = some (.string x.value) := cor RX.out rfl;have c9 : W3.cell? ⟨w.heap.size, 9, none⟩ = some (.int .i64 s.flash.most) := cor J2.out rfl;have c10 : W3.cell? ⟨w.heap.size, 10, none⟩ = some (.int .i64 s.flash.next) := cor J2.out rfl;have c11 : W3.cell? ⟨w.heap.size, 11, none⟩ = some (.slice fa s.flash.pages.length fc) := cor J2.out rfl;have hvs : x.value.size ≤ 200 := ((itemOK_iff s x).1 (by rw [← HXI.out]; exact HS.out.items _ (List.getElem_mem hi))).2.2.2.2.2.1;have hpl := O3.out.plen;have HPG := hid O3.out.at.pages
     go_wp2_with fail
     refine (ref_AppendedOfP s.flash x.value fa fc W3 HPG.out (by omega) (by omega)).mono ?_;rintro e w5 ⟨a5, cp5, rfl, hrows, hb5, hpg⟩;rw [HRR.out] at hrows hpg ⊢;simp only [AppV] at hrows hpg ⊢;have O5 := hid (O3.out.below hb5);have HB5 := hid (HB3.out.trans (hb5.mono HB3.out.size));have K2 := hid ((hb5.block w.heap.size (blt J2.out)).trans J2.out);have K4 := hid ((hb5.block (w.heap.size + 1) (blt J4.out)).trans J4.out);have KX := hid (bkp hb5 RX.out);have h35 := hb5.size;have hX3 := (blt RX.out);have HPN : Hid (ps = [] ∨ ∃ b o vs, a5 = some ⟨b, o, none⟩ ∧ PagesAt W3.heap.size w5 b o ps vs) := hpg;clear hpg hrows hb5 J2 J4 RX O3 HB3 HPG c5 c9 c10 c11 hpl;go_upto_region 11 with (fail);obtain ⟨W6, hW6, hb6, q1, q2, q3⟩ := three_newR w5 (.cells #[.int .i64 mo, .int .i64 nx, .slice a5 ps.length cp5] 26) (.cells #[.int .i64 pg, .int .i64 po] 81) (.cells #[.int .i64 gone] 3);rw [← hW6];have RF := hid q1;have RP := hid q2;have RG := hid q3;have O6 := hid (O5.out.below hb6);have HB6 := hid (HB5.out.trans (hb6.mono HB5.out.size));have L2 := hid ((hb6.block w.heap.size (blt K2.out)).trans K2.out);have L4 := hid ((hb6.block (w.heap.size + 1) (blt K4.out)).trans K4.out);have LX := hid (bkp hb6 KX.out);have HPM : Hid (ps = [] ∨ ∃ b o vs, a5 = some ⟨b, o, none⟩ ∧ PagesAt W3.heap.size W6 b o ps vs) := HPN.out.imp id (fun ⟨b, o, vs, e, hp⟩ => ⟨b, o, vs, e, hp.below hb6⟩);have h56 := hb6.size;have x5 : W6.cell? ⟨X, 5, none⟩ = some (.string x.value) := cor LX.out rfl;clear hW6 hb6 q1 q2 q3 O5 HB5 K2 K4 KX HPN;obtain ⟨gg, hgg⟩ : ∃ b, b = decide (x.value.size < 24 ∨ er ≠ 0) := ⟨_, rfl⟩
     go_cut [89] (fun v wx => v = .bool gg ∧ wx = W6)
     case first =>
      have HG := hid hgg;clear hgg
      by_cases h24 : x.value.size < 24
      ·have h24i : (x.value.size : Int) < 24 := by omega
       have hgv : gg = true := by rw [HG.out]; simp [h24]
       go_wp2_with fail
       go_meet;exact ⟨by rw [hgv], rfl⟩
      ·have h24i : ¬ (x.value.size : Int) < 24 := by omega
       by_cases hee : er = 0
       ·have he1 : (er != 0) = false := by simp [hee]
        have hgv : gg = false := by rw [HG.out]; simp [h24, hee]
        clear hee
        go_wp2_with fail
        go_meet;exact ⟨by rw [hgv], rfl⟩
       ·have he1 : (er != 0) = true := by simp [hee]
        have hgv : gg = true := by rw [HG.out]; simp [hee]
        go_wp2_with fail
        go_meet;exact ⟨by rw [hgv], rfl⟩
     case rest =>
      obtain ⟨rfl, hwc⟩ := hcut;rw [hwc];clear hwc x5;have O7 := O6
      cases hg : gg with
      | true =>
       have hno : x.value.size < 24 ∨ er ≠ 0 := by rw [hg] at hgg; exact of_decide_eq_true hgg.symm
       have HAW : Hid (away s i = { s with items := s.items.eraseIdx i }) := by
        rcases hno with h | h
        ·exact away_short hi (by rw [HXI.out]; omega)
        ·exact away_err hi (by rw [HXI.out, HRR.out]; exact h)
       subst hg;clear hgg hno;have y0 : W6.cell? ⟨X, 0, none⟩ = some (.string x.key) := cor LX.out rfl;have y8 : W6.cell? ⟨w.heap.size, 8, none⟩ = some (.slice (some ⟨gi, 0, none⟩) s.items.length vc) := cor L2.out rfl;go_upto_region 12 with (fail)
       go_wp2_with fail
       have hx := ref_except 119 X (fun y => bl y.key == bl x.key) s.items (some ⟨gi, 0, none⟩) vc W6 O7.out.at.items hlen (strikes_room1 y0);refine hx.mono ?_;clear hx;rintro e w7 ⟨v, rfl, how, hb7⟩;obtain ⟨va', vc', rfl⟩ := own_slice how;obtain ⟨L, hL⟩ : ∃ L, L = s.items.eraseIdx i := ⟨_, rfl⟩
       have HEL : Hid (s.items.filter (fun y => !(bl y.key == bl x.key)) = L) := by
        show _ = _;rw [hL, ← other_erase HS.out.rise hi, HXI.out]; rfl
       rw [HEL.out] at how ⊢;have HOW := hid (owns_low (base' := base) how (by have := HB6.out.size; omega));have HVN : Hid (∀ a, va' = some a → W3.heap.size ≤ a.block) := fun a ha => by subst ha; have := (how.lt a.block rfl).1; omega
       have hsub : ∀ y ∈ L, y ∈ s.items := by rw [hL]; exact fun y hy => (List.eraseIdx_sublist _ _).mem hy
       have HLB : Hid ((∀ y ∈ L, ItemB y) ∧ L.length ≤ 1000) := by
        refine ⟨fun y hy => HS.out.itemB y (hsub y hy), ?_⟩;have := (List.eraseIdx_sublist s.items i).length_le;rw [hL]; omega
       have HR2 : Hid (room s q = ({ s with items := L }, decide (L.length < 1000))) := by show _ = _; rw [HR.out, HAW.out, hL]
       clear hL;have O8 := hid (O7.out.below hb7);have HB8 := hid (HB6.out.trans (hb7.mono HB6.out.size));have U2 := hid ((hb7.block w.heap.size (blt L2.out)).trans L2.out);have U4 := hid ((hb7.block (w.heap.size + 1) (blt L4.out)).trans L4.out);clear how hb7 O6 O7 HB6 L2 L4 LX RF RP RG HPM hsub HEL y0 y8 HAW HR;have z8 : w7.cell? ⟨w.heap.size, 8, none⟩ = some (.slice (some ⟨gi, 0, none⟩) s.items.length vc) := cor U2.out rfl;have f8 : ∀ j, w7.frozen? ⟨w.heap.size, j, none⟩ = false := fun j => frozen_of_row w7 _ _ _ _ U2.out
       go_upto_region 13 with (fail);obtain ⟨W9, hW9⟩ : ∃ W9, W9 = w7.setCell ⟨w.heap.size, 8, none⟩ (.slice va' L.length vc') := ⟨_, rfl⟩;rw [← hW9]
       have M2 : Hid (W9.heap[w.heap.size]? = some (.cells (storeV ({ s with items := L }) va' vc' fa fc) 28 (0, 0))) := by
        show _ = _;rw [hW9, setCell_eq_setRow w7 w.heap.size 8 _ _ _ _ U2.out, setRow_heap w7 w.heap.size _ _ _ _ U2.out]
        simp [storeV]
       have M4 : Hid (W9.heap[w.heap.size + 1]? = some (.cells storeZ 28 (0, 0))) := by show _ = _; rw [hW9]; exact blk_off U4.out (by omega)
       have O9 : Hid (RSt base W9 ({ s with items := L }) va' vc' fa fc) := by
        rw [hW9, setCell_eq_setRow w7 w.heap.size 8 _ _ _ _ U2.out];exact (O8.out.items HOW.out HLB.out.1 HLB.out.2 (fun hp a f ha hf => by have := HVN.out a ha; have := HFA.out hp f hf; omega)).setAt U2.out (by decide) (fun a ha => by have := HVN.out a ha; omega) (fun hp a ha => by have := HFA.out hp a ha; omega)
       have HL9 : Hid (Below w.heap.size w W9) := by show Below _ _ _; rw [hW9]; exact HB8.out.setCell (p := ⟨w.heap.size, 8, none⟩) (Nat.le_refl _) _
       have HV9 : Hid (ButV (some ⟨gi, 0, none⟩) w W9) := ButV.below HL9.out;have HLb : Hid (Below base w W9) := HL9.out.mono hbw;have hz9 : w.heap.size + 2 ≤ W9.heap.size := by have := (blt M4.out); omega
       clear z8 f8 hW9 U2 U4 O8 HB8 HOW HLB;have z8 : W9.cell? ⟨w.heap.size, 8, none⟩ = some (.slice va' L.length vc') := cor M2.out rfl;refine wp_region_L (fun w' : World => w'.heap[w.heap.size]? = some (.cells (storeV ({ s with items := L }) va' vc' fa fc) 28 (0, 0))) 6 7 (by kernel_rfl) (by kernel_rfl) M2.out (fun hHeld => ?_);refine tk 1 ?_ rfl (fun _ _ _ h=>h) (y:=?_) (h:=?_);rotate_left
       ·intro wS hSw; go_simp<;>with_reducible rfl
       walk_nrm;refine tk 2 ?_ rfl (fun _ _ _ h=>h) (y:=?_) (h:=?_);rotate_left
       ·intro wS hSw; have k8 := (World.cell?_of_block (w := W9) (hSw.trans M2.out.symm)).trans z8; go_simp<;>with_reducible rfl
       walk_nrm;refine tk 3 ?_ rfl (fun _ _ _ h=>h) (y:=?_) (h:=?_);rotate_left
       ·intro wS hSw; go_simp<;>with_reducible rfl
       walk_nrm;refine tk 4 ?_ rfl (fun _ _ _ h=>h) (y:=?_) (h:=?_);rotate_left
       ·intro wS hSw; go_simp<;>with_reducible rfl
       walk_nrm;refine wpAnyL_take (i := 0) (v := _) rfl (by kernel_rfl) (fun _ _ _ h => h) (Or.inl ⟨by rfl, fun wS hSw => exec_load_row 28 _ rfl (w.heap.size) rfl _ _ _ _ (hSw) Tryz.underlying28 rfl (by kernel_rfl)⟩) (by assumption) ?_;walk_nrm;clear hHeld z8;obtain ⟨W5, hW5⟩ : ∃ W5, W5 = W9.drew := ⟨_, rfl⟩;have hb5 : Below W9.heap.size W9 W5 := by rw [hW5]; exact (Below.refl _ _).drew
       rw [← hW5];have N2 := hid ((hb5.block w.heap.size (blt M2.out)).trans M2.out);have N4 := hid ((hb5.block (w.heap.size + 1) (blt M4.out)).trans M4.out);have HB5 := hid hb5;clear hb5 hW5;refine wpAnyL_one 5 (by kernel_rfl) ?_;refine ComesUp.mk rfl (fun K hK => ?_);rw [if_pos (by rfl)];refine wp_store_row 28 _ _ rfl (w.heap.size + 1) _ rfl rfl _ _ N4.out storeSize rfl (store_one _ _ _ _ _) ?_;refine hK.out _ _ ((setRow_other _ _ _ _ (by omega)).trans N2.out) ?_;clear hK K;intro hHeld;walk_nrm;refine wpAnyL_last rfl (by kernel_rfl) (fun K hK => ?_);go_simp;refine hK.out _ _ ?_;clear hK K hHeld;walk_nrm;refine wpAnyL_done (by kernel_rfl) ?_ _
       go_wp2_with fail
       refine bodyPost_ret (v := .tuple #[.agg (storeV ({ s with items := L }) va' vc' fa fc), .bool _]) (resultsCT rfl _ _ (w.heap.size + 1) _ _ rfl rfl (run_loadVar_row _ _ _ _ _ _ _ (setRow_heap _ _ _ _ _ _ N4.out) Tryz.underlying28 rfl storeSize)) rfl ?_;refine ⟨va', vc', fa, fc, by rw [HR2.out]; exact congrArg (fun b : Bool => Ending.returned (.tuple #[.agg _, .bool b])) (dec_len _), ?_, ?_, ?_, .inr (fun a ha => by have := HVN.out a ha; omega), fun _ => .inl ⟨rfl, by rw [HR2.out]⟩⟩
       ·rw [HR2.out]
        exact (O9.out.below HB5.out).setAt N4.out (by decide) (fun a ha => by have := HVN.out a ha; omega) (fun hp a ha => by have := HFA.out hp a ha; omega)
       ·exact (HV9.out.trans (ButV.below HB5.out)).setNew _ (by omega)
       ·exact (HLb.out.trans (HB5.out.mono (by have := HLb.out.size; omega))).trans (Below.setRow _ (w.heap.size + 1) _ (by omega))
      | false =>
       have hyes : 24 ≤ x.value.size ∧ er = 0 := by
        rw [hg] at hgg;have := of_decide_eq_false hgg.symm;omega
       obtain ⟨h24, he0⟩ := hyes;subst he0;have HAW : Hid (away s i = { s with flash := ⟨mo, nx, ps⟩, items := if 0 < gone then (s.items.modify i (fun x => { x with value := ByteArray.empty, far := true, place := ⟨pg, po⟩ })).filter (fun y => !onPage gone y) else s.items.modify i (fun x => { x with value := ByteArray.empty, far := true, place := ⟨pg, po⟩ }) }) := away_far hi (by rw [HXI.out]; exact h24) (by rw [HXI.out]; exact HRR.out);subst hg;clear hgg;have hgi : gi < w.heap.size := HVA.out _ rfl;have HOK := hid (HS.out.away hi).1;obtain ⟨l1, hl1⟩ : ∃ l : List Item, l = s.items.modify i (fun x => { x with value := ByteArray.empty, far := true, place := ⟨pg, po⟩ }) := ⟨_, rfl⟩;rw [← hl1] at HAW;have HL1 := hid hl1
       have HA5 : Hid (ps ≠ [] → ∀ a, a5 = some a → W3.heap.size ≤ a.block) := fun hp a ha => by
        obtain ⟨b, o, vs, e, hq⟩ := HPM.out.resolve_left hp;rw [ha] at e
        cases e
        exact hq.big
       have HPB : Hid ((∀ p ∈ ps, PageB p) ∧ ps.length ≤ 20) := by
        have h1 := HOK.out.pageB;have h2 := pages_few HOK.out.flash;rw [HAW.out] at h1 h2;exact ⟨h1, h2⟩
       have hpi : I64 pg ∧ I64 po := by
        have ha := (append_zero (f := s.flash) (v := bl x.value) HS.out.flash (by rw [HRR.out])).1;rw [HRR.out] at ha;have hrd := ha.rd ⟨pg, po⟩;rw [if_pos rfl] at hrd;have := place_nums (f := ⟨mo, nx, ps⟩) (q := ⟨pg, po⟩) (by rw [(rd_read ha.ok _).2 _ hrd]);dsimp only at this;unfold I64;omega
       have y8 : W6.cell? ⟨w.heap.size, 8, none⟩ = some (.slice (some ⟨gi, 0, none⟩) s.items.length vc) := cor L2.out rfl;have y9 : W6.cell? ⟨w.heap.size, 9, none⟩ = some (.int .i64 s.flash.most) := cor L2.out rfl;have y10 : W6.cell? ⟨w.heap.size, 10, none⟩ = some (.int .i64 s.flash.next) := cor L2.out rfl;have y11 : W6.cell? ⟨w.heap.size, 11, none⟩ = some (.slice fa s.flash.pages.length fc) := cor L2.out rfl;have fy : ∀ j, W6.frozen? ⟨w.heap.size, j, none⟩ = false := fun j => frozen_of_row W6 _ _ _ _ L2.out
       have g0 : W6.cell? ⟨w5.heap.size, 0, none⟩ = some (.int .i64 mo) := cor RF.out rfl;have g1 : W6.cell? ⟨w5.heap.size, 1, none⟩ = some (.int .i64 nx) := cor RF.out rfl;have g2 : W6.cell? ⟨w5.heap.size, 2, none⟩ = some (.slice a5 ps.length cp5) := cor RF.out rfl;go_upto_region 15 with (fail);rw [rowF W6 w.heap.size s (some ⟨gi, 0, none⟩) fa a5 vc fc cp5 _ mo nx ps L2.out];obtain ⟨W7, hW7⟩ : ∃ W7, W7 = W6.setRow w.heap.size (storeV { s with flash := ⟨mo, nx, ps⟩ } (some ⟨gi, 0, none⟩) vc a5 cp5) := ⟨_, rfl⟩;rw [← hW7];have T2 : Hid (W7.heap[w.heap.size]? = some (.cells (storeV { s with flash := ⟨mo, nx, ps⟩ } (some ⟨gi, 0, none⟩) vc a5 cp5) 28 (0, 0))) := by show _ = _; rw [hW7]; exact setRow_heap W6 _ _ _ _ _ L2.out
       have T4 : Hid (W7.heap[w.heap.size + 1]? = some (.cells storeZ 28 (0, 0))) := by show _ = _; rw [hW7, setRow_other _ _ _ _ (by omega)]; exact L4.out
       have TP : Hid (W7.heap[w5.heap.size + 1]? = some (.cells #[.int .i64 pg, .int .i64 po] 81 (0, 0))) := by show _ = _; rw [hW7, setRow_other _ _ _ _ (by omega)]; exact RP.out
       have TG : Hid (W7.heap[w5.heap.size + 1 + 1]? = some (.cells #[.int .i64 gone] 3 (0, 0))) := by show _ = _; rw [hW7, setRow_other _ _ _ _ (by omega)]; exact RG.out
       have OT : Hid (RSt base W7 { s with flash := ⟨mo, nx, ps⟩ } (some ⟨gi, 0, none⟩) vc a5 cp5) := by
        have h := O7.out.setAt (ds := storeV { s with flash := ⟨mo, nx, ps⟩ } (some ⟨gi, 0, none⟩) vc a5 cp5) L2.out (by decide) (fun a ha => by have := HVA.out a ha; omega) (fun hp a ha => by have := HFA.out hp a ha; omega);show RSt _ _ _ _ _ _ _;rw [hW7];refine ⟨h.row, HPM.out.imp id (fun ⟨b, o, vs, e, hp⟩ => ⟨b, o, vs, e, ?_, fun a ha e' => ?_⟩), h.ib, HPB.out.1, h.len, HPB.out.2⟩
        ·have hbb := hp.big
         exact (hp.base (by omega)).but (setRow_other _ _ _ _ (by omega)) (fun x n xs hx => owns_setT hx L2.out (by decide)) (by simp [World.setRow])
        ·have hbb := hp.big
         cases ha
         dsimp only at e';omega
       have HB7 : Hid (Below w.heap.size w W7) := by show Below _ _ _; rw [hW7]; exact HB6.out.trans (Below.setRow _ w.heap.size _ (Nat.le_refl _))
       have hs7 : w5.heap.size + 2 < W7.heap.size := by have := (blt TG.out); omega
       clear hW7 y8 y9 y10 y11 fy g0 g1 g2 L2 L4 LX RF RP RG O6 O7 HB6 HPM;have y8 : W7.cell? ⟨w.heap.size, 8, none⟩ = some (.slice (some ⟨gi, 0, none⟩) s.items.length vc) := cor T2.out rfl;obtain ⟨d0, d1, d2, d3, d4, d5, d6, d7, d8⟩ := own_item OT.out.row HX.out;have df := own_free OT.out.row;have p0 : W7.cell? ⟨w5.heap.size + 1, 0, none⟩ = some (.int .i64 pg) := cor TP.out rfl;have p1 : W7.cell? ⟨w5.heap.size + 1, 1, none⟩ = some (.int .i64 po) := cor TP.out rfl;have n1 : ¬ gi = w5.heap.size + 1 := by omega
       have n2 : ¬ w5.heap.size + 1 = gi := by omega
       have n3 : ¬ gi = w.heap.size := by omega
       have n4 : ¬ w.heap.size = gi := by omega
       go_upto_region 18 with (fail);obtain ⟨W8, hW8⟩ : ∃ W8, W8 = (((W7.setCell ⟨gi, i * 9 + 5, none⟩ (.string ⟨#[]⟩)).setCell ⟨gi, i * 9 + 6, none⟩ (.bool true)).setCell ⟨gi, i * 9 + 7, none⟩ (.int .i64 pg)).setCell ⟨gi, i * 9 + 7 + 1, none⟩ (.int .i64 po) := ⟨_, rfl⟩;rw [← hW8];have hk8 : ∀ k, k ≠ gi → W8.heap[k]? = W7.heap[k]? := fun k hk => by rw [hW8]; exact blk_off (blk_off (blk_off (blk_off rfl hk) hk) hk) hk
       have O8 : Hid (RSt base W8 { s with flash := ⟨mo, nx, ps⟩, items := l1 } (some ⟨gi, 0, none⟩) vc a5 cp5) := by
        show RSt _ _ _ _ _ _ _;rw [hW8, HL1.out];exact OT.out.item_far i hi ⟨pg, po⟩ hpi.1 hpi.2
       have V2 := hid ((hk8 w.heap.size (by omega)).trans T2.out);have V4 := hid ((hk8 (w.heap.size + 1) (by omega)).trans T4.out);have VG := hid ((hk8 (w5.heap.size + 1 + 1) (by omega)).trans TG.out);have hs8 : W7.heap.size ≤ W8.heap.size := by rw [hW8]; simp
       have HV8 : Hid (ButV (some ⟨gi, 0, none⟩) w W8) := (ButV.below HB7.out).trans ⟨hs8, fun k _ ha => hk8 k (fun e => ha _ rfl e.symm)⟩
       have HL8 : Hid (Below base w W8) := by
        show Below _ _ _;rw [hW8];exact ((((HB7.out.mono hbw).setCell (p := ⟨gi, i * 9 + 5, none⟩) hbg _).setCell (p := ⟨gi, i * 9 + 6, none⟩) hbg _).setCell (p := ⟨gi, i * 9 + 7, none⟩) hbg _).setCell (p := ⟨gi, i * 9 + 7 + 1, none⟩) hbg _
       have HLL : Hid (l1.length = s.items.length) := by show _ = _; rw [HL1.out, List.length_modify]
       clear hW8 hk8 y8 d0 d1 d2 d3 d4 d5 d6 d7 d8 df p0 p1 T2 T4 TP TG OT hl1 HB7;have x0 : W8.cell? ⟨w5.heap.size + 1 + 1, 0, none⟩ = some (.int .i64 gone) := cor VG.out rfl;have y8 : W8.cell? ⟨w.heap.size, 8, none⟩ = some (.slice (some ⟨gi, 0, none⟩) s.items.length vc) := cor V2.out rfl
       go_wp2_with fail
       have hx := ref_except 120 (w5.heap.size + 1 + 1) (fun y => decide (0 < gone) && onPage gone y) l1 (some ⟨gi, 0, none⟩) vc W8 O8.out.at.items O8.out.len (strikes_room2 x0);rw [HLL.out] at hx;refine hx.mono ?_;clear hx;rintro e w9 ⟨v, rfl, how, hb9⟩;obtain ⟨va', vc', rfl⟩ := own_slice how;obtain ⟨L, hL⟩ : ∃ L, L = l1.filter (fun y => !(decide (0 < gone) && onPage gone y)) := ⟨_, rfl⟩;have HEL : Hid (l1.filter (fun y => !(decide (0 < gone) && onPage gone y)) = L) := hL.symm;rw [HEL.out] at how ⊢;have hif := (filter_if l1 gone).trans hL.symm;have HR2 : Hid (room s q = ({ s with flash := ⟨mo, nx, ps⟩, items := L }, decide (L.length < 1000))) := by show _ = _; rw [HR.out, HAW.out, hif]
       have HOW := hid (owns_low (base' := base) how (by omega));have HVN : Hid (∀ a, va' = some a → W8.heap.size ≤ a.block) := fun a ha => by subst ha; exact (how.lt a.block rfl).1
       have HLB : Hid ((∀ y ∈ L, ItemB y) ∧ L.length ≤ 1000) := by
        rw [← HEL.out];exact ⟨fun y hy => O8.out.ib y (List.mem_filter.1 hy).1, Nat.le_trans (List.length_filter_le _ _) O8.out.len⟩
       have O9 := hid (O8.out.below hb9);have HF8 : Hid (ps ≠ [] → ∀ a, a5 = some a → a.block < W8.heap.size) := fun hp a ha => (O8.out.fa_lt hp a ha).2
       have HV9 : Hid (ButV (some ⟨gi, 0, none⟩) w w9) := HV8.out.trans (ButV.below hb9);have HL9 : Hid (Below base w w9) := HL8.out.trans (hb9.mono (by omega));have U2 := hid ((hb9.block w.heap.size (blt V2.out)).trans V2.out);have U4 := hid ((hb9.block (w.heap.size + 1) (blt V4.out)).trans V4.out);clear how hb9 hL hif O8 V2 V4 VG HV8 HL8 x0 y8 HAW HR HEL;have z8 : w9.cell? ⟨w.heap.size, 8, none⟩ = some (.slice (some ⟨gi, 0, none⟩) s.items.length vc) := cor U2.out rfl;have f8 : ∀ j, w9.frozen? ⟨w.heap.size, j, none⟩ = false := fun j => frozen_of_row w9 _ _ _ _ U2.out
       go_upto_region 19 with (fail);obtain ⟨WA, hWA⟩ : ∃ WA, WA = w9.setCell ⟨w.heap.size, 8, none⟩ (.slice va' L.length vc') := ⟨_, rfl⟩;rw [← hWA]
       have M2 : Hid (WA.heap[w.heap.size]? = some (.cells (storeV ({ s with flash := ⟨mo, nx, ps⟩, items := L }) va' vc' a5 cp5) 28 (0, 0))) := by
        show _ = _;rw [hWA, setCell_eq_setRow w9 w.heap.size 8 _ _ _ _ U2.out, setRow_heap w9 w.heap.size _ _ _ _ U2.out]
        simp [storeV]
       have M4 : Hid (WA.heap[w.heap.size + 1]? = some (.cells storeZ 28 (0, 0))) := by show _ = _; rw [hWA]; exact blk_off U4.out (by omega)
       have OA : Hid (RSt base WA ({ s with flash := ⟨mo, nx, ps⟩, items := L }) va' vc' a5 cp5) := by
        rw [hWA, setCell_eq_setRow w9 w.heap.size 8 _ _ _ _ U2.out];exact (O9.out.items HOW.out HLB.out.1 HLB.out.2 (fun hp a f ha hf => by have := HVN.out a ha; have := HF8.out hp f hf; omega)).setAt U2.out (by decide) (fun a ha => by have := HVN.out a ha; omega) (fun hp a ha => by have := HA5.out hp a ha; omega)
       have HVA2 : Hid (ButV (some ⟨gi, 0, none⟩) w WA) := by
        show ButV _ _ _;rw [hWA, setCell_eq_setRow w9 w.heap.size 8 _ _ _ _ U2.out];exact HV9.out.setNew _ (Nat.le_refl _)
       have HLA : Hid (Below base w WA) := by show Below _ _ _; rw [hWA]; exact HL9.out.setCell (p := ⟨w.heap.size, 8, none⟩) hbw _
       have hzA : w.heap.size + 2 ≤ WA.heap.size := by have := (blt M4.out); omega
       clear z8 f8 hWA U2 U4 O9 HL9 HV9 HOW HLB;have z8 : WA.cell? ⟨w.heap.size, 8, none⟩ = some (.slice va' L.length vc') := cor M2.out rfl;refine wp_region_L (fun w' : World => w'.heap[w.heap.size]? = some (.cells (storeV ({ s with flash := ⟨mo, nx, ps⟩, items := L }) va' vc' a5 cp5) 28 (0, 0))) 6 7 (by kernel_rfl) (by kernel_rfl) M2.out (fun hHeld => ?_);refine tk 1 ?_ rfl (fun _ _ _ h=>h) (y:=?_) (h:=?_);rotate_left
       ·intro wS hSw; go_simp<;>with_reducible rfl
       walk_nrm;refine tk 2 ?_ rfl (fun _ _ _ h=>h) (y:=?_) (h:=?_);rotate_left
       ·intro wS hSw; have k8 := (World.cell?_of_block (w := WA) (hSw.trans M2.out.symm)).trans z8; go_simp<;>with_reducible rfl
       walk_nrm;refine tk 3 ?_ rfl (fun _ _ _ h=>h) (y:=?_) (h:=?_);rotate_left
       ·intro wS hSw; go_simp<;>with_reducible rfl
       walk_nrm;refine tk 4 ?_ rfl (fun _ _ _ h=>h) (y:=?_) (h:=?_);rotate_left
       ·intro wS hSw; go_simp<;>with_reducible rfl
       walk_nrm;refine wpAnyL_take (i := 0) (v := _) rfl (by kernel_rfl) (fun _ _ _ h => h) (Or.inl ⟨by rfl, fun wS hSw => exec_load_row 28 _ rfl (w.heap.size) rfl _ _ _ _ (hSw) Tryz.underlying28 rfl (by kernel_rfl)⟩) (by assumption) ?_;walk_nrm;clear hHeld z8;obtain ⟨W5, hW5⟩ : ∃ W5, W5 = WA.drew := ⟨_, rfl⟩;have hb5 : Below WA.heap.size WA W5 := by rw [hW5]; exact (Below.refl _ _).drew
       rw [← hW5];have N2 := hid ((hb5.block w.heap.size (blt M2.out)).trans M2.out);have N4 := hid ((hb5.block (w.heap.size + 1) (blt M4.out)).trans M4.out);have HB5 := hid hb5;clear hb5 hW5;refine wpAnyL_one 5 (by kernel_rfl) ?_;refine ComesUp.mk rfl (fun K hK => ?_);rw [if_pos (by rfl)];refine wp_store_row 28 _ _ rfl (w.heap.size + 1) _ rfl rfl _ _ N4.out storeSize rfl (store_one _ _ _ _ _) ?_;refine hK.out _ _ ((setRow_other _ _ _ _ (by omega)).trans N2.out) ?_;clear hK K;intro hHeld;walk_nrm;refine wpAnyL_last rfl (by kernel_rfl) (fun K hK => ?_);go_simp;refine hK.out _ _ ?_;clear hK K hHeld;walk_nrm;refine wpAnyL_done (by kernel_rfl) ?_ _
       go_wp2_with fail
       refine bodyPost_ret (v := .tuple #[.agg (storeV ({ s with flash := ⟨mo, nx, ps⟩, items := L }) va' vc' a5 cp5), .bool _]) (resultsCT rfl _ _ (w.heap.size + 1) _ _ rfl rfl (run_loadVar_row _ _ _ _ _ _ _ (setRow_heap _ _ _ _ _ _ N4.out) Tryz.underlying28 rfl storeSize)) rfl ?_;refine ⟨va', vc', a5, cp5, by rw [HR2.out]; exact congrArg (fun b : Bool => Ending.returned (.tuple #[.agg _, .bool b])) (dec_len _), ?_, ?_, ?_, .inr (fun a ha => by have := HVN.out a ha; omega), fun hp => .inr (fun a ha => by rw [HR2.out] at hp; have := HA5.out hp a ha; omega)⟩
       ·rw [HR2.out]
        exact (OA.out.below HB5.out).setAt N4.out (by decide) (fun a ha => by have := HVN.out a ha; omega) (fun hp a ha => by have := HA5.out hp a ha; omega)
       ·exact (HVA2.out.trans (ButV.below HB5.out)).setNew _ (by omega)
       ·exact (HLA.out.trans (HB5.out.mono (by have := HLA.out.size; omega))).trans (Below.setRow _ (w.heap.size + 1) _ (by omega))
end Go.Proofs.YtbeegfkfpkfccaaGreatDoor.D
