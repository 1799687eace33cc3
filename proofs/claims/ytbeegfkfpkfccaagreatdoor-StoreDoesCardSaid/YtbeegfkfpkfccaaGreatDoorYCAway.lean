/-
 Contract: keeper.away: an item makes room: its value goes to flash, or it goes.
-/
import Derived.Test.YtbeegfkfpkfccaaGreatDoorYCut
import Derived.Test.YtbeegfkfpkfccaaGreatDoorYCAppend
import Derived.Test.YtbeegfkfpkfccaaGreatDoorYKeep
namespace Go.Proofs.YtbeegfkfpkfccaaGreatDoor.D
open Go.RowKit
section
variable {base g : Nat} {s : Store} {va : Option Addr} {vc : Nat} {fa : Option Addr} {fc : Nat} {vs : List Value}
theorem share {T G : Prop} (h : T → G) (k : T) : G := h k
def AwayEnd (base g : Nat) (s : Store) (va : Option Addr) (i : Nat) (w : World) (E : Ending) (w' : World) : Prop :=
 E = .returned (.tuple #[]) ∧ (∃ vc' fa' fc' vs', KeepAt base g (away s i) va vc' fa' fc' vs' w') ∧ Below base w w' ∧ ButK g va w w'
def AwBox (W1 : World) (f : Flash) (p : Place) (gone er : Int) (v5 v6 v7 v8 : Value) (w : World) : Prop := ∃ b1 b2 b3 va vc vs, v5 = .pointer (some ⟨b1, 0, none⟩) ∧ v6 = .pointer (some ⟨b2, 0, none⟩) ∧ v7 = .pointer (some ⟨b3, 0, none⟩) ∧ v8 = .int .i64 er ∧
 Hid (w.heap[b1]? = some (.cells #[.int .i64 f.most, .int .i64 f.next, .slice va f.pages.length vc] 26 (0, 0))) ∧ Hid (w.heap[b2]? = some (.cells #[.int .i64 p.page, .int .i64 p.off] 81 (0, 0))) ∧ Hid (w.heap[b3]? = some (.cells #[.int .i64 gone] 3 (0, 0))) ∧
 Hid (PagesOwn W1.heap.size w (.slice va f.pages.length vc) f.pages vs) ∧ Hid (Below W1.heap.size W1 w)
theorem away_box {W1 wx : World} {bF bP bN : Nat} {mo nx pp po gone er : Int} {ps : List Page} {va : Option Addr} {vc : Nat} {vs : List Value} (q1 : W1.heap.size ≤ bF) (q2 : W1.heap.size ≤ bP) (q3 : W1.heap.size ≤ bN)
  (r1 : wx.heap[bF]? = some (.cells #[.int .i64 0, .int .i64 0, .slice none 0 0] 26 (0, 0))) (r2 : wx.heap[bP]? = some (.cells #[.int .i64 0, .int .i64 0] 81 (0, 0))) (r3 : wx.heap[bN]? = some (.cells #[.int .i64 0] 3 (0, 0)))
  (hp : PagesOwn W1.heap.size wx (.slice va ps.length vc) ps vs) (hb : Below W1.heap.size W1 wx) :
  AwBox W1 ⟨mo, nx, ps⟩ ⟨pp, po⟩ gone er (.pointer (some ⟨bF, 0, none⟩)) (.pointer (some ⟨bP, 0, none⟩)) (.pointer (some ⟨bN, 0, none⟩)) (.int .i64 er)
   ((((((wx.setCell ⟨bF, 0, none⟩ (.int .i64 mo)).setCell ⟨bF, 1, none⟩ (.int .i64 nx)).setCell ⟨bF, 2, none⟩ (.slice va ps.length vc)).setCell ⟨bP, 0, none⟩ (.int .i64 pp)).setCell ⟨bP, 1, none⟩ (.int .i64 po)).setCell ⟨bN, 0, none⟩ (.int .i64 gone)) := by
 have n12 : bF ≠ bP := blk_ne r1 r2 (by decide);have n13 : bF ≠ bN := blk_ne r1 r3 (by decide);have n23 : bP ≠ bN := blk_ne r2 r3 (by decide);refine ⟨bF, bP, bN, va, vc, vs, rfl, rfl, rfl, rfl, ?_, ?_, ?_, ?_, ?_⟩
 ·exact blk_off (blk_off (blk_off (blk_three r1) n12) n12) n13
 ·exact blk_off (blk_two (blk_off (blk_off (blk_off r2 n12.symm) n12.symm) n12.symm)) n23
 ·exact blk_one (blk_off (blk_off (blk_off (blk_off (blk_off r3 n13.symm) n13.symm) n13.symm) n23.symm) n23.symm)
 ·refine PagesMid.keptT (P := fun t => t = 98 ∨ t = 5) hp (fun k cs t fr hk ht => ?_) (.inl rfl) (.inr rfl)
  have m1 : k ≠ bF := blk_ne hk r1 (by rcases ht with rfl | rfl <;> decide);have m2 : k ≠ bP := blk_ne hk r2 (by rcases ht with rfl | rfl <;> decide);have m3 : k ≠ bN := blk_ne hk r3 (by rcases ht with rfl | rfl <;> decide);exact blk_off (blk_off (blk_off (blk_off (blk_off (blk_off rfl m1) m1) m1) m2) m2) m3
 ·exact (((((hb.setCell q1 _).setCell q1 _).setCell q1 _).setCell q2 _).setCell q2 _).setCell q3 _
theorem KeepAt.flashed {w : World} (h : KeepAt base g s va vc fa fc vs w) {mo nx : Int} {ps : List Page} {fa' : Option Addr} {fc' : Nat} {vs' : List Value} (hp : PagesOwn base w (.slice fa' ps.length fc') ps vs') :
  KeepAt base g { s with flash := ⟨mo, nx, ps⟩ } va vc fa' fc' vs' (((w.setCell ⟨g, 9, none⟩ (.int .i64 mo)).setCell ⟨g, 10, none⟩ (.int .i64 nx)).setCell ⟨g, 11, none⟩ (.slice fa' ps.length fc')) := by
 have hk : KeptT (· ≠ 74) w (((w.setCell ⟨g, 9, none⟩ (.int .i64 mo)).setCell ⟨g, 10, none⟩ (.int .i64 nx)).setCell ⟨g, 11, none⟩ (.slice fa' ps.length fc')) := fun k cs t fr hk ht => by
  have m1 : k ≠ g := blk_ne hk h.row ht;exact blk_off (blk_off (blk_off rfl m1) m1) m1
 refine ⟨?_, owns_keptT h.own hk (by decide), hp.keptT hk (by decide) (by decide), h.here⟩;have hr := h.row
 simp [World.setCell, Array.getElem?_modify, hr, storeV]
theorem modify_two (l : List Item) (i : Nat) (f f' : Item → Item) : (l.modify i f).modify i f' = l.modify i (fun x => f' (f x)) := by
 apply List.ext_getElem?;intro j;rw [List.getElem?_modify, List.getElem?_modify, List.getElem?_modify]
 cases l[j]? with
 | none => rfl
 | some x => simp only [Option.map_eq_map, Option.map_some]; split <;> rfl
theorem KeepAt.item_far {w : World} {gi : Nat} (h : KeepAt base g s (some ⟨gi, 0, none⟩) vc fa fc vs w) (i : Nat) (hi : i < s.items.length) (p : Place) :
  KeepAt base g { s with items := s.items.modify i (fun x => { x with value := ByteArray.empty, far := true, place := p }) } (some ⟨gi, 0, none⟩) vc fa fc vs
   ((((w.setCell ⟨gi, i * 9 + 5, none⟩ (.string ByteArray.empty)).setCell ⟨gi, i * 9 + 6, none⟩ (.bool true)).setCell ⟨gi, i * 9 + 7, none⟩ (.int .i64 p.page)).setCell ⟨gi, i * 9 + 8, none⟩ (.int .i64 p.off)) := by
 have h1 := h.item_set i hi 5 (by omega) (.string ByteArray.empty) (fun x => { x with value := ByteArray.empty }) rfl;have h2 := h1.item_set i (by simpa using hi) 6 (by omega) (.bool true) (fun x => { x with far := true }) rfl;have h3 := h2.item_set i (by simpa using hi) 7 (by omega) (.int .i64 p.page) (fun x => { x with place := ⟨p.page, x.place.off⟩ }) rfl;have h4 := h3.item_set i (by simpa using hi) 8 (by omega) (.int .i64 p.off) (fun x => { x with place := ⟨x.place.page, p.off⟩ }) rfl;simp only [modify_two] at h4;exact h4
theorem KeepAt.filtered {w w1 : World} {gi : Nat} {l : List Item} {E : Ending} (h : KeepAt base g s (some ⟨gi, 0, none⟩) vc fa fc vs w) (hd : DelFEnd base gi vc l w E w1) :
  KeepAt base g { s with items := l } (some ⟨gi, 0, none⟩) vc fa fc vs (w1.setCell ⟨g, 8, none⟩ (.slice (some ⟨gi, 0, none⟩) l.length vc)) ∧ Below base w (w1.setCell ⟨g, 8, none⟩ (.slice (some ⟨gi, 0, none⟩) l.length vc)) := by
 obtain ⟨_, h1, hbut, hb⟩ := hd;obtain ⟨cs, hcs⟩ := row_type h.own;have hk := But.keptT hcs hbut;have hrow := (hk g _ _ _ h.row (by decide)).trans h.row;exact ⟨keep_put (s' := { s with items := l }) hrow h.here h1 (h.pages.keptT hk (by decide) (by decide)) 8 _ (by simp [storeV]), hb.trans (below_set w1 _ h.here)⟩
theorem away_far {s : Store} {i : Nat} (hi : i < s.items.length) (h : 24 ≤ s.items[i].value.size) {f : Flash} {p : Place} {gone : Int} (hr : s.flash.append (bl s.items[i].value) = (f, p, gone, 0)) :
  away s i = { s with flash := f, items := if 0 < gone then (s.items.modify i (fun x => { x with value := ByteArray.empty, far := true, place := p })).filter (fun y => !onPage gone y) else s.items.modify i (fun x => { x with value := ByteArray.empty, far := true, place := p }) } := by
 unfold away;rw [List.getElem?_eq_getElem hi];simp only;rw [if_pos ⟨h, by rw [hr]⟩, hr]
 rfl
theorem away_err {s : Store} {i : Nat} (hi : i < s.items.length) (h : (s.flash.append (bl s.items[i].value)).2.2.2 ≠ 0) : away s i = { s with items := s.items.eraseIdx i } := by
 unfold away;rw [List.getElem?_eq_getElem hi];simp only;rw [if_neg (fun h' => h h'.2)]
theorem far_itemB {s : Store} (hs : SOk s) {i : Nat} {v : Str} (hr : (s.flash.append v).2.2.2 = 0) : ∀ x ∈ s.items.modify i (fun x => { x with value := ByteArray.empty, far := true, place := (s.flash.append v).2.1 }), ItemB x := by
 intro x hx
 rcases mem_modify hx with h | ⟨hi, rfl⟩
 ·exact hs.itemB x h
 ·obtain ⟨ha, _⟩ := append_zero hs.flash hr
  have hrd := ha.rd (s.flash.append v).2.1;rw [if_pos rfl] at hrd;have := place_nums (f := (s.flash.append v).1) (q := (s.flash.append v).2.1) (by rw [(rd_read ha.ok _).2 _ hrd]);obtain ⟨a, b, c, d, e, f, _, _⟩ := hs.itemB _ (List.getElem_mem hi);refine ⟨a, by show ByteArray.empty.size ≤ _; decide, c, d, e, f, ?_, ?_⟩
  ·show I64 (s.flash.append v).2.1.page; unfold I64; omega
  ·show I64 (s.flash.append v).2.1.off; unfold I64; omega
theorem KeptT.cell {P : TypeId → Prop} {w w' : World} (h : KeptT P w w') {b o : Nat} {cs : Array Value} {T : TypeId} {fr : Nat × Nat} {v : Value} (hr : w.heap[b]? = some (.cells cs T fr)) (ht : P T) (hc : w.cell? ⟨b, o, none⟩ = some v) : w'.cell? ⟨b, o, none⟩ = some v :=
 (World.cell?_of_block (w := w) (h b _ _ _ hr ht)).trans hc
theorem away_short {s : Store} {i : Nat} (hi : i < s.items.length) (h : ¬ 24 ≤ s.items[i].value.size) : away s i = { s with items := s.items.eraseIdx i } := by
 unfold away;rw [List.getElem?_eq_getElem hi];simp only;rw [if_neg (fun h' => h h'.1)]
set_option maxHeartbeats 4000000 in
set_option maxRecDepth 100000 in
theorem keeper_away (w : World) (h : KeepAt base g s va vc fa fc vs w) (hs : SOk s) (i : Nat) (hi : i < s.items.length) :
  Calls Tryz.prog 137 #[.pointer (some ⟨g, 0, none⟩), .int .i64 i] w (AwayEnd base g s va i w) := by
 obtain ⟨c0, c1, c2, c3, c4, c5, c6, c7, c8, c9, c10, c11⟩ := h.cells;obtain ⟨gi, cap, hv, hbg, hgl, hnc, hcm, hcell⟩ := own_shape h.own (by omega);simp only [Value.slice.injEq, true_and] at hv;obtain ⟨rfl, rfl⟩ := hv;have hcm := le_maxLen hcm;obtain ⟨x, hx⟩ : ∃ x, s.items[i]? = some x := ⟨_, List.getElem?_eq_getElem hi⟩;have hxi : s.items[i] = x := (List.getElem?_eq_some_iff.1 hx).2;obtain ⟨d0, d1, d2, d3, d4, d5, d6, d7, d8⟩ := own_item h.own hx;have hgk := h.lt;have H := hid h;have HS := hid hs;have hl := hs.len;have HX := hid hx;have HXI := hid hxi;clear h hs hcell hx hxi
 by_cases h24 : 24 ≤ x.value.size
 ·have HP := hid (H.out.pagesAt HS.out)
  obtain ⟨mo, nx, ps, pp, po, gone, er, hR⟩ : ∃ mo nx ps pp po gone er, s.flash.append (bl x.value) = (⟨mo, nx, ps⟩, ⟨pp, po⟩, gone, er) := ⟨_, _, _, _, _, _, _, rfl⟩;have HRR := hid hR
  go_enter Tryz.func137, Tryz.ntmps137
  go_wp2_with fail
  obtain ⟨W1, hW1⟩ : ∃ W1, W1 = w.alloc (.cells #[.string x.key, .int .i64 x.flags, .int .i64 x.till, .int .i64 x.cas, .int .i64 x.used, .string x.value, .bool x.far, .int .i64 x.place.page, .int .i64 x.place.off] 83) := ⟨_, rfl⟩;have hb1 : Below w.heap.size w W1 := by rw [hW1]; exact (Below.refl _ _).alloc (Nat.le_refl _) _
  have x5 : W1.cell? ⟨w.heap.size, 5, none⟩ = some (.string x.value) := by rw [hW1, cell_alloc_row]; rfl
  rw [← hW1];have K1 := hid (H.out.below hb1);have HP1 := hid (K1.out.pagesAt HS.out);have HB1 := hid hb1;clear c0 c1 c2 c3 c4 c5 c6 c7 c8 c9 c10 c11 d0 d1 d2 d3 d4 d5 d6 d7 d8 hR hb1 hW1;obtain ⟨c0, c1, c2, c3, c4, c5, c6, c7, c8, c9, c10, c11⟩ := K1.out.cells;have hgk1 := K1.out.lt;have HS1 := hid K1.out.base_le
  go_cut [5, 6, 7, 8] (fun v5 v6 v7 v8 wx => AwBox W1 ⟨mo, nx, ps⟩ ⟨pp, po⟩ gone er v5 v6 v7 v8 wx)
  case first =>
   refine wp_region_L (Below W1.heap.size W1) 19 20 (by kernel_rfl) (by kernel_rfl) (Below.refl _ _).drew (fun hHeld => ?_);refine tk 0 ?_ rfl (fun _ _ _ h=>h) (y:=?_) (h:=?_);rotate_left
   ·intro wS hSw; go_simp<;>with_reducible rfl
   walk_nrm;refine tk 1 ?_ rfl (fun _ _ _ h=>h) (y:=?_) (h:=?_);rotate_left
   ·intro wS hSw; go_simp<;>with_reducible rfl
   walk_nrm;refine tk 2 ?_ rfl (fun _ _ _ h=>h) (y:=?_) (h:=?_);rotate_left
   ·intro wS hSw; go_simp<;>with_reducible rfl
   walk_nrm;refine tk 3 ?_ rfl (fun _ _ _ h=>h) (y:=?_) (h:=?_);rotate_left
   ·intro wS hSw; go_simp<;>with_reducible rfl
   walk_nrm;refine tk 4 ?_ rfl (fun _ _ _ h=>h) (y:=?_) (h:=?_);rotate_left
   ·intro wS hSw; have q1 := Below.keeps hSw _ _ c9; have q2 := Below.keeps hSw _ _ c10; have q3 := Below.keeps hSw _ _ c11; go_simp<;>with_reducible rfl
   walk_nrm;refine tk 5 ?_ rfl (fun _ _ _ h=>h) (y:=?_) (h:=?_);rotate_left
   ·intro wS hSw; go_simp<;>with_reducible rfl
   walk_nrm;refine tk 6 ?_ rfl (fun _ _ _ h=>h) (y:=?_) (h:=?_);rotate_left
   ·intro wS hSw; have q1 := Below.keeps hSw _ _ x5; go_simp<;>with_reducible rfl
   walk_nrm;clear c0 c1 c2 c3 c4 c5 c6 c7 c8 c9 c10 c11 x5;apply share
   ·
    intro key;have hHeld := hHeld;obtain ⟨wx, hwx⟩ : ∃ wx, wx = W1.drew := ⟨_, rfl⟩;rw [← hwx] at hHeld ⊢;clear hwx;have HX1 : Hid (Bx W1.heap.size none (.cells #[.int .i64 0, .int .i64 0, .slice none 0 0] 26 (0, 0)) wx) := Bx.none;have HX2 : Hid (Bx W1.heap.size none (.cells #[.int .i64 0, .int .i64 0] 81 (0, 0)) wx) := Bx.none;have HX3 : Hid (Bx W1.heap.size none (.cells #[.int .i64 0] 3 (0, 0)) wx) := Bx.none;have HPX : Hid (Px W1.heap.size none wx) := Px.none;refine wpAnyL_four 7 13 14 15 (by kernel_rfl) ?_ ?_ ?_ ?_
    ·refine ComesUp.mk rfl (fun K hK => ?_)
     go_simp;refine (flash_Append s.flash x.value fa fc _ ?_).mono ?_
     ·exact HP1.out.keep (Below.keeps hHeld) (PageR.keep (Below.keeps hHeld))
     rintro e wn ⟨v, vs5, rfl, hpo, hbn⟩;rw [HRR.out] at hpo ⊢;obtain ⟨va5, vc5, rfl⟩ := own_slice hpo.row;simp only [AppV];replace HPX : Hid (Px W1.heap.size (some (.slice va5 ps.length vc5, ps, vs5)) wn) := fun x e => by cases e; exact hpo.base hHeld.size
     replace HX1 := hid (HX1.out.below hbn);replace HX2 := hid (HX2.out.below hbn);replace HX3 := hid (HX3.out.below hbn);have S5 := hHeld.trans (hbn.mono hHeld.size);refine hK.out _ _ S5 ?_;clear hK K hHeld S5 hbn hpo;intro hHeld;walk_nrm;refine tk 8 ?_ rfl (fun _ _ _ h=>h) (y:=?_) (h:=?_);rotate_left
     ·intro wS hSw; go_simp<;>with_reducible rfl
     walk_nrm;refine tk 9 ?_ rfl (fun _ _ _ h=>h) (y:=?_) (h:=?_);rotate_left
     ·intro wS hSw; go_simp<;>with_reducible rfl
     walk_nrm;refine tk 10 ?_ rfl (fun _ _ _ h=>h) (y:=?_) (h:=?_);rotate_left
     ·intro wS hSw; go_simp<;>with_reducible rfl
     walk_nrm;refine tk 11 ?_ rfl (fun _ _ _ h=>h) (y:=?_) (h:=?_);rotate_left
     ·intro wS hSw; go_simp<;>with_reducible rfl
     walk_nrm;refine tk 12 ?_ rfl (fun _ _ _ h=>h) (y:=?_) (h:=?_);rotate_left
     ·intro wS hSw; go_simp<;>with_reducible rfl
     walk_nrm;clear wx;obtain ⟨wx, rfl⟩ := wld wn;refine wpAnyL_three 13 14 15 (by kernel_rfl) ?_ ?_ ?_
     ·refine ComesUp.mk rfl (fun K hK => ?_)
      go_simp;obtain ⟨wn, hwn⟩ : ∃ wn, wn = wx.alloc (.cells #[.int .i64 0, .int .i64 0, .slice none 0 0] 26) := ⟨_, rfl⟩;obtain ⟨bF, hbF⟩ : ∃ b, b = wx.heap.size := ⟨_, rfl⟩;rw [← hwn, ← hbF];have hbn := below_new hwn;replace HX1 : Hid (Bx W1.heap.size (some bF) (.cells #[.int .i64 0, .int .i64 0, .slice none 0 0] 26 (0, 0)) wn) := by rw [hbF]; exact Bx.new hwn hHeld.size
      replace HX2 := hid (HX2.out.below hbn);replace HX3 := hid (HX3.out.below hbn);replace HPX := hid (HPX.out.below hbn);have S5 := hHeld.trans (hbn.mono hHeld.size);refine hK.out _ _ S5 ?_;clear hK K hHeld S5 hbn hwn hbF;intro hHeld;walk_nrm;clear wx;obtain ⟨wx, rfl⟩ := wld wn;refine wpAnyL_two 14 15 (by kernel_rfl) ?_ ?_
      ·refine ComesUp.mk rfl (fun K hK => ?_)
       go_simp;obtain ⟨wn, hwn⟩ : ∃ wn, wn = wx.alloc (.cells #[.int .i64 0, .int .i64 0] 81) := ⟨_, rfl⟩;obtain ⟨bP, hbP⟩ : ∃ b, b = wx.heap.size := ⟨_, rfl⟩;rw [← hwn, ← hbP];have hbn := below_new hwn;replace HX2 : Hid (Bx W1.heap.size (some bP) (.cells #[.int .i64 0, .int .i64 0] 81 (0, 0)) wn) := by rw [hbP]; exact Bx.new hwn hHeld.size
       replace HX1 := hid (HX1.out.below hbn);replace HX3 := hid (HX3.out.below hbn);replace HPX := hid (HPX.out.below hbn);have S5 := hHeld.trans (hbn.mono hHeld.size);refine hK.out _ _ S5 ?_;clear hK K hHeld S5 hbn hwn hbP;intro hHeld;walk_nrm;clear wx;obtain ⟨wx, rfl⟩ := wld wn;refine wpAnyL_one 15 (by kernel_rfl) ?_
       ·refine ComesUp.mk rfl (fun K hK => ?_)
        go_simp;obtain ⟨wn, hwn⟩ : ∃ wn, wn = wx.alloc (.cells #[.int .i64 0] 3) := ⟨_, rfl⟩;obtain ⟨bN, hbN⟩ : ∃ b, b = wx.heap.size := ⟨_, rfl⟩;rw [← hwn, ← hbN];have hbn := below_new hwn;replace HX3 : Hid (Bx W1.heap.size (some bN) (.cells #[.int .i64 0] 3 (0, 0)) wn) := by rw [hbN]; exact Bx.new hwn hHeld.size
        replace HX1 := hid (HX1.out.below hbn);replace HX2 := hid (HX2.out.below hbn);replace HPX := hid (HPX.out.below hbn);have S5 := hHeld.trans (hbn.mono hHeld.size);refine hK.out _ _ S5 ?_;clear hK K hHeld S5 hbn hwn hbN;intro hHeld;walk_nrm;clear wx;obtain ⟨wx, rfl⟩ := wld wn;revert hHeld; revert HPX; revert HX3; revert HX2; revert HX1; revert vs5; revert vc5; revert va5; revert bN; revert bP; revert bF; revert wx;exact key
      ·refine ComesUp.mk rfl (fun K hK => ?_)
       go_simp;obtain ⟨wn, hwn⟩ : ∃ wn, wn = wx.alloc (.cells #[.int .i64 0] 3) := ⟨_, rfl⟩;obtain ⟨bN, hbN⟩ : ∃ b, b = wx.heap.size := ⟨_, rfl⟩;rw [← hwn, ← hbN];have hbn := below_new hwn;replace HX3 : Hid (Bx W1.heap.size (some bN) (.cells #[.int .i64 0] 3 (0, 0)) wn) := by rw [hbN]; exact Bx.new hwn hHeld.size
       replace HX1 := hid (HX1.out.below hbn);replace HX2 := hid (HX2.out.below hbn);replace HPX := hid (HPX.out.below hbn);have S5 := hHeld.trans (hbn.mono hHeld.size);refine hK.out _ _ S5 ?_;clear hK K hHeld S5 hbn hwn hbN;intro hHeld;walk_nrm;clear wx;obtain ⟨wx, rfl⟩ := wld wn;refine wpAnyL_one 14 (by kernel_rfl) ?_
       ·refine ComesUp.mk rfl (fun K hK => ?_)
        go_simp;obtain ⟨wn, hwn⟩ : ∃ wn, wn = wx.alloc (.cells #[.int .i64 0, .int .i64 0] 81) := ⟨_, rfl⟩;obtain ⟨bP, hbP⟩ : ∃ b, b = wx.heap.size := ⟨_, rfl⟩;rw [← hwn, ← hbP];have hbn := below_new hwn;replace HX2 : Hid (Bx W1.heap.size (some bP) (.cells #[.int .i64 0, .int .i64 0] 81 (0, 0)) wn) := by rw [hbP]; exact Bx.new hwn hHeld.size
        replace HX1 := hid (HX1.out.below hbn);replace HX3 := hid (HX3.out.below hbn);replace HPX := hid (HPX.out.below hbn);have S5 := hHeld.trans (hbn.mono hHeld.size);refine hK.out _ _ S5 ?_;clear hK K hHeld S5 hbn hwn hbP;intro hHeld;walk_nrm;clear wx;obtain ⟨wx, rfl⟩ := wld wn;revert hHeld; revert HPX; revert HX3; revert HX2; revert HX1; revert vs5; revert vc5; revert va5; revert bN; revert bP; revert bF; revert wx;exact key
     ·refine ComesUp.mk rfl (fun K hK => ?_)
      go_simp;obtain ⟨wn, hwn⟩ : ∃ wn, wn = wx.alloc (.cells #[.int .i64 0, .int .i64 0] 81) := ⟨_, rfl⟩;obtain ⟨bP, hbP⟩ : ∃ b, b = wx.heap.size := ⟨_, rfl⟩;rw [← hwn, ← hbP];have hbn := below_new hwn;replace HX2 : Hid (Bx W1.heap.size (some bP) (.cells #[.int .i64 0, .int .i64 0] 81 (0, 0)) wn) := by rw [hbP]; exact Bx.new hwn hHeld.size
      replace HX1 := hid (HX1.out.below hbn);replace HX3 := hid (HX3.out.below hbn);replace HPX := hid (HPX.out.below hbn);have S5 := hHeld.trans (hbn.mono hHeld.size);refine hK.out _ _ S5 ?_;clear hK K hHeld S5 hbn hwn hbP;intro hHeld;walk_nrm;clear wx;obtain ⟨wx, rfl⟩ := wld wn;refine wpAnyL_two 13 15 (by kernel_rfl) ?_ ?_
      ·refine ComesUp.mk rfl (fun K hK => ?_)
       go_simp;obtain ⟨wn, hwn⟩ : ∃ wn, wn = wx.alloc (.cells #[.int .i64 0, .int .i64 0, .slice none 0 0] 26) := ⟨_, rfl⟩;obtain ⟨bF, hbF⟩ : ∃ b, b = wx.heap.size := ⟨_, rfl⟩;rw [← hwn, ← hbF];have hbn := below_new hwn;replace HX1 : Hid (Bx W1.heap.size (some bF) (.cells #[.int .i64 0, .int .i64 0, .slice none 0 0] 26 (0, 0)) wn) := by rw [hbF]; exact Bx.new hwn hHeld.size
       replace HX2 := hid (HX2.out.below hbn);replace HX3 := hid (HX3.out.below hbn);replace HPX := hid (HPX.out.below hbn);have S5 := hHeld.trans (hbn.mono hHeld.size);refine hK.out _ _ S5 ?_;clear hK K hHeld S5 hbn hwn hbF;intro hHeld;walk_nrm;clear wx;obtain ⟨wx, rfl⟩ := wld wn;refine wpAnyL_one 15 (by kernel_rfl) ?_
       ·refine ComesUp.mk rfl (fun K hK => ?_)
        go_simp;obtain ⟨wn, hwn⟩ : ∃ wn, wn = wx.alloc (.cells #[.int .i64 0] 3) := ⟨_, rfl⟩;obtain ⟨bN, hbN⟩ : ∃ b, b = wx.heap.size := ⟨_, rfl⟩;rw [← hwn, ← hbN];have hbn := below_new hwn;replace HX3 : Hid (Bx W1.heap.size (some bN) (.cells #[.int .i64 0] 3 (0, 0)) wn) := by rw [hbN]; exact Bx.new hwn hHeld.size
        replace HX1 := hid (HX1.out.below hbn);replace HX2 := hid (HX2.out.below hbn);replace HPX := hid (HPX.out.below hbn);have S5 := hHeld.trans (hbn.mono hHeld.size);refine hK.out _ _ S5 ?_;clear hK K hHeld S5 hbn hwn hbN;intro hHeld;walk_nrm;clear wx;obtain ⟨wx, rfl⟩ := wld wn;revert hHeld; revert HPX; revert HX3; revert HX2; revert HX1; revert vs5; revert vc5; revert va5; revert bN; revert bP; revert bF; revert wx;exact key
      ·refine ComesUp.mk rfl (fun K hK => ?_)
       go_simp;obtain ⟨wn, hwn⟩ : ∃ wn, wn = wx.alloc (.cells #[.int .i64 0] 3) := ⟨_, rfl⟩;obtain ⟨bN, hbN⟩ : ∃ b, b = wx.heap.size := ⟨_, rfl⟩;rw [← hwn, ← hbN];have hbn := below_new hwn;replace HX3 : Hid (Bx W1.heap.size (some bN) (.cells #[.int .i64 0] 3 (0, 0)) wn) := by rw [hbN]; exact Bx.new hwn hHeld.size
       replace HX1 := hid (HX1.out.below hbn);replace HX2 := hid (HX2.out.below hbn);replace HPX := hid (HPX.out.below hbn);have S5 := hHeld.trans (hbn.mono hHeld.size);refine hK.out _ _ S5 ?_;clear hK K hHeld S5 hbn hwn hbN;intro hHeld;walk_nrm;clear wx;obtain ⟨wx, rfl⟩ := wld wn;refine wpAnyL_one 13 (by kernel_rfl) ?_
       ·refine ComesUp.mk rfl (fun K hK => ?_)
        go_simp;obtain ⟨wn, hwn⟩ : ∃ wn, wn = wx.alloc (.cells #[.int .i64 0, .int .i64 0, .slice none 0 0] 26) := ⟨_, rfl⟩;obtain ⟨bF, hbF⟩ : ∃ b, b = wx.heap.size := ⟨_, rfl⟩;rw [← hwn, ← hbF];have hbn := below_new hwn;replace HX1 : Hid (Bx W1.heap.size (some bF) (.cells #[.int .i64 0, .int .i64 0, .slice none 0 0] 26 (0, 0)) wn) := by rw [hbF]; exact Bx.new hwn hHeld.size
        replace HX2 := hid (HX2.out.below hbn);replace HX3 := hid (HX3.out.below hbn);replace HPX := hid (HPX.out.below hbn);have S5 := hHeld.trans (hbn.mono hHeld.size);refine hK.out _ _ S5 ?_;clear hK K hHeld S5 hbn hwn hbF;intro hHeld;walk_nrm;clear wx;obtain ⟨wx, rfl⟩ := wld wn;revert hHeld; revert HPX; revert HX3; revert HX2; revert HX1; revert vs5; revert vc5; revert va5; revert bN; revert bP; revert bF; revert wx;exact key
     ·refine ComesUp.mk rfl (fun K hK => ?_)
      go_simp;obtain ⟨wn, hwn⟩ : ∃ wn, wn = wx.alloc (.cells #[.int .i64 0] 3) := ⟨_, rfl⟩;obtain ⟨bN, hbN⟩ : ∃ b, b = wx.heap.size := ⟨_, rfl⟩;rw [← hwn, ← hbN];have hbn := below_new hwn;replace HX3 : Hid (Bx W1.heap.size (some bN) (.cells #[.int .i64 0] 3 (0, 0)) wn) := by rw [hbN]; exact Bx.new hwn hHeld.size
      replace HX1 := hid (HX1.out.below hbn);replace HX2 := hid (HX2.out.below hbn);replace HPX := hid (HPX.out.below hbn);have S5 := hHeld.trans (hbn.mono hHeld.size);refine hK.out _ _ S5 ?_;clear hK K hHeld S5 hbn hwn hbN;intro hHeld;walk_nrm;clear wx;obtain ⟨wx, rfl⟩ := wld wn;refine wpAnyL_two 13 14 (by kernel_rfl) ?_ ?_
      ·refine ComesUp.mk rfl (fun K hK => ?_)
       go_simp;obtain ⟨wn, hwn⟩ : ∃ wn, wn = wx.alloc (.cells #[.int .i64 0, .int .i64 0, .slice none 0 0] 26) := ⟨_, rfl⟩;obtain ⟨bF, hbF⟩ : ∃ b, b = wx.heap.size := ⟨_, rfl⟩;rw [← hwn, ← hbF];have hbn := below_new hwn;replace HX1 : Hid (Bx W1.heap.size (some bF) (.cells #[.int .i64 0, .int .i64 0, .slice none 0 0] 26 (0, 0)) wn) := by rw [hbF]; exact Bx.new hwn hHeld.size
       replace HX2 := hid (HX2.out.below hbn);replace HX3 := hid (HX3.out.below hbn);replace HPX := hid (HPX.out.below hbn);have S5 := hHeld.trans (hbn.mono hHeld.size);refine hK.out _ _ S5 ?_;clear hK K hHeld S5 hbn hwn hbF;intro hHeld;walk_nrm;clear wx;obtain ⟨wx, rfl⟩ := wld wn;refine wpAnyL_one 14 (by kernel_rfl) ?_
       ·refine ComesUp.mk rfl (fun K hK => ?_)
        go_simp;obtain ⟨wn, hwn⟩ : ∃ wn, wn = wx.alloc (.cells #[.int .i64 0, .int .i64 0] 81) := ⟨_, rfl⟩;obtain ⟨bP, hbP⟩ : ∃ b, b = wx.heap.size := ⟨_, rfl⟩;rw [← hwn, ← hbP];have hbn := below_new hwn;replace HX2 : Hid (Bx W1.heap.size (some bP) (.cells #[.int .i64 0, .int .i64 0] 81 (0, 0)) wn) := by rw [hbP]; exact Bx.new hwn hHeld.size
        replace HX1 := hid (HX1.out.below hbn);replace HX3 := hid (HX3.out.below hbn);replace HPX := hid (HPX.out.below hbn);have S5 := hHeld.trans (hbn.mono hHeld.size);refine hK.out _ _ S5 ?_;clear hK K hHeld S5 hbn hwn hbP;intro hHeld;walk_nrm;clear wx;obtain ⟨wx, rfl⟩ := wld wn;revert hHeld; revert HPX; revert HX3; revert HX2; revert HX1; revert vs5; revert vc5; revert va5; revert bN; revert bP; revert bF; revert wx;exact key
      ·refine ComesUp.mk rfl (fun K hK => ?_)
       go_simp;obtain ⟨wn, hwn⟩ : ∃ wn, wn = wx.alloc (.cells #[.int .i64 0, .int .i64 0] 81) := ⟨_, rfl⟩;obtain ⟨bP, hbP⟩ : ∃ b, b = wx.heap.size := ⟨_, rfl⟩;rw [← hwn, ← hbP];have hbn := below_new hwn;replace HX2 : Hid (Bx W1.heap.size (some bP) (.cells #[.int .i64 0, .int .i64 0] 81 (0, 0)) wn) := by rw [hbP]; exact Bx.new hwn hHeld.size
       replace HX1 := hid (HX1.out.below hbn);replace HX3 := hid (HX3.out.below hbn);replace HPX := hid (HPX.out.below hbn);have S5 := hHeld.trans (hbn.mono hHeld.size);refine hK.out _ _ S5 ?_;clear hK K hHeld S5 hbn hwn hbP;intro hHeld;walk_nrm;clear wx;obtain ⟨wx, rfl⟩ := wld wn;refine wpAnyL_one 13 (by kernel_rfl) ?_
       ·refine ComesUp.mk rfl (fun K hK => ?_)
        go_simp;obtain ⟨wn, hwn⟩ : ∃ wn, wn = wx.alloc (.cells #[.int .i64 0, .int .i64 0, .slice none 0 0] 26) := ⟨_, rfl⟩;obtain ⟨bF, hbF⟩ : ∃ b, b = wx.heap.size := ⟨_, rfl⟩;rw [← hwn, ← hbF];have hbn := below_new hwn;replace HX1 : Hid (Bx W1.heap.size (some bF) (.cells #[.int .i64 0, .int .i64 0, .slice none 0 0] 26 (0, 0)) wn) := by rw [hbF]; exact Bx.new hwn hHeld.size
        replace HX2 := hid (HX2.out.below hbn);replace HX3 := hid (HX3.out.below hbn);replace HPX := hid (HPX.out.below hbn);have S5 := hHeld.trans (hbn.mono hHeld.size);refine hK.out _ _ S5 ?_;clear hK K hHeld S5 hbn hwn hbF;intro hHeld;walk_nrm;clear wx;obtain ⟨wx, rfl⟩ := wld wn;revert hHeld; revert HPX; revert HX3; revert HX2; revert HX1; revert vs5; revert vc5; revert va5; revert bN; revert bP; revert bF; revert wx;exact key
    ·refine ComesUp.mk rfl (fun K hK => ?_)
     go_simp;obtain ⟨wn, hwn⟩ : ∃ wn, wn = wx.alloc (.cells #[.int .i64 0, .int .i64 0, .slice none 0 0] 26) := ⟨_, rfl⟩;obtain ⟨bF, hbF⟩ : ∃ b, b = wx.heap.size := ⟨_, rfl⟩;rw [← hwn, ← hbF];have hbn := below_new hwn;replace HX1 : Hid (Bx W1.heap.size (some bF) (.cells #[.int .i64 0, .int .i64 0, .slice none 0 0] 26 (0, 0)) wn) := by rw [hbF]; exact Bx.new hwn hHeld.size
     replace HX2 := hid (HX2.out.below hbn);replace HX3 := hid (HX3.out.below hbn);replace HPX := hid (HPX.out.below hbn);have S5 := hHeld.trans (hbn.mono hHeld.size);refine hK.out _ _ S5 ?_;clear hK K hHeld S5 hbn hwn hbF;intro hHeld;walk_nrm;clear wx;obtain ⟨wx, rfl⟩ := wld wn;refine wpAnyL_three 7 14 15 (by kernel_rfl) ?_ ?_ ?_
     ·refine ComesUp.mk rfl (fun K hK => ?_)
      go_simp;refine (flash_Append s.flash x.value fa fc _ ?_).mono ?_
      ·exact HP1.out.keep (Below.keeps hHeld) (PageR.keep (Below.keeps hHeld))
      rintro e wn ⟨v, vs5, rfl, hpo, hbn⟩;rw [HRR.out] at hpo ⊢;obtain ⟨va5, vc5, rfl⟩ := own_slice hpo.row;simp only [AppV];replace HPX : Hid (Px W1.heap.size (some (.slice va5 ps.length vc5, ps, vs5)) wn) := fun x e => by cases e; exact hpo.base hHeld.size
      replace HX1 := hid (HX1.out.below hbn);replace HX2 := hid (HX2.out.below hbn);replace HX3 := hid (HX3.out.below hbn);have S5 := hHeld.trans (hbn.mono hHeld.size);refine hK.out _ _ S5 ?_;clear hK K hHeld S5 hbn hpo;intro hHeld;walk_nrm;refine tk 8 ?_ rfl (fun _ _ _ h=>h) (y:=?_) (h:=?_);rotate_left
      ·intro wS hSw; go_simp<;>with_reducible rfl
      walk_nrm;refine tk 9 ?_ rfl (fun _ _ _ h=>h) (y:=?_) (h:=?_);rotate_left
      ·intro wS hSw; go_simp<;>with_reducible rfl
      walk_nrm;refine tk 10 ?_ rfl (fun _ _ _ h=>h) (y:=?_) (h:=?_);rotate_left
      ·intro wS hSw; go_simp<;>with_reducible rfl
      walk_nrm;refine tk 11 ?_ rfl (fun _ _ _ h=>h) (y:=?_) (h:=?_);rotate_left
      ·intro wS hSw; go_simp<;>with_reducible rfl
      walk_nrm;refine tk 12 ?_ rfl (fun _ _ _ h=>h) (y:=?_) (h:=?_);rotate_left
      ·intro wS hSw; go_simp<;>with_reducible rfl
      walk_nrm;clear wx;obtain ⟨wx, rfl⟩ := wld wn;refine wpAnyL_two 14 15 (by kernel_rfl) ?_ ?_
      ·refine ComesUp.mk rfl (fun K hK => ?_)
       go_simp;obtain ⟨wn, hwn⟩ : ∃ wn, wn = wx.alloc (.cells #[.int .i64 0, .int .i64 0] 81) := ⟨_, rfl⟩;obtain ⟨bP, hbP⟩ : ∃ b, b = wx.heap.size := ⟨_, rfl⟩;rw [← hwn, ← hbP];have hbn := below_new hwn;replace HX2 : Hid (Bx W1.heap.size (some bP) (.cells #[.int .i64 0, .int .i64 0] 81 (0, 0)) wn) := by rw [hbP]; exact Bx.new hwn hHeld.size
       replace HX1 := hid (HX1.out.below hbn);replace HX3 := hid (HX3.out.below hbn);replace HPX := hid (HPX.out.below hbn);have S5 := hHeld.trans (hbn.mono hHeld.size);refine hK.out _ _ S5 ?_;clear hK K hHeld S5 hbn hwn hbP;intro hHeld;walk_nrm;clear wx;obtain ⟨wx, rfl⟩ := wld wn;refine wpAnyL_one 15 (by kernel_rfl) ?_
       ·refine ComesUp.mk rfl (fun K hK => ?_)
        go_simp;obtain ⟨wn, hwn⟩ : ∃ wn, wn = wx.alloc (.cells #[.int .i64 0] 3) := ⟨_, rfl⟩;obtain ⟨bN, hbN⟩ : ∃ b, b = wx.heap.size := ⟨_, rfl⟩;rw [← hwn, ← hbN];have hbn := below_new hwn;replace HX3 : Hid (Bx W1.heap.size (some bN) (.cells #[.int .i64 0] 3 (0, 0)) wn) := by rw [hbN]; exact Bx.new hwn hHeld.size
        replace HX1 := hid (HX1.out.below hbn);replace HX2 := hid (HX2.out.below hbn);replace HPX := hid (HPX.out.below hbn);have S5 := hHeld.trans (hbn.mono hHeld.size);refine hK.out _ _ S5 ?_;clear hK K hHeld S5 hbn hwn hbN;intro hHeld;walk_nrm;clear wx;obtain ⟨wx, rfl⟩ := wld wn;revert hHeld; revert HPX; revert HX3; revert HX2; revert HX1; revert vs5; revert vc5; revert va5; revert bN; revert bP; revert bF; revert wx;exact key
      ·refine ComesUp.mk rfl (fun K hK => ?_)
       go_simp;obtain ⟨wn, hwn⟩ : ∃ wn, wn = wx.alloc (.cells #[.int .i64 0] 3) := ⟨_, rfl⟩;obtain ⟨bN, hbN⟩ : ∃ b, b = wx.heap.size := ⟨_, rfl⟩;rw [← hwn, ← hbN];have hbn := below_new hwn;replace HX3 : Hid (Bx W1.heap.size (some bN) (.cells #[.int .i64 0] 3 (0, 0)) wn) := by rw [hbN]; exact Bx.new hwn hHeld.size
       replace HX1 := hid (HX1.out.below hbn);replace HX2 := hid (HX2.out.below hbn);replace HPX := hid (HPX.out.below hbn);have S5 := hHeld.trans (hbn.mono hHeld.size);refine hK.out _ _ S5 ?_;clear hK K hHeld S5 hbn hwn hbN;intro hHeld;walk_nrm;clear wx;obtain ⟨wx, rfl⟩ := wld wn;refine wpAnyL_one 14 (by kernel_rfl) ?_
       ·refine ComesUp.mk rfl (fun K hK => ?_)
        go_simp;obtain ⟨wn, hwn⟩ : ∃ wn, wn = wx.alloc (.cells #[.int .i64 0, .int .i64 0] 81) := ⟨_, rfl⟩;obtain ⟨bP, hbP⟩ : ∃ b, b = wx.heap.size := ⟨_, rfl⟩;rw [← hwn, ← hbP];have hbn := below_new hwn;replace HX2 : Hid (Bx W1.heap.size (some bP) (.cells #[.int .i64 0, .int .i64 0] 81 (0, 0)) wn) := by rw [hbP]; exact Bx.new hwn hHeld.size
        replace HX1 := hid (HX1.out.below hbn);replace HX3 := hid (HX3.out.below hbn);replace HPX := hid (HPX.out.below hbn);have S5 := hHeld.trans (hbn.mono hHeld.size);refine hK.out _ _ S5 ?_;clear hK K hHeld S5 hbn hwn hbP;intro hHeld;walk_nrm;clear wx;obtain ⟨wx, rfl⟩ := wld wn;revert hHeld; revert HPX; revert HX3; revert HX2; revert HX1; revert vs5; revert vc5; revert va5; revert bN; revert bP; revert bF; revert wx;exact key
     ·refine ComesUp.mk rfl (fun K hK => ?_)
      go_simp;obtain ⟨wn, hwn⟩ : ∃ wn, wn = wx.alloc (.cells #[.int .i64 0, .int .i64 0] 81) := ⟨_, rfl⟩;obtain ⟨bP, hbP⟩ : ∃ b, b = wx.heap.size := ⟨_, rfl⟩;rw [← hwn, ← hbP];have hbn := below_new hwn;replace HX2 : Hid (Bx W1.heap.size (some bP) (.cells #[.int .i64 0, .int .i64 0] 81 (0, 0)) wn) := by rw [hbP]; exact Bx.new hwn hHeld.size
      replace HX1 := hid (HX1.out.below hbn);replace HX3 := hid (HX3.out.below hbn);replace HPX := hid (HPX.out.below hbn);have S5 := hHeld.trans (hbn.mono hHeld.size);refine hK.out _ _ S5 ?_;clear hK K hHeld S5 hbn hwn hbP;intro hHeld;walk_nrm;clear wx;obtain ⟨wx, rfl⟩ := wld wn;refine wpAnyL_two 7 15 (by kernel_rfl) ?_ ?_
      ·refine ComesUp.mk rfl (fun K hK => ?_)
       go_simp;refine (flash_Append s.flash x.value fa fc _ ?_).mono ?_
       ·exact HP1.out.keep (Below.keeps hHeld) (PageR.keep (Below.keeps hHeld))
       rintro e wn ⟨v, vs5, rfl, hpo, hbn⟩;rw [HRR.out] at hpo ⊢;obtain ⟨va5, vc5, rfl⟩ := own_slice hpo.row;simp only [AppV];replace HPX : Hid (Px W1.heap.size (some (.slice va5 ps.length vc5, ps, vs5)) wn) := fun x e => by cases e; exact hpo.base hHeld.size
       replace HX1 := hid (HX1.out.below hbn);replace HX2 := hid (HX2.out.below hbn);replace HX3 := hid (HX3.out.below hbn);have S5 := hHeld.trans (hbn.mono hHeld.size);refine hK.out _ _ S5 ?_;clear hK K hHeld S5 hbn hpo;intro hHeld;walk_nrm;refine tk 8 ?_ rfl (fun _ _ _ h=>h) (y:=?_) (h:=?_);rotate_left
       ·intro wS hSw; go_simp<;>with_reducible rfl
       walk_nrm;refine tk 9 ?_ rfl (fun _ _ _ h=>h) (y:=?_) (h:=?_);rotate_left
       ·intro wS hSw; go_simp<;>with_reducible rfl
       walk_nrm;refine tk 10 ?_ rfl (fun _ _ _ h=>h) (y:=?_) (h:=?_);rotate_left
       ·intro wS hSw; go_simp<;>with_reducible rfl
       walk_nrm;refine tk 11 ?_ rfl (fun _ _ _ h=>h) (y:=?_) (h:=?_);rotate_left
       ·intro wS hSw; go_simp<;>with_reducible rfl
       walk_nrm;refine tk 12 ?_ rfl (fun _ _ _ h=>h) (y:=?_) (h:=?_);rotate_left
       ·intro wS hSw; go_simp<;>with_reducible rfl
       walk_nrm;clear wx;obtain ⟨wx, rfl⟩ := wld wn;refine wpAnyL_one 15 (by kernel_rfl) ?_
       ·refine ComesUp.mk rfl (fun K hK => ?_)
        go_simp;obtain ⟨wn, hwn⟩ : ∃ wn, wn = wx.alloc (.cells #[.int .i64 0] 3) := ⟨_, rfl⟩;obtain ⟨bN, hbN⟩ : ∃ b, b = wx.heap.size := ⟨_, rfl⟩;rw [← hwn, ← hbN];have hbn := below_new hwn;replace HX3 : Hid (Bx W1.heap.size (some bN) (.cells #[.int .i64 0] 3 (0, 0)) wn) := by rw [hbN]; exact Bx.new hwn hHeld.size
        replace HX1 := hid (HX1.out.below hbn);replace HX2 := hid (HX2.out.below hbn);replace HPX := hid (HPX.out.below hbn);have S5 := hHeld.trans (hbn.mono hHeld.size);refine hK.out _ _ S5 ?_;clear hK K hHeld S5 hbn hwn hbN;intro hHeld;walk_nrm;clear wx;obtain ⟨wx, rfl⟩ := wld wn;revert hHeld; revert HPX; revert HX3; revert HX2; revert HX1; revert vs5; revert vc5; revert va5; revert bN; revert bP; revert bF; revert wx;exact key
      ·refine ComesUp.mk rfl (fun K hK => ?_)
       go_simp;obtain ⟨wn, hwn⟩ : ∃ wn, wn = wx.alloc (.cells #[.int .i64 0] 3) := ⟨_, rfl⟩;obtain ⟨bN, hbN⟩ : ∃ b, b = wx.heap.size := ⟨_, rfl⟩;rw [← hwn, ← hbN];have hbn := below_new hwn;replace HX3 : Hid (Bx W1.heap.size (some bN) (.cells #[.int .i64 0] 3 (0, 0)) wn) := by rw [hbN]; exact Bx.new hwn hHeld.size
       replace HX1 := hid (HX1.out.below hbn);replace HX2 := hid (HX2.out.below hbn);replace HPX := hid (HPX.out.below hbn);have S5 := hHeld.trans (hbn.mono hHeld.size);refine hK.out _ _ S5 ?_;clear hK K hHeld S5 hbn hwn hbN;intro hHeld;walk_nrm;clear wx;obtain ⟨wx, rfl⟩ := wld wn;refine wpAnyL_one 7 (by kernel_rfl) ?_
       ·refine ComesUp.mk rfl (fun K hK => ?_)
        go_simp;refine (flash_Append s.flash x.value fa fc _ ?_).mono ?_
        ·exact HP1.out.keep (Below.keeps hHeld) (PageR.keep (Below.keeps hHeld))
        rintro e wn ⟨v, vs5, rfl, hpo, hbn⟩;rw [HRR.out] at hpo ⊢;obtain ⟨va5, vc5, rfl⟩ := own_slice hpo.row;simp only [AppV];replace HPX : Hid (Px W1.heap.size (some (.slice va5 ps.length vc5, ps, vs5)) wn) := fun x e => by cases e; exact hpo.base hHeld.size
        replace HX1 := hid (HX1.out.below hbn);replace HX2 := hid (HX2.out.below hbn);replace HX3 := hid (HX3.out.below hbn);have S5 := hHeld.trans (hbn.mono hHeld.size);refine hK.out _ _ S5 ?_;clear hK K hHeld S5 hbn hpo;intro hHeld;walk_nrm;refine tk 8 ?_ rfl (fun _ _ _ h=>h) (y:=?_) (h:=?_);rotate_left
        ·intro wS hSw; go_simp<;>with_reducible rfl
        walk_nrm;refine tk 9 ?_ rfl (fun _ _ _ h=>h) (y:=?_) (h:=?_);rotate_left
        ·intro wS hSw; go_simp<;>with_reducible rfl
        walk_nrm;refine tk 10 ?_ rfl (fun _ _ _ h=>h) (y:=?_) (h:=?_);rotate_left
        ·intro wS hSw; go_simp<;>with_reducible rfl
        walk_nrm;refine tk 11 ?_ rfl (fun _ _ _ h=>h) (y:=?_) (h:=?_);rotate_left
        ·intro wS hSw; go_simp<;>with_reducible rfl
        walk_nrm;refine tk 12 ?_ rfl (fun _ _ _ h=>h) (y:=?_) (h:=?_);rotate_left
        ·intro wS hSw; go_simp<;>with_reducible rfl
        walk_nrm;clear wx;obtain ⟨wx, rfl⟩ := wld wn;revert hHeld; revert HPX; revert HX3; revert HX2; revert HX1; revert vs5; revert vc5; revert va5; revert bN; revert bP; revert bF; revert wx;exact key
     ·refine ComesUp.mk rfl (fun K hK => ?_)
      go_simp;obtain ⟨wn, hwn⟩ : ∃ wn, wn = wx.alloc (.cells #[.int .i64 0] 3) := ⟨_, rfl⟩;obtain ⟨bN, hbN⟩ : ∃ b, b = wx.heap.size := ⟨_, rfl⟩;rw [← hwn, ← hbN];have hbn := below_new hwn;replace HX3 : Hid (Bx W1.heap.size (some bN) (.cells #[.int .i64 0] 3 (0, 0)) wn) := by rw [hbN]; exact Bx.new hwn hHeld.size
      replace HX1 := hid (HX1.out.below hbn);replace HX2 := hid (HX2.out.below hbn);replace HPX := hid (HPX.out.below hbn);have S5 := hHeld.trans (hbn.mono hHeld.size);refine hK.out _ _ S5 ?_;clear hK K hHeld S5 hbn hwn hbN;intro hHeld;walk_nrm;clear wx;obtain ⟨wx, rfl⟩ := wld wn;refine wpAnyL_two 7 14 (by kernel_rfl) ?_ ?_
      ·refine ComesUp.mk rfl (fun K hK => ?_)
       go_simp;refine (flash_Append s.flash x.value fa fc _ ?_).mono ?_
       ·exact HP1.out.keep (Below.keeps hHeld) (PageR.keep (Below.keeps hHeld))
       rintro e wn ⟨v, vs5, rfl, hpo, hbn⟩;rw [HRR.out] at hpo ⊢;obtain ⟨va5, vc5, rfl⟩ := own_slice hpo.row;simp only [AppV];replace HPX : Hid (Px W1.heap.size (some (.slice va5 ps.length vc5, ps, vs5)) wn) := fun x e => by cases e; exact hpo.base hHeld.size
       replace HX1 := hid (HX1.out.below hbn);replace HX2 := hid (HX2.out.below hbn);replace HX3 := hid (HX3.out.below hbn);have S5 := hHeld.trans (hbn.mono hHeld.size);refine hK.out _ _ S5 ?_;clear hK K hHeld S5 hbn hpo;intro hHeld;walk_nrm;refine tk 8 ?_ rfl (fun _ _ _ h=>h) (y:=?_) (h:=?_);rotate_left
       ·intro wS hSw; go_simp<;>with_reducible rfl
       walk_nrm;refine tk 9 ?_ rfl (fun _ _ _ h=>h) (y:=?_) (h:=?_);rotate_left
       ·intro wS hSw; go_simp<;>with_reducible rfl
       walk_nrm;refine tk 10 ?_ rfl (fun _ _ _ h=>h) (y:=?_) (h:=?_);rotate_left
       ·intro wS hSw; go_simp<;>with_reducible rfl
       walk_nrm;refine tk 11 ?_ rfl (fun _ _ _ h=>h) (y:=?_) (h:=?_);rotate_left
       ·intro wS hSw; go_simp<;>with_reducible rfl
       walk_nrm;refine tk 12 ?_ rfl (fun _ _ _ h=>h) (y:=?_) (h:=?_);rotate_left
       ·intro wS hSw; go_simp<;>with_reducible rfl
       walk_nrm;clear wx;obtain ⟨wx, rfl⟩ := wld wn;refine wpAnyL_one 14 (by kernel_rfl) ?_
       ·refine ComesUp.mk rfl (fun K hK => ?_)
        go_simp;obtain ⟨wn, hwn⟩ : ∃ wn, wn = wx.alloc (.cells #[.int .i64 0, .int .i64 0] 81) := ⟨_, rfl⟩;obtain ⟨bP, hbP⟩ : ∃ b, b = wx.heap.size := ⟨_, rfl⟩;rw [← hwn, ← hbP];have hbn := below_new hwn;replace HX2 : Hid (Bx W1.heap.size (some bP) (.cells #[.int .i64 0, .int .i64 0] 81 (0, 0)) wn) := by rw [hbP]; exact Bx.new hwn hHeld.size
        replace HX1 := hid (HX1.out.below hbn);replace HX3 := hid (HX3.out.below hbn);replace HPX := hid (HPX.out.below hbn);have S5 := hHeld.trans (hbn.mono hHeld.size);refine hK.out _ _ S5 ?_;clear hK K hHeld S5 hbn hwn hbP;intro hHeld;walk_nrm;clear wx;obtain ⟨wx, rfl⟩ := wld wn;revert hHeld; revert HPX; revert HX3; revert HX2; revert HX1; revert vs5; revert vc5; revert va5; revert bN; revert bP; revert bF; revert wx;exact key
      ·refine ComesUp.mk rfl (fun K hK => ?_)
       go_simp;obtain ⟨wn, hwn⟩ : ∃ wn, wn = wx.alloc (.cells #[.int .i64 0, .int .i64 0] 81) := ⟨_, rfl⟩;obtain ⟨bP, hbP⟩ : ∃ b, b = wx.heap.size := ⟨_, rfl⟩;rw [← hwn, ← hbP];have hbn := below_new hwn;replace HX2 : Hid (Bx W1.heap.size (some bP) (.cells #[.int .i64 0, .int .i64 0] 81 (0, 0)) wn) := by rw [hbP]; exact Bx.new hwn hHeld.size
       replace HX1 := hid (HX1.out.below hbn);replace HX3 := hid (HX3.out.below hbn);replace HPX := hid (HPX.out.below hbn);have S5 := hHeld.trans (hbn.mono hHeld.size);refine hK.out _ _ S5 ?_;clear hK K hHeld S5 hbn hwn hbP;intro hHeld;walk_nrm;clear wx;obtain ⟨wx, rfl⟩ := wld wn;refine wpAnyL_one 7 (by kernel_rfl) ?_
       ·refine ComesUp.mk rfl (fun K hK => ?_)
        go_simp;refine (flash_Append s.flash x.value fa fc _ ?_).mono ?_
        ·exact HP1.out.keep (Below.keeps hHeld) (PageR.keep (Below.keeps hHeld))
        rintro e wn ⟨v, vs5, rfl, hpo, hbn⟩;rw [HRR.out] at hpo ⊢;obtain ⟨va5, vc5, rfl⟩ := own_slice hpo.row;simp only [AppV];replace HPX : Hid (Px W1.heap.size (some (.slice va5 ps.length vc5, ps, vs5)) wn) := fun x e => by cases e; exact hpo.base hHeld.size
        replace HX1 := hid (HX1.out.below hbn);replace HX2 := hid (HX2.out.below hbn);replace HX3 := hid (HX3.out.below hbn);have S5 := hHeld.trans (hbn.mono hHeld.size);refine hK.out _ _ S5 ?_;clear hK K hHeld S5 hbn hpo;intro hHeld;walk_nrm;refine tk 8 ?_ rfl (fun _ _ _ h=>h) (y:=?_) (h:=?_);rotate_left
        ·intro wS hSw; go_simp<;>with_reducible rfl
        walk_nrm;refine tk 9 ?_ rfl (fun _ _ _ h=>h) (y:=?_) (h:=?_);rotate_left
        ·intro wS hSw; go_simp<;>with_reducible rfl
        walk_nrm;refine tk 10 ?_ rfl (fun _ _ _ h=>h) (y:=?_) (h:=?_);rotate_left
        ·intro wS hSw; go_simp<;>with_reducible rfl
        walk_nrm;refine tk 11 ?_ rfl (fun _ _ _ h=>h) (y:=?_) (h:=?_);rotate_left
        ·intro wS hSw; go_simp<;>with_reducible rfl
        walk_nrm;refine tk 12 ?_ rfl (fun _ _ _ h=>h) (y:=?_) (h:=?_);rotate_left
        ·intro wS hSw; go_simp<;>with_reducible rfl
        walk_nrm;clear wx;obtain ⟨wx, rfl⟩ := wld wn;revert hHeld; revert HPX; revert HX3; revert HX2; revert HX1; revert vs5; revert vc5; revert va5; revert bN; revert bP; revert bF; revert wx;exact key
    ·refine ComesUp.mk rfl (fun K hK => ?_)
     go_simp;obtain ⟨wn, hwn⟩ : ∃ wn, wn = wx.alloc (.cells #[.int .i64 0, .int .i64 0] 81) := ⟨_, rfl⟩;obtain ⟨bP, hbP⟩ : ∃ b, b = wx.heap.size := ⟨_, rfl⟩;rw [← hwn, ← hbP];have hbn := below_new hwn;replace HX2 : Hid (Bx W1.heap.size (some bP) (.cells #[.int .i64 0, .int .i64 0] 81 (0, 0)) wn) := by rw [hbP]; exact Bx.new hwn hHeld.size
     replace HX1 := hid (HX1.out.below hbn);replace HX3 := hid (HX3.out.below hbn);replace HPX := hid (HPX.out.below hbn);have S5 := hHeld.trans (hbn.mono hHeld.size);refine hK.out _ _ S5 ?_;clear hK K hHeld S5 hbn hwn hbP;intro hHeld;walk_nrm;clear wx;obtain ⟨wx, rfl⟩ := wld wn;refine wpAnyL_three 7 13 15 (by kernel_rfl) ?_ ?_ ?_
     ·refine ComesUp.mk rfl (fun K hK => ?_)
      go_simp;refine (flash_Append s.flash x.value fa fc _ ?_).mono ?_
      ·exact HP1.out.keep (Below.keeps hHeld) (PageR.keep (Below.keeps hHeld))
      rintro e wn ⟨v, vs5, rfl, hpo, hbn⟩;rw [HRR.out] at hpo ⊢;obtain ⟨va5, vc5, rfl⟩ := own_slice hpo.row;simp only [AppV];replace HPX : Hid (Px W1.heap.size (some (.slice va5 ps.length vc5, ps, vs5)) wn) := fun x e => by cases e; exact hpo.base hHeld.size
      replace HX1 := hid (HX1.out.below hbn);replace HX2 := hid (HX2.out.below hbn);replace HX3 := hid (HX3.out.below hbn);have S5 := hHeld.trans (hbn.mono hHeld.size);refine hK.out _ _ S5 ?_;clear hK K hHeld S5 hbn hpo;intro hHeld;walk_nrm;refine tk 8 ?_ rfl (fun _ _ _ h=>h) (y:=?_) (h:=?_);rotate_left
      ·intro wS hSw; go_simp<;>with_reducible rfl
      walk_nrm;refine tk 9 ?_ rfl (fun _ _ _ h=>h) (y:=?_) (h:=?_);rotate_left
      ·intro wS hSw; go_simp<;>with_reducible rfl
      walk_nrm;refine tk 10 ?_ rfl (fun _ _ _ h=>h) (y:=?_) (h:=?_);rotate_left
      ·intro wS hSw; go_simp<;>with_reducible rfl
      walk_nrm;refine tk 11 ?_ rfl (fun _ _ _ h=>h) (y:=?_) (h:=?_);rotate_left
      ·intro wS hSw; go_simp<;>with_reducible rfl
      walk_nrm;refine tk 12 ?_ rfl (fun _ _ _ h=>h) (y:=?_) (h:=?_);rotate_left
      ·intro wS hSw; go_simp<;>with_reducible rfl
      walk_nrm;clear wx;obtain ⟨wx, rfl⟩ := wld wn;refine wpAnyL_two 13 15 (by kernel_rfl) ?_ ?_
      ·refine ComesUp.mk rfl (fun K hK => ?_)
       go_simp;obtain ⟨wn, hwn⟩ : ∃ wn, wn = wx.alloc (.cells #[.int .i64 0, .int .i64 0, .slice none 0 0] 26) := ⟨_, rfl⟩;obtain ⟨bF, hbF⟩ : ∃ b, b = wx.heap.size := ⟨_, rfl⟩;rw [← hwn, ← hbF];have hbn := below_new hwn;replace HX1 : Hid (Bx W1.heap.size (some bF) (.cells #[.int .i64 0, .int .i64 0, .slice none 0 0] 26 (0, 0)) wn) := by rw [hbF]; exact Bx.new hwn hHeld.size
       replace HX2 := hid (HX2.out.below hbn);replace HX3 := hid (HX3.out.below hbn);replace HPX := hid (HPX.out.below hbn);have S5 := hHeld.trans (hbn.mono hHeld.size);refine hK.out _ _ S5 ?_;clear hK K hHeld S5 hbn hwn hbF;intro hHeld;walk_nrm;clear wx;obtain ⟨wx, rfl⟩ := wld wn;refine wpAnyL_one 15 (by kernel_rfl) ?_
       ·refine ComesUp.mk rfl (fun K hK => ?_)
        go_simp;obtain ⟨wn, hwn⟩ : ∃ wn, wn = wx.alloc (.cells #[.int .i64 0] 3) := ⟨_, rfl⟩;obtain ⟨bN, hbN⟩ : ∃ b, b = wx.heap.size := ⟨_, rfl⟩;rw [← hwn, ← hbN];have hbn := below_new hwn;replace HX3 : Hid (Bx W1.heap.size (some bN) (.cells #[.int .i64 0] 3 (0, 0)) wn) := by rw [hbN]; exact Bx.new hwn hHeld.size
        replace HX1 := hid (HX1.out.below hbn);replace HX2 := hid (HX2.out.below hbn);replace HPX := hid (HPX.out.below hbn);have S5 := hHeld.trans (hbn.mono hHeld.size);refine hK.out _ _ S5 ?_;clear hK K hHeld S5 hbn hwn hbN;intro hHeld;walk_nrm;clear wx;obtain ⟨wx, rfl⟩ := wld wn;revert hHeld; revert HPX; revert HX3; revert HX2; revert HX1; revert vs5; revert vc5; revert va5; revert bN; revert bP; revert bF; revert wx;exact key
      ·refine ComesUp.mk rfl (fun K hK => ?_)
       go_simp;obtain ⟨wn, hwn⟩ : ∃ wn, wn = wx.alloc (.cells #[.int .i64 0] 3) := ⟨_, rfl⟩;obtain ⟨bN, hbN⟩ : ∃ b, b = wx.heap.size := ⟨_, rfl⟩;rw [← hwn, ← hbN];have hbn := below_new hwn;replace HX3 : Hid (Bx W1.heap.size (some bN) (.cells #[.int .i64 0] 3 (0, 0)) wn) := by rw [hbN]; exact Bx.new hwn hHeld.size
       replace HX1 := hid (HX1.out.below hbn);replace HX2 := hid (HX2.out.below hbn);replace HPX := hid (HPX.out.below hbn);have S5 := hHeld.trans (hbn.mono hHeld.size);refine hK.out _ _ S5 ?_;clear hK K hHeld S5 hbn hwn hbN;intro hHeld;walk_nrm;clear wx;obtain ⟨wx, rfl⟩ := wld wn;refine wpAnyL_one 13 (by kernel_rfl) ?_
       ·refine ComesUp.mk rfl (fun K hK => ?_)
        go_simp;obtain ⟨wn, hwn⟩ : ∃ wn, wn = wx.alloc (.cells #[.int .i64 0, .int .i64 0, .slice none 0 0] 26) := ⟨_, rfl⟩;obtain ⟨bF, hbF⟩ : ∃ b, b = wx.heap.size := ⟨_, rfl⟩;rw [← hwn, ← hbF];have hbn := below_new hwn;replace HX1 : Hid (Bx W1.heap.size (some bF) (.cells #[.int .i64 0, .int .i64 0, .slice none 0 0] 26 (0, 0)) wn) := by rw [hbF]; exact Bx.new hwn hHeld.size
        replace HX2 := hid (HX2.out.below hbn);replace HX3 := hid (HX3.out.below hbn);replace HPX := hid (HPX.out.below hbn);have S5 := hHeld.trans (hbn.mono hHeld.size);refine hK.out _ _ S5 ?_;clear hK K hHeld S5 hbn hwn hbF;intro hHeld;walk_nrm;clear wx;obtain ⟨wx, rfl⟩ := wld wn;revert hHeld; revert HPX; revert HX3; revert HX2; revert HX1; revert vs5; revert vc5; revert va5; revert bN; revert bP; revert bF; revert wx;exact key
     ·refine ComesUp.mk rfl (fun K hK => ?_)
      go_simp;obtain ⟨wn, hwn⟩ : ∃ wn, wn = wx.alloc (.cells #[.int .i64 0, .int .i64 0, .slice none 0 0] 26) := ⟨_, rfl⟩;obtain ⟨bF, hbF⟩ : ∃ b, b = wx.heap.size := ⟨_, rfl⟩;rw [← hwn, ← hbF];have hbn := below_new hwn;replace HX1 : Hid (Bx W1.heap.size (some bF) (.cells #[.int .i64 0, .int .i64 0, .slice none 0 0] 26 (0, 0)) wn) := by rw [hbF]; exact Bx.new hwn hHeld.size
      replace HX2 := hid (HX2.out.below hbn);replace HX3 := hid (HX3.out.below hbn);replace HPX := hid (HPX.out.below hbn);have S5 := hHeld.trans (hbn.mono hHeld.size);refine hK.out _ _ S5 ?_;clear hK K hHeld S5 hbn hwn hbF;intro hHeld;walk_nrm;clear wx;obtain ⟨wx, rfl⟩ := wld wn;refine wpAnyL_two 7 15 (by kernel_rfl) ?_ ?_
      ·refine ComesUp.mk rfl (fun K hK => ?_)
       go_simp;refine (flash_Append s.flash x.value fa fc _ ?_).mono ?_
       ·exact HP1.out.keep (Below.keeps hHeld) (PageR.keep (Below.keeps hHeld))
       rintro e wn ⟨v, vs5, rfl, hpo, hbn⟩;rw [HRR.out] at hpo ⊢;obtain ⟨va5, vc5, rfl⟩ := own_slice hpo.row;simp only [AppV];replace HPX : Hid (Px W1.heap.size (some (.slice va5 ps.length vc5, ps, vs5)) wn) := fun x e => by cases e; exact hpo.base hHeld.size
       replace HX1 := hid (HX1.out.below hbn);replace HX2 := hid (HX2.out.below hbn);replace HX3 := hid (HX3.out.below hbn);have S5 := hHeld.trans (hbn.mono hHeld.size);refine hK.out _ _ S5 ?_;clear hK K hHeld S5 hbn hpo;intro hHeld;walk_nrm;refine tk 8 ?_ rfl (fun _ _ _ h=>h) (y:=?_) (h:=?_);rotate_left
       ·intro wS hSw; go_simp<;>with_reducible rfl
       walk_nrm;refine tk 9 ?_ rfl (fun _ _ _ h=>h) (y:=?_) (h:=?_);rotate_left
       ·intro wS hSw; go_simp<;>with_reducible rfl
       walk_nrm;refine tk 10 ?_ rfl (fun _ _ _ h=>h) (y:=?_) (h:=?_);rotate_left
       ·intro wS hSw; go_simp<;>with_reducible rfl
       walk_nrm;refine tk 11 ?_ rfl (fun _ _ _ h=>h) (y:=?_) (h:=?_);rotate_left
       ·intro wS hSw; go_simp<;>with_reducible rfl
       walk_nrm;refine tk 12 ?_ rfl (fun _ _ _ h=>h) (y:=?_) (h:=?_);rotate_left
       ·intro wS hSw; go_simp<;>with_reducible rfl
       walk_nrm;clear wx;obtain ⟨wx, rfl⟩ := wld wn;refine wpAnyL_one 15 (by kernel_rfl) ?_
       ·refine ComesUp.mk rfl (fun K hK => ?_)
        go_simp;obtain ⟨wn, hwn⟩ : ∃ wn, wn = wx.alloc (.cells #[.int .i64 0] 3) := ⟨_, rfl⟩;obtain ⟨bN, hbN⟩ : ∃ b, b = wx.heap.size := ⟨_, rfl⟩;rw [← hwn, ← hbN];have hbn := below_new hwn;replace HX3 : Hid (Bx W1.heap.size (some bN) (.cells #[.int .i64 0] 3 (0, 0)) wn) := by rw [hbN]; exact Bx.new hwn hHeld.size
        replace HX1 := hid (HX1.out.below hbn);replace HX2 := hid (HX2.out.below hbn);replace HPX := hid (HPX.out.below hbn);have S5 := hHeld.trans (hbn.mono hHeld.size);refine hK.out _ _ S5 ?_;clear hK K hHeld S5 hbn hwn hbN;intro hHeld;walk_nrm;clear wx;obtain ⟨wx, rfl⟩ := wld wn;revert hHeld; revert HPX; revert HX3; revert HX2; revert HX1; revert vs5; revert vc5; revert va5; revert bN; revert bP; revert bF; revert wx;exact key
      ·refine ComesUp.mk rfl (fun K hK => ?_)
       go_simp;obtain ⟨wn, hwn⟩ : ∃ wn, wn = wx.alloc (.cells #[.int .i64 0] 3) := ⟨_, rfl⟩;obtain ⟨bN, hbN⟩ : ∃ b, b = wx.heap.size := ⟨_, rfl⟩;rw [← hwn, ← hbN];have hbn := below_new hwn;replace HX3 : Hid (Bx W1.heap.size (some bN) (.cells #[.int .i64 0] 3 (0, 0)) wn) := by rw [hbN]; exact Bx.new hwn hHeld.size
       replace HX1 := hid (HX1.out.below hbn);replace HX2 := hid (HX2.out.below hbn);replace HPX := hid (HPX.out.below hbn);have S5 := hHeld.trans (hbn.mono hHeld.size);refine hK.out _ _ S5 ?_;clear hK K hHeld S5 hbn hwn hbN;intro hHeld;walk_nrm;clear wx;obtain ⟨wx, rfl⟩ := wld wn;refine wpAnyL_one 7 (by kernel_rfl) ?_
       ·refine ComesUp.mk rfl (fun K hK => ?_)
        go_simp;refine (flash_Append s.flash x.value fa fc _ ?_).mono ?_
        ·exact HP1.out.keep (Below.keeps hHeld) (PageR.keep (Below.keeps hHeld))
        rintro e wn ⟨v, vs5, rfl, hpo, hbn⟩;rw [HRR.out] at hpo ⊢;obtain ⟨va5, vc5, rfl⟩ := own_slice hpo.row;simp only [AppV];replace HPX : Hid (Px W1.heap.size (some (.slice va5 ps.length vc5, ps, vs5)) wn) := fun x e => by cases e; exact hpo.base hHeld.size
        replace HX1 := hid (HX1.out.below hbn);replace HX2 := hid (HX2.out.below hbn);replace HX3 := hid (HX3.out.below hbn);have S5 := hHeld.trans (hbn.mono hHeld.size);refine hK.out _ _ S5 ?_;clear hK K hHeld S5 hbn hpo;intro hHeld;walk_nrm;refine tk 8 ?_ rfl (fun _ _ _ h=>h) (y:=?_) (h:=?_);rotate_left
        ·intro wS hSw; go_simp<;>with_reducible rfl
        walk_nrm;refine tk 9 ?_ rfl (fun _ _ _ h=>h) (y:=?_) (h:=?_);rotate_left
        ·intro wS hSw; go_simp<;>with_reducible rfl
        walk_nrm;refine tk 10 ?_ rfl (fun _ _ _ h=>h) (y:=?_) (h:=?_);rotate_left
        ·intro wS hSw; go_simp<;>with_reducible rfl
        walk_nrm;refine tk 11 ?_ rfl (fun _ _ _ h=>h) (y:=?_) (h:=?_);rotate_left
        ·intro wS hSw; go_simp<;>with_reducible rfl
        walk_nrm;refine tk 12 ?_ rfl (fun _ _ _ h=>h) (y:=?_) (h:=?_);rotate_left
        ·intro wS hSw; go_simp<;>with_reducible rfl
        walk_nrm;clear wx;obtain ⟨wx, rfl⟩ := wld wn;revert hHeld; revert HPX; revert HX3; revert HX2; revert HX1; revert vs5; revert vc5; revert va5; revert bN; revert bP; revert bF; revert wx;exact key
     ·refine ComesUp.mk rfl (fun K hK => ?_)
      go_simp;obtain ⟨wn, hwn⟩ : ∃ wn, wn = wx.alloc (.cells #[.int .i64 0] 3) := ⟨_, rfl⟩;obtain ⟨bN, hbN⟩ : ∃ b, b = wx.heap.size := ⟨_, rfl⟩;rw [← hwn, ← hbN];have hbn := below_new hwn;replace HX3 : Hid (Bx W1.heap.size (some bN) (.cells #[.int .i64 0] 3 (0, 0)) wn) := by rw [hbN]; exact Bx.new hwn hHeld.size
      replace HX1 := hid (HX1.out.below hbn);replace HX2 := hid (HX2.out.below hbn);replace HPX := hid (HPX.out.below hbn);have S5 := hHeld.trans (hbn.mono hHeld.size);refine hK.out _ _ S5 ?_;clear hK K hHeld S5 hbn hwn hbN;intro hHeld;walk_nrm;clear wx;obtain ⟨wx, rfl⟩ := wld wn;refine wpAnyL_two 7 13 (by kernel_rfl) ?_ ?_
      ·refine ComesUp.mk rfl (fun K hK => ?_)
       go_simp;refine (flash_Append s.flash x.value fa fc _ ?_).mono ?_
       ·exact HP1.out.keep (Below.keeps hHeld) (PageR.keep (Below.keeps hHeld))
       rintro e wn ⟨v, vs5, rfl, hpo, hbn⟩;rw [HRR.out] at hpo ⊢;obtain ⟨va5, vc5, rfl⟩ := own_slice hpo.row;simp only [AppV];replace HPX : Hid (Px W1.heap.size (some (.slice va5 ps.length vc5, ps, vs5)) wn) := fun x e => by cases e; exact hpo.base hHeld.size
       replace HX1 := hid (HX1.out.below hbn);replace HX2 := hid (HX2.out.below hbn);replace HX3 := hid (HX3.out.below hbn);have S5 := hHeld.trans (hbn.mono hHeld.size);refine hK.out _ _ S5 ?_;clear hK K hHeld S5 hbn hpo;intro hHeld;walk_nrm;refine tk 8 ?_ rfl (fun _ _ _ h=>h) (y:=?_) (h:=?_);rotate_left
       ·intro wS hSw; go_simp<;>with_reducible rfl
       walk_nrm;refine tk 9 ?_ rfl (fun _ _ _ h=>h) (y:=?_) (h:=?_);rotate_left
       ·intro wS hSw; go_simp<;>with_reducible rfl
       walk_nrm;refine tk 10 ?_ rfl (fun _ _ _ h=>h) (y:=?_) (h:=?_);rotate_left
       ·intro wS hSw; go_simp<;>with_reducible rfl
       walk_nrm;refine tk 11 ?_ rfl (fun _ _ _ h=>h) (y:=?_) (h:=?_);rotate_left
       ·intro wS hSw; go_simp<;>with_reducible rfl
       walk_nrm;refine tk 12 ?_ rfl (fun _ _ _ h=>h) (y:=?_) (h:=?_);rotate_left
       ·intro wS hSw; go_simp<;>with_reducible rfl
       walk_nrm;clear wx;obtain ⟨wx, rfl⟩ := wld wn;refine wpAnyL_one 13 (by kernel_rfl) ?_
       ·refine ComesUp.mk rfl (fun K hK => ?_)
        go_simp;obtain ⟨wn, hwn⟩ : ∃ wn, wn = wx.alloc (.cells #[.int .i64 0, .int .i64 0, .slice none 0 0] 26) := ⟨_, rfl⟩;obtain ⟨bF, hbF⟩ : ∃ b, b = wx.heap.size := ⟨_, rfl⟩;rw [← hwn, ← hbF];have hbn := below_new hwn;replace HX1 : Hid (Bx W1.heap.size (some bF) (.cells #[.int .i64 0, .int .i64 0, .slice none 0 0] 26 (0, 0)) wn) := by rw [hbF]; exact Bx.new hwn hHeld.size
        replace HX2 := hid (HX2.out.below hbn);replace HX3 := hid (HX3.out.below hbn);replace HPX := hid (HPX.out.below hbn);have S5 := hHeld.trans (hbn.mono hHeld.size);refine hK.out _ _ S5 ?_;clear hK K hHeld S5 hbn hwn hbF;intro hHeld;walk_nrm;clear wx;obtain ⟨wx, rfl⟩ := wld wn;revert hHeld; revert HPX; revert HX3; revert HX2; revert HX1; revert vs5; revert vc5; revert va5; revert bN; revert bP; revert bF; revert wx;exact key
      ·refine ComesUp.mk rfl (fun K hK => ?_)
       go_simp;obtain ⟨wn, hwn⟩ : ∃ wn, wn = wx.alloc (.cells #[.int .i64 0, .int .i64 0, .slice none 0 0] 26) := ⟨_, rfl⟩;obtain ⟨bF, hbF⟩ : ∃ b, b = wx.heap.size := ⟨_, rfl⟩;rw [← hwn, ← hbF];have hbn := below_new hwn;replace HX1 : Hid (Bx W1.heap.size (some bF) (.cells #[.int .i64 0, .int .i64 0, .slice none 0 0] 26 (0, 0)) wn) := by rw [hbF]; exact Bx.new hwn hHeld.size
       replace HX2 := hid (HX2.out.below hbn);replace HX3 := hid (HX3.out.below hbn);replace HPX := hid (HPX.out.below hbn);have S5 := hHeld.trans (hbn.mono hHeld.size);refine hK.out _ _ S5 ?_;clear hK K hHeld S5 hbn hwn hbF;intro hHeld;walk_nrm;clear wx;obtain ⟨wx, rfl⟩ := wld wn;refine wpAnyL_one 7 (by kernel_rfl) ?_
       ·refine ComesUp.mk rfl (fun K hK => ?_)
        go_simp;refine (flash_Append s.flash x.value fa fc _ ?_).mono ?_
        ·exact HP1.out.keep (Below.keeps hHeld) (PageR.keep (Below.keeps hHeld))
        rintro e wn ⟨v, vs5, rfl, hpo, hbn⟩;rw [HRR.out] at hpo ⊢;obtain ⟨va5, vc5, rfl⟩ := own_slice hpo.row;simp only [AppV];replace HPX : Hid (Px W1.heap.size (some (.slice va5 ps.length vc5, ps, vs5)) wn) := fun x e => by cases e; exact hpo.base hHeld.size
        replace HX1 := hid (HX1.out.below hbn);replace HX2 := hid (HX2.out.below hbn);replace HX3 := hid (HX3.out.below hbn);have S5 := hHeld.trans (hbn.mono hHeld.size);refine hK.out _ _ S5 ?_;clear hK K hHeld S5 hbn hpo;intro hHeld;walk_nrm;refine tk 8 ?_ rfl (fun _ _ _ h=>h) (y:=?_) (h:=?_);rotate_left
        ·intro wS hSw; go_simp<;>with_reducible rfl
        walk_nrm;refine tk 9 ?_ rfl (fun _ _ _ h=>h) (y:=?_) (h:=?_);rotate_left
        ·intro wS hSw; go_simp<;>with_reducible rfl
        walk_nrm;refine tk 10 ?_ rfl (fun _ _ _ h=>h) (y:=?_) (h:=?_);rotate_left
        ·intro wS hSw; go_simp<;>with_reducible rfl
        walk_nrm;refine tk 11 ?_ rfl (fun _ _ _ h=>h) (y:=?_) (h:=?_);rotate_left
        ·intro wS hSw; go_simp<;>with_reducible rfl
        walk_nrm;refine tk 12 ?_ rfl (fun _ _ _ h=>h) (y:=?_) (h:=?_);rotate_left
        ·intro wS hSw; go_simp<;>with_reducible rfl
        walk_nrm;clear wx;obtain ⟨wx, rfl⟩ := wld wn;revert hHeld; revert HPX; revert HX3; revert HX2; revert HX1; revert vs5; revert vc5; revert va5; revert bN; revert bP; revert bF; revert wx;exact key
    ·refine ComesUp.mk rfl (fun K hK => ?_)
     go_simp;obtain ⟨wn, hwn⟩ : ∃ wn, wn = wx.alloc (.cells #[.int .i64 0] 3) := ⟨_, rfl⟩;obtain ⟨bN, hbN⟩ : ∃ b, b = wx.heap.size := ⟨_, rfl⟩;rw [← hwn, ← hbN];have hbn := below_new hwn;replace HX3 : Hid (Bx W1.heap.size (some bN) (.cells #[.int .i64 0] 3 (0, 0)) wn) := by rw [hbN]; exact Bx.new hwn hHeld.size
     replace HX1 := hid (HX1.out.below hbn);replace HX2 := hid (HX2.out.below hbn);replace HPX := hid (HPX.out.below hbn);have S5 := hHeld.trans (hbn.mono hHeld.size);refine hK.out _ _ S5 ?_;clear hK K hHeld S5 hbn hwn hbN;intro hHeld;walk_nrm;clear wx;obtain ⟨wx, rfl⟩ := wld wn;refine wpAnyL_three 7 13 14 (by kernel_rfl) ?_ ?_ ?_
     ·refine ComesUp.mk rfl (fun K hK => ?_)
      go_simp;refine (flash_Append s.flash x.value fa fc _ ?_).mono ?_
      ·exact HP1.out.keep (Below.keeps hHeld) (PageR.keep (Below.keeps hHeld))
      rintro e wn ⟨v, vs5, rfl, hpo, hbn⟩;rw [HRR.out] at hpo ⊢;obtain ⟨va5, vc5, rfl⟩ := own_slice hpo.row;simp only [AppV];replace HPX : Hid (Px W1.heap.size (some (.slice va5 ps.length vc5, ps, vs5)) wn) := fun x e => by cases e; exact hpo.base hHeld.size
      replace HX1 := hid (HX1.out.below hbn);replace HX2 := hid (HX2.out.below hbn);replace HX3 := hid (HX3.out.below hbn);have S5 := hHeld.trans (hbn.mono hHeld.size);refine hK.out _ _ S5 ?_;clear hK K hHeld S5 hbn hpo;intro hHeld;walk_nrm;refine tk 8 ?_ rfl (fun _ _ _ h=>h) (y:=?_) (h:=?_);rotate_left
      ·intro wS hSw; go_simp<;>with_reducible rfl
      walk_nrm;refine tk 9 ?_ rfl (fun _ _ _ h=>h) (y:=?_) (h:=?_);rotate_left
      ·intro wS hSw; go_simp<;>with_reducible rfl
      walk_nrm;refine tk 10 ?_ rfl (fun _ _ _ h=>h) (y:=?_) (h:=?_);rotate_left
      ·intro wS hSw; go_simp<;>with_reducible rfl
      walk_nrm;refine tk 11 ?_ rfl (fun _ _ _ h=>h) (y:=?_) (h:=?_);rotate_left
      ·intro wS hSw; go_simp<;>with_reducible rfl
      walk_nrm;refine tk 12 ?_ rfl (fun _ _ _ h=>h) (y:=?_) (h:=?_);rotate_left
      ·intro wS hSw; go_simp<;>with_reducible rfl
      walk_nrm;clear wx;obtain ⟨wx, rfl⟩ := wld wn;refine wpAnyL_two 13 14 (by kernel_rfl) ?_ ?_
      ·refine ComesUp.mk rfl (fun K hK => ?_)
       go_simp;obtain ⟨wn, hwn⟩ : ∃ wn, wn = wx.alloc (.cells #[.int .i64 0, .int .i64 0, .slice none 0 0] 26) := ⟨_, rfl⟩;obtain ⟨bF, hbF⟩ : ∃ b, b = wx.heap.size := ⟨_, rfl⟩;rw [← hwn, ← hbF];have hbn := below_new hwn;replace HX1 : Hid (Bx W1.heap.size (some bF) (.cells #[.int .i64 0, .int .i64 0, .slice none 0 0] 26 (0, 0)) wn) := by rw [hbF]; exact Bx.new hwn hHeld.size
       replace HX2 := hid (HX2.out.below hbn);replace HX3 := hid (HX3.out.below hbn);replace HPX := hid (HPX.out.below hbn);have S5 := hHeld.trans (hbn.mono hHeld.size);refine hK.out _ _ S5 ?_;clear hK K hHeld S5 hbn hwn hbF;intro hHeld;walk_nrm;clear wx;obtain ⟨wx, rfl⟩ := wld wn;refine wpAnyL_one 14 (by kernel_rfl) ?_
       ·refine ComesUp.mk rfl (fun K hK => ?_)
        go_simp;obtain ⟨wn, hwn⟩ : ∃ wn, wn = wx.alloc (.cells #[.int .i64 0, .int .i64 0] 81) := ⟨_, rfl⟩;obtain ⟨bP, hbP⟩ : ∃ b, b = wx.heap.size := ⟨_, rfl⟩;rw [← hwn, ← hbP];have hbn := below_new hwn;replace HX2 : Hid (Bx W1.heap.size (some bP) (.cells #[.int .i64 0, .int .i64 0] 81 (0, 0)) wn) := by rw [hbP]; exact Bx.new hwn hHeld.size
        replace HX1 := hid (HX1.out.below hbn);replace HX3 := hid (HX3.out.below hbn);replace HPX := hid (HPX.out.below hbn);have S5 := hHeld.trans (hbn.mono hHeld.size);refine hK.out _ _ S5 ?_;clear hK K hHeld S5 hbn hwn hbP;intro hHeld;walk_nrm;clear wx;obtain ⟨wx, rfl⟩ := wld wn;revert hHeld; revert HPX; revert HX3; revert HX2; revert HX1; revert vs5; revert vc5; revert va5; revert bN; revert bP; revert bF; revert wx;exact key
      ·refine ComesUp.mk rfl (fun K hK => ?_)
       go_simp;obtain ⟨wn, hwn⟩ : ∃ wn, wn = wx.alloc (.cells #[.int .i64 0, .int .i64 0] 81) := ⟨_, rfl⟩;obtain ⟨bP, hbP⟩ : ∃ b, b = wx.heap.size := ⟨_, rfl⟩;rw [← hwn, ← hbP];have hbn := below_new hwn;replace HX2 : Hid (Bx W1.heap.size (some bP) (.cells #[.int .i64 0, .int .i64 0] 81 (0, 0)) wn) := by rw [hbP]; exact Bx.new hwn hHeld.size
       replace HX1 := hid (HX1.out.below hbn);replace HX3 := hid (HX3.out.below hbn);replace HPX := hid (HPX.out.below hbn);have S5 := hHeld.trans (hbn.mono hHeld.size);refine hK.out _ _ S5 ?_;clear hK K hHeld S5 hbn hwn hbP;intro hHeld;walk_nrm;clear wx;obtain ⟨wx, rfl⟩ := wld wn;refine wpAnyL_one 13 (by kernel_rfl) ?_
       ·refine ComesUp.mk rfl (fun K hK => ?_)
        go_simp;obtain ⟨wn, hwn⟩ : ∃ wn, wn = wx.alloc (.cells #[.int .i64 0, .int .i64 0, .slice none 0 0] 26) := ⟨_, rfl⟩;obtain ⟨bF, hbF⟩ : ∃ b, b = wx.heap.size := ⟨_, rfl⟩;rw [← hwn, ← hbF];have hbn := below_new hwn;replace HX1 : Hid (Bx W1.heap.size (some bF) (.cells #[.int .i64 0, .int .i64 0, .slice none 0 0] 26 (0, 0)) wn) := by rw [hbF]; exact Bx.new hwn hHeld.size
        replace HX2 := hid (HX2.out.below hbn);replace HX3 := hid (HX3.out.below hbn);replace HPX := hid (HPX.out.below hbn);have S5 := hHeld.trans (hbn.mono hHeld.size);refine hK.out _ _ S5 ?_;clear hK K hHeld S5 hbn hwn hbF;intro hHeld;walk_nrm;clear wx;obtain ⟨wx, rfl⟩ := wld wn;revert hHeld; revert HPX; revert HX3; revert HX2; revert HX1; revert vs5; revert vc5; revert va5; revert bN; revert bP; revert bF; revert wx;exact key
     ·refine ComesUp.mk rfl (fun K hK => ?_)
      go_simp;obtain ⟨wn, hwn⟩ : ∃ wn, wn = wx.alloc (.cells #[.int .i64 0, .int .i64 0, .slice none 0 0] 26) := ⟨_, rfl⟩;obtain ⟨bF, hbF⟩ : ∃ b, b = wx.heap.size := ⟨_, rfl⟩;rw [← hwn, ← hbF];have hbn := below_new hwn;replace HX1 : Hid (Bx W1.heap.size (some bF) (.cells #[.int .i64 0, .int .i64 0, .slice none 0 0] 26 (0, 0)) wn) := by rw [hbF]; exact Bx.new hwn hHeld.size
      replace HX2 := hid (HX2.out.below hbn);replace HX3 := hid (HX3.out.below hbn);replace HPX := hid (HPX.out.below hbn);have S5 := hHeld.trans (hbn.mono hHeld.size);refine hK.out _ _ S5 ?_;clear hK K hHeld S5 hbn hwn hbF;intro hHeld;walk_nrm;clear wx;obtain ⟨wx, rfl⟩ := wld wn;refine wpAnyL_two 7 14 (by kernel_rfl) ?_ ?_
      ·refine ComesUp.mk rfl (fun K hK => ?_)
       go_simp;refine (flash_Append s.flash x.value fa fc _ ?_).mono ?_
       ·exact HP1.out.keep (Below.keeps hHeld) (PageR.keep (Below.keeps hHeld))
       rintro e wn ⟨v, vs5, rfl, hpo, hbn⟩;rw [HRR.out] at hpo ⊢;obtain ⟨va5, vc5, rfl⟩ := own_slice hpo.row;simp only [AppV];replace HPX : Hid (Px W1.heap.size (some (.slice va5 ps.length vc5, ps, vs5)) wn) := fun x e => by cases e; exact hpo.base hHeld.size
       replace HX1 := hid (HX1.out.below hbn);replace HX2 := hid (HX2.out.below hbn);replace HX3 := hid (HX3.out.below hbn);have S5 := hHeld.trans (hbn.mono hHeld.size);refine hK.out _ _ S5 ?_;clear hK K hHeld S5 hbn hpo;intro hHeld;walk_nrm;refine tk 8 ?_ rfl (fun _ _ _ h=>h) (y:=?_) (h:=?_);rotate_left
       ·intro wS hSw; go_simp<;>with_reducible rfl
       walk_nrm;refine tk 9 ?_ rfl (fun _ _ _ h=>h) (y:=?_) (h:=?_);rotate_left
       ·intro wS hSw; go_simp<;>with_reducible rfl
       walk_nrm;refine tk 10 ?_ rfl (fun _ _ _ h=>h) (y:=?_) (h:=?_);rotate_left
       ·intro wS hSw; go_simp<;>with_reducible rfl
       walk_nrm;refine tk 11 ?_ rfl (fun _ _ _ h=>h) (y:=?_) (h:=?_);rotate_left
       ·intro wS hSw; go_simp<;>with_reducible rfl
       walk_nrm;refine tk 12 ?_ rfl (fun _ _ _ h=>h) (y:=?_) (h:=?_);rotate_left
       ·intro wS hSw; go_simp<;>with_reducible rfl
       walk_nrm;clear wx;obtain ⟨wx, rfl⟩ := wld wn;refine wpAnyL_one 14 (by kernel_rfl) ?_
       ·refine ComesUp.mk rfl (fun K hK => ?_)
        go_simp;obtain ⟨wn, hwn⟩ : ∃ wn, wn = wx.alloc (.cells #[.int .i64 0, .int .i64 0] 81) := ⟨_, rfl⟩;obtain ⟨bP, hbP⟩ : ∃ b, b = wx.heap.size := ⟨_, rfl⟩;rw [← hwn, ← hbP];have hbn := below_new hwn;replace HX2 : Hid (Bx W1.heap.size (some bP) (.cells #[.int .i64 0, .int .i64 0] 81 (0, 0)) wn) := by rw [hbP]; exact Bx.new hwn hHeld.size
        replace HX1 := hid (HX1.out.below hbn);replace HX3 := hid (HX3.out.below hbn);replace HPX := hid (HPX.out.below hbn);have S5 := hHeld.trans (hbn.mono hHeld.size);refine hK.out _ _ S5 ?_;clear hK K hHeld S5 hbn hwn hbP;intro hHeld;walk_nrm;clear wx;obtain ⟨wx, rfl⟩ := wld wn;revert hHeld; revert HPX; revert HX3; revert HX2; revert HX1; revert vs5; revert vc5; revert va5; revert bN; revert bP; revert bF; revert wx;exact key
      ·refine ComesUp.mk rfl (fun K hK => ?_)
       go_simp;obtain ⟨wn, hwn⟩ : ∃ wn, wn = wx.alloc (.cells #[.int .i64 0, .int .i64 0] 81) := ⟨_, rfl⟩;obtain ⟨bP, hbP⟩ : ∃ b, b = wx.heap.size := ⟨_, rfl⟩;rw [← hwn, ← hbP];have hbn := below_new hwn;replace HX2 : Hid (Bx W1.heap.size (some bP) (.cells #[.int .i64 0, .int .i64 0] 81 (0, 0)) wn) := by rw [hbP]; exact Bx.new hwn hHeld.size
       replace HX1 := hid (HX1.out.below hbn);replace HX3 := hid (HX3.out.below hbn);replace HPX := hid (HPX.out.below hbn);have S5 := hHeld.trans (hbn.mono hHeld.size);refine hK.out _ _ S5 ?_;clear hK K hHeld S5 hbn hwn hbP;intro hHeld;walk_nrm;clear wx;obtain ⟨wx, rfl⟩ := wld wn;refine wpAnyL_one 7 (by kernel_rfl) ?_
       ·refine ComesUp.mk rfl (fun K hK => ?_)
        go_simp;refine (flash_Append s.flash x.value fa fc _ ?_).mono ?_
        ·exact HP1.out.keep (Below.keeps hHeld) (PageR.keep (Below.keeps hHeld))
        rintro e wn ⟨v, vs5, rfl, hpo, hbn⟩;rw [HRR.out] at hpo ⊢;obtain ⟨va5, vc5, rfl⟩ := own_slice hpo.row;simp only [AppV];replace HPX : Hid (Px W1.heap.size (some (.slice va5 ps.length vc5, ps, vs5)) wn) := fun x e => by cases e; exact hpo.base hHeld.size
        replace HX1 := hid (HX1.out.below hbn);replace HX2 := hid (HX2.out.below hbn);replace HX3 := hid (HX3.out.below hbn);have S5 := hHeld.trans (hbn.mono hHeld.size);refine hK.out _ _ S5 ?_;clear hK K hHeld S5 hbn hpo;intro hHeld;walk_nrm;refine tk 8 ?_ rfl (fun _ _ _ h=>h) (y:=?_) (h:=?_);rotate_left
        ·intro wS hSw; go_simp<;>with_reducible rfl
        walk_nrm;refine tk 9 ?_ rfl (fun _ _ _ h=>h) (y:=?_) (h:=?_);rotate_left
        ·intro wS hSw; go_simp<;>with_reducible rfl
        walk_nrm;refine tk 10 ?_ rfl (fun _ _ _ h=>h) (y:=?_) (h:=?_);rotate_left
        ·intro wS hSw; go_simp<;>with_reducible rfl
        walk_nrm;refine tk 11 ?_ rfl (fun _ _ _ h=>h) (y:=?_) (h:=?_);rotate_left
        ·intro wS hSw; go_simp<;>with_reducible rfl
        walk_nrm;refine tk 12 ?_ rfl (fun _ _ _ h=>h) (y:=?_) (h:=?_);rotate_left
        ·intro wS hSw; go_simp<;>with_reducible rfl
        walk_nrm;clear wx;obtain ⟨wx, rfl⟩ := wld wn;revert hHeld; revert HPX; revert HX3; revert HX2; revert HX1; revert vs5; revert vc5; revert va5; revert bN; revert bP; revert bF; revert wx;exact key
     ·refine ComesUp.mk rfl (fun K hK => ?_)
      go_simp;obtain ⟨wn, hwn⟩ : ∃ wn, wn = wx.alloc (.cells #[.int .i64 0, .int .i64 0] 81) := ⟨_, rfl⟩;obtain ⟨bP, hbP⟩ : ∃ b, b = wx.heap.size := ⟨_, rfl⟩;rw [← hwn, ← hbP];have hbn := below_new hwn;replace HX2 : Hid (Bx W1.heap.size (some bP) (.cells #[.int .i64 0, .int .i64 0] 81 (0, 0)) wn) := by rw [hbP]; exact Bx.new hwn hHeld.size
      replace HX1 := hid (HX1.out.below hbn);replace HX3 := hid (HX3.out.below hbn);replace HPX := hid (HPX.out.below hbn);have S5 := hHeld.trans (hbn.mono hHeld.size);refine hK.out _ _ S5 ?_;clear hK K hHeld S5 hbn hwn hbP;intro hHeld;walk_nrm;clear wx;obtain ⟨wx, rfl⟩ := wld wn;refine wpAnyL_two 7 13 (by kernel_rfl) ?_ ?_
      ·refine ComesUp.mk rfl (fun K hK => ?_)
       go_simp;refine (flash_Append s.flash x.value fa fc _ ?_).mono ?_
       ·exact HP1.out.keep (Below.keeps hHeld) (PageR.keep (Below.keeps hHeld))
       rintro e wn ⟨v, vs5, rfl, hpo, hbn⟩;rw [HRR.out] at hpo ⊢;obtain ⟨va5, vc5, rfl⟩ := own_slice hpo.row;simp only [AppV];replace HPX : Hid (Px W1.heap.size (some (.slice va5 ps.length vc5, ps, vs5)) wn) := fun x e => by cases e; exact hpo.base hHeld.size
       replace HX1 := hid (HX1.out.below hbn);replace HX2 := hid (HX2.out.below hbn);replace HX3 := hid (HX3.out.below hbn);have S5 := hHeld.trans (hbn.mono hHeld.size);refine hK.out _ _ S5 ?_;clear hK K hHeld S5 hbn hpo;intro hHeld;walk_nrm;refine tk 8 ?_ rfl (fun _ _ _ h=>h) (y:=?_) (h:=?_);rotate_left
       ·intro wS hSw; go_simp<;>with_reducible rfl
       walk_nrm;refine tk 9 ?_ rfl (fun _ _ _ h=>h) (y:=?_) (h:=?_);rotate_left
       ·intro wS hSw; go_simp<;>with_reducible rfl
       walk_nrm;refine tk 10 ?_ rfl (fun _ _ _ h=>h) (y:=?_) (h:=?_);rotate_left
       ·intro wS hSw; go_simp<;>with_reducible rfl
       walk_nrm;refine tk 11 ?_ rfl (fun _ _ _ h=>h) (y:=?_) (h:=?_);rotate_left
       ·intro wS hSw; go_simp<;>with_reducible rfl
       walk_nrm;refine tk 12 ?_ rfl (fun _ _ _ h=>h) (y:=?_) (h:=?_);rotate_left
       ·intro wS hSw; go_simp<;>with_reducible rfl
       walk_nrm;clear wx;obtain ⟨wx, rfl⟩ := wld wn;refine wpAnyL_one 13 (by kernel_rfl) ?_
       ·refine ComesUp.mk rfl (fun K hK => ?_)
        go_simp;obtain ⟨wn, hwn⟩ : ∃ wn, wn = wx.alloc (.cells #[.int .i64 0, .int .i64 0, .slice none 0 0] 26) := ⟨_, rfl⟩;obtain ⟨bF, hbF⟩ : ∃ b, b = wx.heap.size := ⟨_, rfl⟩;rw [← hwn, ← hbF];have hbn := below_new hwn;replace HX1 : Hid (Bx W1.heap.size (some bF) (.cells #[.int .i64 0, .int .i64 0, .slice none 0 0] 26 (0, 0)) wn) := by rw [hbF]; exact Bx.new hwn hHeld.size
        replace HX2 := hid (HX2.out.below hbn);replace HX3 := hid (HX3.out.below hbn);replace HPX := hid (HPX.out.below hbn);have S5 := hHeld.trans (hbn.mono hHeld.size);refine hK.out _ _ S5 ?_;clear hK K hHeld S5 hbn hwn hbF;intro hHeld;walk_nrm;clear wx;obtain ⟨wx, rfl⟩ := wld wn;revert hHeld; revert HPX; revert HX3; revert HX2; revert HX1; revert vs5; revert vc5; revert va5; revert bN; revert bP; revert bF; revert wx;exact key
      ·refine ComesUp.mk rfl (fun K hK => ?_)
       go_simp;obtain ⟨wn, hwn⟩ : ∃ wn, wn = wx.alloc (.cells #[.int .i64 0, .int .i64 0, .slice none 0 0] 26) := ⟨_, rfl⟩;obtain ⟨bF, hbF⟩ : ∃ b, b = wx.heap.size := ⟨_, rfl⟩;rw [← hwn, ← hbF];have hbn := below_new hwn;replace HX1 : Hid (Bx W1.heap.size (some bF) (.cells #[.int .i64 0, .int .i64 0, .slice none 0 0] 26 (0, 0)) wn) := by rw [hbF]; exact Bx.new hwn hHeld.size
       replace HX2 := hid (HX2.out.below hbn);replace HX3 := hid (HX3.out.below hbn);replace HPX := hid (HPX.out.below hbn);have S5 := hHeld.trans (hbn.mono hHeld.size);refine hK.out _ _ S5 ?_;clear hK K hHeld S5 hbn hwn hbF;intro hHeld;walk_nrm;clear wx;obtain ⟨wx, rfl⟩ := wld wn;refine wpAnyL_one 7 (by kernel_rfl) ?_
       ·refine ComesUp.mk rfl (fun K hK => ?_)
        go_simp;refine (flash_Append s.flash x.value fa fc _ ?_).mono ?_
        ·exact HP1.out.keep (Below.keeps hHeld) (PageR.keep (Below.keeps hHeld))
        rintro e wn ⟨v, vs5, rfl, hpo, hbn⟩;rw [HRR.out] at hpo ⊢;obtain ⟨va5, vc5, rfl⟩ := own_slice hpo.row;simp only [AppV];replace HPX : Hid (Px W1.heap.size (some (.slice va5 ps.length vc5, ps, vs5)) wn) := fun x e => by cases e; exact hpo.base hHeld.size
        replace HX1 := hid (HX1.out.below hbn);replace HX2 := hid (HX2.out.below hbn);replace HX3 := hid (HX3.out.below hbn);have S5 := hHeld.trans (hbn.mono hHeld.size);refine hK.out _ _ S5 ?_;clear hK K hHeld S5 hbn hpo;intro hHeld;walk_nrm;refine tk 8 ?_ rfl (fun _ _ _ h=>h) (y:=?_) (h:=?_);rotate_left
        ·intro wS hSw; go_simp<;>with_reducible rfl
        walk_nrm;refine tk 9 ?_ rfl (fun _ _ _ h=>h) (y:=?_) (h:=?_);rotate_left
        ·intro wS hSw; go_simp<;>with_reducible rfl
        walk_nrm;refine tk 10 ?_ rfl (fun _ _ _ h=>h) (y:=?_) (h:=?_);rotate_left
        ·intro wS hSw; go_simp<;>with_reducible rfl
        walk_nrm;refine tk 11 ?_ rfl (fun _ _ _ h=>h) (y:=?_) (h:=?_);rotate_left
        ·intro wS hSw; go_simp<;>with_reducible rfl
        walk_nrm;refine tk 12 ?_ rfl (fun _ _ _ h=>h) (y:=?_) (h:=?_);rotate_left
        ·intro wS hSw; go_simp<;>with_reducible rfl
        walk_nrm;clear wx;obtain ⟨wx, rfl⟩ := wld wn;revert hHeld; revert HPX; revert HX3; revert HX2; revert HX1; revert vs5; revert vc5; revert va5; revert bN; revert bP; revert bF; revert wx;exact key
   ·intro wx bF bP bN va5 vc5 vs5 HX1 HX2 HX3 HPX hHeld
    obtain ⟨q1, r1⟩ := HX1.out _ rfl;obtain ⟨q2, r2⟩ := HX2.out _ rfl;obtain ⟨q3, r3⟩ := HX3.out _ rfl;have n12 : bF ≠ bP := blk_ne r1 r2 (by decide);have n13 : bF ≠ bN := blk_ne r1 r3 (by decide);have n23 : bP ≠ bN := blk_ne r2 r3 (by decide);have HFIN := hid (away_box (mo := mo) (nx := nx) (pp := pp) (po := po) (gone := gone) (er := er) q1 q2 q3 r1 r2 r3 (HPX.out _ rfl) hHeld);have e10 : wx.cell? ⟨bF, 0, none⟩ = some (.int .i64 0) := cor r1 rfl;have e11 : wx.cell? ⟨bF, 1, none⟩ = some (.int .i64 0) := cor r1 rfl;have e12 : wx.cell? ⟨bF, 2, none⟩ = some (.slice none 0 0) := cor r1 rfl;have e20 : wx.cell? ⟨bP, 0, none⟩ = some (.int .i64 0) := cor r2 rfl;have e21 : wx.cell? ⟨bP, 1, none⟩ = some (.int .i64 0) := cor r2 rfl;have e30 : wx.cell? ⟨bN, 0, none⟩ = some (.int .i64 0) := cor r3 rfl;have f1 : ∀ i, wx.frozen? ⟨bF, i, none⟩ = false := fun i => frozen_of_row wx _ _ _ _ r1
    have f2 : ∀ i, wx.frozen? ⟨bP, i, none⟩ = false := fun i => frozen_of_row wx _ _ _ _ r2
    have f3 : ∀ i, wx.frozen? ⟨bN, i, none⟩ = false := fun i => frozen_of_row wx _ _ _ _ r3
    clear r1 r2 r3 HX1 HX2 HX3 HPX;refine wpAnyL_one 16 (by kernel_rfl) ?_;refine ComesUp.mk rfl (fun K hK => ?_);go_simp;refine hK.out _ _ (((hHeld.setCell q1 _).setCell q1 _).setCell q1 _) ?_;clear hK K;intro _;walk_nrm;refine wpAnyL_one 17 (by kernel_rfl) ?_;refine ComesUp.mk rfl (fun K hK => ?_);go_simp;refine hK.out _ _ (((((hHeld.setCell q1 _).setCell q1 _).setCell q1 _).setCell q2 _).setCell q2 _) ?_;clear hK K;intro _;walk_nrm;refine wpAnyL_one 18 (by kernel_rfl) ?_;refine ComesUp.mk rfl (fun K hK => ?_);go_simp;refine hK.out _ _ ((((((hHeld.setCell q1 _).setCell q1 _).setCell q1 _).setCell q2 _).setCell q2 _).setCell q3 _) ?_;clear hK K;intro _;walk_nrm;refine wpAnyL_last rfl (by kernel_rfl) (fun K hK => ?_);go_simp;refine hK.out _ _ ?_;clear hK K;walk_nrm;refine wpAnyL_done (by kernel_rfl) ?_ _
    go_wp2_with fail
    go_meet;exact HFIN.out
  case rest =>
   obtain ⟨bF, bP, bN, va5, vc5, vs5, rfl, rfl, rfl, rfl, R1, R2, R3, HPG, HBC⟩ := hcut;have K3 := hid (K1.out.below HBC.out);have HPB := hid (HPG.out.base HS1.out);have HBW := hid ((HB1.out.mono H.out.base_le).trans (HBC.out.mono HS1.out));have HKW : Hid (ButK g (some ⟨gi, 0, none⟩) w wc) := (ButK.below HB1.out).trans (ButK.below HBC.out);have hgk3 := K3.out.lt;clear c0 c1 c2 c3 c4 c5 c6 c7 c8 c9 c10 c11 x5 HPG HBC HB1 HP HP1 hgk1 K1
   by_cases he : er = 0
   ·
    subst he;obtain ⟨W4, hW4⟩ : ∃ W4, W4 = ((wc.setCell ⟨g, 9, none⟩ (.int .i64 mo)).setCell ⟨g, 10, none⟩ (.int .i64 nx)).setCell ⟨g, 11, none⟩ (.slice va5 ps.length vc5) := ⟨_, rfl⟩;have K4 := hid (K3.out.flashed (mo := mo) (nx := nx) HPB.out);have nP : bP ≠ g := blk_ne R2.out K3.out.row (by decide);have nN : bN ≠ g := blk_ne R3.out K3.out.row (by decide);have R24 : Hid ((((wc.setCell ⟨g, 9, none⟩ (.int .i64 mo)).setCell ⟨g, 10, none⟩ (.int .i64 nx)).setCell ⟨g, 11, none⟩ (.slice va5 ps.length vc5)).heap[bP]? = some (.cells #[.int .i64 pp, .int .i64 po] 81 (0, 0))) := blk_off (blk_off (blk_off R2.out nP) nP) nP;have R34 : Hid ((((wc.setCell ⟨g, 9, none⟩ (.int .i64 mo)).setCell ⟨g, 10, none⟩ (.int .i64 nx)).setCell ⟨g, 11, none⟩ (.slice va5 ps.length vc5)).heap[bN]? = some (.cells #[.int .i64 gone] 3 (0, 0))) := blk_off (blk_off (blk_off R3.out nN) nN) nN;have HK4 : Hid (ButK g (some ⟨gi, 0, none⟩) w (((wc.setCell ⟨g, 9, none⟩ (.int .i64 mo)).setCell ⟨g, 10, none⟩ (.int .i64 nx)).setCell ⟨g, 11, none⟩ (.slice va5 ps.length vc5))) := HKW.out.trans ((ButK.set_g.trans ButK.set_g).trans ButK.set_g);have HB4 := hid (HBW.out.trans (((below_set wc (j := 9) (.int .i64 mo) K3.out.here).trans (below_set _ (j := 10) (.int .i64 nx) K3.out.here)).trans (below_set _ (j := 11) (.slice va5 ps.length vc5) K3.out.here)));obtain ⟨c0, c1, c2, c3, c4, c5, c6, c7, c8, c9, c10, c11⟩ := K3.out.cells;have cf := K3.out.free;have e0 : wc.cell? ⟨bF, 0, none⟩ = some (.int .i64 mo) := cor R1.out rfl;have e1 : wc.cell? ⟨bF, 1, none⟩ = some (.int .i64 nx) := cor R1.out rfl;have e2 : wc.cell? ⟨bF, 2, none⟩ = some (.slice va5 ps.length vc5) := cor R1.out rfl;go_upto_region 5 with (fail);rw [← hW4] at K4 R24 R34 HB4 HK4 ⊢;clear c0 c1 c2 c3 c4 c5 c6 c7 c8 c9 c10 c11 cf e0 e1 e2 hW4 nP nN R1 R2 R3 HPB HBW HKW K3 hgk3;have K5 := hid (K4.out.item_far i hi ⟨pp, po⟩);have HIB := hid (far_itemB (i := i) HS.out (v := bl x.value) (by rw [HRR.out]));rw [HRR.out] at HIB;have HGI := hid (row_type K4.out.own);have c8 := K4.out.cells.2.2.2.2.2.2.2.2.1;obtain ⟨d0, d1, d2, d3, d4, d5, d6, d7, d8⟩ := own_item K4.out.own HX.out;have df := own_free K4.out.own;have hgk4 := K4.out.lt
    have HK5 : Hid (KeptT (· ≠ 83) W4 ((((W4.setCell ⟨gi, i * 9 + 5, none⟩ (.string ByteArray.empty)).setCell ⟨gi, i * 9 + 6, none⟩ (.bool true)).setCell ⟨gi, i * 9 + 7, none⟩ (.int .i64 pp)).setCell ⟨gi, i * 9 + 8, none⟩ (.int .i64 po))) := fun k cs t fr hk ht => by
     obtain ⟨cs', hcs⟩ := HGI.out;have m1 : k ≠ gi := blk_ne hk hcs ht;exact blk_off (blk_off (blk_off (blk_off rfl m1) m1) m1) m1
    have HB5 := hid (HB4.out.trans ((((below_set W4 (j := i * 9 + 5) (.string ByteArray.empty) hbg).trans (below_set _ (j := i * 9 + 6) (.bool true) hbg)).trans (below_set _ (j := i * 9 + 7) (.int .i64 pp) hbg)).trans (below_set _ (j := i * 9 + 8) (.int .i64 po) hbg)));have hs1 : KeptT (· ≠ 83) W4 W4.drew := KeptT.below (Below.drew (Below.refl _ _));clear d0 d1 d2 d3 d4;refine wp_region_L (KeptT (· ≠ 83) W4) 27 28 (by kernel_rfl) (by kernel_rfl) hs1 (fun hHeld => ?_);refine tk 0 ?_ rfl (fun _ _ _ h=>h) (y:=?_) (h:=?_);rotate_left
    ·intro wS hSw; go_simp<;>with_reducible rfl
    walk_nrm;refine tk 1 ?_ rfl (fun _ _ _ h=>h) (y:=?_) (h:=?_);rotate_left
    ·intro wS hSw; go_simp<;>with_reducible rfl
    walk_nrm;refine tk 2 ?_ rfl (fun _ _ _ h=>h) (y:=?_) (h:=?_);rotate_left
    ·intro wS hSw; go_simp<;>with_reducible rfl
    walk_nrm;refine tk 3 ?_ rfl (fun _ _ _ h=>h) (y:=?_) (h:=?_);rotate_left
    ·intro wS hSw; go_simp<;>with_reducible rfl
    walk_nrm;refine tk 4 ?_ rfl (fun _ _ _ h=>h) (y:=?_) (h:=?_);rotate_left
    ·intro wS hSw; have q1 := KeptT.cell hSw K4.out.row (by decide) c8; go_simp<;>with_reducible rfl
    walk_nrm;refine tk 5 ?_ rfl (fun _ _ _ h=>h) (y:=?_) (h:=?_);rotate_left
    ·intro wS hSw; go_simp<;>with_reducible rfl
    walk_nrm;refine tk 6 ?_ rfl (fun _ _ _ h=>h) (y:=?_) (h:=?_);rotate_left
    ·intro wS hSw; go_simp<;>with_reducible rfl
    walk_nrm;refine tk 7 ?_ rfl (fun _ _ _ h=>h) (y:=?_) (h:=?_);rotate_left
    ·intro wS hSw; go_simp<;>with_reducible rfl
    walk_nrm;refine tk 8 ?_ rfl (fun _ _ _ h=>h) (y:=?_) (h:=?_);rotate_left
    ·intro wS hSw; go_simp<;>with_reducible rfl
    walk_nrm;refine tk 9 ?_ rfl (fun _ _ _ h=>h) (y:=?_) (h:=?_);rotate_left
    ·intro wS hSw; go_simp<;>with_reducible rfl
    walk_nrm;refine tk 10 ?_ rfl (fun _ _ _ h=>h) (y:=?_) (h:=?_);rotate_left
    ·intro wS hSw; have q1 := KeptT.cell hSw K4.out.row (by decide) c8; go_simp<;>with_reducible rfl
    walk_nrm;refine tk 11 ?_ rfl (fun _ _ _ h=>h) (y:=?_) (h:=?_);rotate_left
    ·intro wS hSw; go_simp<;>with_reducible rfl
    walk_nrm;refine tk 12 ?_ rfl (fun _ _ _ h=>h) (y:=?_) (h:=?_);rotate_left
    ·intro wS hSw; go_simp<;>with_reducible rfl
    walk_nrm;refine tk 13 ?_ rfl (fun _ _ _ h=>h) (y:=?_) (h:=?_);rotate_left
    ·intro wS hSw; go_simp<;>with_reducible rfl
    walk_nrm;refine tk 14 ?_ rfl (fun _ _ _ h=>h) (y:=?_) (h:=?_);rotate_left
    ·intro wS hSw; go_simp<;>with_reducible rfl
    walk_nrm;refine tk 15 ?_ rfl (fun _ _ _ h=>h) (y:=?_) (h:=?_);rotate_left
    ·intro wS hSw; go_simp<;>with_reducible rfl
    walk_nrm;refine tk 16 ?_ rfl (fun _ _ _ h=>h) (y:=?_) (h:=?_);rotate_left
    ·intro wS hSw; have q1 := KeptT.cell hSw K4.out.row (by decide) c8; go_simp<;>with_reducible rfl
    walk_nrm;refine tk 17 ?_ rfl (fun _ _ _ h=>h) (y:=?_) (h:=?_);rotate_left
    ·intro wS hSw; go_simp<;>with_reducible rfl
    walk_nrm;refine wpAnyL_take (i := 18) (v := _) rfl (by kernel_rfl) (fun _ _ _ h => h) (Or.inl ⟨by rfl, fun wS hSw => exec_load_row 81 _ rfl (bP) rfl _ _ _ _ ((hSw bP _ _ _ R24.out (by decide)).trans R24.out) Tryz.underlying81 rfl (by kernel_rfl)⟩) (by assumption) ?_;walk_nrm;refine tk 19 ?_ rfl (fun _ _ _ h=>h) (y:=?_) (h:=?_);rotate_left
    ·intro wS hSw; go_simp<;>with_reducible rfl
    walk_nrm;refine tk 20 ?_ rfl (fun _ _ _ h=>h) (y:=?_) (h:=?_);rotate_left
    ·intro wS hSw; go_simp<;>with_reducible rfl
    walk_nrm;refine wpAnyL_one 21 (by kernel_rfl) ?_;refine ComesUp.mk rfl (fun K hK => ?_);go_simp;refine hK.out _ _ (fun k cs t fr hk ht => ?_) ?_
    ·obtain ⟨cs', hcs⟩ := HGI.out
     exact blk_off (w := W4) rfl (blk_ne hk hcs ht)
    clear hK K hHeld;intro hHeld;walk_nrm;refine tk 22 ?_ rfl (fun _ _ _ h=>h) (y:=?_) (h:=?_);rotate_left
    ·intro wS hSw; go_simp<;>with_reducible rfl
    walk_nrm;refine tk 23 ?_ rfl (fun _ _ _ h=>h) (y:=?_) (h:=?_);rotate_left
    ·intro wS hSw; go_simp<;>with_reducible rfl
    walk_nrm;refine wpAnyL_one 24 (by kernel_rfl) ?_;refine ComesUp.mk rfl (fun K hK => ?_);go_simp;refine hK.out _ _ (fun k cs t fr hk ht => ?_) ?_
    ·obtain ⟨cs', hcs⟩ := HGI.out
     exact blk_off (w := W4.setCell ⟨gi, i * 9 + 5, none⟩ (.string ByteArray.empty)) (blk_off (w := W4) rfl (blk_ne hk hcs ht)) (blk_ne hk hcs ht)
    clear hK K hHeld;intro hHeld;walk_nrm;refine tk 25 ?_ rfl (fun _ _ _ h=>h) (y:=?_) (h:=?_);rotate_left
    ·intro wS hSw; go_simp<;>with_reducible rfl
    walk_nrm;refine tk 26 ?_ rfl (fun _ _ _ h=>h) (y:=?_) (h:=?_);rotate_left
    ·intro wS hSw; go_simp<;>with_reducible rfl
    walk_nrm;refine wpAnyL_last rfl (by kernel_rfl) (fun K hK => ?_);go_simp;refine hK.out _ _ ?_;clear hK K hHeld;walk_nrm;refine wpAnyL_done (by kernel_rfl) ?_ _;obtain ⟨L, hL⟩ : ∃ L, L = s.items.modify i (fun x => { x with value := ByteArray.empty, far := true, place := ⟨pp, po⟩ }) := ⟨_, rfl⟩;obtain ⟨W5, hW5⟩ : ∃ W5, W5 = ((((W4.setCell ⟨gi, i * 9 + 5, none⟩ (.string ⟨#[]⟩)).setCell ⟨gi, i * 9 + 6, none⟩ (.bool true)).setCell ⟨gi, i * 9 + 7, none⟩ (.int .i64 pp)).setCell ⟨gi, i * 9 + 7 + 1, none⟩ (.int .i64 po)).drew := ⟨_, rfl⟩;have K6 : Hid (KeepAt base g { s with flash := ⟨mo, nx, ps⟩, items := L } (some ⟨gi, 0, none⟩) vc va5 vc5 vs5 W5) := by rw [hL, hW5]; exact K5.out.below (Below.drew (Below.refl _ _))
    have HB6 : Hid (Below base w W5) := by rw [hW5]; exact HB5.out.drew
    have HK6 : Hid (ButK g (some ⟨gi, 0, none⟩) w W5) := by rw [hW5]; exact HK4.out.trans ((((ButK.set_i.trans ButK.set_i).trans ButK.set_i).trans ButK.set_i).trans (ButK.below (Below.drew (Below.refl _ _))))
    have R36 : Hid (W5.heap[bN]? = some (.cells #[.int .i64 gone] 3 (0, 0))) := by rw [hW5]; exact (HK5.out bN _ _ _ R34.out (by decide)).trans R34.out
    have HLI : Hid (∀ x ∈ L, ItemB x) := by rw [hL]; exact HIB.out
    have hLl : L.length ≤ 1000 := by rw [hL, List.length_modify]; exact hl
    have HFAR : Hid (away s i = { s with flash := ⟨mo, nx, ps⟩, items := if 0 < gone then L.filter (fun y => !onPage gone y) else L }) := by
     rw [hL]; exact away_far hi (by rw [HXI.out]; exact h24) (by rw [HXI.out]; exact HRR.out)
    rw [← hW5];clear hs1 hL hW5 c8 d5 d6 d7 d8 df hgk4 HK5 HB5 K5 HIB HGI R24 R34 HB4 HK4 K4;have c8 : W5.cell? ⟨g, 8, none⟩ = some (.slice (some ⟨gi, 0, none⟩) L.length vc) := K6.out.cells.2.2.2.2.2.2.2.2.1;have e3 : W5.cell? ⟨bN, 0, none⟩ = some (.int .i64 gone) := cor R36.out rfl;have hgk6 := K6.out.lt
    by_cases hg : 0 < gone
    ·have HFAR2 : Hid (away s i = { s with flash := ⟨mo, nx, ps⟩, items := L.filter (fun y => !onPage gone y) }) := by show _ = _; rw [HFAR.out, if_pos hg]
     clear HFAR
     go_wp2_with fail
     refine (delete_gone base gi vc bN gone L W5 ?_ HLI.out e3 ?_ hLl K6.out.base_le).mono ?_
     ·exact K6.out.own
     ·obtain ⟨cs, hcs⟩ := row_type K6.out.own
      exact blk_ne R36.out hcs (by decide)
     rintro e w6 hd;have he := hd.1;subst he;obtain ⟨cs6, hcs6⟩ := row_type K6.out.own;have hrow6 := (But.keptT hcs6 hd.2.2.1 g _ _ _ K6.out.row (by decide)).trans K6.out.row;have hfr6 : w6.frozen? ⟨g, 8, none⟩ = false := by unfold World.frozen?; rw [hrow6]; simp
     have hc6 : w6.cell? ⟨g, 8, none⟩ = some (.slice (some ⟨gi, 0, none⟩) L.length vc) := by unfold World.cell?; rw [hrow6]; rfl
     have HD := hid hd;clear hd hrow6 hcs6 e3 c8
     go_wp2_with fail
     go_end0
     obtain ⟨g1, g2⟩ := K6.out.filtered HD.out;refine ⟨rfl, ?_, HB6.out.trans g2, HK6.out.trans ((ButK.but HD.out.2.2.1).trans ButK.set_g)⟩;rw [HFAR2.out];exact ⟨_, _, _, _, g1⟩
    ·have HFAR2 : Hid (away s i = { s with flash := ⟨mo, nx, ps⟩, items := L }) := by show _ = _; rw [HFAR.out, if_neg hg]
     clear HFAR
     go_wp2_with fail
     go_end0
     refine ⟨rfl, ?_, HB6.out, HK6.out⟩;rw [HFAR2.out];exact ⟨_, _, _, _, K6.out⟩
   ·
    have HE : Hid (away s i = { s with items := s.items.eraseIdx i }) := away_err hi (by rw [HXI.out, HRR.out]; exact he);have he1 : (er == 0) = false := by simp [he]
    obtain ⟨c0, c1, c2, c3, c4, c5, c6, c7, c8, c9, c10, c11⟩ := K3.out.cells;clear he R1 R2 R3 HPB c0 c1 c2 c3 c4 c5 c6 c7 c9 c10 c11
    go_wp2_with fail
    refine (delete_item base gi vc s.items.length i (s.items.flatMap itemCells) _ _ _ rfl rfl ?_ hi (items_one _)).mono ?_
    ·exact K3.out.own
    rintro e w2 hd;have he := hd.1;subst he
    have hk2 : KeptT (· ≠ 83) wc w2 := by
     obtain ⟨cs, hcs⟩ := row_type K3.out.own;exact KeptT.grown hcs hd.2.2
    have hrow2 := (hk2 g _ _ _ K3.out.row (by decide)).trans K3.out.row;have hfr2 : w2.frozen? ⟨g, 8, none⟩ = false := by unfold World.frozen?; rw [hrow2]; simp
    have hc2 : w2.cell? ⟨g, 8, none⟩ = some (.slice (some ⟨gi, 0, none⟩) s.items.length vc) := by unfold World.cell?; rw [hrow2]; rfl
    have HD := hid hd;clear hd hk2 hrow2
    go_wp2_with fail
    go_end0
    obtain ⟨g1, g2⟩ := K3.out.deleted hi rfl HD.out;refine ⟨rfl, ?_, HBW.out.trans g2, HKW.out.trans ((ButK.but (But.grown HD.out.2.2)).trans ButK.set_g)⟩;rw [HE.out];exact ⟨_, _, _, _, g1⟩
 ·have HE : Hid (away s i = { s with items := s.items.eraseIdx i }) := away_short hi (by rw [HXI.out]; exact h24)
  go_enter Tryz.func137, Tryz.ntmps137
  go_wp2_with fail
  obtain ⟨W1, hW1⟩ : ∃ W1, W1 = w.alloc (.cells #[.string x.key, .int .i64 x.flags, .int .i64 x.till, .int .i64 x.cas, .int .i64 x.used, .string x.value, .bool x.far, .int .i64 x.place.page, .int .i64 x.place.off] 83) := ⟨_, rfl⟩;have hb1 : Below w.heap.size w W1 := by rw [hW1]; exact (Below.refl _ _).alloc (Nat.le_refl _) _
  rw [← hW1];have K1 := hid (H.out.below hb1);refine (delete_item base gi vc s.items.length i (s.items.flatMap itemCells) _ _ _ rfl rfl ?_ hi (items_one _)).mono ?_
  ·exact K1.out.own
  rintro e w2 hd;have he := hd.1;subst he
  have hk2 : KeptT (· ≠ 83) W1 w2 := by
   obtain ⟨cs, hcs⟩ := row_type K1.out.own;exact KeptT.grown hcs hd.2.2
  have hrow2 := (hk2 g _ _ _ K1.out.row (by decide)).trans K1.out.row;have hfr2 : w2.frozen? ⟨g, 8, none⟩ = false := by unfold World.frozen?; rw [hrow2]; simp
  have hc2 : w2.cell? ⟨g, 8, none⟩ = some (.slice (some ⟨gi, 0, none⟩) s.items.length vc) := by unfold World.cell?; rw [hrow2]; rfl
  have HD := hid hd;have HB1 := hid hb1;clear hd hk2 hrow2 hW1 c0 c1 c2 c3 c4 c5 c6 c7 c8 c9 c10 c11 d0 d1 d2 d3 d4 d5 d6 d7 d8 hb1
  go_wp2_with fail
  go_end0
  obtain ⟨g1, g2⟩ := K1.out.deleted hi rfl HD.out;refine ⟨rfl, ?_, (HB1.out.mono H.out.base_le).trans g2, (ButK.below HB1.out).trans ((ButK.but (But.grown HD.out.2.2)).trans ButK.set_g)⟩;rw [HE.out];exact ⟨_, _, _, _, g1⟩
end
end Go.Proofs.YtbeegfkfpkfccaaGreatDoor.D
