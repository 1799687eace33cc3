/-
 Contract: keeper.put: an item, instead of the one that there is. Condition: the table of chunks holds its four numbers.
-/
import Derived.Test.YtbeegfkfpkfccaaGreatDoorYCRoom
import Derived.Test.YtbeegfkfpkfccaaGreatDoorYReq
namespace Go.Proofs.YtbeegfkfpkfccaaGreatDoor.D
open Go.RowKit
theorem Chunks.below {B : Nat} {w w' : World} (h : Chunks w) (hB : 0 < B) (hb : Below B w w') : Chunks w' := fun i hi => (hb.cell (p := ⟨0, i, none⟩) hB).trans (h i hi)
theorem SOk.bumped {s : Store} (h : SOk s) (hc : s.cas < maxN) (hu : s.uses < maxN) : SOk { s with cas := s.cas + 1, uses := s.uses + 1 } := by
 have h1 := h.cas; have h2 := h.uses;refine ⟨h.clock, ⟨by show 0 ≤ s.cas + 1; omega, by show s.cas + 1 ≤ maxN; omega⟩, ⟨by show 0 ≤ s.uses + 1; omega, by show s.uses + 1 ≤ maxN; omega⟩, h.most, h.len, h.flash, h.h0, h.h1, h.h2, h.h3, fun x hx => ?_, h.rise, h.c0, h.c1, h.c2, h.c3, h.sum⟩;exact itemOK_up (h.items x hx) (by show s.cas ≤ s.cas + 1; omega) (by show s.uses ≤ s.uses + 1; omega) (fun _ => rfl)
section
variable {base g : Nat} {s : Store} {va : Option Addr} {vc : Nat} {fa : Option Addr} {fc : Nat} {vs : List Value}
def PutEnd (base g : Nat) (s : Store) (x : Item) (w : World) (E : Ending) (w' : World) : Prop :=
 E = .returned (.bool (put s x).2) ∧ Kept base g (put s x).1 w' ∧ Below base w w' ∧ KeptT Oth w w'
theorem ButK.keptT {w w' : World} (h : ButK g va w w') (k : KeepAt base g s va vc fa fc vs w) : KeptT Oth w w' := fun i cs t fr hi ht => by
 refine h.2 i (blt hi) (blk_ne hi k.row ht.1) (fun a ha => ?_);subst ha
 rcases k.own.2 with ⟨hv, _⟩ | ⟨gi, cap, cur, hv, _, hh, _⟩
 ·cases hv
 ·cases hv
  exact (blk_ne hi hh ht.2).symm
theorem But.set {B j : Nat} {w : World} {v : Value} : But B w (w.setCell ⟨B, j, none⟩ v) := ⟨by simp, fun k _ hn => Below.heap_setCell w ⟨B, j, none⟩ v k hn⟩
theorem KeepAt.off {w w' : World} {B : Nat} {cs : Array Value} (h : KeepAt base g s va vc fa fc vs w) (hb : But B w w') (hB : w.heap[B]? = some (.cells cs 83 (0, 0))) (hg : g ≠ B) (ha : ∀ a, va = some a → a.block ≠ B) : KeepAt base g s va vc fa fc vs w' := by
 have hk := But.keptT hB hb;refine ⟨(hb.2 g h.lt hg).trans h.row, ?_, h.pages.keptT hk (by decide) (by decide), h.here⟩;refine ⟨h.own.1, ?_⟩
 rcases h.own.2 with hn | ⟨gi, cap, cur, hv, h1, hh, rest⟩
 ·exact .inl hn
 ·refine .inr ⟨gi, cap, cur, hv, h1, ?_, rest⟩
  have hv' := hv;simp only [Value.slice.injEq] at hv';exact (hb.2 gi (blt hh) (ha _ hv'.1)).trans hh
theorem InsEnd.keptT {n : Nat} {ys : List Value} {w w' : World} {E : Ending} (h : InsEnd base n ys w E w') : KeptT (· ≠ 83) w w' := by
 obtain ⟨_, _, _, h, _⟩ := h;exact h
theorem room_is (w : World) (h : KeepAt base g s va vc fa fc vs w) (hs : SOk s) (hch : Chunks w) (c : Int) (hc : 0 ≤ c ∧ c ≤ 3) (t : Store) (b : Bool) (hr : Hid (room s c = (t, b))) :
  Calls Tryz.prog 126 #[.pointer (some ⟨g, 0, none⟩), .int .i64 c] w fun E w' => E = .returned (.bool b) ∧ (∃ vc' fa' fc' vs', KeepAt base g t va vc' fa' fc' vs' w') ∧ Below base w w' ∧ ButK g va w w' := by
 obtain ⟨q, rfl⟩ : ∃ q : Nat, c = q := ⟨c.toNat, by omega⟩;have := keeper_room w h hs hch q (by omega);unfold RoomEnd at this
 rwa [hr.out] at this
theorem put_full {s : Store} {x : Item} (h : (without s (bl x.key)).cas = maxN) : put s x = (without s (bl x.key), false) := by
 unfold put;simp only;rw [if_pos h]
theorem put_no {s t : Store} {x : Item} (h : ¬ (without s (bl x.key)).cas = maxN) (hr : room (without s (bl x.key)) x.cls = (t, false)) : put s x = (t, false) := by
 unfold put;simp only;rw [if_neg h, hr]; rfl
theorem put_yes {s t : Store} {x : Item} (h : ¬ (without s (bl x.key)).cas = maxN) (hr : room (without s (bl x.key)) x.cls = (t, true)) : put s x = (with1 t x, true) := by
 unfold put;simp only;rw [if_neg h, hr]; rfl
set_option maxHeartbeats 4000000 in
set_option maxRecDepth 100000 in
theorem keeper_put (w : World) (h : KeepAt base g s va vc fa fc vs w) (hs : SOk s) (hch : Chunks w) (hgb : 0 < base) (x : Item) (hx : MayPut x) (hu : s.uses < maxN) :
  Calls Tryz.prog 114 #[.pointer (some ⟨g, 0, none⟩), .agg #[.string x.key, .int .i64 x.flags, .int .i64 x.till, .int .i64 x.cas, .int .i64 x.used, .string x.value, .bool x.far, .int .i64 x.place.page, .int .i64 x.place.off]] w (PutEnd base g s x w) := by
 have H := hid h;have HS := hid hs;have HC := hid hch;have HX := hid hx;have HU := hid hu;have hbase := h.base_le;clear h hs hch hx hu
 go_enter Tryz.func114, Tryz.ntmps114
 go_wp2_with fail
 obtain ⟨W1, hW1⟩ : ∃ W1, W1 = w.alloc (.cells #[.string x.key, .int .i64 x.flags, .int .i64 x.till, .int .i64 x.cas, .int .i64 x.used, .string x.value, .bool x.far, .int .i64 x.place.page, .int .i64 x.place.off] 83) := ⟨_, rfl⟩;have HB1 := hid (below_new hW1);have R1 : Hid (W1.heap[w.heap.size]? = some (.cells (itemCells x).toArray 83 (0, 0))) := by show _ = _; rw [hW1]; exact blk_new w _
 rw [← hW1];clear hW1;obtain ⟨B, hB⟩ : ∃ B, B = w.heap.size := ⟨_, rfl⟩;rw [← hB] at R1 ⊢;have K1 := hid (H.out.below HB1.out);have HBW := hid (HB1.out.mono hbase);have HT1 : Hid (KeptT Oth w W1) := KeptT.below HB1.out;have hBb : base ≤ B := by rw [hB]; exact hbase
 have HNB : Hid (∀ a, va = some a → a.block ≠ B) := fun a e => by
  subst e
  rcases H.out.own.2 with ⟨hv, _⟩ | ⟨gi, cap, cur, hv, _, hh, _⟩
  ·cases hv
  ·cases hv
   have := (blt hh);show gi ≠ B; omega
 have hgB : g ≠ B := by have := H.out.lt; omega
 clear hB;refine (keeper_find W1 K1.out HS.out x.key).mono ?_;rintro e w2 ⟨rfl, hb2⟩;have K2 := hid (K1.out.below hb2);have HB2 := hid (HBW.out.trans (hb2.mono (by have := HBW.out.size; omega)));have R2 := hid (bkp hb2 R1.out);have HT2 : Hid (KeptT Oth w w2) := HT1.out.trans (KeptT.below hb2);clear hb2 R1 HB1 HBW K1 HT1
 go_upto_if 16 with (fail)
 go_cut [5, 6] (fun _ _ wx => ∃ vc', Hid (KeepAt base g (without s (bl x.key)) va vc' fa fc vs wx) ∧ Hid (Below base w wx) ∧ Hid (wx.heap[B]? = some (.cells (itemCells x).toArray 83 (0, 0))) ∧ Hid (KeptT Oth w wx))
 case first =>
  cases hh : hasKey s.items (bl x.key) with
  | false =>
   have HW : Hid (without s (bl x.key) = s) := by show _ = _; unfold without; rw [hh]; rfl
   clear hh
   go_wp2_with fail
   go_meet;exact ⟨vc, by rw [HW.out]; exact K2, HB2, R2, HT2⟩
  | true =>
   obtain ⟨hi, _⟩ := hasKey_iff.1 hh;obtain ⟨i, hii⟩ : ∃ i, i = findKey s.items (bl x.key) := ⟨_, rfl⟩;have HW : Hid (without s (bl x.key) = { s with items := s.items.eraseIdx i }) := by show _ = _; unfold without; rw [if_pos hh, hii]
   rw [← hii] at hi ⊢;clear hh hii;obtain ⟨gi, cap, hv, hbg, hgl, hnc, hcm, _⟩ := own_shape K2.out.own (by omega);simp only [Value.slice.injEq, true_and] at hv;obtain ⟨rfl, rfl⟩ := hv;have hcm := le_maxLen hcm;have hl := HS.out.len;have c8 := K2.out.cells.2.2.2.2.2.2.2.2.1;have hgk := K2.out.lt
   go_wp2_with fail
   refine (delete_item base gi vc s.items.length i (s.items.flatMap itemCells) _ _ _ rfl rfl ?_ hi (items_one _)).mono ?_
   ·exact K2.out.own
   rintro e w3 hd;have he := hd.1;subst he;obtain ⟨cs, hcs⟩ := row_type K2.out.own;have hbut := But.grown hd.2.2;have hrow3 := (But.keptT hcs hbut g _ _ _ K2.out.row (by decide)).trans K2.out.row;have hfr3 : w3.frozen? ⟨g, 8, none⟩ = false := by unfold World.frozen?; rw [hrow3]; simp
   have hc3 : w3.cell? ⟨g, 8, none⟩ = some (.slice (some ⟨gi, 0, none⟩) s.items.length vc) := by unfold World.cell?; rw [hrow3]; rfl
   have R3 := hid ((hbut.2 B (blt R2.out) (fun e => HNB.out _ rfl e.symm)).trans R2.out);have HT3 : Hid (KeptT Oth w w3) := HT2.out.trans ((But.keptT hcs hbut).mono (fun _ h => h.2));have HR3 := hid hrow3;have HD := hid hd;clear hd hbut hrow3 hcs c8
   go_wp2_with fail
   go_meet;obtain ⟨g1, g2⟩ := K2.out.deleted hi rfl HD.out;exact ⟨_, by rw [HW.out]; exact g1, HB2.out.trans g2, blk_off R3.out hgB.symm, HT3.out.trans ((KeptT.set HR3.out).mono (fun _ h => h.1))⟩
 case rest =>
  obtain ⟨vc3, K3, HB3, R3, HT3⟩ := hcut;clear K2 HB2 R2 H HT2;obtain ⟨o1, o2, o3, o4, o5⟩ := HS.out.without (bl x.key);obtain ⟨t, ht⟩ : ∃ t, t = without s (bl x.key) := ⟨_, rfl⟩;have HT := hid ht;rw [← ht] at K3 o1 o2 o3 o4 o5;have HOK := hid o1;have hut : t.uses < maxN := by rw [o4]; exact HU.out
  clear ht o1 o2 o3 o4 o5 HS HU;have HC3 := hid (HC.out.below hgb HB3.out);have hgk3 := K3.out.lt;have hBl3 := (blt R3.out)
  by_cases hm : t.cas = maxN
  ·
   have HP : Hid (put s x = (t, false)) := by show _ = _; rw [put_full (by rw [← HT.out]; exact hm), ← HT.out]
   have c1 := K3.out.cells.2.1;rw [hm] at c1;rw [show maxN = 1099511627776 from rfl] at c1;clear hm hut
   go_wp2_with fail
   go_ret;refine ⟨by rw [HP.out]; rfl, ?_, HB3.out, HT3.out⟩;rw [HP.out]; exact ⟨_, _, _, _, _, K3.out⟩
  ·
   have c1 := K3.out.cells.2.1;obtain ⟨n, hn⟩ : ∃ n, n = t.cas := ⟨_, rfl⟩;have hnc := HOK.out.cas;have hN : maxN = 1099511627776 := rfl;rw [← hn] at c1 hm hnc;have HN := hid hn;have hm2 : (n == 1099511627776) = false := by rw [beq_eq_false_iff_ne]; omega
   have hm3 : n < 1099511627776 := by omega
   have hn0 : 0 ≤ n := hnc.1;rw [hN] at hut;clear hn hm hnc hN;have b0 : wc.cell? ⟨B, 0, none⟩ = some (.string x.key) := cor R3.out rfl;have b1 : wc.cell? ⟨B, 1, none⟩ = some (.int .i64 x.flags) := cor R3.out rfl;have b2 : wc.cell? ⟨B, 2, none⟩ = some (.int .i64 x.till) := cor R3.out rfl;have b3 : wc.cell? ⟨B, 3, none⟩ = some (.int .i64 x.cas) := cor R3.out rfl;have b4 : wc.cell? ⟨B, 4, none⟩ = some (.int .i64 x.used) := cor R3.out rfl;have b5 : wc.cell? ⟨B, 5, none⟩ = some (.string x.value) := cor R3.out rfl;have b6 : wc.cell? ⟨B, 6, none⟩ = some (.bool x.far) := cor R3.out rfl;have b7 : wc.cell? ⟨B, 7, none⟩ = some (.int .i64 x.place.page) := cor R3.out rfl;have b8 : wc.cell? ⟨B, 8, none⟩ = some (.int .i64 x.place.off) := cor R3.out rfl
   go_wp2_with fail
   refine (store_class x _ HC3.out).mono ?_;rintro e w4 ⟨rfl, hb4⟩;have K4 := hid (K3.out.below hb4);have hbw3 := K3.out.base_le;have HB4 := hid (HB3.out.trans (hb4.mono hbw3));have R4 := hid ((hb4.block B hBl3).trans R3.out);have HC4 := hid (HC.out.below hgb HB4.out);have HT4 : Hid (KeptT Oth w w4) := HT3.out.trans (KeptT.below hb4);clear hb4 b0 b1 b2 b3 b4 b5 b6 b7 b8 c1 K3 HB3 R3 HC3 hgk3 hBl3 HT3;have hgk4 := K4.out.lt;have hBl4 := (blt R4.out);obtain ⟨⟨r, b⟩, hr⟩ : ∃ r, room t x.cls = r := ⟨_, rfl⟩;have HR := hid hr;have hcl := HX.out.cls;obtain ⟨o1, o2, o3, o4, o5, o6⟩ := HOK.out.room hcl;rw [hr] at o1 o2 o3 o4 o5 o6;simp only at o1 o2 o3 o4 o5 o6;have HRK := hid o1;have hrc : r.cas = n := o3.trans HN.out.symm;have hru : r.uses < 1099511627776 := by rw [o4]; exact hut
   have HRC := hid hrc;have HOL := hid (fun h => (o2 h).2);clear hr o1 o2 o3 o4 o5 o6 hrc;have hcls : x.cls = x.cls := rfl
   go_wp2_with fail
   refine (room_is w4 K4.out HOK.out HC4.out x.cls hcl r b HR).mono ?_;rintro e w5 ⟨rfl, ⟨vc5, fa5, fc5, vs5, hk5⟩, hb5, hbk5⟩;have K5 := hid hk5;have HB5 := hid (HB4.out.trans hb5);have HT5 : Hid (KeptT Oth w w5) := HT4.out.trans (hbk5.keptT K4.out);have R5 := hid ((hbk5.2 B hBl4 hgB.symm HNB.out).trans R4.out);clear hk5 hb5 hbk5 K4 HB4 R4 HC4 HT4 hgk4 hBl4 hcl hcls
   cases b
   ·
    have HP : Hid (put s x = (r, false)) := by show _ = _; rw [put_no (by rw [← HT.out, ← HN.out]; show ¬ n = 1099511627776; omega) (by rw [← HT.out]; exact HR.out)]
    go_wp2_with fail
    go_ret;refine ⟨by rw [HP.out]; rfl, ?_, HB5.out, HT5.out⟩;rw [HP.out]; exact ⟨_, _, _, _, _, K5.out⟩
   ·
    have HP : Hid (put s x = (with1 r x, true)) := by show _ = _; rw [put_yes (by rw [← HT.out, ← HN.out]; show ¬ n = 1099511627776; omega) (by rw [← HT.out]; exact HR.out)]
    have hrl : r.items.length < 1000 := HOL.out rfl;have hN : maxN = 1099511627776 := rfl;have HRB := hid (HRK.out.bumped (by rw [HRC.out, hN]; exact hm3) (by rw [hN]; exact hru));have hru0 := HRK.out.uses.1;obtain ⟨u, hu⟩ : ∃ u, u = r.uses := ⟨_, rfl⟩;have HRU := hid hu;have c1 : w5.cell? ⟨g, 1, none⟩ = some (.int .i64 n) := by rw [← HRC.out]; exact K5.out.cells.2.1
    have c2 : w5.cell? ⟨g, 2, none⟩ = some (.int .i64 u) := by rw [hu]; exact K5.out.cells.2.2.1
    rw [← hu] at hru hru0;have hf := K5.out.free;have hgk5 := K5.out.lt;have hBl5 := (blt R5.out)
    have K6 : Hid (KeepAt base g { r with cas := n + 1, uses := u + 1 } va vc5 fa5 fc5 vs5 ((w5.setCell ⟨g, 1, none⟩ (.int .i64 (n + 1))).setCell ⟨g, 2, none⟩ (.int .i64 (u + 1)))) :=
     (K5.out.put (s' := { r with cas := n + 1 }) 1 (.int .i64 (n + 1)) rfl rfl rfl).put (s' := { r with cas := n + 1, uses := u + 1 }) 2 (.int .i64 (u + 1)) rfl rfl rfl
    have HB6 := hid (HB5.out.trans ((below_set w5 (j := 1) (.int .i64 (n + 1)) K5.out.here).trans (below_set _ (j := 2) (.int .i64 (u + 1)) K5.out.here)));have R6 : Hid (((w5.setCell ⟨g, 1, none⟩ (.int .i64 (n + 1))).setCell ⟨g, 2, none⟩ (.int .i64 (u + 1))).heap[B]? = some (.cells (itemCells x).toArray 83 (0, 0))) := blk_off (blk_off R5.out hgB.symm) hgB.symm
    have HT6 : Hid (KeptT Oth w ((w5.setCell ⟨g, 1, none⟩ (.int .i64 (n + 1))).setCell ⟨g, 2, none⟩ (.int .i64 (u + 1)))) := HT5.out.trans (fun k cs t fr hk ht => by
     have m := blk_ne hk K5.out.row ht.1
     exact blk_off (blk_off rfl m) m)
    clear hu;go_upto_region 8 with (fail);obtain ⟨W6, hW6⟩ : ∃ W6, W6 = (w5.setCell ⟨g, 1, none⟩ (.int .i64 (n + 1))).setCell ⟨g, 2, none⟩ (.int .i64 (u + 1)) := ⟨_, rfl⟩;rw [← hW6] at K6 HB6 R6 HT6 ⊢;clear hW6 c1 c2 hf hgk5 hBl5 K5 HB5 R5 HT5;have c1 : W6.cell? ⟨g, 1, none⟩ = some (.int .i64 (n + 1)) := K6.out.cells.2.1;have c2 : W6.cell? ⟨g, 2, none⟩ = some (.int .i64 (u + 1)) := K6.out.cells.2.2.1;have b3 : W6.cell? ⟨B, 3, none⟩ = some (.int .i64 x.cas) := cor R6.out rfl;have b4 : W6.cell? ⟨B, 4, none⟩ = some (.int .i64 x.used) := cor R6.out rfl;have bf : ∀ i, W6.frozen? ⟨B, i, none⟩ = false := fun i => frozen_of_row W6 _ _ _ _ R6.out
    have hgk6 := K6.out.lt;have hBl6 := (blt R6.out)
    go_region
    go_upto_region 9 with (fail);obtain ⟨y, hy⟩ : ∃ y : Item, y = { x with cas := n + 1, used := u + 1 } := ⟨_, rfl⟩;have hyk : y.key = x.key := by rw [hy]
    have HY := hid hy;have HYK := hid hyk;obtain ⟨W7, hW7⟩ : ∃ W7, W7 = ((W6.setCell ⟨B, 3, none⟩ (.int .i64 (n + 1))).setCell ⟨B, 4, none⟩ (.int .i64 (u + 1))).drew := ⟨_, rfl⟩;have hbut : But B W6 W7 := by rw [hW7]; exact (But.set.trans But.set).trans (But.below (Below.drew (Below.refl _ _)))
    have K7 := hid (K6.out.off hbut R6.out hgB HNB.out);have HT7 : Hid (KeptT Oth w W7) := HT6.out.trans ((But.keptT R6.out hbut).mono (fun _ h => h.2));have HB7 : Hid (Below base w W7) := by rw [hW7]; exact (HB6.out.trans ((below_set W6 (j := 3) (.int .i64 (n + 1)) hBb).trans (below_set _ (j := 4) (.int .i64 (u + 1)) hBb))).drew
    have R7 : Hid (W7.heap[B]? = some (.cells (itemCells y).toArray 83 (0, 0))) := by
     rw [hW7, hy];have hr := R6.out;show (World.setCell _ _ _).heap[B]? = _
     simp [World.setCell, Array.getElem?_modify, hr, itemCells]
    have HRB2 : Hid (SOk { r with cas := n + 1, uses := u + 1 }) := by rw [HRU.out, ← HRC.out]; exact HRB.out
    rw [← hW7];clear hW7 hbut hy hyk c1 c2 b3 b4 bf hgk6 hBl6 K6 R6 HB6 HT6 HRB;have b0 : W7.cell? ⟨B, 0, none⟩ = some (.string x.key) := by rw [cell_of_row W7 _ _ _ _ _ R7.out, ← HYK.out]; rfl
    go_wp2_with fail
    refine (keeper_find W7 K7.out HRB2.out x.key).mono ?_;rintro e w8 ⟨rfl, hb8⟩;have K8 := hid (K7.out.below hb8);have HB8 := hid (HB7.out.trans (hb8.mono K7.out.base_le));have R8 := hid (bkp hb8 R7.out);have HT8 : Hid (KeptT Oth w w8) := HT7.out.trans (KeptT.below hb8);clear hb8 b0 K7 HB7 R7 HT7;go_upto_region 10 with (fail);obtain ⟨i, hii⟩ : ∃ i, i = findKey r.items (bl x.key) := ⟨_, rfl⟩;have hil : i ≤ r.items.length := by rw [hii]; exact findKey_le _ _
    have HII := hid hii;show Code.wp _ _ _ _ _;rw [← hii];clear hii;have c8 : w8.cell? ⟨g, 8, none⟩ = some (.slice va r.items.length vc5) := K8.out.cells.2.2.2.2.2.2.2.2.1;have b0 : w8.cell? ⟨B, 0, none⟩ = some (.string y.key) := cor R8.out rfl;have b1 : w8.cell? ⟨B, 1, none⟩ = some (.int .i64 y.flags) := cor R8.out rfl;have b2 : w8.cell? ⟨B, 2, none⟩ = some (.int .i64 y.till) := cor R8.out rfl;have b3 : w8.cell? ⟨B, 3, none⟩ = some (.int .i64 y.cas) := cor R8.out rfl;have b4 : w8.cell? ⟨B, 4, none⟩ = some (.int .i64 y.used) := cor R8.out rfl;have b5 : w8.cell? ⟨B, 5, none⟩ = some (.string y.value) := cor R8.out rfl;have b6 : w8.cell? ⟨B, 6, none⟩ = some (.bool y.far) := cor R8.out rfl;have b7 : w8.cell? ⟨B, 7, none⟩ = some (.int .i64 y.place.page) := cor R8.out rfl;have b8 : w8.cell? ⟨B, 8, none⟩ = some (.int .i64 y.place.off) := cor R8.out rfl;have hgk8 := K8.out.lt;have hBl8 := (blt R8.out);have HK9 : Hid (KeepAt base g { r with cas := n + 1, uses := u + 1 } va vc5 fa5 fc5 vs5 (w8.alloc (.cells (itemCells y).toArray 83)).drew) := K8.out.below (((Below.refl _ _).alloc (Nat.le_refl _) _).drew);have HVB : Hid ((w8.alloc (.cells (itemCells y).toArray 83)).drew.heap[w8.heap.size]? = some (.cells (itemCells y).toArray 83 (0, 0))) := blk_new w8 _
    have HNV : Hid (∀ a, va = some a → a.block ≠ w8.heap.size) := fun a e => by
     subst e
     rcases K8.out.own.2 with ⟨hv, _⟩ | ⟨gi, cap, cur, hv, _, hh, _⟩
     ·cases hv
     ·cases hv
      have := (blt hh);show gi ≠ _; omega
    have hrl2 : r.items.length ≤ 1000 := by omega
    have hbw8 : base ≤ (w8.alloc (.cells (itemCells y).toArray 83)).drew.heap.size := by have := K8.out.base_le; simp; omega
    go_region_law (go_simp; go_at_call 127; go_must (refine (slices_insert y i w8.heap.size HK9.out.own hil hrl2 HVB.out HNV.out hbw8).mono ?_); rintro e w9 hd; have hkt9 := hd.keptT; obtain ⟨va9, vc9, rfl, g1, g2, g3, g4⟩ := HK9.out.inserted (l := r.items.insertIdx i y) (by rw [List.length_insertIdx]; simp; omega) hd; have g0 := g2.trans HK9.out.row; have hc9 : w9.cell? ⟨g, 8, none⟩ = some (.slice va r.items.length vc5) := (cell_of_row w9 _ _ _ _ _ g0).trans rfl; have hf9 : w9.frozen? ⟨g, 8, none⟩ = false := frozen_of_row w9 _ _ _ _ g0; have HG3 := hid g3; have HG4 := hid g4; have HT9 : Hid (KeptT Oth w (w9.setCell ⟨g, 8, none⟩ (.slice va9 (r.items.length + 1) vc9))) := HT8.out.trans ((KeptT.below (((Below.refl _ _).alloc (Nat.le_refl _) _).drew)).trans ((hkt9.mono (fun _ h => h.2)).trans ((KeptT.set g0).mono (fun _ h => h.1)))); clear hkt9 hd g1 g2 g0 g3 g4 c8 b0 b1 b2 b3 b4 b5 b6 b7 b8)
    all_goals
     go_wp2_with fail
     go_ret
     have hw1 : with1 r x = { r with cas := n + 1, uses := u + 1, items := r.items.insertIdx i y } := by
      unfold with1;rw [HRC.out, ← HRU.out, ← HII.out, ← HY.out]
     refine ⟨by rw [HP.out]; rfl, ?_, HB8.out.trans (((Below.mono ((Below.refl _ _).alloc (Nat.le_refl _) _) K8.out.base_le).drew).trans HG4.out), HT9.out⟩;rw [HP.out, hw1];exact ⟨_, _, _, _, _, HG3.out⟩
end
def toldV (k : Int) : Value := .agg #[.int .i64 k, .int .i64 0, .slice none 0 0]
theorem KeptT.set_far {P : TypeId → Prop} {w w' : World} {B j : Nat} {v : Value} (h : KeptT P w w') (hB : w.heap.size ≤ B) : KeptT P w (w'.setCell ⟨B, j, none⟩ v) := fun k cs t fr hk hp =>
 (Below.heap_setCell w' ⟨B, j, none⟩ v k (by have := (blt hk); show k ≠ B; omega)).trans (h k cs t fr hk hp)
section
variable {base g : Nat} {s : Store} {va : Option Addr} {vc : Nat} {fa : Option Addr} {fc : Nat} {vs : List Value}
theorem Kept.set_far {w : World} {B j : Nat} {v : Value} {cs : Array Value} {T : TypeId} {fr : Nat × Nat} (h : Kept base g s w) (hB : w.heap[B]? = some (.cells cs T fr)) (h1 : T ≠ 74) (h2 : T ≠ 83) (h3 : T ≠ 98) (h4 : T ≠ 5) : Kept base g s (w.setCell ⟨B, j, none⟩ v) := by
 obtain ⟨va, vc, fa, fc, vs, h⟩ := h;have hk := KeptT.set (j := j) (v := v) hB;exact ⟨va, vc, fa, fc, vs, (hk g _ _ _ h.row h1.symm).trans h.row, owns_keptT h.own hk h2.symm, h.pages.keptT hk h3.symm h4.symm, h.here⟩
theorem reply_cells {w : World} {B T : Nat} {a b c : Value} (h : w.heap[B]? = some (.cells #[a, b, c] T (0, 0))) : w.cell? ⟨B, 0, none⟩ = some a ∧ w.cell? ⟨B, 1, none⟩ = some b ∧ w.cell? ⟨B, 2, none⟩ = some c :=
 ⟨cor h rfl, cor h rfl, cor h rfl⟩
theorem reply_far {w : World} {B j : Nat} {v : Value} (h : Kept base g s w ∧ ∃ cs : Array Value, w.heap[B]? = some (.cells cs 35 (0, 0))) : Kept base g s (w.setCell ⟨B, j, none⟩ v) ∧ ∃ cs : Array Value, (w.setCell ⟨B, j, none⟩ v).heap[B]? = some (.cells cs 35 (0, 0)) := by
 obtain ⟨hk, cs, hr⟩ := h;refine ⟨hk.set_far hr (by decide) (by decide) (by decide) (by decide), cs.setIfInBounds j v, ?_⟩;rw [setCell_eq_setRow w B j cs _ _ v hr];exact setRow_heap w B cs _ _ _ hr
def StoredEnd (base g : Nat) (s : Store) (x : Item) (w : World) (E : Ending) (w' : World) : Prop :=
 E = .returned (toldV (if (put s x).2 then 2 else 11)) ∧ Kept base g (put s x).1 w' ∧ Below base w w' ∧ KeptT Oth w w'
set_option maxHeartbeats 1000000 in
set_option maxRecDepth 100000 in
theorem keeper_stored (w : World) (h : KeepAt base g s va vc fa fc vs w) (hs : SOk s) (hch : Chunks w) (hgb : 0 < base) (x : Item) (hx : MayPut x) (hu : s.uses < maxN) :
  Calls Tryz.prog 116 #[.pointer (some ⟨g, 0, none⟩), .agg #[.string x.key, .int .i64 x.flags, .int .i64 x.till, .int .i64 x.cas, .int .i64 x.used, .string x.value, .bool x.far, .int .i64 x.place.page, .int .i64 x.place.off]] w (StoredEnd base g s x w) := by
 have H := hid h;have HC := hid hch;have hbase := h.base_le;clear h hch
 go_enter Tryz.func116, Tryz.ntmps116
 go_wp2_with fail
 obtain ⟨W2, hW2⟩ : ∃ W2, W2 = (w.alloc (.cells #[.string x.key, .int .i64 x.flags, .int .i64 x.till, .int .i64 x.cas, .int .i64 x.used, .string x.value, .bool x.far, .int .i64 x.place.page, .int .i64 x.place.off] 83)).alloc (.cells #[.int .i64 0, .int .i64 0, .slice none 0 0] 35) := ⟨_, rfl⟩;have HB2 : Hid (Below w.heap.size w W2) := by show Below _ _ _; rw [hW2]; go_grown
 have R2 : Hid (W2.heap[w.heap.size + 1]? = some (.cells #[.int .i64 0, .int .i64 0, .slice none 0 0] 35 (0, 0))) := by
  rw [hW2];have := blk_new (w.alloc (.cells #[.string x.key, .int .i64 x.flags, .int .i64 x.till, .int .i64 x.cas, .int .i64 x.used, .string x.value, .bool x.far, .int .i64 x.place.page, .int .i64 x.place.off] 83)) (.cells #[.int .i64 0, .int .i64 0, .slice none 0 0] 35)
  rwa [show (w.alloc (.cells #[.string x.key, .int .i64 x.flags, .int .i64 x.till, .int .i64 x.cas, .int .i64 x.used, .string x.value, .bool x.far, .int .i64 x.place.page, .int .i64 x.place.off] 83)).heap.size = w.heap.size + 1 by simp] at this
 rw [← hW2];clear hW2;obtain ⟨B, hB⟩ : ∃ B, B = w.heap.size + 1 := ⟨_, rfl⟩;have hBw : w.heap.size ≤ B := by omega
 rw [← hB] at R2 ⊢;clear hB;refine (keeper_put W2 (H.out.below HB2.out) hs (HC.out.keep (Below.keeps HB2.out)) hgb x hx hu).mono ?_;rintro e w3 ⟨rfl, hk3, hb3, ht3⟩;have R3 := hid ((ht3 _ _ _ _ R2.out ⟨by decide, by decide⟩).trans R2.out);have HK3 := hid hk3;have HB3 := hid ((HB2.out.mono hbase).trans hb3);have HT3 : Hid (KeptT Oth w w3) := (KeptT.below HB2.out).trans ht3;have e0 : w3.cell? ⟨B, 0, none⟩ = some (.int .i64 0) := cor R3.out rfl;have e1 : w3.cell? ⟨B, 1, none⟩ = some (.int .i64 0) := cor R3.out rfl;have e2 : w3.cell? ⟨B, 2, none⟩ = some (.slice none 0 0) := cor R3.out rfl;have ef : ∀ i, w3.frozen? ⟨B, i, none⟩ = false := fun i => frozen_of_row w3 _ _ _ _ R3.out
 have hBl := cell_lt e0
 have HFIN : Hid (∀ k : Int, k = (if (put s x).2 then 2 else 11) → StoredEnd base g s x w (.returned (toldV k)) (((w3.setCell ⟨B, 0, none⟩ (.int .i64 k)).setCell ⟨B, 1, none⟩ (.int .i64 0)).setCell ⟨B, 2, none⟩ (.slice none 0 0))) := fun k hk => by
  have g1 := HK3.out.set_far (j := 0) (v := .int .i64 k) R3.out (by decide) (by decide) (by decide) (by decide);refine ⟨by rw [hk], (reply_far (j := 2) (reply_far (j := 1) (reply_far (j := 0) ⟨HK3.out, _, R3.out⟩))).1, ?_, ?_⟩
  ·exact ((HB3.out.setCell (p := ⟨B, 0, none⟩) (by show base ≤ B; omega) _).setCell (p := ⟨B, 1, none⟩) (by show base ≤ B; omega) _).setCell (p := ⟨B, 2, none⟩) (by show base ≤ B; omega) _
  ·exact ((HT3.out.set_far hBw).set_far hBw).set_far hBw
 obtain ⟨b, hb⟩ : ∃ b, b = (put s x).2 := ⟨_, rfl⟩;rw [← hb] at HFIN ⊢;clear hb hk3 hb3 ht3
 cases b
 ·have hf := hid (HFIN.out 11 rfl)
  have hr := hid (blk_three (x := .int .i64 11) (y := .int .i64 0) (z := .slice none 0 0) R3.out);clear HFIN
  go_wp2_with fail
  refine bodyPost_ret (v := toldV 11) ?_ rfl hf.out;obtain ⟨q0, q1, q2⟩ := reply_cells hr.out
  simp [results, Tryz.results116, go_sem, q0, q1, q2, toldV]
 ·have hf := hid (HFIN.out 2 rfl)
  have hr := hid (blk_three (x := .int .i64 2) (y := .int .i64 0) (z := .slice none 0 0) R3.out);clear HFIN
  go_wp2_with fail
  refine bodyPost_ret (v := toldV 2) ?_ rfl hf.out;obtain ⟨q0, q1, q2⟩ := reply_cells hr.out
  simp [results, Tryz.results116, go_sem, q0, q1, q2, toldV]
end
end Go.Proofs.YtbeegfkfpkfccaaGreatDoor.D
