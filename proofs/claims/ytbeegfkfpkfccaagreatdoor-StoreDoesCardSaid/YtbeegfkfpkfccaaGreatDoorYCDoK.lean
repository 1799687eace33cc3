/-
 Contracts: keeper.do, keeper.result. Conditions: the variables hold what they are laid with.
-/
import Derived.Test.YtbeegfkfpkfccaaGreatDoorYCSet
namespace Go.Proofs.YtbeegfkfpkfccaaGreatDoor.D
open Go.RowKit
section
variable {base g : Nat} {s : Store} {va : Option Addr} {vc : Nat} {fa : Option Addr} {fc : Nat} {vs : List Value}
theorem hits_off {w w' : World} {a : Option Addr} {l : List Hit} {B T : Nat} {x y : Int} {p : Option Addr} {n c : Nat} {fr : Nat × Nat} (h : RowsAt w a 4 HitR l) (hb : But B w w') (hB : w.heap[B]? = some (.cells #[.int .i64 x, .int .i64 y, .slice p n c] T fr)) : RowsAt w' a 4 HitR l := by
 rcases h with h | ⟨b, o, ha, hc⟩
 ·exact .inl h
 ·refine .inr ⟨b, o, ha, fun i hi => ?_⟩
  obtain ⟨cs, hl, hR, h3⟩ := hc i hi;refine ⟨cs, hl, hR, fun j v hj => ?_⟩;have hcell := h3 j v hj;have h0 := h3 0 (.string l[i].key) (by rw [hR.1]; rfl)
  have hne : b ≠ B := fun e => by
   subst e;rw [cell_of_row w _ _ _ _ _ hB] at h0
   generalize o + i * 4 + 0 = k at h0
   match k, h0 with
   | 0, h0 => cases h0
   | 1, h0 => cases h0
   | 2, h0 => cases h0
   | k + 3, h0 => simp at h0
  exact (World.cell?_of_block (w := w) (hb.2 b (cell_lt hcell) hne)).trans hcell
theorem rep_pass {w W2 w3 : World} {B : Nat} {t : Store × Reply} {x y : Int} {p : Option Addr} {n c : Nat} {ha : Option Addr} {hc : Nat} (hh : RowsAt w3 ha 4 HitR t.2.hits) (hk : Kept base g t.1 w3) (hb3 : Below base W2 w3) (ht3 : KeptT Oth W2 w3)
  (hB2 : Below w.heap.size w W2) (hr : w3.heap[B]? = some (.cells #[.int .i64 x, .int .i64 y, .slice p n c] 35 (0, 0))) (hB : w.heap.size ≤ B) (hbase : base ≤ w.heap.size) :
  RepEnd base g t w (.returned (.agg #[.int .i64 t.2.kind, .int .i64 t.2.n, .slice ha t.2.hits.length hc])) (((w3.setCell ⟨B, 0, none⟩ (.int .i64 t.2.kind)).setCell ⟨B, 1, none⟩ (.int .i64 t.2.n)).setCell ⟨B, 2, none⟩ (.slice ha t.2.hits.length hc)) := by
 have hbut : But B w3 (((w3.setCell ⟨B, 0, none⟩ (.int .i64 t.2.kind)).setCell ⟨B, 1, none⟩ (.int .i64 t.2.n)).setCell ⟨B, 2, none⟩ (.slice ha t.2.hits.length hc)) := (But.set.trans But.set).trans But.set;have hT : KeptT Oth w w3 := (KeptT.below hB2).trans ht3;have hb : Below base w w3 := (hB2.mono hbase).trans hb3;refine ⟨ha, hc, rfl, hits_off hh hbut hr, (reply_far (j := 2) (reply_far (j := 1) (reply_far (j := 0) ⟨hk, _, hr⟩))).1, ?_, ((hT.set_far hB).set_far hB).set_far hB⟩;exact ((hb.setCell (p := ⟨B, 0, none⟩) (by show base ≤ B; omega) _).setCell (p := ⟨B, 1, none⟩) (by show base ≤ B; omega) _).setCell (p := ⟨B, 2, none⟩) (by show base ≤ B; omega) _
theorem flush_keep {w : World} (h : KeepAt base g s va vc fa fc vs w) : KeepAt base g { s with items := [], flash := { s.flash with pages := [] } } none 0 none 0 [] ((w.setCell ⟨g, 8, none⟩ (.slice none 0 0)).setCell ⟨g, 11, none⟩ (.slice none 0 0)) := by
 refine ⟨?_, World.ownsRow_nil _ _ _ _, pages_nil _ _, h.here⟩;have hr := h.row
 simp [World.setCell, Array.getElem?_modify, hr, storeV]
theorem gone_none {s : Store} {r : Req} (h : (live s (bl r.key)).2 = none) : goneReq s r = ((live s (bl r.key)).1, ⟨5, 0, []⟩) := by
 unfold goneReq; simp only; rw [h]; rfl
theorem gone_touch {s : Store} {r : Req} {i : Nat} (h : (live s (bl r.key)).2 = some i) (h1 : (live s (bl r.key)).1 = s) (hk : r.kind = 11) : goneReq s r = ({ asked s i with items := (asked s i).items.modify i (fun x => { x with till := untilOf (asked s i) r.exp }) }, ⟨8, 0, []⟩) := by
 unfold goneReq; simp only; rw [h, h1]; simp only; rw [if_pos hk]; rfl
theorem gone_delete {s : Store} {r : Req} {i : Nat} (h : (live s (bl r.key)).2 = some i) (h1 : (live s (bl r.key)).1 = s) (hk : ¬ r.kind = 11) : goneReq s r = ({ s with items := s.items.eraseIdx i }, ⟨6, 0, []⟩) := by
 unfold goneReq; simp only; rw [h, h1]; simp only; rw [if_neg hk]; rfl
theorem do_named {T U : Store × Reply} {s : Store} {r : Req} {f : Nat} {args : Array Value} {w : World} (hT : Hid (T = doReq s r)) (hD : Hid (doReq s r = U)) (h : Calls Tryz.prog f args w (RepEnd base g U w)) : Calls Tryz.prog f args w (RepEnd base g T w) := by
 rw [hT.out, hD.out]; exact h
set_option maxHeartbeats 8000000 in
set_option maxRecDepth 100000 in
theorem keeper_do (w : World) (h : KeepAt base g s va vc fa fc vs w) (hs : SOk s) (he : Env w) (hG : Globs base) (r : Req) (ka : Option Addr) (kc : Nat) (hr : ROk r) (hk : ∀ w', Below base w w' → RowsAt w' ka 1 strR r.keys) (hu : s.uses ≤ 1099511627766) :
  Calls Tryz.prog 56 #[.pointer (some ⟨g, 0, none⟩), .agg #[.int .i64 r.kind, .string r.key, .slice ka r.keys.length kc, .int .i64 r.flags, .int .i64 r.exp, .int .i64 r.n, .string r.value, .bool r.quiet]] w (RepEnd base g (doReq s r) w) := by
 have H := hid h;have HS := hid hs;have HE := hid he;have HG := hid hG;have HRO := hid hr;have HKY := hid hk;have hbase := h.base_le;have HU : Hid (s.uses < maxN) := by show s.uses < 1099511627776; omega
 have HU10 : Hid (s.uses + 10 ≤ maxN) := by show s.uses + 10 ≤ 1099511627776; omega
 have hkr := hr.kind;have hrn := hr.n;have hre := hr.exp;rw [show maxN = 1099511627776 from rfl] at hrn hre;clear h hs he hG hr hk
 go_enter Tryz.func56, Tryz.ntmps56
 go_upto_region 1 with (fail);obtain ⟨W2, hW2, hb2, hr3, hr4⟩ := two_boxes w r ka kc;rw [← hW2];obtain ⟨B3, hB3⟩ : ∃ B, B = w.heap.size := ⟨_, rfl⟩;obtain ⟨B4, hB4⟩ : ∃ B, B = w.heap.size + 1 := ⟨_, rfl⟩;rw [← hB4] at hr4;rw [← hB3] at hr3;rw [← hB4, ← hB3];have hB4w : w.heap.size ≤ B4 := by omega
 have R3 := hid hr3;have R4 := hid hr4;have HB2 := hid hb2;have K2 := hid (H.out.below hb2);have HE2 := hid (HE.out.on hb2);clear hW2 hB3 hB4 hr3 hr4 hb2 H;obtain ⟨u0, -, -, -, -, -, -, -⟩ := req_cells R3.out
 by_cases hk1 : r.kind = 1
 ·
  have k1 : (r.kind == 1) = true := by simp [hk1]
  have HKL : Hid (r.keys.length ≤ 10) := (HRO.out.keys hk1).1.2;have HK1 := hid hk1;clear hk1;have HD : Hid (doReq s r = ((got s r.keys).1, ⟨1, 0, (got s r.keys).2⟩)) := by show _ = _; unfold doReq; rw [if_pos HK1.out]
  obtain ⟨⟨ts, ⟨tk, tn, th⟩⟩, hT⟩ : ∃ T, T = doReq s r := ⟨_, rfl⟩;have HT := hid hT;clear hT
  go_wp2_with (refine wpList_load_row rfl 31 _ rfl B3 rfl _ _ _ _ R3.out Tryz.underlying31 rfl (by kernel_rfl) ?_)
  refine (do_named HT HD (keeper_get W2 K2.out HS.out r ka kc (fun w' hw' => HKY.out w' ((HB2.out.mono hbase).trans hw')) HKL.out HU10.out)).mono ?_;rintro e w3 ⟨ha, hc, rfl, hh, hk3, hb3, ht3⟩;have R43 := hid ((ht3 _ _ _ _ R4.out ⟨by decide, by decide⟩).trans R4.out);have hf0 := rep_pass (hc := hc) hh hk3 hb3 ht3 HB2.out R43.out hB4w hbase;have hrr0 := blk_three (x := .int .i64 tk) (y := .int .i64 tn) (z := .slice ha th.length hc) R43.out;obtain ⟨e0, e1, e2⟩ := reply_cells R43.out;have ef : ∀ i, w3.frozen? ⟨B4, i, none⟩ = false := fun i => frozen_of_row w3 _ _ _ _ R43.out
  simp only [replyCells] at hf0 ⊢;obtain ⟨m, hm⟩ : ∃ m, m = th.length := ⟨_, rfl⟩;rw [HT.out] at hf0;rw [← hm] at hf0 hrr0 ⊢;have hf := hid hf0;have hrr := hid hrr0;clear hm hh hk3 hb3 ht3 hf0 hrr0 u0
  go_wp2_with fail
  refine bodyPost_ret (v := .agg #[.int .i64 tk, .int .i64 tn, .slice ha m hc]) ?_ rfl hf.out;obtain ⟨q0, q1, q2⟩ := reply_cells hrr.out
  simp [results, Tryz.results56, go_sem, q0, q1, q2]
 have k1 : (r.kind == 1) = false := by simp [hk1]
 have HN1 := hid hk1;clear hk1
 by_cases hk9 : r.kind = 9 ∨ r.kind = 10
 ·
  have HK9 := hid hk9
  rcases hk9 with hk9 | hk9
  ·
   have k9 : (r.kind == 9) = true := by simp [hk9]
   clear hk9;have HD : Hid (doReq s r = countReq s r) := by show _ = _; unfold doReq; rw [if_neg HN1.out, if_pos HK9.out]
   obtain ⟨⟨ts, ⟨tk, tn, th⟩⟩, hT⟩ : ∃ T, T = doReq s r := ⟨_, rfl⟩;have HT := hid hT;clear hT
   go_wp2_with (refine wpList_load_row rfl 31 _ rfl B3 rfl _ _ _ _ R3.out Tryz.underlying31 rfl (by kernel_rfl) ?_)
   refine (do_named HT HD (keeper_count W2 K2.out HS.out HE2.out HG.out r ka kc hrn HU.out)).mono ?_;rintro e w3 ⟨ha, hc, rfl, hh, hk3, hb3, ht3⟩;have R43 := hid ((ht3 _ _ _ _ R4.out ⟨by decide, by decide⟩).trans R4.out);have hf0 := rep_pass (hc := hc) hh hk3 hb3 ht3 HB2.out R43.out hB4w hbase;have hrr0 := blk_three (x := .int .i64 tk) (y := .int .i64 tn) (z := .slice ha th.length hc) R43.out;obtain ⟨e0, e1, e2⟩ := reply_cells R43.out;have ef : ∀ i, w3.frozen? ⟨B4, i, none⟩ = false := fun i => frozen_of_row w3 _ _ _ _ R43.out
   simp only [replyCells] at hf0 ⊢;obtain ⟨m, hm⟩ : ∃ m, m = th.length := ⟨_, rfl⟩;rw [HT.out] at hf0;rw [← hm] at hf0 hrr0 ⊢;have hf := hid hf0;have hrr := hid hrr0;clear hm hh hk3 hb3 ht3 hf0 hrr0 u0
   go_wp2_with fail
   refine bodyPost_ret (v := .agg #[.int .i64 tk, .int .i64 tn, .slice ha m hc]) ?_ rfl hf.out;obtain ⟨q0, q1, q2⟩ := reply_cells hrr.out
   simp [results, Tryz.results56, go_sem, q0, q1, q2]
  ·
   have k9 : (r.kind == 9) = false := by simp [hk9]
   have k10 : (r.kind == 10) = true := by simp [hk9]
   clear hk9;have HD : Hid (doReq s r = countReq s r) := by show _ = _; unfold doReq; rw [if_neg HN1.out, if_pos HK9.out]
   obtain ⟨⟨ts, ⟨tk, tn, th⟩⟩, hT⟩ : ∃ T, T = doReq s r := ⟨_, rfl⟩;have HT := hid hT;clear hT
   go_wp2_with (refine wpList_load_row rfl 31 _ rfl B3 rfl _ _ _ _ R3.out Tryz.underlying31 rfl (by kernel_rfl) ?_)
   refine (do_named HT HD (keeper_count W2 K2.out HS.out HE2.out HG.out r ka kc hrn HU.out)).mono ?_;rintro e w3 ⟨ha, hc, rfl, hh, hk3, hb3, ht3⟩;have R43 := hid ((ht3 _ _ _ _ R4.out ⟨by decide, by decide⟩).trans R4.out);have hf0 := rep_pass (hc := hc) hh hk3 hb3 ht3 HB2.out R43.out hB4w hbase;have hrr0 := blk_three (x := .int .i64 tk) (y := .int .i64 tn) (z := .slice ha th.length hc) R43.out;obtain ⟨e0, e1, e2⟩ := reply_cells R43.out;have ef : ∀ i, w3.frozen? ⟨B4, i, none⟩ = false := fun i => frozen_of_row w3 _ _ _ _ R43.out
   simp only [replyCells] at hf0 ⊢;obtain ⟨m, hm⟩ : ∃ m, m = th.length := ⟨_, rfl⟩;rw [HT.out] at hf0;rw [← hm] at hf0 hrr0 ⊢;have hf := hid hf0;have hrr := hid hrr0;clear hm hh hk3 hb3 ht3 hf0 hrr0 u0
   go_wp2_with fail
   refine bodyPost_ret (v := .agg #[.int .i64 tk, .int .i64 tn, .slice ha m hc]) ?_ rfl hf.out;obtain ⟨q0, q1, q2⟩ := reply_cells hrr.out
   simp [results, Tryz.results56, go_sem, q0, q1, q2]
 have k9 : (r.kind == 9) = false := by rw [beq_eq_false_iff_ne]; exact fun h => hk9 (.inl h)
 have k10 : (r.kind == 10) = false := by rw [beq_eq_false_iff_ne]; exact fun h => hk9 (.inr h)
 have HN9 := hid hk9;clear hk9
 by_cases hk12 : r.kind = 12
 ·
  have k12 : (r.kind == 12) = true := by simp [hk12]
  have HK12 := hid hk12;clear hk12;have hgB4 : g ≠ B4 := by have := K2.out.row; have := R4.out; exact blk_ne K2.out.row R4.out (by decide)
  have c8 := K2.out.cells.2.2.2.2.2.2.2.2.1;have c11 := K2.out.cells.2.2.2.2.2.2.2.2.2.2.2;have cf := K2.out.free;have hgk := K2.out.lt;go_upto_region 9 with (fail);obtain ⟨W3, hW3⟩ : ∃ W3, W3 = (W2.setCell ⟨g, 8, none⟩ (.slice none 0 0)).setCell ⟨g, 11, none⟩ (.slice none 0 0) := ⟨_, rfl⟩;have K3 : Hid (KeepAt base g { s with items := [], flash := { s.flash with pages := [] } } none 0 none 0 [] W3) := by rw [hW3]; exact flush_keep K2.out
  have HB3 : Hid (Below base w W3) := by rw [hW3]; exact (HB2.out.mono hbase).trans ((below_set W2 (j := 8) (.slice none 0 0) K2.out.here).trans (below_set _ (j := 11) (.slice none 0 0) K2.out.here))
  have HT3 : Hid (KeptT Oth w W3) := by
   rw [hW3]
   exact (KeptT.below HB2.out).trans (fun k cs t fr hk ht => by
    have m := blk_ne hk K2.out.row ht.1
    exact blk_off (blk_off rfl m) m)
  have R43 : Hid (W3.heap[B4]? = some (.cells #[.int .i64 0, .int .i64 0, .slice none 0 0] 35 (0, 0))) := by rw [hW3]; exact blk_off (blk_off R4.out hgB4.symm) hgB4.symm
  rw [← hW3];clear hW3 c8 c11 cf hgk u0;have HQ : Hid (doReq s r = ({ s with items := [], flash := { s.flash with pages := [] } }, ⟨9, 0, []⟩)) := by show _ = _; unfold doReq; rw [if_neg HN1.out, if_neg HN9.out, if_pos HK12.out]; rfl
  have hf := hid (rep_end (t := doReq s r) (k := 9) (n := 0) (by rw [HQ.out]) (by rw [HQ.out]; exact ⟨_, _, _, _, _, K3.out⟩) R43.out HB3.out HT3.out hB4w hbase);have hrr := hid (blk_three (x := .int .i64 9) (y := .int .i64 0) (z := .slice none 0 0) R43.out);obtain ⟨e0, e1, e2⟩ := reply_cells R43.out;have ef : ∀ i, W3.frozen? ⟨B4, i, none⟩ = false := fun i => frozen_of_row W3 _ _ _ _ R43.out
  go_wp2_with fail
  refine bodyPost_ret (v := .agg #[.int .i64 9, .int .i64 0, .slice none 0 0]) ?_ rfl hf.out;obtain ⟨q0, q1, q2⟩ := reply_cells hrr.out
  simp [results, Tryz.results56, go_sem, q0, q1, q2]
 have k12 : (r.kind == 12) = false := by simp [hk12]
 have HN12 := hid hk12;clear hk12
 by_cases hk13 : r.kind = 13
 ·
  have k13 : (r.kind == 13) = true := by simp [hk13]
  have HK13 := hid hk13;clear hk13;have HBW := hid (HB2.out.mono hbase);have HTW : Hid (KeptT Oth w W2) := KeptT.below HB2.out;have HQ : Hid (doReq s r = (s, ⟨10, 0, []⟩)) := by show _ = _; unfold doReq; rw [if_neg HN1.out, if_neg HN9.out, if_neg HN12.out, if_pos HK13.out]; rfl
  have hf := hid (rep_end (t := doReq s r) (k := 10) (n := 0) (by rw [HQ.out]) (by rw [HQ.out]; exact ⟨_, _, _, _, _, K2.out⟩) R4.out HBW.out HTW.out hB4w hbase);have hrr := hid (blk_three (x := .int .i64 10) (y := .int .i64 0) (z := .slice none 0 0) R4.out);obtain ⟨e0, e1, e2⟩ := reply_cells R4.out;have ef : ∀ i, W2.frozen? ⟨B4, i, none⟩ = false := fun i => frozen_of_row W2 _ _ _ _ R4.out
  go_wp2_with fail
  refine bodyPost_ret (v := .agg #[.int .i64 10, .int .i64 0, .slice none 0 0]) ?_ rfl hf.out;obtain ⟨q0, q1, q2⟩ := reply_cells hrr.out
  simp [results, Tryz.results56, go_sem, q0, q1, q2]
 have k13 : (r.kind == 13) = false := by simp [hk13]
 have HN13 := hid hk13;clear hk13
 by_cases hk8 : r.kind = 8 ∨ r.kind = 11
 rotate_left
 ·
  have k8 : (r.kind == 8) = false := by rw [beq_eq_false_iff_ne]; exact fun h => hk8 (.inl h)
  have k11 : (r.kind == 11) = false := by rw [beq_eq_false_iff_ne]; exact fun h => hk8 (.inr h)
  have HN8 := hid hk8;have HK2 : Hid (2 ≤ r.kind) := by have := HN1.out; show _ ≤ _; omega
  have HK11 : Hid (r.kind ≤ 11) := by have := HN12.out; have := HN13.out; show _ ≤ _; omega
  clear hk8;have HD : Hid (doReq s r = setReq s r) := by show _ = _; unfold doReq; rw [if_neg HN1.out, if_neg HN9.out, if_neg HN12.out, if_neg HN13.out, if_neg HN8.out]
  obtain ⟨⟨ts, ⟨tk, tn, th⟩⟩, hT⟩ : ∃ T, T = doReq s r := ⟨_, rfl⟩;have HT := hid hT;clear hT
  go_wp2_with (refine wpList_load_row rfl 31 _ rfl B3 rfl _ _ _ _ R3.out Tryz.underlying31 rfl (by kernel_rfl) ?_)
  refine (do_named HT HD (keeper_set W2 K2.out HS.out HE2.out HG.out r ka kc HRO.out HK2.out HK11.out HU.out)).mono ?_;rintro e w3 ⟨ha, hc, rfl, hh, hk3, hb3, ht3⟩;have R43 := hid ((ht3 _ _ _ _ R4.out ⟨by decide, by decide⟩).trans R4.out);have hf0 := rep_pass (hc := hc) hh hk3 hb3 ht3 HB2.out R43.out hB4w hbase;have hrr0 := blk_three (x := .int .i64 tk) (y := .int .i64 tn) (z := .slice ha th.length hc) R43.out;obtain ⟨e0, e1, e2⟩ := reply_cells R43.out;have ef : ∀ i, w3.frozen? ⟨B4, i, none⟩ = false := fun i => frozen_of_row w3 _ _ _ _ R43.out
  simp only [replyCells] at hf0 ⊢;obtain ⟨m, hm⟩ : ∃ m, m = th.length := ⟨_, rfl⟩;rw [HT.out] at hf0;rw [← hm] at hf0 hrr0 ⊢;have hf := hid hf0;have hrr := hid hrr0;clear hm hh hk3 hb3 ht3 hf0 hrr0 u0
  go_wp2_with fail
  refine bodyPost_ret (v := .agg #[.int .i64 tk, .int .i64 tn, .slice ha m hc]) ?_ rfl hf.out;obtain ⟨q0, q1, q2⟩ := reply_cells hrr.out
  simp [results, Tryz.results56, go_sem, q0, q1, q2]
 have HDG : Hid (doReq s r = goneReq s r) := by show _ = _; unfold doReq; rw [if_neg HN1.out, if_neg HN9.out, if_neg HN12.out, if_neg HN13.out, if_pos hk8]
 obtain ⟨u0, u1, -, -, u4, -, -, -⟩ := req_cells R3.out
 rcases hk8 with hk8 | hk8
 ·
  have k8 : (r.kind == 8) = true := by simp [hk8]
  have k11 : (r.kind == 11) = false := by simp [hk8]
  have HK8 : Hid (¬ r.kind = 11) := by show ¬ _; omega
  clear hk8
  go_wp2_with fail
  refine (keeper_live W2 K2.out HS.out r.key).mono ?_;rintro e w3 ⟨rfl, hk3, hb3, ht3⟩;have R33 := hid ((ht3 _ _ _ _ R3.out ⟨by decide, by decide⟩).trans R3.out);have R43 := hid ((ht3 _ _ _ _ R4.out ⟨by decide, by decide⟩).trans R4.out);have HB3 := hid ((HB2.out.mono hbase).trans hb3);have HT3 : Hid (KeptT Oth w w3) := (KeptT.below HB2.out).trans ht3;have HK3 := hid hk3;obtain ⟨li, hli⟩ : ∃ li, li = (live s (bl r.key)).2 := ⟨_, rfl⟩;have HLI := hid hli.symm;rw [← hli];clear hli hk3 hb3 ht3 K2 HE2 R3 R4 HB2 u0 u1 u4
  cases li with
  | none =>
   simp only [idxOf];have HQ : Hid (doReq s r = ((live s (bl r.key)).1, ⟨5, 0, []⟩)) := by show _ = _; rw [HDG.out]; exact gone_none HLI.out
   have hf := hid (rep_end (t := doReq s r) (k := 5) (n := 0) (by rw [HQ.out]) (by rw [HQ.out]; exact HK3.out) R43.out HB3.out HT3.out hB4w hbase);have hrr := hid (blk_three (x := .int .i64 5) (y := .int .i64 0) (z := .slice none 0 0) R43.out);obtain ⟨e0, e1, e2⟩ := reply_cells R43.out;have ef : ∀ i, w3.frozen? ⟨B4, i, none⟩ = false := fun i => frozen_of_row w3 _ _ _ _ R43.out
   go_wp2_with fail
   refine bodyPost_ret (v := .agg #[.int .i64 5, .int .i64 0, .slice none 0 0]) ?_ rfl hf.out;obtain ⟨q0, q1, q2⟩ := reply_cells hrr.out
   simp [results, Tryz.results56, go_sem, q0, q1, q2]
  | some i =>
   obtain ⟨l1, -, hi, -⟩ := live_some HLI.out;have HL1 := hid l1;rw [l1] at HK3;obtain ⟨va3, vc3, fa3, fc3, vs3, hk3⟩ := HK3.out;have K3 := hid hk3;clear l1 hk3 HK3;simp only [idxOf];have hi0 : ¬ (i : Int) < 0 := by omega
   obtain ⟨gi, cap, hv, hbg, hgl, hnc, hcm, -⟩ := own_shape K3.out.own (by omega);simp only [Value.slice.injEq, true_and] at hv;obtain ⟨rfl, rfl⟩ := hv;have hcm := le_maxLen hcm;have hl := HS.out.len;have c8 := K3.out.cells.2.2.2.2.2.2.2.2.1;have hgk := K3.out.lt;obtain ⟨u0, -, -, -, -, -, -, -⟩ := req_cells R33.out
   go_wp2_with fail
   refine (delete_item base gi vc3 s.items.length i (s.items.flatMap itemCells) _ _ _ rfl rfl ?_ hi (items_one _)).mono ?_
   ·exact K3.out.own
   rintro e w4 hd;have he := hd.1;subst he;obtain ⟨cs, hcs⟩ := row_type K3.out.own;have hbut := But.grown hd.2.2;have hkt := But.keptT hcs hbut;have HR4 := hid ((hkt g _ _ _ K3.out.row (by decide)).trans K3.out.row);have R44 := hid ((hkt _ _ _ _ R43.out (by decide)).trans R43.out);have hfr4 : w4.frozen? ⟨g, 8, none⟩ = false := by unfold World.frozen?; rw [HR4.out]; simp
   have hc4 : w4.cell? ⟨g, 8, none⟩ = some (.slice (some ⟨gi, 0, none⟩) s.items.length vc3) := by unfold World.cell?; rw [HR4.out]; rfl
   obtain ⟨g1, g2⟩ := K3.out.deleted hi rfl hd;have K5 := hid g1;have HB5 := hid (HB3.out.trans g2);have HT5 : Hid (KeptT Oth w (w4.setCell ⟨g, 8, none⟩ (.slice (some ⟨gi, 0, none⟩) (s.items.length - 1) vc3))) := HT3.out.trans ((hkt.mono (fun _ h => h.2)).trans ((KeptT.set HR4.out).mono (fun _ h => h.1)));have R45 : Hid ((w4.setCell ⟨g, 8, none⟩ (.slice (some ⟨gi, 0, none⟩) (s.items.length - 1) vc3)).heap[B4]? = some (.cells #[.int .i64 0, .int .i64 0, .slice none 0 0] 35 (0, 0))) := blk_off R44.out (blk_ne R44.out HR4.out (by decide));have hgk4 : g < w4.heap.size := (blt HR4.out);clear hd g1 g2 hkt hbut hcs c8 hgk hgl hnc hl K3 HB3 HT3 R33 R43 R44 u0;go_upto_region 22 with (fail);obtain ⟨W5, hW5⟩ : ∃ W5, W5 = w4.setCell ⟨g, 8, none⟩ (.slice (some ⟨gi, 0, none⟩) (s.items.length - 1) vc3) := ⟨_, rfl⟩;rw [← hW5] at K5 HB5 HT5 R45 ⊢;clear hW5 hfr4 hc4 hgk4
   have HQ : Hid (doReq s r = ({ s with items := s.items.eraseIdx i }, ⟨6, 0, []⟩)) := by show _ = _; rw [HDG.out]; exact gone_delete HLI.out HL1.out HK8.out
   have hf := hid (rep_end (t := doReq s r) (k := 6) (n := 0) (by rw [HQ.out]) (by rw [HQ.out]; exact ⟨_, _, _, _, _, K5.out⟩) R45.out HB5.out HT5.out hB4w hbase);have hrr := hid (blk_three (x := .int .i64 6) (y := .int .i64 0) (z := .slice none 0 0) R45.out);obtain ⟨e0, e1, e2⟩ := reply_cells R45.out;have ef : ∀ i, W5.frozen? ⟨B4, i, none⟩ = false := fun i => frozen_of_row W5 _ _ _ _ R45.out
   go_wp2_with fail
   refine bodyPost_ret (v := .agg #[.int .i64 6, .int .i64 0, .slice none 0 0]) ?_ rfl hf.out;obtain ⟨q0, q1, q2⟩ := reply_cells hrr.out
   simp [results, Tryz.results56, go_sem, q0, q1, q2]
 ·
  have k8 : (r.kind == 8) = false := by simp [hk8]
  have k11 : (r.kind == 11) = true := by simp [hk8]
  have HK11 := hid hk8;clear hk8
  go_wp2_with fail
  refine (keeper_live W2 K2.out HS.out r.key).mono ?_;rintro e w3 ⟨rfl, hk3, hb3, ht3⟩;have R33 := hid ((ht3 _ _ _ _ R3.out ⟨by decide, by decide⟩).trans R3.out);have R43 := hid ((ht3 _ _ _ _ R4.out ⟨by decide, by decide⟩).trans R4.out);have HB3 := hid ((HB2.out.mono hbase).trans hb3);have HT3 : Hid (KeptT Oth w w3) := (KeptT.below HB2.out).trans ht3;have HK3 := hid hk3;obtain ⟨li, hli⟩ : ∃ li, li = (live s (bl r.key)).2 := ⟨_, rfl⟩;have HLI := hid hli.symm;rw [← hli];obtain ⟨u0, -, -, -, -, -, -, -⟩ := req_cells R33.out;clear hli hk3 hb3 ht3 K2 HE2 R3 R4 HB2 u1 u4
  cases li with
  | none =>
   simp only [idxOf];have HQ : Hid (doReq s r = ((live s (bl r.key)).1, ⟨5, 0, []⟩)) := by show _ = _; rw [HDG.out]; exact gone_none HLI.out
   have hf := hid (rep_end (t := doReq s r) (k := 5) (n := 0) (by rw [HQ.out]) (by rw [HQ.out]; exact HK3.out) R43.out HB3.out HT3.out hB4w hbase);have hrr := hid (blk_three (x := .int .i64 5) (y := .int .i64 0) (z := .slice none 0 0) R43.out);obtain ⟨e0, e1, e2⟩ := reply_cells R43.out;have ef : ∀ i, w3.frozen? ⟨B4, i, none⟩ = false := fun i => frozen_of_row w3 _ _ _ _ R43.out
   go_wp2_with fail
   refine bodyPost_ret (v := .agg #[.int .i64 5, .int .i64 0, .slice none 0 0]) ?_ rfl hf.out;obtain ⟨q0, q1, q2⟩ := reply_cells hrr.out
   simp [results, Tryz.results56, go_sem, q0, q1, q2]
  | some i =>
   obtain ⟨l1, -, hi, -⟩ := live_some HLI.out;have HL1 := hid l1;rw [l1] at HK3;obtain ⟨va3, vc3, fa3, fc3, vs3, hk3⟩ := HK3.out;have K3 := hid hk3;clear l1 hk3 HK3;simp only [idxOf];have hi0 : ¬ (i : Int) < 0 := by omega
   go_wp2_with fail
   refine (keeper_used w3 K3.out HS.out i hi HU.out).mono ?_;rintro e W4 ⟨rfl, hk4, hb4, ht4⟩;have K4 := hid hk4;have HB4 := hid (HB3.out.trans hb4);have HT4 : Hid (KeptT Oth w W4) := HT3.out.trans ht4;have R34 := hid ((ht4 _ _ _ _ R33.out ⟨by decide, by decide⟩).trans R33.out);have R44 := hid ((ht4 _ _ _ _ R43.out ⟨by decide, by decide⟩).trans R43.out);have HSA := hid (HS.out.asked i HU.out);have hil : i < (asked s i).items.length := by show i < (s.items.modify i _).length; simpa using hi
   obtain ⟨y, hy⟩ : ∃ y, y = (asked s i).items[i] := ⟨_, rfl⟩;have HYI : Hid ((asked s i).items[i]? = some y) := by show _ = _; rw [List.getElem?_eq_getElem hil, hy]
   obtain ⟨gi, cap, hv, hbg, hgl, hnc, hcm, -⟩ := own_shape K4.out.own (by omega);simp only [Value.slice.injEq, true_and] at hv;obtain ⟨rfl, rfl⟩ := hv;have hcm := le_maxLen hcm;have hl := HSA.out.len;obtain ⟨ut, hut⟩ : ∃ ut, ut = untilOf (asked s i) r.exp := ⟨_, rfl⟩;have HUT := hid hut.symm;have HIL := hid hil;have c8 := K4.out.cells.2.2.2.2.2.2.2.2.1;have hgk4 := K4.out.lt;obtain ⟨-, -, d2, -, -, -, -, -, -⟩ := own_item K4.out.own HYI.out;have df := own_free K4.out.own (i * 9 + 2);obtain ⟨-, -, -, -, u4, -, -, -⟩ := req_cells R34.out;obtain ⟨ln, hln⟩ : ∃ ln, ln = (asked s i).items.length := ⟨_, rfl⟩;rw [← hln] at c8 hil hl hnc;clear hy hut hln hk4 hb4 ht4 K3 HB3 HT3 R33 R43;go_upto_region 19 with (fail);refine wp_region_L (Below W4.heap.size W4) 12 13 (by kernel_rfl) (by kernel_rfl) (Below.refl _ _).drew (fun hHeld => ?_);refine tk 0 ?_ rfl (fun _ _ _ h=>h) (y:=?_) (h:=?_);rotate_left
   ·intro wS hSw; go_simp<;>with_reducible rfl
   walk_nrm;refine tk 1 ?_ rfl (fun _ _ _ h=>h) (y:=?_) (h:=?_);rotate_left
   ·intro wS hSw; go_simp<;>with_reducible rfl
   walk_nrm;refine tk 2 ?_ rfl (fun _ _ _ h=>h) (y:=?_) (h:=?_);rotate_left
   ·intro wS hSw; go_simp<;>with_reducible rfl
   walk_nrm;refine tk 3 ?_ rfl (fun _ _ _ h=>h) (y:=?_) (h:=?_);rotate_left
   ·intro wS hSw; go_simp<;>with_reducible rfl
   walk_nrm;refine tk 4 ?_ rfl (fun _ _ _ h=>h) (y:=?_) (h:=?_);rotate_left
   ·intro wS hSw; have q1 := Below.keeps hSw _ _ c8; go_simp<;>with_reducible rfl
   walk_nrm;refine tk 5 ?_ rfl (fun _ _ _ h=>h) (y:=?_) (h:=?_);rotate_left
   ·intro wS hSw; go_simp<;>with_reducible rfl
   walk_nrm;refine tk 6 ?_ rfl (fun _ _ _ h=>h) (y:=?_) (h:=?_);rotate_left
   ·intro wS hSw; go_simp<;>with_reducible rfl
   walk_nrm;refine tk 7 ?_ rfl (fun _ _ _ h=>h) (y:=?_) (h:=?_);rotate_left
   ·intro wS hSw; go_simp<;>with_reducible rfl
   walk_nrm;refine tk 8 ?_ rfl (fun _ _ _ h=>h) (y:=?_) (h:=?_);rotate_left
   ·intro wS hSw; have q1 := Below.keeps hSw _ _ u4; go_simp<;>with_reducible rfl
   walk_nrm;refine wpAnyL_one 9 (by kernel_rfl) ?_;refine ComesUp.mk rfl (fun K hK => ?_);go_simp;refine (until_is W4.drew (K4.out.below (Below.drew (Below.refl _ _))) HSA.out r.exp hre ut HUT).mono ?_;rintro e w5 ⟨rfl, hb5⟩;have hb5 : Below W4.heap.size W4 w5 := (Below.drew (Below.refl _ _)).trans hb5;show K _ w5;refine hK.out _ _ hb5 ?_;clear hK K hHeld;intro hHeld;walk_nrm;refine tk 10 ?_ rfl (fun _ _ _ h=>h) (y:=?_) (h:=?_);rotate_left
   ·intro wS hSw; go_simp<;>with_reducible rfl
   walk_nrm;refine tk 11 ?_ rfl (fun _ _ _ h=>h) (y:=?_) (h:=?_);rotate_left
   ·intro wS hSw; go_simp<;>with_reducible rfl
   walk_nrm;have q2 := Below.keeps hb5 _ _ d2;have qf := (hb5.frozen (p := ⟨gi, i * 9 + 2, none⟩) hgl).trans df;refine wpAnyL_last rfl (by kernel_rfl) (fun K hK => ?_);go_simp;refine hK.out _ _ ?_;clear hK K;walk_nrm;refine wpAnyL_done (by kernel_rfl) ?_ _;have K5 := K4.out.below hb5;have K6 := hid (K5.item_set i HIL.out 2 (by omega) (.int .i64 ut) (fun x => { x with till := ut }) rfl);have HB6 := hid (HB4.out.trans ((hb5.mono K4.out.base_le).trans (below_set w5 (j := i * 9 + 2) (.int .i64 ut) hbg)));obtain ⟨cs, hcs⟩ := row_type K5.own;have HT6 : Hid (KeptT Oth w (w5.setCell ⟨gi, i * 9 + 2, none⟩ (.int .i64 ut))) := HT4.out.trans ((KeptT.below hb5).trans ((KeptT.set hcs).mono (fun _ h => h.2)))
   have R46 : Hid ((w5.setCell ⟨gi, i * 9 + 2, none⟩ (.int .i64 ut)).heap[B4]? = some (.cells #[.int .i64 0, .int .i64 0, .slice none 0 0] 35 (0, 0))) := by
    have h5 := (hb5.block _ (blt R44.out)).trans R44.out;exact blk_off h5 (blk_ne h5 hcs (by decide))
   obtain ⟨W6, hW6⟩ : ∃ W6, W6 = w5.setCell ⟨gi, i * 9 + 2, none⟩ (.int .i64 ut) := ⟨_, rfl⟩;rw [← hW6] at K6 HB6 HT6 R46 ⊢;clear hW6 q2 qf hb5 hHeld hcs K5 c8 d2 df u4 hgk4 hgl hnc hil hl K4 HB4 HT4 R34 R44
   have HQ : Hid (doReq s r = ({ asked s i with items := (asked s i).items.modify i (fun x => { x with till := ut }) }, ⟨8, 0, []⟩)) := by show _ = _; rw [HDG.out, gone_touch HLI.out HL1.out HK11.out, HUT.out]
   have hf := hid (rep_end (t := doReq s r) (k := 8) (n := 0) (by rw [HQ.out]) (by rw [HQ.out]; exact ⟨_, _, _, _, _, K6.out⟩) R46.out HB6.out HT6.out hB4w hbase);have hrr := hid (blk_three (x := .int .i64 8) (y := .int .i64 0) (z := .slice none 0 0) R46.out);obtain ⟨e0, e1, e2⟩ := reply_cells R46.out;have ef : ∀ i, W6.frozen? ⟨B4, i, none⟩ = false := fun i => frozen_of_row W6 _ _ _ _ R46.out
   go_wp2_with fail
   refine bodyPost_ret (v := .agg #[.int .i64 8, .int .i64 0, .slice none 0 0]) ?_ rfl hf.out;obtain ⟨q0, q1, q2⟩ := reply_cells hrr.out
   simp [results, Tryz.results56, go_sem, q0, q1, q2]
end
end Go.Proofs.YtbeegfkfpkfccaaGreatDoor.D
