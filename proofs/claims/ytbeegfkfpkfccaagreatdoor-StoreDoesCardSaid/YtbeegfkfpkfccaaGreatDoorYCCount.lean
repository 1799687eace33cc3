/-
 Contract: keeper.count: a number is counted up, or down. Conditions: the variables hold what they are laid with.
-/
import Derived.Test.YtbeegfkfpkfccaaGreatDoorYNum
namespace Go.Proofs.YtbeegfkfpkfccaaGreatDoor.D
open Go.RowKit
section
variable {base g : Nat} {s : Store} {va : Option Addr} {vc : Nat} {fa : Option Addr} {fc : Nat} {vs : List Value}
theorem two_boxes (w : World) (r : Req) (ka : Option Addr) (kc : Nat) :
  ∃ W2, W2 = (w.alloc (.cells #[.int .i64 r.kind, .string r.key, .slice ka r.keys.length kc, .int .i64 r.flags, .int .i64 r.exp, .int .i64 r.n, .string r.value, .bool r.quiet] 31)).alloc (.cells #[.int .i64 0, .int .i64 0, .slice none 0 0] 35) ∧
   Below w.heap.size w W2 ∧ W2.heap[w.heap.size]? = some (.cells #[.int .i64 r.kind, .string r.key, .slice ka r.keys.length kc, .int .i64 r.flags, .int .i64 r.exp, .int .i64 r.n, .string r.value, .bool r.quiet] 31 (0, 0)) ∧
   W2.heap[w.heap.size + 1]? = some (.cells #[.int .i64 0, .int .i64 0, .slice none 0 0] 35 (0, 0)) := by
 refine ⟨_, rfl, by go_grown, ?_, ?_⟩
 ·rw [Below.heap_alloc _ _ _ (by simp)]
  exact blk_new w _
 ·have := blk_new (w.alloc (.cells #[.int .i64 r.kind, .string r.key, .slice ka r.keys.length kc, .int .i64 r.flags, .int .i64 r.exp, .int .i64 r.n, .string r.value, .bool r.quiet] 31)) (.cells #[.int .i64 0, .int .i64 0, .slice none 0 0] 35)
  rwa [show (w.alloc (.cells #[.int .i64 r.kind, .string r.key, .slice ka r.keys.length kc, .int .i64 r.flags, .int .i64 r.exp, .int .i64 r.n, .string r.value, .bool r.quiet] 31)).heap.size = w.heap.size + 1 by simp] at this
theorem req_cells {w : World} {B : Nat} {r : Req} {ka : Option Addr} {n kc : Nat} (h : w.heap[B]? = some (.cells #[.int .i64 r.kind, .string r.key, .slice ka n kc, .int .i64 r.flags, .int .i64 r.exp, .int .i64 r.n, .string r.value, .bool r.quiet] 31 (0, 0))) :
  w.cell? ⟨B, 0, none⟩ = some (.int .i64 r.kind) ∧ w.cell? ⟨B, 1, none⟩ = some (.string r.key) ∧ w.cell? ⟨B, 2, none⟩ = some (.slice ka n kc) ∧ w.cell? ⟨B, 3, none⟩ = some (.int .i64 r.flags) ∧
  w.cell? ⟨B, 4, none⟩ = some (.int .i64 r.exp) ∧ w.cell? ⟨B, 5, none⟩ = some (.int .i64 r.n) ∧ w.cell? ⟨B, 6, none⟩ = some (.string r.value) ∧ w.cell? ⟨B, 7, none⟩ = some (.bool r.quiet) := by
 refine ⟨?_, ?_, ?_, ?_, ?_, ?_, ?_, ?_⟩ <;> (rw [cell_of_row w _ _ _ _ _ h]; rfl)
theorem rep_end {w w3 : World} {B : Nat} {cs : Array Value} {t : Store × Reply} {k n : Int} (ht : t.2 = ⟨k, n, []⟩) (hk : Kept base g t.1 w3) (hr : w3.heap[B]? = some (.cells cs 35 (0, 0))) (hb : Below base w w3) (hT : KeptT Oth w w3) (hB : w.heap.size ≤ B) (hbase : base ≤ w.heap.size) :
  RepEnd base g t w (.returned (.agg #[.int .i64 k, .int .i64 n, .slice none 0 0])) (((w3.setCell ⟨B, 0, none⟩ (.int .i64 k)).setCell ⟨B, 1, none⟩ (.int .i64 n)).setCell ⟨B, 2, none⟩ (.slice none 0 0)) := by
 refine ⟨none, 0, by rw [ht]; rfl, by rw [ht]; exact .inl rfl, (reply_far (j := 2) (reply_far (j := 1) (reply_far (j := 0) ⟨hk, _, hr⟩))).1, ?_, ((hT.set_far hB).set_far hB).set_far hB⟩;exact ((hb.setCell (p := ⟨B, 0, none⟩) (by show base ≤ B; omega) _).setCell (p := ⟨B, 1, none⟩) (by show base ≤ B; omega) _).setCell (p := ⟨B, 2, none⟩) (by show base ≤ B; omega) _
theorem count_none {s : Store} {r : Req} (h : (live s (bl r.key)).2 = none) : countReq s r = ((live s (bl r.key)).1, ⟨5, 0, []⟩) := by
 unfold countReq; simp only; rw [h]; rfl
theorem count_bad {s : Store} {r : Req} {i : Nat} (h : (live s (bl r.key)).2 = some i) (h1 : (live s (bl r.key)).1 = s) (hi : i < s.items.length) (hn : numOf (valueOf s s.items[i]) < 0) : countReq s r = (s, ⟨12, 0, []⟩) := by
 unfold countReq; simp only; rw [h, h1]; simp only [Option.bind_some, List.getElem?_eq_getElem hi]; rw [if_pos hn]; rfl
theorem count_good {s : Store} {r : Req} {i : Nat} {m : Int} {y : Item} (h : (live s (bl r.key)).2 = some i) (h1 : (live s (bl r.key)).1 = s) (hi : i < s.items.length) (hn : ¬ numOf (valueOf s s.items[i]) < 0) (hm : counted r (numOf (valueOf s s.items[i])) = m)
  (hy : y = { s.items[i] with value := decS m, far := false, place := ⟨0, 0⟩ }) : countReq s r = ((put s y).1, if (put s y).2 then ⟨7, m, []⟩ else ⟨11, 0, []⟩) := by
 unfold countReq; simp only; rw [h, h1]; simp only [Option.bind_some, List.getElem?_eq_getElem hi]; rw [if_neg hn, hm, ← hy]; rfl
theorem num_bad {v : ByteArray} (h : ∀ n, Lib.atoiAll (bl v) ≠ .ok n) : numOf v < 0 := by
 unfold numOf
 split
 ·rename_i n hn; exact absurd hn (h n)
 ·omega
theorem num_is {v : ByteArray} {n : Int} (h : Lib.atoiAll (bl v) = .ok n) : numOf v = if 0 ≤ n ∧ n ≤ maxN ∧ decS n = v then n else -1 := by
 unfold numOf; rw [h]
set_option maxHeartbeats 4000000 in
set_option maxRecDepth 100000 in
theorem keeper_count (w : World) (h : KeepAt base g s va vc fa fc vs w) (hs : SOk s) (he : Env w) (hG : Globs base) (r : Req) (ka : Option Addr) (kc : Nat) (hrn : 0 ≤ r.n ∧ r.n ≤ 1099511627776) (hu : s.uses < maxN) :
  Calls Tryz.prog 88 #[.pointer (some ⟨g, 0, none⟩), .agg #[.int .i64 r.kind, .string r.key, .slice ka r.keys.length kc, .int .i64 r.flags, .int .i64 r.exp, .int .i64 r.n, .string r.value, .bool r.quiet]] w (RepEnd base g (countReq s r) w) := by
 have H := hid h;have HS := hid hs;have HE := hid he;have HG := hid hG;have HU := hid hu;have hbase := h.base_le;clear h hs he hG hu
 go_enter Tryz.func88, Tryz.ntmps88
 go_wp2_with fail
 obtain ⟨W2, hW2, hb2, hr3, hr4⟩ := two_boxes w r ka kc;rw [← hW2];obtain ⟨B3, hB3⟩ : ∃ B, B = w.heap.size := ⟨_, rfl⟩;obtain ⟨B4, hB4⟩ : ∃ B, B = w.heap.size + 1 := ⟨_, rfl⟩;rw [← hB4] at hr4;rw [← hB3] at hr3;rw [← hB4, ← hB3];have hB4w : w.heap.size ≤ B4 := by omega
 have R3 := hid hr3;have R4 := hid hr4;have HB2 := hid hb2;have K2 := hid (H.out.below hb2);clear hW2 hB3 hB4 hr3 hr4 hb2 H;refine (keeper_live W2 K2.out HS.out r.key).mono ?_;rintro e w3 ⟨rfl, hk3, hb3, ht3⟩;have R33 := hid ((ht3 _ _ _ _ R3.out ⟨by decide, by decide⟩).trans R3.out);have R43 := hid ((ht3 _ _ _ _ R4.out ⟨by decide, by decide⟩).trans R4.out);have HB3 := hid ((HB2.out.mono hbase).trans hb3);have HT3 : Hid (KeptT Oth w w3) := (KeptT.below HB2.out).trans ht3;have HK3 := hid hk3;obtain ⟨li, hli⟩ : ∃ li, li = (live s (bl r.key)).2 := ⟨_, rfl⟩;have HLI := hid hli.symm;rw [← hli];clear hli hk3 hb3 ht3 K2 R3 R4 HB2;obtain ⟨e0, e1, e2⟩ := reply_cells R43.out;have ef : ∀ i, w3.frozen? ⟨B4, i, none⟩ = false := fun i => frozen_of_row w3 _ _ _ _ R43.out
 cases li with
 | none =>
  have hc := count_none (r := r) HLI.out;have hf := hid (rep_end (t := countReq s r) (k := 5) (n := 0) (by rw [hc]) (by rw [hc]; exact HK3.out) R43.out HB3.out HT3.out hB4w hbase);have hr := hid (blk_three (x := .int .i64 5) (y := .int .i64 0) (z := .slice none 0 0) R43.out);clear hc;simp only [idxOf]
  go_wp2_with fail
  refine bodyPost_ret (v := .agg #[.int .i64 5, .int .i64 0, .slice none 0 0]) ?_ rfl hf.out;obtain ⟨q0, q1, q2⟩ := reply_cells hr.out
  simp [results, Tryz.results88, go_sem, q0, q1, q2]
 | some i =>
  obtain ⟨l1, -, hi, -⟩ := live_some HLI.out;have HL1 := hid l1;rw [l1] at HK3;obtain ⟨va3, vc3, fa3, fc3, vs3, hk3⟩ := HK3.out;have K3 := hid hk3;obtain ⟨x, hx⟩ : ∃ x, x = s.items[i] := ⟨_, rfl⟩;have HX := hid hx;have HXI : Hid (s.items[i]? = some x) := by show _ = _; rw [List.getElem?_eq_getElem hi, hx]
  have HXM : Hid (x ∈ s.items) := by rw [hx]; exact List.getElem_mem hi
  obtain ⟨v, hv⟩ : ∃ v, v = valueOf s x := ⟨_, rfl⟩;have HV := hid hv.symm;have hvs : v.size ≤ 200 := by rw [hv]; exact value_size HS.out HXM.out
  clear l1 hk3 hv hx HK3;simp only [idxOf];have hi0 : ¬ (i : Int) < 0 := by omega
  go_wp2_with fail
  refine (keeper_value w3 K3.out HS.out i x HXI.out v HV).mono ?_;rintro e w4 ⟨rfl, hb4⟩;have R34 := hid (bkp hb4 R33.out);have R44 := hid (bkp hb4 R43.out);have K4 := hid (K3.out.below hb4);have HB4 := hid (HB3.out.trans (hb4.mono K3.out.base_le));have HT4 : Hid (KeptT Oth w w4) := HT3.out.trans (KeptT.below hb4);have HE4 := hid (HE.out.below HG.out HB4.out);clear hb4 K3 HB3 HT3 R33 R43 e0 e1 e2 ef
  by_cases hok : ∃ n, Lib.atoiAll (bl v) = .ok n
  ·
   obtain ⟨n, hn⟩ := hok;have HN := hid hn;clear hn
   go_wp2_with fail
   refine (atoi_ok v n HN hvs w4).mono ?_;rintro e w5 ⟨rfl, hb5⟩;have R35 := hid (bkp hb5 R34.out);have R45 := hid (bkp hb5 R44.out);have K5 := hid (K4.out.below hb5);have HB5 := hid (HB4.out.trans (hb5.mono K4.out.base_le));have HT5 : Hid (KeptT Oth w w5) := HT4.out.trans (KeptT.below hb5);have HE5 := hid (HE.out.below HG.out HB5.out);clear hb5 K4 HB4 HT4 R34 R44 HE4;have HNUM := hid (num_is HN.out);have hN : maxN = 1099511627776 := rfl
   have HBAD : Hid (∀ w' : World, KeptT Oth w w' → Below base w w' → Kept base g s w' → w'.heap[B4]? = some (.cells #[.int .i64 0, .int .i64 0, .slice none 0 0] 35 (0, 0)) → numOf v < 0 → RepEnd base g (countReq s r) w (.returned (.agg #[.int .i64 12, .int .i64 0, .slice none 0 0])) (((w'.setCell ⟨B4, 0, none⟩ (.int .i64 12)).setCell ⟨B4, 1, none⟩ (.int .i64 0)).setCell ⟨B4, 2, none⟩ (.slice none 0 0))) := fun w' a b c d hneg => by
    have hc := count_bad (r := r) HLI.out HL1.out hi (by rw [← HX.out, HV.out]; exact hneg);exact rep_end (t := countReq s r) (k := 12) (n := 0) (by rw [hc]) (by rw [hc]; exact c) d b a hB4w hbase
   obtain ⟨e0, e1, e2⟩ := reply_cells R45.out;have ef : ∀ i, w5.frozen? ⟨B4, i, none⟩ = false := fun i => frozen_of_row w5 _ _ _ _ R45.out
   by_cases hr : 0 ≤ n ∧ n ≤ 1099511627776
   rotate_left
   ·
    have hf := hid (HBAD.out w5 HT5.out HB5.out ⟨_, _, _, _, _, K5.out⟩ R45.out (by rw [HNUM.out, if_neg (fun h => hr ⟨h.1, h.2.1⟩)]; decide));have hrr := hid (blk_three (x := .int .i64 12) (y := .int .i64 0) (z := .slice none 0 0) R45.out);have hcase : n < 0 ∨ (0 ≤ n ∧ 1099511627776 < n) := by omega
    clear hr hN
    rcases hcase with hr | ⟨hr, hr2⟩
    all_goals
     go_wp2_with fail
     refine bodyPost_ret (v := .agg #[.int .i64 12, .int .i64 0, .slice none 0 0]) ?_ rfl hf.out;obtain ⟨q0, q1, q2⟩ := reply_cells hrr.out
     simp [results, Tryz.results88, go_sem, q0, q1, q2]
   obtain ⟨hr1, hr2⟩ := hr
   go_wp2_with fail
   refine (itoa_is n (by omega) (by omega) w5 HE5.out.pow).mono ?_;rintro e w6 ⟨rfl, hb6⟩;have R36 := hid (bkp hb6 R35.out);have R46 := hid (bkp hb6 R45.out);have K6 := hid (K5.out.below hb6);have HB6 := hid (HB5.out.trans (hb6.mono K5.out.base_le));have HT6 : Hid (KeptT Oth w w6) := HT5.out.trans (KeptT.below hb6);clear hb6 K5 HB5 HT5 R35 R45 HE5 e0 e1 e2 ef
   by_cases hdv : decS n = v
   rotate_left
   ·
    have hf := hid (HBAD.out w6 HT6.out HB6.out ⟨_, _, _, _, _, K6.out⟩ R46.out (by rw [HNUM.out, if_neg (fun h => hdv h.2.2)]; decide));have hrr := hid (blk_three (x := .int .i64 12) (y := .int .i64 0) (z := .slice none 0 0) R46.out);have s1 : ((decS n).toList == v.toList) = false := by rw [beq_eq_false_iff_ne, bl_toList, bl_toList]; exact fun h => hdv (bl_inj h)
    have s2 : ((decS n).toList != v.toList) = true := by rw [bne, s1]; rfl
    obtain ⟨e0, e1, e2⟩ := reply_cells R46.out;have ef : ∀ i, w6.frozen? ⟨B4, i, none⟩ = false := fun i => frozen_of_row w6 _ _ _ _ R46.out
    clear hdv hN
    go_wp2_with fail
    refine bodyPost_ret (v := .agg #[.int .i64 12, .int .i64 0, .slice none 0 0]) ?_ rfl hf.out;obtain ⟨q0, q1, q2⟩ := reply_cells hrr.out
    simp [results, Tryz.results88, go_sem, q0, q1, q2]
   ·
    have s1 : ((decS n).toList == v.toList) = true := by rw [hdv]; exact beq_self_eq_true _
    have s2 : ((decS n).toList != v.toList) = false := by rw [bne, s1]; rfl
    have HNV : Hid (numOf v = n) := by show _ = _; rw [HNUM.out, if_pos ⟨hr1, by rw [hN]; exact hr2, hdv⟩]
    obtain ⟨m, hm⟩ : ∃ m, m = counted r n := ⟨_, rfl⟩;have HM := hid hm.symm
    have hmr : 0 ≤ m ∧ m ≤ 1099511627776 := by
     rw [hm]; unfold counted; rw [hN]; split <;> omega
    obtain ⟨hm1, hm2⟩ := hmr;clear hm hdv hN HBAD HNUM;obtain ⟨u0, u1, u2, u3, u4, u5, u6, u7⟩ := req_cells R36.out
    go_upto_if 44 with (fail)
    go_cut [7] (fun v7 wx => v7 = .int .i64 m ∧ wx = w6)
    case first =>
     obtain ⟨rn, hrnn⟩ : ∃ rn, rn = r.n := ⟨_, rfl⟩;rw [← hrnn] at u5 hrn;obtain ⟨hrn1, hrn2⟩ := hrn
     by_cases hk9 : r.kind = 9
     ·have HMM : Hid (m = min (n + rn) 1099511627776) := by show _ = _; rw [← HM.out]; unfold counted; rw [if_pos hk9, hrnn]; rfl
      have hk0 : (r.kind == 9) = true := by simp [hk9]
      clear hk9 hrnn
      go_wp2_with fail
      all_goals
       go_meet;refine ⟨congrArg (Value.int IntKind.i64) ?_, rfl⟩;have hmm := HMM.out
       first | exact hmm.symm | omega
     ·have HMM : Hid (m = max (n - rn) 0) := by show _ = _; rw [← HM.out]; unfold counted; rw [if_neg hk9, hrnn]
      have hk0 : (r.kind == 9) = false := by simp [hk9]
      clear hk9 hrnn
      go_wp2_with fail
      all_goals
       go_meet;refine ⟨congrArg (Value.int IntKind.i64) ?_, rfl⟩;have hmm := HMM.out
       first | exact hmm.symm | omega
    case rest =>
     obtain ⟨rfl, rfl⟩ := hcut;obtain ⟨gi, cap, hv, hbg, hgl, hnc, hcm, -⟩ := own_shape K6.out.own (by omega);simp only [Value.slice.injEq, true_and] at hv;obtain ⟨rfl, rfl⟩ := hv;have hcm := le_maxLen hcm;have hl := HS.out.len;have c8 := K6.out.cells.2.2.2.2.2.2.2.2.1;have hgk6 := K6.out.lt;obtain ⟨d0, d1, d2, d3, d4, d5, d6, d7, d8⟩ := own_item K6.out.own HXI.out;clear s1 s2 u0 u1 u2 u3 u4 u5 u6 u7;go_upto_region 12 with (fail);obtain ⟨W7, hW7⟩ : ∃ W7, W7 = wc.alloc (.cells #[.string x.key, .int .i64 x.flags, .int .i64 x.till, .int .i64 x.cas, .int .i64 x.used, .string x.value, .bool x.far, .int .i64 x.place.page, .int .i64 x.place.off] 83) := ⟨_, rfl⟩;have hb7 := below_new hW7;have R97 : Hid (W7.heap[wc.heap.size]? = some (.cells #[.string x.key, .int .i64 x.flags, .int .i64 x.till, .int .i64 x.cas, .int .i64 x.used, .string x.value, .bool x.far, .int .i64 x.place.page, .int .i64 x.place.off] 83 (0, 0))) := by show _ = _; rw [hW7]; exact blk_new wc _
     have HNG : Hid (∀ a, (some (⟨gi, 0, none⟩ : Addr)) = some a → a.block ≠ wc.heap.size) := fun a e => by
      cases e
      have := K6.out.own.lt gi rfl;show gi ≠ _; omega
     rw [← hW7];clear hW7;obtain ⟨B9, hB9⟩ : ∃ B9, B9 = wc.heap.size := ⟨_, rfl⟩;rw [← hB9] at R97 HNG ⊢;have hB9b : base ≤ B9 := by have := K6.out.base_le; omega
     have hgB9 : g ≠ B9 := by omega
     have hB9w : w.heap.size ≤ B9 := by have := (blt R46.out); omega
     clear hB9;have K7 := hid (K6.out.below hb7);have HB7 := hid (HB6.out.trans (hb7.mono K6.out.base_le));have HT7 : Hid (KeptT Oth w W7) := HT6.out.trans (KeptT.below hb7);have R47 := hid (bkp hb7 R46.out);have HE7 := hid (HE.out.below HG.out HB7.out);clear hb7 K6 HB6 HT6 R36 R46 c8 hgk6 hgl d0 d1 d2 d3 d4 d5 d6 d7 d8
     go_wp2_with fail
     refine (itoa_is m (by omega) (by omega) W7 HE7.out.pow).mono ?_;rintro e w8 ⟨rfl, hb8⟩;have R98 := hid (bkp hb8 R97.out);have R48 := hid (bkp hb8 R47.out);have K8 := hid (K7.out.below hb8);have HB8 := hid (HB7.out.trans (hb8.mono K7.out.base_le));have HT8 : Hid (KeptT Oth w w8) := HT7.out.trans (KeptT.below hb8);clear hb8 K7 HB7 HT7 R97 R47 HE7;have b5 : w8.cell? ⟨B9, 5, none⟩ = some (.string x.value) := cor R98.out rfl;have b6 : w8.cell? ⟨B9, 6, none⟩ = some (.bool x.far) := cor R98.out rfl;have b7 : w8.cell? ⟨B9, 7, none⟩ = some (.int .i64 x.place.page) := cor R98.out rfl;have b8 : w8.cell? ⟨B9, 8, none⟩ = some (.int .i64 x.place.off) := cor R98.out rfl;have bf : ∀ i, w8.frozen? ⟨B9, i, none⟩ = false := fun i => frozen_of_row w8 _ _ _ _ R98.out
     go_upto_region 13 with (fail);obtain ⟨y, hy⟩ : ∃ y : Item, y = { x with value := decS m, far := false, place := ⟨0, 0⟩ } := ⟨_, rfl⟩;obtain ⟨W9, hW9⟩ : ∃ W9, W9 = (((w8.setCell ⟨B9, 5, none⟩ (.string (decS m))).setCell ⟨B9, 6, none⟩ (.bool false)).setCell ⟨B9, 7, none⟩ (.int .i64 0)).setCell ⟨B9, 8, none⟩ (.int .i64 0) := ⟨_, rfl⟩;have hbut : But B9 w8 W9 := by rw [hW9]; exact ((But.set.trans But.set).trans But.set).trans But.set
     have K9 := hid (K8.out.off hbut R98.out hgB9 HNG.out);have HB9 : Hid (Below base w W9) := by rw [hW9]; exact HB8.out.trans ((((below_set w8 (j := 5) (.string (decS m)) hB9b).trans (below_set _ (j := 6) (.bool false) hB9b)).trans (below_set _ (j := 7) (.int .i64 0) hB9b)).trans (below_set _ (j := 8) (.int .i64 0) hB9b))
     have HT9 : Hid (KeptT Oth w W9) := HT8.out.trans ((But.keptT R98.out hbut).mono (fun _ h => h.2))
     have R99 : Hid (W9.heap[B9]? = some (.cells #[.string y.key, .int .i64 y.flags, .int .i64 y.till, .int .i64 y.cas, .int .i64 y.used, .string y.value, .bool y.far, .int .i64 y.place.page, .int .i64 y.place.off] 83 (0, 0))) := by
      rw [hW9, hy];have hr := R98.out;show (World.setCell _ _ _).heap[B9]? = _
      simp [World.setCell, Array.getElem?_modify, hr]
     have R49 := hid ((hbut.2 B4 (blt R48.out) (blk_ne R48.out R98.out (by decide))).trans R48.out);rw [← hW9];clear hW9 hbut b5 b6 b7 b8 bf K8 HB8 HT8 R98 R48;have HMP : Hid (MayPut y) := by rw [hy]; exact may_count (HS.out.items x HXM.out) ⟨hm1, hm2⟩
     have HCG : Hid (countReq s r = ((put s y).1, if (put s y).2 then ⟨7, m, []⟩ else ⟨11, 0, []⟩)) := count_good HLI.out HL1.out hi (by rw [← HX.out, HV.out, HNV.out]; omega) (by rw [← HX.out, HV.out, HNV.out]; exact HM.out) (by rw [← HX.out]; exact hy);clear hy;have HE9 := hid (HE.out.below HG.out HB9.out)
     go_wp2_with (refine wpList_load_row rfl 83 _ rfl B9 rfl _ _ _ _ R99.out Tryz.underlying83 rfl (by kernel_rfl) ?_)
     refine (keeper_put W9 K9.out HS.out HE9.out.chunks HG.out.chunks y HMP.out HU.out).mono ?_;rintro e w10 ⟨rfl, hk10, hb10, ht10⟩;have R410 := hid ((ht10 _ _ _ _ R49.out ⟨by decide, by decide⟩).trans R49.out);have HK10 := hid hk10;have HB10 := hid (HB9.out.trans hb10);have HT10 : Hid (KeptT Oth w w10) := HT9.out.trans ht10;obtain ⟨b, hb⟩ : ∃ b, b = (put s y).2 := ⟨_, rfl⟩;rw [← hb] at HCG ⊢;clear hk10 hb10 ht10 hb R49 R99 K9 HB9 HT9 HE9;obtain ⟨e0, e1, e2⟩ := reply_cells R410.out;have ef : ∀ i, w10.frozen? ⟨B4, i, none⟩ = false := fun i => frozen_of_row w10 _ _ _ _ R410.out
     cases b
     ·have hf := hid (rep_end (t := countReq s r) (k := 11) (n := 0) (by rw [HCG.out]; rfl) (by rw [HCG.out]; exact HK10.out) R410.out HB10.out HT10.out hB4w hbase)
      have hrr := hid (blk_three (x := .int .i64 11) (y := .int .i64 0) (z := .slice none 0 0) R410.out)
      go_wp2_with fail
      refine bodyPost_ret (v := .agg #[.int .i64 11, .int .i64 0, .slice none 0 0]) ?_ rfl hf.out;obtain ⟨q0, q1, q2⟩ := reply_cells hrr.out
      simp [results, Tryz.results88, go_sem, q0, q1, q2]
     ·have hf := hid (rep_end (t := countReq s r) (k := 7) (n := m) (by rw [HCG.out]; rfl) (by rw [HCG.out]; exact HK10.out) R410.out HB10.out HT10.out hB4w hbase)
      have hrr := hid (blk_three (x := .int .i64 7) (y := .int .i64 m) (z := .slice none 0 0) R410.out)
      go_wp2_with fail
      refine bodyPost_ret (v := .agg #[.int .i64 7, .int .i64 m, .slice none 0 0]) ?_ rfl hf.out;obtain ⟨q0, q1, q2⟩ := reply_cells hrr.out
      simp [results, Tryz.results88, go_sem, q0, q1, q2]
  ·
   have HN : Hid (∀ n, Lib.atoiAll (bl v) ≠ .ok n) := fun n hn => hok ⟨n, hn⟩
   clear hok
   go_wp2_with fail
   refine (atoi_bad v HN hvs w4 HE4.out).mono ?_;rintro e w5 ⟨k5, t5, p5, rfl, hb5⟩;have R45 := hid (bkp hb5 R44.out);have K5 := hid (K4.out.below hb5);have HB5 := hid (HB4.out.trans (hb5.mono K4.out.base_le));have HT5 : Hid (KeptT Oth w w5) := HT4.out.trans (KeptT.below hb5);clear hb5 K4 HB4 HT4 R34 R44 HE4;have hc := count_bad (r := r) HLI.out HL1.out hi (by rw [← HX.out, HV.out]; exact num_bad HN.out);have hf := hid (rep_end (t := countReq s r) (k := 12) (n := 0) (by rw [hc]) (by rw [hc]; exact ⟨_, _, _, _, _, K5.out⟩) R45.out HB5.out HT5.out hB4w hbase);have hr := hid (blk_three (x := .int .i64 12) (y := .int .i64 0) (z := .slice none 0 0) R45.out);obtain ⟨e0, e1, e2⟩ := reply_cells R45.out;have ef : ∀ i, w5.frozen? ⟨B4, i, none⟩ = false := fun i => frozen_of_row w5 _ _ _ _ R45.out
   clear hc
   go_wp2_with fail
   refine bodyPost_ret (v := .agg #[.int .i64 12, .int .i64 0, .slice none 0 0]) ?_ rfl hf.out;obtain ⟨q0, q1, q2⟩ := reply_cells hr.out
   simp [results, Tryz.results88, go_sem, q0, q1, q2]
end
end Go.Proofs.YtbeegfkfpkfccaaGreatDoor.D
