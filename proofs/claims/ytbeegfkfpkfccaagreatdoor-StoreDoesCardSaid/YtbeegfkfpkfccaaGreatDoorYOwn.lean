/-
 Contract: ref.valuesIn finds the values of a page. Condition: the page has at most 256 bytes.
-/
import Derived.Test.YtbeegfkfpkfccaaGreatDoorYBase
import Derived.Test.YtbeegfkfpkfccaaGreatDoorYCRecord
import Derived.Deep.LoopGhost
import Derived.Deep.DeepCutAuto
import Derived.Deep.RegionLaw
import Derived.Laws.IdiomCopy
import Derived.Deep.MidRow
import Derived.Deep.AppendLies
import Derived.Deep.CutBlock
import Derived.Conc.WalkWords
import Derived.Lib.AppendStr
namespace Go.Proofs.YtbeegfkfpkfccaaGreatDoor.D
open Go.RowKit
theorem infoStr : (Tryz.prog.info? 9).map (fun i => (i.zero, i.size, i.bytes)) = some (some (.string ByteArray.empty), 1, 16) := by kernel_rfl
def strV (l : Str) : Value := .string ⟨l.toArray⟩
def valCells (l : List (Nat × Str)) : List Value := l.map fun r => strV r.2
def atCells (l : List (Nat × Str)) : List Value := l.map fun r => .int .i64 r.1
def TwoRows (B : Nat) (w : World) (o a : Value) (l : List (Nat × Str)) : Prop :=
 w.ownsRow B 9 1 o l.length (valCells l) ∧ w.ownsRow B 3 1 a l.length (atCells l)
def ValsEnd (b : Str) (w : World) (e : Ending) (w' : World) : Prop :=
 ∃ o a, e = .returned (.tuple #[o, a, .bool (allRec b 0)]) ∧ (allRec b 0 = true → TwoRows w.heap.size w' o a (recs b 0)) ∧ Below w.heap.size w w'
theorem vals_no {b : Str} {w w' : World} (h : allRec b 0 = false) (hb : Below w.heap.size w w') : ValsEnd b w (.returned (.tuple #[.slice none 0 0, .slice none 0 0, .bool false])) w' :=
 ⟨_, _, by rw [h], (fun hh => absurd (h.symm.trans hh) (by decide)), hb⟩
theorem vals_yes {b : Str} {l : List (Nat × Str)} {w w' : World} {o a : Value} (h : allRec b 0 = true) (hl : recs b 0 = l) (ht : TwoRows w.heap.size w' o a l) (hb : Below w.heap.size w w') :
  ValsEnd b w (.returned (.tuple #[o, a, .bool true])) w' :=
 ⟨o, a, by rw [h], (fun _ => by rw [hl]; exact ht), hb⟩
theorem vals_more {B : Nat} {w : World} {o a : Value} {l : List (Nat × Str)} {k : Nat} {v : Str} (h : w.ownsRow B 9 1 o (l.length + 1) (valCells l ++ [strV v])) (h' : w.ownsRow B 3 1 a (l.length + 1) (atCells l ++ [.int .i64 k])) :
  Hid (TwoRows B w o a (l ++ [(k, v)])) := by
 show TwoRows B w o a (l ++ [(k, v)]);unfold TwoRows valCells atCells;rw [List.length_append, List.map_append, List.map_append];exact ⟨h, h'⟩
theorem recs_more {b : Str} {k n : Nat} {l : List (Nat × Str)} {v : Str} (hk : k < b.length) (hn : Hid (n = lenAt b k)) (hv : Hid (v = valAt b k)) (h : Hid (recs b 0 = l ++ recs b k)) : Hid (recs b 0 = (l ++ [(k, v)]) ++ recs b (k + 3 + n)) := by
 show recs b 0 = (l ++ [(k, v)]) ++ recs b (k + 3 + n);rw [h.out, recs_step hk, hn.out, hv.out, List.append_assoc]; rfl
theorem all_more {b : Str} {k n : Nat} (hk : k < b.length) (hn : Hid (n = lenAt b k)) (hr : Hid (recB b k = true)) (h : Hid (allRec b 0 = allRec b k)) : Hid (allRec b 0 = allRec b (k + 3 + n)) := by
 show allRec b 0 = allRec b (k + 3 + n);rw [h.out, allRec_step hk, hr.out, hn.out]; rfl
theorem own_types {w : World} {base base' : Nat} {e e' : TypeId} {size size' : Nat} {v v' : Value} {n n' : Nat} {xs xs' : List Value} (h : w.ownsRow base e size v n xs)
  (h' : w.ownsRow base' e' size' v' n' xs') (he : e ≠ e') : v.ownBlock = none ∨ v.ownBlock ≠ v'.ownBlock := by
 obtain ⟨_, ⟨rfl, _⟩ | ⟨a, cap, cur, rfl, _, hh, _⟩⟩ := h
 ·exact .inl rfl
 obtain ⟨_, ⟨rfl, _⟩ | ⟨a', cap', cur', rfl, _, hh', _⟩⟩ := h'
 ·right; simp [Value.ownBlock]
 right
 intro hg;simp only [Value.ownBlock, Option.some.injEq] at hg;subst hg;rw [hh] at hh'
 cases hh'
 exact he rfl
theorem own_bytes {w : World} {base : Nat} {va : Option Addr} {n vc m : Nat} {l : Str} (h : w.ownsRow base 5 1 (.slice va n vc) m (l.map byteV)) : BytesAt w va l := by
 rcases Nat.eq_zero_or_pos m with h0 | h0
 ·left
  have := h.1;rw [h0] at this;exact List.eq_nil_of_length_eq_zero (by simpa using this)
 ·obtain ⟨g, cap, hv, _, _, _, _, hcell⟩ := own_shape h h0
  cases hv
  exact .inr ⟨g, 0, rfl, fun i v hv => by rw [Nat.zero_add]; exact hcell i v hv⟩
theorem recordOf_length {v : Str} {n : Nat} (h : Hid (v.length = n)) : (recordOf v).length = 3 + n := by
 have : v.length = n := h.out
 simp [recordOf, this]; omega
def BytesEndL (v : Str) (n : Nat) (w : World) (e : Ending) (w' : World) : Prop :=
 ∃ xa xc, e = .returned (.slice xa (3 + n) xc) ∧ BytesAt w' xa (recordOf v) ∧ Below w.heap.size w w'
theorem bytesOf_list (v : Str) (n : Nat) (hv : Hid (v.length = n)) (w : World) (hn : n ≤ 200) : Calls Tryz.prog 117 #[.string ⟨v.toArray⟩] w (BytesEndL v n w) := by
 have h : v.length = n := hv.out;have hs : (⟨v.toArray⟩ : ByteArray).size = n := by rw [← h]; simp [ByteArray.size]
 refine (ref_bytesOf ⟨v.toArray⟩ w (by omega)).mono ?_;rintro e w' ⟨x, rfl, how, hb⟩;rw [hs, bl_mk] at how;obtain ⟨xa, xc, rfl⟩ := own_slice how;exact ⟨xa, xc, rfl, own_bytes how, hb⟩
set_option maxRecDepth 100000 in
set_option maxHeartbeats 1000000 in
theorem ref_valuesIn (b : Str) (a : Option Addr) (c : Nat) (w : World) (h : BytesAt w a b) (hl : b.length ≤ 256) (hc : b.length ≤ c) (hcc : c ≤ 9223372036854775807) :
  Calls Tryz.prog 94 #[.slice a b.length c] w (ValsEnd b w) := by
 obtain ⟨i0, hi, hz0, hz1, hz2⟩ := info_parts infoStr;obtain ⟨j0, hj, hw0, hw1, hw2⟩ := info_parts infoInt;have H := hid h;clear h
 go_enter Tryz.func94, Tryz.ntmps94
 go_wp2_with fail
 go_loopg [5, 6, 7] b.length (fun g o q i wr => ∃ k : Nat, ∃ l : List (Nat × Str), g + k = b.length ∧ i = .int .i64 k ∧ Hid (TwoRows w.heap.size wr o q l) ∧ Below w.heap.size w wr ∧ l.length ≤ k ∧ Hid (recs b 0 = l ++ recs b k) ∧ Hid (allRec b 0 = allRec b k))
 case atStart => exact ⟨0, [], rfl, rfl, ⟨World.ownsRow_nil _ _ _ _, World.ownsRow_nil _ _ _ _⟩, Below.refl _ _, Nat.zero_le _, rfl, rfl⟩
 case round =>
  obtain ⟨k, l, hk, rfl, hrow, hbl, hlk, hrecs, hall⟩ := hrel
  by_cases hlt : k < b.length
  ·obtain ⟨ab, ao, rfl, hcell⟩ := H.out.pos (by omega)
   have c0 := Below.keeps hbl _ _ (hcell k (by omega));have hn : b[k].toNat = lenAt b k := by simp [lenAt, List.getD_eq_getElem?_getD, hlt]
   have hL : lenAt b k < 256 := by rw [← hn]; exact b[k].toNat_lt
   rw [hn] at c0;clear hcell hn;obtain ⟨n, hnn⟩ : ∃ n, n = lenAt b k := ⟨_, rfl⟩;have HNN := hid hnn;rw [← hnn] at c0 hL;clear hnn;have wn : wrap64 (n : Int) = n := IntWalk.wrap64_in _ ⟨by omega, by omega⟩
   by_cases h5 : n ≤ 200
   ·by_cases h4 : k + 3 + n ≤ b.length
    ·have hv : BytesAt wr (some ⟨ab, ao + (k + 3), none⟩) (valAt b k) := ((H.out.keep (Below.keeps hbl)).drop (k + 3)).take _
     have hraw : BytesAt wr (some ⟨ab, ao + k, none⟩) (rawAt b k) := ((H.out.keep (Below.keeps hbl)).drop k).take _;have hvl := valAt_length (b := b) (k := k) (by rw [← HNN.out]; omega);have hrl : (rawAt b k).length = 3 + lenAt b k := by rw [rawAt_eq (by rw [← HNN.out]; omega)]; simp [hvl]; omega
     rw [← HNN.out] at hvl hrl;have hrec := hid (rec_raw (b := b) (k := k) (by rw [← HNN.out]; omega) (by rw [← HNN.out]; omega));obtain ⟨v, hvv⟩ : ∃ v, v = valAt b k := ⟨_, rfl⟩;obtain ⟨x, hxx⟩ : ∃ x, x = rawAt b k := ⟨_, rfl⟩;rw [← hvv] at hv hvl hrec;rw [← hxx] at hraw hrl hrec;have HVV := hid hvv;clear hvv hxx hL
     have hva : BytesAt wr (if c = k + 3 then some ⟨ab, ao, none⟩ else some ⟨ab, ao + (k + 3), none⟩) v := by
      by_cases h : c = k + 3
      ·rw [if_pos h]
       have : v = [] := List.eq_nil_of_length_eq_zero (by omega);subst this; exact CellsAt.nil _ _
      ·rw [if_neg h]; exact hv
     have s1 := fun c' => run_str hva n c' hvl.symm wr (Keeps.refl wr)
     have hck : ¬ c = k := by omega
     have s2 := fun c' => run_str hraw (3 + n) c' hrl.symm wr.drew (keeps_drewN (Keeps.refl wr) 1)
     have HRAW := hid hraw;have HVL := hid hvl;have HRL := hid hrl;clear hraw hvl hrl hva hv;have hn3 : n ≤ 200 := h5;go_upto_region 8 with (fail)
     go_cut [9] (fun s wx => s = .string ⟨v.toArray⟩ ∧ wr = wx)
     case first =>
      go_wp2_with fail
      all_goals (subst_vars; go_meet; exact ⟨rfl, rfl⟩)
     case rest =>
      obtain ⟨rfl, rfl⟩ := hcut;go_upto_region 9 with (fail)
      go_cut [50] (fun s wx => ∃ tb : Bool, s = .bool tb ∧ Hid (tb = (!x == recordOf v)) ∧ Below wr.heap.size wr wx)
      case first =>
       have g1 : IntKind.i64.wrap ((k : Int) + 3) = (k : Int) + 3 := IntWalk.i64_in _ ⟨by omega, by omega⟩;have g2 : IntKind.i64.wrap ((k : Int) + 3 + (n : Int)) = (k : Int) + 3 + (n : Int) := IntWalk.i64_in _ ⟨by omega, by omega⟩;have g3 : (0 : Int) ≤ (k : Int) + 3 + (n : Int) := by omega
       have g4 : ((k : Int) + 3 + (n : Int)).toNat = k + (3 + n) := by omega
       have g5 : k + (3 + n) - k = 3 + n := by omega
       have g6 : (k : Int) ≤ (k : Int) + 3 + (n : Int) := by omega
       have g7 : (k : Int) + 3 + (n : Int) ≤ (c : Int) := by omega
       go_region_law (go_simp; go_at_call 117; go_must (refine (bytesOf_list v n HVL _ hn3).mono ?_); rintro e w1 ⟨xa, xc, rfl, hbx, hb1⟩; have s3 := run_str hbx (3 + n) xc (recordOf_length HVL).symm w1 (Keeps.refl w1); have s4 := fun c' => run_str HRAW.out (3 + n) c' HRL.out.symm w1 (Below.keeps (Below.trans (by go_grown) hb1)))
       all_goals (go_wp2_with fail; go_meet; exact ⟨_, rfl, rfl, Below.trans (by go_grown) hb1⟩)
      case rest =>
       obtain ⟨tb, rfl, htb, hbc⟩ := hcut;clear s1 s2 HRAW HRL wn
       cases tb
       ·have HR : Hid (recB b k = true) := by
         show recB b k = true;have h := htb.out;simp only [Bool.false_eq, Bool.not_eq_false', beq_iff_eq] at h;rw [hrec.out, decide_eq_true h]
        have hA := hid (owns_below hrow.out.1 hbc);have hB := hid (owns_below hrow.out.2 hbc);have hbl2 := hbl.trans (hbc.mono hbl.size);clear htb hrec
        go_wp2_with (at_builtin; go_must (refine wpList_append_own _ rfl (.tmp 51) (.tmp 53) 29 rfl w.heap.size 9 i0 (.string ByteArray.empty) 1 16 Tryz.underlying29 hi hz0 hz1 hz2 rfl (by decide) _ l.length (valCells l) rfl (hA.out.alloc _) ⟨wc.heap.size, 0, none⟩ 1 1 [strV v] rfl rfl (news_lit _ _ _ _ _ rfl rfl) (ones rfl) (by unfold maxLen; omega) (by omega) (by have := hbl2.size; go_size) ?_))
        intro o1 w1 how hgr _;have hA1 := hid how;have hB1 := hid ((hB.out.alloc (.cells #[.string ⟨v.toArray⟩] 9)).kept hgr (own_types hB.out hA.out (by decide)));have hbl3 : Below w.heap.size w w1 := Below.grown (hbl2.alloc hbl2.size _) hgr (hbl2.alloc hbl2.size _).size (by intro g hg; exact (hA.out.lt g hg).1);clear how hgr hA hB hbl hbl2 hbc hrow
        go_wp2_with (at_builtin; go_must (refine wpList_append_own _ rfl (.tmp 55) (.tmp 57) 60 rfl w.heap.size 3 j0 (.int .i64 0) 1 8 Tryz.underlying60 hj hw0 hw1 hw2 rfl (by decide) _ l.length (atCells l) rfl (hB1.out.alloc _) ⟨w1.heap.size, 0, none⟩ 1 1 [.int .i64 k] rfl rfl (news_lit _ _ _ _ _ rfl rfl) (ones rfl) (by unfold maxLen; omega) (by omega) (by have := hbl3.size; go_size) ?_))
        intro a1 w2 how hgr _;have hB2 := hid how;have hA2 := hid ((hA1.out.alloc (.cells #[.int .i64 k] 3)).kept hgr (own_types hA1.out hB1.out (by decide)));have hbl4 : Below w.heap.size w w2 := Below.grown (hbl3.alloc hbl3.size _) hgr (hbl3.alloc hbl3.size _).size (by intro g hg; exact (hB1.out.lt g hg).1);clear how hgr hA1 hB1 hbl3
        go_wp2_with fail
        go_roundg (gk - 3 - n)
        case measure => omega
        case rel => exact ⟨k + 3 + n, l ++ [(k, v)], by omega, by go_num, vals_more hA2.out hB2.out, hbl4, by simp; omega, recs_more hlt HNN HVV hrecs, all_more hlt HNN HR hall⟩
       ·have HR : Hid (recB b k = false) := by
         show recB b k = false;have h := htb.out;simp only [Bool.true_eq, Bool.not_eq_true', beq_eq_false_iff_ne, ne_eq] at h;rw [hrec.out, decide_eq_false h]
        have HA : Hid (allRec b 0 = false) := by show allRec b 0 = false; rw [hall.out, allRec_step hlt, HR.out]; rfl
        clear htb hrec
        go_wp2_with fail
        go_ret3
        exact vals_no HA.out (hbl.trans (hbc.mono hbl.size))
    ·
     have HR : Hid (recB b k = false) := by show recB b k = false; exact rec_short (by rw [← HNN.out]; exact Nat.lt_of_not_le h4)
     have HA : Hid (allRec b 0 = false) := by show allRec b 0 = false; rw [hall.out, allRec_step hlt, HR.out]; rfl
     have h4' : b.length < k + 3 + n := Nat.lt_of_not_le h4;clear h4 hL
     go_wp2_with fail
     go_ret3
     exact vals_no HA.out hbl
   ·
    have HR : Hid (recB b k = false) := by show recB b k = false; exact rec_long (by rw [← HNN.out]; exact Nat.lt_of_not_le h5)
    have HA : Hid (allRec b 0 = false) := by show allRec b 0 = false; rw [hall.out, allRec_step hlt, HR.out]; rfl
    have h5' : 200 < n := Nat.lt_of_not_le h5;clear h5 hL
    go_wp2_with fail
    go_ret3
    exact vals_no HA.out hbl
  ·
   have hb0 : Hid (allRec b 0 = true) := by show allRec b 0 = true; rw [hall.out, allRec_end (by omega)]
   have hl0 : Hid (recs b 0 = l) := by show recs b 0 = l; rw [hrecs.out, recs_end (by omega), List.append_nil]
   clear hrecs hall
   go_wp2_with fail
   go_ret3
   exact vals_yes hb0.out hl0.out hrow.out hbl
def CopyEnd (f : Flash) (w : World) (e : Ending) (w' : World) : Prop :=
 ∃ v vs, e = .returned (.agg #[.int .i64 f.most, .int .i64 f.next, v]) ∧ PagesMid w.heap.size w' w' v f.pages vs f.pages.length ∧ Below w.heap.size w w'
theorem PagesMid.world {base : Nat} {w0 w0' w : World} {v : Value} {ps : List Page} {vs : List Value} (h : PagesMid base w0 w v ps vs ps.length) : PagesMid base w0' w v ps vs ps.length :=
 ⟨h.len, h.row, h.done, fun j p u hp _ hj => absurd (List.getElem?_eq_some_iff.1 hp).1 (by omega), h.off, h.apart⟩
set_option maxHeartbeats 400000 in
theorem flash_Copy (f : Flash) (a : Option Addr) (c : Nat) (w : World) (h : RowsAt w a 2 (PageR w) f.pages) (hn : f.pages.length * 32 ≤ 140737488355328)
  (hby : ∀ p ∈ f.pages, p.bytes.length ≤ 140737488355328) :
  Calls Tryz.prog 55 #[.agg #[.int .i64 f.most, .int .i64 f.next, .slice a f.pages.length c]] w (CopyEnd f w) := by
 obtain ⟨vs0, hl0, hc0, hone, hold⟩ := pages_cells h;have HL := hid hl0;have HC := hid hc0;have HO := hid hone;have HD := hid hold
 have HB := hid hby
 clear hl0 hc0 hone hold h hby
 go_enter Tryz.func55, Tryz.ntmps55
 go_wp2_with fail
 refine (clone_pages (pageCells f.pages vs0) f.pages.length a c _ (HC.out.keep (Below.keeps (by go_grown))) (pageCells_length _ _ HL.out) HO.out hn).mono ?_;rintro e w1 ⟨v, rfl, hown, hb⟩;obtain ⟨va, vc, hv⟩ := own_slice hown;rw [hv] at hown ⊢;obtain ⟨hc, hfz, hz⟩ := bcell hb;simp only [World.size_alloc] at hc hfz hz hown;have hz0 : w.heap.size < w1.heap.size := by omega
 have hz1 : w.heap.size + 1 < w1.heap.size := by omega
 have HW := hid hown;have hbw : Below w.heap.size w w1 := Below.trans (by go_grown) (hb.mono (by go_size));clear hown hv hb;have hs2 := setCell_self (x := .slice va f.pages.length vc) (show w1.cell? ⟨w.heap.size, 2, none⟩ = some (.slice a f.pages.length c) by rw [hc _ _ (by omega)]; go_simp)
 go_wp2_with fail
 have hc0 : (w1.setCell ⟨w.heap.size, 2, none⟩ (.slice va f.pages.length vc)).cell? ⟨w.heap.size, 0, none⟩ = some (.int .i64 f.most) := by go_simp
 have hc1 : (w1.setCell ⟨w.heap.size, 2, none⟩ (.slice va f.pages.length vc)).cell? ⟨w.heap.size, 1, none⟩ = some (.int .i64 f.next) := by go_simp
 have hc3 : (w1.setCell ⟨w.heap.size, 2, none⟩ (.slice va f.pages.length vc)).cell? ⟨w.heap.size + 1, 0, none⟩ = some (.int .i64 0) := by go_simp
 have hc4 : (w1.setCell ⟨w.heap.size, 2, none⟩ (.slice va f.pages.length vc)).cell? ⟨w.heap.size + 1, 1, none⟩ = some (.int .i64 0) := by go_simp
 have hc5 : (w1.setCell ⟨w.heap.size, 2, none⟩ (.slice va f.pages.length vc)).cell? ⟨w.heap.size + 1, 2, none⟩ = some (.slice none 0 0) := by go_simp
 have hz3 : ∀ j, (w1.setCell ⟨w.heap.size, 2, none⟩ (.slice va f.pages.length vc)).frozen? ⟨w.heap.size + 1, j, none⟩ = false := fun j => by go_simp
 have hbx : Below w.heap.size w (w1.setCell ⟨w.heap.size, 2, none⟩ (.slice va f.pages.length vc)) := hbw.setCell (Nat.le_refl _) _
 have hst : PagesMid (w.heap.size + 2) w (w1.setCell ⟨w.heap.size, 2, none⟩ (.slice va f.pages.length vc)) (.slice va f.pages.length vc) f.pages vs0 0 :=
  ⟨HL.out, ownsRow_setCell_below HW.out (by show w.heap.size < w.heap.size + 2; omega) _, fun _ _ _ _ _ h => absurd h (Nat.not_lt_zero _), fun j p u h1 h2 _ => HD.out j p u h1 h2,
   fun _ _ _ _ h => absurd h (Nat.not_lt_zero _), fun _ _ _ _ _ _ h => absurd h (Nat.not_lt_zero _)⟩
 have hsz : w.heap.size + 2 ≤ (w1.setCell ⟨w.heap.size, 2, none⟩ (.slice va f.pages.length vc)).heap.size := by go_size
 generalize w1.setCell ⟨w.heap.size, 2, none⟩ (.slice va f.pages.length vc) = W1 at *
 have HST := hid hst;clear hc hfz hz hz0 hz1 HW hbw hst HC HO HD
 go_loopw [11] (fun i wr => ∃ k : Nat, ∃ vs : List Value, k ≤ f.pages.length ∧ i = .int .i64 k ∧ PagesMid (w.heap.size + 2) w wr (.slice va f.pages.length vc) f.pages vs k ∧ Below (w.heap.size + 2) W1 wr) (fun i _ => f.pages.length - (intOf i).toNat)
 case atStart => exact ⟨0, vs0, Nat.zero_le _, rfl, HST.out, Below.refl _ _⟩
 case round =>
  obtain ⟨k, vs, hk, rfl, hpm, hbl⟩ := hrel
  by_cases hlt : k < f.pages.length
  ·obtain ⟨g, rfl, hg, hg'⟩ := own_some hpm.row (by omega)
   have hkp : Keeps w wr := Below.keeps (hbx.trans (hbl.mono (by omega)));have c2 := (hbl.cell (p := ⟨w.heap.size, 2, none⟩) (by show w.heap.size < w.heap.size + 2; omega)).trans hs2;obtain ⟨p, hp⟩ : ∃ p, f.pages[k]? = some p := ⟨_, List.getElem?_eq_getElem hlt⟩;obtain ⟨u, hu⟩ : ∃ u, vs[k]? = some u := ⟨_, List.getElem?_eq_getElem (by rw [hpm.len]; exact hlt)⟩;obtain ⟨ba, bc, rfl, hby⟩ := hpm.old k p u hp hu (Nat.le_refl _);have cu := (hpm.row.cellAt (k * 2 + 1) (by omega)).trans (pageCells_val _ _ k _ hpm.len hu);have fz := hpm.row.frozenAt (k * 2 + 1);have hpl := HB.out p (List.mem_of_getElem? hp);have HBy := hid (fun (w' : World) (q : Keeps w w') => CellsAt.keep hby q);have HK := hid hkp;have HP := hid hpm;have HL2 := hid hbl;have Hp := hid hp;clear hby hkp hpm hbl hp hu hs2 hc0 hc1 hc3 hc4 hc5 hz3 HST
   go_wp2_with fail
   go_region_law (go_simp; go_at_call 25; refine (clone_bytes (p.bytes.map byteV) p.bytes.length ba bc _ ?_ (by simp) (by simp [Value.oneCell']) (by omega)).mono ?_; (exact HBy.out _ HK.out); rintro e w2 ⟨x, rfl, hox, hbb⟩; obtain ⟨xa, xc, rfl⟩ := own_slice hox; have fz2 := (hbb.frozen (p := ⟨g, k * 2 + 1, none⟩) hg').trans fz; have e2 := (hbb.cell (p := ⟨w.heap.size, 2, none⟩) (cell_lt c2)).trans c2; have eu := (hbb.cell (p := ⟨g, k * 2 + 1, none⟩) hg').trans cu)
   all_goals
    have hbb' : Below wr.heap.size wr w2 := ⟨hbb.os, hbb.tape, hbb.output, hbb.size, hbb.block⟩;have hst := HP.out.step rfl Hp.out (w2 := w2) hbb' hox (by have := cell_lt c2; omega);have hb3 : Below (w.heap.size + 2) W1 (w2.setCell ⟨g, k * 2 + 1, none⟩ (.slice xa p.bytes.length xc)) := (HL2.out.trans (Below.mono hbb' (by have := cell_lt c2; omega))).setCell hg _;have HS := hid hst;have HB3 := hid hb3;clear hst hb3 hbb hbb' hox fz2 e2 eu c2 cu fz
    go_wp2_with fail
    go_roundw
    case rel => exact ⟨k + 1, _, by omega, by go_num, HS.out, HB3.out⟩
    case measure => simp [intOf]; omega
  ·have d0 := (hbl.cell (p := ⟨w.heap.size, 0, none⟩) (by show w.heap.size < w.heap.size + 2; omega)).trans hc0
   have d1 := (hbl.cell (p := ⟨w.heap.size, 1, none⟩) (by show w.heap.size < w.heap.size + 2; omega)).trans hc1;have d2 := (hbl.cell (p := ⟨w.heap.size, 2, none⟩) (by show w.heap.size < w.heap.size + 2; omega)).trans hs2;have d3 := (hbl.cell (p := ⟨w.heap.size + 1, 0, none⟩) (by show w.heap.size + 1 < w.heap.size + 2; omega)).trans hc3;have d4 := (hbl.cell (p := ⟨w.heap.size + 1, 1, none⟩) (by show w.heap.size + 1 < w.heap.size + 2; omega)).trans hc4;have d5 := (hbl.cell (p := ⟨w.heap.size + 1, 2, none⟩) (by show w.heap.size + 1 < w.heap.size + 2; omega)).trans hc5;have z3 := fun j => (hbl.frozen (p := ⟨w.heap.size + 1, j, none⟩) (by show w.heap.size + 1 < w.heap.size + 2; omega)).trans (hz3 j)
   have HP := hid hpm;have HL2 := hid hbl;clear hpm hbl hs2 hc0 hc1 hc3 hc4 hc5 hz3 HST
   go_wp2_with fail
   obtain rfl : k = f.pages.length := by omega
   refine bodyPost_ret (v := .agg #[.int .i64 f.most, .int .i64 f.next, .slice va f.pages.length vc]) (by simp [results, Tryz.results55, go_sem, d3, d4, d5]) rfl ⟨_, vs, rfl, ?_, ?_⟩
   ·have h3 := ((HP.out.setCell_below (a := ⟨w.heap.size + 1, 0, none⟩) (by show w.heap.size + 1 < w.heap.size + 2; omega) (.int .i64 f.most)).setCell_below (a := ⟨w.heap.size + 1, 1, none⟩) (by show w.heap.size + 1 < w.heap.size + 2; omega) (.int .i64 f.next)).setCell_below (a := ⟨w.heap.size + 1, 2, none⟩) (by show w.heap.size + 1 < w.heap.size + 2; omega) (.slice va f.pages.length vc)
    exact (h3.world).base (by omega)
   ·exact (((hbx.trans (HL2.out.mono (by omega))).setCell (by show w.heap.size ≤ w.heap.size + 1; omega) _).setCell (by show w.heap.size ≤ w.heap.size + 1; omega) _).setCell (by show w.heap.size ≤ w.heap.size + 1; omega) _
abbrev PagesOwn (base : Nat) (w : World) (v : Value) (ps : List Page) (vs : List Value) : Prop := PagesMid base w w v ps vs ps.length
theorem PagesOwn.mk {base : Nat} {w : World} {v : Value} {ps : List Page} {vs : List Value} (hl : vs.length = ps.length) (hr : w.ownsRow base 98 2 v ps.length (pageCells ps vs))
  (hd : ∀ (j : Nat) (p : Page) (u : Value), ps[j]? = some p → vs[j]? = some u → w.ownsRow base 5 1 u p.bytes.length (p.bytes.map byteV))
  (ha : ∀ (i j : Nat) (u u' : Value) (b : Nat), i < j → vs[i]? = some u → vs[j]? = some u' → u.ownBlock = some b → u'.ownBlock ≠ some b) : PagesOwn base w v ps vs := by
 refine ⟨hl, hr, fun j p u h1 h2 _ => hd j p u h1 h2, fun j p u h1 _ h3 => absurd (List.getElem?_eq_some_iff.1 h1).1 (by omega), fun j u b h1 _ h3 => ?_, fun i j u u' b h1 _ h2 h3 h4 => ha i j u u' b h1 h2 h3 h4⟩;have hj := (List.getElem?_eq_some_iff.1 h1).1;have := own_types (hd j _ u (List.getElem?_eq_getElem (by omega)) h1) hr (by decide);rw [h3] at this
 rcases this with h | h
 ·cases h
 ·exact fun e => h e.symm
theorem PagesMid.byte {base : Nat} {w : World} {v : Value} {ps : List Page} {vs : List Value} (h : PagesOwn base w v ps vs) (j : Nat) (p : Page) (u : Value) (h1 : ps[j]? = some p) (h2 : vs[j]? = some u) :
  w.ownsRow base 5 1 u p.bytes.length (p.bytes.map byteV) := h.done j p u h1 h2 (List.getElem?_eq_some_iff.1 h1).1
theorem PagesMid.far {base : Nat} {w : World} {v : Value} {ps : List Page} {vs : List Value} (h : PagesOwn base w v ps vs) : ∀ (i j : Nat) (u u' : Value) (b : Nat), i < j → vs[i]? = some u → vs[j]? = some u' → u.ownBlock = some b → u'.ownBlock ≠ some b :=
 fun i j u u' b hij h1 h2 h3 => h.apart i j u u' b hij (by have := (List.getElem?_eq_some_iff.1 h2).1; have := h.len; omega) h1 h2 h3
theorem PagesMid.kept {base : Nat} {w w' : World} {v : Value} {ps : List Page} {vs : List Value} (h : PagesOwn base w v ps vs) (hb : ∀ k, base ≤ k → k < w.heap.size → w'.heap[k]? = w.heap[k]?) : PagesOwn base w' v ps vs := by
 have keep : ∀ {e size : Nat} {x : Value} {n : Nat} {xs : List Value}, w.ownsRow base e size x n xs → w'.ownsRow base e size x n xs := by
  intro e size x n xs hx;refine ⟨hx.1, ?_⟩
  rcases hx.2 with hn | ⟨g, cap, cur, rfl, hg, hh, rest⟩
  ·exact .inl hn
  ·exact .inr ⟨g, cap, cur, rfl, hg, by rw [hb g hg (blt hh)]; exact hh, rest⟩
 exact PagesOwn.mk h.len (keep h.row) (fun j p u h1 h2 => keep (h.byte j p u h1 h2)) h.far
theorem PagesMid.snoc {base : Nat} {w w' : World} {v v' : Value} {ps : List Page} {vs : List Value} {p : Page} {u : Value} (h : PagesOwn base w v ps vs)
  (hold : ∀ (x : Value) (m : Nat) (xs : List Value), w.ownsRow base 5 1 x m xs → w'.ownsRow base 5 1 x m xs) (hu : w'.ownsRow base 5 1 u p.bytes.length (p.bytes.map byteV))
  (hnew : ∀ b, u.ownBlock = some b → w.heap.size ≤ b) (hrow : w'.ownsRow base 98 2 v' (ps.length + 1) (pageCells ps vs ++ [.int .i64 p.number, u])) : PagesOwn base w' v' (ps ++ [p]) (vs ++ [u]) := by
 refine PagesOwn.mk (by simp [h.len]) ?_ ?_ ?_
 ·rw [pageCells_append ps [p] vs [u] h.len, List.length_append]; exact hrow
 ·intro j q x h1 h2
  by_cases hj : j < ps.length
  ·rw [List.getElem?_append_left hj] at h1
   rw [List.getElem?_append_left (by rw [h.len]; exact hj)] at h2;exact hold _ _ _ (h.byte j q x h1 h2)
  ·rw [List.getElem?_append_right (by omega)] at h1
   rw [List.getElem?_append_right (by rw [h.len]; omega), h.len] at h2
   have h0 : j - ps.length = 0 := by
    have := (List.getElem?_eq_some_iff.1 h1).1
    simp at this; omega
   rw [h0] at h1 h2
   simp at h1 h2
   subst h1 h2;exact hu
 ·intro i j x x' b hij h1 h2 h3
  have hj : j < vs.length + 1 := by have := (List.getElem?_eq_some_iff.1 h2).1; simpa using this
  rw [List.getElem?_append_left (by omega)] at h1
  by_cases hj2 : j < vs.length
  ·rw [List.getElem?_append_left hj2] at h2
   exact h.far i j x x' b hij h1 h2 h3
  ·rw [List.getElem?_append_right (by omega), show j - vs.length = 0 by omega] at h2
   simp at h2
   subst h2;intro h4;have h5 := hnew b h4;have hi : i < ps.length := by rw [← h.len]; omega
   have h6 := (h.byte i _ x (List.getElem?_eq_getElem hi) h1).lt b h3;omega
theorem PagesMid.tail {base : Nat} {w w' : World} {v v' : Value} {p : Page} {ps : List Page} {u : Value} {vs : List Value} (h : PagesOwn base w v (p :: ps) (u :: vs))
  (hold : ∀ (x : Value) (m : Nat) (xs : List Value), w.ownsRow base 5 1 x m xs → w'.ownsRow base 5 1 x m xs) (hrow : w'.ownsRow base 98 2 v' ps.length (pageCells ps vs)) : PagesOwn base w' v' ps vs :=
 PagesOwn.mk (by have := h.len; simpa using this) hrow (fun j q x h1 h2 => hold _ _ _ (h.byte (j + 1) q x (by simpa using h1) (by simpa using h2)))
  (fun i j x x' b hij h1 h2 h3 => h.far (i + 1) (j + 1) x x' b (by omega) (by simpa using h1) (by simpa using h2) h3)
theorem PagesMid.last {base : Nat} {w w' : World} {g n c : Nat} {ps : List Page} {vs : List Value} {num : Int} {b b' : Str} {u u' : Value} (h : PagesOwn base w (.slice (some ⟨g, 0, none⟩) n c) (ps ++ [⟨num, b⟩]) (vs ++ [u])) (hl : vs.length = ps.length)
  (hg : w.grownBy w' u.ownBlock) (hu : w'.ownsRow base 5 1 u' b'.length (b'.map byteV)) (hat : ∀ k, u'.ownBlock = some k → u.ownBlock = some k ∨ w.heap.size ≤ k) :
  PagesOwn base (w'.setCell ⟨g, ps.length * 2 + 1, none⟩ u') (.slice (some ⟨g, 0, none⟩) n c) (ps ++ [⟨num, b'⟩]) (vs ++ [u']) := by
 obtain ⟨g', cap', hv, _⟩ := own_shape h.row (by simp)
 cases hv
 have hu0 := h.byte ps.length ⟨num, b⟩ u (by simp) (by rw [← hl]; simp);have hrow := (h.row.kept hg (own_types h.row hu0 (by decide))).stored (ps.length * 2 + 1) u'
 have hset : (pageCells (ps ++ [⟨num, b⟩]) (vs ++ [u])).set (ps.length * 2 + 1) u' = pageCells (ps ++ [⟨num, b'⟩]) (vs ++ [u']) := by
  have hl2 : (pageCells ps vs).length = ps.length * 2 := pageCells_length ps vs hl;rw [pageCells_append ps _ vs _ hl, pageCells_append ps _ vs _ hl, List.set_append_right _ _ (by omega), hl2];rw [show ps.length * 2 + 1 - ps.length * 2 = 1 by omega]; rfl
 rw [hset] at hrow
 have hother : ∀ {x : Value} {m : Nat} {xs : List Value}, w'.ownsRow base 5 1 x m xs → (w'.setCell ⟨g, ps.length * 2 + 1, none⟩ u').ownsRow base 5 1 x m xs := by
  intro x m xs h1;have hr' := h.row.kept hg (own_types h.row hu0 (by decide));exact h1.kept hrow.2 (own_types h1 hr' (by decide))
 refine PagesOwn.mk (by simp [hl]) (by have h2 := hrow.1; simp only [List.length_append, List.length_cons, List.length_nil] at h2 ⊢; exact h2) ?_ ?_
 ·intro j q x h1 h2
  by_cases hj : j < ps.length
  ·rw [List.getElem?_append_left hj] at h1
   rw [List.getElem?_append_left (by omega)] at h2;refine hother ((h.byte j q x (by rw [List.getElem?_append_left hj]; exact h1) (by rw [List.getElem?_append_left (by omega)]; exact h2)).kept hg ?_)
   cases hx : x.ownBlock with
   | none => exact .inl rfl
   | some k =>
    right
    intro e;exact h.far j ps.length x u k hj (by rw [List.getElem?_append_left (by omega)]; exact h2) (by rw [← hl]; simp) hx e.symm
  ·rw [List.getElem?_append_right (by omega)] at h1
   rw [List.getElem?_append_right (by omega), hl] at h2
   have h0 : j - ps.length = 0 := by
    have := (List.getElem?_eq_some_iff.1 h1).1
    simp at this; omega
   rw [h0] at h1 h2
   simp at h1 h2
   subst h1 h2;exact hother hu
 ·intro i j x x' k hij h1 h2 h3
  have hj : j < vs.length + 1 := by have := (List.getElem?_eq_some_iff.1 h2).1; simpa using this
  rw [List.getElem?_append_left (by omega)] at h1
  by_cases hj2 : j < vs.length
  ·rw [List.getElem?_append_left hj2] at h2
   exact h.far i j x x' k hij (by rw [List.getElem?_append_left (by omega)]; exact h1) (by rw [List.getElem?_append_left hj2]; exact h2) h3
  ·rw [List.getElem?_append_right (by omega), show j - vs.length = 0 by omega] at h2
   simp at h2
   subst h2;intro h4;have hi : i < ps.length := by omega
   have h1' : (vs ++ [u])[i]? = some x := by rw [List.getElem?_append_left (by omega)]; exact h1
   rcases hat k h4 with h5 | h5
   ·exact h.far i ps.length x u k hi h1' (by rw [← hl]; simp) h3 h5
   ·have h6 := (h.byte i _ x (List.getElem?_eq_getElem (by simp; omega)) h1').lt k h3
    omega
theorem flat_length {X : Type} (f : X → List Value) (n : Nat) : ∀ (xs : List X), (∀ x, (f x).length = n) → (xs.flatMap f).length = xs.length * n
 | [], _ => by simp
 | x :: xs, h => by
  rw [List.flatMap_cons, List.length_append, flat_length f n xs h, h x, List.length_cons, Nat.succ_mul, Nat.add_comm]
theorem flat_get {X : Type} (f : X → List Value) (n : Nat) : ∀ (xs : List X) (i : Nat) (x : X) (j : Nat), (∀ x, (f x).length = n) → xs[i]? = some x → j < n → (xs.flatMap f)[i * n + j]? = (f x)[j]?
 | [], i, x, j, _, hx, _ => by simp at hx
 | y :: xs, 0, x, j, h, hx, hj => by
  simp at hx; subst hx
  rw [List.flatMap_cons, Nat.zero_mul, Nat.zero_add, List.getElem?_append_left (by rw [h]; exact hj)]
 | y :: xs, i + 1, x, j, h, hx, hj => by
  rw [List.flatMap_cons, List.getElem?_append_right (by rw [h, Nat.succ_mul]; omega), h, ← flat_get f n xs i x j h (by simpa using hx) hj]
  congr 1
  rw [Nat.succ_mul]; omega
theorem items_cells {w : World} {a : Option Addr} {xs : List Item} (h : RowsAt w a 9 ItemR xs) : CellsAt w a (xs.flatMap itemCells) := by
 rcases h with h | ⟨b, o, ha, hc⟩
 ·subst h; exact .inl rfl
 ·refine .inr ⟨b, o, ha, fun i v hv => ?_⟩
  have hi := (List.getElem?_eq_some_iff.1 hv).1;rw [flat_length itemCells 9 xs (fun _ => rfl)] at hi;have hi9 : i / 9 < xs.length := by omega
  have he : i = i / 9 * 9 + i % 9 := by omega
  obtain ⟨cs, _, hR, h3⟩ := hc (i / 9) hi9;rw [hR.1] at h3;have hg := flat_get itemCells 9 xs (i / 9) xs[i / 9] (i % 9) (fun _ => rfl) (List.getElem?_eq_getElem hi9) (by omega);rw [← he, hv] at hg;have := h3 (i % 9) v hg.symm
  rwa [Nat.add_assoc, ← he] at this
theorem items_one (xs : List Item) : (xs.flatMap itemCells).all (·.oneCell') = true := by
 rw [List.all_flatMap, List.all_eq_true];intro x _
 rfl
def ItemB (x : Item) : Prop := x.key.size ≤ reachBytes ∧ x.value.size ≤ reachBytes ∧ I64 x.flags ∧ I64 x.till ∧ I64 x.cas ∧ I64 x.used ∧ I64 x.place.page ∧ I64 x.place.off
theorem RowsAt.itemB {w : World} {a : Option Addr} {xs : List Item} (h : RowsAt w a 9 ItemR xs) : ∀ x ∈ xs, ItemB x := by
 intro x hx
 rcases h with h | ⟨b, o, _, hc⟩
 ·subst h; simp at hx
 ·obtain ⟨i, hi, rfl⟩ := List.mem_iff_getElem.1 hx
  obtain ⟨_, _, h1, _⟩ := hc i hi;exact h1.2
theorem own_items {w : World} {base : Nat} {va : Option Addr} {n vc : Nat} {xs : List Item} (h : w.ownsRow base 83 9 (.slice va n vc) xs.length (xs.flatMap itemCells)) (hb : ∀ x ∈ xs, ItemB x) : RowsAt w va 9 ItemR xs := by
 rcases Nat.eq_zero_or_pos xs.length with h0 | h0
 ·exact .inl (List.eq_nil_of_length_eq_zero h0)
 ·obtain ⟨g, cap, hv, _, _, _, _, hcell⟩ := own_shape h h0
  cases hv
  refine .inr ⟨g, 0, rfl, fun i hi => ⟨itemCells xs[i], rfl, ⟨rfl, hb _ (List.getElem_mem hi)⟩, fun j v hj => ?_⟩⟩;have hj9 : j < 9 := (List.getElem?_eq_some_iff.1 hj).1;rw [Nat.zero_add];exact hcell _ _ ((flat_get itemCells 9 xs i xs[i] j (fun _ => rfl) (List.getElem?_eq_getElem hi) hj9).trans hj)
def StoreEnd (s : Store) (w : World) (e : Ending) (w' : World) : Prop :=
 ∃ va vc fa fc vs, e = .returned (.agg (storeV s va vc fa fc)) ∧ w'.ownsRow w.heap.size 83 9 (.slice va s.items.length vc) s.items.length (s.items.flatMap itemCells) ∧
  PagesMid w.heap.size w' w' (.slice fa s.flash.pages.length fc) s.flash.pages vs s.flash.pages.length ∧ Below w.heap.size w w'
theorem store_block (w : World) (b : Nat) (hb : b = w.heap.size) (s : Store) (a : Option Addr) (c : Nat) (fa : Option Addr) (fc : Nat) (T : Nat) (j : Nat) (v : Value) (h : (storeV s a c fa fc)[j]? = some v) :
  (w.alloc (.cells (storeV s a c fa fc) T)).cell? ⟨b, j, none⟩ = some v := by subst hb; rw [cell_alloc_row]; exact h
theorem store_one (s : Store) (a fa : Option Addr) (c fc : Nat) : (storeV s a c fa fc).all (·.oneCell') = true := by
 rw [Array.all_eq_true_iff_forall_mem];intro x hx;simp only [storeV, Array.mem_def, List.mem_cons, List.not_mem_nil, or_false] at hx
 rcases hx with rfl | rfl | rfl | rfl | rfl | rfl | rfl | rfl | rfl | rfl | rfl | rfl <;> rfl
theorem row4 (w : World) (g : Nat) (s : Store) (a fa va fva : Option Addr) (c fc vc fvc T : Nat) (h : w.heap[g]? = some (.cells (storeV s a c fa fc) T (0, 0))) :
  ((((w.setCell ⟨g, 8, none⟩ (.slice va s.items.length vc)).setCell ⟨g, 9, none⟩ (.int .i64 s.flash.most)).setCell ⟨g, 10, none⟩ (.int .i64 s.flash.next)).setCell ⟨g, 11, none⟩ (.slice fva s.flash.pages.length fvc))
   = w.setRow g (storeV s va vc fva fvc) := by
 rw [setCell_eq_setRow w g 8 _ _ _ _ h, setCell_eq_setRow _ g 9 _ _ _ _ (setRow_heap w g _ _ _ _ h), setRow_setRow, setCell_eq_setRow _ g 10 _ _ _ _ (setRow_heap w g _ _ _ _ h), setRow_setRow,
  setCell_eq_setRow _ g 11 _ _ _ _ (setRow_heap w g _ _ _ _ h), setRow_setRow]
 rfl
theorem owns_above {w w' : World} {base : Nat} {e : TypeId} {size : Nat} {v : Value} {n : Nat} {xs : List Value} (h : w.ownsRow base e size v n xs) (hb : ∀ k, base ≤ k → w'.heap[k]? = w.heap[k]?) : w'.ownsRow base e size v n xs := by
 refine ⟨h.1, ?_⟩
 rcases h.2 with hn | ⟨g, cap, cur, rfl, hg, hh, rest⟩
 ·exact .inl hn
 ·exact .inr ⟨g, cap, cur, rfl, hg, by rw [hb g hg]; exact hh, rest⟩
theorem PagesMid.above {base : Nat} {w0 w w' : World} {v : Value} {ps : List Page} {vs : List Value} {k : Nat} (h : PagesMid base w0 w v ps vs k) (hb : ∀ k, base ≤ k → w'.heap[k]? = w.heap[k]?) : PagesMid base w0 w' v ps vs k :=
 ⟨h.len, owns_above h.row hb, fun j p x h1 h2 h3 => owns_above (h.done j p x h1 h2 h3) hb, h.old, h.off, h.apart⟩
theorem Below.setRow {B : Nat} (w : World) (g : Nat) (cs : Array Value) (h : B ≤ g) : Below B w (w.setRow g cs) :=
 ⟨rfl, rfl, rfl, by simp [World.setRow], fun k hk => setRow_other w g k cs (by omega)⟩
set_option maxRecDepth 100000 in
set_option maxHeartbeats 1000000 in
theorem store_Copy (s : Store) (a fa : Option Addr) (c fc : Nat) (w : World) (h : RowsAt w a 9 ItemR s.items) (hf : RowsAt w fa 2 (PageR w) s.flash.pages)
  (hn : s.items.length * 88 ≤ 140737488355328) (hfn : s.flash.pages.length * 32 ≤ 140737488355328) :
  Calls Tryz.prog 29 #[.agg (storeV s a c fa fc)] w (StoreEnd s w) := by
 have HI := hid h;have HF := hid hf;clear h hf
 go_enter Tryz.func29, Tryz.ntmps29
 go_wp2_with fail
 obtain ⟨W0, hW0⟩ : ∃ W0, W0 = (w.alloc (.cells (storeV s a c fa fc) 28)).alloc (.cells #[.int .i64 0, .int .i64 0, .int .i64 0, .int .i64 0, .int .i64 0, .int .i64 0, .int .i64 0, .int .i64 0, .slice none 0 0, .int .i64 0, .int .i64 0, .slice none 0 0] 28) := ⟨_, rfl⟩;have hbW : Below w.heap.size w W0 := by rw [hW0]; go_grown
 have hsW : w.heap.size + 2 = W0.heap.size := by rw [hW0]; simp
 have hB0 : W0.heap[w.heap.size]? = some (.cells (storeV s a c fa fc) 28 (0, 0)) := by rw [hW0, Below.heap_alloc _ _ _ (by simp)]; exact blk_new w _
 have hR0 : W0.heap[w.heap.size + 1]? = some (.cells #[.int .i64 0, .int .i64 0, .int .i64 0, .int .i64 0, .int .i64 0, .int .i64 0, .int .i64 0, .int .i64 0, .slice none 0 0, .int .i64 0, .int .i64 0, .slice none 0 0] 28 (0, 0)) := by
  have e : w.heap.size + 1 = (w.alloc (.cells (storeV s a c fa fc) 28)).heap.size := by simp
  rw [hW0, e]; exact blk_new _ _
 have hB : ∀ j v, (storeV s a c fa fc)[j]? = some v → W0.cell? ⟨w.heap.size, j, none⟩ = some v := by
  intro j v hj; rw [hW0, World.cell?_alloc_lt _ _ _ (by simp)]; exact store_block w _ rfl s a c fa fc _ j v hj
 have hZ : ∀ j, W0.frozen? ⟨w.heap.size, j, none⟩ = false := by intro j; rw [hW0]; go_simp
 rw [← hW0];clear hW0;have c8 := hB 8 _ rfl;have c9 := hB 9 _ rfl;have c10 := hB 10 _ rfl;have c11 := hB 11 _ rfl;have HB0 := hid hB0;have HR0 := hid hR0;have HZ := hid hZ;have HBW := hid hbW;have HK0 := hid (Below.keeps hbW);clear hB hB0 hR0 hZ hbW
 go_region_law (first
  | (go_simp; go_at_call 54; go_must (refine (clone_items (s.items.flatMap itemCells) s.items.length a c _ ?_ (flat_length _ 9 _ (fun _ => rfl)) (items_one _) hn).mono ?_); (exact (items_cells HI.out).keep HK0.out); rintro e w1 ⟨v, rfl, how, hb1⟩; obtain ⟨va, vc, rfl⟩ := own_slice how; have d8 := (hb1.cell (p := ⟨w.heap.size, 8, none⟩) (cell_lt c8)).trans c8; have d9 := (hb1.cell (p := ⟨w.heap.size, 9, none⟩) (cell_lt c8)).trans c9; have d10 := (hb1.cell (p := ⟨w.heap.size, 10, none⟩) (cell_lt c8)).trans c10; have d11 := (hb1.cell (p := ⟨w.heap.size, 11, none⟩) (cell_lt c8)).trans c11)
  | (go_simp; go_at_call 55; refine (flash_Copy s.flash fa fc _ ?_ hfn (fun p hp => Nat.le_trans (HF.out.pageB p hp).2 (by decide))).mono ?_; (have hk1 := HK0.out.trans (fun a v hv => Below.keeps hb1 a v hv)); (exact HF.out.keep hk1 (PageR.keep hk1)); rintro e w2 ⟨fv, fvs, rfl, hpm, hb2⟩; obtain ⟨fva, fvc, rfl⟩ := own_slice hpm.row; have e8 := (hb2.cell (p := ⟨w.heap.size, 8, none⟩) (cell_lt d8)).trans d8; have e9 := (hb2.cell (p := ⟨w.heap.size, 9, none⟩) (cell_lt d8)).trans d9; have e10 := (hb2.cell (p := ⟨w.heap.size, 10, none⟩) (cell_lt d8)).trans d10; have e11 := (hb2.cell (p := ⟨w.heap.size, 11, none⟩) (cell_lt d8)).trans d11; have z8 := fun j => (hb2.frozen (p := ⟨w.heap.size, j, none⟩) (cell_lt d8)).trans ((hb1.frozen (p := ⟨w.heap.size, j, none⟩) (cell_lt c8)).trans (HZ.out j))))
 all_goals
  have hlt : w.heap.size + 1 < W0.heap.size := by omega
  have hlt1 : w.heap.size + 1 < w1.heap.size := Nat.lt_of_lt_of_le hlt hb1.size;have hr2 := (hb2.block _ hlt1).trans ((hb1.block _ hlt).trans HR0.out);have hb20 := (hb2.block _ (Nat.lt_of_succ_lt hlt1)).trans ((hb1.block _ (Nat.lt_of_succ_lt hlt)).trans HB0.out);have how2 := owns_below how ⟨hb2.os, hb2.tape, hb2.output, hb2.size, hb2.block⟩;have h12 := (HBW.out.trans (c := W0.drew) ⟨rfl, rfl, rfl, Nat.le_refl _, fun _ _ => rfl⟩).trans ((hb1.trans (hb2.mono hb1.size)).mono (show w.heap.size ≤ W0.heap.size by omega));rw [row4 w2 w.heap.size s a fa va fva c fc vc fvc _ hb20];have hb3 := setRow_heap w2 w.heap.size _ (storeV s va vc fva fvc) _ _ hb20;have hr3 := (setRow_other w2 w.heap.size (w.heap.size + 1) (storeV s va vc fva fvc) (by omega)).trans hr2;have hr4 := setRow_heap _ (w.heap.size + 1) _ (storeV s va vc fva fvc) _ _ hr3;have h14 := (h12.trans (Below.setRow w2 w.heap.size (storeV s va vc fva fvc) (Nat.le_refl _))).trans (Below.setRow _ (w.heap.size + 1) (storeV s va vc fva fvc) (Nat.le_succ _));have HR4 := hid hr4;have H14 := hid h14;have HB3 := hid hb3;have HR3 := hid hr3
  have hab : ∀ k, W0.heap.size ≤ k → ((w2.setRow w.heap.size (storeV s va vc fva fvc)).setRow (w.heap.size + 1) (storeV s va vc fva fvc)).heap[k]? = w2.heap[k]? := fun k hk =>
   (setRow_other _ _ k _ (by omega)).trans (setRow_other _ _ k _ (by omega))
  have HOW := hid (owns_base (owns_above how2 hab) (show w.heap.size ≤ W0.heap.size by omega));have HPM := hid ((hpm.above (fun k hk => hab k (Nat.le_trans hb1.size hk))).base (show w.heap.size ≤ w1.heap.size by omega));clear hab hb1 hb2 how hpm c8 c9 c10 c11 d8 d9 d10 d11 e8 e9 e10 e11 z8 hr2 hb20 how2 h12 hb3 hr3 hr4 h14 HB0 HR0 HZ
  generalize w2.setRow w.heap.size (storeV s va vc fva fvc) = W3 at *
  have k1 : (Tryz.prog.info? 28).map (·.size) = some 12 := by kernel_rfl
  go_wp2_with (first
   | refine wpList_load_row rfl 28 _ rfl w.heap.size rfl _ _ _ _ HB3.out Tryz.underlying28 rfl (by kernel_rfl) ?_
   | refine wpList_store_row rfl 28 _ _ rfl (w.heap.size + 1) _ rfl rfl _ _ HR3.out k1 rfl (store_one _ _ _ _ _) ?_)
 all_goals exact bodyPost_ret (v := .agg (storeV s va vc fva fvc)) (results_cell_row rfl _ _ (w.heap.size + 1) _ _ _ _ rfl HR4.out Tryz.underlying28 rfl k1) rfl ⟨va, vc, fva, fvc, fvs, rfl, HOW.out, HPM.out.world, H14.out⟩
theorem setCells_block (g : Nat) (t : TypeId) (fr : Nat × Nat) : ∀ (vs : List Value) (o : Nat) (w : World) (cur : Array Value), w.heap[g]? = some (.cells cur t fr) → o + vs.length ≤ cur.size →
  (w.setCells g o vs).heap[g]? = some (.cells (cur.toList.take o ++ vs ++ cur.toList.drop (o + vs.length)).toArray t fr)
 | [], o, w, cur, h, _ => by
  rw [World.setCells, h, List.append_nil, List.length_nil, Nat.add_zero, List.take_append_drop]
 | v :: r, o, w, cur, h, hl => by
  have ho : o < cur.size := by simp at hl; omega
  rw [World.setCells, setCell_eq_setRow w g o cur t fr v h];have h2 := setRow_heap w g cur (cur.setIfInBounds o v) t fr h;rw [setCells_block g t fr r (o + 1) _ _ h2 (by simp at hl ⊢; omega)]
  congr 2
  have e1 : (cur.setIfInBounds o v).toList = cur.toList.set o v := by simp
  have e2 : (cur.toList.set o v).take (o + 1) = cur.toList.take o ++ [v] := by
   rw [List.take_succ_eq_append_getElem (by simpa using ho), List.take_set_of_le (Nat.le_refl _)]; simp
  have e3 : (cur.toList.set o v).drop (o + 1 + r.length) = cur.toList.drop (o + (v :: r).length) := by
   rw [List.drop_set_of_lt (by omega), List.length_cons]; congr 1; omega
  rw [e1, e2, e3]; simp
theorem setCells_kept (g : Nat) (w : World) (o : Nat) (vs : List Value) : w.grownBy (w.setCells g o vs) (some g) := by
 induction vs generalizing o w with
 | nil => exact ⟨rfl, rfl, rfl, Nat.le_refl _, fun _ _ _ => rfl⟩
 | cons v r ih =>
  have h1 := ih (w.setCell ⟨g, o, none⟩ v) (o + 1);refine ⟨h1.os, h1.tape, h1.output, ?_, ?_⟩
  ·have := h1.size; rw [World.setCells]; simpa using this
  ·intro k hk hne
   rw [World.setCells, h1.block k (by simpa using hk) hne];exact Below.heap_setCell w ⟨g, o, none⟩ v k (fun e => hne (by rw [e]))
theorem run_clear_wide {P : Program} (w : World) (t e ty : TypeId) (z : Value) (ht : P.underlying t = some (.slice e)) (hv : ∀ w, (zeroValue e).run P w = .ok z w) (h1 : (Builtin.zeroCells z.cells 1).toList.all (·.oneCell') = true) (b o c : Nat)
  (hc : ∀ j, j < z.cells.size → (w.cell? ⟨b, o + j, none⟩).isSome = true) (hf : ∀ j, j < z.cells.size → w.frozen? ⟨b, o + j, none⟩ = false) :
  (Builtin.clear_ #[t] ty #[.slice (some ⟨b, o, none⟩) 1 c]).run P w = .ok (.tuple #[]) (w.setCells b o (Builtin.zeroCells z.cells 1).toList) := by
 have hl : (Builtin.zeroCells z.cells 1).toList.length = z.cells.size := by simp [Builtin.zeroCells]
 have hst := run_storeCells_cells (P := P) b o (Builtin.zeroCells z.cells 1).toList 0 w (by rw [hl]; simpa using hc) (by rw [hl]; simpa using hf) (fun v hv' => List.all_eq_true.1 h1 v hv');simp only [Nat.add_zero] at hst
 simp [Builtin.clear_, run_underlying ht, hv, hst]
def DelEnd (base e size g cap n i : Nat) (xs : List Value) (w : World) (E : Ending) (w' : World) : Prop :=
 E = .returned (.slice (some ⟨g, 0, none⟩) (n - 1) cap) ∧ w'.ownsRow base e size (.slice (some ⟨g, 0, none⟩) (n - 1) cap) (n - 1) (xs.take (i * size) ++ xs.drop ((i + 1) * size)) ∧ w.grownBy w' (some g)
theorem grownBy_trans {a b c : World} {r : Option Nat} (h : a.grownBy b r) (k : b.grownBy c r) : a.grownBy c r :=
 ⟨k.os.trans h.os, k.tape.trans h.tape, k.output.trans h.output, Nat.le_trans h.size k.size, fun j hj hne => (k.block j (Nat.lt_of_lt_of_le hj h.size) hne).trans (h.block j hj hne)⟩
theorem grownBy_drew (w : World) (r : Option Nat) : w.grownBy w.drew r := ⟨rfl, rfl, rfl, Nat.le_refl _, fun _ _ _ => rfl⟩
theorem del_row {w W1 W2 : World} {base e size g cap n i : Nat} {xs : List Value} {zs : List Value} (h : w.ownsRow base e size (.slice (some ⟨g, 0, none⟩) n cap) n xs) (hi : i < n) (hs : 0 < size)
  (h1 : W1 = w.drew.setCells g (i * size) (xs.drop ((i + 1) * size))) (hz : zs.length = size) (h2 : W2 = W1.setCells g ((n - 1) * size) zs) :
  W2.ownsRow base e size (.slice (some ⟨g, 0, none⟩) (n - 1) cap) (n - 1) (xs.take (i * size) ++ xs.drop ((i + 1) * size)) ∧ w.grownBy W2 (some g) := by
 obtain ⟨hx, ⟨hv, _⟩ | ⟨g', cap', cur, hv, hb, hh, hnc, hm, hsz, htk⟩⟩ := h
 ·cases hv
 cases hv
 have hmul : ∀ a b : Nat, a ≤ b → a * size ≤ b * size := fun a b h => Nat.mul_le_mul_right size h
 have m1 := hmul (i + 1) n hi;have m2 := hmul n cap hnc;have m3 : (i + 1) * size = i * size + size := Nat.succ_mul i size;have m4 : (n - 1) * size + size = n * size := by rw [← Nat.succ_mul]; congr 1; omega
 have hdl : (xs.drop ((i + 1) * size)).length = n * size - (i + 1) * size := by rw [List.length_drop, hx]
 have b1 := setCells_block g e (0, 0) (xs.drop ((i + 1) * size)) (i * size) w.drew cur hh (by rw [hdl, hsz]; omega);rw [← h1] at b1;have l0 : (cur.toList.take (i * size)).length = i * size := by rw [List.length_take, Array.length_toList, hsz]; omega
 obtain ⟨mid, hmid⟩ : ∃ mid, mid = cur.toList.take (i * size) ++ xs.drop ((i + 1) * size) ++ cur.toList.drop (i * size + (xs.drop ((i + 1) * size)).length) := ⟨_, rfl⟩;rw [← hmid] at b1
 have l2 : mid.length = cap * size := by
  rw [hmid];simp only [List.length_append, l0, hdl, List.length_drop, Array.length_toList, hsz]; omega
 have b2 := setCells_block g e (0, 0) zs ((n - 1) * size) W1 _ b1 (by rw [List.size_toArray, l2, hz]; omega);rw [← h2] at b2;have e1 : cur.toList.take (i * size) = xs.take (i * size) := by rw [← htk, List.take_take, Nat.min_eq_left (by omega)]
 have l1 : (xs.take (i * size)).length = i * size := by rw [List.length_take, hx]; omega
 have l3 : (xs.take (i * size) ++ xs.drop ((i + 1) * size)).length = (n - 1) * size := by rw [List.length_append, l1, hdl]; omega
 refine ⟨⟨l3, .inr ⟨g, cap, _, rfl, hb, b2, by omega, hm, ?_, ?_⟩⟩, ?_⟩
 ·simp only [List.size_toArray, List.length_append, List.length_take, List.length_drop, l2, hz]; omega
 ·have e2 : mid.take ((n - 1) * size) = xs.take (i * size) ++ xs.drop ((i + 1) * size) := by
   rw [hmid, e1];exact List.take_left' l3
  simp only [e2];rw [List.append_assoc];exact List.take_left' l3
 ·rw [h2, h1]
  exact grownBy_trans (grownBy_trans (grownBy_drew w _) (setCells_kept g _ _ _)) (setCells_kept g _ _ _)
theorem delEnd_mk {base e size g cap n i m : Nat} {xs : List Value} {w W2 : World} (hm : m = n - 1) (h : W2.ownsRow base e size (.slice (some ⟨g, 0, none⟩) (n - 1) cap) (n - 1) (xs.take (i * size) ++ xs.drop ((i + 1) * size)) ∧ w.grownBy W2 (some g)) :
  DelEnd base e size g cap n i xs w (.returned (.slice (some ⟨g, 0, none⟩) m cap)) W2 := by
 subst hm;exact ⟨rfl, h⟩
theorem own_cell {w : World} {base e size g cap n : Nat} {xs : List Value} (h : w.ownsRow base e size (.slice (some ⟨g, 0, none⟩) n cap) n xs) (j : Nat) (hj : j < n * size) : (w.cell? ⟨g, j, none⟩).isSome = true ∧ w.frozen? ⟨g, j, none⟩ = false := by
 obtain ⟨hx, ⟨hv, _⟩ | ⟨g', cap', cur, hv, hb, hh, hnc, hm, hsz, htk⟩⟩ := h
 ·cases hv
 cases hv
 have m2 : n * size ≤ cap * size := Nat.mul_le_mul_right size hnc
 constructor
 ·unfold World.cell?; rw [hh]; simp; omega
 ·unfold World.frozen?; rw [hh]; simp
theorem zero_page : ∀ w, (zeroValue 98).run Tryz.prog w = .ok (.agg #[.int .i64 0, .slice none 0 0]) w := fun w => by kernel_rfl
set_option maxHeartbeats 1000000 in
set_option maxRecDepth 1000000 in
theorem delete_page (base g cap n i : Nat) (xs : List Value) (w : World) (I J : Int) (HI : Hid (I = (i : Int))) (HJ : Hid (J = (i : Int) + 1)) (h : w.ownsRow base 98 2 (.slice (some ⟨g, 0, none⟩) n cap) n xs) (hi : i < n) (hone : xs.all (·.oneCell') = true) :
  Calls Tryz.prog 158 #[.slice (some ⟨g, 0, none⟩) n cap, .int .i64 I, .int .i64 J] w (DelEnd base 98 2 g cap n i xs w) := by
 have e1 := HI.out;have e2 := HJ.out;subst e1 e2;obtain ⟨i0, hi0, hz0, hz1, hz2⟩ := info_parts infoPage;have hx : xs.length = n * 2 := h.1;have hcells := h.cells (g := g) rfl
 have hcap : n ≤ cap ∧ cap ≤ 9223372036854775807 := by
  obtain ⟨_, ⟨hv, _⟩ | ⟨g', cap', cur, hv, hb, hh, hnc, hm, hsz, htk⟩⟩ := h
  ·cases hv
  cases hv
  exact ⟨hnc, le_maxLen hm⟩
 obtain ⟨hnc, hcm⟩ := hcap;obtain ⟨news, hnews⟩ : ∃ news, news = xs.drop ((i + 1) * 2) := ⟨_, rfl⟩;have hlen : news.length = (n - (i + 1)) * 2 := by rw [hnews, List.length_drop, hx, Nat.sub_mul]
 have hsrc0 : ∀ t u, news[t]? = some u → w.drew.cell? ⟨g, (i + 1) * 2 + t, none⟩ = some u := by
  intro t u hu;rw [hnews, List.getElem?_drop] at hu;have := hcells _ _ hu
  rwa [addr_add, Nat.zero_add] at this
 obtain ⟨A, hA, hsrc⟩ : ∃ A : Addr, (if cap = i + 1 then some (⟨g, 0, none⟩ : Addr) else some ⟨g, (i + 1) * 2, none⟩) = some A ∧ Hid (∀ t u, news[t]? = some u → w.drew.cell? (A.add t) = some u) := by
  by_cases hc : cap = i + 1
  ·refine ⟨⟨g, 0, none⟩, by simp [hc], fun t u hu => ?_⟩
   have h0 : news.length = 0 := by rw [hlen]; omega
   rw [List.length_eq_zero_iff.1 h0] at hu
   simp at hu
  ·refine ⟨⟨g, (i + 1) * 2, none⟩, by simp [hc], fun t u hu => ?_⟩
   rw [addr_add];exact hsrc0 t u hu
 have s1 : Hid (news.length = (n - (i + 1)) * 2) := hlen
 have s2 : Hid (∀ u ∈ news, u.oneCell' = true) := by
  intro u hu;rw [hnews] at hu;exact List.all_eq_true.1 hone u (List.mem_of_mem_drop hu)
 have s3 : Hid (∀ t, t < news.length → (w.drew.cell? ⟨g, 0 + i * 2 + t, none⟩).isSome = true ∧ w.drew.frozen? ⟨g, 0 + i * 2 + t, none⟩ = false) := by
  intro t ht;rw [hlen] at ht;rw [Nat.zero_add];exact own_cell h _ (by omega)
 obtain ⟨W1, hW1⟩ : ∃ W1, W1 = w.drew.setCells g (0 + i * 2) news := ⟨_, rfl⟩;have hg1 : w.grownBy W1 (some g) := by rw [hW1]; exact grownBy_trans (grownBy_drew w _) (setCells_kept g _ _ _)
 have hc1 : ∀ j, j < n * 2 → (W1.cell? ⟨g, j, none⟩).isSome = true ∧ W1.frozen? ⟨g, j, none⟩ = false := by
  intro j hj;have h0 := own_cell h j hj;rw [hW1];exact ⟨World.isSome_setCells g _ _ _ _ h0.1, (World.frozen?_setCells g _ _ _ _).trans h0.2⟩
 have hcl : ∀ ty, (Builtin.clear_ #[24] ty #[.slice (some ⟨g, (i + (n - (i + 1))) * 2, none⟩) (n - (i + (n - (i + 1)))) (cap - (i + (n - (i + 1))))]).run Tryz.prog W1 = .ok (.tuple #[]) (W1.setCells g ((i + (n - (i + 1))) * 2) (Builtin.zeroCells (.agg #[.int .i64 0, .slice none 0 0] : Value).cells 1).toList) := by
  intro ty;rw [show n - (i + (n - (i + 1))) = 1 by omega];exact run_clear_wide W1 _ _ ty _ Tryz.underlying24 zero_page (by kernel_rfl) g _ _ (fun j hj => (hc1 _ (by have hj' : j < 2 := hj; omega)).1) (fun j hj => (hc1 _ (by have hj' : j < 2 := hj; omega)).2)
 have X : Hid (W1 = w.drew.setCells g (i * 2) (xs.drop ((i + 1) * 2))) := by show W1 = _; rw [hW1, Nat.zero_add, hnews]
 have hW : Hid (W1 = w.drew.setCells g (0 + i * 2) news) := hW1;have H := hid h;have hic : i ≤ cap := by omega
 have hjc : i + 1 ≤ cap := by omega
 have q1 : ((i : Int) == (i : Int) + 1) = false := by rw [beq_eq_false_iff_ne]; omega
 have q2 : ¬ cap = i + (n - (i + 1)) := by omega
 have p1 : (0 : Int) ≤ (i : Int) + 1 := by omega
 have p2 : (i : Int) + 1 ≤ (n : Int) := by omega
 have p3 : ((i : Int) + 1).toNat = i + 1 := by omega
 clear hW1 hg1 hc1 hsrc0 hcells hnews hlen h hx hone HI HJ
 go_enter Tryz.func158, Tryz.ntmps158
 go_wp2_with fail
 go_region_law (refine step_append_room rfl (.tmp 22) (.tmp 25) 24 rfl 98 i0 2 Tryz.underlying24 hi0 hz1 g 0 i cap (by simp [Act.eval, Act.put]) A (n - (i + 1)) (cap - (i + 1)) news (by simp [Act.eval, Act.put]) s1.out hsrc.out s2.out (by omega) s3.out ?_; rw [← hW.out])
 go_wp2_with fail
 go_ret;exact delEnd_mk (by omega) (del_row (W2 := W1.setCells g ((i + (n - (i + 1))) * 2) (Builtin.zeroCells (.agg #[.int .i64 0, .slice none 0 0] : Value).cells 1).toList) H.out hi (by decide) X.out (by kernel_rfl) (by rw [show n - 1 = i + (n - (i + 1)) by omega]))
theorem zero_item : ∀ w, (zeroValue 83).run Tryz.prog w = .ok (.agg #[.string ByteArray.empty, .int .i64 0, .int .i64 0, .int .i64 0, .int .i64 0, .string ByteArray.empty, .bool false, .int .i64 0, .int .i64 0]) w := fun w => by kernel_rfl
set_option maxHeartbeats 1000000 in
set_option maxRecDepth 1000000 in
theorem delete_item (base g cap n i : Nat) (xs : List Value) (w : World) (I J : Int) (HI : Hid (I = (i : Int))) (HJ : Hid (J = (i : Int) + 1)) (h : w.ownsRow base 83 9 (.slice (some ⟨g, 0, none⟩) n cap) n xs) (hi : i < n) (hone : xs.all (·.oneCell') = true) :
  Calls Tryz.prog 92 #[.slice (some ⟨g, 0, none⟩) n cap, .int .i64 I, .int .i64 J] w (DelEnd base 83 9 g cap n i xs w) := by
 have e1 := HI.out;have e2 := HJ.out;subst e1 e2;obtain ⟨i0, hi0, hz0, hz1, hz2⟩ := info_parts infoItem;have hx : xs.length = n * 9 := h.1;have hcells := h.cells (g := g) rfl
 have hcap : n ≤ cap ∧ cap ≤ 9223372036854775807 := by
  obtain ⟨_, ⟨hv, _⟩ | ⟨g', cap', cur, hv, hb, hh, hnc, hm, hsz, htk⟩⟩ := h
  ·cases hv
  cases hv
  exact ⟨hnc, le_maxLen hm⟩
 obtain ⟨hnc, hcm⟩ := hcap;obtain ⟨news, hnews⟩ : ∃ news, news = xs.drop ((i + 1) * 9) := ⟨_, rfl⟩;have hlen : news.length = (n - (i + 1)) * 9 := by rw [hnews, List.length_drop, hx, Nat.sub_mul]
 have hsrc0 : ∀ t u, news[t]? = some u → w.drew.cell? ⟨g, (i + 1) * 9 + t, none⟩ = some u := by
  intro t u hu;rw [hnews, List.getElem?_drop] at hu;have := hcells _ _ hu
  rwa [addr_add, Nat.zero_add] at this
 obtain ⟨A, hA, hsrc⟩ : ∃ A : Addr, (if cap = i + 1 then some (⟨g, 0, none⟩ : Addr) else some ⟨g, (i + 1) * 9, none⟩) = some A ∧ Hid (∀ t u, news[t]? = some u → w.drew.cell? (A.add t) = some u) := by
  by_cases hc : cap = i + 1
  ·refine ⟨⟨g, 0, none⟩, by simp [hc], fun t u hu => ?_⟩
   have h0 : news.length = 0 := by rw [hlen]; omega
   rw [List.length_eq_zero_iff.1 h0] at hu
   simp at hu
  ·refine ⟨⟨g, (i + 1) * 9, none⟩, by simp [hc], fun t u hu => ?_⟩
   rw [addr_add];exact hsrc0 t u hu
 have s1 : Hid (news.length = (n - (i + 1)) * 9) := hlen
 have s2 : Hid (∀ u ∈ news, u.oneCell' = true) := by
  intro u hu;rw [hnews] at hu;exact List.all_eq_true.1 hone u (List.mem_of_mem_drop hu)
 have s3 : Hid (∀ t, t < news.length → (w.drew.cell? ⟨g, 0 + i * 9 + t, none⟩).isSome = true ∧ w.drew.frozen? ⟨g, 0 + i * 9 + t, none⟩ = false) := by
  intro t ht;rw [hlen] at ht;rw [Nat.zero_add];exact own_cell h _ (by omega)
 obtain ⟨W1, hW1⟩ : ∃ W1, W1 = w.drew.setCells g (0 + i * 9) news := ⟨_, rfl⟩;have hg1 : w.grownBy W1 (some g) := by rw [hW1]; exact grownBy_trans (grownBy_drew w _) (setCells_kept g _ _ _)
 have hc1 : ∀ j, j < n * 9 → (W1.cell? ⟨g, j, none⟩).isSome = true ∧ W1.frozen? ⟨g, j, none⟩ = false := by
  intro j hj;have h0 := own_cell h j hj;rw [hW1];exact ⟨World.isSome_setCells g _ _ _ _ h0.1, (World.frozen?_setCells g _ _ _ _).trans h0.2⟩
 have hcl : ∀ ty, (Builtin.clear_ #[23] ty #[.slice (some ⟨g, (i + (n - (i + 1))) * 9, none⟩) (n - (i + (n - (i + 1)))) (cap - (i + (n - (i + 1))))]).run Tryz.prog W1 = .ok (.tuple #[]) (W1.setCells g ((i + (n - (i + 1))) * 9) (Builtin.zeroCells (.agg #[.string ByteArray.empty, .int .i64 0, .int .i64 0, .int .i64 0, .int .i64 0, .string ByteArray.empty, .bool false, .int .i64 0, .int .i64 0] : Value).cells 1).toList) := by
  intro ty;rw [show n - (i + (n - (i + 1))) = 1 by omega];exact run_clear_wide W1 _ _ ty _ Tryz.underlying23 zero_item (by kernel_rfl) g _ _ (fun j hj => (hc1 _ (by have hj' : j < 9 := hj; omega)).1) (fun j hj => (hc1 _ (by have hj' : j < 9 := hj; omega)).2)
 have X : Hid (W1 = w.drew.setCells g (i * 9) (xs.drop ((i + 1) * 9))) := by show W1 = _; rw [hW1, Nat.zero_add, hnews]
 have hW : Hid (W1 = w.drew.setCells g (0 + i * 9) news) := hW1;have H := hid h;have hic : i ≤ cap := by omega
 have hjc : i + 1 ≤ cap := by omega
 have q1 : ((i : Int) == (i : Int) + 1) = false := by rw [beq_eq_false_iff_ne]; omega
 have q2 : ¬ cap = i + (n - (i + 1)) := by omega
 have p1 : (0 : Int) ≤ (i : Int) + 1 := by omega
 have p2 : (i : Int) + 1 ≤ (n : Int) := by omega
 have p3 : ((i : Int) + 1).toNat = i + 1 := by omega
 clear hW1 hg1 hc1 hsrc0 hcells hnews hlen h hx hone HI HJ
 go_enter Tryz.func92, Tryz.ntmps92
 go_wp2_with fail
 go_region_law (refine step_append_room rfl (.tmp 22) (.tmp 25) 23 rfl 83 i0 9 Tryz.underlying23 hi0 hz1 g 0 i cap (by simp [Act.eval, Act.put]) A (n - (i + 1)) (cap - (i + 1)) news (by simp [Act.eval, Act.put]) s1.out hsrc.out s2.out (by omega) s3.out ?_; rw [← hW.out])
 go_wp2_with fail
 go_ret;exact delEnd_mk (by omega) (del_row (W2 := W1.setCells g ((i + (n - (i + 1))) * 9) (Builtin.zeroCells (.agg #[.string ByteArray.empty, .int .i64 0, .int .i64 0, .int .i64 0, .int .i64 0, .string ByteArray.empty, .bool false, .int .i64 0, .int .i64 0] : Value).cells 1).toList) H.out hi (by decide) X.out (by kernel_rfl) (by rw [show n - 1 = i + (n - (i + 1)) by omega]))
def CopyRel (f : Flash) (a : Option Addr) (c : Nat) (w : World) (k : Nat) (vs : List Value) (va : Option Addr) (vc : Nat) (wr : World) : Prop :=
 PagesOwn (w.heap.size + 3) wr (.slice va k vc) (f.pages.take k) vs ∧ Below w.heap.size w wr ∧ w.heap.size + 3 ≤ wr.heap.size ∧
  wr.cell? ⟨w.heap.size, 2, none⟩ = some (.slice a f.pages.length c) ∧ wr.cell? ⟨w.heap.size + 1, 0, none⟩ = some (.int .i64 0) ∧ wr.cell? ⟨w.heap.size + 1, 1, none⟩ = some (.int .i64 0) ∧ wr.cell? ⟨w.heap.size + 1, 2, none⟩ = some (.slice none 0 0) ∧ (∀ j, wr.frozen? ⟨w.heap.size + 1, j, none⟩ = false) ∧
  wr.cell? ⟨w.heap.size + 2, 0, none⟩ = some (.int .i64 f.most) ∧ wr.cell? ⟨w.heap.size + 2, 1, none⟩ = some (.int .i64 f.next) ∧ wr.cell? ⟨w.heap.size + 2, 2, none⟩ = some (.slice va k vc) ∧ (∀ j, wr.frozen? ⟨w.heap.size + 2, j, none⟩ = false)
theorem cell_setCell_off {w : World} {b o o' : Nat} {v y : Value} (h : w.cell? ⟨b, o, none⟩ = some v) (hne : o ≠ o') : (w.setCell ⟨b, o', none⟩ y).cell? ⟨b, o, none⟩ = some v := by
 rw [World.cell?_setCell_other _ _ _ _ (fun e => hne (by cases e; rfl))]; exact h
theorem frozen_set {w : World} {a : Addr} {v : Value} {b j : Nat} (h : w.frozen? ⟨b, j, none⟩ = false) : (w.setCell a v).frozen? ⟨b, j, none⟩ = false := by
 have := World.frozen?_setCells a.block [v] a.off w ⟨b, j, none⟩;go_simp
theorem CopyRel.more {f : Flash} {a : Option Addr} {c : Nat} {w : World} {k : Nat} {vs : List Value} {va : Option Addr} {vc : Nat} {wr W w2 : World} (h : CopyRel f a c w k vs va vc wr) (hb : Below wr.heap.size wr W) {pn : Int} {pb : Str} {u : Value} {gp cp : Nat}
  (hk : k < f.pages.length) (hT : Hid (f.pages.take (k + 1) = f.pages.take k ++ [⟨pn, pb⟩]))
  (hrow : w2.ownsRow (w.heap.size + 3) 98 2 (.slice (some ⟨gp, 0, none⟩) (k + 1) cp) (k + 1) (pageCells (f.pages.take k) vs ++ [.int .i64 pn, u]))
  (hg : W.grownBy w2 (Value.slice va k vc).ownBlock) (hu : W.ownsRow (w.heap.size + 3) 5 1 u pb.length (pb.map byteV)) (hnew : ∀ b, u.ownBlock = some b → wr.heap.size ≤ b) :
  CopyRel f a c w (k + 1) (vs ++ [u]) (some ⟨gp, 0, none⟩) cp (w2.setCell ⟨w.heap.size + 2, 2, none⟩ (.slice (some ⟨gp, 0, none⟩) (k + 1) cp)) := by
 obtain ⟨hP, hbl, hsz, d2, r0, r1, r2, rz, o0, o1, o2, oz⟩ := h;have hl : (f.pages.take k).length = k := by rw [List.length_take]; omega
 have hrowW := owns_below hP.row hb
 have hsmall : ∀ b, b < w.heap.size + 3 → w2.heap[b]? = wr.heap[b]? := by
  intro b hb3;rw [hg.block b (Nat.lt_of_lt_of_le (by omega) hb.size) (fun e => by have := (hrowW.lt b e.symm).1; omega), hb.block b (by omega)]
 have cc : ∀ {b j : Nat} {x : Value}, b < w.heap.size + 3 → wr.cell? ⟨b, j, none⟩ = some x → w2.cell? ⟨b, j, none⟩ = some x := fun hb3 h => (World.cell?_of_block (w := wr) (hsmall _ hb3)).trans h
 have ff : ∀ {b j : Nat}, b < w.heap.size + 3 → wr.frozen? ⟨b, j, none⟩ = false → w2.frozen? ⟨b, j, none⟩ = false := fun hb3 h => (World.frozen?_of_block (w := wr) (hsmall _ hb3)).trans h
 have hP2 : PagesOwn (w.heap.size + 3) w2 (.slice (some ⟨gp, 0, none⟩) (k + 1) cp) (f.pages.take (k + 1)) (vs ++ [u]) := by
  rw [hT.out];refine hP.snoc (fun x m xs hx => (owns_below hx hb).kept hg (own_types (owns_below hx hb) hrowW (by decide))) (hu.kept hg (own_types hu hrowW (by decide))) hnew ?_;rw [hl]; exact hrow
 refine ⟨?_, ?_, ?_, ?_, ?_, ?_, ?_, ?_, ?_, ?_, ?_, ?_⟩
 ·exact (hP2.setCell_below (a := ⟨w.heap.size + 2, 2, none⟩) (by show w.heap.size + 2 < w.heap.size + 3; omega) _).world
 ·have hbw : Below w.heap.size w w2 := (hbl.trans (hb.mono hbl.size)).grown hg (Nat.le_trans hbl.size hb.size) (fun b e => by have := (hrowW.lt b e).1; omega)
  exact hbw.setCell (by show w.heap.size ≤ w.heap.size + 2; omega) _
 ·have := hg.size
  have h2 := hb.size;show w.heap.size + 3 ≤ (w2.setCell _ _).heap.size
  simp; omega
 ·exact cell_setCell_ne (cc (by omega) d2) (by omega)
 ·exact cell_setCell_ne (cc (by omega) r0) (by omega)
 ·exact cell_setCell_ne (cc (by omega) r1) (by omega)
 ·exact cell_setCell_ne (cc (by omega) r2) (by omega)
 ·intro j; exact frozen_set (ff (by omega) (rz j))
 ·exact cell_setCell_off (cc (by omega) o0) (by omega)
 ·exact cell_setCell_off (cc (by omega) o1) (by omega)
 ·exact setCell_self (cc (by omega) o2)
 ·intro j; exact frozen_set (ff (by omega) (oz j))
theorem take_snocP (ps : List Page) (k : Nat) (hk : k < ps.length) : ps.take (k + 1) = ps.take k ++ [ps[k]] := List.take_succ_eq_append_getElem hk
theorem news_bytes {w : World} {b o : Nat} {l : Str} (h : ∀ i (hi : i < l.length), w.cell? ⟨b, o + i, none⟩ = some (.int .u8 (l[i].toNat : Int))) : ∀ j u, (l.map byteV)[j]? = some u → w.cell? ((⟨b, o, none⟩ : Addr).add j) = some u := by
 intro j u hu;obtain ⟨hj, hv⟩ := List.getElem?_eq_some_iff.1 hu;rw [addr_add, h j (by simpa using hj), ← hv]; simp
def SameTo (n : Nat) (w w' : World) : Prop := ∀ b, b < n → w'.heap[b]? = w.heap[b]?
theorem SameTo.refl (n : Nat) (w : World) : SameTo n w w := fun _ _ => rfl
theorem SameTo.cell {n : Nat} {w w' : World} (h : SameTo n w w') {b o : Nat} {v : Value} (hb : b < n) (hc : w.cell? ⟨b, o, none⟩ = some v) : w'.cell? ⟨b, o, none⟩ = some v :=
 (World.cell?_of_block (w := w) (h b hb)).trans hc
theorem SameTo.free {n : Nat} {w w' : World} (h : SameTo n w w') {b o : Nat} {x : Bool} (hb : b < n) (hc : w.frozen? ⟨b, o, none⟩ = x) : w'.frozen? ⟨b, o, none⟩ = x :=
 (World.frozen?_of_block (w := w) (h b hb)).trans hc
theorem SameTo.grown {n : Nat} {w w' w2 : World} {row : Option Nat} (h : SameTo n w w') (hg : w'.grownBy w2 row) (hn : n ≤ w'.heap.size) (hr : ∀ b, row = some b → n ≤ b) : SameTo n w w2 := fun b hb =>
 (hg.block b (by omega) (fun e => by have := hr b e.symm; omega)).trans (h b hb)
theorem SameTo.alloc {n : Nat} {w w' : World} (h : SameTo n w w') (hn : n ≤ w'.heap.size) (o : Obj) : SameTo n w (w'.alloc o) := fun b hb =>
 (Below.heap_alloc w' o b (by omega)).trans (h b hb)
theorem step_bytes {ops : Array Oper} {o : Oper} {a : Act} {K : Act → World → Prop} {Q : Exit → Act → World → Prop} {E : Prop} (W : World) (hgd : o.guard = none) (s x : Operand)
  (ho : o.op = .call { callee := .builtin .append, args := #[s, x], argTypes := #[63, 63] }) (base c : Nat) (ad : Option Addr) (l : Str)
  (hs : a.eval s = .slice none 0 0) (hx : a.eval x = .slice ad l.length c) (hn : BytesAt W ad l)
  (hk : l.length ≤ 140737488355328) (hbase : base ≤ W.heap.size)
  (h : ∀ ua uc w', w'.ownsRow base 5 1 (.slice ua l.length uc) l.length (l.map byteV) → W.grownBy w' none → (∀ b, (Value.slice ua l.length uc).ownBlock = some b → W.heap.size ≤ b) → K (a.put o.dst (.slice ua l.length uc)) w') :
  if Region.wanted o (yielded ops a.tmps) = true then Oper.wp Tryz.prog o a W K Q else E := by
 obtain ⟨j0, hj, hw0, hw1, hw2⟩ := info_parts infoByte
 rcases Nat.eq_zero_or_pos l.length with h0 | h0
 ·obtain rfl := List.eq_nil_of_length_eq_zero h0
  have hw : Region.wanted o (yielded ops a.tmps) = true := by simp [Region.wanted, hgd]
  rw [if_pos hw]
  have hr : (Builtin.append_ #[63, 63] o.type #[.slice none 0 0, .slice ad 0 c]).run Tryz.prog W = .ok (.slice none 0 0) W := by
   cases ad with
   | none => simp [Builtin.append_, go_sem]
   | some ad => simp [Builtin.append_, go_sem]
  unfold Oper.wp execOp;simp only [ho, resolve, invoke, builtin, Sem.run_bind, Sem.run_pure, Result.andThen_ok, List.map_toArray, List.map_cons, List.map_nil, hs, hx, List.length_nil, hr];exact h _ _ _ (World.ownsRow_nil _ _ _ _) ⟨rfl, rfl, rfl, Nat.le_refl _, fun _ _ _ => rfl⟩ (fun b h => by cases h)
 ·obtain ⟨b, of, rfl, hc⟩ := hn.pos h0
  refine step_append_lies W hgd s x _ ho base 5 j0 _ 1 1 Tryz.underlying63 hj hw0 hw1 hw2 rfl (by decide) (.slice none 0 0) 0 [] hs (World.ownsRow_nil _ _ _ _) ⟨b, of, none⟩ l.length c (l.map byteV) hx (by simp) (news_bytes hc) (by simp [Value.oneCell']) h0 (by unfold maxLen; omega) (by omega) hbase _ rfl ?_;intro g cap w' h1 h2 h3 h4;rw [Nat.zero_add] at h1 ⊢;rw [List.nil_append] at h1;refine h _ _ w' h1 h2 (fun b hb => ?_)
  cases hb
  rcases h3 with h3 | h3
  ·cases h3
  ·exact Nat.le_of_eq h3.symm
theorem step_page {ops : Array Oper} {o : Oper} {a : Act} {K : Act → World → Prop} {Q : Exit → Act → World → Prop} {E : Prop} (W : World) (hgd : o.guard = none) (s x : Operand)
  (ho : o.op = .call { callee := .builtin .append, args := #[s, x], argTypes := #[24, 24] }) (base k B : Nat) (v u : Value) (pn : Int) (xs : List Value)
  (hs : a.eval s = v) (hx : a.eval x = .slice (some ⟨B, 0, none⟩) 1 1) (hown : W.ownsRow base 98 2 v k xs) (hb : W.heap[B]? = some (.cells #[.int .i64 pn, u] 98 (0, 0))) (hu : u.oneCell' = true)
  (hk : (k + 1) * 32 ≤ 140737488355328) (hbase : base ≤ W.heap.size)
  (h : ∀ g cap w', w'.ownsRow base 98 2 (.slice (some ⟨g, 0, none⟩) (k + 1) cap) (k + 1) (xs ++ [.int .i64 pn, u]) → W.grownBy w' v.ownBlock → (v.ownBlock = some g ∨ g = W.heap.size) → g < w'.heap.size → K (a.put o.dst (.slice (some ⟨g, 0, none⟩) (k + 1) cap)) w') :
  if Region.wanted o (yielded ops a.tmps) = true then Oper.wp Tryz.prog o a W K Q else E := by
 obtain ⟨j0, hj, hw0, hw1, hw2⟩ := info_parts infoPage;exact step_append_lies W hgd s x _ ho base 98 j0 _ 2 32 Tryz.underlying24 hj hw0 hw1 hw2 rfl (by decide) v k xs hs hown ⟨B, 0, none⟩ 1 1 [.int .i64 pn, u] hx rfl (World.news_of_block hb) (ones (by rw [List.all_cons, List.all_cons, hu]; rfl)) (by decide) (by unfold maxLen; omega) hk hbase _ rfl h
set_option maxHeartbeats 2000000 in
set_option maxRecDepth 100000 in
theorem ref_FlashCopy (f : Flash) (a : Option Addr) (c : Nat) (w : World) (h : RowsAt w a 2 (PageR w) f.pages) (hn : f.pages.length * 32 ≤ 140737488355328)
  (hby : ∀ p ∈ f.pages, p.bytes.length ≤ 140737488355328) :
  Calls Tryz.prog 27 #[.agg #[.int .i64 f.most, .int .i64 f.next, .slice a f.pages.length c]] w (CopyEnd f w) := by
 have H := hid h
 have HB := hid hby
 clear h hby
 go_enter Tryz.func27, Tryz.ntmps27
 go_wp2_with fail
 go_loopg [4] f.pages.length (fun g i wr => ∃ k : Nat, ∃ vs va vc, g + k = f.pages.length ∧ i = .int .i64 k ∧ CopyRel f a c w k vs va vc wr)
 case atStart => exact ⟨0, [], none, 0, by omega, rfl, by unfold CopyRel; exact ⟨PagesOwn.mk rfl (World.ownsRow_nil _ _ _ _) (fun j p u h => by simp at h) (fun i j u u' b _ h => by simp at h), by go_grown, by go_size, by go_simp, by go_simp, by go_simp, by go_simp, fun j => by go_simp, by go_simp, by go_simp, by go_simp, fun j => by go_simp⟩⟩
 case round =>
  obtain ⟨k, vs, va, vc, hgk, rfl, hcr⟩ := hrel;have HCR := hid hcr;obtain ⟨hp, hbl, hsz, d2, r0, r1, r2, rz, o0, o1, o2, oz⟩ := hcr;have HP := hid hp;clear hp
  by_cases hlt : k < f.pages.length
  ·
   obtain ⟨b, o, rfl, hc⟩ := H.out.pos (by omega);obtain ⟨cs, _, ⟨hI, ba, bc, hcs, hby, hb1, hb2, hb3⟩, h3⟩ := hc k hlt;have HT := hid (take_snocP f.pages k hlt);obtain ⟨p, hp⟩ : ∃ p, p = f.pages[k] := ⟨_, rfl⟩;rw [← hp] at hcs hby hb1 hb2 hI HT;obtain ⟨pn, pb⟩ := p;simp only at hcs hby hb1 hb2 hI HT;subst hcs;have hkp := Below.keeps hbl;have cw0 := h3 0 _ rfl;rw [Nat.add_zero] at cw0;have hbw : b < w.heap.size := cell_lt cw0;have c0 := hkp _ _ cw0;have c1 := hkp _ _ (h3 1 _ rfl);have HBY : Hid (∀ w', Keeps w w' → BytesAt w' ba pb) := fun w' q => BytesAt.keep hby q
   have HKP := hid hkp;have hl1 : List.length pb ≤ 140737488351232 := hb1;have HROW := hid (show wr.ownsRow (w.heap.size + 3) 98 2 (.slice va k vc) k (pageCells (f.pages.take k) vs) by have h := HP.out.row; rwa [List.length_take, Nat.min_eq_left (by omega)] at h);clear hby hkp h3 hc hp hI hb1 cw0;have hkk : (k + 1) * 32 ≤ 140737488355328 := by omega
   have C0 := hid c0;have C1 := hid c1;have D2 := hid d2;have O2 := hid o2;have OZ := hid oz;have S0 : SameTo (w.heap.size + 3) wr wr.drew := SameTo.refl _ _;clear c0 c1 o2 oz r0 r1 r2 rz o0 o1 hbl
   go_upto_block 1 with (fail)
   go_cut [] (fun wx => ∃ vs' va' vc', CopyRel f (some ⟨b, o, none⟩) c w (k + 1) vs' va' vc' wx)
   case first =>
    go_wp2_with fail
    refine wp_region_L (SameTo (w.heap.size + 3) wr) 19 20 (by kernel_rfl) (by kernel_rfl) S0 (fun hHeld => ?_);refine tk 0 ?_ rfl (fun _ _ _ h=>h) (y:=?_) (h:=?_);rotate_left
    ·intro wS hSw; go_simp<;>with_reducible rfl
    walk_nrm;refine tk 1 ?_ rfl (fun _ _ _ h=>h) (y:=?_) (h:=?_);rotate_left
    ·intro wS hSw; have q := hSw.cell (by omega) O2.out; go_simp<;>with_reducible rfl
    walk_nrm;refine tk 2 ?_ rfl (fun _ _ _ h=>h) (y:=?_) (h:=?_);rotate_left
    ·intro wS hSw; go_simp<;>with_reducible rfl
    walk_nrm;refine tk 3 ?_ rfl (fun _ _ _ h=>h) (y:=?_) (h:=?_);rotate_left
    ·intro wS hSw; have q := hSw.cell (by omega) D2.out; go_simp<;>with_reducible rfl
    walk_nrm;refine tk 4 ?_ rfl (fun _ _ _ h=>h) (y:=?_) (h:=?_);rotate_left
    ·intro wS hSw; go_simp<;>with_reducible rfl
    walk_nrm;refine tk 5 ?_ rfl (fun _ _ _ h=>h) (y:=?_) (h:=?_);rotate_left
    ·intro wS hSw; go_simp<;>with_reducible rfl
    walk_nrm;refine tk 6 ?_ rfl (fun _ _ _ h=>h) (y:=?_) (h:=?_);rotate_left
    ·intro wS hSw; go_simp<;>with_reducible rfl
    walk_nrm;refine tk 7 ?_ rfl (fun _ _ _ h=>h) (y:=?_) (h:=?_);rotate_left
    ·intro wS hSw; have q := hSw.cell (by omega) C0.out; go_simp<;>with_reducible rfl
    walk_nrm;refine tk 8 ?_ rfl (fun _ _ _ h=>h) (y:=?_) (h:=?_);rotate_left
    ·intro wS hSw; go_simp<;>with_reducible rfl
    walk_nrm;refine tk 9 ?_ rfl (fun _ _ _ h=>h) (y:=?_) (h:=?_);rotate_left
    ·intro wS hSw; have q := hSw.cell (by omega) D2.out; go_simp<;>with_reducible rfl
    walk_nrm;refine tk 10 ?_ rfl (fun _ _ _ h=>h) (y:=?_) (h:=?_);rotate_left
    ·intro wS hSw; go_simp<;>with_reducible rfl
    walk_nrm;refine tk 11 ?_ rfl (fun _ _ _ h=>h) (y:=?_) (h:=?_);rotate_left
    ·intro wS hSw; go_simp<;>with_reducible rfl
    walk_nrm;refine tk 12 ?_ rfl (fun _ _ _ h=>h) (y:=?_) (h:=?_);rotate_left
    ·intro wS hSw; go_simp<;>with_reducible rfl
    walk_nrm;refine tk 13 ?_ rfl (fun _ _ _ h=>h) (y:=?_) (h:=?_);rotate_left
    ·intro wS hSw; have q := hSw.cell (by omega) C1.out; go_simp<;>with_reducible rfl
    walk_nrm;refine wpAnyL_step (i := 14) rfl (by kernel_rfl) (fun K hK => ?_);refine step_bytes _ rfl (.const (.slice none 0 0)) (.tmp 30) rfl (w.heap.size + 3) bc ba pb rfl rfl (HBY.out _ HKP.out) (by omega) hsz ?_;intro ua uc w2 hu hg1 hnew;have hz2 : w.heap.size + 3 ≤ w2.heap.size := Nat.le_trans hsz hg1.size;have S1 : SameTo (w.heap.size + 3) wr w2 := S0.grown hg1 hsz (fun b h => by cases h);have Hb1 : Hid (Below wr.heap.size wr w2) := Below.grown (Below.refl _ _).drew hg1 (Nat.le_refl _) (fun b h => by cases h);have HU := hid hu;have HN := hid hnew;refine hK.out _ _ S1 (fun hHeld1 => ?_);clear hK K hu hg1 hnew S0 hHeld;walk_nrm;refine tk 15 ?_ rfl (fun _ _ _ h=>h) (y:=?_) (h:=?_);rotate_left
    ·intro wS hSw; go_simp<;>with_reducible rfl
    walk_nrm;refine wpAnyL_step (i := 16) rfl (by kernel_rfl) (fun K hK => ?_);go_simp;have hz3 : w.heap.size + 3 ≤ (w2.alloc (.cells #[.int .i64 pn, .slice ua pb.length uc] 98)).heap.size := by simp; omega
    have S2 : SameTo (w.heap.size + 3) wr (w2.alloc (.cells #[.int .i64 pn, .slice ua pb.length uc] 98)) := S1.alloc hz2 _;have HB2 : Hid (Below wr.heap.size wr (w2.alloc (.cells #[.int .i64 pn, .slice ua pb.length uc] 98))) := Hb1.out.alloc Hb1.out.size _;have Hblk : Hid ((w2.alloc (.cells #[.int .i64 pn, .slice ua pb.length uc] 98)).heap[w2.heap.size]? = some (.cells #[.int .i64 pn, .slice ua pb.length uc] 98 (0, 0))) := blk_new w2 _;have Hown : Hid ((w2.alloc (.cells #[.int .i64 pn, .slice ua pb.length uc] 98)).ownsRow (w.heap.size + 3) 98 2 (.slice va k vc) k (pageCells (f.pages.take k) vs)) := owns_below HROW.out HB2.out;have HU2 : Hid ((w2.alloc (.cells #[.int .i64 pn, .slice ua pb.length uc] 98)).ownsRow (w.heap.size + 3) 5 1 (.slice ua pb.length uc) pb.length (pb.map byteV)) := HU.out.alloc _;refine hK.out _ _ S2 (fun hHeld2 => ?_);clear hK K S1 hHeld1;walk_nrm;refine wpAnyL_step (i := 17) rfl (by kernel_rfl) (fun K hK => ?_);refine step_page _ rfl (.tmp 18) (.tmp 33) rfl (w.heap.size + 3) k w2.heap.size (.slice va k vc) (.slice ua pb.length uc) pn _ rfl rfl Hown.out Hblk.out rfl hkk hz3 ?_;intro gp cp w3 how3 hgr3 hat3 hlt3;have S3 : SameTo (w.heap.size + 3) wr w3 := S2.grown hgr3 hz3 (fun b h => (Hown.out.lt b h).1);have HR3 := hid (HCR.out.more HB2.out hlt HT how3 hgr3 HU2.out HN.out);refine hK.out _ _ S3 (fun hHeld3 => ?_);clear hK K S2 hHeld2 how3 hgr3 hat3;walk_nrm;refine tk 18 ?_ rfl (fun _ _ _ h=>h) (y:=?_) (h:=?_);rotate_left
    ·intro wS hSw; go_simp<;>with_reducible rfl
    walk_nrm;refine wpAnyL_last rfl (by kernel_rfl) (fun K hK => ?_);have q := S3.cell (by omega) O2.out;have qz := fun j => S3.free (o := j) (by omega) (OZ.out j)
    go_simp;refine hK.out _ _ ?_;clear hK K;walk_nrm;refine wpAnyL_done (by kernel_rfl) ?_ _
    go_wp2_with fail
    go_meet;exact ⟨_, _, _, HR3.out⟩
   case rest =>
    obtain ⟨vs', va', vc', hcr'⟩ := hcut
    go_wp2_with fail
    go_roundg (gk - 1)
    case measure => omega
    case rel => exact ⟨k + 1, vs', va', vc', by omega, by go_num, hcr'⟩
  ·
   obtain rfl : k = f.pages.length := by omega
   have HP2 : Hid (PagesOwn (w.heap.size + 3) wr (.slice va f.pages.length vc) f.pages vs) := by
    have h := HP.out;rw [List.take_length] at h;exact h
   clear HP
   go_wp2_with fail
   refine bodyPost_ret (v := .agg #[.int .i64 f.most, .int .i64 f.next, .slice va f.pages.length vc]) (by simp [results, Tryz.results27, go_sem, r0, r1, r2]) rfl ⟨_, vs, rfl, ?_, ?_⟩
   ·have h3 := ((HP2.out.setCell_below (a := ⟨w.heap.size + 1, 0, none⟩) (by show w.heap.size + 1 < w.heap.size + 3; omega) (.int .i64 f.most)).setCell_below (a := ⟨w.heap.size + 1, 1, none⟩) (by show w.heap.size + 1 < w.heap.size + 3; omega) (.int .i64 f.next)).setCell_below (a := ⟨w.heap.size + 1, 2, none⟩) (by show w.heap.size + 1 < w.heap.size + 3; omega) (.slice va f.pages.length vc)
    exact (h3.world).base (by omega)
   ·exact ((hbl.setCell (by show w.heap.size ≤ w.heap.size + 1; omega) _).setCell (by show w.heap.size ≤ w.heap.size + 1; omega) _).setCell (by show w.heap.size ≤ w.heap.size + 1; omega) _
structure Box3 (w : World) (F : Nat) (x y z : Value) : Prop where
 a : w.cell? ⟨F, 0, none⟩ = some x
 b : w.cell? ⟨F, 1, none⟩ = some y
 c : w.cell? ⟨F, 2, none⟩ = some z
 free : ∀ j, w.frozen? ⟨F, j, none⟩ = false
structure Box2 (w : World) (F : Nat) (x y : Value) : Prop where
 a : w.cell? ⟨F, 0, none⟩ = some x
 b : w.cell? ⟨F, 1, none⟩ = some y
 free : ∀ j, w.frozen? ⟨F, j, none⟩ = false
theorem Box3.lt {w : World} {F : Nat} {x y z : Value} (h : Box3 w F x y z) : F < w.heap.size := cell_lt h.a
theorem Box2.lt {w : World} {F : Nat} {x y : Value} (h : Box2 w F x y) : F < w.heap.size := cell_lt h.a
theorem Box3.same {w w' : World} {F : Nat} {x y z : Value} (h : Box3 w F x y z) (hb : w'.heap[F]? = w.heap[F]?) : Box3 w' F x y z :=
 ⟨(World.cell?_of_block (w := w) hb).trans h.a, (World.cell?_of_block (w := w) hb).trans h.b, (World.cell?_of_block (w := w) hb).trans h.c, fun j => (World.frozen?_of_block (w := w) hb).trans (h.free j)⟩
theorem Box2.same {w w' : World} {F : Nat} {x y : Value} (h : Box2 w F x y) (hb : w'.heap[F]? = w.heap[F]?) : Box2 w' F x y :=
 ⟨(World.cell?_of_block (w := w) hb).trans h.a, (World.cell?_of_block (w := w) hb).trans h.b, fun j => (World.frozen?_of_block (w := w) hb).trans (h.free j)⟩
theorem Box3.below {w w' : World} {F : Nat} {x y z : Value} (h : Box3 w F x y z) (hb : Below w.heap.size w w') : Box3 w' F x y z := h.same (hb.block F h.lt)
theorem Box2.below {w w' : World} {F : Nat} {x y : Value} (h : Box2 w F x y) (hb : Below w.heap.size w w') : Box2 w' F x y := h.same (hb.block F h.lt)
theorem Box3.grown {w w' : World} {F : Nat} {x y z : Value} {r : Option Nat} (h : Box3 w F x y z) (hg : w.grownBy w' r) (hn : r ≠ some F) : Box3 w' F x y z := h.same (hg.block F h.lt (fun e => hn e.symm))
theorem Box2.grown {w w' : World} {F : Nat} {x y : Value} {r : Option Nat} (h : Box2 w F x y) (hg : w.grownBy w' r) (hn : r ≠ some F) : Box2 w' F x y := h.same (hg.block F h.lt (fun e => hn e.symm))
theorem Box3.far {w : World} {F b o : Nat} {x y z v : Value} (h : Box3 w F x y z) (hn : b ≠ F) : Box3 (w.setCell ⟨b, o, none⟩ v) F x y z := h.same (Below.heap_setCell w ⟨b, o, none⟩ v F (fun e => hn e.symm))
theorem Box2.far {w : World} {F b o : Nat} {x y v : Value} (h : Box2 w F x y) (hn : b ≠ F) : Box2 (w.setCell ⟨b, o, none⟩ v) F x y := h.same (Below.heap_setCell w ⟨b, o, none⟩ v F (fun e => hn e.symm))
theorem Box3.seta {w : World} {F : Nat} {x y z v : Value} (h : Box3 w F x y z) : Box3 (w.setCell ⟨F, 0, none⟩ v) F v y z :=
 ⟨setCell_self h.a, cell_setCell_off h.b (by omega), cell_setCell_off h.c (by omega), fun j => frozen_set (h.free j)⟩
theorem Box3.setb {w : World} {F : Nat} {x y z v : Value} (h : Box3 w F x y z) : Box3 (w.setCell ⟨F, 1, none⟩ v) F x v z :=
 ⟨cell_setCell_off h.a (by omega), setCell_self h.b, cell_setCell_off h.c (by omega), fun j => frozen_set (h.free j)⟩
theorem Box3.setc {w : World} {F : Nat} {x y z v : Value} (h : Box3 w F x y z) : Box3 (w.setCell ⟨F, 2, none⟩ v) F x y v :=
 ⟨cell_setCell_off h.a (by omega), cell_setCell_off h.b (by omega), setCell_self h.c, fun j => frozen_set (h.free j)⟩
theorem Box2.seta {w : World} {F : Nat} {x y v : Value} (h : Box2 w F x y) : Box2 (w.setCell ⟨F, 0, none⟩ v) F v y :=
 ⟨setCell_self h.a, cell_setCell_off h.b (by omega), fun j => frozen_set (h.free j)⟩
theorem Box2.setb {w : World} {F : Nat} {x y v : Value} (h : Box2 w F x y) : Box2 (w.setCell ⟨F, 1, none⟩ v) F x v :=
 ⟨cell_setCell_off h.a (by omega), setCell_self h.b, fun j => frozen_set (h.free j)⟩
theorem Box3.alloc {w : World} {F : Nat} {x y z : Value} (h : Box3 w F x y z) (o : Obj) : Box3 (w.alloc o) F x y z := h.same (Below.heap_alloc w o F h.lt)
theorem Box2.alloc {w : World} {F : Nat} {x y : Value} (h : Box2 w F x y) (o : Obj) : Box2 (w.alloc o) F x y := h.same (Below.heap_alloc w o F h.lt)
theorem PagesMid.below {base : Nat} {w w' : World} {v : Value} {ps : List Page} {vs : List Value} (h : PagesOwn base w v ps vs) (hb : Below w.heap.size w w') : PagesOwn base w' v ps vs := h.kept (fun k _ hk => hb.block k hk)
theorem PagesMid.lastOf {base : Nat} {w : World} {va : Option Addr} {n vc : Nat} {front : List Page} {num : Int} {by' : Str} {vs : List Value} (h : PagesOwn base w (.slice va n vc) (front ++ [⟨num, by'⟩]) vs) :
  ∃ g ba bc vs', va = some ⟨g, 0, none⟩ ∧ base ≤ g ∧ g < w.heap.size ∧ n ≤ vc ∧ vs = vs' ++ [.slice ba by'.length bc] ∧ vs'.length = front.length ∧
   w.cell? ⟨g, front.length * 2, none⟩ = some (.int .i64 num) ∧ w.cell? ⟨g, front.length * 2 + 1, none⟩ = some (.slice ba by'.length bc) ∧ n = front.length + 1 ∧ vc ≤ maxLen := by
 obtain ⟨g, cap, hv, hb, hg, hnc, hcm, hcell⟩ := own_shape h.row (by simp)
 cases hv
 have hl : vs.length = front.length + 1 := by have := h.len; simpa using this
 have hne : vs ≠ [] := by intro e; rw [e] at hl; cases hl
 have hp : (front ++ [⟨num, by'⟩])[front.length]? = some ⟨num, by'⟩ := by simp
 have hu : vs[front.length]? = some (vs.getLast hne) := by
  rw [List.getLast_eq_getElem, List.getElem?_eq_getElem (by omega)]
  congr 2; omega
 obtain ⟨ba, bc, hs⟩ := own_slice (h.byte _ _ _ hp hu);have hc := hcell _ _ (pageCells_val _ _ _ _ h.len hu);rw [hs] at hc;refine ⟨g, ba, bc, vs.dropLast, rfl, hb, hg, hnc, ?_, ?_, hcell _ _ (pageCells_num _ _ _ _ h.len hp), hc, by simp, hcm⟩
 ·rw [← hs]; exact (List.dropLast_concat_getLast hne).symm
 ·rw [List.length_dropLast, hl]; rfl
theorem grown_two {a b c : World} {r : Option Nat} {g : Nat} (h : a.grownBy b r) (k : b.grownBy c (some g)) (hat : r = some g ∨ a.heap.size ≤ g) : a.grownBy c r :=
 ⟨k.os.trans h.os, k.tape.trans h.tape, k.output.trans h.output, Nat.le_trans h.size k.size, fun j hj hne => (k.block j (Nat.lt_of_lt_of_le hj h.size) (fun e => by
  cases e
  rcases hat with e | e
  ·exact hne e.symm
  ·omega)).trans (h.block j hj hne)⟩
theorem append_string_lies (w : World) (base : Nat) (ty : TypeId) (i : TypeInfo) (hi : Tryz.prog.info? 5 = some i) (hz : i.zero = some (.int .u8 0)) (hsize : i.size = 1) (hby : i.bytes = 1)
  (va : Option Addr) (n c : Nat) (xs : List Value) (hown : w.ownsRow base 5 1 (.slice va n c) n xs) (s : ByteArray) (hbytes : n + s.size ≤ 140737488355328) (hbase : base ≤ w.heap.size) :
  ∃ ua uc w', (Builtin.append_ #[63, 9] ty #[.slice va n c, .string s]).run Tryz.prog w = .ok (.slice ua (n + s.size) uc) w' ∧ w'.ownsRow base 5 1 (.slice ua (n + s.size) uc) (n + s.size) (xs ++ Lib.strCells s) ∧
   w.grownBy w' (Value.slice va n c).ownBlock ∧ (∀ k, (Value.slice ua (n + s.size) uc).ownBlock = some k → (Value.slice va n c).ownBlock = some k ∨ k = w.heap.size) := by
 obtain ⟨v', w', hr, h1, h2, h3⟩ := Lib.run_append_own_string (P := Tryz.prog) w base 63 9 ty 5 i Tryz.underlying63 Tryz.underlying9 hi hz hsize hby _ n xs hown s (by unfold maxLen; omega) hbytes hbase;obtain ⟨ua, uc, rfl⟩ := own_slice h1;refine ⟨ua, uc, w', hr, h1, h2, ?_⟩;intro k hk
 rcases hown.2 with ⟨hv, hn⟩ | ⟨g, cap, cur, hv, hbg, hg, hnc, hcm, hcs, htake⟩
 ·cases hv
  by_cases hs : s.size = 0
  ·have := h3.2 ⟨rfl, hs⟩
   rw [this] at hk; cases hk
  ·have hr2 := run_append_nil_string (P := Tryz.prog) w 63 9 ty 5 i (.int .u8 0) Tryz.underlying63 Tryz.underlying9 hi hz s (by omega) (by omega) (by rw [hby]; omega)
   have e := hr.symm.trans hr2;simp only [Result.ok.injEq, Value.slice.injEq] at e;rw [e.1.1] at hk
   right; exact (Option.some.inj hk).symm
 ·cases hv
  by_cases hroom : n + s.size ≤ c
  ·have hr2 := Lib.run_append_room_string (P := Tryz.prog) w 63 9 ty 5 i Tryz.underlying63 Tryz.underlying9 hi hsize g n c cur hg s hroom (by omega)
   have e := hr.symm.trans hr2;simp only [Result.ok.injEq, Value.slice.injEq] at e;rw [e.1.1] at hk
   left; exact hk
  ·have holds : ∀ j u, xs[j]? = some u → w.cell? ((⟨g, 0, none⟩ : Addr).add j) = some u := hown.cells (g := g) rfl
   have hxl : xs.length = n := by simpa using hown.1
   have hr2 := Lib.run_append_grow_string (P := Tryz.prog) w 63 9 ty 5 i (.int .u8 0) Tryz.underlying63 Tryz.underlying9 hi hz ⟨g, 0, none⟩ n c xs (by rw [hsize]; simpa using hxl) holds s (by omega) (by omega) (by rw [hby]; exact growslice_fits (by omega) (by omega));have e := hr.symm.trans hr2;simp only [Result.ok.injEq, Value.slice.injEq] at e;rw [e.1.1] at hk
   right; exact (Option.some.inj hk).symm
theorem list_string {ops : Array Oper} {rest : List Oper} {o : Oper} {a : Act} {Q : Exit → Act → World → Prop} (w : World) (hgd : o.guard = none) (sl x : Operand)
  (ho : o.op = .call { callee := .builtin .append, args := #[sl, x], argTypes := #[63, 9] }) (base : Nat)
  (va : Option Addr) (n c : Nat) (xs : List Value) (hs : a.eval sl = .slice va n c) (hown : w.ownsRow base 5 1 (.slice va n c) n xs) (s : ByteArray) (hx : a.eval x = .string s)
  (hbytes : n + s.size ≤ 140737488355328) (hbase : base ≤ w.heap.size)
  (h : ∀ ua uc w', w'.ownsRow base 5 1 (.slice ua (n + s.size) uc) (n + s.size) (xs ++ Lib.strCells s) → w.grownBy w' (Value.slice va n c).ownBlock →
   (∀ k, (Value.slice ua (n + s.size) uc).ownBlock = some k → (Value.slice va n c).ownBlock = some k ∨ k = w.heap.size) → wpList Tryz.prog ops Q rest (a.put o.dst (.slice ua (n + s.size) uc)) w') : wpList Tryz.prog ops Q (o :: rest) a w := by
 obtain ⟨i0, hi, hz0, hz1, hz2⟩ := info_parts infoByte;refine wpList_plain hgd fun K hK => ?_
 obtain ⟨ua, uc, w', hr, h2, h3, h4⟩ := append_string_lies w base o.type i0 hi hz0 hz1 hz2 va n c xs hown s hbytes hbase;unfold Oper.wp execOp;simp only [ho, resolve, invoke, builtin, Sem.run_bind, Sem.run_pure, Result.andThen_ok, List.map_toArray, List.map_cons, List.map_nil, hs, hx, hr];exact hK _ _ (h ua uc w' h2 h3 h4)
structure StAt (w : World) (s : Store) (va : Option Addr) (vc : Nat) (fa : Option Addr) (fc : Nat) : Prop where
 items : RowsAt w va 9 ItemR s.items
 pages : RowsAt w fa 2 (PageR w) s.flash.pages
 len : s.items.length ≤ 1000
 plen : s.flash.pages.length ≤ 20
theorem StAt.keep {w w' : World} {s : Store} {va fa : Option Addr} {vc fc : Nat} (h : StAt w s va vc fa fc) (hb : Below w.heap.size w w') : StAt w' s va vc fa fc :=
 ⟨h.items.keep (Below.keeps hb) (fun _ _ h => h), h.pages.keep (Below.keeps hb) (PageR.keep (Below.keeps hb)), h.len, h.plen⟩
structure StOwn (base : Nat) (w : World) (s : Store) (va : Option Addr) (vc : Nat) (fa : Option Addr) (fc : Nat) : Prop where
 row : w.ownsRow base 83 9 (.slice va s.items.length vc) s.items.length (s.items.flatMap itemCells)
 pages : ∃ vs, PagesOwn base w (.slice fa s.flash.pages.length fc) s.flash.pages vs
 ib : ∀ x ∈ s.items, ItemB x
 pb : ∀ p ∈ s.flash.pages, PageB p
 len : s.items.length ≤ 1000
 plen : s.flash.pages.length ≤ 20
theorem StOwn.at {base : Nat} {w : World} {s : Store} {va fa : Option Addr} {vc fc : Nat} (h : StOwn base w s va vc fa fc) : StAt w s va vc fa fc :=
 ⟨own_items h.row h.ib, PagesMid.rows h.pages.choose_spec h.pb, h.len, h.plen⟩
theorem StOwn.kept {base : Nat} {w w' : World} {s : Store} {va fa : Option Addr} {vc fc : Nat} (h : StOwn base w s va vc fa fc) (hb : ∀ k, base ≤ k → k < w.heap.size → w'.heap[k]? = w.heap[k]?) : StOwn base w' s va vc fa fc := by
 refine ⟨⟨h.row.1, ?_⟩, ⟨_, h.pages.choose_spec.kept hb⟩, h.ib, h.pb, h.len, h.plen⟩
 rcases h.row.2 with hn | ⟨g, cap, cur, e, hg, hh, rest⟩
 ·exact .inl hn
 ·exact .inr ⟨g, cap, cur, e, hg, by rw [hb g hg (blt hh)]; exact hh, rest⟩
theorem StOwn.below {base : Nat} {w w' : World} {s : Store} {va fa : Option Addr} {vc fc : Nat} (h : StOwn base w s va vc fa fc) (hb : Below w.heap.size w w') : StOwn base w' s va vc fa fc := h.kept (fun k _ hk => hb.block k hk)
theorem owns_low {w : World} {base base' : Nat} {e : TypeId} {size : Nat} {v : Value} {n : Nat} {xs : List Value} (h : w.ownsRow base e size v n xs) (hb : base' ≤ base) : w.ownsRow base' e size v n xs :=
 ⟨h.1, h.2.imp id (fun ⟨g, cap, cur, e, hg, r⟩ => ⟨g, cap, cur, e, Nat.le_trans hb hg, r⟩)⟩
theorem StOwn.mono {base base' : Nat} {w : World} {s : Store} {va fa : Option Addr} {vc fc : Nat} (h : StOwn base w s va vc fa fc) (hb : base' ≤ base) : StOwn base' w s va vc fa fc := by
 obtain ⟨vs, hv⟩ := h.pages;exact ⟨owns_low h.row hb, ⟨vs, PagesOwn.mk hv.len (owns_low hv.row hb) (fun j p u a b => owns_low (hv.byte j p u a b) hb) hv.far⟩, h.ib, h.pb, h.len, h.plen⟩
theorem StOwn.bare {base : Nat} {w : World} {s : Store} (h1 : s.items = []) (h2 : s.flash.pages = []) : StOwn base w s none 0 none 0 := by
 have hp : PagesOwn base w (.slice none 0 0) [] [] := PagesOwn.mk rfl (World.ownsRow_nil _ _ _ _) (fun j p u h => by simp at h) (fun i j u u' b _ h => by simp at h);refine ⟨?_, ⟨[], ?_⟩, ?_, ?_, ?_, ?_⟩
 ·rw [h1]; exact World.ownsRow_nil _ _ _ _
 ·rw [h2]; exact hp
 ·rw [h1]; intro x hx; cases hx
 ·rw [h2]; intro x hx; cases hx
 ·rw [h1]; exact Nat.zero_le _
 ·rw [h2]; exact Nat.zero_le _
theorem StOwn.set {base : Nat} {w : World} {s : Store} {va fa : Option Addr} {vc fc B : Nat} {cs : Array Value} (h : StOwn base w s va vc fa fc) (hB : B < base) : StOwn base (w.setRow B cs) s va vc fa fc := h.kept (fun k h1 _ => setRow_other _ _ k _ (by omega))
theorem owns_setT {w : World} {base : Nat} {e : TypeId} {size : Nat} {v : Value} {n : Nat} {xs : List Value} {B : Nat} {T : TypeId} {cs ds : Array Value} {fr : Nat × Nat} (h : w.ownsRow base e size v n xs) (hB : w.heap[B]? = some (.cells cs T fr)) (hT : T ≠ e) : (w.setRow B ds).ownsRow base e size v n xs :=
 ⟨h.1, h.2.imp id (fun ⟨g, cap, cur, e1, hg, hh, r⟩ => ⟨g, cap, cur, e1, hg, (setRow_other _ _ _ _ (fun e => by subst e; rw [hh] at hB; cases hB; exact hT rfl)).trans hh, r⟩)⟩
end Go.Proofs.YtbeegfkfpkfccaaGreatDoor.D
