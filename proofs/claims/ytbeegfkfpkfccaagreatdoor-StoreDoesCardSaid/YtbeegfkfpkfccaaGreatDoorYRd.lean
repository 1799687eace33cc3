/-
 Contract: flash.Read reads the value at a place.
-/
import Derived.Test.YtbeegfkfpkfccaaGreatDoorYCCheck
import Derived.Test.YtbeegfkfpkfccaaGreatDoorYOwn
import Derived.Test.YtbeegfkfpkfccaaGreatDoorYReq
namespace Go.Proofs.YtbeegfkfpkfccaaGreatDoor.D
open Go.RowKit
def isPage (q : Int) (p : Page) : Bool := p.number == q
def IdxEnd (ps : List Page) (q : Int) (w : World) (e : Ending) (w' : World) : Prop :=
 ∃ i : Int, e = .returned (.int .i64 i) ∧ ((i = -1 ∧ ps.find? (isPage q) = none) ∨ ∃ (k : Nat) (h : k < ps.length), i = k ∧ ps.find? (isPage q) = some ps[k]) ∧ Below w.heap.size w w'
theorem find_step {ps : List Page} {q : Int} {k : Nat} (hk : k < ps.length) (h : ps.find? (isPage q) = (ps.drop k).find? (isPage q)) (hp : isPage q ps[k] = false) : ps.find? (isPage q) = (ps.drop (k + 1)).find? (isPage q) := by
 rw [h, List.drop_eq_getElem_cons hk, List.find?_cons, hp]
theorem find_hit {ps : List Page} {q : Int} {k : Nat} (hk : k < ps.length) (h : ps.find? (isPage q) = (ps.drop k).find? (isPage q)) (hp : isPage q ps[k] = true) : ps.find? (isPage q) = some ps[k] := by
 rw [h, List.drop_eq_getElem_cons hk, List.find?_cons, hp]
theorem read_lit (pn : Int) (v : Value) (g : Nat) (q : Int) (w : World) (hq : w.cell? ⟨g, 0, none⟩ = some (.int .i64 q)) :
  Calls Tryz.prog 102 #[.agg #[.int .i64 pn, v], .pointer (some ⟨g, 0, none⟩)] w fun e w' => e = .returned (.bool (pn == q)) ∧ Below w.heap.size w w' := by
 have hz := cell_lt hq
 go_enter Tryz.func102, Tryz.ntmps102
 go_wp2_with fail
 go_ret;exact ⟨rfl, by go_grown⟩
set_option maxHeartbeats 400000 in
theorem index_page (ps : List Page) (a : Option Addr) (c : Nat) (g : Nat) (q : Int) (w : World) (h : RowsAt w a 2 (PageR w) ps) (hq : w.cell? ⟨g, 0, none⟩ = some (.int .i64 q)) (hl : ps.length ≤ 9223372036854775807) :
  Calls Tryz.prog 101 #[.slice a ps.length c, .func (.func 102) #[] #[.pointer (some ⟨g, 0, none⟩)]] w (IdxEnd ps q w) := by
 have H := hid h;have HQ := hid hq;clear h hq
 go_enter Tryz.func101, Tryz.ntmps101
 go_wp2_with fail
 go_loopw [8] (fun i wr => ∃ k : Nat, k ≤ ps.length ∧ i = .int .i64 k ∧ Below w.heap.size w wr ∧ Hid (ps.find? (isPage q) = (ps.drop k).find? (isPage q))) (fun i _ => ps.length - (intOf i).toNat)
 case atStart => exact ⟨0, Nat.zero_le _, rfl, Below.refl _ _, rfl⟩
 case round =>
  obtain ⟨k, hk, rfl, hbl, hf⟩ := hrel
  by_cases hlt : k < ps.length
  ·obtain ⟨b, o, rfl, hc⟩ := H.out.pos (by omega)
   obtain ⟨cs, _, ⟨hI, ba, bc, hcs, _⟩, h3⟩ := hc k hlt;subst hcs;have hkp := Below.keeps hbl;have c0 := hkp _ _ (h3 0 _ rfl);have c1 := hkp _ _ (h3 1 _ rfl);rw [Nat.add_zero] at c0;have hqr := hkp _ _ HQ.out;have hS := hid (find_step hlt hf.out);have hT := hid (find_hit hlt hf.out);obtain ⟨pn, hpn⟩ : ∃ n, n = ps[k].number := ⟨_, rfl⟩;rw [← hpn] at c0;have hPP : Hid (isPage q ps[k] = (pn == q)) := by show isPage q ps[k] = (pn == q); rw [hpn]; rfl
   obtain ⟨vv, hvv⟩ : ∃ v, v = Value.slice ba ps[k].bytes.length bc := ⟨_, rfl⟩;rw [← hvv] at c1;clear hkp h3 hc hpn hvv
   cases ht : (pn == q)
   ·have HT := hid ht
    clear ht
    go_wp2_with fail
    refine (read_lit pn vv g q _ hqr).mono ?_;rintro e w2 ⟨rfl, hb2⟩;have hb3 := hbl.trans (hb2.mono hbl.size);rw [HT.out];clear hbl hb2
    go_wp2_with fail
    go_roundw
    case rel => exact ⟨k + 1, by omega, by go_num, hb3, hS.out (by rw [hPP.out, HT.out])⟩
    case measure => simp [intOf]; omega
   ·have HT := hid ht
    clear ht
    go_wp2_with fail
    refine (read_lit pn vv g q _ hqr).mono ?_;rintro e w2 ⟨rfl, hb2⟩;have hb3 := hbl.trans (hb2.mono hbl.size);rw [HT.out];clear hbl hb2
    go_wp2_with fail
    go_ret;exact ⟨_, rfl, .inr ⟨k, hlt, rfl, hT.out (by rw [hPP.out, HT.out])⟩, hb3⟩
  ·have hn : Hid (ps.find? (isPage q) = none) := by
    have h := hf.out;rw [List.drop_of_length_le (by omega)] at h;exact h
   go_wp2_with fail
   go_ret;exact ⟨_, rfl, .inl ⟨rfl, hn.out⟩, hbl⟩
theorem pagesOK_mem : ∀ (ps : List Page) (n : Int), pagesOK ps n = true → ∀ p ∈ ps, allRec p.bytes 0 = true ∧ 1 ≤ p.bytes.length ∧ p.bytes.length ≤ 256
 | [], _, _, p, hp => by simp at hp
 | q :: r, n, h, p, hp => by
  rw [pagesOK_cons, Bool.and_eq_true, Bool.and_eq_true, decide_eq_true_eq] at h
  rcases List.mem_cons.1 hp with rfl | hp
  ·exact ⟨h.1.2, h.1.1.2.2.1, h.1.1.2.2.2⟩
  ·exact pagesOK_mem r _ h.2 p hp
theorem ok_mem {f : Flash} (h : f.ok = true) : ∀ p ∈ f.pages, allRec p.bytes 0 = true ∧ 1 ≤ p.bytes.length ∧ p.bytes.length ≤ 256 := by
 unfold Flash.ok at h;rw [Bool.and_eq_true] at h;exact pagesOK_mem _ _ h.2
theorem ok_len {f : Flash} (h : f.ok = true) : f.pages.length ≤ 20 ∧ f.most ≤ 20 ∧ 0 ≤ f.most ∧ 1 ≤ f.next ∧ f.next ≤ 1099511627776 ∧ (f.pages.length : Int) ≤ f.most := by
 unfold Flash.ok at h;rw [Bool.and_eq_true, decide_eq_true_eq] at h;have : maxN = 1099511627776 := rfl;omega
def ReadEnd (f : Flash) (q : Place) (w : World) (e : Ending) (w' : World) : Prop :=
 e = .returned (.tuple #[.string ⟨(f.read q).1.toArray⟩, .int .i64 (f.read q).2]) ∧ Below w.heap.size w w'
theorem read_bad {f : Flash} {q : Place} (h : f.ok = false) : f.read q = ([], 8) := by unfold Flash.read; rw [if_pos h]
theorem read_none {f : Flash} {q : Place} (h : f.ok = true) (hp : f.pages.find? (isPage q.page) = none) : f.read q = ([], 6) := by
 have h' : f.pageOf q.page = none := hp;unfold Flash.read; rw [if_neg (by rw [h]; simp), h']
theorem read_miss {f : Flash} {q : Place} {p : Page} (h : f.ok = true) (hp : f.pages.find? (isPage q.page) = some p) (hf : findRec p.bytes 0 q.off = none) : f.read q = ([], 2) := by
 have h' : f.pageOf q.page = some p := hp;unfold Flash.read; rw [if_neg (by rw [h]; simp), h']; simp only [hf]
theorem read_hit {f : Flash} {q : Place} {p : Page} {v : Str} (h : f.ok = true) (hp : f.pages.find? (isPage q.page) = some p) (hf : findRec p.bytes 0 q.off = some v) : f.read q = (v, 0) := by
 have h' : f.pageOf q.page = some p := hp;unfold Flash.read; rw [if_neg (by rw [h]; simp), h']; simp only [hf]
theorem readEnd {f : Flash} {q : Place} {v : Str} {n : Int} {w w' : World} (h : f.read q = (v, n)) (hb : Below w.heap.size w w') : ReadEnd f q w (.returned (.tuple #[.string ⟨v.toArray⟩, .int .i64 n])) w' :=
 ⟨by rw [h], hb⟩
theorem check_is (f : Flash) (n : Int) (hn : Hid (f.chk = n)) (a : Option Addr) (c : Nat) (w : World) (h : RowsAt w a 2 (PageR w) f.pages) :
  Calls Tryz.prog 38 #[.agg #[.int .i64 f.most, .int .i64 f.next, .slice a f.pages.length c]] w fun e w' => e = .returned (.int .i64 n) ∧ Below w.heap.size w w' := by
 refine (flash_Check f a c w h).mono ?_;rintro e w' ⟨rfl, hb⟩;exact ⟨by rw [hn.out], hb⟩
set_option maxHeartbeats 1000000 in
theorem flash_Read (f : Flash) (q : Place) (a : Option Addr) (c : Nat) (w : World) (h : RowsAt w a 2 (PageR w) f.pages) (hl : f.pages.length ≤ 9223372036854775807) :
  Calls Tryz.prog 75 #[.agg #[.int .i64 f.most, .int .i64 f.next, .slice a f.pages.length c], .agg #[.int .i64 q.page, .int .i64 q.off]] w (ReadEnd f q w) := by
 have HR := hid h;clear h
 cases hok : f.ok
 ·have HC : Hid (f.chk = 8) := by show f.chk = 8; unfold Flash.chk; rw [hok]; rfl
  have HB := hid (read_bad (q := q) hok);clear hok
  go_enter Tryz.func75, Tryz.ntmps75
  go_wp2_with fail
  refine (check_is f 8 HC a c _ ?_).mono ?_
  ·exact HR.out.keep (Below.keeps (by go_grown)) (PageR.keep (Below.keeps (by go_grown)))
  rintro e w1 ⟨rfl, hb⟩
  go_wp2_with fail
  go_ret2
  exact readEnd HB.out (Below.trans (by go_grown) (hb.mono (by go_size)))
 ·have HC : Hid (f.chk = 0) := by show f.chk = 0; unfold Flash.chk; rw [hok]; rfl
  have HM := hid (ok_mem hok);have HOK := hid hok;clear hok
  go_enter Tryz.func75, Tryz.ntmps75
  go_wp2_with fail
  refine (check_is f 0 HC a c _ ?_).mono ?_
  ·exact HR.out.keep (Below.keeps (by go_grown)) (PageR.keep (Below.keeps (by go_grown)))
  rintro e w1 ⟨rfl, hb⟩;have hb' : Below w.heap.size w w1 := Below.trans (by go_grown) (hb.mono (by go_size));have d2 : w1.cell? ⟨w.heap.size, 2, none⟩ = some (.slice a f.pages.length c) := (hb.cell (p := ⟨w.heap.size, 2, none⟩) (by go_size)).trans (by go_simp);have e0 : w1.cell? ⟨w.heap.size + 1, 0, none⟩ = some (.int .i64 q.page) := (hb.cell (p := ⟨w.heap.size + 1, 0, none⟩) (by go_size)).trans (by go_simp);have e1 : w1.cell? ⟨w.heap.size + 1, 1, none⟩ = some (.int .i64 q.off) := (hb.cell (p := ⟨w.heap.size + 1, 1, none⟩) (by go_size)).trans (by go_simp);clear hb
  go_wp2_with fail
  refine (index_page f.pages a c (w.heap.size + 1) q.page _ ?_ e0 hl).mono ?_
  ·exact HR.out.keep (Below.keeps (by go_grown)) (PageR.keep (Below.keeps (by go_grown)))
  rintro e w2 ⟨i, rfl, hi, hb2⟩;have hb3 := hb'.trans (hb2.mono hb'.size)
  rcases hi with ⟨rfl, hno⟩ | ⟨k, hk, rfl, hf⟩
  ·have HB := hid (read_none HOK.out hno)
   clear hno
   go_wp2_with fail
   go_ret2
   exact readEnd HB.out hb3
  ·have d2' := (hb2.cell (p := ⟨w.heap.size, 2, none⟩) (cell_lt d2)).trans d2
   have e1' := (hb2.cell (p := ⟨w.heap.size + 1, 1, none⟩) (cell_lt e1)).trans e1;obtain ⟨b, o, rfl, hc⟩ := HR.out.pos (by omega);obtain ⟨cs, _, ⟨hI, ba, bc, hcs, hby, hb1, hbc, hbc3⟩, h3⟩ := hc k hk;subst hcs;obtain ⟨hall, hpos, hle⟩ := HM.out f.pages[k] (List.getElem_mem hk);obtain ⟨p, hp⟩ : ∃ p, p = f.pages[k] := ⟨_, rfl⟩;rw [← hp] at hby hb1 hbc hall hpos hle hf h3;obtain ⟨pn, pb⟩ := p;simp only at hby hb1 hbc hall hpos hle hf h3;have HF := hid hf;have HA := hid hall;have hbw := hb3;have HKP := hid (Below.keeps hbw);have c1 := HKP.out _ _ (h3 1 _ rfl);have HBY := hid (fun (w' : World) (q : Keeps w w') => BytesAt.keep hby q);have hl1 : List.length pb ≤ 140737488355328 := by omega
   clear hp hf hall h3 hc hby e0 e1 d2 hI hb' hb2 hb3
   go_wp2_with fail
   obtain ⟨wo, rfl⟩ : ∃ wo : World, wo = w2 := ⟨_, rfl⟩
   go_loopw [8] (fun t wr => ∃ j : Nat, j ≤ pb.length ∧ t = .int .i64 j ∧ Below wo.heap.size wo wr ∧ Hid (allRec pb j = true) ∧ Hid (findRec pb 0 q.off = findRec pb j q.off)) (fun t _ => pb.length - (intOf t).toNat)
   case atStart => exact ⟨0, Nat.zero_le _, rfl, Below.refl _ _, HA.out, rfl⟩
   case round =>
    obtain ⟨j, hj, rfl, hbl, hrec, hfnd⟩ := hrel;have f1 := (hbl.cell (p := ⟨b, o + k * 2 + 1, none⟩) (cell_lt c1)).trans c1;have f2 := (hbl.cell (p := ⟨w.heap.size, 2, none⟩) (cell_lt d2')).trans d2';have f3 := (hbl.cell (p := ⟨w.heap.size + 1, 1, none⟩) (cell_lt e1')).trans e1';have hbz := hbw.trans (hbl.mono hbw.size);have HQ := hid (HBY.out _ (Below.keeps hbz))
    by_cases hjl : j < pb.length
    ·have hr := hrec.out
     rw [allRec_step hjl, Bool.and_eq_true] at hr;obtain ⟨hr1, hr2⟩ := hr;have hm := recB_le hr1;have HR1 := hid hr1;obtain ⟨m, hmm⟩ : ∃ m, m = j + 3 + lenAt pb j := ⟨_, rfl⟩;have HRM : Hid (allRec pb m = true) := by show allRec pb m = true; rw [hmm]; exact hr2
     have HMM := hid hmm;have hm1 : m ≤ pb.length := by omega
     have hm2 : j < m := by omega
     clear hr1 hr2 hm hmm hrec
     by_cases heq : (j : Int) = q.off
     ·have q1 : ((j : Int) == q.off) = true := by rw [beq_iff_eq]; exact heq
      have HV : Hid (f.read q = (valAt pb j, 0)) := read_hit HOK.out HF.out (by rw [hfnd.out, findRec_hit hjl heq]);clear heq
      go_wp2_with fail
      refine (record_yes pb ba bc j m _ HQ.out hl1 hbc hbc3 hjl HR1 HMM).mono ?_;rintro e w3 ⟨rfl, hb5⟩;have g3 := (hb5.cell (p := ⟨w.heap.size + 1, 1, none⟩) (cell_lt f3)).trans f3;have hfin := hbz.trans (hb5.mono hbz.size);clear hb5
      go_wp2_with fail
      go_ret2
      exact readEnd HV.out hfin
     ·have q1 : ((j : Int) == q.off) = false := by rw [beq_eq_false_iff_ne]; exact heq
      have HV : Hid (findRec pb 0 q.off = findRec pb m q.off) := by show _ = _; rw [hfnd.out, findRec_miss hjl heq, HMM.out]
      clear heq
      go_wp2_with fail
      refine (record_yes pb ba bc j m _ HQ.out hl1 hbc hbc3 hjl HR1 HMM).mono ?_;rintro e w3 ⟨rfl, hb5⟩;have g3 := (hb5.cell (p := ⟨w.heap.size + 1, 1, none⟩) (cell_lt f3)).trans f3;have hfin := hbl.trans (hb5.mono hbl.size);clear hb5
      go_wp2_with fail
      go_roundw
      case rel => exact ⟨m, hm1, rfl, hfin, HRM, HV⟩
      case measure => simp [intOf]; omega
    ·have HV : Hid (f.read q = ([], 2)) := read_miss HOK.out HF.out (by rw [hfnd.out, findRec_end (by omega)])
     go_wp2_with fail
     go_ret2
     exact readEnd HV.out hbz
theorem in_yes (n lo hi : Int) (w : World) (h : lo ≤ n ∧ n ≤ hi) : Calls Tryz.prog 58 #[.int .i64 n, .int .i64 lo, .int .i64 hi] w fun e w' => e = .returned (.bool true) ∧ w = w' := by
 have := ref_In n lo hi w
 rwa [decide_eq_true h] at this
theorem in_no (n lo hi : Int) (w : World) (h : ¬ (lo ≤ n ∧ n ≤ hi)) : Calls Tryz.prog 58 #[.int .i64 n, .int .i64 lo, .int .i64 hi] w fun e w' => e = .returned (.bool false) ∧ w = w' := by
 have := ref_In n lo hi w
 rwa [decide_eq_false h] at this
def MayEnd (f : Flash) (w : World) (e : Ending) (w' : World) : Prop := e = .returned (.bool f.ok) ∧ Below w.heap.size w w'
theorem may_head {f : Flash} (h : ¬ (0 ≤ f.most ∧ f.most ≤ 20 ∧ (f.pages.length : Int) ≤ f.most ∧ 1 ≤ f.next ∧ f.next ≤ 1099511627776)) : f.ok = false := by
 have : decide (0 ≤ f.most ∧ f.most ≤ 20 ∧ (f.pages.length : Int) ≤ f.most ∧ 1 ≤ f.next ∧ f.next ≤ maxN) = false := by
  rw [decide_eq_false_iff_not]; exact h
 unfold Flash.ok; rw [this]; rfl
theorem may_pages {f : Flash} (h : 0 ≤ f.most ∧ f.most ≤ 20 ∧ (f.pages.length : Int) ≤ f.most ∧ 1 ≤ f.next ∧ f.next ≤ 1099511627776) : f.ok = pagesOK f.pages (f.next - f.pages.length) := by
 have : decide (0 ≤ f.most ∧ f.most ≤ 20 ∧ (f.pages.length : Int) ≤ f.most ∧ 1 ≤ f.next ∧ f.next ≤ maxN) = true := by
  rw [decide_eq_true_eq]; exact h
 unfold Flash.ok; rw [this, Bool.true_and]
def ValsB (t : Bool) (w : World) (e : Ending) (w' : World) : Prop := ∃ o a, e = .returned (.tuple #[o, a, .bool t]) ∧ Below w.heap.size w w'
theorem vals_b (t : Bool) (b : Str) (a : Option Addr) (c : Nat) (w : World) (ht : Hid (allRec b 0 = t)) (h : BytesAt w a b) (hl : b.length ≤ 256) (hc : b.length ≤ c) (hcc : c ≤ 9223372036854775807) :
  Calls Tryz.prog 94 #[.slice a b.length c] w (ValsB t w) := by
 refine (ref_valuesIn b a c w h hl hc hcc).mono ?_;rintro e w' ⟨o, q, rfl, _, hb⟩;exact ⟨o, q, by rw [ht.out], hb⟩
set_option maxHeartbeats 1000000 in
theorem ref_FlashMay (f : Flash) (a : Option Addr) (c : Nat) (w : World) (h : RowsAt w a 2 (PageR w) f.pages) (hc : f.pages.length ≤ 9223372036854775807) :
  Calls Tryz.prog 59 #[.agg #[.int .i64 f.most, .int .i64 f.next, .slice a f.pages.length c]] w (MayEnd f w) := by
 by_cases hh : 0 ≤ f.most ∧ f.most ≤ 20 ∧ (f.pages.length : Int) ≤ f.most ∧ 1 ≤ f.next ∧ f.next ≤ 1099511627776
 ·have HC := hid (may_pages hh)
  obtain ⟨m0, m1, m2, m3, m4⟩ := hh;have HR := hid h;clear h
  go_enter Tryz.func59, Tryz.ntmps59
  go_wp2_with fail
  refine (in_yes _ _ _ _ ⟨m0, m1⟩).mono ?_;rintro e w' ⟨rfl, rfl⟩
  go_wp2_with fail
  refine (in_yes _ _ _ _ ⟨m3, m4⟩).mono ?_;rintro e w' ⟨rfl, rfl⟩
  go_wp2_with fail
  go_loopw [3] (fun i wr => ∃ k : Nat, k ≤ f.pages.length ∧ i = .int .i64 k ∧ Below w.heap.size w wr ∧ wr.cell? ⟨w.heap.size, 1, none⟩ = some (.int .i64 f.next) ∧ wr.cell? ⟨w.heap.size, 2, none⟩ = some (.slice a f.pages.length c) ∧
   Hid (pagesOK f.pages (f.next - f.pages.length) = pagesOK (f.pages.drop k) (f.next - f.pages.length + k))) (fun i _ => f.pages.length - (intOf i).toNat)
  case atStart => exact ⟨0, Nat.zero_le _, rfl, by go_grown, by go_simp, by go_simp, by show _ = _; simp⟩
  case round =>
   obtain ⟨k, hk, rfl, hbl, hn, hsl, HP⟩ := hrel
   by_cases hlt : k < f.pages.length
   ·obtain ⟨b, o, rfl, hc⟩ := HR.out.pos (by omega)
    obtain ⟨cs, _, ⟨hI, ba, bc, hcs, hby, hb1, hb2, hb3⟩, h3⟩ := hc k hlt;obtain ⟨⟨pn, pb⟩, hp⟩ : ∃ p, p = f.pages[k] := ⟨_, rfl⟩;rw [← hp] at hcs hby hb1 hb2 hI;simp only at hcs hby hb1 hb2 hI;subst hcs;have hkp := Below.keeps hbl;have c0 := hkp _ _ (h3 0 _ rfl);have c1 := hkp _ _ (h3 1 _ rfl);rw [Nat.add_zero] at c0;have HBY := hid (fun (w' : World) (q : Keeps w w') => BytesAt.keep hby q);have HKP := hid hkp;clear hby hkp h3 hc;have hz1 := cell_lt hn
    by_cases g2 : 1 ≤ pn
    ·by_cases g1 : pn = f.next - f.pages.length + k
     ·have q1 : (pn == f.next + (k : Int) - (f.pages.length : Int)) = true := by rw [beq_iff_eq]; omega
      have q2 : (pn != f.next + (k : Int) - (f.pages.length : Int)) = false := by rw [bne_eq_false_iff_eq]; omega
      have G1 := hid g1
      by_cases g4 : 1 ≤ pb.length ∧ pb.length ≤ 256
      ·have HS := hid (fun h5 => pages_step hlt hp.symm HP.out G1.out g2 g4.1 g4.2 h5)
       have HB := hid (fun h5 => pages_bad hlt hp.symm HP.out (.inr h5));obtain ⟨g4, g5⟩ := g4;clear hp g1
       go_wp2_with fail
       refine (in_yes _ _ _ _ ⟨by omega, by omega⟩).mono ?_;rintro e w' ⟨rfl, rfl⟩
       cases ht : allRec pb 0
       ·have HT := hid ht
        clear ht
        go_wp2_with fail
        refine (vals_b false pb ba bc _ HT (HBY.out _ (Keeps.trans HKP.out (Below.keeps (by go_grown)))) g5 hb2 hb3).mono ?_;rintro e w2 ⟨x, q, rfl, hb5⟩
        go_wp2_with fail
        go_ret;exact ⟨ret_bool (by rw [HC.out, HB.out HT.out]), (hbl.alloc hbl.size _).trans (hb5.mono (by have := hbl.size; go_size))⟩
       ·have HT := hid ht
        clear ht
        go_wp2_with fail
        refine (vals_b true pb ba bc _ HT (HBY.out _ (Keeps.trans HKP.out (Below.keeps (by go_grown)))) g5 hb2 hb3).mono ?_;rintro e w2 ⟨x, q, rfl, hb5⟩;have hb6 := (hbl.alloc hbl.size _).trans (hb5.mono (by have := hbl.size; go_size));have r1 : w2.cell? ⟨w.heap.size, 1, none⟩ = some (.int .i64 f.next) := (hb5.cell (p := ⟨w.heap.size, 1, none⟩) (by go_size)).trans (by go_simp);have r2 : w2.cell? ⟨w.heap.size, 2, none⟩ = some (.slice (some ⟨b, o, none⟩) f.pages.length c) := (hb5.cell (p := ⟨w.heap.size, 2, none⟩) (by go_size)).trans (by go_simp);clear hb5
        go_wp2_with fail
        go_roundw
        case rel => exact ⟨k + 1, by omega, by go_num, hb6, r1, r2, HS.out HT.out⟩
        case measure => simp [intOf]; omega
      ·have HB := hid (pages_bad hlt hp.symm HP.out (.inl (by omega)))
       clear hp g1
       go_wp2_with fail
       refine (in_no _ _ _ _ (by omega)).mono ?_;rintro e w' ⟨rfl, rfl⟩
       go_wp2_with fail
       go_ret;exact ⟨ret_bool (by rw [HC.out, HB.out]), hbl.alloc hbl.size _⟩
     ·have q1 : (pn == f.next + (k : Int) - (f.pages.length : Int)) = false := by rw [beq_eq_false_iff_ne]; omega
      have q2 : (pn != f.next + (k : Int) - (f.pages.length : Int)) = true := by rw [bne_iff_ne]; omega
      have HB := hid (pages_bad hlt hp.symm HP.out (.inl (by omega)));clear hp g1
      go_wp2_with fail
      go_ret;exact ⟨ret_bool (by rw [HC.out, HB.out]), hbl.alloc hbl.size _⟩
    ·have HB := hid (pages_bad hlt hp.symm HP.out (.inl (by omega)))
     have g3 : pn < 1 := by omega
     clear hp g2
     go_wp2_with fail
     go_ret;exact ⟨ret_bool (by rw [HC.out, HB.out]), hbl.alloc hbl.size _⟩
   ·have HB : Hid (pagesOK f.pages (f.next - f.pages.length) = true) := by
     have h := HP.out;rw [List.drop_of_length_le (by omega)] at h;exact h
    go_wp2_with fail
    go_ret;exact ⟨ret_bool (by rw [HC.out, HB.out]), hbl⟩
 ·have HC := hid (may_head hh)
  clear h
  by_cases h0 : 0 ≤ f.most ∧ f.most ≤ 20
  ·by_cases h1 : f.most < (f.pages.length : Int)
   ·obtain ⟨m0, m1⟩ := h0
    go_enter Tryz.func59, Tryz.ntmps59
    go_wp2_with fail
    refine (in_yes _ _ _ _ ⟨m0, m1⟩).mono ?_;rintro e w' ⟨rfl, rfl⟩
    go_wp2_with fail
    go_ret;exact ⟨ret_bool HC.out.symm, by go_grown⟩
   ·have h2 : ¬ (1 ≤ f.next ∧ f.next ≤ 1099511627776) := by omega
    have h3 : (f.pages.length : Int) ≤ f.most := by omega
    have H2 := hid h2;obtain ⟨m0, m1⟩ := h0;clear h1 h2 hh
    go_enter Tryz.func59, Tryz.ntmps59
    go_wp2_with fail
    refine (in_yes _ _ _ _ ⟨m0, m1⟩).mono ?_;rintro e w' ⟨rfl, rfl⟩
    go_wp2_with fail
    refine (in_no _ _ _ _ H2.out).mono ?_;rintro e w' ⟨rfl, rfl⟩
    go_wp2_with fail
    go_ret;exact ⟨ret_bool HC.out.symm, by go_grown⟩
  ·have H2 := hid h0
   clear h0 hh
   go_enter Tryz.func59, Tryz.ntmps59
   go_wp2_with fail
   refine (in_no _ _ _ _ H2.out).mono ?_;rintro e w' ⟨rfl, rfl⟩
   go_wp2_with fail
   go_ret;exact ⟨ret_bool HC.out.symm, by go_grown⟩
theorem may_is (f : Flash) (t : Bool) (ht : Hid (f.ok = t)) (a : Option Addr) (c : Nat) (w : World) (h : RowsAt w a 2 (PageR w) f.pages) (hl : f.pages.length ≤ 9223372036854775807) :
  Calls Tryz.prog 59 #[.agg #[.int .i64 f.most, .int .i64 f.next, .slice a f.pages.length c]] w fun e w' => e = .returned (.bool t) ∧ Below w.heap.size w w' := by
 refine (ref_FlashMay f a c w h hl).mono ?_;rintro e w' ⟨rfl, hb⟩;exact ⟨by rw [ht.out], hb⟩
def ValsGood (b : Str) (w : World) (e : Ending) (w' : World) : Prop :=
 ∃ oa oc xa xc, e = .returned (.tuple #[.slice oa (recs b 0).length oc, .slice xa (recs b 0).length xc, .bool true]) ∧ CellsAt w' oa (valCells (recs b 0)) ∧ CellsAt w' xa (atCells (recs b 0)) ∧ Below w.heap.size w w'
theorem own_cells {w : World} {base : Nat} {e : TypeId} {va : Option Addr} {n vc m : Nat} {xs : List Value} (h : w.ownsRow base e 1 (.slice va n vc) m xs) : CellsAt w va xs := by
 rcases Nat.eq_zero_or_pos m with h0 | h0
 ·left
  have := h.1;rw [h0] at this;exact List.eq_nil_of_length_eq_zero (by simpa using this)
 ·obtain ⟨g, cap, hv, _, _, _, _, hcell⟩ := own_shape h h0
  cases hv
  exact .inr ⟨g, 0, rfl, fun i v hv => by rw [Nat.zero_add]; exact hcell i v hv⟩
theorem vals_good (b : Str) (a : Option Addr) (c : Nat) (w : World) (ht : Hid (allRec b 0 = true)) (h : BytesAt w a b) (hl : b.length ≤ 256) (hc : b.length ≤ c) (hcc : c ≤ 9223372036854775807) :
  Calls Tryz.prog 94 #[.slice a b.length c] w (ValsGood b w) := by
 refine (ref_valuesIn b a c w h hl hc hcc).mono ?_;rintro e w' ⟨o, q, rfl, hx, hb⟩;obtain ⟨h1, h2⟩ := hx ht.out;obtain ⟨oa, oc, rfl⟩ := own_slice h1;obtain ⟨xa, xc, rfl⟩ := own_slice h2;exact ⟨oa, oc, xa, xc, by rw [ht.out], own_cells h1, own_cells h2, hb⟩
theorem cellsAt_pos {w : World} {a : Option Addr} {cs : List Value} (h : CellsAt w a cs) (hl : 0 < cs.length) : ∃ b o, a = some ⟨b, o, none⟩ ∧ ∀ i v, cs[i]? = some v → w.cell? ⟨b, o + i, none⟩ = some v := by
 rcases h with h | h
 ·subst h; simp at hl
 ·exact h
def hitB (q : Int) (r : Nat × Str) : Bool := decide ((r.1 : Int) = q)
set_option maxHeartbeats 1000000 in
theorem ref_FlashRead (f : Flash) (q : Place) (a : Option Addr) (c : Nat) (w : World) (h : RowsAt w a 2 (PageR w) f.pages) (hl : f.pages.length ≤ 9223372036854775807) :
  Calls Tryz.prog 61 #[.agg #[.int .i64 f.most, .int .i64 f.next, .slice a f.pages.length c], .agg #[.int .i64 q.page, .int .i64 q.off]] w (ReadEnd f q w) := by
 have HR := hid h;clear h
 cases hok : f.ok
 ·have HC := hid hok
  have HB := hid (read_bad (q := q) hok);clear hok
  go_enter Tryz.func61, Tryz.ntmps61
  go_wp2_with fail
  refine (may_is f false HC a c _ ?_ hl).mono ?_
  ·exact HR.out.keep (Below.keeps (by go_grown)) (PageR.keep (Below.keeps (by go_grown)))
  rintro e w1 ⟨rfl, hb⟩
  go_wp2_with fail
  go_ret2
  exact readEnd HB.out (Below.trans (by go_grown) (hb.mono (by go_size)))
 ·have HC := hid hok
  have HM := hid (ok_mem hok);clear hok
  go_enter Tryz.func61, Tryz.ntmps61
  go_wp2_with fail
  refine (may_is f true HC a c _ ?_ hl).mono ?_
  ·exact HR.out.keep (Below.keeps (by go_grown)) (PageR.keep (Below.keeps (by go_grown)))
  rintro e w1 ⟨rfl, hb⟩;have hbw : Below w.heap.size w w1 := Below.trans (by go_grown) (hb.mono (by go_size));have d2 : w1.cell? ⟨w.heap.size, 2, none⟩ = some (.slice a f.pages.length c) := (hb.cell (p := ⟨w.heap.size, 2, none⟩) (by go_size)).trans (by go_simp);have e0 : w1.cell? ⟨w.heap.size + 1, 0, none⟩ = some (.int .i64 q.page) := (hb.cell (p := ⟨w.heap.size + 1, 0, none⟩) (by go_size)).trans (by go_simp);have e1 : w1.cell? ⟨w.heap.size + 1, 1, none⟩ = some (.int .i64 q.off) := (hb.cell (p := ⟨w.heap.size + 1, 1, none⟩) (by go_size)).trans (by go_simp);clear hb
  go_wp2_with fail
  go_loopg [6] f.pages.length (fun g i wr => ∃ k : Nat, g + k = f.pages.length ∧ i = .int .i64 k ∧ (∃ n, wr = w1.drewN n) ∧ Hid (f.pages.find? (isPage q.page) = (f.pages.drop k).find? (isPage q.page)))
  case atStart => exact ⟨0, rfl, rfl, ⟨0, rfl⟩, rfl⟩
  case round =>
   obtain ⟨k, hk, rfl, ⟨nd, rfl⟩, hf⟩ := hrel
   by_cases hlt : k < f.pages.length
   ·obtain ⟨b, o, rfl, hc⟩ := HR.out.pos (by omega)
    obtain ⟨cs, _, ⟨hI, ba, bc, hcs, hby, hb1, hbc, hbc3⟩, h3⟩ := hc k hlt;subst hcs;have hS := hid (find_step hlt hf.out);have hT := hid (find_hit hlt hf.out);obtain ⟨hall, hpos, hle⟩ := HM.out f.pages[k] (List.getElem_mem hlt);obtain ⟨p, hp⟩ : ∃ p, p = f.pages[k] := ⟨_, rfl⟩;rw [← hp] at hby hb1 hbc hall hpos hle h3 hS hT;obtain ⟨pn, pb⟩ := p;simp only at hby hb1 hbc hall hpos hle h3;have HKP := hid (Below.keeps hbw);have c0 := HKP.out _ _ (h3 0 _ rfl);have c1 := HKP.out _ _ (h3 1 _ rfl);rw [Nat.add_zero] at c0;have HBY := hid (fun (w' : World) (q : Keeps w w') => BytesAt.keep hby q);have HA := hid hall;clear h3 hc hby hall hp hI
    by_cases hpq : pn = q.page
    ·have q1 : (pn == q.page) = true := by rw [beq_iff_eq]; exact hpq
     have q2 : (pn != q.page) = false := by rw [bne_eq_false_iff_eq]; exact hpq
     have HF := hid (hT.out q1);clear hpq
     go_wp2_with fail
     go_quiet (fail)
     go_wp2_with fail
     refine (vals_good pb ba bc _ HA (HBY.out _ (keeps_drewN HKP.out _)) hle hbc hbc3).mono ?_;rintro e w2 ⟨oa, oc, xa, xc, rfl, hO, hX, hb5⟩;have hbz : Below w.heap.size w w2 := (below_drewN hbw (nd + nq)).trans (hb5.mono hbw.size);have f1 := (hb5.cell (p := ⟨w.heap.size + 1, 1, none⟩) (cell_lt e1)).trans e1;have HO := hid hO;have HX := hid hX;have hlr := recs_length pb 0;clear hb5 hO hX hbw d2 e0 e1 c0 c1 q1 q2
     go_wp2_with fail
     go_loopg [10] (recs pb 0).length (fun g i wr => ∃ j : Nat, g + j = (recs pb 0).length ∧ i = .int .i64 j ∧ (∃ n, wr = w2.drewN n) ∧ Hid ((recs pb 0).find? (hitB q.off) = ((recs pb 0).drop j).find? (hitB q.off)))
     case atStart => exact ⟨0, rfl, rfl, ⟨0, rfl⟩, rfl⟩
     case round =>
      obtain ⟨j, hj, rfl, ⟨ne, rfl⟩, hfd⟩ := hrel
      by_cases hjl : j < (recs pb 0).length
      ·obtain ⟨ob, oo, rfl, hco⟩ := cellsAt_pos HO.out (by simp [valCells]; omega)
       obtain ⟨xb, xo, rfl, hcx⟩ := cellsAt_pos HX.out (by simp [atCells]; omega);obtain ⟨r, hr⟩ : ∃ r, r = (recs pb 0)[j] := ⟨_, rfl⟩;have x0 : w2.cell? ⟨xb, xo + j, none⟩ = some (.int .i64 (r.1 : Nat)) := hcx j _ (by simp [atCells, hr, hjl]);have o0 : w2.cell? ⟨ob, oo + j, none⟩ = some (.string ⟨r.2.toArray⟩) := hco j _ (by simp [valCells, strV, hr, hjl])
       have hdr : Hid (((recs pb 0).drop j).find? (hitB q.off) = if hitB q.off r then some r else ((recs pb 0).drop (j + 1)).find? (hitB q.off)) := by
        show _ = _;rw [List.drop_eq_getElem_cons hjl, List.find?_cons, ← hr]
        cases hitB q.off r <;> rfl
       obtain ⟨rp, rv⟩ := r;simp only at x0 o0 hdr;clear hco hcx hr
       by_cases heq : (rp : Int) = q.off
       ·have q1 : ((rp : Int) == q.off) = true := by rw [beq_iff_eq]; exact heq
        have HV : Hid (f.read q = (rv, 0)) := read_hit HC.out HF.out (by
         rw [findRec_recs];show ((recs pb 0).find? (hitB q.off)).map (·.2) = some rv
         rw [hfd.out, hdr.out, if_pos (by show decide _ = true; rw [decide_eq_true heq])]; rfl)
        clear heq
        go_wp2_with fail
        go_quiet (fail)
        go_wp2_with fail
        go_ret2
        exact readEnd HV.out (below_drewN hbz _)
       ·have q1 : ((rp : Int) == q.off) = false := by rw [beq_eq_false_iff_ne]; exact heq
        have HV : Hid ((recs pb 0).find? (hitB q.off) = ((recs pb 0).drop (j + 1)).find? (hitB q.off)) := by
         show _ = _;rw [hfd.out, hdr.out, if_neg (by show ¬ decide _ = true; rw [decide_eq_true_eq]; exact heq)]
        clear heq
        go_wp2_with fail
        go_quiet (fail)
        go_wp2_with fail
        go_roundg (gk - 1)
        case measure => omega
        case rel => exact ⟨j + 1, by omega, by go_num, ⟨_, rfl⟩, HV⟩
      ·have HV : Hid (f.read q = ([], 2)) := read_miss HC.out HF.out (by
        rw [findRec_recs];show ((recs pb 0).find? (hitB q.off)).map (·.2) = none
        rw [hfd.out, List.drop_of_length_le (by omega)]; rfl)
       go_wp2_with fail
       go_ret2
       exact readEnd HV.out (below_drewN hbz _)
    ·have q1 : (pn == q.page) = false := by rw [beq_eq_false_iff_ne]; exact hpq
     have q2 : (pn != q.page) = true := by rw [bne_iff_ne]; exact hpq
     have HF := hid (hS.out q1);clear hpq
     go_wp2_with fail
     go_quiet (fail)
     go_wp2_with fail
     go_roundg (gk - 1)
     case measure => omega
     case rel => exact ⟨k + 1, by omega, by go_num, ⟨_, rfl⟩, HF.out⟩
   ·have HV : Hid (f.read q = ([], 6)) := read_none HC.out (by have h := hf.out; rw [List.drop_of_length_le (by omega)] at h; exact h)
    go_wp2_with fail
    go_ret2
    exact readEnd HV.out (below_drewN hbw _)
end Go.Proofs.YtbeegfkfpkfccaaGreatDoor.D
