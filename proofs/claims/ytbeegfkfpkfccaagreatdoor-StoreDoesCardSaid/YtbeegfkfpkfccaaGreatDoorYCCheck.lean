/-
 Contract: flash.Check tells whether flash may be.
-/
import Derived.Test.YtbeegfkfpkfccaaGreatDoorYCRecord
import Derived.Test.YtbeegfkfpkfccaaGreatDoorYBase
namespace Go.Proofs.YtbeegfkfpkfccaaGreatDoor.D
open Go.RowKit
def Flash.chk (f : Flash) : Int := if f.ok then 0 else 8
def ChkEnd (f : Flash) (w : World) (e : Ending) (w' : World) : Prop := e = .returned (.int .i64 f.chk) ∧ Below w.heap.size w w'
theorem chk_head {f : Flash} (h : ¬ (0 ≤ f.most ∧ f.most ≤ 20 ∧ (f.pages.length : Int) ≤ f.most ∧ 1 ≤ f.next ∧ f.next ≤ 1099511627776)) : f.chk = 8 := by
 have : decide (0 ≤ f.most ∧ f.most ≤ 20 ∧ (f.pages.length : Int) ≤ f.most ∧ 1 ≤ f.next ∧ f.next ≤ maxN) = false := by
  rw [decide_eq_false_iff_not]; exact h
 unfold Flash.chk Flash.ok; rw [this]; rfl
theorem chk_pages {f : Flash} (h : 0 ≤ f.most ∧ f.most ≤ 20 ∧ (f.pages.length : Int) ≤ f.most ∧ 1 ≤ f.next ∧ f.next ≤ 1099511627776) :
  f.chk = if pagesOK f.pages (f.next - f.pages.length) then 0 else 8 := by
 have : decide (0 ≤ f.most ∧ f.most ≤ 20 ∧ (f.pages.length : Int) ≤ f.most ∧ 1 ≤ f.next ∧ f.next ≤ maxN) = true := by
  rw [decide_eq_true_eq]; exact h
 unfold Flash.chk Flash.ok; rw [this, Bool.true_and]
theorem pages_step {ps : List Page} {k : Nat} {n : Int} {pn : Int} {pb : Str} (hk : k < ps.length) (hp : ps[k] = ⟨pn, pb⟩) (h : pagesOK ps n = pagesOK (ps.drop k) (n + k))
  (h1 : pn = n + k) (h2 : 1 ≤ pn) (h3 : 1 ≤ pb.length) (h4 : pb.length ≤ 256) (h5 : allRec pb 0 = true) : pagesOK ps n = pagesOK (ps.drop (k + 1)) (n + (k + 1 : Nat)) := by
 rw [h, List.drop_eq_getElem_cons hk, hp, pagesOK_cons, h5];have : decide (pn = n + (k : Int) ∧ 1 ≤ n + (k : Int) ∧ 1 ≤ pb.length ∧ pb.length ≤ 256) = true := by rw [decide_eq_true_eq]; exact ⟨h1, by omega, h3, h4⟩
 rw [this, show n + ((k + 1 : Nat) : Int) = n + k + 1 by omega]; rfl
theorem pages_bad {ps : List Page} {k : Nat} {n : Int} {pn : Int} {pb : Str} (hk : k < ps.length) (hp : ps[k] = ⟨pn, pb⟩) (h : pagesOK ps n = pagesOK (ps.drop k) (n + k))
  (hb : ¬ (pn = n + k ∧ 1 ≤ n + k ∧ 1 ≤ pb.length ∧ pb.length ≤ 256) ∨ allRec pb 0 = false) : pagesOK ps n = false := by
 rw [h, List.drop_eq_getElem_cons hk, hp, pagesOK_cons]
 rcases hb with hb | hb
 ·rw [decide_eq_false_iff_not.2 hb]; rfl
 ·rw [hb, Bool.and_false]; rfl
def RecNo (w : World) (e : Ending) (w' : World) : Prop := ∃ (s : ByteArray) (n : Int), e = .returned (.tuple #[.string s, .int .i64 n, .bool false]) ∧ Below w.heap.size w w'
def RecYes (b : Str) (k m : Nat) (w : World) (e : Ending) (w' : World) : Prop := e = .returned (.tuple #[.string ⟨(valAt b k).toArray⟩, .int .i64 m, .bool true]) ∧ Below w.heap.size w w'
theorem record_no (b : Str) (a : Option Addr) (c : Nat) (k : Nat) (w : World) (h : BytesAt w a b) (hl : b.length ≤ 140737488355328) (hc : b.length ≤ c) (hcc : c ≤ 9223372036854775807) (hk : k < b.length) (hr : Hid (recB b k = false)) :
  Calls Tryz.prog 74 #[.slice a b.length c, .int .i64 k] w (RecNo w) := by
 refine (flash_record b a c k w h hl hc hcc hk).mono ?_;rintro e w' ⟨s, n, rfl, _, hb⟩;exact ⟨s, n, by rw [hr.out], hb⟩
theorem record_yes (b : Str) (a : Option Addr) (c : Nat) (k m : Nat) (w : World) (h : BytesAt w a b) (hl : b.length ≤ 140737488355328) (hc : b.length ≤ c) (hcc : c ≤ 9223372036854775807) (hk : k < b.length) (hr : Hid (recB b k = true)) (hm : Hid (m = k + 3 + lenAt b k)) :
  Calls Tryz.prog 74 #[.slice a b.length c, .int .i64 k] w (RecYes b k m w) := by
 refine (flash_record b a c k w h hl hc hcc hk).mono ?_;rintro e w' ⟨s, n, rfl, hx, hb⟩;obtain ⟨h1, h2⟩ := hx hr.out;have h3 : s = ⟨(valAt b k).toArray⟩ := bl_inj (by rw [h1, bl_mk]);exact ⟨by rw [hr.out, h3, h2, hm.out], hb⟩
set_option maxHeartbeats 1000000 in
theorem flash_Check (f : Flash) (a : Option Addr) (c : Nat) (w : World) (h : RowsAt w a 2 (PageR w) f.pages) :
  Calls Tryz.prog 38 #[.agg #[.int .i64 f.most, .int .i64 f.next, .slice a f.pages.length c]] w (ChkEnd f w) := by
 by_cases hh : 0 ≤ f.most ∧ f.most ≤ 20 ∧ (f.pages.length : Int) ≤ f.most ∧ 1 ≤ f.next ∧ f.next ≤ 1099511627776
 ·have HC := hid (chk_pages hh)
  obtain ⟨m0, m1, m2, m3, m4⟩ := hh;have HR := hid h;clear h
  go_enter Tryz.func38, Tryz.ntmps38
  go_wp2_with fail
  go_loopw [38] (fun i wr => ∃ k : Nat, k ≤ f.pages.length ∧ i = .int .i64 k ∧ Below w.heap.size w wr ∧ wr.cell? ⟨w.heap.size, 1, none⟩ = some (.int .i64 f.next) ∧ wr.cell? ⟨w.heap.size, 2, none⟩ = some (.slice a f.pages.length c) ∧
   pagesOK f.pages (f.next - f.pages.length) = pagesOK (f.pages.drop k) (f.next - f.pages.length + k)) (fun i _ => f.pages.length - (intOf i).toNat)
  case atStart => exact ⟨0, Nat.zero_le _, rfl, by go_grown, by go_simp, by go_simp, by simp⟩
  case round =>
   obtain ⟨k, hk, rfl, hbl, hn, hsl, hpg⟩ := hrel;have HP := hid hpg;clear hpg
   by_cases hlt : k < f.pages.length
   ·obtain ⟨b, o, rfl, hc⟩ := HR.out.pos (by omega)
    obtain ⟨cs, _, ⟨hI, ba, bc, hcs, hby, hb1, hb2, hb3⟩, h3⟩ := hc k hlt;obtain ⟨⟨pn, pb⟩, hp⟩ : ∃ p, p = f.pages[k] := ⟨_, rfl⟩;rw [← hp] at hcs hby hb1 hb2 hI;simp only at hcs hby hb1 hb2 hI;subst hcs;have hkp := Below.keeps hbl;have c0 := hkp _ _ (h3 0 _ rfl);have c1 := hkp _ _ (h3 1 _ rfl);rw [Nat.add_zero] at c0;have HBY := hid (fun (w' : World) (q : Keeps w w') => BytesAt.keep hby q);have HKP := hid hkp;clear hby hkp h3 hc;have hz1 := cell_lt hn
    by_cases g1 : pn = f.next - f.pages.length + k
    ·have q1 : (pn == f.next - (f.pages.length : Int) + (k : Int)) = true := by rw [beq_iff_eq]; exact g1
     have q2 : (pn != f.next - (f.pages.length : Int) + (k : Int)) = false := by rw [bne_eq_false_iff_eq]; exact g1
     have G1 := hid g1
     by_cases g2 : 1 ≤ pn
     ·by_cases g3 : pb.length = 0
      ·have HB := hid (pages_bad hlt hp.symm HP.out (.inl (by omega)))
       have q3 : ((pb.length : Int) == 0) = true := by rw [beq_iff_eq]; omega
       clear hp g1
       go_wp2_with fail
       go_ret;exact ⟨ret_int (by rw [HC.out, HB.out]; rfl), by go_grown⟩
      ·have q3 : ((pb.length : Int) == 0) = false := by rw [beq_eq_false_iff_ne]; omega
       by_cases g4 : pb.length ≤ 256
       ·have HS := hid (fun h5 => pages_step hlt hp.symm HP.out G1.out g2 (by omega) g4 h5)
        have HB := hid (fun h5 => pages_bad hlt hp.symm HP.out (.inr h5));have hpos : 1 ≤ pb.length := by omega
        clear hp g1 g3
        go_wp2_with fail
        obtain ⟨wo, rfl⟩ : ∃ wo : World, wo = wr := ⟨_, rfl⟩;obtain ⟨W1, hW1⟩ : ∃ W1, W1 = wo.alloc (.cells #[.int .i64 pn, .slice ba pb.length bc] 98) := ⟨_, rfl⟩;have e0 : W1.cell? ⟨wo.heap.size, 1, none⟩ = some (.slice ba pb.length bc) := by rw [hW1]; go_simp
        have e1 : W1.cell? ⟨w.heap.size, 1, none⟩ = some (.int .i64 f.next) := by rw [hW1]; go_simp
        have e2 : W1.cell? ⟨w.heap.size, 2, none⟩ = some (.slice (some ⟨b, o, none⟩) f.pages.length c) := by rw [hW1]; go_simp
        have hbW : Below w.heap.size w W1 := by rw [hW1]; exact hbl.alloc hbl.size _
        have hl1 : List.length pb ≤ 140737488355328 := by omega
        rw [← hW1];have HY := hid (fun (w' : World) (q : Below W1.heap.size W1 w') => HBY.out w' (Keeps.trans (Below.keeps hbW) (Below.keeps q)));clear hW1 hbl hn hsl hz1 HKP HBY c0 c1 q1 q2 q3 m0 m1 m2 m3 m4
        go_loopw [5] (fun t wq => ∃ j : Nat, j ≤ pb.length ∧ t = .int .i64 j ∧ Below W1.heap.size W1 wq ∧ Hid (allRec pb 0 = allRec pb j)) (fun t _ => pb.length - (intOf t).toNat)
        case atStart => exact ⟨0, Nat.zero_le _, rfl, Below.refl _ _, rfl⟩
        case round =>
         obtain ⟨j, hj, rfl, hbq, hall⟩ := hrel;have f0 := (hbq.cell (p := ⟨wo.heap.size, 1, none⟩) (cell_lt e0)).trans e0;have HQ := hid (HY.out _ hbq)
         by_cases hjl : j < pb.length
         ·cases hr : recB pb j
          ·have HA : Hid (allRec pb 0 = false) := by show allRec pb 0 = false; rw [hall.out, allRec_step hjl, hr]; rfl
           have HR := hid hr;clear hr
           go_wp2_with fail
           refine (record_no pb ba bc j _ HQ.out hl1 hb2 hb3 hjl HR).mono ?_;rintro e w2 ⟨s, n, rfl, hb5⟩;have hfin := hbW.trans ((hbq.trans (hb5.mono hbq.size)).mono hbW.size);clear hb5
           go_wp2_with fail
           go_ret;exact ⟨ret_int (by rw [HC.out, HB.out HA.out]; rfl), hfin⟩
          ·have hm := recB_le hr
           have HA : Hid (allRec pb 0 = allRec pb (j + 3 + lenAt pb j)) := by show allRec pb 0 = allRec pb (j + 3 + lenAt pb j); rw [hall.out, allRec_step hjl, hr]; rfl
           have HR := hid hr;obtain ⟨m, hmm⟩ : ∃ m, m = j + 3 + lenAt pb j := ⟨_, rfl⟩;have HM := hid hmm;have hm1 : m ≤ pb.length := by omega
           have hm2 : j < m := by omega
           clear hr hm hmm
           go_wp2_with fail
           refine (record_yes pb ba bc j m _ HQ.out hl1 hb2 hb3 hjl HR HM).mono ?_;rintro e w2 ⟨rfl, hb5⟩;have hb6 := hbq.trans (hb5.mono hbq.size);clear hb5 hbq
           go_wp2_with fail
           go_roundw
           case rel => exact ⟨m, hm1, rfl, hb6, by rw [HM.out]; exact HA⟩
           case measure => simp [intOf]; omega
         ·have HA : Hid (allRec pb 0 = true) := by show allRec pb 0 = true; rw [hall.out, allRec_end (by omega)]
          have r1 := (hbq.cell (p := ⟨w.heap.size, 1, none⟩) (cell_lt e1)).trans e1;have r2 := (hbq.cell (p := ⟨w.heap.size, 2, none⟩) (cell_lt e2)).trans e2;have hbf := hbW.trans (hbq.mono hbW.size)
          go_wp2_with fail
          go_roundw
          case rel => exact ⟨k + 1, by omega, by go_num, hbf, r1, r2, HS.out HA.out⟩
          case measure => simp [intOf]; omega
       ·have HB := hid (pages_bad hlt hp.symm HP.out (.inl (by omega)))
        have g5 : 256 < pb.length := by omega
        clear hp g1 g4 g3
        go_wp2_with fail
        go_ret;exact ⟨ret_int (by rw [HC.out, HB.out]; rfl), by go_grown⟩
     ·have HB := hid (pages_bad hlt hp.symm HP.out (.inl (by omega)))
      have g3 : pn < 1 := by omega
      clear hp g1 g2
      go_wp2_with fail
      go_ret;exact ⟨ret_int (by rw [HC.out, HB.out]; rfl), by go_grown⟩
    ·have q1 : (pn == f.next - (f.pages.length : Int) + (k : Int)) = false := by rw [beq_eq_false_iff_ne]; exact g1
     have q2 : (pn != f.next - (f.pages.length : Int) + (k : Int)) = true := by rw [bne_iff_ne]; exact g1
     have HB := hid (pages_bad hlt hp.symm HP.out (.inl (by omega)));clear hp g1
     go_wp2_with fail
     go_ret;exact ⟨ret_int (by rw [HC.out, HB.out]; rfl), by go_grown⟩
   ·have HB : Hid (pagesOK f.pages (f.next - f.pages.length) = true) := by
     have h := HP.out;rw [List.drop_of_length_le (by omega)] at h;exact h
    go_wp2_with fail
    go_ret;exact ⟨ret_int (by rw [HC.out, HB.out]; rfl), by go_grown⟩
 ·have HC := hid (chk_head hh)
  clear h
  have h5 : f.most < 0 ∨ (0 ≤ f.most ∧ 20 < f.most) ∨ (0 ≤ f.most ∧ f.most ≤ 20 ∧ f.most < (f.pages.length : Int)) ∨ (0 ≤ f.most ∧ f.most ≤ 20 ∧ (f.pages.length : Int) ≤ f.most ∧ f.next < 1) ∨
    (0 ≤ f.most ∧ f.most ≤ 20 ∧ (f.pages.length : Int) ≤ f.most ∧ 1 ≤ f.next ∧ 1099511627776 < f.next) := by omega
  clear hh
  rcases h5 with h | ⟨h, h'⟩ | ⟨h, h', h''⟩ | ⟨h, h', h'', h3⟩ | ⟨h, h', h'', h3, h4⟩
  all_goals
   go_enter Tryz.func38, Tryz.ntmps38
   go_wp2_with fail
   go_ret;exact ⟨ret_int HC.out.symm, by go_grown⟩
end Go.Proofs.YtbeegfkfpkfccaaGreatDoor.D
