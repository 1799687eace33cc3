/-
 Contract: wire.Check tells what is wrong with a request.
-/
import Derived.Test.YtbeegfkfpkfccaaGreatDoorYReq
import Derived.Deep.DeepCutAuto
import Derived.BigRegion
import Derived.Deep.CutBlock
namespace Go.Proofs.YtbeegfkfpkfccaaGreatDoor.D
open Go.RowKit
def FaultEnd (r : Req) (w : World) (e : Ending) (w' : World) : Prop := e = .returned (.int .i64 r.fault) ∧ Below w.heap.size w w'
def Cells8 (w : World) (b : Nat) (v0 v1 v2 v3 v4 v5 v6 v7 : Value) : Prop :=
 w.cell? ⟨b, 0, none⟩ = some v0 ∧ w.cell? ⟨b, 1, none⟩ = some v1 ∧ w.cell? ⟨b, 2, none⟩ = some v2 ∧ w.cell? ⟨b, 3, none⟩ = some v3 ∧ w.cell? ⟨b, 4, none⟩ = some v4 ∧ w.cell? ⟨b, 5, none⟩ = some v5 ∧ w.cell? ⟨b, 6, none⟩ = some v6 ∧ w.cell? ⟨b, 7, none⟩ = some v7
abbrev reqV (r : Req) (a : Option Addr) (c : Nat) : Array Value := #[.int .i64 r.kind, .string r.key, .slice a r.keys.length c, .int .i64 r.flags, .int .i64 r.exp, .int .i64 r.n, .string r.value, .bool r.quiet]
def CkRel (w : World) (r : Req) (a : Option Addr) (c : Nat) (mk : ByteArray) (ma : Option Addr) (ml mc : Nat) (mf me mn : Int) (mv : ByteArray) (mq : Bool) (wc : World) : Prop :=
 Below w.heap.size w wc ∧ Cells8 wc w.heap.size (.int .i64 r.kind) (.string r.key) (.slice a r.keys.length c) (.int .i64 r.flags) (.int .i64 r.exp) (.int .i64 r.n) (.string r.value) (.bool r.quiet) ∧
 Cells8 wc (w.heap.size + 1) (.int .i64 r.kind) (.string mk) (.slice ma ml mc) (.int .i64 mf) (.int .i64 me) (.int .i64 mn) (.string mv) (.bool mq) ∧ (∀ j, wc.frozen? ⟨w.heap.size + 1, j, none⟩ = false)
theorem toList_inj {s t : ByteArray} (h : s.toList = t.toList) : s = t := bl_inj (by rw [← bl_toList, ← bl_toList, h])
theorem st_touch {r : Req} {mf me : Int} {mv : ByteArray} (q : r.kind = 11) (h : (2 ≤ r.kind ∧ r.kind ≤ 7 ∧ mf = r.flags ∧ me = r.exp ∧ mv = r.value) ∨ (¬ (2 ≤ r.kind ∧ r.kind ≤ 7) ∧ mf = 0 ∧ me = 0 ∧ mv = ⟨#[]⟩)) : Hid (r.st mf r.exp mv) := by
 show r.st mf r.exp mv
 rcases h with ⟨_, h, _⟩ | ⟨h, h1, _, h2⟩
 ·omega
 ·exact .inr ⟨h, h1, .inl ⟨q, rfl⟩, h2⟩
theorem st_other {r : Req} {mf me : Int} {mv : ByteArray} (q : ¬ r.kind = 11) (h : (2 ≤ r.kind ∧ r.kind ≤ 7 ∧ mf = r.flags ∧ me = r.exp ∧ mv = r.value) ∨ (¬ (2 ≤ r.kind ∧ r.kind ≤ 7) ∧ mf = 0 ∧ me = 0 ∧ mv = ⟨#[]⟩)) : Hid (r.st mf me mv) := by
 show r.st mf me mv
 rcases h with h | ⟨h, h1, h3, h2⟩
 ·exact .inl h
 ·exact .inr ⟨h, h1, .inr ⟨q, h3⟩, h2⟩
set_option maxRecDepth 100000 in
set_option maxHeartbeats 4000000 in
theorem wire_Check (r : Req) (a : Option Addr) (c : Nat) (w : World) (h : RowsAt w a 1 strR r.keys) (hl : r.keys.length ≤ 9223372036854775807) (hk : r.key.size ≤ 9223372036854775807) :
  Calls Tryz.prog 28 #[.agg (reqV r a c)] w (FaultEnd r w) := by
 have HR := hid h;clear h
 by_cases hkd : 1 ≤ r.kind ∧ r.kind ≤ 13
 ·have HK := hid hkd
  obtain ⟨k1, k2⟩ := hkd
  go_enter Tryz.func28, Tryz.ntmps28
  go_upto_block 0 with (fail)
  go_cut [] (fun wc => ∃ mk ma ml mc mq, CkRel w r a c mk ma ml mc 0 0 0 ⟨#[]⟩ mq wc ∧ Hid (r.sw mk ml mq))
  case first =>
   by_cases q1 : r.kind = 1
   ·have b1 : (r.kind == 1) = true := by rw [beq_iff_eq]; exact q1
    have Q1 := hid q1;clear q1
    by_cases g1 : r.keys.length = 0
    ·have b2 : ((r.keys.length : Int) == 0) = true := by rw [beq_iff_eq]; omega
     have HF := hid (fault_form HK.out (form_0 (show r.f0 = false by unfold Req.f0; rw [if_pos Q1.out, decide_eq_false (by omega)]; rfl)));clear g1
     as_aux_lemma =>
      go_wp2_with fail
      go_ret;exact ⟨ret_int HF.out.symm, by go_grown⟩
    ·have b2 : ((r.keys.length : Int) == 0) = false := by rw [beq_eq_false_iff_ne]; omega
     by_cases g2 : r.keys.length ≤ 10
     ·have HFF := hid (fun (h : r.keys.all keyOK = false) => fault_form HK.out (form_0 (show r.f0 = false by unfold Req.f0; rw [if_pos Q1.out, h, Bool.and_false])))
      have HT := hid (fun (h : r.keys.all keyOK = true) => (show r.f0 = true by unfold Req.f0; rw [if_pos Q1.out, h, decide_eq_true ⟨by omega, g2⟩]; rfl));clear g1
      as_aux_lemma =>
       go_wp2_with fail
       refine (contains_keys r.keys a c _ ?_ hl).mono ?_
       ·exact HR.out.keep (Below.keeps (by go_grown)) (fun _ _ h => h)
       rintro e w1 ⟨rfl, hb⟩;obtain ⟨hc, hfz, hz⟩ := bcell hb;simp only [World.size_alloc] at hc hfz hz;have hz1 : w.heap.size + 1 < w1.heap.size := by omega
       have hz2 : w.heap.size < w1.heap.size := by omega
       have hbw : Below w.heap.size w w1 := Below.trans (by go_grown) (hb.mono (by go_size));clear hb
       cases hall : r.keys.all keyOK
       ·have HF := hid (HFF.out hall)
        clear hall
        go_wp2_with fail
        go_ret;exact ⟨ret_int HF.out.symm, hbw⟩
       ·have HF := hid (HT.out hall)
        clear hall
        go_wp2_with fail
        go_meet;exact ⟨⟨#[]⟩, a, r.keys.length, c, false, ⟨hbw.setCell (Nat.le_succ _) _, ⟨by go_simp, by go_simp, by go_simp, by go_simp, by go_simp, by go_simp, by go_simp, by go_simp⟩, ⟨by go_simp, by go_simp, by go_simp, by go_simp, by go_simp, by go_simp, by go_simp, by go_simp⟩, fun j => by go_simp⟩, show Req.sw _ _ _ _ from .inl ⟨Q1.out, HF.out, rfl, rfl, rfl⟩⟩
     ·have g3 : 10 < r.keys.length := by omega
      have HF := hid (fault_form HK.out (form_0 (show r.f0 = false by unfold Req.f0; rw [if_pos Q1.out, decide_eq_false (by omega)]; rfl)));clear g1 g2
      as_aux_lemma =>
       go_wp2_with fail
       go_ret;exact ⟨ret_int HF.out.symm, by go_grown⟩
   ·have b1 : (r.kind == 1) = false := by rw [beq_eq_false_iff_ne]; exact q1
    have k3 : 2 ≤ r.kind := by omega
    clear q1
    by_cases q2 : r.kind ≤ 11
    ·have b2 : r.kind < 12 := by omega
     cases hkey : keyOK r.key
     ·have HT := hid hkey
      have HF := hid (fault_form HK.out (form_1 (show r.f1 = false by unfold Req.f1; rw [if_pos ⟨k3, q2⟩]; exact hkey)));clear hkey
      as_aux_lemma =>
       go_wp2_with fail
       refine (keyq_is r.key false HT _ hk).mono ?_;rintro e w1 ⟨rfl, hb⟩
       go_wp2_with fail
       go_ret;exact ⟨ret_int HF.out.symm, Below.trans (by go_grown) (hb.mono (by go_size))⟩
     ·have HT := hid hkey
      have HF := hid (show r.f1 = true by unfold Req.f1; rw [if_pos ⟨k3, q2⟩]; exact hkey);clear hkey
      as_aux_lemma =>
       go_wp2_with fail
       refine (keyq_is r.key true HT _ hk).mono ?_;rintro e w1 ⟨rfl, hb⟩;obtain ⟨hc, hfz, hz⟩ := bcell hb;simp only [World.size_alloc] at hc hfz hz;have hz1 : w.heap.size + 1 < w1.heap.size := by omega
       have hz2 : w.heap.size < w1.heap.size := by omega
       have hbw : Below w.heap.size w w1 := Below.trans (by go_grown) (hb.mono (by go_size));clear hb
       go_wp2_with fail
       go_region
       all_goals (go_wp2_with fail; go_meet)
       all_goals exact ⟨r.key, none, 0, 0, r.quiet, ⟨(hbw.drew.setCell (Nat.le_succ _) _).setCell (Nat.le_succ _) _, ⟨by go_simp, by go_simp, by go_simp, by go_simp, by go_simp, by go_simp, by go_simp, by go_simp⟩, ⟨by go_simp, by go_simp, by go_simp, by go_simp, by go_simp, by go_simp, by go_simp, by go_simp⟩, fun j => by go_simp⟩, show Req.sw _ _ _ _ from .inr (.inl ⟨k3, q2, HF.out, rfl, rfl, rfl⟩)⟩
    ·have k4 : 12 ≤ r.kind := by omega
     clear q2
     by_cases q3 : r.kind = 12
     ·have b3 : (r.kind == 12) = true := by rw [beq_iff_eq]; exact q3
      have Q3 := hid q3;clear q3
      as_aux_lemma =>
       go_wp2_with fail
       go_meet;exact ⟨⟨#[]⟩, none, 0, 0, r.quiet, ⟨by go_grown, ⟨by go_simp, by go_simp, by go_simp, by go_simp, by go_simp, by go_simp, by go_simp, by go_simp⟩, ⟨by go_simp, by go_simp, by go_simp, by go_simp, by go_simp, by go_simp, by go_simp, by go_simp⟩, fun j => by go_simp⟩, show Req.sw _ _ _ _ from .inr (.inr (.inl ⟨Q3.out, rfl, rfl, rfl⟩))⟩
     ·have b3 : (r.kind == 12) = false := by rw [beq_eq_false_iff_ne]; exact q3
      have Q3 := hid (show r.kind = 13 by omega);clear q3
      as_aux_lemma =>
       go_wp2_with fail
       go_meet;exact ⟨⟨#[]⟩, none, 0, 0, false, ⟨by go_grown, ⟨by go_simp, by go_simp, by go_simp, by go_simp, by go_simp, by go_simp, by go_simp, by go_simp⟩, ⟨by go_simp, by go_simp, by go_simp, by go_simp, by go_simp, by go_simp, by go_simp, by go_simp⟩, fun j => by go_simp⟩, show Req.sw _ _ _ _ from .inr (.inr (.inr ⟨Q3.out, rfl, rfl, rfl⟩))⟩
  case rest =>
   obtain ⟨mk, ma, ml, mc, mq, ⟨hb, ⟨r0, r1, r2, r3, r4, r5, r6, r7⟩, ⟨m0, m1, m2, m3, m4, m5, m6, m7⟩, mf⟩, hsw⟩ := hcut;have HSW := hid hsw.out;clear hsw
   go_upto_if 60 with (first | (go_at_call 53; refine (wire_stores _ _).mono ?_; rintro e w' ⟨rfl, rfl⟩))
   go_cut [] (fun wx => ∃ mf me mv, CkRel w r a c mk ma ml mc mf me 0 mv mq wx ∧ Hid ((2 ≤ r.kind ∧ r.kind ≤ 7 ∧ mf = r.flags ∧ me = r.exp ∧ mv = r.value) ∨ (¬ (2 ≤ r.kind ∧ r.kind ≤ 7) ∧ mf = 0 ∧ me = 0 ∧ mv = ⟨#[]⟩)))
   case first =>
    by_cases q : 2 ≤ r.kind ∧ r.kind ≤ 7
    ·have Q := hid q
     have d1 : decide (2 ≤ r.kind ∧ r.kind ≤ 7) = true := decide_eq_true q;obtain ⟨q1, q2⟩ := q
     as_aux_lemma =>
      go_wp2_with fail
      go_region
      all_goals (go_wp2_with fail; go_meet)
      all_goals exact ⟨r.flags, r.exp, r.value, ⟨((hb.drew.setCell (Nat.le_succ _) _).setCell (Nat.le_succ _) _).setCell (Nat.le_succ _) _, ⟨by go_simp, by go_simp, by go_simp, by go_simp, by go_simp, by go_simp, by go_simp, by go_simp⟩, ⟨by go_simp, by go_simp, by go_simp, by go_simp, by go_simp, by go_simp, by go_simp, by go_simp⟩, fun j => by go_simp⟩, .inl ⟨Q.out.1, Q.out.2, rfl, rfl, rfl⟩⟩
    ·have Q := hid q
     have d1 : decide (2 ≤ r.kind ∧ r.kind ≤ 7) = false := decide_eq_false q;clear q
     as_aux_lemma =>
      go_wp2_with fail
      go_meet;exact ⟨0, 0, ⟨#[]⟩, ⟨hb, ⟨by go_simp, by go_simp, by go_simp, by go_simp, by go_simp, by go_simp, by go_simp, by go_simp⟩, ⟨by go_simp, by go_simp, by go_simp, by go_simp, by go_simp, by go_simp, by go_simp, by go_simp⟩, fun j => by go_simp⟩, .inr ⟨Q.out, rfl, rfl, rfl⟩⟩
   case rest =>
    clear hb r0 r1 r2 r3 r4 r5 r6 r7 m0 m1 m2 m3 m4 m5 m6 m7 mf;obtain ⟨mf, me, mv, ⟨hb, ⟨r0, r1, r2, r3, r4, r5, r6, r7⟩, ⟨m0, m1, m2, m3, m4, m5, m6, m7⟩, mz⟩, HS⟩ := hcut
    go_upto_if 72 with (fail)
    go_cut [] (fun wx => ∃ me', CkRel w r a c mk ma ml mc mf me' 0 mv mq wx ∧ Hid (r.st mf me' mv))
    case first =>
     by_cases q : r.kind = 11
     ·have Q := hid q
      have d1 : (r.kind == 11) = true := by rw [beq_iff_eq]; exact q
      clear q
      as_aux_lemma =>
       go_wp2_with fail
       go_meet;exact ⟨r.exp, ⟨hb.setCell (Nat.le_succ _) _, ⟨by go_simp, by go_simp, by go_simp, by go_simp, by go_simp, by go_simp, by go_simp, by go_simp⟩, ⟨by go_simp, by go_simp, by go_simp, by go_simp, by go_simp, by go_simp, by go_simp, by go_simp⟩, fun j => by go_simp⟩, st_touch Q.out HS.out⟩
     ·have Q := hid q
      have d1 : (r.kind == 11) = false := by rw [beq_eq_false_iff_ne]; exact q
      clear q
      as_aux_lemma =>
       go_wp2_with fail
       go_meet;exact ⟨me, ⟨hb, ⟨by go_simp, by go_simp, by go_simp, by go_simp, by go_simp, by go_simp, by go_simp, by go_simp⟩, ⟨by go_simp, by go_simp, by go_simp, by go_simp, by go_simp, by go_simp, by go_simp, by go_simp⟩, fun j => by go_simp⟩, st_other Q.out HS.out⟩
    case rest =>
     clear hb r0 r1 r2 r3 r4 r5 r6 r7 m0 m1 m2 m3 m4 m5 m6 m7 mz HS;clear me;obtain ⟨me, ⟨hb, ⟨r0, r1, r2, r3, r4, r5, r6, r7⟩, ⟨m0, m1, m2, m3, m4, m5, m6, m7⟩, mz⟩, HST⟩ := hcut;go_upto_region 18 with (fail)
     go_cut [88] (fun s wx => ∃ tb : Bool, s = .bool tb ∧ Hid (tb = decide (r.kind = 7 ∨ r.kind = 9 ∨ r.kind = 10)) ∧ CkRel w r a c mk ma ml mc mf me 0 mv mq wx)
     case first =>
      as_aux_lemma =>
       by_cases q7 : r.kind = 7
       ·have d1 : (r.kind == 7) = true := by rw [beq_iff_eq]; exact q7
        have Q := hid (decide_eq_true (show r.kind = 7 ∨ r.kind = 9 ∨ r.kind = 10 by omega));clear q7
        go_wp2_with fail
        go_meet;exact ⟨true, rfl, Q.out.symm, ⟨hb, ⟨by go_simp, by go_simp, by go_simp, by go_simp, by go_simp, by go_simp, by go_simp, by go_simp⟩, ⟨by go_simp, by go_simp, by go_simp, by go_simp, by go_simp, by go_simp, by go_simp, by go_simp⟩, fun j => by go_simp⟩⟩
       ·have d1 : (r.kind == 7) = false := by rw [beq_eq_false_iff_ne]; exact q7
        by_cases q9 : r.kind = 9
        ·have d2 : (r.kind == 9) = true := by rw [beq_iff_eq]; exact q9
         have Q := hid (decide_eq_true (show r.kind = 7 ∨ r.kind = 9 ∨ r.kind = 10 by omega));clear q7 q9
         go_wp2_with fail
         go_meet;exact ⟨true, rfl, Q.out.symm, ⟨hb, ⟨by go_simp, by go_simp, by go_simp, by go_simp, by go_simp, by go_simp, by go_simp, by go_simp⟩, ⟨by go_simp, by go_simp, by go_simp, by go_simp, by go_simp, by go_simp, by go_simp, by go_simp⟩, fun j => by go_simp⟩⟩
        ·have d2 : (r.kind == 9) = false := by rw [beq_eq_false_iff_ne]; exact q9
         by_cases qt : r.kind = 10
         ·have d3 : (r.kind == 10) = true := by rw [beq_iff_eq]; exact qt
          have Q := hid (decide_eq_true (show r.kind = 7 ∨ r.kind = 9 ∨ r.kind = 10 by omega));clear q7 q9 qt
          go_wp2_with fail
          go_meet;exact ⟨true, rfl, Q.out.symm, ⟨hb, ⟨by go_simp, by go_simp, by go_simp, by go_simp, by go_simp, by go_simp, by go_simp, by go_simp⟩, ⟨by go_simp, by go_simp, by go_simp, by go_simp, by go_simp, by go_simp, by go_simp, by go_simp⟩, fun j => by go_simp⟩⟩
         ·have d3 : (r.kind == 10) = false := by rw [beq_eq_false_iff_ne]; exact qt
          have Q := hid (decide_eq_false (show ¬ (r.kind = 7 ∨ r.kind = 9 ∨ r.kind = 10) by omega));clear q7 q9 qt
          go_wp2_with fail
          go_meet;exact ⟨false, rfl, Q.out.symm, ⟨hb, ⟨by go_simp, by go_simp, by go_simp, by go_simp, by go_simp, by go_simp, by go_simp, by go_simp⟩, ⟨by go_simp, by go_simp, by go_simp, by go_simp, by go_simp, by go_simp, by go_simp, by go_simp⟩, fun j => by go_simp⟩⟩
     case rest =>
      clear hb r0 r1 r2 r3 r4 r5 r6 r7 m0 m1 m2 m3 m4 m5 m6 m7 mz;obtain ⟨tb, rfl, Q, ⟨hb, ⟨r0, r1, r2, r3, r4, r5, r6, r7⟩, ⟨m0, m1, m2, m3, m4, m5, m6, m7⟩, mz⟩⟩ := hcut
      go_upto_if 88 with (fail)
      go_cut [] (fun wx => ∃ mn, CkRel w r a c mk ma ml mc mf me mn mv mq wx ∧ Hid (r.sn mn))
      case first =>
       cases tb
       ·
        as_aux_lemma =>
         go_wp2_with fail
         go_meet;exact ⟨0, ⟨hb, ⟨by go_simp, by go_simp, by go_simp, by go_simp, by go_simp, by go_simp, by go_simp, by go_simp⟩, ⟨by go_simp, by go_simp, by go_simp, by go_simp, by go_simp, by go_simp, by go_simp, by go_simp⟩, fun j => by go_simp⟩, .inr ⟨of_decide_eq_false Q.out.symm, rfl⟩⟩
       ·
        as_aux_lemma =>
         go_wp2_with fail
         go_meet;exact ⟨r.n, ⟨hb.setCell (Nat.le_succ _) _, ⟨by go_simp, by go_simp, by go_simp, by go_simp, by go_simp, by go_simp, by go_simp, by go_simp⟩, ⟨by go_simp, by go_simp, by go_simp, by go_simp, by go_simp, by go_simp, by go_simp, by go_simp⟩, fun j => by go_simp⟩, .inl ⟨of_decide_eq_true Q.out.symm, rfl⟩⟩
      case rest =>
       clear hb r0 r1 r2 r3 r4 r5 r6 r7 m0 m1 m2 m3 m4 m5 m6 m7 mz;obtain ⟨mn, ⟨hb, ⟨r0, r1, r2, r3, r4, r5, r6, r7⟩, ⟨m0, m1, m2, m3, m4, m5, m6, m7⟩, mz⟩, HSN⟩ := hcut;clear mz;have E0 := hid (sw_0 HSW.out);have E1 := hid (sw_1 HSW.out);have E2 := hid (st_2 HST.out);have E3 := hid (sn_3 HSN.out);have E4 := hid (sw_4 HSW.out);clear HSW HST HSN
       by_cases g : mk = r.key
       rotate_left
       ·have d1 : (mk.toList == r.key.toList) = false := by rw [beq_eq_false_iff_ne]; exact (fun h => g (toList_inj h))
        have d2 : (mk.toList != r.key.toList) = true := by rw [bne_iff_ne]; exact (fun h => g (toList_inj h))
        have HF := hid (fault_form HK.out (form_1 (Bool.eq_false_iff.2 (fun h => g (E1.out.2 h)))));clear g
        as_aux_lemma =>
         go_wp2_with fail
         go_ret;exact ⟨ret_int HF.out.symm, hb⟩
       subst g
       by_cases g : ml = r.keys.length
       rotate_left
       ·have d1 : ((ml : Int) == (r.keys.length : Int)) = false := by rw [beq_eq_false_iff_ne]; exact (by omega)
        have d2 : ((ml : Int) != (r.keys.length : Int)) = true := by rw [bne_iff_ne]; exact (by omega)
        have HF := hid (fault_form HK.out (form_0 (Bool.eq_false_iff.2 (fun h => g (E0.out.2 h)))));clear g
        as_aux_lemma =>
         go_wp2_with fail
         go_ret;exact ⟨ret_int HF.out.symm, hb⟩
       subst g
       by_cases g : mf = r.flags
       rotate_left
       ·have d1 : (mf == r.flags) = false := by rw [beq_eq_false_iff_ne]; exact g
        have d2 : (mf != r.flags) = true := by rw [bne_iff_ne]; exact g
        have HF := hid (fault_form HK.out (form_2 (Bool.eq_false_iff.2 (fun h => g (E2.out.2 h).1))));clear g
        as_aux_lemma =>
         go_wp2_with fail
         go_ret;exact ⟨ret_int HF.out.symm, hb⟩
       subst g
       by_cases g : me = r.exp
       rotate_left
       ·have d1 : (me == r.exp) = false := by rw [beq_eq_false_iff_ne]; exact g
        have d2 : (me != r.exp) = true := by rw [bne_iff_ne]; exact g
        have HF := hid (fault_form HK.out (form_2 (Bool.eq_false_iff.2 (fun h => g (E2.out.2 h).2.1))));clear g
        as_aux_lemma =>
         go_wp2_with fail
         go_ret;exact ⟨ret_int HF.out.symm, hb⟩
       subst g
       by_cases g : mn = r.n
       rotate_left
       ·have d1 : (mn == r.n) = false := by rw [beq_eq_false_iff_ne]; exact g
        have d2 : (mn != r.n) = true := by rw [bne_iff_ne]; exact g
        have HF := hid (fault_form HK.out (form_3 (Bool.eq_false_iff.2 (fun h => g (E3.out.2 h)))));clear g
        as_aux_lemma =>
         go_wp2_with fail
         go_ret;exact ⟨ret_int HF.out.symm, hb⟩
       subst g
       by_cases g : mv = r.value
       rotate_left
       ·have d1 : (mv.toList == r.value.toList) = false := by rw [beq_eq_false_iff_ne]; exact (fun h => g (toList_inj h))
        have d2 : (mv.toList != r.value.toList) = true := by rw [bne_iff_ne]; exact (fun h => g (toList_inj h))
        have HF := hid (fault_form HK.out (form_2 (Bool.eq_false_iff.2 (fun h => g (E2.out.2 h).2.2))));clear g
        as_aux_lemma =>
         go_wp2_with fail
         go_ret;exact ⟨ret_int HF.out.symm, hb⟩
       subst g
       by_cases g : mq = r.quiet
       rotate_left
       ·have d1 : (mq == r.quiet) = false := by rw [beq_eq_false_iff_ne]; exact g
        have d2 : (mq != r.quiet) = true := by rw [bne_iff_ne]; exact g
        have HF := hid (fault_form HK.out (form_4 (Bool.eq_false_iff.2 (fun h => g (E4.out.2 h)))));clear g
        as_aux_lemma =>
         go_wp2_with fail
         go_ret;exact ⟨ret_int HF.out.symm, hb⟩
       subst g;have HF := hid (form_all (E0.out.1 rfl) (E1.out.1 rfl) (E2.out.1 ⟨rfl, rfl, rfl⟩) (E3.out.1 rfl) (E4.out.1 rfl));go_upto_region 22 with (fail)
       by_cases hr : 0 ≤ r.flags ∧ r.flags ≤ 65535 ∧ 0 ≤ r.exp ∧ r.exp ≤ 1099511627776 ∧ 0 ≤ r.n ∧ r.n ≤ 1099511627776
       ·have HG := hid (show r.range = true from decide_eq_true hr)
        obtain ⟨h1, h2, h3, h4, h5, h6⟩ := hr
        by_cases hz : 200 < r.value.size
        ·have HL := hid (fault_size HK.out HF.out HG.out hz)
         as_aux_lemma =>
          go_wp2_with fail
          go_ret;exact ⟨ret_int HL.out.symm, hb⟩
        ·have HL := hid (fault_none HK.out HF.out HG.out hz)
         have hz2 : r.value.size ≤ 200 := by omega
         clear hz
         as_aux_lemma =>
          go_wp2_with fail
          go_ret;exact ⟨ret_int HL.out.symm, hb⟩
       ·have HL := hid (fault_range HK.out HF.out (show r.range = false from decide_eq_false hr))
        have hr6 : (r.flags < 0) ∨ (0 ≤ r.flags ∧ 65535 < r.flags) ∨ (0 ≤ r.flags ∧ r.flags ≤ 65535 ∧ r.exp < 0) ∨ (0 ≤ r.flags ∧ r.flags ≤ 65535 ∧ 0 ≤ r.exp ∧ 1099511627776 < r.exp) ∨ (0 ≤ r.flags ∧ r.flags ≤ 65535 ∧ 0 ≤ r.exp ∧ r.exp ≤ 1099511627776 ∧ r.n < 0) ∨ (0 ≤ r.flags ∧ r.flags ≤ 65535 ∧ 0 ≤ r.exp ∧ r.exp ≤ 1099511627776 ∧ 0 ≤ r.n ∧ 1099511627776 < r.n) := by omega
        clear hr
        as_aux_lemma =>
         rcases hr6 with h1 | ⟨h1, h2⟩ | ⟨h1, h2, h3⟩ | ⟨h1, h2, h3, h4⟩ | ⟨h1, h2, h3, h4, h5⟩ | ⟨h1, h2, h3, h4, h5, h6⟩
         all_goals (go_wp2_with fail; go_ret; exact ⟨ret_int HL.out.symm, hb⟩)
 ·have HF := hid (fault_kind hkd)
  have h2 : r.kind < 1 ∨ 13 < r.kind := by omega
  clear hkd
  as_aux_lemma =>
   rcases h2 with h2 | h2
   all_goals
    go_enter Tryz.func28, Tryz.ntmps28
    go_wp2_with fail
    go_ret;exact ⟨ret_int HF.out.symm, by go_grown⟩
end Go.Proofs.YtbeegfkfpkfccaaGreatDoor.D
