/-
 Contract: ref.RequestFault tells what is wrong with a request.
-/
import Derived.Test.YtbeegfkfpkfccaaGreatDoorYCFault
import Derived.Test.YtbeegfkfpkfccaaGreatDoorYRd
namespace Go.Proofs.YtbeegfkfpkfccaaGreatDoor.D
open Go.RowKit
theorem beqs {x y : Int} (h : x = y) : (x == y) = true ∧ (x != y) = false := by subst h; simp
theorem bnes {x y : Int} (h : ¬ x = y) : (x == y) = false ∧ (x != y) = true := by simp [h]
theorem hid_false {b : Bool} (h : Hid (true = !b)) : b = false := by have := h.out; revert this; cases b <;> decide
theorem hid_true {b : Bool} (h : Hid (false = !b)) : b = true := by have := h.out; revert this; cases b <;> decide
theorem emptyS {s : ByteArray} (h : s.size = 0) : s.toList.isEmpty = true ∧ (!s.toList.isEmpty) = false := by
 have : s.toList.isEmpty = true := by rw [bl_toList, List.isEmpty_iff_length_eq_zero, bl_length]; exact h
 rw [this]; exact ⟨rfl, rfl⟩
theorem emptyN {s : ByteArray} (h : ¬ s.size = 0) : s.toList.isEmpty = false ∧ (!s.toList.isEmpty) = true := by
 have : s.toList.isEmpty = false := by rw [bl_toList, Bool.eq_false_iff]; intro hE; rw [List.isEmpty_iff_length_eq_zero, bl_length] at hE; exact h hE
 rw [this]; exact ⟨rfl, rfl⟩
set_option maxRecDepth 100000 in
set_option maxHeartbeats 4000000 in
theorem ref_RequestFault (r : Req) (a : Option Addr) (c : Nat) (w : World) (h : RowsAt w a 1 strR r.keys) (hl : r.keys.length ≤ 9223372036854775807) (hk : r.key.size ≤ 9223372036854775807) :
  Calls Tryz.prog 32 #[.agg (reqV r a c)] w (FaultEnd r w) := by
 have HR := hid h;clear h;have hbl : Below w.heap.size w (w.alloc (.cells (reqV r a c) 31)) := by go_grown
 by_cases hkd : 1 ≤ r.kind ∧ r.kind ≤ 13
 ·have HK := hid hkd
  go_enter Tryz.func32, Tryz.ntmps32
  go_upto_if 8 with (first | (go_at_call 58; refine (in_yes _ _ _ _ HK.out).mono ?_; rintro e w' ⟨rfl, rfl⟩))
  go_upto_if 11 with (fail)
  go_cut [] (fun wx => w.alloc (.cells (reqV r a c) 31) = wx ∧ Hid (r.f0 = true))
  case first =>
   by_cases q1 : r.kind = 1
   ·obtain ⟨b1, b2⟩ := beqs q1
    have Q1 := hid q1;clear q1
    by_cases g : 1 ≤ r.keys.length ∧ r.keys.length ≤ 10
    ·obtain ⟨g1, g2⟩ := g
     have HFF := hid (fun (h : r.keys.all keyOK = false) => fault_form HK.out (form_0 (show r.f0 = false by unfold Req.f0; rw [if_pos Q1.out, h, Bool.and_false])));have HT := hid (fun (h : r.keys.all keyOK = true) => (show r.f0 = true by unfold Req.f0; rw [if_pos Q1.out, h, decide_eq_true ⟨g1, g2⟩]; rfl))
     as_aux_lemma =>
      go_wp2_with fail
      refine (in_yes _ _ _ _ ⟨by omega, by omega⟩).mono ?_;rintro e w' ⟨rfl, rfl⟩
      go_wp2_with fail
      go_loopg [3] r.keys.length (fun g i wr => ∃ k : Nat, g + k = r.keys.length ∧ i = .int .i64 k ∧ w.alloc (.cells (reqV r a c) 31) = wr ∧ Hid ((r.keys.take k).all keyOK = true))
      case atStart => exact ⟨0, by omega, rfl, rfl, rfl⟩
      case round =>
       obtain ⟨k, hgk, rfl, rfl, hg⟩ := hrel
       by_cases hlt : k < r.keys.length
       ·obtain ⟨b, o, rfl, hc⟩ := HR.out.pos (by omega)
        obtain ⟨cs, _, ⟨hcs, hsz⟩, h3⟩ := hc k hlt;subst hcs;have c0 := (Below.keeps hbl) _ _ (h3 0 _ rfl);rw [Nat.add_zero, Nat.mul_one] at c0;have hS := hid (all_snoc hlt hg.out);have hN := hid (all_not hlt);obtain ⟨s, hs⟩ : ∃ s, s = r.keys[k] := ⟨_, rfl⟩;rw [← hs] at c0 hsz hS hN;have hs2 : s.size ≤ 9223372036854775807 := Nat.le_trans hsz (by decide);clear h3 hc hs hsz
        cases ht : keyOK s
        ·have HT1 := hid ht
         have HF := hid (HFF.out (hN.out HT1.out));clear ht
         go_wp2_with fail
         refine (keyMay_is s false HT1 _ hs2).mono ?_;rintro e w' ⟨rfl, rfl⟩
         go_wp2_with fail
         go_ret;exact ⟨ret_int HF.out.symm, hbl⟩
        ·have HT1 := hid ht
         clear ht
         go_wp2_with fail
         refine (keyMay_is s true HT1 _ hs2).mono ?_;rintro e w' ⟨rfl, rfl⟩
         go_wp2_with fail
         go_roundg (gk - 1)
         case measure => omega
         case rel => exact ⟨k + 1, by omega, by go_num, rfl, hS.out HT1.out⟩
       ·have hA : Hid (r.f0 = true) := by
         have := hg.out;rw [List.take_of_length_le (by omega)] at this;exact HT.out this
        go_wp2_with fail
        go_meet;exact ⟨rfl, hA⟩
    ·have HF := hid (fault_form HK.out (form_0 (show r.f0 = false by unfold Req.f0; rw [if_pos Q1.out, decide_eq_false g]; rfl)))
     have G := hid (show ¬ ((1 : Int) ≤ r.keys.length ∧ (r.keys.length : Int) ≤ 10) by omega);clear g
     as_aux_lemma =>
      go_wp2_with fail
      refine (in_no _ _ _ _ G.out).mono ?_;rintro e w' ⟨rfl, rfl⟩
      go_wp2_with fail
      go_ret;exact ⟨ret_int HF.out.symm, hbl⟩
   ·obtain ⟨b1, b2⟩ := bnes q1
    have Q1 := hid q1;clear q1
    by_cases g : r.keys.length = 0
    ·have HF : Hid (r.f0 = true) := by show r.f0 = true; unfold Req.f0; rw [if_neg Q1.out, decide_eq_true g]
     have g1 : (r.keys.length : Int) ≤ 0 := by omega
     clear g
     as_aux_lemma =>
      go_wp2_with fail
      go_meet;exact ⟨rfl, HF⟩
    ·have HF := hid (fault_form HK.out (form_0 (show r.f0 = false by unfold Req.f0; rw [if_neg Q1.out, decide_eq_false g])))
     have g1 : (0 : Int) < (r.keys.length : Int) := by omega
     clear g
     as_aux_lemma =>
      go_wp2_with fail
      go_ret;exact ⟨ret_int HF.out.symm, hbl⟩
  case rest =>
   obtain ⟨rfl, F0⟩ := hcut;go_upto_region 14 with (go_at_call 58; refine (ref_In _ _ _ _).mono ?_; rintro e w' ⟨rfl, rfl⟩)
   go_cut [4, 53] (fun _ s wx => w.alloc (.cells (reqV r a c) 31) = wx ∧ ∃ tb : Bool, s = .bool tb ∧ Hid (tb = !r.f1))
   case first =>
    as_aux_lemma =>
     by_cases q : 2 ≤ r.kind ∧ r.kind ≤ 11
     ·have Q := hid q
      have d : decide (2 ≤ r.kind ∧ r.kind ≤ 11) = true := decide_eq_true q;obtain ⟨q1, q2⟩ := q
      cases hkey : keyOK r.key
      all_goals
       have HT := hid hkey;have HF : Hid (r.f1 = keyOK r.key) := by show r.f1 = _; unfold Req.f1; rw [if_pos Q.out]
       clear hkey
       go_wp2_with fail
       refine (keyMay_is r.key _ HT _ hk).mono ?_;rintro e w' ⟨rfl, rfl⟩
       go_wp2_with fail
       go_meet;exact ⟨rfl, _, rfl, by show _ = !r.f1; rw [HF.out, HT.out]; rfl⟩
     ·have HF : Hid (r.f1 = decide (r.key.size = 0)) := by show r.f1 = _; unfold Req.f1; rw [if_neg q]
      have d : (decide (2 ≤ r.kind) && decide (r.kind ≤ 11)) = false := by rw [← Bool.decide_and]; exact decide_eq_false q
      clear q
      by_cases g : r.key.size = 0
      ·obtain ⟨d1, d2⟩ := emptyS g
       have G := hid g;clear g
       go_wp2_with fail
       go_meet;exact ⟨rfl, _, rfl, by show _ = !r.f1; rw [HF.out, decide_eq_true G.out]; rfl⟩
      ·obtain ⟨d1, d2⟩ := emptyN g
       have G := hid g;clear g
       go_wp2_with fail
       go_meet;exact ⟨rfl, _, rfl, by show _ = !r.f1; rw [HF.out, decide_eq_false G.out]; rfl⟩
   case rest =>
    obtain ⟨rfl, tb, rfl, Q⟩ := hcut
    cases tb
    rotate_left
    ·have HF := hid (fault_form HK.out (form_1 (hid_false Q)))
     as_aux_lemma =>
      go_wp2_with fail
      go_ret;exact ⟨ret_int HF.out.symm, hbl⟩
    have F1 : Hid (r.f1 = true) := hid_true Q;clear Q;go_upto_region 16 with (fail)
    go_cut [77] (fun s wx => w.alloc (.cells (reqV r a c) 31) = wx ∧ ∃ tb : Bool, s = .bool tb ∧ Hid (tb = !r.f2))
    case first =>
     as_aux_lemma =>
      by_cases q : 2 ≤ r.kind ∧ r.kind ≤ 7
      ·have Q : Hid (decide (2 ≤ r.kind ∧ r.kind ≤ 7) = true) := decide_eq_true q
       have HF : Hid (r.f2 = true) := by show r.f2 = true; unfold Req.f2; rw [Q.out]; rfl
       clear q
       go_wp2_with fail
       refine (brings_is _ true Q _).mono ?_;rintro e w' ⟨rfl, rfl⟩
       go_wp2_with fail
       go_meet;exact ⟨rfl, _, rfl, by show _ = !r.f2; rw [HF.out]; rfl⟩
      ·have Q : Hid (decide (2 ≤ r.kind ∧ r.kind ≤ 7) = false) := decide_eq_false q
       have HG : Hid (r.f2 = (decide (r.flags = 0 ∧ r.value.size = 0) && (decide (r.kind = 11) || decide (r.exp = 0)))) := by show r.f2 = _; unfold Req.f2; rw [Q.out]; rfl
       clear q
       by_cases g1 : r.flags = 0
       ·obtain ⟨d1, d2⟩ := beqs g1
        by_cases g2 : r.value.size = 0
        ·obtain ⟨e1, e2⟩ := emptyS g2
         by_cases g3 : r.kind = 11
         ·obtain ⟨i1, i2⟩ := beqs g3
          have HF : Hid (r.f2 = true) := by show r.f2 = true; rw [HG.out, decide_eq_true ⟨g1, g2⟩, decide_eq_true g3]; rfl
          clear g1 g2 g3
          go_wp2_with fail
          refine (brings_is _ false Q _).mono ?_;rintro e w' ⟨rfl, rfl⟩
          go_wp2_with fail
          go_meet;exact ⟨rfl, _, rfl, by show _ = !r.f2; rw [HF.out]; rfl⟩
         ·obtain ⟨i1, i2⟩ := bnes g3
          by_cases g4 : r.exp = 0
          ·obtain ⟨j1, j2⟩ := beqs g4
           have HF : Hid (r.f2 = true) := by show r.f2 = true; rw [HG.out, decide_eq_true ⟨g1, g2⟩, decide_eq_true g4, Bool.or_true]; rfl
           clear g1 g2 g3 g4
           go_wp2_with fail
           refine (brings_is _ false Q _).mono ?_;rintro e w' ⟨rfl, rfl⟩
           go_wp2_with fail
           go_meet;exact ⟨rfl, _, rfl, by show _ = !r.f2; rw [HF.out]; rfl⟩
          ·obtain ⟨j1, j2⟩ := bnes g4
           have HF : Hid (r.f2 = false) := by show r.f2 = false; rw [HG.out, decide_eq_false g3, decide_eq_false g4, Bool.or_false, Bool.and_false]
           clear g1 g2 g3 g4
           go_wp2_with fail
           refine (brings_is _ false Q _).mono ?_;rintro e w' ⟨rfl, rfl⟩
           go_wp2_with fail
           go_meet;exact ⟨rfl, _, rfl, by show _ = !r.f2; rw [HF.out]; rfl⟩
        ·obtain ⟨e1, e2⟩ := emptyN g2
         have HF : Hid (r.f2 = false) := by show r.f2 = false; rw [HG.out, decide_eq_false (fun h => g2 h.2), Bool.false_and]
         clear g1 g2
         go_wp2_with fail
         refine (brings_is _ false Q _).mono ?_;rintro e w' ⟨rfl, rfl⟩
         go_wp2_with fail
         go_meet;exact ⟨rfl, _, rfl, by show _ = !r.f2; rw [HF.out]; rfl⟩
       ·obtain ⟨d1, d2⟩ := bnes g1
        have HF : Hid (r.f2 = false) := by show r.f2 = false; rw [HG.out, decide_eq_false (fun h => g1 h.1), Bool.false_and]
        clear g1
        go_wp2_with fail
        refine (brings_is _ false Q _).mono ?_;rintro e w' ⟨rfl, rfl⟩
        go_wp2_with fail
        go_meet;exact ⟨rfl, _, rfl, by show _ = !r.f2; rw [HF.out]; rfl⟩
    case rest =>
     obtain ⟨rfl, tb, rfl, Q⟩ := hcut
     cases tb
     rotate_left
     ·have HF := hid (fault_form HK.out (form_2 (hid_false Q)))
      as_aux_lemma =>
       go_wp2_with fail
       go_ret;exact ⟨ret_int HF.out.symm, hbl⟩
     have F2 : Hid (r.f2 = true) := hid_true Q;clear Q;go_upto_region 18 with (fail)
     go_cut [95] (fun s wx => w.alloc (.cells (reqV r a c) 31) = wx ∧ ∃ tb : Bool, s = .bool tb ∧ Hid (tb = !r.f3))
     case first =>
      as_aux_lemma =>
       by_cases g7 : r.kind = 7
       ·obtain ⟨a0, b0⟩ := beqs g7
        have HF : Hid (r.f3 = true) := by show r.f3 = true; unfold Req.f3; rw [decide_eq_true (show r.kind = 7 ∨ r.kind = 9 ∨ r.kind = 10 by omega)]; rfl
        clear g7
        go_wp2_with fail
        go_meet;exact ⟨rfl, _, rfl, by show _ = !r.f3; rw [HF.out]; rfl⟩
       ·obtain ⟨a0, b0⟩ := bnes g7
        by_cases g9 : r.kind = 9
        ·obtain ⟨a1, b1⟩ := beqs g9
         have HF : Hid (r.f3 = true) := by show r.f3 = true; unfold Req.f3; rw [decide_eq_true (show r.kind = 7 ∨ r.kind = 9 ∨ r.kind = 10 by omega)]; rfl
         clear g7 g9
         go_wp2_with fail
         go_meet;exact ⟨rfl, _, rfl, by show _ = !r.f3; rw [HF.out]; rfl⟩
        ·obtain ⟨a1, b1⟩ := bnes g9
         by_cases ga : r.kind = 10
         ·obtain ⟨a2, b2⟩ := beqs ga
          have HF : Hid (r.f3 = true) := by show r.f3 = true; unfold Req.f3; rw [decide_eq_true (show r.kind = 7 ∨ r.kind = 9 ∨ r.kind = 10 by omega)]; rfl
          clear g7 g9 ga
          go_wp2_with fail
          go_meet;exact ⟨rfl, _, rfl, by show _ = !r.f3; rw [HF.out]; rfl⟩
         ·obtain ⟨a2, b2⟩ := bnes ga
          by_cases g : r.n = 0
          ·obtain ⟨a3, b3⟩ := beqs g
           have HF : Hid (r.f3 = true) := by show r.f3 = true; unfold Req.f3; rw [decide_eq_true g, Bool.or_true]
           clear g7 g9 ga g
           go_wp2_with fail
           go_meet;exact ⟨rfl, _, rfl, by show _ = !r.f3; rw [HF.out]; rfl⟩
          ·obtain ⟨a3, b3⟩ := bnes g
           have HF : Hid (r.f3 = false) := by show r.f3 = false; unfold Req.f3; rw [decide_eq_false g, decide_eq_false (show ¬ (r.kind = 7 ∨ r.kind = 9 ∨ r.kind = 10) by omega)]; rfl
           clear g7 g9 ga g
           go_wp2_with fail
           go_meet;exact ⟨rfl, _, rfl, by show _ = !r.f3; rw [HF.out]; rfl⟩
     case rest =>
      obtain ⟨rfl, tb, rfl, Q⟩ := hcut
      cases tb
      rotate_left
      ·have HF := hid (fault_form HK.out (form_3 (hid_false Q)))
       as_aux_lemma =>
        go_wp2_with fail
        go_ret;exact ⟨ret_int HF.out.symm, hbl⟩
      have F3 : Hid (r.f3 = true) := hid_true Q;clear Q;go_upto_region 20 with (fail)
      go_cut [107] (fun s wx => w.alloc (.cells (reqV r a c) 31) = wx ∧ ∃ tb : Bool, s = .bool tb ∧ Hid (tb = !r.f4))
      case first =>
       as_aux_lemma =>
        cases hq : r.quiet
        ·have HF : Hid (r.f4 = true) := by show r.f4 = true; unfold Req.f4; rw [hq]; rfl
         have HQ := hq;clear hq
         skip
         go_wp2_with fail
         go_meet;exact ⟨rfl, _, rfl, by show _ = !r.f4; rw [HF.out]; rfl⟩
        ·have HQ := hq
         by_cases g1 : r.kind = 1
         ·obtain ⟨a1, b1⟩ := beqs g1
          have HF : Hid (r.f4 = false) := by show r.f4 = false; unfold Req.f4; rw [hq, decide_eq_true (show r.kind = 1 ∨ r.kind = 13 by omega)]; rfl
          clear hq;clear g1
          go_wp2_with fail
          go_meet;exact ⟨rfl, _, rfl, by show _ = !r.f4; rw [HF.out]; rfl⟩
         ·obtain ⟨a1, b1⟩ := bnes g1
          by_cases g2 : r.kind = 13
          ·obtain ⟨a2, b2⟩ := beqs g2
           have HF : Hid (r.f4 = false) := by show r.f4 = false; unfold Req.f4; rw [hq, decide_eq_true (show r.kind = 1 ∨ r.kind = 13 by omega)]; rfl
           clear hq;clear g1 g2
           go_wp2_with fail
           go_meet;exact ⟨rfl, _, rfl, by show _ = !r.f4; rw [HF.out]; rfl⟩
          ·obtain ⟨a2, b2⟩ := bnes g2
           have HF : Hid (r.f4 = true) := by show r.f4 = true; unfold Req.f4; rw [hq, decide_eq_false (show ¬ (r.kind = 1 ∨ r.kind = 13) by omega)]; rfl
           clear hq;clear g1 g2
           go_wp2_with fail
           go_meet;exact ⟨rfl, _, rfl, by show _ = !r.f4; rw [HF.out]; rfl⟩
      case rest =>
       obtain ⟨rfl, tb, rfl, Q⟩ := hcut
       cases tb
       rotate_left
       ·have HF := hid (fault_form HK.out (form_4 (hid_false Q)))
        as_aux_lemma =>
         go_wp2_with fail
         go_ret;exact ⟨ret_int HF.out.symm, hbl⟩
       have F4 : Hid (r.f4 = true) := hid_true Q;clear Q;have HM := hid (form_all F0.out F1.out F2.out F3.out F4.out);go_upto_region 22 with (fail)
       go_cut [123] (fun s wx => w.alloc (.cells (reqV r a c) 31) = wx ∧ ∃ tb : Bool, s = .bool tb ∧ Hid (tb = !r.range))
       case first =>
        as_aux_lemma =>
         by_cases g1 : 0 ≤ r.flags ∧ r.flags ≤ 65535
         ·have G1 := hid g1
          by_cases g2 : 0 ≤ r.exp ∧ r.exp ≤ 1099511627776
          ·have G2 := hid g2
           by_cases g3 : 0 ≤ r.n ∧ r.n ≤ 1099511627776
           ·have G3 := hid g3
            have HF : Hid (r.range = true) := decide_eq_true ⟨g1.1, g1.2, g2.1, g2.2, g3.1, g3.2⟩;clear g1 g2 g3
            go_wp2_with fail
            refine (in_yes _ _ _ _ G1.out).mono ?_;rintro e w' ⟨rfl, rfl⟩
            go_wp2_with fail
            refine (in_yes _ _ _ _ G2.out).mono ?_;rintro e w' ⟨rfl, rfl⟩
            go_wp2_with fail
            refine (in_yes _ _ _ _ G3.out).mono ?_;rintro e w' ⟨rfl, rfl⟩
            go_wp2_with fail
            go_meet;exact ⟨rfl, _, rfl, by show _ = !r.range; rw [HF.out]; rfl⟩
           ·have G3 := hid g3
            have HF : Hid (r.range = false) := decide_eq_false (fun h => g3 ⟨h.2.2.2.2.1, h.2.2.2.2.2⟩);clear g1 g2 g3
            go_wp2_with fail
            refine (in_yes _ _ _ _ G1.out).mono ?_;rintro e w' ⟨rfl, rfl⟩
            go_wp2_with fail
            refine (in_yes _ _ _ _ G2.out).mono ?_;rintro e w' ⟨rfl, rfl⟩
            go_wp2_with fail
            refine (in_no _ _ _ _ G3.out).mono ?_;rintro e w' ⟨rfl, rfl⟩
            go_wp2_with fail
            go_meet;exact ⟨rfl, _, rfl, by show _ = !r.range; rw [HF.out]; rfl⟩
          ·have G2 := hid g2
           have HF : Hid (r.range = false) := decide_eq_false (fun h => g2 ⟨h.2.2.1, h.2.2.2.1⟩);clear g1 g2
           go_wp2_with fail
           refine (in_yes _ _ _ _ G1.out).mono ?_;rintro e w' ⟨rfl, rfl⟩
           go_wp2_with fail
           refine (in_no _ _ _ _ G2.out).mono ?_;rintro e w' ⟨rfl, rfl⟩
           go_wp2_with fail
           go_meet;exact ⟨rfl, _, rfl, by show _ = !r.range; rw [HF.out]; rfl⟩
         ·have G1 := hid g1
          have HF : Hid (r.range = false) := decide_eq_false (fun h => g1 ⟨h.1, h.2.1⟩);clear g1
          go_wp2_with fail
          refine (in_no _ _ _ _ G1.out).mono ?_;rintro e w' ⟨rfl, rfl⟩
          go_wp2_with fail
          go_meet;exact ⟨rfl, _, rfl, by show _ = !r.range; rw [HF.out]; rfl⟩
       case rest =>
        obtain ⟨rfl, tb, rfl, Q⟩ := hcut
        cases tb
        rotate_left
        ·have HF := hid (fault_range HK.out HM.out (hid_false Q))
         as_aux_lemma =>
          go_wp2_with fail
          go_ret;exact ⟨ret_int HF.out.symm, hbl⟩
        have HG : Hid (r.range = true) := hid_true Q;clear Q
        by_cases hz : 200 < r.value.size
        ·have HL := hid (fault_size HK.out HM.out HG.out hz)
         as_aux_lemma =>
          go_wp2_with fail
          go_ret;exact ⟨ret_int HL.out.symm, hbl⟩
        ·have HL := hid (fault_none HK.out HM.out HG.out hz)
         have hz2 : r.value.size ≤ 200 := by omega
         clear hz
         as_aux_lemma =>
          go_wp2_with fail
          go_ret;exact ⟨ret_int HL.out.symm, hbl⟩
 ·have HF := hid (fault_kind hkd)
  have HK := hid hkd;clear hkd
  as_aux_lemma =>
   go_enter Tryz.func32, Tryz.ntmps32
   go_wp2_with fail
   refine (in_no _ _ _ _ HK.out).mono ?_;rintro e w' ⟨rfl, rfl⟩
   go_wp2_with fail
   go_ret;exact ⟨ret_int HF.out.symm, by go_grown⟩
end Go.Proofs.YtbeegfkfpkfccaaGreatDoor.D
