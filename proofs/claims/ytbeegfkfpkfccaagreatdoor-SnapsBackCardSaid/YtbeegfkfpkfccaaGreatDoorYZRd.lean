/-
 Contracts: snap's reader; how a store is laid down while it is read.
-/
import Derived.Test.YtbeegfkfpkfccaaGreatDoorYZEnc
import Derived.Test.YtbeegfkfpkfccaaGreatDoorYCRecord
import Derived.Test.YtbeegfkfpkfccaaGreatDoorYPDecode
import Derived.Test.YtbeegfkfpkfccaaGreatDoorYCTickS
import Derived.Test.YtbeegfkfpkfccaaGreatDoorYPDec
import Derived.Test.YtbeegfkfpkfccaaGreatDoorYOwn
namespace Go.Proofs.YtbeegfkfpkfccaaGreatDoor.D
open Go.RowKit
def OutSt (t : Store) (n : Int) (w : World) (e : Ending) (w' : World) : Prop :=
 ∃ va vc fa fc, e = .returned (.tuple #[.agg (storeV t va vc fa fc), .int .i64 n]) ∧ RowsAt w' va 9 ItemR t.items ∧ RowsAt w' fa 2 (PageR w') t.flash.pages ∧ Below w.heap.size w w'
theorem out_zeroR {t : Store} {n m : Int} {w w' : World} (h : (t, m) = (Store.zero, n)) (hb : Below w.heap.size w w') : OutSt t m w (.returned (.tuple #[.agg storeZt, .int .i64 n])) w' := by
 obtain ⟨rfl, rfl⟩ := Prod.mk.inj h
 exact ⟨none, 0, none, 0, rfl, .inl rfl, .inl rfl, hb⟩
/-- the reader at g: what is left lies elsewhere -/
structure Rdr (g : Nat) (w : World) (s : Rd) : Prop where
 ex : ∃ b o c, w.heap[g]? = some (.cells #[.slice (some ⟨b, o, none⟩) s.rest.length c, .int .i64 s.err] 104 (0, 0)) ∧ BytesAt w (some ⟨b, o, none⟩) s.rest ∧ s.rest.length ≤ c ∧ c ≤ 9223372036854775807 ∧ b < g
theorem Rdr.lt {g : Nat} {w : World} {s : Rd} (h : Rdr g w s) : g < w.heap.size := by
 obtain ⟨_, _, _, hh, _⟩ := h.ex
 exact (blt hh)
theorem BytesAt.grown {w w' : World} {b o : Nat} {l : Str} {g : Nat} (h : BytesAt w (some ⟨b, o, none⟩) l) (hg : w.grownBy w' (some g)) (hbg : b ≠ g) : BytesAt w' (some ⟨b, o, none⟩) l := by
 rcases h with h | ⟨b', o', ha, hc⟩
 ·exact .inl h
 ·cases ha
  refine .inr ⟨b, o, rfl, fun i v hv => ?_⟩
  have hcv := hc i v hv
  rw [World.cell?_of_block (w := w) (hg.block b (cell_lt hcv) (fun e => hbg (by cases e; rfl)))]
  exact hcv
theorem BytesAt.stay {w w' : World} {b o : Nat} {l : Str} (h : BytesAt w (some ⟨b, o, none⟩) l) (hb : w'.heap[b]? = w.heap[b]?) : BytesAt w' (some ⟨b, o, none⟩) l := by
 rcases h with h | ⟨b', o', ha, hc⟩
 ·exact .inl h
 ·cases ha
  exact .inr ⟨b, o, rfl, fun i v hv => (World.cell?_of_block (w := w) hb).trans (hc i v hv)⟩
theorem Rdr.stay {g : Nat} {w w' : World} {s : Rd} (h : Rdr g w s) (hb : ∀ k, k ≤ g → w'.heap[k]? = w.heap[k]?) : Rdr g w' s := by
 obtain ⟨b, o, c, hh, hby, h1, h2, h3⟩ := h.ex
 exact ⟨b, o, c, (hb g (Nat.le_refl _)).trans hh, hby.stay (hb b (by omega)), h1, h2, h3⟩
theorem grown_trans {a b c : World} {g : Nat} (h : a.grownBy b (some g)) (k : b.grownBy c (some g)) : a.grownBy c (some g) :=
 ⟨k.os.trans h.os, k.tape.trans h.tape, k.output.trans h.output, Nat.le_trans h.size k.size, fun j hj hne => (k.block j (Nat.lt_of_lt_of_le hj h.size) hne).trans (h.block j hj hne)⟩
theorem grown_refl (w : World) (g : Nat) : w.grownBy w (some g) := ⟨rfl, rfl, rfl, Nat.le_refl _, fun _ _ _ => rfl⟩
theorem grown_set (w : World) (g i : Nat) (v : Value) : w.grownBy (w.setCell ⟨g, i, none⟩ v) (some g) :=
 ⟨rfl, rfl, rfl, by simp, fun k _ hne => Below.heap_setCell w ⟨g, i, none⟩ v k (fun e => hne (by rw [show g = k from e.symm]))⟩
def RdEnd (g : Nat) (v : Value) (s : Rd) (w : World) (e : Ending) (w' : World) : Prop := e = .returned v ∧ Rdr g w' s ∧ w.grownBy w' (some g)
/-- the error laid down -/
theorem Rdr.err {g : Nat} {w : World} {s : Rd} (h : Rdr g w s) (e : Int) : Rdr g (w.setCell ⟨g, 1, none⟩ (.int .i64 e)) ⟨s.rest, e⟩ := by
 obtain ⟨b, o, c, hh, hb, h1, h2, h3⟩ := h.ex
 refine ⟨b, o, c, ?_, hb.grown (grown_set w g 1 _) (Nat.ne_of_lt h3), h1, h2, h3⟩
 rw [setCell_eq_setRow w g 1 _ _ _ _ hh]; exact setRow_heap w g _ _ _ _ hh
/-- what is left laid down anew -/
theorem Rdr.put {g : Nat} {w : World} {s : Rd} (h : Rdr g w s) {b o : Nat} {l : Str} {c : Nat} (hb : BytesAt w (some ⟨b, o, none⟩) l) (h1 : l.length ≤ c) (h2 : c ≤ 9223372036854775807) (h3 : b < g) :
  Rdr g (w.setCell ⟨g, 0, none⟩ (.slice (some ⟨b, o, none⟩) l.length c)) ⟨l, s.err⟩ := by
 obtain ⟨b', o', c', hh, _⟩ := h.ex
 refine ⟨b, o, c, ?_, hb.grown (grown_set w g 0 _) (Nat.ne_of_lt h3), h1, h2, h3⟩
 rw [setCell_eq_setRow w g 0 _ _ _ _ hh]; exact setRow_heap w g _ _ _ _ hh
theorem r_wrong (g : Nat) (s : Rd) (e : Int) (w : World) (h : Rdr g w s) :
  Calls Tryz.prog 49 #[.pointer (some ⟨g, 0, none⟩), .int .i64 e] w (RdEnd g (.tuple #[]) (s.wrong e) w) := by
 have HR := hid h
 obtain ⟨b, o, c, hh, _⟩ := h.ex
 have c1 : w.cell? ⟨g, 1, none⟩ = some (.int .i64 s.err) := cor hh rfl
 have f1 : w.frozen? ⟨g, 1, none⟩ = false := frozen_of_row w _ _ _ _ hh
 clear h hh
 by_cases he : s.err = 0
 ·have HE : Hid (s.wrong e = ⟨s.rest, e⟩) := by show _ = _; unfold Rd.wrong; rw [if_pos he]
  rw [he] at c1
  go_enter Tryz.func49, Tryz.ntmps49
  go_wp2_with fail
  go_end0
  exact ⟨rfl, by rw [HE.out]; exact HR.out.err e, grown_set _ _ _ _⟩
 ·have HE : Hid (s.wrong e = s) := by show _ = _; unfold Rd.wrong; rw [if_neg he]
  have h1 : (s.err == 0) = false := by simp [he]
  obtain ⟨n, hn⟩ : ∃ n, n = s.err := ⟨_, rfl⟩
  rw [← hn] at c1 h1
  clear he hn
  go_enter Tryz.func49, Tryz.ntmps49
  go_wp2_with fail
  go_end0
  exact ⟨rfl, by rw [HE.out]; exact HR.out, grown_refl _ _⟩
theorem pow_cast (k : Nat) : ((128 ^ k : Nat) : Int) = 2 ^ (7 * k) := by
 have h : (128 : Nat) ^ k = 2 ^ (7 * k) := by rw [Nat.pow_mul]
 rw [h]
 induction 7 * k with
 | zero => rfl
 | succ n ih => rw [Nat.pow_succ, Int.natCast_mul, ih, Int.pow_succ]; rfl
theorem shift_lt (n q m P : Nat) (hm : m = q * P) (hn : n < P) (hq : q ≤ 127) : n + m < P * 128 := by
 have hml : m ≤ 127 * P := by rw [hm]; exact Nat.mul_le_mul_right _ hq
 omega
theorem shift_facts (n q k m : Nat) (hm : m = q * 128 ^ k) (hn : n < 128 ^ k) (hk : k ≤ 5) (hq : q ≤ 127) :
  (q : Int) * 2 ^ (7 * k) = (m : Int) ∧ wrap64 (m : Int) = (m : Int) ∧ bits .or .i64 (n : Int) (m : Int) = ((n + m : Nat) : Int) ∧ n + m < 128 ^ (k + 1) ∧ n + m < 4398046511104 := by
 have hlt : n + m < 128 ^ (k + 1) := by rw [Nat.pow_succ]; exact shift_lt n q m _ hm hn hq
 have h6 : 128 ^ (k + 1) ≤ 128 ^ 6 := Nat.pow_le_pow_right (by decide) (by omega)
 have h6' : (128 : Nat) ^ 6 = 4398046511104 := by decide
 have hnm : n + m < 4398046511104 := by rw [← h6']; exact Nat.lt_of_lt_of_le hlt h6
 have h2 : (128 : Nat) ^ k = 2 ^ (7 * k) := by rw [Nat.pow_mul]
 clear h6 h6'
 refine ⟨by rw [hm, Int.natCast_mul, pow_cast], IntWalk.wrap64_in _ ⟨by omega, by omega⟩, ?_, hlt, hnm⟩
 have h := (bits_nat .i64 63 (by decide) (fun n h0 h1 => IntWalk.i64_in _ ⟨by omega, by omega⟩) n m (by omega) (by omega)).2
 rw [h2] at hn hm
 rw [h, Nat.or_comm, hm, Nat.mul_comm q, ← Nat.two_pow_add_eq_or_of_lt hn, Nat.add_comm]
set_option maxRecDepth 100000 in
set_option maxHeartbeats 2000000 in
theorem r_number (g : Nat) (s : Rd) (w : World) (h : Rdr g w s) :
  Calls Tryz.prog 45 #[.pointer (some ⟨g, 0, none⟩)] w (RdEnd g (.int .i64 s.num.1) s.num.2 w) := by
 have HR := hid h
 clear h
 by_cases he : s.err = 0
 ·
  have HN := hid (num_ok s he)
  have HE := hid he
  clear he
  go_enter Tryz.func45, Tryz.ntmps45
  go_wp2_with fail
  go_loopw [3, 4] (fun t i wr => ∃ k n : Nat, ∃ r : Str, k ≤ 6 ∧ i = .int .i64 k ∧ t = .int .i64 n ∧ Hid (n < 128 ^ k) ∧ Hid (rdN k n r = rdN 0 0 s.rest) ∧ Hid (Rdr g wr ⟨r, 0⟩) ∧ Hid (w.grownBy wr (some g))) (fun _ i _ => 6 - (intOf i).toNat)
  case atStart => exact ⟨0, 0, s.rest, by omega, rfl, rfl, by show _ < _; decide, rfl, by have := HR.out; have he := HE.out; cases s; simp only at he ⊢; subst he; exact this, grown_refl _ _⟩
  case round =>
   obtain ⟨k, n, r, hk, rfl, rfl, HLT, HEQ, HRD, HGR⟩ := hrel
   obtain ⟨b, o, c, hh, hby, hc1, hc2, hne⟩ := HRD.out.ex
   simp only at hh hby hc1
   have c0 : wr.cell? ⟨g, 0, none⟩ = some (.slice (some ⟨b, o, none⟩) r.length c) := cor hh rfl
   have c1 : wr.cell? ⟨g, 1, none⟩ = some (.int .i64 0) := cor hh rfl
   have f0 : wr.frozen? ⟨g, 0, none⟩ = false := frozen_of_row wr _ _ _ _ hh
   have HBY := hid hby
   have HNE := hid hne
   clear hh hby hne
   cases r with
   | nil =>
    have HX : Hid (s.num = (0, ⟨[], 5⟩)) := by show _ = _; rw [HN.out, ← HEQ.out, rdN_nil]; rfl
    go_wp2_with fail
    refine (r_wrong g ⟨[], 0⟩ 5 _ HRD.out).mono ?_
    rintro e w2 ⟨rfl, hr2, hg2⟩
    have HR2 := hid hr2
    have HG2 := hid (grown_trans HGR.out hg2)
    clear hr2 hg2 c0 c1 f0
    go_wp2_with fail
    go_ret
    exact ⟨by rw [HX.out]; rfl, by rw [HX.out]; exact HR2.out, HG2.out⟩
   | cons ch r =>
    obtain ⟨b', o', hbo, hcell⟩ := HBY.out.pos (by simp)
    cases hbo
    have cc := hcell 0 (by simp)
    simp only [List.getElem_cons_zero, Nat.add_zero] at cc
    obtain ⟨d, hd⟩ : ∃ d : Nat, d = ch.toNat := ⟨_, rfl⟩
    have hd256 : d < 256 := by rw [hd]; exact ch.toNat_lt
    rw [← hd] at cc
    have HD := hid hd
    have hwd : wrap64 (d : Int) = (d : Int) := IntWalk.wrap64_in _ ⟨by omega, by omega⟩
    clear hcell hd
    simp only [List.length_cons] at c0 hc1
    have hl0 : ((r.length : Int) + 1 == 0) = false := by rw [beq_eq_false_iff_ne]; omega
    go_upto_region 8 with (fail)
    go_cut [] (fun wx => Hid (Rdr g wx ⟨r, 0⟩) ∧ Hid (w.grownBy wx (some g)))
    case first =>
     by_cases hcap : c = 1
     ·subst hcap
      obtain rfl : r = [] := List.eq_nil_of_length_eq_zero (by omega)
      have HRW : Hid (Rdr g (wr.setCell ⟨g, 0, none⟩ (.slice (some ⟨b, o, none⟩) 0 0)) ⟨[], 0⟩) := HRD.out.put (l := []) (.inl rfl) (Nat.le_refl _) (by omega) HNE.out
      have HGW : Hid (w.grownBy (wr.setCell ⟨g, 0, none⟩ (.slice (some ⟨b, o, none⟩) 0 0)) (some g)) := grown_trans HGR.out (grown_set wr g 0 _)
      simp only [List.length_nil, Nat.zero_add] at c0
      go_wp2_with fail
      go_meet
      exact ⟨HRW, HGW⟩
     ·have hcap2 : 1 < c := by omega
      have HRW : Hid (Rdr g (wr.setCell ⟨g, 0, none⟩ (.slice (some ⟨b, o + 1, none⟩) r.length (c - 1))) ⟨r, 0⟩) := HRD.out.put (l := r) (by simpa using HBY.out.drop 1) (by omega) (by omega) HNE.out
      have HGW : Hid (w.grownBy (wr.setCell ⟨g, 0, none⟩ (.slice (some ⟨b, o + 1, none⟩) r.length (c - 1))) (some g)) := grown_trans HGR.out (grown_set wr g 0 _)
      clear hcap
      go_wp2_with fail
      go_meet
      exact ⟨HRW, HGW⟩
    case rest =>
     obtain ⟨HRW, HGW⟩ := hcut
     clear c0 c1 f0 cc HBY HNE hc1 hc2
     by_cases hform : k = 6 ∨ (0 < k ∧ d = 0)
     ·have HX : Hid (s.num = (0, ⟨r, 4⟩)) := by show _ = _; rw [HN.out, ← HEQ.out, rdN_form (by rw [← HD.out]; exact hform)]; rfl
      by_cases hk6 : k = 6
      ·
       have e6 : ((k : Int) == 6) = true := by rw [beq_iff_eq]; omega
       clear hform hk6
       go_wp2_with fail
       refine (r_wrong g ⟨r, 0⟩ 4 _ HRW.out).mono ?_
       rintro e w2 ⟨rfl, hr2, hg2⟩
       have HR2 := hid hr2
       have HG2 := hid (grown_trans HGW.out hg2)
       clear hr2 hg2
       go_wp2_with fail
       go_ret
       exact ⟨by rw [HX.out]; rfl, by rw [HX.out]; exact HR2.out, HG2.out⟩
      ·
       have e6 : ((k : Int) == 6) = false := by rw [beq_eq_false_iff_ne]; omega
       have hk0 : 0 < k := by omega
       have hk0' : (0 : Int) < (k : Int) := by omega
       have hd0 : ((d : Int) == 0) = true := by rw [beq_iff_eq]; omega
       clear hform hk6
       go_wp2_with fail
       refine (r_wrong g ⟨r, 0⟩ 4 _ HRW.out).mono ?_
       rintro e w2 ⟨rfl, hr2, hg2⟩
       have HR2 := hid hr2
       have HG2 := hid (grown_trans HGW.out hg2)
       clear hr2 hg2
       go_wp2_with fail
       go_ret
       exact ⟨by rw [HX.out]; rfl, by rw [HX.out]; exact HR2.out, HG2.out⟩
     ·have e6 : ((k : Int) == 6) = false := by rw [beq_eq_false_iff_ne]; omega
      have hk5 : k ≤ 5 := by omega
      obtain ⟨q, hq⟩ : ∃ q, q = d % 128 := ⟨_, rfl⟩
      obtain ⟨m, hm⟩ : ∃ m, m = q * 128 ^ k := ⟨_, rfl⟩
      have hx1 := and127 d q (by omega) hq
      obtain ⟨hx2, hx3, hx4, hlt2, hnm⟩ := shift_facts n q k m hm HLT.out hk5 (by omega)
      have HLT2 := hid hlt2
      have HF2 : Hid (¬ (k = 6 ∨ (0 < k ∧ ch.toNat = 0))) := by show ¬ _; rw [← HD.out]; exact hform
      have HQM : Hid (n + ch.toNat % 128 * 128 ^ k = n + m) := by show _ = _; rw [← HD.out, ← hq, ← hm]
      obtain ⟨tt, htt⟩ : ∃ tt, tt = n + m := ⟨_, rfl⟩
      rw [← htt] at hx4 HLT2 HQM hnm
      have hsplit : (0 < k ∧ ¬ d = 0) ∨ ¬ 0 < k := by omega
      clear hform hq hm htt hlt2
      by_cases hd128 : d < 128
      ·have HX : Hid (s.num = ((tt : Int), ⟨r, 0⟩)) := by show _ = _; rw [HN.out, ← HEQ.out, rdN_last HF2.out (by rw [← HD.out]; exact hd128), HQM.out]
       have hdi : (d : Int) < 128 := by omega
       rcases hsplit with ⟨hk0, hd0⟩ | hk0
       ·
        have hd1 : ((d : Int) == 0) = false := by rw [beq_eq_false_iff_ne]; omega
        clear hd0
        go_wp2_with fail
        go_ret
        exact ⟨by rw [HX.out]; rfl, by rw [HX.out]; exact HRW.out, HGW.out⟩
       ·
        go_wp2_with fail
        go_ret
        exact ⟨by rw [HX.out]; rfl, by rw [HX.out]; exact HRW.out, HGW.out⟩
      ·have HEQ2 : Hid (rdN (k + 1) tt r = rdN 0 0 s.rest) := by show _ = _; rw [← HEQ.out, rdN_more HF2.out (by rw [← HD.out]; exact hd128), HQM.out]
       have hdi : ¬ (d : Int) < 128 := by omega
       rcases hsplit with ⟨hk0, hd0⟩ | hk0
       ·
        have hd1 : ((d : Int) == 0) = false := by rw [beq_eq_false_iff_ne]; omega
        clear hd0
        go_wp2_with fail
        go_roundw
        case rel => first | exact ⟨k + 1, tt, r, by omega, by go_num, rfl, HLT2, HEQ2, HRW, HGW⟩ | ((repeat apply Exists.intro); exact ⟨⟨k + 1, tt, r, by omega, by go_num, rfl, HLT2, HEQ2, HRW, HGW⟩, rfl⟩)
        case measure => simp [intOf]; omega
       ·
        go_wp2_with fail
        go_roundw
        case rel => first | exact ⟨k + 1, tt, r, by omega, by go_num, rfl, HLT2, HEQ2, HRW, HGW⟩ | ((repeat apply Exists.intro); exact ⟨⟨k + 1, tt, r, by omega, by go_num, rfl, HLT2, HEQ2, HRW, HGW⟩, rfl⟩)
        case measure => simp [intOf]; omega
 ·
  have HN := hid (num_err s he)
  have h1 : (s.err == 0) = false := by simp [he]
  obtain ⟨b, o, c, hh, _⟩ := HR.out.ex
  have c1 : w.cell? ⟨g, 1, none⟩ = some (.int .i64 s.err) := cor hh rfl
  obtain ⟨n, hn⟩ : ∃ n, n = s.err := ⟨_, rfl⟩
  rw [← hn] at c1 h1
  clear he hh hn
  go_enter Tryz.func45, Tryz.ntmps45
  go_wp2_with fail
  go_loopw [3, 4] (fun t i wr => i = .int .i64 0 ∧ t = .int .i64 0 ∧ wr = w) (fun _ _ _ => 0)
  case atStart => exact ⟨rfl, rfl, rfl⟩
  case round =>
   obtain ⟨rfl, rfl, rfl⟩ := hrel
   go_wp2_with fail
   go_ret
   exact ⟨by rw [HN.out]; rfl, by rw [HN.out]; exact HR.out, grown_refl _ _⟩
theorem num_isZ (g : Nat) (s : Rd) (n : Int) (s1 : Rd) (hn : Hid ((n, s1) = s.num)) (w : World) (h : Rdr g w s) :
  Calls Tryz.prog 45 #[.pointer (some ⟨g, 0, none⟩)] w (RdEnd g (.int .i64 n) s1 w) := by
 have := r_number g s w h
 rwa [← hn.out] at this
theorem many_le (s : Rd) (most : Int) (hm : 0 ≤ most) : 0 ≤ (s.many most).1 ∧ (s.many most).1 ≤ most := by
 have := num_lt s
 unfold Rd.many
 split
 ·exact ⟨Int.le_refl _, hm⟩
 ·omega
theorem r_count (g : Nat) (s : Rd) (most : Int) (w : World) (h : Rdr g w s) :
  Calls Tryz.prog 46 #[.pointer (some ⟨g, 0, none⟩), .int .i64 most] w (RdEnd g (.int .i64 (s.many most).1) (s.many most).2 w) := by
 have HR := hid h
 clear h
 obtain ⟨⟨n, s1⟩, hn⟩ : ∃ p, p = s.num := ⟨_, rfl⟩
 have HN := hid hn
 clear hn
 by_cases hm : most < n
 ·have HX : Hid (s.many most = (0, s1.wrong 1)) := by show _ = _; unfold Rd.many; rw [← HN.out, if_pos hm]
  go_enter Tryz.func46, Tryz.ntmps46
  go_wp2_with fail
  refine (num_isZ g s n s1 HN _ HR.out).mono ?_
  rintro e w1 ⟨rfl, hr1, hg1⟩
  have HR1 := hid hr1
  have HG1 := hid hg1
  clear hr1 hg1
  go_wp2_with fail
  refine (r_wrong g s1 1 _ HR1.out).mono ?_
  rintro e w2 ⟨rfl, hr2, hg2⟩
  have HR2 := hid hr2
  have HG2 := hid (grown_trans HG1.out hg2)
  clear hr2 hg2
  go_wp2_with fail
  go_ret
  exact ⟨by rw [HX.out]; rfl, by rw [HX.out]; exact HR2.out, HG2.out⟩
 ·have HX : Hid (s.many most = (n, s1)) := by show _ = _; unfold Rd.many; rw [← HN.out, if_neg hm]
  go_enter Tryz.func46, Tryz.ntmps46
  go_wp2_with fail
  refine (num_isZ g s n s1 HN _ HR.out).mono ?_
  rintro e w1 ⟨rfl, hr1, hg1⟩
  have HR1 := hid hr1
  have HG1 := hid hg1
  clear hr1 hg1
  go_wp2_with fail
  go_ret
  exact ⟨by rw [HX.out]; rfl, by rw [HX.out]; exact HR1.out, HG1.out⟩
theorem count_is (g : Nat) (s : Rd) (most n : Int) (s1 : Rd) (hn : Hid ((n, s1) = s.many most)) (w : World) (h : Rdr g w s) :
  Calls Tryz.prog 46 #[.pointer (some ⟨g, 0, none⟩), .int .i64 most] w (RdEnd g (.int .i64 n) s1 w) := by
 have := r_count g s most w h
 rwa [← hn.out] at this
set_option maxRecDepth 100000 in
set_option maxHeartbeats 2000000 in
theorem r_text (g : Nat) (s : Rd) (most : Int) (hmost : 0 ≤ most ∧ most ≤ 1000) (w : World) (h : Rdr g w s) :
  Calls Tryz.prog 47 #[.pointer (some ⟨g, 0, none⟩), .int .i64 most] w (RdEnd g (.string (mkB (s.text most).1)) (s.text most).2 w) := by
 have HR := hid h
 clear h
 have hml := many_le s most hmost.1
 obtain ⟨⟨n, s1⟩, hn⟩ : ∃ p, p = s.many most := ⟨_, rfl⟩
 rw [← hn] at hml
 obtain ⟨n0, n1⟩ := hml
 simp only at n0 n1
 have HN := hid hn
 obtain ⟨hm0, hm1⟩ := hmost
 clear hn
 obtain ⟨m, hm⟩ : ∃ m : Nat, n = m := ⟨n.toNat, by omega⟩
 subst hm
 obtain ⟨l, er⟩ := s1
 by_cases he : er = 0
 rotate_left
 ·
  have HX : Hid (s.text most = ([], ⟨l, er⟩)) := by show _ = _; unfold Rd.text; rw [← HN.out, if_pos he]
  have h1 : (er == 0) = false := by simp [he]
  have h2 : (er != 0) = true := by simp [he]
  go_enter Tryz.func47, Tryz.ntmps47
  go_wp2_with fail
  refine (count_is g s most m ⟨l, er⟩ HN _ HR.out).mono ?_
  rintro e w1 ⟨rfl, hr1, hg1⟩
  obtain ⟨b, o, c, hh, _⟩ := hr1.ex
  have c1 : w1.cell? ⟨g, 1, none⟩ = some (.int .i64 er) := cor hh rfl
  have HR1 := hid hr1
  have HG1 := hid hg1
  clear hr1 hg1 hh he
  go_wp2_with fail
  go_ret
  exact ⟨by rw [HX.out]; rfl, by rw [HX.out]; exact HR1.out, HG1.out⟩
 subst he
 by_cases hlen : l.length < m
 ·
  have HX : Hid (s.text most = ([], ⟨l, 5⟩)) := by show _ = _; unfold Rd.text; rw [← HN.out, if_neg (by simp), if_pos (by simp only; omega)]
  have hli : (l.length : Int) < (m : Int) := by omega
  go_enter Tryz.func47, Tryz.ntmps47
  go_wp2_with fail
  refine (count_is g s most m ⟨l, 0⟩ HN _ HR.out).mono ?_
  rintro e w1 ⟨rfl, hr1, hg1⟩
  obtain ⟨b, o, c, hh, _⟩ := hr1.ex
  have c1 : w1.cell? ⟨g, 1, none⟩ = some (.int .i64 0) := cor hh rfl
  have c0 : w1.cell? ⟨g, 0, none⟩ = some (.slice (some ⟨b, o, none⟩) l.length c) := cor hh rfl
  have HR1 := hid hr1
  have HG1 := hid hg1
  clear hr1 hg1 hh
  go_wp2_with fail
  refine (r_wrong g ⟨l, 0⟩ 5 _ HR1.out).mono ?_
  rintro e w2 ⟨rfl, hr2, hg2⟩
  have HR2 := hid hr2
  have HG2 := hid (grown_trans HG1.out hg2)
  clear hr2 hg2 c0 c1
  go_wp2_with fail
  go_ret
  exact ⟨by rw [HX.out]; rfl, by rw [HX.out]; exact HR2.out, HG2.out⟩
 ·
  have HX : Hid (s.text most = (l.take m, ⟨l.drop m, 0⟩)) := by show _ = _; unfold Rd.text; rw [← HN.out, if_neg (by simp), if_neg (by simp only; omega)]; simp
  have hli : (m : Int) ≤ (l.length : Int) := by omega
  have hli2 : m ≤ l.length := by omega
  have HTL : Hid (m = (l.take m).length) := by show _ = _; rw [List.length_take]; omega
  have HDL : Hid ((l.drop m).length = l.length - m) := by show _ = _; rw [List.length_drop]
  clear hlen
  go_enter Tryz.func47, Tryz.ntmps47
  go_wp2_with fail
  refine (count_is g s most m ⟨l, 0⟩ HN _ HR.out).mono ?_
  rintro e w1 ⟨rfl, hr1, hg1⟩
  obtain ⟨b, o, c, hh, hby, hc1, hc2, hne⟩ := hr1.ex
  simp only at hh hby hc1
  have c1 : w1.cell? ⟨g, 1, none⟩ = some (.int .i64 0) := cor hh rfl
  have c0 : w1.cell? ⟨g, 0, none⟩ = some (.slice (some ⟨b, o, none⟩) l.length c) := cor hh rfl
  have f0 : w1.frozen? ⟨g, 0, none⟩ = false := frozen_of_row w1 _ _ _ _ hh
  have st := run_str (hby.take m) m c HTL.out w1 (Keeps.refl _)
  have HR1 := hid hr1
  have HG1 := hid hg1
  have HBY := hid hby
  have HNE := hid hne
  clear hr1 hg1 hh hby hne
  have hci : (m : Int) ≤ (c : Int) := by omega
  by_cases hcap : c = m
  ·have HRW : Hid (Rdr g (w1.setCell ⟨g, 0, none⟩ (.slice (some ⟨b, o, none⟩) (l.drop m).length 0)) ⟨l.drop m, 0⟩) := HR1.out.put (l := l.drop m) (.inl (by rw [List.drop_of_length_le (by omega)]; rfl)) (by rw [HDL.out]; omega) (by omega) HNE.out
   rw [HDL.out, show l.length - m = 0 by omega] at HRW
   subst hcap
   go_wp2_with fail
   go_ret
   exact ⟨by rw [HX.out]; rfl, by rw [HX.out]; exact HRW.out, grown_trans HG1.out (grown_set _ _ _ _)⟩
  ·have HRW : Hid (Rdr g (w1.setCell ⟨g, 0, none⟩ (.slice (some ⟨b, o + m, none⟩) (l.drop m).length (c - m))) ⟨l.drop m, 0⟩) := HR1.out.put (l := l.drop m) (HBY.out.drop m) (by rw [HDL.out]; omega) (by omega) HNE.out
   rw [HDL.out] at HRW
   have hcap2 : m < c := by omega
   clear hcap
   go_wp2_with fail
   go_ret
   exact ⟨by rw [HX.out]; rfl, by rw [HX.out]; exact HRW.out, grown_trans HG1.out (grown_set _ _ _ _)⟩
theorem text_is (g : Nat) (s : Rd) (most : Int) (hmost : 0 ≤ most ∧ most ≤ 1000) (v : Str) (s1 : Rd) (hn : Hid ((v, s1) = s.text most)) (w : World) (h : Rdr g w s) :
  Calls Tryz.prog 47 #[.pointer (some ⟨g, 0, none⟩), .int .i64 most] w (RdEnd g (.string (mkB v)) s1 w) := by
 have := r_text g s most hmost w h
 rwa [← hn.out] at this
end Go.Proofs.YtbeegfkfpkfccaaGreatDoor.D
namespace Go.Proofs.YtbeegfkfpkfccaaGreatDoor.D
open Go.RowKit
theorem itemSize : (Tryz.prog.info? 83).map (·.size) = some 9 := by kernel_rfl
abbrev itemA (k : ByteArray) (fl ti ca us : Int) (v : ByteArray) (far : Bool) (p o : Int) : Array Value := #[.string k, .int .i64 fl, .int .i64 ti, .int .i64 ca, .int .i64 us, .string v, .bool far, .int .i64 p, .int .i64 o]
def itemOf (x : Item) : Array Value := itemA x.key x.flags x.till x.cas x.used x.value x.far x.place.page x.place.off
def itemZ : Array Value := itemA (mkB []) 0 0 0 0 (mkB []) false 0 0
theorem itemA_one (k : ByteArray) (fl ti ca us : Int) (v : ByteArray) (far : Bool) (p o : Int) : (itemA k fl ti ca us v far p o).all (·.oneCell') = true := by simp [itemA, Value.oneCell']
/-- the end of a reading behind the fields -/
theorem tail_zero {s : Rd} {k : Str} {fl ti ca us : Int} {v : Str} {s2 : Rd} (h : (v, s2) = s.text 200) : s.tail k fl ti ca us 0 = (⟨mkB k, fl, ti, ca, us, mkB v, false, ⟨0, 0⟩⟩, s2) := by
 unfold Rd.tail; rw [if_pos rfl, ← h]
theorem tail_one {s : Rd} {k : Str} {fl ti ca us p o : Int} {s2 s3 : Rd} (h : (p, s2) = s.num) (h2 : (o, s3) = s2.num) : s.tail k fl ti ca us 1 = (⟨mkB k, fl, ti, ca, us, mkB [], true, ⟨p, o⟩⟩, s3) := by
 unfold Rd.tail; rw [if_neg (by decide), if_pos rfl, ← h]; simp only; rw [← h2]
theorem tail_else {s : Rd} {k : Str} {fl ti ca us t : Int} (h0 : t ≠ 0) (h1 : t ≠ 1) : s.tail k fl ti ca us t = (⟨mkB k, fl, ti, ca, us, mkB [], false, ⟨0, 0⟩⟩, s.wrong 4) := by
 unfold Rd.tail; rw [if_neg h0, if_neg h1]
theorem item_of {s s0 s1 s2 s3 s4 s5 : Rd} {k : Str} {fl ti ca us t : Int} (h0 : (k, s0) = s.text 20) (h1 : (fl, s1) = s0.num) (h2 : (ti, s2) = s1.num) (h3 : (ca, s3) = s2.num) (h4 : (us, s4) = s3.num) (h5 : (t, s5) = s4.num) : s.item = s5.tail k fl ti ca us t := by
 unfold Rd.item
 rw [← h0]; simp only
 rw [← h1]; simp only
 rw [← h2]; simp only
 rw [← h3]; simp only
 rw [← h4]; simp only
 rw [← h5]
theorem grown_below {w V V' : World} {r : Option Nat} (h : w.grownBy V r) (hb : Below w.heap.size V V') : w.grownBy V' r :=
 ⟨hb.os.trans h.os, hb.tape.trans h.tape, hb.output.trans h.output, Nat.le_trans h.size hb.size, fun j hj hne => (hb.block j hj).trans (h.block j hj hne)⟩
theorem below_cell (V : World) (g i B : Nat) (v : Value) (h : B ≤ g) : Below B V (V.setCell ⟨g, i, none⟩ v) :=
 ⟨rfl, rfl, rfl, by simp, fun k hk => Below.heap_setCell V ⟨g, i, none⟩ v k (show k ≠ g by omega)⟩
theorem cell_put (V : World) (g i : Nat) (cs : Array Value) (T : TypeId) (v : Value) (h : V.heap[g]? = some (.cells cs T (0, 0))) : (V.setCell ⟨g, i, none⟩ v).heap[g]? = some (.cells (cs.setIfInBounds i v) T (0, 0)) := by
 rw [setCell_eq_setRow V g i _ _ _ _ h]; exact setRow_heap V g _ _ _ _ h
theorem item_end {g : Nat} {w V : World} {s s2 : Rd} {x : Item} {R : Nat} {cs : Array Value} (hx : Hid (s.item = (x, s2))) (hs : Rdr g V s2) (hg : w.grownBy V (some g)) (hR : w.heap.size ≤ R) (hgw : g < w.heap.size) :
  RdEnd g (.agg (itemOf s.item.1)) s.item.2 w (.returned (.agg (itemOf x))) (V.setRow R cs) := by
 have hb : Below w.heap.size V (V.setRow R cs) := Below.setRow _ R _ hR
 rw [hx.out]
 exact ⟨rfl, hs.stay (fun j hj => hb.block j (by omega)), grown_below hg hb⟩
set_option maxRecDepth 100000 in
set_option maxHeartbeats 2000000 in
theorem r_item (g : Nat) (s : Rd) (w : World) (h : Rdr g w s) :
  Calls Tryz.prog 48 #[.pointer (some ⟨g, 0, none⟩)] w (RdEnd g (.agg (itemOf s.item.1)) s.item.2 w) := by
 have hg := h.lt
 obtain ⟨⟨k, s0⟩, hk⟩ : ∃ p, p = s.text 20 := ⟨_, rfl⟩
 obtain ⟨⟨fl, s1⟩, hfl⟩ : ∃ p, p = s0.num := ⟨_, rfl⟩
 obtain ⟨⟨ti, s2⟩, hti⟩ : ∃ p, p = s1.num := ⟨_, rfl⟩
 obtain ⟨⟨ca, s3⟩, hca⟩ : ∃ p, p = s2.num := ⟨_, rfl⟩
 obtain ⟨⟨us, s4⟩, hus⟩ : ∃ p, p = s3.num := ⟨_, rfl⟩
 obtain ⟨⟨t, s5⟩, ht⟩ : ∃ p, p = s4.num := ⟨_, rfl⟩
 have HX := hid (item_of hk hfl hti hca hus ht)
 have HK := hid hk
 have HFL := hid hfl
 have HTI := hid hti
 have HCA := hid hca
 have HUS := hid hus
 have HT := hid ht
 clear hk hfl hti hca hus ht
 go_enter Tryz.func48, Tryz.ntmps48
 go_wp2_with fail
 obtain ⟨W0, hW0⟩ : ∃ W0, W0 = w.alloc (.cells itemZ 83) := ⟨_, rfl⟩
 have HB0 := hid (show Below w.heap.size w W0 by rw [hW0]; go_grown)
 have hz0 : w.heap.size + 1 = W0.heap.size := by rw [hW0]; simp
 have HR0 := hid (show W0.heap[w.heap.size]? = some (.cells itemZ 83 (0, 0)) by rw [hW0]; exact blk_new w _)
 have HS0 := hid (h.stay (fun j hj => HB0.out.block j (by omega)))
 show Calls _ _ _ (w.alloc (.cells itemZ 83)) _
 rw [← hW0]
 clear hW0 h
 refine (text_is g s 20 (by omega) k s0 HK _ HS0.out).mono ?_
 rintro e W1 ⟨rfl, hr, hgr⟩
 have hz1 := Nat.le_trans (Nat.le_of_eq hz0) hgr.size
 have HR1 := hid ((hgr.block w.heap.size (by omega) (by simp; omega)).trans HR0.out)
 have HS1 := hid hr
 have HG1 := hid (grown_trans (⟨HB0.out.os, HB0.out.tape, HB0.out.output, HB0.out.size, fun j hj _ => HB0.out.block j hj⟩) hgr)
 clear hr hgr
 go_wp2_with fail
 refine (num_isZ g s0 fl s1 HFL _ HS1.out).mono ?_
 rintro e W2 ⟨rfl, hr, hgr⟩
 have hz2 := Nat.le_trans hz1 hgr.size
 have HR2 := hid ((hgr.block w.heap.size (by omega) (by simp; omega)).trans HR1.out)
 have HS2 := hid hr
 have HG2 := hid (grown_trans HG1.out hgr)
 clear hr hgr
 go_wp2_with fail
 refine (num_isZ g s1 ti s2 HTI _ HS2.out).mono ?_
 rintro e W3 ⟨rfl, hr, hgr⟩
 have hz3 := Nat.le_trans hz2 hgr.size
 have HR3 := hid ((hgr.block w.heap.size (by omega) (by simp; omega)).trans HR2.out)
 have HS3 := hid hr
 have HG3 := hid (grown_trans HG2.out hgr)
 clear hr hgr
 go_wp2_with fail
 refine (num_isZ g s2 ca s3 HCA _ HS3.out).mono ?_
 rintro e W4 ⟨rfl, hr, hgr⟩
 have hz4 := Nat.le_trans hz3 hgr.size
 have HR4 := hid ((hgr.block w.heap.size (by omega) (by simp; omega)).trans HR3.out)
 have HS4 := hid hr
 have HG4 := hid (grown_trans HG3.out hgr)
 clear hr hgr
 go_wp2_with fail
 refine (num_isZ g s3 us s4 HUS _ HS4.out).mono ?_
 rintro e W5 ⟨rfl, hr, hgr⟩
 have hz5 := Nat.le_trans hz4 hgr.size
 have HR5 := hid ((hgr.block w.heap.size (by omega) (by simp; omega)).trans HR4.out)
 have HS5 := hid hr
 have HG5 := hid (grown_trans HG4.out hgr)
 clear hr hgr
 go_wp2_with fail
 obtain ⟨V0, hV0⟩ : ∃ V0, V0 = W5.alloc (.cells (itemA (mkB k) fl ti ca us (mkB []) false 0 0) 83) := ⟨_, rfl⟩
 show Calls _ _ _ (W5.alloc (.cells (itemA (mkB k) fl ti ca us (mkB []) false 0 0) 83)) _
 rw [← hV0]
 have hbV := (show Below W5.heap.size W5 V0 by rw [hV0]; go_grown)
 have HIT0 := hid (show V0.heap[W5.heap.size]? = some (.cells (itemA (mkB k) fl ti ca us (mkB []) false 0 0) 83 (0, 0)) by rw [hV0]; exact blk_new W5 _)
 have hzV : W5.heap.size + 1 = V0.heap.size := by rw [hV0]; simp
 have HRV := hid ((hbV.block w.heap.size (by omega)).trans HR5.out)
 have HSV := hid (HS5.out.stay (fun j hj => hbV.block j (by omega)))
 have HGV := hid (grown_trans HG5.out ⟨hbV.os, hbV.tape, hbV.output, hbV.size, fun j hj _ => hbV.block j hj⟩)
 clear hV0 hbV HR0 HR1 HR2 HR3 HR4 HR5 HS0 HS1 HS2 HS3 HS4 HG1 HG2 HG3 HG4 hz1 hz2 hz3 hz4
 refine (num_isZ g s4 t s5 HT _ HSV.out).mono ?_
 rintro e V1 ⟨rfl, hr, hgr⟩
 have hy1 : W5.heap.size < V1.heap.size := by have := hgr.size; omega
 have HIT := hid ((hgr.block W5.heap.size (by omega) (by simp; omega)).trans HIT0.out)
 have HR := hid ((hgr.block w.heap.size (by omega) (by simp; omega)).trans HRV.out)
 have HS := hid hr
 have HG := hid (grown_trans HGV.out hgr)
 clear hr hgr HIT0 HRV HSV HGV HS5 HG5
 by_cases ht0 : t = 0
 ·
  subst ht0
  obtain ⟨⟨v, s6⟩, hv⟩ : ∃ p, p = s5.text 200 := ⟨_, rfl⟩
  have HV := hid hv
  have HXX := hid (HX.out.trans (tail_zero hv))
  clear hv
  go_wp2_with fail
  refine (text_is g s5 200 (by omega) v s6 HV _ HS.out).mono ?_
  rintro e V2 ⟨rfl, hr, hgr⟩
  have hy2 : W5.heap.size < V2.heap.size := Nat.lt_of_lt_of_le hy1 hgr.size
  have HIT2 := hid ((hgr.block W5.heap.size (by omega) (by simp; omega)).trans HIT.out)
  have HR2 := hid ((hgr.block w.heap.size (by omega) (by simp; omega)).trans HR.out)
  have HS2 := hid hr
  have HG2 := hid (grown_trans HG.out hgr)
  have c5 : V2.cell? ⟨W5.heap.size, 5, none⟩ = some (.string (mkB [])) := cor HIT2.out rfl
  have f5 : V2.frozen? ⟨W5.heap.size, 5, none⟩ = false := frozen_of_row V2 _ _ _ _ HIT2.out
  clear hr hgr
  have HIT3 := hid (cell_put V2 W5.heap.size 5 _ _ (.string (mkB v)) HIT2.out)
  have HB3 := hid (below_cell V2 W5.heap.size 5 w.heap.size (.string (mkB v)) (by omega))
  have HB3' := hid (below_cell V2 W5.heap.size 5 (w.heap.size + 1) (.string (mkB v)) (by omega))
  have HR3 := hid ((HB3'.out.block w.heap.size (by omega)).trans HR2.out)
  go_wp2_with (first | refine wpList_load_row rfl 83 _ rfl W5.heap.size rfl _ _ _ _ HIT3.out Tryz.underlying83 rfl (by kernel_rfl) ?_ | refine wpList_store_row rfl 83 _ _ rfl w.heap.size (itemA (mkB k) fl ti ca us (mkB v) false 0 0) rfl rfl _ _ HR3.out itemSize rfl (itemA_one _ _ _ _ _ _ _ _ _) ?_)
  exact bodyPost_ret (v := .agg (itemA (mkB k) fl ti ca us (mkB v) false 0 0)) (results_cell_row rfl _ _ w.heap.size _ _ _ _ rfl (setRow_heap _ _ _ _ _ _ HR3.out) Tryz.underlying83 rfl itemSize) rfl (item_end HXX (HS2.out.stay (fun j hj => HB3.out.block j (by omega))) (grown_below HG2.out HB3.out) (Nat.le_refl _) hg)
 by_cases ht1 : t = 1
 ·
  subst ht1
  obtain ⟨⟨p, s6⟩, hp⟩ : ∃ p, p = s5.num := ⟨_, rfl⟩
  obtain ⟨⟨o, s7⟩, ho⟩ : ∃ p, p = s6.num := ⟨_, rfl⟩
  have HP := hid hp
  have HO := hid ho
  have HXX := hid (HX.out.trans (tail_one hp ho))
  clear hp ho
  have c6 : V1.cell? ⟨W5.heap.size, 6, none⟩ = some (.bool false) := cor HIT.out rfl
  have f6 : V1.frozen? ⟨W5.heap.size, 6, none⟩ = false := frozen_of_row V1 _ _ _ _ HIT.out
  have HIT2 := hid (cell_put V1 W5.heap.size 6 _ _ (.bool true) HIT.out)
  have HB2 := hid (below_cell V1 W5.heap.size 6 w.heap.size (.bool true) (by omega))
  have HB2' := hid (below_cell V1 W5.heap.size 6 (w.heap.size + 1) (.bool true) (by omega))
  have HR2 := hid ((HB2'.out.block w.heap.size (by omega)).trans HR.out)
  have HS2 := hid (HS.out.stay (fun j hj => HB2.out.block j (by omega)))
  have HG2 := hid (grown_below HG.out HB2.out)
  go_wp2_with fail
  refine (num_isZ g s5 p s6 HP _ HS2.out).mono ?_
  rintro e V2 ⟨rfl, hr, hgr⟩
  have hy2 : W5.heap.size < V2.heap.size := by have := hgr.size; simp at this; omega
  have HIT3 := hid ((hgr.block W5.heap.size (by simp; omega) (by simp; omega)).trans HIT2.out)
  have HR3 := hid ((hgr.block w.heap.size (by simp; omega) (by simp; omega)).trans HR2.out)
  have HS3 := hid hr
  have HG3 := hid (grown_trans HG2.out hgr)
  clear hr hgr
  go_wp2_with fail
  refine (num_isZ g s6 o s7 HO _ HS3.out).mono ?_
  rintro e V3 ⟨rfl, hr, hgr⟩
  have hy3 : W5.heap.size < V3.heap.size := by have := hgr.size; omega
  have HIT4 := hid ((hgr.block W5.heap.size (by omega) (by simp; omega)).trans HIT3.out)
  have HR4 := hid ((hgr.block w.heap.size (by omega) (by simp; omega)).trans HR3.out)
  have HS4 := hid hr
  have HG4 := hid (grown_trans HG3.out hgr)
  have c7 : V3.cell? ⟨W5.heap.size, 7, none⟩ = some (.int .i64 0) := cor HIT4.out rfl
  have f7 : V3.frozen? ⟨W5.heap.size, 7, none⟩ = false := frozen_of_row V3 _ _ _ _ HIT4.out
  have c8 : V3.cell? ⟨W5.heap.size, 8, none⟩ = some (.int .i64 0) := cor HIT4.out rfl
  have f8 : V3.frozen? ⟨W5.heap.size, 8, none⟩ = false := frozen_of_row V3 _ _ _ _ HIT4.out
  clear hr hgr
  have HIT5 := hid (cell_put (V3.setCell ⟨W5.heap.size, 7, none⟩ (.int .i64 p)) W5.heap.size 8 _ _ (.int .i64 o) (cell_put V3 W5.heap.size 7 _ _ (.int .i64 p) HIT4.out))
  have HB5 := hid ((below_cell V3 W5.heap.size 7 w.heap.size (.int .i64 p) (by omega)).trans (below_cell (V3.setCell ⟨W5.heap.size, 7, none⟩ (.int .i64 p)) W5.heap.size 8 w.heap.size (.int .i64 o) (by omega)))
  have HB5' := hid ((below_cell V3 W5.heap.size 7 (w.heap.size + 1) (.int .i64 p) (by omega)).trans (below_cell (V3.setCell ⟨W5.heap.size, 7, none⟩ (.int .i64 p)) W5.heap.size 8 (w.heap.size + 1) (.int .i64 o) (by omega)))
  have HR5 := hid ((HB5'.out.block w.heap.size (by omega)).trans HR4.out)
  go_wp2_with (first | refine wpList_load_row rfl 83 _ rfl W5.heap.size rfl _ _ _ _ HIT5.out Tryz.underlying83 rfl (by kernel_rfl) ?_ | refine wpList_store_row rfl 83 _ _ rfl w.heap.size (itemA (mkB k) fl ti ca us (mkB []) true p o) rfl rfl _ _ HR5.out itemSize rfl (itemA_one _ _ _ _ _ _ _ _ _) ?_)
  exact bodyPost_ret (v := .agg (itemA (mkB k) fl ti ca us (mkB []) true p o)) (results_cell_row rfl _ _ w.heap.size _ _ _ _ rfl (setRow_heap _ _ _ _ _ _ HR5.out) Tryz.underlying83 rfl itemSize) rfl (item_end HXX (HS4.out.stay (fun j hj => HB5.out.block j (by omega))) (grown_below HG4.out HB5.out) (Nat.le_refl _) hg)
 ·
  have HXX := hid (HX.out.trans (tail_else ht0 ht1))
  have e0 : (t == 0) = false := by rw [beq_eq_false_iff_ne]; exact ht0
  have e1 : (t == 1) = false := by rw [beq_eq_false_iff_ne]; exact ht1
  clear ht0 ht1
  go_wp2_with fail
  refine (r_wrong g s5 4 _ HS.out).mono ?_
  rintro e V2 ⟨rfl, hr, hgr⟩
  have hy2 : W5.heap.size < V2.heap.size := Nat.lt_of_lt_of_le hy1 hgr.size
  have HIT2 := hid ((hgr.block W5.heap.size (by omega) (by simp; omega)).trans HIT.out)
  have HR2 := hid ((hgr.block w.heap.size (by omega) (by simp; omega)).trans HR.out)
  have HS2 := hid hr
  have HG2 := hid (grown_trans HG.out hgr)
  clear hr hgr
  go_wp2_with (first | refine wpList_load_row rfl 83 _ rfl W5.heap.size rfl _ _ _ _ HIT2.out Tryz.underlying83 rfl (by kernel_rfl) ?_ | refine wpList_store_row rfl 83 _ _ rfl w.heap.size (itemA (mkB k) fl ti ca us (mkB []) false 0 0) rfl rfl _ _ HR2.out itemSize rfl (itemA_one _ _ _ _ _ _ _ _ _) ?_)
  exact bodyPost_ret (v := .agg (itemA (mkB k) fl ti ca us (mkB []) false 0 0)) (results_cell_row rfl _ _ w.heap.size _ _ _ _ rfl (setRow_heap _ _ _ _ _ _ HR2.out) Tryz.underlying83 rfl itemSize) rfl (item_end HXX HS2.out HG2.out (Nat.le_refl _) hg)
end Go.Proofs.YtbeegfkfpkfccaaGreatDoor.D
namespace Go.Proofs.YtbeegfkfpkfccaaGreatDoor.D
open Go.RowKit
/-- blocks of bytes are as they were -/
def U8Keep (w w' : World) : Prop := ∀ (b : Nat) (cs : Array Value) (fr : Nat × Nat), w.heap[b]? = some (Obj.cells cs 5 fr) → w'.heap[b]? = some (Obj.cells cs 5 fr)
theorem U8Keep.refl (w : World) : U8Keep w w := fun _ _ _ h => h
theorem U8Keep.trans {a b c : World} (h : U8Keep a b) (k : U8Keep b c) : U8Keep a c := fun j cs fr hj => k j cs fr (h j cs fr hj)
theorem U8Keep.below {w w' : World} (h : Below w.heap.size w w') : U8Keep w w' := fun b _ _ hb => (h.block b (blt hb)).trans hb
theorem U8Keep.grown {w w' : World} {g T : Nat} {cs : Array Value} {fr : Nat × Nat} (h : w.grownBy w' (some g)) (hg : w.heap[g]? = some (.cells cs T fr)) (hT : T ≠ 5) : U8Keep w w' := fun b cs' fr' hb =>
 (h.block b (blt hb) (fun e => by cases e; rw [hg] at hb; cases hb; exact hT rfl)).trans hb
theorem U8Keep.row {w w' : World} {base : Nat} {T : TypeId} {size : Nat} {v : Value} {n : Nat} {xs : List Value} (h : w.ownsRow base T size v n xs) (hg : w.grownBy w' v.ownBlock) (hT : T ≠ 5) : U8Keep w w' := fun b cs fr hb => by
 have := own_type_ne h hb (fun e => hT e.symm)
 exact (hg.block b (blt hb) (fun e => this e.symm)).trans hb
theorem U8Keep.set {w : World} {g i T : Nat} {cs : Array Value} {fr : Nat × Nat} (v : Value) (hg : w.heap[g]? = some (.cells cs T fr)) (hT : T ≠ 5) : U8Keep w (w.setCell ⟨g, i, none⟩ v) := fun b cs' fr' hb =>
 (Below.heap_setCell w ⟨g, i, none⟩ v b (fun e => by rw [show b = g from e] at hb; rw [hg] at hb; cases hb; exact hT rfl)).trans hb
/-- a page's bytes: somewhere in a block of bytes -/
def PB (w : World) (u : Value) (p : Page) : Prop :=
 ∃ b c cs fr, u = .slice (some ⟨b, 0, none⟩) p.bytes.length c ∧ p.bytes.length ≤ c ∧ c ≤ 9223372036854775807 ∧ w.heap[b]? = some (.cells cs 5 fr) ∧ BytesAt w (some ⟨b, 0, none⟩) p.bytes
theorem PB.keep {w w' : World} {u : Value} {p : Page} (h : PB w u p) (k : U8Keep w w') : PB w' u p := by
 obtain ⟨b, c, cs, fr, h1, h2, h3, h4, h5⟩ := h
 exact ⟨b, c, cs, fr, h1, h2, h3, k b cs fr h4, h5.stay ((k b cs fr h4).trans h4.symm)⟩
structure PagesT (base : Nat) (w : World) (v : Value) (ps : List Page) (vs : List Value) : Prop where
 len : vs.length = ps.length
 row : w.ownsRow base 98 2 v ps.length (pageCells ps vs)
 bytes : ∀ (j : Nat) (p : Page) (u : Value), ps[j]? = some p → vs[j]? = some u → PB w u p
theorem PagesT.nil (base : Nat) (w : World) : PagesT base w (.slice none 0 0) [] [] := ⟨rfl, World.ownsRow_nil _ _ _ _, fun _ _ _ h => by simp at h⟩
theorem PagesT.kept {base : Nat} {w w' : World} {v : Value} {ps : List Page} {vs : List Value} {r : Option Nat} (h : PagesT base w v ps vs) (k : U8Keep w w') (hg : w.grownBy w' r) (hne : v.ownBlock = none ∨ v.ownBlock ≠ r) : PagesT base w' v ps vs :=
 ⟨h.len, h.row.kept hg hne, fun j p u h1 h2 => (h.bytes j p u h1 h2).keep k⟩
theorem PagesT.off {base : Nat} {w : World} {v x : Value} {ps : List Page} {vs : List Value} {g i T : Nat} {cs : Array Value} {fr : Nat × Nat} (h : PagesT base w v ps vs) (hg : w.heap[g]? = some (.cells cs T fr)) (hT : T ≠ 5) (hT2 : T ≠ 98) : PagesT base (w.setCell ⟨g, i, none⟩ x) v ps vs :=
 ⟨h.len, owns_off h.row (own_type_ne h.row hg hT2), fun j p u h1 h2 => (h.bytes j p u h1 h2).keep (U8Keep.set x hg hT)⟩
theorem PagesT.more {base : Nat} {w w' : World} {v v' : Value} {ps : List Page} {vs : List Value} {p : Page} {u : Value} (h : PagesT base w v ps vs) (hu : PB w u p) (hg : w.grownBy w' v.ownBlock) (hrow : w'.ownsRow base 98 2 v' (ps.length + 1) (pageCells ps vs ++ [.int .i64 p.number, u])) :
  PagesT base w' v' (ps ++ [p]) (vs ++ [u]) := by
 have k : U8Keep w w' := U8Keep.row h.row hg (by decide)
 refine ⟨by simp [h.len], ?_, ?_⟩
 ·rw [pageCells_append ps [p] vs [u] h.len, List.length_append]; exact hrow
 ·intro j q x h1 h2
  by_cases hj : j < ps.length
  ·rw [List.getElem?_append_left hj] at h1
   rw [List.getElem?_append_left (by rw [h.len]; exact hj)] at h2
   exact (h.bytes j q x h1 h2).keep k
  ·rw [List.getElem?_append_right (by omega)] at h1
   rw [List.getElem?_append_right (by rw [h.len]; omega), h.len] at h2
   have h0 : j - ps.length = 0 := by
    have := (List.getElem?_eq_some_iff.1 h1).1
    simp at this; omega
   rw [h0] at h1 h2
   cases h1; cases h2
   exact hu.keep k
theorem PagesT.rows {base : Nat} {w : World} {va : Option Addr} {n vc : Nat} {ps : List Page} {vs : List Value} (h : PagesT base w (.slice va n vc) ps vs) (hb : ∀ p ∈ ps, PageB p) : RowsAt w va 2 (PageR w) ps := by
 rcases Nat.eq_zero_or_pos ps.length with h0 | h0
 ·exact .inl (List.eq_nil_of_length_eq_zero h0)
 ·obtain ⟨g, cap, hv, _, _, _, _, hcell⟩ := own_shape h.row h0
  cases hv
  refine .inr ⟨g, 0, rfl, fun i hi => ?_⟩
  have hp : ps[i]? = some ps[i] := List.getElem?_eq_getElem hi
  obtain ⟨u, hu⟩ : ∃ u, vs[i]? = some u := ⟨_, List.getElem?_eq_getElem (by rw [h.len]; exact hi)⟩
  obtain ⟨b, c, cs, fr, rfl, h1, h2, _, h3⟩ := h.bytes i _ u hp hu
  have hpb := hb _ (List.getElem_mem hi)
  refine ⟨[.int .i64 ps[i].number, .slice (some ⟨b, 0, none⟩) ps[i].bytes.length c], rfl, ⟨hpb.1, _, _, rfl, h3, hpb.2, h1, h2⟩, fun j x hj => ?_⟩
  rw [Nat.zero_add]
  match j, hj with
  | 0, hj => cases hj; exact hcell (i * 2) _ (pageCells_num ps vs i _ h.len hp)
  | 1, hj => cases hj; exact hcell (i * 2 + 1) _ (pageCells_val ps vs i _ h.len hu)
/-- what is laid down so far -/
structure Dec (w0 : World) (R S : Nat) (w : World) (t : Store) (va fa : Option Addr) (vc fc : Nat) (vs : List Value) : Prop where
 res : w.heap[R]? = some (.cells storeZt 28 (0, 0))
 box : w.heap[S]? = some (.cells (storeV t va vc fa fc) 28 (0, 0))
 items : w.ownsRow (S + 1) 83 9 (.slice va t.items.length vc) t.items.length (t.items.flatMap itemCells)
 pages : PagesT (S + 1) w (.slice fa t.flash.pages.length fc) t.flash.pages vs
 below : Below w0.heap.size w0 w
theorem Dec.lt {w0 w : World} {R S : Nat} {t : Store} {va fa : Option Addr} {vc fc : Nat} {vs : List Value} (h : Dec w0 R S w t va fa vc fc vs) : S + 1 ≤ w.heap.size := (blt h.box)
/-- a call that writes into its reader alone -/
theorem Dec.read {w0 w w' : World} {R S g T : Nat} {t : Store} {va fa : Option Addr} {vc fc : Nat} {vs : List Value} {cs : Array Value} {fr : Nat × Nat} (h : Dec w0 R S w t va fa vc fc vs) (hg : w.grownBy w' (some g)) (hT : w.heap[g]? = some (.cells cs T fr))
  (h8 : T ≠ 5) (hR : R < g) (hS : g < S) (h0 : w0.heap.size ≤ g) : Dec w0 R S w' t va fa vc fc vs := by
 have hRl := (blt h.res)
 have hne : ∀ {v : Value} {e : TypeId} {size n : Nat} {xs : List Value}, w.ownsRow (S + 1) e size v n xs → v.ownBlock = none ∨ v.ownBlock ≠ some g := by
  intro v e size n xs ho
  cases hb : v.ownBlock with
  | none => exact .inl rfl
  | some k => exact .inr (fun e => by have := (ho.lt k hb).1; cases e; omega)
 exact ⟨(hg.block R hRl (fun e => by cases e; omega)).trans h.res, (hg.block S h.lt (fun e => by cases e; omega)).trans h.box, h.items.kept hg (hne h.items), h.pages.kept (U8Keep.grown hg hT h8) hg (hne h.pages.row),
  h.below.grown hg h.below.size (fun b e => by cases e; exact h0)⟩
/-- memory made -/
theorem Dec.made {w0 w w' : World} {R S : Nat} {t : Store} {va fa : Option Addr} {vc fc : Nat} {vs : List Value} (h : Dec w0 R S w t va fa vc fc vs) (hb : Below w.heap.size w w') : Dec w0 R S w' t va fa vc fc vs :=
 ⟨(hb.block R (blt h.res)).trans h.res, (hb.block S h.lt).trans h.box, owns_below h.items hb, ⟨h.pages.len, owns_below h.pages.row hb, fun j p u h1 h2 => (h.pages.bytes j p u h1 h2).keep (U8Keep.below hb)⟩, h.below.trans (hb.mono h.below.size)⟩
/-- a cell of the store that is laid down -/
theorem Dec.put {w0 w : World} {R S i : Nat} {t t' : Store} {va fa : Option Addr} {vc fc : Nat} {vs : List Value} {v : Value} (h : Dec w0 R S w t va fa vc fc vs) (hv : (storeV t va vc fa fc).setIfInBounds i v = storeV t' va vc fa fc) (hi : t'.items = t.items) (hp : t'.flash.pages = t.flash.pages)
  (hR : R ≠ S) (h0 : w0.heap.size ≤ S) : Dec w0 R S (w.setCell ⟨S, i, none⟩ v) t' va fa vc fc vs := by
 have hb := cell_put w S i _ _ v h.box
 rw [hv] at hb
 refine ⟨(Below.heap_setCell w ⟨S, i, none⟩ v R hR).trans h.res, hb, ?_, ?_, h.below.setCell h0 v⟩
 ·rw [hi]; exact owns_off h.items (own_type_ne h.items h.box (by decide))
 ·rw [hp]; exact h.pages.off h.box (by decide) (by decide)
/-- a page more -/
theorem Dec.page {w0 w w' : World} {R S : Nat} {t : Store} {va fa fa' : Option Addr} {vc fc fc' : Nat} {vs : List Value} {p : Page} {u : Value} (h : Dec w0 R S w t va fa vc fc vs) (hu : PB w u p) (hg : w.grownBy w' (Value.slice fa t.flash.pages.length fc).ownBlock)
  (hrow : w'.ownsRow (S + 1) 98 2 (.slice fa' (t.flash.pages.length + 1) fc') (t.flash.pages.length + 1) (pageCells t.flash.pages vs ++ [.int .i64 p.number, u])) (hR : R < S) (h0 : w0.heap.size ≤ S) :
  Dec w0 R S (w'.setCell ⟨S, 11, none⟩ (.slice fa' (t.flash.pages.length + 1) fc')) { t with flash := ⟨t.flash.most, t.flash.next, t.flash.pages ++ [p]⟩ } va fa' vc fc' (vs ++ [u]) := by
 have hRl := (blt h.res)
 have hne : ∀ k, (Value.slice fa t.flash.pages.length fc).ownBlock = some k → S < k := fun k hk => (h.pages.row.lt k hk).1
 have hbox : w'.heap[S]? = some (.cells (storeV t va vc fa fc) 28 (0, 0)) := (hg.block S h.lt (fun e => by have := hne S e.symm; omega)).trans h.box
 have hres : w'.heap[R]? = some (.cells storeZt 28 (0, 0)) := (hg.block R hRl (fun e => by have := hne R e.symm; omega)).trans h.res
 have hit := h.items.kept hg (own_types h.items h.pages.row (by decide))
 have hbl : Below w0.heap.size w0 w' := h.below.grown hg h.below.size (fun b e => by have := hne b e; omega)
 have hpm := h.pages.more hu hg hrow
 refine ⟨(Below.heap_setCell w' ⟨S, 11, none⟩ _ R (by show R ≠ S; omega)).trans hres, ?_, owns_off hit (own_type_ne hit hbox (by decide)), ?_, hbl.setCell h0 _⟩
 ·have := cell_put w' S 11 _ _ (.slice fa' (t.flash.pages.length + 1) fc') hbox
  rw [this]
  simp [storeV]
 ·have := hpm.off (i := 11) (x := .slice fa' (t.flash.pages.length + 1) fc') hbox (by decide) (by decide)
  simpa using this
/-- an item more -/
theorem Dec.item {w0 w w' : World} {R S : Nat} {t : Store} {va va' fa : Option Addr} {vc vc' fc : Nat} {vs : List Value} {x : Item} (h : Dec w0 R S w t va fa vc fc vs) (hg : w.grownBy w' (Value.slice va t.items.length vc).ownBlock)
  (hrow : w'.ownsRow (S + 1) 83 9 (.slice va' (t.items.length + 1) vc') (t.items.length + 1) (t.items.flatMap itemCells ++ itemCells x)) (hR : R < S) (h0 : w0.heap.size ≤ S) :
  Dec w0 R S (w'.setCell ⟨S, 8, none⟩ (.slice va' (t.items.length + 1) vc')) { t with items := t.items ++ [x] } va' fa vc' fc vs := by
 have hRl := (blt h.res)
 have hne : ∀ k, (Value.slice va t.items.length vc).ownBlock = some k → S < k := fun k hk => (h.items.lt k hk).1
 have hbox : w'.heap[S]? = some (.cells (storeV t va vc fa fc) 28 (0, 0)) := (hg.block S h.lt (fun e => by have := hne S e.symm; omega)).trans h.box
 have hres : w'.heap[R]? = some (.cells storeZt 28 (0, 0)) := (hg.block R hRl (fun e => by have := hne R e.symm; omega)).trans h.res
 have hpg := h.pages.kept (U8Keep.row h.items hg (by decide)) hg (own_types h.pages.row h.items (by decide))
 have hbl : Below w0.heap.size w0 w' := h.below.grown hg h.below.size (fun b e => by have := hne b e; omega)
 have hit := owns_off (g := S) (i := 8) (x := .slice va' (t.items.length + 1) vc') hrow (own_type_ne hrow hbox (by decide))
 refine ⟨(Below.heap_setCell w' ⟨S, 8, none⟩ _ R (by show R ≠ S; omega)).trans hres, ?_, ?_, hpg.off hbox (by decide) (by decide), hbl.setCell h0 _⟩
 ·have := cell_put w' S 8 _ _ (.slice va' (t.items.length + 1) vc') hbox
  rw [this]
  simp [storeV]
 ·rw [List.flatMap_append, List.length_append]
  simpa using hit
end Go.Proofs.YtbeegfkfpkfccaaGreatDoor.D
namespace Go.Proofs.YtbeegfkfpkfccaaGreatDoor.D
open Go.RowKit
theorem run_conv (w : World) (l : Str) (hl : l.length ≤ 1000) : ∃ c w', (convert 9 63 (.string (mkB l))).run Tryz.prog w = .ok (.slice (some ⟨w.heap.size, 0, none⟩) l.length c) w' ∧
  (∀ n : Int, PB w' (.slice (some ⟨w.heap.size, 0, none⟩) l.length c) ⟨n, l⟩) ∧ Below w.heap.size w w' := by
 have hsz : (mkB l).size = l.length := mkB_size l
 have hbl : bl (mkB l) = l := by simp [bl, mkB]
 have h := run_bytes_of_string w 9 63 5 (mkB l) Tryz.underlying9 Tryz.underlying63 Tryz.underlying5
 rw [hsz] at h
 refine ⟨_, _, h, fun n => ⟨w.heap.size, _, _, _, rfl, grownCap_ge _ _ _ _, ?_, by rw [show w.heap.size = (w.drew).heap.size from rfl]; exact blk_new _ _, .inr ⟨_, _, rfl, fun i v hv => ?_⟩⟩, ((Below.refl _ _).drew).alloc (by simp) _⟩
 ·exact Nat.le_trans (grownCap_le_maxLen w l.length 0 _ (by unfold maxLen; omega)) (by unfold maxLen; omega)
 ·have e : (w.drew).heap.size = w.heap.size := rfl
  rw [← e, Nat.zero_add, cell_alloc_row]
  refine bytesRow_get (mkB l) _ i v ?_
  simp only at hv
  rw [hbl]; exact hv
theorem step_conv {ops : Array Oper} {o : Oper} {a : Act} {K : Act → World → Prop} {Q : Exit → Act → World → Prop} {E : Prop} (W : World) (hgd : o.guard = none) (x : Operand) (ho : o.op = .convert 9 63 x) (l : Str) (hl : l.length ≤ 1000) (hx : a.eval x = .string (mkB l))
  (h : ∀ c w', (∀ n : Int, PB w' (.slice (some ⟨W.heap.size, 0, none⟩) l.length c) ⟨n, l⟩) → Below W.heap.size W w' → K (a.put o.dst (.slice (some ⟨W.heap.size, 0, none⟩) l.length c)) w') :
  if Region.wanted o (yielded ops a.tmps) = true then Oper.wp Tryz.prog o a W K Q else E := by
 have hw : Region.wanted o (yielded ops a.tmps) = true := by simp [Region.wanted, hgd]
 rw [if_pos hw]
 obtain ⟨c, w', hr, h1, h2⟩ := run_conv W l hl
 unfold Oper.wp execOp
 simp only [ho, Sem.run_bind, Sem.run_pure, Result.andThen_ok, hx, hr]
 exact h _ _ h1 h2
theorem step_store_row {ops : Array Oper} {o : Oper} {a : Act} {K : Act → World → Prop} {Q : Exit → Act → World → Prop} {E : Prop} (W : World) (hgd : o.guard = none) (ty : TypeId) (x y : Operand) (ho : o.op = .store ty x y)
  (g : Nat) (cells : Array Value) (hx : a.eval x = .pointer (some ⟨g, 0, none⟩)) (hy : a.eval y = .agg cells)
  (t : TypeId) (old : Array Value) (hg : W.heap[g]? = some (.cells old t (0, 0))) (hi : (Tryz.prog.info? ty).map (·.size) = some cells.size)
  (hold : old.size = cells.size) (h1 : cells.all (·.oneCell') = true) (h : K (a.put o.dst undef) (W.setRow g cells)) :
  if Region.wanted o (yielded ops a.tmps) = true then Oper.wp Tryz.prog o a W K Q else E := by
 have hw : Region.wanted o (yielded ops a.tmps) = true := by simp [Region.wanted, hgd]
 rw [if_pos hw]
 exact wp_store_row ty x y ho g cells hx hy t old hg hi hold h1 h
theorem U8Keep.setRow {w : World} {g T : Nat} {cs cs2 : Array Value} {fr : Nat × Nat} (hg : w.heap[g]? = some (.cells cs T fr)) (hT : T ≠ 5) : U8Keep w (w.setRow g cs2) := fun b cs' fr' hb =>
 (setRow_other w g b cs2 (fun e => by rw [show b = g from e.symm ▸ rfl] at hb; rw [hg] at hb; cases hb; exact hT rfl)).trans hb
theorem Dec.out {w0 w w1 : World} {R S : Nat} {t : Store} {va fa : Option Addr} {vc fc : Nat} {vs : List Value} (h : Dec w0 R S w t va fa vc fc vs) (hb : Below w.heap.size w w1) (hi : ∀ x ∈ t.items, ItemB x) (hp : ∀ p ∈ t.flash.pages, PageB p) (hR : R < S) (h0 : w0.heap.size ≤ R) :
  OutSt t 0 w0 (.returned (.tuple #[.agg (storeV t va vc fa fc), .int .i64 0])) (w1.setRow R (storeV t va vc fa fc)) := by
 have h1 := h.made hb
 have hk : ∀ k, S + 1 ≤ k → k < w1.heap.size → (w1.setRow R (storeV t va vc fa fc)).heap[k]? = w1.heap[k]? := fun k hk _ => setRow_other _ _ k _ (by omega)
 refine ⟨va, vc, fa, fc, rfl, own_items (owns_kept h1.items hk) hi, ?_, h1.below.trans (Below.setRow _ R _ h0)⟩
 exact PagesT.rows (base := S + 1) (vs := vs) ⟨h1.pages.len, owns_kept h1.pages.row hk, fun j p u a b => (h1.pages.bytes j p u a b).keep (U8Keep.setRow h1.res (by decide))⟩ hp
theorem item_onesZ (x : Item) : ∀ u ∈ itemCells x, u.oneCell' = true := by
 intro u hu
 simp only [itemCells, List.mem_cons, List.not_mem_nil, or_false] at hu
 rcases hu with rfl | rfl | rfl | rfl | rfl | rfl | rfl | rfl | rfl <;> rfl
/-- an item more behind items of the call's own -/
theorem step_item {ops : Array Oper} {o : Oper} {a : Act} {K : Act → World → Prop} {Q : Exit → Act → World → Prop} {E : Prop} (W : World) (hgd : o.guard = none) (s x : Operand)
  (ho : o.op = .call { callee := .builtin .append, args := #[s, x], argTypes := #[23, 23] }) (base k B : Nat) (v : Value) (y : Item) (xs : List Value)
  (hs : a.eval s = v) (hx : a.eval x = .slice (some ⟨B, 0, none⟩) 1 1) (hown : W.ownsRow base 83 9 v k xs) (hb : W.heap[B]? = some (.cells (itemOf y) 83 (0, 0)))
  (hk : (k + 1) * 88 ≤ 140737488355328) (hbase : base ≤ W.heap.size)
  (h : ∀ g cap w', w'.ownsRow base 83 9 (.slice (some ⟨g, 0, none⟩) (k + 1) cap) (k + 1) (xs ++ itemCells y) → W.grownBy w' v.ownBlock → (v.ownBlock = some g ∨ g = W.heap.size) → g < w'.heap.size → K (a.put o.dst (.slice (some ⟨g, 0, none⟩) (k + 1) cap)) w') :
  if Region.wanted o (yielded ops a.tmps) = true then Oper.wp Tryz.prog o a W K Q else E := by
 obtain ⟨j0, hj, hw0, hw1, hw2⟩ := info_parts infoItem
 exact step_append_lies W hgd s x _ ho base 83 j0 _ 9 88 Tryz.underlying23 hj hw0 hw1 hw2 rfl (by decide) v k xs hs hown ⟨B, 0, none⟩ 1 1 (itemCells y) hx rfl (World.news_of_block hb) (item_onesZ y) (by decide) (by unfold maxLen; omega) hk hbase _ rfl h
theorem item_is (g : Nat) (s : Rd) (x : Item) (s1 : Rd) (hn : Hid ((x, s1) = s.item)) (w : World) (h : Rdr g w s) :
  Calls Tryz.prog 48 #[.pointer (some ⟨g, 0, none⟩)] w (RdEnd g (.agg #[.string x.key, .int .i64 x.flags, .int .i64 x.till, .int .i64 x.cas, .int .i64 x.used, .string x.value, .bool x.far, .int .i64 x.place.page, .int .i64 x.place.off]) s1 w) := by
 have := r_item g s w h
 rwa [← hn.out] at this
end Go.Proofs.YtbeegfkfpkfccaaGreatDoor.D

