/-
  Contracts: snap's reader: wrong, number, count, text.
-/
import Derived.Test.YtbipegbgfdpaeaaDoorPDec
import Derived.Test.YtbipegbgfdpaeaaDoorCText
import Derived.Test.YtbipegbgfdpaeaaDoorCRecord
namespace Go.Proofs.YtbipegbgfdpaeaaDoor.D
open Go.RowKit
/-- the reader at g: what is left lies elsewhere -/
structure Rdr (g : Nat) (w : World) (s : Rd) : Prop where
  ex : ∃ b o c, w.heap[g]? = some (.cells #[.slice (some ⟨b, o, none⟩) s.rest.length c, .int .i64 s.err] 82 (0, 0)) ∧ BytesAt w (some ⟨b, o, none⟩) s.rest ∧ s.rest.length ≤ c ∧ c ≤ 9223372036854775807 ∧ b < g
theorem Rdr.lt {g : Nat} {w : World} {s : Rd} (h : Rdr g w s) : g < w.heap.size := by
  obtain ⟨_, _, _, hh, _⟩ := h.ex
  exact (Array.getElem?_eq_some_iff.1 hh).1
theorem BytesAt.grown {w w' : World} {b o : Nat} {l : Str} {g : Nat} (h : BytesAt w (some ⟨b, o, none⟩) l) (hg : w.grownBy w' (some g)) (hbg : b ≠ g) : BytesAt w' (some ⟨b, o, none⟩) l := by
  rcases h with h | ⟨b', o', ha, hc⟩
  · exact .inl h
  · cases ha
    refine .inr ⟨b, o, rfl, fun i v hv => ?_⟩
    have hcv := hc i v hv
    rw [World.cell?_of_block (w := w) (hg.block b (cell_lt hcv) (fun e => hbg (by cases e; rfl)))]
    exact hcv
theorem BytesAt.stay {w w' : World} {b o : Nat} {l : Str} (h : BytesAt w (some ⟨b, o, none⟩) l) (hb : w'.heap[b]? = w.heap[b]?) : BytesAt w' (some ⟨b, o, none⟩) l := by
  rcases h with h | ⟨b', o', ha, hc⟩
  · exact .inl h
  · cases ha
    exact .inr ⟨b, o, rfl, fun i v hv => (World.cell?_of_block (w := w) hb).trans (hc i v hv)⟩
theorem Rdr.stay {g : Nat} {w w' : World} {s : Rd} (h : Rdr g w s) (hb : ∀ k, k ≤ g → w'.heap[k]? = w.heap[k]?) : Rdr g w' s := by
  obtain ⟨b, o, c, hh, hby, h1, h2, h3⟩ := h.ex
  exact ⟨b, o, c, (hb g (Nat.le_refl _)).trans hh, hby.stay (hb b (by omega)), h1, h2, h3⟩
theorem grown_trans {a b c : World} {g : Nat} (h : a.grownBy b (some g)) (k : b.grownBy c (some g)) : a.grownBy c (some g) :=
  ⟨k.os.trans h.os, k.tape.trans h.tape, k.output.trans h.output, Nat.le_trans h.size k.size, fun j hj hne => (k.block j (Nat.lt_of_lt_of_le hj h.size) hne).trans (h.block j hj hne)⟩
theorem grown_refl (w : World) (g : Nat) : w.grownBy w (some g) := ⟨rfl, rfl, rfl, Nat.le_refl _, fun _ _ _ => rfl⟩
theorem grown_set (w : World) (g i : Nat) (v : Value) : w.grownBy (w.setCell ⟨g, i, none⟩ v) (some g) :=
  ⟨rfl, rfl, rfl, by simp, fun k _ hne => Below.heap_setCell w ⟨g, i, none⟩ v k (fun e => hne (by rw [show g = k from e.symm]))⟩
def RdEnd (g : Nat) (v : Value) (s : Rd) (w : World) (e : Ending) (w' : World) : Prop := e = .returned v ∧ Rdr g w' s ∧ w.grownBy w' (some g)
/-- the error laid down -/
theorem Rdr.err {g : Nat} {w : World} {s : Rd} (h : Rdr g w s) (e : Int) : Rdr g (w.setCell ⟨g, 1, none⟩ (.int .i64 e)) ⟨s.rest, e⟩ := by
  obtain ⟨b, o, c, hh, hb, h1, h2, h3⟩ := h.ex
  refine ⟨b, o, c, ?_, hb.grown (grown_set w g 1 _) (Nat.ne_of_lt h3), h1, h2, h3⟩
  rw [setCell_eq_setRow w g 1 _ _ _ _ hh]; exact setRow_heap w g _ _ _ _ hh
/-- what is left laid down anew -/
theorem Rdr.put {g : Nat} {w : World} {s : Rd} (h : Rdr g w s) {b o : Nat} {l : Str} {c : Nat} (hb : BytesAt w (some ⟨b, o, none⟩) l) (h1 : l.length ≤ c) (h2 : c ≤ 9223372036854775807) (h3 : b < g) :
    Rdr g (w.setCell ⟨g, 0, none⟩ (.slice (some ⟨b, o, none⟩) l.length c)) ⟨l, s.err⟩ := by
  obtain ⟨b', o', c', hh, _⟩ := h.ex
  refine ⟨b, o, c, ?_, hb.grown (grown_set w g 0 _) (Nat.ne_of_lt h3), h1, h2, h3⟩
  rw [setCell_eq_setRow w g 0 _ _ _ _ hh]; exact setRow_heap w g _ _ _ _ hh
theorem r_wrong (g : Nat) (s : Rd) (e : Int) (w : World) (h : Rdr g w s) :
    Calls Tryd.prog 49 #[.pointer (some ⟨g, 0, none⟩), .int .i64 e] w (RdEnd g (.tuple #[]) (s.wrong e) w) := by
  have HR := Lib.hid h
  obtain ⟨b, o, c, hh, _⟩ := h.ex
  have c1 : w.cell? ⟨g, 1, none⟩ = some (.int .i64 s.err) := by rw [cell_of_row w _ _ _ _ _ hh]; rfl
  have f1 : w.frozen? ⟨g, 1, none⟩ = false := frozen_of_row w _ _ _ _ hh
  clear h hh
  by_cases he : s.err = 0
  · have HE : Hid (s.wrong e = ⟨s.rest, e⟩) := by show _ = _; unfold Rd.wrong; rw [if_pos he]
    rw [he] at c1
    go_enter Tryd.func49, Tryd.ntmps49
    go_wp2_with fail
    go_end0
    exact ⟨rfl, by rw [HE.out]; exact HR.out.err e, grown_set _ _ _ _⟩
  · have HE : Hid (s.wrong e = s) := by show _ = _; unfold Rd.wrong; rw [if_neg he]
    have h1 : (s.err == 0) = false := by simp [he]
    obtain ⟨n, hn⟩ : ∃ n, n = s.err := ⟨_, rfl⟩
    rw [← hn] at c1 h1
    clear he hn
    go_enter Tryd.func49, Tryd.ntmps49
    go_wp2_with fail
    go_end0
    exact ⟨rfl, by rw [HE.out]; exact HR.out, grown_refl _ _⟩
theorem pow_cast (k : Nat) : ((128 ^ k : Nat) : Int) = 2 ^ (7 * k) := by
  have h : (128 : Nat) ^ k = 2 ^ (7 * k) := by rw [Nat.pow_mul]
  rw [h]
  induction 7 * k with
  | zero => rfl
  | succ n ih => rw [Nat.pow_succ, Int.natCast_mul, ih, Int.pow_succ]; rfl
theorem shift_lt (n q m P : Nat) (hm : m = q * P) (hn : n < P) (hq : q ≤ 127) : n + m < P * 128 := by
  have hml : m ≤ 127 * P := by rw [hm]; exact Nat.mul_le_mul_right _ hq
  omega
theorem shift_facts (n q k m : Nat) (hm : m = q * 128 ^ k) (hn : n < 128 ^ k) (hk : k ≤ 5) (hq : q ≤ 127) :
    (q : Int) * 2 ^ (7 * k) = (m : Int) ∧ wrap64 (m : Int) = (m : Int) ∧ bits .or .i64 (n : Int) (m : Int) = ((n + m : Nat) : Int) ∧ n + m < 128 ^ (k + 1) ∧ n + m < 4398046511104 := by
  have hlt : n + m < 128 ^ (k + 1) := by rw [Nat.pow_succ]; exact shift_lt n q m _ hm hn hq
  have h6 : 128 ^ (k + 1) ≤ 128 ^ 6 := Nat.pow_le_pow_right (by decide) (by omega)
  have h6' : (128 : Nat) ^ 6 = 4398046511104 := by decide
  have hnm : n + m < 4398046511104 := by rw [← h6']; exact Nat.lt_of_lt_of_le hlt h6
  have h2 : (128 : Nat) ^ k = 2 ^ (7 * k) := by rw [Nat.pow_mul]
  clear h6 h6'
  refine ⟨by rw [hm, Int.natCast_mul, pow_cast], IntWalk.wrap64_in _ ⟨by omega, by omega⟩, ?_, hlt, hnm⟩
  have h := (bits_nat .i64 63 (by decide) (fun n h0 h1 => IntWalk.i64_in _ ⟨by omega, by omega⟩) n m (by omega) (by omega)).2
  rw [h2] at hn hm
  rw [h, Nat.or_comm, hm, Nat.mul_comm q, ← Nat.two_pow_add_eq_or_of_lt hn, Nat.add_comm]
set_option maxRecDepth 100000 in
set_option maxHeartbeats 2000000 in
theorem r_number (g : Nat) (s : Rd) (w : World) (h : Rdr g w s) :
    Calls Tryd.prog 45 #[.pointer (some ⟨g, 0, none⟩)] w (RdEnd g (.int .i64 s.num.1) s.num.2 w) := by
  have HR := Lib.hid h
  clear h
  by_cases he : s.err = 0
  ·
    have HN := Lib.hid (num_ok s he)
    have HE := Lib.hid he
    clear he
    go_enter Tryd.func45, Tryd.ntmps45
    go_wp2_with fail
    go_loopw [3, 4] (fun t i wr => ∃ k n : Nat, ∃ r : Str, k ≤ 6 ∧ i = .int .i64 k ∧ t = .int .i64 n ∧ Hid (n < 128 ^ k) ∧ Hid (rdN k n r = rdN 0 0 s.rest) ∧ Hid (Rdr g wr ⟨r, 0⟩) ∧ Hid (w.grownBy wr (some g))) (fun _ i _ => 6 - (intOf i).toNat)
    case atStart => exact ⟨0, 0, s.rest, by omega, rfl, rfl, by show _ < _; decide, rfl, by have := HR.out; have he := HE.out; cases s; simp only at he ⊢; subst he; exact this, grown_refl _ _⟩
    case round =>
      obtain ⟨k, n, r, hk, rfl, rfl, HLT, HEQ, HRD, HGR⟩ := hrel
      obtain ⟨b, o, c, hh, hby, hc1, hc2, hne⟩ := HRD.out.ex
      simp only at hh hby hc1
      have c0 : wr.cell? ⟨g, 0, none⟩ = some (.slice (some ⟨b, o, none⟩) r.length c) := by rw [cell_of_row wr _ _ _ _ _ hh]; rfl
      have c1 : wr.cell? ⟨g, 1, none⟩ = some (.int .i64 0) := by rw [cell_of_row wr _ _ _ _ _ hh]; rfl
      have f0 : wr.frozen? ⟨g, 0, none⟩ = false := frozen_of_row wr _ _ _ _ hh
      have HBY := Lib.hid hby
      have HNE := Lib.hid hne
      clear hh hby hne
      cases r with
      | nil =>
        have HX : Hid (s.num = (0, ⟨[], 5⟩)) := by show _ = _; rw [HN.out, ← HEQ.out, rdN_nil]; rfl
        go_wp2_with fail
        refine (r_wrong g ⟨[], 0⟩ 5 _ HRD.out).mono ?_
        rintro e w2 ⟨rfl, hr2, hg2⟩
        have HR2 := Lib.hid hr2
        have HG2 := Lib.hid (grown_trans HGR.out hg2)
        clear hr2 hg2 c0 c1 f0
        go_wp2_with fail
        go_ret
        exact ⟨by rw [HX.out]; rfl, by rw [HX.out]; exact HR2.out, HG2.out⟩
      | cons ch r =>
        obtain ⟨b', o', hbo, hcell⟩ := HBY.out.pos (by simp)
        cases hbo
        have cc := hcell 0 (by simp)
        simp only [List.getElem_cons_zero, Nat.add_zero] at cc
        obtain ⟨d, hd⟩ : ∃ d : Nat, d = ch.toNat := ⟨_, rfl⟩
        have hd256 : d < 256 := by rw [hd]; exact ch.toNat_lt
        rw [← hd] at cc
        have HD := Lib.hid hd
        have hwd : wrap64 (d : Int) = (d : Int) := IntWalk.wrap64_in _ ⟨by omega, by omega⟩
        clear hcell hd
        simp only [List.length_cons] at c0 hc1
        have hl0 : ((r.length : Int) + 1 == 0) = false := by rw [beq_eq_false_iff_ne]; omega
        go_upto_region 8 with (fail)
        go_cut [] (fun wx => Hid (Rdr g wx ⟨r, 0⟩) ∧ Hid (w.grownBy wx (some g)))
        case first =>
          by_cases hcap : c = 1
          · subst hcap
            obtain rfl : r = [] := List.eq_nil_of_length_eq_zero (by omega)
            have HRW : Hid (Rdr g (wr.setCell ⟨g, 0, none⟩ (.slice (some ⟨b, o, none⟩) 0 0)) ⟨[], 0⟩) := HRD.out.put (l := []) (.inl rfl) (Nat.le_refl _) (by omega) HNE.out
            have HGW : Hid (w.grownBy (wr.setCell ⟨g, 0, none⟩ (.slice (some ⟨b, o, none⟩) 0 0)) (some g)) := grown_trans HGR.out (grown_set wr g 0 _)
            simp only [List.length_nil, Nat.zero_add] at c0
            go_wp2_with fail
            go_meet
            exact ⟨HRW, HGW⟩
          · have hcap2 : 1 < c := by omega
            have HRW : Hid (Rdr g (wr.setCell ⟨g, 0, none⟩ (.slice (some ⟨b, o + 1, none⟩) r.length (c - 1))) ⟨r, 0⟩) := HRD.out.put (l := r) (by simpa using HBY.out.drop 1) (by omega) (by omega) HNE.out
            have HGW : Hid (w.grownBy (wr.setCell ⟨g, 0, none⟩ (.slice (some ⟨b, o + 1, none⟩) r.length (c - 1))) (some g)) := grown_trans HGR.out (grown_set wr g 0 _)
            clear hcap
            go_wp2_with fail
            go_meet
            exact ⟨HRW, HGW⟩
        case rest =>
          obtain ⟨HRW, HGW⟩ := hcut
          clear c0 c1 f0 cc HBY HNE hc1 hc2
          by_cases hform : k = 6 ∨ (0 < k ∧ d = 0)
          · have HX : Hid (s.num = (0, ⟨r, 4⟩)) := by show _ = _; rw [HN.out, ← HEQ.out, rdN_form (by rw [← HD.out]; exact hform)]; rfl
            by_cases hk6 : k = 6
            ·
              have e6 : ((k : Int) == 6) = true := by rw [beq_iff_eq]; omega
              clear hform hk6
              go_wp2_with fail
              refine (r_wrong g ⟨r, 0⟩ 4 _ HRW.out).mono ?_
              rintro e w2 ⟨rfl, hr2, hg2⟩
              have HR2 := Lib.hid hr2
              have HG2 := Lib.hid (grown_trans HGW.out hg2)
              clear hr2 hg2
              go_wp2_with fail
              go_ret
              exact ⟨by rw [HX.out]; rfl, by rw [HX.out]; exact HR2.out, HG2.out⟩
            ·
              have e6 : ((k : Int) == 6) = false := by rw [beq_eq_false_iff_ne]; omega
              have hk0 : 0 < k := by omega
              have hk0' : (0 : Int) < (k : Int) := by omega
              have hd0 : ((d : Int) == 0) = true := by rw [beq_iff_eq]; omega
              clear hform hk6
              go_wp2_with fail
              refine (r_wrong g ⟨r, 0⟩ 4 _ HRW.out).mono ?_
              rintro e w2 ⟨rfl, hr2, hg2⟩
              have HR2 := Lib.hid hr2
              have HG2 := Lib.hid (grown_trans HGW.out hg2)
              clear hr2 hg2
              go_wp2_with fail
              go_ret
              exact ⟨by rw [HX.out]; rfl, by rw [HX.out]; exact HR2.out, HG2.out⟩
          · have e6 : ((k : Int) == 6) = false := by rw [beq_eq_false_iff_ne]; omega
            have hk5 : k ≤ 5 := by omega
            obtain ⟨q, hq⟩ : ∃ q, q = d % 128 := ⟨_, rfl⟩
            obtain ⟨m, hm⟩ : ∃ m, m = q * 128 ^ k := ⟨_, rfl⟩
            have hx1 := and127 d q (by omega) hq
            obtain ⟨hx2, hx3, hx4, hlt2, hnm⟩ := shift_facts n q k m hm HLT.out hk5 (by omega)
            have HLT2 := Lib.hid hlt2
            have HF2 : Hid (¬ (k = 6 ∨ (0 < k ∧ ch.toNat = 0))) := by show ¬ _; rw [← HD.out]; exact hform
            have HQM : Hid (n + ch.toNat % 128 * 128 ^ k = n + m) := by show _ = _; rw [← HD.out, ← hq, ← hm]
            obtain ⟨tt, htt⟩ : ∃ tt, tt = n + m := ⟨_, rfl⟩
            rw [← htt] at hx4 HLT2 HQM hnm
            have hsplit : (0 < k ∧ ¬ d = 0) ∨ ¬ 0 < k := by omega
            clear hform hq hm htt hlt2
            by_cases hd128 : d < 128
            · have HX : Hid (s.num = ((tt : Int), ⟨r, 0⟩)) := by show _ = _; rw [HN.out, ← HEQ.out, rdN_last HF2.out (by rw [← HD.out]; exact hd128), HQM.out]
              have hdi : (d : Int) < 128 := by omega
              rcases hsplit with ⟨hk0, hd0⟩ | hk0
              ·
                have hd1 : ((d : Int) == 0) = false := by rw [beq_eq_false_iff_ne]; omega
                clear hd0
                go_wp2_with fail
                go_ret
                exact ⟨by rw [HX.out]; rfl, by rw [HX.out]; exact HRW.out, HGW.out⟩
              ·
                go_wp2_with fail
                go_ret
                exact ⟨by rw [HX.out]; rfl, by rw [HX.out]; exact HRW.out, HGW.out⟩
            · have HEQ2 : Hid (rdN (k + 1) tt r = rdN 0 0 s.rest) := by show _ = _; rw [← HEQ.out, rdN_more HF2.out (by rw [← HD.out]; exact hd128), HQM.out]
              have hdi : ¬ (d : Int) < 128 := by omega
              rcases hsplit with ⟨hk0, hd0⟩ | hk0
              ·
                have hd1 : ((d : Int) == 0) = false := by rw [beq_eq_false_iff_ne]; omega
                clear hd0
                go_wp2_with fail
                go_roundw
                case rel => first | exact ⟨k + 1, tt, r, by omega, by go_num, rfl, HLT2, HEQ2, HRW, HGW⟩ | ((repeat apply Exists.intro); exact ⟨⟨k + 1, tt, r, by omega, by go_num, rfl, HLT2, HEQ2, HRW, HGW⟩, rfl⟩)
                case measure => simp [intOf]; omega
              ·
                go_wp2_with fail
                go_roundw
                case rel => first | exact ⟨k + 1, tt, r, by omega, by go_num, rfl, HLT2, HEQ2, HRW, HGW⟩ | ((repeat apply Exists.intro); exact ⟨⟨k + 1, tt, r, by omega, by go_num, rfl, HLT2, HEQ2, HRW, HGW⟩, rfl⟩)
                case measure => simp [intOf]; omega
  ·
    have HN := Lib.hid (num_err s he)
    have h1 : (s.err == 0) = false := by simp [he]
    obtain ⟨b, o, c, hh, _⟩ := HR.out.ex
    have c1 : w.cell? ⟨g, 1, none⟩ = some (.int .i64 s.err) := by rw [cell_of_row w _ _ _ _ _ hh]; rfl
    obtain ⟨n, hn⟩ : ∃ n, n = s.err := ⟨_, rfl⟩
    rw [← hn] at c1 h1
    clear he hh hn
    go_enter Tryd.func45, Tryd.ntmps45
    go_wp2_with fail
    go_loopw [3, 4] (fun t i wr => i = .int .i64 0 ∧ t = .int .i64 0 ∧ wr = w) (fun _ _ _ => 0)
    case atStart => exact ⟨rfl, rfl, rfl⟩
    case round =>
      obtain ⟨rfl, rfl, rfl⟩ := hrel
      go_wp2_with fail
      go_ret
      exact ⟨by rw [HN.out]; rfl, by rw [HN.out]; exact HR.out, grown_refl _ _⟩
theorem num_is (g : Nat) (s : Rd) (n : Int) (s1 : Rd) (hn : Hid ((n, s1) = s.num)) (w : World) (h : Rdr g w s) :
    Calls Tryd.prog 45 #[.pointer (some ⟨g, 0, none⟩)] w (RdEnd g (.int .i64 n) s1 w) := by
  have := r_number g s w h
  rwa [← hn.out] at this
theorem many_le (s : Rd) (most : Int) (hm : 0 ≤ most) : 0 ≤ (s.many most).1 ∧ (s.many most).1 ≤ most := by
  have := num_lt s
  unfold Rd.many
  split
  · exact ⟨Int.le_refl _, hm⟩
  · omega
theorem r_count (g : Nat) (s : Rd) (most : Int) (w : World) (h : Rdr g w s) :
    Calls Tryd.prog 46 #[.pointer (some ⟨g, 0, none⟩), .int .i64 most] w (RdEnd g (.int .i64 (s.many most).1) (s.many most).2 w) := by
  have HR := Lib.hid h
  clear h
  obtain ⟨⟨n, s1⟩, hn⟩ : ∃ p, p = s.num := ⟨_, rfl⟩
  have HN := Lib.hid hn
  clear hn
  by_cases hm : most < n
  · have HX : Hid (s.many most = (0, s1.wrong 1)) := by show _ = _; unfold Rd.many; rw [← HN.out, if_pos hm]
    go_enter Tryd.func46, Tryd.ntmps46
    go_wp2_with fail
    refine (num_is g s n s1 HN _ HR.out).mono ?_
    rintro e w1 ⟨rfl, hr1, hg1⟩
    have HR1 := Lib.hid hr1
    have HG1 := Lib.hid hg1
    clear hr1 hg1
    go_wp2_with fail
    refine (r_wrong g s1 1 _ HR1.out).mono ?_
    rintro e w2 ⟨rfl, hr2, hg2⟩
    have HR2 := Lib.hid hr2
    have HG2 := Lib.hid (grown_trans HG1.out hg2)
    clear hr2 hg2
    go_wp2_with fail
    go_ret
    exact ⟨by rw [HX.out]; rfl, by rw [HX.out]; exact HR2.out, HG2.out⟩
  · have HX : Hid (s.many most = (n, s1)) := by show _ = _; unfold Rd.many; rw [← HN.out, if_neg hm]
    go_enter Tryd.func46, Tryd.ntmps46
    go_wp2_with fail
    refine (num_is g s n s1 HN _ HR.out).mono ?_
    rintro e w1 ⟨rfl, hr1, hg1⟩
    have HR1 := Lib.hid hr1
    have HG1 := Lib.hid hg1
    clear hr1 hg1
    go_wp2_with fail
    go_ret
    exact ⟨by rw [HX.out]; rfl, by rw [HX.out]; exact HR1.out, HG1.out⟩
theorem count_is (g : Nat) (s : Rd) (most n : Int) (s1 : Rd) (hn : Hid ((n, s1) = s.many most)) (w : World) (h : Rdr g w s) :
    Calls Tryd.prog 46 #[.pointer (some ⟨g, 0, none⟩), .int .i64 most] w (RdEnd g (.int .i64 n) s1 w) := by
  have := r_count g s most w h
  rwa [← hn.out] at this
set_option maxRecDepth 100000 in
set_option maxHeartbeats 2000000 in
theorem r_text (g : Nat) (s : Rd) (most : Int) (hmost : 0 ≤ most ∧ most ≤ 1000) (w : World) (h : Rdr g w s) :
    Calls Tryd.prog 47 #[.pointer (some ⟨g, 0, none⟩), .int .i64 most] w (RdEnd g (.string (mkB (s.text most).1)) (s.text most).2 w) := by
  have HR := Lib.hid h
  clear h
  have hml := many_le s most hmost.1
  obtain ⟨⟨n, s1⟩, hn⟩ : ∃ p, p = s.many most := ⟨_, rfl⟩
  rw [← hn] at hml
  obtain ⟨n0, n1⟩ := hml
  simp only at n0 n1
  have HN := Lib.hid hn
  obtain ⟨hm0, hm1⟩ := hmost
  clear hn
  obtain ⟨m, hm⟩ : ∃ m : Nat, n = m := ⟨n.toNat, by omega⟩
  subst hm
  obtain ⟨l, er⟩ := s1
  by_cases he : er = 0
  rotate_left
  ·
    have HX : Hid (s.text most = ([], ⟨l, er⟩)) := by show _ = _; unfold Rd.text; rw [← HN.out, if_pos he]
    have h1 : (er == 0) = false := by simp [he]
    have h2 : (er != 0) = true := by simp [he]
    go_enter Tryd.func47, Tryd.ntmps47
    go_wp2_with fail
    refine (count_is g s most m ⟨l, er⟩ HN _ HR.out).mono ?_
    rintro e w1 ⟨rfl, hr1, hg1⟩
    obtain ⟨b, o, c, hh, _⟩ := hr1.ex
    have c1 : w1.cell? ⟨g, 1, none⟩ = some (.int .i64 er) := by rw [cell_of_row w1 _ _ _ _ _ hh]; rfl
    have HR1 := Lib.hid hr1
    have HG1 := Lib.hid hg1
    clear hr1 hg1 hh he
    go_wp2_with fail
    go_ret
    exact ⟨by rw [HX.out]; rfl, by rw [HX.out]; exact HR1.out, HG1.out⟩
  subst he
  by_cases hlen : l.length < m
  ·
    have HX : Hid (s.text most = ([], ⟨l, 5⟩)) := by show _ = _; unfold Rd.text; rw [← HN.out, if_neg (by simp), if_pos (by simp only; omega)]
    have hli : (l.length : Int) < (m : Int) := by omega
    go_enter Tryd.func47, Tryd.ntmps47
    go_wp2_with fail
    refine (count_is g s most m ⟨l, 0⟩ HN _ HR.out).mono ?_
    rintro e w1 ⟨rfl, hr1, hg1⟩
    obtain ⟨b, o, c, hh, _⟩ := hr1.ex
    have c1 : w1.cell? ⟨g, 1, none⟩ = some (.int .i64 0) := by rw [cell_of_row w1 _ _ _ _ _ hh]; rfl
    have c0 : w1.cell? ⟨g, 0, none⟩ = some (.slice (some ⟨b, o, none⟩) l.length c) := by rw [cell_of_row w1 _ _ _ _ _ hh]; rfl
    have HR1 := Lib.hid hr1
    have HG1 := Lib.hid hg1
    clear hr1 hg1 hh
    go_wp2_with fail
    refine (r_wrong g ⟨l, 0⟩ 5 _ HR1.out).mono ?_
    rintro e w2 ⟨rfl, hr2, hg2⟩
    have HR2 := Lib.hid hr2
    have HG2 := Lib.hid (grown_trans HG1.out hg2)
    clear hr2 hg2 c0 c1
    go_wp2_with fail
    go_ret
    exact ⟨by rw [HX.out]; rfl, by rw [HX.out]; exact HR2.out, HG2.out⟩
  ·
    have HX : Hid (s.text most = (l.take m, ⟨l.drop m, 0⟩)) := by show _ = _; unfold Rd.text; rw [← HN.out, if_neg (by simp), if_neg (by simp only; omega)]; simp
    have hli : (m : Int) ≤ (l.length : Int) := by omega
    have hli2 : m ≤ l.length := by omega
    have HTL : Hid (m = (l.take m).length) := by show _ = _; rw [List.length_take]; omega
    have HDL : Hid ((l.drop m).length = l.length - m) := by show _ = _; rw [List.length_drop]
    clear hlen
    go_enter Tryd.func47, Tryd.ntmps47
    go_wp2_with fail
    refine (count_is g s most m ⟨l, 0⟩ HN _ HR.out).mono ?_
    rintro e w1 ⟨rfl, hr1, hg1⟩
    obtain ⟨b, o, c, hh, hby, hc1, hc2, hne⟩ := hr1.ex
    simp only at hh hby hc1
    have c1 : w1.cell? ⟨g, 1, none⟩ = some (.int .i64 0) := by rw [cell_of_row w1 _ _ _ _ _ hh]; rfl
    have c0 : w1.cell? ⟨g, 0, none⟩ = some (.slice (some ⟨b, o, none⟩) l.length c) := by rw [cell_of_row w1 _ _ _ _ _ hh]; rfl
    have f0 : w1.frozen? ⟨g, 0, none⟩ = false := frozen_of_row w1 _ _ _ _ hh
    have st := run_str (hby.take m) m c HTL.out w1 (Keeps.refl _)
    have HR1 := Lib.hid hr1
    have HG1 := Lib.hid hg1
    have HBY := Lib.hid hby
    have HNE := Lib.hid hne
    clear hr1 hg1 hh hby hne
    have hci : (m : Int) ≤ (c : Int) := by omega
    by_cases hcap : c = m
    · have HRW : Hid (Rdr g (w1.setCell ⟨g, 0, none⟩ (.slice (some ⟨b, o, none⟩) (l.drop m).length 0)) ⟨l.drop m, 0⟩) := HR1.out.put (l := l.drop m) (.inl (by rw [List.drop_of_length_le (by omega)]; rfl)) (by rw [HDL.out]; omega) (by omega) HNE.out
      rw [HDL.out, show l.length - m = 0 by omega] at HRW
      subst hcap
      go_wp2_with fail
      go_ret
      exact ⟨by rw [HX.out]; rfl, by rw [HX.out]; exact HRW.out, grown_trans HG1.out (grown_set _ _ _ _)⟩
    · have HRW : Hid (Rdr g (w1.setCell ⟨g, 0, none⟩ (.slice (some ⟨b, o + m, none⟩) (l.drop m).length (c - m))) ⟨l.drop m, 0⟩) := HR1.out.put (l := l.drop m) (HBY.out.drop m) (by rw [HDL.out]; omega) (by omega) HNE.out
      rw [HDL.out] at HRW
      have hcap2 : m < c := by omega
      clear hcap
      go_wp2_with fail
      go_ret
      exact ⟨by rw [HX.out]; rfl, by rw [HX.out]; exact HRW.out, grown_trans HG1.out (grown_set _ _ _ _)⟩
theorem text_is (g : Nat) (s : Rd) (most : Int) (hmost : 0 ≤ most ∧ most ≤ 1000) (v : Str) (s1 : Rd) (hn : Hid ((v, s1) = s.text most)) (w : World) (h : Rdr g w s) :
    Calls Tryd.prog 47 #[.pointer (some ⟨g, 0, none⟩), .int .i64 most] w (RdEnd g (.string (mkB v)) s1 w) := by
  have := r_text g s most hmost w h
  rwa [← hn.out] at this
end Go.Proofs.YtbipegbgfdpaeaaDoor.D
