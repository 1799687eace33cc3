/-
  Contracts: ref.spool: next, many, text.
-/
import Derived.Test.YtbipegbgfdpaeaaDoorCRdr
namespace Go.Proofs.YtbipegbgfdpaeaaDoor.D
open Go.RowKit
/-- the spool at g over these bytes: what is left -/
structure Spl (g : Nat) (full : Str) (w : World) (s : Rd) : Prop where
  ex : ∃ b o c i, i ≤ full.length ∧ full.drop i = s.rest ∧ w.heap[g]? = some (.cells #[.slice (some ⟨b, o, none⟩) full.length c, .int .i64 (i : Nat), .int .i64 s.err] 89 (0, 0)) ∧ BytesAt w (some ⟨b, o, none⟩) full ∧ full.length ≤ c ∧ c ≤ 9223372036854775807 ∧ b < g
def SpEnd (g : Nat) (full : Str) (v : Value) (s : Rd) (w : World) (e : Ending) (w' : World) : Prop := e = .returned v ∧ Spl g full w' s ∧ w.grownBy w' (some g)
theorem grown_drewN {w w' : World} {r : Option Nat} (h : w.grownBy w' r) (n : Nat) : w.grownBy (w'.drewN n) r := ⟨h.os, h.tape, h.output, h.size, h.block⟩
theorem Spl.drewN {g : Nat} {full : Str} {w : World} {s : Rd} (h : Spl g full w s) (n : Nat) : Spl g full (w.drewN n) s := ⟨h.ex⟩
theorem Spl.err {g : Nat} {full : Str} {w : World} {s : Rd} (h : Spl g full w s) (e : Int) : Spl g full (w.setCell ⟨g, 2, none⟩ (.int .i64 e)) ⟨s.rest, e⟩ := by
  obtain ⟨b, o, c, i, hi, hr, hh, hb, h1, h2, h3⟩ := h.ex
  refine ⟨b, o, c, i, hi, hr, ?_, hb.grown (grown_set w g 2 _) (Nat.ne_of_lt h3), h1, h2, h3⟩
  rw [setCell_eq_setRow w g 2 _ _ _ _ hh]; exact setRow_heap w g _ _ _ _ hh
theorem Spl.to {g : Nat} {full : Str} {w : World} {s : Rd} (h : Spl g full w s) (j : Nat) (hj : j ≤ full.length) : Spl g full (w.setCell ⟨g, 1, none⟩ (.int .i64 (j : Nat))) ⟨full.drop j, s.err⟩ := by
  obtain ⟨b, o, c, i, hi, hr, hh, hb, h1, h2, h3⟩ := h.ex
  refine ⟨b, o, c, j, hj, rfl, ?_, hb.grown (grown_set w g 1 _) (Nat.ne_of_lt h3), h1, h2, h3⟩
  rw [setCell_eq_setRow w g 1 _ _ _ _ hh]; exact setRow_heap w g _ _ _ _ hh
theorem Spl.stay {g : Nat} {full : Str} {w w' : World} {s : Rd} (h : Spl g full w s) (hb : ∀ k, k ≤ g → w'.heap[k]? = w.heap[k]?) : Spl g full w' s := by
  obtain ⟨b, o, c, i, hi, hr, hh, hby, h1, h2, h3⟩ := h.ex
  exact ⟨b, o, c, i, hi, hr, (hb g (Nat.le_refl _)).trans hh, hby.stay (hb b (by omega)), h1, h2, h3⟩
theorem Spl.lt {g : Nat} {full : Str} {w : World} {s : Rd} (h : Spl g full w s) : g < w.heap.size := by
  obtain ⟨_, _, _, _, _, _, hh, _⟩ := h.ex
  exact (Array.getElem?_eq_some_iff.1 hh).1
theorem drop_cons {full r : Str} {ch : UInt8} {i : Nat} (h : full.drop i = ch :: r) : ∃ hi : i < full.length, full[i] = ch ∧ full.drop (i + 1) = r := by
  have hi : i < full.length := by
    rcases Nat.lt_or_ge i full.length with h' | h'
    · exact h'
    · rw [List.drop_of_length_le h'] at h; cases h
  refine ⟨hi, ?_⟩
  rw [List.drop_eq_getElem_cons hi] at h
  exact ⟨(List.cons.inj h).1, (List.cons.inj h).2⟩
theorem pow_le6 {k : Nat} (h : k ≤ 5) : 1 ≤ 128 ^ k ∧ 128 ^ k ≤ 34359738368 := ⟨Nat.one_le_pow _ _ (by decide), by
  have h1 : 128 ^ k ≤ 128 ^ 5 := Nat.pow_le_pow_right (by decide) h
  have h2 : (128 : Nat) ^ 5 = 34359738368 := by decide
  rw [← h2]; exact h1⟩
set_option maxRecDepth 100000 in
set_option maxHeartbeats 2000000 in
theorem p_next (g : Nat) (full : Str) (hfull : full.length ≤ 1000000) (s : Rd) (w : World) (h : Spl g full w s) :
    Calls Tryd.prog 50 #[.pointer (some ⟨g, 0, none⟩)] w (SpEnd g full (.int .i64 s.num.1) s.num.2 w) := by
  have HR := Lib.hid h
  clear h
  by_cases he : s.err = 0
  ·
    have HN := Lib.hid (num_ok s he)
    have HE := Lib.hid he
    clear he
    go_enter Tryd.func50, Tryd.ntmps50
    go_wp2_with fail
    go_loopw [3, 4, 5] (fun t u i wr => ∃ k n : Nat, ∃ r : Str, k ≤ 6 ∧ i = .int .i64 k ∧ t = .int .i64 n ∧ u = .int .i64 ((128 ^ k : Nat) : Int) ∧ Hid (n < 128 ^ k) ∧ Hid (rdN k n r = rdN 0 0 s.rest) ∧ Hid (Spl g full wr ⟨r, 0⟩) ∧ Hid (w.grownBy wr (some g))) (fun _ _ i _ => 6 - (intOf i).toNat)
    case atStart => exact ⟨0, 0, s.rest, by omega, rfl, rfl, rfl, by show _ < _; decide, rfl, by have := HR.out; have he := HE.out; cases s; simp only at he ⊢; subst he; exact this, grown_refl _ _⟩
    case round =>
      obtain ⟨k, n, r, hk, rfl, rfl, rfl, HLT, HEQ, HRD, HGR⟩ := hrel
      obtain ⟨b, o, c, i, hi, hr, hh, hby, hc1, hc2, hne⟩ := HRD.out.ex
      simp only at hr hh
      have c0 : wr.cell? ⟨g, 0, none⟩ = some (.slice (some ⟨b, o, none⟩) full.length c) := by rw [cell_of_row wr _ _ _ _ _ hh]; rfl
      have c1 : wr.cell? ⟨g, 1, none⟩ = some (.int .i64 i) := by rw [cell_of_row wr _ _ _ _ _ hh]; rfl
      have c2 : wr.cell? ⟨g, 2, none⟩ = some (.int .i64 0) := by rw [cell_of_row wr _ _ _ _ _ hh]; rfl
      have f1 : wr.frozen? ⟨g, 1, none⟩ = false := frozen_of_row wr _ _ _ _ hh
      have f2 : wr.frozen? ⟨g, 2, none⟩ = false := frozen_of_row wr _ _ _ _ hh
      have HBY := Lib.hid hby
      clear hh hby hne
      obtain ⟨U, hU⟩ : ∃ U : Nat, U = 128 ^ k := ⟨_, rfl⟩
      rw [← hU] at HLT ⊢
      have HU := Lib.hid hU
      cases r with
      | nil =>
        have HX : Hid (s.num = (0, ⟨[], 5⟩)) := by show _ = _; rw [HN.out, ← HEQ.out, rdN_nil]; rfl
        have hie : full.length ≤ i := by
          rcases Nat.lt_or_ge i full.length with h' | h'
          · rw [List.drop_eq_getElem_cons h'] at hr; cases hr
          · exact h'
        have hii : (full.length : Int) ≤ (i : Int) := by omega
        clear hU hr
        go_wp2_with fail
        go_quiet (fail)
        go_wp2_with fail
        go_ret
        exact ⟨by rw [HX.out]; rfl, by rw [HX.out]; exact (HRD.out.drewN _).err 5, grown_trans (grown_drewN HGR.out _) (grown_set _ _ _ _)⟩
      | cons ch r =>
        obtain ⟨hil, hch, hdr⟩ := drop_cons hr
        obtain ⟨b', o', hbo, hcell⟩ := HBY.out.pos (by omega)
        cases hbo
        have cc := hcell i hil
        obtain ⟨d, hd⟩ : ∃ d : Nat, d = ch.toNat := ⟨_, rfl⟩
        have hd256 : d < 256 := by rw [hd]; exact ch.toNat_lt
        rw [hch, ← hd] at cc
        have HD := Lib.hid hd
        have hwd : wrap64 (d : Int) = (d : Int) := IntWalk.wrap64_in _ ⟨by omega, by omega⟩
        have hii : ¬ (full.length : Int) ≤ (i : Int) := by omega
        have hi1 : (i : Int) < (full.length : Int) := by omega
        have hi0 : (0 : Int) ≤ (i : Int) := by omega
        have hi2 : (i : Int) + 1 ≤ 1000000 := by omega
        have HRW : Hid (∀ n, Spl g full ((wr.drewN n).setCell ⟨g, 1, none⟩ (.int .i64 ((i : Int) + 1))) ⟨r, 0⟩) := fun n => by
          have h := (HRD.out.drewN n).to (i + 1) hil
          rw [hdr] at h
          exact h
        clear hcell hd hr hch hdr hU
        go_upto_region 10 with (go_quiet (fail))
        go_cut [] (fun wx => Hid (Spl g full wx ⟨r, 0⟩) ∧ Hid (w.grownBy wx (some g)))
        case first =>
          go_wp2_with fail
          go_meet
          exact ⟨HRW.out _, grown_trans (grown_drewN HGR.out _) (grown_set _ _ _ _)⟩
        case rest =>
          obtain ⟨HSW, HGW⟩ := hcut
          obtain ⟨b2, o2, c2', i2, _, _, hh2, _⟩ := HSW.out.ex
          simp only at hh2
          have g2 : wc.frozen? ⟨g, 2, none⟩ = false := frozen_of_row wc _ _ _ _ hh2
          have g2' : wc.cell? ⟨g, 2, none⟩ = some (.int .i64 0) := by rw [cell_of_row wc _ _ _ _ _ hh2]; rfl
          clear c0 c1 c2 f1 f2 cc HBY hc1 hc2 hh2 HRW
          by_cases hform : k = 6 ∨ (0 < k ∧ d = 0)
          · have HX : Hid (s.num = (0, ⟨r, 4⟩)) := by show _ = _; rw [HN.out, ← HEQ.out, rdN_form (by rw [← HD.out]; exact hform)]; rfl
            by_cases hk6 : k = 6
            ·
              have e6 : ((k : Int) == 6) = true := by rw [beq_iff_eq]; omega
              clear hform hk6
              go_wp2_with fail
              go_ret
              exact ⟨by rw [HX.out]; rfl, by rw [HX.out]; exact HSW.out.err 4, grown_trans HGW.out (grown_set _ _ _ _)⟩
            ·
              have e6 : ((k : Int) == 6) = false := by rw [beq_eq_false_iff_ne]; omega
              have hk0 : 0 < k := by omega
              have hk0' : (0 : Int) < (k : Int) := by omega
              have hd0 : ((d : Int) == 0) = true := by rw [beq_iff_eq]; omega
              clear hform hk6
              go_wp2_with fail
              go_ret
              exact ⟨by rw [HX.out]; rfl, by rw [HX.out]; exact HSW.out.err 4, grown_trans HGW.out (grown_set _ _ _ _)⟩
          · have e6 : ((k : Int) == 6) = false := by rw [beq_eq_false_iff_ne]; omega
            have hk5 : k ≤ 5 := by omega
            obtain ⟨q, hq⟩ : ∃ q, q = d % 128 := ⟨_, rfl⟩
            obtain ⟨m, hm⟩ : ∃ m, m = q * U := ⟨_, rfl⟩
            have hup := pow_le6 hk5
            rw [← HU.out] at hup
            obtain ⟨hu1, hu2⟩ := hup
            have hml : m ≤ 127 * U := by rw [hm]; exact Nat.mul_le_mul_right _ (by omega)
            have hnl := HLT.out
            have hy1 : (d : Int) % 128 = (q : Int) := by omega
            have hy2 : (q : Int) * (U : Int) = (m : Int) := by rw [hm, Int.natCast_mul]
            obtain ⟨U2, hU2⟩ : ∃ U2 : Nat, U2 = U * 128 := ⟨_, rfl⟩
            have hy3 : (U : Int) * 128 = (U2 : Int) := by rw [hU2, Int.natCast_mul]; rfl
            have HU2 : Hid (U2 = 128 ^ (k + 1)) := by show _ = _; rw [hU2, HU.out, Nat.pow_succ]
            have HLT2 : Hid (n + m < 128 ^ (k + 1)) := by show _ < _; rw [← HU2.out]; omega
            have HF2 : Hid (¬ (k = 6 ∨ (0 < k ∧ ch.toNat = 0))) := by show ¬ _; rw [← HD.out]; exact hform
            have HQM : Hid (n + ch.toNat % 128 * 128 ^ k = n + m) := by show _ = _; rw [← HD.out, ← hq, ← HU.out, ← hm]
            have hbm : (m : Int) ≤ 4398046511104 := by omega
            have hbn : (n : Int) ≤ 34359738368 := by omega
            have hbU : (U2 : Int) ≤ 4398046511104 := by omega
            have hsplit : (0 < k ∧ ¬ d = 0) ∨ ¬ 0 < k := by omega
            have hq7 : (q : Int) ≤ 127 := by omega
            have hUi : (U : Int) ≤ 34359738368 := by omega
            clear hform hq hm hml hnl hU2 hu1 hu2
            by_cases hd128 : d < 128
            · have HX : Hid (s.num = (((n + m : Nat) : Int), ⟨r, 0⟩)) := by show _ = _; rw [HN.out, ← HEQ.out, rdN_last HF2.out (by rw [← HD.out]; exact hd128), HQM.out]
              have hdi : (d : Int) < 128 := by omega
              rcases hsplit with ⟨hk0, hd0⟩ | hk0
              ·
                have hd1 : ((d : Int) == 0) = false := by rw [beq_eq_false_iff_ne]; omega
                clear hd0
                go_wp2_with fail
                go_ret
                exact ⟨by rw [HX.out]; rfl, by rw [HX.out]; exact HSW.out, HGW.out⟩
              ·
                go_wp2_with fail
                go_ret
                exact ⟨by rw [HX.out]; rfl, by rw [HX.out]; exact HSW.out, HGW.out⟩
            · have HEQ2 : Hid (rdN (k + 1) (n + m) r = rdN 0 0 s.rest) := by show _ = _; rw [← HEQ.out, rdN_more HF2.out (by rw [← HD.out]; exact hd128), HQM.out]
              have hdi : ¬ (d : Int) < 128 := by omega
              rcases hsplit with ⟨hk0, hd0⟩ | hk0
              ·
                have hd1 : ((d : Int) == 0) = false := by rw [beq_eq_false_iff_ne]; omega
                clear hd0
                go_wp2_with fail
                go_roundw
                case rel => first | exact ⟨k + 1, n + m, r, by omega, by go_num, by go_num, by rw [← HU2.out], HLT2, HEQ2, HSW, HGW⟩ | ((repeat apply Exists.intro); exact ⟨⟨k + 1, n + m, r, by omega, by go_num, by go_num, by rw [← HU2.out], HLT2, HEQ2, HSW, HGW⟩, rfl⟩)
                case measure => simp [intOf]; omega
              ·
                go_wp2_with fail
                go_roundw
                case rel => first | exact ⟨k + 1, n + m, r, by omega, by go_num, by go_num, by rw [← HU2.out], HLT2, HEQ2, HSW, HGW⟩ | ((repeat apply Exists.intro); exact ⟨⟨k + 1, n + m, r, by omega, by go_num, by go_num, by rw [← HU2.out], HLT2, HEQ2, HSW, HGW⟩, rfl⟩)
                case measure => simp [intOf]; omega
  ·
    have HN := Lib.hid (num_err s he)
    have h1 : (s.err == 0) = false := by simp [he]
    obtain ⟨b, o, c, i, hi, hr, hh, _⟩ := HR.out.ex
    have c2 : w.cell? ⟨g, 2, none⟩ = some (.int .i64 s.err) := by rw [cell_of_row w _ _ _ _ _ hh]; rfl
    obtain ⟨n, hn⟩ : ∃ n, n = s.err := ⟨_, rfl⟩
    rw [← hn] at c2 h1
    clear he hh hn hr
    go_enter Tryd.func50, Tryd.ntmps50
    go_wp2_with fail
    go_loopw [3, 4, 5] (fun t u i wr => i = .int .i64 0 ∧ t = .int .i64 0 ∧ u = .int .i64 1 ∧ wr = w) (fun _ _ _ _ => 0)
    case atStart => exact ⟨rfl, rfl, rfl, rfl⟩
    case round =>
      obtain ⟨rfl, rfl, rfl, rfl⟩ := hrel
      go_wp2_with fail
      go_ret
      exact ⟨by rw [HN.out]; rfl, by rw [HN.out]; exact HR.out, grown_refl _ _⟩
theorem next_is (g : Nat) (full : Str) (hfull : full.length ≤ 1000000) (s : Rd) (n : Int) (s1 : Rd) (hn : Hid ((n, s1) = s.num)) (w : World) (h : Spl g full w s) :
    Calls Tryd.prog 50 #[.pointer (some ⟨g, 0, none⟩)] w (SpEnd g full (.int .i64 n) s1 w) := by
  have := p_next g full hfull s w h
  rwa [← hn.out] at this
set_option maxHeartbeats 1000000 in
theorem p_many (g : Nat) (full : Str) (hfull : full.length ≤ 1000000) (s : Rd) (most : Int) (hmost : 0 ≤ most) (w : World) (h : Spl g full w s) :
    Calls Tryd.prog 51 #[.pointer (some ⟨g, 0, none⟩), .int .i64 most] w (SpEnd g full (.int .i64 (s.many most).1) (s.many most).2 w) := by
  have HR := Lib.hid h
  clear h
  have hz := num_zero s
  obtain ⟨⟨n, l, er⟩, hn⟩ : ∃ p, p = s.num := ⟨_, rfl⟩
  rw [← hn] at hz
  simp only at hz
  have HN := Lib.hid hn
  clear hn
  by_cases hm : most < n
  ·
    have he : er = 0 := by
      by_cases he : er = 0
      · exact he
      · have := hz he; omega
    subst he
    have HX : Hid (s.many most = (0, ⟨l, 1⟩)) := by show _ = _; unfold Rd.many; rw [← HN.out, if_pos hm]; rfl
    clear hz
    go_enter Tryd.func51, Tryd.ntmps51
    go_wp2_with fail
    refine (next_is g full hfull s n ⟨l, 0⟩ HN _ HR.out).mono ?_
    rintro e w1 ⟨rfl, hr1, hg1⟩
    obtain ⟨b, o, c, i, _, _, hh, _⟩ := hr1.ex
    have c2 : w1.cell? ⟨g, 2, none⟩ = some (.int .i64 0) := by rw [cell_of_row w1 _ _ _ _ _ hh]; rfl
    have f2 : w1.frozen? ⟨g, 2, none⟩ = false := frozen_of_row w1 _ _ _ _ hh
    have c2' := setCell_self (x := .int .i64 1) c2
    have HR1 := Lib.hid hr1
    have HG1 := Lib.hid hg1
    clear hr1 hg1 hh
    go_wp2_with fail
    go_ret
    exact ⟨by rw [HX.out]; rfl, by rw [HX.out]; exact HR1.out.err 1, grown_trans HG1.out (grown_set _ _ _ _)⟩
  · have HX : Hid (s.many most = (n, ⟨l, er⟩)) := by show _ = _; unfold Rd.many; rw [← HN.out, if_neg hm]
    by_cases he : er = 0
    ·
      subst he
      clear hz
      go_enter Tryd.func51, Tryd.ntmps51
      go_wp2_with fail
      refine (next_is g full hfull s n ⟨l, 0⟩ HN _ HR.out).mono ?_
      rintro e w1 ⟨rfl, hr1, hg1⟩
      obtain ⟨b, o, c, i, _, _, hh, _⟩ := hr1.ex
      have c2 : w1.cell? ⟨g, 2, none⟩ = some (.int .i64 0) := by rw [cell_of_row w1 _ _ _ _ _ hh]; rfl
      have HR1 := Lib.hid hr1
      have HG1 := Lib.hid hg1
      clear hr1 hg1 hh
      go_wp2_with fail
      go_ret
      exact ⟨by rw [HX.out]; rfl, by rw [HX.out]; exact HR1.out, HG1.out⟩
    ·
      have hn0 := hz he
      subst hn0
      have h1 : (er == 0) = false := by simp [he]
      have h2 : (er != 0) = true := by simp [he]
      clear hz he
      go_enter Tryd.func51, Tryd.ntmps51
      go_wp2_with fail
      refine (next_is g full hfull s 0 ⟨l, er⟩ HN _ HR.out).mono ?_
      rintro e w1 ⟨rfl, hr1, hg1⟩
      obtain ⟨b, o, c, i, _, _, hh, _⟩ := hr1.ex
      have c2 : w1.cell? ⟨g, 2, none⟩ = some (.int .i64 er) := by rw [cell_of_row w1 _ _ _ _ _ hh]; rfl
      have HR1 := Lib.hid hr1
      have HG1 := Lib.hid hg1
      clear hr1 hg1 hh
      go_wp2_with fail
      go_ret
      exact ⟨by rw [HX.out]; rfl, by rw [HX.out]; exact HR1.out, HG1.out⟩
theorem manyp_is (g : Nat) (full : Str) (hfull : full.length ≤ 1000000) (s : Rd) (most : Int) (hmost : 0 ≤ most) (n : Int) (s1 : Rd) (hn : Hid ((n, s1) = s.many most)) (w : World) (h : Spl g full w s) :
    Calls Tryd.prog 51 #[.pointer (some ⟨g, 0, none⟩), .int .i64 most] w (SpEnd g full (.int .i64 n) s1 w) := by
  have := p_many g full hfull s most hmost w h
  rwa [← hn.out] at this
set_option maxRecDepth 100000 in
set_option maxHeartbeats 2000000 in
theorem p_text (g : Nat) (full : Str) (hfull : full.length ≤ 1000000) (s : Rd) (most : Int) (hmost : 0 ≤ most ∧ most ≤ 1000) (w : World) (h : Spl g full w s) :
    Calls Tryd.prog 52 #[.pointer (some ⟨g, 0, none⟩), .int .i64 most] w (SpEnd g full (.string (mkB (s.text most).1)) (s.text most).2 w) := by
  have HR := Lib.hid h
  clear h
  have hml := many_le s most hmost.1
  obtain ⟨⟨n, s1⟩, hn⟩ : ∃ p, p = s.many most := ⟨_, rfl⟩
  rw [← hn] at hml
  obtain ⟨n0, n1⟩ := hml
  simp only at n0 n1
  have HN := Lib.hid hn
  obtain ⟨hm0, hm1⟩ := hmost
  clear hn
  obtain ⟨m, hm⟩ : ∃ m : Nat, n = m := ⟨n.toNat, by omega⟩
  subst hm
  obtain ⟨l, er⟩ := s1
  by_cases he : er = 0
  rotate_left
  ·
    have HX : Hid (s.text most = ([], ⟨l, er⟩)) := by show _ = _; unfold Rd.text; rw [← HN.out, if_pos he]
    have h1 : (er == 0) = false := by simp [he]
    have h2 : (er != 0) = true := by simp [he]
    go_enter Tryd.func52, Tryd.ntmps52
    go_wp2_with fail
    refine (manyp_is g full hfull s most hm0 m ⟨l, er⟩ HN _ HR.out).mono ?_
    rintro e w1 ⟨rfl, hr1, hg1⟩
    obtain ⟨b, o, c, i, _, _, hh, _⟩ := hr1.ex
    have c2 : w1.cell? ⟨g, 2, none⟩ = some (.int .i64 er) := by rw [cell_of_row w1 _ _ _ _ _ hh]; rfl
    have HR1 := Lib.hid hr1
    have HG1 := Lib.hid hg1
    clear hr1 hg1 hh he
    go_wp2_with fail
    go_quiet (fail)
    go_wp2_with fail
    go_ret
    exact ⟨by rw [HX.out]; rfl, by rw [HX.out]; exact HR1.out.drewN _, grown_drewN HG1.out _⟩
  subst he
  go_enter Tryd.func52, Tryd.ntmps52
  go_wp2_with fail
  refine (manyp_is g full hfull s most hm0 m ⟨l, 0⟩ HN _ HR.out).mono ?_
  rintro e w1 ⟨rfl, hr1, hg1⟩
  obtain ⟨b, o, c, i, hi, hdr, hh, hby, hc1, hc2, hne⟩ := hr1.ex
  simp only at hdr hh
  have c0 : w1.cell? ⟨g, 0, none⟩ = some (.slice (some ⟨b, o, none⟩) full.length c) := by rw [cell_of_row w1 _ _ _ _ _ hh]; rfl
  have c1 : w1.cell? ⟨g, 1, none⟩ = some (.int .i64 i) := by rw [cell_of_row w1 _ _ _ _ _ hh]; rfl
  have c2 : w1.cell? ⟨g, 2, none⟩ = some (.int .i64 0) := by rw [cell_of_row w1 _ _ _ _ _ hh]; rfl
  have f1 : w1.frozen? ⟨g, 1, none⟩ = false := frozen_of_row w1 _ _ _ _ hh
  have f2 : w1.frozen? ⟨g, 2, none⟩ = false := frozen_of_row w1 _ _ _ _ hh
  have HR1 := Lib.hid hr1
  have HG1 := Lib.hid hg1
  have HBY := Lib.hid hby
  have HNE := Lib.hid hne
  have HDR := Lib.hid hdr
  have hll : l.length = full.length - i := by rw [← hdr, List.length_drop]
  clear hr1 hg1 hh hby hne hdr
  by_cases hlen : l.length < m
  ·
    have HX : Hid (s.text most = ([], ⟨l, 5⟩)) := by show _ = _; unfold Rd.text; rw [← HN.out, if_neg (by simp), if_pos (by simp only; omega)]
    have hli : (full.length : Int) < (i : Int) + (m : Int) := by omega
    have hw : IntKind.i64.wrap ((i : Int) + (m : Int)) = (i : Int) + (m : Int) := IntWalk.i64_in _ (by omega)
    have c2' := fun k => setCell_self (w := w1.drewN k) (x := .int .i64 5) c2
    clear hll
    go_wp2_with fail
    go_quiet (fail)
    clear hw
    go_wp2_with fail
    go_ret
    exact ⟨by rw [HX.out]; rfl, by rw [HX.out]; exact (HR1.out.drewN _).err 5, grown_trans (grown_drewN HG1.out _) (grown_set _ _ _ _)⟩
  ·
    have HX : Hid (s.text most = (l.take m, ⟨l.drop m, 0⟩)) := by show _ = _; unfold Rd.text; rw [← HN.out, if_neg (by simp), if_neg (by simp only; omega)]; simp
    have hli : ¬ (full.length : Int) < (i : Int) + (m : Int) := by omega
    have hw : IntKind.i64.wrap ((i : Int) + (m : Int)) = (i : Int) + (m : Int) := IntWalk.i64_in _ (by omega)
    have hil : i + m ≤ full.length := by omega
    clear hll hlen
    go_wp2_with fail
    go_quiet (fail)
    clear hw
    obtain ⟨j, hj⟩ : ∃ j, j = i + m := ⟨_, rfl⟩
    go_upto_region 6 with (fail)
    go_cut [] (fun wx => Hid (Spl g full wx ⟨full.drop j, 0⟩) ∧ Hid (w.grownBy wx (some g)) ∧ Hid (wx.cell? ⟨g, 0, none⟩ = some (.slice (some ⟨b, o, none⟩) full.length c)) ∧ Hid (wx.cell? ⟨g, 1, none⟩ = some (.int .i64 (j : Nat))) ∧ Hid (BytesAt wx (some ⟨b, o, none⟩) full))
    case first =>
      have HT := Lib.hid (fun k => (HR1.out.drewN k).to j (by omega))
      have HJ : Hid ((i : Int) + (m : Int) = (j : Nat)) := by show _ = _; omega
      clear hj
      go_wp2_with fail
      go_meet
      rw [HJ.out]
      exact ⟨HT.out _, grown_trans (grown_drewN HG1.out _) (grown_set _ _ _ _), cell_setCell_off c0 (by omega), setCell_self c1, HBY.out.grown (w := w1) (grown_trans (grown_drewN (grown_refl _ _) _) (grown_set _ _ _ _)) (Nat.ne_of_lt HNE.out)⟩
    case rest =>
      obtain ⟨HSW, HGW, HC0, HC1, HBW⟩ := hcut
      clear c0 c1 c2 f1 f2
      have c0 := HC0.out
      have c1 := HC1.out
      have hw1 : IntKind.i64.wrap ((j : Int) - (m : Int)) = (i : Int) := by rw [IntWalk.i64_in _ (by omega)]; omega
      have HTL : Hid (m = ((full.drop i).take m).length) := by show _ = _; rw [List.length_take, List.length_drop]; omega
      have HTX : Hid ((full.drop i).take m = l.take m) := by show _ = _; rw [HDR.out]
      have HDX : Hid (full.drop j = l.drop m) := by show _ = _; rw [hj, ← HDR.out, List.drop_drop]
      have hi0 : (0 : Int) ≤ (i : Int) := by omega
      have hij : (i : Int) ≤ (j : Int) := by omega
      have hjc : (j : Int) ≤ (c : Int) := by omega
      have hjm : j - i = m := by omega
      have hij' : i ≤ j := by omega
      have hjc' : j ≤ c := by omega
      by_cases hcap : c = i
      · have st := fun k => run_str (l := (full.drop i).take m) (a := some ⟨b, o, none⟩) (.inl (by rw [List.drop_of_length_le (by omega), List.take_nil]; rfl)) m 0 HTL.out (wc.drewN k) (Keeps.refl _)
        obtain rfl : i = c := hcap.symm
        clear hj
        go_wp2_with fail
        go_quiet (fail)
        clear hw1
        go_wp2_with fail
        go_ret
        exact ⟨by rw [HX.out, ← HTX.out]; rfl, by rw [HX.out, ← HDX.out]; exact HSW.out.drewN _, grown_drewN HGW.out _⟩
      · have st := fun k => run_str (l := (full.drop i).take m) ((HBW.out.drop i).take m) m (c - i) HTL.out (wc.drewN k) (fun _ _ h => h)
        have hcap2 : i < c := by omega
        clear hcap hj
        go_wp2_with fail
        go_quiet (fail)
        clear hw1
        go_wp2_with fail
        go_ret
        exact ⟨by rw [HX.out, ← HTX.out]; rfl, by rw [HX.out, ← HDX.out]; exact HSW.out.drewN _, grown_drewN HGW.out _⟩
theorem textp_is (g : Nat) (full : Str) (hfull : full.length ≤ 1000000) (s : Rd) (most : Int) (hmost : 0 ≤ most ∧ most ≤ 1000) (v : Str) (s1 : Rd) (hn : Hid ((v, s1) = s.text most)) (w : World) (h : Spl g full w s) :
    Calls Tryd.prog 52 #[.pointer (some ⟨g, 0, none⟩), .int .i64 most] w (SpEnd g full (.string (mkB v)) s1 w) := by
  have := p_text g full hfull s most hmost w h
  rwa [← hn.out] at this
end Go.Proofs.YtbipegbgfdpaeaaDoor.D
