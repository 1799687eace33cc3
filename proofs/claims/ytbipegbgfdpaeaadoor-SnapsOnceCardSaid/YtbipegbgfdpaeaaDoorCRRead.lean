/-
  Contract: ref.FlashRead reads the value at a place.
-/
import Derived.Test.YtbipegbgfdpaeaaDoorCFRead
import Derived.Test.YtbipegbgfdpaeaaDoorCMay
namespace Go.Proofs.YtbipegbgfdpaeaaDoor.D
open Go.RowKit

theorem may_is (f : Flash) (t : Bool) (ht : Hid (f.ok = t)) (a : Option Addr) (c : Nat) (w : World) (h : RowsAt w a 2 (PageR w) f.pages) (hl : f.pages.length ≤ 9223372036854775807) :
    Calls Tryd.prog 32 #[.agg #[.int .i64 f.most, .int .i64 f.next, .slice a f.pages.length c]] w fun e w' => e = .returned (.bool t) ∧ Below w.heap.size w w' := by
  refine (ref_FlashMay f a c w h hl).mono ?_
  rintro e w' ⟨rfl, hb⟩
  exact ⟨by rw [ht.out], hb⟩
def ValsGood (b : Str) (w : World) (e : Ending) (w' : World) : Prop :=
  ∃ oa oc xa xc, e = .returned (.tuple #[.slice oa (recs b 0).length oc, .slice xa (recs b 0).length xc, .bool true]) ∧ CellsAt w' oa (valCells (recs b 0)) ∧ CellsAt w' xa (atCells (recs b 0)) ∧ Below w.heap.size w w'
theorem own_cells {w : World} {base : Nat} {e : TypeId} {va : Option Addr} {n vc m : Nat} {xs : List Value} (h : w.ownsRow base e 1 (.slice va n vc) m xs) : CellsAt w va xs := by
  rcases Nat.eq_zero_or_pos m with h0 | h0
  · left
    have := h.1
    rw [h0] at this
    exact List.eq_nil_of_length_eq_zero (by simpa using this)
  · obtain ⟨g, cap, hv, _, _, _, _, hcell⟩ := own_shape h h0
    cases hv
    exact .inr ⟨g, 0, rfl, fun i v hv => by rw [Nat.zero_add]; exact hcell i v hv⟩
theorem vals_good (b : Str) (a : Option Addr) (c : Nat) (w : World) (ht : Hid (allRec b 0 = true)) (h : BytesAt w a b) (hl : b.length ≤ 256) (hc : b.length ≤ c) (hcc : c ≤ 9223372036854775807) :
    Calls Tryd.prog 60 #[.slice a b.length c] w (ValsGood b w) := by
  refine (ref_valuesIn b a c w h hl hc hcc).mono ?_
  rintro e w' ⟨o, q, rfl, hx, hb⟩
  obtain ⟨h1, h2⟩ := hx ht.out
  obtain ⟨oa, oc, rfl⟩ := own_slice h1
  obtain ⟨xa, xc, rfl⟩ := own_slice h2
  exact ⟨oa, oc, xa, xc, by rw [ht.out], own_cells h1, own_cells h2, hb⟩
theorem cellsAt_pos {w : World} {a : Option Addr} {cs : List Value} (h : CellsAt w a cs) (hl : 0 < cs.length) : ∃ b o, a = some ⟨b, o, none⟩ ∧ ∀ i v, cs[i]? = some v → w.cell? ⟨b, o + i, none⟩ = some v := by
  rcases h with h | h
  · subst h; simp at hl
  · exact h
def hitB (q : Int) (r : Nat × Str) : Bool := decide ((r.1 : Int) = q)

set_option maxHeartbeats 1000000 in
theorem ref_FlashRead (f : Flash) (q : Place) (a : Option Addr) (c : Nat) (w : World) (h : RowsAt w a 2 (PageR w) f.pages) (hl : f.pages.length ≤ 9223372036854775807) :
    Calls Tryd.prog 34 #[.agg #[.int .i64 f.most, .int .i64 f.next, .slice a f.pages.length c], .agg #[.int .i64 q.page, .int .i64 q.off]] w (ReadEnd f q w) := by
  have HR := Lib.hid h
  clear h
  cases hok : f.ok
  · have HC := Lib.hid hok
    have HB := Lib.hid (read_bad (q := q) hok)
    clear hok
    go_enter Tryd.func34, Tryd.ntmps34
    go_wp2_with fail
    refine (may_is f false HC a c _ ?_ hl).mono ?_
    · exact HR.out.keep (Below.keeps (by go_grown)) (PageR.keep (Below.keeps (by go_grown)))
    rintro e w1 ⟨rfl, hb⟩
    go_wp2_with fail
    go_ret2
    exact readEnd HB.out (Below.trans (by go_grown) (hb.mono (by go_size)))
  · have HC := Lib.hid hok
    have HM := Lib.hid (ok_mem hok)
    clear hok
    go_enter Tryd.func34, Tryd.ntmps34
    go_wp2_with fail
    refine (may_is f true HC a c _ ?_ hl).mono ?_
    · exact HR.out.keep (Below.keeps (by go_grown)) (PageR.keep (Below.keeps (by go_grown)))
    rintro e w1 ⟨rfl, hb⟩
    have hbw : Below w.heap.size w w1 := Below.trans (by go_grown) (hb.mono (by go_size))
    have d2 : w1.cell? ⟨w.heap.size, 2, none⟩ = some (.slice a f.pages.length c) := (hb.cell (p := ⟨w.heap.size, 2, none⟩) (by go_size)).trans (by go_simp)
    have e0 : w1.cell? ⟨w.heap.size + 1, 0, none⟩ = some (.int .i64 q.page) := (hb.cell (p := ⟨w.heap.size + 1, 0, none⟩) (by go_size)).trans (by go_simp)
    have e1 : w1.cell? ⟨w.heap.size + 1, 1, none⟩ = some (.int .i64 q.off) := (hb.cell (p := ⟨w.heap.size + 1, 1, none⟩) (by go_size)).trans (by go_simp)
    clear hb
    go_wp2_with fail
    go_loopg [6] f.pages.length (fun g i wr => ∃ k : Nat, g + k = f.pages.length ∧ i = .int .i64 k ∧ (∃ n, wr = w1.drewN n) ∧ Hid (f.pages.find? (isPage q.page) = (f.pages.drop k).find? (isPage q.page)))
    case atStart => exact ⟨0, rfl, rfl, ⟨0, rfl⟩, rfl⟩
    case round =>
      obtain ⟨k, hk, rfl, ⟨nd, rfl⟩, hf⟩ := hrel
      by_cases hlt : k < f.pages.length
      · obtain ⟨b, o, rfl, hc⟩ := HR.out.pos (by omega)
        obtain ⟨cs, _, ⟨hI, ba, bc, hcs, hby, hb1, hbc, hbc3⟩, h3⟩ := hc k hlt
        subst hcs
        have hS := Lib.hid (find_step hlt hf.out)
        have hT := Lib.hid (find_hit hlt hf.out)
        obtain ⟨hall, hpos, hle⟩ := HM.out f.pages[k] (List.getElem_mem hlt)
        obtain ⟨p, hp⟩ : ∃ p, p = f.pages[k] := ⟨_, rfl⟩
        rw [← hp] at hby hb1 hbc hall hpos hle h3 hS hT
        obtain ⟨pn, pb⟩ := p
        simp only at hby hb1 hbc hall hpos hle h3
        have HKP := Lib.hid (Below.keeps hbw)
        have c0 := HKP.out _ _ (h3 0 _ rfl)
        have c1 := HKP.out _ _ (h3 1 _ rfl)
        rw [Nat.add_zero] at c0
        have HBY := Lib.hid (fun (w' : World) (q : Keeps w w') => BytesAt.keep hby q)
        have HA := Lib.hid hall
        clear h3 hc hby hall hp hI
        by_cases hpq : pn = q.page
        · have q1 : (pn == q.page) = true := by rw [beq_iff_eq]; exact hpq
          have q2 : (pn != q.page) = false := by rw [bne_eq_false_iff_eq]; exact hpq
          have HF := Lib.hid (hT.out q1)
          clear hpq
          go_wp2_with fail
          go_quiet (fail)
          go_wp2_with fail
          refine (vals_good pb ba bc _ HA (HBY.out _ (keeps_drewN HKP.out _)) hle hbc hbc3).mono ?_
          rintro e w2 ⟨oa, oc, xa, xc, rfl, hO, hX, hb5⟩
          have hbz : Below w.heap.size w w2 := (below_drewN hbw (nd + nq)).trans (hb5.mono hbw.size)
          have f1 := (hb5.cell (p := ⟨w.heap.size + 1, 1, none⟩) (cell_lt e1)).trans e1
          have HO := Lib.hid hO
          have HX := Lib.hid hX
          have hlr := recs_length pb 0
          clear hb5 hO hX hbw d2 e0 e1 c0 c1 q1 q2
          go_wp2_with fail
          go_loopg [10] (recs pb 0).length (fun g i wr => ∃ j : Nat, g + j = (recs pb 0).length ∧ i = .int .i64 j ∧ (∃ n, wr = w2.drewN n) ∧ Hid ((recs pb 0).find? (hitB q.off) = ((recs pb 0).drop j).find? (hitB q.off)))
          case atStart => exact ⟨0, rfl, rfl, ⟨0, rfl⟩, rfl⟩
          case round =>
            obtain ⟨j, hj, rfl, ⟨ne, rfl⟩, hfd⟩ := hrel
            by_cases hjl : j < (recs pb 0).length
            · obtain ⟨ob, oo, rfl, hco⟩ := cellsAt_pos HO.out (by simp [valCells]; omega)
              obtain ⟨xb, xo, rfl, hcx⟩ := cellsAt_pos HX.out (by simp [atCells]; omega)
              obtain ⟨r, hr⟩ : ∃ r, r = (recs pb 0)[j] := ⟨_, rfl⟩
              have x0 : w2.cell? ⟨xb, xo + j, none⟩ = some (.int .i64 (r.1 : Nat)) := hcx j _ (by simp [atCells, hr, hjl])
              have o0 : w2.cell? ⟨ob, oo + j, none⟩ = some (.string ⟨r.2.toArray⟩) := hco j _ (by simp [valCells, strV, hr, hjl])
              have hdr : Hid (((recs pb 0).drop j).find? (hitB q.off) = if hitB q.off r then some r else ((recs pb 0).drop (j + 1)).find? (hitB q.off)) := by
                show _ = _
                rw [List.drop_eq_getElem_cons hjl, List.find?_cons, ← hr]
                cases hitB q.off r <;> rfl
              obtain ⟨rp, rv⟩ := r
              simp only at x0 o0 hdr
              clear hco hcx hr
              by_cases heq : (rp : Int) = q.off
              · have q1 : ((rp : Int) == q.off) = true := by rw [beq_iff_eq]; exact heq
                have HV : Hid (f.read q = (rv, 0)) := read_hit HC.out HF.out (by
                  rw [findRec_recs]
                  show ((recs pb 0).find? (hitB q.off)).map (·.2) = some rv
                  rw [hfd.out, hdr.out, if_pos (by show decide _ = true; rw [decide_eq_true heq])]; rfl)
                clear heq
                go_wp2_with fail
                go_quiet (fail)
                go_wp2_with fail
                go_ret2
                exact readEnd HV.out (below_drewN hbz _)
              · have q1 : ((rp : Int) == q.off) = false := by rw [beq_eq_false_iff_ne]; exact heq
                have HV : Hid ((recs pb 0).find? (hitB q.off) = ((recs pb 0).drop (j + 1)).find? (hitB q.off)) := by
                  show _ = _
                  rw [hfd.out, hdr.out, if_neg (by show ¬ decide _ = true; rw [decide_eq_true_eq]; exact heq)]
                clear heq
                go_wp2_with fail
                go_quiet (fail)
                go_wp2_with fail
                go_roundg (gk - 1)
                case measure => omega
                case rel => exact ⟨j + 1, by omega, by go_num, ⟨_, rfl⟩, HV⟩
            · have HV : Hid (f.read q = ([], 2)) := read_miss HC.out HF.out (by
                rw [findRec_recs]
                show ((recs pb 0).find? (hitB q.off)).map (·.2) = none
                rw [hfd.out, List.drop_of_length_le (by omega)]; rfl)
              go_wp2_with fail
              go_ret2
              exact readEnd HV.out (below_drewN hbz _)
        · have q1 : (pn == q.page) = false := by rw [beq_eq_false_iff_ne]; exact hpq
          have q2 : (pn != q.page) = true := by rw [bne_iff_ne]; exact hpq
          have HF := Lib.hid (hS.out q1)
          clear hpq
          go_wp2_with fail
          go_quiet (fail)
          go_wp2_with fail
          go_roundg (gk - 1)
          case measure => omega
          case rel => exact ⟨k + 1, by omega, by go_num, ⟨_, rfl⟩, HF.out⟩
      · have HV : Hid (f.read q = ([], 6)) := read_none HC.out (by have h := hf.out; rw [List.drop_of_length_le (by omega)] at h; exact h)
        go_wp2_with fail
        go_ret2
        exact readEnd HV.out (below_drewN hbw _)
end Go.Proofs.YtbipegbgfdpaeaaDoor.D
