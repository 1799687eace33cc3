/-
  Contract: ref.FlashMay tells whether flash may be.
-/
import Derived.Test.YtbipegbgfdpaeaaDoorCVals
import Derived.Test.YtbipegbgfdpaeaaDoorCCheck
import Derived.Test.YtbipegbgfdpaeaaDoorCKey
namespace Go.Proofs.YtbipegbgfdpaeaaDoor.D
open Go.RowKit

theorem in_yes (n lo hi : Int) (w : World) (h : lo ≤ n ∧ n ≤ hi) : Calls Tryd.prog 25 #[.int .i64 n, .int .i64 lo, .int .i64 hi] w fun e w' => e = .returned (.bool true) ∧ w = w' := by
  have := ref_In n lo hi w
  rwa [decide_eq_true h] at this
theorem in_no (n lo hi : Int) (w : World) (h : ¬ (lo ≤ n ∧ n ≤ hi)) : Calls Tryd.prog 25 #[.int .i64 n, .int .i64 lo, .int .i64 hi] w fun e w' => e = .returned (.bool false) ∧ w = w' := by
  have := ref_In n lo hi w
  rwa [decide_eq_false h] at this
def MayEnd (f : Flash) (w : World) (e : Ending) (w' : World) : Prop := e = .returned (.bool f.ok) ∧ Below w.heap.size w w'
theorem may_head {f : Flash} (h : ¬ (0 ≤ f.most ∧ f.most ≤ 20 ∧ (f.pages.length : Int) ≤ f.most ∧ 1 ≤ f.next ∧ f.next ≤ 1099511627776)) : f.ok = false := by
  have : decide (0 ≤ f.most ∧ f.most ≤ 20 ∧ (f.pages.length : Int) ≤ f.most ∧ 1 ≤ f.next ∧ f.next ≤ maxN) = false := by
    rw [decide_eq_false_iff_not]; exact h
  unfold Flash.ok; rw [this]; rfl
theorem may_pages {f : Flash} (h : 0 ≤ f.most ∧ f.most ≤ 20 ∧ (f.pages.length : Int) ≤ f.most ∧ 1 ≤ f.next ∧ f.next ≤ 1099511627776) : f.ok = pagesOK f.pages (f.next - f.pages.length) := by
  have : decide (0 ≤ f.most ∧ f.most ≤ 20 ∧ (f.pages.length : Int) ≤ f.most ∧ 1 ≤ f.next ∧ f.next ≤ maxN) = true := by
    rw [decide_eq_true_eq]; exact h
  unfold Flash.ok; rw [this, Bool.true_and]
def ValsB (t : Bool) (w : World) (e : Ending) (w' : World) : Prop := ∃ o a, e = .returned (.tuple #[o, a, .bool t]) ∧ Below w.heap.size w w'
theorem vals_b (t : Bool) (b : Str) (a : Option Addr) (c : Nat) (w : World) (ht : Hid (allRec b 0 = t)) (h : BytesAt w a b) (hl : b.length ≤ 256) (hc : b.length ≤ c) (hcc : c ≤ 9223372036854775807) :
    Calls Tryd.prog 60 #[.slice a b.length c] w (ValsB t w) := by
  refine (ref_valuesIn b a c w h hl hc hcc).mono ?_
  rintro e w' ⟨o, q, rfl, _, hb⟩
  exact ⟨o, q, by rw [ht.out], hb⟩

set_option maxHeartbeats 1000000 in
theorem ref_FlashMay (f : Flash) (a : Option Addr) (c : Nat) (w : World) (h : RowsAt w a 2 (PageR w) f.pages) (hc : f.pages.length ≤ 9223372036854775807) :
    Calls Tryd.prog 32 #[.agg #[.int .i64 f.most, .int .i64 f.next, .slice a f.pages.length c]] w (MayEnd f w) := by
  by_cases hh : 0 ≤ f.most ∧ f.most ≤ 20 ∧ (f.pages.length : Int) ≤ f.most ∧ 1 ≤ f.next ∧ f.next ≤ 1099511627776
  · have HC := Lib.hid (may_pages hh)
    obtain ⟨m0, m1, m2, m3, m4⟩ := hh
    have HR := Lib.hid h
    clear h
    go_enter Tryd.func32, Tryd.ntmps32
    go_wp2_with fail
    refine (in_yes _ _ _ _ ⟨m0, m1⟩).mono ?_
    rintro e w' ⟨rfl, rfl⟩
    go_wp2_with fail
    refine (in_yes _ _ _ _ ⟨m3, m4⟩).mono ?_
    rintro e w' ⟨rfl, rfl⟩
    go_wp2_with fail
    go_loopw [3] (fun i wr => ∃ k : Nat, k ≤ f.pages.length ∧ i = .int .i64 k ∧ Below w.heap.size w wr ∧ wr.cell? ⟨w.heap.size, 1, none⟩ = some (.int .i64 f.next) ∧ wr.cell? ⟨w.heap.size, 2, none⟩ = some (.slice a f.pages.length c) ∧
      Hid (pagesOK f.pages (f.next - f.pages.length) = pagesOK (f.pages.drop k) (f.next - f.pages.length + k))) (fun i _ => f.pages.length - (intOf i).toNat)
    case atStart => exact ⟨0, Nat.zero_le _, rfl, by go_grown, by go_simp, by go_simp, by show _ = _; simp⟩
    case round =>
      obtain ⟨k, hk, rfl, hbl, hn, hsl, HP⟩ := hrel
      by_cases hlt : k < f.pages.length
      · obtain ⟨b, o, rfl, hc⟩ := HR.out.pos (by omega)
        obtain ⟨cs, _, ⟨hI, ba, bc, hcs, hby, hb1, hb2, hb3⟩, h3⟩ := hc k hlt
        obtain ⟨⟨pn, pb⟩, hp⟩ : ∃ p, p = f.pages[k] := ⟨_, rfl⟩
        rw [← hp] at hcs hby hb1 hb2 hI
        simp only at hcs hby hb1 hb2 hI
        subst hcs
        have hkp := Below.keeps hbl
        have c0 := hkp _ _ (h3 0 _ rfl)
        have c1 := hkp _ _ (h3 1 _ rfl)
        rw [Nat.add_zero] at c0
        have HBY := Lib.hid (fun (w' : World) (q : Keeps w w') => BytesAt.keep hby q)
        have HKP := Lib.hid hkp
        clear hby hkp h3 hc
        have hz1 := cell_lt hn
        by_cases g2 : 1 ≤ pn
        · by_cases g1 : pn = f.next - f.pages.length + k
          · have q1 : (pn == f.next + (k : Int) - (f.pages.length : Int)) = true := by rw [beq_iff_eq]; omega
            have q2 : (pn != f.next + (k : Int) - (f.pages.length : Int)) = false := by rw [bne_eq_false_iff_eq]; omega
            have G1 := Lib.hid g1
            by_cases g4 : 1 ≤ pb.length ∧ pb.length ≤ 256
            · have HS := Lib.hid (fun h5 => pages_step hlt hp.symm HP.out G1.out g2 g4.1 g4.2 h5)
              have HB := Lib.hid (fun h5 => pages_bad hlt hp.symm HP.out (.inr h5))
              obtain ⟨g4, g5⟩ := g4
              clear hp g1
              go_wp2_with fail
              refine (in_yes _ _ _ _ ⟨by omega, by omega⟩).mono ?_
              rintro e w' ⟨rfl, rfl⟩
              cases ht : allRec pb 0
              · have HT := Lib.hid ht
                clear ht
                go_wp2_with fail
                refine (vals_b false pb ba bc _ HT (HBY.out _ (Keeps.trans HKP.out (Below.keeps (by go_grown)))) g5 hb2 hb3).mono ?_
                rintro e w2 ⟨x, q, rfl, hb5⟩
                go_wp2_with fail
                go_ret
                exact ⟨ret_bool (by rw [HC.out, HB.out HT.out]), (hbl.alloc hbl.size _).trans (hb5.mono (by have := hbl.size; go_size))⟩
              · have HT := Lib.hid ht
                clear ht
                go_wp2_with fail
                refine (vals_b true pb ba bc _ HT (HBY.out _ (Keeps.trans HKP.out (Below.keeps (by go_grown)))) g5 hb2 hb3).mono ?_
                rintro e w2 ⟨x, q, rfl, hb5⟩
                have hb6 := (hbl.alloc hbl.size _).trans (hb5.mono (by have := hbl.size; go_size))
                have r1 : w2.cell? ⟨w.heap.size, 1, none⟩ = some (.int .i64 f.next) := (hb5.cell (p := ⟨w.heap.size, 1, none⟩) (by go_size)).trans (by go_simp)
                have r2 : w2.cell? ⟨w.heap.size, 2, none⟩ = some (.slice (some ⟨b, o, none⟩) f.pages.length c) := (hb5.cell (p := ⟨w.heap.size, 2, none⟩) (by go_size)).trans (by go_simp)
                clear hb5
                go_wp2_with fail
                go_roundw
                case rel => exact ⟨k + 1, by omega, by go_num, hb6, r1, r2, HS.out HT.out⟩
                case measure => simp [intOf]; omega
            · have HB := Lib.hid (pages_bad hlt hp.symm HP.out (.inl (by omega)))
              clear hp g1
              go_wp2_with fail
              refine (in_no _ _ _ _ (by omega)).mono ?_
              rintro e w' ⟨rfl, rfl⟩
              go_wp2_with fail
              go_ret
              exact ⟨ret_bool (by rw [HC.out, HB.out]), hbl.alloc hbl.size _⟩
          · have q1 : (pn == f.next + (k : Int) - (f.pages.length : Int)) = false := by rw [beq_eq_false_iff_ne]; omega
            have q2 : (pn != f.next + (k : Int) - (f.pages.length : Int)) = true := by rw [bne_iff_ne]; omega
            have HB := Lib.hid (pages_bad hlt hp.symm HP.out (.inl (by omega)))
            clear hp g1
            go_wp2_with fail
            go_ret
            exact ⟨ret_bool (by rw [HC.out, HB.out]), hbl.alloc hbl.size _⟩
        · have HB := Lib.hid (pages_bad hlt hp.symm HP.out (.inl (by omega)))
          have g3 : pn < 1 := by omega
          clear hp g2
          go_wp2_with fail
          go_ret
          exact ⟨ret_bool (by rw [HC.out, HB.out]), hbl.alloc hbl.size _⟩
      · have HB : Hid (pagesOK f.pages (f.next - f.pages.length) = true) := by
          have h := HP.out
          rw [List.drop_of_length_le (by omega)] at h
          exact h
        go_wp2_with fail
        go_ret
        exact ⟨ret_bool (by rw [HC.out, HB.out]), hbl⟩
  · have HC := Lib.hid (may_head hh)
    clear h
    by_cases h0 : 0 ≤ f.most ∧ f.most ≤ 20
    · by_cases h1 : f.most < (f.pages.length : Int)
      · obtain ⟨m0, m1⟩ := h0
        go_enter Tryd.func32, Tryd.ntmps32
        go_wp2_with fail
        refine (in_yes _ _ _ _ ⟨m0, m1⟩).mono ?_
        rintro e w' ⟨rfl, rfl⟩
        go_wp2_with fail
        go_ret
        exact ⟨ret_bool HC.out.symm, by go_grown⟩
      · have h2 : ¬ (1 ≤ f.next ∧ f.next ≤ 1099511627776) := by omega
        have h3 : (f.pages.length : Int) ≤ f.most := by omega
        have H2 := Lib.hid h2
        obtain ⟨m0, m1⟩ := h0
        clear h1 h2 hh
        go_enter Tryd.func32, Tryd.ntmps32
        go_wp2_with fail
        refine (in_yes _ _ _ _ ⟨m0, m1⟩).mono ?_
        rintro e w' ⟨rfl, rfl⟩
        go_wp2_with fail
        refine (in_no _ _ _ _ H2.out).mono ?_
        rintro e w' ⟨rfl, rfl⟩
        go_wp2_with fail
        go_ret
        exact ⟨ret_bool HC.out.symm, by go_grown⟩
    · have H2 := Lib.hid h0
      clear h0 hh
      go_enter Tryd.func32, Tryd.ntmps32
      go_wp2_with fail
      refine (in_no _ _ _ _ H2.out).mono ?_
      rintro e w' ⟨rfl, rfl⟩
      go_wp2_with fail
      go_ret
      exact ⟨ret_bool HC.out.symm, by go_grown⟩
end Go.Proofs.YtbipegbgfdpaeaaDoor.D
