/-
  Contract: keep.flashed: flash, and a map that reads as what is there.
-/
import Derived.Test.YtjhfomihlobjgaaCMapIs
import Derived.Test.YtjhfomihlobjgaaCPick
import Derived.Deep.LoopGhost
namespace Go.Proofs.Ytjhfomihlobjgaa.D
open Go.RowKit Go.Maps
/-- flash in a block, its pages, the map that reads as it -/
structure Kept (w : World) (F M j : Nat) (k : Int) (f : Flash) (wr : World) (va : Option Addr) (vc : Nat) (vs : List Value) (D : DataW Unit) : Prop where
  ok : f.ok = true
  most : f.most = k
  next : f.next ≤ (j : Int) + 1
  row : wr.heap[F]? = some (.cells #[.int .i64 f.most, .int .i64 f.next, .slice va f.pages.length vc] 28 (0, 0))
  pages : PagesOwn (M + 1) wr (.slice va f.pages.length vc) f.pages vs
  map : wr.ownsMap Try.prog 55 (plainElem Try.prog 9) M j D
  is : MapIs D f.rd
  below : Below w.heap.size w wr
theorem Kept.on {w wr w' : World} {F M j : Nat} {k : Int} {f : Flash} {va : Option Addr} {vc : Nat} {vs : List Value} {D : DataW Unit} (h : Kept w F M j k f wr va vc vs D) (hb : Below wr.heap.size wr w') : Kept w F M j k f w' va vc vs D :=
  ⟨h.ok, h.most, h.next, (hb.block F (Array.getElem?_eq_some_iff.1 h.row).1).trans h.row, PagesMid.kept h.pages (fun k _ hk => hb.block k hk), h.map.kept (row := none) ⟨hb.os, hb.tape, hb.output, hb.size, fun k hk _ => hb.block k hk⟩ (by simp), h.is, h.below.trans (hb.mono h.below.size)⟩
theorem row3 {w : World} {F T : Nat} {a b c : Value} (h : w.heap[F]? = some (.cells #[a, b, c] T (0, 0))) (x y z : Value) : (((w.setCell ⟨F, 0, none⟩ x).setCell ⟨F, 1, none⟩ y).setCell ⟨F, 2, none⟩ z).heap[F]? = some (.cells #[x, y, z] T (0, 0)) := by
  simp [World.setCell, Array.getElem?_modify, h]
theorem kept_new {w w6 : World} {F M j : Nat} {k : Int} {f g : Flash} {s : Str} {p : Place} {gone : Int} {va va' : Option Addr} {vc vc' : Nat} {vs' : List Value} {D : DataW Unit} (ha : Appended f g s p gone) (hm : f.most = k) (hn : f.next ≤ (j : Int) + 1)
    (hF : w6.heap[F]? = some (.cells #[.int .i64 f.most, .int .i64 f.next, .slice va f.pages.length vc] 28 (0, 0))) (hp : PagesOwn (M + 1) w6 (.slice va' g.pages.length vc') g.pages vs') (hM : w6.ownsMap Try.prog 55 (plainElem Try.prog 9) M (j + 1) D)
    (hI : MapIs D g.rd) (hb : Below w.heap.size w w6) (h1 : w.heap.size ≤ F) (h2 : F < M) :
    Kept w F M (j + 1) k g (((w6.setCell ⟨F, 0, none⟩ (.int .i64 g.most)).setCell ⟨F, 1, none⟩ (.int .i64 g.next)).setCell ⟨F, 2, none⟩ (.slice va' g.pages.length vc')) va' vc' vs' D := by
  have hp2 := ((hp.setCell_below (a := ⟨F, 0, none⟩) (by show F < M + 1; omega) (.int .i64 g.most)).setCell_below (a := ⟨F, 1, none⟩) (by show F < M + 1; omega) (.int .i64 g.next)).setCell_below (a := ⟨F, 2, none⟩) (by show F < M + 1; omega) (.slice va' g.pages.length vc')
  refine ⟨ha.ok, ha.most.trans hm, by have := ha.next; omega, ?_, hp2.world, ?_, hI, ?_⟩
  · exact row3 hF _ _ _
  · exact ((hM.setCell (a := ⟨F, 0, none⟩) (by show M ≠ F; omega) _).setCell (a := ⟨F, 1, none⟩) (by show M ≠ F; omega) _).setCell (a := ⟨F, 2, none⟩) (by show M ≠ F; omega) _
  · exact ((hb.setCell (p := ⟨F, 0, none⟩) h1 _).setCell (p := ⟨F, 1, none⟩) h1 _).setCell (p := ⟨F, 2, none⟩) h1 _
theorem zrow_new {w w6 : World} {F : Nat} {a b c : Value} {o : Obj} (h : w6.heap[w.heap.size]? = some o) (hF : w.heap.size ≠ F) : (((w6.setCell ⟨F, 0, none⟩ a).setCell ⟨F, 1, none⟩ b).setCell ⟨F, 2, none⟩ c).heap[w.heap.size]? = some o := by
  rw [Below.heap_setCell _ ⟨F, 2, none⟩ c _ hF, Below.heap_setCell _ ⟨F, 1, none⟩ b _ hF, Below.heap_setCell _ ⟨F, 0, none⟩ a _ hF]
  exact h
theorem ok_new {k : Int} (h : 0 ≤ k ∧ k ≤ 5) : (⟨k, 1, []⟩ : Flash).ok = true := ok_mk ⟨h.1, by simp only; omega, by simp; omega, by simp only; omega, by simp only; decide⟩ rfl
def FlashedEnd (w : World) (k : Int) (e : Ending) (w' : World) : Prop := ∃ (f : Flash) (va : Option Addr) (vc M : Nat) (D : DataW Unit),
  e = .returned (.tuple #[.agg #[.int .i64 f.most, .int .i64 f.next, .slice va f.pages.length vc], .map (some M), .bool true]) ∧ f.ok = true ∧ f.most = k ∧ RowsAt w' va 2 (PageR w') f.pages ∧ w'.ownsMap Try.prog 55 (plainElem Try.prog 9) M 40 D ∧ MapIs D f.rd ∧ Below w.heap.size w w'
theorem flashed_end {w wr : World} {F M j : Nat} {k : Int} {f : Flash} {va : Option Addr} {vc : Nat} {vs : List Value} {D : DataW Unit} (h : Kept w F M j k f wr va vc vs D)
    (h1 : w.heap.size < F) (h2 : F < M) (hj : j ≤ 40) :
    FlashedEnd w k (.returned (.tuple #[.agg #[.int .i64 f.most, .int .i64 f.next, .slice va f.pages.length vc], .map (some M), .bool true]))
      (((wr.setCell ⟨w.heap.size, 0, none⟩ (.int .i64 f.most)).setCell ⟨w.heap.size, 1, none⟩ (.int .i64 f.next)).setCell ⟨w.heap.size, 2, none⟩ (.slice va f.pages.length vc)) := by
  have hp := ((h.pages.setCell_below (a := ⟨w.heap.size, 0, none⟩) (by show w.heap.size < M + 1; omega) (.int .i64 f.most)).setCell_below (a := ⟨w.heap.size, 1, none⟩) (by show w.heap.size < M + 1; omega) (.int .i64 f.next)).setCell_below (a := ⟨w.heap.size, 2, none⟩) (by show w.heap.size < M + 1; omega) (.slice va f.pages.length vc)
  refine ⟨f, va, vc, M, D, rfl, h.ok, h.most, PagesMid.rows hp (ok_pageB h.ok), ?_, h.is, ?_⟩
  · exact (((h.map.setCell (a := ⟨w.heap.size, 0, none⟩) (by show M ≠ w.heap.size; omega) _).setCell (a := ⟨w.heap.size, 1, none⟩) (by show M ≠ w.heap.size; omega) _).setCell (a := ⟨w.heap.size, 2, none⟩) (by show M ≠ w.heap.size; omega) _).mono hj
  · exact ((h.below.setCell (p := ⟨w.heap.size, 0, none⟩) (Nat.le_refl _) _).setCell (p := ⟨w.heap.size, 1, none⟩) (Nat.le_refl _) _).setCell (p := ⟨w.heap.size, 2, none⟩) (Nat.le_refl _) _
set_option maxRecDepth 100000 in
set_option maxHeartbeats 2000000 in
theorem flashed_is (l : List (Int × Int × Int × Int)) (n : Nat) (hn : Hid (n = l.length)) (a : Option Addr) (c : Nat) (k : Int) (hk : 0 ≤ k ∧ k ≤ 5) (w : World) (h : RowsAt w a 4 rawR l) :
    Calls Try.prog 34 #[.slice a n c, .int .i64 k] w (FlashedEnd w k) := by
  have HR := Lib.hid h
  clear h
  have hmm := @run_makeMap Try.prog
  have hnf := flash_New k
  rw [newF_good hk.1 (by omega)] at hnf
  have HNF := Lib.hid hnf
  clear hnf
  go_enter Try.func34, Try.ntmps34
  go_wp2_with fail
  refine (HNF.out _).mono ?_
  rintro e w1 ⟨rfl, hb1⟩
  go_wp2_with fail
  have hz1 : w.heap.size + 1 ≤ w1.heap.size := by have := hb1.size; simp at this; omega
  have hrow0 : w1.heap[w.heap.size]? = some (.cells #[.int .i64 0, .int .i64 0, .slice none 0 0] 28 (0, 0)) := (hb1.block w.heap.size (by simp)).trans (blk_new w _)
  have HBW1 := Lib.hid (show Below w.heap.size w w1 from Below.trans (by go_grown) (hb1.mono (by simp)))
  obtain ⟨W2, hW2⟩ : ∃ W2, W2 = (w1.alloc (.cells #[.int .i64 k, .int .i64 1, .slice none 0 0] 28)).alloc (.map #[] 0) := ⟨_, rfl⟩
  have HB2 := Lib.hid (show Below w.heap.size w W2 by rw [hW2]; exact (HBW1.out.alloc HBW1.out.size _).alloc (by simp; omega) _)
  have hz2 : w1.heap.size + 2 = W2.heap.size := by rw [hW2]; simp
  have HK : Hid (Kept w w1.heap.size (w1.heap.size + 1) 0 k ⟨k, 1, []⟩ W2 none 0 [] (.map [])) := by
    refine ⟨ok_new hk, rfl, by simp, ?_, pages_nil _ _, ?_, MapIs.nil.cong (fun q _ _ => rfl), HB2.out⟩
    · rw [hW2]
      show ((w1.heap.push _).push _)[w1.heap.size]? = _
      simp [Array.getElem?_push]
    · rw [hW2]
      have := World.ownsMap_made (H := Unit) (w1.alloc (.cells #[.int .i64 k, .int .i64 1, .slice none 0 0] 28)) Try.prog 55 (plainElem Try.prog 9)
      rwa [show (w1.alloc (.cells #[.int .i64 k, .int .i64 1, .slice none 0 0] 28)).heap.size = w1.heap.size + 1 by simp] at this
  have HR0 : Hid (W2.heap[w.heap.size]? = some (.cells #[.int .i64 0, .int .i64 0, .slice none 0 0] 28 (0, 0))) := by
    show _ = _
    rw [hW2, Below.heap_alloc _ _ _ (by simp; omega), Below.heap_alloc _ _ _ (by omega)]
    exact hrow0
  rw [← hW2]
  clear hW2 hb1 hrow0 HNF HBW1
  obtain ⟨M, hM⟩ : ∃ M, M = w1.heap.size + 1 := ⟨_, rfl⟩
  obtain ⟨F, hF⟩ : ∃ F, F = w1.heap.size := ⟨_, rfl⟩
  rw [← hM, ← hF] at HK ⊢
  have hFM : F < M := by omega
  have hwF : w.heap.size < F := by omega
  clear hM hF hz1 hz2
  go_loopw [10] (fun i wr => ∃ (j : Nat) (f : Flash) (va : Option Addr) (vc : Nat) (vs : List Value) (D : DataW Unit), j ≤ n ∧ j ≤ 40 ∧ i = .int .i64 j ∧ Hid (Kept w F M j k f wr va vc vs D) ∧ Hid (wr.heap[w.heap.size]? = some (.cells #[.int .i64 0, .int .i64 0, .slice none 0 0] 28 (0, 0)))) (fun i _ => n - (intOf i).toNat)
  case atStart => exact ⟨0, _, none, 0, [], _, Nat.zero_le _, by omega, rfl, HK, HR0⟩
  case round =>
    obtain ⟨j, f, va, vc, vs, D, hj, hj40, rfl, HKP, HRZ⟩ := hrel
    clear HK HR0 HB2
    have c0 : wr.cell? ⟨F, 0, none⟩ = some (.int .i64 f.most) := by rw [cell_of_row wr _ _ _ _ _ HKP.out.row]; rfl
    have c1 : wr.cell? ⟨F, 1, none⟩ = some (.int .i64 f.next) := by rw [cell_of_row wr _ _ _ _ _ HKP.out.row]; rfl
    have c2 : wr.cell? ⟨F, 2, none⟩ = some (.slice va f.pages.length vc) := by rw [cell_of_row wr _ _ _ _ _ HKP.out.row]; rfl
    have r0 : wr.cell? ⟨w.heap.size, 0, none⟩ = some (.int .i64 0) := by rw [cell_of_row wr _ _ _ _ _ HRZ.out]; rfl
    have r1 : wr.cell? ⟨w.heap.size, 1, none⟩ = some (.int .i64 0) := by rw [cell_of_row wr _ _ _ _ _ HRZ.out]; rfl
    have r2 : wr.cell? ⟨w.heap.size, 2, none⟩ = some (.slice none 0 0) := by rw [cell_of_row wr _ _ _ _ _ HRZ.out]; rfl
    have zf : ∀ i, wr.frozen? ⟨w.heap.size, i, none⟩ = false := fun i => frozen_of_row wr _ _ _ _ HRZ.out
    have ff : ∀ i, wr.frozen? ⟨F, i, none⟩ = false := fun i => frozen_of_row wr _ _ _ _ HKP.out.row
    have hz0 : w.heap.size < wr.heap.size := cell_lt r0
    have hzF : F < wr.heap.size := cell_lt c0
    by_cases hlt : j < n ∧ j < 40
    rotate_left
    ·
      by_cases hl1 : j < n
      · have hl2 : ¬ (j : Int) < 40 := by omega
        go_wp2_with fail
        refine bodyPost_ret (v := .tuple #[.agg #[.int .i64 f.most, .int .i64 f.next, .slice va f.pages.length vc], .map (some M), .bool true]) ?_ rfl (flashed_end HKP.out hwF hFM hj40)
        simp [results, Try.results34, go_sem, r0, r1, r2]
      · go_wp2_with fail
        refine bodyPost_ret (v := .tuple #[.agg #[.int .i64 f.most, .int .i64 f.next, .slice va f.pages.length vc], .map (some M), .bool true]) ?_ rfl (flashed_end HKP.out hwF hFM hj40)
        simp [results, Try.results34, go_sem, r0, r1, r2]
    ·
      obtain ⟨hl1, hl2⟩ := hlt
      have hl3 : (j : Int) < 40 := by omega
      have hl4 : j < l.length := by rw [← hn.out]; exact hl1
      obtain ⟨b, o, rfl, hc⟩ := HR.out.pos (by omega)
      obtain ⟨cs, _, ⟨hcs, i0, i1, i2, i3⟩, h3⟩ := hc j hl4
      obtain ⟨⟨ra, rb, rc, rd⟩, hr⟩ : ∃ r, r = l[j] := ⟨_, rfl⟩
      rw [← hr] at hcs i0 i1 i2 i3
      simp only at hcs i0 i1 i2 i3
      subst hcs
      have d3 := Below.keeps HKP.out.below _ _ (h3 3 _ rfl)
      clear hr h3 hc hl4 i0 i1 i2
      go_wp2_with fail
      refine (value_is rd i3.1 i3.2 _).mono ?_
      rintro e w2 ⟨s0, rfl, hs0, hb2⟩
      have HB20 := Lib.hid hb2
      clear hb2
      go_upto_if 43 with (fail)
      go_cut [11] (fun v wx => ∃ s : ByteArray, v = .string s ∧ s.size ≤ 200 ∧ wx = w2)
      case first =>
        by_cases h200 : s0.size ≤ 200
        · have h201 : (s0.size : Int) ≤ 200 := by omega
          go_wp2_with fail
          go_meet
          exact ⟨s0, rfl, h200, rfl⟩
        · have h201 : (200 : Int) < s0.size := by omega
          go_wp2_with fail
          go_meet
          exact ⟨s0.extract 0 200, rfl, by rw [ByteArray.size_extract]; omega, rfl⟩
      case rest =>
        obtain ⟨s, rfl, hs, rfl⟩ := hcut
        have HB2 := Lib.hid HB20.out
        clear HB20
        have e0 := (HB2.out.cell (p := ⟨F, 0, none⟩) hzF).trans c0
        have e1 := (HB2.out.cell (p := ⟨F, 1, none⟩) hzF).trans c1
        have e2 := (HB2.out.cell (p := ⟨F, 2, none⟩) hzF).trans c2
        have HPG := Lib.hid (PagesMid.kept HKP.out.pages (fun k _ hk => HB2.out.block k hk))
        obtain ⟨m, hm⟩ : ∃ m, m = f.most := ⟨_, rfl⟩
        obtain ⟨nx, hnx⟩ : ∃ nx, nx = f.next := ⟨_, rfl⟩
        obtain ⟨ln, hln⟩ : ∃ ln, ln = f.pages.length := ⟨_, rfl⟩
        rw [← hm] at e0 c0
        rw [← hnx] at e1 c1
        rw [← hln] at e2 c2
        have HM := Lib.hid hm
        have HNX := Lib.hid hnx
        have HLN := Lib.hid hln
        have hmk : m = k := by rw [hm]; exact HKP.out.most
        have HMK := Lib.hid hmk
        clear hm hnx hln hmk
        by_cases hk0 : k = 0
        ·
          subst hk0
          have HA := Lib.hid (append_full (s := bl s) HKP.out.ok (by rw [bl_length]; omega) (.inl (by rw [← HM.out]; exact HMK.out)))
          go_wp2_with fail
          refine (app_no f s 7 HA m nx ln HM HNX HLN va vc _ (PagesMid.rows HPG.out (ok_pageB HKP.out.ok))).mono ?_
          rintro e w3 ⟨xa, xc, rfl, hb3⟩
          have HB3 := Lib.hid (HB2.out.trans (hb3.mono HB2.out.size))
          clear c0 c1 c2 e0 e1 e2
          go_upto_region 10 with (fail)
          obtain ⟨w4, hw4⟩ : ∃ w4, w4 = (w3.alloc (.cells #[.int .i64 0, .int .i64 0, .slice xa 0 xc] 28)).alloc (.cells #[.int .i64 0, .int .i64 0] 55) := ⟨_, rfl⟩
          have HB4 := Lib.hid (HB3.out.trans (show Below wr.heap.size w3 w4 by rw [hw4]; have := HB3.out.size; exact ((Below.refl _ _).alloc (by omega) _).alloc (by simp; omega) _))
          rw [← hw4]
          clear hw4 hb3
          have c0 : w4.cell? ⟨F, 0, none⟩ = some (.int .i64 f.most) := (HB4.out.cell (p := ⟨F, 0, none⟩) hzF).trans (by rw [cell_of_row wr _ _ _ _ _ HKP.out.row]; rfl)
          have c1 : w4.cell? ⟨F, 1, none⟩ = some (.int .i64 f.next) := (HB4.out.cell (p := ⟨F, 1, none⟩) hzF).trans (by rw [cell_of_row wr _ _ _ _ _ HKP.out.row]; rfl)
          have c2 : w4.cell? ⟨F, 2, none⟩ = some (.slice va f.pages.length vc) := (HB4.out.cell (p := ⟨F, 2, none⟩) hzF).trans (by rw [cell_of_row wr _ _ _ _ _ HKP.out.row]; rfl)
          have s0' : w4.cell? ⟨w.heap.size, 0, none⟩ = some (.int .i64 0) := (HB4.out.cell (p := ⟨w.heap.size, 0, none⟩) hz0).trans r0
          have s1' : w4.cell? ⟨w.heap.size, 1, none⟩ = some (.int .i64 0) := (HB4.out.cell (p := ⟨w.heap.size, 1, none⟩) hz0).trans r1
          have s2' : w4.cell? ⟨w.heap.size, 2, none⟩ = some (.slice none 0 0) := (HB4.out.cell (p := ⟨w.heap.size, 2, none⟩) hz0).trans r2
          have zf' : ∀ i, w4.frozen? ⟨w.heap.size, i, none⟩ = false := fun i => (HB4.out.frozen (p := ⟨w.heap.size, i, none⟩) hz0).trans (zf i)
          have HK4 := Lib.hid (HKP.out.on HB4.out)
          clear r0 r1 r2 zf ff
          go_wp2_with fail
          refine bodyPost_ret (v := .tuple #[.agg #[.int .i64 f.most, .int .i64 f.next, .slice va f.pages.length vc], .map (some M), .bool true]) ?_ rfl (flashed_end HK4.out hwF hFM hj40)
          simp [results, Try.results34, go_sem, s0', s1', s2']
        ·
          obtain ⟨g, p, gone, hap, HAP⟩ := append_is (s := bl s) HKP.out.ok (by rw [bl_length]; omega) (by rw [← HM.out, HMK.out]; exact hk0) (by have := HKP.out.next; have e : maxN = 1099511627776 := rfl; omega)
          have HA := Lib.hid hap
          have HAPP := Lib.hid HAP
          have HK2 := Lib.hid (HKP.out.on HB2.out)
          clear hap HAP HPG c0 c1 c2
          go_wp2_with fail
          refine (app_is f g s p gone HA m nx ln HM HNX HLN va vc _ (PagesMid.rows HK2.out.pages (ok_pageB HKP.out.ok))).mono ?_
          rintro e w3 ⟨va', vc', vs', rfl, hp3, hb3⟩
          have HK3 := Lib.hid (HK2.out.on hb3)
          have HP3 := Lib.hid hp3
          have hz3 : wc.heap.size ≤ w3.heap.size := hb3.size
          have hzw : wr.heap.size ≤ wc.heap.size := HB2.out.size
          have hMw : M + 1 ≤ wc.heap.size := by have := HKP.out.map.lt; omega
          go_upto_region 10 with (fail)
          obtain ⟨w4, hw4⟩ : ∃ w4, w4 = (w3.alloc (.cells #[.int .i64 g.most, .int .i64 g.next, .slice va' g.pages.length vc'] 28)).alloc (.cells #[.int .i64 p.page, .int .i64 p.off] 55) := ⟨_, rfl⟩
          have hb4 : Below w3.heap.size w3 w4 := by rw [hw4]; go_grown
          have hg4 : w4.heap[w3.heap.size]? = some (.cells #[.int .i64 g.most, .int .i64 g.next, .slice va' g.pages.length vc'] 28 (0, 0)) := by
            rw [hw4, Below.heap_alloc _ _ _ (by simp)]; exact blk_new w3 _
          have hp4 : w4.heap[w3.heap.size + 1]? = some (.cells #[.int .i64 p.page, .int .i64 p.off] 55 (0, 0)) := by
            rw [hw4]
            have := blk_new (w3.alloc (.cells #[.int .i64 g.most, .int .i64 g.next, .slice va' g.pages.length vc'] 28)) (.cells #[.int .i64 p.page, .int .i64 p.off] 55)
            rwa [show (w3.alloc (.cells #[.int .i64 g.most, .int .i64 g.next, .slice va' g.pages.length vc'] 28)).heap.size = w3.heap.size + 1 by simp] at this
          have hz4 : w3.heap.size + 2 = w4.heap.size := by rw [hw4]; simp
          have HK4 := Lib.hid (HK3.out.on hb4)
          have HP4 := Lib.hid (PagesMid.kept HP3.out (fun k _ hk => hb4.block k hk))
          have HRZ4 := Lib.hid ((hb4.block w.heap.size (by omega)).trans ((hb3.block w.heap.size (by omega)).trans ((HB2.out.block w.heap.size hz0).trans HRZ.out)))
          have HG4 := Lib.hid hg4
          have HQ4 := Lib.hid hp4
          rw [← hw4]
          clear hw4 hb4 hg4 hp4 hp3 hb3 e0 e1 e2 r0 r1 r2 zf ff
          obtain ⟨G, hG⟩ : ∃ G, G = w3.heap.size := ⟨_, rfl⟩
          have hFG : F < G := by omega
          have hMG : M < G := by have := HKP.out.map.lt; omega
          rw [← hG] at HG4 HQ4 hz4 ⊢
          clear hG
          have hown := HK4.out.map
          go_upto_block 2 with (first
            | (at_range; refine wpList_range_own _ rfl _ 64 rfl 55 9 placeLaw Try.underlying64 _ M j _ rfl hown ?_; intro w5 hrg5 hg5 hs5))
          go_frame
          go_cut [] (fun wx => ∃ D', wx.ownsMap Try.prog 55 (plainElem Try.prog 9) M j D' ∧ Hid (MapIs D' (fun q => if q.page = gone then none else f.rd q)) ∧ Hid (w4.grownBy wx (some M)))
          case first =>
            go_wp2_with fail
            go_loopw [16] (fun _ wr => ∃ (left : Lit → Bool) (cnt : Nat) (D' : DataW Unit), wr.ranges Try.prog 55 (plainElem Try.prog 9) M w4.heap.size j D' left cnt ∧ Hid (MapIs D' (duringR f gone left)) ∧ Hid (w4.grownBy wr (some M)))
              (fun _ wr => wr.rangeLeft M w4.heap.size)
            case atStart => exact ⟨_, _, _, hrg5, during_start HK4.out.is gone, hg5.but _⟩
            case round =>
              obtain ⟨left, cnt, D', hrg, HDU, HGW⟩ := hrel
              clear hrg5 hg5 hs5 hown
              go_wp2_with (first
                | (at_next; refine wpList_next_ranges _ rfl _ rfl 55 placeLaw (plainElem Try.prog 9) (fun q : Place => Value.agg #[.int .i64 q.page, .int .i64 q.off]) (fun s : ByteArray => Value.string s) (fun v kl h => by obtain ⟨q, hq, _⟩ := key_inv h; exact ⟨q, hq⟩) (fun v y h => plain_string h) M w4.heap.size j _ _ _ rfl hrg ?_ ?_))
              ·
                intro _ hl0
                have HEND := Lib.hid (during_end HDU.out hl0)
                go_wp2_with fail
                go_meet
                exact ⟨_, hrg.owns, HEND.out, HGW.out⟩
              ·
                intro q sv kl yd yp w6 cnt6 hkey hlk hv hat hrg6 hlt6 hg6 hs6 hen
                obtain ⟨q', hq', i1, i2, rfl⟩ := key_inv hkey
                obtain rfl : q = q' := by
                  obtain ⟨a1, a2⟩ := q
                  obtain ⟨b1, b2⟩ := q'
                  simp [placeV] at hq'
                  obtain ⟨rfl, rfl⟩ := hq'
                  rfl
                have HGW6 := Lib.hid (HGW.out.andThen hg6 (fun j hj => by cases hj; exact Or.inl (Nat.le_refl _)))
                clear hkey hlk hv hat hq' hs6 hg6
                obtain ⟨qp, qo⟩ := q
                simp only at hen hrg6 i1 i2
                have hrgA := hrg6.alloc (.cells #[.int .i64 qp, .int .i64 qo] 55)
                have HGWA := Lib.hid (HGW6.out.andThen (World.grownBy_alloc w6 (.cells #[.int .i64 qp, .int .i64 qo] 55) none) (fun j hj => by cases hj))
                by_cases hqg : qp = gone
                · have hqb : (qp == gone) = true := by simp [hqg]
                  have HQG := Lib.hid hqg
                  clear hqg
                  go_wp2_with (first
                    | (at_delete; refine wpList_delete_ranges _ rfl _ _ 64 55 rfl 9 placeLaw Try.underlying64 _ M w4.heap.size j _ _ _ rfl hrgA _ _ rfl (key_is ⟨qp, qo⟩ i1 i2) ?_; intro w7 cnt7 hrg7 hle7 hturn7; go_frame))
                  rw [strike_twice] at hrg7
                  go_roundw
                  case rel => exact ⟨_, cnt7, _, hrg7, during_struck HDU.out ⟨qp, qo⟩ i1 i2 HQG.out, HGWA.out.andThen hturn7.grown (fun j hj => by cases hj; exact Or.inr rfl)⟩
                  case measure => rw [hrg7.left_eq, hrg.left_eq]; omega
                · have hqb : (qp == gone) = false := by simp [hqg]
                  have HQG := Lib.hid hqg
                  clear hqg
                  go_wp2_with fail
                  go_roundw
                  case rel => exact ⟨_, cnt6, _, hrgA, during_stays HDU.out ⟨qp, qo⟩ i1 i2 HQG.out, HGWA.out⟩
                  case measure => rw [hrgA.left_eq, hrg.left_eq]; exact hlt6
          case rest =>
            obtain ⟨D', hown', HMI, HGB⟩ := hcut
            have hcl : ∀ k, k ≠ M → k < w4.heap.size → wc.heap[k]? = w4.heap[k]? := fun k hk hlt => HGB.out.block k hlt (fun e => hk (by cases e; rfl))
            have hgG := (hcl G (by omega) (by omega)).trans HG4.out
            have hgQ := (hcl (G + 1) (by omega) (by omega)).trans HQ4.out
            have g0 : wc.cell? ⟨G, 0, none⟩ = some (.int .i64 g.most) := by rw [cell_of_row wc _ _ _ _ _ hgG]; rfl
            have g1 : wc.cell? ⟨G, 1, none⟩ = some (.int .i64 g.next) := by rw [cell_of_row wc _ _ _ _ _ hgG]; rfl
            have g2 : wc.cell? ⟨G, 2, none⟩ = some (.slice va' g.pages.length vc') := by rw [cell_of_row wc _ _ _ _ _ hgG]; rfl
            have q0 : wc.cell? ⟨G + 1, 0, none⟩ = some (.int .i64 p.page) := by rw [cell_of_row wc _ _ _ _ _ hgQ]; rfl
            have q1 : wc.cell? ⟨G + 1, 1, none⟩ = some (.int .i64 p.off) := by rw [cell_of_row wc _ _ _ _ _ hgQ]; rfl
            have hzs : w4.heap.size ≤ wc.heap.size := HGB.out.size
            clear hgG hgQ
            obtain ⟨i1, i2⟩ := appended_in HAPP.out
            have HRN : Hid ((fun q : Place => if q.page = gone then none else f.rd q) p = none) := by
              show (if p.page = gone then none else f.rd p) = none
              rw [HAPP.out.new]; simp
            have hsm : s.size ≤ maxLen := by unfold maxLen; omega
            have hne1 : optS ((fun q : Place => if q.page = gone then none else f.rd q) p) = ⟨#[]⟩ := by rw [HRN.out]; rfl
            have hne2 : ((fun q : Place => if q.page = gone then none else f.rd q) p).isSome = false := by rw [HRN.out]; rfl
            have HN1 := Lib.hid hne1.symm
            have HN2 := Lib.hid hne2.symm
            clear hne1 hne2
            go_upto_region 21 with (first
              | (at_lookup; refine list_look _ rfl _ _ rfl M j D' _ rfl hown' p i1 i2 rfl HMI.out ⟨#[]⟩ false HN1.out HN2.out ?_)
              | (at_mapUpdate; refine wpList_mapUpdate_own _ rfl _ _ _ 64 rfl 55 9 placeLaw Try.underlying64 _ M j _ rfl hown' (by unfold maxLen; omega) _ _ _ rfl rfl (key_is p i1 i2) _ [] (plainElem_string Try.underlying9 hsm) ?_; intro w6 hown6 hgr6))
            go_frame
            have hzc : G + 2 ≤ wc.heap.size := by omega
            have hFc : F < wc.heap.size := by omega
            have hcl6 : ∀ k, k ≠ M → k < wc.heap.size → w6.heap[k]? = wc.heap[k]? := fun k hk hlt => hgr6.block k hlt (fun e => hk (by cases e; rfl))
            have hall : ∀ k, k ≠ M → k < w4.heap.size → w6.heap[k]? = w4.heap[k]? := fun k hk hlt => (hcl6 k hk (by omega)).trans (hcl k hk hlt)
            have hgG := (hall G (by omega) (by omega)).trans HG4.out
            have hgF := (hall F (by omega) (by omega)).trans HK4.out.row
            have e0 : w6.cell? ⟨G, 0, none⟩ = some (.int .i64 g.most) := by rw [cell_of_row w6 _ _ _ _ _ hgG]; rfl
            have e1 : w6.cell? ⟨G, 1, none⟩ = some (.int .i64 g.next) := by rw [cell_of_row w6 _ _ _ _ _ hgG]; rfl
            have e2 : w6.cell? ⟨G, 2, none⟩ = some (.slice va' g.pages.length vc') := by rw [cell_of_row w6 _ _ _ _ _ hgG]; rfl
            have y0 : w6.cell? ⟨F, 0, none⟩ = some (.int .i64 f.most) := by rw [cell_of_row w6 _ _ _ _ _ hgF]; rfl
            have y1 : w6.cell? ⟨F, 1, none⟩ = some (.int .i64 f.next) := by rw [cell_of_row w6 _ _ _ _ _ hgF]; rfl
            have y2 : w6.cell? ⟨F, 2, none⟩ = some (.slice va f.pages.length vc) := by rw [cell_of_row w6 _ _ _ _ _ hgF]; rfl
            have fz : ∀ i, w6.frozen? ⟨F, i, none⟩ = false := fun i => frozen_of_row w6 _ _ _ _ hgF
            have HFR := Lib.hid hgF
            have HZ6 := Lib.hid ((hall w.heap.size (by omega) (by omega)).trans HRZ4.out)
            have HP6 := Lib.hid ((HP4.out.base (base' := M + 1) hMw).kept (w' := w6) (fun k hk hlt => hall k (by omega) hlt))
            have HB6 := Lib.hid ((HK4.out.below.grown HGB.out HK4.out.below.size (fun b hb => by cases hb; omega)).grown hgr6 (by have := HK4.out.below.size; omega) (fun b hb => by cases hb; omega))
            have HM6 := Lib.hid hown6
            have HI6 := Lib.hid ((HMI.out.put hown'.isMap p i1 i2 (bl s)).cong (R' := g.rd) (fun q _ _ => HAPP.out.rd q))
            clear hgG hgF hcl6 hall g0 g1 g2 q0 q1 hown6 hgr6 hcl hown'
            go_wp2_with fail
            go_roundw
            case rel => exact ⟨j + 1, g, va', vc', vs', _, by omega, by omega, by go_num, kept_new HAPP.out HKP.out.most HKP.out.next HFR.out HP6.out HM6.out HI6.out HB6.out (by omega) hFM, zrow_new HZ6.out (by omega)⟩
            case measure => simp [intOf]; omega
end Go.Proofs.Ytjhfomihlobjgaa.D
