/-
  Contract: flash.Copy: the same flash, in memory of the call's own. Condition: what is copied takes at most 2^47 bytes.
-/
import Derived.Test.YtjhfomihlobjgaaCOwn
import Derived.Deep.RegionLaw
namespace Go.Proofs.Ytjhfomihlobjgaa.D
open Go.RowKit

def CopyEnd (f : Flash) (w : World) (e : Ending) (w' : World) : Prop :=
  ∃ v vs, e = .returned (.agg #[.int .i64 f.most, .int .i64 f.next, v]) ∧ PagesMid w.heap.size w' w' v f.pages vs f.pages.length ∧ Below w.heap.size w w'

theorem PagesMid.world {base : Nat} {w0 w0' w : World} {v : Value} {ps : List Page} {vs : List Value} (h : PagesMid base w0 w v ps vs ps.length) : PagesMid base w0' w v ps vs ps.length :=
  ⟨h.len, h.row, h.done, fun j p u hp _ hj => absurd (List.getElem?_eq_some_iff.1 hp).1 (by omega), h.off, h.apart⟩

set_option maxHeartbeats 400000 in
theorem flash_Copy (f : Flash) (a : Option Addr) (c : Nat) (w : World) (h : RowsAt w a 2 (PageR w) f.pages) (hn : f.pages.length * 32 ≤ 140737488355328)
    (hby : ∀ p ∈ f.pages, p.bytes.length ≤ 140737488355328) :
    Calls Try.prog 17 #[.agg #[.int .i64 f.most, .int .i64 f.next, .slice a f.pages.length c]] w (CopyEnd f w) := by
  obtain ⟨vs0, hl0, hc0, hone, hold⟩ := pages_cells h
  have HL := Lib.hid hl0
  have HC := Lib.hid hc0
  have HO := Lib.hid hone
  have HD := Lib.hid hold
  have HB := Lib.hid hby
  clear hl0 hc0 hone hold h hby
  go_enter Try.func17, Try.ntmps17
  go_wp2_with fail
  refine (clone_pages (pageCells f.pages vs0) f.pages.length a c _ (HC.out.keep (Below.keeps (by go_grown))) (pageCells_length _ _ HL.out) HO.out hn).mono ?_
  rintro e w1 ⟨v, rfl, hown, hb⟩
  obtain ⟨va, vc, hv⟩ := own_slice hown
  rw [hv] at hown ⊢
  obtain ⟨hc, hfz, hz⟩ := bcell hb
  simp only [World.size_alloc] at hc hfz hz hown
  have hz0 : w.heap.size < w1.heap.size := by omega
  have hz1 : w.heap.size + 1 < w1.heap.size := by omega
  have HW := Lib.hid hown
  have hbw : Below w.heap.size w w1 := Below.trans (by go_grown) (hb.mono (by go_size))
  clear hown hv hb
  have hs2 := setCell_self (x := .slice va f.pages.length vc) (show w1.cell? ⟨w.heap.size, 2, none⟩ = some (.slice a f.pages.length c) by rw [hc _ _ (by omega)]; go_simp)
  go_wp2_with fail
  have hc0 : (w1.setCell ⟨w.heap.size, 2, none⟩ (.slice va f.pages.length vc)).cell? ⟨w.heap.size, 0, none⟩ = some (.int .i64 f.most) := by go_simp
  have hc1 : (w1.setCell ⟨w.heap.size, 2, none⟩ (.slice va f.pages.length vc)).cell? ⟨w.heap.size, 1, none⟩ = some (.int .i64 f.next) := by go_simp
  have hc3 : (w1.setCell ⟨w.heap.size, 2, none⟩ (.slice va f.pages.length vc)).cell? ⟨w.heap.size + 1, 0, none⟩ = some (.int .i64 0) := by go_simp
  have hc4 : (w1.setCell ⟨w.heap.size, 2, none⟩ (.slice va f.pages.length vc)).cell? ⟨w.heap.size + 1, 1, none⟩ = some (.int .i64 0) := by go_simp
  have hc5 : (w1.setCell ⟨w.heap.size, 2, none⟩ (.slice va f.pages.length vc)).cell? ⟨w.heap.size + 1, 2, none⟩ = some (.slice none 0 0) := by go_simp
  have hz3 : ∀ j, (w1.setCell ⟨w.heap.size, 2, none⟩ (.slice va f.pages.length vc)).frozen? ⟨w.heap.size + 1, j, none⟩ = false := fun j => by go_simp
  have hbx : Below w.heap.size w (w1.setCell ⟨w.heap.size, 2, none⟩ (.slice va f.pages.length vc)) := hbw.setCell (Nat.le_refl _) _
  have hst : PagesMid (w.heap.size + 2) w (w1.setCell ⟨w.heap.size, 2, none⟩ (.slice va f.pages.length vc)) (.slice va f.pages.length vc) f.pages vs0 0 :=
    ⟨HL.out, ownsRow_setCell_below HW.out (by show w.heap.size < w.heap.size + 2; omega) _, fun _ _ _ _ _ h => absurd h (Nat.not_lt_zero _), fun j p u h1 h2 _ => HD.out j p u h1 h2,
      fun _ _ _ _ h => absurd h (Nat.not_lt_zero _), fun _ _ _ _ _ _ h => absurd h (Nat.not_lt_zero _)⟩
  have hsz : w.heap.size + 2 ≤ (w1.setCell ⟨w.heap.size, 2, none⟩ (.slice va f.pages.length vc)).heap.size := by go_size
  generalize w1.setCell ⟨w.heap.size, 2, none⟩ (.slice va f.pages.length vc) = W1 at *
  have HST := Lib.hid hst
  clear hc hfz hz hz0 hz1 HW hbw hst HC HO HD
  go_loopw [11] (fun i wr => ∃ k : Nat, ∃ vs : List Value, k ≤ f.pages.length ∧ i = .int .i64 k ∧ PagesMid (w.heap.size + 2) w wr (.slice va f.pages.length vc) f.pages vs k ∧ Below (w.heap.size + 2) W1 wr) (fun i _ => f.pages.length - (intOf i).toNat)
  case atStart => exact ⟨0, vs0, Nat.zero_le _, rfl, HST.out, Below.refl _ _⟩
  case round =>
    obtain ⟨k, vs, hk, rfl, hpm, hbl⟩ := hrel
    by_cases hlt : k < f.pages.length
    · obtain ⟨g, rfl, hg, hg'⟩ := own_some hpm.row (by omega)
      have hkp : Keeps w wr := Below.keeps (hbx.trans (hbl.mono (by omega)))
      have c2 := (hbl.cell (p := ⟨w.heap.size, 2, none⟩) (by show w.heap.size < w.heap.size + 2; omega)).trans hs2
      obtain ⟨p, hp⟩ : ∃ p, f.pages[k]? = some p := ⟨_, List.getElem?_eq_getElem hlt⟩
      obtain ⟨u, hu⟩ : ∃ u, vs[k]? = some u := ⟨_, List.getElem?_eq_getElem (by rw [hpm.len]; exact hlt)⟩
      obtain ⟨ba, bc, rfl, hby⟩ := hpm.old k p u hp hu (Nat.le_refl _)
      have cu := (hpm.row.cellAt (k * 2 + 1) (by omega)).trans (pageCells_val _ _ k _ hpm.len hu)
      have fz := hpm.row.frozenAt (k * 2 + 1)
      have hpl := HB.out p (List.mem_of_getElem? hp)
      have HBy := Lib.hid (fun (w' : World) (q : Keeps w w') => CellsAt.keep hby q)
      have HK := Lib.hid hkp
      have HP := Lib.hid hpm
      have HL2 := Lib.hid hbl
      have Hp := Lib.hid hp
      clear hby hkp hpm hbl hp hu hs2 hc0 hc1 hc3 hc4 hc5 hz3 HST
      go_wp2_with fail
      go_region_law (go_simp; go_at_call 37; refine (clone_bytes (p.bytes.map byteV) p.bytes.length ba bc _ ?_ (by simp) (by simp [Value.oneCell']) (by omega)).mono ?_; (exact HBy.out _ HK.out); rintro e w2 ⟨x, rfl, hox, hbb⟩; obtain ⟨xa, xc, rfl⟩ := own_slice hox; have fz2 := (hbb.frozen (p := ⟨g, k * 2 + 1, none⟩) hg').trans fz; have e2 := (hbb.cell (p := ⟨w.heap.size, 2, none⟩) (cell_lt c2)).trans c2; have eu := (hbb.cell (p := ⟨g, k * 2 + 1, none⟩) hg').trans cu)
      all_goals
        have hbb' : Below wr.heap.size wr w2 := ⟨hbb.os, hbb.tape, hbb.output, hbb.size, hbb.block⟩
        have hst := HP.out.step rfl Hp.out (w2 := w2) hbb' hox (by have := cell_lt c2; omega)
        have hb3 : Below (w.heap.size + 2) W1 (w2.setCell ⟨g, k * 2 + 1, none⟩ (.slice xa p.bytes.length xc)) := (HL2.out.trans (Below.mono hbb' (by have := cell_lt c2; omega))).setCell hg _
        have HS := Lib.hid hst
        have HB3 := Lib.hid hb3
        clear hst hb3 hbb hbb' hox fz2 e2 eu c2 cu fz
        go_wp2_with fail
        go_roundw
        case rel => exact ⟨k + 1, _, by omega, by go_num, HS.out, HB3.out⟩
        case measure => simp [intOf]; omega
    · have d0 := (hbl.cell (p := ⟨w.heap.size, 0, none⟩) (by show w.heap.size < w.heap.size + 2; omega)).trans hc0
      have d1 := (hbl.cell (p := ⟨w.heap.size, 1, none⟩) (by show w.heap.size < w.heap.size + 2; omega)).trans hc1
      have d2 := (hbl.cell (p := ⟨w.heap.size, 2, none⟩) (by show w.heap.size < w.heap.size + 2; omega)).trans hs2
      have d3 := (hbl.cell (p := ⟨w.heap.size + 1, 0, none⟩) (by show w.heap.size + 1 < w.heap.size + 2; omega)).trans hc3
      have d4 := (hbl.cell (p := ⟨w.heap.size + 1, 1, none⟩) (by show w.heap.size + 1 < w.heap.size + 2; omega)).trans hc4
      have d5 := (hbl.cell (p := ⟨w.heap.size + 1, 2, none⟩) (by show w.heap.size + 1 < w.heap.size + 2; omega)).trans hc5
      have z3 := fun j => (hbl.frozen (p := ⟨w.heap.size + 1, j, none⟩) (by show w.heap.size + 1 < w.heap.size + 2; omega)).trans (hz3 j)
      have HP := Lib.hid hpm
      have HL2 := Lib.hid hbl
      clear hpm hbl hs2 hc0 hc1 hc3 hc4 hc5 hz3 HST
      go_wp2_with fail
      obtain rfl : k = f.pages.length := by omega
      refine bodyPost_ret (v := .agg #[.int .i64 f.most, .int .i64 f.next, .slice va f.pages.length vc]) (by simp [results, Try.results17, go_sem, d3, d4, d5]) rfl ⟨_, vs, rfl, ?_, ?_⟩
      · have h3 := ((HP.out.setCell_below (a := ⟨w.heap.size + 1, 0, none⟩) (by show w.heap.size + 1 < w.heap.size + 2; omega) (.int .i64 f.most)).setCell_below (a := ⟨w.heap.size + 1, 1, none⟩) (by show w.heap.size + 1 < w.heap.size + 2; omega) (.int .i64 f.next)).setCell_below (a := ⟨w.heap.size + 1, 2, none⟩) (by show w.heap.size + 1 < w.heap.size + 2; omega) (.slice va f.pages.length vc)
        exact (h3.world).base (by omega)
      · exact (((hbx.trans (HL2.out.mono (by omega))).setCell (by show w.heap.size ≤ w.heap.size + 1; omega) _).setCell (by show w.heap.size ≤ w.heap.size + 1; omega) _).setCell (by show w.heap.size ≤ w.heap.size + 1; omega) _
end Go.Proofs.Ytjhfomihlobjgaa.D
