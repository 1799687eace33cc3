/-
 Contracts: keeper.find, keeper.until, keeper.value, keeper.used.
-/
import Derived.Test.YtbeegfkfpkfccaaGreatDoorYCKeeper
import Derived.Test.YtbeegfkfpkfccaaGreatDoorYCItem
import Derived.Test.YtbeegfkfpkfccaaGreatDoorYBase
import Derived.Deep.RegionLaw
namespace Go.Proofs.YtbeegfkfpkfccaaGreatDoor.D
open Go.RowKit
section
variable {base g : Nat} {s : Store} {va : Option Addr} {vc : Nat} {fa : Option Addr} {fc : Nat} {vs : List Value}
set_option maxHeartbeats 4000000 in
set_option maxRecDepth 100000 in
theorem keeper_find (w : World) (h : KeepAt base g s va vc fa fc vs w) (hs : SOk s) (k : ByteArray) :
  Calls Tryz.prog 115 #[.pointer (some ⟨g, 0, none⟩), .string k] w (FindEnd s.items k w) := by
 obtain ⟨c0, c1, c2, c3, c4, c5, c6, c7, c8, c9, c10, c11⟩ := h.cells
 have HI := hid (h.items hs)
 have HR := hid hs.rise
 have HL := hid hs.len
 clear h hs
 go_enter Tryz.func115, Tryz.ntmps115
 go_wp2_with fail
 refine (bsearch_items s.items k va vc _ ?_ HR.out HL.out).mono ?_
 ·exact HI.out
 rintro e w1 ⟨rfl, hb⟩
 go_wp2_with fail
 go_ret2
 exact ⟨rfl, hb⟩
theorem keeper_until (w : World) (h : KeepAt base g s va vc fa fc vs w) (hs : SOk s) (e : Int) (he : 0 ≤ e ∧ e ≤ 1099511627776) :
  Calls Tryz.prog 91 #[.pointer (some ⟨g, 0, none⟩), .int .i64 e] w fun E w' => E = .returned (.int .i64 (untilOf s e)) ∧ Below w.heap.size w w' := by
 obtain ⟨c0, c1, c2, c3, c4, c5, c6, c7, c8, c9, c10, c11⟩ := h.cells
 have hc := hs.clock
 have hN : maxN = 1099511627776 := rfl
 rw [hN] at hc
 obtain ⟨hc1, hc2⟩ := hc
 obtain ⟨he1, he2⟩ := he
 by_cases h0 : e = 0
 ·have HE : Hid (untilOf s e = 0) := by show _ = _; unfold untilOf; rw [if_pos h0]
  subst h0
  clear h hs hN he1 he2
  go_enter Tryz.func91, Tryz.ntmps91
  go_wp2_with fail
  go_ret
  exact ⟨by rw [HE.out]; rfl, by go_grown⟩
 ·have HE : Hid (untilOf s e = min (s.clock + e) 1099511627776) := by show _ = _; unfold untilOf; rw [if_neg h0, hN]
  have h1 : (e == 0) = false := by simp [h0]
  clear h hs hN
  go_enter Tryz.func91, Tryz.ntmps91
  go_wp2_with fail
  all_goals
   go_ret
   refine ⟨?_, by go_grown⟩
   rw [HE.out]
   first
    | (rw [show min (s.clock + e) 1099511627776 = 1099511627776 by omega]; rfl)
    | (rw [show min (s.clock + e) 1099511627776 = s.clock + e by omega]; rfl)
set_option maxHeartbeats 4000000 in
set_option maxRecDepth 100000 in
theorem keeper_value (w : World) (h : KeepAt base g s va vc fa fc vs w) (hs : SOk s) (i : Nat) (x : Item) (hx : s.items[i]? = some x) (v : ByteArray) (hv : Hid (valueOf s x = v)) :
  Calls Tryz.prog 111 #[.pointer (some ⟨g, 0, none⟩), .int .i64 i] w fun E w' => E = .returned (.string v) ∧ Below w.heap.size w w' := by
 obtain ⟨c0, c1, c2, c3, c4, c5, c6, c7, c8, c9, c10, c11⟩ := h.cells
 obtain ⟨hi, hxi⟩ := List.getElem?_eq_some_iff.1 hx
 obtain ⟨b, o, rfl, hc⟩ := (h.items hs).pos (by omega)
 obtain ⟨cs, _, hcs, h3⟩ := hc i hi
 rw [hxi] at hcs
 have hcs := hcs.1
 subst hcs
 obtain ⟨d0, d1, d2, d3, d4, d5, d6, d7, d8, hbb⟩ := item_cells (Keeps.refl w) h3
 have HP := hid (h.pagesAt hs)
 have HG := hid h.row
 have HL : Hid (s.flash.pages.length ≤ 9223372036854775807) := by
  have := (flash_nums hs.flash).2.2.1
  show _ ≤ _; omega
 have hg := h.lt
 cases hf : x.far with
 | false =>
  have HV : Hid (x.value = v) := by show _ = _; rw [← hv.out]; unfold valueOf; rw [hf]; rfl
  rw [hf] at d6
  clear h hs hc h3 hx hxi hv
  go_enter Tryz.func111, Tryz.ntmps111
  go_wp2_with fail
  go_ret
  exact ⟨by rw [HV.out]; rfl, by go_grown⟩
 | true =>
  have HV : Hid (bl v = (s.flash.read x.place).1) := by show _ = _; rw [← hv.out]; unfold valueOf; rw [hf, if_pos rfl]; exact bl_mk _
  rw [hf] at d6
  obtain ⟨rn, hrn⟩ : ∃ n, n = (s.flash.read x.place).2 := ⟨_, rfl⟩
  have HRN := hid hrn
  clear h hs hc h3 hx hxi hv hrn
  go_enter Tryz.func111, Tryz.ntmps111
  go_wp2_with fail
  go_region_law (go_simp; go_at_call 75; go_must (refine (read_is s.flash x.place v rn HV HRN fa fc _ ?_ HL.out).mono ?_); (exact HP.out.keep (Below.keeps (by go_grown)) (PageR.keep (Below.keeps (by go_grown)))); rintro e w5 ⟨rfl, hb5⟩)
  all_goals
   go_wp2_with fail
   go_ret
   exact ⟨rfl, Below.trans (by go_grown) (hb5.mono (by go_size))⟩
/-- blocks that are no keeper's and no items' -/
def Oth (t : TypeId) : Prop := t ≠ 74 ∧ t ≠ 83
/-- one cell of an item is written -/
theorem KeepAt.item_set {w : World} {gi : Nat} (h : KeepAt base g s (some ⟨gi, 0, none⟩) vc fa fc vs w) (i : Nat) (hi : i < s.items.length) (j : Nat) (hj : j < 9) (v : Value) (f : Item → Item) (hf : itemCells (f s.items[i]) = (itemCells s.items[i]).set j v) :
  KeepAt base g { s with items := s.items.modify i f } (some ⟨gi, 0, none⟩) vc fa fc vs (w.setCell ⟨gi, i * 9 + j, none⟩ v) := by
 obtain ⟨h1, h2⟩ := h.own.stored (i * 9 + j) v
 have hgi : ∃ cs fr, w.heap[gi]? = some (.cells cs 83 fr) := by
  rcases h.own.2 with ⟨hv, _⟩ | ⟨g', cap, cur, hv, _, hh, _⟩
  ·cases hv
  ·cases hv; exact ⟨_, _, hh⟩
 obtain ⟨cs, fr, hgi⟩ := hgi
 have hk : KeptT (· ≠ 83) w (w.setCell ⟨gi, i * 9 + j, none⟩ v) := KeptT.set hgi
 refine ⟨?_, ?_, h.pages.keptT hk (by decide) (by decide), h.here⟩
 ·have e : storeV { s with items := s.items.modify i f } (some ⟨gi, 0, none⟩) vc fa fc = storeV s (some ⟨gi, 0, none⟩) vc fa fc := by simp [storeV]
  rw [e, hk g _ _ _ h.row (by decide)]; exact h.row
 ·rw [flat_set s.items i hi j hj v f hf] at h1
  simpa using h1
theorem below_set {B : Nat} (w : World) {g j : Nat} (v : Value) (h : B ≤ g) : Below B w (w.setCell ⟨g, j, none⟩ v) :=
 ⟨rfl, rfl, rfl, by simp, fun k hk => Below.heap_setCell w ⟨g, j, none⟩ v k (by show k ≠ g; omega)⟩
set_option maxHeartbeats 4000000 in
set_option maxRecDepth 100000 in
theorem keeper_used (w : World) (h : KeepAt base g s va vc fa fc vs w) (hs : SOk s) (i : Nat) (hi : i < s.items.length) (hu : s.uses < maxN) :
  Calls Tryz.prog 90 #[.pointer (some ⟨g, 0, none⟩), .int .i64 i] w fun E w' => E = .returned (.tuple #[]) ∧ KeepAt base g (asked s i) va vc fa fc vs w' ∧ Below base w w' ∧ KeptT Oth w w' := by
 obtain ⟨c0, c1, c2, c3, c4, c5, c6, c7, c8, c9, c10, c11⟩ := h.cells
 obtain ⟨gi, cap, hv, hbg, hgl, hnc, hcm, hcell⟩ := own_shape h.own (by omega)
 simp only [Value.slice.injEq, true_and] at hv
 obtain ⟨rfl, rfl⟩ := hv
 have hlen : (s.items.flatMap itemCells).length = s.items.length * 9 := flat_length itemCells 9 _ (fun _ => rfl)
 obtain ⟨q0, hq0⟩ := (own_cell h.own (i * 9 + 4) (by omega))
 have hfr := h.free 2
 have hgk := h.lt
 have huu := hs.uses
 have hN : maxN = 1099511627776 := rfl
 rw [hN] at huu hu
 obtain ⟨hu1, hu2⟩ := huu
 have H := hid h
 clear h hs hcell c0 c1 c3 c4 c5 c6 c7 c9 c10 c11
 go_enter Tryz.func90, Tryz.ntmps90
 go_wp2_with fail
 have K1 := H.out.put (s' := { s with uses := s.uses + 1 }) 2 (.int .i64 (s.uses + 1)) rfl rfl rfl
 have hb1 := below_set w (j := 2) (.int .i64 (s.uses + 1)) H.out.here
 have HKT : Hid (KeptT Oth w (w.setCell ⟨g, 2, none⟩ (.int .i64 (s.uses + 1)))) := (KeptT.set H.out.row).mono (fun _ h => h.1)
 obtain ⟨W1, hW1⟩ : ∃ W1, W1 = w.setCell ⟨g, 2, none⟩ (.int .i64 (s.uses + 1)) := ⟨_, rfl⟩
 rw [← hW1] at K1 hb1 HKT ⊢
 clear hW1 c2 c8 q0 hq0 hfr hgk hgl H
 obtain ⟨c0, c1, c2, c3, c4, c5, c6, c7, c8, c9, c10, c11⟩ := K1.cells
 obtain ⟨q0, hq0⟩ := (own_cell K1.own (i * 9 + 4) (by show _ < s.items.length * 9; omega))
 obtain ⟨q, hq⟩ := Option.isSome_iff_exists.1 q0
 clear q0
 have hgk := K1.lt
 have K := hid K1
 have HB := hid hb1
 clear c0 c1 c3 c4 c5 c6 c7 c9 c10 c11 K1 hb1
 go_region_law (fail)
 all_goals
  go_end0
  refine ⟨rfl, ?_, ?_, ?_⟩
  ·exact (K.out.item_set i hi 4 (by omega) (.int .i64 (s.uses + 1)) (fun x => { x with used := s.uses + 1 }) rfl).below (Below.drew (Below.refl _ _))
  ·exact (HB.out.trans (below_set W1 _ hbg)).drew
  ·obtain ⟨cs, hcs⟩ : ∃ cs, W1.heap[gi]? = some (.cells cs 83 (0, 0)) := by
    rcases K.out.own.2 with ⟨hv, _⟩ | ⟨g', cap, cur, hv, _, hh, _⟩
    ·cases hv
    ·cases hv; exact ⟨_, hh⟩
   exact (HKT.out.trans ((KeptT.set hcs).mono (fun _ h => h.2))).trans (KeptT.below (Below.drew (Below.refl _ _)))
end
end Go.Proofs.YtbeegfkfpkfccaaGreatDoor.D

