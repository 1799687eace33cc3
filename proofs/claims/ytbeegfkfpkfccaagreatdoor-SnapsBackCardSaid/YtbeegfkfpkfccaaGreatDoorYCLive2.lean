/-
 Contract: keeper.live: the item of a key that is there; one whose time is over goes.
-/
import Derived.Test.YtbeegfkfpkfccaaGreatDoorYCLive
import Derived.Test.YtbeegfkfpkfccaaGreatDoorYOwn
namespace Go.Proofs.YtbeegfkfpkfccaaGreatDoor.D
open Go.RowKit
theorem below_grown {B g : Nat} {w w' : World} (h : w.grownBy w' (some g)) (hg : B ≤ g) (hw : B ≤ w.heap.size) : Below B w w' :=
 ⟨h.os, h.tape, h.output, h.size, fun k hk => h.block k (by omega) (by simp; omega)⟩
theorem row_type {w : World} {base : Nat} {e : TypeId} {size gi m c n : Nat} {xs : List Value} (h : w.ownsRow base e size (.slice (some ⟨gi, 0, none⟩) m c) n xs) : ∃ cs, w.heap[gi]? = some (.cells cs e (0, 0)) := by
 rcases h.2 with ⟨hv, _⟩ | ⟨g', cap, cur, hv, _, hh, _⟩
 ·cases hv
 ·cases hv; exact ⟨_, hh⟩
section
variable {base g : Nat} {s : Store} {va : Option Addr} {vc : Nat} {fa : Option Addr} {fc : Nat} {vs : List Value}
theorem KeepAt.base_le {w : World} (h : KeepAt base g s va vc fa fc vs w) : base ≤ w.heap.size := by have := h.here; have := h.lt; omega
/-- behind slices.Delete, with the new slice written -/
theorem KeepAt.deleted {w w1 : World} {gi i m : Nat} {E : Ending} (h : KeepAt base g s (some ⟨gi, 0, none⟩) vc fa fc vs w) (hi : i < s.items.length) (hm : m = s.items.length - 1)
  (hd : DelEnd base 83 9 gi vc s.items.length i (s.items.flatMap itemCells) w E w1) :
  KeepAt base g { s with items := s.items.eraseIdx i } (some ⟨gi, 0, none⟩) vc fa fc vs (w1.setCell ⟨g, 8, none⟩ (.slice (some ⟨gi, 0, none⟩) m vc)) ∧ Below base w (w1.setCell ⟨g, 8, none⟩ (.slice (some ⟨gi, 0, none⟩) m vc)) := by
 obtain ⟨_, h1, h2⟩ := hd
 subst hm
 obtain ⟨cs, hcs⟩ := row_type h.own
 have hgi : base ≤ gi := (h.own.lt gi rfl).1
 have hk : KeptT (· ≠ 83) w w1 := KeptT.grown hcs h2
 rw [flat_erase] at h1
 have hl : (s.items.eraseIdx i).length = s.items.length - 1 := by rw [List.length_eraseIdx, if_pos hi]
 have hrow := (hk g _ _ _ h.row (by decide)).trans h.row
 refine ⟨keep_put (s' := { s with items := s.items.eraseIdx i }) hrow h.here (by show w1.ownsRow _ _ _ (.slice _ (s.items.eraseIdx i).length _) (s.items.eraseIdx i).length _; rw [hl]; exact h1) (h.pages.keptT hk (by decide) (by decide)) 8 _ ?_, (below_grown h2 hgi h.base_le).trans (below_set w1 _ h.here)⟩
 simp [storeV, hl]
def idxOf : Option Nat → Int
 | none => -1
 | some i => i
theorem live_no {s : Store} {k : Str} (h : hasKey s.items k = false) : live s k = (s, none) := by
 unfold live
 simp only
 split
 ·rename_i x hx
  obtain ⟨h1, h2⟩ := List.getElem?_eq_some_iff.1 hx
  rw [if_neg]
  intro he
  have := hasKey_iff.2 ⟨h1, by rw [h2]; simpa using he⟩
  rw [h] at this; cases this
 ·rfl
theorem live_yes {s : Store} {k : Str} (h : hasKey s.items k = true) : ∃ hi : findKey s.items k < s.items.length, live s k = if s.items[findKey s.items k].till ≠ 0 ∧ s.items[findKey s.items k].till ≤ s.clock then ({ s with items := s.items.eraseIdx (findKey s.items k) }, none) else (s, some (findKey s.items k)) := by
 obtain ⟨h1, h2⟩ := hasKey_iff.1 h
 refine ⟨h1, ?_⟩
 unfold live
 simp only
 rw [List.getElem?_eq_getElem h1]
 simp only
 rw [if_pos (by simpa using h2)]
def LiveEnd (base g : Nat) (s : Store) (k : Str) (w : World) (E : Ending) (w' : World) : Prop :=
 E = .returned (.int .i64 (idxOf (live s k).2)) ∧ Kept base g (live s k).1 w' ∧ Below base w w' ∧ KeptT Oth w w'
set_option maxHeartbeats 4000000 in
set_option maxRecDepth 100000 in
theorem keeper_live (w : World) (h : KeepAt base g s va vc fa fc vs w) (hs : SOk s) (k : ByteArray) :
  Calls Tryz.prog 89 #[.pointer (some ⟨g, 0, none⟩), .string k] w (LiveEnd base g s (bl k) w) := by
 have H := hid h
 have HS := hid hs
 have hgk := h.lt
 clear h hs
 cases hh : hasKey s.items (bl k) with
 | false =>
  have HE := hid (live_no hh)
  have HH := hid hh
  clear hh
  go_enter Tryz.func89, Tryz.ntmps89
  go_wp2_with fail
  refine (keeper_find w H.out HS.out k).mono ?_
  rintro e w1 ⟨rfl, hb⟩
  rw [HH.out]
  go_wp2_with fail
  go_ret
  refine ⟨by rw [HE.out]; rfl, ?_, hb.mono H.out.base_le, KeptT.below hb⟩
  rw [HE.out]
  exact ⟨_, _, _, _, _, H.out.below hb⟩
 | true =>
  obtain ⟨i, HII, hi, HE⟩ : ∃ i : Nat, Hid (i = findKey s.items (bl k)) ∧ ∃ hi : i < s.items.length, Hid (live s (bl k) = if s.items[i].till ≠ 0 ∧ s.items[i].till ≤ s.clock then ({ s with items := s.items.eraseIdx i }, none) else (s, some i)) := by
   obtain ⟨hi, he⟩ := live_yes hh
   exact ⟨_, rfl, hi, he⟩
  have HH := hid hh
  clear hh
  go_enter Tryz.func89, Tryz.ntmps89
  go_wp2_with fail
  refine (keeper_find w H.out HS.out k).mono ?_
  rintro e w1 ⟨rfl, hb⟩
  rw [HH.out, ← HII.out]
  have K1 := H.out.below hb
  have HB := hid (hb.mono H.out.base_le)
  have HKT : Hid (KeptT Oth w w1) := KeptT.below hb
  have hgk1 := K1.lt
  clear hgk hb
  obtain ⟨c0, c1, c2, c3, c4, c5, c6, c7, c8, c9, c10, c11⟩ := K1.cells
  obtain ⟨gi, cap, hv, hbg, hgl, hnc, hcm, hcell⟩ := own_shape K1.own (by omega)
  simp only [Value.slice.injEq, true_and] at hv
  obtain ⟨rfl, rfl⟩ := hv
  have hcm := le_maxLen hcm
  obtain ⟨b, o, hbo, hc⟩ := (K1.items HS.out).pos (by omega)
  cases hbo
  obtain ⟨cs, _, hcs, h3⟩ := hc i hi
  have hcs := hcs.1
  obtain ⟨x, hx⟩ : ∃ x, x = s.items[i] := ⟨_, rfl⟩
  rw [← hx] at hcs HE
  subst hcs
  obtain ⟨d0, d1, d2, d3, d4, d5, d6, d7, d8, hbb⟩ := item_cells (Keeps.refl w1) h3
  simp only [Nat.zero_add] at d2
  have hl := HS.out.len
  have hfr := K1.free 8
  have HX := hid hx
  have K := hid K1
  have hN := HS.out.clock
  have ht := (HS.out.nums (x := x) (by rw [hx]; exact List.getElem_mem hi)).till
  clear K1 hcell hc h3 hx c1 c2 c3 c4 c5 c6 c7 c9 c10 c11 d0 d1 d3 d4 d5 d6 d7 d8
  by_cases h0 : x.till = 0
  ·have HE2 : Hid (live s (bl k) = (s, some i)) := HE.out.trans (if_neg (fun hc => hc.1 h0))
   go_wp2_with fail
   go_ret
   refine ⟨by rw [HE2.out]; rfl, ?_, HB.out, HKT.out⟩
   rw [HE2.out]
   exact ⟨_, _, _, _, _, K.out⟩
  ·have e0 : (x.till != 0) = true := by simp [h0]
   by_cases h1 : x.till ≤ s.clock
   ·have HE2 : Hid (live s (bl k) = ({ s with items := s.items.eraseIdx i }, none)) := HE.out.trans (if_pos ⟨h0, h1⟩)
    clear HE
    go_wp2_with fail
    refine (delete_item base gi vc s.items.length i (s.items.flatMap itemCells) _ _ _ rfl rfl ?_ hi (items_one _)).mono ?_
    ·exact K.out.own
    rintro e w2 hd
    have he := hd.1
    subst he
    have hk2 : KeptT (· ≠ 83) w1 w2 := by
     obtain ⟨cs, hcs⟩ := row_type K.out.own
     exact KeptT.grown hcs hd.2.2
    have hrow2 := hid ((hk2 g _ _ _ K.out.row (by decide)).trans K.out.row)
    have hfr2 : w2.frozen? ⟨g, 8, none⟩ = false := by unfold World.frozen?; rw [hrow2.out]; simp
    have hc2 : w2.cell? ⟨g, 8, none⟩ = some (.slice (some ⟨gi, 0, none⟩) s.items.length vc) := by unfold World.cell?; rw [hrow2.out]; rfl
    have HD := hid hd
    have HK2 : Hid (KeptT Oth w1 w2) := hk2.mono (fun _ h => h.2)
    clear hd hk2
    go_wp2_with fail
    go_ret
    obtain ⟨g1, g2⟩ := K.out.deleted hi rfl HD.out
    refine ⟨by rw [HE2.out]; rfl, ?_, HB.out.trans g2, HKT.out.trans (HK2.out.trans ((KeptT.set hrow2.out).mono (fun _ h => h.1)))⟩
    rw [HE2.out]
    exact ⟨_, _, _, _, _, g1⟩
   ·have HE2 : Hid (live s (bl k) = (s, some i)) := HE.out.trans (if_neg (fun hc => h1 hc.2))
    clear HE
    go_wp2_with fail
    go_ret
    refine ⟨by rw [HE2.out]; rfl, ?_, HB.out, HKT.out⟩
    rw [HE2.out]
    exact ⟨_, _, _, _, _, K.out⟩
end
end Go.Proofs.YtbeegfkfpkfccaaGreatDoor.D

