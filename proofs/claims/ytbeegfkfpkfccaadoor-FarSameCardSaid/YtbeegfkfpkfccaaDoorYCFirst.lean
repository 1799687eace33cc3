/-
  Contract: slices.IndexFunc where the first item is the one that FarSame looks for.
-/
import Derived.Test.YtbeegfkfpkfccaaDoorYCEnd
import Derived.Test.YtbeegfkfpkfccaaDoorYCut
import Derived.Test.YtbeegfkfpkfccaaDoorYPFarSame
namespace Go.Proofs.YtbeegfkfpkfccaaDoor.D
open Go.RowKit
theorem first_lit (x : Item) (hx : x.key = fK) (w : World) :
    Calls Tryd.prog 11 #[.agg #[.string x.key, .int .i64 x.flags, .int .i64 x.till, .int .i64 x.cas, .int .i64 x.used, .string x.value, .bool x.far, .int .i64 x.place.page, .int .i64 x.place.off]] w fun e w' => e = .returned (.bool true) ∧ Below w.heap.size w w' := by
  rw [hx]
  have he : (fK.toList == [102, 105, 114, 115, 116]) = true := by kernel_rfl
  go_enter Tryd.func11, Tryd.ntmps11
  go_wp2_with fail
  go_ret
  exact ⟨rfl, by go_grown⟩
set_option maxHeartbeats 1000000 in
set_option maxRecDepth 100000 in
theorem index_first (l : List Item) (a : Option Addr) (c : Nat) (w : World) (h : RowsAt w a 9 ItemR l) (hl : 0 < l.length) (hx : ∀ h : 0 < l.length, l[0].key = fK) (hl2 : l.length ≤ 1000) :
    Calls Tryd.prog 10 #[.slice a l.length c, .func (.func 11) #[] #[]] w fun e w' => e = .returned (.int .i64 0) ∧ Below w.heap.size w w' := by
  have H := Lib.hid h
  clear h
  go_enter Tryd.func10, Tryd.ntmps10
  go_wp2_with fail
  go_loopw [8] (fun i wr => i = .int .i64 0 ∧ Below w.heap.size w wr) (fun i _ => 0)
  case atStart => exact ⟨rfl, Below.refl _ _⟩
  case round =>
    obtain ⟨rfl, hbl⟩ := hrel
    obtain ⟨b, o, rfl, hc⟩ := H.out.pos (by omega)
    obtain ⟨cs, _, hcs, h3⟩ := hc 0 hl
    obtain ⟨x, hxx⟩ : ∃ x, x = l[0] := ⟨_, rfl⟩
    rw [← hxx] at hcs
    have hcs := hcs.1
    subst hcs
    obtain ⟨c0, c1, c2, c3, c4, c5, c6, c7, c8, hbb⟩ := item_cells (Below.keeps hbl) h3
    simp only [Nat.zero_mul, Nat.add_zero] at c0 c1 c2 c3 c4 c5 c6 c7 c8
    have hk : x.key = fK := by rw [hxx]; exact hx hl
    have HKX := Lib.hid hk
    clear hk
    have hlz : (0 : Int) < (l.length : Int) := by omega
    clear h3 hc hxx
    go_wp2_with fail
    refine (first_lit x HKX.out _).mono ?_
    rintro e w2 ⟨rfl, hb2⟩
    have hb3 := hbl.trans (hb2.mono hbl.size)
    clear hbl hb2 c0 c1 c2 c3 c4 c5 c6 c7 c8
    go_wp2_with fail
    go_ret
    exact ⟨rfl, hb3⟩
end Go.Proofs.YtbeegfkfpkfccaaDoor.D
