/-
  Contracts: two readings of one datum are the same: sameFlash, sameStore answer true.
-/
import Derived.Test.YtbipegbgfdpaeaaDoorCRead
import Derived.Deep.QuietTactic
import Derived.BigQuiet
namespace Go.Proofs.YtbipegbgfdpaeaaDoor.D
open Go.RowKit



theorem same_flash (f : Flash) (a a' : Option Addr) (c c' : Nat) (w : World) (h : RowsAt w a 2 (PageR w) f.pages) (h' : RowsAt w a' 2 (PageR w) f.pages)
    (hl : f.pages.length ≤ 9223372036854775807) :
    Calls Tryd.prog 38 #[.agg #[.int .i64 f.most, .int .i64 f.next, .slice a f.pages.length c], .agg #[.int .i64 f.most, .int .i64 f.next, .slice a' f.pages.length c']] w
      fun e w' => e = .returned (.bool true) ∧ Below w.heap.size w w' := by
  go_enter Tryd.func38, Tryd.ntmps38
  go_wp2_with fail
  go_loopw [5] (fun i wr => ∃ k : Nat, k ≤ f.pages.length ∧ i = .int .i64 k ∧ Below w.heap.size w wr ∧ wr.cell? ⟨w.heap.size, 2, none⟩ = some (.slice a f.pages.length c) ∧ wr.cell? ⟨w.heap.size + 1, 2, none⟩ = some (.slice a' f.pages.length c')) (fun i _ => f.pages.length - (intOf i).toNat)
  case atStart => exact ⟨0, Nat.zero_le _, rfl, by go_grown, by go_simp, by go_simp⟩
  case round =>
    obtain ⟨k, hk, rfl, hbl, hx, hx'⟩ := hrel
    by_cases hlt : k < f.pages.length
    · obtain ⟨b, o, rfl, hc⟩ := h.pos (by omega)
      obtain ⟨b', o', rfl, hc'⟩ := h'.pos (by omega)
      obtain ⟨cs, _, ⟨_, ba, bc, hcs, hby, _⟩, h3⟩ := hc k hlt
      obtain ⟨cs', _, ⟨_, ba', bc', hcs', hby', _⟩, h3'⟩ := hc' k hlt
      obtain ⟨p, hp⟩ : ∃ p, p = f.pages[k] := ⟨_, rfl⟩
      rw [← hp] at hcs hcs' hby hby'
      subst hcs hcs'
      have hkp := Below.keeps hbl
      have c0 := hkp _ _ (h3 0 _ rfl)
      have c1 := hkp _ _ (h3 1 _ rfl)
      have c0' := hkp _ _ (h3' 0 _ rfl)
      have c1' := hkp _ _ (h3' 1 _ rfl)
      have s1 := fun n => run_str hby p.bytes.length bc rfl _ (keeps_drewN hkp n)
      have s2 := fun n => run_str hby' p.bytes.length bc' rfl _ (keeps_drewN hkp n)
      have HK := Lib.hid hkp
      clear h3 h3' hc hc' hp h h' hkp hby hby'
      rw [Nat.add_zero] at c0 c0'
      go_wp2_with fail
      go_quiet (fail)
      go_wp2_with fail
      go_roundw
      case rel => exact ⟨k + 1, by omega, by go_num, below_drewN hbl _, hx, hx'⟩
      case measure => simp [intOf]; omega
    · go_wp2
      go_ret
      exact ⟨rfl, hbl⟩

theorem eq_held (a b c d : Int) (w : World) : (Op.equalIn 10000 24 (.agg #[.int .i64 a, .int .i64 b, .int .i64 c, .int .i64 d]) (.agg #[.int .i64 a, .int .i64 b, .int .i64 c, .int .i64 d])).run Tryd.prog w = .ok true w := by
  have hi : Tryd.prog.underlying 24 = some (.array 4 3) := Tryd.underlying24
  have hs : ∀ w, (sizeOf 3).run Tryd.prog w = .ok 1 w := fun w => by kernel_rfl
  have hc : ∀ (x y : Int) w, (Op.equalIn 9999 3 (.int .i64 x) (.int .i64 y)).run Tryd.prog w = .ok (x == y) w := fun x y w => run_equalIn_int w 9998 3 .i64 .i64 x y Tryd.underlying3
  have p0 : ∀ w, (part 3 #[.int .i64 a, .int .i64 b, .int .i64 c, .int .i64 d] 0).run Tryd.prog w = .ok (.int .i64 a) w := fun w => by kernel_rfl
  have p1 : ∀ w, (part 3 #[.int .i64 a, .int .i64 b, .int .i64 c, .int .i64 d] 1).run Tryd.prog w = .ok (.int .i64 b) w := fun w => by kernel_rfl
  have p2 : ∀ w, (part 3 #[.int .i64 a, .int .i64 b, .int .i64 c, .int .i64 d] 2).run Tryd.prog w = .ok (.int .i64 c) w := fun w => by kernel_rfl
  have p3 : ∀ w, (part 3 #[.int .i64 a, .int .i64 b, .int .i64 c, .int .i64 d] 3).run Tryd.prog w = .ok (.int .i64 d) w := fun w => by kernel_rfl
  show (Op.equalIn (9999 + 1) 24 _ _).run Tryd.prog w = _
  unfold Op.equalIn
  simp [run_underlying hi, hs, Std.Legacy.Range.forIn_eq_forIn_range', List.range', p0, p1, p2, p3, hc]
/-- the cells of a store -/
abbrev storeV (s : Store) (a : Option Addr) (c : Nat) (fa : Option Addr) (fc : Nat) : Array Value :=
  #[.int .i64 s.clock, .int .i64 s.cas, .int .i64 s.uses, .int .i64 s.most, .int .i64 s.h0, .int .i64 s.h1, .int .i64 s.h2, .int .i64 s.h3, .slice a s.items.length c,
    .int .i64 s.flash.most, .int .i64 s.flash.next, .slice fa s.flash.pages.length fc]

set_option maxRecDepth 100000 in
theorem same_store (s : Store) (a a' fa fa' : Option Addr) (c c' fc fc' : Nat) (w : World) (h : RowsAt w a 9 ItemR s.items) (h' : RowsAt w a' 9 ItemR s.items)
    (hf : RowsAt w fa 2 (PageR w) s.flash.pages) (hf' : RowsAt w fa' 2 (PageR w) s.flash.pages)
    (hl : s.items.length ≤ 9223372036854775807) (hfl : s.flash.pages.length ≤ 9223372036854775807) :
    Calls Tryd.prog 16 #[.agg (storeV s a c fa fc), .agg (storeV s a' c' fa' fc')] w
      fun e w' => e = .returned (.bool true) ∧ Below w.heap.size w w' := by
  have hF := Lib.hid hf
  have hF' := Lib.hid hf'
  have hI := Lib.hid h
  have hI' := Lib.hid h'
  clear hf hf' h h'
  have hH := fun w' => eq_held s.h0 s.h1 s.h2 s.h3 w'
  go_enter Tryd.func16, Tryd.ntmps16
  go_wp2_with fail
  refine (same_flash s.flash fa fa' fc fc' _ ?_ ?_ hfl).mono ?_
  · exact hF.out.keep (Below.keeps (by go_grown)) (PageR.keep (Below.keeps (by go_grown)))
  · exact hF'.out.keep (Below.keeps (by go_grown)) (PageR.keep (Below.keeps (by go_grown)))
  rintro e w1 ⟨rfl, hb1⟩
  have hx : w1.cell? ⟨w.heap.size, 8, none⟩ = some (.slice a s.items.length c) := (hb1.cell (by go_size)).trans (by go_simp)
  have hx' : w1.cell? ⟨w.heap.size + 1, 8, none⟩ = some (.slice a' s.items.length c') := (hb1.cell (by go_size)).trans (by go_simp)
  have hb : Below w.heap.size w w1 := Below.trans (by go_grown) (hb1.mono (by go_size))
  clear hb1 hH hF hF'
  go_wp2_with fail
  go_loopw [5] (fun i wr => ∃ k : Nat, k ≤ s.items.length ∧ i = .int .i64 k ∧ Below w.heap.size w wr ∧ wr.cell? ⟨w.heap.size, 8, none⟩ = some (.slice a s.items.length c) ∧ wr.cell? ⟨w.heap.size + 1, 8, none⟩ = some (.slice a' s.items.length c')) (fun i _ => s.items.length - (intOf i).toNat)
  case atStart => exact ⟨0, Nat.zero_le _, rfl, hb, hx, hx'⟩
  case round =>
    clear hb hx hx'
    obtain ⟨k, hk, rfl, hb, hx, hx'⟩ := hrel
    by_cases hlt : k < s.items.length
    · obtain ⟨b, o, rfl, hc⟩ := hI.out.pos (by omega)
      obtain ⟨b', o', rfl, hc'⟩ := hI'.out.pos (by omega)
      obtain ⟨cs, _, hcs, h3⟩ := hc k hlt
      obtain ⟨cs', _, hcs', h3'⟩ := hc' k hlt
      obtain ⟨x, hxx⟩ : ∃ x, x = s.items[k] := ⟨_, rfl⟩
      rw [← hxx] at hcs hcs'
      have hcs := hcs.1
      have hcs' := hcs'.1
      subst hcs hcs'
      obtain ⟨c0, c1, c2, c3, c4, c5, c6, c7, c8, hbb⟩ := item_cells (Below.keeps hb) h3
      obtain ⟨d0, d1, d2, d3, d4, d5, d6, d7, d8, hbb'⟩ := item_cells (Below.keeps hb) h3'
      clear h3 h3' hc hc' hxx hI hI'
      go_wp2_with fail
      go_quiet (fail)
      go_wp2_with fail
      go_roundw
      case rel => exact ⟨k + 1, by omega, by go_num, below_drewN hb _, hx, hx'⟩
      case measure => simp [intOf]; omega
    · go_wp2
      go_ret
      exact ⟨rfl, hb⟩
end Go.Proofs.YtbipegbgfdpaeaaDoor.D
