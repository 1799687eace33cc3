/-
  Contract: snap.Encode: a store as bytes. Condition: the table of chunks holds its four numbers; the store takes at most 2^47 bytes.
-/
import Derived.Test.YtbipegbgfdpaeaaDoorCText
import Derived.Test.YtbipegbgfdpaeaaDoorPFar
import Derived.Test.YtbipegbgfdpaeaaDoorCTick
import Derived.Lib.SlBytesConst
namespace Go.Proofs.YtbipegbgfdpaeaaDoor.D
open Go.RowKit
def BytesOut (l : Str) (n : Int) (w : World) (e : Ending) (w' : World) : Prop := ∃ va vc, e = .returned (.tuple #[.slice va l.length vc, .int .i64 n]) ∧ BytesAt w' va l ∧ l.length ≤ vc ∧ vc ≤ 9223372036854775807 ∧ Below w.heap.size w w'
theorem w_num (x : Int) (h0 : 0 ≤ x) (h1 : x ≤ 1099511627776) (base g : Nat) (l : Str) (w : World) (h : WriterF base g w l) (hl : l.length + 10 ≤ 140737488355328) :
    Calls Tryd.prog 39 #[.pointer (some ⟨g, 0, none⟩), .int .i64 x] w (NumEnd base g (l ++ sev x.toNat) w) := by
  have := w_number x.toNat (by omega) base g l w h hl
  rwa [show ((x.toNat : Nat) : Int) = x by omega] at this
theorem bytes_bad {s : Store} (h : s.ok = false) : s.bytes = ([], 8) := by unfold Store.bytes; rw [if_pos h]
theorem bytes_good {s : Store} (h : s.ok = true) : s.bytes = (bodyOf s ++ sealOf (bodyOf s), 0) := by unfold Store.bytes; rw [if_neg (by rw [h]; simp)]
theorem numsOf_len (s : Store) : (numsOf s).length = 11 := rfl
theorem nums_cell (w : World) (s : Store) (k : Nat) (hk : k < 11) :
    (w.alloc (.cells #[.int .i64 s.clock, .int .i64 s.cas, .int .i64 s.uses, .int .i64 s.most, .int .i64 s.h0, .int .i64 s.h1, .int .i64 s.h2, .int .i64 s.h3, .int .i64 s.flash.most, .int .i64 s.flash.next, .int .i64 (s.flash.pages.length : Nat)] 3)).cell? ⟨w.heap.size, k, none⟩ = some (.int .i64 ((numsOf s)[k]'(by rw [numsOf_len]; exact hk))) := by
  rw [cell_alloc_row]
  show ((numsOf s).map (Value.int .i64)).toArray[k]? = _
  rw [List.getElem?_toArray, List.getElem?_map, List.getElem?_eq_getElem (by rw [numsOf_len]; exact hk)]; rfl
theorem nums_get (s : Store) (k : Nat) (hk : k < 11) : (#[.int .i64 s.clock, .int .i64 s.cas, .int .i64 s.uses, .int .i64 s.most, .int .i64 s.h0, .int .i64 s.h1, .int .i64 s.h2, .int .i64 s.h3, .int .i64 s.flash.most, .int .i64 s.flash.next, .int .i64 (s.flash.pages.length : Nat)] : Array Value)[k]? = some (.int .i64 ((numsOf s)[k]'(by rw [numsOf_len]; exact hk))) := by
  show ((numsOf s).map (Value.int .i64)).toArray[k]? = _
  rw [List.getElem?_toArray, List.getElem?_map, List.getElem?_eq_getElem (by rw [numsOf_len]; exact hk)]; rfl
theorem sevs_len (l : List Int) (h : ∀ n ∈ l, n ≤ 1099511627776) : (sevs l).length ≤ l.length * 10 := by
  induction l with
  | nil => simp [sevs]
  | cons n l ih =>
    have h1 := ih (fun m hm => h m (by simp [hm]))
    have h2 := sev_le (n := n.toNat) (by have := h n (by simp); omega)
    unfold sevs at h1 ⊢
    rw [List.flatMap_cons, List.length_append, List.length_cons]; omega
def fourOf (x : Item) : List Int := [x.flags, x.till, x.cas, x.used]
theorem four_cell (w : World) (x : Item) (k : Nat) (hk : k < 4) :
    (w.alloc (.cells #[.int .i64 x.flags, .int .i64 x.till, .int .i64 x.cas, .int .i64 x.used] 3)).cell? ⟨w.heap.size, k, none⟩ = some (.int .i64 ((fourOf x)[k]'hk)) := by
  rw [cell_alloc_row]
  show ((fourOf x).map (Value.int .i64)).toArray[k]? = _
  rw [List.getElem?_toArray, List.getElem?_map, List.getElem?_eq_getElem hk]; rfl
theorem four_ok {x : Item} (h : ItemNums x) (k : Nat) (hk : k < (fourOf x).length) : 0 ≤ (fourOf x)[k] ∧ (fourOf x)[k] ≤ 1099511627776 := by
  obtain ⟨_, a1, a2, a3, a4, _, _⟩ := h
  have hm : (fourOf x)[k] ∈ fourOf x := List.getElem_mem hk
  generalize (fourOf x)[k] = n at hm
  simp only [fourOf, List.mem_cons, List.not_mem_nil, or_false] at hm
  rcases hm with rfl | rfl | rfl | rfl <;> omega
theorem four_get (x : Item) (k : Nat) (hk : k < 4) : (#[.int .i64 x.flags, .int .i64 x.till, .int .i64 x.cas, .int .i64 x.used] : Array Value)[k]? = some (.int .i64 ((fourOf x)[k]'hk)) := by
  show ((fourOf x).map (Value.int .i64)).toArray[k]? = _
  rw [List.getElem?_toArray, List.getElem?_map, List.getElem?_eq_getElem hk]; rfl
theorem sum_is (l : Str) (n : Int) (hn : Hid (n = ((ad l).2 : Int) * 65536 + ((ad l).1 : Nat))) (a : Option Addr) (c : Nat) (w : World) (h : BytesAt w a l) (hl : l.length ≤ 140737488355328) :
    Calls Tryd.prog 41 #[.slice a l.length c] w fun e w' => e = .returned (.int .i64 n) ∧ w = w' := by
  have := snap_sum l a c w h hl
  rwa [← hn.out] at this
def farBytes (x : Item) : Str := if x.far then sev 1 ++ sev x.place.page.toNat ++ sev x.place.off.toNat else sev 0 ++ textOf (bl x.value)
theorem farBytes_len {x : Item} (h : ItemNums x) : (farBytes x).length ≤ 260 := by
  unfold farBytes
  cases hf : x.far with
  | true =>
    have h1 := sev_le (n := 1) (by omega)
    have hp := h.place hf
    have h2 := sev_le (n := x.place.page.toNat) (by omega)
    have h3 := sev_le (n := x.place.off.toNat) (by omega)
    simp only [if_true, List.length_append]; omega
  | false =>
    have h1 := sev_le (n := 0) (by omega)
    have h2 := textOf_len (bl x.value) (by rw [bl_length]; have := h.value; omega)
    have h3 := h.value
    rw [bl_length] at h2
    simp only [Bool.false_eq_true, if_false, List.length_append]; omega
theorem itemBytes_eq (x : Item) : itemBytes x = textOf (bl x.key) ++ sevs (fourOf x) ++ farBytes x := by
  unfold itemBytes farBytes sevs fourOf; simp
/-- the row of bytes that a writer holds -/
theorem Writer.rows {base g : Nat} {w : World} {l : Str} (h : Writer base g w l) : ∃ va vc, w.heap[g]? = some (.cells #[.slice va l.length vc] 70 (0, 0)) ∧ w.ownsRow base 5 1 (.slice va l.length vc) l.length (l.map byteV) := by
  obtain ⟨v, hh, how⟩ := h.ex
  rcases how.2 with ⟨rfl, h0⟩ | ⟨k, cap, cur, rfl, rest⟩
  · have : l = [] := List.eq_nil_of_length_eq_zero h0
    subst this
    exact ⟨none, 0, hh, how⟩
  · exact ⟨_, _, hh, how⟩
theorem own_cap {w : World} {base : Nat} {e : TypeId} {va : Option Addr} {n m vc : Nat} {xs : List Value} (h : w.ownsRow base e 1 (.slice va n vc) m xs) : m ≤ vc ∧ vc ≤ 9223372036854775807 := by
  rcases h.2 with ⟨e1, e2⟩ | ⟨g', c', cur', e1, _, _, h3, h4, _⟩
  · simp only [Value.slice.injEq] at e1
    obtain ⟨_, _, e4⟩ := e1
    omega
  · simp only [Value.slice.injEq] at e1
    obtain ⟨_, _, rfl⟩ := e1
    exact ⟨h3, le_maxLen h4⟩
set_option maxRecDepth 100000 in
set_option maxHeartbeats 4000000 in
theorem snap_Encode (s : Store) (a fa : Option Addr) (c fc : Nat) (w : World) (hc : Chunks w) (hI : RowsAt w a 9 ItemR s.items) (hF : RowsAt w fa 2 (PageR w) s.flash.pages)
    (hn : s.items.length * 88 ≤ 140737488355328) (hfn : s.flash.pages.length * 32 ≤ 140737488355328) :
    Calls Tryd.prog 17 #[.agg (storeV s a c fa fc)] w (BytesOut s.bytes.1 s.bytes.2 w) := by
  have HC := Lib.hid hc
  have HI := Lib.hid hI
  have HF := Lib.hid hF
  clear hc hI hF
  cases hok : s.ok
  ·
    have HT := Lib.hid (bytes_bad hok)
    have HN : Hid (s.chk = 8) := by show _ = _; unfold Store.chk; rw [hok]; rfl
    clear hok
    go_enter Tryd.func17, Tryd.ntmps17
    go_wp2_with fail
    refine (scheck_is s 8 HN a fa c fc _ (HC.out.keep (Below.keeps (by go_grown))) (HI.out.keep (Below.keeps (by go_grown)) (fun _ _ h => h)) (HF.out.keep (Below.keeps (by go_grown)) (PageR.keep (Below.keeps (by go_grown)))) (by omega) (by omega)).mono ?_
    rintro e w1 ⟨rfl, hb1⟩
    have hbw : Below w.heap.size w w1 := Below.trans (by go_grown) (hb1.mono (by go_size))
    clear hb1
    go_wp2_with fail
    go_ret2
    rw [HT.out]
    exact ⟨none, 0, rfl, CellsAt.nil _ _, Nat.zero_le _, by omega, hbw⟩
  ·
    have HT := Lib.hid (bytes_good hok)
    have HSN := Lib.hid (store_nums hok)
    have HN : Hid (s.chk = 0) := by show _ = _; unfold Store.chk; rw [hok]; rfl
    clear hok
    go_enter Tryd.func17, Tryd.ntmps17
    go_wp2_with fail
    refine (scheck_is s 0 HN a fa c fc _ (HC.out.keep (Below.keeps (by go_grown))) (HI.out.keep (Below.keeps (by go_grown)) (fun _ _ h => h)) (HF.out.keep (Below.keeps (by go_grown)) (PageR.keep (Below.keeps (by go_grown)))) (by omega) (by omega)).mono ?_
    rintro e w1 ⟨rfl, hb1⟩
    have HROW := Lib.hid ((hb1.block w.heap.size (by go_size)).trans (blk_new w _))
    have hz1 : w.heap.size < w1.heap.size := by have := hb1.size; simp at this; omega
    have HB1 : Hid (Below w.heap.size w w1) := Below.trans (by go_grown) (hb1.mono (by go_size))
    clear hb1
    have s0 : w1.cell? ⟨w.heap.size, 0, none⟩ = some (.int .i64 s.clock) := by rw [cell_of_row w1 _ _ _ _ _ HROW.out]; rfl
    have s1 : w1.cell? ⟨w.heap.size, 1, none⟩ = some (.int .i64 s.cas) := by rw [cell_of_row w1 _ _ _ _ _ HROW.out]; rfl
    have s2 : w1.cell? ⟨w.heap.size, 2, none⟩ = some (.int .i64 s.uses) := by rw [cell_of_row w1 _ _ _ _ _ HROW.out]; rfl
    have s3 : w1.cell? ⟨w.heap.size, 3, none⟩ = some (.int .i64 s.most) := by rw [cell_of_row w1 _ _ _ _ _ HROW.out]; rfl
    have s4 : w1.cell? ⟨w.heap.size, 4, none⟩ = some (.int .i64 s.h0) := by rw [cell_of_row w1 _ _ _ _ _ HROW.out]; rfl
    have s5 : w1.cell? ⟨w.heap.size, 5, none⟩ = some (.int .i64 s.h1) := by rw [cell_of_row w1 _ _ _ _ _ HROW.out]; rfl
    have s6 : w1.cell? ⟨w.heap.size, 6, none⟩ = some (.int .i64 s.h2) := by rw [cell_of_row w1 _ _ _ _ _ HROW.out]; rfl
    have s7 : w1.cell? ⟨w.heap.size, 7, none⟩ = some (.int .i64 s.h3) := by rw [cell_of_row w1 _ _ _ _ _ HROW.out]; rfl
    have s8 : w1.cell? ⟨w.heap.size, 8, none⟩ = some (.slice a s.items.length c) := by rw [cell_of_row w1 _ _ _ _ _ HROW.out]; rfl
    have s9 : w1.cell? ⟨w.heap.size, 9, none⟩ = some (.int .i64 s.flash.most) := by rw [cell_of_row w1 _ _ _ _ _ HROW.out]; rfl
    have s10 : w1.cell? ⟨w.heap.size, 10, none⟩ = some (.int .i64 s.flash.next) := by rw [cell_of_row w1 _ _ _ _ _ HROW.out]; rfl
    have s11 : w1.cell? ⟨w.heap.size, 11, none⟩ = some (.slice fa s.flash.pages.length fc) := by rw [cell_of_row w1 _ _ _ _ _ HROW.out]; rfl
    have kc := fun (w : World) (C : Array Value) (n c : Nat) => Lib.run_convert_bytes_const (P := Tryd.prog) w 38 5 C n c Tryd.underlying38 Tryd.underlying5
    go_upto_region 6 with (fail)
    obtain ⟨W0, hW0⟩ : ∃ W0, W0 = ((w1.alloc (.cells #[.int .u8 100, .int .u8 99, .int .u8 49] 5 (3, 4))).alloc (.cells #[.slice (some ⟨w1.heap.size, 0, none⟩) 3 3] 70)).alloc (.cells #[.int .i64 s.clock, .int .i64 s.cas, .int .i64 s.uses, .int .i64 s.most, .int .i64 s.h0, .int .i64 s.h1, .int .i64 s.h2, .int .i64 s.h3, .int .i64 s.flash.most, .int .i64 s.flash.next, .int .i64 (s.flash.pages.length : Nat)] 3) := ⟨_, rfl⟩
    have hb0 : Below w1.heap.size w1 W0 := by rw [hW0]; exact (((Below.refl _ _).alloc (Nat.le_refl _) _).alloc (by simp) _).alloc (by simp; omega) _
    have hz0 : W0.heap.size = w1.heap.size + 3 := by rw [hW0]; simp
    have HA : Hid (W0.heap[w1.heap.size]? = some (.cells #[.int .u8 100, .int .u8 99, .int .u8 49] 5 (3, 4))) := by
      show _ = _
      rw [hW0, Below.heap_alloc _ _ _ (by simp; omega), Below.heap_alloc _ _ _ (by simp)]; exact blk_new w1 _
    have HG : Hid (W0.heap[w1.heap.size + 1]? = some (.cells #[.slice (some ⟨w1.heap.size, 0, none⟩) 3 3] 70 (0, 0))) := by
      show _ = _
      rw [hW0, Below.heap_alloc _ _ _ (by simp)]
      have e : w1.heap.size + 1 = (w1.alloc (.cells #[.int .u8 100, .int .u8 99, .int .u8 49] 5 (3, 4))).heap.size := by simp
      rw [e]; exact blk_new _ _
    have HN0 : Hid (W0.heap[w1.heap.size + 1 + 1]? = some (.cells #[.int .i64 s.clock, .int .i64 s.cas, .int .i64 s.uses, .int .i64 s.most, .int .i64 s.h0, .int .i64 s.h1, .int .i64 s.h2, .int .i64 s.h3, .int .i64 s.flash.most, .int .i64 s.flash.next, .int .i64 (s.flash.pages.length : Nat)] 3 (0, 0))) := by
      show _ = _
      have e : w1.heap.size + 1 + 1 = ((w1.alloc (.cells #[.int .u8 100, .int .u8 99, .int .u8 49] 5 (3, 4))).alloc (.cells #[.slice (some ⟨w1.heap.size, 0, none⟩) 3 3] 70)).heap.size := by simp
      rw [hW0, e]; exact blk_new _ _
    have HWR0 : Hid (WriterF w1.heap.size (w1.heap.size + 1) W0 [100, 99, 49]) := by
      refine ⟨⟨_, HG.out, .inr ⟨w1.heap.size, rfl, Nat.le_refl _, fun j u hj => ?_, _, _, HA.out⟩⟩, by omega⟩
      rw [cell_of_row W0 _ _ _ _ _ HA.out]
      have hl := (List.getElem?_eq_some_iff.1 hj).1
      have hj3 : j = 0 ∨ j = 1 ∨ j = 2 := by simp at hl; omega
      rcases hj3 with rfl | rfl | rfl
      · exact hj
      · exact hj
      · exact hj
    have HB0 : Hid (Below w.heap.size w W0) := HB1.out.trans (hb0.mono (by omega))
    have HR0 := Lib.hid ((hb0.block w.heap.size hz1).trans HROW.out)
    obtain ⟨g, hg⟩ : ∃ g, g = w1.heap.size + 1 := ⟨_, rfl⟩
    have hgz : w1.heap.size < g := by omega
    have HNG : Hid (w1.heap.size + 1 + 1 ≠ g) := by show _ ≠ _; omega
    rw [← hW0]
    rw [← hg] at HG HWR0 HN0 HNG ⊢
    have HFN := Lib.hid (flash_nums HSN.out.flash)
    have hp20 : s.flash.pages.length ≤ 20 := HFN.out.2.2.1
    have hi1000 : s.items.length ≤ 1000 := HSN.out.len
    have HBACK : Hid (∀ wr, Wrote w1.heap.size g W0 wr → Below w.heap.size w wr) := fun wr h => h.to HB0.out (by omega) (by omega)
    have HST : Hid (∀ wr, Wrote w1.heap.size g W0 wr → wr.heap[w.heap.size]? = some (.cells (storeV s a c fa fc) 30 (0, 0))) := fun wr h => (h.same w.heap.size hz1 (by omega)).trans HR0.out
    have HCELL : Hid (∀ wr, Wrote w1.heap.size g W0 wr → ∀ k (hk : k < 11), wr.cell? ⟨g + 1, k, none⟩ = some (.int .i64 ((numsOf s)[k]'(by rw [numsOf_len]; exact hk)))) := fun wr h k hk => by
      rw [cell_of_row wr _ _ _ _ _ (h.typed _ _ _ _ HN0.out (by decide) HNG.out)]
      exact nums_get s k hk
    clear hW0 hb0 hg s0 s1 s2 s3 s4 s5 s6 s7 s8 s9 s10 s11 kc
    go_loopw [56] (fun i wr => ∃ k : Nat, k ≤ 11 ∧ i = .int .i64 k ∧ Hid ((k = 0 ∧ WriterF w1.heap.size g wr ([100, 99, 49] ++ sevs ((numsOf s).take k))) ∨ (0 < k ∧ Writer w1.heap.size g wr ([100, 99, 49] ++ sevs ((numsOf s).take k)))) ∧ Hid (Wrote w1.heap.size g W0 wr)) (fun i _ => 11 - (intOf i).toNat)
    case atStart => exact ⟨0, by omega, rfl, .inl ⟨rfl, HWR0.out⟩, Wrote.refl _ _ _⟩
    case round =>
      obtain ⟨k, hk, rfl, HW, HT0⟩ := hrel
      by_cases hk11 : k < 11
      ·
        have c0 := HCELL.out wr HT0.out k hk11
        have hx := nums_ok HSN.out k (by rw [numsOf_len]; exact hk11)
        have HS := Lib.hid (sevs_snoc (numsOf s) k (by rw [numsOf_len]; exact hk11))
        obtain ⟨x, hxx⟩ : ∃ x, x = (numsOf s)[k]'(by rw [numsOf_len]; exact hk11) := ⟨_, rfl⟩
        rw [← hxx] at c0 hx HS
        obtain ⟨x0, x1⟩ := hx
        have HL : Hid (([100, 99, 49] ++ sevs ((numsOf s).take k) : Str).length + 10 ≤ 140737488355328) := by
          show _ ≤ _
          have h1 := sevs_len ((numsOf s).take k) (fun n hn => by
            obtain ⟨j, hj, rfl⟩ := List.mem_iff_getElem.1 (List.mem_of_mem_take hn)
            exact (nums_ok HSN.out j hj).2)
          have h2 : ((numsOf s).take k).length ≤ 11 := by rw [List.length_take, numsOf_len]; omega
          rw [List.length_append]
          simp only [List.length_cons, List.length_nil]; omega
        have HWF : Hid (WriterF w1.heap.size g wr ([100, 99, 49] ++ sevs ((numsOf s).take k))) := by
          rcases HW.out with ⟨_, h⟩ | ⟨_, h⟩
          · exact h
          · exact h.f
        have hk0 : (0 : Int) ≤ (k : Int) := by omega
        have hk1 : (k : Int) < 11 := by omega
        clear hxx
        go_wp2_with fail
        refine (w_num x x0 x1 w1.heap.size g _ _ HWF.out HL.out).mono ?_
        rintro e w2 ⟨rfl, hW2, hT2⟩
        rw [List.append_assoc, ← HS.out] at hW2
        have HW2 := Lib.hid hW2
        have HT2 := Lib.hid (HT0.out.trans hT2)
        clear hW2 hT2 c0
        go_wp2_with fail
        go_roundw
        case rel => exact ⟨k + 1, by omega, by go_num, .inr ⟨by omega, HW2.out⟩, HT2⟩
        case measure => simp [intOf]; omega
      ·
        obtain rfl : k = 11 := by omega
        have HW2 : Hid (Writer w1.heap.size g wr ([100, 99, 49] ++ sevs (numsOf s))) := by
          rcases HW.out with ⟨h0, _⟩ | ⟨_, h⟩
          · omega
          · rw [show (numsOf s).take 11 = numsOf s from List.take_of_length_le (by rw [numsOf_len]; exact Nat.le_refl _)] at h
            exact h
        have HL1 : Hid (([100, 99, 49] ++ sevs (numsOf s) : Str).length ≤ 200) := by
          show _ ≤ _
          have h1 := sevs_len (numsOf s) (fun n hn => by
            obtain ⟨j, hj, rfl⟩ := List.mem_iff_getElem.1 hn
            exact (nums_ok HSN.out j hj).2)
          rw [List.length_append]
          simp only [List.length_cons, List.length_nil, numsOf_len] at h1 ⊢; omega
        obtain ⟨L1, hL1⟩ : ∃ L1 : Str, L1 = [100, 99, 49] ++ sevs (numsOf s) := ⟨_, rfl⟩
        rw [← hL1] at HW2 HL1
        have HE1 := Lib.hid hL1
        have s11 : wr.cell? ⟨w.heap.size, 11, none⟩ = some (.slice fa s.flash.pages.length fc) := by rw [cell_of_row wr _ _ _ _ _ (HST.out wr HT0.out)]; rfl
        clear hL1 HW hk hk11
        go_wp2_with fail
        obtain ⟨wo, rfl⟩ : ∃ wo : World, wo = wr := ⟨_, rfl⟩
        go_loopw [68] (fun i wr => ∃ k : Nat, k ≤ s.flash.pages.length ∧ i = .int .i64 k ∧ Hid (Writer w1.heap.size g wr (L1 ++ pagesBytes (s.flash.pages.take k))) ∧ Hid (Wrote w1.heap.size g W0 wr) ∧ Hid ((L1 ++ pagesBytes (s.flash.pages.take k)).length ≤ 200 + 300 * k)) (fun i _ => s.flash.pages.length - (intOf i).toNat)
        case atStart => exact ⟨0, by omega, rfl, by show Writer _ _ _ _; simpa [pagesBytes] using HW2.out, HT0, by show _ ≤ _; have := HL1.out; simpa [pagesBytes] using this⟩
        case round =>
          clear s11 HW2 HT0
          obtain ⟨k, hk, rfl, HW, HT0, HL⟩ := hrel
          have HBW := Lib.hid (HBACK.out wr HT0.out)
          by_cases hlt : k < s.flash.pages.length
          ·
            obtain ⟨b, o, rfl, hc⟩ := HF.out.pos (by omega)
            obtain ⟨cs, _, ⟨_, ba, bc, hcs, hby, _⟩, h3⟩ := hc k hlt
            have hpb := (HFN.out.2.2.2 _ (List.getElem_mem hlt)).2.2
            have HS := Lib.hid (pagesBytes_snoc s.flash.pages k hlt)
            obtain ⟨p, hp⟩ : ∃ p, p = s.flash.pages[k] := ⟨_, rfl⟩
            rw [← hp] at hcs hby hpb HS
            subst hcs
            have hkp := Below.keeps HBW.out
            have c0 := hkp _ _ (h3 0 _ rfl)
            have c1 := hkp _ _ (h3 1 _ rfl)
            rw [Nat.add_zero] at c0
            have st := run_str hby p.bytes.length bc rfl (wr.alloc (.cells #[.int .i64 p.number, .slice ba p.bytes.length bc] 73)) (Keeps.trans hkp (Below.keeps ((Below.refl _ _).alloc (Nat.le_refl _) _)))
            have HWA : Hid (Writer w1.heap.size g (wr.alloc (.cells #[.int .i64 p.number, .slice ba p.bytes.length bc] 73)) (L1 ++ pagesBytes (s.flash.pages.take k))) := HW.out.below ((Below.refl _ _).alloc (Nat.le_refl _) _)
            have HTA : Hid (Wrote w1.heap.size g wr (wr.alloc (.cells #[.int .i64 p.number, .slice ba p.bytes.length bc] 73))) := Wrote.of_below ((Below.refl _ _).alloc (Nat.le_refl _) _) HW.out.big
            have hsz : (⟨p.bytes.toArray⟩ : ByteArray).size ≤ 256 := by show p.bytes.toArray.size ≤ 256; simpa using hpb
            have HLL : Hid ((L1 ++ pagesBytes (s.flash.pages.take k)).length + 10 + (⟨p.bytes.toArray⟩ : ByteArray).size ≤ 140737488355328) := by show _ ≤ _; have := HL.out; omega
            have HL2 : Hid ((L1 ++ pagesBytes (s.flash.pages.take k) ++ textOf p.bytes).length ≤ 200 + 300 * (k + 1)) := by
              show _ ≤ _; have := HL.out; have := textOf_len p.bytes (by omega); rw [List.length_append]; omega
            clear h3 hc hp hby hkp
            go_wp2_with fail
            refine (w_text ⟨p.bytes.toArray⟩ (by omega) w1.heap.size g _ _ HWA.out HLL.out).mono ?_
            rintro e w2 ⟨rfl, hW2, hT2⟩
            rw [bl_mk, List.append_assoc, ← HS.out] at hW2
            have HW2 := Lib.hid hW2
            have HT2 := Lib.hid ((HT0.out.trans HTA.out).trans hT2)
            have HL3 : Hid ((L1 ++ pagesBytes (s.flash.pages.take (k + 1))).length ≤ 200 + 300 * (k + 1)) := by show _ ≤ _; rw [HS.out, ← List.append_assoc]; exact HL2.out
            clear hW2 hT2 c0 c1 st
            go_wp2_with fail
            go_roundw
            case rel => first | exact ⟨k + 1, by omega, by go_num, HW2, HT2, HL3⟩ | ((repeat apply Exists.intro); exact ⟨⟨k + 1, by omega, by go_num, HW2, HT2, HL3⟩, rfl⟩)
            case measure => simp [intOf]; omega
          ·
            have hk2 : k = s.flash.pages.length := by omega
            have HW2 : Hid (Writer w1.heap.size g wr (L1 ++ pagesBytes s.flash.pages)) := by
              have h := HW.out
              rw [hk2, List.take_length] at h
              exact h
            have HL2 : Hid ((L1 ++ pagesBytes s.flash.pages).length ≤ 6200) := by
              have h := HL.out
              rw [hk2, List.take_length] at h
              show _ ≤ _; omega
            have HLL : Hid ((L1 ++ pagesBytes s.flash.pages).length + 10 ≤ 140737488355328) := by show _ ≤ _; have := HL2.out; omega
            have s8 : wr.cell? ⟨w.heap.size, 8, none⟩ = some (.slice a s.items.length c) := by rw [cell_of_row wr _ _ _ _ _ (HST.out wr HT0.out)]; rfl
            clear HW HL hk hk2
            go_wp2_with fail
            refine (w_number s.items.length (by omega) w1.heap.size g _ _ HW2.out.f HLL.out).mono ?_
            rintro e w2 ⟨rfl, hW2, hT2⟩
            obtain ⟨L2, hL2⟩ : ∃ L2 : Str, L2 = L1 ++ pagesBytes s.flash.pages ++ sev s.items.length := ⟨_, rfl⟩
            rw [← hL2] at hW2
            have HLB : Hid (L2.length ≤ 6210) := by show _ ≤ _; have := HL2.out; have := sev_le (n := s.items.length) (by omega); rw [hL2, List.length_append]; omega
            have HE2 := Lib.hid hL2
            have HW3 := Lib.hid hW2
            have HT3 := Lib.hid (HT0.out.trans hT2)
            have t8 : w2.cell? ⟨w.heap.size, 8, none⟩ = some (.slice a s.items.length c) := by rw [cell_of_row w2 _ _ _ _ _ (HST.out w2 HT3.out)]; rfl
            clear hL2 hW2 hT2 HW2 HL2 HLL s8 HBW
            go_wp2_with fail
            go_loopw [86] (fun i wr => ∃ k : Nat, k ≤ s.items.length ∧ i = .int .i64 k ∧ Hid (Writer w1.heap.size g wr (L2 ++ itemsBytes (s.items.take k))) ∧ Hid (Wrote w1.heap.size g W0 wr) ∧ Hid ((L2 ++ itemsBytes (s.items.take k)).length ≤ 6210 + 400 * k)) (fun i _ => s.items.length - (intOf i).toNat)
            case atStart => exact ⟨0, by omega, rfl, by show Writer _ _ _ _; simpa [itemsBytes] using HW3.out, HT3, by show _ ≤ _; have := HLB.out; simpa [itemsBytes] using this⟩
            case round =>
              clear t8 HW3 HT3 HT0
              obtain ⟨k, hk, rfl, HW, HT0, HL⟩ := hrel
              have HBW := Lib.hid (HBACK.out _ HT0.out)
              by_cases hlt : k < s.items.length
              ·
                obtain ⟨b, o, rfl, hc⟩ := HI.out.pos (by omega)
                obtain ⟨cs, _, hcs, h3⟩ := hc k hlt
                have HS := Lib.hid (itemsBytes_snoc s.items k hlt)
                have hin := HSN.out.items _ (List.getElem_mem hlt)
                obtain ⟨x, hxx⟩ : ∃ x, x = s.items[k] := ⟨_, rfl⟩
                rw [← hxx] at hcs HS hin
                have HIN := Lib.hid hin
                have hcs := hcs.1
                subst hcs
                obtain ⟨c0, c1, c2, c3, c4, c5, c6, c7, c8, hbb⟩ := item_cells (Below.keeps HBW.out) h3
                have hgw : g < wr.heap.size := by
                  obtain ⟨v, hh, _⟩ := HW.out.ex
                  exact (Array.getElem?_eq_some_iff.1 hh).1
                clear h3 hc hxx hin
                go_upto_region 19 with (fail)
                obtain ⟨V0, hV0⟩ : ∃ V0, V0 = wr.alloc (.cells #[.string x.key, .int .i64 x.flags, .int .i64 x.till, .int .i64 x.cas, .int .i64 x.used, .string x.value, .bool x.far, .int .i64 x.place.page, .int .i64 x.place.off] 58) := ⟨_, rfl⟩
                have hbV : Below wr.heap.size wr V0 := by rw [hV0]; exact (Below.refl _ _).alloc (Nat.le_refl _) _
                have HVB : Hid (V0.heap[wr.heap.size]? = some (.cells #[.string x.key, .int .i64 x.flags, .int .i64 x.till, .int .i64 x.cas, .int .i64 x.used, .string x.value, .bool x.far, .int .i64 x.place.page, .int .i64 x.place.off] 58 (0, 0))) := by show _ = _; rw [hV0]; exact blk_new wr _
                have HWV := Lib.hid (HW.out.below hbV)
                have HTV := Lib.hid (HT0.out.trans (Wrote.of_below hbV HW.out.big))
                rw [← hV0]
                clear hV0 hbV c0 c1 c2 c3 c4 c5 c6 c7 c8
                have HCEL : Hid (∀ wq, Wrote w1.heap.size g V0 wq → wq.heap[wr.heap.size]? = some (.cells #[.string x.key, .int .i64 x.flags, .int .i64 x.till, .int .i64 x.cas, .int .i64 x.used, .string x.value, .bool x.far, .int .i64 x.place.page, .int .i64 x.place.off] 58 (0, 0))) := fun wq h => h.typed _ _ _ _ HVB.out (by decide) (by omega)
                obtain ⟨LB, hLB⟩ : ∃ LB : Str, LB = L2 ++ itemsBytes (s.items.take k) := ⟨_, rfl⟩
                rw [← hLB] at HWV HL
                have HLB2 := Lib.hid hLB
                have hk1000 : k < 1000 := by omega
                have HLB3 : Hid (LB.length ≤ 500000) := by show _ ≤ _; have := HL.out; omega
                clear hLB
                obtain ⟨ks1, ks2⟩ := HIN.out.key
                have hvs := HIN.out.value
                have HLA : Hid (LB.length + 10 + x.key.size ≤ 140737488355328) := by show _ ≤ _; have := HLB3.out; omega
                have e0 : V0.cell? ⟨wr.heap.size, 0, none⟩ = some (.string x.key) := by rw [cell_of_row V0 _ _ _ _ _ HVB.out]; rfl
                go_wp2_with fail
                refine (w_text x.key (by omega) w1.heap.size g _ _ HWV.out HLA.out).mono ?_
                rintro e w2 ⟨rfl, hW2, hT2⟩
                have HW2 := Lib.hid hW2
                have HT2 := Lib.hid hT2
                have HR2 := Lib.hid (HCEL.out _ hT2)
                have hgw2 : g < w2.heap.size := Nat.lt_of_lt_of_le (Nat.lt_trans hgw (Array.getElem?_eq_some_iff.1 HVB.out).1) hT2.outer.2.2.2
                have hwb : wr.heap.size < w2.heap.size := (Array.getElem?_eq_some_iff.1 HR2.out).1
                have f1 : w2.cell? ⟨wr.heap.size, 1, none⟩ = some (.int .i64 x.flags) := by rw [cell_of_row w2 _ _ _ _ _ HR2.out]; rfl
                have f2 : w2.cell? ⟨wr.heap.size, 2, none⟩ = some (.int .i64 x.till) := by rw [cell_of_row w2 _ _ _ _ _ HR2.out]; rfl
                have f3 : w2.cell? ⟨wr.heap.size, 3, none⟩ = some (.int .i64 x.cas) := by rw [cell_of_row w2 _ _ _ _ _ HR2.out]; rfl
                have f4 : w2.cell? ⟨wr.heap.size, 4, none⟩ = some (.int .i64 x.used) := by rw [cell_of_row w2 _ _ _ _ _ HR2.out]; rfl
                clear hW2 hT2 e0 HW
                go_upto_region 21 with (fail)
                obtain ⟨V1, hV1⟩ : ∃ V1, V1 = w2.alloc (.cells #[.int .i64 x.flags, .int .i64 x.till, .int .i64 x.cas, .int .i64 x.used] 3) := ⟨_, rfl⟩
                have hbV1 : Below w2.heap.size w2 V1 := by rw [hV1]; exact (Below.refl _ _).alloc (Nat.le_refl _) _
                have HF1 : Hid (V1.heap[w2.heap.size]? = some (.cells #[.int .i64 x.flags, .int .i64 x.till, .int .i64 x.cas, .int .i64 x.used] 3 (0, 0))) := by show _ = _; rw [hV1]; exact blk_new w2 _
                have HWV1 := Lib.hid (HW2.out.below hbV1)
                have HTV1 := Lib.hid (HT2.out.trans (Wrote.of_below hbV1 HW2.out.big))
                rw [← hV1]
                clear hV1 hbV1 f1 f2 f3 f4 HW2 HT2 HR2
                obtain ⟨LC, hLC⟩ : ∃ LC : Str, LC = LB ++ textOf (bl x.key) := ⟨_, rfl⟩
                rw [← hLC] at HWV1
                have HLC := Lib.hid hLC
                have HLC2 : Hid (LC.length ≤ 500040) := by show _ ≤ _; have := HLB3.out; have := textOf_len (bl x.key) (by rw [bl_length]; omega); rw [bl_length] at this; rw [hLC, List.length_append]; omega
                clear hLC
                obtain ⟨wo2, rfl⟩ : ∃ wo2 : World, wo2 = wr := ⟨_, rfl⟩
                go_loopw [104] (fun i wr => ∃ j : Nat, j ≤ 4 ∧ i = .int .i64 j ∧ Hid (Writer w1.heap.size g wr (LC ++ sevs ((fourOf x).take j))) ∧ Hid (Wrote w1.heap.size g V0 wr) ∧ Hid (wr.heap[w2.heap.size]? = some (.cells #[.int .i64 x.flags, .int .i64 x.till, .int .i64 x.cas, .int .i64 x.used] 3 (0, 0)))) (fun i _ => 4 - (intOf i).toNat)
                case atStart => exact ⟨0, by omega, rfl, by show Writer _ _ _ _; simpa [sevs] using HWV1.out, HTV1, HF1⟩
                case round =>
                  obtain ⟨j, hj, rfl, HWj, HTj, HFj⟩ := hrel
                  by_cases hj4 : j < 4
                  ·
                    have cj : wr.cell? ⟨w2.heap.size, j, none⟩ = some (.int .i64 ((fourOf x)[j]'hj4)) := by rw [cell_of_row wr _ _ _ _ _ HFj.out]; exact four_get x j hj4
                    have hx := four_ok HIN.out j hj4
                    have HSj := Lib.hid (sevs_snoc (fourOf x) j hj4)
                    obtain ⟨y, hyy⟩ : ∃ y, y = (fourOf x)[j]'hj4 := ⟨_, rfl⟩
                    rw [← hyy] at cj hx HSj
                    obtain ⟨y0, y1⟩ := hx
                    have HLj : Hid ((LC ++ sevs ((fourOf x).take j)).length + 10 ≤ 140737488355328) := by
                      show _ ≤ _
                      have h1 := sevs_len ((fourOf x).take j) (fun n hn => by
                        obtain ⟨q, hq, rfl⟩ := List.mem_iff_getElem.1 (List.mem_of_mem_take hn)
                        exact (four_ok HIN.out q hq).2)
                      have h2 : ((fourOf x).take j).length ≤ 4 := by rw [List.length_take]; omega
                      have := HLC2.out
                      rw [List.length_append]; omega
                    have hj0 : (0 : Int) ≤ (j : Int) := by omega
                    have hj1 : (j : Int) < 4 := by omega
                    clear hyy
                    go_wp2_with fail
                    refine (w_num y y0 y1 w1.heap.size g _ _ HWj.out.f HLj.out).mono ?_
                    rintro e w3 ⟨rfl, hW3, hT3⟩
                    rw [List.append_assoc, ← HSj.out] at hW3
                    have HW3 := Lib.hid hW3
                    have HT3 := Lib.hid (HTj.out.trans hT3)
                    have HF3 := Lib.hid (hT3.typed _ _ _ _ HFj.out (by decide) (by omega))
                    clear hW3 hT3 cj
                    go_wp2_with fail
                    go_roundw
                    case rel => first | exact ⟨j + 1, by omega, by go_num, HW3, HT3, HF3⟩ | ((repeat apply Exists.intro); exact ⟨⟨j + 1, by omega, by go_num, HW3, HT3, HF3⟩, rfl⟩)
                    case measure => simp [intOf]; omega
                  ·
                    obtain rfl : j = 4 := by omega
                    have HWq : Hid (Writer w1.heap.size g wr (LC ++ sevs (fourOf x))) := by
                      have h := HWj.out
                      rw [show (fourOf x).take 4 = fourOf x from List.take_of_length_le (Nat.le_refl _)] at h
                      exact h
                    obtain ⟨LD, hLD⟩ : ∃ LD : Str, LD = LC ++ sevs (fourOf x) := ⟨_, rfl⟩
                    rw [← hLD] at HWq
                    have HLD := Lib.hid hLD
                    have HLD2 : Hid (LD.length ≤ 500080) := by
                      show _ ≤ _
                      have h1 := sevs_len (fourOf x) (fun n hn => by
                        obtain ⟨q, hq, rfl⟩ := List.mem_iff_getElem.1 hn
                        exact (four_ok HIN.out q hq).2)
                      have := HLC2.out
                      have h4 : (fourOf x).length = 4 := rfl
                      rw [hLD, List.length_append]; omega
                    have HFIN : Hid (LD ++ farBytes x = L2 ++ itemsBytes (s.items.take (k + 1))) := by
                      show _ = _
                      rw [HS.out, itemBytes_eq, hLD, HLC.out, HLB2.out]; simp
                    have HBND : Hid ((LD ++ farBytes x).length ≤ 6210 + 400 * (k + 1)) := by
                      show _ ≤ _
                      have h1 := HL.out
                      have h2 := textOf_len (bl x.key) (by rw [bl_length]; omega)
                      have h3 := sevs_len (fourOf x) (fun n hn => by
                        obtain ⟨q, hq, rfl⟩ := List.mem_iff_getElem.1 hn
                        exact (four_ok HIN.out q hq).2)
                      have h4 : (fourOf x).length = 4 := rfl
                      have h5 := farBytes_len HIN.out
                      rw [bl_length] at h2
                      rw [hLD, HLC.out]
                      simp only [List.length_append]; omega
                    clear hLD HWj hj hj4
                    obtain ⟨far, hfar⟩ : ∃ b, b = x.far := ⟨_, rfl⟩
                    have HFAR := Lib.hid hfar
                    have HRq := Lib.hid (HCEL.out _ HTj.out)
                    have g6 : wr.cell? ⟨wo2.heap.size, 6, none⟩ = some (.bool far) := by rw [cell_of_row wr _ _ _ _ _ HRq.out, hfar]; rfl
                    have g5 : wr.cell? ⟨wo2.heap.size, 5, none⟩ = some (.string x.value) := by rw [cell_of_row wr _ _ _ _ _ HRq.out]; rfl
                    clear hfar
                    have HLE : Hid (LD.length + 10 ≤ 140737488355328) := by show _ ≤ _; have := HLD2.out; omega
                    cases far
                    ·
                      have HFB : Hid (farBytes x = sev 0 ++ textOf (bl x.value)) := by show _ = _; unfold farBytes; rw [← HFAR.out]; rfl
                      go_wp2_with fail
                      refine (w_num 0 (by omega) (by omega) w1.heap.size g _ _ HWq.out.f HLE.out).mono ?_
                      rintro e w3 ⟨rfl, hW3, hT3⟩
                      have HW3 := Lib.hid hW3
                      have HT3 := Lib.hid (HTj.out.trans hT3)
                      have HR3 := Lib.hid (HCEL.out _ HT3.out)
                      have q5 : w3.cell? ⟨wo2.heap.size, 5, none⟩ = some (.string x.value) := by rw [cell_of_row w3 _ _ _ _ _ HR3.out]; rfl
                      have HLF : Hid ((LD ++ sev (0 : Int).toNat).length + 10 + x.value.size ≤ 140737488355328) := by show _ ≤ _; have := HLD2.out; have := sev_le (n := (0 : Int).toNat) (by decide); rw [List.length_append]; omega
                      clear hW3 hT3 g5 g6
                      go_wp2_with fail
                      refine (w_text x.value (by omega) w1.heap.size g _ _ HW3.out HLF.out).mono ?_
                      rintro e w4 ⟨rfl, hW4, hT4⟩
                      have hW4' : Writer w1.heap.size g w4 (L2 ++ itemsBytes (s.items.take (k + 1))) := by rw [← HFIN.out, HFB.out, ← List.append_assoc]; exact hW4
                      have HW4 := Lib.hid hW4'
                      have HT4 := Lib.hid (HTV.out.trans (HT3.out.trans hT4))
                      have HL4 : Hid ((L2 ++ itemsBytes (s.items.take (k + 1))).length ≤ 6210 + 400 * (k + 1)) := by show _ ≤ _; rw [← HFIN.out]; exact HBND.out
                      clear hW4 hT4 hW4' q5
                      go_wp2_with fail
                      go_roundw
                      case rel => first | exact ⟨k + 1, by omega, by go_num, HW4, HT4, HL4⟩ | ((repeat apply Exists.intro); exact ⟨⟨k + 1, by omega, by go_num, HW4, HT4, HL4⟩, rfl⟩)
                      case measure => simp [intOf]; omega
                    ·
                      have HFB : Hid (farBytes x = sev 1 ++ sev x.place.page.toNat ++ sev x.place.off.toNat) := by show _ = _; unfold farBytes; rw [← HFAR.out]; rfl
                      obtain ⟨⟨pp0, pp1⟩, po0, po1⟩ := HIN.out.place HFAR.out.symm
                      obtain ⟨pp, hpp⟩ : ∃ p, p = x.place.page := ⟨_, rfl⟩
                      obtain ⟨po, hpo⟩ : ∃ p, p = x.place.off := ⟨_, rfl⟩
                      rw [← hpp] at pp0 pp1 HFB
                      rw [← hpo] at po0 po1 HFB
                      have HPP := Lib.hid hpp
                      have HPO := Lib.hid hpo
                      clear hpp hpo
                      go_wp2_with fail
                      refine (w_num 1 (by omega) (by omega) w1.heap.size g _ _ HWq.out.f HLE.out).mono ?_
                      rintro e w3 ⟨rfl, hW3, hT3⟩
                      have HW3 := Lib.hid hW3
                      have HT3 := Lib.hid (HTj.out.trans hT3)
                      have HR3 := Lib.hid (HCEL.out _ HT3.out)
                      have q7 : w3.cell? ⟨wo2.heap.size, 7, none⟩ = some (.int .i64 pp) := by rw [cell_of_row w3 _ _ _ _ _ HR3.out, HPP.out]; rfl
                      have HLF : Hid ((LD ++ sev (1 : Int).toNat).length + 10 ≤ 140737488355328) := by show _ ≤ _; have := HLD2.out; have := sev_le (n := (1 : Int).toNat) (by decide); rw [List.length_append]; omega
                      clear hW3 hT3 g5 g6
                      go_wp2_with fail
                      refine (w_num pp (by omega) pp1 w1.heap.size g _ _ HW3.out.f HLF.out).mono ?_
                      rintro e w4 ⟨rfl, hW4, hT4⟩
                      have HW4 := Lib.hid hW4
                      have HT4 := Lib.hid (HT3.out.trans hT4)
                      have HR4 := Lib.hid (HCEL.out _ HT4.out)
                      have q8 : w4.cell? ⟨wo2.heap.size, 8, none⟩ = some (.int .i64 po) := by rw [cell_of_row w4 _ _ _ _ _ HR4.out, HPO.out]; rfl
                      have HLG : Hid ((LD ++ sev (1 : Int).toNat ++ sev pp.toNat).length + 10 ≤ 140737488355328) := by show _ ≤ _; have := HLD2.out; have := sev_le (n := (1 : Int).toNat) (by decide); have := sev_le (n := pp.toNat) (by omega); simp only [List.length_append]; omega
                      clear hW4 hT4 q7
                      go_wp2_with fail
                      refine (w_num po po0 (by omega) w1.heap.size g _ _ HW4.out.f HLG.out).mono ?_
                      rintro e w5 ⟨rfl, hW5, hT5⟩
                      have hW5' : Writer w1.heap.size g w5 (L2 ++ itemsBytes (s.items.take (k + 1))) := by rw [← HFIN.out, HFB.out, ← List.append_assoc, ← List.append_assoc]; exact hW5
                      have HW5 := Lib.hid hW5'
                      have HT5 := Lib.hid (HTV.out.trans (HT4.out.trans hT5))
                      have HL5 : Hid ((L2 ++ itemsBytes (s.items.take (k + 1))).length ≤ 6210 + 400 * (k + 1)) := by show _ ≤ _; rw [← HFIN.out]; exact HBND.out
                      clear hW5 hT5 hW5' q8
                      go_wp2_with fail
                      go_roundw
                      case rel => first | exact ⟨k + 1, by omega, by go_num, HW5, HT5, HL5⟩ | ((repeat apply Exists.intro); exact ⟨⟨k + 1, by omega, by go_num, HW5, HT5, HL5⟩, rfl⟩)
                      case measure => simp [intOf]; omega
              ·
                have hk2 : k = s.items.length := by omega
                have HWE : Hid (Writer w1.heap.size g wr (bodyOf s)) := by
                  have h := HW.out
                  rw [hk2, List.take_length, HE2.out, HE1.out] at h
                  exact h
                have HLN : Hid ((bodyOf s).length ≤ 500000) := by
                  have h := HL.out
                  rw [hk2, List.take_length, HE2.out, HE1.out] at h
                  exact Nat.le_trans h (by omega)
                obtain ⟨L, hL⟩ : ∃ L, L = bodyOf s := ⟨_, rfl⟩
                rw [← hL] at HWE HLN HT
                obtain ⟨va, vc, hh, how⟩ := HWE.out.rows
                have HOW := Lib.hid how
                have hby := own_bytes how
                have HBY := Lib.hid hby
                have hbig := HWE.out.big
                have HLM : Hid (L.length ≤ 140737488355328) := by show _ ≤ _; have := HLN.out; omega
                have HLO : Hid (L.length + 4 ≤ 140737488355328) := by show _ ≤ _; have := HLN.out; omega
                have c0 : wr.cell? ⟨g, 0, none⟩ = some (.slice va L.length vc) := by rw [cell_of_row wr _ _ _ _ _ hh]; rfl
                obtain ⟨⟨xx, yy⟩, had⟩ : ∃ p, p = ad L := ⟨_, rfl⟩
                have hadl := ad_lt L
                rw [← had] at hadl
                obtain ⟨hx1, hy1⟩ := hadl
                simp only at hx1 hy1
                obtain ⟨n, hn'⟩ : ∃ n : Int, n = (yy : Int) * 65536 + (xx : Nat) := ⟨_, rfl⟩
                have HNN : Hid (n = ((ad L).2 : Int) * 65536 + ((ad L).1 : Nat)) := by show _ = _; rw [← had]; exact hn'
                obtain ⟨y1, hy1'⟩ : ∃ m, m = yy / 256 := ⟨_, rfl⟩
                obtain ⟨y0, hy0'⟩ : ∃ m, m = yy % 256 := ⟨_, rfl⟩
                obtain ⟨x1, hx1'⟩ : ∃ m, m = xx / 256 := ⟨_, rfl⟩
                obtain ⟨x0, hx0'⟩ : ∃ m, m = xx % 256 := ⟨_, rfl⟩
                have HSL : Hid (sealOf L = [UInt8.ofNat y1, UInt8.ofNat y0, UInt8.ofNat x1, UInt8.ofNat x0]) := by show _ = _; unfold sealOf; rw [← had, hy1', hy0', hx1', hx0']
                obtain ⟨z, hz'⟩ : ∃ z : Nat, z = yy * 256 + x1 := ⟨_, rfl⟩
                have b1 : y1 < 256 := by omega
                have b2 : y0 < 256 := by omega
                have b3 : x1 < 256 := by omega
                have b4 : x0 < 256 := by omega
                have d1 : n / 16777216 = (y1 : Int) := by omega
                have d2 : n / 65536 = (yy : Int) := by omega
                have d3 : n / 256 = (z : Int) := by omega
                have u2 : (yy : Int) % 256 = (y0 : Int) := by omega
                have u3 : (z : Int) % 256 = (x1 : Int) := by omega
                have u4 : n % 256 = (x0 : Int) := by omega
                have n0 : 0 ≤ n := by omega
                have n1 : n ≤ 4294967295 := by omega
                have HBWR : Hid (Below w.heap.size w wr) := HBW.out
                clear hL HW HL hk hk2 hh how hby had hy1' hy0' hx1' hx0' hz' hn'
                go_wp2_with fail
                refine (sum_is L n HNN va vc _ HBY.out HLM.out).mono ?_
                rintro e w2 ⟨rfl, rfl⟩
                go_wp2_with (at_builtin; go_must (refine list_append_row _ rfl (.tmp 141) (.tmp 153) rfl w1.heap.size _ L rfl (.inl (owns_below HOW.out ((Below.refl _ _).alloc (Nat.le_refl _) _))) ⟨wr.heap.size, 0, none⟩ 4 4 [.int .u8 (y1 : Int), .int .u8 (y0 : Int), .int .u8 (x1 : Int), .int .u8 (x0 : Int)] rfl rfl (news_lit _ _ _ _ _ rfl rfl) (ones rfl) (by omega) HLO.out (by simp; omega) ?_))
                intro va1 vc1 w3 how3 hgr3
                have HO3 : Hid (w3.ownsRow w1.heap.size 5 1 (.slice va1 (L ++ sealOf L).length vc1) (L ++ sealOf L).length ((L ++ sealOf L).map byteV)) := by
                  show World.ownsRow _ _ _ _ _ _ _
                  rw [List.map_append, HSL.out]
                  simp only [List.map_cons, List.map_nil, ← byte_cell b1, ← byte_cell b2, ← byte_cell b3, ← byte_cell b4, List.length_append, List.length_cons, List.length_nil]
                  exact how3
                have hbw3 : Below w.heap.size w w3 := (HBWR.out.alloc HBWR.out.size _).grown hgr3 (by have := HBWR.out.size; simp; omega) (fun q e => by have := (HOW.out.lt q e).1; omega)
                clear how3 hgr3
                go_wp2_with fail
                go_ret2
                rw [HT.out]
                refine ⟨va1, vc1, by rw [show (L ++ sealOf L).length = L.length + 4 by simp [sealOf]]; rfl, own_bytes HO3.out, (own_cap HO3.out).1, (own_cap HO3.out).2, hbw3⟩
end Go.Proofs.YtbipegbgfdpaeaaDoor.D
