/-
  Contracts: snap's writer of numbers and texts, its sum; ref.sevens, ref.withText, ref.SealOf.
-/
import Derived.Test.YtbipegbgfdpaeaaDoorPSnap
import Derived.Test.YtbipegbgfdpaeaaDoorCRStoreCopy
import Derived.Lib.AppendStr
import Derived.Laws.BitsLemmas
import Derived.ArgAppend
namespace Go.Proofs.YtbipegbgfdpaeaaDoor.D
open Go.RowKit
/-- a new row of bytes -/
def RowEnd (l : Str) (w : World) (e : Ending) (w' : World) : Prop := ∃ v, e = .returned v ∧ w'.ownsRow w.heap.size 5 1 v l.length (l.map byteV) ∧ Below w.heap.size w w'
theorem byte_cell {n : Nat} (h : n < 256) : Value.int .u8 (n : Int) = byteV (UInt8.ofNat n) := by unfold byteV; rw [u8_back h]
set_option maxRecDepth 100000 in
set_option maxHeartbeats 1000000 in
theorem ref_sevens (n : Nat) (hn : n ≤ 9223372036854775807) (w : World) : Calls Tryd.prog 42 #[.int .i64 (n : Nat)] w (RowEnd (sev n) w) := by
  induction n using Nat.strongRecOn generalizing w with
  | _ n ih =>
    have HIH := Lib.hid ih
    clear ih
    by_cases h : n < 128
    ·
      have HS := Lib.hid (sev_small h)
      clear hn HIH
      go_enter Tryd.func42, Tryd.ntmps42
      go_wp2_with fail
      go_ret
      refine ⟨_, rfl, ?_, by go_grown⟩
      rw [HS.out]
      exact ownsRow_lit w w.heap.size #[.int .u8 (n : Nat)] _ w.heap.size 1 1 (Nat.le_refl _) rfl (by decide) rfl |> fun h => by simpa [byte_cell (show n < 256 by omega)] using h
    ·
      have HS := Lib.hid (sev_big h)
      have hl := sev_le (n := n / 128) (by omega)
      have hp := sev_pos (n / 128)
      obtain ⟨q, hq⟩ : ∃ q, q = n / 128 := ⟨_, rfl⟩
      obtain ⟨r, hr⟩ : ∃ r, r = n % 128 := ⟨_, rfl⟩
      have hq1 : q < n := by omega
      have hr1 : r < 128 := by omega
      have hd1 : (n : Int) / 128 = (q : Int) := by omega
      have hd2 : (n : Int) % 128 = (r : Int) := by omega
      have hn1 : ¬ (n : Int) < 128 := by omega
      rw [← hq] at hl hp HS
      rw [← hr] at HS
      clear hq hr h
      obtain ⟨i0, hi, hz0, hz1, hz2⟩ := info_parts infoByte
      go_enter Tryd.func42, Tryd.ntmps42
      go_wp2_with fail
      refine (HIH.out q hq1 (by omega) _).mono ?_
      rintro e w1 ⟨v, rfl, how, hb⟩
      obtain ⟨g, cap, rfl, _, _, _, _, hcell⟩ := own_shape how hp
      have hz0' : w.heap.size < w1.heap.size := by have := hb.size; simp at this; omega
      have hrow1 := (hb.block w.heap.size (by go_size)).trans (blk_new w _)
      have HROW := Lib.hid hrow1
      have HN : Hid (∀ j u, ((sev q).map byteV)[j]? = some u → w1.cell? ((⟨g, 0, none⟩ : Addr).add j) = some u) := fun j u hu => by rw [addr_add, Nat.zero_add]; exact hcell j u hu
      have HO : Hid (∀ u ∈ (sev q).map byteV, u.oneCell' = true) := by intro u hu; simp at hu; obtain ⟨_, _, rfl⟩ := hu; rfl
      have hbw : Below w.heap.size w w1 := Below.trans (by go_grown) (hb.mono (by go_size))
      have HOWN : Hid (w1.ownsRow w.heap.size 5 1 (.slice (some ⟨w.heap.size, 0, none⟩) 1 1) 1 [.int .u8 (128 + (r : Int))]) := owns_below (ownsRow_lit w _ #[.int .u8 (128 + (r : Int))] _ w.heap.size 1 1 (Nat.le_refl _) rfl (by decide) rfl) hb
      have HE : Hid ((1 + (sev q).length = (sev n).length) ∧ [Value.int .u8 (128 + (r : Int))] ++ (sev q).map byteV = (sev n).map byteV) := by
        constructor
        · rw [HS.out]; simp; omega
        · rw [HS.out, List.map_cons, ← byte_cell (show 128 + r < 256 by omega)]; simp
      clear hb how hcell hrow1
      go_wp2_with (at_builtin; go_must (refine wpList_append_own _ rfl (.tmp 12) (.tmp 15) 38 rfl w.heap.size 5 i0 (.int .u8 0) 1 1 Tryd.underlying38 hi hz0 hz1 hz2 rfl (by decide) _ 1 [.int .u8 (128 + (r : Int))] rfl HOWN.out ⟨g, 0, none⟩ (sev q).length cap ((sev q).map byteV) rfl (by simp) HN.out HO.out (by unfold maxLen; omega) (by omega) (by omega) ?_))
      intro v' w2 how2 hg _
      rw [HE.out.1] at how2
      have HOW2 : Hid (w2.ownsRow w.heap.size 5 1 v' (sev n).length ((sev n).map byteV)) := by rw [← HE.out.2]; exact how2
      have hb2 : Below w.heap.size w w2 := hbw.grown hg hbw.size (fun b e => by cases e; exact Nat.le_refl _)
      clear how2 hg
      go_wp2_with fail
      go_ret
      exact ⟨_, rfl, HOW2.out, hb2⟩
theorem own_type_ne {w : World} {base : Nat} {e T : TypeId} {size : Nat} {v : Value} {n : Nat} {xs : List Value} {g : Nat} {cs : Array Value} {fr : Nat × Nat} (h : w.ownsRow base e size v n xs) (hb : w.heap[g]? = some (.cells cs T fr)) (hT : T ≠ e) : v.ownBlock ≠ some g := by
  intro he
  rcases h.2 with ⟨hv, _⟩ | ⟨k, cap, cur, hv, _, hh, _⟩
  · rw [hv] at he; cases he
  · rw [hv] at he
    obtain rfl : k = g := by simpa [Value.ownBlock] using he
    rw [hh] at hb
    simp only [Option.some.injEq, Obj.cells.injEq] at hb
    exact hT hb.2.1.symm
theorem owns_off {w : World} {base : Nat} {e : TypeId} {size : Nat} {v : Value} {n : Nat} {xs : List Value} {g i : Nat} {x : Value} (h : w.ownsRow base e size v n xs) (hne : v.ownBlock ≠ some g) : (w.setCell ⟨g, i, none⟩ x).ownsRow base e size v n xs := by
  refine ⟨h.1, ?_⟩
  rcases h.2 with hn | ⟨k, cap, cur, rfl, hg, hh, rest⟩
  · exact .inl hn
  · refine .inr ⟨k, cap, cur, rfl, hg, ?_, rest⟩
    rw [Below.heap_setCell w ⟨g, i, none⟩ x k (fun e => hne (by show some k = some g; rw [show k = g from e]))]; exact hh
/-- bytes of the call's own, or a row without room -/
def RowF (base : Nat) (w : World) (v : Value) (l : Str) : Prop :=
  w.ownsRow base 5 1 v l.length (l.map byteV) ∨ ∃ b, v = .slice (some ⟨b, 0, none⟩) l.length l.length ∧ base ≤ b ∧ (∀ j u, (l.map byteV)[j]? = some u → w.cell? ⟨b, j, none⟩ = some u) ∧ ∃ cs fr, w.heap[b]? = some (.cells cs 5 fr)
theorem RowF.lt {base : Nat} {w : World} {v : Value} {l : Str} (h : RowF base w v l) : ∀ k, v.ownBlock = some k → base ≤ k ∧ k < w.heap.size := by
  rcases h with h | ⟨b, rfl, hb, _, cs, fr, hh⟩
  · exact h.lt
  · intro k hk
    obtain rfl : b = k := by simpa [Value.ownBlock] using hk
    exact ⟨hb, (Array.getElem?_eq_some_iff.1 hh).1⟩
theorem RowF.type_ne {base : Nat} {w : World} {v : Value} {l : Str} {T : TypeId} {g : Nat} {cs : Array Value} {fr : Nat × Nat} (h : RowF base w v l) (hb : w.heap[g]? = some (.cells cs T fr)) (hT : T ≠ 5) : v.ownBlock ≠ some g := by
  rcases h with h | ⟨b, rfl, _, _, cs', fr', hh⟩
  · exact own_type_ne h hb hT
  · intro he
    obtain rfl : b = g := by simpa [Value.ownBlock] using he
    rw [hh] at hb
    simp only [Option.some.injEq, Obj.cells.injEq] at hb
    exact hT hb.2.1.symm
theorem RowF.below {base : Nat} {w w' : World} {v : Value} {l : Str} (h : RowF base w v l) (hb : Below w.heap.size w w') : RowF base w' v l := by
  rcases h with h | ⟨b, hv, h1, h2, cs, fr, hh⟩
  · exact .inl (owns_below h hb)
  · exact .inr ⟨b, hv, h1, fun j u hj => Below.keeps hb _ _ (h2 j u hj), cs, fr, (hb.block b (Array.getElem?_eq_some_iff.1 hh).1).trans hh⟩
theorem grown_any {w w' : World} (h : w.grownBy w' none) (r : Option Nat) : w.grownBy w' r := ⟨h.os, h.tape, h.output, h.size, fun k hk _ => h.block k hk (fun e => by cases e)⟩
theorem list_append_row {ops : Array Oper} {rest : List Oper} {o : Oper} {a : Act} {Q : Exit → Act → World → Prop} (w : World) (hgd : o.guard = none) (s x : Operand)
    (ho : o.op = .call { callee := .builtin .append, args := #[s, x], argTypes := #[38, 38] }) (base : Nat) (v : Value) (l : Str) (hs : a.eval s = v) (hown : RowF base w v l)
    (ad : Addr) (m c : Nat) (news : List Value) (hx : a.eval x = .slice (some ad) m c) (hl : news.length = m) (hnews : ∀ j u, news[j]? = some u → w.cell? (ad.add j) = some u) (h1 : ∀ u ∈ news, u.oneCell' = true) (hm : 0 < m)
    (hbytes : l.length + m ≤ 140737488355328) (hbase : base ≤ w.heap.size)
    (h : ∀ va vc w', w'.ownsRow base 5 1 (.slice va (l.length + m) vc) (l.length + m) (l.map byteV ++ news) → w.grownBy w' v.ownBlock → wpList Tryd.prog ops Q rest (a.put o.dst (.slice va (l.length + m) vc)) w') : wpList Tryd.prog ops Q (o :: rest) a w := by
  obtain ⟨i0, hi, hz0, hz1, hz2⟩ := info_parts infoByte
  have fin : ∀ v' w', w'.ownsRow base 5 1 v' (l.length + m) (l.map byteV ++ news) → w.grownBy w' v.ownBlock → wpList Tryd.prog ops Q rest (a.put o.dst v') w' := by
    intro v' w' h2 h3
    rcases h2.2 with ⟨_, h0⟩ | ⟨k, cap, cur, rfl, rest⟩
    · omega
    · exact h _ _ w' h2 h3
  rcases hown with how | ⟨b, rfl, hb, hc, cs, fr, hh⟩
  · exact wpList_append_own w hgd s x 38 ho base 5 i0 (.int .u8 0) 1 1 Tryd.underlying38 hi hz0 hz1 hz2 rfl (by decide) v l.length (l.map byteV) hs how ad m c news hx (by omega) hnews h1 (by unfold maxLen; omega) (by omega) hbase (fun v' w' h2 h3 _ => fin v' w' h2 h3)
  · refine wpList_append_grows w hgd s x 38 ho 5 i0 (.int .u8 0) 1 1 Tryd.underlying38 hi hz0 hz1 hz2 rfl (by decide) (some ⟨b, 0, none⟩) l.length l.length (l.map byteV) hs (fun h => by cases h) (by simp) (fun q hq j u hj => ?_) ad m c news hx (by omega) hnews h1 (by omega) (by unfold maxLen; omega) (by omega) (fun v' w' h2 h3 => fin v' w' (owns_base h2 hbase) (grown_any h3 _))
    cases hq
    rw [addr_add, Nat.zero_add]; exact hc j u hj
/-- the writer: one cell at g that holds bytes of the call's own -/
structure Writer (base g : Nat) (w : World) (l : Str) : Prop where
  ex : ∃ v, w.heap[g]? = some (.cells #[v] 70 (0, 0)) ∧ w.ownsRow base 5 1 v l.length (l.map byteV)
  big : base ≤ w.heap.size
structure WriterF (base g : Nat) (w : World) (l : Str) : Prop where
  ex : ∃ v, w.heap[g]? = some (.cells #[v] 70 (0, 0)) ∧ RowF base w v l
  big : base ≤ w.heap.size
theorem Writer.f {base g : Nat} {w : World} {l : Str} (h : Writer base g w l) : WriterF base g w l := by
  obtain ⟨v, hh, how⟩ := h.ex
  exact ⟨⟨v, hh, .inl how⟩, h.big⟩
/-- what was there but the writer is as it was, below its bytes, and what is of another type -/
structure Wrote (base g : Nat) (w w' : World) : Prop where
  outer : w'.os = w.os ∧ w'.tape = w.tape ∧ w'.output = w.output ∧ w.heap.size ≤ w'.heap.size
  same : ∀ k, k < base → k ≠ g → w'.heap[k]? = w.heap[k]?
  typed : ∀ (k : Nat) (cs : Array Value) (T : TypeId) (fr : Nat × Nat), w.heap[k]? = some (Obj.cells cs T fr) → T ≠ 5 → k ≠ g → w'.heap[k]? = some (Obj.cells cs T fr)
theorem Wrote.refl (base g : Nat) (w : World) : Wrote base g w w := ⟨⟨rfl, rfl, rfl, Nat.le_refl _⟩, fun _ _ _ => rfl, fun _ _ _ _ h _ _ => h⟩
theorem Wrote.trans {base g : Nat} {a b c : World} (h : Wrote base g a b) (k : Wrote base g b c) : Wrote base g a c :=
  ⟨⟨k.1.1.trans h.1.1, k.1.2.1.trans h.1.2.1, k.1.2.2.1.trans h.1.2.2.1, Nat.le_trans h.1.2.2.2 k.1.2.2.2⟩, fun j h1 h2 => (k.same j h1 h2).trans (h.same j h1 h2), fun j cs T fr h1 h2 h3 => k.typed j cs T fr (h.typed j cs T fr h1 h2 h3) h2 h3⟩
theorem Wrote.of_below {base g : Nat} {w w' : World} (h : Below w.heap.size w w') (hb : base ≤ w.heap.size) : Wrote base g w w' :=
  ⟨⟨h.os, h.tape, h.output, h.size⟩, fun k hk _ => h.block k (by omega), fun k _ _ _ h1 _ _ => (h.block k (Array.getElem?_eq_some_iff.1 h1).1).trans h1⟩
/-- it counts as nothing that was there ahead of the call -/
theorem Wrote.to {base g n : Nat} {w0 w w' : World} (h : Wrote base g w w') (hb : Below n w0 w) (h1 : n ≤ base) (h2 : n ≤ g) : Below n w0 w' :=
  hb.trans ⟨h.1.1, h.1.2.1, h.1.2.2.1, h.1.2.2.2, fun k hk => h.same k (by omega) (by omega)⟩
theorem Writer.below {base g : Nat} {w w' : World} {l : Str} (h : Writer base g w l) (hb : Below w.heap.size w w') : Writer base g w' l := by
  obtain ⟨v, hh, how⟩ := h.ex
  exact ⟨⟨v, (hb.block g (Array.getElem?_eq_some_iff.1 hh).1).trans hh, owns_below how hb⟩, Nat.le_trans h.big hb.size⟩
def NumEnd (base g : Nat) (l : Str) (w : World) (e : Ending) (w' : World) : Prop := e = .returned (.tuple #[]) ∧ Writer base g w' l ∧ Wrote base g w w'
theorem writer_put {base g : Nat} {w w1 : World} {v v1 : Value} {l l1 : Str} (hh : w.heap[g]? = some (.cells #[v] 70 (0, 0))) (how : RowF base w v l) (hbig : base ≤ w.heap.size)
    {W : World} (hb : Below w.heap.size w W) (hgr : W.grownBy w1 v.ownBlock) (how1 : w1.ownsRow base 5 1 v1 l1.length (l1.map byteV)) :
    Writer base g (w1.setCell ⟨g, 0, none⟩ v1) l1 ∧ Wrote base g w (w1.setCell ⟨g, 0, none⟩ v1) ∧ (∀ j, w1.frozen? ⟨g, j, none⟩ = false) ∧ w1.cell? ⟨g, 0, none⟩ = some v := by
  have hgw : g < w.heap.size := (Array.getElem?_eq_some_iff.1 hh).1
  have hsame : ∀ k, k < w.heap.size → v.ownBlock ≠ some k → w1.heap[k]? = w.heap[k]? := fun k hk hne => (hgr.block k (Nat.lt_of_lt_of_le hk hb.size) (fun e => hne e.symm)).trans (hb.block k hk)
  have hh1 := (hsame g hgw (how.type_ne hh (by decide))).trans hh
  have hs := setCell_eq_setRow w1 g 0 _ _ _ v1 hh1
  have hsz : w.heap.size ≤ (w1.setCell ⟨g, 0, none⟩ v1).heap.size := by have := hgr.size; have := hb.size; simp; omega
  refine ⟨⟨⟨v1, ?_, ?_⟩, by omega⟩, ⟨⟨hgr.os.trans hb.os, hgr.tape.trans hb.tape, hgr.output.trans hb.output, hsz⟩, fun k hk hne => ?_, fun k cs T fr h1 hT hne => ?_⟩, fun j => frozen_of_row w1 _ _ _ _ hh1, by rw [cell_of_row w1 _ _ _ _ _ hh1]; rfl⟩
  · rw [hs]; exact setRow_heap w1 g _ _ _ _ hh1
  · exact owns_off how1 (own_type_ne how1 hh1 (by decide))
  · rw [Below.heap_setCell w1 ⟨g, 0, none⟩ v1 k hne]
    exact hsame k (by omega) (fun e => by have := (how.lt k e).1; omega)
  · rw [Below.heap_setCell w1 ⟨g, 0, none⟩ v1 k hne, hsame k (Array.getElem?_eq_some_iff.1 h1).1 (how.type_ne h1 hT)]
    exact h1
theorem and127 (k q : Nat) (hk : k ≤ 9223372036854775807) (hq : q = k % 128) : bits .and .i64 (k : Int) 127 = (q : Int) := by
  have h := (bits_nat .i64 63 (by decide) (fun n h0 h1 => IntWalk.i64_in _ ⟨by omega, by omega⟩) k 127 (by omega) (by omega)).1
  rw [show k &&& 127 = k % 128 from Nat.and_two_pow_sub_one_eq_mod k 7, ← hq] at h
  exact h
theorem or128 (q : Nat) (hq : q < 128) : bits .or .i64 (q : Int) 128 = ((q + 128 : Nat) : Int) := by
  have h := (bits_nat .i64 63 (by decide) (fun n h0 h1 => IntWalk.i64_in _ ⟨by omega, by omega⟩) q 128 (by omega) (by omega)).2
  rw [Nat.or_comm, show (128 : Nat) ||| q = 128 + q from (Nat.two_pow_add_eq_or_of_lt (i := 7) (by omega) 1).symm, Nat.add_comm] at h
  exact h
set_option maxRecDepth 100000 in
set_option maxHeartbeats 1000000 in
theorem w_number (n : Nat) (hn : n ≤ 9223372036854775807) (base g : Nat) (l : Str) (w : World) (h : WriterF base g w l) (hl : l.length + 10 ≤ 140737488355328) :
    Calls Tryd.prog 39 #[.pointer (some ⟨g, 0, none⟩), .int .i64 (n : Nat)] w (NumEnd base g (l ++ sev n) w) := by
  have HW := Lib.hid h
  have HL : Hid ((l ++ sev n).length ≤ 140737488355328) := by show _ ≤ _; have := sev_le hn; rw [List.length_append]; omega
  clear h
  go_enter Tryd.func39, Tryd.ntmps39
  go_wp2_with fail
  go_loopw [1] (fun t wr => ∃ m : Nat, ∃ l' : Str, t = .int .i64 m ∧ Hid (m ≤ 9223372036854775807) ∧ Hid (WriterF base g wr l') ∧ Hid (l' ++ sev m = l ++ sev n) ∧ Hid (Wrote base g w wr)) (fun t _ => (intOf t).toNat)
  case atStart => exact ⟨n, l, rfl, hn, HW.out, rfl, Wrote.refl _ _ _⟩
  case round =>
    obtain ⟨m, l', rfl, HM, HWR, HE, HWT⟩ := hrel
    obtain ⟨⟨v, hh, how⟩, hbig⟩ := HWR.out
    have c0 : wr.cell? ⟨g, 0, none⟩ = some v := by rw [cell_of_row wr _ _ _ _ _ hh]; rfl
    have f0 : wr.frozen? ⟨g, 0, none⟩ = false := frozen_of_row wr _ _ _ _ hh
    have hlen : l'.length + 1 ≤ 140737488355328 := by
      have h1 := HL.out
      rw [← HE.out, List.length_append] at h1
      have := sev_pos m; omega
    have HH := Lib.hid hh
    have HOW := Lib.hid how
    have hm63 : (m : Int) ≤ 9223372036854775807 := by have := HM.out; omega
    have hgw : g < wr.heap.size := (Array.getElem?_eq_some_iff.1 hh).1
    clear hh how
    by_cases hm : 127 < m
    ·
      obtain ⟨q, hq⟩ : ∃ q, q = m % 128 := ⟨_, rfl⟩
      obtain ⟨d, hd⟩ : ∃ d, d = m / 128 := ⟨_, rfl⟩
      have hq1 : q < 128 := by omega
      have hd1 : (m : Int) / 128 = (d : Int) := by omega
      have hdm : d < m := by omega
      have hx := and127 m q HM.out hq
      have hy := or128 q hq1
      have HM2 : Hid (d ≤ 9223372036854775807) := by show _ ≤ _; have := HM.out; omega
      have HE2 : Hid ((l' ++ [UInt8.ofNat (q + 128)]) ++ sev d = l ++ sev n) := by show _ = _; rw [← HE.out, sev_big (show ¬ m < 128 by omega), ← hq, ← hd, Nat.add_comm]; simp
      have hmi : (127 : Int) < (m : Int) := by omega
      clear hq hd
      go_wp2_with (at_builtin; go_must (refine list_append_row _ rfl (.tmp 10) (.tmp 15) rfl base _ l' rfl (HOW.out.below ((Below.refl _ _).alloc (Nat.le_refl _) _)) ⟨wr.heap.size, 0, none⟩ 1 1 [.int .u8 ((q : Int) + 128)] rfl rfl (news_lit _ _ _ _ _ rfl rfl) (ones rfl) (by omega) (by omega) (by simp; omega) ?_))
      intro va1 vc1 w1 how1 hgr
      have hB : [Value.int .u8 ((q : Int) + 128)] = [UInt8.ofNat (q + 128)].map byteV := by rw [List.map_cons, ← byte_cell (show q + 128 < 256 by omega)]; simp
      obtain ⟨hW1, hWT1, fz1, cc1⟩ := writer_put (l1 := l' ++ [UInt8.ofNat (q + 128)]) HH.out HOW.out hbig ((Below.refl _ _).alloc (Nat.le_refl _) _) hgr (by rw [List.length_append, List.map_append, ← hB]; exact how1)
      have HW1 := Lib.hid hW1
      have HWT1 := Lib.hid (HWT.out.trans hWT1)
      have fz := fz1 0
      clear how1 hgr hW1 hWT1 fz1 f0 c0 hB
      go_wp2_with fail
      go_roundw
      case rel => exact ⟨d, _, rfl, HM2, HW1.out.f, HE2, HWT1⟩
      case measure => simp [intOf]; omega
    ·
      have HE2 : Hid (l' ++ [UInt8.ofNat m] = l ++ sev n) := by show _ = _; rw [← HE.out, sev_small (show m < 128 by omega)]
      have hmi : (m : Int) ≤ 127 := by omega
      go_wp2_with (at_builtin; go_must (refine list_append_row _ rfl (.tmp 25) (.tmp 28) rfl base _ l' rfl (HOW.out.below ((Below.refl _ _).alloc (Nat.le_refl _) _)) ⟨wr.heap.size, 0, none⟩ 1 1 [.int .u8 ((m : Int))] rfl rfl (news_lit _ _ _ _ _ rfl rfl) (ones rfl) (by omega) (by omega) (by simp; omega) ?_))
      intro va1 vc1 w1 how1 hgr
      have hB : [Value.int .u8 ((m : Int))] = [UInt8.ofNat m].map byteV := by rw [List.map_cons, ← byte_cell (show m < 256 by omega)]; simp
      obtain ⟨hW1, hWT1, fz1, cc1⟩ := writer_put (l1 := l' ++ [UInt8.ofNat m]) HH.out HOW.out hbig ((Below.refl _ _).alloc (Nat.le_refl _) _) hgr (by rw [List.length_append, List.map_append, ← hB]; exact how1)
      rw [HE2.out] at hW1
      have HW1 := Lib.hid hW1
      have HWT1 := Lib.hid (HWT.out.trans hWT1)
      have fz := fz1 0
      clear how1 hgr hW1 hWT1 fz1 f0 c0 hB
      go_wp2_with fail
      go_end0
      exact ⟨rfl, HW1.out, HWT1.out⟩
end Go.Proofs.YtbipegbgfdpaeaaDoor.D
