/-
 Contracts: snap's writer, its sum, snap.Encode.
-/
import Derived.Test.YtbeegfkfpkfccaaGreatDoorYCTickS
import Derived.Test.YtbeegfkfpkfccaaGreatDoorYOwn
import Derived.Test.YtbeegfkfpkfccaaGreatDoorYPlain
import Derived.Lib.AppendStr
import Derived.Laws.BitsLemmas
import Derived.ArgAppend
import Derived.Lib.SlBytesConst
namespace Go.Proofs.YtbeegfkfpkfccaaGreatDoor.D
open Go.RowKit
/-- a new row of bytes -/
def RowEnd (l : Str) (w : World) (e : Ending) (w' : World) : Prop := ∃ v, e = .returned v ∧ w'.ownsRow w.heap.size 5 1 v l.length (l.map byteV) ∧ Below w.heap.size w w'
theorem byte_cell {n : Nat} (h : n < 256) : Value.int .u8 (n : Int) = byteV (UInt8.ofNat n) := by unfold byteV; rw [u8_back h]
theorem own_type_ne {w : World} {base : Nat} {e T : TypeId} {size : Nat} {v : Value} {n : Nat} {xs : List Value} {g : Nat} {cs : Array Value} {fr : Nat × Nat} (h : w.ownsRow base e size v n xs) (hb : w.heap[g]? = some (.cells cs T fr)) (hT : T ≠ e) : v.ownBlock ≠ some g := by
 intro he
 rcases h.2 with ⟨hv, _⟩ | ⟨k, cap, cur, hv, _, hh, _⟩
 ·rw [hv] at he; cases he
 ·rw [hv] at he
  obtain rfl : k = g := by simpa [Value.ownBlock] using he
  rw [hh] at hb
  simp only [Option.some.injEq, Obj.cells.injEq] at hb
  exact hT hb.2.1.symm
theorem owns_off {w : World} {base : Nat} {e : TypeId} {size : Nat} {v : Value} {n : Nat} {xs : List Value} {g i : Nat} {x : Value} (h : w.ownsRow base e size v n xs) (hne : v.ownBlock ≠ some g) : (w.setCell ⟨g, i, none⟩ x).ownsRow base e size v n xs := by
 refine ⟨h.1, ?_⟩
 rcases h.2 with hn | ⟨k, cap, cur, rfl, hg, hh, rest⟩
 ·exact .inl hn
 ·refine .inr ⟨k, cap, cur, rfl, hg, ?_, rest⟩
  rw [Below.heap_setCell w ⟨g, i, none⟩ x k (fun e => hne (by show some k = some g; rw [show k = g from e]))]; exact hh
/-- bytes of the call's own, or a row without room -/
def RowF (base : Nat) (w : World) (v : Value) (l : Str) : Prop :=
 w.ownsRow base 5 1 v l.length (l.map byteV) ∨ ∃ b, v = .slice (some ⟨b, 0, none⟩) l.length l.length ∧ base ≤ b ∧ (∀ j u, (l.map byteV)[j]? = some u → w.cell? ⟨b, j, none⟩ = some u) ∧ ∃ cs fr, w.heap[b]? = some (.cells cs 5 fr)
theorem RowF.lt {base : Nat} {w : World} {v : Value} {l : Str} (h : RowF base w v l) : ∀ k, v.ownBlock = some k → base ≤ k ∧ k < w.heap.size := by
 rcases h with h | ⟨b, rfl, hb, _, cs, fr, hh⟩
 ·exact h.lt
 ·intro k hk
  obtain rfl : b = k := by simpa [Value.ownBlock] using hk
  exact ⟨hb, (blt hh)⟩
theorem RowF.type_ne {base : Nat} {w : World} {v : Value} {l : Str} {T : TypeId} {g : Nat} {cs : Array Value} {fr : Nat × Nat} (h : RowF base w v l) (hb : w.heap[g]? = some (.cells cs T fr)) (hT : T ≠ 5) : v.ownBlock ≠ some g := by
 rcases h with h | ⟨b, rfl, _, _, cs', fr', hh⟩
 ·exact own_type_ne h hb hT
 ·intro he
  obtain rfl : b = g := by simpa [Value.ownBlock] using he
  rw [hh] at hb
  simp only [Option.some.injEq, Obj.cells.injEq] at hb
  exact hT hb.2.1.symm
theorem RowF.below {base : Nat} {w w' : World} {v : Value} {l : Str} (h : RowF base w v l) (hb : Below w.heap.size w w') : RowF base w' v l := by
 rcases h with h | ⟨b, hv, h1, h2, cs, fr, hh⟩
 ·exact .inl (owns_below h hb)
 ·exact .inr ⟨b, hv, h1, fun j u hj => Below.keeps hb _ _ (h2 j u hj), cs, fr, (hb.block b (blt hh)).trans hh⟩
theorem grown_any {w w' : World} (h : w.grownBy w' none) (r : Option Nat) : w.grownBy w' r := ⟨h.os, h.tape, h.output, h.size, fun k hk _ => h.block k hk (fun e => by cases e)⟩
theorem list_append_row {ops : Array Oper} {rest : List Oper} {o : Oper} {a : Act} {Q : Exit → Act → World → Prop} (w : World) (hgd : o.guard = none) (s x : Operand)
  (ho : o.op = .call { callee := .builtin .append, args := #[s, x], argTypes := #[63, 63] }) (base : Nat) (v : Value) (l : Str) (hs : a.eval s = v) (hown : RowF base w v l)
  (ad : Addr) (m c : Nat) (news : List Value) (hx : a.eval x = .slice (some ad) m c) (hl : news.length = m) (hnews : ∀ j u, news[j]? = some u → w.cell? (ad.add j) = some u) (h1 : ∀ u ∈ news, u.oneCell' = true) (hm : 0 < m)
  (hbytes : l.length + m ≤ 140737488355328) (hbase : base ≤ w.heap.size)
  (h : ∀ va vc w', w'.ownsRow base 5 1 (.slice va (l.length + m) vc) (l.length + m) (l.map byteV ++ news) → w.grownBy w' v.ownBlock → wpList Tryz.prog ops Q rest (a.put o.dst (.slice va (l.length + m) vc)) w') : wpList Tryz.prog ops Q (o :: rest) a w := by
 obtain ⟨i0, hi, hz0, hz1, hz2⟩ := info_parts infoByte
 have fin : ∀ v' w', w'.ownsRow base 5 1 v' (l.length + m) (l.map byteV ++ news) → w.grownBy w' v.ownBlock → wpList Tryz.prog ops Q rest (a.put o.dst v') w' := by
  intro v' w' h2 h3
  rcases h2.2 with ⟨_, h0⟩ | ⟨k, cap, cur, rfl, rest⟩
  ·omega
  ·exact h _ _ w' h2 h3
 rcases hown with how | ⟨b, rfl, hb, hc, cs, fr, hh⟩
 ·exact wpList_append_own w hgd s x 63 ho base 5 i0 (.int .u8 0) 1 1 Tryz.underlying63 hi hz0 hz1 hz2 rfl (by decide) v l.length (l.map byteV) hs how ad m c news hx (by omega) hnews h1 (by unfold maxLen; omega) (by omega) hbase (fun v' w' h2 h3 _ => fin v' w' h2 h3)
 ·refine wpList_append_grows w hgd s x 63 ho 5 i0 (.int .u8 0) 1 1 Tryz.underlying63 hi hz0 hz1 hz2 rfl (by decide) (some ⟨b, 0, none⟩) l.length l.length (l.map byteV) hs (fun h => by cases h) (by simp) (fun q hq j u hj => ?_) ad m c news hx (by omega) hnews h1 (by omega) (by unfold maxLen; omega) (by omega) (fun v' w' h2 h3 => fin v' w' (owns_base h2 hbase) (grown_any h3 _))
  cases hq
  rw [addr_add, Nat.zero_add]; exact hc j u hj
/-- the writer: one cell at g that holds bytes of the call's own -/
structure Writer (base g : Nat) (w : World) (l : Str) : Prop where
 ex : ∃ v, w.heap[g]? = some (.cells #[v] 95 (0, 0)) ∧ w.ownsRow base 5 1 v l.length (l.map byteV)
 big : base ≤ w.heap.size
structure WriterF (base g : Nat) (w : World) (l : Str) : Prop where
 ex : ∃ v, w.heap[g]? = some (.cells #[v] 95 (0, 0)) ∧ RowF base w v l
 big : base ≤ w.heap.size
theorem Writer.f {base g : Nat} {w : World} {l : Str} (h : Writer base g w l) : WriterF base g w l := by
 obtain ⟨v, hh, how⟩ := h.ex
 exact ⟨⟨v, hh, .inl how⟩, h.big⟩
/-- what was there but the writer is as it was, below its bytes, and what is of another type -/
structure Wrote (base g : Nat) (w w' : World) : Prop where
 outer : w'.os = w.os ∧ w'.tape = w.tape ∧ w'.output = w.output ∧ w.heap.size ≤ w'.heap.size
 same : ∀ k, k < base → k ≠ g → w'.heap[k]? = w.heap[k]?
 typed : ∀ (k : Nat) (cs : Array Value) (T : TypeId) (fr : Nat × Nat), w.heap[k]? = some (Obj.cells cs T fr) → T ≠ 5 → k ≠ g → w'.heap[k]? = some (Obj.cells cs T fr)
theorem Wrote.refl (base g : Nat) (w : World) : Wrote base g w w := ⟨⟨rfl, rfl, rfl, Nat.le_refl _⟩, fun _ _ _ => rfl, fun _ _ _ _ h _ _ => h⟩
theorem Wrote.trans {base g : Nat} {a b c : World} (h : Wrote base g a b) (k : Wrote base g b c) : Wrote base g a c :=
 ⟨⟨k.1.1.trans h.1.1, k.1.2.1.trans h.1.2.1, k.1.2.2.1.trans h.1.2.2.1, Nat.le_trans h.1.2.2.2 k.1.2.2.2⟩, fun j h1 h2 => (k.same j h1 h2).trans (h.same j h1 h2), fun j cs T fr h1 h2 h3 => k.typed j cs T fr (h.typed j cs T fr h1 h2 h3) h2 h3⟩
theorem Wrote.of_below {base g : Nat} {w w' : World} (h : Below w.heap.size w w') (hb : base ≤ w.heap.size) : Wrote base g w w' :=
 ⟨⟨h.os, h.tape, h.output, h.size⟩, fun k hk _ => h.block k (by omega), fun k _ _ _ h1 _ _ => (h.block k (blt h1)).trans h1⟩
/-- it counts as nothing that was there ahead of the call -/
theorem Wrote.to {base g n : Nat} {w0 w w' : World} (h : Wrote base g w w') (hb : Below n w0 w) (h1 : n ≤ base) (h2 : n ≤ g) : Below n w0 w' :=
 hb.trans ⟨h.1.1, h.1.2.1, h.1.2.2.1, h.1.2.2.2, fun k hk => h.same k (by omega) (by omega)⟩
theorem Writer.below {base g : Nat} {w w' : World} {l : Str} (h : Writer base g w l) (hb : Below w.heap.size w w') : Writer base g w' l := by
 obtain ⟨v, hh, how⟩ := h.ex
 exact ⟨⟨v, (hb.block g (blt hh)).trans hh, owns_below how hb⟩, Nat.le_trans h.big hb.size⟩
def NumEnd (base g : Nat) (l : Str) (w : World) (e : Ending) (w' : World) : Prop := e = .returned (.tuple #[]) ∧ Writer base g w' l ∧ Wrote base g w w'
theorem writer_put {base g : Nat} {w w1 : World} {v v1 : Value} {l l1 : Str} (hh : w.heap[g]? = some (.cells #[v] 95 (0, 0))) (how : RowF base w v l) (hbig : base ≤ w.heap.size)
  {W : World} (hb : Below w.heap.size w W) (hgr : W.grownBy w1 v.ownBlock) (how1 : w1.ownsRow base 5 1 v1 l1.length (l1.map byteV)) :
  Writer base g (w1.setCell ⟨g, 0, none⟩ v1) l1 ∧ Wrote base g w (w1.setCell ⟨g, 0, none⟩ v1) ∧ (∀ j, w1.frozen? ⟨g, j, none⟩ = false) ∧ w1.cell? ⟨g, 0, none⟩ = some v := by
 have hgw : g < w.heap.size := (blt hh)
 have hsame : ∀ k, k < w.heap.size → v.ownBlock ≠ some k → w1.heap[k]? = w.heap[k]? := fun k hk hne => (hgr.block k (Nat.lt_of_lt_of_le hk hb.size) (fun e => hne e.symm)).trans (hb.block k hk)
 have hh1 := (hsame g hgw (how.type_ne hh (by decide))).trans hh
 have hs := setCell_eq_setRow w1 g 0 _ _ _ v1 hh1
 have hsz : w.heap.size ≤ (w1.setCell ⟨g, 0, none⟩ v1).heap.size := by have := hgr.size; have := hb.size; simp; omega
 refine ⟨⟨⟨v1, ?_, ?_⟩, by omega⟩, ⟨⟨hgr.os.trans hb.os, hgr.tape.trans hb.tape, hgr.output.trans hb.output, hsz⟩, fun k hk hne => ?_, fun k cs T fr h1 hT hne => ?_⟩, fun j => frozen_of_row w1 _ _ _ _ hh1, cor hh1 rfl⟩
 ·rw [hs]; exact setRow_heap w1 g _ _ _ _ hh1
 ·exact owns_off how1 (own_type_ne how1 hh1 (by decide))
 ·rw [Below.heap_setCell w1 ⟨g, 0, none⟩ v1 k hne]
  exact hsame k (by omega) (fun e => by have := (how.lt k e).1; omega)
 ·rw [Below.heap_setCell w1 ⟨g, 0, none⟩ v1 k hne, hsame k (blt h1) (how.type_ne h1 hT)]
  exact h1
theorem and127 (k q : Nat) (hk : k ≤ 9223372036854775807) (hq : q = k % 128) : bits .and .i64 (k : Int) 127 = (q : Int) := by
 have h := (bits_nat .i64 63 (by decide) (fun n h0 h1 => IntWalk.i64_in _ ⟨by omega, by omega⟩) k 127 (by omega) (by omega)).1
 rw [show k &&& 127 = k % 128 from Nat.and_two_pow_sub_one_eq_mod k 7, ← hq] at h
 exact h
theorem or128 (q : Nat) (hq : q < 128) : bits .or .i64 (q : Int) 128 = ((q + 128 : Nat) : Int) := by
 have h := (bits_nat .i64 63 (by decide) (fun n h0 h1 => IntWalk.i64_in _ ⟨by omega, by omega⟩) q 128 (by omega) (by omega)).2
 rw [Nat.or_comm, show (128 : Nat) ||| q = 128 + q from (Nat.two_pow_add_eq_or_of_lt (i := 7) (by omega) 1).symm, Nat.add_comm] at h
 exact h
set_option maxRecDepth 100000 in
set_option maxHeartbeats 1000000 in
theorem w_number (n : Nat) (hn : n ≤ 9223372036854775807) (base g : Nat) (l : Str) (w : World) (h : WriterF base g w l) (hl : l.length + 10 ≤ 140737488355328) :
  Calls Tryz.prog 42 #[.pointer (some ⟨g, 0, none⟩), .int .i64 (n : Nat)] w (NumEnd base g (l ++ sev n) w) := by
 have HW := hid h
 have HL : Hid ((l ++ sev n).length ≤ 140737488355328) := by show _ ≤ _; have := sev_le hn; rw [List.length_append]; omega
 clear h
 go_enter Tryz.func42, Tryz.ntmps42
 go_wp2_with fail
 go_loopw [1] (fun t wr => ∃ m : Nat, ∃ l' : Str, t = .int .i64 m ∧ Hid (m ≤ 9223372036854775807) ∧ Hid (WriterF base g wr l') ∧ Hid (l' ++ sev m = l ++ sev n) ∧ Hid (Wrote base g w wr)) (fun t _ => (intOf t).toNat)
 case atStart => exact ⟨n, l, rfl, hn, HW.out, rfl, Wrote.refl _ _ _⟩
 case round =>
  obtain ⟨m, l', rfl, HM, HWR, HE, HWT⟩ := hrel
  obtain ⟨⟨v, hh, how⟩, hbig⟩ := HWR.out
  have c0 : wr.cell? ⟨g, 0, none⟩ = some v := cor hh rfl
  have f0 : wr.frozen? ⟨g, 0, none⟩ = false := frozen_of_row wr _ _ _ _ hh
  have hlen : l'.length + 1 ≤ 140737488355328 := by
   have h1 := HL.out
   rw [← HE.out, List.length_append] at h1
   have := sev_pos m; omega
  have HH := hid hh
  have HOW := hid how
  have hm63 : (m : Int) ≤ 9223372036854775807 := by have := HM.out; omega
  have hgw : g < wr.heap.size := (blt hh)
  clear hh how
  by_cases hm : 127 < m
  ·
   obtain ⟨q, hq⟩ : ∃ q, q = m % 128 := ⟨_, rfl⟩
   obtain ⟨d, hd⟩ : ∃ d, d = m / 128 := ⟨_, rfl⟩
   have hq1 : q < 128 := by omega
   have hd1 : (m : Int) / 128 = (d : Int) := by omega
   have hdm : d < m := by omega
   have hx := and127 m q HM.out hq
   have hy := or128 q hq1
   have HM2 : Hid (d ≤ 9223372036854775807) := by show _ ≤ _; have := HM.out; omega
   have HE2 : Hid ((l' ++ [UInt8.ofNat (q + 128)]) ++ sev d = l ++ sev n) := by show _ = _; rw [← HE.out, sev_big (show ¬ m < 128 by omega), ← hq, ← hd, Nat.add_comm]; simp
   have hmi : (127 : Int) < (m : Int) := by omega
   clear hq hd
   go_wp2_with (at_builtin; go_must (refine list_append_row _ rfl (.tmp 10) (.tmp 15) rfl base _ l' rfl (HOW.out.below ((Below.refl _ _).alloc (Nat.le_refl _) _)) ⟨wr.heap.size, 0, none⟩ 1 1 [.int .u8 ((q : Int) + 128)] rfl rfl (news_lit _ _ _ _ _ rfl rfl) (ones rfl) (by omega) (by omega) (by simp; omega) ?_))
   intro va1 vc1 w1 how1 hgr
   have hB : [Value.int .u8 ((q : Int) + 128)] = [UInt8.ofNat (q + 128)].map byteV := by rw [List.map_cons, ← byte_cell (show q + 128 < 256 by omega)]; simp
   obtain ⟨hW1, hWT1, fz1, cc1⟩ := writer_put (l1 := l' ++ [UInt8.ofNat (q + 128)]) HH.out HOW.out hbig ((Below.refl _ _).alloc (Nat.le_refl _) _) hgr (by rw [List.length_append, List.map_append, ← hB]; exact how1)
   have HW1 := hid hW1
   have HWT1 := hid (HWT.out.trans hWT1)
   have fz := fz1 0
   clear how1 hgr hW1 hWT1 fz1 f0 c0 hB
   go_wp2_with fail
   go_roundw
   case rel => exact ⟨d, _, rfl, HM2, HW1.out.f, HE2, HWT1⟩
   case measure => simp [intOf]; omega
  ·
   have HE2 : Hid (l' ++ [UInt8.ofNat m] = l ++ sev n) := by show _ = _; rw [← HE.out, sev_small (show m < 128 by omega)]
   have hmi : (m : Int) ≤ 127 := by omega
   go_wp2_with (at_builtin; go_must (refine list_append_row _ rfl (.tmp 25) (.tmp 28) rfl base _ l' rfl (HOW.out.below ((Below.refl _ _).alloc (Nat.le_refl _) _)) ⟨wr.heap.size, 0, none⟩ 1 1 [.int .u8 ((m : Int))] rfl rfl (news_lit _ _ _ _ _ rfl rfl) (ones rfl) (by omega) (by omega) (by simp; omega) ?_))
   intro va1 vc1 w1 how1 hgr
   have hB : [Value.int .u8 ((m : Int))] = [UInt8.ofNat m].map byteV := by rw [List.map_cons, ← byte_cell (show m < 256 by omega)]; simp
   obtain ⟨hW1, hWT1, fz1, cc1⟩ := writer_put (l1 := l' ++ [UInt8.ofNat m]) HH.out HOW.out hbig ((Below.refl _ _).alloc (Nat.le_refl _) _) hgr (by rw [List.length_append, List.map_append, ← hB]; exact how1)
   rw [HE2.out] at hW1
   have HW1 := hid hW1
   have HWT1 := hid (HWT.out.trans hWT1)
   have fz := fz1 0
   clear how1 hgr hW1 hWT1 fz1 f0 c0 hB
   go_wp2_with fail
   go_end0
   exact ⟨rfl, HW1.out, HWT1.out⟩
end Go.Proofs.YtbeegfkfpkfccaaGreatDoor.D
namespace Go.Proofs.YtbeegfkfpkfccaaGreatDoor.D
open Go.RowKit
theorem strCells_eq (s : ByteArray) : Lib.strCells s = (bl s).map byteV := rfl
theorem text_eqs (l : Str) (s : ByteArray) : l.length + (sev s.size).length + s.size = ((l ++ sev s.size) ++ bl s).length ∧ l.map byteV ++ ((sev s.size).map byteV ++ Lib.strCells s) = ((l ++ sev s.size) ++ bl s).map byteV := by
 constructor
 ·rw [List.length_append, List.length_append, bl_length]
 ·rw [strCells_eq]; simp
set_option maxRecDepth 100000 in
set_option maxHeartbeats 1000000 in
theorem w_text (s : ByteArray) (hs : s.size ≤ 1000000) (base g : Nat) (l : Str) (w : World) (h : Writer base g w l) (hl : l.length + 10 + s.size ≤ 140737488355328) :
  Calls Tryz.prog 43 #[.pointer (some ⟨g, 0, none⟩), .string s] w (NumEnd base g (l ++ textOf (bl s)) w) := by
 have HW := hid h
 have hsl := sev_le (n := s.size) (by omega)
 have HE : Hid ((l ++ sev s.size) ++ bl s = l ++ textOf (bl s)) := by show _ = _; unfold textOf; rw [bl_length, List.append_assoc]
 clear h
 obtain ⟨i0, hi, hz0, hz1, hz2⟩ := info_parts infoByte
 go_enter Tryz.func43, Tryz.ntmps43
 go_wp2_with fail
 refine (w_number s.size (by omega) base g l _ HW.out.f (by omega)).mono ?_
 rintro e w1 ⟨rfl, hW1, hT1⟩
 obtain ⟨⟨v, hh, how⟩, hbig⟩ := hW1
 have c0 : w1.cell? ⟨g, 0, none⟩ = some v := cor hh rfl
 have HH := hid hh
 have HOW := hid how
 have HT1 := hid hT1
 have hlen : (l ++ sev s.size).length + s.size ≤ 140737488355328 := by rw [List.length_append]; omega
 clear hh how hT1
 go_wp2_with (at_builtin; go_must (refine Lib.wpList_append_own_string _ rfl (.tmp 12) (.tmp 13) 63 9 rfl base 5 i0 Tryz.underlying63 Tryz.underlying9 hi hz0 hz1 hz2 _ (l ++ sev s.size).length ((l ++ sev s.size).map byteV) rfl HOW.out s rfl (by unfold maxLen; omega) (by omega) (by omega) ?_))
 intro v1 w2 how1 hgr _
 obtain ⟨va1, vc1, rfl⟩ := own_slice how1
 obtain ⟨hW1, hWT1, fz1, cc1⟩ := writer_put (v1 := .slice va1 (l.length + (sev s.size).length + s.size) vc1) (l1 := (l ++ sev s.size) ++ bl s) HH.out (.inl HOW.out) hbig (Below.refl _ _) hgr (by rw [← (text_eqs l s).1, ← (text_eqs l s).2]; exact how1)
 rw [HE.out] at hW1
 have HW1 := hid hW1
 have HWT1 := hid (HT1.out.trans hWT1)
 have fz := fz1 0
 clear how1 hgr hW1 hWT1 fz1 c0
 go_wp2_with fail
 go_end0
 exact ⟨rfl, HW1.out, HWT1.out⟩
/-- what was there stays, but rows of bytes from the base on -/
structure GrewB (base : Nat) (w w' : World) : Prop where
 below : Below base w w'
 size : w.heap.size ≤ w'.heap.size
 same : ∀ (k : Nat) (cs : Array Value) (T : TypeId) (fr : Nat × Nat), w.heap[k]? = some (Obj.cells cs T fr) → T ≠ 5 → w'.heap[k]? = some (Obj.cells cs T fr)
theorem GrewB.refl (base : Nat) (w : World) : GrewB base w w := ⟨Below.refl _ _, Nat.le_refl _, fun _ _ _ _ h _ => h⟩
theorem GrewB.trans {base : Nat} {a b c : World} (h : GrewB base a b) (k : GrewB base b c) : GrewB base a c := ⟨h.below.trans k.below, Nat.le_trans h.size k.size, fun j cs T fr h1 h2 => k.same j cs T fr (h.same j cs T fr h1 h2) h2⟩
theorem GrewB.of_below {base : Nat} {w w' : World} (h : Below w.heap.size w w') (hb : base ≤ w.heap.size) : GrewB base w w' := ⟨h.mono hb, h.size, fun k _ _ _ h1 _ => (h.block k (blt h1)).trans h1⟩
theorem GrewB.of_grown {base : Nat} {w w' : World} {v : Value} {n : Nat} {xs : List Value} (how : w.ownsRow base 5 1 v n xs) (hg : w.grownBy w' v.ownBlock) (hb : base ≤ w.heap.size) : GrewB base w w' := by
 refine ⟨(Below.refl _ _).grown hg hb (fun b e => (how.lt b e).1), hg.size, fun k cs T fr h1 hT => ?_⟩
 rw [hg.block k (blt h1) ?_]
 ·exact h1
 ·intro e
  rcases how.2 with ⟨hv, _⟩ | ⟨g, cap, cur, hv, _, hh, _⟩
  ·rw [hv] at e; cases e
  ·rw [hv] at e
   obtain rfl : g = k := by simpa [Value.ownBlock] using e.symm
   rw [hh] at h1
   simp only [Option.some.injEq, Obj.cells.injEq] at h1
   exact hT h1.2.1.symm
def GrewEnd (base : Nat) (l : Str) (w : World) (e : Ending) (w' : World) : Prop := ∃ v, e = .returned v ∧ w'.ownsRow base 5 1 v l.length (l.map byteV) ∧ GrewB base w w'
theorem adl_snoc (l : Str) (k : Nat) (hk : k < l.length) : ad (l.take (k + 1)) = adStep (ad (l.take k)) l[k] := by
 rw [List.take_succ_eq_append_getElem hk, ad_snoc]
theorem or16 (x y : Nat) (hx : x < 65536) (hy : y < 65536) : bits .or .i64 ((y : Int) * 65536) (x : Int) = (y : Int) * 65536 + x := by
 have h := (bits_nat .i64 63 (by decide) (fun n h0 h1 => IntWalk.i64_in _ ⟨by omega, by omega⟩) (2 ^ 16 * y) x (by omega) (by omega)).2
 rw [← Nat.two_pow_add_eq_or_of_lt (show x < 2 ^ 16 by omega)] at h
 have e : ((2 ^ 16 * y : Nat) : Int) = (y : Int) * 65536 := by omega
 rw [e] at h
 rw [h]; omega
set_option maxRecDepth 100000 in
set_option maxHeartbeats 1000000 in
theorem snap_sum (l : Str) (a : Option Addr) (c : Nat) (w : World) (h : BytesAt w a l) (hl : l.length ≤ 140737488355328) :
  Calls Tryz.prog 44 #[.slice a l.length c] w fun e w' => e = .returned (.int .i64 (((ad l).2 : Int) * 65536 + ((ad l).1 : Nat))) ∧ w = w' := by
 have HB := hid h
 clear h
 go_enter Tryz.func44, Tryz.ntmps44
 go_wp2_with fail
 go_loop [3, 4, 9] (fun x y i => ∃ k xx yy : Nat, k ≤ l.length ∧ i = .int .i64 k ∧ x = .int .i64 xx ∧ y = .int .i64 yy ∧ Hid (ad (l.take k) = (xx, yy)) ∧ xx < 65521 ∧ yy < 65521) (fun _ _ i => l.length - (intOf i).toNat)
 case atStart => exact ⟨0, 1, 0, Nat.zero_le _, rfl, rfl, rfl, rfl, by omega, by omega⟩
 case round =>
  obtain ⟨k, xx, yy, hk, rfl, rfl, rfl, HA, hx, hy⟩ := hrel
  by_cases hlt : k < l.length
  ·obtain ⟨b, o, rfl, hc⟩ := HB.out.pos (by omega)
   have hc0 := hc k hlt
   have HS := hid (adl_snoc l k hlt)
   obtain ⟨cc, hcc⟩ : ∃ cc : Nat, cc = l[k].toNat := ⟨_, rfl⟩
   rw [← hcc] at hc0
   have hcb : cc < 256 := by rw [hcc]; exact l[k].toNat_lt
   have HA2 : Hid (ad (l.take (k + 1)) = ((xx + cc) % 65521, (yy + (xx + cc) % 65521) % 65521)) := by show _ = _; rw [HS.out, HA.out, hcc]; rfl
   have hwc : wrap64 (cc : Int) = (cc : Int) := IntWalk.wrap64_in _ ⟨by omega, by omega⟩
   obtain ⟨x2, hx2⟩ : ∃ x2, x2 = (xx + cc) % 65521 := ⟨_, rfl⟩
   obtain ⟨y2, hy2⟩ : ∃ y2, y2 = (yy + x2) % 65521 := ⟨_, rfl⟩
   rw [← hx2, ← hy2] at HA2
   have q1 : ((xx : Int) + (cc : Int)) % 65521 = (x2 : Int) := by omega
   have q2 : ((yy : Int) + (x2 : Int)) % 65521 = (y2 : Int) := by omega
   have q3 : x2 < 65521 := by omega
   have q4 : y2 < 65521 := by omega
   clear hc hcc hx2 hy2
   go_wp2_with fail
   go_round
   case rel => exact ⟨k + 1, x2, y2, by omega, by go_num, by rw [q1], by rw [q2], HA2, q3, q4⟩
   case measure => simp [intOf]; omega
  ·have HA2 : Hid (ad l = (xx, yy)) := by show _ = _; rw [← HA.out, List.take_of_length_le (by omega)]
   have hor := or16 xx yy (by omega) (by omega)
   go_wp2_with fail
   go_ret
   exact ⟨by rw [HA2.out]; rfl, rfl⟩
end Go.Proofs.YtbeegfkfpkfccaaGreatDoor.D
namespace Go.Proofs.YtbeegfkfpkfccaaGreatDoor.D
open Go.RowKit
def BytesOut (l : Str) (n : Int) (w : World) (e : Ending) (w' : World) : Prop := ∃ va vc, e = .returned (.tuple #[.slice va l.length vc, .int .i64 n]) ∧ BytesAt w' va l ∧ l.length ≤ vc ∧ vc ≤ 9223372036854775807 ∧ Below w.heap.size w w'
theorem w_num (x : Int) (h0 : 0 ≤ x) (h1 : x ≤ 1099511627776) (base g : Nat) (l : Str) (w : World) (h : WriterF base g w l) (hl : l.length + 10 ≤ 140737488355328) :
  Calls Tryz.prog 42 #[.pointer (some ⟨g, 0, none⟩), .int .i64 x] w (NumEnd base g (l ++ sev x.toNat) w) := by
 have := w_number x.toNat (by omega) base g l w h hl
 rwa [show ((x.toNat : Nat) : Int) = x by omega] at this
theorem bytes_bad {s : Store} (h : s.ok = false) : s.bytes = ([], 8) := by unfold Store.bytes; rw [if_pos h]
theorem bytes_good {s : Store} (h : s.ok = true) : s.bytes = (bodyOf s ++ sealOf (bodyOf s), 0) := by unfold Store.bytes; rw [if_neg (by rw [h]; simp)]
theorem numsOf_len (s : Store) : (numsOf s).length = 11 := rfl
theorem nums_cell (w : World) (s : Store) (k : Nat) (hk : k < 11) :
  (w.alloc (.cells #[.int .i64 s.clock, .int .i64 s.cas, .int .i64 s.uses, .int .i64 s.most, .int .i64 s.h0, .int .i64 s.h1, .int .i64 s.h2, .int .i64 s.h3, .int .i64 s.flash.most, .int .i64 s.flash.next, .int .i64 (s.flash.pages.length : Nat)] 3)).cell? ⟨w.heap.size, k, none⟩ = some (.int .i64 ((numsOf s)[k]'(by rw [numsOf_len]; exact hk))) := by
 rw [cell_alloc_row]
 show ((numsOf s).map (Value.int .i64)).toArray[k]? = _
 rw [List.getElem?_toArray, List.getElem?_map, List.getElem?_eq_getElem (by rw [numsOf_len]; exact hk)]; rfl
theorem nums_get (s : Store) (k : Nat) (hk : k < 11) : (#[.int .i64 s.clock, .int .i64 s.cas, .int .i64 s.uses, .int .i64 s.most, .int .i64 s.h0, .int .i64 s.h1, .int .i64 s.h2, .int .i64 s.h3, .int .i64 s.flash.most, .int .i64 s.flash.next, .int .i64 (s.flash.pages.length : Nat)] : Array Value)[k]? = some (.int .i64 ((numsOf s)[k]'(by rw [numsOf_len]; exact hk))) := by
 show ((numsOf s).map (Value.int .i64)).toArray[k]? = _
 rw [List.getElem?_toArray, List.getElem?_map, List.getElem?_eq_getElem (by rw [numsOf_len]; exact hk)]; rfl
theorem sevs_len (l : List Int) (h : ∀ n ∈ l, n ≤ 1099511627776) : (sevs l).length ≤ l.length * 10 := by
 induction l with
 | nil => simp [sevs]
 | cons n l ih =>
  have h1 := ih (fun m hm => h m (by simp [hm]))
  have h2 := sev_le (n := n.toNat) (by have := h n (by simp); omega)
  unfold sevs at h1 ⊢
  rw [List.flatMap_cons, List.length_append, List.length_cons]; omega
def fourOf (x : Item) : List Int := [x.flags, x.till, x.cas, x.used]
theorem four_cell (w : World) (x : Item) (k : Nat) (hk : k < 4) :
  (w.alloc (.cells #[.int .i64 x.flags, .int .i64 x.till, .int .i64 x.cas, .int .i64 x.used] 3)).cell? ⟨w.heap.size, k, none⟩ = some (.int .i64 ((fourOf x)[k]'hk)) := by
 rw [cell_alloc_row]
 show ((fourOf x).map (Value.int .i64)).toArray[k]? = _
 rw [List.getElem?_toArray, List.getElem?_map, List.getElem?_eq_getElem hk]; rfl
theorem four_ok {x : Item} (h : ItemNums x) (k : Nat) (hk : k < (fourOf x).length) : 0 ≤ (fourOf x)[k] ∧ (fourOf x)[k] ≤ 1099511627776 := by
 obtain ⟨_, a1, a2, a3, a4, _, _⟩ := h
 have hm : (fourOf x)[k] ∈ fourOf x := List.getElem_mem hk
 generalize (fourOf x)[k] = n at hm
 simp only [fourOf, List.mem_cons, List.not_mem_nil, or_false] at hm
 rcases hm with rfl | rfl | rfl | rfl <;> omega
theorem four_get (x : Item) (k : Nat) (hk : k < 4) : (#[.int .i64 x.flags, .int .i64 x.till, .int .i64 x.cas, .int .i64 x.used] : Array Value)[k]? = some (.int .i64 ((fourOf x)[k]'hk)) := by
 show ((fourOf x).map (Value.int .i64)).toArray[k]? = _
 rw [List.getElem?_toArray, List.getElem?_map, List.getElem?_eq_getElem hk]; rfl
theorem sum_is (l : Str) (n : Int) (hn : Hid (n = ((ad l).2 : Int) * 65536 + ((ad l).1 : Nat))) (a : Option Addr) (c : Nat) (w : World) (h : BytesAt w a l) (hl : l.length ≤ 140737488355328) :
  Calls Tryz.prog 44 #[.slice a l.length c] w fun e w' => e = .returned (.int .i64 n) ∧ w = w' := by
 have := snap_sum l a c w h hl
 rwa [← hn.out] at this
def farBytes (x : Item) : Str := if x.far then sev 1 ++ sev x.place.page.toNat ++ sev x.place.off.toNat else sev 0 ++ textOf (bl x.value)
theorem farBytes_len {x : Item} (h : ItemNums x) : (farBytes x).length ≤ 260 := by
 unfold farBytes
 cases hf : x.far with
 | true =>
  have h1 := sev_le (n := 1) (by omega)
  have hp := h.place hf
  have h2 := sev_le (n := x.place.page.toNat) (by omega)
  have h3 := sev_le (n := x.place.off.toNat) (by omega)
  simp only [if_true, List.length_append]; omega
 | false =>
  have h1 := sev_le (n := 0) (by omega)
  have h2 := textOf_len (bl x.value) (by rw [bl_length]; have := h.value; omega)
  have h3 := h.value
  rw [bl_length] at h2
  simp only [Bool.false_eq_true, if_false, List.length_append]; omega
theorem itemBytes_eq (x : Item) : itemBytes x = textOf (bl x.key) ++ sevs (fourOf x) ++ farBytes x := by
 unfold itemBytes farBytes sevs fourOf; simp
/-- the row of bytes that a writer holds -/
theorem Writer.rows {base g : Nat} {w : World} {l : Str} (h : Writer base g w l) : ∃ va vc, w.heap[g]? = some (.cells #[.slice va l.length vc] 95 (0, 0)) ∧ w.ownsRow base 5 1 (.slice va l.length vc) l.length (l.map byteV) := by
 obtain ⟨v, hh, how⟩ := h.ex
 rcases how.2 with ⟨rfl, h0⟩ | ⟨k, cap, cur, rfl, rest⟩
 ·have : l = [] := List.eq_nil_of_length_eq_zero h0
  subst this
  exact ⟨none, 0, hh, how⟩
 ·exact ⟨_, _, hh, how⟩
theorem own_cap {w : World} {base : Nat} {e : TypeId} {va : Option Addr} {n m vc : Nat} {xs : List Value} (h : w.ownsRow base e 1 (.slice va n vc) m xs) : m ≤ vc ∧ vc ≤ 9223372036854775807 := by
 rcases h.2 with ⟨e1, e2⟩ | ⟨g', c', cur', e1, _, _, h3, h4, _⟩
 ·simp only [Value.slice.injEq] at e1
  obtain ⟨_, _, e4⟩ := e1
  omega
 ·simp only [Value.slice.injEq] at e1
  obtain ⟨_, _, rfl⟩ := e1
  exact ⟨h3, le_maxLen h4⟩
set_option maxRecDepth 100000 in
set_option maxHeartbeats 4000000 in
theorem snap_Encode (s : Store) (a fa : Option Addr) (c fc : Nat) (w : World) (hc : Chunks w) (hI : RowsAt w a 9 ItemR s.items) (hF : RowsAt w fa 2 (PageR w) s.flash.pages)
  (hn : s.items.length * 88 ≤ 140737488355328) (hfn : s.flash.pages.length * 32 ≤ 140737488355328) :
  Calls Tryz.prog 23 #[.agg (storeV s a c fa fc)] w (BytesOut s.bytes.1 s.bytes.2 w) := by
 have HC := hid hc
 have HI := hid hI
 have HF := hid hF
 clear hc hI hF
 cases hok : s.ok
 ·
  have HT := hid (bytes_bad hok)
  have HN : Hid (s.chk = 8) := by show _ = _; unfold Store.chk; rw [hok]; rfl
  clear hok
  go_enter Tryz.func23, Tryz.ntmps23
  go_wp2_with fail
  refine (scheck_is s 8 HN a fa c fc _ (HC.out.keep (Below.keeps (by go_grown))) (HI.out.keep (Below.keeps (by go_grown)) (fun _ _ h => h)) (HF.out.keep (Below.keeps (by go_grown)) (PageR.keep (Below.keeps (by go_grown)))) (by omega) (by omega)).mono ?_
  rintro e w1 ⟨rfl, hb1⟩
  have hbw : Below w.heap.size w w1 := Below.trans (by go_grown) (hb1.mono (by go_size))
  clear hb1
  go_wp2_with fail
  go_ret2
  rw [HT.out]
  exact ⟨none, 0, rfl, CellsAt.nil _ _, Nat.zero_le _, by omega, hbw⟩
 ·
  have HT := hid (bytes_good hok)
  have HSN := hid (store_nums hok)
  have HN : Hid (s.chk = 0) := by show _ = _; unfold Store.chk; rw [hok]; rfl
  clear hok
  go_enter Tryz.func23, Tryz.ntmps23
  go_wp2_with fail
  refine (scheck_is s 0 HN a fa c fc _ (HC.out.keep (Below.keeps (by go_grown))) (HI.out.keep (Below.keeps (by go_grown)) (fun _ _ h => h)) (HF.out.keep (Below.keeps (by go_grown)) (PageR.keep (Below.keeps (by go_grown)))) (by omega) (by omega)).mono ?_
  rintro e w1 ⟨rfl, hb1⟩
  have HROW := hid ((hb1.block w.heap.size (by go_size)).trans (blk_new w _))
  have hz1 : w.heap.size < w1.heap.size := by have := hb1.size; simp at this; omega
  have HB1 : Hid (Below w.heap.size w w1) := Below.trans (by go_grown) (hb1.mono (by go_size))
  clear hb1
  have s0 : w1.cell? ⟨w.heap.size, 0, none⟩ = some (.int .i64 s.clock) := cor HROW.out rfl
  have s1 : w1.cell? ⟨w.heap.size, 1, none⟩ = some (.int .i64 s.cas) := cor HROW.out rfl
  have s2 : w1.cell? ⟨w.heap.size, 2, none⟩ = some (.int .i64 s.uses) := cor HROW.out rfl
  have s3 : w1.cell? ⟨w.heap.size, 3, none⟩ = some (.int .i64 s.most) := cor HROW.out rfl
  have s4 : w1.cell? ⟨w.heap.size, 4, none⟩ = some (.int .i64 s.h0) := cor HROW.out rfl
  have s5 : w1.cell? ⟨w.heap.size, 5, none⟩ = some (.int .i64 s.h1) := cor HROW.out rfl
  have s6 : w1.cell? ⟨w.heap.size, 6, none⟩ = some (.int .i64 s.h2) := cor HROW.out rfl
  have s7 : w1.cell? ⟨w.heap.size, 7, none⟩ = some (.int .i64 s.h3) := cor HROW.out rfl
  have s8 : w1.cell? ⟨w.heap.size, 8, none⟩ = some (.slice a s.items.length c) := cor HROW.out rfl
  have s9 : w1.cell? ⟨w.heap.size, 9, none⟩ = some (.int .i64 s.flash.most) := cor HROW.out rfl
  have s10 : w1.cell? ⟨w.heap.size, 10, none⟩ = some (.int .i64 s.flash.next) := cor HROW.out rfl
  have s11 : w1.cell? ⟨w.heap.size, 11, none⟩ = some (.slice fa s.flash.pages.length fc) := cor HROW.out rfl
  have kc := fun (w : World) (C : Array Value) (n c : Nat) => Lib.run_convert_bytes_const (P := Tryz.prog) w 63 5 C n c Tryz.underlying63 Tryz.underlying5
  go_upto_region 6 with (fail)
  obtain ⟨W0, hW0⟩ : ∃ W0, W0 = ((w1.alloc (.cells #[.int .u8 100, .int .u8 99, .int .u8 49] 5 (3, 4))).alloc (.cells #[.slice (some ⟨w1.heap.size, 0, none⟩) 3 3] 95)).alloc (.cells #[.int .i64 s.clock, .int .i64 s.cas, .int .i64 s.uses, .int .i64 s.most, .int .i64 s.h0, .int .i64 s.h1, .int .i64 s.h2, .int .i64 s.h3, .int .i64 s.flash.most, .int .i64 s.flash.next, .int .i64 (s.flash.pages.length : Nat)] 3) := ⟨_, rfl⟩
  have hb0 : Below w1.heap.size w1 W0 := by rw [hW0]; exact (((Below.refl _ _).alloc (Nat.le_refl _) _).alloc (by simp) _).alloc (by simp; omega) _
  have hz0 : W0.heap.size = w1.heap.size + 3 := by rw [hW0]; simp
  have HA : Hid (W0.heap[w1.heap.size]? = some (.cells #[.int .u8 100, .int .u8 99, .int .u8 49] 5 (3, 4))) := by
   show _ = _
   rw [hW0, Below.heap_alloc _ _ _ (by simp; omega), Below.heap_alloc _ _ _ (by simp)]; exact blk_new w1 _
  have HG : Hid (W0.heap[w1.heap.size + 1]? = some (.cells #[.slice (some ⟨w1.heap.size, 0, none⟩) 3 3] 95 (0, 0))) := by
   show _ = _
   rw [hW0, Below.heap_alloc _ _ _ (by simp)]
   have e : w1.heap.size + 1 = (w1.alloc (.cells #[.int .u8 100, .int .u8 99, .int .u8 49] 5 (3, 4))).heap.size := by simp
   rw [e]; exact blk_new _ _
  have HN0 : Hid (W0.heap[w1.heap.size + 1 + 1]? = some (.cells #[.int .i64 s.clock, .int .i64 s.cas, .int .i64 s.uses, .int .i64 s.most, .int .i64 s.h0, .int .i64 s.h1, .int .i64 s.h2, .int .i64 s.h3, .int .i64 s.flash.most, .int .i64 s.flash.next, .int .i64 (s.flash.pages.length : Nat)] 3 (0, 0))) := by
   show _ = _
   have e : w1.heap.size + 1 + 1 = ((w1.alloc (.cells #[.int .u8 100, .int .u8 99, .int .u8 49] 5 (3, 4))).alloc (.cells #[.slice (some ⟨w1.heap.size, 0, none⟩) 3 3] 95)).heap.size := by simp
   rw [hW0, e]; exact blk_new _ _
  have HWR0 : Hid (WriterF w1.heap.size (w1.heap.size + 1) W0 [100, 99, 49]) := by
   refine ⟨⟨_, HG.out, .inr ⟨w1.heap.size, rfl, Nat.le_refl _, fun j u hj => ?_, _, _, HA.out⟩⟩, by omega⟩
   rw [cell_of_row W0 _ _ _ _ _ HA.out]
   have hl := (List.getElem?_eq_some_iff.1 hj).1
   have hj3 : j = 0 ∨ j = 1 ∨ j = 2 := by simp at hl; omega
   rcases hj3 with rfl | rfl | rfl
   ·exact hj
   ·exact hj
   ·exact hj
  have HB0 : Hid (Below w.heap.size w W0) := HB1.out.trans (hb0.mono (by omega))
  have HR0 := hid ((hb0.block w.heap.size hz1).trans HROW.out)
  obtain ⟨g, hg⟩ : ∃ g, g = w1.heap.size + 1 := ⟨_, rfl⟩
  have hgz : w1.heap.size < g := by omega
  have HNG : Hid (w1.heap.size + 1 + 1 ≠ g) := by show _ ≠ _; omega
  rw [← hW0]
  rw [← hg] at HG HWR0 HN0 HNG ⊢
  have HFN := hid (flash_nums HSN.out.flash)
  have hp20 : s.flash.pages.length ≤ 20 := HFN.out.2.2.1
  have hi1000 : s.items.length ≤ 1000 := HSN.out.len
  have HBACK : Hid (∀ wr, Wrote w1.heap.size g W0 wr → Below w.heap.size w wr) := fun wr h => h.to HB0.out (by omega) (by omega)
  have HST : Hid (∀ wr, Wrote w1.heap.size g W0 wr → wr.heap[w.heap.size]? = some (.cells (storeV s a c fa fc) 28 (0, 0))) := fun wr h => (h.same w.heap.size hz1 (by omega)).trans HR0.out
  have HCELL : Hid (∀ wr, Wrote w1.heap.size g W0 wr → ∀ k (hk : k < 11), wr.cell? ⟨g + 1, k, none⟩ = some (.int .i64 ((numsOf s)[k]'(by rw [numsOf_len]; exact hk)))) := fun wr h k hk => by
   rw [cell_of_row wr _ _ _ _ _ (h.typed _ _ _ _ HN0.out (by decide) HNG.out)]
   exact nums_get s k hk
  clear hW0 hb0 hg s0 s1 s2 s3 s4 s5 s6 s7 s8 s9 s10 s11 kc
  go_loopw [56] (fun i wr => ∃ k : Nat, k ≤ 11 ∧ i = .int .i64 k ∧ Hid ((k = 0 ∧ WriterF w1.heap.size g wr ([100, 99, 49] ++ sevs ((numsOf s).take k))) ∨ (0 < k ∧ Writer w1.heap.size g wr ([100, 99, 49] ++ sevs ((numsOf s).take k)))) ∧ Hid (Wrote w1.heap.size g W0 wr)) (fun i _ => 11 - (intOf i).toNat)
  case atStart => exact ⟨0, by omega, rfl, .inl ⟨rfl, HWR0.out⟩, Wrote.refl _ _ _⟩
  case round =>
   obtain ⟨k, hk, rfl, HW, HT0⟩ := hrel
   by_cases hk11 : k < 11
   ·
    have c0 := HCELL.out wr HT0.out k hk11
    have hx := nums_ok HSN.out k (by rw [numsOf_len]; exact hk11)
    have HS := hid (sevs_snoc (numsOf s) k (by rw [numsOf_len]; exact hk11))
    obtain ⟨x, hxx⟩ : ∃ x, x = (numsOf s)[k]'(by rw [numsOf_len]; exact hk11) := ⟨_, rfl⟩
    rw [← hxx] at c0 hx HS
    obtain ⟨x0, x1⟩ := hx
    have HL : Hid (([100, 99, 49] ++ sevs ((numsOf s).take k) : Str).length + 10 ≤ 140737488355328) := by
     show _ ≤ _
     have h1 := sevs_len ((numsOf s).take k) (fun n hn => by
      obtain ⟨j, hj, rfl⟩ := List.mem_iff_getElem.1 (List.mem_of_mem_take hn)
      exact (nums_ok HSN.out j hj).2)
     have h2 : ((numsOf s).take k).length ≤ 11 := by rw [List.length_take, numsOf_len]; omega
     rw [List.length_append]
     simp only [List.length_cons, List.length_nil]; omega
    have HWF : Hid (WriterF w1.heap.size g wr ([100, 99, 49] ++ sevs ((numsOf s).take k))) := by
     rcases HW.out with ⟨_, h⟩ | ⟨_, h⟩
     ·exact h
     ·exact h.f
    have hk0 : (0 : Int) ≤ (k : Int) := by omega
    have hk1 : (k : Int) < 11 := by omega
    clear hxx
    go_wp2_with fail
    refine (w_num x x0 x1 w1.heap.size g _ _ HWF.out HL.out).mono ?_
    rintro e w2 ⟨rfl, hW2, hT2⟩
    rw [List.append_assoc, ← HS.out] at hW2
    have HW2 := hid hW2
    have HT2 := hid (HT0.out.trans hT2)
    clear hW2 hT2 c0
    go_wp2_with fail
    go_roundw
    case rel => exact ⟨k + 1, by omega, by go_num, .inr ⟨by omega, HW2.out⟩, HT2⟩
    case measure => simp [intOf]; omega
   ·
    obtain rfl : k = 11 := by omega
    have HW2 : Hid (Writer w1.heap.size g wr ([100, 99, 49] ++ sevs (numsOf s))) := by
     rcases HW.out with ⟨h0, _⟩ | ⟨_, h⟩
     ·omega
     ·rw [show (numsOf s).take 11 = numsOf s from List.take_of_length_le (by rw [numsOf_len]; exact Nat.le_refl _)] at h
      exact h
    have HL1 : Hid (([100, 99, 49] ++ sevs (numsOf s) : Str).length ≤ 200) := by
     show _ ≤ _
     have h1 := sevs_len (numsOf s) (fun n hn => by
      obtain ⟨j, hj, rfl⟩ := List.mem_iff_getElem.1 hn
      exact (nums_ok HSN.out j hj).2)
     rw [List.length_append]
     simp only [List.length_cons, List.length_nil, numsOf_len] at h1 ⊢; omega
    obtain ⟨L1, hL1⟩ : ∃ L1 : Str, L1 = [100, 99, 49] ++ sevs (numsOf s) := ⟨_, rfl⟩
    rw [← hL1] at HW2 HL1
    have HE1 := hid hL1
    have s11 : wr.cell? ⟨w.heap.size, 11, none⟩ = some (.slice fa s.flash.pages.length fc) := by rw [cell_of_row wr _ _ _ _ _ (HST.out wr HT0.out)]; rfl
    clear hL1 HW hk hk11
    go_wp2_with fail
    obtain ⟨wo, rfl⟩ : ∃ wo : World, wo = wr := ⟨_, rfl⟩
    go_loopw [68] (fun i wr => ∃ k : Nat, k ≤ s.flash.pages.length ∧ i = .int .i64 k ∧ Hid (Writer w1.heap.size g wr (L1 ++ pagesBytes (s.flash.pages.take k))) ∧ Hid (Wrote w1.heap.size g W0 wr) ∧ Hid ((L1 ++ pagesBytes (s.flash.pages.take k)).length ≤ 200 + 300 * k)) (fun i _ => s.flash.pages.length - (intOf i).toNat)
    case atStart => exact ⟨0, by omega, rfl, by show Writer _ _ _ _; simpa [pagesBytes] using HW2.out, HT0, by show _ ≤ _; have := HL1.out; simpa [pagesBytes] using this⟩
    case round =>
     clear s11 HW2 HT0
     obtain ⟨k, hk, rfl, HW, HT0, HL⟩ := hrel
     have HBW := hid (HBACK.out wr HT0.out)
     by_cases hlt : k < s.flash.pages.length
     ·
      obtain ⟨b, o, rfl, hc⟩ := HF.out.pos (by omega)
      obtain ⟨cs, _, ⟨_, ba, bc, hcs, hby, _⟩, h3⟩ := hc k hlt
      have hpb := (HFN.out.2.2.2 _ (List.getElem_mem hlt)).2.2
      have HS := hid (pagesBytes_snoc s.flash.pages k hlt)
      obtain ⟨p, hp⟩ : ∃ p, p = s.flash.pages[k] := ⟨_, rfl⟩
      rw [← hp] at hcs hby hpb HS
      subst hcs
      have hkp := Below.keeps HBW.out
      have c0 := hkp _ _ (h3 0 _ rfl)
      have c1 := hkp _ _ (h3 1 _ rfl)
      rw [Nat.add_zero] at c0
      have st := run_str hby p.bytes.length bc rfl (wr.alloc (.cells #[.int .i64 p.number, .slice ba p.bytes.length bc] 98)) (Keeps.trans hkp (Below.keeps ((Below.refl _ _).alloc (Nat.le_refl _) _)))
      have HWA : Hid (Writer w1.heap.size g (wr.alloc (.cells #[.int .i64 p.number, .slice ba p.bytes.length bc] 98)) (L1 ++ pagesBytes (s.flash.pages.take k))) := HW.out.below ((Below.refl _ _).alloc (Nat.le_refl _) _)
      have HTA : Hid (Wrote w1.heap.size g wr (wr.alloc (.cells #[.int .i64 p.number, .slice ba p.bytes.length bc] 98))) := Wrote.of_below ((Below.refl _ _).alloc (Nat.le_refl _) _) HW.out.big
      have hsz : (⟨p.bytes.toArray⟩ : ByteArray).size ≤ 256 := by show p.bytes.toArray.size ≤ 256; simpa using hpb
      have HLL : Hid ((L1 ++ pagesBytes (s.flash.pages.take k)).length + 10 + (⟨p.bytes.toArray⟩ : ByteArray).size ≤ 140737488355328) := by show _ ≤ _; have := HL.out; omega
      have HL2 : Hid ((L1 ++ pagesBytes (s.flash.pages.take k) ++ textOf p.bytes).length ≤ 200 + 300 * (k + 1)) := by
       show _ ≤ _; have := HL.out; have := textOf_len p.bytes (by omega); rw [List.length_append]; omega
      clear h3 hc hp hby hkp
      go_wp2_with fail
      refine (w_text ⟨p.bytes.toArray⟩ (by omega) w1.heap.size g _ _ HWA.out HLL.out).mono ?_
      rintro e w2 ⟨rfl, hW2, hT2⟩
      rw [bl_mk, List.append_assoc, ← HS.out] at hW2
      have HW2 := hid hW2
      have HT2 := hid ((HT0.out.trans HTA.out).trans hT2)
      have HL3 : Hid ((L1 ++ pagesBytes (s.flash.pages.take (k + 1))).length ≤ 200 + 300 * (k + 1)) := by show _ ≤ _; rw [HS.out, ← List.append_assoc]; exact HL2.out
      clear hW2 hT2 c0 c1 st
      go_wp2_with fail
      go_roundw
      case rel => first | exact ⟨k + 1, by omega, by go_num, HW2, HT2, HL3⟩ | ((repeat apply Exists.intro); exact ⟨⟨k + 1, by omega, by go_num, HW2, HT2, HL3⟩, rfl⟩)
      case measure => simp [intOf]; omega
     ·
      have hk2 : k = s.flash.pages.length := by omega
      have HW2 : Hid (Writer w1.heap.size g wr (L1 ++ pagesBytes s.flash.pages)) := by
       have h := HW.out
       rw [hk2, List.take_length] at h
       exact h
      have HL2 : Hid ((L1 ++ pagesBytes s.flash.pages).length ≤ 6200) := by
       have h := HL.out
       rw [hk2, List.take_length] at h
       show _ ≤ _; omega
      have HLL : Hid ((L1 ++ pagesBytes s.flash.pages).length + 10 ≤ 140737488355328) := by show _ ≤ _; have := HL2.out; omega
      have s8 : wr.cell? ⟨w.heap.size, 8, none⟩ = some (.slice a s.items.length c) := by rw [cell_of_row wr _ _ _ _ _ (HST.out wr HT0.out)]; rfl
      clear HW HL hk hk2
      go_wp2_with fail
      refine (w_number s.items.length (by omega) w1.heap.size g _ _ HW2.out.f HLL.out).mono ?_
      rintro e w2 ⟨rfl, hW2, hT2⟩
      obtain ⟨L2, hL2⟩ : ∃ L2 : Str, L2 = L1 ++ pagesBytes s.flash.pages ++ sev s.items.length := ⟨_, rfl⟩
      rw [← hL2] at hW2
      have HLB : Hid (L2.length ≤ 6210) := by show _ ≤ _; have := HL2.out; have := sev_le (n := s.items.length) (by omega); rw [hL2, List.length_append]; omega
      have HE2 := hid hL2
      have HW3 := hid hW2
      have HT3 := hid (HT0.out.trans hT2)
      have t8 : w2.cell? ⟨w.heap.size, 8, none⟩ = some (.slice a s.items.length c) := by rw [cell_of_row w2 _ _ _ _ _ (HST.out w2 HT3.out)]; rfl
      clear hL2 hW2 hT2 HW2 HL2 HLL s8 HBW
      go_wp2_with fail
      go_loopw [86] (fun i wr => ∃ k : Nat, k ≤ s.items.length ∧ i = .int .i64 k ∧ Hid (Writer w1.heap.size g wr (L2 ++ itemsBytes (s.items.take k))) ∧ Hid (Wrote w1.heap.size g W0 wr) ∧ Hid ((L2 ++ itemsBytes (s.items.take k)).length ≤ 6210 + 400 * k)) (fun i _ => s.items.length - (intOf i).toNat)
      case atStart => exact ⟨0, by omega, rfl, by show Writer _ _ _ _; simpa [itemsBytes] using HW3.out, HT3, by show _ ≤ _; have := HLB.out; simpa [itemsBytes] using this⟩
      case round =>
       clear t8 HW3 HT3 HT0
       obtain ⟨k, hk, rfl, HW, HT0, HL⟩ := hrel
       have HBW := hid (HBACK.out _ HT0.out)
       by_cases hlt : k < s.items.length
       ·
        obtain ⟨b, o, rfl, hc⟩ := HI.out.pos (by omega)
        obtain ⟨cs, _, hcs, h3⟩ := hc k hlt
        have HS := hid (itemsBytes_snoc s.items k hlt)
        have hin := HSN.out.items _ (List.getElem_mem hlt)
        obtain ⟨x, hxx⟩ : ∃ x, x = s.items[k] := ⟨_, rfl⟩
        rw [← hxx] at hcs HS hin
        have HIN := hid hin
        have hcs := hcs.1
        subst hcs
        obtain ⟨c0, c1, c2, c3, c4, c5, c6, c7, c8, hbb⟩ := item_cells (Below.keeps HBW.out) h3
        have hgw : g < wr.heap.size := by
         obtain ⟨v, hh, _⟩ := HW.out.ex
         exact (blt hh)
        clear h3 hc hxx hin
        go_upto_region 19 with (fail)
        obtain ⟨V0, hV0⟩ : ∃ V0, V0 = wr.alloc (.cells #[.string x.key, .int .i64 x.flags, .int .i64 x.till, .int .i64 x.cas, .int .i64 x.used, .string x.value, .bool x.far, .int .i64 x.place.page, .int .i64 x.place.off] 83) := ⟨_, rfl⟩
        have hbV : Below wr.heap.size wr V0 := by rw [hV0]; exact (Below.refl _ _).alloc (Nat.le_refl _) _
        have HVB : Hid (V0.heap[wr.heap.size]? = some (.cells #[.string x.key, .int .i64 x.flags, .int .i64 x.till, .int .i64 x.cas, .int .i64 x.used, .string x.value, .bool x.far, .int .i64 x.place.page, .int .i64 x.place.off] 83 (0, 0))) := by show _ = _; rw [hV0]; exact blk_new wr _
        have HWV := hid (HW.out.below hbV)
        have HTV := hid (HT0.out.trans (Wrote.of_below hbV HW.out.big))
        rw [← hV0]
        clear hV0 hbV c0 c1 c2 c3 c4 c5 c6 c7 c8
        have HCEL : Hid (∀ wq, Wrote w1.heap.size g V0 wq → wq.heap[wr.heap.size]? = some (.cells #[.string x.key, .int .i64 x.flags, .int .i64 x.till, .int .i64 x.cas, .int .i64 x.used, .string x.value, .bool x.far, .int .i64 x.place.page, .int .i64 x.place.off] 83 (0, 0))) := fun wq h => h.typed _ _ _ _ HVB.out (by decide) (by omega)
        obtain ⟨LB, hLB⟩ : ∃ LB : Str, LB = L2 ++ itemsBytes (s.items.take k) := ⟨_, rfl⟩
        rw [← hLB] at HWV HL
        have HLB2 := hid hLB
        have hk1000 : k < 1000 := by omega
        have HLB3 : Hid (LB.length ≤ 500000) := by show _ ≤ _; have := HL.out; omega
        clear hLB
        obtain ⟨ks1, ks2⟩ := HIN.out.key
        have hvs := HIN.out.value
        have HLA : Hid (LB.length + 10 + x.key.size ≤ 140737488355328) := by show _ ≤ _; have := HLB3.out; omega
        have e0 : V0.cell? ⟨wr.heap.size, 0, none⟩ = some (.string x.key) := cor HVB.out rfl
        go_wp2_with fail
        refine (w_text x.key (by omega) w1.heap.size g _ _ HWV.out HLA.out).mono ?_
        rintro e w2 ⟨rfl, hW2, hT2⟩
        have HW2 := hid hW2
        have HT2 := hid hT2
        have HR2 := hid (HCEL.out _ hT2)
        have hgw2 : g < w2.heap.size := Nat.lt_of_lt_of_le (Nat.lt_trans hgw (blt HVB.out)) hT2.outer.2.2.2
        have hwb : wr.heap.size < w2.heap.size := (blt HR2.out)
        have f1 : w2.cell? ⟨wr.heap.size, 1, none⟩ = some (.int .i64 x.flags) := cor HR2.out rfl
        have f2 : w2.cell? ⟨wr.heap.size, 2, none⟩ = some (.int .i64 x.till) := cor HR2.out rfl
        have f3 : w2.cell? ⟨wr.heap.size, 3, none⟩ = some (.int .i64 x.cas) := cor HR2.out rfl
        have f4 : w2.cell? ⟨wr.heap.size, 4, none⟩ = some (.int .i64 x.used) := cor HR2.out rfl
        clear hW2 hT2 e0 HW
        go_upto_region 21 with (fail)
        obtain ⟨V1, hV1⟩ : ∃ V1, V1 = w2.alloc (.cells #[.int .i64 x.flags, .int .i64 x.till, .int .i64 x.cas, .int .i64 x.used] 3) := ⟨_, rfl⟩
        have hbV1 : Below w2.heap.size w2 V1 := by rw [hV1]; exact (Below.refl _ _).alloc (Nat.le_refl _) _
        have HF1 : Hid (V1.heap[w2.heap.size]? = some (.cells #[.int .i64 x.flags, .int .i64 x.till, .int .i64 x.cas, .int .i64 x.used] 3 (0, 0))) := by show _ = _; rw [hV1]; exact blk_new w2 _
        have HWV1 := hid (HW2.out.below hbV1)
        have HTV1 := hid (HT2.out.trans (Wrote.of_below hbV1 HW2.out.big))
        rw [← hV1]
        clear hV1 hbV1 f1 f2 f3 f4 HW2 HT2 HR2
        obtain ⟨LC, hLC⟩ : ∃ LC : Str, LC = LB ++ textOf (bl x.key) := ⟨_, rfl⟩
        rw [← hLC] at HWV1
        have HLC := hid hLC
        have HLC2 : Hid (LC.length ≤ 500040) := by show _ ≤ _; have := HLB3.out; have := textOf_len (bl x.key) (by rw [bl_length]; omega); rw [bl_length] at this; rw [hLC, List.length_append]; omega
        clear hLC
        obtain ⟨wo2, rfl⟩ : ∃ wo2 : World, wo2 = wr := ⟨_, rfl⟩
        go_loopw [104] (fun i wr => ∃ j : Nat, j ≤ 4 ∧ i = .int .i64 j ∧ Hid (Writer w1.heap.size g wr (LC ++ sevs ((fourOf x).take j))) ∧ Hid (Wrote w1.heap.size g V0 wr) ∧ Hid (wr.heap[w2.heap.size]? = some (.cells #[.int .i64 x.flags, .int .i64 x.till, .int .i64 x.cas, .int .i64 x.used] 3 (0, 0)))) (fun i _ => 4 - (intOf i).toNat)
        case atStart => exact ⟨0, by omega, rfl, by show Writer _ _ _ _; simpa [sevs] using HWV1.out, HTV1, HF1⟩
        case round =>
         obtain ⟨j, hj, rfl, HWj, HTj, HFj⟩ := hrel
         by_cases hj4 : j < 4
         ·
          have cj : wr.cell? ⟨w2.heap.size, j, none⟩ = some (.int .i64 ((fourOf x)[j]'hj4)) := by rw [cell_of_row wr _ _ _ _ _ HFj.out]; exact four_get x j hj4
          have hx := four_ok HIN.out j hj4
          have HSj := hid (sevs_snoc (fourOf x) j hj4)
          obtain ⟨y, hyy⟩ : ∃ y, y = (fourOf x)[j]'hj4 := ⟨_, rfl⟩
          rw [← hyy] at cj hx HSj
          obtain ⟨y0, y1⟩ := hx
          have HLj : Hid ((LC ++ sevs ((fourOf x).take j)).length + 10 ≤ 140737488355328) := by
           show _ ≤ _
           have h1 := sevs_len ((fourOf x).take j) (fun n hn => by
            obtain ⟨q, hq, rfl⟩ := List.mem_iff_getElem.1 (List.mem_of_mem_take hn)
            exact (four_ok HIN.out q hq).2)
           have h2 : ((fourOf x).take j).length ≤ 4 := by rw [List.length_take]; omega
           have := HLC2.out
           rw [List.length_append]; omega
          have hj0 : (0 : Int) ≤ (j : Int) := by omega
          have hj1 : (j : Int) < 4 := by omega
          clear hyy
          go_wp2_with fail
          refine (w_num y y0 y1 w1.heap.size g _ _ HWj.out.f HLj.out).mono ?_
          rintro e w3 ⟨rfl, hW3, hT3⟩
          rw [List.append_assoc, ← HSj.out] at hW3
          have HW3 := hid hW3
          have HT3 := hid (HTj.out.trans hT3)
          have HF3 := hid (hT3.typed _ _ _ _ HFj.out (by decide) (by omega))
          clear hW3 hT3 cj
          go_wp2_with fail
          go_roundw
          case rel => first | exact ⟨j + 1, by omega, by go_num, HW3, HT3, HF3⟩ | ((repeat apply Exists.intro); exact ⟨⟨j + 1, by omega, by go_num, HW3, HT3, HF3⟩, rfl⟩)
          case measure => simp [intOf]; omega
         ·
          obtain rfl : j = 4 := by omega
          have HWq : Hid (Writer w1.heap.size g wr (LC ++ sevs (fourOf x))) := by
           have h := HWj.out
           rw [show (fourOf x).take 4 = fourOf x from List.take_of_length_le (Nat.le_refl _)] at h
           exact h
          obtain ⟨LD, hLD⟩ : ∃ LD : Str, LD = LC ++ sevs (fourOf x) := ⟨_, rfl⟩
          rw [← hLD] at HWq
          have HLD := hid hLD
          have HLD2 : Hid (LD.length ≤ 500080) := by
           show _ ≤ _
           have h1 := sevs_len (fourOf x) (fun n hn => by
            obtain ⟨q, hq, rfl⟩ := List.mem_iff_getElem.1 hn
            exact (four_ok HIN.out q hq).2)
           have := HLC2.out
           have h4 : (fourOf x).length = 4 := rfl
           rw [hLD, List.length_append]; omega
          have HFIN : Hid (LD ++ farBytes x = L2 ++ itemsBytes (s.items.take (k + 1))) := by
           show _ = _
           rw [HS.out, itemBytes_eq, hLD, HLC.out, HLB2.out]; simp
          have HBND : Hid ((LD ++ farBytes x).length ≤ 6210 + 400 * (k + 1)) := by
           show _ ≤ _
           have h1 := HL.out
           have h2 := textOf_len (bl x.key) (by rw [bl_length]; omega)
           have h3 := sevs_len (fourOf x) (fun n hn => by
            obtain ⟨q, hq, rfl⟩ := List.mem_iff_getElem.1 hn
            exact (four_ok HIN.out q hq).2)
           have h4 : (fourOf x).length = 4 := rfl
           have h5 := farBytes_len HIN.out
           rw [bl_length] at h2
           rw [hLD, HLC.out]
           simp only [List.length_append]; omega
          clear hLD HWj hj hj4
          obtain ⟨far, hfar⟩ : ∃ b, b = x.far := ⟨_, rfl⟩
          have HFAR := hid hfar
          have HRq := hid (HCEL.out _ HTj.out)
          have g6 : wr.cell? ⟨wo2.heap.size, 6, none⟩ = some (.bool far) := by rw [cell_of_row wr _ _ _ _ _ HRq.out, hfar]; rfl
          have g5 : wr.cell? ⟨wo2.heap.size, 5, none⟩ = some (.string x.value) := cor HRq.out rfl
          clear hfar
          have HLE : Hid (LD.length + 10 ≤ 140737488355328) := by show _ ≤ _; have := HLD2.out; omega
          cases far
          ·
           have HFB : Hid (farBytes x = sev 0 ++ textOf (bl x.value)) := by show _ = _; unfold farBytes; rw [← HFAR.out]; rfl
           go_wp2_with fail
           refine (w_num 0 (by omega) (by omega) w1.heap.size g _ _ HWq.out.f HLE.out).mono ?_
           rintro e w3 ⟨rfl, hW3, hT3⟩
           have HW3 := hid hW3
           have HT3 := hid (HTj.out.trans hT3)
           have HR3 := hid (HCEL.out _ HT3.out)
           have q5 : w3.cell? ⟨wo2.heap.size, 5, none⟩ = some (.string x.value) := cor HR3.out rfl
           have HLF : Hid ((LD ++ sev (0 : Int).toNat).length + 10 + x.value.size ≤ 140737488355328) := by show _ ≤ _; have := HLD2.out; have := sev_le (n := (0 : Int).toNat) (by decide); rw [List.length_append]; omega
           clear hW3 hT3 g5 g6
           go_wp2_with fail
           refine (w_text x.value (by omega) w1.heap.size g _ _ HW3.out HLF.out).mono ?_
           rintro e w4 ⟨rfl, hW4, hT4⟩
           have hW4' : Writer w1.heap.size g w4 (L2 ++ itemsBytes (s.items.take (k + 1))) := by rw [← HFIN.out, HFB.out, ← List.append_assoc]; exact hW4
           have HW4 := hid hW4'
           have HT4 := hid (HTV.out.trans (HT3.out.trans hT4))
           have HL4 : Hid ((L2 ++ itemsBytes (s.items.take (k + 1))).length ≤ 6210 + 400 * (k + 1)) := by show _ ≤ _; rw [← HFIN.out]; exact HBND.out
           clear hW4 hT4 hW4' q5
           go_wp2_with fail
           go_roundw
           case rel => first | exact ⟨k + 1, by omega, by go_num, HW4, HT4, HL4⟩ | ((repeat apply Exists.intro); exact ⟨⟨k + 1, by omega, by go_num, HW4, HT4, HL4⟩, rfl⟩)
           case measure => simp [intOf]; omega
          ·
           have HFB : Hid (farBytes x = sev 1 ++ sev x.place.page.toNat ++ sev x.place.off.toNat) := by show _ = _; unfold farBytes; rw [← HFAR.out]; rfl
           obtain ⟨⟨pp0, pp1⟩, po0, po1⟩ := HIN.out.place HFAR.out.symm
           obtain ⟨pp, hpp⟩ : ∃ p, p = x.place.page := ⟨_, rfl⟩
           obtain ⟨po, hpo⟩ : ∃ p, p = x.place.off := ⟨_, rfl⟩
           rw [← hpp] at pp0 pp1 HFB
           rw [← hpo] at po0 po1 HFB
           have HPP := hid hpp
           have HPO := hid hpo
           clear hpp hpo
           go_wp2_with fail
           refine (w_num 1 (by omega) (by omega) w1.heap.size g _ _ HWq.out.f HLE.out).mono ?_
           rintro e w3 ⟨rfl, hW3, hT3⟩
           have HW3 := hid hW3
           have HT3 := hid (HTj.out.trans hT3)
           have HR3 := hid (HCEL.out _ HT3.out)
           have q7 : w3.cell? ⟨wo2.heap.size, 7, none⟩ = some (.int .i64 pp) := by rw [cell_of_row w3 _ _ _ _ _ HR3.out, HPP.out]; rfl
           have HLF : Hid ((LD ++ sev (1 : Int).toNat).length + 10 ≤ 140737488355328) := by show _ ≤ _; have := HLD2.out; have := sev_le (n := (1 : Int).toNat) (by decide); rw [List.length_append]; omega
           clear hW3 hT3 g5 g6
           go_wp2_with fail
           refine (w_num pp (by omega) pp1 w1.heap.size g _ _ HW3.out.f HLF.out).mono ?_
           rintro e w4 ⟨rfl, hW4, hT4⟩
           have HW4 := hid hW4
           have HT4 := hid (HT3.out.trans hT4)
           have HR4 := hid (HCEL.out _ HT4.out)
           have q8 : w4.cell? ⟨wo2.heap.size, 8, none⟩ = some (.int .i64 po) := by rw [cell_of_row w4 _ _ _ _ _ HR4.out, HPO.out]; rfl
           have HLG : Hid ((LD ++ sev (1 : Int).toNat ++ sev pp.toNat).length + 10 ≤ 140737488355328) := by show _ ≤ _; have := HLD2.out; have := sev_le (n := (1 : Int).toNat) (by decide); have := sev_le (n := pp.toNat) (by omega); simp only [List.length_append]; omega
           clear hW4 hT4 q7
           go_wp2_with fail
           refine (w_num po po0 (by omega) w1.heap.size g _ _ HW4.out.f HLG.out).mono ?_
           rintro e w5 ⟨rfl, hW5, hT5⟩
           have hW5' : Writer w1.heap.size g w5 (L2 ++ itemsBytes (s.items.take (k + 1))) := by rw [← HFIN.out, HFB.out, ← List.append_assoc, ← List.append_assoc]; exact hW5
           have HW5 := hid hW5'
           have HT5 := hid (HTV.out.trans (HT4.out.trans hT5))
           have HL5 : Hid ((L2 ++ itemsBytes (s.items.take (k + 1))).length ≤ 6210 + 400 * (k + 1)) := by show _ ≤ _; rw [← HFIN.out]; exact HBND.out
           clear hW5 hT5 hW5' q8
           go_wp2_with fail
           go_roundw
           case rel => first | exact ⟨k + 1, by omega, by go_num, HW5, HT5, HL5⟩ | ((repeat apply Exists.intro); exact ⟨⟨k + 1, by omega, by go_num, HW5, HT5, HL5⟩, rfl⟩)
           case measure => simp [intOf]; omega
       ·
        have hk2 : k = s.items.length := by omega
        have HWE : Hid (Writer w1.heap.size g wr (bodyOf s)) := by
         have h := HW.out
         rw [hk2, List.take_length, HE2.out, HE1.out] at h
         exact h
        have HLN : Hid ((bodyOf s).length ≤ 500000) := by
         have h := HL.out
         rw [hk2, List.take_length, HE2.out, HE1.out] at h
         exact Nat.le_trans h (by omega)
        obtain ⟨L, hL⟩ : ∃ L, L = bodyOf s := ⟨_, rfl⟩
        rw [← hL] at HWE HLN HT
        obtain ⟨va, vc, hh, how⟩ := HWE.out.rows
        have HOW := hid how
        have hby := own_bytes how
        have HBY := hid hby
        have hbig := HWE.out.big
        have HLM : Hid (L.length ≤ 140737488355328) := by show _ ≤ _; have := HLN.out; omega
        have HLO : Hid (L.length + 4 ≤ 140737488355328) := by show _ ≤ _; have := HLN.out; omega
        have c0 : wr.cell? ⟨g, 0, none⟩ = some (.slice va L.length vc) := cor hh rfl
        obtain ⟨⟨xx, yy⟩, had⟩ : ∃ p, p = ad L := ⟨_, rfl⟩
        have hadl := ad_lt L
        rw [← had] at hadl
        obtain ⟨hx1, hy1⟩ := hadl
        simp only at hx1 hy1
        obtain ⟨n, hn'⟩ : ∃ n : Int, n = (yy : Int) * 65536 + (xx : Nat) := ⟨_, rfl⟩
        have HNN : Hid (n = ((ad L).2 : Int) * 65536 + ((ad L).1 : Nat)) := by show _ = _; rw [← had]; exact hn'
        obtain ⟨y1, hy1'⟩ : ∃ m, m = yy / 256 := ⟨_, rfl⟩
        obtain ⟨y0, hy0'⟩ : ∃ m, m = yy % 256 := ⟨_, rfl⟩
        obtain ⟨x1, hx1'⟩ : ∃ m, m = xx / 256 := ⟨_, rfl⟩
        obtain ⟨x0, hx0'⟩ : ∃ m, m = xx % 256 := ⟨_, rfl⟩
        have HSL : Hid (sealOf L = [UInt8.ofNat y1, UInt8.ofNat y0, UInt8.ofNat x1, UInt8.ofNat x0]) := by show _ = _; unfold sealOf; rw [← had, hy1', hy0', hx1', hx0']
        obtain ⟨z, hz'⟩ : ∃ z : Nat, z = yy * 256 + x1 := ⟨_, rfl⟩
        have b1 : y1 < 256 := by omega
        have b2 : y0 < 256 := by omega
        have b3 : x1 < 256 := by omega
        have b4 : x0 < 256 := by omega
        have d1 : n / 16777216 = (y1 : Int) := by omega
        have d2 : n / 65536 = (yy : Int) := by omega
        have d3 : n / 256 = (z : Int) := by omega
        have u2 : (yy : Int) % 256 = (y0 : Int) := by omega
        have u3 : (z : Int) % 256 = (x1 : Int) := by omega
        have u4 : n % 256 = (x0 : Int) := by omega
        have n0 : 0 ≤ n := by omega
        have n1 : n ≤ 4294967295 := by omega
        have HBWR : Hid (Below w.heap.size w wr) := HBW.out
        clear hL HW HL hk hk2 hh how hby had hy1' hy0' hx1' hx0' hz' hn'
        go_wp2_with fail
        refine (sum_is L n HNN va vc _ HBY.out HLM.out).mono ?_
        rintro e w2 ⟨rfl, rfl⟩
        go_wp2_with (at_builtin; go_must (refine list_append_row _ rfl (.tmp 141) (.tmp 153) rfl w1.heap.size _ L rfl (.inl (owns_below HOW.out ((Below.refl _ _).alloc (Nat.le_refl _) _))) ⟨wr.heap.size, 0, none⟩ 4 4 [.int .u8 (y1 : Int), .int .u8 (y0 : Int), .int .u8 (x1 : Int), .int .u8 (x0 : Int)] rfl rfl (news_lit _ _ _ _ _ rfl rfl) (ones rfl) (by omega) HLO.out (by simp; omega) ?_))
        intro va1 vc1 w3 how3 hgr3
        have HO3 : Hid (w3.ownsRow w1.heap.size 5 1 (.slice va1 (L ++ sealOf L).length vc1) (L ++ sealOf L).length ((L ++ sealOf L).map byteV)) := by
         show World.ownsRow _ _ _ _ _ _ _
         rw [List.map_append, HSL.out]
         simp only [List.map_cons, List.map_nil, ← byte_cell b1, ← byte_cell b2, ← byte_cell b3, ← byte_cell b4, List.length_append, List.length_cons, List.length_nil]
         exact how3
        have hbw3 : Below w.heap.size w w3 := (HBWR.out.alloc HBWR.out.size _).grown hgr3 (by have := HBWR.out.size; simp; omega) (fun q e => by have := (HOW.out.lt q e).1; omega)
        clear how3 hgr3
        go_wp2_with fail
        go_ret2
        rw [HT.out]
        refine ⟨va1, vc1, by rw [show (L ++ sealOf L).length = L.length + 4 by simp [sealOf]]; rfl, own_bytes HO3.out, (own_cap HO3.out).1, (own_cap HO3.out).2, hbw3⟩
end Go.Proofs.YtbeegfkfpkfccaaGreatDoor.D

