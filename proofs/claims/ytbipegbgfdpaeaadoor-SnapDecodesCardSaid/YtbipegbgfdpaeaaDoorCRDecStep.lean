/-
  Decoding by the promise's reader: steps at the list of a plain region; the end of an item; the seal called.
-/
import Derived.Test.YtbipegbgfdpaeaaDoorCDecode
namespace Go.Proofs.YtbipegbgfdpaeaaDoor.D
open Go.RowKit
theorem seal_at (l sl : Str) (n : Nat) (hn : Hid (n = l.length)) (hs : Hid (sl = sealOf l)) (a : Option Addr) (c : Nat) (w : World) (h : BytesAt w a l) (hl : n ≤ 140737488355328) :
    Calls Tryd.prog 44 #[.slice a n c] w (RowEnd sl w) := by
  have hn := hn.out
  subst hn
  rw [hs.out]
  exact ref_SealOf l a c w h hl
theorem list_conv {ops : Array Oper} {rest : List Oper} {o : Oper} {a : Act} {Q : Exit → Act → World → Prop} (W : World) (hgd : o.guard = none) (x : Operand) (ho : o.op = .convert 9 38 x) (l : Str) (hl : l.length ≤ 1000) (hx : a.eval x = .string (mkB l))
    (h : ∀ c w', (∀ n : Int, PB w' (.slice (some ⟨W.heap.size, 0, none⟩) l.length c) ⟨n, l⟩) → Below W.heap.size W w' → wpList Tryd.prog ops Q rest (a.put o.dst (.slice (some ⟨W.heap.size, 0, none⟩) l.length c)) w') :
    wpList Tryd.prog ops Q (o :: rest) a W := by
  refine wpList_plain hgd fun K hK => ?_
  obtain ⟨c, w', hr, h1, h2⟩ := run_conv W l hl
  unfold Oper.wp execOp
  simp only [ho, Sem.run_bind, Sem.run_pure, Result.andThen_ok, hx, hr]
  exact hK _ _ (h _ _ h1 h2)
theorem list_page {ops : Array Oper} {rest : List Oper} {o : Oper} {a : Act} {Q : Exit → Act → World → Prop} (W : World) (hgd : o.guard = none) (s x : Operand)
    (ho : o.op = .call { callee := .builtin .append, args := #[s, x], argTypes := #[26, 26] }) (base k B : Nat) (v u : Value) (pn : Int) (xs : List Value)
    (hs : a.eval s = v) (hx : a.eval x = .slice (some ⟨B, 0, none⟩) 1 1) (hown : W.ownsRow base 73 2 v k xs) (hb : W.heap[B]? = some (.cells #[.int .i64 pn, u] 73 (0, 0))) (hu : u.oneCell' = true)
    (hk : (k + 1) * 32 ≤ 140737488355328) (hbase : base ≤ W.heap.size)
    (h : ∀ g cap w', w'.ownsRow base 73 2 (.slice (some ⟨g, 0, none⟩) (k + 1) cap) (k + 1) (xs ++ [.int .i64 pn, u]) → W.grownBy w' v.ownBlock → (v.ownBlock = some g ∨ g = W.heap.size) → g < w'.heap.size → wpList Tryd.prog ops Q rest (a.put o.dst (.slice (some ⟨g, 0, none⟩) (k + 1) cap)) w') :
    wpList Tryd.prog ops Q (o :: rest) a W := by
  obtain ⟨j0, hj, hw0, hw1, hw2⟩ := info_parts infoPage
  exact wpList_append_lies W hgd s x _ ho base 73 j0 _ 2 32 Tryd.underlying26 hj hw0 hw1 hw2 rfl (by decide) v k xs hs hown ⟨B, 0, none⟩ 1 1 [.int .i64 pn, u] hx rfl (World.news_of_block hb) (ones (by rw [List.all_cons, List.all_cons, hu]; rfl)) (by decide) (by unfold maxLen; omega) hk hbase _ rfl h
theorem list_item {ops : Array Oper} {rest : List Oper} {o : Oper} {a : Act} {Q : Exit → Act → World → Prop} (W : World) (hgd : o.guard = none) (s x : Operand)
    (ho : o.op = .call { callee := .builtin .append, args := #[s, x], argTypes := #[25, 25] }) (base k B : Nat) (v : Value) (y : Item) (xs : List Value)
    (hs : a.eval s = v) (hx : a.eval x = .slice (some ⟨B, 0, none⟩) 1 1) (hown : W.ownsRow base 58 9 v k xs) (hb : W.heap[B]? = some (.cells (itemOf y) 58 (0, 0)))
    (hk : (k + 1) * 88 ≤ 140737488355328) (hbase : base ≤ W.heap.size)
    (h : ∀ g cap w', w'.ownsRow base 58 9 (.slice (some ⟨g, 0, none⟩) (k + 1) cap) (k + 1) (xs ++ itemCells y) → W.grownBy w' v.ownBlock → (v.ownBlock = some g ∨ g = W.heap.size) → g < w'.heap.size → wpList Tryd.prog ops Q rest (a.put o.dst (.slice (some ⟨g, 0, none⟩) (k + 1) cap)) w') :
    wpList Tryd.prog ops Q (o :: rest) a W := by
  obtain ⟨j0, hj, hw0, hw1, hw2⟩ := info_parts infoItem
  exact wpList_append_lies W hgd s x _ ho base 58 j0 _ 9 88 Tryd.underlying25 hj hw0 hw1 hw2 rfl (by decide) v k xs hs hown ⟨B, 0, none⟩ 1 1 (itemCells y) hx rfl (World.news_of_block hb) (item_ones y) (by decide) (by unfold maxLen; omega) hk hbase _ rfl h
/-- a text behind a fault -/
theorem text_err {s : Rd} (he : s.err ≠ 0) {m : Int} (hm : 0 ≤ m) : s.text m = ([], s) := by
  have hn := num_err s he
  have hy : s.many m = (0, s) := by unfold Rd.many; rw [hn, if_neg (by simp; exact hm)]
  unfold Rd.text
  rw [hy, if_pos he]
/-- an item whose kind is neither near nor far -/
theorem tail_bad {s : Rd} {k : Str} {fl ti ca us t : Int} (h0 : t ≠ 0) (h1 : t ≠ 1) (he : s.err = 0) : s.tail k fl ti ca us t = (⟨mkB k, fl, ti, ca, us, mkB [], false, ⟨0, 0⟩⟩, ⟨s.rest, 4⟩) := by
  rw [tail_else h0 h1]; unfold Rd.wrong; rw [if_pos he]
/-- a call that writes into the spool alone -/
theorem Dec.spl {w0 w w' : World} {R S g : Nat} {full : Str} {s : Rd} {t : Store} {va fa : Option Addr} {vc fc : Nat} {vs : List Value} (h : Dec w0 R S w t va fa vc fc vs) (hs : Spl g full w s) (hg : w.grownBy w' (some g))
    (hR : R < g) (hS : g < S) (h0 : w0.heap.size ≤ g) : Dec w0 R S w' t va fa vc fc vs := by
  obtain ⟨_, _, _, _, _, _, hh, _⟩ := hs.ex
  exact h.read hg hh (by decide) hR hS h0
theorem Spl.err_cell {g : Nat} {full : Str} {w : World} {s : Rd} (h : Spl g full w s) : w.cell? ⟨g, 2, none⟩ = some (.int .i64 s.err) := by
  obtain ⟨_, _, _, _, _, _, hh, _⟩ := h.ex
  rw [cell_of_row w _ _ _ _ _ hh]; rfl
theorem Spl.free {g i : Nat} {full : Str} {w : World} {s : Rd} (h : Spl g full w s) : w.frozen? ⟨g, i, none⟩ = false := by
  obtain ⟨_, _, _, _, _, _, hh, _⟩ := h.ex
  exact frozen_of_row w _ _ _ _ hh
abbrev st4 (a b c d : Int) : Store := ⟨a, b, c, d, 0, 0, 0, 0, [], ⟨0, 0, []⟩⟩
end Go.Proofs.YtbipegbgfdpaeaaDoor.D
