/-
  Decoding: one step of a region that draws: a string's bytes.
-/
import Derived.Test.YtbipegbgfdpaeaaDoorCDecRel
namespace Go.Proofs.YtbipegbgfdpaeaaDoor.D
open Go.RowKit
theorem run_conv (w : World) (l : Str) (hl : l.length ≤ 1000) : ∃ c w', (convert 9 38 (.string (mkB l))).run Tryd.prog w = .ok (.slice (some ⟨w.heap.size, 0, none⟩) l.length c) w' ∧
    (∀ n : Int, PB w' (.slice (some ⟨w.heap.size, 0, none⟩) l.length c) ⟨n, l⟩) ∧ Below w.heap.size w w' := by
  have hsz : (mkB l).size = l.length := mkB_size l
  have hbl : bl (mkB l) = l := by simp [bl, mkB]
  have h := run_bytes_of_string w 9 38 5 (mkB l) Tryd.underlying9 Tryd.underlying38 Tryd.underlying5
  rw [hsz] at h
  refine ⟨_, _, h, fun n => ⟨w.heap.size, _, _, _, rfl, grownCap_ge _ _ _ _, ?_, by rw [show w.heap.size = (w.drew).heap.size from rfl]; exact blk_new _ _, .inr ⟨_, _, rfl, fun i v hv => ?_⟩⟩, ((Below.refl _ _).drew).alloc (by simp) _⟩
  · exact Nat.le_trans (grownCap_le_maxLen w l.length 0 _ (by unfold maxLen; omega)) (by unfold maxLen; omega)
  · have e : (w.drew).heap.size = w.heap.size := rfl
    rw [← e, Nat.zero_add, cell_alloc_row]
    refine bytesRow_get (mkB l) _ i v ?_
    simp only at hv
    rw [hbl]; exact hv
theorem step_conv {ops : Array Oper} {o : Oper} {a : Act} {K : Act → World → Prop} {Q : Exit → Act → World → Prop} {E : Prop} (W : World) (hgd : o.guard = none) (x : Operand) (ho : o.op = .convert 9 38 x) (l : Str) (hl : l.length ≤ 1000) (hx : a.eval x = .string (mkB l))
    (h : ∀ c w', (∀ n : Int, PB w' (.slice (some ⟨W.heap.size, 0, none⟩) l.length c) ⟨n, l⟩) → Below W.heap.size W w' → K (a.put o.dst (.slice (some ⟨W.heap.size, 0, none⟩) l.length c)) w') :
    if Region.wanted o (yielded ops a.tmps) = true then Oper.wp Tryd.prog o a W K Q else E := by
  have hw : Region.wanted o (yielded ops a.tmps) = true := by simp [Region.wanted, hgd]
  rw [if_pos hw]
  obtain ⟨c, w', hr, h1, h2⟩ := run_conv W l hl
  unfold Oper.wp execOp
  simp only [ho, Sem.run_bind, Sem.run_pure, Result.andThen_ok, hx, hr]
  exact h _ _ h1 h2
theorem step_store_row {ops : Array Oper} {o : Oper} {a : Act} {K : Act → World → Prop} {Q : Exit → Act → World → Prop} {E : Prop} (W : World) (hgd : o.guard = none) (ty : TypeId) (x y : Operand) (ho : o.op = .store ty x y)
    (g : Nat) (cells : Array Value) (hx : a.eval x = .pointer (some ⟨g, 0, none⟩)) (hy : a.eval y = .agg cells)
    (t : TypeId) (old : Array Value) (hg : W.heap[g]? = some (.cells old t (0, 0))) (hi : (Tryd.prog.info? ty).map (·.size) = some cells.size)
    (hold : old.size = cells.size) (h1 : cells.all (·.oneCell') = true) (h : K (a.put o.dst undef) (W.setRow g cells)) :
    if Region.wanted o (yielded ops a.tmps) = true then Oper.wp Tryd.prog o a W K Q else E := by
  have hw : Region.wanted o (yielded ops a.tmps) = true := by simp [Region.wanted, hgd]
  rw [if_pos hw]
  exact wp_store_row ty x y ho g cells hx hy t old hg hi hold h1 h
theorem U8Keep.setRow {w : World} {g T : Nat} {cs cs2 : Array Value} {fr : Nat × Nat} (hg : w.heap[g]? = some (.cells cs T fr)) (hT : T ≠ 5) : U8Keep w (w.setRow g cs2) := fun b cs' fr' hb =>
  (setRow_other w g b cs2 (fun e => by rw [show b = g from e.symm ▸ rfl] at hb; rw [hg] at hb; cases hb; exact hT rfl)).trans hb
theorem Dec.out {w0 w w1 : World} {R S : Nat} {t : Store} {va fa : Option Addr} {vc fc : Nat} {vs : List Value} (h : Dec w0 R S w t va fa vc fc vs) (hb : Below w.heap.size w w1) (hi : ∀ x ∈ t.items, ItemB x) (hp : ∀ p ∈ t.flash.pages, PageB p) (hR : R < S) (h0 : w0.heap.size ≤ R) :
    OutStore t 0 w0 (.returned (.tuple #[.agg (storeV t va vc fa fc), .int .i64 0])) (w1.setRow R (storeV t va vc fa fc)) := by
  have h1 := h.made hb
  have hk : ∀ k, S + 1 ≤ k → k < w1.heap.size → (w1.setRow R (storeV t va vc fa fc)).heap[k]? = w1.heap[k]? := fun k hk _ => setRow_other _ _ k _ (by omega)
  refine ⟨va, vc, fa, fc, rfl, own_items (owns_kept h1.items hk) hi, ?_, h1.below.trans (Below.setRow _ R _ h0)⟩
  exact PagesT.rows (base := S + 1) (vs := vs) ⟨h1.pages.len, owns_kept h1.pages.row hk, fun j p u a b => (h1.pages.bytes j p u a b).keep (U8Keep.setRow h1.res (by decide))⟩ hp
theorem item_ones (x : Item) : ∀ u ∈ itemCells x, u.oneCell' = true := by
  intro u hu
  simp only [itemCells, List.mem_cons, List.not_mem_nil, or_false] at hu
  rcases hu with rfl | rfl | rfl | rfl | rfl | rfl | rfl | rfl | rfl <;> rfl
/-- an item more behind items of the call's own -/
theorem step_item {ops : Array Oper} {o : Oper} {a : Act} {K : Act → World → Prop} {Q : Exit → Act → World → Prop} {E : Prop} (W : World) (hgd : o.guard = none) (s x : Operand)
    (ho : o.op = .call { callee := .builtin .append, args := #[s, x], argTypes := #[25, 25] }) (base k B : Nat) (v : Value) (y : Item) (xs : List Value)
    (hs : a.eval s = v) (hx : a.eval x = .slice (some ⟨B, 0, none⟩) 1 1) (hown : W.ownsRow base 58 9 v k xs) (hb : W.heap[B]? = some (.cells (itemOf y) 58 (0, 0)))
    (hk : (k + 1) * 88 ≤ 140737488355328) (hbase : base ≤ W.heap.size)
    (h : ∀ g cap w', w'.ownsRow base 58 9 (.slice (some ⟨g, 0, none⟩) (k + 1) cap) (k + 1) (xs ++ itemCells y) → W.grownBy w' v.ownBlock → (v.ownBlock = some g ∨ g = W.heap.size) → g < w'.heap.size → K (a.put o.dst (.slice (some ⟨g, 0, none⟩) (k + 1) cap)) w') :
    if Region.wanted o (yielded ops a.tmps) = true then Oper.wp Tryd.prog o a W K Q else E := by
  obtain ⟨j0, hj, hw0, hw1, hw2⟩ := info_parts infoItem
  exact step_append_lies W hgd s x _ ho base 58 j0 _ 9 88 Tryd.underlying25 hj hw0 hw1 hw2 rfl (by decide) v k xs hs hown ⟨B, 0, none⟩ 1 1 (itemCells y) hx rfl (World.news_of_block hb) (item_ones y) (by decide) (by unfold maxLen; omega) hk hbase _ rfl h
theorem item_is (g : Nat) (s : Rd) (x : Item) (s1 : Rd) (hn : Hid ((x, s1) = s.item)) (w : World) (h : Rdr g w s) :
    Calls Tryd.prog 48 #[.pointer (some ⟨g, 0, none⟩)] w (RdEnd g (.agg #[.string x.key, .int .i64 x.flags, .int .i64 x.till, .int .i64 x.cas, .int .i64 x.used, .string x.value, .bool x.far, .int .i64 x.place.page, .int .i64 x.place.off]) s1 w) := by
  have := r_item g s w h
  rwa [← hn.out] at this
end Go.Proofs.YtbipegbgfdpaeaaDoor.D
