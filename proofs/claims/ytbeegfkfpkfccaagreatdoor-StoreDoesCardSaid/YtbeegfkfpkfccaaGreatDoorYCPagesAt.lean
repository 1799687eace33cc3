/-
 Pages of the call's own that begin anywhere in a block. Lemmas on worlds alone.
-/
import Derived.Test.YtbeegfkfpkfccaaGreatDoorYOwn
import Derived.Test.YtbeegfkfpkfccaaGreatDoorYPlain
namespace Go.Proofs.YtbeegfkfpkfccaaGreatDoor.D
open Go.RowKit
structure PagesAt (base : Nat) (w : World) (b o : Nat) (ps : List Page) (vs : List Value) : Prop where
 len : vs.length = ps.length
 big : base ≤ b
 lt : b < w.heap.size
 cells : ∀ j v, (pageCells ps vs)[j]? = some v → w.cell? ⟨b, o + j, none⟩ = some v
 free : ∀ j, j < ps.length * 2 → w.frozen? ⟨b, o + j, none⟩ = false
 byte : ∀ (j : Nat) (p : Page) (u : Value), ps[j]? = some p → vs[j]? = some u → w.ownsRow base 5 1 u p.bytes.length (p.bytes.map byteV)
 off : ∀ (j : Nat) (u : Value), vs[j]? = some u → u.ownBlock ≠ some b
 far : ∀ (i j : Nat) (u u' : Value) (k : Nat), i < j → vs[i]? = some u → vs[j]? = some u' → u.ownBlock = some k → u'.ownBlock ≠ some k
theorem PagesMid.at {base : Nat} {w : World} {g n c : Nat} {ps : List Page} {vs : List Value} (h : PagesOwn base w (.slice (some ⟨g, 0, none⟩) n c) ps vs) (hn : n = ps.length) : PagesAt base w g 0 ps vs := by
 subst hn;refine ⟨h.len, (h.row.lt g rfl).1, (h.row.lt g rfl).2, fun j v hv => ?_, fun j hj => ?_, h.byte, fun j u hu => ?_, h.far⟩
 ·have := h.row.cells (g := g) rfl j v hv
  rw [addr_add] at this; exact this
 ·rw [Nat.zero_add]
  exact (own_cell h.row j hj).2
 ·have hj := (List.getElem?_eq_some_iff.1 hu).1
  have hl := h.len;have := own_types (h.byte j _ u (List.getElem?_eq_getElem (by omega)) hu) h.row (by decide)
  rcases this with e | e
  ·rw [e]; simp
  ·intro e2; exact e (by rw [e2]; rfl)
theorem PagesAt.kept {base b o : Nat} {w w' : World} {ps : List Page} {vs : List Value} (h : PagesAt base w b o ps vs) (hb : ∀ k, base ≤ k → k < w.heap.size → w'.heap[k]? = w.heap[k]?) (hs : w.heap.size ≤ w'.heap.size) : PagesAt base w' b o ps vs := by
 have keep : ∀ {e size : Nat} {x : Value} {n : Nat} {xs : List Value}, w.ownsRow base e size x n xs → w'.ownsRow base e size x n xs := by
  intro e size x n xs hx;refine ⟨hx.1, ?_⟩
  rcases hx.2 with hn | ⟨g, cap, cur, rfl, hg, hh, rest⟩
  ·exact .inl hn
  ·exact .inr ⟨g, cap, cur, rfl, hg, by rw [hb g hg (blt hh)]; exact hh, rest⟩
 have hbb := hb b h.big h.lt;exact ⟨h.len, h.big, Nat.lt_of_lt_of_le h.lt hs, fun j v hv => (World.cell?_of_block (w := w) hbb).trans (h.cells j v hv), fun j hj => (World.frozen?_of_block (w := w) hbb).trans (h.free j hj), fun j p u h1 h2 => keep (h.byte j p u h1 h2), h.off, h.far⟩
theorem PagesAt.below {base b o : Nat} {w w' : World} {ps : List Page} {vs : List Value} (h : PagesAt base w b o ps vs) (hb : Below w.heap.size w w') : PagesAt base w' b o ps vs := h.kept (fun k _ hk => hb.block k hk) hb.size
theorem PagesAt.setCell_other {base b o : Nat} {w : World} {ps : List Page} {vs : List Value} (h : PagesAt base w b o ps vs) {F i : Nat} (hF : F < base) (v : Value) : PagesAt base (w.setCell ⟨F, i, none⟩ v) b o ps vs :=
 h.kept (fun k hk _ => Below.heap_setCell w ⟨F, i, none⟩ v k (fun e => by have : k = F := e; omega)) (by simp)
theorem PagesAt.base {base base' b o : Nat} {w : World} {ps : List Page} {vs : List Value} (h : PagesAt base w b o ps vs) (hb : base' ≤ base) : PagesAt base' w b o ps vs :=
 ⟨h.len, Nat.le_trans hb h.big, h.lt, h.cells, h.free, fun j p u h1 h2 => owns_base (h.byte j p u h1 h2) hb, h.off, h.far⟩
theorem PagesAt.rows {base b o : Nat} {w : World} {ps : List Page} {vs : List Value} (h : PagesAt base w b o ps vs) (hb : ∀ p ∈ ps, PageB p) : RowsAt w (some ⟨b, o, none⟩) 2 (PageR w) ps := by
 refine .inr ⟨b, o, rfl, fun i hi => ?_⟩;have hp : ps[i]? = some ps[i] := List.getElem?_eq_getElem hi;obtain ⟨u, hu⟩ : ∃ u, vs[i]? = some u := ⟨_, List.getElem?_eq_getElem (by rw [h.len]; exact hi)⟩;have hd := h.byte i _ u hp hu;obtain ⟨ba, bc, rfl⟩ := own_slice hd;obtain ⟨hb1, hb2⟩ := hb ps[i] (List.getElem_mem hi)
 have hcap : ps[i].bytes.length ≤ bc ∧ bc ≤ 9223372036854775807 := by
  rcases hd.2 with ⟨e1, e2⟩ | ⟨g', c', cur', e1, _, _, h3, h4, _⟩
  ·simp only [Value.slice.injEq] at e1
   obtain ⟨_, e3, e4⟩ := e1;omega
  ·simp only [Value.slice.injEq] at e1
   obtain ⟨_, _, rfl⟩ := e1;exact ⟨h3, le_maxLen h4⟩
 refine ⟨[.int .i64 ps[i].number, .slice ba ps[i].bytes.length bc], rfl, ⟨hb1, ba, bc, rfl, own_bytes hd, hb2, hcap⟩, ?_⟩;intro j v hj
 match j, hj with
 | 0, hj => cases hj; exact h.cells _ _ (pageCells_num ps vs i _ h.len hp)
 | 1, hj => cases hj; rw [Nat.add_assoc]; exact h.cells _ _ (pageCells_val ps vs i _ h.len hu)
theorem PagesAt.lastOf {base b o : Nat} {w : World} {front : List Page} {num : Int} {by' : Str} {vs : List Value} (h : PagesAt base w b o (front ++ [⟨num, by'⟩]) vs) :
  ∃ ba bc vs', vs = vs' ++ [.slice ba by'.length bc] ∧ vs'.length = front.length ∧ w.cell? ⟨b, o + front.length * 2, none⟩ = some (.int .i64 num) ∧ w.cell? ⟨b, o + (front.length * 2 + 1), none⟩ = some (.slice ba by'.length bc) ∧
   w.ownsRow base 5 1 (.slice ba by'.length bc) by'.length (by'.map byteV) := by
 have hl : vs.length = front.length + 1 := by have := h.len; simpa using this
 have hne : vs ≠ [] := by intro e; rw [e] at hl; cases hl
 have hp : (front ++ [⟨num, by'⟩])[front.length]? = some ⟨num, by'⟩ := by simp
 have hu : vs[front.length]? = some (vs.getLast hne) := by
  rw [List.getLast_eq_getElem, List.getElem?_eq_getElem (by omega)]
  congr 2; omega
 have hby := h.byte _ _ _ hp hu
 obtain ⟨ba, bc, hs⟩ := own_slice hby
 have hc := h.cells _ _ (pageCells_val _ _ _ _ h.len hu)
 rw [hs] at hc hby
 refine ⟨ba, bc, vs.dropLast, ?_, ?_, h.cells _ _ (pageCells_num _ _ _ _ h.len hp), hc, hby⟩
 ·rw [← hs]; exact (List.dropLast_concat_getLast hne).symm
 ·rw [List.length_dropLast, hl]; rfl
theorem PagesAt.last {base b o : Nat} {w w' : World} {ps : List Page} {vs : List Value} {num : Int} {by' by2 : Str} {u u' : Value} (h : PagesAt base w b o (ps ++ [⟨num, by'⟩]) (vs ++ [u])) (hl : vs.length = ps.length)
  (hg : w.grownBy w' u.ownBlock) (hu : w'.ownsRow base 5 1 u' by2.length (by2.map byteV)) (hat : ∀ k, u'.ownBlock = some k → u.ownBlock = some k ∨ w.heap.size ≤ k) :
  PagesAt base (w'.setCell ⟨b, o + (ps.length * 2 + 1), none⟩ u') b o (ps ++ [⟨num, by2⟩]) (vs ++ [u']) := by
 have hlt := h.lt;have hub : u.ownBlock ≠ some b := h.off ps.length u (by rw [← hl]; simp);have hblk : w'.heap[b]? = w.heap[b]? := hg.block b hlt (fun e => hub e.symm);have hl2 : (pageCells ps vs).length = ps.length * 2 := pageCells_length ps vs hl
 have hset : (pageCells (ps ++ [⟨num, by'⟩]) (vs ++ [u])).set (ps.length * 2 + 1) u' = pageCells (ps ++ [⟨num, by2⟩]) (vs ++ [u']) := by
  rw [pageCells_append ps _ vs _ hl, pageCells_append ps _ vs _ hl, List.set_append_right _ _ (by omega), hl2];rw [show ps.length * 2 + 1 - ps.length * 2 = 1 by omega]; rfl
 have hub' : u'.ownBlock ≠ some b := fun e => by
  rcases hat b e with e1 | e1
  ·exact hub e1
  ·omega
 have hkeep : ∀ {x : Value} {m : Nat} {xs : List Value}, w'.ownsRow base 5 1 x m xs → x.ownBlock ≠ some b → (w'.setCell ⟨b, o + (ps.length * 2 + 1), none⟩ u').ownsRow base 5 1 x m xs := by
  intro x m xs h1 h2;refine h1.kept (row := some b) ⟨rfl, rfl, rfl, by simp, fun j _ hj => Below.heap_setCell w' _ u' j (fun e => hj (congrArg some e))⟩ ?_
  cases hx : x.ownBlock with
  | none => exact .inl rfl
  | some k => right; rw [hx] at h2; exact h2
 refine ⟨by simp [hl], h.big, by rw [World.size_setCell]; exact Nat.lt_of_lt_of_le hlt hg.size, ?_, ?_, ?_, ?_, ?_⟩
 ·intro j v hv
  rw [← hset] at hv
  by_cases hj : j = ps.length * 2 + 1
  ·subst hj
   have hx : w'.cell? ⟨b, o + (ps.length * 2 + 1), none⟩ = some u := (World.cell?_of_block (w := w) hblk).trans (h.cells _ _ (pageCells_val _ _ ps.length u h.len (by rw [← hl]; simp)));rw [List.getElem?_set_self (by rw [pageCells_length _ _ h.len]; simp; omega)] at hv
   cases hv
   exact setCell_self hx
  ·rw [List.getElem?_set_ne (by omega)] at hv
   exact cell_setCell_off ((World.cell?_of_block (w := w) hblk).trans (h.cells j v hv)) (by omega)
 ·intro j hj
  exact frozen_set ((World.frozen?_of_block (w := w) hblk).trans (h.free j (by simpa using hj)))
 ·intro j q x h1 h2
  by_cases hj : j < ps.length
  ·rw [List.getElem?_append_left hj] at h1
   rw [List.getElem?_append_left (by omega)] at h2;have h2' : (vs ++ [u])[j]? = some x := by rw [List.getElem?_append_left (by omega)]; exact h2
   refine hkeep ((h.byte j q x (by rw [List.getElem?_append_left hj]; exact h1) h2').kept hg ?_) (h.off j x h2')
   cases hx : x.ownBlock with
   | none => exact .inl rfl
   | some k =>
    right
    intro e;exact h.far j ps.length x u k hj h2' (by rw [← hl]; simp) hx e.symm
  ·rw [List.getElem?_append_right (by omega)] at h1
   rw [List.getElem?_append_right (by omega), hl] at h2
   have h0 : j - ps.length = 0 := by
    have := (List.getElem?_eq_some_iff.1 h1).1
    simp at this; omega
   rw [h0] at h1 h2
   simp at h1 h2
   subst h1 h2;exact hkeep hu hub'
 ·intro j x h2
  by_cases hj : j < vs.length
  ·rw [List.getElem?_append_left hj] at h2
   exact h.off j x (by rw [List.getElem?_append_left hj]; exact h2)
  ·rw [List.getElem?_append_right (by omega)] at h2
   have h0 : j - vs.length = 0 := by
    have := (List.getElem?_eq_some_iff.1 h2).1
    simp at this; omega
   rw [h0] at h2
   simp at h2
   subst h2;exact hub'
 ·intro i j x x' k hij h1 h2 h3
  have hj : j < vs.length + 1 := by have := (List.getElem?_eq_some_iff.1 h2).1; simpa using this
  rw [List.getElem?_append_left (by omega)] at h1
  by_cases hj2 : j < vs.length
  ·rw [List.getElem?_append_left hj2] at h2
   exact h.far i j x x' k hij (by rw [List.getElem?_append_left (by omega)]; exact h1) (by rw [List.getElem?_append_left hj2]; exact h2) h3
  ·rw [List.getElem?_append_right (by omega), show j - vs.length = 0 by omega] at h2
   simp at h2
   subst h2;intro h4;have h1' : (vs ++ [u])[i]? = some x := by rw [List.getElem?_append_left (by omega)]; exact h1
   rcases hat k h4 with h5 | h5
   ·exact h.far i ps.length x u k (by omega) h1' (by rw [← hl]; simp) h3 h5
   ·have h6 := (h.byte i _ x (List.getElem?_eq_getElem (by simp; omega)) h1').lt k h3
    omega
theorem PagesMid.room {base : Nat} {w : World} {g c : Nat} {p : Page} {ps : List Page} {u : Value} {vs : List Value} {x : Int} (h : PagesOwn base w (.slice (some ⟨g, 0, none⟩) (ps.length + 1) c) (p :: ps) (u :: vs)) (hc : ps.length + 2 ≤ c) :
  PagesAt base (w.setCells g (2 + ps.length * 2) [.int .i64 x, .slice none 0 0]) g 2 (ps ++ [⟨x, []⟩]) (vs ++ [.slice none 0 0]) := by
 have hl : vs.length = ps.length := by have := h.len; simpa using this
 obtain ⟨hx, ⟨hv, _⟩ | ⟨g', cap, cur, hv, hb, hh, hnc, hm, hsz, htk⟩⟩ := h.row
 ·cases hv
 cases hv
 have hl2 : (pageCells ps vs).length = ps.length * 2 := pageCells_length ps vs hl;have b1 := setCells_block g 98 (0, 0) [.int .i64 x, .slice none 0 0] (2 + ps.length * 2) w cur hh (by simp [hsz]; omega)
 have hcur : cur.toList.take (2 + ps.length * 2) = .int .i64 p.number :: u :: pageCells ps vs := by
  rw [show 2 + ps.length * 2 = (p :: ps).length * 2 by simp; omega]; exact htk
 rw [hcur] at b1;have hg := setCells_kept g w (2 + ps.length * 2) [.int .i64 x, .slice none 0 0];have hpc : pageCells (ps ++ [⟨x, []⟩]) (vs ++ [.slice none 0 0]) = pageCells ps vs ++ [.int .i64 x, .slice none 0 0] := by rw [pageCells_append ps _ vs _ hl]; rfl
 have hoff : ∀ (j : Nat) (y : Value), vs[j]? = some y → y.ownBlock ≠ some g := by
  intro j y hy;have hj := (List.getElem?_eq_some_iff.1 hy).1;have := own_types (h.byte (j + 1) _ y (List.getElem?_eq_getElem (by simp; omega)) (by simpa using hy)) h.row (by decide)
  rcases this with e | e
  ·rw [e]; simp
  ·intro e2; exact e (by rw [e2]; rfl)
 refine ⟨by simp [hl], hb, ?_, ?_, ?_, ?_, ?_, ?_⟩
 ·exact (blt b1)
 ·intro j v hv
  rw [hpc] at hv;unfold World.cell?;rw [b1];show (Array.mk _)[2 + j]? = some v;simp only [List.getElem?_toArray];rw [List.append_assoc, List.cons_append, List.cons_append, show 2 + j = j + 1 + 1 by omega, List.getElem?_cons_succ, List.getElem?_cons_succ, ← List.append_assoc, List.getElem?_append_left (by have := (List.getElem?_eq_some_iff.1 hv).1; exact this)];exact hv
 ·intro j _
  unfold World.frozen?;rw [b1]; simp
 ·intro j q y h1 h2
  by_cases hj : j < ps.length
  ·rw [List.getElem?_append_left hj] at h1
   rw [List.getElem?_append_left (by omega)] at h2;refine (h.byte (j + 1) q y (by simpa using h1) (by simpa using h2)).kept hg ?_
   cases hy : y.ownBlock with
   | none => exact .inl rfl
   | some k => right; have := hoff j y h2; rw [hy] at this; exact this
  ·rw [List.getElem?_append_right (by omega)] at h1
   rw [List.getElem?_append_right (by omega), hl] at h2
   have h0 : j - ps.length = 0 := by
    have := (List.getElem?_eq_some_iff.1 h1).1
    simp at this; omega
   rw [h0] at h1 h2
   simp at h1 h2
   subst h1 h2;exact World.ownsRow_nil _ _ _ _
 ·intro j y h2
  by_cases hj : j < vs.length
  ·rw [List.getElem?_append_left hj] at h2
   exact hoff j y h2
  ·rw [List.getElem?_append_right (by omega)] at h2
   have h0 : j - vs.length = 0 := by
    have := (List.getElem?_eq_some_iff.1 h2).1
    simp at this; omega
   rw [h0] at h2
   simp at h2
   subst h2
   simp [Value.ownBlock]
 ·intro i j y y' k hij h1 h2 h3
  have hj : j < vs.length + 1 := by have := (List.getElem?_eq_some_iff.1 h2).1; simpa using this
  rw [List.getElem?_append_left (by omega)] at h1
  by_cases hj2 : j < vs.length
  ·rw [List.getElem?_append_left hj2] at h2
   exact h.far (i + 1) (j + 1) y y' k (by omega) (by simpa using h1) (by simpa using h2) h3
  ·rw [List.getElem?_append_right (by omega), show j - vs.length = 0 by omega] at h2
   simp at h2
   subst h2
   simp [Value.ownBlock]
def OffRow (O : Nat) (v : Value) (vs : List Value) : Prop := v.ownBlock ≠ some O ∧ ∀ (j : Nat) (u : Value), vs[j]? = some u → u.ownBlock ≠ some O
theorem PagesMid.offTop {base : Nat} {w : World} {v : Value} {ps : List Page} {vs : List Value} (h : PagesOwn base w v ps vs) : OffRow w.heap.size v vs :=
 ⟨fun e => by have := (h.row.lt _ e).2; omega, fun j u hu e => by
  have hj := (List.getElem?_eq_some_iff.1 hu).1;have hl := h.len;have := ((h.byte j _ u (List.getElem?_eq_getElem (by omega)) hu).lt _ e).2
  omega⟩
theorem owns_off {w w' : World} {O : Nat} (hb : ∀ k, k ≠ O → k < w.heap.size → w'.heap[k]? = w.heap[k]?) {base e size : Nat} {x : Value} {n : Nat} {xs : List Value} (hx : w.ownsRow base e size x n xs) (ho : x.ownBlock ≠ some O) : w'.ownsRow base e size x n xs := by
 refine ⟨hx.1, ?_⟩
 rcases hx.2 with hn | ⟨g, cap, cur, rfl, hg, hh, rest⟩
 ·exact .inl hn
 ·exact .inr ⟨g, cap, cur, rfl, hg, by rw [hb g (fun e => ho (by rw [e]; rfl)) (blt hh)]; exact hh, rest⟩
theorem PagesMid.storeOff {base : Nat} {w : World} {v : Value} {ps : List Page} {vs : List Value} (h : PagesOwn base w v ps vs) {O i : Nat} (ho : OffRow O v vs) (x : Value) : PagesOwn base (w.setCell ⟨O, i, none⟩ x) v ps vs := by
 have hb : ∀ k, k ≠ O → k < w.heap.size → (w.setCell ⟨O, i, none⟩ x).heap[k]? = w.heap[k]? := fun k hk _ => Below.heap_setCell w _ x k hk
 exact PagesOwn.mk h.len (owns_off hb h.row ho.1) (fun j p u h1 h2 => owns_off hb (h.byte j p u h1 h2) (ho.2 j u h2)) h.far
theorem PagesAt.storeOff {base b o : Nat} {w : World} {ps : List Page} {vs : List Value} (h : PagesAt base w b o ps vs) {O i : Nat} (hbo : b ≠ O) (ho : ∀ (j : Nat) (u : Value), vs[j]? = some u → u.ownBlock ≠ some O) (x : Value) : PagesAt base (w.setCell ⟨O, i, none⟩ x) b o ps vs := by
 have hb : ∀ k, k ≠ O → k < w.heap.size → (w.setCell ⟨O, i, none⟩ x).heap[k]? = w.heap[k]? := fun k hk _ => Below.heap_setCell w _ x k hk
 have hbb := hb b hbo h.lt;exact ⟨h.len, h.big, by rw [World.size_setCell]; exact h.lt, fun j v hv => (World.cell?_of_block (w := w) hbb).trans (h.cells j v hv), fun j hj => (World.frozen?_of_block (w := w) hbb).trans (h.free j hj), fun j p u h1 h2 => owns_off hb (h.byte j p u h1 h2) (ho j u h2), h.off, h.far⟩
theorem off_snoc {O : Nat} {vs : List Value} {u : Value} (h : ∀ (j : Nat) (x : Value), vs[j]? = some x → x.ownBlock ≠ some O) (hu : u.ownBlock ≠ some O) : ∀ (j : Nat) (x : Value), (vs ++ [u])[j]? = some x → x.ownBlock ≠ some O := by
 intro j x hx
 by_cases hj : j < vs.length
 ·rw [List.getElem?_append_left hj] at hx
  exact h j x hx
 ·rw [List.getElem?_append_right (by omega)] at hx
  have h0 : j - vs.length = 0 := by
   have := (List.getElem?_eq_some_iff.1 hx).1
   simp at this; omega
  rw [h0] at hx
  simp at hx
  subst hx;exact hu
theorem PagesMid.regrow {base : Nat} {w w' : World} {v v' : Value} {p : Page} {ps : List Page} {u : Value} {vs : List Value} {x : Int} (h : PagesOwn base w v (p :: ps) (u :: vs)) (hg : w.grownBy w' none)
  (hrow : w'.ownsRow w.heap.size 98 2 v' (ps.length + 1) (pageCells ps vs ++ [.int .i64 x, .slice none 0 0])) (hbase : base ≤ w.heap.size) : PagesOwn base w' v' (ps ++ [⟨x, []⟩]) (vs ++ [.slice none 0 0]) := by
 have hl : vs.length = ps.length := by have := h.len; simpa using this
 have hk : ∀ {y : Value} {m : Nat} {xs : List Value}, w.ownsRow base 5 1 y m xs → w'.ownsRow base 5 1 y m xs := fun hy => hy.kept hg (by cases hy2 : Value.ownBlock _ with
  | none => exact .inl rfl
  | some k => right; simp)
 refine PagesOwn.mk (by simp [hl]) (by rw [pageCells_append ps _ vs _ hl, List.length_append]; exact owns_base hrow hbase) ?_ ?_
 ·intro j q y h1 h2
  by_cases hj : j < ps.length
  ·rw [List.getElem?_append_left hj] at h1
   rw [List.getElem?_append_left (by omega)] at h2;exact hk (h.byte (j + 1) q y (by simpa using h1) (by simpa using h2))
  ·rw [List.getElem?_append_right (by omega)] at h1
   rw [List.getElem?_append_right (by omega), hl] at h2
   have h0 : j - ps.length = 0 := by
    have := (List.getElem?_eq_some_iff.1 h1).1
    simp at this; omega
   rw [h0] at h1 h2
   simp at h1 h2
   subst h1 h2;exact World.ownsRow_nil _ _ _ _
 ·intro i j y y' k hij h1 h2 h3
  have hj : j < vs.length + 1 := by have := (List.getElem?_eq_some_iff.1 h2).1; simpa using this
  rw [List.getElem?_append_left (by omega)] at h1
  by_cases hj2 : j < vs.length
  ·rw [List.getElem?_append_left hj2] at h2
   exact h.far (i + 1) (j + 1) y y' k (by omega) (by simpa using h1) (by simpa using h2) h3
  ·rw [List.getElem?_append_right (by omega), show j - vs.length = 0 by omega] at h2
   simp at h2
   subst h2
   simp [Value.ownBlock]
theorem own_spare {w : World} {base e size g cap n : Nat} {xs : List Value} (h : w.ownsRow base e size (.slice (some ⟨g, 0, none⟩) n cap) n xs) (j : Nat) (hj : j < cap * size) : (w.cell? ⟨g, j, none⟩).isSome = true ∧ w.frozen? ⟨g, j, none⟩ = false := by
 obtain ⟨hx, ⟨hv, _⟩ | ⟨g', cap', cur, hv, hb, hh, hnc, hm, hsz, htk⟩⟩ := h
 ·cases hv
 cases hv
 constructor
 ·unfold World.cell?; rw [hh]; simp; omega
 ·unfold World.frozen?; rw [hh]; simp
theorem prep_pageB {f : Flash} {n : Nat} (h : ∀ p ∈ f.pages, PageB p) (h1 : 1 ≤ f.next) (h2 : f.next ≤ 1099511627776) : (∀ q ∈ (f.prep n).front, PageB q) ∧ I64 (f.prep n).num := by
 have hn : I64 f.next := ⟨by omega, by omega⟩
 cases hf : f.fits n
 ·by_cases hm : (f.pages.length : Int) = f.most
  ·rw [prep_shift hf hm]
   exact ⟨fun q hq => h q (List.mem_of_mem_tail hq), hn⟩
  ·rw [prep_new hf hm]
   exact ⟨fun q hq => h q hq, hn⟩
 ·obtain ⟨front, num, by', h0, _, hp⟩ := fits_split hf
  rw [hp];exact ⟨fun q hq => h q (by rw [h0]; simp [hq]), (h ⟨num, by'⟩ (by rw [h0]; simp)).1⟩
end Go.Proofs.YtbeegfkfpkfccaaGreatDoor.D
