/-
  Contracts: slices.Delete of one page, of one item: out of a row of the call's own.
-/
import Derived.Test.YtjhfomihlobjgaaCOwn
import Derived.Deep.RegionLaw
import Derived.Laws.IdiomCopy
import Derived.Deep.MidRow
namespace Go.Proofs.Ytjhfomihlobjgaa.D
open Go.RowKit

/-- cells that are set one by one, in a block that is known whole -/
theorem setCells_block (g : Nat) (t : TypeId) (fr : Nat × Nat) : ∀ (vs : List Value) (o : Nat) (w : World) (cur : Array Value), w.heap[g]? = some (.cells cur t fr) → o + vs.length ≤ cur.size →
    (w.setCells g o vs).heap[g]? = some (.cells (cur.toList.take o ++ vs ++ cur.toList.drop (o + vs.length)).toArray t fr)
  | [], o, w, cur, h, _ => by
    rw [World.setCells, h, List.append_nil, List.length_nil, Nat.add_zero, List.take_append_drop]
  | v :: r, o, w, cur, h, hl => by
    have ho : o < cur.size := by simp at hl; omega
    rw [World.setCells, setCell_eq_setRow w g o cur t fr v h]
    have h2 := setRow_heap w g cur (cur.setIfInBounds o v) t fr h
    rw [setCells_block g t fr r (o + 1) _ _ h2 (by simp at hl ⊢; omega)]
    congr 2
    have e1 : (cur.setIfInBounds o v).toList = cur.toList.set o v := by simp
    have e2 : (cur.toList.set o v).take (o + 1) = cur.toList.take o ++ [v] := by
      rw [List.take_succ_eq_append_getElem (by simpa using ho), List.take_set_of_le (Nat.le_refl _)]; simp
    have e3 : (cur.toList.set o v).drop (o + 1 + r.length) = cur.toList.drop (o + (v :: r).length) := by
      rw [List.drop_set_of_lt (by omega), List.length_cons]; congr 1; omega
    rw [e1, e2, e3]; simp
theorem setCells_kept (g : Nat) (w : World) (o : Nat) (vs : List Value) : w.grownBy (w.setCells g o vs) (some g) := by
  induction vs generalizing o w with
  | nil => exact ⟨rfl, rfl, rfl, Nat.le_refl _, fun _ _ _ => rfl⟩
  | cons v r ih =>
    have h1 := ih (w.setCell ⟨g, o, none⟩ v) (o + 1)
    refine ⟨h1.os, h1.tape, h1.output, ?_, ?_⟩
    · have := h1.size; rw [World.setCells]; simpa using this
    · intro k hk hne
      rw [World.setCells, h1.block k (by simpa using hk) hne]
      exact Below.heap_setCell w ⟨g, o, none⟩ v k (fun e => hne (by rw [e]))
theorem run_clear_wide {P : Program} (w : World) (t e ty : TypeId) (z : Value) (ht : P.underlying t = some (.slice e)) (hv : ∀ w, (zeroValue e).run P w = .ok z w) (h1 : (Builtin.zeroCells z.cells 1).toList.all (·.oneCell') = true) (b o c : Nat)
    (hc : ∀ j, j < z.cells.size → (w.cell? ⟨b, o + j, none⟩).isSome = true) (hf : ∀ j, j < z.cells.size → w.frozen? ⟨b, o + j, none⟩ = false) :
    (Builtin.clear_ #[t] ty #[.slice (some ⟨b, o, none⟩) 1 c]).run P w = .ok (.tuple #[]) (w.setCells b o (Builtin.zeroCells z.cells 1).toList) := by
  have hl : (Builtin.zeroCells z.cells 1).toList.length = z.cells.size := by simp [Builtin.zeroCells]
  have hst := run_storeCells_cells (P := P) b o (Builtin.zeroCells z.cells 1).toList 0 w (by rw [hl]; simpa using hc) (by rw [hl]; simpa using hf) (fun v hv' => List.all_eq_true.1 h1 v hv')
  simp only [Nat.add_zero] at hst
  simp [Builtin.clear_, run_underlying ht, hv, hst]
def DelEnd (base e size g cap n i : Nat) (xs : List Value) (w : World) (E : Ending) (w' : World) : Prop :=
  E = .returned (.slice (some ⟨g, 0, none⟩) (n - 1) cap) ∧ w'.ownsRow base e size (.slice (some ⟨g, 0, none⟩) (n - 1) cap) (n - 1) (xs.take (i * size) ++ xs.drop ((i + 1) * size)) ∧ w.grownBy w' (some g)
theorem grownBy_trans {a b c : World} {r : Option Nat} (h : a.grownBy b r) (k : b.grownBy c r) : a.grownBy c r :=
  ⟨k.os.trans h.os, k.tape.trans h.tape, k.output.trans h.output, Nat.le_trans h.size k.size, fun j hj hne => (k.block j (Nat.lt_of_lt_of_le hj h.size) hne).trans (h.block j hj hne)⟩
theorem grownBy_drew (w : World) (r : Option Nat) : w.grownBy w.drew r := ⟨rfl, rfl, rfl, Nat.le_refl _, fun _ _ _ => rfl⟩
/-- what a row holds behind the two steps -/
theorem del_row {w W1 W2 : World} {base e size g cap n i : Nat} {xs : List Value} {zs : List Value} (h : w.ownsRow base e size (.slice (some ⟨g, 0, none⟩) n cap) n xs) (hi : i < n) (hs : 0 < size)
    (h1 : W1 = w.drew.setCells g (i * size) (xs.drop ((i + 1) * size))) (hz : zs.length = size) (h2 : W2 = W1.setCells g ((n - 1) * size) zs) :
    W2.ownsRow base e size (.slice (some ⟨g, 0, none⟩) (n - 1) cap) (n - 1) (xs.take (i * size) ++ xs.drop ((i + 1) * size)) ∧ w.grownBy W2 (some g) := by
  obtain ⟨hx, ⟨hv, _⟩ | ⟨g', cap', cur, hv, hb, hh, hnc, hm, hsz, htk⟩⟩ := h
  · cases hv
  cases hv
  have hmul : ∀ a b : Nat, a ≤ b → a * size ≤ b * size := fun a b h => Nat.mul_le_mul_right size h
  have m1 := hmul (i + 1) n hi
  have m2 := hmul n cap hnc
  have m3 : (i + 1) * size = i * size + size := Nat.succ_mul i size
  have m4 : (n - 1) * size + size = n * size := by rw [← Nat.succ_mul]; congr 1; omega
  have hdl : (xs.drop ((i + 1) * size)).length = n * size - (i + 1) * size := by rw [List.length_drop, hx]
  have b1 := setCells_block g e (0, 0) (xs.drop ((i + 1) * size)) (i * size) w.drew cur hh (by rw [hdl, hsz]; omega)
  rw [← h1] at b1
  have l0 : (cur.toList.take (i * size)).length = i * size := by rw [List.length_take, Array.length_toList, hsz]; omega
  obtain ⟨mid, hmid⟩ : ∃ mid, mid = cur.toList.take (i * size) ++ xs.drop ((i + 1) * size) ++ cur.toList.drop (i * size + (xs.drop ((i + 1) * size)).length) := ⟨_, rfl⟩
  rw [← hmid] at b1
  have l2 : mid.length = cap * size := by
    rw [hmid]
    simp only [List.length_append, l0, hdl, List.length_drop, Array.length_toList, hsz]; omega
  have b2 := setCells_block g e (0, 0) zs ((n - 1) * size) W1 _ b1 (by rw [List.size_toArray, l2, hz]; omega)
  rw [← h2] at b2
  have e1 : cur.toList.take (i * size) = xs.take (i * size) := by rw [← htk, List.take_take, Nat.min_eq_left (by omega)]
  have l1 : (xs.take (i * size)).length = i * size := by rw [List.length_take, hx]; omega
  have l3 : (xs.take (i * size) ++ xs.drop ((i + 1) * size)).length = (n - 1) * size := by rw [List.length_append, l1, hdl]; omega
  refine ⟨⟨l3, .inr ⟨g, cap, _, rfl, hb, b2, by omega, hm, ?_, ?_⟩⟩, ?_⟩
  · simp only [List.size_toArray, List.length_append, List.length_take, List.length_drop, l2, hz]; omega
  · have e2 : mid.take ((n - 1) * size) = xs.take (i * size) ++ xs.drop ((i + 1) * size) := by
      rw [hmid, e1]
      exact List.take_left' l3
    simp only [e2]
    rw [List.append_assoc]
    exact List.take_left' l3
  · rw [h2, h1]
    exact grownBy_trans (grownBy_trans (grownBy_drew w _) (setCells_kept g _ _ _)) (setCells_kept g _ _ _)
theorem delEnd_mk {base e size g cap n i m : Nat} {xs : List Value} {w W2 : World} (hm : m = n - 1) (h : W2.ownsRow base e size (.slice (some ⟨g, 0, none⟩) (n - 1) cap) (n - 1) (xs.take (i * size) ++ xs.drop ((i + 1) * size)) ∧ w.grownBy W2 (some g)) :
    DelEnd base e size g cap n i xs w (.returned (.slice (some ⟨g, 0, none⟩) m cap)) W2 := by
  subst hm
  exact ⟨rfl, h⟩
theorem own_cell {w : World} {base e size g cap n : Nat} {xs : List Value} (h : w.ownsRow base e size (.slice (some ⟨g, 0, none⟩) n cap) n xs) (j : Nat) (hj : j < n * size) : (w.cell? ⟨g, j, none⟩).isSome = true ∧ w.frozen? ⟨g, j, none⟩ = false := by
  obtain ⟨hx, ⟨hv, _⟩ | ⟨g', cap', cur, hv, hb, hh, hnc, hm, hsz, htk⟩⟩ := h
  · cases hv
  cases hv
  have m2 : n * size ≤ cap * size := Nat.mul_le_mul_right size hnc
  constructor
  · unfold World.cell?; rw [hh]; simp; omega
  · unfold World.frozen?; rw [hh]; simp

theorem zero_page : ∀ w, (zeroValue 69).run Try.prog w = .ok (.agg #[.int .i64 0, .slice none 0 0]) w := fun w => by kernel_rfl
set_option maxHeartbeats 1000000 in
set_option maxRecDepth 1000000 in
theorem delete_page (base g cap n i : Nat) (xs : List Value) (w : World) (I J : Int) (HI : Hid (I = (i : Int))) (HJ : Hid (J = (i : Int) + 1)) (h : w.ownsRow base 69 2 (.slice (some ⟨g, 0, none⟩) n cap) n xs) (hi : i < n) (hone : xs.all (·.oneCell') = true) :
    Calls Try.prog 49 #[.slice (some ⟨g, 0, none⟩) n cap, .int .i64 I, .int .i64 J] w (DelEnd base 69 2 g cap n i xs w) := by
  have e1 := HI.out
  have e2 := HJ.out
  subst e1 e2
  obtain ⟨i0, hi0, hz0, hz1, hz2⟩ := info_parts infoPage
  have hx : xs.length = n * 2 := h.1
  have hcells := h.cells (g := g) rfl
  have hcap : n ≤ cap ∧ cap ≤ 9223372036854775807 := by
    obtain ⟨_, ⟨hv, _⟩ | ⟨g', cap', cur, hv, hb, hh, hnc, hm, hsz, htk⟩⟩ := h
    · cases hv
    cases hv
    exact ⟨hnc, le_maxLen hm⟩
  obtain ⟨hnc, hcm⟩ := hcap
  obtain ⟨news, hnews⟩ : ∃ news, news = xs.drop ((i + 1) * 2) := ⟨_, rfl⟩
  have hlen : news.length = (n - (i + 1)) * 2 := by rw [hnews, List.length_drop, hx, Nat.sub_mul]
  have hsrc0 : ∀ t u, news[t]? = some u → w.drew.cell? ⟨g, (i + 1) * 2 + t, none⟩ = some u := by
    intro t u hu
    rw [hnews, List.getElem?_drop] at hu
    have := hcells _ _ hu
    rwa [addr_add, Nat.zero_add] at this
  obtain ⟨A, hA, hsrc⟩ : ∃ A : Addr, (if cap = i + 1 then some (⟨g, 0, none⟩ : Addr) else some ⟨g, (i + 1) * 2, none⟩) = some A ∧ Hid (∀ t u, news[t]? = some u → w.drew.cell? (A.add t) = some u) := by
    by_cases hc : cap = i + 1
    · refine ⟨⟨g, 0, none⟩, by simp [hc], fun t u hu => ?_⟩
      have h0 : news.length = 0 := by rw [hlen]; omega
      rw [List.length_eq_zero_iff.1 h0] at hu
      simp at hu
    · refine ⟨⟨g, (i + 1) * 2, none⟩, by simp [hc], fun t u hu => ?_⟩
      rw [addr_add]
      exact hsrc0 t u hu
  have s1 : Hid (news.length = (n - (i + 1)) * 2) := hlen
  have s2 : Hid (∀ u ∈ news, u.oneCell' = true) := by
    intro u hu
    rw [hnews] at hu
    exact List.all_eq_true.1 hone u (List.mem_of_mem_drop hu)
  have s3 : Hid (∀ t, t < news.length → (w.drew.cell? ⟨g, 0 + i * 2 + t, none⟩).isSome = true ∧ w.drew.frozen? ⟨g, 0 + i * 2 + t, none⟩ = false) := by
    intro t ht
    rw [hlen] at ht
    rw [Nat.zero_add]
    exact own_cell h _ (by omega)
  obtain ⟨W1, hW1⟩ : ∃ W1, W1 = w.drew.setCells g (0 + i * 2) news := ⟨_, rfl⟩
  have hg1 : w.grownBy W1 (some g) := by rw [hW1]; exact grownBy_trans (grownBy_drew w _) (setCells_kept g _ _ _)
  have hc1 : ∀ j, j < n * 2 → (W1.cell? ⟨g, j, none⟩).isSome = true ∧ W1.frozen? ⟨g, j, none⟩ = false := by
    intro j hj
    have h0 := own_cell h j hj
    rw [hW1]
    exact ⟨World.isSome_setCells g _ _ _ _ h0.1, (World.frozen?_setCells g _ _ _ _).trans h0.2⟩
  have hcl : ∀ ty, (Builtin.clear_ #[26] ty #[.slice (some ⟨g, (i + (n - (i + 1))) * 2, none⟩) (n - (i + (n - (i + 1)))) (cap - (i + (n - (i + 1))))]).run Try.prog W1 = .ok (.tuple #[]) (W1.setCells g ((i + (n - (i + 1))) * 2) (Builtin.zeroCells (.agg #[.int .i64 0, .slice none 0 0] : Value).cells 1).toList) := by
    intro ty
    rw [show n - (i + (n - (i + 1))) = 1 by omega]
    exact run_clear_wide W1 _ _ ty _ Try.underlying26 zero_page (by kernel_rfl) g _ _ (fun j hj => (hc1 _ (by have hj' : j < 2 := hj; omega)).1) (fun j hj => (hc1 _ (by have hj' : j < 2 := hj; omega)).2)
  have X : Hid (W1 = w.drew.setCells g (i * 2) (xs.drop ((i + 1) * 2))) := by show W1 = _; rw [hW1, Nat.zero_add, hnews]
  have hW : Hid (W1 = w.drew.setCells g (0 + i * 2) news) := hW1
  have H := Lib.hid h
  have hic : i ≤ cap := by omega
  have hjc : i + 1 ≤ cap := by omega
  have q1 : ((i : Int) == (i : Int) + 1) = false := by rw [beq_eq_false_iff_ne]; omega
  have q2 : ¬ cap = i + (n - (i + 1)) := by omega
  have p1 : (0 : Int) ≤ (i : Int) + 1 := by omega
  have p2 : (i : Int) + 1 ≤ (n : Int) := by omega
  have p3 : ((i : Int) + 1).toNat = i + 1 := by omega
  clear hW1 hg1 hc1 hsrc0 hcells hnews hlen h hx hone HI HJ
  go_enter Try.func49, Try.ntmps49
  go_wp2_with fail
  go_region_law (refine step_append_room rfl (.tmp 22) (.tmp 25) 26 rfl 69 i0 2 Try.underlying26 hi0 hz1 g 0 i cap (by simp [Act.eval, Act.put]) A (n - (i + 1)) (cap - (i + 1)) news (by simp [Act.eval, Act.put]) s1.out hsrc.out s2.out (by omega) s3.out ?_; rw [← hW.out])
  go_wp2_with fail
  go_ret
  exact delEnd_mk (by omega) (del_row (W2 := W1.setCells g ((i + (n - (i + 1))) * 2) (Builtin.zeroCells (.agg #[.int .i64 0, .slice none 0 0] : Value).cells 1).toList) H.out hi (by decide) X.out (by kernel_rfl) (by rw [show n - 1 = i + (n - (i + 1)) by omega]))
end Go.Proofs.Ytjhfomihlobjgaa.D
