/-
  Contract: store.Copy: the same store, in memory of the call's own. Condition: what is copied takes at most 2^47 bytes.
-/
import Derived.Test.YtbipegbgfdpaeaaDoorCCopy
import Derived.Test.YtbipegbgfdpaeaaDoorCSame
namespace Go.Proofs.YtbipegbgfdpaeaaDoor.D
open Go.RowKit

theorem flat_length {X : Type} (f : X → List Value) (n : Nat) : ∀ (xs : List X), (∀ x, (f x).length = n) → (xs.flatMap f).length = xs.length * n
  | [], _ => by simp
  | x :: xs, h => by
    rw [List.flatMap_cons, List.length_append, flat_length f n xs h, h x, List.length_cons, Nat.succ_mul, Nat.add_comm]
theorem flat_get {X : Type} (f : X → List Value) (n : Nat) : ∀ (xs : List X) (i : Nat) (x : X) (j : Nat), (∀ x, (f x).length = n) → xs[i]? = some x → j < n → (xs.flatMap f)[i * n + j]? = (f x)[j]?
  | [], i, x, j, _, hx, _ => by simp at hx
  | y :: xs, 0, x, j, h, hx, hj => by
    simp at hx; subst hx
    rw [List.flatMap_cons, Nat.zero_mul, Nat.zero_add, List.getElem?_append_left (by rw [h]; exact hj)]
  | y :: xs, i + 1, x, j, h, hx, hj => by
    rw [List.flatMap_cons, List.getElem?_append_right (by rw [h, Nat.succ_mul]; omega), h, ← flat_get f n xs i x j h (by simpa using hx) hj]
    congr 1
    rw [Nat.succ_mul]; omega
theorem items_cells {w : World} {a : Option Addr} {xs : List Item} (h : RowsAt w a 9 ItemR xs) : CellsAt w a (xs.flatMap itemCells) := by
  rcases h with h | ⟨b, o, ha, hc⟩
  · subst h; exact .inl rfl
  · refine .inr ⟨b, o, ha, fun i v hv => ?_⟩
    have hi := (List.getElem?_eq_some_iff.1 hv).1
    rw [flat_length itemCells 9 xs (fun _ => rfl)] at hi
    have hi9 : i / 9 < xs.length := by omega
    have he : i = i / 9 * 9 + i % 9 := by omega
    obtain ⟨cs, _, hR, h3⟩ := hc (i / 9) hi9
    rw [hR.1] at h3
    have hg := flat_get itemCells 9 xs (i / 9) xs[i / 9] (i % 9) (fun _ => rfl) (List.getElem?_eq_getElem hi9) (by omega)
    rw [← he, hv] at hg
    have := h3 (i % 9) v hg.symm
    rwa [Nat.add_assoc, ← he] at this
theorem items_one (xs : List Item) : (xs.flatMap itemCells).all (·.oneCell') = true := by
  rw [List.all_flatMap, List.all_eq_true]
  intro x _
  rfl
def ItemB (x : Item) : Prop := x.key.size ≤ reachBytes ∧ x.value.size ≤ reachBytes ∧ I64 x.flags ∧ I64 x.till ∧ I64 x.cas ∧ I64 x.used ∧ I64 x.place.page ∧ I64 x.place.off
theorem RowsAt.itemB {w : World} {a : Option Addr} {xs : List Item} (h : RowsAt w a 9 ItemR xs) : ∀ x ∈ xs, ItemB x := by
  intro x hx
  rcases h with h | ⟨b, o, _, hc⟩
  · subst h; simp at hx
  · obtain ⟨i, hi, rfl⟩ := List.mem_iff_getElem.1 hx
    obtain ⟨_, _, h1, _⟩ := hc i hi
    exact h1.2
/-- items of the call's own read as items -/
theorem own_items {w : World} {base : Nat} {va : Option Addr} {n vc : Nat} {xs : List Item} (h : w.ownsRow base 58 9 (.slice va n vc) xs.length (xs.flatMap itemCells)) (hb : ∀ x ∈ xs, ItemB x) : RowsAt w va 9 ItemR xs := by
  rcases Nat.eq_zero_or_pos xs.length with h0 | h0
  · exact .inl (List.eq_nil_of_length_eq_zero h0)
  · obtain ⟨g, cap, hv, _, _, _, _, hcell⟩ := own_shape h h0
    cases hv
    refine .inr ⟨g, 0, rfl, fun i hi => ⟨itemCells xs[i], rfl, ⟨rfl, hb _ (List.getElem_mem hi)⟩, fun j v hj => ?_⟩⟩
    have hj9 : j < 9 := (List.getElem?_eq_some_iff.1 hj).1
    rw [Nat.zero_add]
    exact hcell _ _ ((flat_get itemCells 9 xs i xs[i] j (fun _ => rfl) (List.getElem?_eq_getElem hi) hj9).trans hj)

def StoreEnd (s : Store) (w : World) (e : Ending) (w' : World) : Prop :=
  ∃ va vc fa fc vs, e = .returned (.agg (storeV s va vc fa fc)) ∧ w'.ownsRow w.heap.size 58 9 (.slice va s.items.length vc) s.items.length (s.items.flatMap itemCells) ∧
    PagesMid w.heap.size w' w' (.slice fa s.flash.pages.length fc) s.flash.pages vs s.flash.pages.length ∧ Below w.heap.size w w'

theorem store_block (w : World) (b : Nat) (hb : b = w.heap.size) (s : Store) (a : Option Addr) (c : Nat) (fa : Option Addr) (fc : Nat) (T : Nat) (j : Nat) (v : Value) (h : (storeV s a c fa fc)[j]? = some v) :
    (w.alloc (.cells (storeV s a c fa fc) T)).cell? ⟨b, j, none⟩ = some v := by subst hb; rw [cell_alloc_row]; exact h

theorem store_one (s : Store) (a fa : Option Addr) (c fc : Nat) : (storeV s a c fa fc).all (·.oneCell') = true := by
  rw [Array.all_eq_true_iff_forall_mem]
  intro x hx
  simp only [storeV, Array.mem_def, List.mem_cons, List.not_mem_nil, or_false] at hx
  rcases hx with rfl | rfl | rfl | rfl | rfl | rfl | rfl | rfl | rfl | rfl | rfl | rfl <;> rfl
theorem row4 (w : World) (g : Nat) (s : Store) (a fa va fva : Option Addr) (c fc vc fvc T : Nat) (h : w.heap[g]? = some (.cells (storeV s a c fa fc) T (0, 0))) :
    ((((w.setCell ⟨g, 8, none⟩ (.slice va s.items.length vc)).setCell ⟨g, 9, none⟩ (.int .i64 s.flash.most)).setCell ⟨g, 10, none⟩ (.int .i64 s.flash.next)).setCell ⟨g, 11, none⟩ (.slice fva s.flash.pages.length fvc))
      = w.setRow g (storeV s va vc fva fvc) := by
  rw [setCell_eq_setRow w g 8 _ _ _ _ h, setCell_eq_setRow _ g 9 _ _ _ _ (setRow_heap w g _ _ _ _ h), setRow_setRow, setCell_eq_setRow _ g 10 _ _ _ _ (setRow_heap w g _ _ _ _ h), setRow_setRow,
    setCell_eq_setRow _ g 11 _ _ _ _ (setRow_heap w g _ _ _ _ h), setRow_setRow]
  rfl


theorem owns_above {w w' : World} {base : Nat} {e : TypeId} {size : Nat} {v : Value} {n : Nat} {xs : List Value} (h : w.ownsRow base e size v n xs) (hb : ∀ k, base ≤ k → w'.heap[k]? = w.heap[k]?) : w'.ownsRow base e size v n xs := by
  refine ⟨h.1, ?_⟩
  rcases h.2 with hn | ⟨g, cap, cur, rfl, hg, hh, rest⟩
  · exact .inl hn
  · exact .inr ⟨g, cap, cur, rfl, hg, by rw [hb g hg]; exact hh, rest⟩
theorem PagesMid.above {base : Nat} {w0 w w' : World} {v : Value} {ps : List Page} {vs : List Value} {k : Nat} (h : PagesMid base w0 w v ps vs k) (hb : ∀ k, base ≤ k → w'.heap[k]? = w.heap[k]?) : PagesMid base w0 w' v ps vs k :=
  ⟨h.len, owns_above h.row hb, fun j p x h1 h2 h3 => owns_above (h.done j p x h1 h2 h3) hb, h.old, h.off, h.apart⟩

/-- a row written whole, at or past the base: what lies below stays -/
theorem Below.setRow {B : Nat} (w : World) (g : Nat) (cs : Array Value) (h : B ≤ g) : Below B w (w.setRow g cs) :=
  ⟨rfl, rfl, rfl, by simp [World.setRow], fun k hk => setRow_other w g k cs (by omega)⟩

set_option maxRecDepth 100000 in
set_option maxHeartbeats 1000000 in
theorem store_Copy (s : Store) (a fa : Option Addr) (c fc : Nat) (w : World) (h : RowsAt w a 9 ItemR s.items) (hf : RowsAt w fa 2 (PageR w) s.flash.pages)
    (hn : s.items.length * 88 ≤ 140737488355328) (hfn : s.flash.pages.length * 32 ≤ 140737488355328) :
    Calls Tryd.prog 36 #[.agg (storeV s a c fa fc)] w (StoreEnd s w) := by
  have HI := Lib.hid h
  have HF := Lib.hid hf
  clear h hf
  go_enter Tryd.func36, Tryd.ntmps36
  go_wp2_with fail
  obtain ⟨W0, hW0⟩ : ∃ W0, W0 = (w.alloc (.cells (storeV s a c fa fc) 30)).alloc (.cells #[.int .i64 0, .int .i64 0, .int .i64 0, .int .i64 0, .int .i64 0, .int .i64 0, .int .i64 0, .int .i64 0, .slice none 0 0, .int .i64 0, .int .i64 0, .slice none 0 0] 30) := ⟨_, rfl⟩
  have hbW : Below w.heap.size w W0 := by rw [hW0]; go_grown
  have hsW : w.heap.size + 2 = W0.heap.size := by rw [hW0]; simp
  have hB0 : W0.heap[w.heap.size]? = some (.cells (storeV s a c fa fc) 30 (0, 0)) := by rw [hW0, Below.heap_alloc _ _ _ (by simp)]; exact blk_new w _
  have hR0 : W0.heap[w.heap.size + 1]? = some (.cells #[.int .i64 0, .int .i64 0, .int .i64 0, .int .i64 0, .int .i64 0, .int .i64 0, .int .i64 0, .int .i64 0, .slice none 0 0, .int .i64 0, .int .i64 0, .slice none 0 0] 30 (0, 0)) := by
    have e : w.heap.size + 1 = (w.alloc (.cells (storeV s a c fa fc) 30)).heap.size := by simp
    rw [hW0, e]; exact blk_new _ _
  have hB : ∀ j v, (storeV s a c fa fc)[j]? = some v → W0.cell? ⟨w.heap.size, j, none⟩ = some v := by
    intro j v hj; rw [hW0, World.cell?_alloc_lt _ _ _ (by simp)]; exact store_block w _ rfl s a c fa fc _ j v hj
  have hZ : ∀ j, W0.frozen? ⟨w.heap.size, j, none⟩ = false := by intro j; rw [hW0]; go_simp
  rw [← hW0]
  clear hW0
  have c8 := hB 8 _ rfl
  have c9 := hB 9 _ rfl
  have c10 := hB 10 _ rfl
  have c11 := hB 11 _ rfl
  have HB0 := Lib.hid hB0
  have HR0 := Lib.hid hR0
  have HZ := Lib.hid hZ
  have HBW := Lib.hid hbW
  have HK0 := Lib.hid (Below.keeps hbW)
  clear hB hB0 hR0 hZ hbW
  go_region_law (first
    | (go_simp; go_at_call 61; go_must (refine (clone_items (s.items.flatMap itemCells) s.items.length a c _ ?_ (flat_length _ 9 _ (fun _ => rfl)) (items_one _) hn).mono ?_); (exact (items_cells HI.out).keep HK0.out); rintro e w1 ⟨v, rfl, how, hb1⟩; obtain ⟨va, vc, rfl⟩ := own_slice how; have d8 := (hb1.cell (p := ⟨w.heap.size, 8, none⟩) (cell_lt c8)).trans c8; have d9 := (hb1.cell (p := ⟨w.heap.size, 9, none⟩) (cell_lt c8)).trans c9; have d10 := (hb1.cell (p := ⟨w.heap.size, 10, none⟩) (cell_lt c8)).trans c10; have d11 := (hb1.cell (p := ⟨w.heap.size, 11, none⟩) (cell_lt c8)).trans c11)
    | (go_simp; go_at_call 62; refine (flash_Copy s.flash fa fc _ ?_ hfn (fun p hp => Nat.le_trans (HF.out.pageB p hp).2 (by decide))).mono ?_; (have hk1 := HK0.out.trans (fun a v hv => Below.keeps hb1 a v hv)); (exact HF.out.keep hk1 (PageR.keep hk1)); rintro e w2 ⟨fv, fvs, rfl, hpm, hb2⟩; obtain ⟨fva, fvc, rfl⟩ := own_slice hpm.row; have e8 := (hb2.cell (p := ⟨w.heap.size, 8, none⟩) (cell_lt d8)).trans d8; have e9 := (hb2.cell (p := ⟨w.heap.size, 9, none⟩) (cell_lt d8)).trans d9; have e10 := (hb2.cell (p := ⟨w.heap.size, 10, none⟩) (cell_lt d8)).trans d10; have e11 := (hb2.cell (p := ⟨w.heap.size, 11, none⟩) (cell_lt d8)).trans d11; have z8 := fun j => (hb2.frozen (p := ⟨w.heap.size, j, none⟩) (cell_lt d8)).trans ((hb1.frozen (p := ⟨w.heap.size, j, none⟩) (cell_lt c8)).trans (HZ.out j))))
  all_goals
    have hlt : w.heap.size + 1 < W0.heap.size := by omega
    have hlt1 : w.heap.size + 1 < w1.heap.size := Nat.lt_of_lt_of_le hlt hb1.size
    have hr2 := (hb2.block _ hlt1).trans ((hb1.block _ hlt).trans HR0.out)
    have hb20 := (hb2.block _ (Nat.lt_of_succ_lt hlt1)).trans ((hb1.block _ (Nat.lt_of_succ_lt hlt)).trans HB0.out)
    have how2 := owns_below how ⟨hb2.os, hb2.tape, hb2.output, hb2.size, hb2.block⟩
    have h12 := (HBW.out.trans (c := W0.drew) ⟨rfl, rfl, rfl, Nat.le_refl _, fun _ _ => rfl⟩).trans ((hb1.trans (hb2.mono hb1.size)).mono (show w.heap.size ≤ W0.heap.size by omega))
    rw [row4 w2 w.heap.size s a fa va fva c fc vc fvc _ hb20]
    have hb3 := setRow_heap w2 w.heap.size _ (storeV s va vc fva fvc) _ _ hb20
    have hr3 := (setRow_other w2 w.heap.size (w.heap.size + 1) (storeV s va vc fva fvc) (by omega)).trans hr2
    have hr4 := setRow_heap _ (w.heap.size + 1) _ (storeV s va vc fva fvc) _ _ hr3
    have h14 := (h12.trans (Below.setRow w2 w.heap.size (storeV s va vc fva fvc) (Nat.le_refl _))).trans (Below.setRow _ (w.heap.size + 1) (storeV s va vc fva fvc) (Nat.le_succ _))
    have HR4 := Lib.hid hr4
    have H14 := Lib.hid h14
    have HB3 := Lib.hid hb3
    have HR3 := Lib.hid hr3
    have hab : ∀ k, W0.heap.size ≤ k → ((w2.setRow w.heap.size (storeV s va vc fva fvc)).setRow (w.heap.size + 1) (storeV s va vc fva fvc)).heap[k]? = w2.heap[k]? := fun k hk =>
      (setRow_other _ _ k _ (by omega)).trans (setRow_other _ _ k _ (by omega))
    have HOW := Lib.hid (owns_base (owns_above how2 hab) (show w.heap.size ≤ W0.heap.size by omega))
    have HPM := Lib.hid ((hpm.above (fun k hk => hab k (Nat.le_trans hb1.size hk))).base (show w.heap.size ≤ w1.heap.size by omega))
    clear hab hb1 hb2 how hpm c8 c9 c10 c11 d8 d9 d10 d11 e8 e9 e10 e11 z8 hr2 hb20 how2 h12 hb3 hr3 hr4 h14 HB0 HR0 HZ
    generalize w2.setRow w.heap.size (storeV s va vc fva fvc) = W3 at *
    have k1 : (Tryd.prog.info? 30).map (·.size) = some 12 := by kernel_rfl
    go_wp2_with (first
      | refine wpList_load_row rfl 30 _ rfl w.heap.size rfl _ _ _ _ HB3.out Tryd.underlying30 rfl (by kernel_rfl) ?_
      | refine wpList_store_row rfl 30 _ _ rfl (w.heap.size + 1) _ rfl rfl _ _ HR3.out k1 rfl (store_one _ _ _ _ _) ?_)
  all_goals exact bodyPost_ret (v := .agg (storeV s va vc fva fvc)) (results_cell_row rfl _ _ (w.heap.size + 1) _ _ _ _ rfl HR4.out Tryd.underlying30 rfl k1) rfl ⟨va, vc, fva, fvc, fvs, rfl, HOW.out, HPM.out.world, H14.out⟩
end Go.Proofs.YtbipegbgfdpaeaaDoor.D
