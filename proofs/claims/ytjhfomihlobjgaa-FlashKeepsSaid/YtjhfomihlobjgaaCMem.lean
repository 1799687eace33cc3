/-
  What memory reads as, in this program's own shapes: rows of bytes. Lemmas on worlds alone.
-/
import Derived.Test.YtjhfomihlobjgaaRows
import Derived.WalkKit
import Derived.ProofKit
import Derived.OpenShut
import Derived.Handy
import Derived.WalkSpells
import Derived.WalkLawsBesides
import Derived.Deep.QuietTactic
import Derived.BigQuiet
import Derived.Lib.Hide
import Derived.Lib.Strings
import Derived.Test.YtjhfomihlobjgaaPStore
namespace Go.Proofs.Ytjhfomihlobjgaa.D
open Go.RowKit

/-- what is known of w's cells is known of w's' -/
def Keeps (w w' : World) : Prop := ∀ a v, w.cell? a = some v → w'.cell? a = some v
theorem Keeps.refl (w : World) : Keeps w w := fun _ _ h => h
theorem Keeps.trans {a b c : World} (h : Keeps a b) (k : Keeps b c) : Keeps a c := fun _ _ x => k _ _ (h _ _ x)
theorem Below.keeps {w w' : World} (h : Below w.heap.size w w') : Keeps w w' := fun a v hv => by
  rw [h.cell (World.block_lt_of_cell? w a hv)]; exact hv

theorem le_maxLen {n : Nat} (h : n ≤ maxLen) : n ≤ 9223372036854775807 := h
theorem ret_bool {a b : Bool} (h : a = b) : Ending.returned (.bool a) = .returned (.bool b) := by rw [h]
theorem ret_int {k : IntKind} {a b : Int} (h : a = b) : Ending.returned (.int k a) = .returned (.int k b) := by rw [h]
theorem u8_lt (c : UInt8) : (c.toNat : Int) < 256 := by have := c.toNat_lt; omega
theorem wrap64_byte (c : UInt8) : wrap64 (c.toNat : Int) = c.toNat := IntWalk.wrap64_in _ ⟨by omega, by have := u8_lt c; omega⟩
/-- a row of cells begins at an address (of which nothing is asked where there are none) -/
def CellsAt (w : World) (a : Option Addr) (cs : List Value) : Prop :=
  cs = [] ∨ ∃ b o, a = some ⟨b, o, none⟩ ∧ ∀ i v, cs[i]? = some v → w.cell? ⟨b, o + i, none⟩ = some v
theorem CellsAt.keep {w w' : World} {a : Option Addr} {cs : List Value} (h : CellsAt w a cs) (k : Keeps w w') : CellsAt w' a cs := by
  rcases h with h | ⟨b, o, ha, hc⟩
  · exact .inl h
  · exact .inr ⟨b, o, ha, fun i v hv => k _ _ (hc i v hv)⟩
theorem CellsAt.nil (w : World) (a : Option Addr) : CellsAt w a [] := .inl rfl

theorem bl_length (s : ByteArray) : (bl s).length = s.size := by simp [bl]
theorem bl_get (s : ByteArray) (k : Nat) (h : k < s.size) : (bl s)[k]'(by rw [bl_length]; exact h) = s[k] := rfl
theorem bl_toList (s : ByteArray) : s.toList = bl s := Lib.toList_data s
theorem bl_mk (l : Str) : bl ⟨l.toArray⟩ = l := by simp [bl]
theorem mk_bl (s : ByteArray) : (⟨(bl s).toArray⟩ : ByteArray) = s := Lib.mk_data s
theorem bl_inj {s t : ByteArray} (h : bl s = bl t) : s = t := by rw [← mk_bl s, h, mk_bl]
abbrev byteV (c : UInt8) : Value := .int .u8 (c.toNat : Int)
/-- bytes at an address -/
def BytesAt (w : World) (a : Option Addr) (l : Str) : Prop := CellsAt w a (l.map byteV)
theorem BytesAt.keep {w w' : World} {a : Option Addr} {l : Str} (h : BytesAt w a l) (k : Keeps w w') : BytesAt w' a l := CellsAt.keep h k
theorem BytesAt.pos {w : World} {a : Option Addr} {l : Str} (h : BytesAt w a l) (hl : 0 < l.length) :
    ∃ b o, a = some ⟨b, o, none⟩ ∧ ∀ i (hi : i < l.length), w.cell? ⟨b, o + i, none⟩ = some (.int .u8 (l[i].toNat : Int)) := by
  rcases h with h | ⟨b, o, ha, hc⟩
  · simp at h; subst h; simp at hl
  · exact ⟨b, o, ha, fun i hi => hc i _ (by simp [hi])⟩

theorem strOfNums_bytes (l : Str) : strOfNums (l.map fun c => (c.toNat : Int)) = ⟨l.toArray⟩ := by
  simp [strOfNums, Function.comp_def]

/-- 'string(b)' -/
theorem run_str {w : World} {a : Option Addr} {l : Str} (h : BytesAt w a l) (n c : Nat) (hn : n = l.length) :
    ∀ w', Keeps w w' → (convert 67 9 (.slice a n c)).run Try.prog w' = .ok (.string ⟨l.toArray⟩) w' := by
  intro w' hk
  subst hn
  rcases Nat.eq_zero_or_pos l.length with h0 | h0
  · have hl : l = [] := List.eq_nil_of_length_eq_zero h0
    subst hl
    rw [run_convert_bytes_string w' _ _ 5 a _ c Try.underlying67 Try.underlying5 Try.underlying9]
    cases a with
    | none => rfl
    | some a => rfl
  · obtain ⟨b, o, rfl, hc⟩ := (h.keep hk).pos h0
    rw [run_convert_bytes_arg w' 67 5 Try.underlying67 Try.underlying5 b o l.length c (l.map fun c => (c.toNat : Int)) (by simp) (fun i hi => by rw [hc i hi]; simp [hi]) 9 Try.underlying9, strOfNums_bytes]

theorem cell_alloc_row (w : World) (cs : Array Value) (e : TypeId) (fr : Nat × Nat) (i : Nat) : (w.alloc (.cells cs e fr)).cell? ⟨w.heap.size, i, none⟩ = cs[i]? := by
  have h : (w.alloc (.cells cs e fr)).heap[w.heap.size]? = some (.cells cs e fr) := by
    show (w.heap.push _)[w.heap.size]? = _
    simp
  unfold World.cell?
  rw [h]
  rfl
theorem bytesRow_get (s : ByteArray) (c i : Nat) (v : Value) (h : ((bl s).map byteV)[i]? = some v) : (bytesRow s c)[i]? = some v := by
  unfold bytesRow
  have hi : i < s.data.size := by
    have := (List.getElem?_eq_some_iff.1 h).1
    simpa [bl] using this
  rw [Array.getElem?_append_left (by simpa using hi)]
  simp [bl] at h ⊢
  exact h
/-- '[]byte(s)': a new row -/
theorem run_bytes (w : World) (s : ByteArray) : ∃ c w', (convert 9 67 (.string s)).run Try.prog w = .ok (.slice (some ⟨w.heap.size, 0, none⟩) s.size c) w' ∧
    BytesAt w' (some ⟨w.heap.size, 0, none⟩) (bl s) ∧ Below w.heap.size w w' ∧ s.size ≤ c ∧ w.heap.size < w'.heap.size := by
  have h := run_bytes_of_string w 9 67 5 s Try.underlying9 Try.underlying67 Try.underlying5
  refine ⟨_, _, h, .inr ⟨_, _, rfl, fun i v hv => ?_⟩, ((Below.refl _ _).drew).alloc (by simp) _, grownCap_ge _ _ _ _, by simp⟩
  have e : (w.drew).heap.size = w.heap.size := rfl
  rw [← e, Nat.zero_add, cell_alloc_row]
  exact bytesRow_get s _ i v hv

/-- a row written out in the text is the call's own -/
theorem ownsRow_lit (w : World) (b : Nat) (cur : Array Value) (e : TypeId) (base n size : Nat) (hb : base ≤ b) (hn : cur.size = n * size) (hm : n ≤ maxLen) (hbw : b = w.heap.size) :
    (w.alloc (.cells cur e)).ownsRow base e size (.slice (some ⟨b, 0, none⟩) n n) n cur.toList :=
  ⟨by simpa using hn, .inr ⟨b, n, cur, rfl, hb, by subst hbw; show (w.heap.push _)[w.heap.size]? = _; simp, Nat.le_refl _, hm, hn, by rw [List.take_of_length_le (by simp [hn])]⟩⟩
theorem addr_add (b o j : Nat) : (⟨b, o, none⟩ : Addr).add j = ⟨b, o + j, none⟩ := by unfold Addr.add; split <;> simp_all
/-- the cells of a row that has just been laid -/
theorem news_lit (w : World) (b : Nat) (cur : Array Value) (e : TypeId) (l : List Value) (hl : l = cur.toList) (hb : b = w.heap.size) :
    ∀ j u, l[j]? = some u → (w.alloc (.cells cur e)).cell? ((⟨b, 0, none⟩ : Addr).add j) = some u := by
  intro j u hj
  subst hb hl
  rw [addr_add, Nat.zero_add, cell_alloc_row]
  simpa using hj
theorem ones {l : List Value} (h : l.all (·.oneCell') = true) : ∀ u ∈ l, u.oneCell' = true := fun u hu => List.all_eq_true.1 h u hu
/-- a row of the call's own, with elements: its value, its cells -/
theorem own_shape {w : World} {base : Nat} {e : TypeId} {size : Nat} {v : Value} {n : Nat} {xs : List Value} (h : w.ownsRow base e size v n xs) (hn : 0 < n) :
    ∃ g cap, v = .slice (some ⟨g, 0, none⟩) n cap ∧ base ≤ g ∧ g < w.heap.size ∧ n ≤ cap ∧ cap ≤ maxLen ∧ ∀ j u, xs[j]? = some u → w.cell? ⟨g, j, none⟩ = some u := by
  have hc := fun g => h.cells (g := g)
  obtain ⟨h1, ⟨_, h0⟩ | ⟨g, cap, cur, rfl, hb, hh, hnc, hm, _, _⟩⟩ := h
  · omega
  · refine ⟨g, cap, rfl, hb, (Array.getElem?_eq_some_iff.1 hh).1, hnc, hm, fun j u hu => ?_⟩
    have := hc g rfl j u hu
    rwa [addr_add, Nat.zero_add] at this
theorem own_apart {w : World} {base base' : Nat} {e e' : TypeId} {size : Nat} {g g' n n' c c' m m' : Nat} {xs xs' : List Value} (h : w.ownsRow base e size (.slice (some ⟨g, 0, none⟩) n c) m xs)
    (h' : w.ownsRow base' e' size (.slice (some ⟨g', 0, none⟩) n' c') m' xs') (hs : 0 < size) (hc : c ≠ c') : g ≠ g' := by
  obtain ⟨_, ⟨hn, _⟩ | ⟨a, cap, cur, hv, _, hh, _, _, hcs, _⟩⟩ := h
  · cases hn
  obtain ⟨_, ⟨hn, _⟩ | ⟨a', cap', cur', hv', _, hh', _, _, hcs', _⟩⟩ := h'
  · cases hn
  intro hg
  cases hv; cases hv'
  subst hg
  rw [hh] at hh'
  cases hh'
  rw [hcs] at hcs'
  exact hc (Nat.eq_of_mul_eq_mul_right hs hcs')
theorem keeps_drewN {w w' : World} (h : Keeps w w') (n : Nat) : Keeps w (w'.drewN n) := fun a v hv => h a v hv
theorem bcell {W w1 : World} (hb : Below W.heap.size W w1) : (∀ b o, b < W.heap.size → w1.cell? ⟨b, o, none⟩ = W.cell? ⟨b, o, none⟩) ∧ (∀ b o, b < W.heap.size → w1.frozen? ⟨b, o, none⟩ = W.frozen? ⟨b, o, none⟩) ∧ W.heap.size ≤ w1.heap.size :=
  ⟨fun b o h => hb.cell (p := ⟨b, o, none⟩) h, fun b o h => hb.frozen (p := ⟨b, o, none⟩) h, hb.size⟩
theorem setCell_self {w : World} {b o : Nat} {v x : Value} (h : w.cell? ⟨b, o, none⟩ = some v) : (w.setCell ⟨b, o, none⟩ x).cell? ⟨b, o, none⟩ = some x := by
  unfold World.cell? at h
  split at h
  · rename_i c t f hb
    simp at h
    have hlt : o < c.size := by
      rcases Nat.lt_or_ge o c.size with hl | hl
      · exact hl
      · simp [Array.getElem?_eq_none hl] at h
    unfold World.cell? World.setCell
    simp only [Array.getElem?_modify, hb, if_true, Option.map_some]
    simp [hlt]
  · cases h
theorem cell_lt {w : World} {b o : Nat} {v : Value} (h : w.cell? ⟨b, o, none⟩ = some v) : b < w.heap.size := World.block_lt_of_cell? w ⟨b, o, none⟩ h
theorem cell_setCell_ne {w : World} {b o b' o' : Nat} {v : Value} {y : Value} (h : w.cell? ⟨b, o, none⟩ = some v) (hne : b ≠ b') : (w.setCell ⟨b', o', none⟩ y).cell? ⟨b, o, none⟩ = some v := by
  rw [World.cell?_of_block (w := w) (Below.heap_setCell w ⟨b', o', none⟩ y b hne)]; exact h
theorem infoInt : (Try.prog.info? 3).map (fun i => (i.zero, i.size, i.bytes)) = some (some (.int .i64 0), 1, 8) := by kernel_rfl
theorem blk_new (w : World) (o : Obj) : (w.alloc o).heap[w.heap.size]? = some o := by
  show (w.heap.push o)[w.heap.size]? = some o
  simp
end Go.Proofs.Ytjhfomihlobjgaa.D
