/-
 What memory reads as, in this program's own shapes: rows of bytes. Lemmas on worlds alone.
-/
import Derived.Test.YtbeegfkfpkfccaaGreatDoorRows
import Derived.WalkKit
import Derived.ProofKit
import Derived.OpenShut
import Derived.Handy
import Derived.WalkSpells
import Derived.WalkLawsBesides
import Derived.Deep.QuietTactic
import Derived.BigQuiet
import Derived.Lib.Hide
import Derived.Lib.Strings
import Derived.Test.YtbeegfkfpkfccaaGreatDoorYPlain
import Derived.Deep.Slices
import Derived.Lib.SmallJoins
import Derived.Lib.AppendStr
import Derived.Deep.RegionHeld3
import Derived.Laws.Rows
namespace Go.Proofs.YtbeegfkfpkfccaaGreatDoor.D
open Go.RowKit
theorem bkp {w w' : World} {k : Nat} {o : Obj} (hb : Below w.heap.size w w') (h : w.heap[k]? = some o) : w'.heap[k]? = some o := (hb.block k (Array.getElem?_eq_some_iff.1 h).1).trans h
theorem wld (wn : World) : ∃ wx : World, wx = wn := ⟨_, rfl⟩
theorem blt {α : Type} {a : Array α} {k : Nat} {x : α} (h : a[k]? = some x) : k < a.size := (Array.getElem?_eq_some_iff.1 h).1
theorem hid {p : Prop} (h : p) : Hid p := Lib.hid h
theorem cor {w : World} {g i T : Nat} {cs : Array Value} {fr : Nat × Nat} {v : Value} (h : w.heap[g]? = some (.cells cs T fr)) (e : cs[i]? = some v) : w.cell? ⟨g, i, none⟩ = some v := by
 rw [cell_of_row w _ _ _ _ _ h]
 exact e
def Keeps (w w' : World) : Prop := ∀ a v, w.cell? a = some v → w'.cell? a = some v
theorem Keeps.refl (w : World) : Keeps w w := fun _ _ h => h
theorem Keeps.trans {a b c : World} (h : Keeps a b) (k : Keeps b c) : Keeps a c := fun _ _ x => k _ _ (h _ _ x)
theorem Below.keeps {w w' : World} (h : Below w.heap.size w w') : Keeps w w' := fun a v hv => by
 rw [h.cell (World.block_lt_of_cell? w a hv)]; exact hv
theorem le_maxLen {n : Nat} (h : n ≤ maxLen) : n ≤ 9223372036854775807 := h
theorem ret_bool {a b : Bool} (h : a = b) : Ending.returned (.bool a) = .returned (.bool b) := by rw [h]
theorem ret_int {k : IntKind} {a b : Int} (h : a = b) : Ending.returned (.int k a) = .returned (.int k b) := by rw [h]
theorem u8_lt (c : UInt8) : (c.toNat : Int) < 256 := by have := c.toNat_lt; omega
theorem wrap64_byte (c : UInt8) : wrap64 (c.toNat : Int) = c.toNat := IntWalk.wrap64_in _ ⟨by omega, by have := u8_lt c; omega⟩
def CellsAt (w : World) (a : Option Addr) (cs : List Value) : Prop :=
 cs = [] ∨ ∃ b o, a = some ⟨b, o, none⟩ ∧ ∀ i v, cs[i]? = some v → w.cell? ⟨b, o + i, none⟩ = some v
theorem CellsAt.keep {w w' : World} {a : Option Addr} {cs : List Value} (h : CellsAt w a cs) (k : Keeps w w') : CellsAt w' a cs := by
 rcases h with h | ⟨b, o, ha, hc⟩
 ·exact .inl h
 ·exact .inr ⟨b, o, ha, fun i v hv => k _ _ (hc i v hv)⟩
theorem CellsAt.nil (w : World) (a : Option Addr) : CellsAt w a [] := .inl rfl
theorem bl_length (s : ByteArray) : (bl s).length = s.size := by simp [bl]
theorem bl_get (s : ByteArray) (k : Nat) (h : k < s.size) : (bl s)[k]'(by rw [bl_length]; exact h) = s[k] := rfl
theorem bl_toList (s : ByteArray) : s.toList = bl s := Lib.toList_data s
theorem bl_mk (l : Str) : bl ⟨l.toArray⟩ = l := by simp [bl]
theorem mk_bl (s : ByteArray) : (⟨(bl s).toArray⟩ : ByteArray) = s := Lib.mk_data s
theorem bl_inj {s t : ByteArray} (h : bl s = bl t) : s = t := by rw [← mk_bl s, h, mk_bl]
abbrev byteV (c : UInt8) : Value := .int .u8 (c.toNat : Int)
def BytesAt (w : World) (a : Option Addr) (l : Str) : Prop := CellsAt w a (l.map byteV)
theorem BytesAt.keep {w w' : World} {a : Option Addr} {l : Str} (h : BytesAt w a l) (k : Keeps w w') : BytesAt w' a l := CellsAt.keep h k
theorem BytesAt.pos {w : World} {a : Option Addr} {l : Str} (h : BytesAt w a l) (hl : 0 < l.length) :
  ∃ b o, a = some ⟨b, o, none⟩ ∧ ∀ i (hi : i < l.length), w.cell? ⟨b, o + i, none⟩ = some (.int .u8 (l[i].toNat : Int)) := by
 rcases h with h | ⟨b, o, ha, hc⟩
 ·simp at h; subst h; simp at hl
 ·exact ⟨b, o, ha, fun i hi => hc i _ (by simp [hi])⟩
theorem strOfNums_bytes (l : Str) : strOfNums (l.map fun c => (c.toNat : Int)) = ⟨l.toArray⟩ := by
 simp [strOfNums, Function.comp_def]
theorem run_str {w : World} {a : Option Addr} {l : Str} (h : BytesAt w a l) (n c : Nat) (hn : n = l.length) :
  ∀ w', Keeps w w' → (convert 63 9 (.slice a n c)).run Tryz.prog w' = .ok (.string ⟨l.toArray⟩) w' := by
 intro w' hk;subst hn
 rcases Nat.eq_zero_or_pos l.length with h0 | h0
 ·have hl : l = [] := List.eq_nil_of_length_eq_zero h0
  subst hl;rw [run_convert_bytes_string w' _ _ 5 a _ c Tryz.underlying63 Tryz.underlying5 Tryz.underlying9]
  cases a with
  | none => rfl
  | some a => rfl
 ·obtain ⟨b, o, rfl, hc⟩ := (h.keep hk).pos h0
  rw [run_convert_bytes_arg w' 63 5 Tryz.underlying63 Tryz.underlying5 b o l.length c (l.map fun c => (c.toNat : Int)) (by simp) (fun i hi => by rw [hc i hi]; simp [hi]) 9 Tryz.underlying9, strOfNums_bytes]
theorem cell_alloc_row (w : World) (cs : Array Value) (e : TypeId) (fr : Nat × Nat) (i : Nat) : (w.alloc (.cells cs e fr)).cell? ⟨w.heap.size, i, none⟩ = cs[i]? := by
 have h : (w.alloc (.cells cs e fr)).heap[w.heap.size]? = some (.cells cs e fr) := by
  show (w.heap.push _)[w.heap.size]? = _
  simp
 unfold World.cell?;rw [h]
 rfl
theorem bytesRow_get (s : ByteArray) (c i : Nat) (v : Value) (h : ((bl s).map byteV)[i]? = some v) : (bytesRow s c)[i]? = some v := by
 unfold bytesRow
 have hi : i < s.data.size := by
  have := (List.getElem?_eq_some_iff.1 h).1
  simpa [bl] using this
 rw [Array.getElem?_append_left (by simpa using hi)]
 simp [bl] at h ⊢
 exact h
theorem run_bytes (w : World) (s : ByteArray) : ∃ c w', (convert 9 63 (.string s)).run Tryz.prog w = .ok (.slice (some ⟨w.heap.size, 0, none⟩) s.size c) w' ∧
  BytesAt w' (some ⟨w.heap.size, 0, none⟩) (bl s) ∧ Below w.heap.size w w' ∧ s.size ≤ c ∧ w.heap.size < w'.heap.size := by
 have h := run_bytes_of_string w 9 63 5 s Tryz.underlying9 Tryz.underlying63 Tryz.underlying5;refine ⟨_, _, h, .inr ⟨_, _, rfl, fun i v hv => ?_⟩, ((Below.refl _ _).drew).alloc (by simp) _, grownCap_ge _ _ _ _, by simp⟩;have e : (w.drew).heap.size = w.heap.size := rfl;rw [← e, Nat.zero_add, cell_alloc_row];exact bytesRow_get s _ i v hv
theorem ownsRow_lit (w : World) (b : Nat) (cur : Array Value) (e : TypeId) (base n size : Nat) (hb : base ≤ b) (hn : cur.size = n * size) (hm : n ≤ maxLen) (hbw : b = w.heap.size) :
  (w.alloc (.cells cur e)).ownsRow base e size (.slice (some ⟨b, 0, none⟩) n n) n cur.toList :=
 ⟨by simpa using hn, .inr ⟨b, n, cur, rfl, hb, by subst hbw; show (w.heap.push _)[w.heap.size]? = _; simp, Nat.le_refl _, hm, hn, by rw [List.take_of_length_le (by simp [hn])]⟩⟩
theorem addr_add (b o j : Nat) : (⟨b, o, none⟩ : Addr).add j = ⟨b, o + j, none⟩ := by unfold Addr.add; split <;> simp_all
theorem news_lit (w : World) (b : Nat) (cur : Array Value) (e : TypeId) (l : List Value) (hl : l = cur.toList) (hb : b = w.heap.size) :
  ∀ j u, l[j]? = some u → (w.alloc (.cells cur e)).cell? ((⟨b, 0, none⟩ : Addr).add j) = some u := by
 intro j u hj;subst hb hl;rw [addr_add, Nat.zero_add, cell_alloc_row]
 simpa using hj
theorem ones {l : List Value} (h : l.all (·.oneCell') = true) : ∀ u ∈ l, u.oneCell' = true := fun u hu => List.all_eq_true.1 h u hu
theorem own_shape {w : World} {base : Nat} {e : TypeId} {size : Nat} {v : Value} {n : Nat} {xs : List Value} (h : w.ownsRow base e size v n xs) (hn : 0 < n) :
  ∃ g cap, v = .slice (some ⟨g, 0, none⟩) n cap ∧ base ≤ g ∧ g < w.heap.size ∧ n ≤ cap ∧ cap ≤ maxLen ∧ ∀ j u, xs[j]? = some u → w.cell? ⟨g, j, none⟩ = some u := by
 have hc := fun g => h.cells (g := g)
 obtain ⟨h1, ⟨_, h0⟩ | ⟨g, cap, cur, rfl, hb, hh, hnc, hm, _, _⟩⟩ := h
 ·omega
 ·refine ⟨g, cap, rfl, hb, (blt hh), hnc, hm, fun j u hu => ?_⟩
  have := hc g rfl j u hu
  rwa [addr_add, Nat.zero_add] at this
theorem keeps_drewN {w w' : World} (h : Keeps w w') (n : Nat) : Keeps w (w'.drewN n) := fun a v hv => h a v hv
theorem bcell {W w1 : World} (hb : Below W.heap.size W w1) : (∀ b o, b < W.heap.size → w1.cell? ⟨b, o, none⟩ = W.cell? ⟨b, o, none⟩) ∧ (∀ b o, b < W.heap.size → w1.frozen? ⟨b, o, none⟩ = W.frozen? ⟨b, o, none⟩) ∧ W.heap.size ≤ w1.heap.size :=
 ⟨fun b o h => hb.cell (p := ⟨b, o, none⟩) h, fun b o h => hb.frozen (p := ⟨b, o, none⟩) h, hb.size⟩
theorem setCell_self {w : World} {b o : Nat} {v x : Value} (h : w.cell? ⟨b, o, none⟩ = some v) : (w.setCell ⟨b, o, none⟩ x).cell? ⟨b, o, none⟩ = some x := by
 unfold World.cell? at h
 split at h
 ·rename_i c t f hb
  simp at h
  have hlt : o < c.size := by
   rcases Nat.lt_or_ge o c.size with hl | hl
   ·exact hl
   ·simp [Array.getElem?_eq_none hl] at h
  unfold World.cell? World.setCell;simp only [Array.getElem?_modify, hb, if_true, Option.map_some]
  simp [hlt]
 ·cases h
theorem cell_lt {w : World} {b o : Nat} {v : Value} (h : w.cell? ⟨b, o, none⟩ = some v) : b < w.heap.size := World.block_lt_of_cell? w ⟨b, o, none⟩ h
theorem cell_setCell_ne {w : World} {b o b' o' : Nat} {v : Value} {y : Value} (h : w.cell? ⟨b, o, none⟩ = some v) (hne : b ≠ b') : (w.setCell ⟨b', o', none⟩ y).cell? ⟨b, o, none⟩ = some v := by
 rw [World.cell?_of_block (w := w) (Below.heap_setCell w ⟨b', o', none⟩ y b hne)]; exact h
theorem infoInt : (Tryz.prog.info? 3).map (fun i => (i.zero, i.size, i.bytes)) = some (some (.int .i64 0), 1, 8) := by kernel_rfl
theorem blk_new (w : World) (o : Obj) : (w.alloc o).heap[w.heap.size]? = some o := by
 show (w.heap.push o)[w.heap.size]? = some o
 simp
open Go.ChangeShapes Go.WideShapes Go.RowKit Go.Deep Go.Joins
def RowsAt {X : Type} (w : World) (a : Option Addr) (n : Nat) (R : List Value → X → Prop) (xs : List X) : Prop :=
 xs = [] ∨ ∃ b o, a = some ⟨b, o, none⟩ ∧ ∀ i (h : i < xs.length), ∃ cs, cs.length = n ∧ R cs xs[i] ∧ ∀ j v, cs[j]? = some v → w.cell? ⟨b, o + i * n + j, none⟩ = some v
theorem RowsAt.nil {X : Type} (w : World) (a : Option Addr) (n : Nat) (R : List Value → X → Prop) : RowsAt w a n R [] := .inl rfl
theorem RowsAt.keep {X : Type} {w w' : World} {a : Option Addr} {n : Nat} {R R' : List Value → X → Prop} {xs : List X} (h : RowsAt w a n R xs) (k : Keeps w w') (hR : ∀ cs x, R cs x → R' cs x) : RowsAt w' a n R' xs := by
 rcases h with h | ⟨b, o, ha, hc⟩
 ·exact .inl h
 ·refine .inr ⟨b, o, ha, fun i hi => ?_⟩
  obtain ⟨cs, h1, h2, h3⟩ := hc i hi;exact ⟨cs, h1, hR _ _ h2, fun j v hj => k _ _ (h3 j v hj)⟩
theorem RowsAt.pos {X : Type} {w : World} {a : Option Addr} {n : Nat} {R : List Value → X → Prop} {xs : List X} (h : RowsAt w a n R xs) (hl : 0 < xs.length) :
  ∃ b o, a = some ⟨b, o, none⟩ ∧ ∀ i (h : i < xs.length), ∃ cs, cs.length = n ∧ R cs xs[i] ∧ ∀ j v, cs[j]? = some v → w.cell? ⟨b, o + i * n + j, none⟩ = some v := by
 rcases h with h | h
 ·subst h; simp at hl
 ·exact h
section
variable {H : Type} {enc : TypeId × Value → H} {w : World}
theorem spot_none {w : World} {a : Addr} {v : Value} (h : w.cell? a = some v) : a.spot = none := by
 unfold World.cell? at h
 split at h
 ·split at h
  ·cases h
  ·rename_i hs; simpa using hs
 ·cases h
def Wt (t : TypeId) (d : DataW H) : Prop := ∀ m ∈ DataW.weights Tryz.prog t d, m ≤ reachBytes
theorem weightsEach_get : ∀ {ts : List TypeId} {ds : List (DataW H)} {i : Nat} {t : TypeId} {d : DataW H}, ts[i]? = some t → ds[i]? = some d → ∀ m ∈ DataW.weights Tryz.prog t d, m ∈ DataW.weightsEach Tryz.prog ts ds
 | [], _, i, t, d, h, _, m, _ => by simp at h
 | _ :: _, [], i, t, d, _, h, m, _ => by simp at h
 | t' :: ts, d' :: ds, 0, t, d, h1, h2, m, hm => by
  simp at h1 h2; subst h1 h2
  simp [DataW.weightsEach, hm]
 | t' :: ts, d' :: ds, i + 1, t, d, h1, h2, m, hm => by
  have := weightsEach_get (ts := ts) (ds := ds) (i := i) (by simpa using h1) (by simpa using h2) m hm
  simp [DataW.weightsEach, this]
theorem weightsAll_get : ∀ {e : TypeId} {ds : List (DataW H)} {d : DataW H}, d ∈ ds → ∀ m ∈ DataW.weights Tryz.prog e d, m ∈ DataW.weightsAll Tryz.prog e ds
 | e, [], d, h, m, _ => by simp at h
 | e, d' :: ds, d, h, m, hm => by
  rcases List.mem_cons.1 h with rfl | h
  ·simp [DataW.weightsAll, hm]
  ·have := weightsAll_get h m hm
   simp [DataW.weightsAll, this]
theorem Wt.field {t : TypeId} {fs : Array Field} {parts : List (DataW H)} (h : Wt t (.agg parts)) (ht : Tryz.prog.underlying t = some (.struct fs)) (i : Nat) {f : Field} {d : DataW H} (hf : fs[i]? = some f) (hd : parts[i]? = some d) : Wt f.type d := by
 intro m hm;refine h m ?_;simp only [DataW.weights, ht];exact weightsEach_get (i := i) (by simp [hf]) hd m hm
theorem Wt.slice {t e : TypeId} {elems spare : List (DataW H)} (h : Wt t (.slice elems spare)) (ht : Tryz.prog.underlying t = some (.slice e)) :
  (elems.length + spare.length) * Tryz.prog.bytesOf e ≤ reachBytes ∧ (∀ d ∈ elems, Wt e d) := by
 refine ⟨h _ (by simp [DataW.weights, ht]), fun d hd m hm => h m ?_⟩;simp only [DataW.weights, ht, List.mem_cons, List.mem_append];exact .inr (.inl (weightsAll_get hd m hm))
theorem Wt.string {t : TypeId} {l : Str} (h : Wt (H := H) t (.lit (.string l))) : l.length ≤ reachBytes := h _ (by simp [DataW.weights])
theorem Wt.all {ts : List TypeId} {ds : List (DataW H)} (h : ∀ m ∈ DataW.weightsEach Tryz.prog ts ds, m ≤ reachBytes) (i : Nat) {t : TypeId} {d : DataW H} (ht : ts[i]? = some t) (hd : ds[i]? = some d) : Wt t d :=
 fun m hm => h m (weightsEach_get ht hd m hm)
theorem read_slice {X : Type} [Inhabited X] {t e n fuel : Nat} {v : Value} {x : DataW H × List MemPlace} (R : List Value → X → Prop)
  (ht : Tryz.prog.underlying t = some (.slice e)) (hn : Tryz.prog.cellsOf e = n) (hn0 : 0 < n)
  (hR : ∀ f cs y, DataW.trod enc Tryz.prog w 0 (fun _ => true) true f e cs = some y → Wt e y.1 → ∃ z, R cs z)
  (h : DataW.trod enc Tryz.prog w 0 (fun _ => true) true fuel t [v] = some x) (hwt : Wt t x.1) :
  ∃ a len cap, ∃ xs : List X, v = .slice a len cap ∧ len = xs.length ∧ len ≤ cap ∧ cap * Tryz.prog.bytesOf e ≤ reachBytes ∧ RowsAt w a n R xs := by
 rcases open_slice ht h with ⟨hcs, _⟩ | ⟨a, len, cap, m, k, D, Pl, hcs, _, hlc, hcm, hm, hxx, hx⟩
 ·cases hcs
  exact ⟨none, 0, 0, [], rfl, rfl, Nat.le_refl _, by simp, RowsAt.nil _ _ _ _⟩
 ·cases hcs
  subst hxx;obtain ⟨hw1, hw2⟩ := hwt.slice ht;rw [show m = cap by simpa using hm] at hw1
  have hw1 : cap * Tryz.prog.bytesOf e ≤ reachBytes := by
   have : ((List.range len).map D).length + ((List.range (cap - len)).map fun j => D (len + j)).length = cap := by simp; omega
   rwa [this] at hw1
  rw [show m = cap by simpa using hm] at hx;rw [hn] at hx
  obtain ⟨f, hf⟩ := choose_lt (n := len) (p := fun i z => ∃ cs, cs.length = n ∧ R cs z ∧ ∀ j, j < n → w.cell? ((a.add (i * n)).add j) = cs[j]?) (fun i hi => by
   obtain ⟨cs, h1, h2⟩ := hx i (by omega);obtain ⟨z, hz⟩ := hR _ _ _ h2 (hw2 _ (List.mem_map.2 ⟨i, List.mem_range.2 hi, rfl⟩));obtain ⟨_, hl, hc⟩ := World.cells?_some h1
   exact ⟨z, cs, hl, hz, hc⟩)
  refine ⟨some a, len, cap, (List.range len).map f, rfl, by simp, hlc, hw1, ?_⟩
  rcases Nat.eq_zero_or_pos len with h0 | h0
  ·subst h0; exact .inl rfl
  ·right
   have hs : a.spot = none := by
    obtain ⟨cs, hl, _, hc⟩ := hf 0 h0;have h00 := hc 0 hn0;have he : (a.add (0 * n)).add 0 = a := by simp [Addr.add]
    rw [he, List.getElem?_eq_getElem (by omega)] at h00;exact spot_none h00
   obtain ⟨b, o, s⟩ := a;simp only at hs;subst hs;refine ⟨b, o, rfl, fun i hi => ?_⟩;obtain ⟨cs, hl, hz, hc⟩ := hf i (by simpa using hi);refine ⟨cs, hl, by simpa using hz, fun j v hj => ?_⟩;have hjn : j < n := by rw [← hl]; exact (List.getElem?_eq_some_iff.1 hj).1
   have := hc j hjn;rw [addr_add, addr_add] at this;rw [this, hj]
def I64 (n : Int) : Prop := -9223372036854775808 ≤ n ∧ n ≤ 9223372036854775807
def byteR (cs : List Value) (c : UInt8) : Prop := cs = [byteV c]
theorem bytes_of_rows {w : World} {a : Option Addr} {l : Str} (h : RowsAt w a 1 byteR l) : BytesAt w a l := by
 rcases h with h | ⟨b, o, ha, hc⟩
 ·subst h; exact .inl rfl
 ·refine .inr ⟨b, o, ha, fun i v hv => ?_⟩
  obtain ⟨hi, hv'⟩ := List.getElem?_eq_some_iff.1 hv;have hi' : i < l.length := by simpa using hi
  obtain ⟨cs, _, hR, h3⟩ := hc i hi';rw [hR] at h3;have := h3 0 (byteV l[i]) rfl;rw [Nat.mul_one, Nat.add_zero] at this;rw [this, ← hv']
  simp
theorem read_byte {f : Nat} {cs : List Value} {y : DataW H × List MemPlace} (h : DataW.trod enc Tryz.prog w 0 (fun _ => true) true f 5 cs = some y) : ∃ z, byteR cs z := by
 obtain ⟨n, rfl, _, hw⟩ := DataW.trod_int Tryz.underlying5 h;have hb := bounds_u8 hw;refine ⟨UInt8.ofNat n.toNat, ?_⟩;unfold byteR byteV
 have : ((UInt8.ofNat n.toNat).toNat : Int) = n := by
  rw [UInt8.toNat_ofNat_of_lt' (by simp; omega)]; omega
 rw [this]
theorem bytes_byte : Tryz.prog.bytesOf 5 = 1 := by kernel_rfl
theorem bytes_page : Tryz.prog.bytesOf 98 = 32 := by kernel_rfl
theorem bytes_item : Tryz.prog.bytesOf 83 = 88 := by kernel_rfl
theorem read_bytes {fuel : Nat} {v : Value} {x : DataW H × List MemPlace} (h : DataW.trod enc Tryz.prog w 0 (fun _ => true) true fuel 63 [v] = some x) (hwt : Wt 63 x.1) :
  ∃ a cap, ∃ l : Str, v = .slice a l.length cap ∧ l.length ≤ cap ∧ cap ≤ reachBytes ∧ BytesAt w a l := by
 obtain ⟨a, len, cap, xs, rfl, rfl, h1, h2, h3⟩ := read_slice (n := 1) byteR Tryz.underlying63 (by kernel_rfl) (by omega) (fun f cs y hy _ => read_byte hy) h hwt;rw [bytes_byte, Nat.mul_one] at h2;exact ⟨a, cap, xs, rfl, h1, h2, bytes_of_rows h3⟩
theorem read_i64 {f t : Nat} {cs : List Value} {y : DataW H × List MemPlace} (ht : Tryz.prog.underlying t = some (.int .i64)) (h : DataW.trod enc Tryz.prog w 0 (fun _ => true) true f t cs = some y) : ∃ n, cs = [.int .i64 n] ∧ I64 n := by
 obtain ⟨n, rfl, _, hw⟩ := DataW.trod_int ht h;exact ⟨n, rfl, bounds_i64 hw⟩
theorem cells_int : Tryz.prog.cellsOf 3 = 1 := by kernel_rfl
theorem cells_bytes : Tryz.prog.cellsOf 63 = 1 := by kernel_rfl
def PageR (w : World) (cs : List Value) (p : Page) : Prop :=
 I64 p.number ∧ ∃ ba bc, cs = [.int .i64 p.number, .slice ba p.bytes.length bc] ∧ BytesAt w ba p.bytes ∧ p.bytes.length ≤ reachBytes ∧ p.bytes.length ≤ bc ∧ bc ≤ 9223372036854775807
theorem PageR.keep {w w' : World} (k : Keeps w w') : ∀ cs p, PageR w cs p → PageR w' cs p := fun _ _ ⟨h1, ba, bc, h2, h3, h4⟩ => ⟨h1, ba, bc, h2, h3.keep k, h4⟩
theorem two {α : Type} {l : List α} (h : l.length = 2) : ∃ a b, l = [a, b] := by
 match l, h with
 | [a, b], _ => exact ⟨a, b, rfl⟩
theorem read_page {f : Nat} {cs : List Value} {y : DataW H × List MemPlace} (h : DataW.trod enc Tryz.prog w 0 (fun _ => true) true f 98 cs = some y) (hwt : Wt 98 y.1) : ∃ p, PageR w cs p := by
 obtain ⟨xs, n, _, hyx, hl, hx, hf⟩ := DataW.trod_struct Tryz.underlying98 h;subst hyx;obtain ⟨c0, c1, rfl⟩ := two (hl.trans (by kernel_rfl));obtain ⟨y0, y1, rfl⟩ := two hx;have h0 := hf 0 _ rfl;have h1 := hf 1 _ rfl
 simp [cells_int] at h0
 simp [cells_bytes] at h1
 obtain ⟨k, hk, hb⟩ := read_i64 Tryz.underlying3 h0;obtain ⟨a, c, l, hc, h2, h3, h4⟩ := read_bytes h1 (hwt.field Tryz.underlying98 1 rfl rfl);subst hc
 cases hk
 exact ⟨⟨k, l⟩, hb, a, c, rfl, h4, Nat.le_trans h2 h3, h2, Nat.le_trans h3 (by decide)⟩
theorem three {α : Type} {l : List α} (h : l.length = 3) : ∃ a b c, l = [a, b, c] := by
 match l, h with
 | [a, b, c], _ => exact ⟨a, b, c, rfl⟩
def FlashR (w : World) (cs : List Value) (f : Flash) : Prop :=
 I64 f.most ∧ I64 f.next ∧ ∃ a c, cs = [.int .i64 f.most, .int .i64 f.next, .slice a f.pages.length c] ∧ f.pages.length ≤ c ∧ c * 32 ≤ reachBytes ∧ RowsAt w a 2 (PageR w) f.pages
theorem FlashR.keep {w w' : World} (k : Keeps w w') : ∀ cs p, FlashR w cs p → FlashR w' cs p :=
 fun _ _ ⟨h1, h2, a, c, h3, h4, h5, h6⟩ => ⟨h1, h2, a, c, h3, h4, h5, h6.keep k (PageR.keep k)⟩
theorem cells_pages : Tryz.prog.cellsOf 24 = 1 := by kernel_rfl
instance : Inhabited Page := ⟨⟨0, []⟩⟩
theorem read_flash {f : Nat} {cs : List Value} {y : DataW H × List MemPlace} (h : DataW.trod enc Tryz.prog w 0 (fun _ => true) true f 26 cs = some y) (hwt : Wt 26 y.1) : ∃ p, FlashR w cs p := by
 obtain ⟨xs, n, _, hyx, hl, hx, hf⟩ := DataW.trod_struct Tryz.underlying26 h;subst hyx;obtain ⟨c0, c1, c2, rfl⟩ := three (hl.trans (by kernel_rfl));obtain ⟨y0, y1, y2, rfl⟩ := three hx;have h0 := hf 0 _ rfl;have h1 := hf 1 _ rfl;have h2 := hf 2 _ rfl
 simp [cells_int] at h0 h1
 simp [cells_pages] at h2
 obtain ⟨m, hm, hmb⟩ := read_i64 Tryz.underlying3 h0;obtain ⟨k, hk, hkb⟩ := read_i64 Tryz.underlying3 h1;obtain ⟨a, len, c, l, hc, hll, k2, k3, k4⟩ := read_slice (n := 2) (PageR w) Tryz.underlying24 (by kernel_rfl) (by omega) (fun f cs y hy hy2 => read_page hy hy2) h2 (hwt.field Tryz.underlying26 2 rfl rfl);rw [bytes_page] at k3;subst hc
 cases hm
 cases hk
 subst hll;exact ⟨⟨m, k, l⟩, hmb, hkb, a, c, rfl, k2, k3, k4⟩
def itemCells (x : Item) : List Value := [.string x.key, .int .i64 x.flags, .int .i64 x.till, .int .i64 x.cas, .int .i64 x.used, .string x.value, .bool x.far, .int .i64 x.place.page, .int .i64 x.place.off]
def ItemR (cs : List Value) (x : Item) : Prop :=
 cs = itemCells x ∧ x.key.size ≤ reachBytes ∧ x.value.size ≤ reachBytes ∧ I64 x.flags ∧ I64 x.till ∧ I64 x.cas ∧ I64 x.used ∧ I64 x.place.page ∧ I64 x.place.off
theorem cells_string : Tryz.prog.cellsOf 9 = 1 := by kernel_rfl
theorem cells_bool : Tryz.prog.cellsOf 4 = 1 := by kernel_rfl
theorem cells_place : Tryz.prog.cellsOf 81 = 2 := by kernel_rfl
theorem read_place {f : Nat} {cs : List Value} {y : DataW H × List MemPlace} (h : DataW.trod enc Tryz.prog w 0 (fun _ => true) true f 81 cs = some y) :
  ∃ p : Place, cs = [.int .i64 p.page, .int .i64 p.off] ∧ I64 p.page ∧ I64 p.off := by
 obtain ⟨xs, n, _, _, hl, hx, hf⟩ := DataW.trod_struct Tryz.underlying81 h;obtain ⟨c0, c1, rfl⟩ := two (hl.trans (by kernel_rfl));obtain ⟨y0, y1, rfl⟩ := two hx;have h0 := hf 0 _ rfl;have h1 := hf 1 _ rfl
 simp [cells_int] at h0 h1
 obtain ⟨m, hm, hmb⟩ := read_i64 Tryz.underlying3 h0;obtain ⟨k, hk, hkb⟩ := read_i64 Tryz.underlying3 h1
 cases hm
 cases hk
 exact ⟨⟨m, k⟩, rfl, hmb, hkb⟩
theorem eight {α : Type} {l : List α} (h : l.length = 8) : ∃ a b c d e f g i, l = [a, b, c, d, e, f, g, i] := by
 match l, h with
 | [a, b, c, d, e, f, g, i], _ => exact ⟨a, b, c, d, e, f, g, i, rfl⟩
theorem nine {α : Type} {l : List α} (h : l.length = 9) : ∃ a b c d e f g i j, l = [a, b, c, d, e, f, g, i, j] := by
 match l, h with
 | [a, b, c, d, e, f, g, i, j], _ => exact ⟨a, b, c, d, e, f, g, i, j, rfl⟩
theorem read_item {f : Nat} {cs : List Value} {y : DataW H × List MemPlace} (h : DataW.trod enc Tryz.prog w 0 (fun _ => true) true f 83 cs = some y) (hwt : Wt 83 y.1) : ∃ x, ItemR cs x := by
 obtain ⟨xs, n, _, hyx, hl, hx, hf⟩ := DataW.trod_struct Tryz.underlying83 h;subst hyx;obtain ⟨c0, c1, c2, c3, c4, c5, c6, c7, c8, rfl⟩ := nine (hl.trans (by kernel_rfl));obtain ⟨y0, y1, y2, y3, y4, y5, y6, y7, rfl⟩ := eight hx;have h0 := hf 0 _ rfl;have h1 := hf 1 _ rfl;have h2 := hf 2 _ rfl;have h3 := hf 3 _ rfl;have h4 := hf 4 _ rfl;have h5 := hf 5 _ rfl;have h6 := hf 6 _ rfl;have h7 := hf 7 _ rfl
 simp [cells_string] at h0 h5
 simp [cells_int] at h1 h2 h3 h4
 simp [cells_bool] at h6
 simp [cells_place] at h7
 obtain ⟨s0, e0, x0, _⟩ := DataW.trod_string Tryz.underlying9 h0;have b0 : s0.size ≤ reachBytes := by have := hwt.field Tryz.underlying83 0 rfl rfl; rw [x0] at this; simpa using this.string
 obtain ⟨n1, e1, b1⟩ := read_i64 Tryz.underlying3 h1;obtain ⟨n2, e2, b2⟩ := read_i64 Tryz.underlying3 h2;obtain ⟨n3, e3, b3⟩ := read_i64 Tryz.underlying3 h3;obtain ⟨n4, e4, b4⟩ := read_i64 Tryz.underlying3 h4;obtain ⟨s5, e5, x5, _⟩ := DataW.trod_string Tryz.underlying9 h5;have b5 : s5.size ≤ reachBytes := by have := hwt.field Tryz.underlying83 5 rfl rfl; rw [x5] at this; simpa using this.string
 obtain ⟨t6, e6, _⟩ := DataW.trod_bool Tryz.underlying4 h6;obtain ⟨p, e7, b7, b8⟩ := read_place h7
 cases e0; cases e1; cases e2; cases e3; cases e4; cases e5; cases e6; cases e7
 exact ⟨⟨s0, n1, n2, n3, n4, s5, t6, p⟩, rfl, b0, b5, b1, b2, b3, b4, b7, b8⟩
def StoreR (w : World) (cs : List Value) (s : Store) : Prop :=
 I64 s.clock ∧ I64 s.cas ∧ I64 s.uses ∧ I64 s.most ∧ I64 s.h0 ∧ I64 s.h1 ∧ I64 s.h2 ∧ I64 s.h3 ∧
 ∃ a c fs, cs = [.int .i64 s.clock, .int .i64 s.cas, .int .i64 s.uses, .int .i64 s.most, .int .i64 s.h0, .int .i64 s.h1, .int .i64 s.h2, .int .i64 s.h3, .slice a s.items.length c] ++ fs ∧
  s.items.length ≤ c ∧ c * 88 ≤ reachBytes ∧ RowsAt w a 9 ItemR s.items ∧ FlashR w fs s.flash
theorem StoreR.keep {w w' : World} (k : Keeps w w') : ∀ cs p, StoreR w cs p → StoreR w' cs p :=
 fun _ _ ⟨h1, h2, h3, h4, h5, h6, h7, h8, a, c, fs, h9, h10, h11, h12, h13⟩ => ⟨h1, h2, h3, h4, h5, h6, h7, h8, a, c, fs, h9, h10, h11, h12.keep k (fun _ _ h => h), FlashR.keep k _ _ h13⟩
theorem cells_held : Tryz.prog.cellsOf 22 = 4 := by kernel_rfl
theorem cells_items : Tryz.prog.cellsOf 23 = 1 := by kernel_rfl
theorem cells_flash : Tryz.prog.cellsOf 26 = 3 := by kernel_rfl
instance : Inhabited Item := ⟨⟨ByteArray.empty, 0, 0, 0, 0, ByteArray.empty, false, ⟨0, 0⟩⟩⟩
theorem four {α : Type} {l : List α} (h : l.length = 4) : ∃ a b c d, l = [a, b, c, d] := by
 match l, h with
 | [a, b, c, d], _ => exact ⟨a, b, c, d, rfl⟩
theorem seven {α : Type} {l : List α} (h : l.length = 7) : ∃ a b c d e f g, l = [a, b, c, d, e, f, g] := by
 match l, h with
 | [a, b, c, d, e, f, g], _ => exact ⟨a, b, c, d, e, f, g, rfl⟩
theorem twelve {α : Type} {l : List α} (h : l.length = 12) : ∃ a b c d e f g i j k m n, l = [a, b, c, d, e, f, g, i, j, k, m, n] := by
 match l, h with
 | [a, b, c, d, e, f, g, i, j, k, m, n], _ => exact ⟨a, b, c, d, e, f, g, i, j, k, m, n, rfl⟩
theorem read_store {f : Nat} {cs : List Value} {y : DataW H × List MemPlace} (h : DataW.trod enc Tryz.prog w 0 (fun _ => true) true f 28 cs = some y) (hwt : Wt 28 y.1) : ∃ s, StoreR w cs s := by
 obtain ⟨xs, n, _, hyx, hl, hx, hf⟩ := DataW.trod_struct Tryz.underlying28 h;subst hyx;obtain ⟨c0, c1, c2, c3, c4, c5, c6, c7, c8, c9, c10, c11, rfl⟩ := twelve (hl.trans (by kernel_rfl));obtain ⟨y0, y1, y2, y3, y4, y5, y6, rfl⟩ := seven hx;have h0 := hf 0 _ rfl;have h1 := hf 1 _ rfl;have h2 := hf 2 _ rfl;have h3 := hf 3 _ rfl;have h4 := hf 4 _ rfl;have h5 := hf 5 _ rfl;have h6 := hf 6 _ rfl
 simp [cells_int] at h0 h1 h2 h3
 simp [cells_held] at h4
 simp [cells_items] at h5
 simp [cells_flash] at h6
 obtain ⟨n0, e0, b0⟩ := read_i64 Tryz.underlying3 h0;obtain ⟨n1, e1, b1⟩ := read_i64 Tryz.underlying3 h1;obtain ⟨n2, e2, b2⟩ := read_i64 Tryz.underlying3 h2;obtain ⟨n3, e3, b3⟩ := read_i64 Tryz.underlying3 h3;obtain ⟨zs, m, _, _, _, hz, hg⟩ := DataW.trod_array Tryz.underlying22 h4;obtain ⟨z0, z1, z2, z3, rfl⟩ := four hz;have g0 := hg 0 (by omega);have g1 := hg 1 (by omega);have g2 := hg 2 (by omega);have g3 := hg 3 (by omega)
 simp [cells_int] at g0 g1 g2 g3
 obtain ⟨k0, q0, r0⟩ := read_i64 Tryz.underlying3 g0;obtain ⟨k1, q1, r1⟩ := read_i64 Tryz.underlying3 g1;obtain ⟨k2, q2, r2⟩ := read_i64 Tryz.underlying3 g2;obtain ⟨k3, q3, r3⟩ := read_i64 Tryz.underlying3 g3;obtain ⟨a, len, c, l, hc, hll, hlc, hcm, hrow⟩ := read_slice (n := 9) ItemR Tryz.underlying23 (by kernel_rfl) (by omega) (fun f cs y hy hy2 => read_item hy hy2) h5 (hwt.field Tryz.underlying28 5 rfl rfl);rw [bytes_item] at hcm;obtain ⟨fl, hfl⟩ := read_flash h6 (hwt.field Tryz.underlying28 6 rfl rfl);subst hc hll
 cases e0; cases e1; cases e2; cases e3; cases q0; cases q1; cases q2; cases q3
 exact ⟨⟨n0, n1, n2, n3, k0, k1, k2, k3, l, fl⟩, b0, b1, b2, b3, r0, r1, r2, r3, a, c, _, rfl, hlc, hcm, hrow, hfl⟩
theorem item_cells {w w' : World} {b o : Nat} {x : Item} (hk : Keeps w w') (h : ∀ j v, (itemCells x)[j]? = some v → w.cell? ⟨b, o + j, none⟩ = some v) :
  w'.cell? ⟨b, o, none⟩ = some (.string x.key) ∧ w'.cell? ⟨b, o + 1, none⟩ = some (.int .i64 x.flags) ∧ w'.cell? ⟨b, o + 2, none⟩ = some (.int .i64 x.till) ∧
  w'.cell? ⟨b, o + 3, none⟩ = some (.int .i64 x.cas) ∧ w'.cell? ⟨b, o + 4, none⟩ = some (.int .i64 x.used) ∧ w'.cell? ⟨b, o + 5, none⟩ = some (.string x.value) ∧
  w'.cell? ⟨b, o + 6, none⟩ = some (.bool x.far) ∧ w'.cell? ⟨b, o + 7, none⟩ = some (.int .i64 x.place.page) ∧ w'.cell? ⟨b, o + 8, none⟩ = some (.int .i64 x.place.off) ∧ b < w.heap.size :=
 ⟨hk _ _ (h 0 _ rfl), hk _ _ (h 1 _ rfl), hk _ _ (h 2 _ rfl), hk _ _ (h 3 _ rfl), hk _ _ (h 4 _ rfl), hk _ _ (h 5 _ rfl), hk _ _ (h 6 _ rfl), hk _ _ (h 7 _ rfl), hk _ _ (h 8 _ rfl),
  World.block_lt_of_cell? w ⟨b, o + 0, none⟩ (h 0 _ rfl)⟩
def PageB (p : Page) : Prop := I64 p.number ∧ p.bytes.length ≤ reachBytes
theorem RowsAt.pageB {w : World} {a : Option Addr} {ps : List Page} (h : RowsAt w a 2 (PageR w) ps) : ∀ p ∈ ps, PageB p := by
 intro p hp
 rcases h with h | ⟨b, o, _, hc⟩
 ·subst h; simp at hp
 ·obtain ⟨i, hi, rfl⟩ := List.mem_iff_getElem.1 hp
  obtain ⟨_, _, ⟨h1, _, _, _, _, h2⟩, _⟩ := hc i hi;exact ⟨h1, h2.1⟩
end
theorem take_snoc (s : ByteArray) (k : Nat) (h : k < s.size) : (bl s).take (k + 1) = (bl s).take k ++ [s[k]] := by
 rw [List.take_succ_eq_append_getElem (by rw [bl_length]; exact h)]; rfl
theorem flash_sum (s : ByteArray) (w : World) (hs : s.size ≤ 9223372036854775807) :
  Calls Tryz.prog 100 #[.string s] w fun e w' => e = .returned (.int .i64 (sumOf (bl s) : Nat)) ∧ w = w' := by
 go_enter Tryz.func100, Tryz.ntmps100
 go_wp2
 go_loop [3, 7] (fun n i => ∃ k : Nat, k ≤ s.size ∧ i = .int .i64 k ∧ n = .int .i64 (sumOf ((bl s).take k) : Nat)) (fun _ i => s.size - (intOf i).toNat)
 case atStart => exact ⟨0, Nat.zero_le _, rfl, rfl⟩
 case round =>
  obtain ⟨k, hk, rfl, rfl⟩ := hrel;have hlt := sumOf_lt ((bl s).take k)
  by_cases hlt : k < s.size
  ·have hsn := hid (sumOf_snoc ((bl s).take k) s[k])
   have hts := hid (take_snoc s k hlt);have hb := u8_lt s[k]
   go_wp2
   go_round
   case rel => exact ⟨k + 1, by omega, by go_num, by rw [hts.out, hsn.out]; go_num⟩
   case measure => simp [intOf]; omega
  ·go_wp2
   go_ret;exact ⟨by rw [List.take_of_length_le (by rw [bl_length]; omega)]; rfl, rfl⟩
theorem ref_sumOf (s : ByteArray) (w : World) (hs : s.size ≤ 9223372036854775807) :
  Calls Tryz.prog 130 #[.string s] w fun e w' => e = .returned (.int .i64 (sumOf (bl s) : Nat)) ∧ w = w' := by
 go_enter Tryz.func130, Tryz.ntmps130
 go_wp2
 go_loop [3, 4] (fun n i => ∃ k : Nat, k ≤ s.size ∧ i = .int .i64 k ∧ n = .int .i64 (sumOf ((bl s).take k) : Nat)) (fun _ i => s.size - (intOf i).toNat)
 case atStart => exact ⟨0, Nat.zero_le _, rfl, rfl⟩
 case round =>
  obtain ⟨k, hk, rfl, rfl⟩ := hrel;have hlt := sumOf_lt ((bl s).take k)
  by_cases hlt : k < s.size
  ·have hsn := hid (sumOf_snoc ((bl s).take k) s[k])
   have hts := hid (take_snoc s k hlt);have hb := u8_lt s[k]
   go_wp2
   go_round
   case rel => exact ⟨k + 1, by omega, by go_num, by rw [hts.out, hsn.out]; go_num⟩
   case measure => simp [intOf]; omega
  ·go_wp2
   go_ret;exact ⟨by rw [List.take_of_length_le (by rw [bl_length]; omega)]; rfl, rfl⟩
theorem infoByte0 : (Tryz.prog.info? 5).map (fun i => (i.zero, i.size, i.bytes)) = some (some (.int .u8 0), 1, 1) := by kernel_rfl
def BytesEnd (s : ByteArray) (w : World) (e : Ending) (w' : World) : Prop :=
 ∃ v, e = .returned v ∧ w'.ownsRow w.heap.size 5 1 v (3 + s.size) ((recordOf (bl s)).map byteV) ∧ Below w.heap.size w w'
theorem rec_cells (s : ByteArray) (hs : s.size ≤ 200) : (#[Value.int .u8 (s.size : Nat), .int .u8 ((sumOf (bl s) : Int) / 256), .int .u8 ((sumOf (bl s) : Int) % 256)]).toList ++ Lib.strCells s = (recordOf (bl s)).map byteV := by
 have h := sumOf_lt (bl s);have h1 : (UInt8.ofNat s.size).toNat = s.size := by simp; omega
 have h2 : (UInt8.ofNat (sumOf (bl s) / 256)).toNat = sumOf (bl s) / 256 := by simp; omega
 have h3 : (UInt8.ofNat (sumOf (bl s) % 256)).toNat = sumOf (bl s) % 256 := by simp
 simp only [recordOf, List.map_append, List.map_cons, List.map_nil, bl_length, byteV, h1, h2, h3]
 congr 1
theorem sum_any (s : ByteArray) (n : Nat) (hn : Hid (n = sumOf (bl s))) (w : World) (hs : s.size ≤ 9223372036854775807) :
  Calls Tryz.prog 130 #[.string s] w fun e w' => e = .returned (.int .i64 n) ∧ w = w' := by
 have := hn.out;subst this;exact ref_sumOf s w hs
set_option maxRecDepth 100000 in
theorem ref_bytesOf (s : ByteArray) (w : World) (hs : s.size ≤ 200) : Calls Tryz.prog 117 #[.string s] w (BytesEnd s w) := by
 have h := sumOf_lt (bl s);obtain ⟨i0, hi, hz0, hz1, hz2⟩ := info_parts infoByte0;have HC := hid (rec_cells s hs);obtain ⟨n, hn⟩ : ∃ n, n = sumOf (bl s) := ⟨_, rfl⟩;rw [← hn] at h HC;have HN := hid hn;clear hn
 go_enter Tryz.func117, Tryz.ntmps117
 go_wp2_with fail
 refine (sum_any s n HN _ (by omega)).mono ?_;rintro e w' ⟨rfl, rfl⟩
 go_wp2_with fail
 refine (sum_any s n HN _ (by omega)).mono ?_;rintro e w' ⟨rfl, rfl⟩
 go_wp2_with (at_builtin; go_must (refine Lib.wpList_append_own_string _ rfl (.tmp 16) (.tmp 17) 63 9 rfl w.heap.size 5 i0 Tryz.underlying63 Tryz.underlying9 hi hz0 hz1 hz2 _ 3 _ rfl (ownsRow_lit _ _ #[.int .u8 (s.size : Nat), .int .u8 ((n : Int) / 256), .int .u8 ((n : Int) % 256)] _ w.heap.size 3 1 (Nat.le_refl _) rfl (by decide) rfl) s rfl (by unfold maxLen; omega) (by omega) (by go_size) ?_))
 intro v1 w1 hown hgrow _;have hbl : Below w.heap.size w w1 := Below.grown (by go_grown) hgrow (by go_size) (by intro k hk; have hka : w.heap.size = k := (by simpa [Value.ownBlock] using hk); exact hka ▸ Nat.le_refl _);have HOW := hid hown;clear hown hgrow
 go_wp2_with fail
 go_ret;exact ⟨_, rfl, by rw [← HC.out]; exact HOW.out, hbl⟩
theorem CellsAt.news {w w' : World} {ad : Addr} {cs : List Value} (h : CellsAt w (some ad) cs) (k : Keeps w w') : ∀ j u, cs[j]? = some u → w'.cell? (ad.add j) = some u := by
 intro j u hu
 rcases h with h | ⟨b, o, ha, hc⟩
 ·subst h; simp at hu
 ·cases ha
  rw [addr_add];exact k _ _ (hc j u hu)
theorem CellsAt.none {w : World} {cs : List Value} (h : CellsAt w none cs) : cs = [] := by
 rcases h with h | ⟨b, o, ha, _⟩
 ·exact h
 ·cases ha
def Cloned (e size n : Nat) (cs : List Value) (w : World) (E : Ending) (w' : World) : Prop :=
 ∃ v, E = .returned v ∧ w'.ownsRow w.heap.size e size v n cs ∧ Below w.heap.size w w'
theorem infoByte : (Tryz.prog.info? 5).map (fun i => (i.zero, i.size, i.bytes)) = some (some (.int .u8 0), 1, 1) := by kernel_rfl
theorem infoPage : (Tryz.prog.info? 98).map (fun i => (i.zero, i.size, i.bytes)) = some (some (.agg #[.int .i64 0, .slice none 0 0]), 2, 32) := by kernel_rfl
theorem infoItem : (Tryz.prog.info? 83).map (fun i => (i.zero, i.size, i.bytes)) = some (some (.agg #[.string ByteArray.empty, .int .i64 0, .int .i64 0, .int .i64 0, .int .i64 0, .string ByteArray.empty, .bool false, .int .i64 0, .int .i64 0]), 9, 88) := by kernel_rfl
theorem clone_bytes (cs : List Value) (n : Nat) (a : Option Addr) (c : Nat) (w : World) (h : CellsAt w a cs) (hn : cs.length = n * 1) (hone : cs.all (·.oneCell') = true) (hb : n * 1 ≤ 140737488355328) :
  Calls Tryz.prog 25 #[.slice a n c] w (Cloned 5 1 n cs w) := by
 have he := Lib.run_eql_slice_nil (P := Tryz.prog) w 63 5 a n c 0 0 Tryz.underlying63
 cases a with
 | none =>
  have h0 := h.none;subst h0;obtain rfl : n = 0 := by simp at hn; omega
  clear h hn hone hb
  go_enter Tryz.func25, Tryz.ntmps25
  go_wp2_with fail
  go_ret;exact ⟨_, rfl, World.ownsRow_nil _ _ _ _, Below.refl _ _⟩
 | some ad =>
  obtain ⟨i0, hi, hz0, hz1, hz2⟩ := info_parts infoByte;have hnews := fun (w' : World) (k : Keeps w w') => h.news k
  have HN := hid hnews;have HO := hid (ones hone);have HL := hid hn;clear hnews h hone hn
  go_enter Tryz.func25, Tryz.ntmps25
  go_wp2_with (at_builtin; go_must (refine wpList_append_own _ rfl (.tmp 5) (.tmp 6) 63 rfl w.heap.size 5 i0 (.int .u8 0) 1 1 Tryz.underlying63 hi hz0 hz1 hz2 rfl (by decide) _ 0 [] rfl (ownsRow_lit _ _ #[] _ w.heap.size 0 1 (Nat.le_refl _) rfl (Nat.zero_le _) rfl) ad n c cs rfl HL.out (HN.out _ (Below.keeps (by go_grown))) HO.out (by unfold maxLen; omega) (by simpa using hb) (by go_size) ?_))
  intro v1 w1 hown hgrow _;have hbl : Below w.heap.size w w1 := Below.grown (by go_grown) hgrow (by go_size) (by intro k hk; have hka : w.heap.size = k := (by simpa [Value.ownBlock] using hk); exact hka ▸ Nat.le_refl _);have HOW := hid hown;clear hown hgrow
  go_wp2_with fail
  go_ret;exact ⟨_, rfl, HOW.out, hbl⟩
theorem clone_pages (cs : List Value) (n : Nat) (a : Option Addr) (c : Nat) (w : World) (h : CellsAt w a cs) (hn : cs.length = n * 2) (hone : cs.all (·.oneCell') = true) (hb : n * 32 ≤ 140737488355328) :
  Calls Tryz.prog 86 #[.slice a n c] w (Cloned 98 2 n cs w) := by
 have he := Lib.run_eql_slice_nil (P := Tryz.prog) w 24 98 a n c 0 0 Tryz.underlying24
 cases a with
 | none =>
  have h0 := h.none;subst h0;obtain rfl : n = 0 := by simp at hn; omega
  clear h hn hone hb
  go_enter Tryz.func86, Tryz.ntmps86
  go_wp2_with fail
  go_ret;exact ⟨_, rfl, World.ownsRow_nil _ _ _ _, Below.refl _ _⟩
 | some ad =>
  obtain ⟨i0, hi, hz0, hz1, hz2⟩ := info_parts infoPage;have hnews := fun (w' : World) (k : Keeps w w') => h.news k
  have HN := hid hnews;have HO := hid (ones hone);have HL := hid hn;clear hnews h hone hn
  go_enter Tryz.func86, Tryz.ntmps86
  go_wp2_with (at_builtin; go_must (refine wpList_append_own _ rfl (.tmp 5) (.tmp 6) 24 rfl w.heap.size 98 i0 (.agg #[.int .i64 0, .slice none 0 0]) 2 32 Tryz.underlying24 hi hz0 hz1 hz2 rfl (by decide) _ 0 [] rfl (ownsRow_lit _ _ #[] _ w.heap.size 0 2 (Nat.le_refl _) rfl (Nat.zero_le _) rfl) ad n c cs rfl HL.out (HN.out _ (Below.keeps (by go_grown))) HO.out (by unfold maxLen; omega) (by simpa using hb) (by go_size) ?_))
  intro v1 w1 hown hgrow _;have hbl : Below w.heap.size w w1 := Below.grown (by go_grown) hgrow (by go_size) (by intro k hk; have hka : w.heap.size = k := (by simpa [Value.ownBlock] using hk); exact hka ▸ Nat.le_refl _);have HOW := hid hown;clear hown hgrow
  go_wp2_with fail
  go_ret;exact ⟨_, rfl, HOW.out, hbl⟩
theorem clone_items (cs : List Value) (n : Nat) (a : Option Addr) (c : Nat) (w : World) (h : CellsAt w a cs) (hn : cs.length = n * 9) (hone : cs.all (·.oneCell') = true) (hb : n * 88 ≤ 140737488355328) :
  Calls Tryz.prog 54 #[.slice a n c] w (Cloned 83 9 n cs w) := by
 have he := Lib.run_eql_slice_nil (P := Tryz.prog) w 23 83 a n c 0 0 Tryz.underlying23
 cases a with
 | none =>
  have h0 := h.none;subst h0;obtain rfl : n = 0 := by simp at hn; omega
  clear h hn hone hb
  go_enter Tryz.func54, Tryz.ntmps54
  go_wp2_with fail
  go_ret;exact ⟨_, rfl, World.ownsRow_nil _ _ _ _, Below.refl _ _⟩
 | some ad =>
  obtain ⟨i0, hi, hz0, hz1, hz2⟩ := info_parts infoItem;have hnews := fun (w' : World) (k : Keeps w w') => h.news k
  have HN := hid hnews;have HO := hid (ones hone);have HL := hid hn;clear hnews h hone hn
  go_enter Tryz.func54, Tryz.ntmps54
  go_wp2_with (at_builtin; go_must (refine wpList_append_own _ rfl (.tmp 5) (.tmp 6) 23 rfl w.heap.size 83 i0 (.agg #[.string ByteArray.empty, .int .i64 0, .int .i64 0, .int .i64 0, .int .i64 0, .string ByteArray.empty, .bool false, .int .i64 0, .int .i64 0]) 9 88 Tryz.underlying23 hi hz0 hz1 hz2 rfl (by decide) _ 0 [] rfl (ownsRow_lit _ _ #[] _ w.heap.size 0 9 (Nat.le_refl _) rfl (Nat.zero_le _) rfl) ad n c cs rfl HL.out (HN.out _ (Below.keeps (by go_grown))) HO.out (by unfold maxLen; omega) (by simpa using hb) (by go_size) ?_))
  intro v1 w1 hown hgrow _;have hbl : Below w.heap.size w w1 := Below.grown (by go_grown) hgrow (by go_size) (by intro k hk; have hka : w.heap.size = k := (by simpa [Value.ownBlock] using hk); exact hka ▸ Nat.le_refl _);have HOW := hid hown;clear hown hgrow
  go_wp2_with fail
  go_ret;exact ⟨_, rfl, HOW.out, hbl⟩
def pageCells : List Page → List Value → List Value
 | p :: ps, v :: vs => .int .i64 p.number :: v :: pageCells ps vs
 | _, _ => []
theorem pageCells_length : ∀ (ps : List Page) (vs : List Value), vs.length = ps.length → (pageCells ps vs).length = ps.length * 2
 | [], [], _ => rfl
 | p :: ps, v :: vs, h => by
  have := pageCells_length ps vs (by simpa using h);simp only [pageCells, List.length_cons, this]; omega
 | [], v :: vs, h => by simp at h
 | p :: ps, [], h => by simp at h
theorem pageCells_num : ∀ (ps : List Page) (vs : List Value) (j : Nat) (p : Page), vs.length = ps.length → ps[j]? = some p → (pageCells ps vs)[j * 2]? = some (.int .i64 p.number)
 | [], _, j, p, _, hp => by simp at hp
 | q :: ps, [], j, p, h, _ => by simp at h
 | q :: ps, v :: vs, 0, p, _, hp => by simp at hp; subst hp; rfl
 | q :: ps, v :: vs, j + 1, p, h, hp => by
  have := pageCells_num ps vs j p (by simpa using h) (by simpa using hp);rw [show (j + 1) * 2 = j * 2 + 1 + 1 by omega]
  simpa [pageCells] using this
theorem pageCells_val : ∀ (ps : List Page) (vs : List Value) (j : Nat) (u : Value), vs.length = ps.length → vs[j]? = some u → (pageCells ps vs)[j * 2 + 1]? = some u
 | [], vs, j, u, h, hu => by simp at h; subst h; simp at hu
 | q :: ps, [], j, u, h, _ => by simp at h
 | q :: ps, v :: vs, 0, u, _, hu => by simp at hu; subst hu; rfl
 | q :: ps, v :: vs, j + 1, u, h, hu => by
  have := pageCells_val ps vs j u (by simpa using h) (by simpa using hu);rw [show (j + 1) * 2 + 1 = j * 2 + 1 + 1 + 1 by omega]
  simpa [pageCells] using this
theorem pageCells_set : ∀ (ps : List Page) (vs : List Value) (j : Nat) (u : Value), vs.length = ps.length → j < ps.length → (pageCells ps vs).set (j * 2 + 1) u = pageCells ps (vs.set j u)
 | [], vs, j, u, _, hj => by simp at hj
 | q :: ps, [], j, u, h, _ => by simp at h
 | q :: ps, v :: vs, 0, u, _, _ => rfl
 | q :: ps, v :: vs, j + 1, u, h, hj => by
  have := pageCells_set ps vs j u (by simpa using h) (by simpa using hj);rw [show (j + 1) * 2 + 1 = j * 2 + 1 + 1 + 1 by omega]
  simp [pageCells, this]
theorem pageCells_append : ∀ (ps qs : List Page) (vs us : List Value), vs.length = ps.length → pageCells (ps ++ qs) (vs ++ us) = pageCells ps vs ++ pageCells qs us
 | [], qs, vs, us, h => by simp at h; subst h; rfl
 | p :: ps, qs, [], us, h => by simp at h
 | p :: ps, qs, v :: vs, us, h => by
  simp [pageCells, pageCells_append ps qs vs us (by simpa using h)]
theorem owns_below {w w' : World} {base : Nat} {e : TypeId} {size : Nat} {v : Value} {n : Nat} {xs : List Value} (h : w.ownsRow base e size v n xs) (hb : Below w.heap.size w w') : w'.ownsRow base e size v n xs := by
 refine ⟨h.1, ?_⟩
 rcases h.2 with hn | ⟨g, cap, cur, rfl, hg, hh, rest⟩
 ·exact .inl hn
 ·exact .inr ⟨g, cap, cur, rfl, hg, by rw [hb.block g (blt hh)]; exact hh, rest⟩
theorem owns_base {w : World} {base base' : Nat} {e : TypeId} {size : Nat} {v : Value} {n : Nat} {xs : List Value} (h : w.ownsRow base e size v n xs) (hb : base' ≤ base) : w.ownsRow base' e size v n xs := by
 refine ⟨h.1, ?_⟩
 rcases h.2 with hn | ⟨g, cap, cur, rfl, hg, rest⟩
 ·exact .inl hn
 ·exact .inr ⟨g, cap, cur, rfl, by omega, rest⟩
structure PagesMid (base : Nat) (w0 w : World) (v : Value) (ps : List Page) (vs : List Value) (k : Nat) : Prop where
 len : vs.length = ps.length
 row : w.ownsRow base 98 2 v ps.length (pageCells ps vs)
 done : ∀ j p u, ps[j]? = some p → vs[j]? = some u → j < k → w.ownsRow base 5 1 u p.bytes.length (p.bytes.map byteV)
 old : ∀ j p u, ps[j]? = some p → vs[j]? = some u → k ≤ j → ∃ ba bc, u = .slice ba p.bytes.length bc ∧ BytesAt w0 ba p.bytes
 off : ∀ j u b, vs[j]? = some u → j < k → u.ownBlock = some b → v.ownBlock ≠ some b
 apart : ∀ i j u u' b, i < j → j < k → vs[i]? = some u → vs[j]? = some u' → u.ownBlock = some b → u'.ownBlock ≠ some b
theorem PagesMid.step {base : Nat} {w0 w w2 : World} {g n c : Nat} {ps : List Page} {vs : List Value} {k : Nat} {p : Page} {u : Value}
  (h : PagesMid base w0 w (.slice (some ⟨g, 0, none⟩) n c) ps vs k) (hn : n = ps.length) (hp : ps[k]? = some p) (hb : Below w.heap.size w w2)
  (ho : w2.ownsRow w.heap.size 5 1 u p.bytes.length (p.bytes.map byteV)) (hbase : base ≤ w.heap.size) :
  PagesMid base w0 (w2.setCell ⟨g, k * 2 + 1, none⟩ u) (.slice (some ⟨g, 0, none⟩) n c) ps (vs.set k u) (k + 1) := by
 subst hn;have hk : k < ps.length := (List.getElem?_eq_some_iff.1 hp).1;have hlt := h.row.lt g rfl;have hrow := (owns_below h.row hb).stored (k * 2 + 1) u
 have hother : ∀ {v' : Value} {m : Nat} {xs : List Value} {b0 : Nat}, w2.ownsRow b0 5 1 v' m xs → (∀ b, v'.ownBlock = some b → b ≠ g) → (w2.setCell ⟨g, k * 2 + 1, none⟩ u).ownsRow b0 5 1 v' m xs := by
  intro v' m xs b0 h1 h2;refine h1.kept hrow.2 ?_
  cases hv : v'.ownBlock with
  | none => exact .inl rfl
  | some b => exact .inr (fun e => h2 b hv (by simpa using e))
 have hu : ∀ b, u.ownBlock = some b → w.heap.size ≤ b := fun b hb' => (ho.lt b hb').1
 refine ⟨by simpa using h.len, ?_, ?_, ?_, ?_, ?_⟩
 ·rw [← pageCells_set ps vs k u h.len hk]; exact hrow.1
 ·intro j q x hq hx hj
  by_cases e : j = k
  ·subst e
   rw [hq] at hp; cases hp;rw [List.getElem?_set_self (by rw [h.len]; exact hk)] at hx
   cases hx
   exact hother (owns_base ho hbase) (fun b hb' => by have := hu b hb'; omega)
  ·rw [List.getElem?_set_ne (by omega)] at hx
   exact hother (owns_below (h.done j q x hq hx (by omega)) hb) (fun b hb' e' => h.off j x b hx (by omega) hb' (by rw [e']; rfl))
 ·intro j q x hq hx hj
  rw [List.getElem?_set_ne (by omega)] at hx;exact h.old j q x hq hx (by omega)
 ·intro j x b hx hj hb'
  by_cases e : j = k
  ·subst e
   rw [List.getElem?_set_self (by rw [h.len]; exact hk)] at hx
   cases hx
   have := hu b hb'
   simp [Value.ownBlock]; omega
  ·rw [List.getElem?_set_ne (by omega)] at hx
   exact h.off j x b hx (by omega) hb'
 ·intro i j x x' b hij hj hx hx' hb'
  rw [List.getElem?_set_ne (by omega)] at hx
  by_cases e : j = k
  ·subst e
   rw [List.getElem?_set_self (by rw [h.len]; exact hk)] at hx'
   cases hx'
   intro hu';have h1 := hu b hu';obtain ⟨q, hq⟩ : ∃ q, ps[i]? = some q := ⟨_, List.getElem?_eq_getElem (by omega)⟩;have h2 := (h.done i q x hq hx (by omega)).lt b hb';omega
  ·rw [List.getElem?_set_ne (by omega)] at hx'
   exact h.apart i j x x' b hij (by omega) hx hx' hb'
theorem pages_cells {w : World} {a : Option Addr} {ps : List Page} (h : RowsAt w a 2 (PageR w) ps) :
  ∃ vs : List Value, vs.length = ps.length ∧ CellsAt w a (pageCells ps vs) ∧ (pageCells ps vs).all (·.oneCell') = true ∧
   ∀ (j : Nat) (p : Page) (u : Value), ps[j]? = some p → vs[j]? = some u → ∃ ba bc, u = .slice ba p.bytes.length bc ∧ BytesAt w ba p.bytes := by
 rcases h with h | ⟨b, o, ha, hc⟩
 ·subst h
  exact ⟨[], rfl, .inl rfl, rfl, fun j p u hp => by simp at hp⟩
 ·have hx : ∀ i, i < ps.length → ∃ x : Option Addr × Nat, ∀ hi : i < ps.length, BytesAt w x.1 ps[i].bytes ∧
    w.cell? ⟨b, o + i * 2, none⟩ = some (.int .i64 ps[i].number) ∧ w.cell? ⟨b, o + (i * 2 + 1), none⟩ = some (.slice x.1 ps[i].bytes.length x.2) := by
   intro i hi;obtain ⟨cs, _, ⟨_, ba, bc, hcs, hby, _⟩, h3⟩ := hc i hi;subst hcs;exact ⟨(ba, bc), fun _ => ⟨hby, h3 0 _ rfl, h3 1 _ rfl⟩⟩
  obtain ⟨f, hf⟩ := Deep.choose_lt hx;refine ⟨(List.range ps.length).map fun i => .slice (f i).1 ((ps[i]?.map (·.bytes.length)).getD 0) (f i).2, by simp, .inr ⟨b, o, ha, ?_⟩, ?_, ?_⟩
  ·intro i v hv
   have hl : ((List.range ps.length).map fun i => Value.slice (f i).1 ((ps[i]?.map (·.bytes.length)).getD 0) (f i).2).length = ps.length := by simp
   have hi : i < ps.length * 2 := by
    have := (List.getElem?_eq_some_iff.1 hv).1
    rwa [pageCells_length _ _ hl] at this
   have hj : i / 2 < ps.length := by omega
   have hp : ps[i / 2]? = some ps[i / 2] := List.getElem?_eq_getElem hj;obtain ⟨_, h1, h2⟩ := hf (i / 2) hj hj
   rcases Nat.mod_two_eq_zero_or_one i with hm | hm
   ·have e : i = i / 2 * 2 := by omega
    have hn := pageCells_num _ _ (i / 2) _ hl hp;rw [← e] at hn h1;rw [hn] at hv; cases hv;exact h1
   ·have e : i = i / 2 * 2 + 1 := by omega
    have hn := pageCells_val ps _ (i / 2) (.slice (f (i / 2)).1 ps[i / 2].bytes.length (f (i / 2)).2) hl (by simp [hj]);rw [← e] at hn h2;rw [hn] at hv; cases hv;exact h2
  ·rw [List.all_eq_true]
   intro v hv
   have gen : ∀ (ps : List Page) (vs : List Value), (∀ u ∈ vs, ∃ a n c, u = .slice a n c) → ∀ v ∈ pageCells ps vs, v.oneCell' = true := by
    intro ps
    induction ps with
    | nil => intro vs _ v hv; cases vs <;> simp [pageCells] at hv
    | cons p ps ih =>
     intro vs hvs v hv
     cases vs with
     | nil => simp [pageCells] at hv
     | cons u vs =>
      simp only [pageCells, List.mem_cons] at hv
      rcases hv with rfl | rfl | hv
      ·rfl
      ·obtain ⟨a, n, c, rfl⟩ := hvs v (by simp)
       rfl
      ·exact ih vs (fun u hu => hvs u (by simp [hu])) v hv
   exact gen _ _ (fun u hu => by simp at hu; obtain ⟨i, _, rfl⟩ := hu; exact ⟨_, _, _, rfl⟩) v hv
  ·intro j p u hp hu
   obtain ⟨hj, hp'⟩ := List.getElem?_eq_some_iff.1 hp
   simp [hj] at hu
   subst hu hp';exact ⟨_, _, rfl, (hf j hj hj).1⟩
theorem own_slice {w : World} {base : Nat} {e : TypeId} {size : Nat} {v : Value} {n : Nat} {xs : List Value} (h : w.ownsRow base e size v n xs) : ∃ a c, v = .slice a n c := by
 rcases h.2 with ⟨rfl, rfl⟩ | ⟨g, cap, cur, rfl, _⟩
 ·exact ⟨_, _, rfl⟩
 ·exact ⟨_, _, rfl⟩
theorem own_some {w : World} {base : Nat} {e : TypeId} {size : Nat} {a : Option Addr} {n m c : Nat} {xs : List Value} (h : w.ownsRow base e size (.slice a m c) n xs) (hn : 0 < n) : ∃ g, a = some ⟨g, 0, none⟩ ∧ base ≤ g ∧ g < w.heap.size := by
 obtain ⟨g, cap, hv, hb, hg, _⟩ := own_shape h hn
 cases hv
 exact ⟨g, rfl, hb, hg⟩
theorem PagesMid.setCell_below {base : Nat} {w0 w : World} {v : Value} {ps : List Page} {vs : List Value} {k : Nat} (h : PagesMid base w0 w v ps vs k) {a : Addr} (ha : a.block < base) (u : Value) : PagesMid base w0 (w.setCell a u) v ps vs k :=
 ⟨h.len, ownsRow_setCell_below h.row ha u, fun j p x h1 h2 h3 => ownsRow_setCell_below (h.done j p x h1 h2 h3) ha u, h.old, h.off, h.apart⟩
theorem PagesMid.base {base base' : Nat} {w0 w : World} {v : Value} {ps : List Page} {vs : List Value} {k : Nat} (h : PagesMid base w0 w v ps vs k) (hb : base' ≤ base) : PagesMid base' w0 w v ps vs k :=
 ⟨h.len, owns_base h.row hb, fun j p x h1 h2 h3 => owns_base (h.done j p x h1 h2 h3) hb, h.old, h.off, h.apart⟩
theorem PagesMid.rows {base : Nat} {w0 w : World} {va : Option Addr} {n vc : Nat} {ps : List Page} {vs : List Value} (h : PagesMid base w0 w (.slice va n vc) ps vs ps.length) (hb : ∀ p ∈ ps, PageB p) :
  RowsAt w va 2 (PageR w) ps := by
 rcases Nat.eq_zero_or_pos ps.length with h0 | h0
 ·exact .inl (List.eq_nil_of_length_eq_zero h0)
 ·obtain ⟨g, cap, hv, _, _, _, _, hcell⟩ := own_shape h.row h0
  cases hv
  refine .inr ⟨g, 0, rfl, fun i hi => ?_⟩;have hp : ps[i]? = some ps[i] := List.getElem?_eq_getElem hi;obtain ⟨u, hu⟩ : ∃ u, vs[i]? = some u := ⟨_, List.getElem?_eq_getElem (by rw [h.len]; exact hi)⟩;have hd := h.done i _ u hp hu hi;obtain ⟨ba, bc, rfl⟩ := own_slice hd;obtain ⟨hb1, hb2⟩ := hb ps[i] (List.getElem_mem hi)
  have hcap : ps[i].bytes.length ≤ bc ∧ bc ≤ 9223372036854775807 := by
   rcases hd.2 with ⟨e1, e2⟩ | ⟨g', c', cur', e1, _, _, h3, h4, _⟩
   ·simp only [Value.slice.injEq] at e1
    obtain ⟨_, e3, e4⟩ := e1;omega
   ·simp only [Value.slice.injEq] at e1
    obtain ⟨_, _, rfl⟩ := e1;exact ⟨h3, le_maxLen h4⟩
  refine ⟨[.int .i64 ps[i].number, .slice ba ps[i].bytes.length bc], rfl, ⟨hb1, ba, bc, rfl, ?_, hb2, hcap⟩, ?_⟩
  ·rcases Nat.eq_zero_or_pos ps[i].bytes.length with h1 | h1
   ·exact .inl (by simp [List.eq_nil_of_length_eq_zero h1])
   ·obtain ⟨g', c', hv', _, _, _, _, hcell'⟩ := own_shape hd h1
    cases hv'
    exact .inr ⟨g', 0, rfl, fun j v hj => by rw [Nat.zero_add]; exact hcell' j v hj⟩
  ·intro j v hj
   rw [Nat.zero_add]
   match j, hj with
   | 0, hj => cases hj; exact hcell _ _ (pageCells_num ps vs i _ h.len hp)
   | 1, hj => cases hj; exact hcell _ _ (pageCells_val ps vs i _ h.len hu)
theorem same_flash (f : Flash) (a a' : Option Addr) (c c' : Nat) (w : World) (h : RowsAt w a 2 (PageR w) f.pages) (h' : RowsAt w a' 2 (PageR w) f.pages)
  (hl : f.pages.length ≤ 9223372036854775807) :
  Calls Tryz.prog 34 #[.agg #[.int .i64 f.most, .int .i64 f.next, .slice a f.pages.length c], .agg #[.int .i64 f.most, .int .i64 f.next, .slice a' f.pages.length c']] w
   fun e w' => e = .returned (.bool true) ∧ Below w.heap.size w w' := by
 go_enter Tryz.func34, Tryz.ntmps34
 go_wp2_with fail
 go_loopw [5] (fun i wr => ∃ k : Nat, k ≤ f.pages.length ∧ i = .int .i64 k ∧ Below w.heap.size w wr ∧ wr.cell? ⟨w.heap.size, 2, none⟩ = some (.slice a f.pages.length c) ∧ wr.cell? ⟨w.heap.size + 1, 2, none⟩ = some (.slice a' f.pages.length c')) (fun i _ => f.pages.length - (intOf i).toNat)
 case atStart => exact ⟨0, Nat.zero_le _, rfl, by go_grown, by go_simp, by go_simp⟩
 case round =>
  obtain ⟨k, hk, rfl, hbl, hx, hx'⟩ := hrel
  by_cases hlt : k < f.pages.length
  ·obtain ⟨b, o, rfl, hc⟩ := h.pos (by omega)
   obtain ⟨b', o', rfl, hc'⟩ := h'.pos (by omega);obtain ⟨cs, _, ⟨_, ba, bc, hcs, hby, _⟩, h3⟩ := hc k hlt;obtain ⟨cs', _, ⟨_, ba', bc', hcs', hby', _⟩, h3'⟩ := hc' k hlt;obtain ⟨p, hp⟩ : ∃ p, p = f.pages[k] := ⟨_, rfl⟩;rw [← hp] at hcs hcs' hby hby';subst hcs hcs';have hkp := Below.keeps hbl;have c0 := hkp _ _ (h3 0 _ rfl);have c1 := hkp _ _ (h3 1 _ rfl);have c0' := hkp _ _ (h3' 0 _ rfl);have c1' := hkp _ _ (h3' 1 _ rfl);have s1 := fun n => run_str hby p.bytes.length bc rfl _ (keeps_drewN hkp n)
   have s2 := fun n => run_str hby' p.bytes.length bc' rfl _ (keeps_drewN hkp n)
   have HK := hid hkp;clear h3 h3' hc hc' hp h h' hkp hby hby';rw [Nat.add_zero] at c0 c0'
   go_wp2_with fail
   go_quiet (fail)
   go_wp2_with fail
   go_roundw
   case rel => exact ⟨k + 1, by omega, by go_num, below_drewN hbl _, hx, hx'⟩
   case measure => simp [intOf]; omega
  ·go_wp2
   go_ret;exact ⟨rfl, hbl⟩
theorem eq_held (a b c d : Int) (w : World) : (Op.equalIn 10000 22 (.agg #[.int .i64 a, .int .i64 b, .int .i64 c, .int .i64 d]) (.agg #[.int .i64 a, .int .i64 b, .int .i64 c, .int .i64 d])).run Tryz.prog w = .ok true w := by
 have hi : Tryz.prog.underlying 22 = some (.array 4 3) := Tryz.underlying22;have hs : ∀ w, (sizeOf 3).run Tryz.prog w = .ok 1 w := fun w => by kernel_rfl
 have hc : ∀ (x y : Int) w, (Op.equalIn 9999 3 (.int .i64 x) (.int .i64 y)).run Tryz.prog w = .ok (x == y) w := fun x y w => run_equalIn_int w 9998 3 .i64 .i64 x y Tryz.underlying3
 have p0 : ∀ w, (part 3 #[.int .i64 a, .int .i64 b, .int .i64 c, .int .i64 d] 0).run Tryz.prog w = .ok (.int .i64 a) w := fun w => by kernel_rfl
 have p1 : ∀ w, (part 3 #[.int .i64 a, .int .i64 b, .int .i64 c, .int .i64 d] 1).run Tryz.prog w = .ok (.int .i64 b) w := fun w => by kernel_rfl
 have p2 : ∀ w, (part 3 #[.int .i64 a, .int .i64 b, .int .i64 c, .int .i64 d] 2).run Tryz.prog w = .ok (.int .i64 c) w := fun w => by kernel_rfl
 have p3 : ∀ w, (part 3 #[.int .i64 a, .int .i64 b, .int .i64 c, .int .i64 d] 3).run Tryz.prog w = .ok (.int .i64 d) w := fun w => by kernel_rfl
 show (Op.equalIn (9999 + 1) 22 _ _).run Tryz.prog w = _;unfold Op.equalIn
 simp [run_underlying hi, hs, Std.Legacy.Range.forIn_eq_forIn_range', List.range', p0, p1, p2, p3, hc]
abbrev storeV (s : Store) (a : Option Addr) (c : Nat) (fa : Option Addr) (fc : Nat) : Array Value :=
 #[.int .i64 s.clock, .int .i64 s.cas, .int .i64 s.uses, .int .i64 s.most, .int .i64 s.h0, .int .i64 s.h1, .int .i64 s.h2, .int .i64 s.h3, .slice a s.items.length c,
  .int .i64 s.flash.most, .int .i64 s.flash.next, .slice fa s.flash.pages.length fc]
set_option maxRecDepth 100000 in
theorem same_store (s : Store) (a a' fa fa' : Option Addr) (c c' fc fc' : Nat) (w : World) (h : RowsAt w a 9 ItemR s.items) (h' : RowsAt w a' 9 ItemR s.items)
  (hf : RowsAt w fa 2 (PageR w) s.flash.pages) (hf' : RowsAt w fa' 2 (PageR w) s.flash.pages)
  (hl : s.items.length ≤ 9223372036854775807) (hfl : s.flash.pages.length ≤ 9223372036854775807) :
  Calls Tryz.prog 14 #[.agg (storeV s a c fa fc), .agg (storeV s a' c' fa' fc')] w
   fun e w' => e = .returned (.bool true) ∧ Below w.heap.size w w' := by
 have hF := hid hf;have hF' := hid hf';have hI := hid h;have hI' := hid h';clear hf hf' h h';have hH := fun w' => eq_held s.h0 s.h1 s.h2 s.h3 w'
 go_enter Tryz.func14, Tryz.ntmps14
 go_wp2_with fail
 refine (same_flash s.flash fa fa' fc fc' _ ?_ ?_ hfl).mono ?_
 ·exact hF.out.keep (Below.keeps (by go_grown)) (PageR.keep (Below.keeps (by go_grown)))
 ·exact hF'.out.keep (Below.keeps (by go_grown)) (PageR.keep (Below.keeps (by go_grown)))
 rintro e w1 ⟨rfl, hb1⟩;have hx : w1.cell? ⟨w.heap.size, 8, none⟩ = some (.slice a s.items.length c) := (hb1.cell (by go_size)).trans (by go_simp);have hx' : w1.cell? ⟨w.heap.size + 1, 8, none⟩ = some (.slice a' s.items.length c') := (hb1.cell (by go_size)).trans (by go_simp);have hb : Below w.heap.size w w1 := Below.trans (by go_grown) (hb1.mono (by go_size));clear hb1 hH hF hF'
 go_wp2_with fail
 go_loopw [5] (fun i wr => ∃ k : Nat, k ≤ s.items.length ∧ i = .int .i64 k ∧ Below w.heap.size w wr ∧ wr.cell? ⟨w.heap.size, 8, none⟩ = some (.slice a s.items.length c) ∧ wr.cell? ⟨w.heap.size + 1, 8, none⟩ = some (.slice a' s.items.length c')) (fun i _ => s.items.length - (intOf i).toNat)
 case atStart => exact ⟨0, Nat.zero_le _, rfl, hb, hx, hx'⟩
 case round =>
  clear hb hx hx';obtain ⟨k, hk, rfl, hb, hx, hx'⟩ := hrel
  by_cases hlt : k < s.items.length
  ·obtain ⟨b, o, rfl, hc⟩ := hI.out.pos (by omega)
   obtain ⟨b', o', rfl, hc'⟩ := hI'.out.pos (by omega);obtain ⟨cs, _, hcs, h3⟩ := hc k hlt;obtain ⟨cs', _, hcs', h3'⟩ := hc' k hlt;obtain ⟨x, hxx⟩ : ∃ x, x = s.items[k] := ⟨_, rfl⟩;rw [← hxx] at hcs hcs';have hcs := hcs.1;have hcs' := hcs'.1;subst hcs hcs';obtain ⟨c0, c1, c2, c3, c4, c5, c6, c7, c8, hbb⟩ := item_cells (Below.keeps hb) h3;obtain ⟨d0, d1, d2, d3, d4, d5, d6, d7, d8, hbb'⟩ := item_cells (Below.keeps hb) h3';clear h3 h3' hc hc' hxx hI hI'
   go_wp2_with fail
   go_quiet (fail)
   go_wp2_with fail
   go_roundw
   case rel => exact ⟨k + 1, by omega, by go_num, below_drewN hb _, hx, hx'⟩
   case measure => simp [intOf]; omega
  ·go_wp2
   go_ret;exact ⟨rfl, hb⟩
section
variable {P : Program} {ops : Array Oper} {Q : Exit → Act → World → Prop} {md : Region.Mode} {S : World → Prop} {n : Nat}
def wpAnyL (P : Program) (md : Region.Mode) (ops : Array Oper) (Q : Exit → Act → World → Prop) (S : World → Prop) (n : Nat) : Nat → Array Bool → Act → World → Prop
 | 0, listed, a, w => Region.ready md ops listed = [] ∧ Q .normal a w
 | fuel + 1, listed, a, w =>
  (Region.ready md ops listed = [] → Q .normal a w) ∧
  ∀ i ∈ Region.ready md ops listed, wpOp P ops Q i (fun a' w' => (i ≠ n → S w') ∧ wpAnyL P md ops Q S n fuel (listed.setIfInBounds i true) a' w') a w
theorem wpAny_of_L : ∀ (fuel : Nat) (listed : Array Bool) (a : Act) (w : World), wpAnyL P md ops Q S n fuel listed a w → wpAny P md ops Q fuel listed a w
 | 0, _, _, _, h => h
 | fuel + 1, _, _, _, h => ⟨h.1, fun i hi => wpOp_mono (fun a' w' h' => wpAny_of_L fuel _ a' w' h'.2) (h.2 i hi)⟩
def waits (md : Region.Mode) (ops : Array Oper) (i : Nat) (B : List Nat) (j : Nat) : Bool :=
 ((ops[j]?).map (·.after.any fun e => Region.binds md e && (e.on == i || B.contains e.on))).getD false
def behind (md : Region.Mode) (ops : Array Oper) (i : Nat) : List Nat :=
 (List.range ops.size).foldl (fun acc j => if waits md ops i acc j then j :: acc else acc) []
def takeable (md : Region.Mode) (ops : Array Oper) (listed : Array Bool) (i n : Nat) : Bool :=
 Region.noSelect ops && Region.free md ops listed i && (Region.ready md ops listed).contains i &&
  ((behind md ops i).contains n && (behind md ops i).all fun j => !listed.getD j true && waits md ops i (behind md ops i) j)
theorem getD_no {listed : Array Bool} {i : Nat} (h : listed.getD i true = false) : ¬ listed.getD i false = true := by
 intro h1
 rcases Nat.lt_or_ge i listed.size with h' | h'
 ·simp [h'] at h h1; rw [h] at h1; cases h1
 ·simp [Array.getElem?_eq_none h'] at h1
theorem waits_no {i j : Nat} {B : List Nat} {listed : Array Bool} (hj : j ∈ Region.ready md ops listed) (hi : listed.getD i true = false) (hB : ∀ k ∈ B, listed.getD k true = false) (hw : waits md ops i B j = true) : False := by
 obtain ⟨_, oj, hoj, hall⟩ := mem_ready.1 hj;unfold waits at hw;rw [hoj] at hw;simp only [Option.map_some, Option.getD_some] at hw;obtain ⟨e, he, hb⟩ := Array.any_eq_true'.1 hw;simp only [Bool.and_eq_true, Bool.or_eq_true, beq_iff_eq, List.contains_iff_mem] at hb;have h1 := hall e he hb.1
 rcases hb.2 with h2 | h2
 ·rw [h2] at h1; exact getD_no hi h1
 ·exact getD_no (hB _ h2) h1
theorem wpAnyL_first {i : Nat} {oi : Oper} {v : Value} {B : List Nat} (hi : ops[i]? = some oi) (hsel : ∀ (j : Nat) (o : Oper) cs b, ops[j]? = some o → o.op ≠ .select cs b)
  (hQ : ∀ c a w, Q (.panic c) (a.put oi.dst v) w → Q (.panic c) a w) (hn : n ∈ B) (hw : ∀ j ∈ B, waits md ops i B j = true) :
  ∀ (fuel : Nat) (listed : Array Bool) (a : Act) (w : World),
   (∀ j oj, ops[j]? = some oj → j ≠ i → listed.getD j true = false → (∀ e ∈ oj.after, Region.binds md e = true → e.on ≠ i) → oi.apart ops oj = true) →
   (∀ j ∈ B, listed.getD j true = false) →
   i ∈ Region.ready md ops listed → YieldsIf P ops S oi v a → S w →
   wpAnyL P md ops Q S n fuel (listed.setIfInBounds i true) (a.put oi.dst v) w → wpAnyL P md ops Q S n (fuel + 1) listed a w := by
 intro fuel
 induction fuel with
 | zero =>
  intro listed a w _ _ hr hy hS H;refine ⟨fun h => (by rw [h] at hr; cases hr), fun j hj => ?_⟩
  by_cases hji : j = i
  ·subst hji; exact hy.wpOp hi hS ⟨fun _ => hS, H⟩
  ·have := ready_mono hj hji
   rw [H.1] at this
   cases this
 | succ fuel ih =>
  intro listed a w hfree hun hr hy hS H;refine ⟨fun h => (by rw [h] at hr; cases hr), fun j hj => ?_⟩
  by_cases hji : j = i
  ·subst hji; exact hy.wpOp hi hS ⟨fun _ => hS, H⟩
  ·have h1 := H.2 j (ready_mono hj hji)
   obtain ⟨hjun, oj, hoj, hall⟩ := mem_ready.1 hj;have hi0 := (mem_ready.1 hr).1
   have hnot : ∀ e ∈ oj.after, Region.binds md e = true → e.on ≠ i := fun e he hb heq => by
    have h1 := hall e he hb;rw [heq] at h1;exact getD_no hi0 h1
   have hjB : j ∉ B := fun h => waits_no hj hi0 hun (hw j h)
   have hjn : j ≠ n := fun e => hjB (e ▸ hn)
   have h2 := wpOp_putIf hoj (hfree j oj hoj hji hjun hnot) (fun cs b => hsel i oi cs b hi) (fun cs b => hsel j oj cs b hoj) hQ hy h1
   have hfree' : ∀ k ok, ops[k]? = some ok → k ≠ i → (listed.setIfInBounds j true).getD k true = false →
     (∀ e ∈ ok.after, Region.binds md e = true → e.on ≠ i) → oi.apart ops ok = true := fun k ok hk hki hun hno => by
    refine hfree k ok hk hki ?_ hno
    by_cases hjk : j = k
    ·subst hjk; exact hjun
    ·rw [getD_set_ne true hjk] at hun; exact hun
   have hun' : ∀ k ∈ B, (listed.setIfInBounds j true).getD k true = false := fun k hk => by
    rw [getD_set_ne true (fun e : j = k => hjB (by rw [e]; exact hk))]; exact hun k hk
   refine wpOp_mono (fun a' w' h3 => ⟨h3.2.1, ih (listed.setIfInBounds j true) a' w' hfree' hun' (ready_mono hr (Ne.symm hji)) h3.1 (h3.2.1 hjn) ?_⟩) h2;rw [Array.setIfInBounds_comm _ _ hji];exact h3.2.2
theorem wpAnyL_take {i : Nat} {oi : Oper} {v : Value} {fuel : Nat} {listed : Array Bool} {a : Act} {w : World} (hi : ops[i]? = some oi) (hc : takeable md ops listed i n = true)
  (hQ : ∀ c a w, Q (.panic c) (a.put oi.dst v) w → Q (.panic c) a w) (hy : YieldsIf P ops S oi v a) (hS : S w)
  (h : wpAnyL P md ops Q S n fuel (listed.setIfInBounds i true) (a.put oi.dst v) w) : wpAnyL P md ops Q S n (fuel + 1) listed a w := by
 simp only [takeable, Bool.and_eq_true, List.contains_iff_mem, List.all_eq_true, Bool.not_eq_true'] at hc;obtain ⟨⟨⟨h1, h2⟩, h3⟩, h4, h5⟩ := hc;exact wpAnyL_first hi (Region.noSelect_spec h1) hQ h4 (fun j hj => (h5 j hj).2) fuel listed a w (Region.free_spec hi h2) (fun j hj => (h5 j hj).1) h3 hy hS h
theorem tk (i : Nat) (v : Value) {oi : Oper} {fuel : Nat} {listed : Array Bool} {a : Act} {w : World} (hi : ops[i]? = some oi) (hQ : ∀ c a w, Q (.panic c) (a.put oi.dst v) w → Q (.panic c) a w) (hc : takeable md ops listed i n = true := by kernel_rfl)
  (hg : Region.wanted oi (yielded ops a.tmps) = true := by rfl) (hS : S w := by assumption) (y : ∀ w, S w → (execOp a.eval oi).run P w = .ok (.value v) w) (h : wpAnyL P md ops Q S n fuel (listed.setIfInBounds i true) (a.put oi.dst v) w) : wpAnyL P md ops Q S n (fuel + 1) listed a w :=
 wpAnyL_take hi hc hQ (Or.inl ⟨hg, y⟩) hS h
theorem wpAnyL_step {i : Nat} {o : Oper} {fuel : Nat} {listed : Array Bool} {a : Act} {w : World} (ho : ops[i]? = some o) (hr : Region.ready md ops listed = [i])
  (h : ∀ K' : Act → World → Prop, Shut (∀ a w, S w → (S w → wpAnyL P md ops Q S n fuel (listed.setIfInBounds i true) a w) → K' a w) → if Region.wanted o (yielded ops a.tmps) = true then Oper.wp P o a w K' Q else K' (a.put o.dst undef) w) :
  wpAnyL P md ops Q S n (fuel + 1) listed a w :=
 ⟨fun h0 => (by rw [hr] at h0; cases h0), fun j hj => by
  rw [hr] at hj;obtain rfl := List.mem_singleton.1 hj
  exact wpOp_step ho (fun K' hK => h K' (fun a w hS hW => hK a w ⟨fun _ => hS, hW hS⟩))⟩
theorem wpAnyL_last {o : Oper} {fuel : Nat} {listed : Array Bool} {a : Act} {w : World} (ho : ops[n]? = some o) (hr : Region.ready md ops listed = [n])
  (h : ∀ K' : Act → World → Prop, Shut (∀ a w, wpAnyL P md ops Q S n fuel (listed.setIfInBounds n true) a w → K' a w) → if Region.wanted o (yielded ops a.tmps) = true then Oper.wp P o a w K' Q else K' (a.put o.dst undef) w) :
  wpAnyL P md ops Q S n (fuel + 1) listed a w :=
 ⟨fun h0 => (by rw [hr] at h0; cases h0), fun j hj => by
  rw [hr] at hj;obtain rfl := List.mem_singleton.1 hj
  exact wpOp_step ho (fun K' hK => h K' (fun a w hW => hK a w ⟨fun hne => absurd rfl hne, hW⟩))⟩
theorem wpAnyL_done {listed : Array Bool} {a : Act} {w : World} (hr : Region.ready md ops listed = []) (h : Q .normal a w) :
  ∀ fuel, wpAnyL P md ops Q S n fuel listed a w
 | 0 => ⟨hr, h⟩
 | _ + 1 => ⟨fun _ => h, by rw [hr]; simp⟩
theorem wp_region_L {id : Nat} {a : Act} {w : World} (S : World → Prop) (n m : Nat) (hm : P.follows .mixedOrders = true) (hsz : ops.size = m) (hS : S w.drew)
  (h : S w.drew → wpAnyL P .any ops Q S n m (Array.replicate m false) a w.drew) : (Code.region id ops true).wp P Q a w := by
 subst hsz;exact wp_region_any hm (wpAny_of_L _ _ _ _ (h hS))
theorem exec_load_row {o : Oper} {a : Act} {w : World} (ty : TypeId) (x : Operand) (ho : o.op = .load ty x) (g : Nat) (hx : a.eval x = .pointer (some ⟨g, 0, none⟩)) (t : TypeId) (cs : Array Value) (fr : Nat × Nat) (d : TypeDesc)
  (hg : w.heap[g]? = some (.cells cs t fr)) (hu : P.underlying ty = some d) (hd : (match d with | .struct _ | .array _ _ => true | _ => false) = true) (hi : (P.info? ty).map (·.size) = some cs.size) :
  (execOp a.eval o).run P w = .ok (.value (.agg cs)) w := by
 unfold execOp;simp only [ho, hx, Instr.loadAt, Instr.sureAddr, Sem.run_bind, Sem.run_pure, Result.andThen_ok, run_loadVar_row w g t ty cs fr d hg hu hd hi]
end
section
variable {P : Program} {ops : Array Oper} {Q : Exit → Act → World → Prop} {md : Region.Mode} {S : World → Prop} {n : Nat}
def Given (P : Program) (ops : Array Oper) (S : World → Prop) (o : Oper) (v : Value) (a : Act) : Prop :=
 Region.wanted o (yielded ops a.tmps) = true ∧ ∃ f args, ∀ w, S w → (execOp a.eval o).run P w = .ok (.enter f args) w ∧ Calls P f args w fun e w' => e = .returned v ∧ w' = w
theorem Given.wpOp {i : Nat} {o : Oper} {v : Value} {a : Act} (hi : ops[i]? = some o) (hy : Given P ops S o v a) {K : Act → World → Prop} {w : World} (hS : S w) (h : K (a.put o.dst v) w) : wpOp P ops Q i K a w := by
 obtain ⟨hw, f, args, hc⟩ := hy;obtain ⟨h1, h2⟩ := hc w hS;unfold Go.wpOp;simp only [hi, hw, if_true, Oper.wp, h1, Oper.upon];refine .inl (Calls.mono h2 ?_);rintro e w' ⟨rfl, rfl⟩;exact h
end
def DecEnd (n : Int) (w : World) (e : Ending) (w' : World) : Prop := e = .returned (.string (decS n)) ∧ Below w.heap.size w w'
theorem dec_conv {n : Int} (h0 : 0 ≤ n) (h1 : n < 10) (w : World) :
  (convert 63 9 (.slice (some ⟨w.heap.size, 0, none⟩) 1 1)).run Tryz.prog (w.alloc (.cells #[.int .u8 (48 + n)] 5)) = .ok (.string (decS n)) (w.alloc (.cells #[.int .u8 (48 + n)] 5)) := by
 have hb : BytesAt (w.alloc (.cells #[.int .u8 (48 + n)] 5)) (some ⟨w.heap.size, 0, none⟩) (decL n) := by
  refine .inr ⟨w.heap.size, 0, rfl, fun i v hv => ?_⟩;rw [Nat.zero_add, cell_alloc_row];rw [dec_digit h0 h1] at hv
  match i, hv with
  | 0, hv =>
   simp at hv
   subst hv;have : n.toNat < 10 := by omega
   simp [byteV]; omega
 have := run_str hb 1 1 (by rw [dec_digit h0 h1]; rfl) _ (Keeps.refl _);exact this
set_option maxRecDepth 100000 in
set_option maxHeartbeats 1000000 in
theorem ref_dec (n : Int) (h0 : -9223372036854775808 ≤ n) (h1 : n ≤ 9223372036854775807) (w : World) : Calls Tryz.prog 71 #[.int .i64 n] w (DecEnd n w) := by
 obtain ⟨k, hk⟩ : ∃ k, k = n.natAbs + (if n < 0 then 10 else 0) := ⟨_, rfl⟩
 induction k using Nat.strongRecOn generalizing n w with
 | _ k ih =>
  have HIH := hid ih;clear ih
  by_cases hd : 0 ≤ n ∧ n < 10
  ·
   have HS := dec_conv hd.1 hd.2 w;obtain ⟨g1, g2⟩ := hd;clear HIH hk
   go_enter Tryz.func71, Tryz.ntmps71
   go_wp2_with fail
   go_ret;exact ⟨rfl, by go_grown⟩
  by_cases hp : 10 ≤ n
  ·
   have HS := hid (dec_pos hp);obtain ⟨q, hq⟩ : ∃ q, q = n / 10 := ⟨_, rfl⟩;obtain ⟨r, hr⟩ : ∃ r, r = n % 10 := ⟨_, rfl⟩;have q1 : n / 10 = q := hq.symm;have r1 : n % 10 = r := hr.symm
   have b1 : Hid (q.natAbs + (if q < 0 then 10 else 0) < k ∧ r.natAbs + (if r < 0 then 10 else 0) < k) := by
    rw [if_neg (by omega)] at hk; rw [show q.natAbs + (if q < 0 then 10 else 0) = q.natAbs by rw [if_neg (by omega)]; rfl, show r.natAbs + (if r < 0 then 10 else 0) = r.natAbs by rw [if_neg (by omega)]; rfl]; exact ⟨by omega, by omega⟩
   have b2 : Hid ((-9223372036854775808 ≤ q ∧ q ≤ 9223372036854775807) ∧ -9223372036854775808 ≤ r ∧ r ≤ 9223372036854775807) := ⟨⟨by omega, by omega⟩, by omega, by omega⟩;rw [q1, r1] at HS;have LN : ¬ 9223372036854775807 < (decS q).size + (decS r).size := by rw [decS_size, decS_size]; have := decL_le b2.out.1.1 b2.out.1.2; have := decL_le b2.out.2.1 b2.out.2.2; omega
   clear hk hq hr hd
   go_enter Tryz.func71, Tryz.ntmps71
   go_wp2_with fail
   refine (HIH.out _ b1.out.1 q b2.out.1.1 b2.out.1.2 _ rfl).mono ?_;rintro e w1 ⟨rfl, hb1⟩;have HB1 := hid hb1;clear hb1
   go_wp2_with fail
   refine (HIH.out _ b1.out.2 r b2.out.2.1 b2.out.2.2 _ rfl).mono ?_;rintro e w2 ⟨rfl, hb2⟩;have HB2 := hid (HB1.out.trans (hb2.mono HB1.out.size));clear hb2
   go_wp2_with fail
   go_ret;exact ⟨by rw [HS.out]; exact rfl, HB2.out⟩
  by_cases hm : -10 < n
  ·
   have h3 : n < 0 := by omega
   have HS := hid (dec_minus hm h3);obtain ⟨q, hq⟩ : ∃ q, q = -n := ⟨_, rfl⟩;have q1 : -n = q := hq.symm
   have b1 : Hid (q.natAbs + (if q < 0 then 10 else 0) < k) := by
    rw [if_pos (by omega)] at hk; rw [show q.natAbs + (if q < 0 then 10 else 0) = q.natAbs by rw [if_neg (by omega)]; rfl]; show _ < _; omega
   have b2 : Hid (-9223372036854775808 ≤ q ∧ q ≤ 9223372036854775807) := ⟨by omega, by omega⟩;rw [q1] at HS;have LN : ¬ 9223372036854775807 < 1 + (decS q).size := by rw [decS_size]; have := decL_le b2.out.1 b2.out.2; omega
   clear hk hq hd
   go_enter Tryz.func71, Tryz.ntmps71
   go_wp2_with fail
   refine (HIH.out _ b1.out q b2.out.1 b2.out.2 _ rfl).mono ?_;rintro e w1 ⟨rfl, hb1⟩;have HB1 := hid hb1;clear hb1
   go_wp2_with fail
   go_ret;exact ⟨by rw [HS.out]; exact rfl, HB1.out⟩
  ·
   obtain ⟨q, hq⟩ : ∃ q, q = n.tdiv 10 := ⟨_, rfl⟩;obtain ⟨r, hr⟩ : ∃ r, r = n.tmod 10 := ⟨_, rfl⟩;have e1 : n = 10 * q + r := by rw [hq, hr, Int.mul_tdiv_add_tmod]
   have hr1 : -10 < r ∧ r ≤ 0 := by
    have a1 := Int.tmod_nonneg (a := -n) 10 (by omega);have a2 := Int.tmod_lt_of_pos (-n) (b := 10) (by decide);rw [Int.neg_tmod, ← hr] at a1 a2;omega
   have w64 : wrap64 q = q := IntWalk.wrap64_in _ ⟨by omega, by omega⟩;have q1 : n.tdiv 10 = q := hq.symm;have r1 : n.tmod 10 = r := hr.symm;obtain ⟨s, hs⟩ : ∃ s, s = -r := ⟨_, rfl⟩;have s1 : -r = s := hs.symm;have w65 : wrap64 s = s := IntWalk.wrap64_in _ ⟨by omega, by omega⟩;have h4 : n < 0 := by omega
   have h5 : ¬ -10 < n := hm;have HS := hid (dec_neg (by omega) e1 hr1.1 hr1.2 (by omega))
   have b1 : Hid (q.natAbs + (if q < 0 then 10 else 0) < k ∧ s.natAbs + (if s < 0 then 10 else 0) < k) := by
    rw [if_pos (by omega)] at hk; rw [show q.natAbs + (if q < 0 then 10 else 0) = q.natAbs + 10 by rw [if_pos (by omega)], show s.natAbs + (if s < 0 then 10 else 0) = s.natAbs by rw [if_neg (by omega)]; rfl]; exact ⟨by omega, by omega⟩
   have b2 : Hid ((-9223372036854775808 ≤ q ∧ q ≤ 9223372036854775807) ∧ -9223372036854775808 ≤ s ∧ s ≤ 9223372036854775807) := ⟨⟨by omega, by omega⟩, by omega, by omega⟩;rw [s1] at HS;have LN : ¬ 9223372036854775807 < (decS q).size + (decS s).size := by rw [decS_size, decS_size]; have := decL_le b2.out.1.1 b2.out.1.2; have := decL_le b2.out.2.1 b2.out.2.2; omega
   clear hk hq hr hd e1 hs hp hm
   go_enter Tryz.func71, Tryz.ntmps71
   go_wp2_with fail
   refine (HIH.out _ b1.out.1 q b2.out.1.1 b2.out.1.2 _ rfl).mono ?_;rintro e w1 ⟨rfl, hb1⟩;have HB1 := hid hb1;clear hb1
   go_wp2_with fail
   refine (HIH.out _ b1.out.2 s b2.out.2.1 b2.out.2.2 _ rfl).mono ?_;rintro e w2 ⟨rfl, hb2⟩;have HB2 := hid (HB1.out.trans (hb2.mono HB1.out.size));clear hb2
   go_wp2_with fail
   go_ret;exact ⟨by rw [HS.out]; exact rfl, HB2.out⟩
open Go.ChangeShapes Go.WideShapes Go.ChangeAt Go.RowKit
theorem own : ownKnob Tryz.prog.godebug = none := by kernel_rfl
theorem laidOut : laidOutB Tryz.prog = true := by kernel_rfl
theorem trodAll_stays {H : Type} {enc : TypeId × Value → H} {W W' : World} (hb : Below W.heap.size W W') :
  ∀ {ts : List TypeId} {vs : List Value} {ds : List (DataW H)} {ps : List MemPlace}, (∀ t ∈ ts, Tryz.prog.readableRec t = true ∧ t < Tryz.prog.types.size) →
   (∀ x ∈ ps, x.block < W.heap.size) → DataW.TrodAll enc Tryz.prog W 0 (fun _ => true) true ts vs ds ps →
   DataW.TrodAll enc Tryz.prog W' 0 (fun b => decide (b < W.heap.size)) true ts vs ds ps
 | [], vs, ds, ps, _, _, h => by cases vs <;> cases ds <;> simp_all [DataW.TrodAll]
 | t :: ts, vs, ds, ps, hr, hl, h => by
  cases vs with
  | nil => simp [DataW.TrodAll] at h
  | cons v vs =>
   cases ds with
   | nil => simp [DataW.TrodAll] at h
   | cons d ds =>
    obtain ⟨p, q, h1, h2, rfl⟩ := h;have ht := hr t (by simp)
    exact ⟨p, q, Below.trod laidOut ht.1 ht.2 h1 hb (fun x hx => hl x (by simp [hx])),
     trodAll_stays hb (fun t' ht' => hr t' (by simp [ht'])) (fun x hx => hl x (by simp [hx])) h2, rfl⟩
theorem law_post {H : Type} {enc : TypeId × Value → H} {f : Func} {s : ChangeSpec} {W W' : World} {args : Array Value} {ds gs : List (DataW H)} {before : List MemPlace}
  (hr : f.resultTypes = #[4]) (hv : s.vars = []) (hs : s.fn H (ds ++ gs) = { results := [.lit (.bool true)], args := ds })
  (hread0 : f.params.toList.all (fun t => Tryz.prog.readableRec t && decide (t < Tryz.prog.types.size)) = true)
  (hW : DataW.Whole enc Tryz.prog f.params.toList s.vars false W args.toList ds gs before) (hb : Below W.heap.size W W') :
  s.post enc Tryz.prog f false true false false W args (.bool true) W' := by
 have hread : ∀ t ∈ f.params.toList, Tryz.prog.readableRec t = true ∧ t < Tryz.prog.types.size := fun t ht => by
  have := List.all_eq_true.1 hread0 t ht
  simpa using this
 have hlt := hW.lt;have hW' := hW;obtain ⟨p, q, hA, hV, rfl, hfz, hnd⟩ := hW;rw [hv] at hV;obtain ⟨rfl, rfl⟩ := trodVars_none hV;refine ⟨ds, [], p ++ [], [], p, [], hW', ?_, ?_, ?_, hb.frame _, fun h => by cases h⟩
 ·rw [hs, hr]
  exact trodAll_cons_mk (shut_bool Tryz.underlying4 _) trodAll_mk0
 ·rw [hs]
  exact trodAll_stays hb hread (fun x hx => by simpa using hlt x (by simp [hx])) hA
 ·rw [hs, hv]
  rfl
end Go.Proofs.YtbeegfkfpkfccaaGreatDoor.D
