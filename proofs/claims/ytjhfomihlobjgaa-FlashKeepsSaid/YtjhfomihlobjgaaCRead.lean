/-
  From what an argument reads as to what its cells hold: rows of bytes, of pages, of items. Lemmas on readings alone.
-/
import Derived.Test.YtjhfomihlobjgaaCMem
import Derived.Deep.Slices
import Derived.Lib.SmallJoins
namespace Go.Proofs.Ytjhfomihlobjgaa.D
open Go.ChangeShapes Go.WideShapes Go.RowKit Go.Deep Go.Joins

/-- a row of records of n cells each -/
def RowsAt {X : Type} (w : World) (a : Option Addr) (n : Nat) (R : List Value → X → Prop) (xs : List X) : Prop :=
  xs = [] ∨ ∃ b o, a = some ⟨b, o, none⟩ ∧ ∀ i (h : i < xs.length), ∃ cs, cs.length = n ∧ R cs xs[i] ∧ ∀ j v, cs[j]? = some v → w.cell? ⟨b, o + i * n + j, none⟩ = some v
theorem RowsAt.nil {X : Type} (w : World) (a : Option Addr) (n : Nat) (R : List Value → X → Prop) : RowsAt w a n R [] := .inl rfl
theorem RowsAt.keep {X : Type} {w w' : World} {a : Option Addr} {n : Nat} {R R' : List Value → X → Prop} {xs : List X} (h : RowsAt w a n R xs) (k : Keeps w w') (hR : ∀ cs x, R cs x → R' cs x) : RowsAt w' a n R' xs := by
  rcases h with h | ⟨b, o, ha, hc⟩
  · exact .inl h
  · refine .inr ⟨b, o, ha, fun i hi => ?_⟩
    obtain ⟨cs, h1, h2, h3⟩ := hc i hi
    exact ⟨cs, h1, hR _ _ h2, fun j v hj => k _ _ (h3 j v hj)⟩
theorem RowsAt.pos {X : Type} {w : World} {a : Option Addr} {n : Nat} {R : List Value → X → Prop} {xs : List X} (h : RowsAt w a n R xs) (hl : 0 < xs.length) :
    ∃ b o, a = some ⟨b, o, none⟩ ∧ ∀ i (h : i < xs.length), ∃ cs, cs.length = n ∧ R cs xs[i] ∧ ∀ j v, cs[j]? = some v → w.cell? ⟨b, o + i * n + j, none⟩ = some v := by
  rcases h with h | h
  · subst h; simp at hl
  · exact h

section
variable {H : Type} {enc : TypeId × Value → H} {w : World}

theorem spot_none {w : World} {a : Addr} {v : Value} (h : w.cell? a = some v) : a.spot = none := by
  unfold World.cell? at h
  split at h
  · split at h
    · cases h
    · rename_i hs; simpa using hs
  · cases h

/-- each string and slice of a datum lies within the form's reach -/
def Wt (t : TypeId) (d : DataW H) : Prop := ∀ m ∈ DataW.weights Try.prog t d, m ≤ reachBytes
theorem weightsEach_get : ∀ {ts : List TypeId} {ds : List (DataW H)} {i : Nat} {t : TypeId} {d : DataW H}, ts[i]? = some t → ds[i]? = some d → ∀ m ∈ DataW.weights Try.prog t d, m ∈ DataW.weightsEach Try.prog ts ds
  | [], _, i, t, d, h, _, m, _ => by simp at h
  | _ :: _, [], i, t, d, _, h, m, _ => by simp at h
  | t' :: ts, d' :: ds, 0, t, d, h1, h2, m, hm => by
    simp at h1 h2; subst h1 h2
    simp [DataW.weightsEach, hm]
  | t' :: ts, d' :: ds, i + 1, t, d, h1, h2, m, hm => by
    have := weightsEach_get (ts := ts) (ds := ds) (i := i) (by simpa using h1) (by simpa using h2) m hm
    simp [DataW.weightsEach, this]
theorem weightsAll_get : ∀ {e : TypeId} {ds : List (DataW H)} {d : DataW H}, d ∈ ds → ∀ m ∈ DataW.weights Try.prog e d, m ∈ DataW.weightsAll Try.prog e ds
  | e, [], d, h, m, _ => by simp at h
  | e, d' :: ds, d, h, m, hm => by
    rcases List.mem_cons.1 h with rfl | h
    · simp [DataW.weightsAll, hm]
    · have := weightsAll_get h m hm
      simp [DataW.weightsAll, this]
theorem Wt.field {t : TypeId} {fs : Array Field} {parts : List (DataW H)} (h : Wt t (.agg parts)) (ht : Try.prog.underlying t = some (.struct fs)) (i : Nat) {f : Field} {d : DataW H} (hf : fs[i]? = some f) (hd : parts[i]? = some d) : Wt f.type d := by
  intro m hm
  refine h m ?_
  simp only [DataW.weights, ht]
  exact weightsEach_get (i := i) (by simp [hf]) hd m hm
theorem Wt.elem {t e : TypeId} {n : Nat} {parts : List (DataW H)} (h : Wt t (.agg parts)) (ht : Try.prog.underlying t = some (.array n e)) {d : DataW H} (hd : d ∈ parts) : Wt e d := by
  intro m hm
  refine h m ?_
  simp only [DataW.weights, ht]
  exact weightsAll_get hd m hm
theorem Wt.slice {t e : TypeId} {elems spare : List (DataW H)} (h : Wt t (.slice elems spare)) (ht : Try.prog.underlying t = some (.slice e)) :
    (elems.length + spare.length) * Try.prog.bytesOf e ≤ reachBytes ∧ (∀ d ∈ elems, Wt e d) := by
  refine ⟨h _ (by simp [DataW.weights, ht]), fun d hd m hm => h m ?_⟩
  simp only [DataW.weights, ht, List.mem_cons, List.mem_append]
  exact .inr (.inl (weightsAll_get hd m hm))
theorem Wt.string {t : TypeId} {l : Str} (h : Wt (H := H) t (.lit (.string l))) : l.length ≤ reachBytes := h _ (by simp [DataW.weights])
theorem Wt.all {ts : List TypeId} {ds : List (DataW H)} (h : ∀ m ∈ DataW.weightsEach Try.prog ts ds, m ≤ reachBytes) (i : Nat) {t : TypeId} {d : DataW H} (ht : ts[i]? = some t) (hd : ds[i]? = some d) : Wt t d :=
  fun m hm => h m (weightsEach_get ht hd m hm)

/-- what a slice reads as, element by element -/
theorem read_slice {X : Type} [Inhabited X] {t e n fuel : Nat} {v : Value} {x : DataW H × List MemPlace} (R : List Value → X → Prop)
    (ht : Try.prog.underlying t = some (.slice e)) (hn : Try.prog.cellsOf e = n) (hn0 : 0 < n)
    (hR : ∀ f cs y, DataW.trod enc Try.prog w 0 (fun _ => true) true f e cs = some y → Wt e y.1 → ∃ z, R cs z)
    (h : DataW.trod enc Try.prog w 0 (fun _ => true) true fuel t [v] = some x) (hwt : Wt t x.1) :
    ∃ a len cap, ∃ xs : List X, v = .slice a len cap ∧ len = xs.length ∧ len ≤ cap ∧ cap * Try.prog.bytesOf e ≤ reachBytes ∧ RowsAt w a n R xs := by
  rcases open_slice ht h with ⟨hcs, _⟩ | ⟨a, len, cap, m, k, D, Pl, hcs, _, hlc, hcm, hm, hxx, hx⟩
  · cases hcs
    exact ⟨none, 0, 0, [], rfl, rfl, Nat.le_refl _, by simp, RowsAt.nil _ _ _ _⟩
  · cases hcs
    subst hxx
    obtain ⟨hw1, hw2⟩ := hwt.slice ht
    rw [show m = cap by simpa using hm] at hw1
    have hw1 : cap * Try.prog.bytesOf e ≤ reachBytes := by
      have : ((List.range len).map D).length + ((List.range (cap - len)).map fun j => D (len + j)).length = cap := by simp; omega
      rwa [this] at hw1

    rw [show m = cap by simpa using hm] at hx
    rw [hn] at hx
    obtain ⟨f, hf⟩ := choose_lt (n := len) (p := fun i z => ∃ cs, cs.length = n ∧ R cs z ∧ ∀ j, j < n → w.cell? ((a.add (i * n)).add j) = cs[j]?) (fun i hi => by
      obtain ⟨cs, h1, h2⟩ := hx i (by omega)
      obtain ⟨z, hz⟩ := hR _ _ _ h2 (hw2 _ (List.mem_map.2 ⟨i, List.mem_range.2 hi, rfl⟩))
      obtain ⟨_, hl, hc⟩ := World.cells?_some h1
      exact ⟨z, cs, hl, hz, hc⟩)
    refine ⟨some a, len, cap, (List.range len).map f, rfl, by simp, hlc, hw1, ?_⟩
    rcases Nat.eq_zero_or_pos len with h0 | h0
    · subst h0; exact .inl rfl
    · right
      have hs : a.spot = none := by
        obtain ⟨cs, hl, _, hc⟩ := hf 0 h0
        have h00 := hc 0 hn0
        have he : (a.add (0 * n)).add 0 = a := by simp [Addr.add]
        rw [he, List.getElem?_eq_getElem (by omega)] at h00
        exact spot_none h00
      obtain ⟨b, o, s⟩ := a
      simp only at hs
      subst hs
      refine ⟨b, o, rfl, fun i hi => ?_⟩
      obtain ⟨cs, hl, hz, hc⟩ := hf i (by simpa using hi)
      refine ⟨cs, hl, by simpa using hz, fun j v hj => ?_⟩
      have hjn : j < n := by rw [← hl]; exact (List.getElem?_eq_some_iff.1 hj).1
      have := hc j hjn
      rw [addr_add, addr_add] at this
      rw [this, hj]

def I64 (n : Int) : Prop := -9223372036854775808 ≤ n ∧ n ≤ 9223372036854775807
def byteR (cs : List Value) (c : UInt8) : Prop := cs = [byteV c]
theorem bytes_of_rows {w : World} {a : Option Addr} {l : Str} (h : RowsAt w a 1 byteR l) : BytesAt w a l := by
  rcases h with h | ⟨b, o, ha, hc⟩
  · subst h; exact .inl rfl
  · refine .inr ⟨b, o, ha, fun i v hv => ?_⟩
    obtain ⟨hi, hv'⟩ := List.getElem?_eq_some_iff.1 hv
    have hi' : i < l.length := by simpa using hi
    obtain ⟨cs, _, hR, h3⟩ := hc i hi'
    rw [hR] at h3
    have := h3 0 (byteV l[i]) rfl
    rw [Nat.mul_one, Nat.add_zero] at this
    rw [this, ← hv']
    simp
theorem read_byte {f : Nat} {cs : List Value} {y : DataW H × List MemPlace} (h : DataW.trod enc Try.prog w 0 (fun _ => true) true f 5 cs = some y) : ∃ z, byteR cs z := by
  obtain ⟨n, rfl, _, hw⟩ := DataW.trod_int Try.underlying5 h
  have hb := bounds_u8 hw
  refine ⟨UInt8.ofNat n.toNat, ?_⟩
  unfold byteR byteV
  have : ((UInt8.ofNat n.toNat).toNat : Int) = n := by
    rw [UInt8.toNat_ofNat_of_lt' (by simp; omega)]; omega
  rw [this]
theorem bytes_byte : Try.prog.bytesOf 5 = 1 := by kernel_rfl
theorem bytes_page : Try.prog.bytesOf 69 = 32 := by kernel_rfl
theorem bytes_item : Try.prog.bytesOf 76 = 88 := by kernel_rfl
theorem read_bytes {fuel : Nat} {v : Value} {x : DataW H × List MemPlace} (h : DataW.trod enc Try.prog w 0 (fun _ => true) true fuel 67 [v] = some x) (hwt : Wt 67 x.1) :
    ∃ a cap, ∃ l : Str, v = .slice a l.length cap ∧ l.length ≤ cap ∧ cap ≤ reachBytes ∧ BytesAt w a l := by
  obtain ⟨a, len, cap, xs, rfl, rfl, h1, h2, h3⟩ := read_slice (n := 1) byteR Try.underlying67 (by kernel_rfl) (by omega) (fun f cs y hy _ => read_byte hy) h hwt
  rw [bytes_byte, Nat.mul_one] at h2
  exact ⟨a, cap, xs, rfl, h1, h2, bytes_of_rows h3⟩
theorem read_i64 {f t : Nat} {cs : List Value} {y : DataW H × List MemPlace} (ht : Try.prog.underlying t = some (.int .i64)) (h : DataW.trod enc Try.prog w 0 (fun _ => true) true f t cs = some y) : ∃ n, cs = [.int .i64 n] ∧ I64 n := by
  obtain ⟨n, rfl, _, hw⟩ := DataW.trod_int ht h
  exact ⟨n, rfl, bounds_i64 hw⟩

theorem cells_int : Try.prog.cellsOf 3 = 1 := by kernel_rfl
theorem cells_bytes : Try.prog.cellsOf 67 = 1 := by kernel_rfl
def PageR (w : World) (cs : List Value) (p : Page) : Prop :=
  I64 p.number ∧ ∃ ba bc, cs = [.int .i64 p.number, .slice ba p.bytes.length bc] ∧ BytesAt w ba p.bytes ∧ p.bytes.length ≤ reachBytes ∧ p.bytes.length ≤ bc ∧ bc ≤ 9223372036854775807
theorem PageR.keep {w w' : World} (k : Keeps w w') : ∀ cs p, PageR w cs p → PageR w' cs p := fun _ _ ⟨h1, ba, bc, h2, h3, h4⟩ => ⟨h1, ba, bc, h2, h3.keep k, h4⟩
theorem two {α : Type} {l : List α} (h : l.length = 2) : ∃ a b, l = [a, b] := by
  match l, h with
  | [a, b], _ => exact ⟨a, b, rfl⟩
theorem read_page {f : Nat} {cs : List Value} {y : DataW H × List MemPlace} (h : DataW.trod enc Try.prog w 0 (fun _ => true) true f 69 cs = some y) (hwt : Wt 69 y.1) : ∃ p, PageR w cs p := by
  obtain ⟨xs, n, _, hyx, hl, hx, hf⟩ := DataW.trod_struct Try.underlying69 h
  subst hyx
  obtain ⟨c0, c1, rfl⟩ := two (hl.trans (by kernel_rfl))
  obtain ⟨y0, y1, rfl⟩ := two hx
  have h0 := hf 0 _ rfl
  have h1 := hf 1 _ rfl
  simp [cells_int] at h0
  simp [cells_bytes] at h1
  obtain ⟨k, hk, hb⟩ := read_i64 Try.underlying3 h0
  obtain ⟨a, c, l, hc, h2, h3, h4⟩ := read_bytes h1 (hwt.field Try.underlying69 1 rfl rfl)
  subst hc
  cases hk
  exact ⟨⟨k, l⟩, hb, a, c, rfl, h4, Nat.le_trans h2 h3, h2, Nat.le_trans h3 (by decide)⟩

theorem three {α : Type} {l : List α} (h : l.length = 3) : ∃ a b c, l = [a, b, c] := by
  match l, h with
  | [a, b, c], _ => exact ⟨a, b, c, rfl⟩
def FlashR (w : World) (cs : List Value) (f : Flash) : Prop :=
  I64 f.most ∧ I64 f.next ∧ ∃ a c, cs = [.int .i64 f.most, .int .i64 f.next, .slice a f.pages.length c] ∧ f.pages.length ≤ c ∧ c * 32 ≤ reachBytes ∧ RowsAt w a 2 (PageR w) f.pages
theorem FlashR.keep {w w' : World} (k : Keeps w w') : ∀ cs p, FlashR w cs p → FlashR w' cs p :=
  fun _ _ ⟨h1, h2, a, c, h3, h4, h5, h6⟩ => ⟨h1, h2, a, c, h3, h4, h5, h6.keep k (PageR.keep k)⟩
theorem cells_pages : Try.prog.cellsOf 26 = 1 := by kernel_rfl
instance : Inhabited Page := ⟨⟨0, []⟩⟩
theorem read_flash {f : Nat} {cs : List Value} {y : DataW H × List MemPlace} (h : DataW.trod enc Try.prog w 0 (fun _ => true) true f 28 cs = some y) (hwt : Wt 28 y.1) : ∃ p, FlashR w cs p := by
  obtain ⟨xs, n, _, hyx, hl, hx, hf⟩ := DataW.trod_struct Try.underlying28 h
  subst hyx
  obtain ⟨c0, c1, c2, rfl⟩ := three (hl.trans (by kernel_rfl))
  obtain ⟨y0, y1, y2, rfl⟩ := three hx
  have h0 := hf 0 _ rfl
  have h1 := hf 1 _ rfl
  have h2 := hf 2 _ rfl
  simp [cells_int] at h0 h1
  simp [cells_pages] at h2
  obtain ⟨m, hm, hmb⟩ := read_i64 Try.underlying3 h0
  obtain ⟨k, hk, hkb⟩ := read_i64 Try.underlying3 h1
  obtain ⟨a, len, c, l, hc, hll, k2, k3, k4⟩ := read_slice (n := 2) (PageR w) Try.underlying26 (by kernel_rfl) (by omega) (fun f cs y hy hy2 => read_page hy hy2) h2 (hwt.field Try.underlying28 2 rfl rfl)
  rw [bytes_page] at k3
  subst hc
  cases hm
  cases hk
  subst hll
  exact ⟨⟨m, k, l⟩, hmb, hkb, a, c, rfl, k2, k3, k4⟩

def itemCells (x : Item) : List Value := [.string x.key, .int .i64 x.flags, .int .i64 x.till, .int .i64 x.cas, .int .i64 x.used, .string x.value, .bool x.far, .int .i64 x.place.page, .int .i64 x.place.off]
def ItemR (cs : List Value) (x : Item) : Prop :=
  cs = itemCells x ∧ x.key.size ≤ reachBytes ∧ x.value.size ≤ reachBytes ∧ I64 x.flags ∧ I64 x.till ∧ I64 x.cas ∧ I64 x.used ∧ I64 x.place.page ∧ I64 x.place.off
theorem cells_string : Try.prog.cellsOf 9 = 1 := by kernel_rfl
theorem cells_bool : Try.prog.cellsOf 4 = 1 := by kernel_rfl
theorem cells_place : Try.prog.cellsOf 55 = 2 := by kernel_rfl
theorem read_place {f : Nat} {cs : List Value} {y : DataW H × List MemPlace} (h : DataW.trod enc Try.prog w 0 (fun _ => true) true f 55 cs = some y) :
    ∃ p : Place, cs = [.int .i64 p.page, .int .i64 p.off] ∧ I64 p.page ∧ I64 p.off := by
  obtain ⟨xs, n, _, _, hl, hx, hf⟩ := DataW.trod_struct Try.underlying55 h
  obtain ⟨c0, c1, rfl⟩ := two (hl.trans (by kernel_rfl))
  obtain ⟨y0, y1, rfl⟩ := two hx
  have h0 := hf 0 _ rfl
  have h1 := hf 1 _ rfl
  simp [cells_int] at h0 h1
  obtain ⟨m, hm, hmb⟩ := read_i64 Try.underlying3 h0
  obtain ⟨k, hk, hkb⟩ := read_i64 Try.underlying3 h1
  cases hm
  cases hk
  exact ⟨⟨m, k⟩, rfl, hmb, hkb⟩
theorem eight {α : Type} {l : List α} (h : l.length = 8) : ∃ a b c d e f g i, l = [a, b, c, d, e, f, g, i] := by
  match l, h with
  | [a, b, c, d, e, f, g, i], _ => exact ⟨a, b, c, d, e, f, g, i, rfl⟩
theorem nine {α : Type} {l : List α} (h : l.length = 9) : ∃ a b c d e f g i j, l = [a, b, c, d, e, f, g, i, j] := by
  match l, h with
  | [a, b, c, d, e, f, g, i, j], _ => exact ⟨a, b, c, d, e, f, g, i, j, rfl⟩
theorem read_item {f : Nat} {cs : List Value} {y : DataW H × List MemPlace} (h : DataW.trod enc Try.prog w 0 (fun _ => true) true f 76 cs = some y) (hwt : Wt 76 y.1) : ∃ x, ItemR cs x := by
  obtain ⟨xs, n, _, hyx, hl, hx, hf⟩ := DataW.trod_struct Try.underlying76 h
  subst hyx
  obtain ⟨c0, c1, c2, c3, c4, c5, c6, c7, c8, rfl⟩ := nine (hl.trans (by kernel_rfl))
  obtain ⟨y0, y1, y2, y3, y4, y5, y6, y7, rfl⟩ := eight hx
  have h0 := hf 0 _ rfl
  have h1 := hf 1 _ rfl
  have h2 := hf 2 _ rfl
  have h3 := hf 3 _ rfl
  have h4 := hf 4 _ rfl
  have h5 := hf 5 _ rfl
  have h6 := hf 6 _ rfl
  have h7 := hf 7 _ rfl
  simp [cells_string] at h0 h5
  simp [cells_int] at h1 h2 h3 h4
  simp [cells_bool] at h6
  simp [cells_place] at h7
  obtain ⟨s0, e0, x0, _⟩ := DataW.trod_string Try.underlying9 h0
  have b0 : s0.size ≤ reachBytes := by have := hwt.field Try.underlying76 0 rfl rfl; rw [x0] at this; simpa using this.string
  obtain ⟨n1, e1, b1⟩ := read_i64 Try.underlying3 h1
  obtain ⟨n2, e2, b2⟩ := read_i64 Try.underlying3 h2
  obtain ⟨n3, e3, b3⟩ := read_i64 Try.underlying3 h3
  obtain ⟨n4, e4, b4⟩ := read_i64 Try.underlying3 h4
  obtain ⟨s5, e5, x5, _⟩ := DataW.trod_string Try.underlying9 h5
  have b5 : s5.size ≤ reachBytes := by have := hwt.field Try.underlying76 5 rfl rfl; rw [x5] at this; simpa using this.string
  obtain ⟨t6, e6, _⟩ := DataW.trod_bool Try.underlying4 h6
  obtain ⟨p, e7, b7, b8⟩ := read_place h7
  cases e0; cases e1; cases e2; cases e3; cases e4; cases e5; cases e6; cases e7
  exact ⟨⟨s0, n1, n2, n3, n4, s5, t6, p⟩, rfl, b0, b5, b1, b2, b3, b4, b7, b8⟩

def StoreR (w : World) (cs : List Value) (s : Store) : Prop :=
  I64 s.clock ∧ I64 s.cas ∧ I64 s.uses ∧ I64 s.most ∧ I64 s.h0 ∧ I64 s.h1 ∧ I64 s.h2 ∧ I64 s.h3 ∧
  ∃ a c fs, cs = [.int .i64 s.clock, .int .i64 s.cas, .int .i64 s.uses, .int .i64 s.most, .int .i64 s.h0, .int .i64 s.h1, .int .i64 s.h2, .int .i64 s.h3, .slice a s.items.length c] ++ fs ∧
    s.items.length ≤ c ∧ c * 88 ≤ reachBytes ∧ RowsAt w a 9 ItemR s.items ∧ FlashR w fs s.flash
theorem StoreR.keep {w w' : World} (k : Keeps w w') : ∀ cs p, StoreR w cs p → StoreR w' cs p :=
  fun _ _ ⟨h1, h2, h3, h4, h5, h6, h7, h8, a, c, fs, h9, h10, h11, h12, h13⟩ => ⟨h1, h2, h3, h4, h5, h6, h7, h8, a, c, fs, h9, h10, h11, h12.keep k (fun _ _ h => h), FlashR.keep k _ _ h13⟩
theorem cells_held : Try.prog.cellsOf 37 = 4 := by kernel_rfl
theorem cells_items : Try.prog.cellsOf 38 = 1 := by kernel_rfl
theorem cells_flash : Try.prog.cellsOf 28 = 3 := by kernel_rfl
instance : Inhabited Item := ⟨⟨ByteArray.empty, 0, 0, 0, 0, ByteArray.empty, false, ⟨0, 0⟩⟩⟩
theorem four {α : Type} {l : List α} (h : l.length = 4) : ∃ a b c d, l = [a, b, c, d] := by
  match l, h with
  | [a, b, c, d], _ => exact ⟨a, b, c, d, rfl⟩
theorem seven {α : Type} {l : List α} (h : l.length = 7) : ∃ a b c d e f g, l = [a, b, c, d, e, f, g] := by
  match l, h with
  | [a, b, c, d, e, f, g], _ => exact ⟨a, b, c, d, e, f, g, rfl⟩
theorem twelve {α : Type} {l : List α} (h : l.length = 12) : ∃ a b c d e f g i j k m n, l = [a, b, c, d, e, f, g, i, j, k, m, n] := by
  match l, h with
  | [a, b, c, d, e, f, g, i, j, k, m, n], _ => exact ⟨a, b, c, d, e, f, g, i, j, k, m, n, rfl⟩
theorem read_store {f : Nat} {cs : List Value} {y : DataW H × List MemPlace} (h : DataW.trod enc Try.prog w 0 (fun _ => true) true f 40 cs = some y) (hwt : Wt 40 y.1) : ∃ s, StoreR w cs s := by
  obtain ⟨xs, n, _, hyx, hl, hx, hf⟩ := DataW.trod_struct Try.underlying40 h
  subst hyx
  obtain ⟨c0, c1, c2, c3, c4, c5, c6, c7, c8, c9, c10, c11, rfl⟩ := twelve (hl.trans (by kernel_rfl))
  obtain ⟨y0, y1, y2, y3, y4, y5, y6, rfl⟩ := seven hx
  have h0 := hf 0 _ rfl
  have h1 := hf 1 _ rfl
  have h2 := hf 2 _ rfl
  have h3 := hf 3 _ rfl
  have h4 := hf 4 _ rfl
  have h5 := hf 5 _ rfl
  have h6 := hf 6 _ rfl
  simp [cells_int] at h0 h1 h2 h3
  simp [cells_held] at h4
  simp [cells_items] at h5
  simp [cells_flash] at h6
  obtain ⟨n0, e0, b0⟩ := read_i64 Try.underlying3 h0
  obtain ⟨n1, e1, b1⟩ := read_i64 Try.underlying3 h1
  obtain ⟨n2, e2, b2⟩ := read_i64 Try.underlying3 h2
  obtain ⟨n3, e3, b3⟩ := read_i64 Try.underlying3 h3
  obtain ⟨zs, m, _, _, _, hz, hg⟩ := DataW.trod_array Try.underlying37 h4
  obtain ⟨z0, z1, z2, z3, rfl⟩ := four hz
  have g0 := hg 0 (by omega)
  have g1 := hg 1 (by omega)
  have g2 := hg 2 (by omega)
  have g3 := hg 3 (by omega)
  simp [cells_int] at g0 g1 g2 g3
  obtain ⟨k0, q0, r0⟩ := read_i64 Try.underlying3 g0
  obtain ⟨k1, q1, r1⟩ := read_i64 Try.underlying3 g1
  obtain ⟨k2, q2, r2⟩ := read_i64 Try.underlying3 g2
  obtain ⟨k3, q3, r3⟩ := read_i64 Try.underlying3 g3
  obtain ⟨a, len, c, l, hc, hll, hlc, hcm, hrow⟩ := read_slice (n := 9) ItemR Try.underlying38 (by kernel_rfl) (by omega) (fun f cs y hy hy2 => read_item hy hy2) h5 (hwt.field Try.underlying40 5 rfl rfl)
  rw [bytes_item] at hcm
  obtain ⟨fl, hfl⟩ := read_flash h6 (hwt.field Try.underlying40 6 rfl rfl)
  subst hc hll
  cases e0; cases e1; cases e2; cases e3; cases q0; cases q1; cases q2; cases q3
  exact ⟨⟨n0, n1, n2, n3, k0, k1, k2, k3, l, fl⟩, b0, b1, b2, b3, r0, r1, r2, r3, a, c, _, rfl, hlc, hcm, hrow, hfl⟩
theorem item_cells {w w' : World} {b o : Nat} {x : Item} (hk : Keeps w w') (h : ∀ j v, (itemCells x)[j]? = some v → w.cell? ⟨b, o + j, none⟩ = some v) :
    w'.cell? ⟨b, o, none⟩ = some (.string x.key) ∧ w'.cell? ⟨b, o + 1, none⟩ = some (.int .i64 x.flags) ∧ w'.cell? ⟨b, o + 2, none⟩ = some (.int .i64 x.till) ∧
    w'.cell? ⟨b, o + 3, none⟩ = some (.int .i64 x.cas) ∧ w'.cell? ⟨b, o + 4, none⟩ = some (.int .i64 x.used) ∧ w'.cell? ⟨b, o + 5, none⟩ = some (.string x.value) ∧
    w'.cell? ⟨b, o + 6, none⟩ = some (.bool x.far) ∧ w'.cell? ⟨b, o + 7, none⟩ = some (.int .i64 x.place.page) ∧ w'.cell? ⟨b, o + 8, none⟩ = some (.int .i64 x.place.off) ∧ b < w.heap.size :=
  ⟨hk _ _ (h 0 _ rfl), hk _ _ (h 1 _ rfl), hk _ _ (h 2 _ rfl), hk _ _ (h 3 _ rfl), hk _ _ (h 4 _ rfl), hk _ _ (h 5 _ rfl), hk _ _ (h 6 _ rfl), hk _ _ (h 7 _ rfl), hk _ _ (h 8 _ rfl),
    World.block_lt_of_cell? w ⟨b, o + 0, none⟩ (h 0 _ rfl)⟩
def PageB (p : Page) : Prop := I64 p.number ∧ p.bytes.length ≤ reachBytes
theorem RowsAt.pageB {w : World} {a : Option Addr} {ps : List Page} (h : RowsAt w a 2 (PageR w) ps) : ∀ p ∈ ps, PageB p := by
  intro p hp
  rcases h with h | ⟨b, o, _, hc⟩
  · subst h; simp at hp
  · obtain ⟨i, hi, rfl⟩ := List.mem_iff_getElem.1 hp
    obtain ⟨_, _, ⟨h1, _, _, _, _, h2⟩, _⟩ := hc i hi
    exact ⟨h1, h2.1⟩
end
end Go.Proofs.Ytjhfomihlobjgaa.D
