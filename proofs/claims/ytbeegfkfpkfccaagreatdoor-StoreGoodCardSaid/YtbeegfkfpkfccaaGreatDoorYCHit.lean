/-
  What a reply reads as.
-/
import Derived.Test.YtbeegfkfpkfccaaGreatDoorYBase
import Derived.Test.YtbeegfkfpkfccaaGreatDoorYPlain
namespace Go.Proofs.YtbeegfkfpkfccaaGreatDoor.D
open Go.ChangeShapes Go.WideShapes Go.RowKit Go.Deep Go.Joins
def hitCells (x : Hit) : List Value := [.string x.key, .int .i64 x.flags, .int .i64 x.cas, .string x.value]
def HitR (cs : List Value) (x : Hit) : Prop := cs = hitCells x ∧ x.key.size ≤ reachBytes ∧ x.value.size ≤ reachBytes ∧ HitB x
def replyCells (r : Reply) (a : Option Addr) (c : Nat) : Array Value := #[.int .i64 r.kind, .int .i64 r.n, .slice a r.hits.length c]
def ReplyR (w : World) (cs : List Value) (r : Reply) : Prop :=
  I64 r.kind ∧ I64 r.n ∧ ∃ a c, cs = (replyCells r a c).toList ∧ r.hits.length ≤ c ∧ c * 48 ≤ reachBytes ∧ RowsAt w a 4 HitR r.hits
section
variable {H : Type} {enc : TypeId × Value → H} {w : World}
theorem bytes_hit : Tryz.prog.bytesOf 53 = 48 := by kernel_rfl
theorem cells_hits : Tryz.prog.cellsOf 33 = 1 := by kernel_rfl
instance : Inhabited Hit := ⟨⟨ByteArray.empty, 0, 0, ByteArray.empty⟩⟩
theorem read_oneHit {f : Nat} {cs : List Value} {y : DataW H × List MemPlace} (h : DataW.trod enc Tryz.prog w 0 (fun _ => true) true f 53 cs = some y) (hwt : Wt 53 y.1) : ∃ x, HitR cs x := by
  obtain ⟨xs, n, _, hyx, hl, hx, hf⟩ := DataW.trod_struct Tryz.underlying53 h
  subst hyx
  obtain ⟨c0, c1, c2, c3, rfl⟩ := four (hl.trans (by kernel_rfl))
  obtain ⟨y0, y1, y2, y3, rfl⟩ := four hx
  have h0 := hf 0 _ rfl
  have h1 := hf 1 _ rfl
  have h2 := hf 2 _ rfl
  have h3 := hf 3 _ rfl
  simp [cells_string] at h0 h3
  simp [cells_int] at h1 h2
  obtain ⟨s0, e0, x0, _⟩ := DataW.trod_string Tryz.underlying9 h0
  have b0 : s0.size ≤ reachBytes := by have := hwt.field Tryz.underlying53 0 rfl rfl; rw [x0] at this; simpa using this.string
  obtain ⟨n1, e1, b1⟩ := read_i64 Tryz.underlying3 h1
  obtain ⟨n2, e2, b2⟩ := read_i64 Tryz.underlying3 h2
  obtain ⟨s3, e3, x3, _⟩ := DataW.trod_string Tryz.underlying9 h3
  have b3 : s3.size ≤ reachBytes := by have := hwt.field Tryz.underlying53 3 rfl rfl; rw [x3] at this; simpa using this.string
  cases e0; cases e1; cases e2; cases e3
  exact ⟨⟨s0, n1, n2, s3⟩, rfl, b0, b3, b1.1, b1.2, b2.1, b2.2⟩
theorem read_reply {f : Nat} {cs : List Value} {y : DataW H × List MemPlace} (h : DataW.trod enc Tryz.prog w 0 (fun _ => true) true f 35 cs = some y) (hwt : Wt 35 y.1) : ∃ r, ReplyR w cs r := by
  obtain ⟨xs, n, _, hyx, hl, hx, hf⟩ := DataW.trod_struct Tryz.underlying35 h
  subst hyx
  obtain ⟨c0, c1, c2, rfl⟩ := three (hl.trans (by kernel_rfl))
  obtain ⟨y0, y1, y2, rfl⟩ := three hx
  have h0 := hf 0 _ rfl
  have h1 := hf 1 _ rfl
  have h2 := hf 2 _ rfl
  simp [cells_int] at h0 h1
  simp [cells_hits] at h2
  obtain ⟨m, hm, hmb⟩ := read_i64 Tryz.underlying3 h0
  obtain ⟨k, hk, hkb⟩ := read_i64 Tryz.underlying3 h1
  obtain ⟨a, len, c, l, hc, hll, k2, k3, k4⟩ := read_slice (n := 4) HitR Tryz.underlying33 (by kernel_rfl) (by omega) (fun f cs y hy hy2 => read_oneHit hy hy2) h2 (hwt.field Tryz.underlying35 2 rfl rfl)
  rw [bytes_hit] at k3
  subst hc
  cases hm
  cases hk
  subst hll
  exact ⟨⟨m, k, l⟩, hmb, hkb, a, c, rfl, k2, k3, k4⟩
end
theorem RowsAt.hitB {w : World} {a : Option Addr} {l : List Hit} (h : RowsAt w a 4 HitR l) : ∀ x ∈ l, HitB x ∧ x.key.size ≤ reachBytes ∧ x.value.size ≤ reachBytes := by
  intro p hp
  rcases h with h | ⟨b, o, _, hc⟩
  · subst h; simp at hp
  · obtain ⟨i, hi, rfl⟩ := List.mem_iff_getElem.1 hp
    obtain ⟨_, _, ⟨_, h1, h2, h3⟩, _⟩ := hc i hi
    exact ⟨h3, h1, h2⟩
end Go.Proofs.YtbeegfkfpkfccaaGreatDoor.D
