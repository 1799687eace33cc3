/-
 Contract: strconv.Itoa is a number's decimal text. Condition: the library's table of powers holds its numbers.
-/
import Derived.Test.YtbeegfkfpkfccaaGreatDoorYCShelf
import Derived.Test.YtbeegfkfpkfccaaGreatDoorYBase
import Derived.Lib.SmallJoins
import Derived.Lib.AppendIntMem
import Derived.Test.YtbeegfkfpkfccaaGreatDoorYCGet
namespace Go.Proofs.YtbeegfkfpkfccaaGreatDoor.D
open Go.RowKit
def PowTab (w : World) : Prop := Lib.TabIs Tryz.prog w "internal/strconv.uint64pow10" .u64 Lib.pow10Tab
theorem gPow : Tryz.prog.globalNamed "internal/strconv.uint64pow10" = some 4 := by kernel_rfl
theorem PowTab.keep {w w' : World} (h : PowTab w) (hb : Below w.heap.size w w') : PowTab w' := Joins.tab_stays gPow h hb (Nat.le_refl _)
theorem itoa_is (n : Int) (h0 : -9223372036854775808 ≤ n) (h1 : n ≤ 9223372036854775807) (w : World) (h : PowTab w) : Calls Tryz.prog 113 #[.int .i64 n] w (DecEnd n w) := by
 refine (Tryz.strconv_Itoa n h0 h1 w h).mono ?_;rintro e w' ⟨rfl, k, os, rfl⟩;exact ⟨rfl, Lib.below_grow _ _ (Nat.le_refl _) _ _⟩
structure Env (w : World) : Prop where
 chunks : Chunks w
 pow : PowTab w
 syn : ∃ tp p, w.var? Tryz.prog "strconv.ErrSyntax" = some #[.iface tp p]
 ran : ∃ tp p, w.var? Tryz.prog "strconv.ErrRange" = some #[.iface tp p]
structure Globs (B : Nat) : Prop where
 chunks : 0 < B
 pow : 4 < B
 syn : 2 < B
 ran : 3 < B
theorem gSyn : Tryz.prog.globalNamed "strconv.ErrSyntax" = some 2 := by kernel_rfl
theorem gRan : Tryz.prog.globalNamed "strconv.ErrRange" = some 3 := by kernel_rfl
theorem Globs.mono {B B' : Nat} (h : Globs B) (hb : B ≤ B') : Globs B' := ⟨Nat.lt_of_lt_of_le h.chunks hb, Nat.lt_of_lt_of_le h.pow hb, Nat.lt_of_lt_of_le h.syn hb, Nat.lt_of_lt_of_le h.ran hb⟩
theorem var_lt {w : World} {g : Nat} {n : String} {cs : Array Value} (hg : Tryz.prog.globalNamed n = some g) (h : w.var? Tryz.prog n = some cs) : g < w.heap.size := by
 unfold World.var? at h;rw [hg] at h;simp only [Option.bind_some] at h
 rcases Nat.lt_or_ge g w.heap.size with h' | h'
 ·exact h'
 ·rw [Array.getElem?_eq_none h'] at h; cases h
theorem var_below {B : Nat} {w w' : World} {g : Nat} {n : String} {cs : Array Value} (hg : Tryz.prog.globalNamed n = some g) (h : w.var? Tryz.prog n = some cs) (hb : Below B w w') (hB : g < B) : w'.var? Tryz.prog n = some cs := by
 unfold World.var? at h ⊢;rw [hg] at h ⊢;simp only [Option.bind_some] at h ⊢;rw [hb.block g hB]; exact h
theorem Env.globs {w : World} (h : Env w) : Globs w.heap.size := by
 obtain ⟨_, _, h3⟩ := h.syn;obtain ⟨_, _, h4⟩ := h.ran;exact ⟨cell_lt (h.chunks 0 (by omega)), var_lt gPow h.pow, var_lt gSyn h3, var_lt gRan h4⟩
theorem Env.below {B : Nat} {w w' : World} (h : Env w) (hB : Globs B) (hb : Below B w w') : Env w' := by
 obtain ⟨t3, p3, h3⟩ := h.syn;obtain ⟨t4, p4, h4⟩ := h.ran;exact ⟨h.chunks.below hB.chunks hb, var_below gPow h.pow hb hB.pow, ⟨t3, p3, var_below gSyn h3 hb hB.syn⟩, ⟨t4, p4, var_below gRan h4 hb hB.ran⟩⟩
theorem Env.on {w w' : World} (h : Env w) (hb : Below w.heap.size w w') : Env w' := h.below h.globs hb
theorem atoi_ok (v : ByteArray) (n : Int) (hv : Hid (Lib.atoiAll (bl v) = .ok n)) (hs : v.size ≤ 200) (w : World) :
  Calls Tryz.prog 112 #[.string v] w fun e w' => e = .returned (.tuple #[.int .i64 n, .nilIface]) ∧ Below w.heap.size w w' := by
 refine (Tryz.strconv_Atoi_ok v (by omega) n hv.out w).mono ?_;rintro e w' ⟨rfl, hw⟩
 rcases hw with rfl | ⟨t, rfl⟩
 ·exact ⟨rfl, Below.refl _ _⟩
 ·exact ⟨rfl, Joins.below_bytesWorld _ _ _ _ (Nat.le_refl _)⟩
def AtoiBad (w : World) (e : Ending) (w' : World) : Prop := ∃ (k : Int) (tp : TypeId) (p : Value), e = .returned (.tuple #[.int .i64 k, .iface tp p]) ∧ Below w.heap.size w w'
theorem atoi_bad (v : ByteArray) (hv : Hid (∀ n, Lib.atoiAll (bl v) ≠ .ok n)) (hs : v.size ≤ 200) (w : World) (he : Env w) : Calls Tryz.prog 112 #[.string v] w (AtoiBad w) := by
 cases hr : Lib.atoiAll (bl v) with
 | ok n => exact absurd hr (hv.out n)
 | «syntax» =>
  obtain ⟨tp, p, hp⟩ := he.syn;refine (Tryz.strconv_Atoi_syntax_var v (by omega) hr tp p w hp).mono ?_;rintro e w' ⟨N, rfl, _, _, hb⟩;exact ⟨_, _, _, rfl, hb⟩
 | range =>
  obtain ⟨tp, p, hp⟩ := he.ran;refine (Tryz.strconv_Atoi_range_var v (by omega) hr tp p w hp).mono ?_;rintro e w' ⟨N, rfl, _, _, hb⟩;exact ⟨_, _, _, rfl, hb⟩
end Go.Proofs.YtbeegfkfpkfccaaGreatDoor.D
