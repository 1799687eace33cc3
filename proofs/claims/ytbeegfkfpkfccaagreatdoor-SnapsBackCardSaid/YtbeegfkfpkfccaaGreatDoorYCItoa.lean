/-
 Contract: strconv.Itoa is a number's decimal text. Condition: the library's table of powers holds its numbers.
-/
import Derived.Test.YtbeegfkfpkfccaaGreatDoorYCShelf
import Derived.Test.YtbeegfkfpkfccaaGreatDoorYBase
import Derived.Lib.SmallJoins
import Derived.Lib.AppendIntMem
namespace Go.Proofs.YtbeegfkfpkfccaaGreatDoor.D
open Go.RowKit
def PowTab (w : World) : Prop := Lib.TabIs Tryz.prog w "internal/strconv.uint64pow10" .u64 Lib.pow10Tab
theorem gPow : Tryz.prog.globalNamed "internal/strconv.uint64pow10" = some 4 := by kernel_rfl
theorem PowTab.keep {w w' : World} (h : PowTab w) (hb : Below w.heap.size w w') : PowTab w' := Joins.tab_stays gPow h hb (Nat.le_refl _)
theorem itoa_is (n : Int) (h0 : -9223372036854775808 ≤ n) (h1 : n ≤ 9223372036854775807) (w : World) (h : PowTab w) : Calls Tryz.prog 113 #[.int .i64 n] w (DecEnd n w) := by
 refine (Tryz.strconv_Itoa n h0 h1 w h).mono ?_
 rintro e w' ⟨rfl, k, os, rfl⟩
 exact ⟨rfl, Lib.below_grow _ _ (Nat.le_refl _) _ _⟩
end Go.Proofs.YtbeegfkfpkfccaaGreatDoor.D

