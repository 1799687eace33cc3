/-
  Contract: strconv.Itoa is a number's decimal text. Condition: the library's table of powers holds its numbers.
-/
import Derived.Test.YtbeegfkfpkfccaaDoorYCShelf
import Derived.Test.YtbeegfkfpkfccaaDoorYBase
import Derived.Lib.SmallJoins
import Derived.Lib.AppendIntMem
namespace Go.Proofs.YtbeegfkfpkfccaaDoor.D
open Go.RowKit
def PowTab (w : World) : Prop := Lib.TabIs Tryd.prog w "internal/strconv.uint64pow10" .u64 Lib.pow10Tab
theorem gPow : Tryd.prog.globalNamed "internal/strconv.uint64pow10" = some 1 := by kernel_rfl
theorem PowTab.keep {w w' : World} (h : PowTab w) (hb : Below w.heap.size w w') : PowTab w' := Joins.tab_stays gPow h hb (Nat.le_refl _)
theorem itoa_is (n : Int) (h0 : -9223372036854775808 ≤ n) (h1 : n ≤ 9223372036854775807) (w : World) (h : PowTab w) : Calls Tryd.prog 7 #[.int .i64 n] w (DecEnd n w) := by
  refine (Tryd.strconv_Itoa n h0 h1 w h).mono ?_
  rintro e w' ⟨rfl, k, os, rfl⟩
  exact ⟨rfl, Lib.below_grow _ _ (Nat.le_refl _) _ _⟩
end Go.Proofs.YtbeegfkfpkfccaaDoor.D
