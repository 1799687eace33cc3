/-
  What a listed table gives a law: its cells. A world that holds it. Of a seat whose program reads a table.
-/
import Derived.Test.YtbipegbgfdpaeaaDoorCClass
import Derived.Test.YtbipegbgfdpaeaaDoorCLaw
import Derived.Test.YtbipegbgfdpaeaaDoorCards
import Derived.Test.YtbipegbgfdpaeaaDoorTie
import Derived.Deep.DeepHandedRow
import Derived.Lib.LaidTab
namespace Go.Proofs.YtbipegbgfdpaeaaDoor.D
open Go.ChangeShapes Go.WideShapes Go.ChangeAt Go.RowKit
theorem gTab : Tryd.prog.globalNamed "dovecote/store.chunks" = some 0 := by kernel_rfl
theorem gTabType : (Tryd.prog.globals[0]?).map (·.type) = some 24 := by kernel_rfl
theorem cells4i : Tryd.prog.cellsOf 24 = 4 := by kernel_rfl
theorem cells1i : Tryd.prog.cellsOf 3 = 1 := by kernel_rfl
theorem chunks_of {W : World} (h : laidMetH Tryd.prog Rows.storeClassesRow.laid W) : Chunks W := by
  have ht : Lib.TabIs Tryd.prog W "dovecote/store.chunks" .i64 [32, 64, 128, 256] := Lib.tabIs_of_head (rest := []) gTab gTabType Tryd.underlying24 Tryd.underlying3 cells1i cells4i h
  intro i hi
  have hc := ht.cell gTab i (by simpa using hi)
  rw [hc]
  match i, hi with
  | 0, _ => rfl
  | 1, _ => rfl
  | 2, _ => rfl
  | 3, _ => rfl
noncomputable def laidWorld (os : Os) : World :=
  { World.holding Tryd.prog os ⟨#[], #[], []⟩ with heap := (World.holding Tryd.prog os ⟨#[], #[], []⟩).heap.modify 0 fun
      | .cells _ t frozen => .cells #[.int .i64 32, .int .i64 64, .int .i64 128, .int .i64 256] t frozen
      | o => o }
end Go.Proofs.YtbipegbgfdpaeaaDoor.D
