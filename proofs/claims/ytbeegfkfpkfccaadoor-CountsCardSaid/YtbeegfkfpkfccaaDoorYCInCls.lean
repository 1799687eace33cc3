/-
  Contract: ref.inClass: how many items in memory have a class; which of them was asked longest ago.
-/
import Derived.Test.YtbeegfkfpkfccaaDoorYCClass
import Derived.Test.YtbeegfkfpkfccaaDoorYBase
import Derived.Test.YtbeegfkfpkfccaaDoorYPlain
namespace Go.Proofs.YtbeegfkfpkfccaaDoor.D
open Go.RowKit
def InClsEnd (l : List Item) (q : Int) (w : World) (e : Ending) (w' : World) : Prop := e = .returned (.tuple #[.int .i64 (countIn l q), .int .i64 (lastTo l q l.length)]) ∧ Below w.heap.size w w'
theorem cls_far {x : Item} {q : Int} (h : x.far = true) : inCls x q = false := by unfold inCls; rw [h]; rfl
theorem cls_near {x : Item} {q : Int} (h : x.far = false) : inCls x q = (x.cls == q) := by unfold inCls; rw [h]; rfl
theorem item_used {w w' : World} {b o : Nat} {l : List Item} (hk : Keeps w w') (h : ∀ i (h : i < l.length), ∃ cs, cs.length = 9 ∧ ItemR cs l[i] ∧ ∀ j v, cs[j]? = some v → w.cell? ⟨b, o + i * 9 + j, none⟩ = some v) (m : Nat) (hm : m < l.length) :
    w'.cell? ⟨b, o + m * 9 + 4, none⟩ = some (.int .i64 l[m].used) := by
  obtain ⟨cs, _, hR, h3⟩ := h m hm
  rw [hR.1] at h3
  exact hk _ _ (h3 4 _ rfl)
end Go.Proofs.YtbeegfkfpkfccaaDoor.D
