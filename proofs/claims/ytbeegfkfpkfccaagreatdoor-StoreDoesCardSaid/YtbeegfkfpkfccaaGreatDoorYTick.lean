/-
 Contracts: new flash and a new store, by the program (printed by gen_halves.py).
-/
import Derived.Test.YtbeegfkfpkfccaaGreatDoorYReq
import Derived.Test.YtbeegfkfpkfccaaGreatDoorYPlain
import Derived.Test.YtbeegfkfpkfccaaGreatDoorYOwn
import Derived.Test.YtbeegfkfpkfccaaGreatDoorYCSCheck
namespace Go.Proofs.YtbeegfkfpkfccaaGreatDoor.D
open Go.RowKit
theorem pages_few {f : Flash} (h : f.ok = true) : f.pages.length ≤ 20 := by
 have hp : (f.pages.length : Int) ≤ f.most ∧ f.most ≤ 20 := by
  unfold Flash.ok at h;simp only [Bool.and_eq_true, decide_eq_true_eq] at h;omega
 omega
theorem storeSize : (Tryz.prog.info? 28).map (·.size) = some 12 := by kernel_rfl
end Go.Proofs.YtbeegfkfpkfccaaGreatDoor.D
