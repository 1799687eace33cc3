/-
  A region that draws its order and only reads, but whose calls may lay new blocks: one walk in the order of the text ('go_big_quiet_step'), under a condition on the world. Lemmas on the walk alone.
-/
import Derived.BigQuiet
import Derived.Laws.Rows
namespace Go.Proofs.YtbeegfkfpkfccaaDoor.D
theorem wp_region_quietC {P : Program} {id : Nat} {Q : Exit → Act → World → Prop} {a : Act} {w : World} {l : List Oper} (C : World → Prop) (hm : P.follows .mixedOrders = true) (hB : Region.lexB .any l.toArray = true) (hC : C w.drew)
    (h : wpQuiet P l.toArray C (fun a' => ∀ w', C w' → Q .normal a' w') l a) : (Code.region id l.toArray true).wp P Q a w :=
  wp_region_quiet hm hB hC (by simpa using h)
end Go.Proofs.YtbeegfkfpkfccaaDoor.D
