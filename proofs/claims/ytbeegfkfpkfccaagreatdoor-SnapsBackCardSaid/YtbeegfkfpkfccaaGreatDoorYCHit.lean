/-
 What a reply reads as.
-/
import Derived.Test.YtbeegfkfpkfccaaGreatDoorYBase
import Derived.Test.YtbeegfkfpkfccaaGreatDoorYPlain
namespace Go.Proofs.YtbeegfkfpkfccaaGreatDoor.D
open Go.ChangeShapes Go.WideShapes Go.RowKit Go.Deep Go.Joins
def hitCells (x : Hit) : List Value := [.string x.key, .int .i64 x.flags, .int .i64 x.cas, .string x.value]
def HitR (cs : List Value) (x : Hit) : Prop := cs = hitCells x ∧ x.key.size ≤ reachBytes ∧ x.value.size ≤ reachBytes ∧ HitB x
def replyCells (r : Reply) (a : Option Addr) (c : Nat) : Array Value := #[.int .i64 r.kind, .int .i64 r.n, .slice a r.hits.length c]
section
variable {H : Type} {enc : TypeId × Value → H} {w : World}
instance : Inhabited Hit := ⟨⟨ByteArray.empty, 0, 0, ByteArray.empty⟩⟩
end
theorem RowsAt.hitB {w : World} {a : Option Addr} {l : List Hit} (h : RowsAt w a 4 HitR l) : ∀ x ∈ l, HitB x ∧ x.key.size ≤ reachBytes ∧ x.value.size ≤ reachBytes := by
 intro p hp
 rcases h with h | ⟨b, o, _, hc⟩
 ·subst h; simp at hp
 ·obtain ⟨i, hi, rfl⟩ := List.mem_iff_getElem.1 hp
  obtain ⟨_, _, ⟨_, h1, h2, h3⟩, _⟩ := hc i hi
  exact ⟨h3, h1, h2⟩
end Go.Proofs.YtbeegfkfpkfccaaGreatDoor.D

