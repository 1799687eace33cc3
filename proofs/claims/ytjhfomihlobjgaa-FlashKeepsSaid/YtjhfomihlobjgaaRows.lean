/-
  No cell of these rows narrows 'for every input' (looked for: loops, veiled, ifaces, maps, wideKeys, modest, calm, conditions, laid).
  DERIVED. THE GIVEN ROWS OF THIS SEAT. 11 by the template 'for every input the law returns true; each argument reads behind the call as it read before'; 0 by the template 'total and deterministic' (their statements: YtjhfomihlobjgaaTotals.lean).
  GIVEN WITH THE SEED: the statements are not yours to turn. If you find one false, say at which input.
  Laid BY PROGRAM, IN A SANDBOX (cutbox-rows.mjs): the forced cells as the released guide's own fill.sh prints them over the translation e87c46c301118bea… (all of the seat's roots in one cut). By AI agents, Wed Nov 11 2026. No macro, syntax, notation, axiom, sorry.
-/
import Derived.Test.YtjhfomihlobjgaaChecked
import GoSem.Claim
import GoSem.ClaimJoined
import GoSem.ClaimMapViews
import Derived.JoinedTies
import Derived.KernelRfl
namespace Go.Proofs.Ytjhfomihlobjgaa
/- THE CELL 'sum', in the pinned program and in every row, IS THE sha256 OF THE DUMP (.gsa) THAT YtjhfomihlobjgaaProg.lean LOADS. Nothing in Lean hashes anything: it is a label: what it is worth is what the hold of that sum in a sandbox is worth. -/
noncomputable def Try.pinned : Pinned := { name := "ytjhfomihlobjgaa", sum := "e87c46c301118bead0d36dd298b5d412148ead07d8a09246ae27a3c6a46d5a5a", checked := Try.checked }
namespace Rows
def none {H : Type} : Left H := { results := [], args := [] }

/-- 'dovecotelaw.Names': WHATEVER THE INPUT: true; the input reads as it did. -/
def namesSpec : ChangeSpec := { name := "names", fn := fun _ => fun
  | [] => { results := [.lit (.bool true)], args := [] }
  | _ => none }
def namesRow : OpenClaim := { program := "ytjhfomihlobjgaa", sum := "e87c46c301118bead0d36dd298b5d412148ead07d8a09246ae27a3c6a46d5a5a", func := "dovecote/dovecotelaw.Names", spec := "names", plainKeys := false, apart := false }
def NamesSaid : Prop := namesRow.holds Try.pinned (OpenSpec.ofChange namesSpec)

/-- ITS FALSE NEIGHBOUR: 'it returns false'. Refute it at one input. -/
def namesWrong : ChangeSpec := { name := "names", fn := fun _ => fun
  | [] => { results := [.lit (.bool false)], args := [] }
  | _ => none }
def NamesWrongFalsely : Prop := namesRow.holds Try.pinned (OpenSpec.ofChange namesWrong)

/-- 'dovecotelaw.FlashNew': WHATEVER THE INPUT: true; the input reads as it did. -/
def flashNewSpec : ChangeSpec := { name := "flashNew", fn := fun _ => fun
  | [d] => { results := [.lit (.bool true)], args := [d] }
  | _ => none }
def flashNewRow : OpenClaim := { program := "ytjhfomihlobjgaa", sum := "e87c46c301118bead0d36dd298b5d412148ead07d8a09246ae27a3c6a46d5a5a", func := "dovecote/dovecotelaw.FlashNew", spec := "flashNew", plainKeys := false, apart := false }
def FlashNewSaid : Prop := flashNewRow.holds Try.pinned (OpenSpec.ofChange flashNewSpec)

/-- ITS FALSE NEIGHBOUR: 'it returns false'. Refute it at one input. -/
def flashNewWrong : ChangeSpec := { name := "flashNew", fn := fun _ => fun
  | [d] => { results := [.lit (.bool false)], args := [d] }
  | _ => none }
def FlashNewWrongFalsely : Prop := flashNewRow.holds Try.pinned (OpenSpec.ofChange flashNewWrong)

/-- 'dovecotelaw.FlashCopies': WHATEVER THE INPUT: true; the input reads as it did. -/
def flashCopiesSpec : ChangeSpec := { name := "flashCopies", fn := fun _ => fun
  | [d] => { results := [.lit (.bool true)], args := [d] }
  | _ => none }
def flashCopiesRow : OpenClaim := { program := "ytjhfomihlobjgaa", sum := "e87c46c301118bead0d36dd298b5d412148ead07d8a09246ae27a3c6a46d5a5a", func := "dovecote/dovecotelaw.FlashCopies", spec := "flashCopies", plainKeys := false, apart := false }
def FlashCopiesSaid : Prop := flashCopiesRow.holds Try.pinned (OpenSpec.ofChange flashCopiesSpec)

/-- ITS FALSE NEIGHBOUR: 'it returns false'. Refute it at one input. -/
def flashCopiesWrong : ChangeSpec := { name := "flashCopies", fn := fun _ => fun
  | [d] => { results := [.lit (.bool false)], args := [d] }
  | _ => none }
def FlashCopiesWrongFalsely : Prop := flashCopiesRow.holds Try.pinned (OpenSpec.ofChange flashCopiesWrong)

/-- 'dovecotelaw.StoreNew': WHATEVER THE INPUT: true; the input reads as it did. -/
def storeNewSpec : ChangeSpec := { name := "storeNew", fn := fun _ => fun
  | [d] => { results := [.lit (.bool true)], args := [d] }
  | _ => none }
def storeNewRow : OpenClaim := { program := "ytjhfomihlobjgaa", sum := "e87c46c301118bead0d36dd298b5d412148ead07d8a09246ae27a3c6a46d5a5a", func := "dovecote/dovecotelaw.StoreNew", spec := "storeNew", plainKeys := false, apart := false }
def StoreNewSaid : Prop := storeNewRow.holds Try.pinned (OpenSpec.ofChange storeNewSpec)

/-- ITS FALSE NEIGHBOUR: 'it returns false'. Refute it at one input. -/
def storeNewWrong : ChangeSpec := { name := "storeNew", fn := fun _ => fun
  | [d] => { results := [.lit (.bool false)], args := [d] }
  | _ => none }
def StoreNewWrongFalsely : Prop := storeNewRow.holds Try.pinned (OpenSpec.ofChange storeNewWrong)

/-- 'dovecotelaw.WireKeys': WHATEVER THE INPUT: true; the input reads as it did. -/
def wireKeysSpec : ChangeSpec := { name := "wireKeys", fn := fun _ => fun
  | [d] => { results := [.lit (.bool true)], args := [d] }
  | _ => none }
def wireKeysRow : OpenClaim := { program := "ytjhfomihlobjgaa", sum := "e87c46c301118bead0d36dd298b5d412148ead07d8a09246ae27a3c6a46d5a5a", func := "dovecote/dovecotelaw.WireKeys", spec := "wireKeys", unfollowed := true, recurses := true, plainKeys := false, apart := false }
def WireKeysSaid : Prop := wireKeysRow.holds Try.pinned (OpenSpec.ofChange wireKeysSpec)

/-- ITS FALSE NEIGHBOUR: 'it returns false'. Refute it at one input. -/
def wireKeysWrong : ChangeSpec := { name := "wireKeys", fn := fun _ => fun
  | [d] => { results := [.lit (.bool false)], args := [d] }
  | _ => none }
def WireKeysWrongFalsely : Prop := wireKeysRow.holds Try.pinned (OpenSpec.ofChange wireKeysWrong)

/-- 'dovecotelaw.StoreCopies': WHATEVER THE INPUT: true; the input reads as it did. -/
def storeCopiesSpec : ChangeSpec := { name := "storeCopies", fn := fun _ => fun
  | [d] => { results := [.lit (.bool true)], args := [d] }
  | _ => none }
def storeCopiesRow : OpenClaim := { program := "ytjhfomihlobjgaa", sum := "e87c46c301118bead0d36dd298b5d412148ead07d8a09246ae27a3c6a46d5a5a", func := "dovecote/dovecotelaw.StoreCopies", spec := "storeCopies", plainKeys := false, apart := false }
def StoreCopiesSaid : Prop := storeCopiesRow.holds Try.pinned (OpenSpec.ofChange storeCopiesSpec)

/-- ITS FALSE NEIGHBOUR: 'it returns false'. Refute it at one input. -/
def storeCopiesWrong : ChangeSpec := { name := "storeCopies", fn := fun _ => fun
  | [d] => { results := [.lit (.bool false)], args := [d] }
  | _ => none }
def StoreCopiesWrongFalsely : Prop := storeCopiesRow.holds Try.pinned (OpenSpec.ofChange storeCopiesWrong)

/-- 'dovecotelaw.FlashChecks': WHATEVER THE INPUT: true; the input reads as it did. -/
def flashChecksSpec : ChangeSpec := { name := "flashChecks", fn := fun _ => fun
  | [d] => { results := [.lit (.bool true)], args := [d] }
  | _ => none }
def flashChecksRow : OpenClaim := { program := "ytjhfomihlobjgaa", sum := "e87c46c301118bead0d36dd298b5d412148ead07d8a09246ae27a3c6a46d5a5a", func := "dovecote/dovecotelaw.FlashChecks", spec := "flashChecks", plainKeys := false, apart := false }
def FlashChecksSaid : Prop := flashChecksRow.holds Try.pinned (OpenSpec.ofChange flashChecksSpec)

/-- ITS FALSE NEIGHBOUR: 'it returns false'. Refute it at one input. -/
def flashChecksWrong : ChangeSpec := { name := "flashChecks", fn := fun _ => fun
  | [d] => { results := [.lit (.bool false)], args := [d] }
  | _ => none }
def FlashChecksWrongFalsely : Prop := flashChecksRow.holds Try.pinned (OpenSpec.ofChange flashChecksWrong)

/-- 'dovecotelaw.WireChecks': WHATEVER THE INPUT: true; the input reads as it did. -/
def wireChecksSpec : ChangeSpec := { name := "wireChecks", fn := fun _ => fun
  | [d] => { results := [.lit (.bool true)], args := [d] }
  | _ => none }
def wireChecksRow : OpenClaim := { program := "ytjhfomihlobjgaa", sum := "e87c46c301118bead0d36dd298b5d412148ead07d8a09246ae27a3c6a46d5a5a", func := "dovecote/dovecotelaw.WireChecks", spec := "wireChecks", unfollowed := true, recurses := true, plainKeys := false, apart := false }
def WireChecksSaid : Prop := wireChecksRow.holds Try.pinned (OpenSpec.ofChange wireChecksSpec)

/-- ITS FALSE NEIGHBOUR: 'it returns false'. Refute it at one input. -/
def wireChecksWrong : ChangeSpec := { name := "wireChecks", fn := fun _ => fun
  | [d] => { results := [.lit (.bool false)], args := [d] }
  | _ => none }
def WireChecksWrongFalsely : Prop := wireChecksRow.holds Try.pinned (OpenSpec.ofChange wireChecksWrong)

/-- 'dovecotelaw.FlashReads': WHATEVER THE INPUT: true; the input reads as it did. -/
def flashReadsSpec : ChangeSpec := { name := "flashReads", fn := fun _ => fun
  | [d1, d2] => { results := [.lit (.bool true)], args := [d1, d2] }
  | _ => none }
def flashReadsRow : OpenClaim := { program := "ytjhfomihlobjgaa", sum := "e87c46c301118bead0d36dd298b5d412148ead07d8a09246ae27a3c6a46d5a5a", func := "dovecote/dovecotelaw.FlashReads", spec := "flashReads", unfollowed := true, recurses := true, plainKeys := false, apart := false }
def FlashReadsSaid : Prop := flashReadsRow.holds Try.pinned (OpenSpec.ofChange flashReadsSpec)

/-- ITS FALSE NEIGHBOUR: 'it returns false'. Refute it at one input. -/
def flashReadsWrong : ChangeSpec := { name := "flashReads", fn := fun _ => fun
  | [d1, d2] => { results := [.lit (.bool false)], args := [d1, d2] }
  | _ => none }
def FlashReadsWrongFalsely : Prop := flashReadsRow.holds Try.pinned (OpenSpec.ofChange flashReadsWrong)

/-- 'dovecotelaw.FlashAppends': WHATEVER THE INPUT: true; the input reads as it did. -/
def flashAppendsSpec : ChangeSpec := { name := "flashAppends", fn := fun _ => fun
  | [d1, d2] => { results := [.lit (.bool true)], args := [d1, d2] }
  | _ => none }
def flashAppendsRow : OpenClaim := { program := "ytjhfomihlobjgaa", sum := "e87c46c301118bead0d36dd298b5d412148ead07d8a09246ae27a3c6a46d5a5a", func := "dovecote/dovecotelaw.FlashAppends", spec := "flashAppends", plainKeys := false, apart := false }
def FlashAppendsSaid : Prop := flashAppendsRow.holds Try.pinned (OpenSpec.ofChange flashAppendsSpec)

/-- ITS FALSE NEIGHBOUR: 'it returns false'. Refute it at one input. -/
def flashAppendsWrong : ChangeSpec := { name := "flashAppends", fn := fun _ => fun
  | [d1, d2] => { results := [.lit (.bool false)], args := [d1, d2] }
  | _ => none }
def FlashAppendsWrongFalsely : Prop := flashAppendsRow.holds Try.pinned (OpenSpec.ofChange flashAppendsWrong)

/-- 'dovecotekeep.FlashKeeps': WHATEVER THE INPUT: true; the input reads as it did. -/
def flashKeepsSpec : ChangeSpec := { name := "flashKeeps", fn := fun _ => fun
  | [d1, d2] => { results := [.lit (.bool true)], args := [d1, d2] }
  | _ => none }
def flashKeepsRow : OpenClaim := { program := "ytjhfomihlobjgaa", sum := "e87c46c301118bead0d36dd298b5d412148ead07d8a09246ae27a3c6a46d5a5a", func := "dovecote/dovecotekeep.FlashKeeps", spec := "flashKeeps", inPlace := ["internal/abi.NoEscape", "internal/bytealg.MakeNoZero"], unfollowed := true, recurses := true, plainKeys := false, apart := false }
def FlashKeepsSaid : Prop := flashKeepsRow.holds Try.pinned (OpenSpec.ofChange flashKeepsSpec)

/-- ITS FALSE NEIGHBOUR: 'it returns false'. Refute it at one input. -/
def flashKeepsWrong : ChangeSpec := { name := "flashKeeps", fn := fun _ => fun
  | [d1, d2] => { results := [.lit (.bool false)], args := [d1, d2] }
  | _ => none }
def FlashKeepsWrongFalsely : Prop := flashKeepsRow.holds Try.pinned (OpenSpec.ofChange flashKeepsWrong)

/- THE SECOND FORM. 'bulk': how many values and letters a reading holds, each counted each time it is reached (what is shared counts as often as it is met; a slice's spare places count too). A statement '..UptoSaid' is the law's where the arguments, and the package variables that the reading takes, are together of bulk at most 1048576: NARROWER than '..Said'. Prove '..Said' where nothing that the law and all that it calls make is longer than what came in: it says more and counts as full. Else prove '..UptoSaid'. A law counts once. -/
mutual
def uptoBulk {H : Type} : DataW H → Nat
  | .lit (.string bytes) => bytes.length + 1
  | .lit _ => 1
  | .nil => 1
  | .ptr d => uptoBulk d + 1
  | .slice elems spare => uptoBulkAll elems + uptoBulkAll spare + 1
  | .agg parts => uptoBulkAll parts + 1
  | .iface _ d => uptoBulk d + 1
  | .map entries => uptoBulkEntries entries + 1
  | .held _ => 1
def uptoBulkAll {H : Type} : List (DataW H) → Nat
  | [] => 0
  | d :: r => uptoBulk d + uptoBulkAll r
def uptoBulkEntries {H : Type} : List (Lit × DataW H) → Nat
  | [] => 0
  | x :: r => uptoBulkEntry x + uptoBulkEntries r
def uptoBulkEntry {H : Type} : Lit × DataW H → Nat
  | (.string bytes, d) => bytes.length + uptoBulk d + 1
  | (_, d) => uptoBulk d + 1
 end
def uptoSmall : (H : Type) → List (DataW H) → Bool := fun _ ds => decide (uptoBulkAll ds ≤ 1048576)
def OpenSpec.upto (s : _root_.Go.ChangeSpec) : _root_.Go.OpenSpec := { _root_.Go.OpenSpec.ofChange s with cond := some uptoSmall }

/-- 'dovecotelaw.Names', WHERE WHAT IT READS IS OF BULK AT MOST 1048576: true; the input reads as it did. -/
def namesUptoRow : OpenClaim := { program := "ytjhfomihlobjgaa", sum := "e87c46c301118bead0d36dd298b5d412148ead07d8a09246ae27a3c6a46d5a5a", func := "dovecote/dovecotelaw.Names", spec := "names", plainKeys := false, apart := false, narrowed := true }
def NamesUptoSaid : Prop := namesUptoRow.holds Try.pinned (OpenSpec.upto namesSpec)

/-- 'dovecotelaw.FlashNew', WHERE WHAT IT READS IS OF BULK AT MOST 1048576: true; the input reads as it did. -/
def flashNewUptoRow : OpenClaim := { program := "ytjhfomihlobjgaa", sum := "e87c46c301118bead0d36dd298b5d412148ead07d8a09246ae27a3c6a46d5a5a", func := "dovecote/dovecotelaw.FlashNew", spec := "flashNew", plainKeys := false, apart := false, narrowed := true }
def FlashNewUptoSaid : Prop := flashNewUptoRow.holds Try.pinned (OpenSpec.upto flashNewSpec)

/-- 'dovecotelaw.FlashCopies', WHERE WHAT IT READS IS OF BULK AT MOST 1048576: true; the input reads as it did. -/
def flashCopiesUptoRow : OpenClaim := { program := "ytjhfomihlobjgaa", sum := "e87c46c301118bead0d36dd298b5d412148ead07d8a09246ae27a3c6a46d5a5a", func := "dovecote/dovecotelaw.FlashCopies", spec := "flashCopies", plainKeys := false, apart := false, narrowed := true }
def FlashCopiesUptoSaid : Prop := flashCopiesUptoRow.holds Try.pinned (OpenSpec.upto flashCopiesSpec)

/-- 'dovecotelaw.StoreNew', WHERE WHAT IT READS IS OF BULK AT MOST 1048576: true; the input reads as it did. -/
def storeNewUptoRow : OpenClaim := { program := "ytjhfomihlobjgaa", sum := "e87c46c301118bead0d36dd298b5d412148ead07d8a09246ae27a3c6a46d5a5a", func := "dovecote/dovecotelaw.StoreNew", spec := "storeNew", plainKeys := false, apart := false, narrowed := true }
def StoreNewUptoSaid : Prop := storeNewUptoRow.holds Try.pinned (OpenSpec.upto storeNewSpec)

/-- 'dovecotelaw.WireKeys', WHERE WHAT IT READS IS OF BULK AT MOST 1048576: true; the input reads as it did. -/
def wireKeysUptoRow : OpenClaim := { program := "ytjhfomihlobjgaa", sum := "e87c46c301118bead0d36dd298b5d412148ead07d8a09246ae27a3c6a46d5a5a", func := "dovecote/dovecotelaw.WireKeys", spec := "wireKeys", unfollowed := true, recurses := true, plainKeys := false, apart := false, narrowed := true }
def WireKeysUptoSaid : Prop := wireKeysUptoRow.holds Try.pinned (OpenSpec.upto wireKeysSpec)

/-- 'dovecotelaw.StoreCopies', WHERE WHAT IT READS IS OF BULK AT MOST 1048576: true; the input reads as it did. -/
def storeCopiesUptoRow : OpenClaim := { program := "ytjhfomihlobjgaa", sum := "e87c46c301118bead0d36dd298b5d412148ead07d8a09246ae27a3c6a46d5a5a", func := "dovecote/dovecotelaw.StoreCopies", spec := "storeCopies", plainKeys := false, apart := false, narrowed := true }
def StoreCopiesUptoSaid : Prop := storeCopiesUptoRow.holds Try.pinned (OpenSpec.upto storeCopiesSpec)

/-- 'dovecotelaw.FlashChecks', WHERE WHAT IT READS IS OF BULK AT MOST 1048576: true; the input reads as it did. -/
def flashChecksUptoRow : OpenClaim := { program := "ytjhfomihlobjgaa", sum := "e87c46c301118bead0d36dd298b5d412148ead07d8a09246ae27a3c6a46d5a5a", func := "dovecote/dovecotelaw.FlashChecks", spec := "flashChecks", plainKeys := false, apart := false, narrowed := true }
def FlashChecksUptoSaid : Prop := flashChecksUptoRow.holds Try.pinned (OpenSpec.upto flashChecksSpec)

/-- 'dovecotelaw.WireChecks', WHERE WHAT IT READS IS OF BULK AT MOST 1048576: true; the input reads as it did. -/
def wireChecksUptoRow : OpenClaim := { program := "ytjhfomihlobjgaa", sum := "e87c46c301118bead0d36dd298b5d412148ead07d8a09246ae27a3c6a46d5a5a", func := "dovecote/dovecotelaw.WireChecks", spec := "wireChecks", unfollowed := true, recurses := true, plainKeys := false, apart := false, narrowed := true }
def WireChecksUptoSaid : Prop := wireChecksUptoRow.holds Try.pinned (OpenSpec.upto wireChecksSpec)

/-- 'dovecotelaw.FlashReads', WHERE WHAT IT READS IS OF BULK AT MOST 1048576: true; the input reads as it did. -/
def flashReadsUptoRow : OpenClaim := { program := "ytjhfomihlobjgaa", sum := "e87c46c301118bead0d36dd298b5d412148ead07d8a09246ae27a3c6a46d5a5a", func := "dovecote/dovecotelaw.FlashReads", spec := "flashReads", unfollowed := true, recurses := true, plainKeys := false, apart := false, narrowed := true }
def FlashReadsUptoSaid : Prop := flashReadsUptoRow.holds Try.pinned (OpenSpec.upto flashReadsSpec)

/-- 'dovecotelaw.FlashAppends', WHERE WHAT IT READS IS OF BULK AT MOST 1048576: true; the input reads as it did. -/
def flashAppendsUptoRow : OpenClaim := { program := "ytjhfomihlobjgaa", sum := "e87c46c301118bead0d36dd298b5d412148ead07d8a09246ae27a3c6a46d5a5a", func := "dovecote/dovecotelaw.FlashAppends", spec := "flashAppends", plainKeys := false, apart := false, narrowed := true }
def FlashAppendsUptoSaid : Prop := flashAppendsUptoRow.holds Try.pinned (OpenSpec.upto flashAppendsSpec)

/-- 'dovecotekeep.FlashKeeps', WHERE WHAT IT READS IS OF BULK AT MOST 1048576: true; the input reads as it did. -/
def flashKeepsUptoRow : OpenClaim := { program := "ytjhfomihlobjgaa", sum := "e87c46c301118bead0d36dd298b5d412148ead07d8a09246ae27a3c6a46d5a5a", func := "dovecote/dovecotekeep.FlashKeeps", spec := "flashKeeps", inPlace := ["internal/abi.NoEscape", "internal/bytealg.MakeNoZero"], unfollowed := true, recurses := true, plainKeys := false, apart := false, narrowed := true }
def FlashKeepsUptoSaid : Prop := flashKeepsUptoRow.holds Try.pinned (OpenSpec.upto flashKeepsSpec)

end Rows
end Go.Proofs.Ytjhfomihlobjgaa
