/-
  DERIVED. GIVEN WITH THE SEED: THE CARDS: each row of YtbeegfkfpkfccaaDoorRows.lean that lists a variable, with what it lists TIED to the program's text (the seventh form; the later family's looks); each row that meets fmt, with fmt's text TOLD by the authors' own Lean function (tested against real Go, not proved from fmt's source: count such statements apart). THE CARD IS WHAT COUNTS. Prove the row's statement (the work); the ties are given (YtbeegfkfpkfccaaDoorTie.lean); close each card by the builder's one call (the guide's Derived/Test/ToyasCard.lean, 'card_holds'). Laid BY PROGRAM, IN A SANDBOX (cutbox-door.mjs). By AI agents, Wed Nov 11 2026. No macro, syntax, notation, axiom, sorry.
-/
import Derived.Test.YtbeegfkfpkfccaaDoorRows
import GoSem.ClaimSeven
namespace Go.Proofs.YtbeegfkfpkfccaaDoor
namespace Rows

/-- THE TIED CARD OF 'dovecotekeep.FarSame'. -/
def farSameCard : Claim7 := { stood := { row := farSameRow, standIns := [], harness := (true, "deb23e51240497af00b14340e784e90390aa6c017145d604a7b6e65bcadf2b59"), looks := true }, kinds := [], alts := [], laidByText := true, laidKinds := [.data, .data, .data, .sentinel, .sentinel, .widerDeep], laidTests := true, laidLooks := .later }
def FarSameCardSaid : Prop := Claim7.holds Tryd.pinned (.plain (OpenSpec.ofChange farSameSpec)) farSameCard

/-- THE TIED CARD OF 'dovecotekeep.OldestGoes'. -/
def oldestGoesCard : Claim7 := { stood := { row := oldestGoesRow, standIns := [], harness := (true, "deb23e51240497af00b14340e784e90390aa6c017145d604a7b6e65bcadf2b59"), looks := true }, kinds := [], alts := [], laidByText := true, laidKinds := [.data, .data, .data, .sentinel, .sentinel, .widerDeep], laidTests := true, laidLooks := .later }
def OldestGoesCardSaid : Prop := Claim7.holds Tryd.pinned (.plain (OpenSpec.ofChange oldestGoesSpec)) oldestGoesCard

/-- THE TIED CARD OF 'dovecotekeep.Counts'. -/
def countsCard : Claim7 := { stood := { row := countsRow, standIns := [], harness := (true, "deb23e51240497af00b14340e784e90390aa6c017145d604a7b6e65bcadf2b59"), looks := true }, kinds := [], alts := [], laidByText := true, laidKinds := [.data, .data, .data, .sentinel, .sentinel, .widerDeep], laidTests := true, laidLooks := .later }
def CountsCardSaid : Prop := Claim7.holds Tryd.pinned (.plain (OpenSpec.ofChange countsSpec)) countsCard

/-- THE SECOND FORM's CARD OF 'dovecotekeep.FarSame'. -/
def farSameUptoCard : Claim7 := { stood := { row := farSameUptoRow, standIns := [], harness := (true, "deb23e51240497af00b14340e784e90390aa6c017145d604a7b6e65bcadf2b59"), looks := true }, kinds := [], alts := [], laidByText := true, laidKinds := [.data, .data, .data, .sentinel, .sentinel, .widerDeep], laidTests := true, laidLooks := .later }
def FarSameUptoCardSaid : Prop := Claim7.holds Tryd.pinned (.plain (OpenSpec.upto farSameSpec)) farSameUptoCard

/-- THE SECOND FORM's CARD OF 'dovecotekeep.OldestGoes'. -/
def oldestGoesUptoCard : Claim7 := { stood := { row := oldestGoesUptoRow, standIns := [], harness := (true, "deb23e51240497af00b14340e784e90390aa6c017145d604a7b6e65bcadf2b59"), looks := true }, kinds := [], alts := [], laidByText := true, laidKinds := [.data, .data, .data, .sentinel, .sentinel, .widerDeep], laidTests := true, laidLooks := .later }
def OldestGoesUptoCardSaid : Prop := Claim7.holds Tryd.pinned (.plain (OpenSpec.upto oldestGoesSpec)) oldestGoesUptoCard

/-- THE SECOND FORM's CARD OF 'dovecotekeep.Counts'. -/
def countsUptoCard : Claim7 := { stood := { row := countsUptoRow, standIns := [], harness := (true, "deb23e51240497af00b14340e784e90390aa6c017145d604a7b6e65bcadf2b59"), looks := true }, kinds := [], alts := [], laidByText := true, laidKinds := [.data, .data, .data, .sentinel, .sentinel, .widerDeep], laidTests := true, laidLooks := .later }
def CountsUptoCardSaid : Prop := Claim7.holds Tryd.pinned (.plain (OpenSpec.upto countsSpec)) countsUptoCard
end Rows
end Go.Proofs.YtbeegfkfpkfccaaDoor
