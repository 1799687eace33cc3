/-
  DERIVED. GIVEN WITH THE SEED: THE CARDS: each row of YtbeegfkfpkfccaaGreatDoorRows.lean that lists a variable, with what it lists TIED to the program's text (the seventh form; the later family's looks); each row that meets fmt, with fmt's text TOLD by the authors' own Lean function (tested against real Go, not proved from fmt's source: count such statements apart). THE CARD IS WHAT COUNTS. Prove the row's statement (the work); the ties are given (YtbeegfkfpkfccaaGreatDoorTie.lean); close each card by the builder's one call (the guide's Derived/Test/ToyasCard.lean, 'card_holds'). Laid BY PROGRAM, IN A SANDBOX (cutbox-door.mjs). By AI agents, Wed Nov 11 2026. No macro, syntax, notation, axiom, sorry.
-/
import Derived.Test.YtbeegfkfpkfccaaGreatDoorRows
import GoSem.ClaimSeven
namespace Go.Proofs.YtbeegfkfpkfccaaGreatDoor
namespace Rows

/-- THE TIED CARD OF 'dovecotelaw.StoreDoes'. -/
def storeDoesCard : Claim7 := { stood := { row := storeDoesRow, standIns := [], harness := (true, "52d27f6bb7f428b710ad0d1b80e3078ea9e67027beac1af289d3b7898ad06060"), looks := true }, kinds := [], alts := [], laidByText := true, laidKinds := [.data, .data, .data, .sentinel, .sentinel, .widerDeep], laidTests := true, laidLooks := .later }
def StoreDoesCardSaid : Prop := Claim7.holds Tryz.pinned (.plain (OpenSpec.ofChange storeDoesSpec)) storeDoesCard

/-- THE TIED CARD OF 'dovecotekeep.StoreGood'. -/
def storeGoodCard : Claim7 := { stood := { row := storeGoodRow, standIns := [], harness := (true, "52d27f6bb7f428b710ad0d1b80e3078ea9e67027beac1af289d3b7898ad06060"), looks := true }, kinds := [], alts := [], laidByText := true, laidKinds := [.data, .data, .data, .sentinel, .sentinel, .widerDeep], laidTests := true, laidLooks := .later }
def StoreGoodCardSaid : Prop := Claim7.holds Tryz.pinned (.plain (OpenSpec.ofChange storeGoodSpec)) storeGoodCard

/-- THE TIED CARD OF 'dovecotekeep.SetGets'. -/
def setGetsCard : Claim7 := { stood := { row := setGetsRow, standIns := [], harness := (true, "52d27f6bb7f428b710ad0d1b80e3078ea9e67027beac1af289d3b7898ad06060"), looks := true }, kinds := [], alts := [], laidByText := true, laidKinds := [.data, .data, .data, .sentinel, .sentinel, .widerDeep], laidTests := true, laidLooks := .later }
def SetGetsCardSaid : Prop := Claim7.holds Tryz.pinned (.plain (OpenSpec.ofChange setGetsSpec)) setGetsCard

/-- THE TIED CARD OF 'dovecotekeep.CasOnce'. -/
def casOnceCard : Claim7 := { stood := { row := casOnceRow, standIns := [], harness := (true, "52d27f6bb7f428b710ad0d1b80e3078ea9e67027beac1af289d3b7898ad06060"), looks := true }, kinds := [], alts := [], laidByText := true, laidKinds := [.data, .data, .data, .sentinel, .sentinel, .widerDeep], laidTests := true, laidLooks := .later }
def CasOnceCardSaid : Prop := Claim7.holds Tryz.pinned (.plain (OpenSpec.ofChange casOnceSpec)) casOnceCard

/-- THE TIED CARD OF 'dovecotekeep.AddsOnce'. -/
def addsOnceCard : Claim7 := { stood := { row := addsOnceRow, standIns := [], harness := (true, "52d27f6bb7f428b710ad0d1b80e3078ea9e67027beac1af289d3b7898ad06060"), looks := true }, kinds := [], alts := [], laidByText := true, laidKinds := [.data, .data, .data, .sentinel, .sentinel, .widerDeep], laidTests := true, laidLooks := .later }
def AddsOnceCardSaid : Prop := Claim7.holds Tryz.pinned (.plain (OpenSpec.ofChange addsOnceSpec)) addsOnceCard

/-- THE TIED CARD OF 'dovecotekeep.DeletesGo'. -/
def deletesGoCard : Claim7 := { stood := { row := deletesGoRow, standIns := [], harness := (true, "52d27f6bb7f428b710ad0d1b80e3078ea9e67027beac1af289d3b7898ad06060"), looks := true }, kinds := [], alts := [], laidByText := true, laidKinds := [.data, .data, .data, .sentinel, .sentinel, .widerDeep], laidTests := true, laidLooks := .later }
def DeletesGoCardSaid : Prop := Claim7.holds Tryz.pinned (.plain (OpenSpec.ofChange deletesGoSpec)) deletesGoCard

/-- THE TIED CARD OF 'dovecotekeep.SnapsBack'. -/
def snapsBackCard : Claim7 := { stood := { row := snapsBackRow, standIns := [], harness := (true, "52d27f6bb7f428b710ad0d1b80e3078ea9e67027beac1af289d3b7898ad06060"), looks := true }, kinds := [], alts := [], laidByText := true, laidKinds := [.data, .data, .data, .sentinel, .sentinel, .widerDeep], laidTests := true, laidLooks := .later }
def SnapsBackCardSaid : Prop := Claim7.holds Tryz.pinned (.plain (OpenSpec.ofChange snapsBackSpec)) snapsBackCard

/-- THE SECOND FORM's CARD OF 'dovecotelaw.StoreDoes'. -/
def storeDoesUptoCard : Claim7 := { stood := { row := storeDoesUptoRow, standIns := [], harness := (true, "52d27f6bb7f428b710ad0d1b80e3078ea9e67027beac1af289d3b7898ad06060"), looks := true }, kinds := [], alts := [], laidByText := true, laidKinds := [.data, .data, .data, .sentinel, .sentinel, .widerDeep], laidTests := true, laidLooks := .later }
def StoreDoesUptoCardSaid : Prop := Claim7.holds Tryz.pinned (.plain (OpenSpec.upto storeDoesSpec)) storeDoesUptoCard

/-- THE SECOND FORM's CARD OF 'dovecotekeep.StoreGood'. -/
def storeGoodUptoCard : Claim7 := { stood := { row := storeGoodUptoRow, standIns := [], harness := (true, "52d27f6bb7f428b710ad0d1b80e3078ea9e67027beac1af289d3b7898ad06060"), looks := true }, kinds := [], alts := [], laidByText := true, laidKinds := [.data, .data, .data, .sentinel, .sentinel, .widerDeep], laidTests := true, laidLooks := .later }
def StoreGoodUptoCardSaid : Prop := Claim7.holds Tryz.pinned (.plain (OpenSpec.upto storeGoodSpec)) storeGoodUptoCard

/-- THE SECOND FORM's CARD OF 'dovecotekeep.SetGets'. -/
def setGetsUptoCard : Claim7 := { stood := { row := setGetsUptoRow, standIns := [], harness := (true, "52d27f6bb7f428b710ad0d1b80e3078ea9e67027beac1af289d3b7898ad06060"), looks := true }, kinds := [], alts := [], laidByText := true, laidKinds := [.data, .data, .data, .sentinel, .sentinel, .widerDeep], laidTests := true, laidLooks := .later }
def SetGetsUptoCardSaid : Prop := Claim7.holds Tryz.pinned (.plain (OpenSpec.upto setGetsSpec)) setGetsUptoCard

/-- THE SECOND FORM's CARD OF 'dovecotekeep.CasOnce'. -/
def casOnceUptoCard : Claim7 := { stood := { row := casOnceUptoRow, standIns := [], harness := (true, "52d27f6bb7f428b710ad0d1b80e3078ea9e67027beac1af289d3b7898ad06060"), looks := true }, kinds := [], alts := [], laidByText := true, laidKinds := [.data, .data, .data, .sentinel, .sentinel, .widerDeep], laidTests := true, laidLooks := .later }
def CasOnceUptoCardSaid : Prop := Claim7.holds Tryz.pinned (.plain (OpenSpec.upto casOnceSpec)) casOnceUptoCard

/-- THE SECOND FORM's CARD OF 'dovecotekeep.AddsOnce'. -/
def addsOnceUptoCard : Claim7 := { stood := { row := addsOnceUptoRow, standIns := [], harness := (true, "52d27f6bb7f428b710ad0d1b80e3078ea9e67027beac1af289d3b7898ad06060"), looks := true }, kinds := [], alts := [], laidByText := true, laidKinds := [.data, .data, .data, .sentinel, .sentinel, .widerDeep], laidTests := true, laidLooks := .later }
def AddsOnceUptoCardSaid : Prop := Claim7.holds Tryz.pinned (.plain (OpenSpec.upto addsOnceSpec)) addsOnceUptoCard

/-- THE SECOND FORM's CARD OF 'dovecotekeep.DeletesGo'. -/
def deletesGoUptoCard : Claim7 := { stood := { row := deletesGoUptoRow, standIns := [], harness := (true, "52d27f6bb7f428b710ad0d1b80e3078ea9e67027beac1af289d3b7898ad06060"), looks := true }, kinds := [], alts := [], laidByText := true, laidKinds := [.data, .data, .data, .sentinel, .sentinel, .widerDeep], laidTests := true, laidLooks := .later }
def DeletesGoUptoCardSaid : Prop := Claim7.holds Tryz.pinned (.plain (OpenSpec.upto deletesGoSpec)) deletesGoUptoCard

/-- THE SECOND FORM's CARD OF 'dovecotekeep.SnapsBack'. -/
def snapsBackUptoCard : Claim7 := { stood := { row := snapsBackUptoRow, standIns := [], harness := (true, "52d27f6bb7f428b710ad0d1b80e3078ea9e67027beac1af289d3b7898ad06060"), looks := true }, kinds := [], alts := [], laidByText := true, laidKinds := [.data, .data, .data, .sentinel, .sentinel, .widerDeep], laidTests := true, laidLooks := .later }
def SnapsBackUptoCardSaid : Prop := Claim7.holds Tryz.pinned (.plain (OpenSpec.upto snapsBackSpec)) snapsBackUptoCard
end Rows
end Go.Proofs.YtbeegfkfpkfccaaGreatDoor
