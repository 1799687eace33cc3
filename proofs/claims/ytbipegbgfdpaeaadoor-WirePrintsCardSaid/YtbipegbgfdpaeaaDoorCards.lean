/-
  DERIVED. GIVEN WITH THE SEED: THE CARDS: each row of YtbipegbgfdpaeaaDoorRows.lean that lists a variable, with what it lists TIED to the program's text (the seventh form; the later family's looks); each row that meets fmt, with fmt's text TOLD by the authors' own Lean function (tested against real Go, not proved from fmt's source: count such statements apart). THE CARD IS WHAT COUNTS. Prove the row's statement (the work); the ties are given (YtbipegbgfdpaeaaDoorTie.lean); close each card by the builder's one call (the guide's Derived/Test/ToyasCard.lean, 'card_holds'). Laid BY PROGRAM, IN A SANDBOX (cutbox-door.mjs). By AI agents, Wed Nov 11 2026. No macro, syntax, notation, axiom, sorry.
-/
import Derived.Test.YtbipegbgfdpaeaaDoorRows
import GoSem.ClaimSeven
namespace Go.Proofs.YtbipegbgfdpaeaaDoor
namespace Rows

/-- THE TIED CARD OF 'dovecotelaw.StoreClasses'. -/
def storeClassesCard : Claim7 := { stood := { row := storeClassesRow, standIns := [], harness := (true, "a8fde9b3dbec2816959bb76f1a3985a7e1cc86ade0a0acebdebbb64af2187c1c"), looks := false }, kinds := [], alts := [], laidByText := true, laidKinds := [.widerDeep], laidTests := true, laidLooks := .later }
def StoreClassesCardSaid : Prop := Claim7.holds Tryd.pinned (.plain (OpenSpec.ofChange storeClassesSpec)) storeClassesCard

/-- THE TIED CARD OF 'dovecotelaw.StoreChecks'. -/
def storeChecksCard : Claim7 := { stood := { row := storeChecksRow, standIns := [], harness := (true, "a8fde9b3dbec2816959bb76f1a3985a7e1cc86ade0a0acebdebbb64af2187c1c"), looks := false }, kinds := [], alts := [], laidByText := true, laidKinds := [.widerDeep], laidTests := true, laidLooks := .later }
def StoreChecksCardSaid : Prop := Claim7.holds Tryd.pinned (.plain (OpenSpec.ofChange storeChecksSpec)) storeChecksCard

/-- THE TIED CARD OF 'dovecotelaw.StoreTicks'. -/
def storeTicksCard : Claim7 := { stood := { row := storeTicksRow, standIns := [], harness := (true, "a8fde9b3dbec2816959bb76f1a3985a7e1cc86ade0a0acebdebbb64af2187c1c"), looks := false }, kinds := [], alts := [], laidByText := true, laidKinds := [.widerDeep], laidTests := true, laidLooks := .later }
def StoreTicksCardSaid : Prop := Claim7.holds Tryd.pinned (.plain (OpenSpec.ofChange storeTicksSpec)) storeTicksCard

/-- THE TIED CARD OF 'dovecotelaw.SnapEncodes'. -/
def snapEncodesCard : Claim7 := { stood := { row := snapEncodesRow, standIns := [], harness := (true, "a8fde9b3dbec2816959bb76f1a3985a7e1cc86ade0a0acebdebbb64af2187c1c"), looks := false }, kinds := [], alts := [], laidByText := true, laidKinds := [.widerDeep], laidTests := true, laidLooks := .later }
def SnapEncodesCardSaid : Prop := Claim7.holds Tryd.pinned (.plain (OpenSpec.ofChange snapEncodesSpec)) snapEncodesCard

/-- THE TIED CARD OF 'dovecotelaw.SnapDecodes'. -/
def snapDecodesCard : Claim7 := { stood := { row := snapDecodesRow, standIns := [], harness := (true, "a8fde9b3dbec2816959bb76f1a3985a7e1cc86ade0a0acebdebbb64af2187c1c"), looks := false }, kinds := [], alts := [], laidByText := true, laidKinds := [.widerDeep], laidTests := true, laidLooks := .later }
def SnapDecodesCardSaid : Prop := Claim7.holds Tryd.pinned (.plain (OpenSpec.ofChange snapDecodesSpec)) snapDecodesCard

/-- THE TIED CARD OF 'dovecotelaw.WirePrints'. -/
def wirePrintsCard : Claim7 := { stood := { row := wirePrintsRow, standIns := [], harness := (true, "a8fde9b3dbec2816959bb76f1a3985a7e1cc86ade0a0acebdebbb64af2187c1c"), looks := false }, kinds := [], alts := [], laidByText := true, laidKinds := [.data, .data, .data, .data], laidTests := true, laidLooks := .later }
def WirePrintsCardSaid : Prop := Claim7.holds Tryd.pinned (.plain (OpenSpec.ofChange wirePrintsSpec)) wirePrintsCard

/-- THE TIED CARD OF 'dovecotekeep.SnapsOnce'. -/
def snapsOnceCard : Claim7 := { stood := { row := snapsOnceRow, standIns := [], harness := (true, "a8fde9b3dbec2816959bb76f1a3985a7e1cc86ade0a0acebdebbb64af2187c1c"), looks := false }, kinds := [], alts := [], laidByText := true, laidKinds := [.widerDeep], laidTests := true, laidLooks := .later }
def SnapsOnceCardSaid : Prop := Claim7.holds Tryd.pinned (.plain (OpenSpec.ofChange snapsOnceSpec)) snapsOnceCard

/-- THE SECOND FORM's CARD OF 'dovecotelaw.StoreClasses'. -/
def storeClassesUptoCard : Claim7 := { stood := { row := storeClassesUptoRow, standIns := [], harness := (true, "a8fde9b3dbec2816959bb76f1a3985a7e1cc86ade0a0acebdebbb64af2187c1c"), looks := false }, kinds := [], alts := [], laidByText := true, laidKinds := [.widerDeep], laidTests := true, laidLooks := .later }
def StoreClassesUptoCardSaid : Prop := Claim7.holds Tryd.pinned (.plain (OpenSpec.upto storeClassesSpec)) storeClassesUptoCard

/-- THE SECOND FORM's CARD OF 'dovecotelaw.StoreChecks'. -/
def storeChecksUptoCard : Claim7 := { stood := { row := storeChecksUptoRow, standIns := [], harness := (true, "a8fde9b3dbec2816959bb76f1a3985a7e1cc86ade0a0acebdebbb64af2187c1c"), looks := false }, kinds := [], alts := [], laidByText := true, laidKinds := [.widerDeep], laidTests := true, laidLooks := .later }
def StoreChecksUptoCardSaid : Prop := Claim7.holds Tryd.pinned (.plain (OpenSpec.upto storeChecksSpec)) storeChecksUptoCard

/-- THE SECOND FORM's CARD OF 'dovecotelaw.StoreTicks'. -/
def storeTicksUptoCard : Claim7 := { stood := { row := storeTicksUptoRow, standIns := [], harness := (true, "a8fde9b3dbec2816959bb76f1a3985a7e1cc86ade0a0acebdebbb64af2187c1c"), looks := false }, kinds := [], alts := [], laidByText := true, laidKinds := [.widerDeep], laidTests := true, laidLooks := .later }
def StoreTicksUptoCardSaid : Prop := Claim7.holds Tryd.pinned (.plain (OpenSpec.upto storeTicksSpec)) storeTicksUptoCard

/-- THE SECOND FORM's CARD OF 'dovecotelaw.SnapEncodes'. -/
def snapEncodesUptoCard : Claim7 := { stood := { row := snapEncodesUptoRow, standIns := [], harness := (true, "a8fde9b3dbec2816959bb76f1a3985a7e1cc86ade0a0acebdebbb64af2187c1c"), looks := false }, kinds := [], alts := [], laidByText := true, laidKinds := [.widerDeep], laidTests := true, laidLooks := .later }
def SnapEncodesUptoCardSaid : Prop := Claim7.holds Tryd.pinned (.plain (OpenSpec.upto snapEncodesSpec)) snapEncodesUptoCard

/-- THE SECOND FORM's CARD OF 'dovecotelaw.SnapDecodes'. -/
def snapDecodesUptoCard : Claim7 := { stood := { row := snapDecodesUptoRow, standIns := [], harness := (true, "a8fde9b3dbec2816959bb76f1a3985a7e1cc86ade0a0acebdebbb64af2187c1c"), looks := false }, kinds := [], alts := [], laidByText := true, laidKinds := [.widerDeep], laidTests := true, laidLooks := .later }
def SnapDecodesUptoCardSaid : Prop := Claim7.holds Tryd.pinned (.plain (OpenSpec.upto snapDecodesSpec)) snapDecodesUptoCard

/-- THE SECOND FORM's CARD OF 'dovecotelaw.WirePrints'. -/
def wirePrintsUptoCard : Claim7 := { stood := { row := wirePrintsUptoRow, standIns := [], harness := (true, "a8fde9b3dbec2816959bb76f1a3985a7e1cc86ade0a0acebdebbb64af2187c1c"), looks := false }, kinds := [], alts := [], laidByText := true, laidKinds := [.data, .data, .data, .data], laidTests := true, laidLooks := .later }
def WirePrintsUptoCardSaid : Prop := Claim7.holds Tryd.pinned (.plain (OpenSpec.upto wirePrintsSpec)) wirePrintsUptoCard

/-- THE SECOND FORM's CARD OF 'dovecotekeep.SnapsOnce'. -/
def snapsOnceUptoCard : Claim7 := { stood := { row := snapsOnceUptoRow, standIns := [], harness := (true, "a8fde9b3dbec2816959bb76f1a3985a7e1cc86ade0a0acebdebbb64af2187c1c"), looks := false }, kinds := [], alts := [], laidByText := true, laidKinds := [.widerDeep], laidTests := true, laidLooks := .later }
def SnapsOnceUptoCardSaid : Prop := Claim7.holds Tryd.pinned (.plain (OpenSpec.upto snapsOnceSpec)) snapsOnceUptoCard
end Rows
end Go.Proofs.YtbipegbgfdpaeaaDoor
