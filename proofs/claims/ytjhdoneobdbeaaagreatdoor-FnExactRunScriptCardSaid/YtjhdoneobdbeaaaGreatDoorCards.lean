/-
  DERIVED. GIVEN WITH THE SEED: THE CARDS: each row of YtjhdoneobdbeaaaGreatDoorRows.lean that lists a variable, with what it lists TIED to the program's text (the seventh form; the later family's looks); each row that meets fmt, with fmt's text TOLD by the authors' own Lean function (tested against real Go, not proved from fmt's source: count such statements apart). THE CARD IS WHAT COUNTS. Prove the row's statement (the work); the ties are given (YtjhdoneobdbeaaaGreatDoorTie.lean); close each card by the builder's one call (the guide's Derived/Test/ToyasCard.lean, 'card_holds'). Laid BY PROGRAM, IN A SANDBOX (cutbox-door.mjs). By AI agents, Wed Nov 11 2026. No macro, syntax, notation, axiom, sorry.
-/
import Derived.Test.YtjhdoneobdbeaaaGreatDoorRows
import GoSem.ClaimSeven
namespace Go.Proofs.YtjhdoneobdbeaaaGreatDoor
namespace Rows

/-- THE TIED CARD OF 'laws.FnFleets'. -/
def fnFleetsCard : Claim7 := { stood := { row := fnFleetsRow, standIns := [], harness := (true, "7fc17a699b14511454dcf0ded065ce46603fae18be67429fa593f0b39b12d3c7"), looks := true }, kinds := [], alts := [], laidByText := true, laidKinds := [.data, .data, .data, .data, .sentinel, .sentinel, .pinned], laidTests := true, laidLooks := .later }
def FnFleetsCardSaid : Prop := Claim7.holds Tryz.pinned (.plain (OpenSpec.ofChange fnFleetsSpec)) fnFleetsCard

/-- THE TIED CARD OF 'laws.FnEveryFleet'. -/
def fnEveryFleetCard : Claim7 := { stood := { row := fnEveryFleetRow, standIns := [], harness := (true, "7fc17a699b14511454dcf0ded065ce46603fae18be67429fa593f0b39b12d3c7"), looks := true }, kinds := [], alts := [], laidByText := true, laidKinds := [.data, .data, .data, .data, .sentinel, .sentinel, .pinned], laidTests := true, laidLooks := .later }
def FnEveryFleetCardSaid : Prop := Claim7.holds Tryz.pinned (.plain (OpenSpec.ofChange fnEveryFleetSpec)) fnEveryFleetCard

/-- THE TIED CARD OF 'laws.FnExactRefusedDeed'. -/
def fnExactRefusedDeedCard : Claim7 := { stood := { row := fnExactRefusedDeedRow, standIns := [], harness := (true, "7fc17a699b14511454dcf0ded065ce46603fae18be67429fa593f0b39b12d3c7"), looks := true }, kinds := [], alts := [], laidByText := true, laidKinds := [.data, .data, .data, .data, .sentinel, .sentinel, .pinned], laidTests := true, laidLooks := .later }
def FnExactRefusedDeedCardSaid : Prop := Claim7.holds Tryz.pinned (.plain (OpenSpec.ofChange fnExactRefusedDeedSpec)) fnExactRefusedDeedCard

/-- THE TIED CARD OF 'laws.FnExactAreAgreed'. -/
def fnExactAreAgreedCard : Claim7 := { stood := { row := fnExactAreAgreedRow, standIns := [], harness := (true, "7fc17a699b14511454dcf0ded065ce46603fae18be67429fa593f0b39b12d3c7"), looks := true }, kinds := [], alts := [], laidByText := true, laidKinds := [.data, .data, .data, .data, .sentinel, .sentinel, .pinned], laidTests := true, laidLooks := .later }
def FnExactAreAgreedCardSaid : Prop := Claim7.holds Tryz.pinned (.plain (OpenSpec.ofChange fnExactAreAgreedSpec)) fnExactAreAgreedCard

/-- THE TIED CARD OF 'laws.FnFleetDeeds'. -/
def fnFleetDeedsCard : Claim7 := { stood := { row := fnFleetDeedsRow, standIns := [], harness := (true, "7fc17a699b14511454dcf0ded065ce46603fae18be67429fa593f0b39b12d3c7"), looks := true }, kinds := [], alts := [], laidByText := true, laidKinds := [.data, .data, .data, .data, .sentinel, .sentinel, .pinned], laidTests := true, laidLooks := .later }
def FnFleetDeedsCardSaid : Prop := Claim7.holds Tryz.pinned (.plain (OpenSpec.ofChange fnFleetDeedsSpec)) fnFleetDeedsCard

/-- THE TIED CARD OF 'laws.FnExactRunScript'. -/
def fnExactRunScriptCard : Claim7 := { stood := { row := fnExactRunScriptRow, standIns := [], harness := (true, "7fc17a699b14511454dcf0ded065ce46603fae18be67429fa593f0b39b12d3c7"), looks := true }, kinds := [], alts := [], laidByText := true, laidKinds := [.data, .data, .data, .data, .sentinel, .sentinel, .pinned], laidTests := true, laidLooks := .later }
def FnExactRunScriptCardSaid : Prop := Claim7.holds Tryz.pinned (.plain (OpenSpec.ofChange fnExactRunScriptSpec)) fnExactRunScriptCard

/-- THE SECOND FORM's CARD OF 'laws.FnFleets'. -/
def fnFleetsUptoCard : Claim7 := { stood := { row := fnFleetsUptoRow, standIns := [], harness := (true, "7fc17a699b14511454dcf0ded065ce46603fae18be67429fa593f0b39b12d3c7"), looks := true }, kinds := [], alts := [], laidByText := true, laidKinds := [.data, .data, .data, .data, .sentinel, .sentinel, .pinned], laidTests := true, laidLooks := .later }
def FnFleetsUptoCardSaid : Prop := Claim7.holds Tryz.pinned (.plain (OpenSpec.upto fnFleetsSpec)) fnFleetsUptoCard

/-- THE SECOND FORM's CARD OF 'laws.FnEveryFleet'. -/
def fnEveryFleetUptoCard : Claim7 := { stood := { row := fnEveryFleetUptoRow, standIns := [], harness := (true, "7fc17a699b14511454dcf0ded065ce46603fae18be67429fa593f0b39b12d3c7"), looks := true }, kinds := [], alts := [], laidByText := true, laidKinds := [.data, .data, .data, .data, .sentinel, .sentinel, .pinned], laidTests := true, laidLooks := .later }
def FnEveryFleetUptoCardSaid : Prop := Claim7.holds Tryz.pinned (.plain (OpenSpec.upto fnEveryFleetSpec)) fnEveryFleetUptoCard

/-- THE SECOND FORM's CARD OF 'laws.FnExactRefusedDeed'. -/
def fnExactRefusedDeedUptoCard : Claim7 := { stood := { row := fnExactRefusedDeedUptoRow, standIns := [], harness := (true, "7fc17a699b14511454dcf0ded065ce46603fae18be67429fa593f0b39b12d3c7"), looks := true }, kinds := [], alts := [], laidByText := true, laidKinds := [.data, .data, .data, .data, .sentinel, .sentinel, .pinned], laidTests := true, laidLooks := .later }
def FnExactRefusedDeedUptoCardSaid : Prop := Claim7.holds Tryz.pinned (.plain (OpenSpec.upto fnExactRefusedDeedSpec)) fnExactRefusedDeedUptoCard

/-- THE SECOND FORM's CARD OF 'laws.FnExactAreAgreed'. -/
def fnExactAreAgreedUptoCard : Claim7 := { stood := { row := fnExactAreAgreedUptoRow, standIns := [], harness := (true, "7fc17a699b14511454dcf0ded065ce46603fae18be67429fa593f0b39b12d3c7"), looks := true }, kinds := [], alts := [], laidByText := true, laidKinds := [.data, .data, .data, .data, .sentinel, .sentinel, .pinned], laidTests := true, laidLooks := .later }
def FnExactAreAgreedUptoCardSaid : Prop := Claim7.holds Tryz.pinned (.plain (OpenSpec.upto fnExactAreAgreedSpec)) fnExactAreAgreedUptoCard

/-- THE SECOND FORM's CARD OF 'laws.FnFleetDeeds'. -/
def fnFleetDeedsUptoCard : Claim7 := { stood := { row := fnFleetDeedsUptoRow, standIns := [], harness := (true, "7fc17a699b14511454dcf0ded065ce46603fae18be67429fa593f0b39b12d3c7"), looks := true }, kinds := [], alts := [], laidByText := true, laidKinds := [.data, .data, .data, .data, .sentinel, .sentinel, .pinned], laidTests := true, laidLooks := .later }
def FnFleetDeedsUptoCardSaid : Prop := Claim7.holds Tryz.pinned (.plain (OpenSpec.upto fnFleetDeedsSpec)) fnFleetDeedsUptoCard

/-- THE SECOND FORM's CARD OF 'laws.FnExactRunScript'. -/
def fnExactRunScriptUptoCard : Claim7 := { stood := { row := fnExactRunScriptUptoRow, standIns := [], harness := (true, "7fc17a699b14511454dcf0ded065ce46603fae18be67429fa593f0b39b12d3c7"), looks := true }, kinds := [], alts := [], laidByText := true, laidKinds := [.data, .data, .data, .data, .sentinel, .sentinel, .pinned], laidTests := true, laidLooks := .later }
def FnExactRunScriptUptoCardSaid : Prop := Claim7.holds Tryz.pinned (.plain (OpenSpec.upto fnExactRunScriptSpec)) fnExactRunScriptUptoCard
end Rows
end Go.Proofs.YtjhdoneobdbeaaaGreatDoor
