/-
  DERIVED. GIVEN WITH THE SEED: THE CARDS: each row of YtdmaamakckochaaGreatDoorRows.lean that lists a variable, with what it lists TIED to the program's text (the seventh form; the later family's looks); each row that meets fmt, with fmt's text TOLD by the authors' own Lean function (tested against real Go, not proved from fmt's source: count such statements apart). THE CARD IS WHAT COUNTS. Prove the row's statement (the work); the ties are given (YtdmaamakckochaaGreatDoorTie.lean); close each card by the builder's one call (the guide's Derived/Test/ToyasCard.lean, 'card_holds'). Laid BY PROGRAM, IN A SANDBOX (cutbox-door.mjs). By AI agents, Wed Nov 11 2026. No macro, syntax, notation, axiom, sorry.
-/
import Derived.Test.YtdmaamakckochaaGreatDoorRows
import GoSem.ClaimSeven
namespace Go.Proofs.YtdmaamakckochaaGreatDoor
namespace Rows

/-- THE TIED CARD OF 'laws.FnGrids'. -/
def fnGridsCard : Claim7 := { stood := { row := fnGridsRow, standIns := [], harness := (true, "0fd869e8b5ee7e44d2cfff454f0b97b01086604eb48fc90bd1bb72e7a2b987a0"), looks := true }, kinds := [], alts := [], laidByText := true, laidKinds := [.data, .pinned], laidTests := true, laidLooks := .later }
def FnGridsCardSaid : Prop := Claim7.holds Tryz.pinned (.plain (OpenSpec.ofChange fnGridsSpec)) fnGridsCard

/-- THE TIED CARD OF 'laws.FnMissions'. -/
def fnMissionsCard : Claim7 := { stood := { row := fnMissionsRow, standIns := [], harness := (true, "0fd869e8b5ee7e44d2cfff454f0b97b01086604eb48fc90bd1bb72e7a2b987a0"), looks := true }, kinds := [], alts := [], laidByText := true, laidKinds := [.data, .data, .data, .data, .sentinel, .sentinel, .pinned], laidTests := true, laidLooks := .later }
def FnMissionsCardSaid : Prop := Claim7.holds Tryz.pinned (.plain (OpenSpec.ofChange fnMissionsSpec)) fnMissionsCard

/-- THE TIED CARD OF 'laws.FnExactReadLog'. -/
def fnExactReadLogCard : Claim7 := { stood := { row := fnExactReadLogRow, standIns := [], harness := (true, "0fd869e8b5ee7e44d2cfff454f0b97b01086604eb48fc90bd1bb72e7a2b987a0"), looks := true }, kinds := [], alts := [], laidByText := true, laidKinds := [.data, .data, .data, .data, .sentinel, .sentinel, .pinned], laidTests := true, laidLooks := .later }
def FnExactReadLogCardSaid : Prop := Claim7.holds Tryz.pinned (.plain (OpenSpec.ofChange fnExactReadLogSpec)) fnExactReadLogCard

/-- THE SECOND FORM's CARD OF 'laws.FnGrids'. -/
def fnGridsUptoCard : Claim7 := { stood := { row := fnGridsUptoRow, standIns := [], harness := (true, "0fd869e8b5ee7e44d2cfff454f0b97b01086604eb48fc90bd1bb72e7a2b987a0"), looks := true }, kinds := [], alts := [], laidByText := true, laidKinds := [.data, .pinned], laidTests := true, laidLooks := .later }
def FnGridsUptoCardSaid : Prop := Claim7.holds Tryz.pinned (.plain (OpenSpec.upto fnGridsSpec)) fnGridsUptoCard

/-- THE SECOND FORM's CARD OF 'laws.FnMissions'. -/
def fnMissionsUptoCard : Claim7 := { stood := { row := fnMissionsUptoRow, standIns := [], harness := (true, "0fd869e8b5ee7e44d2cfff454f0b97b01086604eb48fc90bd1bb72e7a2b987a0"), looks := true }, kinds := [], alts := [], laidByText := true, laidKinds := [.data, .data, .data, .data, .sentinel, .sentinel, .pinned], laidTests := true, laidLooks := .later }
def FnMissionsUptoCardSaid : Prop := Claim7.holds Tryz.pinned (.plain (OpenSpec.upto fnMissionsSpec)) fnMissionsUptoCard

/-- THE SECOND FORM's CARD OF 'laws.FnExactReadLog'. -/
def fnExactReadLogUptoCard : Claim7 := { stood := { row := fnExactReadLogUptoRow, standIns := [], harness := (true, "0fd869e8b5ee7e44d2cfff454f0b97b01086604eb48fc90bd1bb72e7a2b987a0"), looks := true }, kinds := [], alts := [], laidByText := true, laidKinds := [.data, .data, .data, .data, .sentinel, .sentinel, .pinned], laidTests := true, laidLooks := .later }
def FnExactReadLogUptoCardSaid : Prop := Claim7.holds Tryz.pinned (.plain (OpenSpec.upto fnExactReadLogSpec)) fnExactReadLogUptoCard
end Rows
end Go.Proofs.YtdmaamakckochaaGreatDoor
