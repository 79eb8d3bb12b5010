/-
  DERIVED. GIVEN WITH THE SEED: THE CARDS: each row of YtnndahnmlmgenaaGreatDoorRows.lean that lists a variable, with what it lists TIED to the program's text (the seventh form; the later family's looks); each row that meets fmt, with fmt's text TOLD by the authors' own Lean function (tested against real Go, not proved from fmt's source: count such statements apart). THE CARD IS WHAT COUNTS. Prove the row's statement (the work); the ties are given (YtnndahnmlmgenaaGreatDoorTie.lean); close each card by the builder's one call (the guide's Derived/Test/ToyasCard.lean, 'card_holds'). Laid BY PROGRAM, IN A SANDBOX (cutbox-door.mjs). By AI agents, Wed Nov 11 2026. No macro, syntax, notation, axiom, sorry.
-/
import Derived.Test.YtnndahnmlmgenaaGreatDoorRows
import GoSem.ClaimSeven
namespace Go.Proofs.YtnndahnmlmgenaaGreatDoor
namespace Rows

/-- THE TIED CARD OF 'laws.FnLogs'. -/
def fnLogsCard : Claim7 := { stood := { row := fnLogsRow, standIns := [], harness := (true, "cc5da185f62b31623a4b9485af3b416095095a76f0d8624b18ade8899738107a"), looks := true }, kinds := [], alts := [], laidByText := true, laidKinds := [.data, .data, .data, .data, .sentinel, .sentinel, .pinned], laidTests := true, laidLooks := .later }
def FnLogsCardSaid : Prop := Claim7.holds Tryz.pinned (.plain (OpenSpec.ofChange fnLogsSpec)) fnLogsCard

/-- THE TIED CARD OF 'laws.FnMissions'. -/
def fnMissionsCard : Claim7 := { stood := { row := fnMissionsRow, standIns := [], harness := (true, "cc5da185f62b31623a4b9485af3b416095095a76f0d8624b18ade8899738107a"), looks := true }, kinds := [], alts := [], laidByText := true, laidKinds := [.data, .data, .data, .data, .sentinel, .sentinel, .pinned], laidTests := true, laidLooks := .later }
def FnMissionsCardSaid : Prop := Claim7.holds Tryz.pinned (.plain (OpenSpec.ofChange fnMissionsSpec)) fnMissionsCard

/-- THE TIED CARD OF 'laws.FnEveryJourney'. -/
def fnEveryJourneyCard : Claim7 := { stood := { row := fnEveryJourneyRow, standIns := [], harness := (true, "cc5da185f62b31623a4b9485af3b416095095a76f0d8624b18ade8899738107a"), looks := true }, kinds := [], alts := [], laidByText := true, laidKinds := [.data, .data, .data, .data, .sentinel, .sentinel, .pinned], laidTests := true, laidLooks := .later }
def FnEveryJourneyCardSaid : Prop := Claim7.holds Tryz.pinned (.plain (OpenSpec.ofChange fnEveryJourneySpec)) fnEveryJourneyCard

/-- THE SECOND FORM's CARD OF 'laws.FnLogs'. -/
def fnLogsUptoCard : Claim7 := { stood := { row := fnLogsUptoRow, standIns := [], harness := (true, "cc5da185f62b31623a4b9485af3b416095095a76f0d8624b18ade8899738107a"), looks := true }, kinds := [], alts := [], laidByText := true, laidKinds := [.data, .data, .data, .data, .sentinel, .sentinel, .pinned], laidTests := true, laidLooks := .later }
def FnLogsUptoCardSaid : Prop := Claim7.holds Tryz.pinned (.plain (OpenSpec.upto fnLogsSpec)) fnLogsUptoCard

/-- THE SECOND FORM's CARD OF 'laws.FnMissions'. -/
def fnMissionsUptoCard : Claim7 := { stood := { row := fnMissionsUptoRow, standIns := [], harness := (true, "cc5da185f62b31623a4b9485af3b416095095a76f0d8624b18ade8899738107a"), looks := true }, kinds := [], alts := [], laidByText := true, laidKinds := [.data, .data, .data, .data, .sentinel, .sentinel, .pinned], laidTests := true, laidLooks := .later }
def FnMissionsUptoCardSaid : Prop := Claim7.holds Tryz.pinned (.plain (OpenSpec.upto fnMissionsSpec)) fnMissionsUptoCard

/-- THE SECOND FORM's CARD OF 'laws.FnEveryJourney'. -/
def fnEveryJourneyUptoCard : Claim7 := { stood := { row := fnEveryJourneyUptoRow, standIns := [], harness := (true, "cc5da185f62b31623a4b9485af3b416095095a76f0d8624b18ade8899738107a"), looks := true }, kinds := [], alts := [], laidByText := true, laidKinds := [.data, .data, .data, .data, .sentinel, .sentinel, .pinned], laidTests := true, laidLooks := .later }
def FnEveryJourneyUptoCardSaid : Prop := Claim7.holds Tryz.pinned (.plain (OpenSpec.upto fnEveryJourneySpec)) fnEveryJourneyUptoCard
end Rows
end Go.Proofs.YtnndahnmlmgenaaGreatDoor
