/-
  DERIVED. GIVEN WITH THE SEED: THE CARDS: each row of YtdmaamakckochaaDoorRows.lean that lists a variable, with what it lists TIED to the program's text (the seventh form; the later family's looks); each row that meets fmt, with fmt's text TOLD by the authors' own Lean function (tested against real Go, not proved from fmt's source: count such statements apart). THE CARD IS WHAT COUNTS. Prove the row's statement (the work); the ties are given (YtdmaamakckochaaDoorTie.lean); close each card by the builder's one call (the guide's Derived/Test/ToyasCard.lean, 'card_holds'). Laid BY PROGRAM, IN A SANDBOX (cutbox-door.mjs). By AI agents, Wed Nov 11 2026. No macro, syntax, notation, axiom, sorry.
-/
import Derived.Test.YtdmaamakckochaaDoorRows
import GoSem.ClaimSeven
namespace Go.Proofs.YtdmaamakckochaaDoor
namespace Rows

/-- THE TIED CARD OF 'laws.FnExactReadFraction'. -/
def fnExactReadFractionCard : Claim7 := { stood := { row := fnExactReadFractionRow, standIns := [], harness := (true, "4f8baa6f8d09f76c1a500ea6bbd315269b28bcb1399e629f53735ebd866e1128"), looks := true }, kinds := [], alts := [], laidByText := true, laidKinds := [.data, .data, .data, .sentinel, .sentinel], laidTests := true, laidLooks := .later }
def FnExactReadFractionCardSaid : Prop := Claim7.holds Tryd.pinned (.plain (OpenSpec.ofChange fnExactReadFractionSpec)) fnExactReadFractionCard

/-- THE TIED CARD OF 'laws.FnExactReadGrid'. -/
def fnExactReadGridCard : Claim7 := { stood := { row := fnExactReadGridRow, standIns := [], harness := (true, "4f8baa6f8d09f76c1a500ea6bbd315269b28bcb1399e629f53735ebd866e1128"), looks := true }, kinds := [], alts := [], laidByText := true, laidKinds := [.data, .pinned], laidTests := true, laidLooks := .later }
def FnExactReadGridCardSaid : Prop := Claim7.holds Tryd.pinned (.plain (OpenSpec.ofChange fnExactReadGridSpec)) fnExactReadGridCard

/-- THE TIED CARD OF 'laws.FnExactDeedText'. -/
def fnExactDeedTextCard : Claim7 := { stood := { row := fnExactDeedTextRow, standIns := [], harness := (true, "4f8baa6f8d09f76c1a500ea6bbd315269b28bcb1399e629f53735ebd866e1128"), looks := true }, kinds := [], alts := [], laidByText := true, laidKinds := [.data, .data, .data, .data, .pinned], laidTests := true, laidLooks := .later }
def FnExactDeedTextCardSaid : Prop := Claim7.holds Tryd.pinned (.plain (OpenSpec.ofChange fnExactDeedTextSpec)) fnExactDeedTextCard

/-- THE TIED CARD OF 'laws.FnExactLogText'. -/
def fnExactLogTextCard : Claim7 := { stood := { row := fnExactLogTextRow, standIns := [], harness := (true, "4f8baa6f8d09f76c1a500ea6bbd315269b28bcb1399e629f53735ebd866e1128"), looks := true }, kinds := [], alts := [], laidByText := true, laidKinds := [.data, .data, .data], laidTests := true, laidLooks := .later }
def FnExactLogTextCardSaid : Prop := Claim7.holds Tryd.pinned (.plain (OpenSpec.ofChange fnExactLogTextSpec)) fnExactLogTextCard

/-- THE TIED CARD OF 'laws.FnExactReadDeed'. -/
def fnExactReadDeedCard : Claim7 := { stood := { row := fnExactReadDeedRow, standIns := [], harness := (true, "4f8baa6f8d09f76c1a500ea6bbd315269b28bcb1399e629f53735ebd866e1128"), looks := true }, kinds := [], alts := [], laidByText := true, laidKinds := [.data, .data, .data, .data, .sentinel, .sentinel, .pinned], laidTests := true, laidLooks := .later }
def FnExactReadDeedCardSaid : Prop := Claim7.holds Tryd.pinned (.plain (OpenSpec.ofChange fnExactReadDeedSpec)) fnExactReadDeedCard

/-- THE TIED CARD OF 'laws.FnExactCompileMission'. -/
def fnExactCompileMissionCard : Claim7 := { stood := { row := fnExactCompileMissionRow, standIns := [], harness := (true, "4f8baa6f8d09f76c1a500ea6bbd315269b28bcb1399e629f53735ebd866e1128"), looks := true }, kinds := [], alts := [], laidByText := true, laidKinds := [.data, .data, .data, .data, .sentinel, .sentinel, .pinned], laidTests := true, laidLooks := .later }
def FnExactCompileMissionCardSaid : Prop := Claim7.holds Tryd.pinned (.plain (OpenSpec.ofChange fnExactCompileMissionSpec)) fnExactCompileMissionCard

/-- THE SECOND FORM's CARD OF 'laws.FnExactReadFraction'. -/
def fnExactReadFractionUptoCard : Claim7 := { stood := { row := fnExactReadFractionUptoRow, standIns := [], harness := (true, "4f8baa6f8d09f76c1a500ea6bbd315269b28bcb1399e629f53735ebd866e1128"), looks := true }, kinds := [], alts := [], laidByText := true, laidKinds := [.data, .data, .data, .sentinel, .sentinel], laidTests := true, laidLooks := .later }
def FnExactReadFractionUptoCardSaid : Prop := Claim7.holds Tryd.pinned (.plain (OpenSpec.upto fnExactReadFractionSpec)) fnExactReadFractionUptoCard

/-- THE SECOND FORM's CARD OF 'laws.FnExactReadGrid'. -/
def fnExactReadGridUptoCard : Claim7 := { stood := { row := fnExactReadGridUptoRow, standIns := [], harness := (true, "4f8baa6f8d09f76c1a500ea6bbd315269b28bcb1399e629f53735ebd866e1128"), looks := true }, kinds := [], alts := [], laidByText := true, laidKinds := [.data, .pinned], laidTests := true, laidLooks := .later }
def FnExactReadGridUptoCardSaid : Prop := Claim7.holds Tryd.pinned (.plain (OpenSpec.upto fnExactReadGridSpec)) fnExactReadGridUptoCard

/-- THE SECOND FORM's CARD OF 'laws.FnExactDeedText'. -/
def fnExactDeedTextUptoCard : Claim7 := { stood := { row := fnExactDeedTextUptoRow, standIns := [], harness := (true, "4f8baa6f8d09f76c1a500ea6bbd315269b28bcb1399e629f53735ebd866e1128"), looks := true }, kinds := [], alts := [], laidByText := true, laidKinds := [.data, .data, .data, .data, .pinned], laidTests := true, laidLooks := .later }
def FnExactDeedTextUptoCardSaid : Prop := Claim7.holds Tryd.pinned (.plain (OpenSpec.upto fnExactDeedTextSpec)) fnExactDeedTextUptoCard

/-- THE SECOND FORM's CARD OF 'laws.FnExactLogText'. -/
def fnExactLogTextUptoCard : Claim7 := { stood := { row := fnExactLogTextUptoRow, standIns := [], harness := (true, "4f8baa6f8d09f76c1a500ea6bbd315269b28bcb1399e629f53735ebd866e1128"), looks := true }, kinds := [], alts := [], laidByText := true, laidKinds := [.data, .data, .data], laidTests := true, laidLooks := .later }
def FnExactLogTextUptoCardSaid : Prop := Claim7.holds Tryd.pinned (.plain (OpenSpec.upto fnExactLogTextSpec)) fnExactLogTextUptoCard

/-- THE SECOND FORM's CARD OF 'laws.FnExactReadDeed'. -/
def fnExactReadDeedUptoCard : Claim7 := { stood := { row := fnExactReadDeedUptoRow, standIns := [], harness := (true, "4f8baa6f8d09f76c1a500ea6bbd315269b28bcb1399e629f53735ebd866e1128"), looks := true }, kinds := [], alts := [], laidByText := true, laidKinds := [.data, .data, .data, .data, .sentinel, .sentinel, .pinned], laidTests := true, laidLooks := .later }
def FnExactReadDeedUptoCardSaid : Prop := Claim7.holds Tryd.pinned (.plain (OpenSpec.upto fnExactReadDeedSpec)) fnExactReadDeedUptoCard

/-- THE SECOND FORM's CARD OF 'laws.FnExactCompileMission'. -/
def fnExactCompileMissionUptoCard : Claim7 := { stood := { row := fnExactCompileMissionUptoRow, standIns := [], harness := (true, "4f8baa6f8d09f76c1a500ea6bbd315269b28bcb1399e629f53735ebd866e1128"), looks := true }, kinds := [], alts := [], laidByText := true, laidKinds := [.data, .data, .data, .data, .sentinel, .sentinel, .pinned], laidTests := true, laidLooks := .later }
def FnExactCompileMissionUptoCardSaid : Prop := Claim7.holds Tryd.pinned (.plain (OpenSpec.upto fnExactCompileMissionSpec)) fnExactCompileMissionUptoCard
end Rows
end Go.Proofs.YtdmaamakckochaaDoor
