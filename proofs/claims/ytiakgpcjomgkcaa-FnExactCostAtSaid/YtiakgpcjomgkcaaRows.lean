/-
  No cell of these rows narrows 'for every input' (looked for: loops, veiled, ifaces, maps, wideKeys, modest, calm, conditions, laid).
  DERIVED. THE GIVEN ROWS OF THIS SEAT. 6 by the template 'for every input the law returns true; each argument reads behind the call as it read before'; 0 by the template 'total and deterministic' (their statements: YtiakgpcjomgkcaaTotals.lean).
  GIVEN WITH THE SEED: the statements are not yours to turn. If you find one false, say at which input.
  Laid BY PROGRAM, IN A SANDBOX (cutbox-rows.mjs): the forced cells as the released guide's own fill.sh prints them over the translation 6707079f1177690b… (all of the seat's roots in one cut). By AI agents, Wed Nov 11 2026. No macro, syntax, notation, axiom, sorry.
-/
import Derived.Test.YtiakgpcjomgkcaaChecked
import GoSem.Claim
import GoSem.ClaimJoined
import GoSem.ClaimMapViews
import Derived.JoinedTies
import Derived.KernelRfl
namespace Go.Proofs.Ytiakgpcjomgkcaa
/- THE CELL 'sum', in the pinned program and in every row, IS THE sha256 OF THE DUMP (.gsa) THAT YtiakgpcjomgkcaaProg.lean LOADS. Nothing in Lean hashes anything: it is a label: what it is worth is what the hold of that sum in a sandbox is worth. -/
noncomputable def Try.pinned : Pinned := { name := "ytiakgpcjomgkcaa", sum := "6707079f1177690b904423b2ab3716925edddd06bec7e3211b23e21ff303a940", checked := Try.checked }
namespace Rows
def none {H : Type} : Left H := { results := [], args := [] }

/-- 'laws.FnExactValidDeed': WHATEVER THE INPUT: true; the input reads as it did. -/
def fnExactValidDeedSpec : ChangeSpec := { name := "fnExactValidDeed", fn := fun _ => fun
  | [d] => { results := [.lit (.bool true)], args := [d] }
  | _ => none }
def fnExactValidDeedRow : OpenClaim := { program := "ytiakgpcjomgkcaa", sum := "6707079f1177690b904423b2ab3716925edddd06bec7e3211b23e21ff303a940", func := "loop.example/g01204/laws.FnExactValidDeed", spec := "fnExactValidDeed", apart := false }
def FnExactValidDeedSaid : Prop := fnExactValidDeedRow.holds Try.pinned (OpenSpec.ofChange fnExactValidDeedSpec)

/-- ITS FALSE NEIGHBOUR: 'it returns false'. Refute it at one input. -/
def fnExactValidDeedWrong : ChangeSpec := { name := "fnExactValidDeed", fn := fun _ => fun
  | [d] => { results := [.lit (.bool false)], args := [d] }
  | _ => none }
def FnExactValidDeedWrongFalsely : Prop := fnExactValidDeedRow.holds Try.pinned (OpenSpec.ofChange fnExactValidDeedWrong)

/-- 'laws.FnExactFixSensor': WHATEVER THE INPUT: true; the input reads as it did. -/
def fnExactFixSensorSpec : ChangeSpec := { name := "fnExactFixSensor", fn := fun _ => fun
  | [] => { results := [.lit (.bool true)], args := [] }
  | _ => none }
def fnExactFixSensorRow : OpenClaim := { program := "ytiakgpcjomgkcaa", sum := "6707079f1177690b904423b2ab3716925edddd06bec7e3211b23e21ff303a940", func := "loop.example/g01204/laws.FnExactFixSensor", spec := "fnExactFixSensor", apart := false }
def FnExactFixSensorSaid : Prop := fnExactFixSensorRow.holds Try.pinned (OpenSpec.ofChange fnExactFixSensorSpec)

/-- ITS FALSE NEIGHBOUR: 'it returns false'. Refute it at one input. -/
def fnExactFixSensorWrong : ChangeSpec := { name := "fnExactFixSensor", fn := fun _ => fun
  | [] => { results := [.lit (.bool false)], args := [] }
  | _ => none }
def FnExactFixSensorWrongFalsely : Prop := fnExactFixSensorRow.holds Try.pinned (OpenSpec.ofChange fnExactFixSensorWrong)

/-- 'laws.FnExactCostAt': WHATEVER THE INPUT: true; the input reads as it did. -/
def fnExactCostAtSpec : ChangeSpec := { name := "fnExactCostAt", fn := fun _ => fun
  | [d1, d2] => { results := [.lit (.bool true)], args := [d1, d2] }
  | _ => none }
def fnExactCostAtRow : OpenClaim := { program := "ytiakgpcjomgkcaa", sum := "6707079f1177690b904423b2ab3716925edddd06bec7e3211b23e21ff303a940", func := "loop.example/g01204/laws.FnExactCostAt", spec := "fnExactCostAt", unfollowed := true, recurses := true, apart := false }
def FnExactCostAtSaid : Prop := fnExactCostAtRow.holds Try.pinned (OpenSpec.ofChange fnExactCostAtSpec)

/-- ITS FALSE NEIGHBOUR: 'it returns false'. Refute it at one input. -/
def fnExactCostAtWrong : ChangeSpec := { name := "fnExactCostAt", fn := fun _ => fun
  | [d1, d2] => { results := [.lit (.bool false)], args := [d1, d2] }
  | _ => none }
def FnExactCostAtWrongFalsely : Prop := fnExactCostAtRow.holds Try.pinned (OpenSpec.ofChange fnExactCostAtWrong)

/-- 'laws.FnExactPointsOf': WHATEVER THE INPUT: true; the input reads as it did. -/
def fnExactPointsOfSpec : ChangeSpec := { name := "fnExactPointsOf", fn := fun _ => fun
  | [d1, d2, d3] => { results := [.lit (.bool true)], args := [d1, d2, d3] }
  | _ => none }
def fnExactPointsOfRow : OpenClaim := { program := "ytiakgpcjomgkcaa", sum := "6707079f1177690b904423b2ab3716925edddd06bec7e3211b23e21ff303a940", func := "loop.example/g01204/laws.FnExactPointsOf", spec := "fnExactPointsOf", apart := false }
def FnExactPointsOfSaid : Prop := fnExactPointsOfRow.holds Try.pinned (OpenSpec.ofChange fnExactPointsOfSpec)

/-- ITS FALSE NEIGHBOUR: 'it returns false'. Refute it at one input. -/
def fnExactPointsOfWrong : ChangeSpec := { name := "fnExactPointsOf", fn := fun _ => fun
  | [d1, d2, d3] => { results := [.lit (.bool false)], args := [d1, d2, d3] }
  | _ => none }
def FnExactPointsOfWrongFalsely : Prop := fnExactPointsOfRow.holds Try.pinned (OpenSpec.ofChange fnExactPointsOfWrong)

/-- 'laws.FnExactWithCost': WHATEVER THE INPUT: true; the input reads as it did. -/
def fnExactWithCostSpec : ChangeSpec := { name := "fnExactWithCost", fn := fun _ => fun
  | [d1, d2, d3] => { results := [.lit (.bool true)], args := [d1, d2, d3] }
  | _ => none }
def fnExactWithCostRow : OpenClaim := { program := "ytiakgpcjomgkcaa", sum := "6707079f1177690b904423b2ab3716925edddd06bec7e3211b23e21ff303a940", func := "loop.example/g01204/laws.FnExactWithCost", spec := "fnExactWithCost", unfollowed := true, recurses := true, apart := false }
def FnExactWithCostSaid : Prop := fnExactWithCostRow.holds Try.pinned (OpenSpec.ofChange fnExactWithCostSpec)

/-- ITS FALSE NEIGHBOUR: 'it returns false'. Refute it at one input. -/
def fnExactWithCostWrong : ChangeSpec := { name := "fnExactWithCost", fn := fun _ => fun
  | [d1, d2, d3] => { results := [.lit (.bool false)], args := [d1, d2, d3] }
  | _ => none }
def FnExactWithCostWrongFalsely : Prop := fnExactWithCostRow.holds Try.pinned (OpenSpec.ofChange fnExactWithCostWrong)

/-- 'laws.FnExactGrowWalls': WHATEVER THE INPUT: true; the input reads as it did. -/
def fnExactGrowWallsSpec : ChangeSpec := { name := "fnExactGrowWalls", fn := fun _ => fun
  | [d1, d2] => { results := [.lit (.bool true)], args := [d1, d2] }
  | _ => none }
def fnExactGrowWallsRow : OpenClaim := { program := "ytiakgpcjomgkcaa", sum := "6707079f1177690b904423b2ab3716925edddd06bec7e3211b23e21ff303a940", func := "loop.example/g01204/laws.FnExactGrowWalls", spec := "fnExactGrowWalls", apart := false }
def FnExactGrowWallsSaid : Prop := fnExactGrowWallsRow.holds Try.pinned (OpenSpec.ofChange fnExactGrowWallsSpec)

/-- ITS FALSE NEIGHBOUR: 'it returns false'. Refute it at one input. -/
def fnExactGrowWallsWrong : ChangeSpec := { name := "fnExactGrowWalls", fn := fun _ => fun
  | [d1, d2] => { results := [.lit (.bool false)], args := [d1, d2] }
  | _ => none }
def FnExactGrowWallsWrongFalsely : Prop := fnExactGrowWallsRow.holds Try.pinned (OpenSpec.ofChange fnExactGrowWallsWrong)

/- THE SECOND FORM. 'bulk': how many values and letters a reading holds, each counted each time it is reached (what is shared counts as often as it is met; a slice's spare places count too). A statement '..UptoSaid' is the law's where the arguments, and the package variables that the reading takes, are together of bulk at most 1048576: NARROWER than '..Said'. Prove '..Said' where nothing that the law and all that it calls make is longer than what came in: it says more and counts as full. Else prove '..UptoSaid'. A law counts once. -/
mutual
def uptoBulk {H : Type} : DataW H → Nat
  | .lit (.string bytes) => bytes.length + 1
  | .lit _ => 1
  | .nil => 1
  | .ptr d => uptoBulk d + 1
  | .slice elems spare => uptoBulkAll elems + uptoBulkAll spare + 1
  | .agg parts => uptoBulkAll parts + 1
  | .iface _ d => uptoBulk d + 1
  | .map entries => uptoBulkEntries entries + 1
  | .held _ => 1
def uptoBulkAll {H : Type} : List (DataW H) → Nat
  | [] => 0
  | d :: r => uptoBulk d + uptoBulkAll r
def uptoBulkEntries {H : Type} : List (Lit × DataW H) → Nat
  | [] => 0
  | x :: r => uptoBulkEntry x + uptoBulkEntries r
def uptoBulkEntry {H : Type} : Lit × DataW H → Nat
  | (.string bytes, d) => bytes.length + uptoBulk d + 1
  | (_, d) => uptoBulk d + 1
 end
def uptoSmall : (H : Type) → List (DataW H) → Bool := fun _ ds => decide (uptoBulkAll ds ≤ 1048576)
def OpenSpec.upto (s : _root_.Go.ChangeSpec) : _root_.Go.OpenSpec := { _root_.Go.OpenSpec.ofChange s with cond := some uptoSmall }

/-- 'laws.FnExactValidDeed', WHERE WHAT IT READS IS OF BULK AT MOST 1048576: true; the input reads as it did. -/
def fnExactValidDeedUptoRow : OpenClaim := { program := "ytiakgpcjomgkcaa", sum := "6707079f1177690b904423b2ab3716925edddd06bec7e3211b23e21ff303a940", func := "loop.example/g01204/laws.FnExactValidDeed", spec := "fnExactValidDeed", apart := false, narrowed := true }
def FnExactValidDeedUptoSaid : Prop := fnExactValidDeedUptoRow.holds Try.pinned (OpenSpec.upto fnExactValidDeedSpec)

/-- 'laws.FnExactFixSensor', WHERE WHAT IT READS IS OF BULK AT MOST 1048576: true; the input reads as it did. -/
def fnExactFixSensorUptoRow : OpenClaim := { program := "ytiakgpcjomgkcaa", sum := "6707079f1177690b904423b2ab3716925edddd06bec7e3211b23e21ff303a940", func := "loop.example/g01204/laws.FnExactFixSensor", spec := "fnExactFixSensor", apart := false, narrowed := true }
def FnExactFixSensorUptoSaid : Prop := fnExactFixSensorUptoRow.holds Try.pinned (OpenSpec.upto fnExactFixSensorSpec)

/-- 'laws.FnExactCostAt', WHERE WHAT IT READS IS OF BULK AT MOST 1048576: true; the input reads as it did. -/
def fnExactCostAtUptoRow : OpenClaim := { program := "ytiakgpcjomgkcaa", sum := "6707079f1177690b904423b2ab3716925edddd06bec7e3211b23e21ff303a940", func := "loop.example/g01204/laws.FnExactCostAt", spec := "fnExactCostAt", unfollowed := true, recurses := true, apart := false, narrowed := true }
def FnExactCostAtUptoSaid : Prop := fnExactCostAtUptoRow.holds Try.pinned (OpenSpec.upto fnExactCostAtSpec)

/-- 'laws.FnExactPointsOf', WHERE WHAT IT READS IS OF BULK AT MOST 1048576: true; the input reads as it did. -/
def fnExactPointsOfUptoRow : OpenClaim := { program := "ytiakgpcjomgkcaa", sum := "6707079f1177690b904423b2ab3716925edddd06bec7e3211b23e21ff303a940", func := "loop.example/g01204/laws.FnExactPointsOf", spec := "fnExactPointsOf", apart := false, narrowed := true }
def FnExactPointsOfUptoSaid : Prop := fnExactPointsOfUptoRow.holds Try.pinned (OpenSpec.upto fnExactPointsOfSpec)

/-- 'laws.FnExactWithCost', WHERE WHAT IT READS IS OF BULK AT MOST 1048576: true; the input reads as it did. -/
def fnExactWithCostUptoRow : OpenClaim := { program := "ytiakgpcjomgkcaa", sum := "6707079f1177690b904423b2ab3716925edddd06bec7e3211b23e21ff303a940", func := "loop.example/g01204/laws.FnExactWithCost", spec := "fnExactWithCost", unfollowed := true, recurses := true, apart := false, narrowed := true }
def FnExactWithCostUptoSaid : Prop := fnExactWithCostUptoRow.holds Try.pinned (OpenSpec.upto fnExactWithCostSpec)

/-- 'laws.FnExactGrowWalls', WHERE WHAT IT READS IS OF BULK AT MOST 1048576: true; the input reads as it did. -/
def fnExactGrowWallsUptoRow : OpenClaim := { program := "ytiakgpcjomgkcaa", sum := "6707079f1177690b904423b2ab3716925edddd06bec7e3211b23e21ff303a940", func := "loop.example/g01204/laws.FnExactGrowWalls", spec := "fnExactGrowWalls", apart := false, narrowed := true }
def FnExactGrowWallsUptoSaid : Prop := fnExactGrowWallsUptoRow.holds Try.pinned (OpenSpec.upto fnExactGrowWallsSpec)

end Rows
end Go.Proofs.Ytiakgpcjomgkcaa
