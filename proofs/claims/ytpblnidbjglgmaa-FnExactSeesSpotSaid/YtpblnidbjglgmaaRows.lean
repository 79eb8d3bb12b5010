/-
  No cell of these rows narrows 'for every input' (looked for: loops, veiled, ifaces, maps, wideKeys, modest, calm, conditions, laid).
  DERIVED. THE GIVEN ROWS OF THIS SEAT. 12 by the template 'for every input the law returns true; each argument reads behind the call as it read before'; 0 by the template 'total and deterministic' (their statements: YtpblnidbjglgmaaTotals.lean).
  GIVEN WITH THE SEED: the statements are not yours to turn. If you find one false, say at which input.
  Laid BY PROGRAM, IN A SANDBOX (cutbox-rows.mjs): the forced cells as the released guide's own fill.sh prints them over the translation ac9cce261e8a3338… (all of the seat's roots in one cut). By AI agents, Wed Nov 11 2026. No macro, syntax, notation, axiom, sorry.
-/
import Derived.Test.YtpblnidbjglgmaaChecked
import GoSem.Claim
import GoSem.ClaimJoined
import GoSem.ClaimMapViews
import Derived.JoinedTies
import Derived.KernelRfl
namespace Go.Proofs.Ytpblnidbjglgmaa
/- THE CELL 'sum', in the pinned program and in every row, IS THE sha256 OF THE DUMP (.gsa) THAT YtpblnidbjglgmaaProg.lean LOADS. Nothing in Lean hashes anything: it is a label: what it is worth is what the hold of that sum in a sandbox is worth. -/
noncomputable def Try.pinned : Pinned := { name := "ytpblnidbjglgmaa", sum := "ac9cce261e8a333865fead54d604ac7d638d252c663d3c625acf06f0fbbf3f40", checked := Try.checked }
namespace Rows
def none {H : Type} : Left H := { results := [], args := [] }

/-- 'laws.FnExactValidRoute': WHATEVER THE INPUT: true; the input reads as it did. -/
def fnExactValidRouteSpec : ChangeSpec := { name := "fnExactValidRoute", fn := fun _ => fun
  | [d1, d2] => { results := [.lit (.bool true)], args := [d1, d2] }
  | _ => none }
def fnExactValidRouteRow : OpenClaim := { program := "ytpblnidbjglgmaa", sum := "ac9cce261e8a333865fead54d604ac7d638d252c663d3c625acf06f0fbbf3f40", func := "loop.example/g01204/laws.FnExactValidRoute", spec := "fnExactValidRoute", apart := false }
def FnExactValidRouteSaid : Prop := fnExactValidRouteRow.holds Try.pinned (OpenSpec.ofChange fnExactValidRouteSpec)

/-- ITS FALSE NEIGHBOUR: 'it returns false'. Refute it at one input. -/
def fnExactValidRouteWrong : ChangeSpec := { name := "fnExactValidRoute", fn := fun _ => fun
  | [d1, d2] => { results := [.lit (.bool false)], args := [d1, d2] }
  | _ => none }
def FnExactValidRouteWrongFalsely : Prop := fnExactValidRouteRow.holds Try.pinned (OpenSpec.ofChange fnExactValidRouteWrong)

/-- 'laws.FnExactLengthOfWay': WHATEVER THE INPUT: true; the input reads as it did. -/
def fnExactLengthOfWaySpec : ChangeSpec := { name := "fnExactLengthOfWay", fn := fun _ => fun
  | [d] => { results := [.lit (.bool true)], args := [d] }
  | _ => none }
def fnExactLengthOfWayRow : OpenClaim := { program := "ytpblnidbjglgmaa", sum := "ac9cce261e8a333865fead54d604ac7d638d252c663d3c625acf06f0fbbf3f40", func := "loop.example/g01204/laws.FnExactLengthOfWay", spec := "fnExactLengthOfWay", inPlace := ["math.sqrt"], unfollowed := true, recurses := true, apart := false }
def FnExactLengthOfWaySaid : Prop := fnExactLengthOfWayRow.holds Try.pinned (OpenSpec.ofChange fnExactLengthOfWaySpec)

/-- ITS FALSE NEIGHBOUR: 'it returns false'. Refute it at one input. -/
def fnExactLengthOfWayWrong : ChangeSpec := { name := "fnExactLengthOfWay", fn := fun _ => fun
  | [d] => { results := [.lit (.bool false)], args := [d] }
  | _ => none }
def FnExactLengthOfWayWrongFalsely : Prop := fnExactLengthOfWayRow.holds Try.pinned (OpenSpec.ofChange fnExactLengthOfWayWrong)

/-- 'laws.FnExactSameMission': WHATEVER THE INPUT: true; the input reads as it did. -/
def fnExactSameMissionSpec : ChangeSpec := { name := "fnExactSameMission", fn := fun _ => fun
  | [d1, d2] => { results := [.lit (.bool true)], args := [d1, d2] }
  | _ => none }
def fnExactSameMissionRow : OpenClaim := { program := "ytpblnidbjglgmaa", sum := "ac9cce261e8a333865fead54d604ac7d638d252c663d3c625acf06f0fbbf3f40", func := "loop.example/g01204/laws.FnExactSameMission", spec := "fnExactSameMission", inPlace := ["math.Float32bits"], unfollowed := true, recurses := true, apart := false }
def FnExactSameMissionSaid : Prop := fnExactSameMissionRow.holds Try.pinned (OpenSpec.ofChange fnExactSameMissionSpec)

/-- ITS FALSE NEIGHBOUR: 'it returns false'. Refute it at one input. -/
def fnExactSameMissionWrong : ChangeSpec := { name := "fnExactSameMission", fn := fun _ => fun
  | [d1, d2] => { results := [.lit (.bool false)], args := [d1, d2] }
  | _ => none }
def FnExactSameMissionWrongFalsely : Prop := fnExactSameMissionRow.holds Try.pinned (OpenSpec.ofChange fnExactSameMissionWrong)

/-- 'laws.FnExactRouteCost': WHATEVER THE INPUT: true; the input reads as it did. -/
def fnExactRouteCostSpec : ChangeSpec := { name := "fnExactRouteCost", fn := fun _ => fun
  | [d1, d2] => { results := [.lit (.bool true)], args := [d1, d2] }
  | _ => none }
def fnExactRouteCostRow : OpenClaim := { program := "ytpblnidbjglgmaa", sum := "ac9cce261e8a333865fead54d604ac7d638d252c663d3c625acf06f0fbbf3f40", func := "loop.example/g01204/laws.FnExactRouteCost", spec := "fnExactRouteCost", apart := false }
def FnExactRouteCostSaid : Prop := fnExactRouteCostRow.holds Try.pinned (OpenSpec.ofChange fnExactRouteCostSpec)

/-- ITS FALSE NEIGHBOUR: 'it returns false'. Refute it at one input. -/
def fnExactRouteCostWrong : ChangeSpec := { name := "fnExactRouteCost", fn := fun _ => fun
  | [d1, d2] => { results := [.lit (.bool false)], args := [d1, d2] }
  | _ => none }
def FnExactRouteCostWrongFalsely : Prop := fnExactRouteCostRow.holds Try.pinned (OpenSpec.ofChange fnExactRouteCostWrong)

/-- 'laws.FnExactValidMission': WHATEVER THE INPUT: true; the input reads as it did. -/
def fnExactValidMissionSpec : ChangeSpec := { name := "fnExactValidMission", fn := fun _ => fun
  | [d] => { results := [.lit (.bool true)], args := [d] }
  | _ => none }
def fnExactValidMissionRow : OpenClaim := { program := "ytpblnidbjglgmaa", sum := "ac9cce261e8a333865fead54d604ac7d638d252c663d3c625acf06f0fbbf3f40", func := "loop.example/g01204/laws.FnExactValidMission", spec := "fnExactValidMission", unfollowed := true, recurses := true, apart := false }
def FnExactValidMissionSaid : Prop := fnExactValidMissionRow.holds Try.pinned (OpenSpec.ofChange fnExactValidMissionSpec)

/-- ITS FALSE NEIGHBOUR: 'it returns false'. Refute it at one input. -/
def fnExactValidMissionWrong : ChangeSpec := { name := "fnExactValidMission", fn := fun _ => fun
  | [d] => { results := [.lit (.bool false)], args := [d] }
  | _ => none }
def FnExactValidMissionWrongFalsely : Prop := fnExactValidMissionRow.holds Try.pinned (OpenSpec.ofChange fnExactValidMissionWrong)

/-- 'laws.FnExactSeesSpot': WHATEVER THE INPUT: true; the input reads as it did. -/
def fnExactSeesSpotSpec : ChangeSpec := { name := "fnExactSeesSpot", fn := fun _ => fun
  | [d1, d2, d3] => { results := [.lit (.bool true)], args := [d1, d2, d3] }
  | _ => none }
def fnExactSeesSpotRow : OpenClaim := { program := "ytpblnidbjglgmaa", sum := "ac9cce261e8a333865fead54d604ac7d638d252c663d3c625acf06f0fbbf3f40", func := "loop.example/g01204/laws.FnExactSeesSpot", spec := "fnExactSeesSpot", unfollowed := true, recurses := true, apart := false }
def FnExactSeesSpotSaid : Prop := fnExactSeesSpotRow.holds Try.pinned (OpenSpec.ofChange fnExactSeesSpotSpec)

/-- ITS FALSE NEIGHBOUR: 'it returns false'. Refute it at one input. -/
def fnExactSeesSpotWrong : ChangeSpec := { name := "fnExactSeesSpot", fn := fun _ => fun
  | [d1, d2, d3] => { results := [.lit (.bool false)], args := [d1, d2, d3] }
  | _ => none }
def FnExactSeesSpotWrongFalsely : Prop := fnExactSeesSpotRow.holds Try.pinned (OpenSpec.ofChange fnExactSeesSpotWrong)

/-- 'laws.FnExactSameLog': WHATEVER THE INPUT: true; the input reads as it did. -/
def fnExactSameLogSpec : ChangeSpec := { name := "fnExactSameLog", fn := fun _ => fun
  | [d1, d2] => { results := [.lit (.bool true)], args := [d1, d2] }
  | _ => none }
def fnExactSameLogRow : OpenClaim := { program := "ytpblnidbjglgmaa", sum := "ac9cce261e8a333865fead54d604ac7d638d252c663d3c625acf06f0fbbf3f40", func := "loop.example/g01204/laws.FnExactSameLog", spec := "fnExactSameLog", inPlace := ["math.Float32bits"], unfollowed := true, recurses := true, apart := false }
def FnExactSameLogSaid : Prop := fnExactSameLogRow.holds Try.pinned (OpenSpec.ofChange fnExactSameLogSpec)

/-- ITS FALSE NEIGHBOUR: 'it returns false'. Refute it at one input. -/
def fnExactSameLogWrong : ChangeSpec := { name := "fnExactSameLog", fn := fun _ => fun
  | [d1, d2] => { results := [.lit (.bool false)], args := [d1, d2] }
  | _ => none }
def FnExactSameLogWrongFalsely : Prop := fnExactSameLogRow.holds Try.pinned (OpenSpec.ofChange fnExactSameLogWrong)

/-- 'laws.FnExactTicksOf': WHATEVER THE INPUT: true; the input reads as it did. -/
def fnExactTicksOfSpec : ChangeSpec := { name := "fnExactTicksOf", fn := fun _ => fun
  | [d] => { results := [.lit (.bool true)], args := [d] }
  | _ => none }
def fnExactTicksOfRow : OpenClaim := { program := "ytpblnidbjglgmaa", sum := "ac9cce261e8a333865fead54d604ac7d638d252c663d3c625acf06f0fbbf3f40", func := "loop.example/g01204/laws.FnExactTicksOf", spec := "fnExactTicksOf", unfollowed := true, recurses := true, apart := false }
def FnExactTicksOfSaid : Prop := fnExactTicksOfRow.holds Try.pinned (OpenSpec.ofChange fnExactTicksOfSpec)

/-- ITS FALSE NEIGHBOUR: 'it returns false'. Refute it at one input. -/
def fnExactTicksOfWrong : ChangeSpec := { name := "fnExactTicksOf", fn := fun _ => fun
  | [d] => { results := [.lit (.bool false)], args := [d] }
  | _ => none }
def FnExactTicksOfWrongFalsely : Prop := fnExactTicksOfRow.holds Try.pinned (OpenSpec.ofChange fnExactTicksOfWrong)

/-- 'laws.FnExactAheadOnWay': WHATEVER THE INPUT: true; the input reads as it did. -/
def fnExactAheadOnWaySpec : ChangeSpec := { name := "fnExactAheadOnWay", fn := fun _ => fun
  | [d1, d2, d3] => { results := [.lit (.bool true)], args := [d1, d2, d3] }
  | _ => none }
def fnExactAheadOnWayRow : OpenClaim := { program := "ytpblnidbjglgmaa", sum := "ac9cce261e8a333865fead54d604ac7d638d252c663d3c625acf06f0fbbf3f40", func := "loop.example/g01204/laws.FnExactAheadOnWay", spec := "fnExactAheadOnWay", inPlace := ["math.sqrt"], unfollowed := true, recurses := true, apart := false }
def FnExactAheadOnWaySaid : Prop := fnExactAheadOnWayRow.holds Try.pinned (OpenSpec.ofChange fnExactAheadOnWaySpec)

/-- ITS FALSE NEIGHBOUR: 'it returns false'. Refute it at one input. -/
def fnExactAheadOnWayWrong : ChangeSpec := { name := "fnExactAheadOnWay", fn := fun _ => fun
  | [d1, d2, d3] => { results := [.lit (.bool false)], args := [d1, d2, d3] }
  | _ => none }
def FnExactAheadOnWayWrongFalsely : Prop := fnExactAheadOnWayRow.holds Try.pinned (OpenSpec.ofChange fnExactAheadOnWayWrong)

/-- 'laws.FnExactValidLog': WHATEVER THE INPUT: true; the input reads as it did. -/
def fnExactValidLogSpec : ChangeSpec := { name := "fnExactValidLog", fn := fun _ => fun
  | [d] => { results := [.lit (.bool true)], args := [d] }
  | _ => none }
def fnExactValidLogRow : OpenClaim := { program := "ytpblnidbjglgmaa", sum := "ac9cce261e8a333865fead54d604ac7d638d252c663d3c625acf06f0fbbf3f40", func := "loop.example/g01204/laws.FnExactValidLog", spec := "fnExactValidLog", inPlace := ["math.Float32bits"], unfollowed := true, recurses := true, apart := false }
def FnExactValidLogSaid : Prop := fnExactValidLogRow.holds Try.pinned (OpenSpec.ofChange fnExactValidLogSpec)

/-- ITS FALSE NEIGHBOUR: 'it returns false'. Refute it at one input. -/
def fnExactValidLogWrong : ChangeSpec := { name := "fnExactValidLog", fn := fun _ => fun
  | [d] => { results := [.lit (.bool false)], args := [d] }
  | _ => none }
def FnExactValidLogWrongFalsely : Prop := fnExactValidLogRow.holds Try.pinned (OpenSpec.ofChange fnExactValidLogWrong)

/-- 'laws.FnExactValidFleet': WHATEVER THE INPUT: true; the input reads as it did. -/
def fnExactValidFleetSpec : ChangeSpec := { name := "fnExactValidFleet", fn := fun _ => fun
  | [d] => { results := [.lit (.bool true)], args := [d] }
  | _ => none }
def fnExactValidFleetRow : OpenClaim := { program := "ytpblnidbjglgmaa", sum := "ac9cce261e8a333865fead54d604ac7d638d252c663d3c625acf06f0fbbf3f40", func := "loop.example/g01204/laws.FnExactValidFleet", spec := "fnExactValidFleet", inPlace := ["math.archFloor", "math.Float64bits", "math.Float64frombits", "math.archTrunc"], unfollowed := true, recurses := true, apart := false }
def FnExactValidFleetSaid : Prop := fnExactValidFleetRow.holds Try.pinned (OpenSpec.ofChange fnExactValidFleetSpec)

/-- ITS FALSE NEIGHBOUR: 'it returns false'. Refute it at one input. -/
def fnExactValidFleetWrong : ChangeSpec := { name := "fnExactValidFleet", fn := fun _ => fun
  | [d] => { results := [.lit (.bool false)], args := [d] }
  | _ => none }
def FnExactValidFleetWrongFalsely : Prop := fnExactValidFleetRow.holds Try.pinned (OpenSpec.ofChange fnExactValidFleetWrong)

/-- 'laws.FnExactTrackOf': WHATEVER THE INPUT: true; the input reads as it did. -/
def fnExactTrackOfSpec : ChangeSpec := { name := "fnExactTrackOf", fn := fun _ => fun
  | [d] => { results := [.lit (.bool true)], args := [d] }
  | _ => none }
def fnExactTrackOfRow : OpenClaim := { program := "ytpblnidbjglgmaa", sum := "ac9cce261e8a333865fead54d604ac7d638d252c663d3c625acf06f0fbbf3f40", func := "loop.example/g01204/laws.FnExactTrackOf", spec := "fnExactTrackOf", unfollowed := true, recurses := true, apart := false }
def FnExactTrackOfSaid : Prop := fnExactTrackOfRow.holds Try.pinned (OpenSpec.ofChange fnExactTrackOfSpec)

/-- ITS FALSE NEIGHBOUR: 'it returns false'. Refute it at one input. -/
def fnExactTrackOfWrong : ChangeSpec := { name := "fnExactTrackOf", fn := fun _ => fun
  | [d] => { results := [.lit (.bool false)], args := [d] }
  | _ => none }
def FnExactTrackOfWrongFalsely : Prop := fnExactTrackOfRow.holds Try.pinned (OpenSpec.ofChange fnExactTrackOfWrong)

/- THE SECOND FORM. 'bulk': how many values and letters a reading holds, each counted each time it is reached (what is shared counts as often as it is met; a slice's spare places count too). A statement '..UptoSaid' is the law's where the arguments, and the package variables that the reading takes, are together of bulk at most 1048576: NARROWER than '..Said'. Prove '..Said' where nothing that the law and all that it calls make is longer than what came in: it says more and counts as full. Else prove '..UptoSaid'. A law counts once. -/
mutual
def uptoBulk {H : Type} : DataW H → Nat
  | .lit (.string bytes) => bytes.length + 1
  | .lit _ => 1
  | .nil => 1
  | .ptr d => uptoBulk d + 1
  | .slice elems spare => uptoBulkAll elems + uptoBulkAll spare + 1
  | .agg parts => uptoBulkAll parts + 1
  | .iface _ d => uptoBulk d + 1
  | .map entries => uptoBulkEntries entries + 1
  | .held _ => 1
def uptoBulkAll {H : Type} : List (DataW H) → Nat
  | [] => 0
  | d :: r => uptoBulk d + uptoBulkAll r
def uptoBulkEntries {H : Type} : List (Lit × DataW H) → Nat
  | [] => 0
  | x :: r => uptoBulkEntry x + uptoBulkEntries r
def uptoBulkEntry {H : Type} : Lit × DataW H → Nat
  | (.string bytes, d) => bytes.length + uptoBulk d + 1
  | (_, d) => uptoBulk d + 1
 end
def uptoSmall : (H : Type) → List (DataW H) → Bool := fun _ ds => decide (uptoBulkAll ds ≤ 1048576)
def OpenSpec.upto (s : _root_.Go.ChangeSpec) : _root_.Go.OpenSpec := { _root_.Go.OpenSpec.ofChange s with cond := some uptoSmall }

/-- 'laws.FnExactValidRoute', WHERE WHAT IT READS IS OF BULK AT MOST 1048576: true; the input reads as it did. -/
def fnExactValidRouteUptoRow : OpenClaim := { program := "ytpblnidbjglgmaa", sum := "ac9cce261e8a333865fead54d604ac7d638d252c663d3c625acf06f0fbbf3f40", func := "loop.example/g01204/laws.FnExactValidRoute", spec := "fnExactValidRoute", apart := false, narrowed := true }
def FnExactValidRouteUptoSaid : Prop := fnExactValidRouteUptoRow.holds Try.pinned (OpenSpec.upto fnExactValidRouteSpec)

/-- 'laws.FnExactLengthOfWay', WHERE WHAT IT READS IS OF BULK AT MOST 1048576: true; the input reads as it did. -/
def fnExactLengthOfWayUptoRow : OpenClaim := { program := "ytpblnidbjglgmaa", sum := "ac9cce261e8a333865fead54d604ac7d638d252c663d3c625acf06f0fbbf3f40", func := "loop.example/g01204/laws.FnExactLengthOfWay", spec := "fnExactLengthOfWay", inPlace := ["math.sqrt"], unfollowed := true, recurses := true, apart := false, narrowed := true }
def FnExactLengthOfWayUptoSaid : Prop := fnExactLengthOfWayUptoRow.holds Try.pinned (OpenSpec.upto fnExactLengthOfWaySpec)

/-- 'laws.FnExactSameMission', WHERE WHAT IT READS IS OF BULK AT MOST 1048576: true; the input reads as it did. -/
def fnExactSameMissionUptoRow : OpenClaim := { program := "ytpblnidbjglgmaa", sum := "ac9cce261e8a333865fead54d604ac7d638d252c663d3c625acf06f0fbbf3f40", func := "loop.example/g01204/laws.FnExactSameMission", spec := "fnExactSameMission", inPlace := ["math.Float32bits"], unfollowed := true, recurses := true, apart := false, narrowed := true }
def FnExactSameMissionUptoSaid : Prop := fnExactSameMissionUptoRow.holds Try.pinned (OpenSpec.upto fnExactSameMissionSpec)

/-- 'laws.FnExactRouteCost', WHERE WHAT IT READS IS OF BULK AT MOST 1048576: true; the input reads as it did. -/
def fnExactRouteCostUptoRow : OpenClaim := { program := "ytpblnidbjglgmaa", sum := "ac9cce261e8a333865fead54d604ac7d638d252c663d3c625acf06f0fbbf3f40", func := "loop.example/g01204/laws.FnExactRouteCost", spec := "fnExactRouteCost", apart := false, narrowed := true }
def FnExactRouteCostUptoSaid : Prop := fnExactRouteCostUptoRow.holds Try.pinned (OpenSpec.upto fnExactRouteCostSpec)

/-- 'laws.FnExactValidMission', WHERE WHAT IT READS IS OF BULK AT MOST 1048576: true; the input reads as it did. -/
def fnExactValidMissionUptoRow : OpenClaim := { program := "ytpblnidbjglgmaa", sum := "ac9cce261e8a333865fead54d604ac7d638d252c663d3c625acf06f0fbbf3f40", func := "loop.example/g01204/laws.FnExactValidMission", spec := "fnExactValidMission", unfollowed := true, recurses := true, apart := false, narrowed := true }
def FnExactValidMissionUptoSaid : Prop := fnExactValidMissionUptoRow.holds Try.pinned (OpenSpec.upto fnExactValidMissionSpec)

/-- 'laws.FnExactSeesSpot', WHERE WHAT IT READS IS OF BULK AT MOST 1048576: true; the input reads as it did. -/
def fnExactSeesSpotUptoRow : OpenClaim := { program := "ytpblnidbjglgmaa", sum := "ac9cce261e8a333865fead54d604ac7d638d252c663d3c625acf06f0fbbf3f40", func := "loop.example/g01204/laws.FnExactSeesSpot", spec := "fnExactSeesSpot", unfollowed := true, recurses := true, apart := false, narrowed := true }
def FnExactSeesSpotUptoSaid : Prop := fnExactSeesSpotUptoRow.holds Try.pinned (OpenSpec.upto fnExactSeesSpotSpec)

/-- 'laws.FnExactSameLog', WHERE WHAT IT READS IS OF BULK AT MOST 1048576: true; the input reads as it did. -/
def fnExactSameLogUptoRow : OpenClaim := { program := "ytpblnidbjglgmaa", sum := "ac9cce261e8a333865fead54d604ac7d638d252c663d3c625acf06f0fbbf3f40", func := "loop.example/g01204/laws.FnExactSameLog", spec := "fnExactSameLog", inPlace := ["math.Float32bits"], unfollowed := true, recurses := true, apart := false, narrowed := true }
def FnExactSameLogUptoSaid : Prop := fnExactSameLogUptoRow.holds Try.pinned (OpenSpec.upto fnExactSameLogSpec)

/-- 'laws.FnExactTicksOf', WHERE WHAT IT READS IS OF BULK AT MOST 1048576: true; the input reads as it did. -/
def fnExactTicksOfUptoRow : OpenClaim := { program := "ytpblnidbjglgmaa", sum := "ac9cce261e8a333865fead54d604ac7d638d252c663d3c625acf06f0fbbf3f40", func := "loop.example/g01204/laws.FnExactTicksOf", spec := "fnExactTicksOf", unfollowed := true, recurses := true, apart := false, narrowed := true }
def FnExactTicksOfUptoSaid : Prop := fnExactTicksOfUptoRow.holds Try.pinned (OpenSpec.upto fnExactTicksOfSpec)

/-- 'laws.FnExactAheadOnWay', WHERE WHAT IT READS IS OF BULK AT MOST 1048576: true; the input reads as it did. -/
def fnExactAheadOnWayUptoRow : OpenClaim := { program := "ytpblnidbjglgmaa", sum := "ac9cce261e8a333865fead54d604ac7d638d252c663d3c625acf06f0fbbf3f40", func := "loop.example/g01204/laws.FnExactAheadOnWay", spec := "fnExactAheadOnWay", inPlace := ["math.sqrt"], unfollowed := true, recurses := true, apart := false, narrowed := true }
def FnExactAheadOnWayUptoSaid : Prop := fnExactAheadOnWayUptoRow.holds Try.pinned (OpenSpec.upto fnExactAheadOnWaySpec)

/-- 'laws.FnExactValidLog', WHERE WHAT IT READS IS OF BULK AT MOST 1048576: true; the input reads as it did. -/
def fnExactValidLogUptoRow : OpenClaim := { program := "ytpblnidbjglgmaa", sum := "ac9cce261e8a333865fead54d604ac7d638d252c663d3c625acf06f0fbbf3f40", func := "loop.example/g01204/laws.FnExactValidLog", spec := "fnExactValidLog", inPlace := ["math.Float32bits"], unfollowed := true, recurses := true, apart := false, narrowed := true }
def FnExactValidLogUptoSaid : Prop := fnExactValidLogUptoRow.holds Try.pinned (OpenSpec.upto fnExactValidLogSpec)

/-- 'laws.FnExactValidFleet', WHERE WHAT IT READS IS OF BULK AT MOST 1048576: true; the input reads as it did. -/
def fnExactValidFleetUptoRow : OpenClaim := { program := "ytpblnidbjglgmaa", sum := "ac9cce261e8a333865fead54d604ac7d638d252c663d3c625acf06f0fbbf3f40", func := "loop.example/g01204/laws.FnExactValidFleet", spec := "fnExactValidFleet", inPlace := ["math.archFloor", "math.Float64bits", "math.Float64frombits", "math.archTrunc"], unfollowed := true, recurses := true, apart := false, narrowed := true }
def FnExactValidFleetUptoSaid : Prop := fnExactValidFleetUptoRow.holds Try.pinned (OpenSpec.upto fnExactValidFleetSpec)

/-- 'laws.FnExactTrackOf', WHERE WHAT IT READS IS OF BULK AT MOST 1048576: true; the input reads as it did. -/
def fnExactTrackOfUptoRow : OpenClaim := { program := "ytpblnidbjglgmaa", sum := "ac9cce261e8a333865fead54d604ac7d638d252c663d3c625acf06f0fbbf3f40", func := "loop.example/g01204/laws.FnExactTrackOf", spec := "fnExactTrackOf", unfollowed := true, recurses := true, apart := false, narrowed := true }
def FnExactTrackOfUptoSaid : Prop := fnExactTrackOfUptoRow.holds Try.pinned (OpenSpec.upto fnExactTrackOfSpec)

end Rows
end Go.Proofs.Ytpblnidbjglgmaa
