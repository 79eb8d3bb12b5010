/-
  No cell of these rows narrows 'for every input' (looked for: loops, veiled, ifaces, maps, wideKeys, modest, calm, conditions, laid).
  DERIVED. THE GIVEN ROWS OF THIS SEAT. 8 by the template 'for every input the law returns true; each argument reads behind the call as it read before'; 0 by the template 'total and deterministic' (their statements: YtioniijhdkkieaaTotals.lean).
  GIVEN WITH THE SEED: the statements are not yours to turn. If you find one false, say at which input.
  Laid BY PROGRAM, IN A SANDBOX (cutbox-rows.mjs): the forced cells as the released guide's own fill.sh prints them over the translation 07dffb9b859d6839… (all of the seat's roots in one cut). By AI agents, Wed Nov 11 2026. No macro, syntax, notation, axiom, sorry.
-/
import Derived.Test.YtioniijhdkkieaaChecked
import GoSem.Claim
import GoSem.ClaimJoined
import GoSem.ClaimMapViews
import Derived.JoinedTies
import Derived.KernelRfl
namespace Go.Proofs.Ytioniijhdkkieaa
/- THE CELL 'sum', in the pinned program and in every row, IS THE sha256 OF THE DUMP (.gsa) THAT YtioniijhdkkieaaProg.lean LOADS. Nothing in Lean hashes anything: it is a label: what it is worth is what the hold of that sum in a sandbox is worth. -/
noncomputable def Try.pinned : Pinned := { name := "ytioniijhdkkieaa", sum := "07dffb9b859d6839a6d7dd73848984ad714181413746707efcf2bedba5b22bcd", checked := Try.checked }
namespace Rows
def none {H : Type} : Left H := { results := [], args := [] }

/-- 'laws.FnExactCostsTo': WHATEVER THE INPUT: true; the input reads as it did. -/
def fnExactCostsToSpec : ChangeSpec := { name := "fnExactCostsTo", fn := fun _ => fun
  | [d1, d2] => { results := [.lit (.bool true)], args := [d1, d2] }
  | _ => none }
def fnExactCostsToRow : OpenClaim := { program := "ytioniijhdkkieaa", sum := "07dffb9b859d6839a6d7dd73848984ad714181413746707efcf2bedba5b22bcd", func := "loop.example/g01204/laws.FnExactCostsTo", spec := "fnExactCostsTo", unfollowed := true, recurses := true, apart := false }
def FnExactCostsToSaid : Prop := fnExactCostsToRow.holds Try.pinned (OpenSpec.ofChange fnExactCostsToSpec)

/-- ITS FALSE NEIGHBOUR: 'it returns false'. Refute it at one input. -/
def fnExactCostsToWrong : ChangeSpec := { name := "fnExactCostsTo", fn := fun _ => fun
  | [d1, d2] => { results := [.lit (.bool false)], args := [d1, d2] }
  | _ => none }
def FnExactCostsToWrongFalsely : Prop := fnExactCostsToRow.holds Try.pinned (OpenSpec.ofChange fnExactCostsToWrong)

/-- 'laws.FnExactShortenRoute': WHATEVER THE INPUT: true; the input reads as it did. -/
def fnExactShortenRouteSpec : ChangeSpec := { name := "fnExactShortenRoute", fn := fun _ => fun
  | [d1, d2] => { results := [.lit (.bool true)], args := [d1, d2] }
  | _ => none }
def fnExactShortenRouteRow : OpenClaim := { program := "ytioniijhdkkieaa", sum := "07dffb9b859d6839a6d7dd73848984ad714181413746707efcf2bedba5b22bcd", func := "loop.example/g01204/laws.FnExactShortenRoute", spec := "fnExactShortenRoute", apart := false }
def FnExactShortenRouteSaid : Prop := fnExactShortenRouteRow.holds Try.pinned (OpenSpec.ofChange fnExactShortenRouteSpec)

/-- ITS FALSE NEIGHBOUR: 'it returns false'. Refute it at one input. -/
def fnExactShortenRouteWrong : ChangeSpec := { name := "fnExactShortenRoute", fn := fun _ => fun
  | [d1, d2] => { results := [.lit (.bool false)], args := [d1, d2] }
  | _ => none }
def FnExactShortenRouteWrongFalsely : Prop := fnExactShortenRouteRow.holds Try.pinned (OpenSpec.ofChange fnExactShortenRouteWrong)

/-- 'laws.FnExactFirstState': WHATEVER THE INPUT: true; the input reads as it did. -/
def fnExactFirstStateSpec : ChangeSpec := { name := "fnExactFirstState", fn := fun _ => fun
  | [d] => { results := [.lit (.bool true)], args := [d] }
  | _ => none }
def fnExactFirstStateRow : OpenClaim := { program := "ytioniijhdkkieaa", sum := "07dffb9b859d6839a6d7dd73848984ad714181413746707efcf2bedba5b22bcd", func := "loop.example/g01204/laws.FnExactFirstState", spec := "fnExactFirstState", inPlace := ["math.Float32bits"], unfollowed := true, recurses := true, apart := false }
def FnExactFirstStateSaid : Prop := fnExactFirstStateRow.holds Try.pinned (OpenSpec.ofChange fnExactFirstStateSpec)

/-- ITS FALSE NEIGHBOUR: 'it returns false'. Refute it at one input. -/
def fnExactFirstStateWrong : ChangeSpec := { name := "fnExactFirstState", fn := fun _ => fun
  | [d] => { results := [.lit (.bool false)], args := [d] }
  | _ => none }
def FnExactFirstStateWrongFalsely : Prop := fnExactFirstStateRow.holds Try.pinned (OpenSpec.ofChange fnExactFirstStateWrong)

/-- 'laws.FnRoutes': WHATEVER THE INPUT: true; the input reads as it did. -/
def fnRoutesSpec : ChangeSpec := { name := "fnRoutes", fn := fun _ => fun
  | [d1, d2] => { results := [.lit (.bool true)], args := [d1, d2] }
  | _ => none }
def fnRoutesRow : OpenClaim := { program := "ytioniijhdkkieaa", sum := "07dffb9b859d6839a6d7dd73848984ad714181413746707efcf2bedba5b22bcd", func := "loop.example/g01204/laws.FnRoutes", spec := "fnRoutes", unfollowed := true, recurses := true, apart := false }
def FnRoutesSaid : Prop := fnRoutesRow.holds Try.pinned (OpenSpec.ofChange fnRoutesSpec)

/-- ITS FALSE NEIGHBOUR: 'it returns false'. Refute it at one input. -/
def fnRoutesWrong : ChangeSpec := { name := "fnRoutes", fn := fun _ => fun
  | [d1, d2] => { results := [.lit (.bool false)], args := [d1, d2] }
  | _ => none }
def FnRoutesWrongFalsely : Prop := fnRoutesRow.holds Try.pinned (OpenSpec.ofChange fnRoutesWrong)

/-- 'laws.FnExactBestRoute': WHATEVER THE INPUT: true; the input reads as it did. -/
def fnExactBestRouteSpec : ChangeSpec := { name := "fnExactBestRoute", fn := fun _ => fun
  | [d1, d2, d3] => { results := [.lit (.bool true)], args := [d1, d2, d3] }
  | _ => none }
def fnExactBestRouteRow : OpenClaim := { program := "ytioniijhdkkieaa", sum := "07dffb9b859d6839a6d7dd73848984ad714181413746707efcf2bedba5b22bcd", func := "loop.example/g01204/laws.FnExactBestRoute", spec := "fnExactBestRoute", unfollowed := true, recurses := true, apart := false }
def FnExactBestRouteSaid : Prop := fnExactBestRouteRow.holds Try.pinned (OpenSpec.ofChange fnExactBestRouteSpec)

/-- ITS FALSE NEIGHBOUR: 'it returns false'. Refute it at one input. -/
def fnExactBestRouteWrong : ChangeSpec := { name := "fnExactBestRoute", fn := fun _ => fun
  | [d1, d2, d3] => { results := [.lit (.bool false)], args := [d1, d2, d3] }
  | _ => none }
def FnExactBestRouteWrongFalsely : Prop := fnExactBestRouteRow.holds Try.pinned (OpenSpec.ofChange fnExactBestRouteWrong)

/-- 'laws.FnShortened': WHATEVER THE INPUT: true; the input reads as it did. -/
def fnShortenedSpec : ChangeSpec := { name := "fnShortened", fn := fun _ => fun
  | [d1, d2] => { results := [.lit (.bool true)], args := [d1, d2] }
  | _ => none }
def fnShortenedRow : OpenClaim := { program := "ytioniijhdkkieaa", sum := "07dffb9b859d6839a6d7dd73848984ad714181413746707efcf2bedba5b22bcd", func := "loop.example/g01204/laws.FnShortened", spec := "fnShortened", unfollowed := true, recurses := true, apart := false }
def FnShortenedSaid : Prop := fnShortenedRow.holds Try.pinned (OpenSpec.ofChange fnShortenedSpec)

/-- ITS FALSE NEIGHBOUR: 'it returns false'. Refute it at one input. -/
def fnShortenedWrong : ChangeSpec := { name := "fnShortened", fn := fun _ => fun
  | [d1, d2] => { results := [.lit (.bool false)], args := [d1, d2] }
  | _ => none }
def FnShortenedWrongFalsely : Prop := fnShortenedRow.holds Try.pinned (OpenSpec.ofChange fnShortenedWrong)

/-- 'laws.FnExactGridOfMarks': WHATEVER THE INPUT: true; the input reads as it did. -/
def fnExactGridOfMarksSpec : ChangeSpec := { name := "fnExactGridOfMarks", fn := fun _ => fun
  | [d1, d2, d3, d4, d5] => { results := [.lit (.bool true)], args := [d1, d2, d3, d4, d5] }
  | _ => none }
def fnExactGridOfMarksRow : OpenClaim := { program := "ytioniijhdkkieaa", sum := "07dffb9b859d6839a6d7dd73848984ad714181413746707efcf2bedba5b22bcd", func := "loop.example/g01204/laws.FnExactGridOfMarks", spec := "fnExactGridOfMarks", inPlace := ["math.archFloor", "math.Float64bits", "math.Float64frombits", "math.archTrunc"], apart := false }
def FnExactGridOfMarksSaid : Prop := fnExactGridOfMarksRow.holds Try.pinned (OpenSpec.ofChange fnExactGridOfMarksSpec)

/-- ITS FALSE NEIGHBOUR: 'it returns false'. Refute it at one input. -/
def fnExactGridOfMarksWrong : ChangeSpec := { name := "fnExactGridOfMarks", fn := fun _ => fun
  | [d1, d2, d3, d4, d5] => { results := [.lit (.bool false)], args := [d1, d2, d3, d4, d5] }
  | _ => none }
def FnExactGridOfMarksWrongFalsely : Prop := fnExactGridOfMarksRow.holds Try.pinned (OpenSpec.ofChange fnExactGridOfMarksWrong)

/-- 'laws.FnExactFollowWay': WHATEVER THE INPUT: true; the input reads as it did. -/
def fnExactFollowWaySpec : ChangeSpec := { name := "fnExactFollowWay", fn := fun _ => fun
  | [d1, d2, d3, d4] => { results := [.lit (.bool true)], args := [d1, d2, d3, d4] }
  | _ => none }
def fnExactFollowWayRow : OpenClaim := { program := "ytioniijhdkkieaa", sum := "07dffb9b859d6839a6d7dd73848984ad714181413746707efcf2bedba5b22bcd", func := "loop.example/g01204/laws.FnExactFollowWay", spec := "fnExactFollowWay", inPlace := ["math.sqrt", "math.Float64frombits", "math.Float64bits", "math.RoundToEven", "math.archFloor", "math.archTrunc"], unfollowed := true, recurses := true, apart := false }
def FnExactFollowWaySaid : Prop := fnExactFollowWayRow.holds Try.pinned (OpenSpec.ofChange fnExactFollowWaySpec)

/-- ITS FALSE NEIGHBOUR: 'it returns false'. Refute it at one input. -/
def fnExactFollowWayWrong : ChangeSpec := { name := "fnExactFollowWay", fn := fun _ => fun
  | [d1, d2, d3, d4] => { results := [.lit (.bool false)], args := [d1, d2, d3, d4] }
  | _ => none }
def FnExactFollowWayWrongFalsely : Prop := fnExactFollowWayRow.holds Try.pinned (OpenSpec.ofChange fnExactFollowWayWrong)

/- THE SECOND FORM. 'bulk': how many values and letters a reading holds, each counted each time it is reached (what is shared counts as often as it is met; a slice's spare places count too). A statement '..UptoSaid' is the law's where the arguments, and the package variables that the reading takes, are together of bulk at most 1048576: NARROWER than '..Said'. Prove '..Said' where nothing that the law and all that it calls make is longer than what came in: it says more and counts as full. Else prove '..UptoSaid'. A law counts once. -/
mutual
def uptoBulk {H : Type} : DataW H → Nat
  | .lit (.string bytes) => bytes.length + 1
  | .lit _ => 1
  | .nil => 1
  | .ptr d => uptoBulk d + 1
  | .slice elems spare => uptoBulkAll elems + uptoBulkAll spare + 1
  | .agg parts => uptoBulkAll parts + 1
  | .iface _ d => uptoBulk d + 1
  | .map entries => uptoBulkEntries entries + 1
  | .held _ => 1
def uptoBulkAll {H : Type} : List (DataW H) → Nat
  | [] => 0
  | d :: r => uptoBulk d + uptoBulkAll r
def uptoBulkEntries {H : Type} : List (Lit × DataW H) → Nat
  | [] => 0
  | x :: r => uptoBulkEntry x + uptoBulkEntries r
def uptoBulkEntry {H : Type} : Lit × DataW H → Nat
  | (.string bytes, d) => bytes.length + uptoBulk d + 1
  | (_, d) => uptoBulk d + 1
 end
def uptoSmall : (H : Type) → List (DataW H) → Bool := fun _ ds => decide (uptoBulkAll ds ≤ 1048576)
def OpenSpec.upto (s : _root_.Go.ChangeSpec) : _root_.Go.OpenSpec := { _root_.Go.OpenSpec.ofChange s with cond := some uptoSmall }

/-- 'laws.FnExactCostsTo', WHERE WHAT IT READS IS OF BULK AT MOST 1048576: true; the input reads as it did. -/
def fnExactCostsToUptoRow : OpenClaim := { program := "ytioniijhdkkieaa", sum := "07dffb9b859d6839a6d7dd73848984ad714181413746707efcf2bedba5b22bcd", func := "loop.example/g01204/laws.FnExactCostsTo", spec := "fnExactCostsTo", unfollowed := true, recurses := true, apart := false, narrowed := true }
def FnExactCostsToUptoSaid : Prop := fnExactCostsToUptoRow.holds Try.pinned (OpenSpec.upto fnExactCostsToSpec)

/-- 'laws.FnExactShortenRoute', WHERE WHAT IT READS IS OF BULK AT MOST 1048576: true; the input reads as it did. -/
def fnExactShortenRouteUptoRow : OpenClaim := { program := "ytioniijhdkkieaa", sum := "07dffb9b859d6839a6d7dd73848984ad714181413746707efcf2bedba5b22bcd", func := "loop.example/g01204/laws.FnExactShortenRoute", spec := "fnExactShortenRoute", apart := false, narrowed := true }
def FnExactShortenRouteUptoSaid : Prop := fnExactShortenRouteUptoRow.holds Try.pinned (OpenSpec.upto fnExactShortenRouteSpec)

/-- 'laws.FnExactFirstState', WHERE WHAT IT READS IS OF BULK AT MOST 1048576: true; the input reads as it did. -/
def fnExactFirstStateUptoRow : OpenClaim := { program := "ytioniijhdkkieaa", sum := "07dffb9b859d6839a6d7dd73848984ad714181413746707efcf2bedba5b22bcd", func := "loop.example/g01204/laws.FnExactFirstState", spec := "fnExactFirstState", inPlace := ["math.Float32bits"], unfollowed := true, recurses := true, apart := false, narrowed := true }
def FnExactFirstStateUptoSaid : Prop := fnExactFirstStateUptoRow.holds Try.pinned (OpenSpec.upto fnExactFirstStateSpec)

/-- 'laws.FnRoutes', WHERE WHAT IT READS IS OF BULK AT MOST 1048576: true; the input reads as it did. -/
def fnRoutesUptoRow : OpenClaim := { program := "ytioniijhdkkieaa", sum := "07dffb9b859d6839a6d7dd73848984ad714181413746707efcf2bedba5b22bcd", func := "loop.example/g01204/laws.FnRoutes", spec := "fnRoutes", unfollowed := true, recurses := true, apart := false, narrowed := true }
def FnRoutesUptoSaid : Prop := fnRoutesUptoRow.holds Try.pinned (OpenSpec.upto fnRoutesSpec)

/-- 'laws.FnExactBestRoute', WHERE WHAT IT READS IS OF BULK AT MOST 1048576: true; the input reads as it did. -/
def fnExactBestRouteUptoRow : OpenClaim := { program := "ytioniijhdkkieaa", sum := "07dffb9b859d6839a6d7dd73848984ad714181413746707efcf2bedba5b22bcd", func := "loop.example/g01204/laws.FnExactBestRoute", spec := "fnExactBestRoute", unfollowed := true, recurses := true, apart := false, narrowed := true }
def FnExactBestRouteUptoSaid : Prop := fnExactBestRouteUptoRow.holds Try.pinned (OpenSpec.upto fnExactBestRouteSpec)

/-- 'laws.FnShortened', WHERE WHAT IT READS IS OF BULK AT MOST 1048576: true; the input reads as it did. -/
def fnShortenedUptoRow : OpenClaim := { program := "ytioniijhdkkieaa", sum := "07dffb9b859d6839a6d7dd73848984ad714181413746707efcf2bedba5b22bcd", func := "loop.example/g01204/laws.FnShortened", spec := "fnShortened", unfollowed := true, recurses := true, apart := false, narrowed := true }
def FnShortenedUptoSaid : Prop := fnShortenedUptoRow.holds Try.pinned (OpenSpec.upto fnShortenedSpec)

/-- 'laws.FnExactGridOfMarks', WHERE WHAT IT READS IS OF BULK AT MOST 1048576: true; the input reads as it did. -/
def fnExactGridOfMarksUptoRow : OpenClaim := { program := "ytioniijhdkkieaa", sum := "07dffb9b859d6839a6d7dd73848984ad714181413746707efcf2bedba5b22bcd", func := "loop.example/g01204/laws.FnExactGridOfMarks", spec := "fnExactGridOfMarks", inPlace := ["math.archFloor", "math.Float64bits", "math.Float64frombits", "math.archTrunc"], apart := false, narrowed := true }
def FnExactGridOfMarksUptoSaid : Prop := fnExactGridOfMarksUptoRow.holds Try.pinned (OpenSpec.upto fnExactGridOfMarksSpec)

/-- 'laws.FnExactFollowWay', WHERE WHAT IT READS IS OF BULK AT MOST 1048576: true; the input reads as it did. -/
def fnExactFollowWayUptoRow : OpenClaim := { program := "ytioniijhdkkieaa", sum := "07dffb9b859d6839a6d7dd73848984ad714181413746707efcf2bedba5b22bcd", func := "loop.example/g01204/laws.FnExactFollowWay", spec := "fnExactFollowWay", inPlace := ["math.sqrt", "math.Float64frombits", "math.Float64bits", "math.RoundToEven", "math.archFloor", "math.archTrunc"], unfollowed := true, recurses := true, apart := false, narrowed := true }
def FnExactFollowWayUptoSaid : Prop := fnExactFollowWayUptoRow.holds Try.pinned (OpenSpec.upto fnExactFollowWaySpec)

end Rows
end Go.Proofs.Ytioniijhdkkieaa
