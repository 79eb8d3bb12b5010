/-
  No cell of these rows narrows 'for every input' (looked for: loops, veiled, ifaces, maps, wideKeys, modest, calm, conditions, laid).
  DERIVED. THE GIVEN ROWS OF THIS SEAT. 7 by the template 'for every input the law returns true; each argument reads behind the call as it read before'; 0 by the template 'total and deterministic' (their statements: YtjahnpagogpffaaGreatTotals.lean).
  GIVEN WITH THE SEED: the statements are not yours to turn. If you find one false, say at which input.
  Laid BY PROGRAM, IN A SANDBOX (cutbox-rows.mjs): the forced cells as the released guide's own fill.sh prints them over the translation ae0ddeb186bafcc4… (all of the seat's roots in one cut). By AI agents, Wed Nov 11 2026. No macro, syntax, notation, axiom, sorry.
-/
import Derived.Test.YtjahnpagogpffaaGreatChecked
import GoSem.Claim
import GoSem.ClaimJoined
import GoSem.ClaimMapViews
import Derived.JoinedTies
import Derived.KernelRfl
namespace Go.Proofs.YtjahnpagogpffaaGreat
/- THE CELL 'sum', in the pinned program and in every row, IS THE sha256 OF THE DUMP (.gsa) THAT YtjahnpagogpffaaGreatProg.lean LOADS. Nothing in Lean hashes anything: it is a label: what it is worth is what the hold of that sum in a sandbox is worth. -/
noncomputable def Tryz.pinned : Pinned := { name := "ytjahnpagogpffaagreat", sum := "ae0ddeb186bafcc4da8887b23de63f155860826f3fc1a8f723b7d7fab8fe19eb", checked := Tryz.checked }
namespace Rows
def none {H : Type} : Left H := { results := [], args := [] }

/-- 'laws.FnFollowed': WHATEVER THE INPUT: true; the input reads as it did. -/
def fnFollowedSpec : ChangeSpec := { name := "fnFollowed", fn := fun _ => fun
  | [d1, d2] => { results := [.lit (.bool true)], args := [d1, d2] }
  | _ => none }
def fnFollowedRow : OpenClaim := { program := "ytjahnpagogpffaagreat", sum := "ae0ddeb186bafcc4da8887b23de63f155860826f3fc1a8f723b7d7fab8fe19eb", func := "loop.example/g01204/laws.FnFollowed", spec := "fnFollowed", inPlace := ["math.sqrt", "math.Float64frombits", "math.Float64bits", "math.RoundToEven", "math.archFloor", "math.archTrunc", "math.Float32bits", "math.Float32frombits"], unfollowed := true, recurses := true, apart := false }
def FnFollowedSaid : Prop := fnFollowedRow.holds Tryz.pinned (OpenSpec.ofChange fnFollowedSpec)

/-- ITS FALSE NEIGHBOUR: 'it returns false'. Refute it at one input. -/
def fnFollowedWrong : ChangeSpec := { name := "fnFollowed", fn := fun _ => fun
  | [d1, d2] => { results := [.lit (.bool false)], args := [d1, d2] }
  | _ => none }
def FnFollowedWrongFalsely : Prop := fnFollowedRow.holds Tryz.pinned (OpenSpec.ofChange fnFollowedWrong)

/-- 'laws.FnExactTakeEntry': WHATEVER THE INPUT: true; the input reads as it did. -/
def fnExactTakeEntrySpec : ChangeSpec := { name := "fnExactTakeEntry", fn := fun _ => fun
  | [d1, d2, d3] => { results := [.lit (.bool true)], args := [d1, d2, d3] }
  | _ => none }
def fnExactTakeEntryRow : OpenClaim := { program := "ytjahnpagogpffaagreat", sum := "ae0ddeb186bafcc4da8887b23de63f155860826f3fc1a8f723b7d7fab8fe19eb", func := "loop.example/g01204/laws.FnExactTakeEntry", spec := "fnExactTakeEntry", inPlace := ["math.Float32bits", "math.sqrt"], unfollowed := true, recurses := true, apart := false }
def FnExactTakeEntrySaid : Prop := fnExactTakeEntryRow.holds Tryz.pinned (OpenSpec.ofChange fnExactTakeEntrySpec)

/-- ITS FALSE NEIGHBOUR: 'it returns false'. Refute it at one input. -/
def fnExactTakeEntryWrong : ChangeSpec := { name := "fnExactTakeEntry", fn := fun _ => fun
  | [d1, d2, d3] => { results := [.lit (.bool false)], args := [d1, d2, d3] }
  | _ => none }
def FnExactTakeEntryWrongFalsely : Prop := fnExactTakeEntryRow.holds Tryz.pinned (OpenSpec.ofChange fnExactTakeEntryWrong)

/-- 'laws.FnExactReplayLog': WHATEVER THE INPUT: true; the input reads as it did. -/
def fnExactReplayLogSpec : ChangeSpec := { name := "fnExactReplayLog", fn := fun _ => fun
  | [d] => { results := [.lit (.bool true)], args := [d] }
  | _ => none }
def fnExactReplayLogRow : OpenClaim := { program := "ytjahnpagogpffaagreat", sum := "ae0ddeb186bafcc4da8887b23de63f155860826f3fc1a8f723b7d7fab8fe19eb", func := "loop.example/g01204/laws.FnExactReplayLog", spec := "fnExactReplayLog", inPlace := ["math.Float32bits", "math.sqrt"], unfollowed := true, recurses := true, apart := false }
def FnExactReplayLogSaid : Prop := fnExactReplayLogRow.holds Tryz.pinned (OpenSpec.ofChange fnExactReplayLogSpec)

/-- ITS FALSE NEIGHBOUR: 'it returns false'. Refute it at one input. -/
def fnExactReplayLogWrong : ChangeSpec := { name := "fnExactReplayLog", fn := fun _ => fun
  | [d] => { results := [.lit (.bool false)], args := [d] }
  | _ => none }
def FnExactReplayLogWrongFalsely : Prop := fnExactReplayLogRow.holds Tryz.pinned (OpenSpec.ofChange fnExactReplayLogWrong)

/-- 'laws.FnExactReplayFrom': WHATEVER THE INPUT: true; the input reads as it did. -/
def fnExactReplayFromSpec : ChangeSpec := { name := "fnExactReplayFrom", fn := fun _ => fun
  | [d1, d2, d3, d4] => { results := [.lit (.bool true)], args := [d1, d2, d3, d4] }
  | _ => none }
def fnExactReplayFromRow : OpenClaim := { program := "ytjahnpagogpffaagreat", sum := "ae0ddeb186bafcc4da8887b23de63f155860826f3fc1a8f723b7d7fab8fe19eb", func := "loop.example/g01204/laws.FnExactReplayFrom", spec := "fnExactReplayFrom", inPlace := ["math.Float32bits", "math.sqrt"], unfollowed := true, recurses := true, apart := false }
def FnExactReplayFromSaid : Prop := fnExactReplayFromRow.holds Tryz.pinned (OpenSpec.ofChange fnExactReplayFromSpec)

/-- ITS FALSE NEIGHBOUR: 'it returns false'. Refute it at one input. -/
def fnExactReplayFromWrong : ChangeSpec := { name := "fnExactReplayFrom", fn := fun _ => fun
  | [d1, d2, d3, d4] => { results := [.lit (.bool false)], args := [d1, d2, d3, d4] }
  | _ => none }
def FnExactReplayFromWrongFalsely : Prop := fnExactReplayFromRow.holds Tryz.pinned (OpenSpec.ofChange fnExactReplayFromWrong)

/-- 'laws.FnExactRefusedEntries': WHATEVER THE INPUT: true; the input reads as it did. -/
def fnExactRefusedEntriesSpec : ChangeSpec := { name := "fnExactRefusedEntries", fn := fun _ => fun
  | [d] => { results := [.lit (.bool true)], args := [d] }
  | _ => none }
def fnExactRefusedEntriesRow : OpenClaim := { program := "ytjahnpagogpffaagreat", sum := "ae0ddeb186bafcc4da8887b23de63f155860826f3fc1a8f723b7d7fab8fe19eb", func := "loop.example/g01204/laws.FnExactRefusedEntries", spec := "fnExactRefusedEntries", inPlace := ["math.Float32bits", "math.sqrt"], unfollowed := true, recurses := true, apart := false }
def FnExactRefusedEntriesSaid : Prop := fnExactRefusedEntriesRow.holds Tryz.pinned (OpenSpec.ofChange fnExactRefusedEntriesSpec)

/-- ITS FALSE NEIGHBOUR: 'it returns false'. Refute it at one input. -/
def fnExactRefusedEntriesWrong : ChangeSpec := { name := "fnExactRefusedEntries", fn := fun _ => fun
  | [d] => { results := [.lit (.bool false)], args := [d] }
  | _ => none }
def FnExactRefusedEntriesWrongFalsely : Prop := fnExactRefusedEntriesRow.holds Tryz.pinned (OpenSpec.ofChange fnExactRefusedEntriesWrong)

/-- 'laws.FnExactMissOf': WHATEVER THE INPUT: true; the input reads as it did. -/
def fnExactMissOfSpec : ChangeSpec := { name := "fnExactMissOf", fn := fun _ => fun
  | [d1, d2] => { results := [.lit (.bool true)], args := [d1, d2] }
  | _ => none }
def fnExactMissOfRow : OpenClaim := { program := "ytjahnpagogpffaagreat", sum := "ae0ddeb186bafcc4da8887b23de63f155860826f3fc1a8f723b7d7fab8fe19eb", func := "loop.example/g01204/laws.FnExactMissOf", spec := "fnExactMissOf", inPlace := ["math.RoundToEven", "math.sqrt", "math.Float32bits"], unfollowed := true, recurses := true, apart := false }
def FnExactMissOfSaid : Prop := fnExactMissOfRow.holds Tryz.pinned (OpenSpec.ofChange fnExactMissOfSpec)

/-- ITS FALSE NEIGHBOUR: 'it returns false'. Refute it at one input. -/
def fnExactMissOfWrong : ChangeSpec := { name := "fnExactMissOf", fn := fun _ => fun
  | [d1, d2] => { results := [.lit (.bool false)], args := [d1, d2] }
  | _ => none }
def FnExactMissOfWrongFalsely : Prop := fnExactMissOfRow.holds Tryz.pinned (OpenSpec.ofChange fnExactMissOfWrong)

/-- 'laws.FnReplayed': WHATEVER THE INPUT: true; the input reads as it did. -/
def fnReplayedSpec : ChangeSpec := { name := "fnReplayed", fn := fun _ => fun
  | [d1, d2] => { results := [.lit (.bool true)], args := [d1, d2] }
  | _ => none }
def fnReplayedRow : OpenClaim := { program := "ytjahnpagogpffaagreat", sum := "ae0ddeb186bafcc4da8887b23de63f155860826f3fc1a8f723b7d7fab8fe19eb", func := "loop.example/g01204/laws.FnReplayed", spec := "fnReplayed", inPlace := ["math.RoundToEven", "math.sqrt", "math.Float32bits"], unfollowed := true, recurses := true, apart := false }
def FnReplayedSaid : Prop := fnReplayedRow.holds Tryz.pinned (OpenSpec.ofChange fnReplayedSpec)

/-- ITS FALSE NEIGHBOUR: 'it returns false'. Refute it at one input. -/
def fnReplayedWrong : ChangeSpec := { name := "fnReplayed", fn := fun _ => fun
  | [d1, d2] => { results := [.lit (.bool false)], args := [d1, d2] }
  | _ => none }
def FnReplayedWrongFalsely : Prop := fnReplayedRow.holds Tryz.pinned (OpenSpec.ofChange fnReplayedWrong)

/- THE SECOND FORM. 'bulk': how many values and letters a reading holds, each counted each time it is reached (what is shared counts as often as it is met; a slice's spare places count too). A statement '..UptoSaid' is the law's where the arguments, and the package variables that the reading takes, are together of bulk at most 1048576: NARROWER than '..Said'. Prove '..Said' where nothing that the law and all that it calls make is longer than what came in: it says more and counts as full. Else prove '..UptoSaid'. A law counts once. -/
mutual
def uptoBulk {H : Type} : DataW H → Nat
  | .lit (.string bytes) => bytes.length + 1
  | .lit _ => 1
  | .nil => 1
  | .ptr d => uptoBulk d + 1
  | .slice elems spare => uptoBulkAll elems + uptoBulkAll spare + 1
  | .agg parts => uptoBulkAll parts + 1
  | .iface _ d => uptoBulk d + 1
  | .map entries => uptoBulkEntries entries + 1
  | .held _ => 1
def uptoBulkAll {H : Type} : List (DataW H) → Nat
  | [] => 0
  | d :: r => uptoBulk d + uptoBulkAll r
def uptoBulkEntries {H : Type} : List (Lit × DataW H) → Nat
  | [] => 0
  | x :: r => uptoBulkEntry x + uptoBulkEntries r
def uptoBulkEntry {H : Type} : Lit × DataW H → Nat
  | (.string bytes, d) => bytes.length + uptoBulk d + 1
  | (_, d) => uptoBulk d + 1
 end
def uptoSmall : (H : Type) → List (DataW H) → Bool := fun _ ds => decide (uptoBulkAll ds ≤ 1048576)
def OpenSpec.upto (s : _root_.Go.ChangeSpec) : _root_.Go.OpenSpec := { _root_.Go.OpenSpec.ofChange s with cond := some uptoSmall }

/-- 'laws.FnFollowed', WHERE WHAT IT READS IS OF BULK AT MOST 1048576: true; the input reads as it did. -/
def fnFollowedUptoRow : OpenClaim := { program := "ytjahnpagogpffaagreat", sum := "ae0ddeb186bafcc4da8887b23de63f155860826f3fc1a8f723b7d7fab8fe19eb", func := "loop.example/g01204/laws.FnFollowed", spec := "fnFollowed", inPlace := ["math.sqrt", "math.Float64frombits", "math.Float64bits", "math.RoundToEven", "math.archFloor", "math.archTrunc", "math.Float32bits", "math.Float32frombits"], unfollowed := true, recurses := true, apart := false, narrowed := true }
def FnFollowedUptoSaid : Prop := fnFollowedUptoRow.holds Tryz.pinned (OpenSpec.upto fnFollowedSpec)

/-- 'laws.FnExactTakeEntry', WHERE WHAT IT READS IS OF BULK AT MOST 1048576: true; the input reads as it did. -/
def fnExactTakeEntryUptoRow : OpenClaim := { program := "ytjahnpagogpffaagreat", sum := "ae0ddeb186bafcc4da8887b23de63f155860826f3fc1a8f723b7d7fab8fe19eb", func := "loop.example/g01204/laws.FnExactTakeEntry", spec := "fnExactTakeEntry", inPlace := ["math.Float32bits", "math.sqrt"], unfollowed := true, recurses := true, apart := false, narrowed := true }
def FnExactTakeEntryUptoSaid : Prop := fnExactTakeEntryUptoRow.holds Tryz.pinned (OpenSpec.upto fnExactTakeEntrySpec)

/-- 'laws.FnExactReplayLog', WHERE WHAT IT READS IS OF BULK AT MOST 1048576: true; the input reads as it did. -/
def fnExactReplayLogUptoRow : OpenClaim := { program := "ytjahnpagogpffaagreat", sum := "ae0ddeb186bafcc4da8887b23de63f155860826f3fc1a8f723b7d7fab8fe19eb", func := "loop.example/g01204/laws.FnExactReplayLog", spec := "fnExactReplayLog", inPlace := ["math.Float32bits", "math.sqrt"], unfollowed := true, recurses := true, apart := false, narrowed := true }
def FnExactReplayLogUptoSaid : Prop := fnExactReplayLogUptoRow.holds Tryz.pinned (OpenSpec.upto fnExactReplayLogSpec)

/-- 'laws.FnExactReplayFrom', WHERE WHAT IT READS IS OF BULK AT MOST 1048576: true; the input reads as it did. -/
def fnExactReplayFromUptoRow : OpenClaim := { program := "ytjahnpagogpffaagreat", sum := "ae0ddeb186bafcc4da8887b23de63f155860826f3fc1a8f723b7d7fab8fe19eb", func := "loop.example/g01204/laws.FnExactReplayFrom", spec := "fnExactReplayFrom", inPlace := ["math.Float32bits", "math.sqrt"], unfollowed := true, recurses := true, apart := false, narrowed := true }
def FnExactReplayFromUptoSaid : Prop := fnExactReplayFromUptoRow.holds Tryz.pinned (OpenSpec.upto fnExactReplayFromSpec)

/-- 'laws.FnExactRefusedEntries', WHERE WHAT IT READS IS OF BULK AT MOST 1048576: true; the input reads as it did. -/
def fnExactRefusedEntriesUptoRow : OpenClaim := { program := "ytjahnpagogpffaagreat", sum := "ae0ddeb186bafcc4da8887b23de63f155860826f3fc1a8f723b7d7fab8fe19eb", func := "loop.example/g01204/laws.FnExactRefusedEntries", spec := "fnExactRefusedEntries", inPlace := ["math.Float32bits", "math.sqrt"], unfollowed := true, recurses := true, apart := false, narrowed := true }
def FnExactRefusedEntriesUptoSaid : Prop := fnExactRefusedEntriesUptoRow.holds Tryz.pinned (OpenSpec.upto fnExactRefusedEntriesSpec)

/-- 'laws.FnExactMissOf', WHERE WHAT IT READS IS OF BULK AT MOST 1048576: true; the input reads as it did. -/
def fnExactMissOfUptoRow : OpenClaim := { program := "ytjahnpagogpffaagreat", sum := "ae0ddeb186bafcc4da8887b23de63f155860826f3fc1a8f723b7d7fab8fe19eb", func := "loop.example/g01204/laws.FnExactMissOf", spec := "fnExactMissOf", inPlace := ["math.RoundToEven", "math.sqrt", "math.Float32bits"], unfollowed := true, recurses := true, apart := false, narrowed := true }
def FnExactMissOfUptoSaid : Prop := fnExactMissOfUptoRow.holds Tryz.pinned (OpenSpec.upto fnExactMissOfSpec)

/-- 'laws.FnReplayed', WHERE WHAT IT READS IS OF BULK AT MOST 1048576: true; the input reads as it did. -/
def fnReplayedUptoRow : OpenClaim := { program := "ytjahnpagogpffaagreat", sum := "ae0ddeb186bafcc4da8887b23de63f155860826f3fc1a8f723b7d7fab8fe19eb", func := "loop.example/g01204/laws.FnReplayed", spec := "fnReplayed", inPlace := ["math.RoundToEven", "math.sqrt", "math.Float32bits"], unfollowed := true, recurses := true, apart := false, narrowed := true }
def FnReplayedUptoSaid : Prop := fnReplayedUptoRow.holds Tryz.pinned (OpenSpec.upto fnReplayedSpec)

end Rows
end Go.Proofs.YtjahnpagogpffaaGreat
