/- What is shut of FnFleetDeeds's row, in parts (as one it needs too much room). -/
import Derived.Test.YtjhdoneobdbeaaaGreatDoorRows
import Derived.Test.YtjhdoneobdbeaaaGreatDoorCards
import Derived.Test.YtjhdoneobdbeaaaGreatDoorTie
import Derived.ProofKit
import Derived.SizedLaws
import Derived.Deep.DeepLaidRun
import Derived.SevenTiedAt
import Derived.Stop.LaidErr
namespace Go.Proofs.YtjhdoneobdbeaaaGreatDoor
open Go
theorem fnFleetDeeds_j0 : (Rows.fnFleetDeedsRow.inPlace == Tryz.prog.inPlace 7) = true := by kernel_rfl
theorem fnFleetDeeds_j1 : (Rows.fnFleetDeedsRow.unfollowed == Tryz.prog.unfollowed 7) = true := by kernel_rfl
theorem fnFleetDeeds_j2 : (Rows.fnFleetDeedsRow.recurses == Tryz.prog.recurses 7) = true := by kernel_rfl
theorem fnFleetDeeds_j3 : (Rows.fnFleetDeedsRow.named == Tryz.prog.varsNamed 7) = true := by kernel_rfl
theorem fnFleetDeeds_jf : joinedFacts Tryz.prog 7 Tryz.f7 Rows.fnFleetDeedsSpec Rows.fnFleetDeedsRow = true := by
  rw [joinedFacts, fnFleetDeeds_j0, fnFleetDeeds_j1, fnFleetDeeds_j2, fnFleetDeeds_j3]
  kernel_rfl
end Go.Proofs.YtjhdoneobdbeaaaGreatDoor
