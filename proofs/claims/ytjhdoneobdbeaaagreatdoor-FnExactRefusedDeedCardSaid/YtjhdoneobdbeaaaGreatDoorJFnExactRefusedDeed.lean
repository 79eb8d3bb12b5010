/- What is shut of FnExactRefusedDeed's row, in parts (as one it needs too much room). -/
import Derived.Test.YtjhdoneobdbeaaaGreatDoorRows
import Derived.Test.YtjhdoneobdbeaaaGreatDoorCards
import Derived.Test.YtjhdoneobdbeaaaGreatDoorTie
import Derived.ProofKit
import Derived.SizedLaws
import Derived.Deep.DeepLaidRun
import Derived.SevenTiedAt
import Derived.Stop.LaidErr
namespace Go.Proofs.YtjhdoneobdbeaaaGreatDoor
open Go
theorem fnExactRefusedDeed_j0 : (Rows.fnExactRefusedDeedRow.inPlace == Tryz.prog.inPlace 5) = true := by kernel_rfl
theorem fnExactRefusedDeed_j1 : (Rows.fnExactRefusedDeedRow.unfollowed == Tryz.prog.unfollowed 5) = true := by kernel_rfl
theorem fnExactRefusedDeed_j2 : (Rows.fnExactRefusedDeedRow.recurses == Tryz.prog.recurses 5) = true := by kernel_rfl
theorem fnExactRefusedDeed_j3 : (Rows.fnExactRefusedDeedRow.named == Tryz.prog.varsNamed 5) = true := by kernel_rfl
theorem fnExactRefusedDeed_jf : joinedFacts Tryz.prog 5 Tryz.f5 Rows.fnExactRefusedDeedSpec Rows.fnExactRefusedDeedRow = true := by
  rw [joinedFacts, fnExactRefusedDeed_j0, fnExactRefusedDeed_j1, fnExactRefusedDeed_j2, fnExactRefusedDeed_j3]
  kernel_rfl
end Go.Proofs.YtjhdoneobdbeaaaGreatDoor
