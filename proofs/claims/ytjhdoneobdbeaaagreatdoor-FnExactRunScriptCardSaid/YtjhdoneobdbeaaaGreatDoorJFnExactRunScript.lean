/- What is shut of FnExactRunScript's row, in parts (as one it needs too much room). -/
import Derived.Test.YtjhdoneobdbeaaaGreatDoorRows
import Derived.Test.YtjhdoneobdbeaaaGreatDoorCards
import Derived.Test.YtjhdoneobdbeaaaGreatDoorTie
import Derived.ProofKit
import Derived.SizedLaws
import Derived.Deep.DeepLaidRun
import Derived.SevenTiedAt
import Derived.Stop.LaidErr
namespace Go.Proofs.YtjhdoneobdbeaaaGreatDoor
open Go
theorem fnExactRunScript_j0 : (Rows.fnExactRunScriptRow.inPlace == Tryz.prog.inPlace 8) = true := by kernel_rfl
theorem fnExactRunScript_j1 : (Rows.fnExactRunScriptRow.unfollowed == Tryz.prog.unfollowed 8) = true := by kernel_rfl
theorem fnExactRunScript_j2 : (Rows.fnExactRunScriptRow.recurses == Tryz.prog.recurses 8) = true := by kernel_rfl
theorem fnExactRunScript_j3 : (Rows.fnExactRunScriptRow.named == Tryz.prog.varsNamed 8) = true := by kernel_rfl
theorem fnExactRunScript_jf : joinedFacts Tryz.prog 8 Tryz.f8 Rows.fnExactRunScriptSpec Rows.fnExactRunScriptRow = true := by
  rw [joinedFacts, fnExactRunScript_j0, fnExactRunScript_j1, fnExactRunScript_j2, fnExactRunScript_j3]
  kernel_rfl
end Go.Proofs.YtjhdoneobdbeaaaGreatDoor
