/- What is shut of FnExactAreAgreed's row, in parts (as one it needs too much room). -/
import Derived.Test.YtjhdoneobdbeaaaGreatDoorRows
import Derived.Test.YtjhdoneobdbeaaaGreatDoorCards
import Derived.Test.YtjhdoneobdbeaaaGreatDoorTie
import Derived.ProofKit
import Derived.SizedLaws
import Derived.Deep.DeepLaidRun
import Derived.SevenTiedAt
import Derived.Stop.LaidErr
namespace Go.Proofs.YtjhdoneobdbeaaaGreatDoor
open Go
theorem fnExactAreAgreed_j0 : (Rows.fnExactAreAgreedRow.inPlace == Tryz.prog.inPlace 6) = true := by kernel_rfl
theorem fnExactAreAgreed_j1 : (Rows.fnExactAreAgreedRow.unfollowed == Tryz.prog.unfollowed 6) = true := by kernel_rfl
theorem fnExactAreAgreed_j2 : (Rows.fnExactAreAgreedRow.recurses == Tryz.prog.recurses 6) = true := by kernel_rfl
theorem fnExactAreAgreed_j3 : (Rows.fnExactAreAgreedRow.named == Tryz.prog.varsNamed 6) = true := by kernel_rfl
theorem fnExactAreAgreed_jf : joinedFacts Tryz.prog 6 Tryz.f6 Rows.fnExactAreAgreedSpec Rows.fnExactAreAgreedRow = true := by
  rw [joinedFacts, fnExactAreAgreed_j0, fnExactAreAgreed_j1, fnExactAreAgreed_j2, fnExactAreAgreed_j3]
  kernel_rfl
end Go.Proofs.YtjhdoneobdbeaaaGreatDoor
