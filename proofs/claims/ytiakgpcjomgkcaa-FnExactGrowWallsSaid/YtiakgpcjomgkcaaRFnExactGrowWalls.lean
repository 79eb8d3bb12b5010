/- FnExactGrowWalls: for every input the law answers true, and its arguments read behind the call as before. No condition beyond the given row's. -/
import Derived.Test.YtiakgpcjomgkcaaRows
import Derived.Test.YtiakgpcjomgkcaaP3
import Derived.ProofKit
import Derived.SizedLaws
namespace Go.Proofs.Ytiakgpcjomgkcaa.fnExactGrowWalls
open Go Go.Tm
set_option linter.unusedVariables false
theorem own : ownKnob Try.prog.godebug = none := by kernel_rfl
theorem laidOut : laidOutB Try.prog = true := by kernel_rfl
set_option maxRecDepth 100000 in
theorem lifted (os : Os) (started : os.Started) (H : Type) (enc : TypeId × Value → H) :
    ReturnsInHanded {} Try.checked os 8 .any (Rows.fnExactGrowWallsSpec.pre6 enc Try.prog Try.f8 Rows.fnExactGrowWallsRow.domain false) (Rows.fnExactGrowWallsSpec.post enc Try.prog Try.f8 false true false false) :=
  returnsInHanded_of_change_sized (C := Try.checked) own started (by kernel_rfl) Try.func8
    (ChangeSpec.witness6 (enc := enc) (C := Try.checked) false ⟨#[], #[.agg #[.int .i64 0, .int .i64 0, .slice none 0 0], .int .i64 0], []⟩ 8 (by kernel_rfl) (by kernel_rfl) (by kernel_rfl) (by kernel_rfl))
    (law_contract (P := Try.prog) (fn := Try.f8) (ts := [.pair (.int .i64) (.pair (.int .i64) (.pair (.list (.int .u8)) (.unit))), .int .i64]) laidOut (by kernel_rfl) rfl (by kernel_rfl) Try.func8 (by kernel_rfl) rfl laws_FnExactGrowWalls_so (fun x h => laws_FnExactGrowWalls_plain x.1 h.1 x.2.1 h.2.1) (fun ds h => by
      match ds, h with
      | [d1, d2], _ => rfl) rfl Try.underlying4)
theorem over : Rows.fnExactGrowWallsRow.holds Try.pinned (OpenSpec.ofChange Rows.fnExactGrowWallsSpec) :=
  OpenClaim.holds_of_wide 8 Try.f8 rfl rfl rfl rfl rfl rfl rfl ⟨rfl, rfl, rfl, rfl, rfl⟩ rfl rfl rfl rfl rfl (by kernel_rfl) Try.func8 (by kernel_rfl)
    (of_decide_eq_true (by kernel_rfl)) (by unfold Func.isWrapper; rw [if_neg (of_decide_eq_false (by kernel_rfl))]; exact ⟨rfl, rfl⟩)
    (fun os started H enc _ => lifted os started H enc)
end Go.Proofs.Ytiakgpcjomgkcaa.fnExactGrowWalls
namespace Go.Proofs.Ytiakgpcjomgkcaa
/-- The row, under a short name, for the claim. -/
theorem fnExactGrowWalls_holds : Rows.FnExactGrowWallsSaid := fnExactGrowWalls.over
#print axioms fnExactGrowWalls_holds
end Go.Proofs.Ytiakgpcjomgkcaa
