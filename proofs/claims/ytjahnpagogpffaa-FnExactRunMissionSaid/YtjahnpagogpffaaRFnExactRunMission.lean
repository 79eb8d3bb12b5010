/- FnExactRunMission: for every input the law answers true, and its arguments read behind the call as before. No condition beyond the given row's. -/
import Derived.Test.YtjahnpagogpffaaRows
import Derived.Test.YtjahnpagogpffaaP5
import Derived.ProofKit
import Derived.SizedLaws
namespace Go.Proofs.Ytjahnpagogpffaa.fnExactRunMission
open Go Go.Tm
set_option linter.unusedVariables false
theorem own : ownKnob Try.prog.godebug = none := by kernel_rfl
theorem laidOut : laidOutB Try.prog = true := by kernel_rfl
set_option maxRecDepth 100000 in
theorem lifted (os : Os) (started : os.Started) (H : Type) (enc : TypeId × Value → H) :
    ReturnsInHanded {} Try.checked os 3 .any (Rows.fnExactRunMissionSpec.pre6 enc Try.prog Try.f3 Rows.fnExactRunMissionRow.domain false) (Rows.fnExactRunMissionSpec.post enc Try.prog Try.f3 false true false false) :=
  returnsInHanded_of_change_sized (C := Try.checked) own started (by kernel_rfl) Try.func3
    (ChangeSpec.witness6 (enc := enc) (C := Try.checked) false ⟨#[], #[.agg #[.int .i64 0, .float .f32 0, .float .f32 0, .float .f32 0, .slice none 0 0, .slice none 0 0], .int .u32 0], []⟩ 8 (by kernel_rfl) (by kernel_rfl) (by kernel_rfl) (by kernel_rfl))
    (law_contract (P := Try.prog) (fn := Try.f3) (ts := [.pair (.int .i64) (.pair (.arr 3 (.flt .f32)) (.pair (.list (.arr 3 (.flt .f32))) (.pair (.list (.pair (.int .i64) (.pair (.arr 3 (.flt .f32)) (.pair (.int .i64) (.pair (.int .i64) (.unit)))))) (.unit)))), .int .u32]) laidOut (by kernel_rfl) rfl (by kernel_rfl) Try.func3 (by kernel_rfl) rfl laws_FnExactRunMission_so (fun x h => laws_FnExactRunMission_plain x.1 h.1 x.2.1 h.2.1) (fun ds h => by
      match ds, h with
      | [d1, d2], _ => rfl) rfl Try.underlying4)
theorem over : Rows.fnExactRunMissionRow.holds Try.pinned (OpenSpec.ofChange Rows.fnExactRunMissionSpec) :=
  OpenClaim.holds_of_wide 3 Try.f3 rfl rfl rfl rfl rfl rfl rfl ⟨rfl, rfl, rfl, rfl, rfl⟩ rfl rfl rfl rfl rfl (by kernel_rfl) Try.func3 (by kernel_rfl)
    (of_decide_eq_true (by kernel_rfl)) (by unfold Func.isWrapper; rw [if_neg (of_decide_eq_false (by kernel_rfl))]; exact ⟨rfl, rfl⟩)
    (fun os started H enc _ => lifted os started H enc)
end Go.Proofs.Ytjahnpagogpffaa.fnExactRunMission
namespace Go.Proofs.Ytjahnpagogpffaa
/-- The row, under a short name, for the claim. -/
theorem fnExactRunMission_holds : Rows.FnExactRunMissionSaid := fnExactRunMission.over
#print axioms fnExactRunMission_holds
end Go.Proofs.Ytjahnpagogpffaa
