/- FnExactValidMission: for every input the law answers true, and its arguments read behind the call as before. No condition beyond the given row's. -/
import Derived.Test.YtpblnidbjglgmaaRows
import Derived.Test.YtpblnidbjglgmaaP2
import Derived.ProofKit
import Derived.SizedLaws
namespace Go.Proofs.Ytpblnidbjglgmaa.fnExactValidMission
open Go Go.Tm
set_option linter.unusedVariables false
theorem own : ownKnob Try.prog.godebug = none := by kernel_rfl
theorem laidOut : laidOutB Try.prog = true := by kernel_rfl
set_option maxRecDepth 100000 in
theorem lifted (os : Os) (started : os.Started) (H : Type) (enc : TypeId × Value → H) :
    ReturnsInHanded {} Try.checked os 7 .any (Rows.fnExactValidMissionSpec.pre6 enc Try.prog Try.f7 Rows.fnExactValidMissionRow.domain false) (Rows.fnExactValidMissionSpec.post enc Try.prog Try.f7 false true false false) :=
  returnsInHanded_of_change_sized (C := Try.checked) own started (by kernel_rfl) Try.func7
    (ChangeSpec.witness6 (enc := enc) (C := Try.checked) false ⟨#[], #[.agg #[.int .i64 0, .float .f32 0, .float .f32 0, .float .f32 0, .slice none 0 0, .slice none 0 0]], []⟩ 8 (by kernel_rfl) (by kernel_rfl) (by kernel_rfl) (by kernel_rfl))
    (law_contract (P := Try.prog) (fn := Try.f7) (ts := [.pair (.int .i64) (.pair (.arr 3 (.flt .f32)) (.pair (.list (.arr 3 (.flt .f32))) (.pair (.list (.pair (.int .i64) (.pair (.arr 3 (.flt .f32)) (.pair (.int .i64) (.pair (.int .i64) (.unit)))))) (.unit))))]) laidOut (by kernel_rfl) rfl (by kernel_rfl) Try.func7 (by kernel_rfl) rfl laws_FnExactValidMission_so (fun x h => laws_FnExactValidMission_plain x.1 h.1) (fun ds h => by
      match ds, h with
      | [d1], _ => rfl) rfl Try.underlying4)
theorem over : Rows.fnExactValidMissionRow.holds Try.pinned (OpenSpec.ofChange Rows.fnExactValidMissionSpec) :=
  OpenClaim.holds_of_wide 7 Try.f7 rfl rfl rfl rfl rfl rfl rfl ⟨rfl, rfl, rfl, rfl, rfl⟩ rfl rfl rfl rfl rfl (by kernel_rfl) Try.func7 (by kernel_rfl)
    (of_decide_eq_true (by kernel_rfl)) (by unfold Func.isWrapper; rw [if_neg (of_decide_eq_false (by kernel_rfl))]; exact ⟨rfl, rfl⟩)
    (fun os started H enc _ => lifted os started H enc)
end Go.Proofs.Ytpblnidbjglgmaa.fnExactValidMission
namespace Go.Proofs.Ytpblnidbjglgmaa
/-- The row, under a short name, for the claim. -/
theorem fnExactValidMission_holds : Rows.FnExactValidMissionSaid := fnExactValidMission.over
#print axioms fnExactValidMission_holds
end Go.Proofs.Ytpblnidbjglgmaa
