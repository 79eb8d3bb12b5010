/- FnExactValidFleet: for every input the law answers true, and its arguments read behind the call as before. No condition beyond the given row's. -/
import Derived.Test.YtpblnidbjglgmaaRows
import Derived.Test.YtpblnidbjglgmaaP5
import Derived.ProofKit
import Derived.SizedLaws
namespace Go.Proofs.Ytpblnidbjglgmaa.fnExactValidFleet
open Go Go.Tm
set_option linter.unusedVariables false
theorem own : ownKnob Try.prog.godebug = none := by kernel_rfl
theorem laidOut : laidOutB Try.prog = true := by kernel_rfl
set_option maxRecDepth 100000 in
theorem lifted (os : Os) (started : os.Started) (H : Type) (enc : TypeId × Value → H) :
    ReturnsInHanded {} Try.checked os 13 .any (Rows.fnExactValidFleetSpec.pre6 enc Try.prog Try.f13 Rows.fnExactValidFleetRow.domain false) (Rows.fnExactValidFleetSpec.post enc Try.prog Try.f13 false true false false) :=
  returnsInHanded_of_change_sized (C := Try.checked) own started (by kernel_rfl) Try.func13
    (ChangeSpec.witness6 (enc := enc) (C := Try.checked) false ⟨#[], #[.agg #[.float .f32 0, .float .f32 0, .slice none 0 0]], []⟩ 8 (by kernel_rfl) (by kernel_rfl) (by kernel_rfl) (by kernel_rfl))
    (law_contract (P := Try.prog) (fn := Try.f13) (ts := [.pair (.flt .f32) (.pair (.flt .f32) (.pair (.list (.list (.pair (.arr 3 (.flt .f32)) (.pair (.flt .f32) (.pair (.int .i64) (.unit)))))) (.unit)))]) laidOut (by kernel_rfl) rfl (by kernel_rfl) Try.func13 (by kernel_rfl) rfl laws_FnExactValidFleet_so (fun x h => laws_FnExactValidFleet_plain x.1 h.1) (fun ds h => by
      match ds, h with
      | [d1], _ => rfl) rfl Try.underlying4)
theorem over : Rows.fnExactValidFleetRow.holds Try.pinned (OpenSpec.ofChange Rows.fnExactValidFleetSpec) :=
  OpenClaim.holds_of_wide 13 Try.f13 rfl rfl rfl rfl rfl rfl rfl ⟨rfl, rfl, rfl, rfl, rfl⟩ rfl rfl rfl rfl rfl (by kernel_rfl) Try.func13 (by kernel_rfl)
    (of_decide_eq_true (by kernel_rfl)) (by unfold Func.isWrapper; rw [if_neg (of_decide_eq_false (by kernel_rfl))]; exact ⟨rfl, rfl⟩)
    (fun os started H enc _ => lifted os started H enc)
end Go.Proofs.Ytpblnidbjglgmaa.fnExactValidFleet
namespace Go.Proofs.Ytpblnidbjglgmaa
/-- The row, under a short name, for the claim. -/
theorem fnExactValidFleet_holds : Rows.FnExactValidFleetSaid := fnExactValidFleet.over
#print axioms fnExactValidFleet_holds
end Go.Proofs.Ytpblnidbjglgmaa
