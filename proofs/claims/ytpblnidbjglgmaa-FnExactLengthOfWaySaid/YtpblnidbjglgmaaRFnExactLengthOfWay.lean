/- FnExactLengthOfWay: for every input the law answers true, and its arguments read behind the call as before. No condition beyond the given row's. -/
import Derived.Test.YtpblnidbjglgmaaRows
import Derived.Test.YtpblnidbjglgmaaP4
import Derived.ProofKit
import Derived.SizedLaws
namespace Go.Proofs.Ytpblnidbjglgmaa.fnExactLengthOfWay
open Go Go.Tm
set_option linter.unusedVariables false
theorem own : ownKnob Try.prog.godebug = none := by kernel_rfl
theorem laidOut : laidOutB Try.prog = true := by kernel_rfl
set_option maxRecDepth 100000 in
theorem lifted (os : Os) (started : os.Started) (H : Type) (enc : TypeId × Value → H) :
    ReturnsInHanded {} Try.checked os 4 .any (Rows.fnExactLengthOfWaySpec.pre6 enc Try.prog Try.f4 Rows.fnExactLengthOfWayRow.domain false) (Rows.fnExactLengthOfWaySpec.post enc Try.prog Try.f4 false true false false) :=
  returnsInHanded_of_change_sized (C := Try.checked) own started (by kernel_rfl) Try.func4
    (ChangeSpec.witness6 (enc := enc) (C := Try.checked) false ⟨#[], #[.slice none 0 0], []⟩ 8 (by kernel_rfl) (by kernel_rfl) (by kernel_rfl) (by kernel_rfl))
    (law_contract (P := Try.prog) (fn := Try.f4) (ts := [.list (.arr 2 (.flt .f32))]) laidOut (by kernel_rfl) rfl (by kernel_rfl) Try.func4 (by kernel_rfl) rfl laws_FnExactLengthOfWay_so (fun x h => laws_FnExactLengthOfWay_plain x.1 h.1) (fun ds h => by
      match ds, h with
      | [d1], _ => rfl) rfl Try.underlying4)
theorem over : Rows.fnExactLengthOfWayRow.holds Try.pinned (OpenSpec.ofChange Rows.fnExactLengthOfWaySpec) :=
  OpenClaim.holds_of_wide 4 Try.f4 rfl rfl rfl rfl rfl rfl rfl ⟨rfl, rfl, rfl, rfl, rfl⟩ rfl rfl rfl rfl rfl (by kernel_rfl) Try.func4 (by kernel_rfl)
    (of_decide_eq_true (by kernel_rfl)) (by unfold Func.isWrapper; rw [if_neg (of_decide_eq_false (by kernel_rfl))]; exact ⟨rfl, rfl⟩)
    (fun os started H enc _ => lifted os started H enc)
end Go.Proofs.Ytpblnidbjglgmaa.fnExactLengthOfWay
namespace Go.Proofs.Ytpblnidbjglgmaa
/-- The row, under a short name, for the claim. -/
theorem fnExactLengthOfWay_holds : Rows.FnExactLengthOfWaySaid := fnExactLengthOfWay.over
#print axioms fnExactLengthOfWay_holds
end Go.Proofs.Ytpblnidbjglgmaa
