/- FnExactFollowWay: for every input the law answers true, and its arguments read behind the call as before. No condition beyond the given row's. -/
import Derived.Test.YtioniijhdkkieaaRows
import Derived.Test.YtioniijhdkkieaaP15
import Derived.ProofKit
import Derived.SizedLaws
namespace Go.Proofs.Ytioniijhdkkieaa.fnExactFollowWay
open Go Go.Tm
set_option linter.unusedVariables false
theorem own : ownKnob Try.prog.godebug = none := by kernel_rfl
theorem laidOut : laidOutB Try.prog = true := by kernel_rfl
set_option maxRecDepth 100000 in
theorem lifted (os : Os) (started : os.Started) (H : Type) (enc : TypeId × Value → H) :
    ReturnsInHanded {} Try.checked os 10 .any (Rows.fnExactFollowWaySpec.pre6 enc Try.prog Try.f10 Rows.fnExactFollowWayRow.domain false) (Rows.fnExactFollowWaySpec.post enc Try.prog Try.f10 false true false false) :=
  returnsInHanded_of_change_sized (C := Try.checked) own started (by kernel_rfl) Try.func10
    (ChangeSpec.witness6 (enc := enc) (C := Try.checked) false ⟨#[], #[.slice none 0 0, .agg #[.float .f32 0, .float .f32 0, .float .f32 0], .float .f32 0, .float .f32 0], []⟩ 8 (by kernel_rfl) (by kernel_rfl) (by kernel_rfl) (by kernel_rfl))
    (law_contract (P := Try.prog) (fn := Try.f10) (ts := [.list (.arr 2 (.flt .f32)), .arr 3 (.flt .f32), .flt .f32, .flt .f32]) laidOut (by kernel_rfl) rfl (by kernel_rfl) Try.func10 (by kernel_rfl) rfl laws_FnExactFollowWay_so (fun x h => laws_FnExactFollowWay_plain x.1 h.1 x.2.1 h.2.1 x.2.2.1 h.2.2.1 x.2.2.2.1 h.2.2.2.1) (fun ds h => by
      match ds, h with
      | [d1, d2, d3, d4], _ => rfl) rfl Try.underlying4)
theorem over : Rows.fnExactFollowWayRow.holds Try.pinned (OpenSpec.ofChange Rows.fnExactFollowWaySpec) :=
  OpenClaim.holds_of_wide 10 Try.f10 rfl rfl rfl rfl rfl rfl rfl ⟨rfl, rfl, rfl, rfl, rfl⟩ rfl rfl rfl rfl rfl (by kernel_rfl) Try.func10 (by kernel_rfl)
    (of_decide_eq_true (by kernel_rfl)) (by unfold Func.isWrapper; rw [if_neg (of_decide_eq_false (by kernel_rfl))]; exact ⟨rfl, rfl⟩)
    (fun os started H enc _ => lifted os started H enc)
end Go.Proofs.Ytioniijhdkkieaa.fnExactFollowWay
namespace Go.Proofs.Ytioniijhdkkieaa
/-- The row, under a short name, for the claim. -/
theorem fnExactFollowWay_holds : Rows.FnExactFollowWaySaid := fnExactFollowWay.over
#print axioms fnExactFollowWay_holds
end Go.Proofs.Ytioniijhdkkieaa
