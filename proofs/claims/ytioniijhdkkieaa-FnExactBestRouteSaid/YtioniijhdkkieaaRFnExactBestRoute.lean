/- FnExactBestRoute: for every input the law answers true, and its arguments read behind the call as before. No condition beyond the given row's. -/
import Derived.Test.YtioniijhdkkieaaRows
import Derived.Test.YtioniijhdkkieaaP11
import Derived.ProofKit
import Derived.SizedLaws
namespace Go.Proofs.Ytioniijhdkkieaa.fnExactBestRoute
open Go Go.Tm
set_option linter.unusedVariables false
theorem own : ownKnob Try.prog.godebug = none := by kernel_rfl
theorem laidOut : laidOutB Try.prog = true := by kernel_rfl
set_option maxRecDepth 100000 in
theorem lifted (os : Os) (started : os.Started) (H : Type) (enc : TypeId × Value → H) :
    ReturnsInHanded {} Try.checked os 7 .any (Rows.fnExactBestRouteSpec.pre6 enc Try.prog Try.f7 Rows.fnExactBestRouteRow.domain false) (Rows.fnExactBestRouteSpec.post enc Try.prog Try.f7 false true false false) :=
  returnsInHanded_of_change_sized (C := Try.checked) own started (by kernel_rfl) Try.func7
    (ChangeSpec.witness6 (enc := enc) (C := Try.checked) false ⟨#[], #[.agg #[.int .i64 0, .int .i64 0, .slice none 0 0], .agg #[.int .i16 0, .int .i16 0], .agg #[.int .i16 0, .int .i16 0]], []⟩ 8 (by kernel_rfl) (by kernel_rfl) (by kernel_rfl) (by kernel_rfl))
    (law_contract (P := Try.prog) (fn := Try.f7) (ts := [.pair (.int .i64) (.pair (.int .i64) (.pair (.list (.int .u8)) (.unit))), .arr 2 (.int .i16), .arr 2 (.int .i16)]) laidOut (by kernel_rfl) rfl (by kernel_rfl) Try.func7 (by kernel_rfl) rfl laws_FnExactBestRoute_so (fun x h => laws_FnExactBestRoute_plain x.1 h.1 x.2.1 h.2.1 x.2.2.1 h.2.2.1) (fun ds h => by
      match ds, h with
      | [d1, d2, d3], _ => rfl) rfl Try.underlying4)
theorem over : Rows.fnExactBestRouteRow.holds Try.pinned (OpenSpec.ofChange Rows.fnExactBestRouteSpec) :=
  OpenClaim.holds_of_wide 7 Try.f7 rfl rfl rfl rfl rfl rfl rfl ⟨rfl, rfl, rfl, rfl, rfl⟩ rfl rfl rfl rfl rfl (by kernel_rfl) Try.func7 (by kernel_rfl)
    (of_decide_eq_true (by kernel_rfl)) (by unfold Func.isWrapper; rw [if_neg (of_decide_eq_false (by kernel_rfl))]; exact ⟨rfl, rfl⟩)
    (fun os started H enc _ => lifted os started H enc)
end Go.Proofs.Ytioniijhdkkieaa.fnExactBestRoute
namespace Go.Proofs.Ytioniijhdkkieaa
/-- The row, under a short name, for the claim. -/
theorem fnExactBestRoute_holds : Rows.FnExactBestRouteSaid := fnExactBestRoute.over
#print axioms fnExactBestRoute_holds
end Go.Proofs.Ytioniijhdkkieaa
