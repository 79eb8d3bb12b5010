/- FnRoutes: for every input the law answers true, and its arguments read behind the call as before. No condition beyond the given row's. -/
import Derived.Test.YtioniijhdkkieaaRows
import Derived.Test.YtioniijhdkkieaaP11
import Derived.ProofKit
import Derived.SizedLaws
namespace Go.Proofs.Ytioniijhdkkieaa.fnRoutes
open Go Go.Tm
set_option linter.unusedVariables false
theorem own : ownKnob Try.prog.godebug = none := by kernel_rfl
theorem laidOut : laidOutB Try.prog = true := by kernel_rfl
set_option maxRecDepth 100000 in
theorem lifted (os : Os) (started : os.Started) (H : Type) (enc : TypeId × Value → H) :
    ReturnsInHanded {} Try.checked os 6 .any (Rows.fnRoutesSpec.pre6 enc Try.prog Try.f6 Rows.fnRoutesRow.domain false) (Rows.fnRoutesSpec.post enc Try.prog Try.f6 false true false false) :=
  returnsInHanded_of_change_sized (C := Try.checked) own started (by kernel_rfl) Try.func6
    (ChangeSpec.witness6 (enc := enc) (C := Try.checked) false ⟨#[], #[.slice none 0 0, .slice none 0 0], []⟩ 8 (by kernel_rfl) (by kernel_rfl) (by kernel_rfl) (by kernel_rfl))
    (law_contract (P := Try.prog) (fn := Try.f6) (ts := [.list (.int .u8), .list (.int .u8)]) laidOut (by kernel_rfl) rfl (by kernel_rfl) Try.func6 (by kernel_rfl) rfl laws_FnRoutes_so (fun x h => laws_FnRoutes_plain x.1 h.1 x.2.1 h.2.1) (fun ds h => by
      match ds, h with
      | [d1, d2], _ => rfl) rfl Try.underlying4)
theorem over : Rows.fnRoutesRow.holds Try.pinned (OpenSpec.ofChange Rows.fnRoutesSpec) :=
  OpenClaim.holds_of_wide 6 Try.f6 rfl rfl rfl rfl rfl rfl rfl ⟨rfl, rfl, rfl, rfl, rfl⟩ rfl rfl rfl rfl rfl (by kernel_rfl) Try.func6 (by kernel_rfl)
    (of_decide_eq_true (by kernel_rfl)) (by unfold Func.isWrapper; rw [if_neg (of_decide_eq_false (by kernel_rfl))]; exact ⟨rfl, rfl⟩)
    (fun os started H enc _ => lifted os started H enc)
end Go.Proofs.Ytioniijhdkkieaa.fnRoutes
namespace Go.Proofs.Ytioniijhdkkieaa
/-- The row, under a short name, for the claim. -/
theorem fnRoutes_holds : Rows.FnRoutesSaid := fnRoutes.over
#print axioms fnRoutes_holds
end Go.Proofs.Ytioniijhdkkieaa
