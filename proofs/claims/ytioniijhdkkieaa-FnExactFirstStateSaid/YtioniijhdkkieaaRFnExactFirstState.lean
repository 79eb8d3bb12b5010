/- FnExactFirstState: for every input the law answers true, and its arguments read behind the call as before. No condition beyond the given row's. -/
import Derived.Test.YtioniijhdkkieaaRows
import Derived.Test.YtioniijhdkkieaaP11
import Derived.ProofKit
import Derived.SizedLaws
namespace Go.Proofs.Ytioniijhdkkieaa.fnExactFirstState
open Go Go.Tm
set_option linter.unusedVariables false
theorem own : ownKnob Try.prog.godebug = none := by kernel_rfl
theorem laidOut : laidOutB Try.prog = true := by kernel_rfl
set_option maxRecDepth 100000 in
theorem lifted (os : Os) (started : os.Started) (H : Type) (enc : TypeId × Value → H) :
    ReturnsInHanded {} Try.checked os 5 .any (Rows.fnExactFirstStateSpec.pre6 enc Try.prog Try.f5 Rows.fnExactFirstStateRow.domain false) (Rows.fnExactFirstStateSpec.post enc Try.prog Try.f5 false true false false) :=
  returnsInHanded_of_change_sized (C := Try.checked) own started (by kernel_rfl) Try.func5
    (ChangeSpec.witness6 (enc := enc) (C := Try.checked) false ⟨#[], #[.agg #[.int .i64 0, .float .f32 0, .float .f32 0, .float .f32 0, .slice none 0 0, .slice none 0 0]], []⟩ 8 (by kernel_rfl) (by kernel_rfl) (by kernel_rfl) (by kernel_rfl))
    (law_contract (P := Try.prog) (fn := Try.f5) (ts := [.pair (.int .i64) (.pair (.arr 3 (.flt .f32)) (.pair (.list (.arr 3 (.flt .f32))) (.pair (.list (.pair (.int .i64) (.pair (.arr 3 (.flt .f32)) (.pair (.arr 3 (.int .i16)) (.pair (.int .i64) (.pair (.flt .f32) (.unit))))))) (.unit))))]) laidOut (by kernel_rfl) rfl (by kernel_rfl) Try.func5 (by kernel_rfl) rfl laws_FnExactFirstState_so (fun x h => laws_FnExactFirstState_plain x.1 h.1) (fun ds h => by
      match ds, h with
      | [d1], _ => rfl) rfl Try.underlying4)
theorem over : Rows.fnExactFirstStateRow.holds Try.pinned (OpenSpec.ofChange Rows.fnExactFirstStateSpec) :=
  OpenClaim.holds_of_wide 5 Try.f5 rfl rfl rfl rfl rfl rfl rfl ⟨rfl, rfl, rfl, rfl, rfl⟩ rfl rfl rfl rfl rfl (by kernel_rfl) Try.func5 (by kernel_rfl)
    (of_decide_eq_true (by kernel_rfl)) (by unfold Func.isWrapper; rw [if_neg (of_decide_eq_false (by kernel_rfl))]; exact ⟨rfl, rfl⟩)
    (fun os started H enc _ => lifted os started H enc)
end Go.Proofs.Ytioniijhdkkieaa.fnExactFirstState
namespace Go.Proofs.Ytioniijhdkkieaa
/-- The row, under a short name, for the claim. -/
theorem fnExactFirstState_holds : Rows.FnExactFirstStateSaid := fnExactFirstState.over
#print axioms fnExactFirstState_holds
end Go.Proofs.Ytioniijhdkkieaa
