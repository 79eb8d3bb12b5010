/- FnExactGridOfMarks: for every input the law answers true, and its arguments read behind the call as before. No condition beyond the given row's. -/
import Derived.Test.YtioniijhdkkieaaRows
import Derived.Test.YtioniijhdkkieaaP11
import Derived.ProofKit
import Derived.SizedLaws
namespace Go.Proofs.Ytioniijhdkkieaa.fnExactGridOfMarks
open Go Go.Tm
set_option linter.unusedVariables false
theorem own : ownKnob Try.prog.godebug = none := by kernel_rfl
theorem laidOut : laidOutB Try.prog = true := by kernel_rfl
set_option maxRecDepth 100000 in
theorem lifted (os : Os) (started : os.Started) (H : Type) (enc : TypeId × Value → H) :
    ReturnsInHanded {} Try.checked os 9 .any (Rows.fnExactGridOfMarksSpec.pre6 enc Try.prog Try.f9 Rows.fnExactGridOfMarksRow.domain false) (Rows.fnExactGridOfMarksSpec.post enc Try.prog Try.f9 false true false false) :=
  returnsInHanded_of_change_sized (C := Try.checked) own started (by kernel_rfl) Try.func9
    (ChangeSpec.witness6 (enc := enc) (C := Try.checked) false ⟨#[], #[.agg #[.float .f32 0, .slice none 0 0], .int .i64 0, .int .i64 0, .agg #[.float .f32 0, .float .f32 0], .float .f32 0], []⟩ 8 (by kernel_rfl) (by kernel_rfl) (by kernel_rfl) (by kernel_rfl))
    (law_contract (P := Try.prog) (fn := Try.f9) (ts := [.pair (.flt .f32) (.pair (.list (.pair (.arr 3 (.int .i32)) (.pair (.arr 3 (.flt .f32)) (.pair (.flt .f32) (.pair (.int .i64) (.pair (.int .i64) (.unit))))))) (.unit)), .int .i64, .int .i64, .arr 2 (.flt .f32), .flt .f32]) laidOut (by kernel_rfl) rfl (by kernel_rfl) Try.func9 (by kernel_rfl) rfl laws_FnExactGridOfMarks_so (fun x h => laws_FnExactGridOfMarks_plain x.1 h.1 x.2.1 h.2.1 x.2.2.1 h.2.2.1 x.2.2.2.1 h.2.2.2.1 x.2.2.2.2.1 h.2.2.2.2.1) (fun ds h => by
      match ds, h with
      | [d1, d2, d3, d4, d5], _ => rfl) rfl Try.underlying4)
theorem over : Rows.fnExactGridOfMarksRow.holds Try.pinned (OpenSpec.ofChange Rows.fnExactGridOfMarksSpec) :=
  OpenClaim.holds_of_wide 9 Try.f9 rfl rfl rfl rfl rfl rfl rfl ⟨rfl, rfl, rfl, rfl, rfl⟩ rfl rfl rfl rfl rfl (by kernel_rfl) Try.func9 (by kernel_rfl)
    (of_decide_eq_true (by kernel_rfl)) (by unfold Func.isWrapper; rw [if_neg (of_decide_eq_false (by kernel_rfl))]; exact ⟨rfl, rfl⟩)
    (fun os started H enc _ => lifted os started H enc)
end Go.Proofs.Ytioniijhdkkieaa.fnExactGridOfMarks
namespace Go.Proofs.Ytioniijhdkkieaa
/-- The row, under a short name, for the claim. -/
theorem fnExactGridOfMarks_holds : Rows.FnExactGridOfMarksSaid := fnExactGridOfMarks.over
#print axioms fnExactGridOfMarks_holds
end Go.Proofs.Ytioniijhdkkieaa
