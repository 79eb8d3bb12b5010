/- FnExactSameLog: for every input the law answers true, and its arguments read behind the call as before. No condition beyond the given row's. -/
import Derived.Test.YtpblnidbjglgmaaRows
import Derived.Test.YtpblnidbjglgmaaP2
import Derived.ProofKit
import Derived.SizedLaws
namespace Go.Proofs.Ytpblnidbjglgmaa.fnExactSameLog
open Go Go.Tm
set_option linter.unusedVariables false
theorem own : ownKnob Try.prog.godebug = none := by kernel_rfl
theorem laidOut : laidOutB Try.prog = true := by kernel_rfl
set_option maxRecDepth 100000 in
theorem lifted (os : Os) (started : os.Started) (H : Type) (enc : TypeId × Value → H) :
    ReturnsInHanded {} Try.checked os 9 .any (Rows.fnExactSameLogSpec.pre6 enc Try.prog Try.f9 Rows.fnExactSameLogRow.domain false) (Rows.fnExactSameLogSpec.post enc Try.prog Try.f9 false true false false) :=
  returnsInHanded_of_change_sized (C := Try.checked) own started (by kernel_rfl) Try.func9
    (ChangeSpec.witness6 (enc := enc) (C := Try.checked) false ⟨#[], #[.agg #[.int .i64 0, .float .f32 0, .float .f32 0, .float .f32 0, .slice none 0 0, .slice none 0 0], .agg #[.int .i64 0, .float .f32 0, .float .f32 0, .float .f32 0, .slice none 0 0, .slice none 0 0]], []⟩ 8 (by kernel_rfl) (by kernel_rfl) (by kernel_rfl) (by kernel_rfl))
    (law_contract (P := Try.prog) (fn := Try.f9) (ts := [.pair (.int .i64) (.pair (.arr 3 (.flt .f32)) (.pair (.list (.arr 3 (.flt .f32))) (.pair (.list (.pair (.int .i64) (.pair (.arr 3 (.flt .f32)) (.pair (.arr 3 (.int .i16)) (.pair (.int .i64) (.pair (.flt .f32) (.unit))))))) (.unit)))), .pair (.int .i64) (.pair (.arr 3 (.flt .f32)) (.pair (.list (.arr 3 (.flt .f32))) (.pair (.list (.pair (.int .i64) (.pair (.arr 3 (.flt .f32)) (.pair (.arr 3 (.int .i16)) (.pair (.int .i64) (.pair (.flt .f32) (.unit))))))) (.unit))))]) laidOut (by kernel_rfl) rfl (by kernel_rfl) Try.func9 (by kernel_rfl) rfl laws_FnExactSameLog_so (fun x h => laws_FnExactSameLog_plain x.1 h.1 x.2.1 h.2.1) (fun ds h => by
      match ds, h with
      | [d1, d2], _ => rfl) rfl Try.underlying4)
theorem over : Rows.fnExactSameLogRow.holds Try.pinned (OpenSpec.ofChange Rows.fnExactSameLogSpec) :=
  OpenClaim.holds_of_wide 9 Try.f9 rfl rfl rfl rfl rfl rfl rfl ⟨rfl, rfl, rfl, rfl, rfl⟩ rfl rfl rfl rfl rfl (by kernel_rfl) Try.func9 (by kernel_rfl)
    (of_decide_eq_true (by kernel_rfl)) (by unfold Func.isWrapper; rw [if_neg (of_decide_eq_false (by kernel_rfl))]; exact ⟨rfl, rfl⟩)
    (fun os started H enc _ => lifted os started H enc)
end Go.Proofs.Ytpblnidbjglgmaa.fnExactSameLog
namespace Go.Proofs.Ytpblnidbjglgmaa
/-- The row, under a short name, for the claim. -/
theorem fnExactSameLog_holds : Rows.FnExactSameLogSaid := fnExactSameLog.over
#print axioms fnExactSameLog_holds
end Go.Proofs.Ytpblnidbjglgmaa
