/- FnExactMissOf: for every input the law answers true, and its arguments read behind the call as before. No condition beyond the given row's. -/
import Derived.Test.YtjahnpagogpffaaGreatRows
import Derived.Test.YtjahnpagogpffaaGreatP16
import Derived.ProofKit
import Derived.SizedLaws
namespace Go.Proofs.YtjahnpagogpffaaGreat.fnExactMissOf
open Go Go.Tm
set_option linter.unusedVariables false
theorem own : ownKnob Tryz.prog.godebug = none := by kernel_rfl
theorem laidOut : laidOutB Tryz.prog = true := by kernel_rfl
set_option maxRecDepth 100000 in
theorem lifted (os : Os) (started : os.Started) (H : Type) (enc : TypeId × Value → H) :
    ReturnsInHanded {} Tryz.checked os 8 .any (Rows.fnExactMissOfSpec.pre6 enc Tryz.prog Tryz.f8 Rows.fnExactMissOfRow.domain false) (Rows.fnExactMissOfSpec.post enc Tryz.prog Tryz.f8 false true false false) :=
  returnsInHanded_of_change_sized (C := Tryz.checked) own started (by kernel_rfl) Tryz.func8
    (ChangeSpec.witness6 (enc := enc) (C := Tryz.checked) false ⟨#[], #[.agg #[.int .i64 0, .float .f32 0, .float .f32 0, .float .f32 0, .slice none 0 0, .slice none 0 0], .int .u32 0], []⟩ 8 (by kernel_rfl) (by kernel_rfl) (by kernel_rfl) (by kernel_rfl))
    (law_contract (P := Tryz.prog) (fn := Tryz.f8) (ts := [.pair (.int .i64) (.pair (.arr 3 (.flt .f32)) (.pair (.list (.arr 3 (.flt .f32))) (.pair (.list (.pair (.int .i64) (.pair (.arr 3 (.flt .f32)) (.pair (.int .i64) (.pair (.int .i64) (.unit)))))) (.unit)))), .int .u32]) laidOut (by kernel_rfl) rfl (by kernel_rfl) Tryz.func8 (by kernel_rfl) rfl laws_FnExactMissOf_so (fun x h => laws_FnExactMissOf_plain x.1 h.1 x.2.1 h.2.1) (fun ds h => by
      match ds, h with
      | [d1, d2], _ => rfl) rfl Tryz.underlying4)
theorem over : Rows.fnExactMissOfRow.holds Tryz.pinned (OpenSpec.ofChange Rows.fnExactMissOfSpec) :=
  OpenClaim.holds_of_wide 8 Tryz.f8 rfl rfl rfl rfl rfl rfl rfl ⟨rfl, rfl, rfl, rfl, rfl⟩ rfl rfl rfl rfl rfl (by kernel_rfl) Tryz.func8 (by kernel_rfl)
    (of_decide_eq_true (by kernel_rfl)) (by unfold Func.isWrapper; rw [if_neg (of_decide_eq_false (by kernel_rfl))]; exact ⟨rfl, rfl⟩)
    (fun os started H enc _ => lifted os started H enc)
end Go.Proofs.YtjahnpagogpffaaGreat.fnExactMissOf
namespace Go.Proofs.YtjahnpagogpffaaGreat
/-- The row, under a short name, for the claim. -/
theorem fnExactMissOf_holds : Rows.FnExactMissOfSaid := fnExactMissOf.over
#print axioms fnExactMissOf_holds
end Go.Proofs.YtjahnpagogpffaaGreat
