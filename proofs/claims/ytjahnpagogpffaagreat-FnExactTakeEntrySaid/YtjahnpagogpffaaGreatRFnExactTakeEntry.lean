/- FnExactTakeEntry: for every input the law answers true, and its arguments read behind the call as before. No condition beyond the given row's. -/
import Derived.Test.YtjahnpagogpffaaGreatRows
import Derived.Test.YtjahnpagogpffaaGreatP13
import Derived.ProofKit
import Derived.SizedLaws
namespace Go.Proofs.YtjahnpagogpffaaGreat.fnExactTakeEntry
open Go Go.Tm
set_option linter.unusedVariables false
theorem own : ownKnob Tryz.prog.godebug = none := by kernel_rfl
theorem laidOut : laidOutB Tryz.prog = true := by kernel_rfl
set_option maxRecDepth 100000 in
theorem lifted (os : Os) (started : os.Started) (H : Type) (enc : TypeId × Value → H) :
    ReturnsInHanded {} Tryz.checked os 4 .any (Rows.fnExactTakeEntrySpec.pre6 enc Tryz.prog Tryz.f4 Rows.fnExactTakeEntryRow.domain false) (Rows.fnExactTakeEntrySpec.post enc Tryz.prog Tryz.f4 false true false false) :=
  returnsInHanded_of_change_sized (C := Tryz.checked) own started (by kernel_rfl) Tryz.func4
    (ChangeSpec.witness6 (enc := enc) (C := Tryz.checked) false ⟨#[], #[.agg #[.int .i64 0, .float .f32 0, .float .f32 0, .float .f32 0, .slice none 0 0, .slice none 0 0], .agg #[.float .f32 0, .float .f32 0, .float .f32 0, .float .f32 0, .float .f32 0, .float .f32 0, .float .f32 0, .float .f32 0, .float .f32 0, .float .f32 0, .float .f32 0, .float .f32 0, .float .f32 0, .float .f32 0, .float .f32 0, .float .f32 0, .float .f32 0, .float .f32 0, .float .f32 0, .float .f32 0, .float .f32 0, .float .f32 0, .float .f32 0, .float .f32 0, .float .f32 0, .float .f32 0, .float .f32 0, .float .f32 0, .float .f32 0, .float .f32 0, .float .f32 0, .float .f32 0, .float .f32 0, .float .f32 0, .float .f32 0, .float .f32 0, .float .f32 0, .float .f32 0, .float .f32 0, .float .f32 0, .float .f32 0, .float .f32 0], .agg #[.int .i64 0, .float .f32 0, .float .f32 0, .float .f32 0, .int .i16 0, .int .i16 0, .int .i16 0, .int .i64 0, .float .f32 0]], []⟩ 8 (by kernel_rfl) (by kernel_rfl) (by kernel_rfl) (by kernel_rfl))
    (law_contract (P := Tryz.prog) (fn := Tryz.f4) (ts := [.pair (.int .i64) (.pair (.arr 3 (.flt .f32)) (.pair (.list (.arr 3 (.flt .f32))) (.pair (.list (.pair (.int .i64) (.pair (.arr 3 (.flt .f32)) (.pair (.arr 3 (.int .i16)) (.pair (.int .i64) (.pair (.flt .f32) (.unit))))))) (.unit)))), .pair (.arr 6 (.flt .f32)) (.pair (.arr 6 (.arr 6 (.flt .f32))) (.unit)), .pair (.int .i64) (.pair (.arr 3 (.flt .f32)) (.pair (.arr 3 (.int .i16)) (.pair (.int .i64) (.pair (.flt .f32) (.unit)))))]) laidOut (by kernel_rfl) rfl (by kernel_rfl) Tryz.func4 (by kernel_rfl) rfl laws_FnExactTakeEntry_so (fun x h => laws_FnExactTakeEntry_plain x.1 h.1 x.2.1 h.2.1 x.2.2.1 h.2.2.1) (fun ds h => by
      match ds, h with
      | [d1, d2, d3], _ => rfl) rfl Tryz.underlying4)
theorem over : Rows.fnExactTakeEntryRow.holds Tryz.pinned (OpenSpec.ofChange Rows.fnExactTakeEntrySpec) :=
  OpenClaim.holds_of_wide 4 Tryz.f4 rfl rfl rfl rfl rfl rfl rfl ⟨rfl, rfl, rfl, rfl, rfl⟩ rfl rfl rfl rfl rfl (by kernel_rfl) Tryz.func4 (by kernel_rfl)
    (of_decide_eq_true (by kernel_rfl)) (by unfold Func.isWrapper; rw [if_neg (of_decide_eq_false (by kernel_rfl))]; exact ⟨rfl, rfl⟩)
    (fun os started H enc _ => lifted os started H enc)
end Go.Proofs.YtjahnpagogpffaaGreat.fnExactTakeEntry
namespace Go.Proofs.YtjahnpagogpffaaGreat
/-- The row, under a short name, for the claim. -/
theorem fnExactTakeEntry_holds : Rows.FnExactTakeEntrySaid := fnExactTakeEntry.over
#print axioms fnExactTakeEntry_holds
end Go.Proofs.YtjahnpagogpffaaGreat
