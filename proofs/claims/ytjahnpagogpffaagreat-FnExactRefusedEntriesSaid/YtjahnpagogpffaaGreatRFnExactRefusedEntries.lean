/- FnExactRefusedEntries: for every input the law answers true, and its arguments read behind the call as before. No condition beyond the given row's. -/
import Derived.Test.YtjahnpagogpffaaGreatRows
import Derived.Test.YtjahnpagogpffaaGreatP13
import Derived.ProofKit
import Derived.SizedLaws
namespace Go.Proofs.YtjahnpagogpffaaGreat.fnExactRefusedEntries
open Go Go.Tm
set_option linter.unusedVariables false
theorem own : ownKnob Tryz.prog.godebug = none := by kernel_rfl
theorem laidOut : laidOutB Tryz.prog = true := by kernel_rfl
set_option maxRecDepth 100000 in
theorem lifted (os : Os) (started : os.Started) (H : Type) (enc : TypeId × Value → H) :
    ReturnsInHanded {} Tryz.checked os 7 .any (Rows.fnExactRefusedEntriesSpec.pre6 enc Tryz.prog Tryz.f7 Rows.fnExactRefusedEntriesRow.domain false) (Rows.fnExactRefusedEntriesSpec.post enc Tryz.prog Tryz.f7 false true false false) :=
  returnsInHanded_of_change_sized (C := Tryz.checked) own started (by kernel_rfl) Tryz.func7
    (ChangeSpec.witness6 (enc := enc) (C := Tryz.checked) false ⟨#[], #[.agg #[.int .i64 0, .float .f32 0, .float .f32 0, .float .f32 0, .slice none 0 0, .slice none 0 0]], []⟩ 8 (by kernel_rfl) (by kernel_rfl) (by kernel_rfl) (by kernel_rfl))
    (law_contract (P := Tryz.prog) (fn := Tryz.f7) (ts := [.pair (.int .i64) (.pair (.arr 3 (.flt .f32)) (.pair (.list (.arr 3 (.flt .f32))) (.pair (.list (.pair (.int .i64) (.pair (.arr 3 (.flt .f32)) (.pair (.arr 3 (.int .i16)) (.pair (.int .i64) (.pair (.flt .f32) (.unit))))))) (.unit))))]) laidOut (by kernel_rfl) rfl (by kernel_rfl) Tryz.func7 (by kernel_rfl) rfl laws_FnExactRefusedEntries_so (fun x h => laws_FnExactRefusedEntries_plain x.1 h.1) (fun ds h => by
      match ds, h with
      | [d1], _ => rfl) rfl Tryz.underlying4)
theorem over : Rows.fnExactRefusedEntriesRow.holds Tryz.pinned (OpenSpec.ofChange Rows.fnExactRefusedEntriesSpec) :=
  OpenClaim.holds_of_wide 7 Tryz.f7 rfl rfl rfl rfl rfl rfl rfl ⟨rfl, rfl, rfl, rfl, rfl⟩ rfl rfl rfl rfl rfl (by kernel_rfl) Tryz.func7 (by kernel_rfl)
    (of_decide_eq_true (by kernel_rfl)) (by unfold Func.isWrapper; rw [if_neg (of_decide_eq_false (by kernel_rfl))]; exact ⟨rfl, rfl⟩)
    (fun os started H enc _ => lifted os started H enc)
end Go.Proofs.YtjahnpagogpffaaGreat.fnExactRefusedEntries
namespace Go.Proofs.YtjahnpagogpffaaGreat
/-- The row, under a short name, for the claim. -/
theorem fnExactRefusedEntries_holds : Rows.FnExactRefusedEntriesSaid := fnExactRefusedEntries.over
#print axioms fnExactRefusedEntries_holds
end Go.Proofs.YtjahnpagogpffaaGreat
