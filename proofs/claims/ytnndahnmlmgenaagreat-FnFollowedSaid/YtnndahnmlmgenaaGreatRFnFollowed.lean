/- FnFollowed: for every input the law answers true, and its arguments read behind the call as before. No condition beyond the given row's. -/
import Derived.Test.YtnndahnmlmgenaaGreatRows
import Derived.Test.YtnndahnmlmgenaaGreatP39
import Derived.ProofKit
import Derived.SizedLaws
namespace Go.Proofs.YtnndahnmlmgenaaGreat.fnFollowed
open Go Go.Tm
set_option linter.unusedVariables false
theorem own : ownKnob Tryz.prog.godebug = none := by kernel_rfl
theorem laidOut : laidOutB Tryz.prog = true := by kernel_rfl
set_option maxRecDepth 100000 in
theorem lifted (os : Os) (started : os.Started) (H : Type) (enc : TypeId × Value → H) :
    ReturnsInHanded {} Tryz.checked os 3 .any (Rows.fnFollowedSpec.pre6 enc Tryz.prog Tryz.f3 Rows.fnFollowedRow.domain false) (Rows.fnFollowedSpec.post enc Tryz.prog Tryz.f3 false true false false) :=
  returnsInHanded_of_change_sized (C := Tryz.checked) own started (by kernel_rfl) Tryz.func3
    (ChangeSpec.witness6 (enc := enc) (C := Tryz.checked) false ⟨#[], #[.slice none 0 0, .slice none 0 0], []⟩ 8 (by kernel_rfl) (by kernel_rfl) (by kernel_rfl) (by kernel_rfl))
    (law_contract (P := Tryz.prog) (fn := Tryz.f3) (ts := [.list (.int .u8), .list (.int .u8)]) laidOut (by kernel_rfl) rfl (by kernel_rfl) Tryz.func3 (by kernel_rfl) rfl laws_FnFollowed_so (fun x h => laws_FnFollowed_plain x.1 h.1 x.2.1 h.2.1) (fun ds h => by
      match ds, h with
      | [d1, d2], _ => rfl) rfl Tryz.underlying4)
theorem over : Rows.fnFollowedRow.holds Tryz.pinned (OpenSpec.ofChange Rows.fnFollowedSpec) :=
  OpenClaim.holds_of_wide 3 Tryz.f3 rfl rfl rfl rfl rfl rfl rfl ⟨rfl, rfl, rfl, rfl, rfl⟩ rfl rfl rfl rfl rfl (by kernel_rfl) Tryz.func3 (by kernel_rfl)
    (of_decide_eq_true (by kernel_rfl)) (by unfold Func.isWrapper; rw [if_neg (of_decide_eq_false (by kernel_rfl))]; exact ⟨rfl, rfl⟩)
    (fun os started H enc _ => lifted os started H enc)
end Go.Proofs.YtnndahnmlmgenaaGreat.fnFollowed
namespace Go.Proofs.YtnndahnmlmgenaaGreat
/-- The row, under a short name, for the claim. -/
theorem fnFollowed_holds : Rows.FnFollowedSaid := fnFollowed.over
#print axioms fnFollowed_holds
end Go.Proofs.YtnndahnmlmgenaaGreat
