/- FnReplayed: for every input the law answers true, and its arguments read behind the call as before. No condition beyond the given row's. -/
import Derived.Test.YtildomllnnnofaaGreatRows
import Derived.Test.YtildomllnnnofaaGreatP35
import Derived.ProofKit
import Derived.SizedLaws
namespace Go.Proofs.YtildomllnnnofaaGreat.fnReplayed
open Go Go.Tm
set_option linter.unusedVariables false
theorem own : ownKnob Tryz.prog.godebug = none := by kernel_rfl
theorem laidOut : laidOutB Tryz.prog = true := by kernel_rfl
set_option maxRecDepth 100000 in
theorem lifted (os : Os) (started : os.Started) (H : Type) (enc : TypeId × Value → H) :
    ReturnsInHanded {} Tryz.checked os 4 .any (Rows.fnReplayedSpec.pre6 enc Tryz.prog Tryz.f4 Rows.fnReplayedRow.domain false) (Rows.fnReplayedSpec.post enc Tryz.prog Tryz.f4 false true false false) :=
  returnsInHanded_of_change_sized (C := Tryz.checked) own started (by kernel_rfl) Tryz.func4
    (ChangeSpec.witness6 (enc := enc) (C := Tryz.checked) false ⟨#[], #[.slice none 0 0, .slice none 0 0], []⟩ 8 (by kernel_rfl) (by kernel_rfl) (by kernel_rfl) (by kernel_rfl))
    (qsg (P := Tryz.prog) (fn := Tryz.f4) (ts := [.list (.int .u8), .list (.int .u8)]) laidOut (by kernel_rfl) rfl (by kernel_rfl) Tryz.func4 (by kernel_rfl) rfl qk4 (fun x h => qif x.1 h.1 x.2.1 h.2.1) (fun ds h => by
      match ds, h with
      | [d1, d2], _ => rfl) rfl Tryz.underlying4)
theorem over : Rows.fnReplayedRow.holds Tryz.pinned (OpenSpec.ofChange Rows.fnReplayedSpec) :=
  OpenClaim.holds_of_wide 4 Tryz.f4 rfl rfl rfl rfl rfl rfl rfl ⟨rfl, rfl, rfl, rfl, rfl⟩ rfl rfl rfl rfl rfl (by kernel_rfl) Tryz.func4 (by kernel_rfl)
    (of_decide_eq_true (by kernel_rfl)) (by unfold Func.isWrapper; rw [if_neg (of_decide_eq_false (by kernel_rfl))]; exact ⟨rfl, rfl⟩)
    (fun os started H enc _ => lifted os started H enc)
end Go.Proofs.YtildomllnnnofaaGreat.fnReplayed
namespace Go.Proofs.YtildomllnnnofaaGreat
theorem fnReplayed_holds : Rows.FnReplayedSaid := fnReplayed.over
#print axioms fnReplayed_holds
end Go.Proofs.YtildomllnnnofaaGreat
