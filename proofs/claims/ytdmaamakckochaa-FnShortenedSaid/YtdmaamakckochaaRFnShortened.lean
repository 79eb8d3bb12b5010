/- FnShortened: for every input the law answers true, and its arguments read behind the call as before. No condition beyond the given row's. -/
import Derived.Test.YtdmaamakckochaaRows
import Derived.Test.YtdmaamakckochaaP9
import Derived.ProofKit
import Derived.SizedLaws
namespace Go.Proofs.Ytdmaamakckochaa.fnShortened
open Go Go.Tm
set_option linter.unusedVariables false
theorem own : ownKnob Try.prog.godebug = none := by kernel_rfl
theorem laidOut : laidOutB Try.prog = true := by kernel_rfl
set_option maxRecDepth 100000 in
theorem lifted (os : Os) (started : os.Started) (H : Type) (enc : TypeId × Value → H) :
    ReturnsInHanded {} Try.checked os 3 .any (Rows.fnShortenedSpec.pre6 enc Try.prog Try.f3 Rows.fnShortenedRow.domain false) (Rows.fnShortenedSpec.post enc Try.prog Try.f3 false true false false) :=
  returnsInHanded_of_change_sized (C := Try.checked) own started (by kernel_rfl) Try.func3
    (ChangeSpec.witness6 (enc := enc) (C := Try.checked) false ⟨#[], #[.slice none 0 0, .slice none 0 0], []⟩ 8 (by kernel_rfl) (by kernel_rfl) (by kernel_rfl) (by kernel_rfl))
    (law_contract (P := Try.prog) (fn := Try.f3) (ts := [.list (.int .u8), .list (.int .u8)]) laidOut (by kernel_rfl) rfl (by kernel_rfl) Try.func3 (by kernel_rfl) rfl laws_FnShortened_so (fun x h => laws_FnShortened_plain x.1 h.1 x.2.1 h.2.1) (fun ds h => by
      match ds, h with
      | [d1, d2], _ => rfl) rfl Try.underlying4)
theorem over : Rows.fnShortenedRow.holds Try.pinned (OpenSpec.ofChange Rows.fnShortenedSpec) :=
  OpenClaim.holds_of_wide 3 Try.f3 rfl rfl rfl rfl rfl rfl rfl ⟨rfl, rfl, rfl, rfl, rfl⟩ rfl rfl rfl rfl rfl (by kernel_rfl) Try.func3 (by kernel_rfl)
    (of_decide_eq_true (by kernel_rfl)) (by unfold Func.isWrapper; rw [if_neg (of_decide_eq_false (by kernel_rfl))]; exact ⟨rfl, rfl⟩)
    (fun os started H enc _ => lifted os started H enc)
end Go.Proofs.Ytdmaamakckochaa.fnShortened
namespace Go.Proofs.Ytdmaamakckochaa
/-- The row, under a short name, for the claim. -/
theorem fnShortened_holds : Rows.FnShortenedSaid := fnShortened.over
#print axioms fnShortened_holds
end Go.Proofs.Ytdmaamakckochaa
