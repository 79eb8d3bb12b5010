import Derived.Test.YtildomllnnnofaaGreatP6
/- Functions of the program and of the reference in plain terms. -/
namespace Go.Proofs.YtildomllnnnofaaGreat
open Go Go.Tm
set_option linter.unusedVariables false
set_option linter.unusedSimpArgs false
set_option linter.unusedSectionVars false
theorem qs6 {c : UInt8} (hc : digB c = false) (k : Nat) : c ∉ Lib.decDigits k := by
  intro h
  have := List.all_eq_true.1 (qbs k).1 c h
  rw [hc] at this
  cases this
end Go.Proofs.YtildomllnnnofaaGreat
