import Derived.Test.YtildomllnnnofaaGreatP12
/- Functions of the program and of the reference in plain terms. -/
namespace Go.Proofs.YtildomllnnnofaaGreat
open Go Go.Tm
set_option linter.unusedVariables false
set_option linter.unusedSimpArgs false
set_option linter.unusedSectionVars false
theorem qg7 (x : Nat) : spec_l03Least x = some ((leastB x, ()), ()) := by
  simp only [spec_l03Least, qax, Option.bind_some, leastB]
  cases fLe .f32 0 x <;> cases finB x <;> rfl
end Go.Proofs.YtildomllnnnofaaGreat
