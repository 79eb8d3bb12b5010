import Derived.Test.YtildomllnnnofaaGreatP5
/- Functions of the program and of the reference in plain terms. -/
namespace Go.Proofs.YtildomllnnnofaaGreat
open Go Go.Tm
set_option linter.unusedVariables false
set_option linter.unusedSimpArgs false
set_option linter.unusedSectionVars false
theorem qii (c : UInt8) : ∀ s : List UInt8, (splitC c s).flatten = s.filter (fun b => !decide (b = c))
  | [] => rfl
  | b :: s => by
    have ih := qii c s
    unfold splitC
    by_cases h : b = c
    · rw [if_pos h, List.flatten_cons, ih, List.filter_cons_of_neg (by simp [h])]; rfl
    · rw [if_neg h, List.filter_cons_of_pos (by simp [h])]
      cases hs : splitC c s with
      | nil => exact absurd hs (qhn c s)
      | cons l ls => rw [hs] at ih; rw [← ih]; rfl
end Go.Proofs.YtildomllnnnofaaGreat
