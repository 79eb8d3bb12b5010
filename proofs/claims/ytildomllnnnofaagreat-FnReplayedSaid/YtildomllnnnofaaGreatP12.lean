import Derived.Test.YtildomllnnnofaaGreatP11
/- Functions of the program and of the reference in plain terms. -/
namespace Go.Proofs.YtildomllnnnofaaGreat
open Go Go.Tm
set_option linter.unusedVariables false
set_option linter.unusedSimpArgs false
set_option linter.unusedSectionVars false
theorem qlq (x : Nat) (h : finB x = true) : (!fLt .f32 x 0) = fLe .f32 0 x := by
  obtain ⟨s, m, p, hd⟩ := qot (k := .f32) h
  have hd' : FloatKind.f32.format.read x = .number s m p := hd
  have h0 : FloatKind.f32.format.read 0 = .number false 0 (-149) := by decide
  have some_beq : ∀ (a b : Ordering), ((some a : Option Ordering) == some b) = (a == b) := fun a b => by cases a <;> cases b <;> rfl
  unfold fLt fLe Ieee.Format.order
  rw [hd', h0]
  simp only [Ieee.Datum.order, some_beq]
  rw [qn2, qer, Int.min_comm]
  generalize Ieee.signed s m _ = a
  generalize Ieee.signed false 0 _ = b
  by_cases h : a < b
  · have : ¬ b ≤ a := by omega
    simp [h, this]
  · have : b ≤ a := by omega
    simp [h, this]
def leastB (x : Nat) : Bool := finB x && fLe .f32 0 x
theorem qou (x : Nat) : impl_isLeast [x] = some ((leastB x, ()), ()) := by
  have h := qcb [x] (fun z1059 => (impl_isLeast_1 z1059.1).map fun y => y.1.1) (fun p => fLt .f32 p 0) (by simp) (fun x _ => rfl)
  simp only [impl_isLeast, h, qbb [x] (by simp), Option.bind_some, List.all_cons, List.all_nil, List.any_cons, List.any_nil, Bool.and_true, Bool.or_false, leastB]
  cases hf : finB x with
  | false => rfl
  | true => rw [qlq x hf]; rfl
end Go.Proofs.YtildomllnnnofaaGreat
