import Derived.Test.YtildomllnnnofaaGreatP16
/- Functions of the program and of the reference in plain terms. -/
namespace Go.Proofs.YtildomllnnnofaaGreat
open Go Go.Tm
set_option linter.unusedVariables false
set_option linter.unusedSimpArgs false
set_option linter.unusedSectionVars false
theorem qgc (a b c d e f : Nat) : impl_isFinite [a, b, c, d, e, f] = some ((([a, b, c, d, e, f] : List Nat).all finB, ()), ()) := qbb _ (by simp)
theorem qlp (c b : Bool) : (bif !c then some (((false, ()), ()) : (Bool × Unit) × Unit) else some ((b, ()), ())) = some ((c && b, ()), ()) := by cases c <;> rfl
theorem qtt (c b : Bool) : (bif c then some (((false, ()), ()) : (Bool × Unit) × Unit) else some ((b, ()), ())) = some ((!c && b, ()), ()) := by cases c <;> rfl
def rowL (r : Vec 6 Nat) : List Nat := [Vec.getD 6 r 0 (0 : Nat), Vec.getD 6 r 1 (0 : Nat), Vec.getD 6 r 2 (0 : Nat), Vec.getD 6 r 3 (0 : Nat), Vec.getD 6 r 4 (0 : Nat), Vec.getD 6 r 5 (0 : Nat)]
def rowC (i : Nat) (r : Vec 6 Nat) : List Bool := (rowL r).all finB :: (!fLt .f32 ((rowL r).getD i 0) 0) :: ((rowL r).drop (i + 1)).map fun x => fEq .f32 x 0
abbrev DState := Vec 6 Nat × (Vec 6 (Vec 6 Nat) × Unit)
def rowS (S : Vec 6 (Vec 6 Nat)) (i : Nat) : Vec 6 Nat := Vec.getD 6 S i ((0, 0, 0, 0, 0, 0, ()) : (Vec 6 Nat))
def restC (S : Vec 6 (Vec 6 Nat)) : List Bool := rowC 0 (rowS S 0) ++ (rowC 1 (rowS S 1) ++ (rowC 2 (rowS S 2) ++ (rowC 3 (rowS S 3) ++ (rowC 4 (rowS S 4) ++ rowC 5 (rowS S 5)))))
def stateB (s : DState) : Bool := (rowL s.1).all finB && (restC s.2.1).all id
theorem qas (s : DState) : impl_ValidState s = some ((stateB s, ()), ()) := by
  simp only [impl_ValidState, qgc, Option.bind_some, qlp, qtt, Bool.not_not]
  rfl
def firstR : Vec 6 (Vec 6 Nat) := ((1056964608, 0, 0, 0, 0, 0, ()), (0, 1056964608, 0, 0, 0, 0, ()), (0, 0, 1056964608, 0, 0, 0, ()), (0, 0, 0, 1065353216, 0, 0, ()), (0, 0, 0, 0, 1065353216, 0, ()), (0, 0, 0, 0, 0, 1065353216, ()), ())
def firstS (v : Vec 3 Nat) : DState := ((Vec.getD 3 v 0 (0 : Nat), Vec.getD 3 v 1 (0 : Nat), Vec.getD 3 v 2 (0 : Nat), 0, 0, 0, ()), firstR, ())
theorem qrj : (restC firstR).all id = true := by kernel_rfl
theorem qkl {v : Vec 3 Nat} (h : finV v = true) : stateB (firstS v) = true := by
  simp only [finV, Bool.and_eq_true] at h
  have e : (rowL (firstS v).1).all finB = true := by
    show (([Vec.getD 3 v 0 (0 : Nat), Vec.getD 3 v 1 (0 : Nat), Vec.getD 3 v 2 (0 : Nat), 0, 0, 0] : List Nat).all finB) = true
    simp [h.1, h.2.1, h.2.2, qkt]
  show ((rowL (firstS v).1).all finB && (restC firstR).all id) = true
  rw [e, qrj]
  rfl
theorem qdi (a : DLog) (hv : finV a.2.1 = true) : impl_firstState a = some ((firstS a.2.1, ()), ()) := by
  have e : impl_firstState a = (impl_ValidState (firstS a.2.1)).bind fun y => bif !y.1.1 then some ((((0, 0, 0, 0, 0, 0, ()), ((0, 0, 0, 0, 0, 0, ()), (0, 0, 0, 0, 0, 0, ()), (0, 0, 0, 0, 0, 0, ()), (0, 0, 0, 0, 0, 0, ()), (0, 0, 0, 0, 0, 0, ()), (0, 0, 0, 0, 0, 0, ()), ()), ()), ()), ()) else some ((firstS a.2.1, ()), ()) := by
    have e1 : impl_firstState a = (impl_StateOf (firstS a.2.1).1 ((1056964608, 1056964608, 1056964608, 1065353216, 1065353216, 1065353216, ()) : (Vec 6 Nat))).bind fun y => some ((y.1.1, ()), ()) := rfl
    have e2 : impl_StateOf (firstS a.2.1).1 ((1056964608, 1056964608, 1056964608, 1065353216, 1065353216, 1065353216, ()) : (Vec 6 Nat)) = (impl_ValidState (firstS a.2.1)).bind fun y => bif !y.1.1 then some ((((0, 0, 0, 0, 0, 0, ()), ((0, 0, 0, 0, 0, 0, ()), (0, 0, 0, 0, 0, 0, ()), (0, 0, 0, 0, 0, 0, ()), (0, 0, 0, 0, 0, 0, ()), (0, 0, 0, 0, 0, 0, ()), (0, 0, 0, 0, 0, 0, ()), ()), ()), 1, ()), ()) else some ((firstS a.2.1, 0, ()), ()) := rfl
    rw [e1, e2, qas]
    cases stateB (firstS a.2.1) <;> rfl
  rw [e, qas, qkl hv]
  rfl
theorem qg3 (a : DLog) : spec_l08First a = some ((firstS a.2.1, ()), ()) := rfl
theorem qvi {a : DLog} (h : logB a = true) : finV a.2.1 = true := by
  simp only [logB, frameB, Bool.and_eq_true] at h
  exact h.1.2.1
end Go.Proofs.YtildomllnnnofaaGreat
