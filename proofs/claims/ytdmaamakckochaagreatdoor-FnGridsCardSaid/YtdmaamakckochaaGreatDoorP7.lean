/- Functions of the program and of the reference in plain terms. -/
import Derived.Test.YtdmaamakckochaaGreatDoorP6
namespace Go.Proofs.YtdmaamakckochaaGreatDoor
open Go Go.Tm
set_option linter.unusedVariables false
set_option linter.unusedSimpArgs false
set_option linter.unusedSectionVars false
/-! ### ways -/
def finP (p : Vec 2 Nat) : Bool := finB (Vec.getD 2 p 0 (0 : Nat)) && finB (Vec.getD 2 p 1 (0 : Nat))
def wayB (l : List (Vec 2 Nat)) : Bool := (iLe 1 (lenI l) && iLe (lenI l) 600) && l.all finP
def sqF (a b : Vec 2 Nat) : Nat := fAdd .f32 (fMul .f32 (fSub .f32 (Vec.getD 2 b 0 (0 : Nat)) (Vec.getD 2 a 0 (0 : Nat))) (fSub .f32 (Vec.getD 2 b 0 (0 : Nat)) (Vec.getD 2 a 0 (0 : Nat)))) (fMul .f32 (fSub .f32 (Vec.getD 2 b 1 (0 : Nat)) (Vec.getD 2 a 1 (0 : Nat))) (fSub .f32 (Vec.getD 2 b 1 (0 : Nat)) (Vec.getD 2 a 1 (0 : Nat))))
theorem sqF_swap (a b : Vec 2 Nat) : sqF a b = sqF b a := by
  unfold sqF
  rw [square_swap .f32 (Vec.getD 2 b 0 (0 : Nat)) (Vec.getD 2 a 0 (0 : Nat)), square_swap .f32 (Vec.getD 2 b 1 (0 : Nat)) (Vec.getD 2 a 1 (0 : Nat))]
theorem wayB_len {l : List (Vec 2 Nat)} (h : wayB l = true) : 1 ≤ l.length ∧ l.length ≤ 600 := by
  simp only [wayB, Bool.and_eq_true, iLe_true, lenI_eq] at h
  omega

abbrev TyWay : Ty := .list (.arr 2 (.flt .f32))

/-! ### ahead on a way -/
theorem fLe_fLt (x : Nat) (h : finB x = true) : (!fLt .f32 x 0) = fLe .f32 0 x := by
  obtain ⟨s, m, p, hd⟩ := fin_number (k := .f32) h
  have hd' : FloatKind.f32.format.read x = .number s m p := hd
  have h0 : FloatKind.f32.format.read 0 = .number false 0 (-149) := by decide
  have some_beq : ∀ (a b : Ordering), ((some a : Option Ordering) == some b) = (a == b) := fun a b => by cases a <;> cases b <;> rfl
  unfold fLt fLe Ieee.Format.order
  rw [hd', h0]
  simp only [Ieee.Datum.order, some_beq]
  rw [compare_le, compare_lt, Int.min_comm]
  generalize Ieee.signed s m _ = a
  generalize Ieee.signed false 0 _ = b
  by_cases h : a < b
  · have : ¬ b ≤ a := by omega
    simp [h, this]
  · have : b ≤ a := by omega
    simp [h, this]

def leastB (x : Nat) : Bool := finB x && fLe .f32 0 x

def aheadP (a b : Vec 2 Nat) (t : Nat) : Vec 2 Nat := (fAdd .f32 (Vec.getD 2 a 0 (0 : Nat)) (fMul .f32 (fSub .f32 (Vec.getD 2 b 0 (0 : Nat)) (Vec.getD 2 a 0 (0 : Nat))) t), fAdd .f32 (Vec.getD 2 a 1 (0 : Nat)) (fMul .f32 (fSub .f32 (Vec.getD 2 b 1 (0 : Nat)) (Vec.getD 2 a 1 (0 : Nat))) t), ())
/-- one step of the second walk: what is left, or the point -/
def aheadF (l : List (Vec 2 Nat)) (x : Nat) (i : Nat) : Nat ⊕ Vec 2 Nat :=
  let d := rootF (sqF (l.getD i ((0, 0, ()) : (Vec 2 Nat))) (l.getD (i + 1) ((0, 0, ()) : (Vec 2 Nat))))
  bif fEq .f32 d 0 then .inl x else bif fLe .f32 x d then .inr (aheadP (l.getD i ((0, 0, ()) : (Vec 2 Nat))) (l.getD (i + 1) ((0, 0, ()) : (Vec 2 Nat))) (fDiv .f32 x d)) else .inl (fSub .f32 x d)
end Go.Proofs.YtdmaamakckochaaGreatDoor
