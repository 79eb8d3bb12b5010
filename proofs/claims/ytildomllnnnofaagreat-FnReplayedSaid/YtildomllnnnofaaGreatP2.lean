import Derived.Test.YtildomllnnnofaaGreatP1
/- Functions of the program and of the reference in plain terms. -/
namespace Go.Proofs.YtildomllnnnofaaGreat
open Go Go.Tm
set_option linter.unusedVariables false
set_option linter.unusedSimpArgs false
set_option linter.unusedSectionVars false
theorem qed {a : Int} (h : -9223372036854775808 ≤ a) (h1 : a ≤ 9223372036854775807) : iWrap .i64 a = a := qf3 h h1
theorem qbo {a b : Int} : iLe a b = true ↔ a ≤ b := by simp [iLe]
theorem qbq {a b : Int} : iEq a b = true ↔ a = b := by simp [iEq]
theorem qcn {a b : Int} : iEq a b = false ↔ a ≠ b := by simp [iEq]
theorem qbt : impl_within = spec_l00In := rfl
theorem qbl (a b c : Int) : spec_l00In a b c = some ((iLe b a && iLe a c, ()), ()) := by
  unfold spec_l00In
  cases iLe b a <;> rfl
theorem qwi (a b : Int) : spec_l00Max a b = some ((max a b, ()), ()) := by
  unfold spec_l00Max
  by_cases h : b < a
  · rw [qah h, cond_true, Int.max_eq_left (by omega)]
  · rw [qag h, cond_false, Int.max_eq_right (by omega)]
def finB (x : Nat) : Bool := fEq .f32 (fSub .f32 x x) 0
theorem qbb (l : List Nat) (hl : l.length ≤ 140737488355328) : impl_isFinite l = some ((l.all finB, ()), ()) := by
  unfold impl_isFinite
  refine qjo (fun i hi => ?_) ?_
  · have e1 : iLt (i : Int) (lenI l) = true := qah (by rw [qaa]; omega)
    have e2 : inB (i : Int) l.length = true := qaf hi
    have e4 : l.getD i (0 : Nat) = l[i] := qau hi
    have e5 : iAdd .i64 (i : Int) 1 = ((i + 1 : Nat) : Int) := qap hi (by omega)
    simp only [impl_isFinite_l2, e1, e2, e4, e5, Int.toNat_natCast, cond_true, finB]
    cases fEq .f32 (fSub .f32 l[i] l[i]) 0 <;> rfl
  · have e1 : iLt (l.length : Int) (lenI l) = false := qag (by rw [qaa]; omega)
    simp only [impl_isFinite_l2, e1, cond_false]
    rfl
theorem qax (x : Nat) : spec_l01Finite x = some ((finB x, ()), ()) := rfl
def finV (v : Vec 3 Nat) : Bool := finB (Vec.getD 3 v 0 (0 : Nat)) && (finB (Vec.getD 3 v 1 (0 : Nat)) && finB (Vec.getD 3 v 2 (0 : Nat)))
theorem qde (v : Vec 3 Nat) : impl_IsFiniteVec v = some ((finV v, ()), ()) := by
  simp only [impl_IsFiniteVec, qbb [Vec.getD 3 v 0 (0 : Nat), Vec.getD 3 v 1 (0 : Nat), Vec.getD 3 v 2 (0 : Nat)] (by simp), Option.bind_some, List.all_cons, List.all_nil, Bool.and_true, finV]
theorem qdo (v : Vec 3 Nat) : spec_l01Vec v = some ((finV v, ()), ()) := by
  simp only [spec_l01Vec, qax, Option.bind_some, finV]
  cases finB (Vec.getD 3 v 0 (0 : Nat)) <;> cases finB (Vec.getD 3 v 1 (0 : Nat)) <;> rfl
theorem qle (x : Nat) : math_Sqrt x = some ((orNan .f64 (FloatKind.f64.format.sqrt x), ()), ()) := rfl
theorem qez (x : Nat) : impl_root x = some ((rootF x, ()), ()) := by
  simp only [impl_root, qle, qcx, qnb, Option.bind_some]
theorem qbw (x : Nat) : spec_l01Root x = some ((rootF x, ()), ()) := by
  simp only [spec_l01Root, qle, qcx, qnb, Option.bind_some]
def sameN (a b : Nat) : Bool := bif isNan .f32 a then isNan .f32 b else bif isNan .f32 b then false else iEq (a : Int) (b : Int)
theorem qjb {A : Type} {g : Nat → Nat → Option A} {a : A} (h : ∀ q r, g q r = some a) : (allSame fun q => allSame fun r => g q r) = some a := qnu fun q => qnu fun r => h q r
theorem qf8 (a b : Nat) : impl_SameNumber a b = some ((sameN a b, ()), ()) := by
  simp only [impl_SameNumber, impl_isNaN, qjl, Bool.not_not, Option.bind_some, sameN]
  cases ha : isNan .f32 a <;> cases hb : isNan .f32 b
  · exact qjb fun q r => by rw [qjc ha, qjc hb]; rfl
  · exact qjb fun q r => by rw [qp6 (by simp [ha, hb])]; rfl
  · exact qjb fun q r => by rw [qp6 (by simp [ha, hb])]; rfl
  · rfl
theorem qeq (a b : Nat) : spec_l01Same a b = some ((sameN a b, ()), ()) := by
  simp only [spec_l01Same, qjl, Bool.not_not, sameN]
  cases ha : isNan .f32 a <;> cases hb : isNan .f32 b
  · exact qjb fun q r => by rw [qjc ha, qjc hb]; rfl
  · rfl
  · rfl
  · rfl
def sameV (a b : Vec 3 Nat) : Bool := sameN (Vec.getD 3 a 0 (0 : Nat)) (Vec.getD 3 b 0 (0 : Nat)) && (sameN (Vec.getD 3 a 1 (0 : Nat)) (Vec.getD 3 b 1 (0 : Nat)) && sameN (Vec.getD 3 a 2 (0 : Nat)) (Vec.getD 3 b 2 (0 : Nat)))
theorem qog (a b : Vec 3 Nat) : impl_SameVec a b = some ((sameV a b, ()), ()) := by
  simp only [impl_SameVec, qf8, Option.bind_some, sameV]
  cases sameN (Vec.getD 3 a 0 (0 : Nat)) (Vec.getD 3 b 0 (0 : Nat)) <;> cases sameN (Vec.getD 3 a 1 (0 : Nat)) (Vec.getD 3 b 1 (0 : Nat)) <;> cases sameN (Vec.getD 3 a 2 (0 : Nat)) (Vec.getD 3 b 2 (0 : Nat)) <;> rfl
theorem qlj (a b : Vec 3 Nat) : spec_l01SameVec a b = some ((sameV a b, ()), ()) := by
  simp only [spec_l01SameVec, qeq, Option.bind_some, sameV]
  cases sameN (Vec.getD 3 a 0 (0 : Nat)) (Vec.getD 3 b 0 (0 : Nat)) <;> cases sameN (Vec.getD 3 a 1 (0 : Nat)) (Vec.getD 3 b 1 (0 : Nat)) <;> rfl
end Go.Proofs.YtildomllnnnofaaGreat
