/- Functions of the program and of the reference in plain terms. -/
import Derived.Test.YtnndahnmlmgenaaGreatP1
namespace Go.Proofs.YtnndahnmlmgenaaGreat
open Go Go.Tm
set_option linter.unusedVariables false
set_option linter.unusedSimpArgs false
set_option linter.unusedSectionVars false
/-! ### numbers -/
theorem wrap_i64 {a : Int} (h : -9223372036854775808 ≤ a) (h1 : a ≤ 9223372036854775807) : iWrap .i64 a = a := wrap64_id h h1
theorem iLe_true {a b : Int} : iLe a b = true ↔ a ≤ b := by simp [iLe]
theorem iLt_true {a b : Int} : iLt a b = true ↔ a < b := by simp [iLt]
theorem iEq_true {a b : Int} : iEq a b = true ↔ a = b := by simp [iEq]
theorem iEq_false {a b : Int} : iEq a b = false ↔ a ≠ b := by simp [iEq]
theorem fit_i16 {a : Int} (h : 0 ≤ a) (h1 : a ≤ 30000) : Fit (.int .i16) a := ⟨by show (-32768 : Int) ≤ a; omega, by show a ≤ (32767 : Int); omega⟩
theorem wrap16 {a : Int} (h : 0 ≤ a) (h1 : a ≤ 30000) : iWrap .i16 a = a := by simp [iWrap, IntKind.wrap, IntKind.signed, IntKind.bits]; omega

theorem within_eq : impl_within = spec_l00In := rfl

theorem l00In_ok (a b c : Int) : spec_l00In a b c = some ((iLe b a && iLe a c, ()), ()) := by
  unfold spec_l00In
  cases iLe b a <;> rfl

/-! ### what is finite -/
def finB (x : Nat) : Bool := fEq .f32 (fSub .f32 x x) 0

theorem impl_isFinite_ok (l : List Nat) (hl : l.length ≤ 140737488355328) : impl_isFinite l = some ((l.all finB, ()), ()) := by
  unfold impl_isFinite
  refine every_loop (fun i hi => ?_) ?_
  · have e1 : iLt (i : Int) (lenI l) = true := iLt_pos (by rw [lenI_eq]; omega)
    have e2 : inB (i : Int) l.length = true := inB_pos hi
    have e4 : l.getD i (0 : Nat) = l[i] := getD_of hi
    have e5 : iAdd .i64 (i : Int) 1 = ((i + 1 : Nat) : Int) := iAdd_one hi (by omega)
    simp only [impl_isFinite_l2, e1, e2, e4, e5, Int.toNat_natCast, cond_true, finB]
    cases fEq .f32 (fSub .f32 l[i] l[i]) 0 <;> rfl
  · have e1 : iLt (l.length : Int) (lenI l) = false := iLt_neg (by rw [lenI_eq]; omega)
    simp only [impl_isFinite_l2, e1, cond_false]
    rfl

theorem spec_l01Finite_ok (x : Nat) : spec_l01Finite x = some ((finB x, ()), ()) := rfl

def finV (v : Vec 3 Nat) : Bool := finB (Vec.getD 3 v 0 (0 : Nat)) && (finB (Vec.getD 3 v 1 (0 : Nat)) && finB (Vec.getD 3 v 2 (0 : Nat)))

theorem spec_l01Vec_ok (v : Vec 3 Nat) : spec_l01Vec v = some ((finV v, ()), ()) := by
  simp only [spec_l01Vec, spec_l01Finite_ok, Option.bind_some, finV]
  cases finB (Vec.getD 3 v 0 (0 : Nat)) <;> cases finB (Vec.getD 3 v 1 (0 : Nat)) <;> rfl

/-! ### roots -/
theorem math_Sqrt_ok (x : Nat) : math_Sqrt x = some ((orNan .f64 (FloatKind.f64.format.sqrt x), ()), ()) := rfl

theorem impl_root_ok (x : Nat) : impl_root x = some ((rootF x, ()), ()) := by
  simp only [impl_root, math_Sqrt_ok, fConv32_eq, rootF_eq, Option.bind_some]

theorem spec_l01Root_ok (x : Nat) : spec_l01Root x = some ((rootF x, ()), ()) := by
  simp only [spec_l01Root, math_Sqrt_ok, fConv32_eq, rootF_eq, Option.bind_some]

/-! ### the same number -/
def sameN (a b : Nat) : Bool := bif isNan .f32 a then isNan .f32 b else bif isNan .f32 b then false else iEq (a : Int) (b : Int)
theorem allSame2 {A : Type} {g : Nat → Nat → Option A} {a : A} (h : ∀ q r, g q r = some a) : (allSame fun q => allSame fun r => g q r) = some a := allSame_of fun q => allSame_of fun r => h q r

theorem spec_l01Same_ok (a b : Nat) : spec_l01Same a b = some ((sameN a b, ()), ()) := by
  simp only [spec_l01Same, fEq_self, Bool.not_not, sameN]
  cases ha : isNan .f32 a <;> cases hb : isNan .f32 b
  · exact allSame2 fun q r => by rw [bits_num ha, bits_num hb]; rfl
  · rfl
  · rfl
  · rfl

def sameV (a b : Vec 3 Nat) : Bool := sameN (Vec.getD 3 a 0 (0 : Nat)) (Vec.getD 3 b 0 (0 : Nat)) && (sameN (Vec.getD 3 a 1 (0 : Nat)) (Vec.getD 3 b 1 (0 : Nat)) && sameN (Vec.getD 3 a 2 (0 : Nat)) (Vec.getD 3 b 2 (0 : Nat)))

theorem spec_l01SameVec_ok (a b : Vec 3 Nat) : spec_l01SameVec a b = some ((sameV a b, ()), ()) := by
  simp only [spec_l01SameVec, spec_l01Same_ok, Option.bind_some, sameV]
  cases sameN (Vec.getD 3 a 0 (0 : Nat)) (Vec.getD 3 b 0 (0 : Nat)) <;> cases sameN (Vec.getD 3 a 1 (0 : Nat)) (Vec.getD 3 b 1 (0 : Nat)) <;> rfl
end Go.Proofs.YtnndahnmlmgenaaGreat
