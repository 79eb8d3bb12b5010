/- Functions of the program and of the reference in plain terms. -/
import Derived.Test.YtdmaamakckochaaDoorL
namespace Go.Proofs.YtdmaamakckochaaDoor
open Go Go.Tm
set_option linter.unusedVariables false
set_option linter.unusedSimpArgs false
set_option linter.unusedSectionVars false
/-! ### numbers -/
theorem wrap_i64 {a : Int} (h : -9223372036854775808 ≤ a) (h1 : a ≤ 9223372036854775807) : iWrap .i64 a = a := wrap64_id h h1
theorem iLe_true {a b : Int} : iLe a b = true ↔ a ≤ b := by simp [iLe]
theorem iLt_true {a b : Int} : iLt a b = true ↔ a < b := by simp [iLt]
theorem iEq_true {a b : Int} : iEq a b = true ↔ a = b := by simp [iEq]
theorem iEq_false {a b : Int} : iEq a b = false ↔ a ≠ b := by simp [iEq]
theorem fit_i16 {a : Int} (h : 0 ≤ a) (h1 : a ≤ 30000) : Fit (.int .i16) a := ⟨by show (-32768 : Int) ≤ a; omega, by show a ≤ (32767 : Int); omega⟩
theorem wrap16 {a : Int} (h : 0 ≤ a) (h1 : a ≤ 30000) : iWrap .i16 a = a := by simp [iWrap, IntKind.wrap, IntKind.signed, IntKind.bits]; omega

theorem within_eq : impl_within = spec_l00In := rfl

theorem l00In_ok (a b c : Int) : spec_l00In a b c = some ((iLe b a && iLe a c, ()), ()) := by
  unfold spec_l00In
  cases iLe b a <;> rfl

/-! ### what is finite -/
def finB (x : Nat) : Bool := fEq .f32 (fSub .f32 x x) 0

def finV (v : Vec 3 Nat) : Bool := finB (Vec.getD 3 v 0 (0 : Nat)) && (finB (Vec.getD 3 v 1 (0 : Nat)) && finB (Vec.getD 3 v 2 (0 : Nat)))

/-! ### the same number -/
def sameN (a b : Nat) : Bool := bif isNan .f32 a then isNan .f32 b else bif isNan .f32 b then false else iEq (a : Int) (b : Int)
theorem allSame2 {A : Type} {g : Nat → Nat → Option A} {a : A} (h : ∀ q r, g q r = some a) : (allSame fun q => allSame fun r => g q r) = some a := allSame_of fun q => allSame_of fun r => h q r

def sameV (a b : Vec 3 Nat) : Bool := sameN (Vec.getD 3 a 0 (0 : Nat)) (Vec.getD 3 b 0 (0 : Nat)) && (sameN (Vec.getD 3 a 1 (0 : Nat)) (Vec.getD 3 b 1 (0 : Nat)) && sameN (Vec.getD 3 a 2 (0 : Nat)) (Vec.getD 3 b 2 (0 : Nat)))
end Go.Proofs.YtdmaamakckochaaDoor
