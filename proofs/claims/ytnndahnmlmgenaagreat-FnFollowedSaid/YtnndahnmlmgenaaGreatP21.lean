/- Functions of the program and of the reference in plain terms. -/
import Derived.Test.YtnndahnmlmgenaaGreatP20
namespace Go.Proofs.YtnndahnmlmgenaaGreat
open Go Go.Tm
set_option linter.unusedVariables false
set_option linter.unusedSimpArgs false
set_option linter.unusedSectionVars false
/-! ### sums of products -/
def dotA : Nat → List Nat → List Nat → Nat
  | acc, a :: l, b :: m => dotA (fAdd .f32 acc (fMul .f32 a b)) l m
  | acc, _, _ => acc
def dotS (l m : List Nat) : Nat := match l, m with
  | a :: l, b :: m => dotA (fMul .f32 a b) l m
  | _, _ => 0

theorem sum_run {L M : List Nat} (hLM : L.length ≤ M.length) (hL : L.length ≤ 100) : ∀ (k i acc : Nat), 1 ≤ i → i + k = L.length → run (impl_sumOf_l3 L M) (acc, (i : Int), ()) = some ((dotA acc (L.drop i) (M.drop i), ()), ())
  | 0, i, acc, h1, h => by
    have e1 : iLt (i : Int) (lenI L) = false := iLt_neg (by rw [lenI_eq]; omega)
    rw [List.drop_of_length_le (by omega : L.length ≤ i)]
    exact run_done (by simp only [impl_sumOf_l3, e1, cond_false, Option.map_some]; rfl)
  | k + 1, i, acc, h1, h => by
    have e1 : iLt (i : Int) (lenI L) = true := iLt_pos (by rw [lenI_eq]; omega)
    have e2 : inB (i : Int) L.length = true := inB_pos (by omega)
    have e3 : inB (i : Int) M.length = true := inB_pos (by omega)
    have e4 : iEq (i : Int) 0 = false := iEq_neg (by omega)
    have e5 : iAdd .i64 (i : Int) 1 = ((i + 1 : Nat) : Int) := iAdd_one (n := L.length) (by omega) (by omega)
    have g1 : L.getD i (0 : Nat) = L[i]'(by omega) := getD_of (by omega)
    have g2 : M.getD i (0 : Nat) = M[i]'(by omega) := getD_of (by omega)
    rw [List.drop_eq_getElem_cons (by omega : i < L.length), List.drop_eq_getElem_cons (by omega : i < M.length)]
    refine (run_step (s' := (fAdd .f32 acc (fMul .f32 (L[i]'(by omega)) (M[i]'(by omega))), ((i + 1 : Nat) : Int), ())) ?_).trans (sum_run hLM hL k (i + 1) _ (by omega) (by omega))
    simp only [impl_sumOf_l3, e1, e2, e3, e4, e5, Int.toNat_natCast, g1, g2, cond_true, cond_false]

theorem impl_sumOf_ok (a b : Nat) (l m : List Nat) (h : l.length ≤ m.length) (h1 : l.length ≤ 90) : impl_sumOf (a :: l) (b :: m) = some ((dotA (fMul .f32 a b) l m, ()), ()) := by
  have e := sum_run (L := a :: l) (M := b :: m) (by rw [List.length_cons, List.length_cons]; omega) (by rw [List.length_cons]; omega) l.length 1 (fMul .f32 a b) (by omega) (by rw [List.length_cons]; omega)
  refine (run_step (s' := (fMul .f32 a b, ((1 : Nat) : Int), ())) ?_).trans (e.trans (by simp))
  have e1 : iLt 0 (lenI (a :: l)) = true := iLt_pos (by rw [lenI_eq, List.length_cons]; omega)
  have e2 : inB 0 (a :: l).length = true := inB_pos (i := 0) (by simp)
  have e3 : inB 0 (b :: m).length = true := inB_pos (i := 0) (by simp)
  simp only [impl_sumOf_l3, e1, e2, e3, cond_true]
  rfl

theorem sum1_1 (a0 b0 : Nat) : impl_sumOf [a0] [b0] = some ((dotA (fMul .f32 a0 b0) [] [], ()), ()) := impl_sumOf_ok _ _ _ _ (by simp) (by simp)

theorem sum2_2 (a0 a1 b0 b1 : Nat) : impl_sumOf [a0, a1] [b0, b1] = some ((dotA (fMul .f32 a0 b0) [a1] [b1], ()), ()) := impl_sumOf_ok _ _ _ _ (by simp) (by simp)

theorem sum3_3 (a0 a1 a2 b0 b1 b2 : Nat) : impl_sumOf [a0, a1, a2] [b0, b1, b2] = some ((dotA (fMul .f32 a0 b0) [a1, a2] [b1, b2], ()), ()) := impl_sumOf_ok _ _ _ _ (by simp) (by simp)

theorem sum4_4 (a0 a1 a2 a3 b0 b1 b2 b3 : Nat) : impl_sumOf [a0, a1, a2, a3] [b0, b1, b2, b3] = some ((dotA (fMul .f32 a0 b0) [a1, a2, a3] [b1, b2, b3], ()), ()) := impl_sumOf_ok _ _ _ _ (by simp) (by simp)

theorem sum5_5 (a0 a1 a2 a3 a4 b0 b1 b2 b3 b4 : Nat) : impl_sumOf [a0, a1, a2, a3, a4] [b0, b1, b2, b3, b4] = some ((dotA (fMul .f32 a0 b0) [a1, a2, a3, a4] [b1, b2, b3, b4], ()), ()) := impl_sumOf_ok _ _ _ _ (by simp) (by simp)

theorem sum6_6 (a0 a1 a2 a3 a4 a5 b0 b1 b2 b3 b4 b5 : Nat) : impl_sumOf [a0, a1, a2, a3, a4, a5] [b0, b1, b2, b3, b4, b5] = some ((dotA (fMul .f32 a0 b0) [a1, a2, a3, a4, a5] [b1, b2, b3, b4, b5], ()), ()) := impl_sumOf_ok _ _ _ _ (by simp) (by simp)

theorem sum1_6 (a0 b0 b1 b2 b3 b4 b5 : Nat) : impl_sumOf [a0] [b0, b1, b2, b3, b4, b5] = some ((dotA (fMul .f32 a0 b0) [] [b1, b2, b3, b4, b5], ()), ()) := impl_sumOf_ok _ _ _ _ (by simp) (by simp)

theorem sum2_6 (a0 a1 b0 b1 b2 b3 b4 b5 : Nat) : impl_sumOf [a0, a1] [b0, b1, b2, b3, b4, b5] = some ((dotA (fMul .f32 a0 b0) [a1] [b1, b2, b3, b4, b5], ()), ()) := impl_sumOf_ok _ _ _ _ (by simp) (by simp)

theorem sum3_6 (a0 a1 a2 b0 b1 b2 b3 b4 b5 : Nat) : impl_sumOf [a0, a1, a2] [b0, b1, b2, b3, b4, b5] = some ((dotA (fMul .f32 a0 b0) [a1, a2] [b1, b2, b3, b4, b5], ()), ()) := impl_sumOf_ok _ _ _ _ (by simp) (by simp)

theorem sum4_6 (a0 a1 a2 a3 b0 b1 b2 b3 b4 b5 : Nat) : impl_sumOf [a0, a1, a2, a3] [b0, b1, b2, b3, b4, b5] = some ((dotA (fMul .f32 a0 b0) [a1, a2, a3] [b1, b2, b3, b4, b5], ()), ()) := impl_sumOf_ok _ _ _ _ (by simp) (by simp)

theorem sum5_6 (a0 a1 a2 a3 a4 b0 b1 b2 b3 b4 b5 : Nat) : impl_sumOf [a0, a1, a2, a3, a4] [b0, b1, b2, b3, b4, b5] = some ((dotA (fMul .f32 a0 b0) [a1, a2, a3, a4] [b1, b2, b3, b4, b5], ()), ()) := impl_sumOf_ok _ _ _ _ (by simp) (by simp)
end Go.Proofs.YtnndahnmlmgenaaGreat
