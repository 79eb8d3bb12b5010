/- The laws' helpers in plain terms: they copy, compare and mark. -/
import Derived.Test.YtnndahnmlmgenaaGreatF1
import Derived.Test.YtnndahnmlmgenaaGreatB
namespace Go.Proofs.YtnndahnmlmgenaaGreat
open Go Go.Tm
set_option linter.unusedVariables false
set_option linter.unusedSimpArgs false
theorem slices_IndexFunc_float32_ok (a : List Nat) (f : (Nat × Unit) → Option Bool) (p : Nat → Bool) (hl : a.length ≤ 140737488355328) (hp : ∀ x ∈ a, f (x, ()) = some (p x)) : slices_IndexFunc_float32 a f = some ((indexOf p a, ()), ()) := by
  unfold slices_IndexFunc_float32
  refine index_loop (fun i hi => ?_) ?_
  · have e1 : iLt (i : Int) (lenI a) = true := iLt_pos (by rw [lenI_eq]; omega)
    have e2 : inB (i : Int) a.length = true := inB_pos hi
    have e4 : a.getD i (0 : Nat) = a[i] := getD_of hi
    have e5 : iAdd .i64 (i : Int) 1 = ((i + 1 : Nat) : Int) := iAdd_one hi (by omega)
    have e6 := hp a[i] (List.getElem_mem hi)
    simp only [slices_IndexFunc_float32_l2, e1, e2, Int.toNat_natCast, e4, e5, e6, Option.bind_some, cond_true]
    cases p a[i] <;> rfl
  · have e1 : iLt (a.length : Int) (lenI a) = false := iLt_neg (by rw [lenI_eq]; omega)
    simp only [slices_IndexFunc_float32_l2, e1, cond_false]
    rfl
theorem slices_ContainsFunc_float32_ok (a : List Nat) (f : (Nat × Unit) → Option Bool) (p : Nat → Bool) (hl : a.length ≤ 140737488355328) (hp : ∀ x ∈ a, f (x, ()) = some (p x)) : slices_ContainsFunc_float32 a f = some ((a.any p, ()), ()) := by
  simp only [slices_ContainsFunc_float32, slices_IndexFunc_float32_ok a f p hl hp, Option.bind_some, indexOf_any]
theorem slices_IndexFunc_A2float32_ok (a : List (Vec 2 Nat)) (f : ((Vec 2 Nat) × Unit) → Option Bool) (p : (Vec 2 Nat) → Bool) (hl : a.length ≤ 140737488355328) (hp : ∀ x ∈ a, f (x, ()) = some (p x)) : slices_IndexFunc_A2float32 a f = some ((indexOf p a, ()), ()) := by
  unfold slices_IndexFunc_A2float32
  refine index_loop (fun i hi => ?_) ?_
  · have e1 : iLt (i : Int) (lenI a) = true := iLt_pos (by rw [lenI_eq]; omega)
    have e2 : inB (i : Int) a.length = true := inB_pos hi
    have e4 : a.getD i ((0, 0, ()) : (Vec 2 Nat)) = a[i] := getD_of hi
    have e5 : iAdd .i64 (i : Int) 1 = ((i + 1 : Nat) : Int) := iAdd_one hi (by omega)
    have e6 := hp a[i] (List.getElem_mem hi)
    simp only [slices_IndexFunc_A2float32_l2, e1, e2, Int.toNat_natCast, e4, e5, e6, Option.bind_some, cond_true]
    cases p a[i] <;> rfl
  · have e1 : iLt (a.length : Int) (lenI a) = false := iLt_neg (by rw [lenI_eq]; omega)
    simp only [slices_IndexFunc_A2float32_l2, e1, cond_false]
    rfl
theorem slices_ContainsFunc_A2float32_ok (a : List (Vec 2 Nat)) (f : ((Vec 2 Nat) × Unit) → Option Bool) (p : (Vec 2 Nat) → Bool) (hl : a.length ≤ 140737488355328) (hp : ∀ x ∈ a, f (x, ()) = some (p x)) : slices_ContainsFunc_A2float32 a f = some ((a.any p, ()), ()) := by
  simp only [slices_ContainsFunc_A2float32, slices_IndexFunc_A2float32_ok a f p hl hp, Option.bind_some, indexOf_any]
end Go.Proofs.YtnndahnmlmgenaaGreat
