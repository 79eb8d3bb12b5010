/- The laws' helpers in plain terms: they copy, compare and mark. -/
import Derived.Test.YtildomllnnnofaaGreatDoorF1
import Derived.Test.YtildomllnnnofaaGreatDoorB
namespace Go.Proofs.YtildomllnnnofaaGreatDoor
open Go Go.Tm
set_option linter.unusedVariables false
set_option linter.unusedSimpArgs false
-- slices_EqualFunc_impl_Leg: by hand
-- slices_EqualFunc_impl_Vec: by hand
theorem slices_IndexFunc_impl_Vec_ok (a : List (Vec 3 Nat)) (f : ((Vec 3 Nat) × Unit) → Option Bool) (p : (Vec 3 Nat) → Bool) (hl : a.length ≤ 140737488355328) (hp : ∀ x ∈ a, f (x, ()) = some (p x)) : slices_IndexFunc_impl_Vec a f = some ((indexOf p a, ()), ()) := by
  unfold slices_IndexFunc_impl_Vec
  refine index_loop (fun i hi => ?_) ?_
  · have e1 : iLt (i : Int) (lenI a) = true := iLt_pos (by rw [lenI_eq]; omega)
    have e2 : inB (i : Int) a.length = true := inB_pos hi
    have e4 : a.getD i ((0, 0, 0, ()) : (Vec 3 Nat)) = a[i] := getD_of hi
    have e5 : iAdd .i64 (i : Int) 1 = ((i + 1 : Nat) : Int) := iAdd_one hi (by omega)
    have e6 := hp a[i] (List.getElem_mem hi)
    simp only [slices_IndexFunc_impl_Vec_l2, e1, e2, Int.toNat_natCast, e4, e5, e6, Option.bind_some, cond_true]
    cases p a[i] <;> rfl
  · have e1 : iLt (a.length : Int) (lenI a) = false := iLt_neg (by rw [lenI_eq]; omega)
    simp only [slices_IndexFunc_impl_Vec_l2, e1, cond_false]
    rfl
theorem slices_ContainsFunc_impl_Vec_ok (a : List (Vec 3 Nat)) (f : ((Vec 3 Nat) × Unit) → Option Bool) (p : (Vec 3 Nat) → Bool) (hl : a.length ≤ 140737488355328) (hp : ∀ x ∈ a, f (x, ()) = some (p x)) : slices_ContainsFunc_impl_Vec a f = some ((a.any p, ()), ()) := by
  simp only [slices_ContainsFunc_impl_Vec, slices_IndexFunc_impl_Vec_ok a f p hl hp, Option.bind_some, indexOf_any]
end Go.Proofs.YtildomllnnnofaaGreatDoor
