/- The laws' helpers in plain terms: they copy, compare and mark. -/
import Derived.Test.YtdmaamakckochaaGreatDoorF2
import Derived.Test.YtdmaamakckochaaGreatDoorB
namespace Go.Proofs.YtdmaamakckochaaGreatDoor
open Go Go.Tm
set_option linter.unusedVariables false
set_option linter.unusedSimpArgs false
-- slices_Compare_int32: by hand
theorem slices_Clone_uint8_ok (a : List Int) (hl : a.length * 1 ≤ 140737488355328) : slices_Clone_uint8 a = some ((a, ()), ()) := by
  have e1 : room (0 + a.length) 1 = true := room_pos (by rw [Nat.zero_add]; exact hl)
  simp only [slices_Clone_uint8, e1, cond_true, List.nil_append]
  cases a with
  | nil => exact allSame_of fun q => by cases q <;> rfl
  | cons x r => rfl
-- slices_Equal_uint8: by hand
theorem slices_IndexFunc_impl_Spot_ok (a : List (Vec 2 Int)) (f : ((Vec 2 Int) × Unit) → Option Bool) (p : (Vec 2 Int) → Bool) (hl : a.length ≤ 140737488355328) (hp : ∀ x ∈ a, f (x, ()) = some (p x)) : slices_IndexFunc_impl_Spot a f = some ((indexOf p a, ()), ()) := by
  unfold slices_IndexFunc_impl_Spot
  refine index_loop (fun i hi => ?_) ?_
  · have e1 : iLt (i : Int) (lenI a) = true := iLt_pos (by rw [lenI_eq]; omega)
    have e2 : inB (i : Int) a.length = true := inB_pos hi
    have e4 : a.getD i ((0, 0, ()) : (Vec 2 Int)) = a[i] := getD_of hi
    have e5 : iAdd .i64 (i : Int) 1 = ((i + 1 : Nat) : Int) := iAdd_one hi (by omega)
    have e6 := hp a[i] (List.getElem_mem hi)
    simp only [slices_IndexFunc_impl_Spot_l2, e1, e2, Int.toNat_natCast, e4, e5, e6, Option.bind_some, cond_true]
    cases p a[i] <;> rfl
  · have e1 : iLt (a.length : Int) (lenI a) = false := iLt_neg (by rw [lenI_eq]; omega)
    simp only [slices_IndexFunc_impl_Spot_l2, e1, cond_false]
    rfl
theorem slices_ContainsFunc_impl_Spot_ok (a : List (Vec 2 Int)) (f : ((Vec 2 Int) × Unit) → Option Bool) (p : (Vec 2 Int) → Bool) (hl : a.length ≤ 140737488355328) (hp : ∀ x ∈ a, f (x, ()) = some (p x)) : slices_ContainsFunc_impl_Spot a f = some ((a.any p, ()), ()) := by
  simp only [slices_ContainsFunc_impl_Spot, slices_IndexFunc_impl_Spot_ok a f p hl hp, Option.bind_some, indexOf_any]
end Go.Proofs.YtdmaamakckochaaGreatDoor
