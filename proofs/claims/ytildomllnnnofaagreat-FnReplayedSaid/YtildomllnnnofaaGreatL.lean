import Derived.Test.YtildomllnnnofaaGreatF4
import Derived.Test.YtildomllnnnofaaGreatB
import Derived.Lib.ParseIntBTie
/- The laws' helpers in plain terms: they copy, compare and mark. -/
namespace Go.Proofs.YtildomllnnnofaaGreat
open Go Go.Tm
set_option linter.unusedVariables false
set_option linter.unusedSimpArgs false
theorem qfp (a : List (Vec 3 Nat)) (f : Dq14 → Option Bool) (p : (Vec 3 Nat) → Bool) (hl : a.length ≤ 140737488355328) (hp : ∀ x ∈ a, f (x, ()) = some (p x)) : slices_IndexFunc_impl_Vec a f = some ((indexOf p a, ()), ()) := by
  unfold slices_IndexFunc_impl_Vec
  refine qgq (fun i hi => ?_) ?_
  · have e1 : iLt (i : Int) (lenI a) = true := qah (by rw [qaa]; omega)
    have e2 : inB (i : Int) a.length = true := qaf hi
    have e4 : a.getD i ((0, 0, 0, ()) : (Vec 3 Nat)) = a[i] := qau hi
    have e5 : iAdd .i64 (i : Int) 1 = ((i + 1 : Nat) : Int) := qap hi (by omega)
    have e6 := hp a[i] (List.getElem_mem hi)
    simp only [slices_IndexFunc_impl_Vec_l2, e1, e2, Int.toNat_natCast, e4, e5, e6, Option.bind_some, cond_true]
    cases p a[i] <;> rfl
  · have e1 : iLt (a.length : Int) (lenI a) = false := qag (by rw [qaa]; omega)
    simp only [slices_IndexFunc_impl_Vec_l2, e1, cond_false]
    rfl
theorem qep (a : List (Vec 3 Nat)) (f : Dq14 → Option Bool) (p : (Vec 3 Nat) → Bool) (hl : a.length ≤ 140737488355328) (hp : ∀ x ∈ a, f (x, ()) = some (p x)) : slices_ContainsFunc_impl_Vec a f = some ((a.any p, ()), ()) := by
  simp only [slices_ContainsFunc_impl_Vec, qfp a f p hl hp, Option.bind_some, qdx]
theorem qey (a : List Dq5) (f : (Dq5 × Unit) → Option Bool) (p : Dq5 → Bool) (hl : a.length ≤ 140737488355328) (hp : ∀ x ∈ a, f (x, ()) = some (p x)) : slices_IndexFunc_impl_Entry a f = some ((indexOf p a, ()), ()) := by
  unfold slices_IndexFunc_impl_Entry
  refine qgq (fun i hi => ?_) ?_
  · have e1 : iLt (i : Int) (lenI a) = true := qah (by rw [qaa]; omega)
    have e2 : inB (i : Int) a.length = true := qaf hi
    have e4 : a.getD i ((0, (0, 0, 0, ()), (0, 0, 0, ()), 0, 0, ()) : Dq5) = a[i] := qau hi
    have e5 : iAdd .i64 (i : Int) 1 = ((i + 1 : Nat) : Int) := qap hi (by omega)
    have e6 := hp a[i] (List.getElem_mem hi)
    simp only [slices_IndexFunc_impl_Entry_l2, e1, e2, Int.toNat_natCast, e4, e5, e6, Option.bind_some, cond_true]
    cases p a[i] <;> rfl
  · have e1 : iLt (a.length : Int) (lenI a) = false := qag (by rw [qaa]; omega)
    simp only [slices_IndexFunc_impl_Entry_l2, e1, cond_false]
    rfl
theorem qdv (a : List Dq5) (f : (Dq5 × Unit) → Option Bool) (p : Dq5 → Bool) (hl : a.length ≤ 140737488355328) (hp : ∀ x ∈ a, f (x, ()) = some (p x)) : slices_ContainsFunc_impl_Entry a f = some ((a.any p, ()), ()) := by
  simp only [slices_ContainsFunc_impl_Entry, qey a f p hl hp, Option.bind_some, qdx]
theorem qfz (a : List Nat) (f : (Nat × Unit) → Option Bool) (p : Nat → Bool) (hl : a.length ≤ 140737488355328) (hp : ∀ x ∈ a, f (x, ()) = some (p x)) : slices_IndexFunc_float32 a f = some ((indexOf p a, ()), ()) := by
  unfold slices_IndexFunc_float32
  refine qgq (fun i hi => ?_) ?_
  · have e1 : iLt (i : Int) (lenI a) = true := qah (by rw [qaa]; omega)
    have e2 : inB (i : Int) a.length = true := qaf hi
    have e4 : a.getD i (0 : Nat) = a[i] := qau hi
    have e5 : iAdd .i64 (i : Int) 1 = ((i + 1 : Nat) : Int) := qap hi (by omega)
    have e6 := hp a[i] (List.getElem_mem hi)
    simp only [slices_IndexFunc_float32_l2, e1, e2, Int.toNat_natCast, e4, e5, e6, Option.bind_some, cond_true]
    cases p a[i] <;> rfl
  · have e1 : iLt (a.length : Int) (lenI a) = false := qag (by rw [qaa]; omega)
    simp only [slices_IndexFunc_float32_l2, e1, cond_false]
    rfl
theorem qcb (a : List Nat) (f : (Nat × Unit) → Option Bool) (p : Nat → Bool) (hl : a.length ≤ 140737488355328) (hp : ∀ x ∈ a, f (x, ()) = some (p x)) : slices_ContainsFunc_float32 a f = some ((a.any p, ()), ()) := by
  simp only [slices_ContainsFunc_float32, qfz a f p hl hp, Option.bind_some, qdx]
theorem qe5 (a : List Dq6) (f : (Dq6 × Unit) → Option Bool) (p : Dq6 → Bool) (hl : a.length ≤ 140737488355328) (hp : ∀ x ∈ a, f (x, ()) = some (p x)) : slices_IndexFunc_impl_Clue a f = some ((indexOf p a, ()), ()) := by
  unfold slices_IndexFunc_impl_Clue
  refine qgq (fun i hi => ?_) ?_
  · have e1 : iLt (i : Int) (lenI a) = true := qah (by rw [qaa]; omega)
    have e2 : inB (i : Int) a.length = true := qaf hi
    have e4 : a.getD i (((0, 0, 0, 0, 0, 0, ()), 0, 0, ()) : Dq6) = a[i] := qau hi
    have e5 : iAdd .i64 (i : Int) 1 = ((i + 1 : Nat) : Int) := qap hi (by omega)
    have e6 := hp a[i] (List.getElem_mem hi)
    simp only [slices_IndexFunc_impl_Clue_l2, e1, e2, Int.toNat_natCast, e4, e5, e6, Option.bind_some, cond_true]
    cases p a[i] <;> rfl
  · have e1 : iLt (a.length : Int) (lenI a) = false := qag (by rw [qaa]; omega)
    simp only [slices_IndexFunc_impl_Clue_l2, e1, cond_false]
    rfl
theorem qd5 (a : List Dq6) (f : (Dq6 × Unit) → Option Bool) (p : Dq6 → Bool) (hl : a.length ≤ 140737488355328) (hp : ∀ x ∈ a, f (x, ()) = some (p x)) : slices_ContainsFunc_impl_Clue a f = some ((a.any p, ()), ()) := by
  simp only [slices_ContainsFunc_impl_Clue, qe5 a f p hl hp, Option.bind_some, qdx]
end Go.Proofs.YtildomllnnnofaaGreat
