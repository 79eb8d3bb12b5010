/- The laws' helpers in plain terms: they copy, compare and mark. -/
import Derived.Test.YtioniijhdkkieaaF1
import Derived.Test.YtioniijhdkkieaaB
namespace Go.Proofs.Ytioniijhdkkieaa
open Go Go.Tm
set_option linter.unusedVariables false
set_option linter.unusedSimpArgs false
theorem slices_IndexFunc_float32_ok (a : List Nat) (f : (Nat × Unit) → Option Bool) (p : Nat → Bool) (hl : a.length ≤ 140737488355328) (hp : ∀ x ∈ a, f (x, ()) = some (p x)) : slices_IndexFunc_float32 a f = some ((indexOf p a, ()), ()) := by
  unfold slices_IndexFunc_float32
  refine index_loop (fun i hi => ?_) ?_
  · have e1 : iLt (i : Int) (lenI a) = true := iLt_pos (by rw [lenI_eq]; omega)
    have e2 : inB (i : Int) a.length = true := inB_pos hi
    have e4 : a.getD i (0 : Nat) = a[i] := getD_of hi
    have e5 : iAdd .i64 (i : Int) 1 = ((i + 1 : Nat) : Int) := iAdd_one hi (by omega)
    have e6 := hp a[i] (List.getElem_mem hi)
    simp only [slices_IndexFunc_float32_l2, e1, e2, Int.toNat_natCast, e4, e5, e6, Option.bind_some, cond_true]
    cases p a[i] <;> rfl
  · have e1 : iLt (a.length : Int) (lenI a) = false := iLt_neg (by rw [lenI_eq]; omega)
    simp only [slices_IndexFunc_float32_l2, e1, cond_false]
    rfl
theorem slices_ContainsFunc_float32_ok (a : List Nat) (f : (Nat × Unit) → Option Bool) (p : Nat → Bool) (hl : a.length ≤ 140737488355328) (hp : ∀ x ∈ a, f (x, ()) = some (p x)) : slices_ContainsFunc_float32 a f = some ((a.any p, ()), ()) := by
  simp only [slices_ContainsFunc_float32, slices_IndexFunc_float32_ok a f p hl hp, Option.bind_some, indexOf_any]
theorem slices_IndexFunc_A2float32_ok (a : List (Vec 2 Nat)) (f : ((Vec 2 Nat) × Unit) → Option Bool) (p : (Vec 2 Nat) → Bool) (hl : a.length ≤ 140737488355328) (hp : ∀ x ∈ a, f (x, ()) = some (p x)) : slices_IndexFunc_A2float32 a f = some ((indexOf p a, ()), ()) := by
  unfold slices_IndexFunc_A2float32
  refine index_loop (fun i hi => ?_) ?_
  · have e1 : iLt (i : Int) (lenI a) = true := iLt_pos (by rw [lenI_eq]; omega)
    have e2 : inB (i : Int) a.length = true := inB_pos hi
    have e4 : a.getD i ((0, 0, ()) : (Vec 2 Nat)) = a[i] := getD_of hi
    have e5 : iAdd .i64 (i : Int) 1 = ((i + 1 : Nat) : Int) := iAdd_one hi (by omega)
    have e6 := hp a[i] (List.getElem_mem hi)
    simp only [slices_IndexFunc_A2float32_l2, e1, e2, Int.toNat_natCast, e4, e5, e6, Option.bind_some, cond_true]
    cases p a[i] <;> rfl
  · have e1 : iLt (a.length : Int) (lenI a) = false := iLt_neg (by rw [lenI_eq]; omega)
    simp only [slices_IndexFunc_A2float32_l2, e1, cond_false]
    rfl
theorem slices_ContainsFunc_A2float32_ok (a : List (Vec 2 Nat)) (f : ((Vec 2 Nat) × Unit) → Option Bool) (p : (Vec 2 Nat) → Bool) (hl : a.length ≤ 140737488355328) (hp : ∀ x ∈ a, f (x, ()) = some (p x)) : slices_ContainsFunc_A2float32 a f = some ((a.any p, ()), ()) := by
  simp only [slices_ContainsFunc_A2float32, slices_IndexFunc_A2float32_ok a f p hl hp, Option.bind_some, indexOf_any]
theorem laws_sameFloat_ok (a : Nat) : laws_sameFloat a a = some ((true, ()), ()) := by
  unfold laws_sameFloat
  rw [fEq_self]
  cases isNan .f64 a
  · simp only [Bool.not_false, Bool.not_true, cond_false, cond_true, bEq_self]
    cases fEq .f64 a 0 <;> rfl
  · rfl
theorem laws_eqFloat32A2_ok (a : (Vec 2 Nat)) : laws_eqFloat32A2 a a = some ((true, ()), ()) := by
  simp only [laws_eqFloat32A2, iEq_self, bEq_self, sEq_self, fConv32_eq, laws_sameFloat_ok, Bool.not_true, cond_false, Option.bind_some]
theorem laws_eqFloat32A2S_ok (a : List (Vec 2 Nat)) (h : Sized (.list (.arr 2 (.flt .f32))) a) : laws_eqFloat32A2S a a = some ((true, ()), ()) := by
  have hl : a.length ≤ 140737488355328 := h.1
  unfold laws_eqFloat32A2S
  simp only [iEq_self, Bool.not_true, cond_false]
  refine all_loop (n := a.length) (fun i hi => ?_) ?_
  · have e1 : iLt (i : Int) (lenI a) = true := iLt_pos (by rw [lenI_eq]; omega)
    have e2 : inB (i : Int) a.length = true := inB_pos hi
    have e5 : iAdd .i64 (i : Int) 1 = ((i + 1 : Nat) : Int) := iAdd_one hi (by omega)
    have e4 : a.getD i ((0, 0, ()) : (Vec 2 Nat)) = a[i] := getD_of hi
    simp only [laws_eqFloat32A2S_l4, e1, e2, e4, e5, Int.toNat_natCast, laws_eqFloat32A2_ok _, Option.bind_some, Bool.not_true, cond_true, cond_false]
  · have e1 : iLt (a.length : Int) (lenI a) = false := iLt_neg (by rw [lenI_eq]; omega)
    simp only [laws_eqFloat32A2S_l4, e1, cond_false]
    rfl
theorem laws_eqPose_ok (a : (Vec 3 Nat)) : laws_eqPose a a = some ((true, ()), ()) := by
  simp only [laws_eqPose, iEq_self, bEq_self, sEq_self, fConv32_eq, laws_sameFloat_ok, Bool.not_true, cond_false, Option.bind_some]
theorem laws_szFloat32A2S_ok (a : (List (Vec 2 Nat))) (k : Int) : ∃ r, laws_szFloat32A2S a k = some ((r, ()), ()) := by
  unfold laws_szFloat32A2S
  simp only
  cases iLt (iSub .i64 k (lenI a)) 0 <;> exact ⟨_, rfl⟩
theorem laws_toFloat32A2_ok (a : (Vec 2 Nat)) : laws_toFloat32A2 a = some ((a, ()), ()) := rfl
theorem laws_toFloat32A2S_ok (a : List (Vec 2 Nat)) (h : Fit (.list (.arr 2 (.flt .f32))) a) : laws_toFloat32A2S a = some ((a, ()), ()) := by
  have hl : a.length * 8 ≤ 140737488351232 := h.1
  unfold laws_toFloat32A2S
  rw [to_room a 8 hl (by decide), cond_true]
  refine copy_loop (fun i hi l hll => ?_) (fun l hll => ?_)
  · have hE : Fit (.arr 2 (.flt .f32)) a[i] := h.2 _ (List.getElem_mem hi)
    have e1 : iLt (i : Int) (lenI a) = true := iLt_pos (by rw [lenI_eq]; omega)
    have e2 : inB (i : Int) a.length = true := inB_pos hi
    have e3 : inB (i : Int) l.length = true := inB_pos (by omega)
    have e4 : a.getD i ((0, 0, ()) : (Vec 2 Nat)) = a[i] := getD_of hi
    have e5 : iAdd .i64 (i : Int) 1 = ((i + 1 : Nat) : Int) := iAdd_one hi (by omega)
    simp only [laws_toFloat32A2S_l3, e1, e2, e3, Int.toNat_natCast, e4, e5, laws_toFloat32A2_ok _, Option.bind_some, cond_true]
  · have e1 : iLt (a.length : Int) (lenI a) = false := iLt_neg (by rw [lenI_eq]; omega)
    simp only [laws_toFloat32A2S_l3, e1, cond_false]
    rfl
theorem laws_toPose_ok (a : (Vec 3 Nat)) : laws_toPose a = some ((a, ()), ()) := rfl
end Go.Proofs.Ytioniijhdkkieaa
