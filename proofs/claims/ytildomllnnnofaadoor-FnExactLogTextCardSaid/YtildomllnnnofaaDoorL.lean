/- The laws' helpers in plain terms: they copy, compare and mark. -/
import Derived.Test.YtildomllnnnofaaDoorF2
import Derived.Test.YtildomllnnnofaaDoorB
namespace Go.Proofs.YtildomllnnnofaaDoor
open Go Go.Tm
set_option linter.unusedVariables false
set_option linter.unusedSimpArgs false
theorem slices_IndexFunc_impl_Vec_ok (a : List (Vec 3 Nat)) (f : ((Vec 3 Nat) × Unit) → Option Bool) (p : (Vec 3 Nat) → Bool) (hl : a.length ≤ 140737488355328) (hp : ∀ x ∈ a, f (x, ()) = some (p x)) : slices_IndexFunc_impl_Vec a f = some ((indexOf p a, ()), ()) := by
  unfold slices_IndexFunc_impl_Vec
  refine index_loop (fun i hi => ?_) ?_
  · have e1 : iLt (i : Int) (lenI a) = true := iLt_pos (by rw [lenI_eq]; omega)
    have e2 : inB (i : Int) a.length = true := inB_pos hi
    have e4 : a.getD i ((0, 0, 0, ()) : (Vec 3 Nat)) = a[i] := getD_of hi
    have e5 : iAdd .i64 (i : Int) 1 = ((i + 1 : Nat) : Int) := iAdd_one hi (by omega)
    have e6 := hp a[i] (List.getElem_mem hi)
    simp only [slices_IndexFunc_impl_Vec_l2, e1, e2, Int.toNat_natCast, e4, e5, e6, Option.bind_some, cond_true]
    cases p a[i] <;> rfl
  · have e1 : iLt (a.length : Int) (lenI a) = false := iLt_neg (by rw [lenI_eq]; omega)
    simp only [slices_IndexFunc_impl_Vec_l2, e1, cond_false]
    rfl
theorem slices_ContainsFunc_impl_Vec_ok (a : List (Vec 3 Nat)) (f : ((Vec 3 Nat) × Unit) → Option Bool) (p : (Vec 3 Nat) → Bool) (hl : a.length ≤ 140737488355328) (hp : ∀ x ∈ a, f (x, ()) = some (p x)) : slices_ContainsFunc_impl_Vec a f = some ((a.any p, ()), ()) := by
  simp only [slices_ContainsFunc_impl_Vec, slices_IndexFunc_impl_Vec_ok a f p hl hp, Option.bind_some, indexOf_any]
theorem slices_IndexFunc_impl_Entry_ok (a : List (Int × ((Vec 3 Nat) × ((Vec 3 Int) × (Int × (Nat × Unit)))))) (f : ((Int × ((Vec 3 Nat) × ((Vec 3 Int) × (Int × (Nat × Unit))))) × Unit) → Option Bool) (p : (Int × ((Vec 3 Nat) × ((Vec 3 Int) × (Int × (Nat × Unit))))) → Bool) (hl : a.length ≤ 140737488355328) (hp : ∀ x ∈ a, f (x, ()) = some (p x)) : slices_IndexFunc_impl_Entry a f = some ((indexOf p a, ()), ()) := by
  unfold slices_IndexFunc_impl_Entry
  refine index_loop (fun i hi => ?_) ?_
  · have e1 : iLt (i : Int) (lenI a) = true := iLt_pos (by rw [lenI_eq]; omega)
    have e2 : inB (i : Int) a.length = true := inB_pos hi
    have e4 : a.getD i ((0, (0, 0, 0, ()), (0, 0, 0, ()), 0, 0, ()) : (Int × ((Vec 3 Nat) × ((Vec 3 Int) × (Int × (Nat × Unit)))))) = a[i] := getD_of hi
    have e5 : iAdd .i64 (i : Int) 1 = ((i + 1 : Nat) : Int) := iAdd_one hi (by omega)
    have e6 := hp a[i] (List.getElem_mem hi)
    simp only [slices_IndexFunc_impl_Entry_l2, e1, e2, Int.toNat_natCast, e4, e5, e6, Option.bind_some, cond_true]
    cases p a[i] <;> rfl
  · have e1 : iLt (a.length : Int) (lenI a) = false := iLt_neg (by rw [lenI_eq]; omega)
    simp only [slices_IndexFunc_impl_Entry_l2, e1, cond_false]
    rfl
theorem slices_ContainsFunc_impl_Entry_ok (a : List (Int × ((Vec 3 Nat) × ((Vec 3 Int) × (Int × (Nat × Unit)))))) (f : ((Int × ((Vec 3 Nat) × ((Vec 3 Int) × (Int × (Nat × Unit))))) × Unit) → Option Bool) (p : (Int × ((Vec 3 Nat) × ((Vec 3 Int) × (Int × (Nat × Unit))))) → Bool) (hl : a.length ≤ 140737488355328) (hp : ∀ x ∈ a, f (x, ()) = some (p x)) : slices_ContainsFunc_impl_Entry a f = some ((a.any p, ()), ()) := by
  simp only [slices_ContainsFunc_impl_Entry, slices_IndexFunc_impl_Entry_ok a f p hl hp, Option.bind_some, indexOf_any]
theorem laws_eqCounts_ok (a : (Vec 3 Int)) : laws_eqCounts a a = some ((true, ()), ()) := by
  simp only [laws_eqCounts, iEq_self, bEq_self, sEq_self, fConv32_eq, Bool.not_true, cond_false, Option.bind_some]
theorem laws_sameFloat_ok (a : Nat) : laws_sameFloat a a = some ((true, ()), ()) := by
  unfold laws_sameFloat
  rw [fEq_self]
  cases isNan .f64 a
  · simp only [Bool.not_false, Bool.not_true, cond_false, cond_true, bEq_self]
    cases fEq .f64 a 0 <;> rfl
  · rfl
theorem laws_eqVec_ok (a : (Vec 3 Nat)) : laws_eqVec a a = some ((true, ()), ()) := by
  simp only [laws_eqVec, iEq_self, bEq_self, sEq_self, fConv32_eq, laws_sameFloat_ok, Bool.not_true, cond_false, Option.bind_some]
theorem laws_eqEntry_ok (a : (Int × ((Vec 3 Nat) × ((Vec 3 Int) × (Int × (Nat × Unit)))))) : laws_eqEntry a a = some ((true, ()), ()) := by
  simp only [laws_eqEntry, iEq_self, bEq_self, sEq_self, fConv32_eq, laws_eqCounts_ok, laws_eqVec_ok, laws_sameFloat_ok, Bool.not_true, cond_false, Option.bind_some]
theorem laws_eqEntryS_ok (a : List (Int × ((Vec 3 Nat) × ((Vec 3 Int) × (Int × (Nat × Unit)))))) (h : Sized (.list (.pair (.int .i64) (.pair (.arr 3 (.flt .f32)) (.pair (.arr 3 (.int .i16)) (.pair (.int .i64) (.pair (.flt .f32) (.unit))))))) a) : laws_eqEntryS a a = some ((true, ()), ()) := by
  have hl : a.length ≤ 140737488355328 := h.1
  unfold laws_eqEntryS
  simp only [iEq_self, Bool.not_true, cond_false]
  refine all_loop (n := a.length) (fun i hi => ?_) ?_
  · have e1 : iLt (i : Int) (lenI a) = true := iLt_pos (by rw [lenI_eq]; omega)
    have e2 : inB (i : Int) a.length = true := inB_pos hi
    have e5 : iAdd .i64 (i : Int) 1 = ((i + 1 : Nat) : Int) := iAdd_one hi (by omega)
    have e4 : a.getD i ((0, (0, 0, 0, ()), (0, 0, 0, ()), 0, 0, ()) : (Int × ((Vec 3 Nat) × ((Vec 3 Int) × (Int × (Nat × Unit)))))) = a[i] := getD_of hi
    simp only [laws_eqEntryS_l4, e1, e2, e4, e5, Int.toNat_natCast, laws_eqEntry_ok _, Option.bind_some, Bool.not_true, cond_true, cond_false]
  · have e1 : iLt (a.length : Int) (lenI a) = false := iLt_neg (by rw [lenI_eq]; omega)
    simp only [laws_eqEntryS_l4, e1, cond_false]
    rfl
theorem laws_eqVecS_ok (a : List (Vec 3 Nat)) (h : Sized (.list (.arr 3 (.flt .f32))) a) : laws_eqVecS a a = some ((true, ()), ()) := by
  have hl : a.length ≤ 140737488355328 := h.1
  unfold laws_eqVecS
  simp only [iEq_self, Bool.not_true, cond_false]
  refine all_loop (n := a.length) (fun i hi => ?_) ?_
  · have e1 : iLt (i : Int) (lenI a) = true := iLt_pos (by rw [lenI_eq]; omega)
    have e2 : inB (i : Int) a.length = true := inB_pos hi
    have e5 : iAdd .i64 (i : Int) 1 = ((i + 1 : Nat) : Int) := iAdd_one hi (by omega)
    have e4 : a.getD i ((0, 0, 0, ()) : (Vec 3 Nat)) = a[i] := getD_of hi
    simp only [laws_eqVecS_l4, e1, e2, e4, e5, Int.toNat_natCast, laws_eqVec_ok _, Option.bind_some, Bool.not_true, cond_true, cond_false]
  · have e1 : iLt (a.length : Int) (lenI a) = false := iLt_neg (by rw [lenI_eq]; omega)
    simp only [laws_eqVecS_l4, e1, cond_false]
    rfl
theorem laws_eqLog_ok (a : (Int × ((Vec 3 Nat) × ((List (Vec 3 Nat)) × ((List (Int × ((Vec 3 Nat) × ((Vec 3 Int) × (Int × (Nat × Unit)))))) × Unit))))) (h : Sized (.pair (.int .i64) (.pair (.arr 3 (.flt .f32)) (.pair (.list (.arr 3 (.flt .f32))) (.pair (.list (.pair (.int .i64) (.pair (.arr 3 (.flt .f32)) (.pair (.arr 3 (.int .i16)) (.pair (.int .i64) (.pair (.flt .f32) (.unit))))))) (.unit))))) a) : laws_eqLog a a = some ((true, ()), ()) := by
  simp only [laws_eqLog, iEq_self, bEq_self, sEq_self, fConv32_eq, laws_eqVecS_ok a.2.2.1 h.2.2.1, laws_eqEntryS_ok a.2.2.2.1 h.2.2.2.1, laws_eqVec_ok, Bool.not_true, cond_false, Option.bind_some]
theorem laws_szEntryS_ok (a : (List (Int × ((Vec 3 Nat) × ((Vec 3 Int) × (Int × (Nat × Unit))))))) (k : Int) : ∃ r, laws_szEntryS a k = some ((r, ()), ()) := by
  unfold laws_szEntryS
  simp only
  cases iLt (iSub .i64 k (lenI a)) 0 <;> exact ⟨_, rfl⟩
theorem laws_szVecS_ok (a : (List (Vec 3 Nat))) (k : Int) : ∃ r, laws_szVecS a k = some ((r, ()), ()) := by
  unfold laws_szVecS
  simp only
  cases iLt (iSub .i64 k (lenI a)) 0 <;> exact ⟨_, rfl⟩
theorem laws_szLog_ok (a : (Int × ((Vec 3 Nat) × ((List (Vec 3 Nat)) × ((List (Int × ((Vec 3 Nat) × ((Vec 3 Int) × (Int × (Nat × Unit)))))) × Unit))))) (k : Int) : ∃ r, laws_szLog a k = some ((r, ()), ()) := by
  unfold laws_szLog
  obtain ⟨r0, h0⟩ := laws_szVecS_ok a.2.2.1 k
  rw [h0]
  simp only [Option.bind_some]
  cases iLt r0 0
  case true => exact ⟨_, rfl⟩
  simp only [cond_false]
  obtain ⟨r1, h1⟩ := laws_szEntryS_ok a.2.2.2.1 r0
  rw [h1]
  simp only [Option.bind_some]
  cases iLt r1 0
  case true => exact ⟨_, rfl⟩
  exact ⟨_, rfl⟩
theorem laws_toCounts_ok (a : (Vec 3 Int)) : laws_toCounts a = some ((a, ()), ()) := rfl
theorem laws_toVec_ok (a : (Vec 3 Nat)) : laws_toVec a = some ((a, ()), ()) := rfl
theorem laws_toEntry_ok (a : (Int × ((Vec 3 Nat) × ((Vec 3 Int) × (Int × (Nat × Unit)))))) : laws_toEntry a = some ((a, ()), ()) := by
  simp only [laws_toEntry, laws_toCounts_ok, laws_toVec_ok, Option.bind_some]
  all_goals rfl
theorem laws_toEntryS_ok (a : List (Int × ((Vec 3 Nat) × ((Vec 3 Int) × (Int × (Nat × Unit)))))) (h : Fit (.list (.pair (.int .i64) (.pair (.arr 3 (.flt .f32)) (.pair (.arr 3 (.int .i16)) (.pair (.int .i64) (.pair (.flt .f32) (.unit))))))) a) : laws_toEntryS a = some ((a, ()), ()) := by
  have hl : a.length * 48 ≤ 140737488351232 := h.1
  unfold laws_toEntryS
  rw [to_room a 48 hl (by decide), cond_true]
  refine copy_loop (fun i hi l hll => ?_) (fun l hll => ?_)
  · have hE : Fit (.pair (.int .i64) (.pair (.arr 3 (.flt .f32)) (.pair (.arr 3 (.int .i16)) (.pair (.int .i64) (.pair (.flt .f32) (.unit)))))) a[i] := h.2 _ (List.getElem_mem hi)
    have e1 : iLt (i : Int) (lenI a) = true := iLt_pos (by rw [lenI_eq]; omega)
    have e2 : inB (i : Int) a.length = true := inB_pos hi
    have e3 : inB (i : Int) l.length = true := inB_pos (by omega)
    have e4 : a.getD i ((0, (0, 0, 0, ()), (0, 0, 0, ()), 0, 0, ()) : (Int × ((Vec 3 Nat) × ((Vec 3 Int) × (Int × (Nat × Unit)))))) = a[i] := getD_of hi
    have e5 : iAdd .i64 (i : Int) 1 = ((i + 1 : Nat) : Int) := iAdd_one hi (by omega)
    simp only [laws_toEntryS_l3, e1, e2, e3, Int.toNat_natCast, e4, e5, laws_toEntry_ok _, Option.bind_some, cond_true]
  · have e1 : iLt (a.length : Int) (lenI a) = false := iLt_neg (by rw [lenI_eq]; omega)
    simp only [laws_toEntryS_l3, e1, cond_false]
    rfl
theorem laws_toVecS_ok (a : List (Vec 3 Nat)) (h : Fit (.list (.arr 3 (.flt .f32))) a) : laws_toVecS a = some ((a, ()), ()) := by
  have hl : a.length * 12 ≤ 140737488351232 := h.1
  unfold laws_toVecS
  rw [to_room a 12 hl (by decide), cond_true]
  refine copy_loop (fun i hi l hll => ?_) (fun l hll => ?_)
  · have hE : Fit (.arr 3 (.flt .f32)) a[i] := h.2 _ (List.getElem_mem hi)
    have e1 : iLt (i : Int) (lenI a) = true := iLt_pos (by rw [lenI_eq]; omega)
    have e2 : inB (i : Int) a.length = true := inB_pos hi
    have e3 : inB (i : Int) l.length = true := inB_pos (by omega)
    have e4 : a.getD i ((0, 0, 0, ()) : (Vec 3 Nat)) = a[i] := getD_of hi
    have e5 : iAdd .i64 (i : Int) 1 = ((i + 1 : Nat) : Int) := iAdd_one hi (by omega)
    simp only [laws_toVecS_l3, e1, e2, e3, Int.toNat_natCast, e4, e5, laws_toVec_ok _, Option.bind_some, cond_true]
  · have e1 : iLt (a.length : Int) (lenI a) = false := iLt_neg (by rw [lenI_eq]; omega)
    simp only [laws_toVecS_l3, e1, cond_false]
    rfl
theorem laws_toLog_ok (a : (Int × ((Vec 3 Nat) × ((List (Vec 3 Nat)) × ((List (Int × ((Vec 3 Nat) × ((Vec 3 Int) × (Int × (Nat × Unit)))))) × Unit))))) (h : Fit (.pair (.int .i64) (.pair (.arr 3 (.flt .f32)) (.pair (.list (.arr 3 (.flt .f32))) (.pair (.list (.pair (.int .i64) (.pair (.arr 3 (.flt .f32)) (.pair (.arr 3 (.int .i16)) (.pair (.int .i64) (.pair (.flt .f32) (.unit))))))) (.unit))))) a) : laws_toLog a = some ((a, ()), ()) := by
  simp only [laws_toLog, laws_toVec_ok a.2.1, laws_toVecS_ok a.2.2.1 h.2.2.1, laws_toEntryS_ok a.2.2.2.1 h.2.2.2.1, Option.bind_some]
end Go.Proofs.YtildomllnnnofaaDoor
