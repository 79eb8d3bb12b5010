/- The laws' helpers in plain terms: they copy, compare and mark. -/
import Derived.Test.YtioniijhdkkieaaF4
import Derived.Test.YtioniijhdkkieaaB
namespace Go.Proofs.Ytioniijhdkkieaa
open Go Go.Tm
set_option linter.unusedVariables false
set_option linter.unusedSimpArgs false
-- slices_Repeat_int64: by hand
theorem slices_IndexFunc_impl_Spot_ok (a : List (Vec 2 Int)) (f : ((Vec 2 Int) × Unit) → Option Bool) (p : (Vec 2 Int) → Bool) (hl : a.length ≤ 140737488355328) (hp : ∀ x ∈ a, f (x, ()) = some (p x)) : slices_IndexFunc_impl_Spot a f = some ((indexOf p a, ()), ()) := by
  unfold slices_IndexFunc_impl_Spot
  refine index_loop (fun i hi => ?_) ?_
  · have e1 : iLt (i : Int) (lenI a) = true := iLt_pos (by rw [lenI_eq]; omega)
    have e2 : inB (i : Int) a.length = true := inB_pos hi
    have e4 : a.getD i ((0, 0, ()) : (Vec 2 Int)) = a[i] := getD_of hi
    have e5 : iAdd .i64 (i : Int) 1 = ((i + 1 : Nat) : Int) := iAdd_one hi (by omega)
    have e6 := hp a[i] (List.getElem_mem hi)
    simp only [slices_IndexFunc_impl_Spot_l2, e1, e2, Int.toNat_natCast, e4, e5, e6, Option.bind_some, cond_true]
    cases p a[i] <;> rfl
  · have e1 : iLt (a.length : Int) (lenI a) = false := iLt_neg (by rw [lenI_eq]; omega)
    simp only [slices_IndexFunc_impl_Spot_l2, e1, cond_false]
    rfl
theorem slices_ContainsFunc_impl_Spot_ok (a : List (Vec 2 Int)) (f : ((Vec 2 Int) × Unit) → Option Bool) (p : (Vec 2 Int) → Bool) (hl : a.length ≤ 140737488355328) (hp : ∀ x ∈ a, f (x, ()) = some (p x)) : slices_ContainsFunc_impl_Spot a f = some ((a.any p, ()), ()) := by
  simp only [slices_ContainsFunc_impl_Spot, slices_IndexFunc_impl_Spot_ok a f p hl hp, Option.bind_some, indexOf_any]
theorem laws_eqByteS_ok (a : List Int) (h : Sized (.list (.int .u8)) a) : laws_eqByteS a a = some ((true, ()), ()) := by
  have hl : a.length ≤ 140737488355328 := h.1
  unfold laws_eqByteS
  simp only [iEq_self, Bool.not_true, cond_false]
  refine all_loop (n := a.length) (fun i hi => ?_) ?_
  · have e1 : iLt (i : Int) (lenI a) = true := iLt_pos (by rw [lenI_eq]; omega)
    have e2 : inB (i : Int) a.length = true := inB_pos hi
    have e5 : iAdd .i64 (i : Int) 1 = ((i + 1 : Nat) : Int) := iAdd_one hi (by omega)
    have e4 : a.getD i (0 : Int) = a[i] := getD_of hi
    simp only [laws_eqByteS_l4, e1, e2, e4, e5, Int.toNat_natCast, iEq_self, bEq_self, sEq_self, Bool.not_true, cond_true, cond_false]
  · have e1 : iLt (a.length : Int) (lenI a) = false := iLt_neg (by rw [lenI_eq]; omega)
    simp only [laws_eqByteS_l4, e1, cond_false]
    rfl
theorem laws_eqGrid_ok (a : (Int × (Int × ((List Int) × Unit)))) (h : Sized (.pair (.int .i64) (.pair (.int .i64) (.pair (.list (.int .u8)) (.unit)))) a) : laws_eqGrid a a = some ((true, ()), ()) := by
  simp only [laws_eqGrid, iEq_self, bEq_self, sEq_self, fConv32_eq, laws_eqByteS_ok a.2.2.1 h.2.2.1, Bool.not_true, cond_false, Option.bind_some]
theorem laws_eqInt64S_ok (a : List Int) (h : Sized (.list (.int .i64)) a) : laws_eqInt64S a a = some ((true, ()), ()) := by
  have hl : a.length ≤ 140737488355328 := h.1
  unfold laws_eqInt64S
  simp only [iEq_self, Bool.not_true, cond_false]
  refine all_loop (n := a.length) (fun i hi => ?_) ?_
  · have e1 : iLt (i : Int) (lenI a) = true := iLt_pos (by rw [lenI_eq]; omega)
    have e2 : inB (i : Int) a.length = true := inB_pos hi
    have e5 : iAdd .i64 (i : Int) 1 = ((i + 1 : Nat) : Int) := iAdd_one hi (by omega)
    have e4 : a.getD i (0 : Int) = a[i] := getD_of hi
    simp only [laws_eqInt64S_l4, e1, e2, e4, e5, Int.toNat_natCast, iEq_self, bEq_self, sEq_self, Bool.not_true, cond_true, cond_false]
  · have e1 : iLt (a.length : Int) (lenI a) = false := iLt_neg (by rw [lenI_eq]; omega)
    simp only [laws_eqInt64S_l4, e1, cond_false]
    rfl
def laws_markByteS_mk (n : Int) (_ : Int) : Int × Int := (iAdd .i64 n 1, iWrap .u8 n)
theorem laws_markByteS_ok (a : List Int) (n : Int) (hl : a.length ≤ 140737488355328) : laws_markByteS a n = some (((markL laws_markByteS_mk n a).1, ()), ((markL laws_markByteS_mk n a).2, ())) := by
  unfold laws_markByteS
  refine mark_loop (fun i l hi n hll => ?_) (fun l n hll => ?_) n
  · have e1 : iLt (i : Int) (lenI l) = true := iLt_pos (by rw [lenI_eq]; omega)
    have e2 : inB (i : Int) l.length = true := inB_pos hi
    have e5 : iAdd .i64 (i : Int) 1 = ((i + 1 : Nat) : Int) := iAdd_one hi (by omega)
    have e6 : ∀ v, (l.set i v).getD i (0 : Int) = v := fun v => getD_set_self hi
    simp only [laws_markByteS_l2, e1, e2, e5, e6, List.length_set, List.set_set, Int.toNat_natCast, cond_true]
    rfl
  · have e1 : iLt (l.length : Int) (lenI l) = false := iLt_neg (by rw [lenI_eq]; omega)
    simp only [laws_markByteS_l2, e1, cond_false]
    rfl
theorem laws_markByteS_n (a : List Int) (hl : a.length ≤ 140737488355328) (n : Int) (h0 : 0 ≤ n) (h1 : n ≤ 1000000000000000000) : (markL laws_markByteS_mk n a).1 = n + 1 * a.length := by
  refine markL_count (k := 1) (fun n x h0 hn => ?_) a n h0 (by omega)
  simp only [laws_markByteS_mk]
  rw [iAdd_eq (a := n) (b := 1) (by omega) (by omega)]
  omega
theorem laws_markByteS_exm (a : List Int) (h : Sized (.list (.int .u8)) a) (n : Int) (h0 : 0 ≤ n) (h1 : n ≤ 999859262511644672) : ∃ (m : Int) (l : List Int), laws_markByteS a n = some ((m, ()), (l, ())) ∧ n ≤ m ∧ m ≤ n + 140737488355328 := by
  have hl : a.length ≤ 140737488355328 := h.1
  have e := laws_markByteS_n a hl n h0 (by omega)
  exact ⟨_, _, laws_markByteS_ok a n hl, by rw [e]; omega, by rw [e]; omega⟩
theorem laws_markGrid_exm (a : (Int × (Int × ((List Int) × Unit)))) (h : Sized (.pair (.int .i64) (.pair (.int .i64) (.pair (.list (.int .u8)) (.unit)))) a) (n : Int) (h0 : 0 ≤ n) (h1 : n ≤ 999859262511644672) : ∃ (m : Int) (l2 : (List Int)), laws_markGrid a n = some ((m, ()), ((a.1, a.2.1, l2, a.2.2.2), ())) ∧ n ≤ m ∧ m ≤ n + 140737488355328 := by
  obtain ⟨m2, l2, e2, b2, c2⟩ := laws_markByteS_exm a.2.2.1 h.2.2.1 n (by omega) (by omega)
  refine ⟨m2, l2, ?_, by omega, by omega⟩
  simp only [laws_markGrid, e2, Option.bind_some]
def laws_markInt64S_mk (n : Int) (_ : Int) : Int × Int := (iAdd .i64 n 1, n)
theorem laws_markInt64S_ok (a : List Int) (n : Int) (hl : a.length ≤ 140737488355328) : laws_markInt64S a n = some (((markL laws_markInt64S_mk n a).1, ()), ((markL laws_markInt64S_mk n a).2, ())) := by
  unfold laws_markInt64S
  refine mark_loop (fun i l hi n hll => ?_) (fun l n hll => ?_) n
  · have e1 : iLt (i : Int) (lenI l) = true := iLt_pos (by rw [lenI_eq]; omega)
    have e2 : inB (i : Int) l.length = true := inB_pos hi
    have e5 : iAdd .i64 (i : Int) 1 = ((i + 1 : Nat) : Int) := iAdd_one hi (by omega)
    have e6 : ∀ v, (l.set i v).getD i (0 : Int) = v := fun v => getD_set_self hi
    simp only [laws_markInt64S_l2, e1, e2, e5, e6, List.length_set, List.set_set, Int.toNat_natCast, cond_true]
    rfl
  · have e1 : iLt (l.length : Int) (lenI l) = false := iLt_neg (by rw [lenI_eq]; omega)
    simp only [laws_markInt64S_l2, e1, cond_false]
    rfl
theorem laws_markInt64S_n (a : List Int) (hl : a.length ≤ 140737488355328) (n : Int) (h0 : 0 ≤ n) (h1 : n ≤ 1000000000000000000) : (markL laws_markInt64S_mk n a).1 = n + 1 * a.length := by
  refine markL_count (k := 1) (fun n x h0 hn => ?_) a n h0 (by omega)
  simp only [laws_markInt64S_mk]
  rw [iAdd_eq (a := n) (b := 1) (by omega) (by omega)]
  omega
theorem laws_markInt64S_exm (a : List Int) (h : Sized (.list (.int .i64)) a) (n : Int) (h0 : 0 ≤ n) (h1 : n ≤ 999859262511644672) : ∃ (m : Int) (l : List Int), laws_markInt64S a n = some ((m, ()), (l, ())) ∧ n ≤ m ∧ m ≤ n + 140737488355328 := by
  have hl : a.length ≤ 140737488355328 := h.1
  have e := laws_markInt64S_n a hl n h0 (by omega)
  exact ⟨_, _, laws_markInt64S_ok a n hl, by rw [e]; omega, by rw [e]; omega⟩
theorem laws_szByteS_ok (a : (List Int)) (k : Int) : ∃ r, laws_szByteS a k = some ((r, ()), ()) := by
  unfold laws_szByteS
  simp only
  cases iLt (iSub .i64 k (lenI a)) 0 <;> exact ⟨_, rfl⟩
theorem laws_szGrid_ok (a : (Int × (Int × ((List Int) × Unit)))) (k : Int) : ∃ r, laws_szGrid a k = some ((r, ()), ()) := by
  unfold laws_szGrid
  obtain ⟨r0, h0⟩ := laws_szByteS_ok a.2.2.1 k
  rw [h0]
  simp only [Option.bind_some]
  cases iLt r0 0
  case true => exact ⟨_, rfl⟩
  exact ⟨_, rfl⟩
theorem laws_toByteS_ok (a : List Int) (h : Fit (.list (.int .u8)) a) : laws_toByteS a = some ((a, ()), ()) := by
  have hl : a.length * 1 ≤ 140737488351232 := h.1
  unfold laws_toByteS
  rw [to_room a 1 hl (by decide), cond_true]
  refine copy_loop (fun i hi l hll => ?_) (fun l hll => ?_)
  · have hE : Fit (.int .u8) a[i] := h.2 _ (List.getElem_mem hi)
    have e1 : iLt (i : Int) (lenI a) = true := iLt_pos (by rw [lenI_eq]; omega)
    have e2 : inB (i : Int) a.length = true := inB_pos hi
    have e3 : inB (i : Int) l.length = true := inB_pos (by omega)
    have e4 : a.getD i (0 : Int) = a[i] := getD_of hi
    have e5 : iAdd .i64 (i : Int) 1 = ((i + 1 : Nat) : Int) := iAdd_one hi (by omega)
    simp only [laws_toByteS_l3, e1, e2, e3, Int.toNat_natCast, e4, e5, Option.bind_some, cond_true]
  · have e1 : iLt (a.length : Int) (lenI a) = false := iLt_neg (by rw [lenI_eq]; omega)
    simp only [laws_toByteS_l3, e1, cond_false]
    rfl
theorem laws_toGrid_ok (a : (Int × (Int × ((List Int) × Unit)))) (h : Fit (.pair (.int .i64) (.pair (.int .i64) (.pair (.list (.int .u8)) (.unit)))) a) : laws_toGrid a = some ((a, ()), ()) := by
  simp only [laws_toGrid, laws_toByteS_ok a.2.2.1 h.2.2.1, Option.bind_some]
theorem laws_toSpot_ok (a : (Vec 2 Int)) : laws_toSpot a = some ((a, ()), ()) := rfl
theorem laws_eqSpot_ok (a : (Vec 2 Int)) : laws_eqSpot a a = some ((true, ()), ()) := by
  simp only [laws_eqSpot, iEq_self, bEq_self, sEq_self, fConv32_eq, Bool.not_true, cond_false, Option.bind_some]
theorem laws_eqSpotS_ok (a : List (Vec 2 Int)) (h : Sized (.list (.arr 2 (.int .i16))) a) : laws_eqSpotS a a = some ((true, ()), ()) := by
  have hl : a.length ≤ 140737488355328 := h.1
  unfold laws_eqSpotS
  simp only [iEq_self, Bool.not_true, cond_false]
  refine all_loop (n := a.length) (fun i hi => ?_) ?_
  · have e1 : iLt (i : Int) (lenI a) = true := iLt_pos (by rw [lenI_eq]; omega)
    have e2 : inB (i : Int) a.length = true := inB_pos hi
    have e5 : iAdd .i64 (i : Int) 1 = ((i + 1 : Nat) : Int) := iAdd_one hi (by omega)
    have e4 : a.getD i ((0, 0, ()) : (Vec 2 Int)) = a[i] := getD_of hi
    simp only [laws_eqSpotS_l4, e1, e2, e4, e5, Int.toNat_natCast, laws_eqSpot_ok _, Option.bind_some, Bool.not_true, cond_true, cond_false]
  · have e1 : iLt (a.length : Int) (lenI a) = false := iLt_neg (by rw [lenI_eq]; omega)
    simp only [laws_eqSpotS_l4, e1, cond_false]
    rfl
def laws_markSpotS_mk (n : Int) (_ : (Vec 2 Int)) : Int × (Vec 2 Int) := (iAdd .i64 (iAdd .i64 n 1) 1, (iWrap .i16 n, iWrap .i16 (iAdd .i64 n 1), ()))
theorem laws_markSpotS_ok (a : List (Vec 2 Int)) (n : Int) (hl : a.length ≤ 140737488355328) : laws_markSpotS a n = some (((markL laws_markSpotS_mk n a).1, ()), ((markL laws_markSpotS_mk n a).2, ())) := by
  unfold laws_markSpotS
  refine mark_loop (fun i l hi n hll => ?_) (fun l n hll => ?_) n
  · have e1 : iLt (i : Int) (lenI l) = true := iLt_pos (by rw [lenI_eq]; omega)
    have e2 : inB (i : Int) l.length = true := inB_pos hi
    have e5 : iAdd .i64 (i : Int) 1 = ((i + 1 : Nat) : Int) := iAdd_one hi (by omega)
    have e6 : ∀ v, (l.set i v).getD i ((0, 0, ()) : (Vec 2 Int)) = v := fun v => getD_set_self hi
    simp only [laws_markSpotS_l2, e1, e2, e5, e6, List.length_set, List.set_set, Int.toNat_natCast, cond_true]
    rfl
  · have e1 : iLt (l.length : Int) (lenI l) = false := iLt_neg (by rw [lenI_eq]; omega)
    simp only [laws_markSpotS_l2, e1, cond_false]
    rfl
theorem laws_markSpotS_n (a : List (Vec 2 Int)) (hl : a.length ≤ 140737488355328) (n : Int) (h0 : 0 ≤ n) (h1 : n ≤ 1000000000000000000) : (markL laws_markSpotS_mk n a).1 = n + 2 * a.length := by
  refine markL_count (k := 2) (fun n x h0 hn => ?_) a n h0 (by omega)
  simp only [laws_markSpotS_mk]
  rw [iAdd_eq (a := n) (b := 1) (by omega) (by omega), iAdd_eq (a := n + 1) (b := 1) (by omega) (by omega)]
  omega
theorem laws_markSpotS_exm (a : List (Vec 2 Int)) (h : Sized (.list (.arr 2 (.int .i16))) a) (n : Int) (h0 : 0 ≤ n) (h1 : n ≤ 999718525023289344) : ∃ (m : Int) (l : List (Vec 2 Int)), laws_markSpotS a n = some ((m, ()), (l, ())) ∧ n ≤ m ∧ m ≤ n + 281474976710656 := by
  have hl : a.length ≤ 140737488355328 := h.1
  have e := laws_markSpotS_n a hl n h0 (by omega)
  exact ⟨_, _, laws_markSpotS_ok a n hl, by rw [e]; omega, by rw [e]; omega⟩
theorem laws_szSpotS_ok (a : (List (Vec 2 Int))) (k : Int) : ∃ r, laws_szSpotS a k = some ((r, ()), ()) := by
  unfold laws_szSpotS
  simp only
  cases iLt (iSub .i64 k (lenI a)) 0 <;> exact ⟨_, rfl⟩
theorem laws_toSpotS_ok (a : List (Vec 2 Int)) (h : Fit (.list (.arr 2 (.int .i16))) a) : laws_toSpotS a = some ((a, ()), ()) := by
  have hl : a.length * 4 ≤ 140737488351232 := h.1
  unfold laws_toSpotS
  rw [to_room a 4 hl (by decide), cond_true]
  refine copy_loop (fun i hi l hll => ?_) (fun l hll => ?_)
  · have hE : Fit (.arr 2 (.int .i16)) a[i] := h.2 _ (List.getElem_mem hi)
    have e1 : iLt (i : Int) (lenI a) = true := iLt_pos (by rw [lenI_eq]; omega)
    have e2 : inB (i : Int) a.length = true := inB_pos hi
    have e3 : inB (i : Int) l.length = true := inB_pos (by omega)
    have e4 : a.getD i ((0, 0, ()) : (Vec 2 Int)) = a[i] := getD_of hi
    have e5 : iAdd .i64 (i : Int) 1 = ((i + 1 : Nat) : Int) := iAdd_one hi (by omega)
    simp only [laws_toSpotS_l3, e1, e2, e3, Int.toNat_natCast, e4, e5, laws_toSpot_ok _, Option.bind_some, cond_true]
  · have e1 : iLt (a.length : Int) (lenI a) = false := iLt_neg (by rw [lenI_eq]; omega)
    simp only [laws_toSpotS_l3, e1, cond_false]
    rfl
theorem slices_IndexFunc_impl_Vec_ok (a : List (Vec 3 Nat)) (f : ((Vec 3 Nat) × Unit) → Option Bool) (p : (Vec 3 Nat) → Bool) (hl : a.length ≤ 140737488355328) (hp : ∀ x ∈ a, f (x, ()) = some (p x)) : slices_IndexFunc_impl_Vec a f = some ((indexOf p a, ()), ()) := by
  unfold slices_IndexFunc_impl_Vec
  refine index_loop (fun i hi => ?_) ?_
  · have e1 : iLt (i : Int) (lenI a) = true := iLt_pos (by rw [lenI_eq]; omega)
    have e2 : inB (i : Int) a.length = true := inB_pos hi
    have e4 : a.getD i ((0, 0, 0, ()) : (Vec 3 Nat)) = a[i] := getD_of hi
    have e5 : iAdd .i64 (i : Int) 1 = ((i + 1 : Nat) : Int) := iAdd_one hi (by omega)
    have e6 := hp a[i] (List.getElem_mem hi)
    simp only [slices_IndexFunc_impl_Vec_l2, e1, e2, Int.toNat_natCast, e4, e5, e6, Option.bind_some, cond_true]
    cases p a[i] <;> rfl
  · have e1 : iLt (a.length : Int) (lenI a) = false := iLt_neg (by rw [lenI_eq]; omega)
    simp only [slices_IndexFunc_impl_Vec_l2, e1, cond_false]
    rfl
theorem slices_ContainsFunc_impl_Vec_ok (a : List (Vec 3 Nat)) (f : ((Vec 3 Nat) × Unit) → Option Bool) (p : (Vec 3 Nat) → Bool) (hl : a.length ≤ 140737488355328) (hp : ∀ x ∈ a, f (x, ()) = some (p x)) : slices_ContainsFunc_impl_Vec a f = some ((a.any p, ()), ()) := by
  simp only [slices_ContainsFunc_impl_Vec, slices_IndexFunc_impl_Vec_ok a f p hl hp, Option.bind_some, indexOf_any]
theorem slices_IndexFunc_impl_Entry_ok (a : List (Int × ((Vec 3 Nat) × ((Vec 3 Int) × (Int × (Nat × Unit)))))) (f : ((Int × ((Vec 3 Nat) × ((Vec 3 Int) × (Int × (Nat × Unit))))) × Unit) → Option Bool) (p : (Int × ((Vec 3 Nat) × ((Vec 3 Int) × (Int × (Nat × Unit))))) → Bool) (hl : a.length ≤ 140737488355328) (hp : ∀ x ∈ a, f (x, ()) = some (p x)) : slices_IndexFunc_impl_Entry a f = some ((indexOf p a, ()), ()) := by
  unfold slices_IndexFunc_impl_Entry
  refine index_loop (fun i hi => ?_) ?_
  · have e1 : iLt (i : Int) (lenI a) = true := iLt_pos (by rw [lenI_eq]; omega)
    have e2 : inB (i : Int) a.length = true := inB_pos hi
    have e4 : a.getD i ((0, (0, 0, 0, ()), (0, 0, 0, ()), 0, 0, ()) : (Int × ((Vec 3 Nat) × ((Vec 3 Int) × (Int × (Nat × Unit)))))) = a[i] := getD_of hi
    have e5 : iAdd .i64 (i : Int) 1 = ((i + 1 : Nat) : Int) := iAdd_one hi (by omega)
    have e6 := hp a[i] (List.getElem_mem hi)
    simp only [slices_IndexFunc_impl_Entry_l2, e1, e2, Int.toNat_natCast, e4, e5, e6, Option.bind_some, cond_true]
    cases p a[i] <;> rfl
  · have e1 : iLt (a.length : Int) (lenI a) = false := iLt_neg (by rw [lenI_eq]; omega)
    simp only [slices_IndexFunc_impl_Entry_l2, e1, cond_false]
    rfl
theorem slices_ContainsFunc_impl_Entry_ok (a : List (Int × ((Vec 3 Nat) × ((Vec 3 Int) × (Int × (Nat × Unit)))))) (f : ((Int × ((Vec 3 Nat) × ((Vec 3 Int) × (Int × (Nat × Unit))))) × Unit) → Option Bool) (p : (Int × ((Vec 3 Nat) × ((Vec 3 Int) × (Int × (Nat × Unit))))) → Bool) (hl : a.length ≤ 140737488355328) (hp : ∀ x ∈ a, f (x, ()) = some (p x)) : slices_ContainsFunc_impl_Entry a f = some ((a.any p, ()), ()) := by
  simp only [slices_ContainsFunc_impl_Entry, slices_IndexFunc_impl_Entry_ok a f p hl hp, Option.bind_some, indexOf_any]
theorem laws_eqCounts_ok (a : (Vec 3 Int)) : laws_eqCounts a a = some ((true, ()), ()) := by
  simp only [laws_eqCounts, iEq_self, bEq_self, sEq_self, fConv32_eq, Bool.not_true, cond_false, Option.bind_some]
theorem laws_sameFloat_ok (a : Nat) : laws_sameFloat a a = some ((true, ()), ()) := by
  unfold laws_sameFloat
  rw [fEq_self]
  cases isNan .f64 a
  · simp only [Bool.not_false, Bool.not_true, cond_false, cond_true, bEq_self]
    cases fEq .f64 a 0 <;> rfl
  · rfl
theorem laws_eqVec_ok (a : (Vec 3 Nat)) : laws_eqVec a a = some ((true, ()), ()) := by
  simp only [laws_eqVec, iEq_self, bEq_self, sEq_self, fConv32_eq, laws_sameFloat_ok, Bool.not_true, cond_false, Option.bind_some]
theorem laws_eqEntry_ok (a : (Int × ((Vec 3 Nat) × ((Vec 3 Int) × (Int × (Nat × Unit)))))) : laws_eqEntry a a = some ((true, ()), ()) := by
  simp only [laws_eqEntry, iEq_self, bEq_self, sEq_self, fConv32_eq, laws_eqCounts_ok, laws_eqVec_ok, laws_sameFloat_ok, Bool.not_true, cond_false, Option.bind_some]
theorem laws_eqEntryS_ok (a : List (Int × ((Vec 3 Nat) × ((Vec 3 Int) × (Int × (Nat × Unit)))))) (h : Sized (.list (.pair (.int .i64) (.pair (.arr 3 (.flt .f32)) (.pair (.arr 3 (.int .i16)) (.pair (.int .i64) (.pair (.flt .f32) (.unit))))))) a) : laws_eqEntryS a a = some ((true, ()), ()) := by
  have hl : a.length ≤ 140737488355328 := h.1
  unfold laws_eqEntryS
  simp only [iEq_self, Bool.not_true, cond_false]
  refine all_loop (n := a.length) (fun i hi => ?_) ?_
  · have e1 : iLt (i : Int) (lenI a) = true := iLt_pos (by rw [lenI_eq]; omega)
    have e2 : inB (i : Int) a.length = true := inB_pos hi
    have e5 : iAdd .i64 (i : Int) 1 = ((i + 1 : Nat) : Int) := iAdd_one hi (by omega)
    have e4 : a.getD i ((0, (0, 0, 0, ()), (0, 0, 0, ()), 0, 0, ()) : (Int × ((Vec 3 Nat) × ((Vec 3 Int) × (Int × (Nat × Unit)))))) = a[i] := getD_of hi
    simp only [laws_eqEntryS_l4, e1, e2, e4, e5, Int.toNat_natCast, laws_eqEntry_ok _, Option.bind_some, Bool.not_true, cond_true, cond_false]
  · have e1 : iLt (a.length : Int) (lenI a) = false := iLt_neg (by rw [lenI_eq]; omega)
    simp only [laws_eqEntryS_l4, e1, cond_false]
    rfl
theorem laws_eqVecS_ok (a : List (Vec 3 Nat)) (h : Sized (.list (.arr 3 (.flt .f32))) a) : laws_eqVecS a a = some ((true, ()), ()) := by
  have hl : a.length ≤ 140737488355328 := h.1
  unfold laws_eqVecS
  simp only [iEq_self, Bool.not_true, cond_false]
  refine all_loop (n := a.length) (fun i hi => ?_) ?_
  · have e1 : iLt (i : Int) (lenI a) = true := iLt_pos (by rw [lenI_eq]; omega)
    have e2 : inB (i : Int) a.length = true := inB_pos hi
    have e5 : iAdd .i64 (i : Int) 1 = ((i + 1 : Nat) : Int) := iAdd_one hi (by omega)
    have e4 : a.getD i ((0, 0, 0, ()) : (Vec 3 Nat)) = a[i] := getD_of hi
    simp only [laws_eqVecS_l4, e1, e2, e4, e5, Int.toNat_natCast, laws_eqVec_ok _, Option.bind_some, Bool.not_true, cond_true, cond_false]
  · have e1 : iLt (a.length : Int) (lenI a) = false := iLt_neg (by rw [lenI_eq]; omega)
    simp only [laws_eqVecS_l4, e1, cond_false]
    rfl
theorem laws_eqLog_ok (a : (Int × ((Vec 3 Nat) × ((List (Vec 3 Nat)) × ((List (Int × ((Vec 3 Nat) × ((Vec 3 Int) × (Int × (Nat × Unit)))))) × Unit))))) (h : Sized (.pair (.int .i64) (.pair (.arr 3 (.flt .f32)) (.pair (.list (.arr 3 (.flt .f32))) (.pair (.list (.pair (.int .i64) (.pair (.arr 3 (.flt .f32)) (.pair (.arr 3 (.int .i16)) (.pair (.int .i64) (.pair (.flt .f32) (.unit))))))) (.unit))))) a) : laws_eqLog a a = some ((true, ()), ()) := by
  simp only [laws_eqLog, iEq_self, bEq_self, sEq_self, fConv32_eq, laws_eqVecS_ok a.2.2.1 h.2.2.1, laws_eqEntryS_ok a.2.2.2.1 h.2.2.2.1, laws_eqVec_ok, Bool.not_true, cond_false, Option.bind_some]
theorem laws_eqFloat32A6_ok (a : (Vec 6 Nat)) : laws_eqFloat32A6 a a = some ((true, ()), ()) := by
  simp only [laws_eqFloat32A6, iEq_self, bEq_self, sEq_self, fConv32_eq, laws_sameFloat_ok, Bool.not_true, cond_false, Option.bind_some]
theorem laws_eqRoot_ok (a : (Vec 6 (Vec 6 Nat))) : laws_eqRoot a a = some ((true, ()), ()) := by
  simp only [laws_eqRoot, iEq_self, bEq_self, sEq_self, fConv32_eq, laws_eqFloat32A6_ok, Bool.not_true, cond_false, Option.bind_some]
theorem laws_eqSix_ok (a : (Vec 6 Nat)) : laws_eqSix a a = some ((true, ()), ()) := by
  simp only [laws_eqSix, iEq_self, bEq_self, sEq_self, fConv32_eq, laws_sameFloat_ok, Bool.not_true, cond_false, Option.bind_some]
theorem laws_eqState_ok (a : ((Vec 6 Nat) × ((Vec 6 (Vec 6 Nat)) × Unit))) : laws_eqState a a = some ((true, ()), ()) := by
  simp only [laws_eqState, iEq_self, bEq_self, sEq_self, fConv32_eq, laws_eqRoot_ok, laws_eqSix_ok, Bool.not_true, cond_false, Option.bind_some]
theorem laws_szEntryS_ok (a : (List (Int × ((Vec 3 Nat) × ((Vec 3 Int) × (Int × (Nat × Unit))))))) (k : Int) : ∃ r, laws_szEntryS a k = some ((r, ()), ()) := by
  unfold laws_szEntryS
  simp only
  cases iLt (iSub .i64 k (lenI a)) 0 <;> exact ⟨_, rfl⟩
theorem laws_szVecS_ok (a : (List (Vec 3 Nat))) (k : Int) : ∃ r, laws_szVecS a k = some ((r, ()), ()) := by
  unfold laws_szVecS
  simp only
  cases iLt (iSub .i64 k (lenI a)) 0 <;> exact ⟨_, rfl⟩
theorem laws_szLog_ok (a : (Int × ((Vec 3 Nat) × ((List (Vec 3 Nat)) × ((List (Int × ((Vec 3 Nat) × ((Vec 3 Int) × (Int × (Nat × Unit)))))) × Unit))))) (k : Int) : ∃ r, laws_szLog a k = some ((r, ()), ()) := by
  unfold laws_szLog
  obtain ⟨r0, h0⟩ := laws_szVecS_ok a.2.2.1 k
  rw [h0]
  simp only [Option.bind_some]
  cases iLt r0 0
  case true => exact ⟨_, rfl⟩
  simp only [cond_false]
  obtain ⟨r1, h1⟩ := laws_szEntryS_ok a.2.2.2.1 r0
  rw [h1]
  simp only [Option.bind_some]
  cases iLt r1 0
  case true => exact ⟨_, rfl⟩
  exact ⟨_, rfl⟩
theorem laws_toCounts_ok (a : (Vec 3 Int)) : laws_toCounts a = some ((a, ()), ()) := rfl
theorem laws_toVec_ok (a : (Vec 3 Nat)) : laws_toVec a = some ((a, ()), ()) := rfl
theorem laws_toEntry_ok (a : (Int × ((Vec 3 Nat) × ((Vec 3 Int) × (Int × (Nat × Unit)))))) : laws_toEntry a = some ((a, ()), ()) := by
  simp only [laws_toEntry, laws_toCounts_ok, laws_toVec_ok, Option.bind_some]
  all_goals rfl
theorem laws_toEntryS_ok (a : List (Int × ((Vec 3 Nat) × ((Vec 3 Int) × (Int × (Nat × Unit)))))) (h : Fit (.list (.pair (.int .i64) (.pair (.arr 3 (.flt .f32)) (.pair (.arr 3 (.int .i16)) (.pair (.int .i64) (.pair (.flt .f32) (.unit))))))) a) : laws_toEntryS a = some ((a, ()), ()) := by
  have hl : a.length * 48 ≤ 140737488351232 := h.1
  unfold laws_toEntryS
  rw [to_room a 48 hl (by decide), cond_true]
  refine copy_loop (fun i hi l hll => ?_) (fun l hll => ?_)
  · have hE : Fit (.pair (.int .i64) (.pair (.arr 3 (.flt .f32)) (.pair (.arr 3 (.int .i16)) (.pair (.int .i64) (.pair (.flt .f32) (.unit)))))) a[i] := h.2 _ (List.getElem_mem hi)
    have e1 : iLt (i : Int) (lenI a) = true := iLt_pos (by rw [lenI_eq]; omega)
    have e2 : inB (i : Int) a.length = true := inB_pos hi
    have e3 : inB (i : Int) l.length = true := inB_pos (by omega)
    have e4 : a.getD i ((0, (0, 0, 0, ()), (0, 0, 0, ()), 0, 0, ()) : (Int × ((Vec 3 Nat) × ((Vec 3 Int) × (Int × (Nat × Unit)))))) = a[i] := getD_of hi
    have e5 : iAdd .i64 (i : Int) 1 = ((i + 1 : Nat) : Int) := iAdd_one hi (by omega)
    simp only [laws_toEntryS_l3, e1, e2, e3, Int.toNat_natCast, e4, e5, laws_toEntry_ok _, Option.bind_some, cond_true]
  · have e1 : iLt (a.length : Int) (lenI a) = false := iLt_neg (by rw [lenI_eq]; omega)
    simp only [laws_toEntryS_l3, e1, cond_false]
    rfl
theorem laws_toVecS_ok (a : List (Vec 3 Nat)) (h : Fit (.list (.arr 3 (.flt .f32))) a) : laws_toVecS a = some ((a, ()), ()) := by
  have hl : a.length * 12 ≤ 140737488351232 := h.1
  unfold laws_toVecS
  rw [to_room a 12 hl (by decide), cond_true]
  refine copy_loop (fun i hi l hll => ?_) (fun l hll => ?_)
  · have hE : Fit (.arr 3 (.flt .f32)) a[i] := h.2 _ (List.getElem_mem hi)
    have e1 : iLt (i : Int) (lenI a) = true := iLt_pos (by rw [lenI_eq]; omega)
    have e2 : inB (i : Int) a.length = true := inB_pos hi
    have e3 : inB (i : Int) l.length = true := inB_pos (by omega)
    have e4 : a.getD i ((0, 0, 0, ()) : (Vec 3 Nat)) = a[i] := getD_of hi
    have e5 : iAdd .i64 (i : Int) 1 = ((i + 1 : Nat) : Int) := iAdd_one hi (by omega)
    simp only [laws_toVecS_l3, e1, e2, e3, Int.toNat_natCast, e4, e5, laws_toVec_ok _, Option.bind_some, cond_true]
  · have e1 : iLt (a.length : Int) (lenI a) = false := iLt_neg (by rw [lenI_eq]; omega)
    simp only [laws_toVecS_l3, e1, cond_false]
    rfl
theorem laws_toLog_ok (a : (Int × ((Vec 3 Nat) × ((List (Vec 3 Nat)) × ((List (Int × ((Vec 3 Nat) × ((Vec 3 Int) × (Int × (Nat × Unit)))))) × Unit))))) (h : Fit (.pair (.int .i64) (.pair (.arr 3 (.flt .f32)) (.pair (.list (.arr 3 (.flt .f32))) (.pair (.list (.pair (.int .i64) (.pair (.arr 3 (.flt .f32)) (.pair (.arr 3 (.int .i16)) (.pair (.int .i64) (.pair (.flt .f32) (.unit))))))) (.unit))))) a) : laws_toLog a = some ((a, ()), ()) := by
  simp only [laws_toLog, laws_toVec_ok a.2.1, laws_toVecS_ok a.2.2.1 h.2.2.1, laws_toEntryS_ok a.2.2.2.1 h.2.2.2.1, Option.bind_some]
-- slices_Compare_int32: by hand
theorem laws_eqPlace_ok (a : (Vec 3 Int)) : laws_eqPlace a a = some ((true, ()), ()) := by
  simp only [laws_eqPlace, iEq_self, bEq_self, sEq_self, fConv32_eq, Bool.not_true, cond_false, Option.bind_some]
theorem laws_eqMark_ok (a : ((Vec 3 Int) × ((Vec 3 Nat) × (Nat × (Int × (Int × Unit)))))) : laws_eqMark a a = some ((true, ()), ()) := by
  simp only [laws_eqMark, iEq_self, bEq_self, sEq_self, fConv32_eq, laws_eqPlace_ok, laws_eqVec_ok, laws_sameFloat_ok, Bool.not_true, cond_false, Option.bind_some]
theorem laws_eqMarkS_ok (a : List ((Vec 3 Int) × ((Vec 3 Nat) × (Nat × (Int × (Int × Unit)))))) (h : Sized (.list (.pair (.arr 3 (.int .i32)) (.pair (.arr 3 (.flt .f32)) (.pair (.flt .f32) (.pair (.int .i64) (.pair (.int .i64) (.unit))))))) a) : laws_eqMarkS a a = some ((true, ()), ()) := by
  have hl : a.length ≤ 140737488355328 := h.1
  unfold laws_eqMarkS
  simp only [iEq_self, Bool.not_true, cond_false]
  refine all_loop (n := a.length) (fun i hi => ?_) ?_
  · have e1 : iLt (i : Int) (lenI a) = true := iLt_pos (by rw [lenI_eq]; omega)
    have e2 : inB (i : Int) a.length = true := inB_pos hi
    have e5 : iAdd .i64 (i : Int) 1 = ((i + 1 : Nat) : Int) := iAdd_one hi (by omega)
    have e4 : a.getD i (((0, 0, 0, ()), (0, 0, 0, ()), 0, 0, 0, ()) : ((Vec 3 Int) × ((Vec 3 Nat) × (Nat × (Int × (Int × Unit)))))) = a[i] := getD_of hi
    simp only [laws_eqMarkS_l4, e1, e2, e4, e5, Int.toNat_natCast, laws_eqMark_ok _, Option.bind_some, Bool.not_true, cond_true, cond_false]
  · have e1 : iLt (a.length : Int) (lenI a) = false := iLt_neg (by rw [lenI_eq]; omega)
    simp only [laws_eqMarkS_l4, e1, cond_false]
    rfl
theorem laws_eqLandMap_ok (a : (Nat × ((List ((Vec 3 Int) × ((Vec 3 Nat) × (Nat × (Int × (Int × Unit)))))) × Unit))) (h : Sized (.pair (.flt .f32) (.pair (.list (.pair (.arr 3 (.int .i32)) (.pair (.arr 3 (.flt .f32)) (.pair (.flt .f32) (.pair (.int .i64) (.pair (.int .i64) (.unit))))))) (.unit))) a) : laws_eqLandMap a a = some ((true, ()), ()) := by
  simp only [laws_eqLandMap, iEq_self, bEq_self, sEq_self, fConv32_eq, laws_eqMarkS_ok a.2.1 h.2.1, laws_sameFloat_ok, Bool.not_true, cond_false, Option.bind_some]
def laws_markMarkS_mk (n : Int) (_ : ((Vec 3 Int) × ((Vec 3 Nat) × (Nat × (Int × (Int × Unit)))))) : Int × ((Vec 3 Int) × ((Vec 3 Nat) × (Nat × (Int × (Int × Unit))))) := (iAdd .i64 (iAdd .i64 (iAdd .i64 (iAdd .i64 (iAdd .i64 (iAdd .i64 (iAdd .i64 (iAdd .i64 (iAdd .i64 n 1) 1) 1) 1) 1) 1) 1) 1) 1, ((iWrap .i32 n, iWrap .i32 (iAdd .i64 n 1), iWrap .i32 (iAdd .i64 (iAdd .i64 n 1) 1), ()), ((fOfInt .f32 (iAdd .i64 (iAdd .i64 (iAdd .i64 n 1) 1) 1), fOfInt .f32 (iAdd .i64 (iAdd .i64 (iAdd .i64 (iAdd .i64 n 1) 1) 1) 1), fOfInt .f32 (iAdd .i64 (iAdd .i64 (iAdd .i64 (iAdd .i64 (iAdd .i64 n 1) 1) 1) 1) 1), ()), (fOfInt .f32 (iAdd .i64 (iAdd .i64 (iAdd .i64 (iAdd .i64 (iAdd .i64 (iAdd .i64 n 1) 1) 1) 1) 1) 1), ((iAdd .i64 (iAdd .i64 (iAdd .i64 (iAdd .i64 (iAdd .i64 (iAdd .i64 (iAdd .i64 n 1) 1) 1) 1) 1) 1) 1), ((iAdd .i64 (iAdd .i64 (iAdd .i64 (iAdd .i64 (iAdd .i64 (iAdd .i64 (iAdd .i64 (iAdd .i64 n 1) 1) 1) 1) 1) 1) 1) 1), ()))))))
theorem laws_markMarkS_ok (a : List ((Vec 3 Int) × ((Vec 3 Nat) × (Nat × (Int × (Int × Unit)))))) (n : Int) (hl : a.length ≤ 140737488355328) : laws_markMarkS a n = some (((markL laws_markMarkS_mk n a).1, ()), ((markL laws_markMarkS_mk n a).2, ())) := by
  unfold laws_markMarkS
  refine mark_loop (fun i l hi n hll => ?_) (fun l n hll => ?_) n
  · have e1 : iLt (i : Int) (lenI l) = true := iLt_pos (by rw [lenI_eq]; omega)
    have e2 : inB (i : Int) l.length = true := inB_pos hi
    have e5 : iAdd .i64 (i : Int) 1 = ((i + 1 : Nat) : Int) := iAdd_one hi (by omega)
    have e6 : ∀ v, (l.set i v).getD i (((0, 0, 0, ()), (0, 0, 0, ()), 0, 0, 0, ()) : ((Vec 3 Int) × ((Vec 3 Nat) × (Nat × (Int × (Int × Unit)))))) = v := fun v => getD_set_self hi
    simp only [laws_markMarkS_l2, e1, e2, e5, e6, List.length_set, List.set_set, Int.toNat_natCast, cond_true]
    rfl
  · have e1 : iLt (l.length : Int) (lenI l) = false := iLt_neg (by rw [lenI_eq]; omega)
    simp only [laws_markMarkS_l2, e1, cond_false]
    rfl
theorem laws_markMarkS_n (a : List ((Vec 3 Int) × ((Vec 3 Nat) × (Nat × (Int × (Int × Unit)))))) (hl : a.length ≤ 140737488355328) (n : Int) (h0 : 0 ≤ n) (h1 : n ≤ 1000000000000000000) : (markL laws_markMarkS_mk n a).1 = n + 9 * a.length := by
  refine markL_count (k := 9) (fun n x h0 hn => ?_) a n h0 (by omega)
  simp only [laws_markMarkS_mk]
  rw [iAdd_eq (a := n) (b := 1) (by omega) (by omega), iAdd_eq (a := n + 1) (b := 1) (by omega) (by omega), iAdd_eq (a := n + 1 + 1) (b := 1) (by omega) (by omega), iAdd_eq (a := n + 1 + 1 + 1) (b := 1) (by omega) (by omega), iAdd_eq (a := n + 1 + 1 + 1 + 1) (b := 1) (by omega) (by omega), iAdd_eq (a := n + 1 + 1 + 1 + 1 + 1) (b := 1) (by omega) (by omega), iAdd_eq (a := n + 1 + 1 + 1 + 1 + 1 + 1) (b := 1) (by omega) (by omega), iAdd_eq (a := n + 1 + 1 + 1 + 1 + 1 + 1 + 1) (b := 1) (by omega) (by omega), iAdd_eq (a := n + 1 + 1 + 1 + 1 + 1 + 1 + 1 + 1) (b := 1) (by omega) (by omega)]
  omega
theorem laws_markMarkS_exm (a : List ((Vec 3 Int) × ((Vec 3 Nat) × (Nat × (Int × (Int × Unit)))))) (h : Sized (.list (.pair (.arr 3 (.int .i32)) (.pair (.arr 3 (.flt .f32)) (.pair (.flt .f32) (.pair (.int .i64) (.pair (.int .i64) (.unit))))))) a) (n : Int) (h0 : 0 ≤ n) (h1 : n ≤ 998733362604802048) : ∃ (m : Int) (l : List ((Vec 3 Int) × ((Vec 3 Nat) × (Nat × (Int × (Int × Unit)))))), laws_markMarkS a n = some ((m, ()), (l, ())) ∧ n ≤ m ∧ m ≤ n + 1266637395197952 := by
  have hl : a.length ≤ 140737488355328 := h.1
  have e := laws_markMarkS_n a hl n h0 (by omega)
  exact ⟨_, _, laws_markMarkS_ok a n hl, by rw [e]; omega, by rw [e]; omega⟩
theorem laws_markLandMap_exm (a : (Nat × ((List ((Vec 3 Int) × ((Vec 3 Nat) × (Nat × (Int × (Int × Unit)))))) × Unit))) (h : Sized (.pair (.flt .f32) (.pair (.list (.pair (.arr 3 (.int .i32)) (.pair (.arr 3 (.flt .f32)) (.pair (.flt .f32) (.pair (.int .i64) (.pair (.int .i64) (.unit))))))) (.unit))) a) (n : Int) (h0 : 0 ≤ n) (h1 : n ≤ 998733362604802048) : ∃ (m : Int) (l1 : (List ((Vec 3 Int) × ((Vec 3 Nat) × (Nat × (Int × (Int × Unit))))))), laws_markLandMap a n = some ((m, ()), ((a.1, l1, a.2.2), ())) ∧ n ≤ m ∧ m ≤ n + 1266637395197952 := by
  obtain ⟨m1, l1, e1, b1, c1⟩ := laws_markMarkS_exm a.2.1 h.2.1 n (by omega) (by omega)
  refine ⟨m1, l1, ?_, by omega, by omega⟩
  simp only [laws_markLandMap, e1, Option.bind_some]
theorem laws_szMarkS_ok (a : (List ((Vec 3 Int) × ((Vec 3 Nat) × (Nat × (Int × (Int × Unit))))))) (k : Int) : ∃ r, laws_szMarkS a k = some ((r, ()), ()) := by
  unfold laws_szMarkS
  simp only
  cases iLt (iSub .i64 k (lenI a)) 0 <;> exact ⟨_, rfl⟩
theorem laws_szLandMap_ok (a : (Nat × ((List ((Vec 3 Int) × ((Vec 3 Nat) × (Nat × (Int × (Int × Unit)))))) × Unit))) (k : Int) : ∃ r, laws_szLandMap a k = some ((r, ()), ()) := by
  unfold laws_szLandMap
  obtain ⟨r0, h0⟩ := laws_szMarkS_ok a.2.1 k
  rw [h0]
  simp only [Option.bind_some]
  cases iLt r0 0
  case true => exact ⟨_, rfl⟩
  exact ⟨_, rfl⟩
theorem laws_toFloat32A2_ok (a : (Vec 2 Nat)) : laws_toFloat32A2 a = some ((a, ()), ()) := rfl
theorem laws_toPlace_ok (a : (Vec 3 Int)) : laws_toPlace a = some ((a, ()), ()) := rfl
theorem laws_toMark_ok (a : ((Vec 3 Int) × ((Vec 3 Nat) × (Nat × (Int × (Int × Unit)))))) : laws_toMark a = some ((a, ()), ()) := by
  simp only [laws_toMark, laws_toPlace_ok, laws_toVec_ok, Option.bind_some]
  all_goals rfl
theorem laws_toMarkS_ok (a : List ((Vec 3 Int) × ((Vec 3 Nat) × (Nat × (Int × (Int × Unit)))))) (h : Fit (.list (.pair (.arr 3 (.int .i32)) (.pair (.arr 3 (.flt .f32)) (.pair (.flt .f32) (.pair (.int .i64) (.pair (.int .i64) (.unit))))))) a) : laws_toMarkS a = some ((a, ()), ()) := by
  have hl : a.length * 48 ≤ 140737488351232 := h.1
  unfold laws_toMarkS
  rw [to_room a 48 hl (by decide), cond_true]
  refine copy_loop (fun i hi l hll => ?_) (fun l hll => ?_)
  · have hE : Fit (.pair (.arr 3 (.int .i32)) (.pair (.arr 3 (.flt .f32)) (.pair (.flt .f32) (.pair (.int .i64) (.pair (.int .i64) (.unit)))))) a[i] := h.2 _ (List.getElem_mem hi)
    have e1 : iLt (i : Int) (lenI a) = true := iLt_pos (by rw [lenI_eq]; omega)
    have e2 : inB (i : Int) a.length = true := inB_pos hi
    have e3 : inB (i : Int) l.length = true := inB_pos (by omega)
    have e4 : a.getD i (((0, 0, 0, ()), (0, 0, 0, ()), 0, 0, 0, ()) : ((Vec 3 Int) × ((Vec 3 Nat) × (Nat × (Int × (Int × Unit)))))) = a[i] := getD_of hi
    have e5 : iAdd .i64 (i : Int) 1 = ((i + 1 : Nat) : Int) := iAdd_one hi (by omega)
    simp only [laws_toMarkS_l3, e1, e2, e3, Int.toNat_natCast, e4, e5, laws_toMark_ok _, Option.bind_some, cond_true]
  · have e1 : iLt (a.length : Int) (lenI a) = false := iLt_neg (by rw [lenI_eq]; omega)
    simp only [laws_toMarkS_l3, e1, cond_false]
    rfl
theorem laws_toLandMap_ok (a : (Nat × ((List ((Vec 3 Int) × ((Vec 3 Nat) × (Nat × (Int × (Int × Unit)))))) × Unit))) (h : Fit (.pair (.flt .f32) (.pair (.list (.pair (.arr 3 (.int .i32)) (.pair (.arr 3 (.flt .f32)) (.pair (.flt .f32) (.pair (.int .i64) (.pair (.int .i64) (.unit))))))) (.unit))) a) : laws_toLandMap a = some ((a, ()), ()) := by
  simp only [laws_toLandMap, laws_toMarkS_ok a.2.1 h.2.1, Option.bind_some]
theorem slices_IndexFunc_float32_ok (a : List Nat) (f : (Nat × Unit) → Option Bool) (p : Nat → Bool) (hl : a.length ≤ 140737488355328) (hp : ∀ x ∈ a, f (x, ()) = some (p x)) : slices_IndexFunc_float32 a f = some ((indexOf p a, ()), ()) := by
  unfold slices_IndexFunc_float32
  refine index_loop (fun i hi => ?_) ?_
  · have e1 : iLt (i : Int) (lenI a) = true := iLt_pos (by rw [lenI_eq]; omega)
    have e2 : inB (i : Int) a.length = true := inB_pos hi
    have e4 : a.getD i (0 : Nat) = a[i] := getD_of hi
    have e5 : iAdd .i64 (i : Int) 1 = ((i + 1 : Nat) : Int) := iAdd_one hi (by omega)
    have e6 := hp a[i] (List.getElem_mem hi)
    simp only [slices_IndexFunc_float32_l2, e1, e2, Int.toNat_natCast, e4, e5, e6, Option.bind_some, cond_true]
    cases p a[i] <;> rfl
  · have e1 : iLt (a.length : Int) (lenI a) = false := iLt_neg (by rw [lenI_eq]; omega)
    simp only [slices_IndexFunc_float32_l2, e1, cond_false]
    rfl
theorem slices_ContainsFunc_float32_ok (a : List Nat) (f : (Nat × Unit) → Option Bool) (p : Nat → Bool) (hl : a.length ≤ 140737488355328) (hp : ∀ x ∈ a, f (x, ()) = some (p x)) : slices_ContainsFunc_float32 a f = some ((a.any p, ()), ()) := by
  simp only [slices_ContainsFunc_float32, slices_IndexFunc_float32_ok a f p hl hp, Option.bind_some, indexOf_any]
theorem slices_IndexFunc_A2float32_ok (a : List (Vec 2 Nat)) (f : ((Vec 2 Nat) × Unit) → Option Bool) (p : (Vec 2 Nat) → Bool) (hl : a.length ≤ 140737488355328) (hp : ∀ x ∈ a, f (x, ()) = some (p x)) : slices_IndexFunc_A2float32 a f = some ((indexOf p a, ()), ()) := by
  unfold slices_IndexFunc_A2float32
  refine index_loop (fun i hi => ?_) ?_
  · have e1 : iLt (i : Int) (lenI a) = true := iLt_pos (by rw [lenI_eq]; omega)
    have e2 : inB (i : Int) a.length = true := inB_pos hi
    have e4 : a.getD i ((0, 0, ()) : (Vec 2 Nat)) = a[i] := getD_of hi
    have e5 : iAdd .i64 (i : Int) 1 = ((i + 1 : Nat) : Int) := iAdd_one hi (by omega)
    have e6 := hp a[i] (List.getElem_mem hi)
    simp only [slices_IndexFunc_A2float32_l2, e1, e2, Int.toNat_natCast, e4, e5, e6, Option.bind_some, cond_true]
    cases p a[i] <;> rfl
  · have e1 : iLt (a.length : Int) (lenI a) = false := iLt_neg (by rw [lenI_eq]; omega)
    simp only [slices_IndexFunc_A2float32_l2, e1, cond_false]
    rfl
theorem slices_ContainsFunc_A2float32_ok (a : List (Vec 2 Nat)) (f : ((Vec 2 Nat) × Unit) → Option Bool) (p : (Vec 2 Nat) → Bool) (hl : a.length ≤ 140737488355328) (hp : ∀ x ∈ a, f (x, ()) = some (p x)) : slices_ContainsFunc_A2float32 a f = some ((a.any p, ()), ()) := by
  simp only [slices_ContainsFunc_A2float32, slices_IndexFunc_A2float32_ok a f p hl hp, Option.bind_some, indexOf_any]
theorem laws_eqFloat32A2_ok (a : (Vec 2 Nat)) : laws_eqFloat32A2 a a = some ((true, ()), ()) := by
  simp only [laws_eqFloat32A2, iEq_self, bEq_self, sEq_self, fConv32_eq, laws_sameFloat_ok, Bool.not_true, cond_false, Option.bind_some]
theorem laws_eqFloat32A2S_ok (a : List (Vec 2 Nat)) (h : Sized (.list (.arr 2 (.flt .f32))) a) : laws_eqFloat32A2S a a = some ((true, ()), ()) := by
  have hl : a.length ≤ 140737488355328 := h.1
  unfold laws_eqFloat32A2S
  simp only [iEq_self, Bool.not_true, cond_false]
  refine all_loop (n := a.length) (fun i hi => ?_) ?_
  · have e1 : iLt (i : Int) (lenI a) = true := iLt_pos (by rw [lenI_eq]; omega)
    have e2 : inB (i : Int) a.length = true := inB_pos hi
    have e5 : iAdd .i64 (i : Int) 1 = ((i + 1 : Nat) : Int) := iAdd_one hi (by omega)
    have e4 : a.getD i ((0, 0, ()) : (Vec 2 Nat)) = a[i] := getD_of hi
    simp only [laws_eqFloat32A2S_l4, e1, e2, e4, e5, Int.toNat_natCast, laws_eqFloat32A2_ok _, Option.bind_some, Bool.not_true, cond_true, cond_false]
  · have e1 : iLt (a.length : Int) (lenI a) = false := iLt_neg (by rw [lenI_eq]; omega)
    simp only [laws_eqFloat32A2S_l4, e1, cond_false]
    rfl
theorem laws_eqPose_ok (a : (Vec 3 Nat)) : laws_eqPose a a = some ((true, ()), ()) := by
  simp only [laws_eqPose, iEq_self, bEq_self, sEq_self, fConv32_eq, laws_sameFloat_ok, Bool.not_true, cond_false, Option.bind_some]
theorem laws_szFloat32A2S_ok (a : (List (Vec 2 Nat))) (k : Int) : ∃ r, laws_szFloat32A2S a k = some ((r, ()), ()) := by
  unfold laws_szFloat32A2S
  simp only
  cases iLt (iSub .i64 k (lenI a)) 0 <;> exact ⟨_, rfl⟩
theorem laws_toFloat32A2S_ok (a : List (Vec 2 Nat)) (h : Fit (.list (.arr 2 (.flt .f32))) a) : laws_toFloat32A2S a = some ((a, ()), ()) := by
  have hl : a.length * 8 ≤ 140737488351232 := h.1
  unfold laws_toFloat32A2S
  rw [to_room a 8 hl (by decide), cond_true]
  refine copy_loop (fun i hi l hll => ?_) (fun l hll => ?_)
  · have hE : Fit (.arr 2 (.flt .f32)) a[i] := h.2 _ (List.getElem_mem hi)
    have e1 : iLt (i : Int) (lenI a) = true := iLt_pos (by rw [lenI_eq]; omega)
    have e2 : inB (i : Int) a.length = true := inB_pos hi
    have e3 : inB (i : Int) l.length = true := inB_pos (by omega)
    have e4 : a.getD i ((0, 0, ()) : (Vec 2 Nat)) = a[i] := getD_of hi
    have e5 : iAdd .i64 (i : Int) 1 = ((i + 1 : Nat) : Int) := iAdd_one hi (by omega)
    simp only [laws_toFloat32A2S_l3, e1, e2, e3, Int.toNat_natCast, e4, e5, laws_toFloat32A2_ok _, Option.bind_some, cond_true]
  · have e1 : iLt (a.length : Int) (lenI a) = false := iLt_neg (by rw [lenI_eq]; omega)
    simp only [laws_toFloat32A2S_l3, e1, cond_false]
    rfl
theorem laws_toPose_ok (a : (Vec 3 Nat)) : laws_toPose a = some ((a, ()), ()) := rfl
theorem laws_heldInt64S_ok (a : List Int) (n : Int) (hl : a.length ≤ 140737488355328) : laws_heldInt64S (markL laws_markInt64S_mk n a).2 n = some (((markL laws_markInt64S_mk n a).1, ()), ()) := by
  have hlen := markL_length laws_markInt64S_mk n a
  unfold laws_heldInt64S
  refine held_loop (mk := laws_markInt64S_mk) (a := a) (fun i hi m x hx => ?_) (fun m => ?_)
  · have e1 : iLt (i : Int) (lenI (markL laws_markInt64S_mk n a).2) = true := iLt_pos (by rw [lenI_eq]; omega)
    have e2 : inB (i : Int) (markL laws_markInt64S_mk n a).2.length = true := inB_pos hi
    have e4 : (markL laws_markInt64S_mk n a).2.getD i (0 : Int) = (laws_markInt64S_mk m x).2 := (getD_of hi).trans hx
    have e5 : iAdd .i64 (i : Int) 1 = ((i + 1 : Nat) : Int) := iAdd_one hi (by omega)
    simp only [laws_heldInt64S_l2, e1, e2, e4, e5, Int.toNat_natCast, laws_markInt64S_mk, Vec.getD, iEq_self, fEq_ofInt, Bool.not_true, cond_true, cond_false]
  · have e1 : iLt ((markL laws_markInt64S_mk n a).2.length : Int) (lenI (markL laws_markInt64S_mk n a).2) = false := iLt_neg (by rw [lenI_eq]; omega)
    simp only [laws_heldInt64S_l2, e1, cond_false]
    rfl
theorem laws_markInt64S_ex (a : (List Int)) (h : Sized (.list (.int .i64)) a) (n : Int) (h0 : 0 ≤ n) (h1 : n ≤ 999859262511644672) : ∃ (m : Int) (l : (List Int)), laws_markInt64S a n = some ((m, ()), (l, ())) ∧ n ≤ m ∧ m ≤ n + 140737488355328 ∧ laws_heldInt64S l n = some ((m, ()), ()) := by
  have hl : a.length ≤ 140737488355328 := h.1
  have e := laws_markInt64S_n a hl n h0 (by omega)
  exact ⟨_, _, laws_markInt64S_ok a n hl, by rw [e]; omega, by rw [e]; omega, laws_heldInt64S_ok a n hl⟩
theorem laws_heldSpotS_ok (a : List (Vec 2 Int)) (n : Int) (hl : a.length ≤ 140737488355328) : laws_heldSpotS (markL laws_markSpotS_mk n a).2 n = some (((markL laws_markSpotS_mk n a).1, ()), ()) := by
  have hlen := markL_length laws_markSpotS_mk n a
  unfold laws_heldSpotS
  refine held_loop (mk := laws_markSpotS_mk) (a := a) (fun i hi m x hx => ?_) (fun m => ?_)
  · have e1 : iLt (i : Int) (lenI (markL laws_markSpotS_mk n a).2) = true := iLt_pos (by rw [lenI_eq]; omega)
    have e2 : inB (i : Int) (markL laws_markSpotS_mk n a).2.length = true := inB_pos hi
    have e4 : (markL laws_markSpotS_mk n a).2.getD i ((0, 0, ()) : (Vec 2 Int)) = (laws_markSpotS_mk m x).2 := (getD_of hi).trans hx
    have e5 : iAdd .i64 (i : Int) 1 = ((i + 1 : Nat) : Int) := iAdd_one hi (by omega)
    simp only [laws_heldSpotS_l2, e1, e2, e4, e5, Int.toNat_natCast, laws_markSpotS_mk, Vec.getD, iEq_self, fEq_ofInt, Bool.not_true, cond_true, cond_false]
  · have e1 : iLt ((markL laws_markSpotS_mk n a).2.length : Int) (lenI (markL laws_markSpotS_mk n a).2) = false := iLt_neg (by rw [lenI_eq]; omega)
    simp only [laws_heldSpotS_l2, e1, cond_false]
    rfl
theorem laws_markSpotS_ex (a : (List (Vec 2 Int))) (h : Sized (.list (.arr 2 (.int .i16))) a) (n : Int) (h0 : 0 ≤ n) (h1 : n ≤ 999718525023289344) : ∃ (m : Int) (l : (List (Vec 2 Int))), laws_markSpotS a n = some ((m, ()), (l, ())) ∧ n ≤ m ∧ m ≤ n + 281474976710656 ∧ laws_heldSpotS l n = some ((m, ()), ()) := by
  have hl : a.length ≤ 140737488355328 := h.1
  have e := laws_markSpotS_n a hl n h0 (by omega)
  exact ⟨_, _, laws_markSpotS_ok a n hl, by rw [e]; omega, by rw [e]; omega, laws_heldSpotS_ok a n hl⟩
theorem laws_heldByteS_ok (a : List Int) (n : Int) (hl : a.length ≤ 140737488355328) : laws_heldByteS (markL laws_markByteS_mk n a).2 n = some (((markL laws_markByteS_mk n a).1, ()), ()) := by
  have hlen := markL_length laws_markByteS_mk n a
  unfold laws_heldByteS
  refine held_loop (mk := laws_markByteS_mk) (a := a) (fun i hi m x hx => ?_) (fun m => ?_)
  · have e1 : iLt (i : Int) (lenI (markL laws_markByteS_mk n a).2) = true := iLt_pos (by rw [lenI_eq]; omega)
    have e2 : inB (i : Int) (markL laws_markByteS_mk n a).2.length = true := inB_pos hi
    have e4 : (markL laws_markByteS_mk n a).2.getD i (0 : Int) = (laws_markByteS_mk m x).2 := (getD_of hi).trans hx
    have e5 : iAdd .i64 (i : Int) 1 = ((i + 1 : Nat) : Int) := iAdd_one hi (by omega)
    simp only [laws_heldByteS_l2, e1, e2, e4, e5, Int.toNat_natCast, laws_markByteS_mk, Vec.getD, iEq_self, fEq_ofInt, Bool.not_true, cond_true, cond_false]
  · have e1 : iLt ((markL laws_markByteS_mk n a).2.length : Int) (lenI (markL laws_markByteS_mk n a).2) = false := iLt_neg (by rw [lenI_eq]; omega)
    simp only [laws_heldByteS_l2, e1, cond_false]
    rfl
theorem laws_markByteS_ex (a : (List Int)) (h : Sized (.list (.int .u8)) a) (n : Int) (h0 : 0 ≤ n) (h1 : n ≤ 999859262511644672) : ∃ (m : Int) (l : (List Int)), laws_markByteS a n = some ((m, ()), (l, ())) ∧ n ≤ m ∧ m ≤ n + 140737488355328 ∧ laws_heldByteS l n = some ((m, ()), ()) := by
  have hl : a.length ≤ 140737488355328 := h.1
  have e := laws_markByteS_n a hl n h0 (by omega)
  exact ⟨_, _, laws_markByteS_ok a n hl, by rw [e]; omega, by rw [e]; omega, laws_heldByteS_ok a n hl⟩
theorem laws_markGrid_ex (a : (Int × (Int × ((List Int) × Unit)))) (h : Sized (.pair (.int .i64) (.pair (.int .i64) (.pair (.list (.int .u8)) (.unit)))) a) (n : Int) (h0 : 0 ≤ n) (h1 : n ≤ 999859262511644672) : ∃ (m : Int) (l2 : (List Int)), laws_markGrid a n = some ((m, ()), ((a.1, a.2.1, l2, a.2.2.2), ())) ∧ n ≤ m ∧ m ≤ n + 140737488355328 ∧ laws_heldGrid (a.1, a.2.1, l2, a.2.2.2) n = some ((m, ()), ()) := by
  obtain ⟨m2, l2, e2, b2, c2, d2⟩ := laws_markByteS_ex a.2.2.1 h.2.2.1 n (by omega) (by omega)
  refine ⟨m2, l2, ?_, by omega, by omega, ?_⟩
  · simp only [laws_markGrid, e2, Option.bind_some]
  · simp only [laws_heldGrid, d2, iLt_neg (show ¬ m2 < 0 by omega), Option.bind_some, cond_false]
end Go.Proofs.Ytioniijhdkkieaa
