/- The laws' helpers in plain terms: they copy, compare and mark. -/
import Derived.Test.YtiakgpcjomgkcaaF1
import Derived.Test.YtiakgpcjomgkcaaB
namespace Go.Proofs.Ytiakgpcjomgkcaa
open Go Go.Tm
set_option linter.unusedVariables false
set_option linter.unusedSimpArgs false
theorem laws_toDeed_ok (a : (Int × (Int × (Int × Unit)))) : laws_toDeed a = some ((a, ()), ()) := rfl
theorem laws_sameFloat_ok (a : Nat) : laws_sameFloat a a = some ((true, ()), ()) := by
  unfold laws_sameFloat
  rw [fEq_self]
  cases isNan .f64 a
  · simp only [Bool.not_false, Bool.not_true, cond_false, cond_true, bEq_self]
    cases fEq .f64 a 0 <;> rfl
  · rfl
theorem laws_eqVec_ok (a : (Vec 3 Nat)) : laws_eqVec a a = some ((true, ()), ()) := by
  simp only [laws_eqVec, iEq_self, bEq_self, sEq_self, fConv32_eq, laws_sameFloat_ok, Bool.not_true, cond_false, Option.bind_some]
theorem laws_eqSensor_ok (a : ((Vec 3 Nat) × ((Vec 3 Nat) × (Int × (Int × Unit))))) : laws_eqSensor a a = some ((true, ()), ()) := by
  simp only [laws_eqSensor, iEq_self, bEq_self, sEq_self, fConv32_eq, laws_eqVec_ok, Bool.not_true, cond_false, Option.bind_some]
theorem slices_IndexFunc_impl_Spot_ok (a : List (Vec 2 Int)) (f : ((Vec 2 Int) × Unit) → Option Bool) (p : (Vec 2 Int) → Bool) (hl : a.length ≤ 140737488355328) (hp : ∀ x ∈ a, f (x, ()) = some (p x)) : slices_IndexFunc_impl_Spot a f = some ((indexOf p a, ()), ()) := by
  unfold slices_IndexFunc_impl_Spot
  refine index_loop (fun i hi => ?_) ?_
  · have e1 : iLt (i : Int) (lenI a) = true := iLt_pos (by rw [lenI_eq]; omega)
    have e2 : inB (i : Int) a.length = true := inB_pos hi
    have e4 : a.getD i ((0, 0, ()) : (Vec 2 Int)) = a[i] := getD_of hi
    have e5 : iAdd .i64 (i : Int) 1 = ((i + 1 : Nat) : Int) := iAdd_one hi (by omega)
    have e6 := hp a[i] (List.getElem_mem hi)
    simp only [slices_IndexFunc_impl_Spot_l2, e1, e2, Int.toNat_natCast, e4, e5, e6, Option.bind_some, cond_true]
    cases p a[i] <;> rfl
  · have e1 : iLt (a.length : Int) (lenI a) = false := iLt_neg (by rw [lenI_eq]; omega)
    simp only [slices_IndexFunc_impl_Spot_l2, e1, cond_false]
    rfl
theorem slices_ContainsFunc_impl_Spot_ok (a : List (Vec 2 Int)) (f : ((Vec 2 Int) × Unit) → Option Bool) (p : (Vec 2 Int) → Bool) (hl : a.length ≤ 140737488355328) (hp : ∀ x ∈ a, f (x, ()) = some (p x)) : slices_ContainsFunc_impl_Spot a f = some ((a.any p, ()), ()) := by
  simp only [slices_ContainsFunc_impl_Spot, slices_IndexFunc_impl_Spot_ok a f p hl hp, Option.bind_some, indexOf_any]
theorem laws_eqByteS_ok (a : List Int) (h : Sized (.list (.int .u8)) a) : laws_eqByteS a a = some ((true, ()), ()) := by
  have hl : a.length ≤ 140737488355328 := h.1
  unfold laws_eqByteS
  simp only [iEq_self, Bool.not_true, cond_false]
  refine all_loop (n := a.length) (fun i hi => ?_) ?_
  · have e1 : iLt (i : Int) (lenI a) = true := iLt_pos (by rw [lenI_eq]; omega)
    have e2 : inB (i : Int) a.length = true := inB_pos hi
    have e5 : iAdd .i64 (i : Int) 1 = ((i + 1 : Nat) : Int) := iAdd_one hi (by omega)
    have e4 : a.getD i (0 : Int) = a[i] := getD_of hi
    simp only [laws_eqByteS_l4, e1, e2, e4, e5, Int.toNat_natCast, iEq_self, bEq_self, sEq_self, Bool.not_true, cond_true, cond_false]
  · have e1 : iLt (a.length : Int) (lenI a) = false := iLt_neg (by rw [lenI_eq]; omega)
    simp only [laws_eqByteS_l4, e1, cond_false]
    rfl
theorem laws_eqGrid_ok (a : (Int × (Int × ((List Int) × Unit)))) (h : Sized (.pair (.int .i64) (.pair (.int .i64) (.pair (.list (.int .u8)) (.unit)))) a) : laws_eqGrid a a = some ((true, ()), ()) := by
  simp only [laws_eqGrid, iEq_self, bEq_self, sEq_self, fConv32_eq, laws_eqByteS_ok a.2.2.1 h.2.2.1, Bool.not_true, cond_false, Option.bind_some]
theorem laws_szByteS_ok (a : (List Int)) (k : Int) : ∃ r, laws_szByteS a k = some ((r, ()), ()) := by
  unfold laws_szByteS
  simp only
  cases iLt (iSub .i64 k (lenI a)) 0 <;> exact ⟨_, rfl⟩
theorem laws_szGrid_ok (a : (Int × (Int × ((List Int) × Unit)))) (k : Int) : ∃ r, laws_szGrid a k = some ((r, ()), ()) := by
  unfold laws_szGrid
  obtain ⟨r0, h0⟩ := laws_szByteS_ok a.2.2.1 k
  rw [h0]
  simp only [Option.bind_some]
  cases iLt r0 0
  case true => exact ⟨_, rfl⟩
  exact ⟨_, rfl⟩
theorem laws_toByteS_ok (a : List Int) (h : Fit (.list (.int .u8)) a) : laws_toByteS a = some ((a, ()), ()) := by
  have hl : a.length * 1 ≤ 140737488351232 := h.1
  unfold laws_toByteS
  rw [to_room a 1 hl (by decide), cond_true]
  refine copy_loop (fun i hi l hll => ?_) (fun l hll => ?_)
  · have hE : Fit (.int .u8) a[i] := h.2 _ (List.getElem_mem hi)
    have e1 : iLt (i : Int) (lenI a) = true := iLt_pos (by rw [lenI_eq]; omega)
    have e2 : inB (i : Int) a.length = true := inB_pos hi
    have e3 : inB (i : Int) l.length = true := inB_pos (by omega)
    have e4 : a.getD i (0 : Int) = a[i] := getD_of hi
    have e5 : iAdd .i64 (i : Int) 1 = ((i + 1 : Nat) : Int) := iAdd_one hi (by omega)
    simp only [laws_toByteS_l3, e1, e2, e3, Int.toNat_natCast, e4, e5, Option.bind_some, cond_true]
  · have e1 : iLt (a.length : Int) (lenI a) = false := iLt_neg (by rw [lenI_eq]; omega)
    simp only [laws_toByteS_l3, e1, cond_false]
    rfl
theorem laws_toGrid_ok (a : (Int × (Int × ((List Int) × Unit)))) (h : Fit (.pair (.int .i64) (.pair (.int .i64) (.pair (.list (.int .u8)) (.unit)))) a) : laws_toGrid a = some ((a, ()), ()) := by
  simp only [laws_toGrid, laws_toByteS_ok a.2.2.1 h.2.2.1, Option.bind_some]
theorem laws_toSpot_ok (a : (Vec 2 Int)) : laws_toSpot a = some ((a, ()), ()) := rfl
theorem laws_eqFloat32A2_ok (a : (Vec 2 Nat)) : laws_eqFloat32A2 a a = some ((true, ()), ()) := by
  simp only [laws_eqFloat32A2, iEq_self, bEq_self, sEq_self, fConv32_eq, laws_sameFloat_ok, Bool.not_true, cond_false, Option.bind_some]
theorem laws_eqFloat32A2S_ok (a : List (Vec 2 Nat)) (h : Sized (.list (.arr 2 (.flt .f32))) a) : laws_eqFloat32A2S a a = some ((true, ()), ()) := by
  have hl : a.length ≤ 140737488355328 := h.1
  unfold laws_eqFloat32A2S
  simp only [iEq_self, Bool.not_true, cond_false]
  refine all_loop (n := a.length) (fun i hi => ?_) ?_
  · have e1 : iLt (i : Int) (lenI a) = true := iLt_pos (by rw [lenI_eq]; omega)
    have e2 : inB (i : Int) a.length = true := inB_pos hi
    have e5 : iAdd .i64 (i : Int) 1 = ((i + 1 : Nat) : Int) := iAdd_one hi (by omega)
    have e4 : a.getD i ((0, 0, ()) : (Vec 2 Nat)) = a[i] := getD_of hi
    simp only [laws_eqFloat32A2S_l4, e1, e2, e4, e5, Int.toNat_natCast, laws_eqFloat32A2_ok _, Option.bind_some, Bool.not_true, cond_true, cond_false]
  · have e1 : iLt (a.length : Int) (lenI a) = false := iLt_neg (by rw [lenI_eq]; omega)
    simp only [laws_eqFloat32A2S_l4, e1, cond_false]
    rfl
theorem laws_eqSpot_ok (a : (Vec 2 Int)) : laws_eqSpot a a = some ((true, ()), ()) := by
  simp only [laws_eqSpot, iEq_self, bEq_self, sEq_self, fConv32_eq, Bool.not_true, cond_false, Option.bind_some]
theorem laws_eqSpotS_ok (a : List (Vec 2 Int)) (h : Sized (.list (.arr 2 (.int .i16))) a) : laws_eqSpotS a a = some ((true, ()), ()) := by
  have hl : a.length ≤ 140737488355328 := h.1
  unfold laws_eqSpotS
  simp only [iEq_self, Bool.not_true, cond_false]
  refine all_loop (n := a.length) (fun i hi => ?_) ?_
  · have e1 : iLt (i : Int) (lenI a) = true := iLt_pos (by rw [lenI_eq]; omega)
    have e2 : inB (i : Int) a.length = true := inB_pos hi
    have e5 : iAdd .i64 (i : Int) 1 = ((i + 1 : Nat) : Int) := iAdd_one hi (by omega)
    have e4 : a.getD i ((0, 0, ()) : (Vec 2 Int)) = a[i] := getD_of hi
    simp only [laws_eqSpotS_l4, e1, e2, e4, e5, Int.toNat_natCast, laws_eqSpot_ok _, Option.bind_some, Bool.not_true, cond_true, cond_false]
  · have e1 : iLt (a.length : Int) (lenI a) = false := iLt_neg (by rw [lenI_eq]; omega)
    simp only [laws_eqSpotS_l4, e1, cond_false]
    rfl
def laws_markFloat32A2S_mk (n : Int) (_ : (Vec 2 Nat)) : Int × (Vec 2 Nat) := (iAdd .i64 (iAdd .i64 n 1) 1, (fOfInt .f32 n, fOfInt .f32 (iAdd .i64 n 1), ()))
theorem laws_markFloat32A2S_ok (a : List (Vec 2 Nat)) (n : Int) (hl : a.length ≤ 140737488355328) : laws_markFloat32A2S a n = some (((markL laws_markFloat32A2S_mk n a).1, ()), ((markL laws_markFloat32A2S_mk n a).2, ())) := by
  unfold laws_markFloat32A2S
  refine mark_loop (fun i l hi n hll => ?_) (fun l n hll => ?_) n
  · have e1 : iLt (i : Int) (lenI l) = true := iLt_pos (by rw [lenI_eq]; omega)
    have e2 : inB (i : Int) l.length = true := inB_pos hi
    have e5 : iAdd .i64 (i : Int) 1 = ((i + 1 : Nat) : Int) := iAdd_one hi (by omega)
    have e6 : ∀ v, (l.set i v).getD i ((0, 0, ()) : (Vec 2 Nat)) = v := fun v => getD_set_self hi
    simp only [laws_markFloat32A2S_l2, e1, e2, e5, e6, List.length_set, List.set_set, Int.toNat_natCast, cond_true]
    rfl
  · have e1 : iLt (l.length : Int) (lenI l) = false := iLt_neg (by rw [lenI_eq]; omega)
    simp only [laws_markFloat32A2S_l2, e1, cond_false]
    rfl
theorem laws_markFloat32A2S_n (a : List (Vec 2 Nat)) (hl : a.length ≤ 140737488355328) (n : Int) (h0 : 0 ≤ n) (h1 : n ≤ 1000000000000000000) : (markL laws_markFloat32A2S_mk n a).1 = n + 2 * a.length := by
  refine markL_count (k := 2) (fun n x h0 hn => ?_) a n h0 (by omega)
  simp only [laws_markFloat32A2S_mk]
  rw [iAdd_eq (a := n) (b := 1) (by omega) (by omega), iAdd_eq (a := n + 1) (b := 1) (by omega) (by omega)]
  omega
theorem laws_markFloat32A2S_exm (a : List (Vec 2 Nat)) (h : Sized (.list (.arr 2 (.flt .f32))) a) (n : Int) (h0 : 0 ≤ n) (h1 : n ≤ 999718525023289344) : ∃ (m : Int) (l : List (Vec 2 Nat)), laws_markFloat32A2S a n = some ((m, ()), (l, ())) ∧ n ≤ m ∧ m ≤ n + 281474976710656 := by
  have hl : a.length ≤ 140737488355328 := h.1
  have e := laws_markFloat32A2S_n a hl n h0 (by omega)
  exact ⟨_, _, laws_markFloat32A2S_ok a n hl, by rw [e]; omega, by rw [e]; omega⟩
def laws_markSpotS_mk (n : Int) (_ : (Vec 2 Int)) : Int × (Vec 2 Int) := (iAdd .i64 (iAdd .i64 n 1) 1, (iWrap .i16 n, iWrap .i16 (iAdd .i64 n 1), ()))
theorem laws_markSpotS_ok (a : List (Vec 2 Int)) (n : Int) (hl : a.length ≤ 140737488355328) : laws_markSpotS a n = some (((markL laws_markSpotS_mk n a).1, ()), ((markL laws_markSpotS_mk n a).2, ())) := by
  unfold laws_markSpotS
  refine mark_loop (fun i l hi n hll => ?_) (fun l n hll => ?_) n
  · have e1 : iLt (i : Int) (lenI l) = true := iLt_pos (by rw [lenI_eq]; omega)
    have e2 : inB (i : Int) l.length = true := inB_pos hi
    have e5 : iAdd .i64 (i : Int) 1 = ((i + 1 : Nat) : Int) := iAdd_one hi (by omega)
    have e6 : ∀ v, (l.set i v).getD i ((0, 0, ()) : (Vec 2 Int)) = v := fun v => getD_set_self hi
    simp only [laws_markSpotS_l2, e1, e2, e5, e6, List.length_set, List.set_set, Int.toNat_natCast, cond_true]
    rfl
  · have e1 : iLt (l.length : Int) (lenI l) = false := iLt_neg (by rw [lenI_eq]; omega)
    simp only [laws_markSpotS_l2, e1, cond_false]
    rfl
theorem laws_markSpotS_n (a : List (Vec 2 Int)) (hl : a.length ≤ 140737488355328) (n : Int) (h0 : 0 ≤ n) (h1 : n ≤ 1000000000000000000) : (markL laws_markSpotS_mk n a).1 = n + 2 * a.length := by
  refine markL_count (k := 2) (fun n x h0 hn => ?_) a n h0 (by omega)
  simp only [laws_markSpotS_mk]
  rw [iAdd_eq (a := n) (b := 1) (by omega) (by omega), iAdd_eq (a := n + 1) (b := 1) (by omega) (by omega)]
  omega
theorem laws_markSpotS_exm (a : List (Vec 2 Int)) (h : Sized (.list (.arr 2 (.int .i16))) a) (n : Int) (h0 : 0 ≤ n) (h1 : n ≤ 999718525023289344) : ∃ (m : Int) (l : List (Vec 2 Int)), laws_markSpotS a n = some ((m, ()), (l, ())) ∧ n ≤ m ∧ m ≤ n + 281474976710656 := by
  have hl : a.length ≤ 140737488355328 := h.1
  have e := laws_markSpotS_n a hl n h0 (by omega)
  exact ⟨_, _, laws_markSpotS_ok a n hl, by rw [e]; omega, by rw [e]; omega⟩
theorem laws_szSpotS_ok (a : (List (Vec 2 Int))) (k : Int) : ∃ r, laws_szSpotS a k = some ((r, ()), ()) := by
  unfold laws_szSpotS
  simp only
  cases iLt (iSub .i64 k (lenI a)) 0 <;> exact ⟨_, rfl⟩
theorem laws_toFloat32A2_ok (a : (Vec 2 Nat)) : laws_toFloat32A2 a = some ((a, ()), ()) := rfl
theorem laws_toSpotS_ok (a : List (Vec 2 Int)) (h : Fit (.list (.arr 2 (.int .i16))) a) : laws_toSpotS a = some ((a, ()), ()) := by
  have hl : a.length * 4 ≤ 140737488351232 := h.1
  unfold laws_toSpotS
  rw [to_room a 4 hl (by decide), cond_true]
  refine copy_loop (fun i hi l hll => ?_) (fun l hll => ?_)
  · have hE : Fit (.arr 2 (.int .i16)) a[i] := h.2 _ (List.getElem_mem hi)
    have e1 : iLt (i : Int) (lenI a) = true := iLt_pos (by rw [lenI_eq]; omega)
    have e2 : inB (i : Int) a.length = true := inB_pos hi
    have e3 : inB (i : Int) l.length = true := inB_pos (by omega)
    have e4 : a.getD i ((0, 0, ()) : (Vec 2 Int)) = a[i] := getD_of hi
    have e5 : iAdd .i64 (i : Int) 1 = ((i + 1 : Nat) : Int) := iAdd_one hi (by omega)
    simp only [laws_toSpotS_l3, e1, e2, e3, Int.toNat_natCast, e4, e5, laws_toSpot_ok _, Option.bind_some, cond_true]
  · have e1 : iLt (a.length : Int) (lenI a) = false := iLt_neg (by rw [lenI_eq]; omega)
    simp only [laws_toSpotS_l3, e1, cond_false]
    rfl
theorem slices_Clone_uint8_ok (a : List Int) (hl : a.length * 1 ≤ 140737488355328) : slices_Clone_uint8 a = some ((a, ()), ()) := by
  have e1 : room (0 + a.length) 1 = true := room_pos (by rw [Nat.zero_add]; exact hl)
  simp only [slices_Clone_uint8, e1, cond_true, List.nil_append]
  cases a with
  | nil => exact allSame_of fun q => by cases q <;> rfl
  | cons x r => rfl
def laws_markByteS_mk (n : Int) (_ : Int) : Int × Int := (iAdd .i64 n 1, iWrap .u8 n)
theorem laws_markByteS_ok (a : List Int) (n : Int) (hl : a.length ≤ 140737488355328) : laws_markByteS a n = some (((markL laws_markByteS_mk n a).1, ()), ((markL laws_markByteS_mk n a).2, ())) := by
  unfold laws_markByteS
  refine mark_loop (fun i l hi n hll => ?_) (fun l n hll => ?_) n
  · have e1 : iLt (i : Int) (lenI l) = true := iLt_pos (by rw [lenI_eq]; omega)
    have e2 : inB (i : Int) l.length = true := inB_pos hi
    have e5 : iAdd .i64 (i : Int) 1 = ((i + 1 : Nat) : Int) := iAdd_one hi (by omega)
    have e6 : ∀ v, (l.set i v).getD i (0 : Int) = v := fun v => getD_set_self hi
    simp only [laws_markByteS_l2, e1, e2, e5, e6, List.length_set, List.set_set, Int.toNat_natCast, cond_true]
    rfl
  · have e1 : iLt (l.length : Int) (lenI l) = false := iLt_neg (by rw [lenI_eq]; omega)
    simp only [laws_markByteS_l2, e1, cond_false]
    rfl
theorem laws_markByteS_n (a : List Int) (hl : a.length ≤ 140737488355328) (n : Int) (h0 : 0 ≤ n) (h1 : n ≤ 1000000000000000000) : (markL laws_markByteS_mk n a).1 = n + 1 * a.length := by
  refine markL_count (k := 1) (fun n x h0 hn => ?_) a n h0 (by omega)
  simp only [laws_markByteS_mk]
  rw [iAdd_eq (a := n) (b := 1) (by omega) (by omega)]
  omega
theorem laws_markByteS_exm (a : List Int) (h : Sized (.list (.int .u8)) a) (n : Int) (h0 : 0 ≤ n) (h1 : n ≤ 999859262511644672) : ∃ (m : Int) (l : List Int), laws_markByteS a n = some ((m, ()), (l, ())) ∧ n ≤ m ∧ m ≤ n + 140737488355328 := by
  have hl : a.length ≤ 140737488355328 := h.1
  have e := laws_markByteS_n a hl n h0 (by omega)
  exact ⟨_, _, laws_markByteS_ok a n hl, by rw [e]; omega, by rw [e]; omega⟩
theorem laws_markGrid_exm (a : (Int × (Int × ((List Int) × Unit)))) (h : Sized (.pair (.int .i64) (.pair (.int .i64) (.pair (.list (.int .u8)) (.unit)))) a) (n : Int) (h0 : 0 ≤ n) (h1 : n ≤ 999859262511644672) : ∃ (m : Int) (l2 : (List Int)), laws_markGrid a n = some ((m, ()), ((a.1, a.2.1, l2, a.2.2.2), ())) ∧ n ≤ m ∧ m ≤ n + 140737488355328 := by
  obtain ⟨m2, l2, e2, b2, c2⟩ := laws_markByteS_exm a.2.2.1 h.2.2.1 n (by omega) (by omega)
  refine ⟨m2, l2, ?_, by omega, by omega⟩
  simp only [laws_markGrid, e2, Option.bind_some]
theorem laws_heldFloat32A2S_ok (a : List (Vec 2 Nat)) (n : Int) (hl : a.length ≤ 140737488355328) : laws_heldFloat32A2S (markL laws_markFloat32A2S_mk n a).2 n = some (((markL laws_markFloat32A2S_mk n a).1, ()), ()) := by
  have hlen := markL_length laws_markFloat32A2S_mk n a
  unfold laws_heldFloat32A2S
  refine held_loop (mk := laws_markFloat32A2S_mk) (a := a) (fun i hi m x hx => ?_) (fun m => ?_)
  · have e1 : iLt (i : Int) (lenI (markL laws_markFloat32A2S_mk n a).2) = true := iLt_pos (by rw [lenI_eq]; omega)
    have e2 : inB (i : Int) (markL laws_markFloat32A2S_mk n a).2.length = true := inB_pos hi
    have e4 : (markL laws_markFloat32A2S_mk n a).2.getD i ((0, 0, ()) : (Vec 2 Nat)) = (laws_markFloat32A2S_mk m x).2 := (getD_of hi).trans hx
    have e5 : iAdd .i64 (i : Int) 1 = ((i + 1 : Nat) : Int) := iAdd_one hi (by omega)
    simp only [laws_heldFloat32A2S_l2, e1, e2, e4, e5, Int.toNat_natCast, laws_markFloat32A2S_mk, Vec.getD, iEq_self, fEq_ofInt, Bool.not_true, cond_true, cond_false]
  · have e1 : iLt ((markL laws_markFloat32A2S_mk n a).2.length : Int) (lenI (markL laws_markFloat32A2S_mk n a).2) = false := iLt_neg (by rw [lenI_eq]; omega)
    simp only [laws_heldFloat32A2S_l2, e1, cond_false]
    rfl
theorem laws_markFloat32A2S_ex (a : (List (Vec 2 Nat))) (h : Sized (.list (.arr 2 (.flt .f32))) a) (n : Int) (h0 : 0 ≤ n) (h1 : n ≤ 999718525023289344) : ∃ (m : Int) (l : (List (Vec 2 Nat))), laws_markFloat32A2S a n = some ((m, ()), (l, ())) ∧ n ≤ m ∧ m ≤ n + 281474976710656 ∧ laws_heldFloat32A2S l n = some ((m, ()), ()) := by
  have hl : a.length ≤ 140737488355328 := h.1
  have e := laws_markFloat32A2S_n a hl n h0 (by omega)
  exact ⟨_, _, laws_markFloat32A2S_ok a n hl, by rw [e]; omega, by rw [e]; omega, laws_heldFloat32A2S_ok a n hl⟩
theorem laws_heldByteS_ok (a : List Int) (n : Int) (hl : a.length ≤ 140737488355328) : laws_heldByteS (markL laws_markByteS_mk n a).2 n = some (((markL laws_markByteS_mk n a).1, ()), ()) := by
  have hlen := markL_length laws_markByteS_mk n a
  unfold laws_heldByteS
  refine held_loop (mk := laws_markByteS_mk) (a := a) (fun i hi m x hx => ?_) (fun m => ?_)
  · have e1 : iLt (i : Int) (lenI (markL laws_markByteS_mk n a).2) = true := iLt_pos (by rw [lenI_eq]; omega)
    have e2 : inB (i : Int) (markL laws_markByteS_mk n a).2.length = true := inB_pos hi
    have e4 : (markL laws_markByteS_mk n a).2.getD i (0 : Int) = (laws_markByteS_mk m x).2 := (getD_of hi).trans hx
    have e5 : iAdd .i64 (i : Int) 1 = ((i + 1 : Nat) : Int) := iAdd_one hi (by omega)
    simp only [laws_heldByteS_l2, e1, e2, e4, e5, Int.toNat_natCast, laws_markByteS_mk, Vec.getD, iEq_self, fEq_ofInt, Bool.not_true, cond_true, cond_false]
  · have e1 : iLt ((markL laws_markByteS_mk n a).2.length : Int) (lenI (markL laws_markByteS_mk n a).2) = false := iLt_neg (by rw [lenI_eq]; omega)
    simp only [laws_heldByteS_l2, e1, cond_false]
    rfl
theorem laws_markByteS_ex (a : (List Int)) (h : Sized (.list (.int .u8)) a) (n : Int) (h0 : 0 ≤ n) (h1 : n ≤ 999859262511644672) : ∃ (m : Int) (l : (List Int)), laws_markByteS a n = some ((m, ()), (l, ())) ∧ n ≤ m ∧ m ≤ n + 140737488355328 ∧ laws_heldByteS l n = some ((m, ()), ()) := by
  have hl : a.length ≤ 140737488355328 := h.1
  have e := laws_markByteS_n a hl n h0 (by omega)
  exact ⟨_, _, laws_markByteS_ok a n hl, by rw [e]; omega, by rw [e]; omega, laws_heldByteS_ok a n hl⟩
theorem laws_markGrid_ex (a : (Int × (Int × ((List Int) × Unit)))) (h : Sized (.pair (.int .i64) (.pair (.int .i64) (.pair (.list (.int .u8)) (.unit)))) a) (n : Int) (h0 : 0 ≤ n) (h1 : n ≤ 999859262511644672) : ∃ (m : Int) (l2 : (List Int)), laws_markGrid a n = some ((m, ()), ((a.1, a.2.1, l2, a.2.2.2), ())) ∧ n ≤ m ∧ m ≤ n + 140737488355328 ∧ laws_heldGrid (a.1, a.2.1, l2, a.2.2.2) n = some ((m, ()), ()) := by
  obtain ⟨m2, l2, e2, b2, c2, d2⟩ := laws_markByteS_ex a.2.2.1 h.2.2.1 n (by omega) (by omega)
  refine ⟨m2, l2, ?_, by omega, by omega, ?_⟩
  · simp only [laws_markGrid, e2, Option.bind_some]
  · simp only [laws_heldGrid, d2, iLt_neg (show ¬ m2 < 0 by omega), Option.bind_some, cond_false]
end Go.Proofs.Ytiakgpcjomgkcaa
