/- The laws' helpers in plain terms: they copy, compare and mark. -/
import Derived.Test.YtdmaamakckochaaDoorF2
import Derived.Test.YtdmaamakckochaaDoorB
namespace Go.Proofs.YtdmaamakckochaaDoor
open Go Go.Tm
set_option linter.unusedVariables false
set_option linter.unusedSimpArgs false
theorem laws_eqByteS_ok (a : List Int) (h : Sized (.list (.int .u8)) a) : laws_eqByteS a a = some ((true, ()), ()) := by
  have hl : a.length ≤ 140737488355328 := h.1
  unfold laws_eqByteS
  simp only [iEq_self, Bool.not_true, cond_false]
  refine all_loop (n := a.length) (fun i hi => ?_) ?_
  · have e1 : iLt (i : Int) (lenI a) = true := iLt_pos (by rw [lenI_eq]; omega)
    have e2 : inB (i : Int) a.length = true := inB_pos hi
    have e5 : iAdd .i64 (i : Int) 1 = ((i + 1 : Nat) : Int) := iAdd_one hi (by omega)
    have e4 : a.getD i (0 : Int) = a[i] := getD_of hi
    simp only [laws_eqByteS_l4, e1, e2, e4, e5, Int.toNat_natCast, iEq_self, bEq_self, sEq_self, Bool.not_true, cond_true, cond_false]
  · have e1 : iLt (a.length : Int) (lenI a) = false := iLt_neg (by rw [lenI_eq]; omega)
    simp only [laws_eqByteS_l4, e1, cond_false]
    rfl
theorem laws_eqGrid_ok (a : (Int × (Int × ((List Int) × Unit)))) (h : Sized (.pair (.int .i64) (.pair (.int .i64) (.pair (.list (.int .u8)) (.unit)))) a) : laws_eqGrid a a = some ((true, ()), ()) := by
  simp only [laws_eqGrid, iEq_self, bEq_self, sEq_self, fConv32_eq, laws_eqByteS_ok a.2.2.1 h.2.2.1, Bool.not_true, cond_false, Option.bind_some]
def laws_markByteS_mk (n : Int) (_ : Int) : Int × Int := (iAdd .i64 n 1, iWrap .u8 n)
theorem laws_markByteS_ok (a : List Int) (n : Int) (hl : a.length ≤ 140737488355328) : laws_markByteS a n = some (((markL laws_markByteS_mk n a).1, ()), ((markL laws_markByteS_mk n a).2, ())) := by
  unfold laws_markByteS
  refine mark_loop (fun i l hi n hll => ?_) (fun l n hll => ?_) n
  · have e1 : iLt (i : Int) (lenI l) = true := iLt_pos (by rw [lenI_eq]; omega)
    have e2 : inB (i : Int) l.length = true := inB_pos hi
    have e5 : iAdd .i64 (i : Int) 1 = ((i + 1 : Nat) : Int) := iAdd_one hi (by omega)
    have e6 : ∀ v, (l.set i v).getD i (0 : Int) = v := fun v => getD_set_self hi
    simp only [laws_markByteS_l2, e1, e2, e5, e6, List.length_set, List.set_set, Int.toNat_natCast, cond_true]
    rfl
  · have e1 : iLt (l.length : Int) (lenI l) = false := iLt_neg (by rw [lenI_eq]; omega)
    simp only [laws_markByteS_l2, e1, cond_false]
    rfl
theorem laws_markByteS_n (a : List Int) (hl : a.length ≤ 140737488355328) (n : Int) (h0 : 0 ≤ n) (h1 : n ≤ 1000000000000000000) : (markL laws_markByteS_mk n a).1 = n + 1 * a.length := by
  refine markL_count (k := 1) (fun n x h0 hn => ?_) a n h0 (by omega)
  simp only [laws_markByteS_mk]
  rw [iAdd_eq (a := n) (b := 1) (by omega) (by omega)]
  omega
theorem laws_markByteS_exm (a : List Int) (h : Sized (.list (.int .u8)) a) (n : Int) (h0 : 0 ≤ n) (h1 : n ≤ 999859262511644672) : ∃ (m : Int) (l : List Int), laws_markByteS a n = some ((m, ()), (l, ())) ∧ n ≤ m ∧ m ≤ n + 140737488355328 := by
  have hl : a.length ≤ 140737488355328 := h.1
  have e := laws_markByteS_n a hl n h0 (by omega)
  exact ⟨_, _, laws_markByteS_ok a n hl, by rw [e]; omega, by rw [e]; omega⟩
theorem laws_markGrid_exm (a : (Int × (Int × ((List Int) × Unit)))) (h : Sized (.pair (.int .i64) (.pair (.int .i64) (.pair (.list (.int .u8)) (.unit)))) a) (n : Int) (h0 : 0 ≤ n) (h1 : n ≤ 999859262511644672) : ∃ (m : Int) (l2 : (List Int)), laws_markGrid a n = some ((m, ()), ((a.1, a.2.1, l2, a.2.2.2), ())) ∧ n ≤ m ∧ m ≤ n + 140737488355328 := by
  obtain ⟨m2, l2, e2, b2, c2⟩ := laws_markByteS_exm a.2.2.1 h.2.2.1 n (by omega) (by omega)
  refine ⟨m2, l2, ?_, by omega, by omega⟩
  simp only [laws_markGrid, e2, Option.bind_some]
theorem laws_toDeed_ok (a : (Int × (Int × (Int × Unit)))) : laws_toDeed a = some ((a, ()), ()) := rfl
theorem laws_sameFloat_ok (a : Nat) : laws_sameFloat a a = some ((true, ()), ()) := by
  unfold laws_sameFloat
  rw [fEq_self]
  cases isNan .f64 a
  · simp only [Bool.not_false, Bool.not_true, cond_false, cond_true, bEq_self]
    cases fEq .f64 a 0 <;> rfl
  · rfl
-- slices_Index_string: by hand
theorem laws_eqDeed_ok (a : (Int × (Int × (Int × Unit)))) : laws_eqDeed a a = some ((true, ()), ()) := by
  simp only [laws_eqDeed, iEq_self, bEq_self, sEq_self, fConv32_eq, Bool.not_true, cond_false, Option.bind_some]
theorem laws_eqVec_ok (a : (Vec 3 Nat)) : laws_eqVec a a = some ((true, ()), ()) := by
  simp only [laws_eqVec, iEq_self, bEq_self, sEq_self, fConv32_eq, laws_sameFloat_ok, Bool.not_true, cond_false, Option.bind_some]
theorem laws_eqLeg_ok (a : (Int × ((Vec 3 Nat) × (Int × (Int × Unit))))) : laws_eqLeg a a = some ((true, ()), ()) := by
  simp only [laws_eqLeg, iEq_self, bEq_self, sEq_self, fConv32_eq, laws_eqVec_ok, Bool.not_true, cond_false, Option.bind_some]
theorem laws_eqLegS_ok (a : List (Int × ((Vec 3 Nat) × (Int × (Int × Unit))))) (h : Sized (.list (.pair (.int .i64) (.pair (.arr 3 (.flt .f32)) (.pair (.int .i64) (.pair (.int .i64) (.unit)))))) a) : laws_eqLegS a a = some ((true, ()), ()) := by
  have hl : a.length ≤ 140737488355328 := h.1
  unfold laws_eqLegS
  simp only [iEq_self, Bool.not_true, cond_false]
  refine all_loop (n := a.length) (fun i hi => ?_) ?_
  · have e1 : iLt (i : Int) (lenI a) = true := iLt_pos (by rw [lenI_eq]; omega)
    have e2 : inB (i : Int) a.length = true := inB_pos hi
    have e5 : iAdd .i64 (i : Int) 1 = ((i + 1 : Nat) : Int) := iAdd_one hi (by omega)
    have e4 : a.getD i ((0, (0, 0, 0, ()), 0, 0, ()) : (Int × ((Vec 3 Nat) × (Int × (Int × Unit))))) = a[i] := getD_of hi
    simp only [laws_eqLegS_l4, e1, e2, e4, e5, Int.toNat_natCast, laws_eqLeg_ok _, Option.bind_some, Bool.not_true, cond_true, cond_false]
  · have e1 : iLt (a.length : Int) (lenI a) = false := iLt_neg (by rw [lenI_eq]; omega)
    simp only [laws_eqLegS_l4, e1, cond_false]
    rfl
theorem laws_eqVecS_ok (a : List (Vec 3 Nat)) (h : Sized (.list (.arr 3 (.flt .f32))) a) : laws_eqVecS a a = some ((true, ()), ()) := by
  have hl : a.length ≤ 140737488355328 := h.1
  unfold laws_eqVecS
  simp only [iEq_self, Bool.not_true, cond_false]
  refine all_loop (n := a.length) (fun i hi => ?_) ?_
  · have e1 : iLt (i : Int) (lenI a) = true := iLt_pos (by rw [lenI_eq]; omega)
    have e2 : inB (i : Int) a.length = true := inB_pos hi
    have e5 : iAdd .i64 (i : Int) 1 = ((i + 1 : Nat) : Int) := iAdd_one hi (by omega)
    have e4 : a.getD i ((0, 0, 0, ()) : (Vec 3 Nat)) = a[i] := getD_of hi
    simp only [laws_eqVecS_l4, e1, e2, e4, e5, Int.toNat_natCast, laws_eqVec_ok _, Option.bind_some, Bool.not_true, cond_true, cond_false]
  · have e1 : iLt (a.length : Int) (lenI a) = false := iLt_neg (by rw [lenI_eq]; omega)
    simp only [laws_eqVecS_l4, e1, cond_false]
    rfl
theorem laws_eqMission_ok (a : (Int × ((Vec 3 Nat) × ((List (Vec 3 Nat)) × ((List (Int × ((Vec 3 Nat) × (Int × (Int × Unit))))) × Unit))))) (h : Sized (.pair (.int .i64) (.pair (.arr 3 (.flt .f32)) (.pair (.list (.arr 3 (.flt .f32))) (.pair (.list (.pair (.int .i64) (.pair (.arr 3 (.flt .f32)) (.pair (.int .i64) (.pair (.int .i64) (.unit)))))) (.unit))))) a) : laws_eqMission a a = some ((true, ()), ()) := by
  simp only [laws_eqMission, iEq_self, bEq_self, sEq_self, fConv32_eq, laws_eqVecS_ok a.2.2.1 h.2.2.1, laws_eqLegS_ok a.2.2.2.1 h.2.2.2.1, laws_eqVec_ok, Bool.not_true, cond_false, Option.bind_some]
def laws_markLegS_mk (n : Int) (_ : (Int × ((Vec 3 Nat) × (Int × (Int × Unit))))) : Int × (Int × ((Vec 3 Nat) × (Int × (Int × Unit)))) := (iAdd .i64 (iAdd .i64 (iAdd .i64 (iAdd .i64 (iAdd .i64 (iAdd .i64 n 1) 1) 1) 1) 1) 1, (n, ((fOfInt .f32 (iAdd .i64 n 1), fOfInt .f32 (iAdd .i64 (iAdd .i64 n 1) 1), fOfInt .f32 (iAdd .i64 (iAdd .i64 (iAdd .i64 n 1) 1) 1), ()), ((iAdd .i64 (iAdd .i64 (iAdd .i64 (iAdd .i64 n 1) 1) 1) 1), ((iAdd .i64 (iAdd .i64 (iAdd .i64 (iAdd .i64 (iAdd .i64 n 1) 1) 1) 1) 1), ())))))
theorem laws_markLegS_ok (a : List (Int × ((Vec 3 Nat) × (Int × (Int × Unit))))) (n : Int) (hl : a.length ≤ 140737488355328) : laws_markLegS a n = some (((markL laws_markLegS_mk n a).1, ()), ((markL laws_markLegS_mk n a).2, ())) := by
  unfold laws_markLegS
  refine mark_loop (fun i l hi n hll => ?_) (fun l n hll => ?_) n
  · have e1 : iLt (i : Int) (lenI l) = true := iLt_pos (by rw [lenI_eq]; omega)
    have e2 : inB (i : Int) l.length = true := inB_pos hi
    have e5 : iAdd .i64 (i : Int) 1 = ((i + 1 : Nat) : Int) := iAdd_one hi (by omega)
    have e6 : ∀ v, (l.set i v).getD i ((0, (0, 0, 0, ()), 0, 0, ()) : (Int × ((Vec 3 Nat) × (Int × (Int × Unit))))) = v := fun v => getD_set_self hi
    simp only [laws_markLegS_l2, e1, e2, e5, e6, List.length_set, List.set_set, Int.toNat_natCast, cond_true]
    rfl
  · have e1 : iLt (l.length : Int) (lenI l) = false := iLt_neg (by rw [lenI_eq]; omega)
    simp only [laws_markLegS_l2, e1, cond_false]
    rfl
theorem laws_markLegS_n (a : List (Int × ((Vec 3 Nat) × (Int × (Int × Unit))))) (hl : a.length ≤ 140737488355328) (n : Int) (h0 : 0 ≤ n) (h1 : n ≤ 1000000000000000000) : (markL laws_markLegS_mk n a).1 = n + 6 * a.length := by
  refine markL_count (k := 6) (fun n x h0 hn => ?_) a n h0 (by omega)
  simp only [laws_markLegS_mk]
  rw [iAdd_eq (a := n) (b := 1) (by omega) (by omega), iAdd_eq (a := n + 1) (b := 1) (by omega) (by omega), iAdd_eq (a := n + 1 + 1) (b := 1) (by omega) (by omega), iAdd_eq (a := n + 1 + 1 + 1) (b := 1) (by omega) (by omega), iAdd_eq (a := n + 1 + 1 + 1 + 1) (b := 1) (by omega) (by omega), iAdd_eq (a := n + 1 + 1 + 1 + 1 + 1) (b := 1) (by omega) (by omega)]
  omega
theorem laws_markLegS_exm (a : List (Int × ((Vec 3 Nat) × (Int × (Int × Unit))))) (h : Sized (.list (.pair (.int .i64) (.pair (.arr 3 (.flt .f32)) (.pair (.int .i64) (.pair (.int .i64) (.unit)))))) a) (n : Int) (h0 : 0 ≤ n) (h1 : n ≤ 999155575069868032) : ∃ (m : Int) (l : List (Int × ((Vec 3 Nat) × (Int × (Int × Unit))))), laws_markLegS a n = some ((m, ()), (l, ())) ∧ n ≤ m ∧ m ≤ n + 844424930131968 := by
  have hl : a.length ≤ 140737488355328 := h.1
  have e := laws_markLegS_n a hl n h0 (by omega)
  exact ⟨_, _, laws_markLegS_ok a n hl, by rw [e]; omega, by rw [e]; omega⟩
def laws_markVecS_mk (n : Int) (_ : (Vec 3 Nat)) : Int × (Vec 3 Nat) := (iAdd .i64 (iAdd .i64 (iAdd .i64 n 1) 1) 1, (fOfInt .f32 n, fOfInt .f32 (iAdd .i64 n 1), fOfInt .f32 (iAdd .i64 (iAdd .i64 n 1) 1), ()))
theorem laws_markVecS_ok (a : List (Vec 3 Nat)) (n : Int) (hl : a.length ≤ 140737488355328) : laws_markVecS a n = some (((markL laws_markVecS_mk n a).1, ()), ((markL laws_markVecS_mk n a).2, ())) := by
  unfold laws_markVecS
  refine mark_loop (fun i l hi n hll => ?_) (fun l n hll => ?_) n
  · have e1 : iLt (i : Int) (lenI l) = true := iLt_pos (by rw [lenI_eq]; omega)
    have e2 : inB (i : Int) l.length = true := inB_pos hi
    have e5 : iAdd .i64 (i : Int) 1 = ((i + 1 : Nat) : Int) := iAdd_one hi (by omega)
    have e6 : ∀ v, (l.set i v).getD i ((0, 0, 0, ()) : (Vec 3 Nat)) = v := fun v => getD_set_self hi
    simp only [laws_markVecS_l2, e1, e2, e5, e6, List.length_set, List.set_set, Int.toNat_natCast, cond_true]
    rfl
  · have e1 : iLt (l.length : Int) (lenI l) = false := iLt_neg (by rw [lenI_eq]; omega)
    simp only [laws_markVecS_l2, e1, cond_false]
    rfl
theorem laws_markVecS_n (a : List (Vec 3 Nat)) (hl : a.length ≤ 140737488355328) (n : Int) (h0 : 0 ≤ n) (h1 : n ≤ 1000000000000000000) : (markL laws_markVecS_mk n a).1 = n + 3 * a.length := by
  refine markL_count (k := 3) (fun n x h0 hn => ?_) a n h0 (by omega)
  simp only [laws_markVecS_mk]
  rw [iAdd_eq (a := n) (b := 1) (by omega) (by omega), iAdd_eq (a := n + 1) (b := 1) (by omega) (by omega), iAdd_eq (a := n + 1 + 1) (b := 1) (by omega) (by omega)]
  omega
theorem laws_markVecS_exm (a : List (Vec 3 Nat)) (h : Sized (.list (.arr 3 (.flt .f32))) a) (n : Int) (h0 : 0 ≤ n) (h1 : n ≤ 999577787534934016) : ∃ (m : Int) (l : List (Vec 3 Nat)), laws_markVecS a n = some ((m, ()), (l, ())) ∧ n ≤ m ∧ m ≤ n + 422212465065984 := by
  have hl : a.length ≤ 140737488355328 := h.1
  have e := laws_markVecS_n a hl n h0 (by omega)
  exact ⟨_, _, laws_markVecS_ok a n hl, by rw [e]; omega, by rw [e]; omega⟩
theorem laws_markMission_exm (a : (Int × ((Vec 3 Nat) × ((List (Vec 3 Nat)) × ((List (Int × ((Vec 3 Nat) × (Int × (Int × Unit))))) × Unit))))) (h : Sized (.pair (.int .i64) (.pair (.arr 3 (.flt .f32)) (.pair (.list (.arr 3 (.flt .f32))) (.pair (.list (.pair (.int .i64) (.pair (.arr 3 (.flt .f32)) (.pair (.int .i64) (.pair (.int .i64) (.unit)))))) (.unit))))) a) (n : Int) (h0 : 0 ≤ n) (h1 : n ≤ 998733362604802048) : ∃ (m : Int) (l2 : (List (Vec 3 Nat))) (l3 : (List (Int × ((Vec 3 Nat) × (Int × (Int × Unit)))))), laws_markMission a n = some ((m, ()), ((a.1, a.2.1, l2, l3, a.2.2.2.2), ())) ∧ n ≤ m ∧ m ≤ n + 1266637395197952 := by
  obtain ⟨m2, l2, e2, b2, c2⟩ := laws_markVecS_exm a.2.2.1 h.2.2.1 n (by omega) (by omega)
  obtain ⟨m3, l3, e3, b3, c3⟩ := laws_markLegS_exm a.2.2.2.1 h.2.2.2.1 m2 (by omega) (by omega)
  refine ⟨m3, l2, l3, ?_, by omega, by omega⟩
  simp only [laws_markMission, e2, e3, Option.bind_some]
theorem laws_heldByteS_ok (a : List Int) (n : Int) (hl : a.length ≤ 140737488355328) : laws_heldByteS (markL laws_markByteS_mk n a).2 n = some (((markL laws_markByteS_mk n a).1, ()), ()) := by
  have hlen := markL_length laws_markByteS_mk n a
  unfold laws_heldByteS
  refine held_loop (mk := laws_markByteS_mk) (a := a) (fun i hi m x hx => ?_) (fun m => ?_)
  · have e1 : iLt (i : Int) (lenI (markL laws_markByteS_mk n a).2) = true := iLt_pos (by rw [lenI_eq]; omega)
    have e2 : inB (i : Int) (markL laws_markByteS_mk n a).2.length = true := inB_pos hi
    have e4 : (markL laws_markByteS_mk n a).2.getD i (0 : Int) = (laws_markByteS_mk m x).2 := (getD_of hi).trans hx
    have e5 : iAdd .i64 (i : Int) 1 = ((i + 1 : Nat) : Int) := iAdd_one hi (by omega)
    simp only [laws_heldByteS_l2, e1, e2, e4, e5, Int.toNat_natCast, laws_markByteS_mk, Vec.getD, iEq_self, fEq_ofInt, Bool.not_true, cond_true, cond_false]
  · have e1 : iLt ((markL laws_markByteS_mk n a).2.length : Int) (lenI (markL laws_markByteS_mk n a).2) = false := iLt_neg (by rw [lenI_eq]; omega)
    simp only [laws_heldByteS_l2, e1, cond_false]
    rfl
theorem laws_markByteS_ex (a : (List Int)) (h : Sized (.list (.int .u8)) a) (n : Int) (h0 : 0 ≤ n) (h1 : n ≤ 999859262511644672) : ∃ (m : Int) (l : (List Int)), laws_markByteS a n = some ((m, ()), (l, ())) ∧ n ≤ m ∧ m ≤ n + 140737488355328 ∧ laws_heldByteS l n = some ((m, ()), ()) := by
  have hl : a.length ≤ 140737488355328 := h.1
  have e := laws_markByteS_n a hl n h0 (by omega)
  exact ⟨_, _, laws_markByteS_ok a n hl, by rw [e]; omega, by rw [e]; omega, laws_heldByteS_ok a n hl⟩
theorem laws_markGrid_ex (a : (Int × (Int × ((List Int) × Unit)))) (h : Sized (.pair (.int .i64) (.pair (.int .i64) (.pair (.list (.int .u8)) (.unit)))) a) (n : Int) (h0 : 0 ≤ n) (h1 : n ≤ 999859262511644672) : ∃ (m : Int) (l2 : (List Int)), laws_markGrid a n = some ((m, ()), ((a.1, a.2.1, l2, a.2.2.2), ())) ∧ n ≤ m ∧ m ≤ n + 140737488355328 ∧ laws_heldGrid (a.1, a.2.1, l2, a.2.2.2) n = some ((m, ()), ()) := by
  obtain ⟨m2, l2, e2, b2, c2, d2⟩ := laws_markByteS_ex a.2.2.1 h.2.2.1 n (by omega) (by omega)
  refine ⟨m2, l2, ?_, by omega, by omega, ?_⟩
  · simp only [laws_markGrid, e2, Option.bind_some]
  · simp only [laws_heldGrid, d2, iLt_neg (show ¬ m2 < 0 by omega), Option.bind_some, cond_false]
theorem laws_heldLegS_ok (a : List (Int × ((Vec 3 Nat) × (Int × (Int × Unit))))) (n : Int) (hl : a.length ≤ 140737488355328) : laws_heldLegS (markL laws_markLegS_mk n a).2 n = some (((markL laws_markLegS_mk n a).1, ()), ()) := by
  have hlen := markL_length laws_markLegS_mk n a
  unfold laws_heldLegS
  refine held_loop (mk := laws_markLegS_mk) (a := a) (fun i hi m x hx => ?_) (fun m => ?_)
  · have e1 : iLt (i : Int) (lenI (markL laws_markLegS_mk n a).2) = true := iLt_pos (by rw [lenI_eq]; omega)
    have e2 : inB (i : Int) (markL laws_markLegS_mk n a).2.length = true := inB_pos hi
    have e4 : (markL laws_markLegS_mk n a).2.getD i ((0, (0, 0, 0, ()), 0, 0, ()) : (Int × ((Vec 3 Nat) × (Int × (Int × Unit))))) = (laws_markLegS_mk m x).2 := (getD_of hi).trans hx
    have e5 : iAdd .i64 (i : Int) 1 = ((i + 1 : Nat) : Int) := iAdd_one hi (by omega)
    simp only [laws_heldLegS_l2, e1, e2, e4, e5, Int.toNat_natCast, laws_markLegS_mk, Vec.getD, iEq_self, fEq_ofInt, Bool.not_true, cond_true, cond_false]
  · have e1 : iLt ((markL laws_markLegS_mk n a).2.length : Int) (lenI (markL laws_markLegS_mk n a).2) = false := iLt_neg (by rw [lenI_eq]; omega)
    simp only [laws_heldLegS_l2, e1, cond_false]
    rfl
theorem laws_markLegS_ex (a : (List (Int × ((Vec 3 Nat) × (Int × (Int × Unit)))))) (h : Sized (.list (.pair (.int .i64) (.pair (.arr 3 (.flt .f32)) (.pair (.int .i64) (.pair (.int .i64) (.unit)))))) a) (n : Int) (h0 : 0 ≤ n) (h1 : n ≤ 999155575069868032) : ∃ (m : Int) (l : (List (Int × ((Vec 3 Nat) × (Int × (Int × Unit)))))), laws_markLegS a n = some ((m, ()), (l, ())) ∧ n ≤ m ∧ m ≤ n + 844424930131968 ∧ laws_heldLegS l n = some ((m, ()), ()) := by
  have hl : a.length ≤ 140737488355328 := h.1
  have e := laws_markLegS_n a hl n h0 (by omega)
  exact ⟨_, _, laws_markLegS_ok a n hl, by rw [e]; omega, by rw [e]; omega, laws_heldLegS_ok a n hl⟩
theorem laws_heldVecS_ok (a : List (Vec 3 Nat)) (n : Int) (hl : a.length ≤ 140737488355328) : laws_heldVecS (markL laws_markVecS_mk n a).2 n = some (((markL laws_markVecS_mk n a).1, ()), ()) := by
  have hlen := markL_length laws_markVecS_mk n a
  unfold laws_heldVecS
  refine held_loop (mk := laws_markVecS_mk) (a := a) (fun i hi m x hx => ?_) (fun m => ?_)
  · have e1 : iLt (i : Int) (lenI (markL laws_markVecS_mk n a).2) = true := iLt_pos (by rw [lenI_eq]; omega)
    have e2 : inB (i : Int) (markL laws_markVecS_mk n a).2.length = true := inB_pos hi
    have e4 : (markL laws_markVecS_mk n a).2.getD i ((0, 0, 0, ()) : (Vec 3 Nat)) = (laws_markVecS_mk m x).2 := (getD_of hi).trans hx
    have e5 : iAdd .i64 (i : Int) 1 = ((i + 1 : Nat) : Int) := iAdd_one hi (by omega)
    simp only [laws_heldVecS_l2, e1, e2, e4, e5, Int.toNat_natCast, laws_markVecS_mk, Vec.getD, iEq_self, fEq_ofInt, Bool.not_true, cond_true, cond_false]
  · have e1 : iLt ((markL laws_markVecS_mk n a).2.length : Int) (lenI (markL laws_markVecS_mk n a).2) = false := iLt_neg (by rw [lenI_eq]; omega)
    simp only [laws_heldVecS_l2, e1, cond_false]
    rfl
theorem laws_markVecS_ex (a : (List (Vec 3 Nat))) (h : Sized (.list (.arr 3 (.flt .f32))) a) (n : Int) (h0 : 0 ≤ n) (h1 : n ≤ 999577787534934016) : ∃ (m : Int) (l : (List (Vec 3 Nat))), laws_markVecS a n = some ((m, ()), (l, ())) ∧ n ≤ m ∧ m ≤ n + 422212465065984 ∧ laws_heldVecS l n = some ((m, ()), ()) := by
  have hl : a.length ≤ 140737488355328 := h.1
  have e := laws_markVecS_n a hl n h0 (by omega)
  exact ⟨_, _, laws_markVecS_ok a n hl, by rw [e]; omega, by rw [e]; omega, laws_heldVecS_ok a n hl⟩
theorem laws_markMission_ex (a : (Int × ((Vec 3 Nat) × ((List (Vec 3 Nat)) × ((List (Int × ((Vec 3 Nat) × (Int × (Int × Unit))))) × Unit))))) (h : Sized (.pair (.int .i64) (.pair (.arr 3 (.flt .f32)) (.pair (.list (.arr 3 (.flt .f32))) (.pair (.list (.pair (.int .i64) (.pair (.arr 3 (.flt .f32)) (.pair (.int .i64) (.pair (.int .i64) (.unit)))))) (.unit))))) a) (n : Int) (h0 : 0 ≤ n) (h1 : n ≤ 998733362604802048) : ∃ (m : Int) (l2 : (List (Vec 3 Nat))) (l3 : (List (Int × ((Vec 3 Nat) × (Int × (Int × Unit)))))), laws_markMission a n = some ((m, ()), ((a.1, a.2.1, l2, l3, a.2.2.2.2), ())) ∧ n ≤ m ∧ m ≤ n + 1266637395197952 ∧ laws_heldMission (a.1, a.2.1, l2, l3, a.2.2.2.2) n = some ((m, ()), ()) := by
  obtain ⟨m2, l2, e2, b2, c2, d2⟩ := laws_markVecS_ex a.2.2.1 h.2.2.1 n (by omega) (by omega)
  obtain ⟨m3, l3, e3, b3, c3, d3⟩ := laws_markLegS_ex a.2.2.2.1 h.2.2.2.1 m2 (by omega) (by omega)
  refine ⟨m3, l2, l3, ?_, by omega, by omega, ?_⟩
  · simp only [laws_markMission, e2, e3, Option.bind_some]
  · simp only [laws_heldMission, d2, d3, iLt_neg (show ¬ m2 < 0 by omega), iLt_neg (show ¬ m3 < 0 by omega), Option.bind_some, cond_false]
end Go.Proofs.YtdmaamakckochaaDoor
