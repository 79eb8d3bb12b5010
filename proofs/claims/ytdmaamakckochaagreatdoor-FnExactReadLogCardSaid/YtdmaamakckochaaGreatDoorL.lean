/- The laws' helpers in plain terms: they copy, compare and mark. -/
import Derived.Test.YtdmaamakckochaaGreatDoorF2
import Derived.Test.YtdmaamakckochaaGreatDoorB
namespace Go.Proofs.YtdmaamakckochaaGreatDoor
open Go Go.Tm
set_option linter.unusedVariables false
set_option linter.unusedSimpArgs false
theorem slices_IndexFunc_impl_Vec_ok (a : List (Vec 3 Nat)) (f : ((Vec 3 Nat) × Unit) → Option Bool) (p : (Vec 3 Nat) → Bool) (hl : a.length ≤ 140737488355328) (hp : ∀ x ∈ a, f (x, ()) = some (p x)) : slices_IndexFunc_impl_Vec a f = some ((indexOf p a, ()), ()) := by
  unfold slices_IndexFunc_impl_Vec
  refine index_loop (fun i hi => ?_) ?_
  · have e1 : iLt (i : Int) (lenI a) = true := iLt_pos (by rw [lenI_eq]; omega)
    have e2 : inB (i : Int) a.length = true := inB_pos hi
    have e4 : a.getD i ((0, 0, 0, ()) : (Vec 3 Nat)) = a[i] := getD_of hi
    have e5 : iAdd .i64 (i : Int) 1 = ((i + 1 : Nat) : Int) := iAdd_one hi (by omega)
    have e6 := hp a[i] (List.getElem_mem hi)
    simp only [slices_IndexFunc_impl_Vec_l2, e1, e2, Int.toNat_natCast, e4, e5, e6, Option.bind_some, cond_true]
    cases p a[i] <;> rfl
  · have e1 : iLt (a.length : Int) (lenI a) = false := iLt_neg (by rw [lenI_eq]; omega)
    simp only [slices_IndexFunc_impl_Vec_l2, e1, cond_false]
    rfl
theorem slices_ContainsFunc_impl_Vec_ok (a : List (Vec 3 Nat)) (f : ((Vec 3 Nat) × Unit) → Option Bool) (p : (Vec 3 Nat) → Bool) (hl : a.length ≤ 140737488355328) (hp : ∀ x ∈ a, f (x, ()) = some (p x)) : slices_ContainsFunc_impl_Vec a f = some ((a.any p, ()), ()) := by
  simp only [slices_ContainsFunc_impl_Vec, slices_IndexFunc_impl_Vec_ok a f p hl hp, Option.bind_some, indexOf_any]
theorem slices_IndexFunc_impl_Entry_ok (a : List (Int × ((Vec 3 Nat) × ((Vec 3 Int) × (Int × (Nat × Unit)))))) (f : ((Int × ((Vec 3 Nat) × ((Vec 3 Int) × (Int × (Nat × Unit))))) × Unit) → Option Bool) (p : (Int × ((Vec 3 Nat) × ((Vec 3 Int) × (Int × (Nat × Unit))))) → Bool) (hl : a.length ≤ 140737488355328) (hp : ∀ x ∈ a, f (x, ()) = some (p x)) : slices_IndexFunc_impl_Entry a f = some ((indexOf p a, ()), ()) := by
  unfold slices_IndexFunc_impl_Entry
  refine index_loop (fun i hi => ?_) ?_
  · have e1 : iLt (i : Int) (lenI a) = true := iLt_pos (by rw [lenI_eq]; omega)
    have e2 : inB (i : Int) a.length = true := inB_pos hi
    have e4 : a.getD i ((0, (0, 0, 0, ()), (0, 0, 0, ()), 0, 0, ()) : (Int × ((Vec 3 Nat) × ((Vec 3 Int) × (Int × (Nat × Unit)))))) = a[i] := getD_of hi
    have e5 : iAdd .i64 (i : Int) 1 = ((i + 1 : Nat) : Int) := iAdd_one hi (by omega)
    have e6 := hp a[i] (List.getElem_mem hi)
    simp only [slices_IndexFunc_impl_Entry_l2, e1, e2, Int.toNat_natCast, e4, e5, e6, Option.bind_some, cond_true]
    cases p a[i] <;> rfl
  · have e1 : iLt (a.length : Int) (lenI a) = false := iLt_neg (by rw [lenI_eq]; omega)
    simp only [slices_IndexFunc_impl_Entry_l2, e1, cond_false]
    rfl
theorem slices_ContainsFunc_impl_Entry_ok (a : List (Int × ((Vec 3 Nat) × ((Vec 3 Int) × (Int × (Nat × Unit)))))) (f : ((Int × ((Vec 3 Nat) × ((Vec 3 Int) × (Int × (Nat × Unit))))) × Unit) → Option Bool) (p : (Int × ((Vec 3 Nat) × ((Vec 3 Int) × (Int × (Nat × Unit))))) → Bool) (hl : a.length ≤ 140737488355328) (hp : ∀ x ∈ a, f (x, ()) = some (p x)) : slices_ContainsFunc_impl_Entry a f = some ((a.any p, ()), ()) := by
  simp only [slices_ContainsFunc_impl_Entry, slices_IndexFunc_impl_Entry_ok a f p hl hp, Option.bind_some, indexOf_any]
theorem laws_eqCounts_ok (a : (Vec 3 Int)) : laws_eqCounts a a = some ((true, ()), ()) := by
  simp only [laws_eqCounts, iEq_self, bEq_self, sEq_self, fConv32_eq, Bool.not_true, cond_false, Option.bind_some]
theorem laws_sameFloat_ok (a : Nat) : laws_sameFloat a a = some ((true, ()), ()) := by
  unfold laws_sameFloat
  rw [fEq_self]
  cases isNan .f64 a
  · simp only [Bool.not_false, Bool.not_true, cond_false, cond_true, bEq_self]
    cases fEq .f64 a 0 <;> rfl
  · rfl
theorem laws_eqVec_ok (a : (Vec 3 Nat)) : laws_eqVec a a = some ((true, ()), ()) := by
  simp only [laws_eqVec, iEq_self, bEq_self, sEq_self, fConv32_eq, laws_sameFloat_ok, Bool.not_true, cond_false, Option.bind_some]
theorem laws_eqEntry_ok (a : (Int × ((Vec 3 Nat) × ((Vec 3 Int) × (Int × (Nat × Unit)))))) : laws_eqEntry a a = some ((true, ()), ()) := by
  simp only [laws_eqEntry, iEq_self, bEq_self, sEq_self, fConv32_eq, laws_eqCounts_ok, laws_eqVec_ok, laws_sameFloat_ok, Bool.not_true, cond_false, Option.bind_some]
theorem laws_eqEntryS_ok (a : List (Int × ((Vec 3 Nat) × ((Vec 3 Int) × (Int × (Nat × Unit)))))) (h : Sized (.list (.pair (.int .i64) (.pair (.arr 3 (.flt .f32)) (.pair (.arr 3 (.int .i16)) (.pair (.int .i64) (.pair (.flt .f32) (.unit))))))) a) : laws_eqEntryS a a = some ((true, ()), ()) := by
  have hl : a.length ≤ 140737488355328 := h.1
  unfold laws_eqEntryS
  simp only [iEq_self, Bool.not_true, cond_false]
  refine all_loop (n := a.length) (fun i hi => ?_) ?_
  · have e1 : iLt (i : Int) (lenI a) = true := iLt_pos (by rw [lenI_eq]; omega)
    have e2 : inB (i : Int) a.length = true := inB_pos hi
    have e5 : iAdd .i64 (i : Int) 1 = ((i + 1 : Nat) : Int) := iAdd_one hi (by omega)
    have e4 : a.getD i ((0, (0, 0, 0, ()), (0, 0, 0, ()), 0, 0, ()) : (Int × ((Vec 3 Nat) × ((Vec 3 Int) × (Int × (Nat × Unit)))))) = a[i] := getD_of hi
    simp only [laws_eqEntryS_l4, e1, e2, e4, e5, Int.toNat_natCast, laws_eqEntry_ok _, Option.bind_some, Bool.not_true, cond_true, cond_false]
  · have e1 : iLt (a.length : Int) (lenI a) = false := iLt_neg (by rw [lenI_eq]; omega)
    simp only [laws_eqEntryS_l4, e1, cond_false]
    rfl
theorem laws_eqVecS_ok (a : List (Vec 3 Nat)) (h : Sized (.list (.arr 3 (.flt .f32))) a) : laws_eqVecS a a = some ((true, ()), ()) := by
  have hl : a.length ≤ 140737488355328 := h.1
  unfold laws_eqVecS
  simp only [iEq_self, Bool.not_true, cond_false]
  refine all_loop (n := a.length) (fun i hi => ?_) ?_
  · have e1 : iLt (i : Int) (lenI a) = true := iLt_pos (by rw [lenI_eq]; omega)
    have e2 : inB (i : Int) a.length = true := inB_pos hi
    have e5 : iAdd .i64 (i : Int) 1 = ((i + 1 : Nat) : Int) := iAdd_one hi (by omega)
    have e4 : a.getD i ((0, 0, 0, ()) : (Vec 3 Nat)) = a[i] := getD_of hi
    simp only [laws_eqVecS_l4, e1, e2, e4, e5, Int.toNat_natCast, laws_eqVec_ok _, Option.bind_some, Bool.not_true, cond_true, cond_false]
  · have e1 : iLt (a.length : Int) (lenI a) = false := iLt_neg (by rw [lenI_eq]; omega)
    simp only [laws_eqVecS_l4, e1, cond_false]
    rfl
theorem laws_eqLog_ok (a : (Int × ((Vec 3 Nat) × ((List (Vec 3 Nat)) × ((List (Int × ((Vec 3 Nat) × ((Vec 3 Int) × (Int × (Nat × Unit)))))) × Unit))))) (h : Sized (.pair (.int .i64) (.pair (.arr 3 (.flt .f32)) (.pair (.list (.arr 3 (.flt .f32))) (.pair (.list (.pair (.int .i64) (.pair (.arr 3 (.flt .f32)) (.pair (.arr 3 (.int .i16)) (.pair (.int .i64) (.pair (.flt .f32) (.unit))))))) (.unit))))) a) : laws_eqLog a a = some ((true, ()), ()) := by
  simp only [laws_eqLog, iEq_self, bEq_self, sEq_self, fConv32_eq, laws_eqVecS_ok a.2.2.1 h.2.2.1, laws_eqEntryS_ok a.2.2.2.1 h.2.2.2.1, laws_eqVec_ok, Bool.not_true, cond_false, Option.bind_some]
def laws_markEntryS_mk (n : Int) (_ : (Int × ((Vec 3 Nat) × ((Vec 3 Int) × (Int × (Nat × Unit)))))) : Int × (Int × ((Vec 3 Nat) × ((Vec 3 Int) × (Int × (Nat × Unit))))) := (iAdd .i64 (iAdd .i64 (iAdd .i64 (iAdd .i64 (iAdd .i64 (iAdd .i64 (iAdd .i64 (iAdd .i64 (iAdd .i64 n 1) 1) 1) 1) 1) 1) 1) 1) 1, (n, ((fOfInt .f32 (iAdd .i64 n 1), fOfInt .f32 (iAdd .i64 (iAdd .i64 n 1) 1), fOfInt .f32 (iAdd .i64 (iAdd .i64 (iAdd .i64 n 1) 1) 1), ()), ((iWrap .i16 (iAdd .i64 (iAdd .i64 (iAdd .i64 (iAdd .i64 n 1) 1) 1) 1), iWrap .i16 (iAdd .i64 (iAdd .i64 (iAdd .i64 (iAdd .i64 (iAdd .i64 n 1) 1) 1) 1) 1), iWrap .i16 (iAdd .i64 (iAdd .i64 (iAdd .i64 (iAdd .i64 (iAdd .i64 (iAdd .i64 n 1) 1) 1) 1) 1) 1), ()), ((iAdd .i64 (iAdd .i64 (iAdd .i64 (iAdd .i64 (iAdd .i64 (iAdd .i64 (iAdd .i64 n 1) 1) 1) 1) 1) 1) 1), (fOfInt .f32 (iAdd .i64 (iAdd .i64 (iAdd .i64 (iAdd .i64 (iAdd .i64 (iAdd .i64 (iAdd .i64 (iAdd .i64 n 1) 1) 1) 1) 1) 1) 1) 1), ()))))))
theorem laws_markEntryS_ok (a : List (Int × ((Vec 3 Nat) × ((Vec 3 Int) × (Int × (Nat × Unit)))))) (n : Int) (hl : a.length ≤ 140737488355328) : laws_markEntryS a n = some (((markL laws_markEntryS_mk n a).1, ()), ((markL laws_markEntryS_mk n a).2, ())) := by
  unfold laws_markEntryS
  refine mark_loop (fun i l hi n hll => ?_) (fun l n hll => ?_) n
  · have e1 : iLt (i : Int) (lenI l) = true := iLt_pos (by rw [lenI_eq]; omega)
    have e2 : inB (i : Int) l.length = true := inB_pos hi
    have e5 : iAdd .i64 (i : Int) 1 = ((i + 1 : Nat) : Int) := iAdd_one hi (by omega)
    have e6 : ∀ v, (l.set i v).getD i ((0, (0, 0, 0, ()), (0, 0, 0, ()), 0, 0, ()) : (Int × ((Vec 3 Nat) × ((Vec 3 Int) × (Int × (Nat × Unit)))))) = v := fun v => getD_set_self hi
    simp only [laws_markEntryS_l2, e1, e2, e5, e6, List.length_set, List.set_set, Int.toNat_natCast, cond_true]
    rfl
  · have e1 : iLt (l.length : Int) (lenI l) = false := iLt_neg (by rw [lenI_eq]; omega)
    simp only [laws_markEntryS_l2, e1, cond_false]
    rfl
theorem laws_markEntryS_n (a : List (Int × ((Vec 3 Nat) × ((Vec 3 Int) × (Int × (Nat × Unit)))))) (hl : a.length ≤ 140737488355328) (n : Int) (h0 : 0 ≤ n) (h1 : n ≤ 1000000000000000000) : (markL laws_markEntryS_mk n a).1 = n + 9 * a.length := by
  refine markL_count (k := 9) (fun n x h0 hn => ?_) a n h0 (by omega)
  simp only [laws_markEntryS_mk]
  rw [iAdd_eq (a := n) (b := 1) (by omega) (by omega), iAdd_eq (a := n + 1) (b := 1) (by omega) (by omega), iAdd_eq (a := n + 1 + 1) (b := 1) (by omega) (by omega), iAdd_eq (a := n + 1 + 1 + 1) (b := 1) (by omega) (by omega), iAdd_eq (a := n + 1 + 1 + 1 + 1) (b := 1) (by omega) (by omega), iAdd_eq (a := n + 1 + 1 + 1 + 1 + 1) (b := 1) (by omega) (by omega), iAdd_eq (a := n + 1 + 1 + 1 + 1 + 1 + 1) (b := 1) (by omega) (by omega), iAdd_eq (a := n + 1 + 1 + 1 + 1 + 1 + 1 + 1) (b := 1) (by omega) (by omega), iAdd_eq (a := n + 1 + 1 + 1 + 1 + 1 + 1 + 1 + 1) (b := 1) (by omega) (by omega)]
  omega
theorem laws_markEntryS_exm (a : List (Int × ((Vec 3 Nat) × ((Vec 3 Int) × (Int × (Nat × Unit)))))) (h : Sized (.list (.pair (.int .i64) (.pair (.arr 3 (.flt .f32)) (.pair (.arr 3 (.int .i16)) (.pair (.int .i64) (.pair (.flt .f32) (.unit))))))) a) (n : Int) (h0 : 0 ≤ n) (h1 : n ≤ 998733362604802048) : ∃ (m : Int) (l : List (Int × ((Vec 3 Nat) × ((Vec 3 Int) × (Int × (Nat × Unit)))))), laws_markEntryS a n = some ((m, ()), (l, ())) ∧ n ≤ m ∧ m ≤ n + 1266637395197952 := by
  have hl : a.length ≤ 140737488355328 := h.1
  have e := laws_markEntryS_n a hl n h0 (by omega)
  exact ⟨_, _, laws_markEntryS_ok a n hl, by rw [e]; omega, by rw [e]; omega⟩
def laws_markVecS_mk (n : Int) (_ : (Vec 3 Nat)) : Int × (Vec 3 Nat) := (iAdd .i64 (iAdd .i64 (iAdd .i64 n 1) 1) 1, (fOfInt .f32 n, fOfInt .f32 (iAdd .i64 n 1), fOfInt .f32 (iAdd .i64 (iAdd .i64 n 1) 1), ()))
theorem laws_markVecS_ok (a : List (Vec 3 Nat)) (n : Int) (hl : a.length ≤ 140737488355328) : laws_markVecS a n = some (((markL laws_markVecS_mk n a).1, ()), ((markL laws_markVecS_mk n a).2, ())) := by
  unfold laws_markVecS
  refine mark_loop (fun i l hi n hll => ?_) (fun l n hll => ?_) n
  · have e1 : iLt (i : Int) (lenI l) = true := iLt_pos (by rw [lenI_eq]; omega)
    have e2 : inB (i : Int) l.length = true := inB_pos hi
    have e5 : iAdd .i64 (i : Int) 1 = ((i + 1 : Nat) : Int) := iAdd_one hi (by omega)
    have e6 : ∀ v, (l.set i v).getD i ((0, 0, 0, ()) : (Vec 3 Nat)) = v := fun v => getD_set_self hi
    simp only [laws_markVecS_l2, e1, e2, e5, e6, List.length_set, List.set_set, Int.toNat_natCast, cond_true]
    rfl
  · have e1 : iLt (l.length : Int) (lenI l) = false := iLt_neg (by rw [lenI_eq]; omega)
    simp only [laws_markVecS_l2, e1, cond_false]
    rfl
theorem laws_markVecS_n (a : List (Vec 3 Nat)) (hl : a.length ≤ 140737488355328) (n : Int) (h0 : 0 ≤ n) (h1 : n ≤ 1000000000000000000) : (markL laws_markVecS_mk n a).1 = n + 3 * a.length := by
  refine markL_count (k := 3) (fun n x h0 hn => ?_) a n h0 (by omega)
  simp only [laws_markVecS_mk]
  rw [iAdd_eq (a := n) (b := 1) (by omega) (by omega), iAdd_eq (a := n + 1) (b := 1) (by omega) (by omega), iAdd_eq (a := n + 1 + 1) (b := 1) (by omega) (by omega)]
  omega
theorem laws_markVecS_exm (a : List (Vec 3 Nat)) (h : Sized (.list (.arr 3 (.flt .f32))) a) (n : Int) (h0 : 0 ≤ n) (h1 : n ≤ 999577787534934016) : ∃ (m : Int) (l : List (Vec 3 Nat)), laws_markVecS a n = some ((m, ()), (l, ())) ∧ n ≤ m ∧ m ≤ n + 422212465065984 := by
  have hl : a.length ≤ 140737488355328 := h.1
  have e := laws_markVecS_n a hl n h0 (by omega)
  exact ⟨_, _, laws_markVecS_ok a n hl, by rw [e]; omega, by rw [e]; omega⟩
theorem laws_markLog_exm (a : (Int × ((Vec 3 Nat) × ((List (Vec 3 Nat)) × ((List (Int × ((Vec 3 Nat) × ((Vec 3 Int) × (Int × (Nat × Unit)))))) × Unit))))) (h : Sized (.pair (.int .i64) (.pair (.arr 3 (.flt .f32)) (.pair (.list (.arr 3 (.flt .f32))) (.pair (.list (.pair (.int .i64) (.pair (.arr 3 (.flt .f32)) (.pair (.arr 3 (.int .i16)) (.pair (.int .i64) (.pair (.flt .f32) (.unit))))))) (.unit))))) a) (n : Int) (h0 : 0 ≤ n) (h1 : n ≤ 998311150139736064) : ∃ (m : Int) (l2 : (List (Vec 3 Nat))) (l3 : (List (Int × ((Vec 3 Nat) × ((Vec 3 Int) × (Int × (Nat × Unit))))))), laws_markLog a n = some ((m, ()), ((a.1, a.2.1, l2, l3, a.2.2.2.2), ())) ∧ n ≤ m ∧ m ≤ n + 1688849860263936 := by
  obtain ⟨m2, l2, e2, b2, c2⟩ := laws_markVecS_exm a.2.2.1 h.2.2.1 n (by omega) (by omega)
  obtain ⟨m3, l3, e3, b3, c3⟩ := laws_markEntryS_exm a.2.2.2.1 h.2.2.2.1 m2 (by omega) (by omega)
  refine ⟨m3, l2, l3, ?_, by omega, by omega⟩
  simp only [laws_markLog, e2, e3, Option.bind_some]
theorem laws_heldEntryS_ok (a : List (Int × ((Vec 3 Nat) × ((Vec 3 Int) × (Int × (Nat × Unit)))))) (n : Int) (hl : a.length ≤ 140737488355328) : laws_heldEntryS (markL laws_markEntryS_mk n a).2 n = some (((markL laws_markEntryS_mk n a).1, ()), ()) := by
  have hlen := markL_length laws_markEntryS_mk n a
  unfold laws_heldEntryS
  refine held_loop (mk := laws_markEntryS_mk) (a := a) (fun i hi m x hx => ?_) (fun m => ?_)
  · have e1 : iLt (i : Int) (lenI (markL laws_markEntryS_mk n a).2) = true := iLt_pos (by rw [lenI_eq]; omega)
    have e2 : inB (i : Int) (markL laws_markEntryS_mk n a).2.length = true := inB_pos hi
    have e4 : (markL laws_markEntryS_mk n a).2.getD i ((0, (0, 0, 0, ()), (0, 0, 0, ()), 0, 0, ()) : (Int × ((Vec 3 Nat) × ((Vec 3 Int) × (Int × (Nat × Unit)))))) = (laws_markEntryS_mk m x).2 := (getD_of hi).trans hx
    have e5 : iAdd .i64 (i : Int) 1 = ((i + 1 : Nat) : Int) := iAdd_one hi (by omega)
    simp only [laws_heldEntryS_l2, e1, e2, e4, e5, Int.toNat_natCast, laws_markEntryS_mk, Vec.getD, iEq_self, fEq_ofInt, Bool.not_true, cond_true, cond_false]
  · have e1 : iLt ((markL laws_markEntryS_mk n a).2.length : Int) (lenI (markL laws_markEntryS_mk n a).2) = false := iLt_neg (by rw [lenI_eq]; omega)
    simp only [laws_heldEntryS_l2, e1, cond_false]
    rfl
theorem laws_markEntryS_ex (a : (List (Int × ((Vec 3 Nat) × ((Vec 3 Int) × (Int × (Nat × Unit))))))) (h : Sized (.list (.pair (.int .i64) (.pair (.arr 3 (.flt .f32)) (.pair (.arr 3 (.int .i16)) (.pair (.int .i64) (.pair (.flt .f32) (.unit))))))) a) (n : Int) (h0 : 0 ≤ n) (h1 : n ≤ 998733362604802048) : ∃ (m : Int) (l : (List (Int × ((Vec 3 Nat) × ((Vec 3 Int) × (Int × (Nat × Unit))))))), laws_markEntryS a n = some ((m, ()), (l, ())) ∧ n ≤ m ∧ m ≤ n + 1266637395197952 ∧ laws_heldEntryS l n = some ((m, ()), ()) := by
  have hl : a.length ≤ 140737488355328 := h.1
  have e := laws_markEntryS_n a hl n h0 (by omega)
  exact ⟨_, _, laws_markEntryS_ok a n hl, by rw [e]; omega, by rw [e]; omega, laws_heldEntryS_ok a n hl⟩
theorem laws_heldVecS_ok (a : List (Vec 3 Nat)) (n : Int) (hl : a.length ≤ 140737488355328) : laws_heldVecS (markL laws_markVecS_mk n a).2 n = some (((markL laws_markVecS_mk n a).1, ()), ()) := by
  have hlen := markL_length laws_markVecS_mk n a
  unfold laws_heldVecS
  refine held_loop (mk := laws_markVecS_mk) (a := a) (fun i hi m x hx => ?_) (fun m => ?_)
  · have e1 : iLt (i : Int) (lenI (markL laws_markVecS_mk n a).2) = true := iLt_pos (by rw [lenI_eq]; omega)
    have e2 : inB (i : Int) (markL laws_markVecS_mk n a).2.length = true := inB_pos hi
    have e4 : (markL laws_markVecS_mk n a).2.getD i ((0, 0, 0, ()) : (Vec 3 Nat)) = (laws_markVecS_mk m x).2 := (getD_of hi).trans hx
    have e5 : iAdd .i64 (i : Int) 1 = ((i + 1 : Nat) : Int) := iAdd_one hi (by omega)
    simp only [laws_heldVecS_l2, e1, e2, e4, e5, Int.toNat_natCast, laws_markVecS_mk, Vec.getD, iEq_self, fEq_ofInt, Bool.not_true, cond_true, cond_false]
  · have e1 : iLt ((markL laws_markVecS_mk n a).2.length : Int) (lenI (markL laws_markVecS_mk n a).2) = false := iLt_neg (by rw [lenI_eq]; omega)
    simp only [laws_heldVecS_l2, e1, cond_false]
    rfl
theorem laws_markVecS_ex (a : (List (Vec 3 Nat))) (h : Sized (.list (.arr 3 (.flt .f32))) a) (n : Int) (h0 : 0 ≤ n) (h1 : n ≤ 999577787534934016) : ∃ (m : Int) (l : (List (Vec 3 Nat))), laws_markVecS a n = some ((m, ()), (l, ())) ∧ n ≤ m ∧ m ≤ n + 422212465065984 ∧ laws_heldVecS l n = some ((m, ()), ()) := by
  have hl : a.length ≤ 140737488355328 := h.1
  have e := laws_markVecS_n a hl n h0 (by omega)
  exact ⟨_, _, laws_markVecS_ok a n hl, by rw [e]; omega, by rw [e]; omega, laws_heldVecS_ok a n hl⟩
theorem laws_markLog_ex (a : (Int × ((Vec 3 Nat) × ((List (Vec 3 Nat)) × ((List (Int × ((Vec 3 Nat) × ((Vec 3 Int) × (Int × (Nat × Unit)))))) × Unit))))) (h : Sized (.pair (.int .i64) (.pair (.arr 3 (.flt .f32)) (.pair (.list (.arr 3 (.flt .f32))) (.pair (.list (.pair (.int .i64) (.pair (.arr 3 (.flt .f32)) (.pair (.arr 3 (.int .i16)) (.pair (.int .i64) (.pair (.flt .f32) (.unit))))))) (.unit))))) a) (n : Int) (h0 : 0 ≤ n) (h1 : n ≤ 998311150139736064) : ∃ (m : Int) (l2 : (List (Vec 3 Nat))) (l3 : (List (Int × ((Vec 3 Nat) × ((Vec 3 Int) × (Int × (Nat × Unit))))))), laws_markLog a n = some ((m, ()), ((a.1, a.2.1, l2, l3, a.2.2.2.2), ())) ∧ n ≤ m ∧ m ≤ n + 1688849860263936 ∧ laws_heldLog (a.1, a.2.1, l2, l3, a.2.2.2.2) n = some ((m, ()), ()) := by
  obtain ⟨m2, l2, e2, b2, c2, d2⟩ := laws_markVecS_ex a.2.2.1 h.2.2.1 n (by omega) (by omega)
  obtain ⟨m3, l3, e3, b3, c3, d3⟩ := laws_markEntryS_ex a.2.2.2.1 h.2.2.2.1 m2 (by omega) (by omega)
  refine ⟨m3, l2, l3, ?_, by omega, by omega, ?_⟩
  · simp only [laws_markLog, e2, e3, Option.bind_some]
  · simp only [laws_heldLog, d2, d3, iLt_neg (show ¬ m2 < 0 by omega), iLt_neg (show ¬ m3 < 0 by omega), Option.bind_some, cond_false]
end Go.Proofs.YtdmaamakckochaaGreatDoor
