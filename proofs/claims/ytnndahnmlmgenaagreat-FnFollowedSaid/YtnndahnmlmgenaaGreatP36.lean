/- Functions of the program and of the reference in plain terms. -/
import Derived.Test.YtnndahnmlmgenaaGreatP35
namespace Go.Proofs.YtnndahnmlmgenaaGreat
open Go Go.Tm
set_option linter.unusedVariables false
set_option linter.unusedSimpArgs false
set_option linter.unusedSectionVars false
/-! ### the points of a route -/
theorem pointsLoop_eq : impl_PointsOf_l5 = spec_PointsOf_l5 := by
  funext a low side s
  unfold impl_PointsOf_l5 spec_PointsOf_l5
  cases iLt s.2.1 (lenI a)
  · rfl
  · cases inB s.2.1 a.length <;> rfl
def pointF (low : Vec 2 Nat) (side : Nat) (s : Vec 2 Int) : Vec 2 Nat := (fAdd .f32 low.1 (fMul .f32 side (fAdd .f32 (fOfInt .f32 s.1) 1056964608)), fAdd .f32 low.2.1 (fMul .f32 side (fAdd .f32 (fOfInt .f32 s.2.1) 1056964608)), ())
theorem points_run (a : List (Vec 2 Int)) (low : Vec 2 Nat) (side : Nat) (hl : a.length ≤ 600) : run (impl_PointsOf_l5 a low side) (([] : (List (Vec 2 Nat))), (0 : Int), ()) = some ((a.map (pointF low side), (0 : Int), ()), ()) := by
  refine app_loop (pointF low side) (fun l => ((l, (0 : Int), ()), ())) (fun i hi l hll => ?_) (fun l hll => ?_)
  · have e1 : iLt (i : Int) (lenI a) = true := iLt_pos (by rw [lenI_eq]; omega)
    have e2 : inB (i : Int) a.length = true := inB_pos hi
    have e3 : room (l.length + 1) 8 = true := room_pos (by omega)
    have e4 : a.getD i ((0, 0, ()) : (Vec 2 Int)) = a[i] := getD_of hi
    have e5 : iAdd .i64 (i : Int) 1 = ((i + 1 : Nat) : Int) := iAdd_one hi (by omega)
    simp only [impl_PointsOf_l5, e1, e2, e3, e4, e5, Int.toNat_natCast, cond_true]
    rfl
  · have e1 : iLt (a.length : Int) (lenI a) = false := iLt_neg (by rw [lenI_eq]; omega)
    simp only [impl_PointsOf_l5, e1, cond_false]
    rfl
theorem pointsOf_ok (a : List (Vec 2 Int)) (low : Vec 2 Nat) (side : Nat) : ∃ w, spec_PointsOf a low side = some (w, ()) ∧ impl_PointsOf a low side = some (w, ()) ∧ w.1.length ≤ 600 := by
  have hr := points_run a low side
  simp only [spec_PointsOf, impl_PointsOf, spec_l07Low, spec_l01Finite_ok, impl_isFinite_ok [Vec.getD 2 low 0 (0 : Nat), Vec.getD 2 low 1 (0 : Nat)] (by simp), impl_isFinite_ok [side] (by simp), Option.bind_some, List.all_cons, List.all_nil, Bool.and_true]
  cases finB (Vec.getD 2 low 0 (0 : Nat)) <;> cases finB (Vec.getD 2 low 1 (0 : Nat)) <;> cases finB side <;> first
    | exact ⟨_, rfl, rfl, by simp⟩
    | skip
  simp only [Bool.and_self, Bool.not_true, cond_true, cond_false, Option.bind_some]
  by_cases h : 600 < a.length
  · have e1 : iLt 600 (lenI a) = true := iLt_pos (by rw [lenI_eq]; omega)
    simp only [e1, cond_true]
    exact ⟨_, rfl, rfl, by simp⟩
  · have e1 : iLt 600 (lenI a) = false := iLt_neg (by rw [lenI_eq]; omega)
    simp only [e1, cond_false, ← pointsLoop_eq]
    exact ⟨_, hr (by omega), hr (by omega), by simp; omega⟩
end Go.Proofs.YtnndahnmlmgenaaGreat
