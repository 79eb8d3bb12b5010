/- Sensors, grids and points: the program's functions and the reference's are the same. -/
import Derived.Test.YtiakgpcjomgkcaaL
namespace Go.Proofs.Ytiakgpcjomgkcaa
open Go Go.Tm
set_option linter.unusedVariables false
set_option linter.unusedSimpArgs false

abbrev TyGrid : Ty := .pair (.int .i64) (.pair (.int .i64) (.pair (.list (.int .u8)) .unit))
abbrev TySpot : Ty := .arr 2 (.int .i16)
abbrev DGrid := Int × (Int × ((List Int) × Unit))

theorem laws_FnExactFixSensor_plain : ∃ o, laws_FnExactFixSensor = some ((true, ()), o) := by
  refine ⟨(), ?_⟩
  simp only [laws_FnExactFixSensor, spec_FixSensor, spec_l08Sensor, impl_FixSensor, Option.bind_some, laws_eqSensor_ok, Bool.not_true, cond_false]

theorem within_eq : impl_within = spec_l00In := rfl
theorem l00In_ok (a b c : Int) : spec_l00In a b c = some ((iLe b a && iLe a c, ()), ()) := by
  unfold spec_l00In
  cases iLe b a <;> rfl
def gridB (g : DGrid) : Bool := (iLe 1 g.1 && iLe g.1 24) && ((iLe 1 g.2.1 && iLe g.2.1 24) && iEq (lenI g.2.2.1) (iMul .i64 g.1 g.2.1))
def hasB (g : DGrid) (s : Vec 2 Int) : Bool := (iLe 0 (iWrap .i64 (Vec.getD 2 s 0 (0 : Int))) && iLe (iWrap .i64 (Vec.getD 2 s 0 (0 : Int))) (iSub .i64 g.1 1)) && (iLe 0 (iWrap .i64 (Vec.getD 2 s 1 (0 : Int))) && iLe (iWrap .i64 (Vec.getD 2 s 1 (0 : Int))) (iSub .i64 g.2.1 1))
def atI (g : DGrid) (s : Vec 2 Int) : Int := iAdd .i64 (iMul .i64 (iWrap .i64 (Vec.getD 2 s 1 (0 : Int))) g.1) (iWrap .i64 (Vec.getD 2 s 0 (0 : Int)))
def spotsCode (g : DGrid) (l : List (Vec 2 Int)) : Int := bif gridB g then (bif l.any fun s => !hasB g s then 2 else 0) else 1

theorem impl_ValidGrid_ok (g : DGrid) : impl_ValidGrid g = some ((gridB g, ()), ()) := by
  simp only [impl_ValidGrid, within_eq, l00In_ok, Option.bind_some, gridB]
  cases (iLe 1 g.1 && iLe g.1 24) <;> cases (iLe 1 g.2.1 && iLe g.2.1 24) <;> rfl
theorem spec_l07Ok_ok (g : DGrid) : spec_l07Ok g = some ((gridB g, ()), ()) := by
  simp only [spec_l07Ok, l00In_ok, Option.bind_some, gridB]
  cases (iLe 1 g.1 && iLe g.1 24) <;> cases (iLe 1 g.2.1 && iLe g.2.1 24) <;> rfl
theorem impl_Grid_has_ok (g : DGrid) (s : Vec 2 Int) : impl_Grid_has g s = some ((hasB g s, ()), ()) := by
  simp only [impl_Grid_has, within_eq, l00In_ok, Option.bind_some, hasB]
  cases (iLe 0 (iWrap .i64 (Vec.getD 2 s 0 (0 : Int))) && iLe (iWrap .i64 (Vec.getD 2 s 0 (0 : Int))) (iSub .i64 g.1 1)) <;> rfl
theorem spec_l07Spot_ok (g : DGrid) (s : Vec 2 Int) : spec_l07Spot g s = some ((hasB g s, ()), ()) := by
  simp only [spec_l07Spot, spec_l07At, l00In_ok, Option.bind_some, hasB]
  cases (iLe 0 (iWrap .i64 (Vec.getD 2 s 0 (0 : Int))) && iLe (iWrap .i64 (Vec.getD 2 s 0 (0 : Int))) (iSub .i64 g.1 1)) <;> rfl
theorem impl_checkSpots_ok (g : DGrid) (l : List (Vec 2 Int)) (hl : l.length ≤ 140737488355328) : impl_checkSpots g l = some ((spotsCode g l, ()), ()) := by
  have h := slices_ContainsFunc_impl_Spot_ok l (fun (z93 : ((Vec 2 Int) × Unit)) => (impl_checkSpots_1 z93.1 g).map fun y => y.1.1) (fun s => !hasB g s) hl (fun x _ => by
    simp only [impl_checkSpots_1, impl_Grid_has_ok, Option.bind_some, Option.map_some])
  simp only [impl_checkSpots, impl_ValidGrid_ok, h, Option.bind_some, spotsCode]
  cases gridB g
  · rfl
  · cases (l.any fun s => !hasB g s) <;> rfl
theorem spec_l07Asked_ok (g : DGrid) (l : List (Vec 2 Int)) (hl : l.length ≤ 140737488355328) : spec_l07Asked g l = some ((spotsCode g l, ()), ()) := by
  simp only [spec_l07Asked, spec_l07Ok_ok, Option.bind_some, spotsCode]
  cases gridB g
  · rfl
  · simp only [Bool.not_true, cond_false, cond_true]
    have key : ∀ (r q : List (Vec 2 Int)), q ++ r = l → run (spec_l07Asked_l4 l g) ((q.length : Int), ()) = some ((bif r.any fun s => !hasB g s then 2 else 0, ()), ()) := by
      intro r
      induction r with
      | nil =>
        intro q hq
        rw [List.append_nil] at hq
        subst hq
        refine run_done ?_
        have e1 : iLt (q.length : Int) (lenI q) = false := iLt_neg (by rw [lenI_eq]; omega)
        simp only [spec_l07Asked_l4, e1, cond_false]
        rfl
      | cons x r ih =>
        intro q hq
        have hlt : q.length < l.length := by rw [← hq]; simp
        have hx : l[q.length] = x := by simp [← hq]
        have e1 : iLt (q.length : Int) (lenI l) = true := iLt_pos (by rw [lenI_eq]; omega)
        have e2 : inB (q.length : Int) l.length = true := inB_pos hlt
        have e4 : l.getD q.length ((0, 0, ()) : (Vec 2 Int)) = x := (getD_of hlt).trans hx
        have e5 : iAdd .i64 (q.length : Int) 1 = ((q.length + 1 : Nat) : Int) := iAdd_one hlt (by omega)
        have e6 : spec_l07Asked_l4 l g ((q.length : Int), ()) = bif !hasB g x then some (.inr ((2, ()), ())) else some (.inl (((q.length + 1 : Nat) : Int), ())) := by
          simp only [spec_l07Asked_l4, e1, e2, e4, e5, Int.toNat_natCast, spec_l07Spot_ok, Option.bind_some, cond_true]
          cases hasB g x <;> rfl
        cases hb : hasB g x with
        | false =>
          rw [hb] at e6
          refine (run_done e6).trans ?_
          simp [hb]
        | true =>
          rw [hb] at e6
          have e2 : ((q.length + 1 : Nat) : Int) = ((q ++ [x]).length : Int) := by simp
          rw [run_step e6, e2, ih (q ++ [x]) (by rw [← hq]; simp)]
          simp [hb]
    exact key l [] rfl
theorem impl_Grid_at_ok (g : DGrid) (s : Vec 2 Int) : impl_Grid_at g s = some ((atI g s, ()), ()) := rfl
theorem spec_l07Index_ok (g : DGrid) (s : Vec 2 Int) : spec_l07Index g s = some ((atI g s, ()), ()) := rfl

/-! ### where a spot of a valid grid lies -/
theorem wrap_i64 {a : Int} (h : -9223372036854775808 ≤ a) (h1 : a ≤ 9223372036854775807) : iWrap .i64 a = a := wrap64_id h h1
theorem iLe_true {a b : Int} : iLe a b = true ↔ a ≤ b := by simp [iLe]
theorem iEq_true {a b : Int} : iEq a b = true ↔ a = b := by simp [iEq]
theorem gridB_true {g : DGrid} (h : gridB g = true) : 1 ≤ g.1 ∧ g.1 ≤ 24 ∧ 1 ≤ g.2.1 ∧ g.2.1 ≤ 24 ∧ (g.2.2.1.length : Int) = g.1 * g.2.1 := by
  simp only [gridB, Bool.and_eq_true, iLe_true, iEq_true] at h
  obtain ⟨⟨h1, h2⟩, ⟨h3, h4⟩, h5⟩ := h
  have h6 : 0 ≤ g.1 * g.2.1 := Int.mul_nonneg (by omega) (by omega)
  have h7 : g.1 * g.2.1 ≤ 24 * 24 := Int.mul_le_mul h2 h4 (by omega) (by omega)
  rw [iMul_eq (by omega) (by omega)] at h5
  exact ⟨h1, h2, h3, h4, h5⟩
theorem spot_fit {s : Vec 2 Int} (h : Fit TySpot s) : (-32768 ≤ s.1 ∧ s.1 ≤ 32767) ∧ (-32768 ≤ s.2.1 ∧ s.2.1 ≤ 32767) := ⟨h.1, h.2.1⟩
theorem hasB_true {g : DGrid} {s : Vec 2 Int} (hs : Fit TySpot s) (hg : gridB g = true) (h : hasB g s = true) : 0 ≤ s.1 ∧ s.1 < g.1 ∧ 0 ≤ s.2.1 ∧ s.2.1 < g.2.1 := by
  obtain ⟨⟨a1, a2⟩, a3, a4⟩ := spot_fit hs
  obtain ⟨g1, g2, g3, g4, _⟩ := gridB_true hg
  simp only [hasB, Vec.getD, Bool.and_eq_true, iLe_true] at h
  rw [wrap_i64 (by omega) (by omega), wrap_i64 (by omega) (by omega), iSub_eq (by omega) (by omega), iSub_eq (by omega) (by omega)] at h
  omega
theorem at_lt {w h x y : Int} (hx0 : 0 ≤ x) (hx : x < w) (hy0 : 0 ≤ y) (hy : y < h) (hw : w ≤ 24) : 0 ≤ y * w + x ∧ y * w + x < w * h := by
  have h1 : 0 ≤ y * w := Int.mul_nonneg hy0 (by omega)
  have h2 : (y + 1) * w ≤ h * w := Int.mul_le_mul_of_nonneg_right (by omega) (by omega)
  have h3 : (y + 1) * w = y * w + w := by rw [Int.add_mul, Int.one_mul]
  have h4 : h * w = w * h := Int.mul_comm h w
  omega
theorem atI_eq {g : DGrid} {s : Vec 2 Int} (hs : Fit TySpot s) (hg : gridB g = true) (h : hasB g s = true) : atI g s = s.2.1 * g.1 + s.1 ∧ 0 ≤ s.2.1 * g.1 + s.1 ∧ s.2.1 * g.1 + s.1 < g.2.2.1.length := by
  obtain ⟨⟨a1, a2⟩, a3, a4⟩ := spot_fit hs
  obtain ⟨g1, g2, g3, g4, g5⟩ := gridB_true hg
  obtain ⟨b1, b2, b3, b4⟩ := hasB_true hs hg h
  obtain ⟨c1, c2⟩ := at_lt b1 b2 b3 b4 g2
  have h7 : g.1 * g.2.1 ≤ 24 * 24 := Int.mul_le_mul g2 g4 (by omega) (by omega)
  have h8 : 0 ≤ s.2.1 * g.1 := Int.mul_nonneg b3 (by omega)
  simp only [atI, Vec.getD]
  rw [wrap_i64 (by omega) (by omega), wrap_i64 (by omega) (by omega), iMul_eq (by omega) (by omega), iAdd_eq (by omega) (by omega)]
  exact ⟨rfl, c1, by omega⟩
theorem at_inB {g : DGrid} {s : Vec 2 Int} (hs : Fit TySpot s) (hg : gridB g = true) (h : hasB g s = true) : inB (atI g s) g.2.2.1.length = true := by
  obtain ⟨e, h1, h2⟩ := atI_eq hs hg h
  rw [e]
  exact inB_int h1 h2
theorem spotsCode_one (g : DGrid) (s : Vec 2 Int) : (spotsCode g [s] = 0 ∧ gridB g = true ∧ hasB g s = true) ∨ iEq (spotsCode g [s]) 0 = false := by
  simp only [spotsCode, List.any_cons, List.any_nil, Bool.or_false]
  cases gridB g <;> cases hasB g s <;> simp [iEq]

/-! ### CostAt -/
theorem costAt_ok (g : DGrid) (s : Vec 2 Int) (hs : Fit TySpot s) : ∃ w, spec_CostAt g s = some (w, ()) ∧ impl_CostAt g s = some (w, ()) := by
  simp only [spec_CostAt, impl_CostAt, spec_l07Asked_ok g [s] (by simp), impl_checkSpots_ok g [s] (by simp), Option.bind_some, impl_Grid_at_ok, spec_l07Index_ok]
  rcases spotsCode_one g s with ⟨h0, hg, hh⟩ | h0
  · rw [h0]
    simp only [iEq_self, Bool.not_true, cond_false, at_inB hs hg hh, cond_true]
    exact ⟨_, rfl, rfl⟩
  · simp only [h0, Bool.not_false, cond_true]
    exact ⟨_, rfl, rfl⟩
theorem grid_sized {g : DGrid} (h : Fit TyGrid g) : Sized TyGrid g := sized_of_fit rfl h
theorem grid_len {g : DGrid} (h : Fit TyGrid g) : g.2.2.1.length * 1 ≤ 140737488351232 := h.2.2.1.1
theorem laws_FnExactCostAt_plain (g : DGrid) (hg : Fit TyGrid g) (s : Vec 2 Int) (hs : Fit TySpot s) : ∃ o, laws_FnExactCostAt g s = some ((true, ()), o) := by
  obtain ⟨r, hr⟩ := laws_szGrid_ok g 1048576
  obtain ⟨w, h1, h2⟩ := costAt_ok g s hs
  have h3 := laws_toGrid_ok g hg
  have h4 := laws_eqGrid_ok g (grid_sized hg)
  obtain ⟨g1, g2, g3, ⟨⟩⟩ := g
  simp only [laws_FnExactCostAt, hr, h3, laws_toSpot_ok, h1, h2, h4, iEq_self, Option.bind_some, Bool.not_true, cond_false]
  cases iLt r 0 <;> exact ⟨_, rfl⟩

/-! ### WithCost -/
theorem withCost_ok (g : DGrid) (hg : Fit TyGrid g) (s : Vec 2 Int) (hs : Fit TySpot s) (c : Int) : ∃ w, spec_WithCost g s c = some (w, ()) ∧ impl_WithCost g s c = some (w, ()) ∧ Sized TyGrid w.1 := by
  have hl := grid_len hg
  have hl2 : g.2.2.1.length ≤ 140737488355328 := by omega
  have e1 : room (0 + g.2.2.1.length) 1 = true := room_pos (by omega)
  simp only [spec_WithCost, impl_WithCost, spec_l07Asked_ok g [s] (by simp), impl_checkSpots_ok g [s] (by simp), Option.bind_some, impl_Grid_at_ok, spec_l07Index_ok, spec_l07Copy, impl_ownGrid, slices_Clone_uint8_ok g.2.2.1 (by omega), e1, cond_true, List.nil_append]
  rcases spotsCode_one g s with ⟨h0, hgb, hh⟩ | h0
  · rw [h0]
    simp only [iEq_self, Bool.not_true, cond_false, at_inB hs hgb hh, cond_true]
    exact ⟨_, rfl, rfl, trivial, trivial, sized_list (t := .int .u8) rfl (l := g.2.2.1.set (atI g s).toNat c) (Nat.le_trans (Nat.le_of_eq (List.length_set ..)) hl2), trivial⟩
  · simp only [h0, Bool.not_false, cond_true]
    exact ⟨_, rfl, rfl, trivial, trivial, sized_list (t := .int .u8) rfl (l := []) (Nat.zero_le _), trivial⟩
theorem laws_FnExactWithCost_plain (g : DGrid) (hg : Fit TyGrid g) (s : Vec 2 Int) (hs : Fit TySpot s) (c : Int) (hc : Fit (.int .u8) c) : ∃ o, laws_FnExactWithCost g s c = some ((true, ()), o) := by
  obtain ⟨r, hr⟩ := laws_szGrid_ok g 1048576
  obtain ⟨w, h1, h2, h5⟩ := withCost_ok g hg s hs c
  have h3 := laws_toGrid_ok g hg
  have h4 := laws_eqGrid_ok g (grid_sized hg)
  obtain ⟨m, l, k1, k2, k3, k4⟩ := laws_markGrid_ex g (grid_sized hg) 1 (by omega) (by omega)
  obtain ⟨w1, wc, ⟨⟩⟩ := w
  have h6 := laws_eqGrid_ok w1 h5
  obtain ⟨m', l', k1', k2', k3', k4'⟩ := laws_markGrid_ex w1 h5 1 (by omega) (by omega)
  obtain ⟨g1, g2, g3, ⟨⟩⟩ := g
  obtain ⟨v1, v2, v3, ⟨⟩⟩ := w1
  have n1 : iLt m 0 = false := iLt_neg (by omega)
  have n2 : iLt m' 0 = false := iLt_neg (by omega)
  simp only at k1 k1' k4 k4'
  simp only [laws_FnExactWithCost, hr, h3, laws_toSpot_ok, h1, h2, h4, h6, k1, k1', k4, k4', n1, n2, iEq_self, Option.bind_some, Bool.not_true, cond_false]
  cases iLt r 0 <;> exact ⟨_, rfl⟩

/-! ### PointsOf -/
def finB (x : Nat) : Bool := fEq .f32 (fSub .f32 x x) 0
theorem impl_isFinite_ok (l : List Nat) (hl : l.length ≤ 140737488355328) : impl_isFinite l = some ((l.all finB, ()), ()) := by
  unfold impl_isFinite
  refine every_loop (fun i hi => ?_) ?_
  · have e1 : iLt (i : Int) (lenI l) = true := iLt_pos (by rw [lenI_eq]; omega)
    have e2 : inB (i : Int) l.length = true := inB_pos hi
    have e4 : l.getD i (0 : Nat) = l[i] := getD_of hi
    have e5 : iAdd .i64 (i : Int) 1 = ((i + 1 : Nat) : Int) := iAdd_one hi (by omega)
    simp only [impl_isFinite_l2, e1, e2, e4, e5, Int.toNat_natCast, cond_true, finB]
    cases fEq .f32 (fSub .f32 l[i] l[i]) 0 <;> rfl
  · have e1 : iLt (l.length : Int) (lenI l) = false := iLt_neg (by rw [lenI_eq]; omega)
    simp only [impl_isFinite_l2, e1, cond_false]
    rfl
theorem spec_l01Finite_ok (x : Nat) : spec_l01Finite x = some ((finB x, ()), ()) := rfl
theorem pointsLoop_eq : impl_PointsOf_l5 = spec_PointsOf_l5 := by
  funext a low side s
  unfold impl_PointsOf_l5 spec_PointsOf_l5
  cases iLt s.2.1 (lenI a)
  · rfl
  · cases inB s.2.1 a.length <;> rfl
def pointF (low : Vec 2 Nat) (side : Nat) (s : Vec 2 Int) : Vec 2 Nat := (fAdd .f32 low.1 (fMul .f32 side (fAdd .f32 (fOfInt .f32 s.1) 1056964608)), fAdd .f32 low.2.1 (fMul .f32 side (fAdd .f32 (fOfInt .f32 s.2.1) 1056964608)), ())
theorem points_run (a : List (Vec 2 Int)) (low : Vec 2 Nat) (side : Nat) (hl : a.length ≤ 600) : run (impl_PointsOf_l5 a low side) (([] : (List (Vec 2 Nat))), (0 : Int), ()) = some ((a.map (pointF low side), (0 : Int), ()), ()) := by
  refine app_loop (pointF low side) (fun l => ((l, (0 : Int), ()), ())) (fun i hi l hll => ?_) (fun l hll => ?_)
  · have e1 : iLt (i : Int) (lenI a) = true := iLt_pos (by rw [lenI_eq]; omega)
    have e2 : inB (i : Int) a.length = true := inB_pos hi
    have e3 : room (l.length + 1) 8 = true := room_pos (by omega)
    have e4 : a.getD i ((0, 0, ()) : (Vec 2 Int)) = a[i] := getD_of hi
    have e5 : iAdd .i64 (i : Int) 1 = ((i + 1 : Nat) : Int) := iAdd_one hi (by omega)
    simp only [impl_PointsOf_l5, e1, e2, e3, e4, e5, Int.toNat_natCast, cond_true]
    rfl
  · have e1 : iLt (a.length : Int) (lenI a) = false := iLt_neg (by rw [lenI_eq]; omega)
    simp only [impl_PointsOf_l5, e1, cond_false]
    rfl
theorem pointsOf_ok (a : List (Vec 2 Int)) (low : Vec 2 Nat) (side : Nat) : ∃ w, spec_PointsOf a low side = some (w, ()) ∧ impl_PointsOf a low side = some (w, ()) ∧ w.1.length ≤ 600 := by
  have hr := points_run a low side
  simp only [spec_PointsOf, impl_PointsOf, spec_l07Low, spec_l01Finite_ok, impl_isFinite_ok [Vec.getD 2 low 0 (0 : Nat), Vec.getD 2 low 1 (0 : Nat)] (by simp), impl_isFinite_ok [side] (by simp), Option.bind_some, List.all_cons, List.all_nil, Bool.and_true]
  cases finB (Vec.getD 2 low 0 (0 : Nat)) <;> cases finB (Vec.getD 2 low 1 (0 : Nat)) <;> cases finB side <;> first
    | exact ⟨_, rfl, rfl, by simp⟩
    | skip
  simp only [Bool.and_self, Bool.not_true, cond_true, cond_false, Option.bind_some]
  by_cases h : 600 < a.length
  · have e1 : iLt 600 (lenI a) = true := iLt_pos (by rw [lenI_eq]; omega)
    simp only [e1, cond_true]
    exact ⟨_, rfl, rfl, by simp⟩
  · have e1 : iLt 600 (lenI a) = false := iLt_neg (by rw [lenI_eq]; omega)
    simp only [e1, cond_false, ← pointsLoop_eq]
    exact ⟨_, hr (by omega), hr (by omega), by simp; omega⟩
theorem laws_FnExactPointsOf_plain (a : List (Vec 2 Int)) (ha : Fit (.list TySpot) a) (low : Vec 2 Nat) (hlow : Fit (.arr 2 (.flt .f32)) low) (side : Nat) (hside : Fit (.flt .f32) side) : ∃ o, laws_FnExactPointsOf a low side = some ((true, ()), o) := by
  obtain ⟨r, hr⟩ := laws_szSpotS_ok a 1048576
  obtain ⟨w, h1, h2, h5⟩ := pointsOf_ok a low side
  have sz : Sized (.list TySpot) a := sized_of_fit rfl ha
  have h3 := laws_toSpotS_ok a ha
  have h4 := laws_eqSpotS_ok a sz
  obtain ⟨m, l, k1, k2, k3⟩ := laws_markSpotS_exm a sz 1 (by omega) (by omega)
  obtain ⟨w1, wc, ⟨⟩⟩ := w
  have sw : Sized (.list (.arr 2 (.flt .f32))) w1 := ⟨Nat.le_trans h5 (by decide), fun _ _ => ⟨trivial, trivial, trivial⟩⟩
  have h6 := laws_eqFloat32A2S_ok w1 sw
  obtain ⟨m', l', k1', k2', k3', k4'⟩ := laws_markFloat32A2S_ex w1 sw 1 (by omega) (by omega)
  have n1 : iLt m 0 = false := iLt_neg (by omega)
  have n2 : iLt m' 0 = false := iLt_neg (by omega)
  simp only [laws_FnExactPointsOf, hr, h3, laws_toFloat32A2_ok, h1, h2, h4, h6, k1, k1', k4', n1, n2, iEq_self, Option.bind_some, Bool.not_true, cond_false]
  cases iLt r 0 <;> exact ⟨_, rfl⟩
end Go.Proofs.Ytiakgpcjomgkcaa
