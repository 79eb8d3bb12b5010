/- Functions of the program and of the reference in plain terms. -/
import Derived.Test.YtnndahnmlmgenaaGreatP3
namespace Go.Proofs.YtnndahnmlmgenaaGreat
open Go Go.Tm
set_option linter.unusedVariables false
set_option linter.unusedSimpArgs false
set_option linter.unusedSectionVars false
/-! ### grids -/
abbrev TyGrid : Ty := .pair (.int .i64) (.pair (.int .i64) (.pair (.list (.int .u8)) .unit))
abbrev TySpot : Ty := .arr 2 (.int .i16)
abbrev DGrid := Int × (Int × ((List Int) × Unit))
def gridB (g : DGrid) : Bool := (iLe 1 g.1 && iLe g.1 24) && ((iLe 1 g.2.1 && iLe g.2.1 24) && iEq (lenI g.2.2.1) (iMul .i64 g.1 g.2.1))
def hasB (g : DGrid) (s : Vec 2 Int) : Bool := (iLe 0 (iWrap .i64 (Vec.getD 2 s 0 (0 : Int))) && iLe (iWrap .i64 (Vec.getD 2 s 0 (0 : Int))) (iSub .i64 g.1 1)) && (iLe 0 (iWrap .i64 (Vec.getD 2 s 1 (0 : Int))) && iLe (iWrap .i64 (Vec.getD 2 s 1 (0 : Int))) (iSub .i64 g.2.1 1))
def atI (g : DGrid) (s : Vec 2 Int) : Int := iAdd .i64 (iMul .i64 (iWrap .i64 (Vec.getD 2 s 1 (0 : Int))) g.1) (iWrap .i64 (Vec.getD 2 s 0 (0 : Int)))
def spotsCode (g : DGrid) (l : List (Vec 2 Int)) : Int := bif gridB g then (bif l.any fun s => !hasB g s then 2 else 0) else 1

theorem impl_ValidGrid_ok (g : DGrid) : impl_ValidGrid g = some ((gridB g, ()), ()) := by
  simp only [impl_ValidGrid, within_eq, l00In_ok, Option.bind_some, gridB]
  cases (iLe 1 g.1 && iLe g.1 24) <;> cases (iLe 1 g.2.1 && iLe g.2.1 24) <;> rfl

theorem spec_l07Ok_ok (g : DGrid) : spec_l07Ok g = some ((gridB g, ()), ()) := by
  simp only [spec_l07Ok, l00In_ok, Option.bind_some, gridB]
  cases (iLe 1 g.1 && iLe g.1 24) <;> cases (iLe 1 g.2.1 && iLe g.2.1 24) <;> rfl

theorem impl_Grid_has_ok (g : DGrid) (s : Vec 2 Int) : impl_Grid_has g s = some ((hasB g s, ()), ()) := by
  simp only [impl_Grid_has, within_eq, l00In_ok, Option.bind_some, hasB]
  cases (iLe 0 (iWrap .i64 (Vec.getD 2 s 0 (0 : Int))) && iLe (iWrap .i64 (Vec.getD 2 s 0 (0 : Int))) (iSub .i64 g.1 1)) <;> rfl

theorem spec_l07Spot_ok (g : DGrid) (s : Vec 2 Int) : spec_l07Spot g s = some ((hasB g s, ()), ()) := by
  simp only [spec_l07Spot, spec_l07At, l00In_ok, Option.bind_some, hasB]
  cases (iLe 0 (iWrap .i64 (Vec.getD 2 s 0 (0 : Int))) && iLe (iWrap .i64 (Vec.getD 2 s 0 (0 : Int))) (iSub .i64 g.1 1)) <;> rfl

theorem impl_checkSpots_ok (g : DGrid) (l : List (Vec 2 Int)) (hl : l.length ≤ 140737488355328) : impl_checkSpots g l = some ((spotsCode g l, ()), ()) := by
  have h := slices_ContainsFunc_impl_Spot_ok l (fun (z93 : ((Vec 2 Int) × Unit)) => (impl_checkSpots_1 z93.1 g).map fun y => y.1.1) (fun s => !hasB g s) hl (fun x _ => by
    simp only [impl_checkSpots_1, impl_Grid_has_ok, Option.bind_some, Option.map_some])
  simp only [impl_checkSpots, impl_ValidGrid_ok, h, Option.bind_some, spotsCode]
  cases gridB g
  · rfl
  · cases (l.any fun s => !hasB g s) <;> rfl

theorem spec_l07Asked_ok (g : DGrid) (l : List (Vec 2 Int)) (hl : l.length ≤ 140737488355328) : spec_l07Asked g l = some ((spotsCode g l, ()), ()) := by
  simp only [spec_l07Asked, spec_l07Ok_ok, Option.bind_some, spotsCode]
  cases gridB g
  · rfl
  · simp only [Bool.not_true, cond_false, cond_true]
    have key : ∀ (r q : List (Vec 2 Int)), q ++ r = l → run (spec_l07Asked_l4 l g) ((q.length : Int), ()) = some ((bif r.any fun s => !hasB g s then 2 else 0, ()), ()) := by
      intro r
      induction r with
      | nil =>
        intro q hq
        rw [List.append_nil] at hq
        subst hq
        refine run_done ?_
        have e1 : iLt (q.length : Int) (lenI q) = false := iLt_neg (by rw [lenI_eq]; omega)
        simp only [spec_l07Asked_l4, e1, cond_false]
        rfl
      | cons x r ih =>
        intro q hq
        have hlt : q.length < l.length := by rw [← hq]; simp
        have hx : l[q.length] = x := by simp [← hq]
        have e1 : iLt (q.length : Int) (lenI l) = true := iLt_pos (by rw [lenI_eq]; omega)
        have e2 : inB (q.length : Int) l.length = true := inB_pos hlt
        have e4 : l.getD q.length ((0, 0, ()) : (Vec 2 Int)) = x := (getD_of hlt).trans hx
        have e5 : iAdd .i64 (q.length : Int) 1 = ((q.length + 1 : Nat) : Int) := iAdd_one hlt (by omega)
        have e6 : spec_l07Asked_l4 l g ((q.length : Int), ()) = bif !hasB g x then some (.inr ((2, ()), ())) else some (.inl (((q.length + 1 : Nat) : Int), ())) := by
          simp only [spec_l07Asked_l4, e1, e2, e4, e5, Int.toNat_natCast, spec_l07Spot_ok, Option.bind_some, cond_true]
          cases hasB g x <;> rfl
        cases hb : hasB g x with
        | false =>
          rw [hb] at e6
          refine (run_done e6).trans ?_
          simp [hb]
        | true =>
          rw [hb] at e6
          have e2 : ((q.length + 1 : Nat) : Int) = ((q ++ [x]).length : Int) := by simp
          rw [run_step e6, e2, ih (q ++ [x]) (by rw [← hq]; simp)]
          simp [hb]
    exact key l [] rfl

theorem impl_Grid_at_ok (g : DGrid) (s : Vec 2 Int) : impl_Grid_at g s = some ((atI g s, ()), ()) := rfl

theorem spec_l07Index_ok (g : DGrid) (s : Vec 2 Int) : spec_l07Index g s = some ((atI g s, ()), ()) := rfl

/-! ### where a spot of a valid grid lies -/

theorem gridB_true {g : DGrid} (h : gridB g = true) : 1 ≤ g.1 ∧ g.1 ≤ 24 ∧ 1 ≤ g.2.1 ∧ g.2.1 ≤ 24 ∧ (g.2.2.1.length : Int) = g.1 * g.2.1 := by
  simp only [gridB, Bool.and_eq_true, iLe_true, iEq_true] at h
  obtain ⟨⟨h1, h2⟩, ⟨h3, h4⟩, h5⟩ := h
  have h6 : 0 ≤ g.1 * g.2.1 := Int.mul_nonneg (by omega) (by omega)
  have h7 : g.1 * g.2.1 ≤ 24 * 24 := Int.mul_le_mul h2 h4 (by omega) (by omega)
  rw [iMul_eq (by omega) (by omega)] at h5
  exact ⟨h1, h2, h3, h4, h5⟩

theorem spot_fit {s : Vec 2 Int} (h : Fit TySpot s) : (-32768 ≤ s.1 ∧ s.1 ≤ 32767) ∧ (-32768 ≤ s.2.1 ∧ s.2.1 ≤ 32767) := ⟨h.1, h.2.1⟩

theorem hasB_true {g : DGrid} {s : Vec 2 Int} (hs : Fit TySpot s) (hg : gridB g = true) (h : hasB g s = true) : 0 ≤ s.1 ∧ s.1 < g.1 ∧ 0 ≤ s.2.1 ∧ s.2.1 < g.2.1 := by
  obtain ⟨⟨a1, a2⟩, a3, a4⟩ := spot_fit hs
  obtain ⟨g1, g2, g3, g4, _⟩ := gridB_true hg
  simp only [hasB, Vec.getD, Bool.and_eq_true, iLe_true] at h
  rw [wrap_i64 (by omega) (by omega), wrap_i64 (by omega) (by omega), iSub_eq (by omega) (by omega), iSub_eq (by omega) (by omega)] at h
  omega

theorem at_lt {w h x y : Int} (hx0 : 0 ≤ x) (hx : x < w) (hy0 : 0 ≤ y) (hy : y < h) (hw : w ≤ 24) : 0 ≤ y * w + x ∧ y * w + x < w * h := by
  have h1 : 0 ≤ y * w := Int.mul_nonneg hy0 (by omega)
  have h2 : (y + 1) * w ≤ h * w := Int.mul_le_mul_of_nonneg_right (by omega) (by omega)
  have h3 : (y + 1) * w = y * w + w := by rw [Int.add_mul, Int.one_mul]
  have h4 : h * w = w * h := Int.mul_comm h w
  omega

theorem atI_eq {g : DGrid} {s : Vec 2 Int} (hs : Fit TySpot s) (hg : gridB g = true) (h : hasB g s = true) : atI g s = s.2.1 * g.1 + s.1 ∧ 0 ≤ s.2.1 * g.1 + s.1 ∧ s.2.1 * g.1 + s.1 < g.2.2.1.length := by
  obtain ⟨⟨a1, a2⟩, a3, a4⟩ := spot_fit hs
  obtain ⟨g1, g2, g3, g4, g5⟩ := gridB_true hg
  obtain ⟨b1, b2, b3, b4⟩ := hasB_true hs hg h
  obtain ⟨c1, c2⟩ := at_lt b1 b2 b3 b4 g2
  have h7 : g.1 * g.2.1 ≤ 24 * 24 := Int.mul_le_mul g2 g4 (by omega) (by omega)
  have h8 : 0 ≤ s.2.1 * g.1 := Int.mul_nonneg b3 (by omega)
  simp only [atI, Vec.getD]
  rw [wrap_i64 (by omega) (by omega), wrap_i64 (by omega) (by omega), iMul_eq (by omega) (by omega), iAdd_eq (by omega) (by omega)]
  exact ⟨rfl, c1, by omega⟩

theorem at_inB {g : DGrid} {s : Vec 2 Int} (hs : Fit TySpot s) (hg : gridB g = true) (h : hasB g s = true) : inB (atI g s) g.2.2.1.length = true := by
  obtain ⟨e, h1, h2⟩ := atI_eq hs hg h
  rw [e]
  exact inB_int h1 h2

theorem spotsCode_one (g : DGrid) (s : Vec 2 Int) : (spotsCode g [s] = 0 ∧ gridB g = true ∧ hasB g s = true) ∨ iEq (spotsCode g [s]) 0 = false := by
  simp only [spotsCode, List.any_cons, List.any_nil, Bool.or_false]
  cases gridB g <;> cases hasB g s <;> simp [iEq]

/-! ### CostAt -/

theorem grid_sized {g : DGrid} (h : Fit TyGrid g) : Sized TyGrid g := sized_of_fit rfl h

theorem grid_len {g : DGrid} (h : Fit TyGrid g) : g.2.2.1.length * 1 ≤ 140737488351232 := h.2.2.1.1

/-! ### WithCost -/

/-! ### steps -/
def cellI (g : DGrid) (s : Vec 2 Int) : Int := g.2.2.1.getD (atI g s).toNat 0
def wallB (g : DGrid) (s : Vec 2 Int) : Bool := iEq (cellI g s) 255
def dxI (a b : Vec 2 Int) : Int := b.1 - a.1
def dyI (a b : Vec 2 Int) : Int := b.2.1 - a.2.1
def nearB (a b : Vec 2 Int) : Bool := (iLe (-1) (dxI a b) && iLe (dxI a b) 1) && ((iLe (-1) (dyI a b) && iLe (dyI a b) 1) && !(iEq (dxI a b) 0 && iEq (dyI a b) 0))
def diagB (a b : Vec 2 Int) : Bool := !iEq (dxI a b) 0 && !iEq (dyI a b) 0
def stepB (g : DGrid) (a b : Vec 2 Int) : Bool := nearB a b && (hasB g b && (!wallB g b && (bif diagB a b then !wallB g (a.1, b.2.1, ()) && !wallB g (b.1, a.2.1, ()) else true)))
def stepC (g : DGrid) (a b : Vec 2 Int) : Int := cellI g b + (bif diagB a b then 14 else 10)
theorem fit_spot {x y : Int} (h1 : -32768 ≤ x) (h2 : x ≤ 32767) (h3 : -32768 ≤ y) (h4 : y ≤ 32767) : Fit TySpot ((x, y, ()) : Vec 2 Int) := ⟨⟨h1, h2⟩, ⟨h3, h4⟩, trivial⟩
theorem cell_bounds {g : DGrid} (hf : Fit TyGrid g) (s : Vec 2 Int) : 0 ≤ cellI g s ∧ cellI g s ≤ 255 := by
  unfold cellI
  rw [List.getD_eq_getElem?_getD]
  cases h : g.2.2.1[(atI g s).toNat]? with
  | none => exact ⟨Int.le_refl _, by decide⟩
  | some x =>
    have := hf.2.2.1.2 x (List.mem_of_getElem? h)
    exact ⟨this.1, this.2⟩
theorem hasB_iff {g : DGrid} {s : Vec 2 Int} (hs : Fit TySpot s) (hg : gridB g = true) : hasB g s = true ↔ 0 ≤ s.1 ∧ s.1 < g.1 ∧ 0 ≤ s.2.1 ∧ s.2.1 < g.2.1 := by
  refine ⟨hasB_true hs hg, fun h => ?_⟩
  obtain ⟨⟨a1, a2⟩, a3, a4⟩ := spot_fit hs
  obtain ⟨g1, g2, g3, g4, _⟩ := gridB_true hg
  simp only [hasB, Vec.getD, Bool.and_eq_true, iLe_true]
  rw [wrap_i64 (by omega) (by omega), wrap_i64 (by omega) (by omega), iSub_eq (by omega) (by omega), iSub_eq (by omega) (by omega)]
  omega

theorem impl_Grid_isWall_ok {g : DGrid} {s : Vec 2 Int} (hs : Fit TySpot s) (hg : gridB g = true) (h : hasB g s = true) : impl_Grid_isWall g s = some ((wallB g s, ()), ()) := by
  simp only [impl_Grid_isWall, impl_Grid_at_ok, Option.bind_some, at_inB hs hg h, cond_true, wallB, cellI]

theorem spec_l07Wall_ok {g : DGrid} {s : Vec 2 Int} (hs : Fit TySpot s) (hg : gridB g = true) (h : hasB g s = true) : spec_l07Wall g s = some ((wallB g s, ()), ()) := by
  simp only [spec_l07Wall, spec_l07Index_ok, Option.bind_some, at_inB hs hg h, cond_true, wallB, cellI]

theorem impl_Grid_stepCost_ok {g : DGrid} (hf : Fit TyGrid g) (hg : gridB g = true) {a b : Vec 2 Int} (ha : Fit TySpot a) (hb : Fit TySpot b) (hh : hasB g a = true) :
    impl_Grid_stepCost g a b = some ((bif stepB g a b then stepC g a b else 0, stepB g a b, ()), ()) := by
  obtain ⟨⟨p1, p2⟩, p3, p4⟩ := spot_fit ha
  obtain ⟨⟨q1, q2⟩, q3, q4⟩ := spot_fit hb
  obtain ⟨g1, g2, g3, g4, _⟩ := gridB_true hg
  have ex : iSub .i64 (iWrap .i64 b.1) (iWrap .i64 a.1) = dxI a b := by
    rw [wrap_i64 (by omega) (by omega), wrap_i64 (by omega) (by omega), iSub_eq (by omega) (by omega)]; rfl
  have ey : iSub .i64 (iWrap .i64 b.2.1) (iWrap .i64 a.2.1) = dyI a b := by
    rw [wrap_i64 (by omega) (by omega), wrap_i64 (by omega) (by omega), iSub_eq (by omega) (by omega)]; rfl
  have h := (hasB_iff ha hg).1 hh
  obtain ⟨c1, c2⟩ := cell_bounds hf b
  have ec : List.getD g.2.2.1 (atI g b).toNat (0 : Int) = cellI g b := rfl
  have ew : iAdd .i64 10 (iWrap .i64 (cellI g b)) = cellI g b + 10 := by
    rw [wrap_i64 (by omega) (by omega), iAdd_eq (by omega) (by omega)]; omega
  have e4 : iAdd .i64 (cellI g b + 10) 4 = cellI g b + 14 := by rw [iAdd_eq (by omega) (by omega)]; omega
  have ea0 : Vec.getD 2 a 0 (0 : Int) = a.1 := rfl
  have ea1 : Vec.getD 2 a 1 (0 : Int) = a.2.1 := rfl
  have eb0 : Vec.getD 2 b 0 (0 : Int) = b.1 := rfl
  have eb1 : Vec.getD 2 b 1 (0 : Int) = b.2.1 := rfl
  unfold impl_Grid_stepCost
  simp only [ex, ey, within_eq, l00In_ok, Option.bind_some, impl_Grid_has_ok, impl_Grid_at_ok, ec, ew, e4, ea0, ea1, eb0, eb1, stepB, nearB, diagB, stepC]
  cases hb' : hasB g b with
  | false => cases (iLe (-1) (dxI a b) && iLe (dxI a b) 1) <;> cases (iLe (-1) (dyI a b) && iLe (dyI a b) 1) <;> cases iEq (dxI a b) 0 <;> cases iEq (dyI a b) 0 <;> rfl
  | true =>
    have h' := (hasB_iff hb hg).1 hb'
    have f1 : Fit TySpot ((a.1, b.2.1, ()) : Vec 2 Int) := fit_spot (by omega) (by omega) (by omega) (by omega)
    have f2 : Fit TySpot ((b.1, a.2.1, ()) : Vec 2 Int) := fit_spot (by omega) (by omega) (by omega) (by omega)
    have k1 := impl_Grid_isWall_ok f1 hg ((hasB_iff f1 hg).2 ⟨h.1, h.2.1, h'.2.2.1, h'.2.2.2⟩)
    have k2 := impl_Grid_isWall_ok f2 hg ((hasB_iff f2 hg).2 ⟨h'.1, h'.2.1, h.2.2.1, h.2.2.2⟩)
    simp only [impl_Grid_isWall_ok hb hg hb', k1, k2, at_inB hb hg hb', Option.bind_some]
    cases (iLe (-1) (dxI a b) && iLe (dxI a b) 1) <;> cases (iLe (-1) (dyI a b) && iLe (dyI a b) 1) <;> cases iEq (dxI a b) 0 <;> cases iEq (dyI a b) 0 <;> cases wallB g b <;> cases wallB g (a.1, b.2.1, ()) <;> cases wallB g (b.1, a.2.1, ()) <;> rfl

theorem spec_l07At_ok {g : DGrid} {s : Vec 2 Int} (hs : Fit TySpot s) : spec_l07At g s.1 s.2.1 = some ((hasB g s, ()), ()) := by
  obtain ⟨⟨a1, a2⟩, a3, a4⟩ := spot_fit hs
  simp only [spec_l07At, l00In_ok, Option.bind_some, hasB, Vec.getD]
  rw [wrap_i64 (by omega) (by omega), wrap_i64 (by omega) (by omega)]
  cases (iLe 0 s.1 && iLe s.1 (iSub .i64 g.1 1)) <;> rfl

theorem wrap_i16 {a : Int} (h : -32768 ≤ a) (h1 : a ≤ 32767) : iWrap .i16 a = a := by simp [iWrap, IntKind.wrap, IntKind.signed, IntKind.bits]; omega

/-- a step of the reference, to a place that lies near -/
theorem spec_l07Move_ok {g : DGrid} (hf : Fit TyGrid g) (hg : gridB g = true) {a b : Vec 2 Int} (ha : Fit TySpot a) (hb : Fit TySpot b) (hh : hasB g a = true) (hn : nearB a b = true) :
    spec_l07Move g a (dxI a b) (dyI a b) = some ((bif stepB g a b then b else ((0, 0, ()) : Vec 2 Int), bif stepB g a b then stepC g a b else 0, stepB g a b, ()), ()) := by
  obtain ⟨⟨p1, p2⟩, p3, p4⟩ := spot_fit ha
  obtain ⟨⟨q1, q2⟩, q3, q4⟩ := spot_fit hb
  obtain ⟨g1, g2, g3, g4, _⟩ := gridB_true hg
  have ex : iAdd .i64 (iWrap .i64 a.1) (dxI a b) = b.1 := by
    simp only [dxI]
    rw [wrap_i64 (by omega) (by omega), iAdd_eq (by omega) (by omega)]; omega
  have ey : iAdd .i64 (iWrap .i64 a.2.1) (dyI a b) = b.2.1 := by
    simp only [dyI]
    rw [wrap_i64 (by omega) (by omega), iAdd_eq (by omega) (by omega)]; omega
  have h := (hasB_iff ha hg).1 hh
  obtain ⟨c1, c2⟩ := cell_bounds hf b
  have w1 : iWrap .i16 b.1 = b.1 := wrap_i16 q1 q2
  have w2 : iWrap .i16 b.2.1 = b.2.1 := wrap_i16 q3 q4
  have ea0 : Vec.getD 2 a 0 (0 : Int) = a.1 := rfl
  have ea1 : Vec.getD 2 a 1 (0 : Int) = a.2.1 := rfl
  have eb : ((b.1, b.2.1, ()) : Vec 2 Int) = b := rfl
  have ec : List.getD g.2.2.1 (atI g b).toNat (0 : Int) = cellI g b := rfl
  have ew : iAdd .i64 10 (iWrap .i64 (cellI g b)) = cellI g b + 10 := by
    rw [wrap_i64 (by omega) (by omega), iAdd_eq (by omega) (by omega)]; omega
  have ew4 : iAdd .i64 14 (iWrap .i64 (cellI g b)) = cellI g b + 14 := by
    rw [wrap_i64 (by omega) (by omega), iAdd_eq (by omega) (by omega)]; omega
  unfold spec_l07Move
  simp only [ex, ey, w1, w2, eb, ea0, ea1, spec_l07At_ok hb, Option.bind_some, stepB, hn, Bool.true_and, diagB, stepC]
  cases hb' : hasB g b with
  | false => rfl
  | true =>
    have h' := (hasB_iff hb hg).1 hb'
    have f1 : Fit TySpot ((a.1, b.2.1, ()) : Vec 2 Int) := fit_spot (by omega) (by omega) (by omega) (by omega)
    have f2 : Fit TySpot ((b.1, a.2.1, ()) : Vec 2 Int) := fit_spot (by omega) (by omega) (by omega) (by omega)
    have k1 := spec_l07Wall_ok f1 hg ((hasB_iff f1 hg).2 ⟨h.1, h.2.1, h'.2.2.1, h'.2.2.2⟩)
    have k2 := spec_l07Wall_ok f2 hg ((hasB_iff f2 hg).2 ⟨h'.1, h'.2.1, h.2.2.1, h.2.2.2⟩)
    have e5 := spec_l07Index_ok g b
    simp only [spec_l07Wall_ok hb hg hb', k1, k2, e5, at_inB hb hg hb', ec, ew, ew4, Option.bind_some]
    cases iEq (dxI a b) 0 <;> cases iEq (dyI a b) 0 <;> cases wallB g b <;> cases wallB g (a.1, b.2.1, ()) <;> cases wallB g (b.1, a.2.1, ()) <;> rfl

/-! ### lines -/
theorem floorDiv {x m : Int} (hm : 0 < m) (hm1 : m ≤ 1000000) (h : -1000000 ≤ x) (h1 : x ≤ 1000000) : (bif iLt (iRem .i64 x m) 0 then iSub .i64 (iQuo .i64 x m) 1 else iQuo .i64 x m) = x / m := by
  have hb := Int.natAbs_tdiv_le_natAbs x m
  have hq : iQuo .i64 x m = x.tdiv m := wrap64_id (by omega) (by omega)
  have hr : iRem .i64 x m = x.tmod m := rfl
  have e := Int.mul_tdiv_add_tmod x m
  have l1 := Int.lt_tmod_of_pos x hm
  have l2 := Int.tmod_lt_of_pos x hm
  rw [hq, hr]
  generalize x.tdiv m = q at *
  generalize x.tmod m = r at *
  by_cases h0 : r < 0
  · rw [iLt_pos h0, cond_true, iSub_eq (by omega) (by omega)]
    have e2 : x = (r + m) + m * (q - 1) := by rw [Int.mul_sub, Int.mul_one]; omega
    rw [e2, Int.add_mul_ediv_left _ _ (by omega), Int.ediv_eq_zero_of_lt (by omega) (by omega)]
    omega
  · rw [iLt_neg h0, cond_false]
    have e2 : x = r + m * q := by omega
    rw [e2, Int.add_mul_ediv_left _ _ (by omega), Int.ediv_eq_zero_of_lt (by omega) (by omega)]
    omega

/-- how far a line has come at a step -/
def lineQ (n d k : Int) : Int := (2 * k * d + n) / (2 * n)
theorem lineQ_zero {n d : Int} (hn : 1 ≤ n) : lineQ n d 0 = 0 := by
  unfold lineQ
  rw [show 2 * 0 * d + n = n by simp]
  exact Int.ediv_eq_zero_of_lt (by omega) (by omega)
theorem half_zero {n : Int} (hn : 1 ≤ n) : n / (2 * n) = 0 := Int.ediv_eq_zero_of_lt (by omega) (by omega)
/-- along the longer side it goes one by one -/
theorem lineQ_pos {n k : Int} (hn : 1 ≤ n) : lineQ n n k = k := by
  unfold lineQ
  rw [show 2 * k * n + n = n + 2 * n * k by rw [Int.mul_assoc, Int.mul_comm k n, ← Int.mul_assoc]; omega, Int.add_mul_ediv_left _ _ (by omega), half_zero hn]
  omega
theorem lineQ_neg {n k : Int} (hn : 1 ≤ n) : lineQ n (-n) k = -k := by
  unfold lineQ
  rw [show 2 * k * -n + n = n + 2 * n * -k by rw [Int.mul_neg, Int.mul_neg, Int.mul_assoc, Int.mul_comm k n, ← Int.mul_assoc]; omega, Int.add_mul_ediv_left _ _ (by omega), half_zero hn]
  omega
theorem lineQ_step {n d k : Int} (hn : 1 ≤ n) (h : -n ≤ d) (h1 : d ≤ n) : lineQ n d k - 1 ≤ lineQ n d (k + 1) ∧ lineQ n d (k + 1) ≤ lineQ n d k + 1 := by
  unfold lineQ
  have e : 2 * (k + 1) * d + n = (2 * k * d + n) + 2 * d := by rw [Int.mul_add, Int.add_mul]; omega
  rw [e]
  generalize 2 * k * d + n = x
  have a1 : (x + 1 * (2 * n)) / (2 * n) = x / (2 * n) + 1 := Int.add_mul_ediv_right _ _ (by omega)
  have a2 : (x + (-1) * (2 * n)) / (2 * n) = x / (2 * n) + -1 := Int.add_mul_ediv_right _ _ (by omega)
  have b1 := Int.ediv_le_ediv (c := 2 * n) (by omega) (show x + 2 * d ≤ x + 1 * (2 * n) by omega)
  have b2 := Int.ediv_le_ediv (c := 2 * n) (by omega) (show x + (-1) * (2 * n) ≤ x + 2 * d by omega)
  omega
theorem lineQ_bounds {n d k : Int} (hn : 1 ≤ n) (h : -n ≤ d) (h1 : d ≤ n) (hk : 0 ≤ k) (hk1 : k ≤ n) : (0 ≤ d → 0 ≤ lineQ n d k ∧ lineQ n d k ≤ d) ∧ (d ≤ 0 → d ≤ lineQ n d k ∧ lineQ n d k ≤ 0) := by
  have hz := half_zero hn
  have e : (n + 2 * n * d) / (2 * n) = d := by rw [Int.add_mul_ediv_left _ _ (by omega), hz]; omega
  unfold lineQ
  constructor
  · intro hd
    have p1 : 0 ≤ k * d := Int.mul_nonneg hk hd
    have p2 : k * d ≤ n * d := Int.mul_le_mul_of_nonneg_right hk1 hd
    have b1 := Int.ediv_le_ediv (c := 2 * n) (by omega) (show n ≤ 2 * k * d + n by rw [Int.mul_assoc]; omega)
    have b2 := Int.ediv_le_ediv (c := 2 * n) (by omega) (show 2 * k * d + n ≤ n + 2 * n * d by rw [Int.mul_assoc, Int.mul_assoc]; omega)
    omega
  · intro hd
    have p1 : k * d ≤ 0 := Int.mul_nonpos_of_nonneg_of_nonpos hk hd
    have p2 : n * d ≤ k * d := Int.mul_le_mul_of_nonpos_right hk1 hd
    have b1 := Int.ediv_le_ediv (c := 2 * n) (by omega) (show 2 * k * d + n ≤ n by rw [Int.mul_assoc]; omega)
    have b2 := Int.ediv_le_ediv (c := 2 * n) (by omega) (show n + 2 * n * d ≤ 2 * k * d + n by rw [Int.mul_assoc, Int.mul_assoc]; omega)
    omega

/-- the longer side of a line -/
def spanI (a b : Vec 2 Int) : Int := max (max (max (dxI a b) (-dxI a b)) (dyI a b)) (-dyI a b)
def pointP (a b : Vec 2 Int) (k : Int) : Vec 2 Int := (a.1 + lineQ (spanI a b) (dxI a b) k, a.2.1 + lineQ (spanI a b) (dyI a b) k, ())
/-- the spots of a line -/
def lineL (a b : Vec 2 Int) : List (Vec 2 Int) := a :: (List.range (spanI a b).toNat).map fun j : Nat => pointP a b (1 + j)
theorem line_len (a b : Vec 2 Int) : (lineL a b).length = (spanI a b).toNat + 1 := by simp [lineL]
theorem line_at {a b : Vec 2 Int} {i : Nat} (h : i < (lineL a b).length) (hn : 1 ≤ spanI a b) : (lineL a b)[i] = pointP a b i := by
  cases i with
  | zero =>
    show a = pointP a b 0
    unfold pointP
    rw [lineQ_zero hn, lineQ_zero hn, Int.add_zero, Int.add_zero]
    rfl
  | succ i =>
    simp only [lineL, List.getElem_cons_succ, List.getElem_map, List.getElem_range]
    congr 1
    omega
section
variable {g : DGrid} (hg : gridB g = true) {a b : Vec 2 Int} (ha : Fit TySpot a) (hb : Fit TySpot b) (hha : hasB g a = true) (hhb : hasB g b = true)
include hg ha hb hha hhb
theorem span_bounds : 0 ≤ spanI a b ∧ spanI a b ≤ 23 ∧ (-spanI a b ≤ dxI a b ∧ dxI a b ≤ spanI a b) ∧ (-spanI a b ≤ dyI a b ∧ dyI a b ≤ spanI a b) ∧ ((dxI a b = spanI a b ∨ dxI a b = -spanI a b) ∨ (dyI a b = spanI a b ∨ dyI a b = -spanI a b)) ∧ (-23 ≤ dxI a b ∧ dxI a b ≤ 23) ∧ (-23 ≤ dyI a b ∧ dyI a b ≤ 23) := by
  obtain ⟨g1, g2, g3, g4, _⟩ := gridB_true hg
  have h1 := (hasB_iff ha hg).1 hha
  have h2 := (hasB_iff hb hg).1 hhb
  unfold spanI dxI dyI
  omega
theorem point_in {k : Int} (hn : 1 ≤ spanI a b) (hk : 0 ≤ k) (hk1 : k ≤ spanI a b) : 0 ≤ (pointP a b k).1 ∧ (pointP a b k).1 < g.1 ∧ 0 ≤ (pointP a b k).2.1 ∧ (pointP a b k).2.1 < g.2.1 := by
  obtain ⟨s1, s2, s3, s4, s5, _⟩ := span_bounds hg ha hb hha hhb
  have h1 := (hasB_iff ha hg).1 hha
  have h2 := (hasB_iff hb hg).1 hhb
  have q1 := lineQ_bounds hn s3.1 s3.2 hk hk1
  have q2 := lineQ_bounds hn s4.1 s4.2 hk hk1
  have ex : b.1 = a.1 + dxI a b := by unfold dxI; omega
  have ey : b.2.1 = a.2.1 + dyI a b := by unfold dyI; omega
  simp only [pointP]
  generalize lineQ (spanI a b) (dxI a b) k = x at *
  generalize lineQ (spanI a b) (dyI a b) k = y at *
  by_cases d1 : 0 ≤ dxI a b
  · have := q1.1 d1
    by_cases d2 : 0 ≤ dyI a b
    · have := q2.1 d2
      omega
    · have := q2.2 (by omega)
      omega
  · have := q1.2 (by omega)
    by_cases d2 : 0 ≤ dyI a b
    · have := q2.1 d2
      omega
    · have := q2.2 (by omega)
      omega
theorem point_fit {k : Int} (hn : 1 ≤ spanI a b) (hk : 0 ≤ k) (hk1 : k ≤ spanI a b) : Fit TySpot (pointP a b k) := by
  obtain ⟨g1, g2, g3, g4, _⟩ := gridB_true hg
  have h := point_in hg ha hb hha hhb hn hk hk1
  exact fit_spot (x := (pointP a b k).1) (y := (pointP a b k).2.1) (by omega) (by omega) (by omega) (by omega)
theorem point_near {k : Int} (hn : 1 ≤ spanI a b) (hk : 0 ≤ k) (hk1 : k < spanI a b) : nearB (pointP a b k) (pointP a b (k + 1)) = true := by
  obtain ⟨s1, s2, s3, s4, s5, _⟩ := span_bounds hg ha hb hha hhb
  have q1 := lineQ_step (k := k) hn s3.1 s3.2
  have q2 := lineQ_step (k := k) hn s4.1 s4.2
  have hne : lineQ (spanI a b) (dxI a b) (k + 1) ≠ lineQ (spanI a b) (dxI a b) k ∨ lineQ (spanI a b) (dyI a b) (k + 1) ≠ lineQ (spanI a b) (dyI a b) k := by
    rcases s5 with (e | e) | (e | e)
    · rw [e, lineQ_pos hn, lineQ_pos hn]; exact .inl (by omega)
    · rw [e, lineQ_neg hn, lineQ_neg hn]; exact .inl (by omega)
    · rw [e, lineQ_pos hn, lineQ_pos hn]; exact .inr (by omega)
    · rw [e, lineQ_neg hn, lineQ_neg hn]; exact .inr (by omega)
  simp only [nearB, dxI, dyI, pointP, Bool.and_eq_true, iLe_true, Bool.not_eq_true', Bool.and_eq_false_iff, iEq_false]
  unfold dxI dyI at *
  omega
end

/-! ### what is seen -/
theorem getD_line {a b : Vec 2 Int} {i : Nat} (h : i < (lineL a b).length) : (lineL a b).getD i ((0, 0, ()) : (Vec 2 Int)) = (lineL a b)[i] := getD_of h
theorem wallB_near {g : DGrid} {a b : Vec 2 Int} (hn : nearB a b = true) (hh : hasB g b = true) : stepB g a b = (!wallB g b && (bif diagB a b then !wallB g (a.1, b.2.1, ()) && !wallB g (b.1, a.2.1, ()) else true)) := by
  simp [stepB, hn, hh]
theorem diag_iff (a b : Vec 2 Int) : diagB a b = (!iEq b.1 a.1 && !iEq b.2.1 a.2.1) := by
  have e1 : iEq (dxI a b) 0 = iEq b.1 a.1 := by
    by_cases h : b.1 = a.1
    · rw [iEq_pos h, iEq_pos (by unfold dxI; omega)]
    · rw [iEq_neg h, iEq_neg (by unfold dxI; omega)]
  have e2 : iEq (dyI a b) 0 = iEq b.2.1 a.2.1 := by
    by_cases h : b.2.1 = a.2.1
    · rw [iEq_pos h, iEq_pos (by unfold dyI; omega)]
    · rw [iEq_neg h, iEq_neg (by unfold dyI; omega)]
  unfold diagB
  rw [e1, e2]

theorem spotsCode_two (g : DGrid) (s t : Vec 2 Int) : (spotsCode g [s, t] = 0 ∧ gridB g = true ∧ hasB g s = true ∧ hasB g t = true) ∨ iEq (spotsCode g [s, t]) 0 = false := by
  simp only [spotsCode, List.any_cons, List.any_nil, Bool.or_false]
  cases gridB g <;> cases hasB g s <;> cases hasB g t <;> simp [iEq]
end Go.Proofs.YtnndahnmlmgenaaGreat
