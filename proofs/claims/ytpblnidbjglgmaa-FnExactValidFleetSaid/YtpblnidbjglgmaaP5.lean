/- Functions of the program and of the reference in plain terms. -/
import Derived.Test.YtpblnidbjglgmaaP4
namespace Go.Proofs.Ytpblnidbjglgmaa
open Go Go.Tm
set_option linter.unusedVariables false
set_option linter.unusedSimpArgs false
set_option linter.unusedSectionVars false
/-! ### cells and fleets -/
abbrev DSight := (Vec 3 Nat) × (Nat × (Int × Unit))
abbrev DFleet := Nat × (Nat × ((List (List DSight)) × Unit))
abbrev TySight : Ty := .pair (.arr 3 (.flt .f32)) (.pair (.flt .f32) (.pair (.int .i64) .unit))
abbrev TyFleet : Ty := .pair (.flt .f32) (.pair (.flt .f32) (.pair (.list (.list TySight)) .unit))
def sideB (x : Nat) : Bool := finB x && fLt .f32 0 x

theorem impl_isSide_ok (x : Nat) : impl_isSide x = some ((sideB x, ()), ()) := by
  simp only [impl_isSide, impl_isFinite_ok [x] (by simp), Option.bind_some, List.all_cons, List.all_nil, Bool.and_true, sideB]
  cases finB x <;> rfl

theorem spec_l05Side_ok (x : Nat) : spec_l05Side x = some ((sideB x, ()), ()) := by
  simp only [spec_l05Side, spec_l01Finite_ok, Option.bind_some, sideB]
  cases finB x <;> rfl

theorem math_Floor_ok (x : Nat) : math_Floor x = some ((fRound .down x, ()), ()) := rfl

theorem math_Abs_num {y : Nat} (hn : isNan .f64 y = false) : math_Abs y = some ((absW y, ()), ()) := by
  unfold math_Abs
  exact allSame_of fun q => by rw [bits_num hn]; rfl

/-- the place of a number among the cells -/
def floorC (v side : Nat) : Nat := fRound .down (conv64 (fDiv .f32 v side))
theorem floorC_num {v side : Nat} (hv : finB v = true) (hs : sideB side = true) : isNan .f64 (floorC v side) = false := by
  simp only [sideB, Bool.and_eq_true] at hs
  obtain ⟨s, m, p, h1⟩ := fin_number (k := .f32) hv
  obtain ⟨s', m', p', h2⟩ := fin_number (k := .f32) hs.1
  exact fRound_nan (conv64_nan (div_num h1 h2 (fLt_zero h2 hs.2)))
def cellB (v side : Nat) : Bool := fLe .f64 milliom (floorC v side) && fLe .f64 (floorC v side) million
def cellN (v side : Nat) : Int := (fToInt .f64 (floorC v side) .i32).getD 0
theorem cellN_eq {v side : Nat} (hv : finB v = true) (hs : sideB side = true) (h : cellB v side = true) : fToInt .f64 (floorC v side) .i32 = some (cellN v side) := by
  obtain ⟨n, hn⟩ := toInt_million (floorC_num hv hs) h
  unfold cellN
  rw [hn]
  rfl
def cellF (side : Nat) (v : Vec 3 Nat) : Vec 3 Int × Int × Unit :=
  bif !(sideB side && finV v) then ((0, 0, 0, ()), 2, ()) else
  bif cellB (Vec.getD 3 v 0 (0 : Nat)) side && (cellB (Vec.getD 3 v 1 (0 : Nat)) side && cellB (Vec.getD 3 v 2 (0 : Nat)) side) then ((cellN (Vec.getD 3 v 0 (0 : Nat)) side, cellN (Vec.getD 3 v 1 (0 : Nat)) side, cellN (Vec.getD 3 v 2 (0 : Nat)) side, ()), 0, ()) else ((0, 0, 0, ()), 3, ())

theorem impl_CellOf_ok (side : Nat) (v : Vec 3 Nat) : impl_CellOf side v = some (cellF side v, ()) := by
  have em : (4696837146684686336 : Nat) = million := rfl
  simp only [impl_CellOf, impl_isSide_ok, impl_IsFiniteVec_ok, Option.bind_some, cellF]
  cases hs : sideB side with
  | false => rfl
  | true =>
    cases hv : finV v with
    | false => rfl
    | true =>
      have hv' := hv
      simp only [finV, Bool.and_eq_true] at hv'
      obtain ⟨v0, v1, v2⟩ := hv'
      have ab : ∀ x, finB x = true → math_Abs (floorC x side) = some ((absW (floorC x side), ()), ()) := fun x hx => math_Abs_num (floorC_num hx hs)
      have am : ∀ x, finB x = true → fLt .f64 million (absW (floorC x side)) = !cellB x side := fun x hx => abs_million (fRound_lt _) (floorC_num hx hs)
      have ec : ∀ x, fRound .down (conv64 (fDiv .f32 x side)) = floorC x side := fun _ => rfl
      simp only [Bool.not_true, Bool.and_self, cond_false, fConv32_eq, math_Floor_ok, Option.bind_some, ec, ab _ v0, ab _ v1, ab _ v2, em, am _ v0, am _ v1, am _ v2]
      cases c0 : cellB (Vec.getD 3 v 0 (0 : Nat)) side
      · rfl
      · simp only [Bool.not_true, cond_false, cellN_eq v0 hs c0, Option.bind_some, Bool.true_and]
        cases c1 : cellB (Vec.getD 3 v 1 (0 : Nat)) side
        · rfl
        · simp only [Bool.not_true, cond_false, cellN_eq v1 hs c1, Option.bind_some, Bool.true_and]
          cases c2 : cellB (Vec.getD 3 v 2 (0 : Nat)) side
          · rfl
          · simp only [Bool.not_true, cond_false, cond_true, cellN_eq v2 hs c2, Option.bind_some]

theorem spec_l05Cell_ok (side : Nat) (v : Vec 3 Nat) : spec_l05Cell side v = some (cellF side v, ()) := by
  have em : (4696837146684686336 : Nat) = million := rfl
  have en : (13920209183539462144 : Nat) = milliom := rfl
  simp only [spec_l05Cell, spec_l05Side_ok, spec_l01Vec_ok, Option.bind_some, cellF]
  cases hs : sideB side with
  | false => rfl
  | true =>
    cases hv : finV v with
    | false => rfl
    | true =>
      have hv' := hv
      simp only [finV, Bool.and_eq_true] at hv'
      obtain ⟨v0, v1, v2⟩ := hv'
      have ec : ∀ x, fRound .down (conv64 (fDiv .f32 x side)) = floorC x side := fun _ => rfl
      have cb : ∀ x, cellB x side = (fLe .f64 milliom (floorC x side) && fLe .f64 (floorC x side) million) := fun _ => rfl
      have k0 := fun h => cellN_eq v0 hs h
      have k1 := fun h => cellN_eq v1 hs h
      have k2 := fun h => cellN_eq v2 hs h
      rw [cb] at k0 k1 k2
      simp only [Bool.not_true, Bool.and_self, cond_false, fConv32_eq, math_Floor_ok, Option.bind_some, ec, em, en, cb]
      cases a0 : fLe .f64 milliom (floorC (Vec.getD 3 v 0 (0 : Nat)) side)
      · rfl
      · cases b0 : fLe .f64 (floorC (Vec.getD 3 v 0 (0 : Nat)) side) million
        · rfl
        · simp only [Bool.not_true, cond_false, cond_true, k0 (by rw [a0, b0]; rfl), Option.bind_some, Bool.true_and]
          cases a1 : fLe .f64 milliom (floorC (Vec.getD 3 v 1 (0 : Nat)) side)
          · rfl
          · cases b1 : fLe .f64 (floorC (Vec.getD 3 v 1 (0 : Nat)) side) million
            · rfl
            · simp only [Bool.not_true, cond_false, cond_true, k1 (by rw [a1, b1]; rfl), Option.bind_some, Bool.true_and]
              cases a2 : fLe .f64 milliom (floorC (Vec.getD 3 v 2 (0 : Nat)) side)
              · rfl
              · cases b2 : fLe .f64 (floorC (Vec.getD 3 v 2 (0 : Nat)) side) million
                · rfl
                · simp only [Bool.not_true, cond_false, cond_true, k2 (by rw [a2, b2]; rfl), Option.bind_some, Bool.and_self]

theorem spec_CellOf_ok (side : Nat) (v : Vec 3 Nat) : spec_CellOf side v = some (cellF side v, ()) := by
  simp only [spec_CellOf, spec_l05Cell_ok, Option.bind_some]

theorem spec_l03Least_ok (x : Nat) : spec_l03Least x = some ((leastB x, ()), ()) := by
  simp only [spec_l03Least, spec_l01Finite_ok, Option.bind_some, leastB]
  cases fLe .f32 0 x <;> cases finB x <;> rfl

def timeB (t : Int) : Bool := iLe 0 t && iLe t 1000000000

theorem impl_isTime_ok (t : Int) : impl_isTime t = some ((timeB t, ()), ()) := by
  simp only [impl_isTime, within_eq, l00In_ok, Option.bind_some, timeB]

theorem spec_l04Time_ok (t : Int) : spec_l04Time t = some ((timeB t, ()), ()) := by
  simp only [spec_l04Time, l00In_ok, Option.bind_some, timeB]

/-- a range that is not too great -/
def rangeB (x : Nat) : Bool := fLt .f32 0 x && fLe .f32 x 1232348160
theorem fin_of_number {x : Nat} {s : Bool} {m : Nat} {p : Int} (h : FloatKind.f32.decode x = .number s m p) : finB x = true := by
  have h' : FloatKind.f32.format.read x = .number s m p := h
  have e : fSub .f32 x x = 0 := by
    unfold fSub Ieee.Format.sub
    rw [h']
    have hs : Ieee.signed s m (p - min p p).toNat + Ieee.signed (!s) m (p - min p p).toNat = 0 := by rw [signed_neg]; omega
    have e2 : Ieee.Datum.sum (.number s m p) (Ieee.Datum.opposite (.number s m p)) = some (.number false 0 (min p p)) := by
      simp only [Ieee.Datum.sum, Ieee.Datum.opposite, hs]
      cases s <;> rfl
    rw [e2]
    simp only [Option.map_some, orNan]
    have e3 : FloatKind.f32.format.write (.number false 0 (min p p)) = 0 := by
      show FloatKind.f32.format.nearest false 0 (min p p) = 0
      rw [nearest_rungOf]
      unfold rungOf
      rw [if_pos rfl]
      rfl
    rw [e3]
    decide
  unfold finB
  rw [e]
  decide
theorem range_eq (x : Nat) : (sideB x && !fLt .f32 1232348160 x) = rangeB x := by
  have hC : FloatKind.f32.format.read 1232348160 = .number false 16000000 (-4) := by decide
  have some_beq : ∀ (a b : Ordering), ((some a : Option Ordering) == some b) = (a == b) := fun a b => by cases a <;> cases b <;> rfl
  cases hd : FloatKind.f32.decode x with
  | nan s t =>
    have hn : isNan .f32 x = true := isNan_iff.2 ⟨s, t, hd⟩
    have e1 : fLt .f32 0 x = false := by unfold fLt; rw [ord_nan2 _ _ hn]; rfl
    simp [sideB, rangeB, e1]
  | infinity s =>
    have hd' : FloatKind.f32.format.read x = .infinity s := hd
    have e2 : finB x = false := by
      cases hf : finB x with
      | false => rfl
      | true =>
        obtain ⟨a, b, c, h⟩ := fin_number (k := .f32) hf
        exact absurd (hd.symm.trans h) (by simp)
    have h0 : FloatKind.f32.format.read 0 = .number false 0 (-149) := by decide
    have e3 : rangeB x = false := by
      unfold rangeB fLt fLe Ieee.Format.order
      rw [hd', hC, h0]
      cases s <;> rfl
    simp [sideB, e2, e3]
  | number s m p =>
    have hd' : FloatKind.f32.format.read x = .number s m p := hd
    have e4 : (!fLt .f32 1232348160 x) = fLe .f32 x 1232348160 := by
      unfold fLt fLe Ieee.Format.order
      rw [hd', hC]
      simp only [Ieee.Datum.order, some_beq]
      rw [compare_le, compare_lt, Int.min_comm]
      generalize Ieee.signed s m _ = a
      generalize Ieee.signed false 16000000 _ = b
      by_cases h : b < a
      · have : ¬ a ≤ b := by omega
        simp [h, this]
      · have : a ≤ b := by omega
        simp [h, this]
    rw [e4]
    simp [sideB, rangeB, fin_of_number hd]
def sightB (side : Nat) (s : DSight) : Bool := iEq (cellF side s.1).2.1 0 && (rangeB s.2.1 && timeB s.2.2.1)
def fleetB (f : DFleet) : Bool := sideB f.1 && (leastB f.2.1 && ((iLe 1 (lenI f.2.2.1) && iLe (lenI f.2.2.1) 4) && f.2.2.1.all fun l => !iLt 16 (lenI l) && l.all (sightB f.1)))

theorem impl_ValidFleet_ok (f : DFleet) (h : Sized TyFleet f) : impl_ValidFleet f = some ((fleetB f, ()), ()) := by
  have hr : run (impl_ValidFleet_l4 f) ((0 : Int), ()) = some ((f.2.2.1.all fun l => !iLt 16 (lenI l) && l.all (sightB f.1), ()), ()) := by
    have hl : f.2.2.1.length ≤ 140737488355328 := h.2.2.1.1
    refine every_loop (fun i hi => ?_) ?_
    · have e1 : iLt (i : Int) (lenI f.2.2.1) = true := iLt_pos (by rw [lenI_eq]; omega)
      have e2 : inB (i : Int) f.2.2.1.length = true := inB_pos hi
      have e4 : f.2.2.1.getD i ([] : List DSight) = f.2.2.1[i] := getD_of hi
      have e5 : iAdd .i64 (i : Int) 1 = ((i + 1 : Nat) : Int) := iAdd_one hi (by omega)
      have hs : f.2.2.1[i].length ≤ 140737488355328 := (h.2.2.1.2 _ (List.getElem_mem hi)).1
      simp only [impl_ValidFleet_l4, e1, e2, e4, Int.toNat_natCast, cond_true]
      generalize f.2.2.1[i] = l at hs
      cases iLt 16 (lenI l)
      · have hin : run (impl_ValidFleet_l9 l f ((i : Int), ())) ((0 : Int), ()) = bif l.all (sightB f.1) then some (.inl (((i + 1 : Nat) : Int), ())) else some (.inr ((false, ()), ())) := by
          refine loop_all (xs := l) (fun j (s : Unit) => ((j : Int), ())) (sightB f.1) (fun s _ => s) (Sum.inr ((false, ()), ())) (fun s => some (Sum.inl (((i + 1 : Nat) : Int), ()))) (fun j hj s => ?_) (fun s => ?_) ()
          · have e1 : iLt (j : Int) (lenI l) = true := iLt_pos (by rw [lenI_eq]; omega)
            have e2 : inB (j : Int) l.length = true := inB_pos hj
            have e4 : l.getD j (((0, 0, 0, ()), 0, 0, ()) : DSight) = l[j] := getD_of hj
            have e5 : iAdd .i64 (j : Int) 1 = ((j + 1 : Nat) : Int) := iAdd_one hj (by omega)
            simp only [impl_ValidFleet_l9, e1, e2, e4, e5, Int.toNat_natCast, impl_CellOf_ok, impl_isSide_ok, impl_isTime_ok, Option.bind_some, cond_true, sightB, ← range_eq]
            generalize l[j] = x
            cases iEq (cellF f.1 x.1).2.1 0 <;> cases sideB x.2.1 <;> cases fLt .f32 1232348160 x.2.1 <;> cases timeB x.2.2.1 <;> rfl
          · have e1 : iLt (l.length : Int) (lenI l) = false := iLt_neg (by rw [lenI_eq]; omega)
            simp only [impl_ValidFleet_l9, e1, e5, cond_false]
        simp only [cond_false, hin]
        cases l.all (sightB f.1) <;> rfl
      · rfl
    · have e1 : iLt (f.2.2.1.length : Int) (lenI f.2.2.1) = false := iLt_neg (by rw [lenI_eq]; omega)
      simp only [impl_ValidFleet_l4, e1, cond_false]
      rfl
  simp only [impl_ValidFleet, impl_isSide_ok, impl_isLeast_ok, within_eq, l00In_ok, hr, Option.bind_some, fleetB]
  cases sideB f.1 <;> cases leastB f.2.1 <;> cases (iLe 1 (lenI f.2.2.1) && iLe (lenI f.2.2.1) 4) <;> rfl

theorem spec_l09Ok_ok (f : DFleet) (h : Sized TyFleet f) : spec_l09Ok f = some ((fleetB f, ()), ()) := by
  have hr : run (spec_l09Ok_l4 f) ((0 : Int), ()) = some ((f.2.2.1.all fun l => !iLt 16 (lenI l) && l.all (sightB f.1), ()), ()) := by
    have hl : f.2.2.1.length ≤ 140737488355328 := h.2.2.1.1
    refine every_loop (fun i hi => ?_) ?_
    · have e1 : iLt (i : Int) (lenI f.2.2.1) = true := iLt_pos (by rw [lenI_eq]; omega)
      have e2 : inB (i : Int) f.2.2.1.length = true := inB_pos hi
      have e4 : f.2.2.1.getD i ([] : List DSight) = f.2.2.1[i] := getD_of hi
      have e5 : iAdd .i64 (i : Int) 1 = ((i + 1 : Nat) : Int) := iAdd_one hi (by omega)
      have hs : f.2.2.1[i].length ≤ 140737488355328 := (h.2.2.1.2 _ (List.getElem_mem hi)).1
      have hin : ∀ l : List DSight, f.2.2.1[i] = l → l.length ≤ 140737488355328 → run (spec_l09Ok_l9 ((i : Int), ()) f) ((0 : Int), ()) = bif l.all (sightB f.1) then some (.inl (((i + 1 : Nat) : Int), ())) else some (.inr ((false, ()), ())) := by
        intro l hl' hs
        rw [hl'] at e4
        refine loop_all (xs := l) (fun j (s : Unit) => ((j : Int), ())) (sightB f.1) (fun s _ => s) (Sum.inr ((false, ()), ())) (fun s => some (Sum.inl (((i + 1 : Nat) : Int), ()))) (fun j hj s => ?_) (fun s => ?_) ()
        · have e1 : iLt (j : Int) (lenI l) = true := iLt_pos (by rw [lenI_eq]; omega)
          have e3 : inB (j : Int) l.length = true := inB_pos hj
          have e6 : l.getD j (((0, 0, 0, ()), 0, 0, ()) : DSight) = l[j] := getD_of hj
          have e5 : iAdd .i64 (j : Int) 1 = ((j + 1 : Nat) : Int) := iAdd_one hj (by omega)
          simp only [spec_l09Ok_l9, e1, e2, e3, e4, e5, e6, Int.toNat_natCast, spec_CellOf_ok, spec_l04Time_ok, Option.bind_some, cond_true, sightB, rangeB]
          generalize l[j] = x
          cases iEq (cellF f.1 x.1).2.1 0 <;> cases fLt .f32 0 x.2.1 <;> cases fLe .f32 x.2.1 1232348160 <;> cases timeB x.2.2.1 <;> rfl
        · have e1 : iLt (l.length : Int) (lenI l) = false := iLt_neg (by rw [lenI_eq]; omega)
          simp only [spec_l09Ok_l9, e1, e2, e4, e5, Int.toNat_natCast, cond_false, cond_true]
      have hin' := hin _ rfl hs
      simp only [spec_l09Ok_l4, e1, e2, e4, Int.toNat_natCast, cond_true, hin']
      cases iLt 16 (lenI f.2.2.1[i]) <;> cases f.2.2.1[i].all (sightB f.1) <;> rfl
    · have e1 : iLt (f.2.2.1.length : Int) (lenI f.2.2.1) = false := iLt_neg (by rw [lenI_eq]; omega)
      simp only [spec_l09Ok_l4, e1, cond_false]
      rfl
  simp only [spec_l09Ok, spec_l05Side_ok, spec_l03Least_ok, l00In_ok, hr, Option.bind_some, fleetB]
  cases sideB f.1 <;> cases leastB f.2.1 <;> cases (iLe 1 (lenI f.2.2.1) && iLe (lenI f.2.2.1) 4) <;> rfl

theorem laws_FnExactValidFleet_plain (f : DFleet) (hf : Fit TyFleet f) : ∃ o, laws_FnExactValidFleet f = some ((true, ()), o) := by
  have sf : Sized TyFleet f := sized_of_fit rfl hf
  obtain ⟨r, hr⟩ := laws_szFleet_ok f 1048576 sf
  have k1 := laws_toFleet_ok f hf
  have k3 := laws_eqFleet_ok f sf
  have k5 := impl_ValidFleet_ok f sf
  have k6 := spec_l09Ok_ok f sf
  obtain ⟨a1, a2, a3, ⟨⟩⟩ := f
  simp only [laws_FnExactValidFleet, spec_ValidFleet, hr, k1, k3, k5, k6, bEq_self, Option.bind_some, Bool.not_true, cond_false]
  cases iLt r 0 <;> exact ⟨_, rfl⟩
end Go.Proofs.Ytpblnidbjglgmaa
