/- Functions of the program and of the reference in plain terms. -/
import Derived.Test.YtnndahnmlmgenaaGreatP8
namespace Go.Proofs.YtnndahnmlmgenaaGreat
open Go Go.Tm
set_option linter.unusedVariables false
set_option linter.unusedSimpArgs false
set_option linter.unusedSectionVars false
/-! ### cells and fleets -/
abbrev DSight := (Vec 3 Nat) × (Nat × (Int × Unit))
abbrev DFleet := Nat × (Nat × ((List (List DSight)) × Unit))
abbrev TySight : Ty := .pair (.arr 3 (.flt .f32)) (.pair (.flt .f32) (.pair (.int .i64) .unit))
abbrev TyFleet : Ty := .pair (.flt .f32) (.pair (.flt .f32) (.pair (.list (.list TySight)) .unit))
def sideB (x : Nat) : Bool := finB x && fLt .f32 0 x

theorem math_Floor_ok (x : Nat) : math_Floor x = some ((fRound .down x, ()), ()) := rfl

theorem math_Abs_num {y : Nat} (hn : isNan .f64 y = false) : math_Abs y = some ((absW y, ()), ()) := by
  unfold math_Abs
  exact allSame_of fun q => by rw [bits_num hn]; rfl

/-- the place of a number among the cells -/
def floorC (v side : Nat) : Nat := fRound .down (conv64 (fDiv .f32 v side))
theorem floorC_num {v side : Nat} (hv : finB v = true) (hs : sideB side = true) : isNan .f64 (floorC v side) = false := by
  simp only [sideB, Bool.and_eq_true] at hs
  obtain ⟨s, m, p, h1⟩ := fin_number (k := .f32) hv
  obtain ⟨s', m', p', h2⟩ := fin_number (k := .f32) hs.1
  exact fRound_nan (conv64_nan (div_num h1 h2 (fLt_zero h2 hs.2)))
def cellB (v side : Nat) : Bool := fLe .f64 milliom (floorC v side) && fLe .f64 (floorC v side) million
def cellN (v side : Nat) : Int := (fToInt .f64 (floorC v side) .i32).getD 0
theorem cellN_eq {v side : Nat} (hv : finB v = true) (hs : sideB side = true) (h : cellB v side = true) : fToInt .f64 (floorC v side) .i32 = some (cellN v side) := by
  obtain ⟨n, hn⟩ := toInt_million (floorC_num hv hs) h
  unfold cellN
  rw [hn]
  rfl
def cellF (side : Nat) (v : Vec 3 Nat) : Vec 3 Int × Int × Unit :=
  bif !(sideB side && finV v) then ((0, 0, 0, ()), 2, ()) else
  bif cellB (Vec.getD 3 v 0 (0 : Nat)) side && (cellB (Vec.getD 3 v 1 (0 : Nat)) side && cellB (Vec.getD 3 v 2 (0 : Nat)) side) then ((cellN (Vec.getD 3 v 0 (0 : Nat)) side, cellN (Vec.getD 3 v 1 (0 : Nat)) side, cellN (Vec.getD 3 v 2 (0 : Nat)) side, ()), 0, ()) else ((0, 0, 0, ()), 3, ())

def timeB (t : Int) : Bool := iLe 0 t && iLe t 1000000000

/-- a range that is not too great -/
def rangeB (x : Nat) : Bool := fLt .f32 0 x && fLe .f32 x 1232348160
theorem fin_of_number {x : Nat} {s : Bool} {m : Nat} {p : Int} (h : FloatKind.f32.decode x = .number s m p) : finB x = true := by
  have h' : FloatKind.f32.format.read x = .number s m p := h
  have e : fSub .f32 x x = 0 := by
    unfold fSub Ieee.Format.sub
    rw [h']
    have hs : Ieee.signed s m (p - min p p).toNat + Ieee.signed (!s) m (p - min p p).toNat = 0 := by rw [signed_neg]; omega
    have e2 : Ieee.Datum.sum (.number s m p) (Ieee.Datum.opposite (.number s m p)) = some (.number false 0 (min p p)) := by
      simp only [Ieee.Datum.sum, Ieee.Datum.opposite, hs]
      cases s <;> rfl
    rw [e2]
    simp only [Option.map_some, orNan]
    have e3 : FloatKind.f32.format.write (.number false 0 (min p p)) = 0 := by
      show FloatKind.f32.format.nearest false 0 (min p p) = 0
      rw [nearest_rungOf]
      unfold rungOf
      rw [if_pos rfl]
      rfl
    rw [e3]
    decide
  unfold finB
  rw [e]
  decide
theorem range_eq (x : Nat) : (sideB x && !fLt .f32 1232348160 x) = rangeB x := by
  have hC : FloatKind.f32.format.read 1232348160 = .number false 16000000 (-4) := by decide
  have some_beq : ∀ (a b : Ordering), ((some a : Option Ordering) == some b) = (a == b) := fun a b => by cases a <;> cases b <;> rfl
  cases hd : FloatKind.f32.decode x with
  | nan s t =>
    have hn : isNan .f32 x = true := isNan_iff.2 ⟨s, t, hd⟩
    have e1 : fLt .f32 0 x = false := by unfold fLt; rw [ord_nan2 _ _ hn]; rfl
    simp [sideB, rangeB, e1]
  | infinity s =>
    have hd' : FloatKind.f32.format.read x = .infinity s := hd
    have e2 : finB x = false := by
      cases hf : finB x with
      | false => rfl
      | true =>
        obtain ⟨a, b, c, h⟩ := fin_number (k := .f32) hf
        exact absurd (hd.symm.trans h) (by simp)
    have h0 : FloatKind.f32.format.read 0 = .number false 0 (-149) := by decide
    have e3 : rangeB x = false := by
      unfold rangeB fLt fLe Ieee.Format.order
      rw [hd', hC, h0]
      cases s <;> rfl
    simp [sideB, e2, e3]
  | number s m p =>
    have hd' : FloatKind.f32.format.read x = .number s m p := hd
    have e4 : (!fLt .f32 1232348160 x) = fLe .f32 x 1232348160 := by
      unfold fLt fLe Ieee.Format.order
      rw [hd', hC]
      simp only [Ieee.Datum.order, some_beq]
      rw [compare_le, compare_lt, Int.min_comm]
      generalize Ieee.signed s m _ = a
      generalize Ieee.signed false 16000000 _ = b
      by_cases h : b < a
      · have : ¬ a ≤ b := by omega
        simp [h, this]
      · have : a ≤ b := by omega
        simp [h, this]
    rw [e4]
    simp [sideB, rangeB, fin_of_number hd]
def sightB (side : Nat) (s : DSight) : Bool := iEq (cellF side s.1).2.1 0 && (rangeB s.2.1 && timeB s.2.2.1)
def fleetB (f : DFleet) : Bool := sideB f.1 && (leastB f.2.1 && ((iLe 1 (lenI f.2.2.1) && iLe (lenI f.2.2.1) 4) && f.2.2.1.all fun l => !iLt 16 (lenI l) && l.all (sightB f.1)))
end Go.Proofs.YtnndahnmlmgenaaGreat
