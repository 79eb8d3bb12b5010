/- Functions of the program and of the reference in plain terms. -/
import Derived.Test.YtdmaamakckochaaGreatDoorP8
namespace Go.Proofs.YtdmaamakckochaaGreatDoor
open Go Go.Tm
set_option linter.unusedVariables false
set_option linter.unusedSimpArgs false
set_option linter.unusedSectionVars false
/-! ### maps -/
abbrev TyMark : Ty := .pair (.arr 3 (.int .i32)) (.pair (.arr 3 (.flt .f32)) (.pair (.flt .f32) (.pair (.int .i64) (.pair (.int .i64) .unit))))
abbrev TyMap : Ty := .pair (.flt .f32) (.pair (.list TyMark) .unit)
abbrev DMark := (Vec 3 Int) × ((Vec 3 Nat) × (Nat × (Int × (Int × Unit))))
abbrev DMap := Nat × ((List DMark) × Unit)
def cmpI (a b : Vec 3 Int) : Int :=
  bif iLt (Vec.getD 3 a 0 (0 : Int)) (Vec.getD 3 b 0 (0 : Int)) then -1 else bif iLt (Vec.getD 3 b 0 (0 : Int)) (Vec.getD 3 a 0 (0 : Int)) then 1 else
  bif iLt (Vec.getD 3 a 1 (0 : Int)) (Vec.getD 3 b 1 (0 : Int)) then -1 else bif iLt (Vec.getD 3 b 1 (0 : Int)) (Vec.getD 3 a 1 (0 : Int)) then 1 else
  bif iLt (Vec.getD 3 a 2 (0 : Int)) (Vec.getD 3 b 2 (0 : Int)) then -1 else bif iLt (Vec.getD 3 b 2 (0 : Int)) (Vec.getD 3 a 2 (0 : Int)) then 1 else 0

theorem spec_l05Compare_ok (a b : Vec 3 Int) : spec_l05Compare a b = some ((cmpI a b, ()), ()) := by
  unfold spec_l05Compare cmpI
  cases iLt (Vec.getD 3 a 0 (0 : Int)) (Vec.getD 3 b 0 (0 : Int)) <;> cases iLt (Vec.getD 3 b 0 (0 : Int)) (Vec.getD 3 a 0 (0 : Int)) <;> cases iLt (Vec.getD 3 a 1 (0 : Int)) (Vec.getD 3 b 1 (0 : Int)) <;> cases iLt (Vec.getD 3 b 1 (0 : Int)) (Vec.getD 3 a 1 (0 : Int)) <;> cases iLt (Vec.getD 3 a 2 (0 : Int)) (Vec.getD 3 b 2 (0 : Int)) <;> cases iLt (Vec.getD 3 b 2 (0 : Int)) (Vec.getD 3 a 2 (0 : Int)) <;> rfl

theorem compare3 (a b c x y z : Int) : slices_Compare_int32 [a, b, c] [x, y, z] = some ((bif iLt a x then -1 else bif iLt x a then 1 else bif iLt b y then -1 else bif iLt y b then 1 else bif iLt c z then -1 else bif iLt z c then 1 else 0, ()), ()) := by
  have c1 : ∀ p q : Int, cmp_Compare_int32 p q = some ((bif iLt p q then -1 else bif iLt q p then 1 else 0, ()), ()) := fun p q => by
    simp only [cmp_Compare_int32, cmp_isNaN_int32, iEq_self, Bool.not_true, cond_false, Option.bind_some]
    cases iLt p q <;> cases iLt q p <;> rfl
  have l3 : lenI [a, b, c] = 3 := rfl
  have m3 : lenI [x, y, z] = 3 := rfl
  have step : ∀ (i : Nat) (p q : Int), i < 3 → List.getD [a, b, c] i (0 : Int) = p → List.getD [x, y, z] i (0 : Int) = q → slices_Compare_int32_l2 [a, b, c] [x, y, z] ((i : Int), ()) = bif iLt p q then some (.inr ((-1, ()), ())) else bif iLt q p then some (.inr ((1, ()), ())) else some (.inl (((i + 1 : Nat) : Int), ())) := fun i p q hi h1 h2 => by
    have e1 : iLt (i : Int) 3 = true := iLt_pos (by omega)
    have e2 : inB (i : Int) ([a, b, c] : List Int).length = true := inB_pos hi
    have e3 : iLe 3 (i : Int) = false := iLe_neg (by omega)
    have e4 : inB (i : Int) ([x, y, z] : List Int).length = true := inB_pos hi
    have e5 : iAdd .i64 (i : Int) 1 = ((i + 1 : Nat) : Int) := iAdd_one hi (by omega)
    have n1 : iEq (-1) 0 = false := by decide
    have n2 : iEq 1 0 = false := by decide
    simp only [slices_Compare_int32_l2, l3, m3, e1, e2, e3, e4, e5, h1, h2, c1, Int.toNat_natCast, Option.bind_some, cond_true, cond_false]
    cases iLt p q <;> cases iLt q p <;> simp only [n1, n2, iEq_self, cond_true, cond_false, Bool.not_true, Bool.not_false] <;> rfl
  have s0 := step 0 a x (by omega) rfl rfl
  have s1 := step 1 b y (by omega) rfl rfl
  have s2 := step 2 c z (by omega) rfl rfl
  have s3 : slices_Compare_int32_l2 [a, b, c] [x, y, z] (((3 : Nat) : Int), ()) = some (.inr ((0, ()), ())) := by
    have e1 : iLt ((3 : Nat) : Int) 3 = false := by decide
    have e2 : iLt 3 3 = false := by decide
    simp only [slices_Compare_int32_l2, l3, m3, e1, e2, cond_false]
    rfl
  show run (slices_Compare_int32_l2 [a, b, c] [x, y, z]) (((0 : Nat) : Int), ()) = _
  cases h0 : iLt a x with
  | true => rw [h0] at s0; exact run_done s0
  | false =>
    rw [h0] at s0
    cases h0' : iLt x a with
    | true => rw [h0'] at s0; exact run_done s0
    | false =>
      rw [h0'] at s0
      rw [run_step s0]
      cases h1 : iLt b y with
      | true => rw [h1] at s1; exact run_done s1
      | false =>
        rw [h1] at s1
        cases h1' : iLt y b with
        | true => rw [h1'] at s1; exact run_done s1
        | false =>
          rw [h1'] at s1
          rw [run_step s1]
          cases h2 : iLt c z with
          | true => rw [h2] at s2; exact run_done s2
          | false =>
            rw [h2] at s2
            cases h2' : iLt z c with
            | true => rw [h2'] at s2; exact run_done s2
            | false =>
              rw [h2'] at s2
              rw [run_step s2]
              exact run_done s3

theorem impl_comparePlaces_ok (a b : Vec 3 Int) : impl_comparePlaces a b = some ((cmpI a b, ()), ()) := by
  simp only [impl_comparePlaces, compare3, Option.bind_some]
  rfl

theorem cmp_swap (a b : Vec 3 Int) : iLe (cmpI a b) 0 = iLe 0 (cmpI b a) := by
  have no : ∀ p q : Int, iLt p q = true → iLt q p = true → False := fun p q h1 h2 => by
    rw [iLt_true] at h1 h2; omega
  unfold cmpI
  generalize Vec.getD 3 a 0 (0 : Int) = a0
  generalize Vec.getD 3 b 0 (0 : Int) = b0
  generalize Vec.getD 3 a 1 (0 : Int) = a1
  generalize Vec.getD 3 b 1 (0 : Int) = b1
  generalize Vec.getD 3 a 2 (0 : Int) = a2
  generalize Vec.getD 3 b 2 (0 : Int) = b2
  cases h0 : iLt a0 b0 <;> cases h0' : iLt b0 a0 <;> simp only [cond_true, cond_false]
  · cases h1 : iLt a1 b1 <;> cases h1' : iLt b1 a1 <;> simp only [cond_true, cond_false]
    · cases h2 : iLt a2 b2 <;> cases h2' : iLt b2 a2 <;> first | rfl | exact (no _ _ h2 h2').elim
    · rfl
    · rfl
    · exact (no _ _ h1 h1').elim
  · rfl
  · rfl
  · exact (no _ _ h0 h0').elim

def markB (x : DMark) : Bool := finV x.2.1 && (sideB x.2.2.1 && ((iLe 1 x.2.2.2.1 && iLe x.2.2.2.1 1000000) && timeB x.2.2.2.2.1))
theorem impl_validMark_ok (x : DMark) : impl_validMark x = some ((markB x, ()), ()) := by
  simp only [impl_validMark, impl_IsFiniteVec_ok, impl_isSide_ok, within_eq, l00In_ok, impl_isTime_ok, Option.bind_some, markB]
  cases finV x.2.1 <;> cases sideB x.2.2.1 <;> cases (iLe 1 x.2.2.2.1 && iLe x.2.2.2.1 1000000) <;> rfl
theorem spec_l05Mark_ok (x : DMark) : spec_l05Mark x = some ((markB x, ()), ()) := by
  simp only [spec_l05Mark, spec_l01Vec_ok, spec_l01Finite_ok, l00In_ok, spec_l04Time_ok, Option.bind_some, markB, sideB]
  cases finV x.2.1 <;> cases finB x.2.2.1 <;> cases fLt .f32 0 x.2.2.1 <;> cases (iLe 1 x.2.2.2.1 && iLe x.2.2.2.1 1000000) <;> rfl
abbrev zMark : DMark := ((0, 0, 0, ()), (0, 0, 0, ()), 0, 0, 0, ())
def markAt (l : List DMark) (i : Nat) : Bool := markB (l.getD i zMark) && (bif Nat.beq i 0 then true else !iLe (cmpI (l.getD i zMark).1 (l.getD (i - 1) zMark).1) 0)
def mapB (m : DMap) : Bool := sideB m.1 && (!iLt 200 (lenI m.2.1) && (List.range m.2.1.length).all (markAt m.2.1))

theorem impl_ValidMap_ok (m : DMap) (h : Sized TyMap m) : impl_ValidMap m = some ((mapB m, ()), ()) := by
  have hl : m.2.1.length ≤ 140737488355328 := h.2.1.1
  have r : run (impl_ValidMap_l4 m) ((0 : Int), ()) = some (((List.range m.2.1.length).all (markAt m.2.1), ()), ()) := by
    refine every_loop (a := List.range m.2.1.length) (fun i hi => ?_) ?_
    · rw [List.length_range] at hi
      have e1 : iLt (i : Int) (lenI m.2.1) = true := iLt_pos (by rw [lenI_eq]; omega)
      have e2 : inB (i : Int) m.2.1.length = true := inB_pos hi
      have e5 : iAdd .i64 (i : Int) 1 = ((i + 1 : Nat) : Int) := iAdd_one hi (by omega)
      rw [List.getElem_range]
      simp only [impl_ValidMap_l4, e1, e2, e5, Int.toNat_natCast, cond_true, impl_validMark_ok, Option.bind_some, markAt]
      cases markB (m.2.1.getD i zMark) with
      | false => rfl
      | true =>
        cases i with
        | zero => rfl
        | succ i =>
          have e3 : iLt 0 ((i + 1 : Nat) : Int) = true := iLt_pos (by omega)
          have e4 : iSub .i64 ((i + 1 : Nat) : Int) 1 = (i : Int) := by rw [iSub_eq (by omega) (by omega)]; omega
          have e6 : inB (i : Int) m.2.1.length = true := inB_pos (by omega)
          have e7 : Nat.beq (i + 1) 0 = false := rfl
          have e8 : i + 1 - 1 = i := rfl
          simp only [e3, e4, e6, e7, e8, Int.toNat_natCast, impl_comparePlaces_ok, Option.bind_some, cond_true, cond_false, Bool.not_true, Bool.true_and]
          cases iLe (cmpI (m.2.1.getD (i + 1) zMark).1 (m.2.1.getD i zMark).1) 0 <;> rfl
    · rw [List.length_range]
      have e1 : iLt (m.2.1.length : Int) (lenI m.2.1) = false := iLt_neg (by rw [lenI_eq]; omega)
      simp only [impl_ValidMap_l4, e1, cond_false]
      rfl
  simp only [impl_ValidMap, impl_isSide_ok, r, Option.bind_some, mapB]
  cases sideB m.1 <;> cases iLt 200 (lenI m.2.1) <;> rfl
theorem spec_l05Ok_ok (m : DMap) (h : Sized TyMap m) : spec_l05Ok m = some ((mapB m, ()), ()) := by
  have hl : m.2.1.length ≤ 140737488355328 := h.2.1.1
  have r : run (spec_l05Ok_l4 m) ((0 : Int), ()) = some (((List.range m.2.1.length).all (markAt m.2.1), ()), ()) := by
    refine every_loop (a := List.range m.2.1.length) (fun i hi => ?_) ?_
    · rw [List.length_range] at hi
      have e1 : iLt (i : Int) (lenI m.2.1) = true := iLt_pos (by rw [lenI_eq]; omega)
      have e2 : inB (i : Int) m.2.1.length = true := inB_pos hi
      have e5 : iAdd .i64 (i : Int) 1 = ((i + 1 : Nat) : Int) := iAdd_one hi (by omega)
      rw [List.getElem_range]
      simp only [spec_l05Ok_l4, e1, e2, e5, Int.toNat_natCast, cond_true, spec_l05Mark_ok, Option.bind_some, markAt]
      cases markB (m.2.1.getD i zMark) with
      | false => rfl
      | true =>
        cases i with
        | zero => rfl
        | succ i =>
          have e3 : iLt 0 ((i + 1 : Nat) : Int) = true := iLt_pos (by omega)
          have e4 : iSub .i64 ((i + 1 : Nat) : Int) 1 = (i : Int) := by rw [iSub_eq (by omega) (by omega)]; omega
          have e6 : inB (i : Int) m.2.1.length = true := inB_pos (by omega)
          have e7 : Nat.beq (i + 1) 0 = false := rfl
          have e8 : i + 1 - 1 = i := rfl
          simp only [e3, e4, e6, e7, e8, Int.toNat_natCast, spec_l05Compare_ok, ← cmp_swap, Option.bind_some, cond_true, cond_false, Bool.not_true, Bool.true_and]
          cases iLe (cmpI (m.2.1.getD (i + 1) zMark).1 (m.2.1.getD i zMark).1) 0 <;> rfl
    · rw [List.length_range]
      have e1 : iLt (m.2.1.length : Int) (lenI m.2.1) = false := iLt_neg (by rw [lenI_eq]; omega)
      simp only [spec_l05Ok_l4, e1, cond_false]
      rfl
  simp only [spec_l05Ok, spec_l05Side_ok, r, Option.bind_some, mapB]
  cases sideB m.1 <;> cases iLt 200 (lenI m.2.1) <;> rfl

/-! ### wholes of floats -/
theorem read_small : ∀ w : Fin 24, FloatKind.f64.decode (fOfInt .f64 ((w.val + 1 : Nat) : Int)) = .number false ((w.val + 1) * 2 ^ (52 - (w.val + 1).log2)) (-((52 - (w.val + 1).log2 : Nat) : Int)) := by decide
theorem toInt_small {y w : Nat} (h1 : 1 ≤ w) (h2 : w ≤ 24) (hl : fLe .f64 0 y = true) (hu : fLt .f64 y (fOfInt .f64 (w : Int)) = true) : ∃ n : Int, fToInt .f64 y .i64 = some n ∧ 0 ≤ n ∧ n < w := by
  obtain ⟨k, hk⟩ : ∃ k : Nat, FloatKind.f64.decode (fOfInt .f64 (w : Int)) = .number false (w * 2 ^ k) (-(k : Int)) := by
    have := read_small ⟨w - 1, by omega⟩
    simp only [show w - 1 + 1 = w by omega] at this
    exact ⟨_, this⟩
  have r0 : FloatKind.f64.decode 0 = .number false 0 (-1074) := by decide
  unfold fLe Ieee.Format.order at hl
  unfold fLt Ieee.Format.order at hu
  rw [show FloatKind.f64.format.read 0 = _ from r0, show FloatKind.f64.format.read y = FloatKind.f64.decode y from rfl] at hl
  rw [show FloatKind.f64.format.read (fOfInt .f64 (w : Int)) = _ from hk, show FloatKind.f64.format.read y = FloatKind.f64.decode y from rfl] at hu
  unfold fToInt
  cases hd : FloatKind.f64.decode y with
  | nan s t => rw [hd] at hl; simp [Ieee.Datum.order] at hl
  | infinity s =>
    rw [hd] at hl hu
    cases s
    · simp [Ieee.Datum.order] at hu
    · simp [Ieee.Datum.order] at hl
  | number s M B =>
    rw [hd] at hl hu
    have some_beq : ∀ (a b : Ordering), ((some a : Option Ordering) == some b) = (a == b) := fun a b => by cases a <;> cases b <;> rfl
    simp only [Ieee.Datum.order, some_beq] at hl hu
    simp only [compare_le, decide_eq_true_eq] at hl
    simp only [compare_lt, decide_eq_true_eq] at hu
    have e1 : ∀ (m : Nat) (u : Nat), Ieee.signed false m u = ((m <<< u : Nat) : Int) := fun _ _ => rfl
    have e2 : ∀ (m : Nat) (u : Nat), Ieee.signed true m u = -((m <<< u : Nat) : Int) := fun _ _ => rfl
    have fin : ∀ c : Nat, c < w → (s = true → c = 0) → ∃ n : Int, (match (some (Ieee.signed s c 0) : Option Int) with | some n => bif decide (IntKind.i64.min ≤ n) && decide (n ≤ IntKind.i64.max) then some n else none | none => none) = some n ∧ 0 ≤ n ∧ n < w := fun c hc hs => by
      have hv : Ieee.signed s c 0 = (c : Int) := by
        cases s
        · rw [e1]; simp
        · rw [hs rfl, e2]; simp
      have m1 : IntKind.i64.min = -9223372036854775808 := by decide
      have m2 : IntKind.i64.max = 9223372036854775807 := by decide
      refine ⟨(c : Int), ?_, by omega, by omega⟩
      show (bif decide (IntKind.i64.min ≤ Ieee.signed s c 0) && decide (Ieee.signed s c 0 ≤ IntKind.i64.max) then some (Ieee.signed s c 0) else none) = _
      rw [hv, m1, m2, decide_eq_true (by omega : (-9223372036854775808 : Int) ≤ (c : Int)), decide_eq_true (by omega : (c : Int) ≤ 9223372036854775807)]
      rfl
    simp only [Ieee.Datum.toInt, Ieee.Datum.integral]
    refine fin _ ?_ ?_
    · cases s with
      | true =>
        have hM : M = 0 := by
          rw [e1, e2] at hl
          simp only [Nat.shiftLeft_eq, Nat.zero_mul] at hl
          have hp := Nat.two_pow_pos (B - min (-1074) B).toNat
          have : M * 2 ^ (B - min (-1074) B).toNat = 0 := by omega
          rcases Nat.mul_eq_zero.1 this with h | h
          · exact h
          · omega
        subst hM
        simp [Ieee.Toward.cut]
        omega
      | false =>
        rw [e1, e1] at hu
        have hM : M <<< (B - min B (-(k : Int))).toNat < (w * 2 ^ k) <<< (-(k : Int) - min B (-(k : Int))).toNat := by omega
        simp only [Nat.shiftLeft_eq] at hM
        unfold Ieee.Toward.cut
        simp only [Nat.shiftLeft_eq, Nat.one_mul, Bool.toNat_false, Nat.add_zero]
        by_cases hB : 0 ≤ B
        · have q1 : (-B).toNat = 0 := by omega
          rw [q1, Nat.zero_min, Nat.pow_zero, Nat.div_one]
          have q2 : min B (-(k : Int)) = -(k : Int) := by omega
          rw [q2] at hM
          have q3 : (B - -(k : Int)).toNat = B.toNat + k := by omega
          have q4 : (-(k : Int) - -(k : Int)).toNat = 0 := by omega
          rw [q3, q4, Nat.pow_zero, Nat.mul_one, Nat.pow_add, ← Nat.mul_assoc] at hM
          exact Nat.lt_of_mul_lt_mul_right hM
        · have q1 : B.toNat = 0 := by omega
          rw [q1, Nat.pow_zero, Nat.mul_one]
          have hM2 : M < w * 2 ^ (-B).toNat := by
            by_cases hk2 : -(k : Int) ≤ B
            · have q2 : min B (-(k : Int)) = -(k : Int) := by omega
              rw [q2] at hM
              have q4 : (-(k : Int) - -(k : Int)).toNat = 0 := by omega
              rw [q4, Nat.pow_zero, Nat.mul_one] at hM
              have q6 : w * 2 ^ k = w * 2 ^ (-B).toNat * 2 ^ (B - -(k : Int)).toNat := by
                rw [Nat.mul_assoc, ← Nat.pow_add]
                congr 2
                omega
              rw [q6] at hM
              exact Nat.lt_of_mul_lt_mul_right hM
            · have q2 : min B (-(k : Int)) = B := by omega
              rw [q2] at hM
              have q4 : (B - B).toNat = 0 := by omega
              rw [q4, Nat.pow_zero, Nat.mul_one, Nat.mul_assoc, ← Nat.pow_add] at hM
              have q5 : k + (-(k : Int) - B).toNat = (-B).toNat := by omega
              rw [q5] at hM
              exact hM
          by_cases hg : (-B).toNat ≤ M.log2 + 2
          · rw [Nat.min_eq_left hg]
            exact (Nat.div_lt_iff_lt_mul (Nat.two_pow_pos _)).2 hM2
          · rw [Nat.min_eq_right (by omega)]
            have hlt : M < 2 ^ (M.log2 + 1) := Nat.lt_log2_self
            rw [Nat.div_eq_of_lt (Nat.lt_of_lt_of_le hlt (Nat.pow_le_pow_right (by omega) (by omega)))]
            omega
    · intro hs
      subst hs
      have hM : M = 0 := by
        rw [e1, e2] at hl
        simp only [Nat.shiftLeft_eq, Nat.zero_mul] at hl
        have hp := Nat.two_pow_pos (B - min (-1074) B).toNat
        have : M * 2 ^ (B - min (-1074) B).toNat = 0 := by omega
        rcases Nat.mul_eq_zero.1 this with h | h
        · exact h
        · omega
      subst hM
      simp [Ieee.Toward.cut]

/-! ### GridOfMarks -/
theorem gridMarks_eq : impl_GridOfMarks_l7 = spec_GridOfMarks_l7 := by
  funext m low side w h s
  simp only [impl_GridOfMarks_l7, spec_GridOfMarks_l7]
  cases inB s.1 m.2.1.length <;> rfl

theorem emptyGrid_eq : impl_EmptyGrid = spec_EmptyGrid := rfl

theorem gridMarks_run (m : DMap) (hl : m.2.1.length ≤ 200) (low : Vec 2 Nat) (side : Nat) {w h : Int} (hw : 1 ≤ w) (hw1 : w ≤ 24) (hh : 1 ≤ h) (hh1 : h ≤ 24) :
    ∃ c : List Int, run (spec_GridOfMarks_l7 m low side w h) ((0 : Int), (w, h, List.replicate (w * h).toNat (0 : Int), ()), ()) = some (((w, h, c, ()), 0, ()), ()) ∧ (c.length : Int) = w * h := by
  have h6 : 0 ≤ w * h := Int.mul_nonneg (by omega) (by omega)
  have h7 : w * h ≤ 24 * 24 := Int.mul_le_mul hw1 hh1 (by omega) (by omega)
  have r := run_inv (f := spec_GridOfMarks_l7 m low side w h) (fun s => ∃ (i : Nat) (c : List Int), s = ((i : Int), (w, h, c, ()), ()) ∧ i ≤ m.2.1.length ∧ (c.length : Int) = w * h) (fun s => (m.2.1.length - s.1).toNat) (fun a => ∃ c : List Int, a = (((w, h, c, ()), 0, ()), ()) ∧ (c.length : Int) = w * h) (fun s hI => by
    obtain ⟨i, c, rfl, hi, hc⟩ := hI
    by_cases hlt : i < m.2.1.length
    · left
      have e1 : iLt (i : Int) (lenI m.2.1) = true := iLt_pos (by rw [lenI_eq]; omega)
      have e2 : inB (i : Int) m.2.1.length = true := inB_pos hlt
      have e5 : iAdd .i64 (i : Int) 1 = ((i + 1 : Nat) : Int) := iAdd_one hlt (by omega)
      have hm : ((m.2.1.length : Int) - ((i + 1 : Nat) : Int)).toNat < ((m.2.1.length : Int) - (i : Int)).toNat := by omega
      simp only [spec_GridOfMarks_l7, e1, e2, e5, cond_true, fConv32_eq, math_Floor_ok, Option.bind_some]
      generalize fRound .down (conv64 (fDiv .f32 (fSub .f32 (Vec.getD 3 (List.getD m.2.1 (Int.toNat (i : Int)) zMark).2.1 0 (0 : Nat)) (Vec.getD 2 low 0 (0 : Nat))) side)) = x
      generalize fRound .down (conv64 (fDiv .f32 (fSub .f32 (Vec.getD 3 (List.getD m.2.1 (Int.toNat (i : Int)) zMark).2.1 1 (0 : Nat)) (Vec.getD 2 low 1 (0 : Nat))) side)) = y
      cases hx : fLe .f64 0 x with
      | false => exact ⟨_, rfl, ⟨i + 1, c, rfl, by omega, hc⟩, hm⟩
      | true =>
        cases hx2 : fLt .f64 x (fOfInt .f64 w) with
        | false => exact ⟨_, rfl, ⟨i + 1, c, rfl, by omega, hc⟩, hm⟩
        | true =>
          cases hy : fLe .f64 0 y with
          | false => exact ⟨_, rfl, ⟨i + 1, c, rfl, by omega, hc⟩, hm⟩
          | true =>
            cases hy2 : fLt .f64 y (fOfInt .f64 h) with
            | false => exact ⟨_, rfl, ⟨i + 1, c, rfl, by omega, hc⟩, hm⟩
            | true =>
              obtain ⟨a, ha, a0, a1⟩ := toInt_small (w := w.toNat) (by omega) (by omega) hx (by rw [Int.toNat_of_nonneg (by omega)]; exact hx2)
              obtain ⟨b, hb, b0, b1⟩ := toInt_small (w := h.toNat) (by omega) (by omega) hy (by rw [Int.toNat_of_nonneg (by omega)]; exact hy2)
              rw [Int.toNat_of_nonneg (by omega)] at a1 b1
              obtain ⟨k1, k2⟩ := at_lt (w := w) (h := h) a0 a1 b0 b1 hw1
              have hbw : 0 ≤ b * w := Int.mul_nonneg b0 (by omega)
              have m1 : iMul .i64 b w = b * w := iMul_eq (by omega) (by omega)
              have m2 : iAdd .i64 (b * w) a = b * w + a := iAdd_eq (by omega) (by omega)
              have m3 : inB (b * w + a) c.length = true := inB_int k1 (by omega)
              simp only [ha, hb, m1, m2, m3, Option.bind_some, cond_true]
              exact ⟨_, rfl, ⟨i + 1, c.set (b * w + a).toNat 255, rfl, by omega, by rw [List.length_set]; exact hc⟩, hm⟩
    · right
      have e1 : iLt (i : Int) (lenI m.2.1) = false := iLt_neg (by rw [lenI_eq]; omega)
      exact ⟨_, by simp only [spec_GridOfMarks_l7, e1, cond_false]; rfl, c, rfl, hc⟩) (s := ((0 : Int), (w, h, List.replicate (w * h).toNat (0 : Int), ()), ())) ⟨0, _, rfl, Nat.zero_le _, by rw [List.length_replicate]; omega⟩
  obtain ⟨a, ha, c, rfl, hc⟩ := r
  exact ⟨c, ha, hc⟩
end Go.Proofs.YtdmaamakckochaaGreatDoor
