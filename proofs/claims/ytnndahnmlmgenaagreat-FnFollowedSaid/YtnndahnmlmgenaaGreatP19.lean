/- Functions of the program and of the reference in plain terms. -/
import Derived.Test.YtnndahnmlmgenaaGreatP18
namespace Go.Proofs.YtnndahnmlmgenaaGreat
open Go Go.Tm
set_option linter.unusedVariables false
set_option linter.unusedSimpArgs false
set_option linter.unusedSectionVars false
/-! ### who follows a way -/
theorem angle_two (a0 a1 : Nat) : ∃ v : Nat, impl_AngleOf a0 a1 = some ((v, ()), ()) ∧ spec_AngleOf a0 a1 = some ((v, ()), ()) ∧ (finB a0 = true → finB a1 = true → pw .f32 v 100) := by
  have f2 : impl_isFinite [a0, a1] = some (((finB a0 && finB a1), ()), ()) := by rw [impl_isFinite_ok _ (by simp)]; simp
  have hnan := nan_two.2
  cases hf0 : finB a0 with
  | false =>
    refine ⟨nan .f32, ?_, ?_, fun h => absurd h (by decide)⟩
    · simp only [impl_AngleOf, f2, hf0, Bool.false_and, Option.bind_some, Bool.not_false, cond_true, nan_two.1]
    · simp only [spec_AngleOf, spec_l02Angle, spec_l01Finite_ok, hf0, Option.bind_some, Bool.not_false, cond_true, hnan]
  | true =>
    cases hf1 : finB a1 with
    | false =>
      refine ⟨nan .f32, ?_, ?_, fun _ h => absurd h (by decide)⟩
      · simp only [impl_AngleOf, f2, hf0, hf1, Bool.and_false, Option.bind_some, Bool.not_false, cond_true, nan_two.1]
      · simp only [spec_AngleOf, spec_l02Angle, spec_l01Finite_ok, hf0, hf1, Option.bind_some, Bool.not_false, Bool.not_true, cond_true, cond_false, hnan]
    | true =>
      obtain ⟨n0, m, p, d0, c0⟩ := conv_abs hf0
      obtain ⟨n1, n, q, d1, c1⟩ := conv_abs hf1
      have b0 := math_Abs_num n0
      have b1 := math_Abs_num n1
      have chI : ∀ (z2 z u w : Nat), run (impl_AngleOf_l14 z2 z ((w, ()), ()) ((u, ()), ()) a1 a0) (0, 12, ()) = tailA (fLt .f64 w u) a1 a0 z (downA z2 12 0) := fun z2 z u w =>
        run_down (f := impl_AngleOf_l14 z2 z ((w, ()), ()) ((u, ()), ()) a1 a0) (F := fun s => tailA (fLt .f64 w u) a1 a0 z s) z2 (fun s i hi => by
          have e1 : iLe 0 (i : Int) = true := iLe_pos (by omega)
          have e2 : iSub .i64 (i : Int) 1 = (i : Int) - 1 := iSub_eq (by omega) (by omega)
          simp only [impl_AngleOf_l14, e1, e2, cond_true]
          rfl) (fun s => by kernel_rfl) 12 0 (by decide)
      have chI2 : ∀ (z2 z u w : Nat), run (impl_AngleOf_l14_2 z2 z ((w, ()), ()) ((u, ()), ()) a1 a0) (0, 12, ()) = tailA (fLt .f64 w u) a1 a0 z (downA z2 12 0) := fun z2 z u w => chI z2 z u w
      have chS : ∀ (z2 z : Nat) (c : Bool), run (spec_l02Angle_l18 z2 z c a1 a0) (0, 12, ()) = tailA c a1 a0 z (downA z2 12 0) := fun z2 z c =>
        run_down (f := spec_l02Angle_l18 z2 z c a1 a0) (F := fun s => tailA c a1 a0 z s) z2 (fun s i hi => by
          have e1 : iLe 0 (i : Int) = true := iLe_pos (by omega)
          have e2 : iSub .i64 (i : Int) 1 = (i : Int) - 1 := iSub_eq (by omega) (by omega)
          simp only [spec_l02Angle_l18, e1, e2, cond_true]
          rfl) (fun s => by kernel_rfl) 12 0 (by decide)
      have chS2 : ∀ (z2 z : Nat) (c : Bool), run (spec_l02Angle_l18_2 z2 z c a1 a0) (0, 12, ()) = tailA c a1 a0 z (downA z2 12 0) := fun z2 z c => chS z2 z c
      by_cases hne : m = 0 ∧ n = 0
      · obtain ⟨rfl, rfl⟩ := hne
        have z0 : fEq .f32 a0 0 = true := by
          rcases c0 with ⟨h, _⟩ | ⟨_, h, _⟩
          · exact h
          · exact absurd h (by decide)
        have z1 : fEq .f32 a1 0 = true := by
          rcases c1 with ⟨h, _⟩ | ⟨_, h, _⟩
          · exact h
          · exact absurd h (by decide)
        have hz0 : ∀ u, Ieee.signed false 0 u = 0 := fun u => by simp [Ieee.signed]
        have h0 : FloatKind.f64.format.read 0 = .number false 0 (-1074) := by decide
        have g1 : fLt .f64 (absW (conv64 a1)) (absW (conv64 a0)) = false := by
          unfold fLt Ieee.Format.order
          rw [show FloatKind.f64.format.read (absW (conv64 a0)) = _ from d0, show FloatKind.f64.format.read (absW (conv64 a1)) = _ from d1]
          simp only [Ieee.Datum.order, hz0, compare_self]
          rfl
        have g2 : fEq .f64 (absW (conv64 a1)) 0 = true := by
          unfold fEq Ieee.Format.order
          rw [show FloatKind.f64.format.read (absW (conv64 a1)) = _ from d1, h0]
          simp only [Ieee.Datum.order, hz0, compare_self]
          rfl
        refine ⟨0, ?_, ?_, fun _ _ => ⟨false, 0, -149, by decide, le2_zero _ _⟩⟩
        · simp only [impl_AngleOf, f2, hf0, hf1, z0, z1, Bool.and_self, Option.bind_some, Bool.not_true, cond_true, cond_false]
        · simp only [spec_AngleOf, spec_l02Angle, spec_l01Finite_ok, hf0, hf1, fConv32_eq, b0, b1, g1, g2, Option.bind_some, Bool.not_true, cond_true, cond_false]
      · obtain ⟨x, hx, e1, hc⟩ := ratio_two d0 d1 (by
          rcases c0 with ⟨_, h⟩ | ⟨_, h⟩
          · exact .inl h
          · exact .inr h) (by
          rcases c1 with ⟨_, h⟩ | ⟨_, h⟩
          · exact .inl h
          · exact .inr h) hne
        have hz := pw_halfA (pw_halfA (pw_halfA hx))
        have hz2 := pw_mul hz hz (by decide) (by decide)
        have hs := pw_downA hz2 12 0 0 (by decide) ⟨false, 0, -1074, by decide, le2_zero _ _⟩ (by decide) (by decide)
        obtain ⟨v, hv, hpv⟩ := tailA_some (fLt .f64 (absW (conv64 a1)) (absW (conv64 a0))) a1 a0 hz hs
        have hI : impl_AngleOf a0 a1 = tailA (fLt .f64 (absW (conv64 a1)) (absW (conv64 a0))) a1 a0 (halfA (halfA (halfA x))) (downA (fMul .f64 (halfA (halfA (halfA x))) (halfA (halfA (halfA x)))) 12 0) := by
          simp only [impl_AngleOf, f2, hf0, hf1, fConv32_eq, b0, b1, e1, math_Sqrt_ok, chI, chI2, Bool.and_self, Option.bind_some, Bool.not_true, cond_false]
          rcases c0 with ⟨h, hm⟩ | ⟨h, _⟩
          · rcases c1 with ⟨_, hn⟩ | ⟨h1, _⟩
            · exact absurd ⟨hm, hn⟩ hne
            · rw [h, h1]; rfl
          · rw [h]; rfl
        have hS : spec_AngleOf a0 a1 = (tailA (fLt .f64 (absW (conv64 a1)) (absW (conv64 a0))) a1 a0 (halfA (halfA (halfA x))) (downA (fMul .f64 (halfA (halfA (halfA x))) (halfA (halfA (halfA x)))) 12 0)).bind fun y => some ((y.1.1, ()), ()) := by
          rcases hc with ⟨k1, k2, k3⟩ | ⟨k1, k2, k3⟩
          · simp only [spec_AngleOf, spec_l02Angle, spec_l01Finite_ok, hf0, hf1, fConv32_eq, b0, b1, k1, k2, k3, math_Sqrt_ok, chS, Option.bind_some, Bool.not_true, cond_true, cond_false]
            rfl
          · simp only [spec_AngleOf, spec_l02Angle, spec_l01Finite_ok, hf0, hf1, fConv32_eq, b0, b1, k1, k2, k3, math_Sqrt_ok, chS2, Option.bind_some, Bool.not_true, cond_false]
            rfl
        exact ⟨v, hI.trans hv, by rw [hS, hv]; rfl, fun _ _ => hpv⟩

theorem compose_two (a b : Vec 3 Nat) : ∃ w : Vec 3 Nat, impl_ComposePoses a b = some ((w, ()), ()) ∧ spec_l06Compose a b = some ((w, ()), ()) := by
  obtain ⟨s, c, s1, s2, c1, c2⟩ := sines_two (Vec.getD 3 a 2 (0 : Nat))
  obtain ⟨v, v1, v2, _⟩ := wrap_two (fAdd .f32 (Vec.getD 3 a 2 (0 : Nat)) (Vec.getD 3 b 2 (0 : Nat)))
  simp only [impl_ComposePoses, spec_l06Compose, s1, s2, c1, c2, v1, v2, Option.bind_some]
  exact ⟨_, rfl, rfl⟩

/-- the turn towards a point, and the step -/
theorem turn_two (a : Vec 3 Nat) (dx dy g : Nat) : ∃ w : Vec 3 Nat,
    ((impl_AngleOf dy dx).bind fun y33 => (impl_WrapAngle (fSub .f32 y33.1.1 (Vec.getD 3 a 2 (0 : Nat)))).bind fun y36 => (impl_WrapAngle (fAdd .f32 (Vec.getD 3 a 2 (0 : Nat)) (fMin .f32 1056964608 (fMax .f32 3204448256 y36.1.1)))).bind fun y41 => (impl_ComposePoses (Vec.set 3 a 2 y41.1.1) ((g, 0, 0, ()) : (Vec 3 Nat))).bind fun y43 => some ((y43.1.1, (0 : Int), ()), ())) = some ((w, 0, ()), ()) ∧
    ((spec_AngleOf dy dx).bind fun y565 => (spec_WrapAngle (fSub .f32 y565.1.1 (Vec.getD 3 a 2 (0 : Nat)))).bind fun y568 =>
    bif (fLt .f32 1056964608 y568.1.1) then
      bif (fLt .f32 1056964608 3204448256) then
        (spec_WrapAngle (fAdd .f32 (Vec.getD 3 a 2 (0 : Nat)) 3204448256)).bind fun y573 =>
        (spec_l06Compose (((Vec.getD 3 a 0 (0 : Nat)), (Vec.getD 3 a 1 (0 : Nat)), y573.1.1, ()) : (Vec 3 Nat)) ((g, 0, 0, ()) : (Vec 3 Nat))).bind fun y576 =>
        some ((y576.1.1, (0 : Int), ()), ())
      else
      (spec_WrapAngle (fAdd .f32 (Vec.getD 3 a 2 (0 : Nat)) 1056964608)).bind fun y579 =>
      (spec_l06Compose (((Vec.getD 3 a 0 (0 : Nat)), (Vec.getD 3 a 1 (0 : Nat)), y579.1.1, ()) : (Vec 3 Nat)) ((g, 0, 0, ()) : (Vec 3 Nat))).bind fun y582 =>
      some ((y582.1.1, (0 : Int), ()), ())
    else
    bif (fLt .f32 y568.1.1 3204448256) then
      (spec_WrapAngle (fAdd .f32 (Vec.getD 3 a 2 (0 : Nat)) 3204448256)).bind fun y586 =>
      (spec_l06Compose (((Vec.getD 3 a 0 (0 : Nat)), (Vec.getD 3 a 1 (0 : Nat)), y586.1.1, ()) : (Vec 3 Nat)) ((g, 0, 0, ()) : (Vec 3 Nat))).bind fun y589 =>
      some ((y589.1.1, (0 : Int), ()), ())
    else
    (spec_WrapAngle (fAdd .f32 (Vec.getD 3 a 2 (0 : Nat)) y568.1.1)).bind fun y592 =>
    (spec_l06Compose (((Vec.getD 3 a 0 (0 : Nat)), (Vec.getD 3 a 1 (0 : Nat)), y592.1.1, ()) : (Vec 3 Nat)) ((g, 0, 0, ()) : (Vec 3 Nat))).bind fun y595 =>
    some ((y595.1.1, (0 : Int), ()), ())) = some ((w, 0, ()), ()) := by
  obtain ⟨t, t1, t2, _⟩ := angle_two dy dx
  obtain ⟨v, v1, v2, hv⟩ := wrap_two (fSub .f32 t (Vec.getD 3 a 2 (0 : Nat)))
  have hcl : fMin .f32 1056964608 (fMax .f32 3204448256 v) = bif fLt .f32 1056964608 v then 1056964608 else bif fLt .f32 v 3204448256 then 3204448256 else v := by
    rcases hv with ⟨rfl, _⟩ | ⟨s, m, p, hd⟩
    · decide
    · exact clamp_half hd
  have hc : fLt .f32 1056964608 3204448256 = false := by decide
  obtain ⟨r, r1, r2, _⟩ := wrap_two (fAdd .f32 (Vec.getD 3 a 2 (0 : Nat)) (fMin .f32 1056964608 (fMax .f32 3204448256 v)))
  obtain ⟨w, w1, w2⟩ := compose_two (Vec.set 3 a 2 r) ((g, 0, 0, ()) : (Vec 3 Nat))
  have hset : Vec.set 3 a 2 r = ((Vec.getD 3 a 0 (0 : Nat), Vec.getD 3 a 1 (0 : Nat), r, ()) : Vec 3 Nat) := by
    obtain ⟨x, y, z, ⟨⟩⟩ := a
    rfl
  refine ⟨w, ?_, ?_⟩
  · simp only [t1, v1, r1, w1, Option.bind_some]
  · rw [hcl] at r2
    rw [hset] at w2
    simp only [t2, v2, hc, Option.bind_some, cond_false]
    cases h1 : fLt .f32 1056964608 v with
    | true =>
      rw [h1, cond_true] at r2
      simp only [cond_true, r2, w2, Option.bind_some]
    | false =>
      rw [h1, cond_false] at r2
      cases h2 : fLt .f32 v 3204448256 with
      | true =>
        rw [h2, cond_true] at r2
        simp only [cond_true, cond_false, r2, w2, Option.bind_some]
      | false =>
        rw [h2, cond_false] at r2
        simp only [cond_false, r2, w2, Option.bind_some]
end Go.Proofs.YtnndahnmlmgenaaGreat
