/- Functions of the program and of the reference in plain terms. -/
import Derived.Test.YtnndahnmlmgenaaGreatP14
namespace Go.Proofs.YtnndahnmlmgenaaGreat
open Go Go.Tm
set_option linter.unusedVariables false
set_option linter.unusedSimpArgs false
set_option linter.unusedSectionVars false
/-! ### sines -/
def stepP (x c n : Nat) : Nat := fSub .f64 4607182418800017408 (fMul .f64 (fDiv .f64 x c) n)
theorem pw_step {x c n : Nat} {t : Int} (hx : pw .f64 x 10) (hn : pw .f64 n t) (h0 : 0 ≤ t) (h1 : t ≤ 500) {k : Nat} {j : Int} (hc : FloatKind.f64.decode c = .number false k j) (hk : 2 ^ (0 - j).toNat ≤ k) (hj : j ≤ 0) : pw .f64 (stepP x c n) (t + 11) := by
  have h2 := pw_over (u := 0) hx hc hk hj (by decide) (by decide)
  have h3 := pw_mul h2 hn (by show (-1021 : Int) ≤ _; omega) (by show _ ≤ (1023 : Int); omega)
  have h4 := pw_sub (pw_up pw_one (show (0 : Int) ≤ 10 + t by omega)) (pw_up h3 (show 10 - 0 + t ≤ 10 + t by omega)) (by show (-1021 : Int) ≤ _; omega) (by show _ ≤ (1023 : Int); omega)
  exact pw_up h4 (by omega)
def polyP (x : Nat) : Nat := stepP x (fOfInt .f64 6) (stepP x (fOfInt .f64 20) (stepP x (fOfInt .f64 42) (stepP x (fOfInt .f64 72) (stepP x (fOfInt .f64 110) (stepP x (fOfInt .f64 156) (stepP x (fOfInt .f64 210) (stepP x (fOfInt .f64 272) 4607182418800017408)))))))
theorem pw_poly {x : Nat} (hx : pw .f64 x 10) : pw .f64 (polyP x) 88 := by
  have s1 := pw_step (c := fOfInt .f64 272) hx pw_one (by decide) (by decide) (k := 4785074604081152) (j := -44) (by decide) (by decide) (by decide)
  have s2 := pw_step (c := fOfInt .f64 210) hx s1 (by decide) (by decide) (k := 7388718138654720) (j := -45) (by decide) (by decide) (by decide)
  have s3 := pw_step (c := fOfInt .f64 156) hx s2 (by decide) (by decide) (k := 5488762045857792) (j := -45) (by decide) (by decide) (by decide)
  have s4 := pw_step (c := fOfInt .f64 110) hx s3 (by decide) (by decide) (k := 7740561859543040) (j := -46) (by decide) (by decide) (by decide)
  have s5 := pw_step (c := fOfInt .f64 72) hx s4 (by decide) (by decide) (k := 5066549580791808) (j := -46) (by decide) (by decide) (by decide)
  have s6 := pw_step (c := fOfInt .f64 42) hx s5 (by decide) (by decide) (k := 5910974510923776) (j := -47) (by decide) (by decide) (by decide)
  have s7 := pw_step (c := fOfInt .f64 20) hx s6 (by decide) (by decide) (k := 5629499534213120) (j := -48) (by decide) (by decide) (by decide)
  exact pw_step (c := fOfInt .f64 6) hx s7 (by decide) (by decide) (k := 6755399441055744) (j := -50) (by decide) (by decide) (by decide)

theorem pw_neg {x : Nat} {t : Int} (h : pw .f64 x t) : pw .f64 (fNeg .f64 x) t := by
  obtain ⟨s, m, p, hd, hm⟩ := h
  have hd' : FloatKind.f64.format.read x = .number s m p := hd
  have h1 : FloatKind.f64.format.read (Op.negFloat .f64 x) = .number (!s) m p := by
    have e0 : Op.negFloat .f64 x = x ^^^ 2 ^ 63 := rfl
    have e1 : (x ^^^ 2 ^ 63) % 2 ^ 63 = x % 2 ^ 63 := by rw [Nat.xor_mod_two_pow, Nat.mod_self, Nat.xor_zero]
    have e2 : ((x ^^^ 2 ^ 63) / 2 ^ 63 % 2 == 1) = !(x / 2 ^ 63 % 2 == 1) := by
      rw [Nat.xor_div_two_pow, Nat.div_self (by decide)]
      have h2 : (x / 2 ^ 63 ^^^ 1) % 2 = (x / 2 ^ 63 % 2) ^^^ 1 := Nat.xor_mod_two_pow (n := 1)
      rw [h2]
      have : x / 2 ^ 63 % 2 = 0 ∨ x / 2 ^ 63 % 2 = 1 := by omega
      rcases this with h | h <;> rw [h] <;> rfl
    have hs : FloatKind.f64.format.signWeight = 2 ^ 63 := rfl
    unfold Ieee.Format.read at hd' ⊢
    simp only [hs, e0, e1, e2] at hd' ⊢
    split at hd'
    · rename_i h; rw [if_pos h]; cases hd'; rfl
    · rename_i h
      rw [if_neg h]
      split at hd'
      · rename_i h2; rw [if_pos h2]; cases hd'; rfl
      · split at hd' <;> cases hd'
  have hn : isNan .f64 (Op.negFloat .f64 x) = false := by rw [isNan_eq, h1]; rfl
  refine ⟨!s, m, p, ?_, hm⟩
  show FloatKind.f64.format.read (fNeg .f64 x) = _
  unfold fNeg
  rw [canon_of_num hn, h1]

/-- the last step of a sine -/
theorem sine_last {z : Nat} (h : pw .f64 z 2) (b : Bool) : ∃ v : Nat, (bif b then (fConv .f64 .f32 (fNeg .f64 (fMul .f64 (polyP (fMul .f64 (fMul .f64 4618760256179416344 z) (fMul .f64 4618760256179416344 z))) (fMul .f64 4618760256179416344 z)))).bind fun y => some ((y, ()), ()) else (fConv .f64 .f32 (fMul .f64 (polyP (fMul .f64 (fMul .f64 4618760256179416344 z) (fMul .f64 4618760256179416344 z))) (fMul .f64 4618760256179416344 z))).bind fun y => some ((y, ()), ())) = some ((v, ()), ()) := by
  have h1 := pw_mul pw_tau h (by decide) (by decide)
  have h2 := pw_mul h1 h1 (by decide) (by decide)
  have h3 := pw_poly h2
  have h4 := pw_mul h3 h1 (by decide) (by decide)
  obtain ⟨y, e1, _⟩ := pw_conv h4 (by decide) (by decide)
  obtain ⟨y', e2, _⟩ := pw_conv (pw_neg h4) (by decide) (by decide)
  cases b with
  | true => exact ⟨y', by rw [cond_true, e2]; rfl⟩
  | false => exact ⟨y, by rw [cond_false, e1]; rfl⟩

theorem sine_some {x : Nat} {s : Bool} {m : Nat} {p : Int} (hd : FloatKind.f64.decode x = .number s m p) (hp : p ≤ 900) : ∃ v : Nat, spec_l02Sine x = some ((v, ()), ()) ∧ impl_sineOfTurns x = some ((v, ()), ()) := by
  have hsame : impl_sineOfTurns = spec_l02Sine := by kernel_rfl
  rw [hsame]
  have hfl : math_Floor x = some ((fRound .down x, ()), ()) := rfl
  have h1 := floor_diff hd hp
  have key : ∃ v : Nat, spec_l02Sine x = some ((v, ()), ()) := by
    unfold spec_l02Sine
    simp only [hfl, Option.bind_some]
    generalize fSub .f64 x (fRound .down x) = y at *
    have h2 := pw_sub h1 pw_half (by decide) (by decide)
    have h3 := pw_sub (pw_up pw_half (show (0 : Int) ≤ 1 by decide)) h2 (by decide) (by decide)
    have h4 := pw_sub pw_half h1 (by decide) (by decide)
    cases hb : fLe .f64 4602678819172646912 y with
    | true =>
      simp only [cond_true]
      cases fLt .f64 4598175219545276416 (fSub .f64 y 4602678819172646912) with
      | true => exact sine_last h3 true
      | false => exact sine_last (pw_up h2 (by decide)) true
    | false =>
      simp only [cond_false]
      cases fLt .f64 4598175219545276416 y with
      | true => exact sine_last (pw_up h4 (by decide)) false
      | false => exact sine_last (pw_up h1 (by decide)) false
  obtain ⟨v, hv⟩ := key
  exact ⟨v, hv, hv⟩

theorem double_place {x : Nat} {s : Bool} {m : Nat} {p t : Int} (hd : FloatKind.f64.decode x = .number s m p) (h : le2 m p t) (ht : t ≤ 900) : p ≤ 900 := by
  by_cases hm : m = 0
  · have hd : Ieee.double.read x = .number s m p := hd
    unfold Ieee.Format.read at hd
    simp only at hd
    have e1 : Ieee.double.binade = 4503599627370496 := rfl
    have e3 : Ieee.double.leastPlace = -1074 := by decide
    rw [e1, e3] at hd
    split at hd
    · cases hd; omega
    · split at hd
      · cases hd; omega
      · split at hd <;> cases hd
  · have := le2_top hm h
    omega

/-- a finite number in single precision -/
theorem pw_single {x : Nat} (h : finB x = true) : pw .f32 x 128 := by
  obtain ⟨s, m, p, hd⟩ := fin_iff.1 h
  rcases single_read x with ⟨_, _, e⟩ | ⟨_, e⟩ | ⟨s', m', p', e, h1, h2, h3⟩
  · rw [show Ieee.single.read x = FloatKind.f32.decode x from rfl, hd] at e; cases e
  · rw [show Ieee.single.read x = FloatKind.f32.decode x from rfl, hd] at e; cases e
  · refine ⟨s', m', p', e, le2_of p' (Int.le_refl _) (by omega) ?_⟩
    rw [show (p' - p').toNat = 0 by omega, Nat.pow_zero, Nat.mul_one]
    exact Nat.le_trans (Nat.le_of_lt h1) (Nat.pow_le_pow_right (by decide) (by omega))
theorem dec_tau : FloatKind.f64.decode 4618760256179416344 = .number false 7074237752028440 (-50) := by decide
theorem pw_turns {x : Nat} (h : finB x = true) : pw .f64 (fDiv .f64 (conv64 x) 4618760256179416344) 126 :=
  pw_over (u := 2) (pw_wide (pw_single h) (by decide) (by decide)) dec_tau (by decide) (by decide) (by decide) (by decide)

theorem nan_two : impl_notANumber = some ((nan .f32, ()), ()) ∧ ((math_NaN).bind fun y => (fConv .f64 .f32 y.1.1).bind fun z => some ((z, ()), ())) = some ((nan .f32, ()), ()) := by
  constructor
  · kernel_rfl
  · kernel_rfl
theorem sines_two (x : Nat) : ∃ a b : Nat, impl_SineOf x = some ((a, ()), ()) ∧ spec_SineOf x = some ((a, ()), ()) ∧ impl_CosineOf x = some ((b, ()), ()) ∧ spec_CosineOf x = some ((b, ()), ()) := by
  have f1 : impl_isFinite [x] = some ((finB x, ()), ()) := by rw [impl_isFinite_ok _ (by simp)]; simp
  cases hf : finB x with
  | false =>
    rw [hf] at f1
    refine ⟨nan .f32, nan .f32, ?_, ?_, ?_, ?_⟩
    · simp only [impl_SineOf, f1, Option.bind_some, Bool.not_false, cond_true, nan_two.1]
    · have := nan_two.2
      simp only [spec_SineOf, spec_l02Sin, spec_l01Finite_ok, hf, Option.bind_some, Bool.not_false, cond_true, this]
    · simp only [impl_CosineOf, f1, Option.bind_some, Bool.not_false, cond_true, nan_two.1]
    · have := nan_two.2
      simp only [spec_CosineOf, spec_l02Cos, spec_l01Finite_ok, hf, Option.bind_some, Bool.not_false, cond_true, this]
  | true =>
    rw [hf] at f1
    have ht := pw_turns hf
    have hc := pw_add ht (pw_up pw_quarter (show (0 : Int) ≤ 126 by decide)) (by decide) (by decide)
    obtain ⟨s1, m1, p1, d1, l1⟩ := ht
    obtain ⟨s2, m2, p2, d2, l2⟩ := hc
    obtain ⟨v, v1, v2⟩ := sine_some d1 (double_place d1 l1 (by decide))
    obtain ⟨w, w1, w2⟩ := sine_some d2 (double_place d2 l2 (by decide))
    have ft : impl_turnsOf x = some ((fDiv .f64 (conv64 x) 4618760256179416344, ()), ()) := by simp only [impl_turnsOf, fConv32_eq, Option.bind_some]
    refine ⟨v, w, ?_, ?_, ?_, ?_⟩
    · simp only [impl_SineOf, f1, ft, v2, Option.bind_some, Bool.not_true, cond_false]
    · simp only [spec_SineOf, spec_l02Sin, spec_l01Finite_ok, hf, fConv32_eq, v1, Option.bind_some, Bool.not_true, cond_false]
    · simp only [impl_CosineOf, f1, ft, w2, Option.bind_some, Bool.not_true, cond_false]
    · simp only [spec_CosineOf, spec_l02Cos, spec_l01Finite_ok, hf, fConv32_eq, w1, Option.bind_some, Bool.not_true, cond_false]
end Go.Proofs.YtnndahnmlmgenaaGreat
