/- Functions of the program and of the reference in plain terms. -/
import Derived.Test.YtnndahnmlmgenaaGreatP15
namespace Go.Proofs.YtnndahnmlmgenaaGreat
open Go Go.Tm
set_option linter.unusedVariables false
set_option linter.unusedSimpArgs false
set_option linter.unusedSectionVars false
/-! ### wrapped angles -/
theorem cmp_lt' {a b : Int} (h : a < b) : compare a b = .lt := by simp [compare, compareOfLessAndEq, h]
theorem cmp_gt' {a b : Int} (h : b < a) : compare a b = .gt := by
  have n1 : ¬ a < b := by omega
  have n2 : ¬ a = b := by omega
  simp [compare, compareOfLessAndEq, n1, n2]

theorem clamp_gen {M N C : Nat} {j : Int} (d1 : FloatKind.f32.format.read M = .number false C j) (d2 : FloatKind.f32.format.read N = .number true C j) (hmm : fMin .f32 M N = N) {y : Nat} {s : Bool} {m : Nat} {p : Int} (hd : FloatKind.f32.decode y = .number s m p) : fMin .f32 M (fMax .f32 N y) = bif fLt .f32 M y then M else bif fLt .f32 y N then N else y := by
  have d0 : FloatKind.f32.format.read y = .number s m p := hd
  have hneg1 : (FloatKind.f32.decode M).neg = false := by rw [show FloatKind.f32.decode M = .number false C j from d1]; rfl
  have hneg2 : (FloatKind.f32.decode N).neg = true := by rw [show FloatKind.f32.decode N = .number true C j from d2]; rfl
  obtain ⟨c, v, hc, o1, o2, o3⟩ : ∃ c v : Int, 0 ≤ c ∧ FloatKind.f32.format.order N y = some (compare (-c) v) ∧ FloatKind.f32.format.order y N = some (compare v (-c)) ∧ FloatKind.f32.format.order M y = some (compare c v) := by
    refine ⟨((C * 2 ^ (j - min j p).toNat : Nat) : Int), Ieee.signed s m (p - min j p).toNat, by omega, ?_, ?_, ?_⟩
    · unfold Ieee.Format.order
      rw [d2, d0]
      simp only [Ieee.Datum.order, Ieee.signed, Nat.shiftLeft_eq]
      rfl
    · unfold Ieee.Format.order
      rw [d2, d0]
      simp only [Ieee.Datum.order, Ieee.signed, Nat.shiftLeft_eq, Int.min_comm p j]
      rfl
    · unfold Ieee.Format.order
      rw [d1, d0]
      simp only [Ieee.Datum.order, Ieee.signed, Nat.shiftLeft_eq]
      rfl
  have top : fMin .f32 M y = bif fLt .f32 M y then M else y := by
    unfold fMin fLt
    rw [o3, hneg1]
    rcases Int.lt_trichotomy c v with h | h | h
    · rw [cmp_lt' h]; rfl
    · rw [h, compare_self]; rfl
    · rw [cmp_gt' h]; rfl
  rcases Int.lt_trichotomy v (-c) with h | h | h
  · have e1 : fMax .f32 N y = N := by unfold fMax; rw [o1, cmp_gt' h]
    have e2 : fLt .f32 y N = true := by unfold fLt; rw [o2, cmp_lt' h]; rfl
    have e3 : fLt .f32 M y = false := by unfold fLt; rw [o3, cmp_gt' (by omega)]; rfl
    rw [e1, e2, e3, hmm]
    rfl
  · have e1 : fMax .f32 N y = y := by unfold fMax; rw [o1, h, compare_self, hneg2]; rfl
    have e2 : fLt .f32 y N = false := by unfold fLt; rw [o2, h, compare_self]; rfl
    rw [e1, e2, top]
    rfl
  · have e1 : fMax .f32 N y = y := by unfold fMax; rw [o1, cmp_lt' h]
    have e2 : fLt .f32 y N = false := by unfold fLt; rw [o2, cmp_gt' h]; rfl
    rw [e1, e2, top]
    rfl

theorem clamp_two {y : Nat} {s : Bool} {m : Nat} {p : Int} (hd : FloatKind.f32.decode y = .number s m p) : fMin .f32 1078530011 (fMax .f32 3226013659 y) = bif fLt .f32 1078530011 y then 1078530011 else bif fLt .f32 y 3226013659 then 3226013659 else y :=
  clamp_gen (C := 13176795) (j := -22) (by decide) (by decide) (by decide) hd
theorem clamp_half {y : Nat} {s : Bool} {m : Nat} {p : Int} (hd : FloatKind.f32.decode y = .number s m p) : fMin .f32 1056964608 (fMax .f32 3204448256 y) = bif fLt .f32 1056964608 y then 1056964608 else bif fLt .f32 y 3204448256 then 3204448256 else y :=
  clamp_gen (C := 8388608) (j := -24) (by decide) (by decide) (by decide) hd

theorem wrap_two (x : Nat) : ∃ v : Nat, impl_WrapAngle x = some ((v, ()), ()) ∧ spec_WrapAngle x = some ((v, ()), ()) ∧ ((v = nan .f32 ∧ finB x = false) ∨ ∃ s m p, FloatKind.f32.decode v = .number s m p) := by
  have f1 : impl_isFinite [x] = some ((finB x, ()), ()) := by rw [impl_isFinite_ok _ (by simp)]; simp
  have rd : ∀ z, math_RoundToEven z = some ((fRound .even z, ()), ()) := fun _ => rfl
  cases hf : finB x with
  | false =>
    rw [hf] at f1
    refine ⟨nan .f32, ?_, ?_, .inl ⟨rfl, rfl⟩⟩
    · simp only [impl_WrapAngle, f1, Option.bind_some, Bool.not_false, cond_true, nan_two.1]
    · have := nan_two.2
      simp only [spec_WrapAngle, spec_l02Wrap, spec_l01Finite_ok, hf, Option.bind_some, Bool.not_false, cond_true, this]
  | true =>
    rw [hf] at f1
    have ft : impl_turnsOf x = some ((fDiv .f64 (conv64 x) 4618760256179416344, ()), ()) := by simp only [impl_turnsOf, fConv32_eq, Option.bind_some]
    obtain ⟨hr, hz⟩ := rest_ok (pw_wide (pw_single hf) (by decide) (by decide))
    have hR : fSub .f64 (conv64 x) (fMul .f64 4618760256179416344 (fRound .even (fDiv .f64 (conv64 x) 4618760256179416344))) = restF (conv64 x) := rfl
    obtain ⟨y, hy, hpy⟩ := pw_conv hr (by decide) (by decide)
    obtain ⟨s, m, p, hd, _⟩ := hpy
    have hcl := clamp_two hd
    simp only [impl_WrapAngle, spec_WrapAngle, spec_l02Wrap, f1, ft, rd, fConv32_eq, spec_l01Finite_ok, hf, hR, hy, Option.bind_some, Bool.not_true, cond_false]
    generalize restF (conv64 x) = d at *
    have hc0 : fConv .f64 .f32 0 = some 0 := by decide
    have h2 : ∃ v : Nat, (bif fLt .f32 1078530011 y then some (((1078530011 : Nat), ()), ()) else bif fLt .f32 y 3226013659 then some (((3226013659 : Nat), ()), ()) else some ((y, ()), ())) = some ((v, ()), ()) ∧ v = fMin .f32 1078530011 (fMax .f32 3226013659 y) := by
      refine ⟨_, ?_, rfl⟩
      rw [hcl]
      cases fLt .f32 1078530011 y <;> cases fLt .f32 y 3226013659 <;> rfl
    obtain ⟨v, hv, hvv⟩ := h2
    have hnum : ∃ s m p, FloatKind.f32.decode v = .number s m p := by
      rw [hvv, hcl]
      cases fLt .f32 1078530011 y
      · cases fLt .f32 y 3226013659
        · exact ⟨_, _, _, hd⟩
        · simp only [cond_true, cond_false]
          exact ⟨true, 13176795, -22, by decide⟩
      · simp only [cond_true]
        exact ⟨false, 13176795, -22, by decide⟩
    refine ⟨v, ?_, ?_, .inr hnum⟩
    · cases hq : fEq .f64 d 0 with
      | true =>
        have := hz hq
        rw [this, hc0] at hy
        cases hy
        simp only [cond_true, hc0, Option.bind_some]
        rw [hvv]
      | false =>
        simp only [cond_false]
        rw [hvv]
    · rw [hv]
      rfl
end Go.Proofs.YtnndahnmlmgenaaGreat
