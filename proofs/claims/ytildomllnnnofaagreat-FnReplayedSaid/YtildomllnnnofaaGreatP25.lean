import Derived.Test.YtildomllnnnofaaGreatP24
/- Functions of the program and of the reference in plain terms. -/
namespace Go.Proofs.YtildomllnnnofaaGreat
open Go Go.Tm
set_option linter.unusedVariables false
set_option linter.unusedSimpArgs false
set_option linter.unusedSectionVars false
theorem qvs (a b : Int) : compare b a = (compare a b).swap := by
  rcases Int.lt_trichotomy a b with h | h | h
  · have h1 : compare a b = .lt := by simp [compare, compareOfLessAndEq, h]
    have h2 : compare b a = .gt := by
      have n1 : ¬ b < a := by omega
      have n2 : ¬ b = a := by omega
      simp [compare, compareOfLessAndEq, n1, n2]
    rw [h1, h2]; rfl
  · subst h; rw [qrq]; rfl
  · have h1 : compare b a = .lt := by simp [compare, compareOfLessAndEq, h]
    have h2 : compare a b = .gt := by
      have n1 : ¬ a < b := by omega
      have n2 : ¬ a = b := by omega
      simp [compare, compareOfLessAndEq, n1, n2]
    rw [h1, h2]; rfl
theorem ord_swap (x y : Ieee.Datum) : y.order x = (x.order y).map Ordering.swap := by
  cases x with
  | nan s t => cases y <;> rfl
  | infinity s =>
    cases y with
    | nan t u => rfl
    | infinity t => cases s <;> cases t <;> rfl
    | number t n j => cases s <;> rfl
  | number s m i =>
    cases y with
    | nan t u => rfl
    | infinity t => cases t <;> rfl
    | number t n j =>
      simp only [Ieee.Datum.order, Option.map_some]
      rw [Int.min_comm j i, qvs]
theorem qsh {k : FloatKind} {x y : Nat} (hx : isNan k x = false) (hy : isNan k y = false) : k.format.order x y ≠ none := by
  rw [qdl] at hx hy
  unfold Ieee.Format.order
  cases h : k.format.read x <;> cases h' : k.format.read y <;> rw [h] at hx <;> rw [h'] at hy <;> simp [Ieee.Datum.isNaN, Ieee.Datum.order] at *
theorem qze (a b : Ordering) : ((some a : Option Ordering) == some b) = (a == b) := by cases a <;> cases b <;> rfl
theorem qxa {m y : Nat} (hm : isNan .f64 m = false) (hy : isNan .f64 y = false) (hneg : (FloatKind.f64.decode m).neg = true) : fMax .f64 m y = bif fLt .f64 y m then m else y := by
  have hn := qsh hm hy
  have hs : FloatKind.f64.format.order y m = (FloatKind.f64.format.order m y).map Ordering.swap := ord_swap _ _
  unfold fMax fLt
  rw [hs]
  cases ho : FloatKind.f64.format.order m y with
  | none => exact absurd ho hn
  | some o =>
    cases o
    · rfl
    · simp only [hneg]; rfl
    · rfl
theorem qvw {m y : Nat} (hm : isNan .f64 m = false) (hy : isNan .f64 y = false) (hneg : (FloatKind.f64.decode m).neg = false) : fMin .f64 m y = bif fLt .f64 m y then m else y := by
  have hn := qsh hm hy
  unfold fMin fLt
  cases ho : FloatKind.f64.format.order m y with
  | none => exact absurd ho hn
  | some o =>
    cases o
    · rfl
    · simp only [hneg]; rfl
    · rfl
theorem qpz {s : Bool} {M : Nat} {B : Int} (q K : Nat) (h : M * 2 ^ (B - min (-(q : Int)) B).toNat ≤ K * 2 ^ q * 2 ^ (-(q : Int) - min (-(q : Int)) B).toNat) : Ieee.Toward.zero.cut s (M <<< B.toNat) (-B).toNat ≤ K := by
  unfold Ieee.Toward.cut
  simp only [Nat.shiftLeft_eq, Nat.one_mul, Bool.toNat_false, Nat.add_zero]
  by_cases hB : 0 ≤ B
  · have e1 : (-B).toNat = 0 := by omega
    rw [e1, Nat.zero_min, Nat.pow_zero, Nat.div_one]
    rw [show (B - min (-(q : Int)) B).toNat = B.toNat + q by omega, show (-(q : Int) - min (-(q : Int)) B).toNat = 0 by omega, Nat.pow_zero, Nat.mul_one, Nat.pow_add, ← Nat.mul_assoc] at h
    exact Nat.le_of_mul_le_mul_right h (Nat.two_pow_pos _)
  · rw [show B.toNat = 0 by omega, Nat.pow_zero, Nat.mul_one]
    have hM : M ≤ K * 2 ^ (-B).toNat := by
      by_cases hq : -(q : Int) ≤ B
      · rw [show (-(q : Int) - min (-(q : Int)) B).toNat = 0 by omega, Nat.pow_zero, Nat.mul_one] at h
        have e : K * 2 ^ q = K * 2 ^ (-B).toNat * 2 ^ (B - min (-(q : Int)) B).toNat := by
          rw [Nat.mul_assoc, ← Nat.pow_add]
          congr 2
          omega
        rw [e] at h
        exact Nat.le_of_mul_le_mul_right h (Nat.two_pow_pos _)
      · rw [show (B - min (-(q : Int)) B).toNat = 0 by omega, Nat.pow_zero, Nat.mul_one, Nat.mul_assoc, ← Nat.pow_add] at h
        rw [show (-B).toNat = q + (-(q : Int) - min (-(q : Int)) B).toNat by omega]
        exact h
    by_cases hd : (-B).toNat ≤ M.log2 + 2
    · rw [Nat.min_eq_left hd]
      exact Nat.div_le_of_le_mul (by rw [Nat.mul_comm]; exact hM)
    · rw [Nat.min_eq_right (by omega)]
      have : M < 2 ^ (M.log2 + 2) := Nat.lt_of_lt_of_le Nat.lt_log2_self (Nat.pow_le_pow_right (by decide) (by omega))
      rw [Nat.div_eq_of_lt this]
      exact Nat.zero_le _
theorem qmi (a b : Int) (h : (compare a b == .lt) = false) : b ≤ a := by
  rw [qer] at h
  have := of_decide_eq_false h
  omega
theorem qv5 {y : Nat} (hn : isNan .f64 y = false) (h1 : fLt .f64 4674736138332667904 y = false) (h2 : fLt .f64 y 13898108450065350656 = false) : ∃ n, fToInt .f64 y .i16 = some n ∧ -32768 ≤ n ∧ n ≤ 32767 := by
  have r1 : FloatKind.f64.format.read 4674736138332667904 = .number false (32767 * 2 ^ 38) (-((38 : Nat) : Int)) := by decide
  have r2 : FloatKind.f64.format.read 13898108450065350656 = .number true (32768 * 2 ^ 37) (-((37 : Nat) : Int)) := by decide
  unfold fLt Ieee.Format.order at h1 h2
  rw [r1] at h1
  rw [r2] at h2
  rw [qdl] at hn
  unfold fToInt
  have hn : (FloatKind.f64.decode y).isNaN = false := hn
  cases hd : FloatKind.f64.decode y with
  | nan s t => rw [hd] at hn; simp [Ieee.Datum.isNaN] at hn
  | infinity s =>
    rw [show FloatKind.f64.format.read y = .infinity s from hd] at h1 h2
    cases s
    · simp [Ieee.Datum.order] at h1
    · simp [Ieee.Datum.order] at h2
  | number s M B =>
    rw [show FloatKind.f64.format.read y = .number s M B from hd] at h1 h2
    simp only [Ieee.Datum.order, qze] at h1 h2
    have g1 := qmi _ _ h1
    have g2 := qmi _ _ h2
    rw [Int.min_comm B] at g2
    have e1 : ∀ (m : Nat) (u : Nat), Ieee.signed false m u = ((m * 2 ^ u : Nat) : Int) := fun m u => by rw [← Nat.shiftLeft_eq]; rfl
    have e2 : ∀ (m : Nat) (u : Nat), Ieee.signed true m u = -((m * 2 ^ u : Nat) : Int) := fun m u => by rw [← Nat.shiftLeft_eq]; rfl
    rw [e1] at g1
    rw [e2] at g2
    have fin : ∀ (z : Int), (FloatKind.f64.decode y).toInt .zero = some z → -32768 ≤ z → z ≤ 32767 → (match (Ieee.Datum.number s M B).toInt .zero with | some n => bif decide (IntKind.min .i16 ≤ n) && decide (n ≤ IntKind.max .i16) then some n else none | none => none) = some z := fun z hz z1 z2 => by
      rw [hd] at hz
      rw [hz]
      simp only
      rw [decide_eq_true (show IntKind.min .i16 ≤ z from z1), decide_eq_true (show z ≤ IntKind.max .i16 from z2)]
      rfl
    cases s with
    | false =>
      rw [e1] at g1
      have k : Ieee.Toward.zero.cut false (M <<< B.toNat) (-B).toNat ≤ 32767 := qpz 38 32767 (Int.ofNat_le.1 g1)
      refine ⟨((Ieee.Toward.zero.cut false (M <<< B.toNat) (-B).toNat : Nat) : Int), fin _ ?_ (by omega) (by omega), by omega, by omega⟩
      rw [hd]
      simp only [Ieee.Datum.toInt, Ieee.Datum.integral, e1, Nat.pow_zero, Nat.mul_one]
    | true =>
      rw [e2] at g2
      have k : Ieee.Toward.zero.cut true (M <<< B.toNat) (-B).toNat ≤ 32768 := qpz 37 32768 (Int.ofNat_le.1 (by omega))
      refine ⟨-((Ieee.Toward.zero.cut true (M <<< B.toNat) (-B).toNat : Nat) : Int), fin _ ?_ (by omega) (by omega), by omega, by omega⟩
      rw [hd]
      simp only [Ieee.Datum.toInt, Ieee.Datum.integral, e2, Nat.pow_zero, Nat.mul_one]
theorem qacf {y : Nat} (h : fLt .f64 y 13898108450065350656 = true) : fLt .f64 4674736138332667904 y = false := by
  have r1 : FloatKind.f64.format.read 4674736138332667904 = .number false (32767 * 2 ^ 38) (-((38 : Nat) : Int)) := by decide
  have r2 : FloatKind.f64.format.read 13898108450065350656 = .number true (32768 * 2 ^ 37) (-((37 : Nat) : Int)) := by decide
  unfold fLt Ieee.Format.order at h ⊢
  rw [r2] at h
  rw [r1]
  cases hd : FloatKind.f64.format.read y with
  | nan s t => rfl
  | infinity s =>
    rw [hd] at h
    cases s
    · simp [Ieee.Datum.order] at h
    · rfl
  | number s M B =>
    rw [hd] at h
    simp only [Ieee.Datum.order, qze, qer] at h ⊢
    have h := of_decide_eq_true h
    have e1 : ∀ (m : Nat) (u : Nat), Ieee.signed false m u = ((m * 2 ^ u : Nat) : Int) := fun m u => by rw [← Nat.shiftLeft_eq]; rfl
    have e2 : ∀ (m : Nat) (u : Nat), Ieee.signed true m u = -((m * 2 ^ u : Nat) : Int) := fun m u => by rw [← Nat.shiftLeft_eq]; rfl
    apply decide_eq_false
    cases s with
    | false => rw [e1, e2] at h; omega
    | true => rw [e1, e2]; omega
theorem qqz (x : Nat) : impl_isNaN x = some ((isNan .f32 x, ()), ()) := by
  simp only [impl_isNaN, qjl, Bool.not_not]
theorem qta {b : Nat} (h : isNan .f32 b = true) : isNan .f64 (conv64 b) = true := by
  obtain ⟨s, t, hd⟩ := qan.1 h
  have hc := qcx b
  unfold fConv at hc
  rw [show FloatKind.f32.decode b = .nan s t from hd] at hc
  have hc : nan .f64 = conv64 b := by simpa using hc
  rw [← hc]
  exact qbn .f64
theorem qka (x : Nat) : ∃ n : Int, impl_ToCount x = some ((n, ()), ()) ∧ spec_l04Count x = some ((n, ()), ()) ∧ -32768 ≤ n ∧ n ≤ 32767 := by
  have e0 : ∀ y, math_RoundToEven y = some ((fRound .even y, ()), ()) := fun _ => rfl
  simp only [impl_ToCount, spec_l04Count, qqz, qcx, e0, qjl, Bool.not_not, Option.bind_some]
  have hL : isNan .f64 13898108450065350656 = false := by decide
  have hH : isNan .f64 4674736138332667904 = false := by decide
  cases hx : isNan .f32 x with
  | true =>
    have h1 : isNan .f64 (fRound .even (conv64 x)) = true := by unfold fRound; rw [qta hx]; exact qbn .f64
    rw [h1]
    exact ⟨0, rfl, rfl, by omega, by omega⟩
  | false =>
    have hy : isNan .f64 (fRound .even (conv64 x)) = false := quv (quq hx)
    rw [hy]
    generalize fRound .even (conv64 x) = y at *
    simp only [cond_false]
    rw [qxa hL hy (by decide)]
    cases hl : fLt .f64 y 13898108450065350656 with
    | true =>
      have h2 : fLt .f64 4674736138332667904 y = false := qacf hl
      simp only [cond_true, h2, cond_false]
      exact ⟨-32768, by decide, rfl, by omega, by omega⟩
    | false =>
      simp only [cond_false]
      rw [qvw hH hy (by decide)]
      cases hh : fLt .f64 4674736138332667904 y with
      | true =>
        simp only [cond_true]
        exact ⟨32767, by decide, rfl, by omega, by omega⟩
      | false =>
        obtain ⟨n, h1, h2, h3⟩ := qv5 hy hh hl
        simp only [cond_false, h1, Option.bind_some]
        exact ⟨n, rfl, rfl, h2, h3⟩
end Go.Proofs.YtildomllnnnofaaGreat
