/- Functions of the program and of the reference in plain terms. -/
import Derived.Test.YtnndahnmlmgenaaGreatP9
namespace Go.Proofs.YtnndahnmlmgenaaGreat
open Go Go.Tm
set_option linter.unusedVariables false
set_option linter.unusedSimpArgs false
set_option linter.unusedSectionVars false
/-! ### finite numbers -/
theorem fin_iff {x : Nat} : finB x = true ↔ ∃ s m p, FloatKind.f32.decode x = .number s m p := by
  constructor
  · exact fin_number (k := .f32)
  · rintro ⟨s, m, p, hd⟩
    have hd' : FloatKind.f32.format.read x = .number s m p := hd
    have e : fSub .f32 x x = 0 := by
      unfold fSub Ieee.Format.sub
      rw [hd']
      simp only [Ieee.Datum.opposite, Ieee.Datum.sum]
      have ht : Ieee.signed s m (p - min p p).toNat + Ieee.signed (!s) m (p - min p p).toNat = 0 := by rw [signed_neg]; omega
      rw [ht]
      cases s <;> rfl
    unfold finB
    rw [e]
    decide

theorem fin_inf (s : Bool) : finB (canon .f32 (FloatKind.f32.format.write (.infinity s))) = false := by cases s <;> decide
theorem fin_nan : finB (nan .f32) = false := by decide
theorem fin_zero : finB 0 = true := by decide

theorem fin_mul {a b : Nat} (h : finB (fMul .f32 a b) = true) : finB a = true ∧ finB b = true := by
  unfold fMul Ieee.Format.mul at h
  cases ha : FloatKind.f32.format.read a with
  | nan s t =>
    rw [ha] at h
    have : finB (nan .f32) = true := by cases hb : FloatKind.f32.format.read b <;> rw [hb] at h <;> exact h
    rw [fin_nan] at this
    cases this
  | infinity s =>
    rw [ha] at h
    cases hb : FloatKind.f32.format.read b with
    | nan t u => rw [hb] at h; exact absurd (fin_nan.symm.trans h) (by decide)
    | infinity t => rw [hb] at h; exact absurd ((fin_inf _).symm.trans h) (by decide)
    | number t n j =>
      rw [hb] at h
      by_cases hn : n = 0
      · simp only [Ieee.Datum.product, hn, if_true] at h
        exact absurd (fin_nan.symm.trans h) (by decide)
      · simp only [Ieee.Datum.product, if_neg hn] at h
        exact absurd ((fin_inf _).symm.trans h) (by decide)
  | number s m i =>
    refine ⟨fin_iff.2 ⟨_, _, _, ha⟩, ?_⟩
    rw [ha] at h
    cases hb : FloatKind.f32.format.read b with
    | nan t u => rw [hb] at h; exact absurd (fin_nan.symm.trans h) (by decide)
    | infinity t =>
      rw [hb] at h
      by_cases hn : m = 0
      · simp only [Ieee.Datum.product, hn, if_true] at h
        exact absurd (fin_nan.symm.trans h) (by decide)
      · simp only [Ieee.Datum.product, if_neg hn] at h
        exact absurd ((fin_inf _).symm.trans h) (by decide)
    | number t n j => exact fin_iff.2 ⟨_, _, _, hb⟩

theorem fin_add {a b : Nat} (h : finB (fAdd .f32 a b) = true) : finB a = true ∧ finB b = true := by
  unfold fAdd Ieee.Format.add at h
  cases ha : FloatKind.f32.format.read a with
  | nan s t =>
    rw [ha] at h
    have : finB (nan .f32) = true := by cases hb : FloatKind.f32.format.read b <;> rw [hb] at h <;> exact h
    rw [fin_nan] at this
    cases this
  | infinity s =>
    rw [ha] at h
    cases hb : FloatKind.f32.format.read b with
    | nan t u => rw [hb] at h; exact absurd (fin_nan.symm.trans h) (by decide)
    | infinity t =>
      rw [hb] at h
      by_cases hn : s = t
      · simp only [Ieee.Datum.sum, if_pos hn] at h
        exact absurd ((fin_inf _).symm.trans h) (by decide)
      · simp only [Ieee.Datum.sum, if_neg hn] at h
        exact absurd (fin_nan.symm.trans h) (by decide)
    | number t n j => rw [hb] at h; exact absurd ((fin_inf _).symm.trans h) (by decide)
  | number s m i =>
    refine ⟨fin_iff.2 ⟨_, _, _, ha⟩, ?_⟩
    rw [ha] at h
    cases hb : FloatKind.f32.format.read b with
    | nan t u => rw [hb] at h; exact absurd (fin_nan.symm.trans h) (by decide)
    | infinity t => rw [hb] at h; exact absurd ((fin_inf _).symm.trans h) (by decide)
    | number t n j => exact fin_iff.2 ⟨_, _, _, hb⟩

theorem fin_eq0 {x : Nat} (h : fEq .f32 x 0 = true) : finB x = true := by
  have h0 : FloatKind.f32.format.read 0 = .number false 0 (-149) := by decide
  unfold fEq Ieee.Format.order at h
  rw [h0] at h
  cases hx : FloatKind.f32.format.read x with
  | nan s t => rw [hx] at h; simp [Ieee.Datum.order] at h
  | infinity s => rw [hx] at h; cases s <;> simp [Ieee.Datum.order] at h
  | number s m p => exact fin_iff.2 ⟨_, _, _, hx⟩

theorem read_flip (x : Nat) : FloatKind.f32.format.read (Op.negFloat .f32 x) = match FloatKind.f32.format.read x with
    | .number s m p => .number (!s) m p
    | .infinity s => .infinity (!s)
    | .nan s t => .nan (!s) t := by
  have e0 : Op.negFloat .f32 x = x ^^^ 2 ^ 31 := rfl
  have e1 : (x ^^^ 2 ^ 31) % 2 ^ 31 = x % 2 ^ 31 := by
    rw [Nat.xor_mod_two_pow, Nat.mod_self, Nat.xor_zero]
  have e2 : ((x ^^^ 2 ^ 31) / 2 ^ 31 % 2 == 1) = !(x / 2 ^ 31 % 2 == 1) := by
    rw [Nat.xor_div_two_pow, Nat.div_self (by decide)]
    have h2 : (x / 2 ^ 31 ^^^ 1) % 2 = (x / 2 ^ 31 % 2) ^^^ 1 := Nat.xor_mod_two_pow (n := 1)
    rw [h2]
    have : x / 2 ^ 31 % 2 = 0 ∨ x / 2 ^ 31 % 2 = 1 := by omega
    rcases this with h | h <;> rw [h] <;> rfl
  have hs : FloatKind.f32.format.signWeight = 2 ^ 31 := rfl
  unfold Ieee.Format.read
  simp only [hs, e0, e1, e2]
  split
  · rfl
  · split
    · rfl
    · split <;> rfl

theorem neg_num {x : Nat} {s : Bool} {m : Nat} {p : Int} (h : FloatKind.f32.format.read x = .number s m p) : FloatKind.f32.format.read (fNeg .f32 x) = .number (!s) m p := by
  have h1 : FloatKind.f32.format.read (Op.negFloat .f32 x) = .number (!s) m p := by rw [read_flip, h]
  have hn : isNan .f32 (Op.negFloat .f32 x) = false := by rw [isNan_eq, h1]; rfl
  unfold fNeg
  rw [canon_of_num hn, h1]

theorem fin_neg (x : Nat) : finB (fNeg .f32 x) = finB x := by
  cases hx : FloatKind.f32.format.read x with
  | number s m p => rw [fin_iff.2 ⟨_, _, _, hx⟩, fin_iff.2 ⟨_, _, _, neg_num hx⟩]
  | infinity s =>
    have h1 : FloatKind.f32.format.read (Op.negFloat .f32 x) = .infinity (!s) := by rw [read_flip, hx]
    have hn : isNan .f32 (Op.negFloat .f32 x) = false := by rw [isNan_eq, h1]; rfl
    have a : finB x = false := by
      cases h : finB x with
      | false => rfl
      | true => obtain ⟨s', m', p', e⟩ := fin_iff.1 h; rw [show FloatKind.f32.decode x = FloatKind.f32.format.read x from rfl, hx] at e; cases e
    rw [a]
    cases h : finB (fNeg .f32 x) with
    | false => rfl
    | true =>
      obtain ⟨s', m', p', e⟩ := fin_iff.1 h
      rw [show FloatKind.f32.decode (fNeg .f32 x) = FloatKind.f32.format.read (fNeg .f32 x) from rfl, fNeg, canon_of_num hn, h1] at e
      cases e
  | nan s t =>
    have h1 : FloatKind.f32.format.read (Op.negFloat .f32 x) = .nan (!s) t := by rw [read_flip, hx]
    have hn : isNan .f32 (Op.negFloat .f32 x) = true := by rw [isNan_eq, h1]; rfl
    have a : finB x = false := by
      cases h : finB x with
      | false => rfl
      | true => obtain ⟨s', m', p', e⟩ := fin_iff.1 h; rw [show FloatKind.f32.decode x = FloatKind.f32.format.read x from rfl, hx] at e; cases e
    rw [a, fNeg, canon_of_nan hn]
    exact fin_nan

theorem sbeq (a b : Ordering) : ((some a : Option Ordering) == some b) = (a == b) := by cases a <;> cases b <;> rfl

/-- a number below nought has an opposite that is not -/
theorem neg_not_lt {x : Nat} (hf : finB x = true) (h : fLt .f32 x 0 = true) : fLt .f32 (fNeg .f32 x) 0 = false := by
  obtain ⟨s, m, p, hd⟩ := fin_iff.1 hf
  have hd' : FloatKind.f32.format.read x = .number s m p := hd
  have h0 : FloatKind.f32.format.read 0 = .number false 0 (-149) := by decide
  have hz : ∀ u, Ieee.signed false 0 u = 0 := fun u => by simp [Ieee.signed]
  unfold fLt Ieee.Format.order at h ⊢
  rw [hd', h0] at h
  rw [neg_num hd', h0]
  simp only [Ieee.Datum.order, sbeq, compare_lt, hz] at h ⊢
  rw [signed_neg]
  have := of_decide_eq_true h
  exact decide_eq_false (by omega)

/-- of two finite numbers, one is below or they are not -/
theorem not_le_lt {x y : Nat} (hx : finB x = true) (hy : finB y = true) : (!fLe .f32 x y) = fLt .f32 y x := by
  obtain ⟨s, m, p, hd⟩ := fin_iff.1 hx
  obtain ⟨t, n, q, he⟩ := fin_iff.1 hy
  have hd' : FloatKind.f32.format.read x = .number s m p := hd
  have he' : FloatKind.f32.format.read y = .number t n q := he
  unfold fLt fLe Ieee.Format.order
  rw [hd', he']
  simp only [Ieee.Datum.order, sbeq]
  rw [compare_le, compare_lt, Int.min_comm q p]
  generalize Ieee.signed s m _ = a
  generalize Ieee.signed t n _ = b
  by_cases h : b < a
  · have : ¬ a ≤ b := by omega
    simp [h, this]
  · have : a ≤ b := by omega
    simp [h, this]
end Go.Proofs.YtnndahnmlmgenaaGreat
