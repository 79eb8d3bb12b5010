/- Functions of the program and of the reference in plain terms. -/
import Derived.Test.YtnndahnmlmgenaaGreatP29
namespace Go.Proofs.YtnndahnmlmgenaaGreat
open Go Go.Tm
set_option linter.unusedVariables false
set_option linter.unusedSimpArgs false
set_option linter.unusedSectionVars false
theorem tile_def (i : Nat) : tileB i = (Nat.ble (2 ^ 80) ((sinX (i * 2 ^ 27 + 2 ^ 39 - 2 ^ 27, i * 2 ^ 27 + 2 ^ 39)).1 * (sinX (i * 2 ^ 27 + 2 ^ 39 - 2 ^ 27, i * 2 ^ 27 + 2 ^ 39)).1 + (sinX (i * 2 ^ 27 + 2 ^ 39 - 2 ^ 27 + 2 ^ 38 - 1, i * 2 ^ 27 + 2 ^ 39 + 2 ^ 38 + 1)).1 * (sinX (i * 2 ^ 27 + 2 ^ 39 - 2 ^ 27 + 2 ^ 38 - 1, i * 2 ^ 27 + 2 ^ 39 + 2 ^ 38 + 1)).1 + 2 ^ 80 / 700) && Nat.ble ((sinX (i * 2 ^ 27 + 2 ^ 39 - 2 ^ 27, i * 2 ^ 27 + 2 ^ 39)).2 * (sinX (i * 2 ^ 27 + 2 ^ 39 - 2 ^ 27, i * 2 ^ 27 + 2 ^ 39)).2 + (sinX (i * 2 ^ 27 + 2 ^ 39 - 2 ^ 27 + 2 ^ 38 - 1, i * 2 ^ 27 + 2 ^ 39 + 2 ^ 38 + 1)).2 * (sinX (i * 2 ^ 27 + 2 ^ 39 - 2 ^ 27 + 2 ^ 38 - 1, i * 2 ^ 27 + 2 ^ 39 + 2 ^ 38 + 1)).2) (2 ^ 80 + 2 ^ 80 / 700)) := rfl
theorem absG.sq {v : Nat} {a : Nat × Nat} (h : absG v a) : ∃ S : Int, inG .f32 v S (S + 1) ∧ ((a.1 * a.1 : Nat) : Int) ≤ S * S ∧ S * S ≤ ((a.2 * a.2 : Nat) : Int) := by
  obtain ⟨A, B, h1, h2, h3, h4⟩ := h
  obtain ⟨S, s1, s2, s3⟩ := h1.floor
  refine ⟨S, s1, ?_, ?_⟩
  · rw [Int.natCast_mul]
    rcases h4 with z | z | z
    · exact Int.mul_le_mul (by omega) (by omega) (by omega) (by omega)
    · rw [← Int.neg_mul_neg S S]
      exact Int.mul_le_mul (by omega) (by omega) (by omega) (by omega)
    · rw [z]
      have : 0 ≤ S * S := by
        rcases Int.le_total 0 S with q | q
        · exact Int.mul_nonneg q q
        · rw [← Int.neg_mul_neg S S]; exact Int.mul_nonneg (by omega) (by omega)
      simpa using this
  · rw [Int.natCast_mul]
    rcases Int.le_total 0 S with q | q
    · exact Int.mul_le_mul (by omega) (by omega) q (by omega)
    · rw [← Int.neg_mul_neg S S]
      exact Int.mul_le_mul (by omega) (by omega) (by omega) (by omega)
/-- a sine and a cosine -/
def roundG (s c : Nat) : Prop := ∃ S C : Int, inG .f32 s S (S + 1) ∧ inG .f32 c C (C + 1) ∧ 2 ^ 80 ≤ S * S + C * C + 2 ^ 80 / 700 ∧ S * S + C * C ≤ 2 ^ 80 + 2 ^ 80 / 700
theorem circle_ok {t : Nat} {A B : Int} (h : inG .f64 t A B) (h1 : -(2 ^ 39 + 2 ^ 27) ≤ A) (h2 : B < 2 ^ 39 + 2 ^ 27) : ∃ s c : Nat, spec_l02Sine t = some ((s, ()), ()) ∧ spec_l02Sine (fAdd .f64 t 4598175219545276416) = some ((c, ()), ()) ∧ roundG s c := by
  obtain ⟨C, c1, c2, c3⟩ := h.floor
  obtain ⟨i, hi⟩ : ∃ i : Nat, (C + 2 ^ 39 + 2 ^ 27) / 2 ^ 27 = (i : Int) := ⟨((C + 2 ^ 39 + 2 ^ 27) / 2 ^ 27).toNat, by omega⟩
  have hi2 : i < 8194 := by omega
  have ht := tiles_ok i hi2
  rw [tile_def] at ht
  obtain ⟨a, ha⟩ : ∃ a : Nat × Nat, a = (i * 2 ^ 27 + 2 ^ 39 - 2 ^ 27, i * 2 ^ 27 + 2 ^ 39) := ⟨_, rfl⟩
  obtain ⟨b, hb⟩ : ∃ b : Nat × Nat, b = (i * 2 ^ 27 + 2 ^ 39 - 2 ^ 27 + 2 ^ 38 - 1, i * 2 ^ 27 + 2 ^ 39 + 2 ^ 38 + 1) := ⟨_, rfl⟩
  rw [← ha, ← hb] at ht
  obtain ⟨t1, t2⟩ := Bool.and_eq_true_iff.1 ht
  have t1 := Nat.le_of_ble_eq_true t1
  have t2 := Nat.le_of_ble_eq_true t2
  have g1 : inG .f64 t ((a.1 : Int) - 2 ^ 40) ((a.2 : Int) - 2 ^ 40) := c1.mono (by rw [ha]; show ((i * 2 ^ 27 + 2 ^ 39 - 2 ^ 27 : Nat) : Int) - 2 ^ 40 ≤ C; omega) (by rw [ha]; show C + 1 ≤ ((i * 2 ^ 27 + 2 ^ 39 : Nat) : Int) - 2 ^ 40; omega)
  have g2 := c1.add 0 0 g_quarter (by omega) (by omega) (by decide) (by decide)
  have g3 : inG .f64 (fAdd .f64 t 4598175219545276416) ((b.1 : Int) - 2 ^ 40) ((b.2 : Int) - 2 ^ 40) := g2.mono (by rw [hb]; show ((i * 2 ^ 27 + 2 ^ 39 - 2 ^ 27 + 2 ^ 38 - 1 : Nat) : Int) - 2 ^ 40 ≤ C + 2 ^ 38 - 1; omega) (by rw [hb]; show C + 1 + 2 ^ 38 + 1 ≤ ((i * 2 ^ 27 + 2 ^ 39 + 2 ^ 38 + 1 : Nat) : Int) - 2 ^ 40; omega)
  obtain ⟨s, hs, as1⟩ := sine_ok g1 (by rw [ha]; show 1 ≤ i * 2 ^ 27 + 2 ^ 39 - 2 ^ 27; omega) (by rw [ha]; show i * 2 ^ 27 + 2 ^ 39 < _; omega)
  obtain ⟨c, hc, ac⟩ := sine_ok g3 (by rw [hb]; show 1 ≤ i * 2 ^ 27 + 2 ^ 39 - 2 ^ 27 + 2 ^ 38 - 1; omega) (by rw [hb]; show i * 2 ^ 27 + 2 ^ 39 + 2 ^ 38 + 1 < _; omega)
  obtain ⟨S, q1, q2, q3⟩ := as1.sq
  obtain ⟨D, r1, r2, r3⟩ := ac.sq
  refine ⟨s, c, hs, hc, S, D, q1, r1, ?_, ?_⟩
  · have t1 := Int.ofNat_le.2 t1
    generalize (sinX a).1 * (sinX a).1 = w1 at *
    generalize (sinX b).1 * (sinX b).1 = w2 at *
    omega
  · have t2 := Int.ofNat_le.2 t2
    generalize (sinX a).2 * (sinX a).2 = w1 at *
    generalize (sinX b).2 * (sinX b).2 = w2 at *
    omega
theorem inG.fin {x : Nat} {A B : Int} (h : inG .f32 x A B) : finB x = true := by
  obtain ⟨s, m, p, hd⟩ := h.num
  exact fin_iff.2 ⟨s, m, p, hd⟩
/-- an angle in turns -/
theorem turns_ok {h : Nat} {A B L H : Int} (hh : inG .f32 h A B) (h1 : -2 ^ 43 ≤ A) (h2 : B ≤ 2 ^ 43) (hL : L * 7074237752028440 ≤ (A - 1) * 2 ^ 50) (hH : (B + 1) * 2 ^ 50 ≤ H * 7074237752028440) (hL1 : -2 ^ 43 ≤ L) (hH1 : H ≤ 2 ^ 43) : inG .f64 (fDiv .f64 (conv64 h) 4618760256179416344) (L - 2) (H + 2) := by
  have w := hh.wide 3 0 (by omega) (by omega) (by decide) (by decide)
  have w : inG .f64 (conv64 h) (A - 1) (B + 1) := w
  have := w.div 4 0 L H dec_tau (by decide) (by decide) (by show L * (7074237752028440 : Nat) ≤ (A - 1) * 2 ^ 50; omega) (by show (B + 1) * 2 ^ 50 ≤ H * (7074237752028440 : Nat); omega) (by omega) (by omega) (by decide) (by omega) (by omega) (by decide) (by decide)
  exact this.mono (by show L - 2 ≤ L - 1 - 1; omega) (by show H + 1 + 1 ≤ H + 2; omega)
theorem heading_ok {h : Nat} (hh : inG .f32 h (-3454217748480) 3454217748480) : ∃ s c : Nat, spec_SineOf h = some ((s, ()), ()) ∧ spec_CosineOf h = some ((c, ()), ()) ∧ roundG s c := by
  have ht := turns_ok (L := -(2 ^ 39 + 2 ^ 20)) (H := 2 ^ 39 + 2 ^ 20) hh (by decide) (by decide) (by decide) (by decide) (by decide) (by decide)
  obtain ⟨s, c, e1, e2, hr⟩ := circle_ok ht (by decide) (by decide)
  refine ⟨s, c, ?_, ?_, hr⟩
  · simp only [spec_SineOf, spec_l02Sin, spec_l01Finite_ok, hh.fin, fConv32_eq, e1, Option.bind_some, Bool.not_true, cond_false]
  · simp only [spec_CosineOf, spec_l02Cos, spec_l01Finite_ok, hh.fin, fConv32_eq, e2, Option.bind_some, Bool.not_true, cond_false]
end Go.Proofs.YtnndahnmlmgenaaGreat
