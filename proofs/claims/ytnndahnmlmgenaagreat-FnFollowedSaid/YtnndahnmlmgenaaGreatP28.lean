/- Functions of the program and of the reference in plain terms. -/
import Derived.Test.YtnndahnmlmgenaaGreatP27
namespace Go.Proofs.YtnndahnmlmgenaaGreat
open Go Go.Tm
set_option linter.unusedVariables false
set_option linter.unusedSimpArgs false
set_option linter.unusedSectionVars false
/-! ### sines, as intervals -/
def stepI (d : Nat) (y s : Nat × Nat) : Nat × Nat := (2 ^ 40 - ((y.2 / d + 3) * s.2 / 2 ^ 40 + 2) - 1, 2 ^ 40 - ((y.1 / d - 2) * s.1 / 2 ^ 40 - 1) + 1)
def polyI (y : Nat × Nat) : Nat × Nat := stepI 6 y (stepI 20 y (stepI 42 y (stepI 72 y (stepI 110 y (stepI 156 y (stepI 210 y (stepI 272 y (2 ^ 40, 2 ^ 40))))))))
def pG (x : Nat) (a : Nat × Nat) : Prop := inG .f64 x (a.1 : Int) (a.2 : Int)
theorem inG.const {k : FloatKind} {c n : Nat} {j A B : Int} (h : k.decode c = .number false n j) (hj : j ≤ -40) (h1 : A * 2 ^ (-40 - j).toNat ≤ n) (h2 : (n : Int) ≤ B * 2 ^ (-40 - j).toNat) : inG k c A B := by
  refine ⟨_, _, _, h, GAt.of j (Int.le_refl _) hj ?_⟩
  rw [signed_eq, cond_false, Int.one_mul, show (j - j).toNat = 0 by omega, Nat.pow_zero, Nat.mul_one]
  exact ⟨h1, h2⟩
theorem g_one : pG 4607182418800017408 (2 ^ 40, 2 ^ 40) := inG.const (n := 4503599627370496) (j := -52) (by decide) (by decide) (by decide) (by decide)
theorem g_half : inG .f64 4602678819172646912 (2 ^ 39) (2 ^ 39) := inG.const (n := 4503599627370496) (j := -53) (by decide) (by decide) (by decide) (by decide)
theorem g_quarter : inG .f64 4598175219545276416 (2 ^ 38) (2 ^ 38) := inG.const (n := 4503599627370496) (j := -54) (by decide) (by decide) (by decide) (by decide)
theorem g_tau : pG 4618760256179416344 (6908435304715, 6908435304716) := inG.const (n := 7074237752028440) (j := -50) (by decide) (by decide) (by decide) (by decide)
theorem step_ok {x n : Nat} {y s : Nat × Nat} (hx : pG x y) (hn : pG n s) (hy : y.2 ≤ 3 * 2 ^ 40) (hs : s.2 ≤ 2 ^ 40 + 1) {d k : Nat} {j : Int} (hc : FloatKind.f64.decode (fOfInt .f64 d) = .number false k j) (hk : k = d * 2 ^ (-j).toNat) (hd : 6 ≤ d) (hj : j ≤ 0) (hl : (2 : Int) ≤ j + k.log2) :
    pG (stepP x (fOfInt .f64 d) n) (stepI d y s) ∧ (stepI d y s).2 ≤ 2 ^ 40 + 1 := by
  obtain ⟨y0, y1⟩ := y
  obtain ⟨s0, s1⟩ := s
  have hd0 : 0 < d := by omega
  have hyd : y1 / d ≤ 2 ^ 39 := by
    refine Nat.le_trans (Nat.div_le_div_left hd (by decide)) ?_
    show y1 / 6 ≤ 2 ^ 39
    have hy : y1 ≤ 3 * 2 ^ 40 := hy
    omega
  have hs : s1 ≤ 2 ^ 40 + 1 := hs
  have hy42 : y1 < 2 ^ (40 + 2) := by
    have hy : y1 ≤ 3 * 2 ^ 40 := hy
    omega
  have h1 : inG .f64 (fDiv .f64 x (fOfInt .f64 d)) ((y0 / d - 1 - 2 ^ 0 : Nat) : Int) ((y1 / d + 2 + 2 ^ 0 : Nat) : Int) := inG.divP 2 0 d hx hc hk hd0 hj hy42 (by show y1 / d + 2 ≤ 2 ^ 42; omega) (by
    show (2 : Int) - (j + (k.log2 : Int)) - (52 : Nat) ≤ -40
    omega) (by decide) (by decide)
  have hm : (y1 / d + 3) * s1 / 2 ^ 40 + 2 ≤ 2 ^ 40 := by
    have : (y1 / d + 3) * s1 ≤ (2 ^ 39 + 3) * (2 ^ 40 + 1) := Nat.mul_le_mul (by omega) hs
    omega
  have h2 : inG .f64 (fMul .f64 (fDiv .f64 x (fOfInt .f64 d)) n) (((y0 / d - 2) * s0 / 2 ^ 40 - 2 ^ 0 : Nat) : Int) (((y1 / d + 3) * s1 / 2 ^ 40 + 1 + 2 ^ 0 : Nat) : Int) := inG.mulP 0 0 _ _ h1 hn (by
    have := Nat.div_mul_le_self ((y0 / d - 2) * s0) (2 ^ 40)
    exact this) (by
    show (y1 / d + 3) * s1 ≤ ((y1 / d + 3) * s1 / 2 ^ 40 + 1) * 2 ^ 40
    generalize (y1 / d + 3) * s1 = z
    omega) (by show (y1 / d + 3) * s1 / 2 ^ 40 + 1 ≤ 2 ^ 40; omega) (by decide) (by decide)
  have h3 := inG.restP 0 g_one h2 (by show (y1 / d + 3) * s1 / 2 ^ 40 + 2 ≤ 2 ^ 40; omega) (by decide)
  refine ⟨h3, ?_⟩
  show 2 ^ 40 - ((y0 / d - 2) * s0 / 2 ^ 40 - 1) + 1 ≤ 2 ^ 40 + 1
  omega
theorem poly_ok {x : Nat} {y : Nat × Nat} (hx : pG x y) (hy : y.2 ≤ 3 * 2 ^ 40) : pG (polyP x) (polyI y) ∧ (polyI y).2 ≤ 2 ^ 40 + 1 := by
  have s1 := step_ok (d := 272) hx g_one hy (by decide) (k := 4785074604081152) (j := -44) (by decide) (by decide) (by decide) (by decide) (by decide)
  have s2 := step_ok (d := 210) hx s1.1 hy s1.2 (k := 7388718138654720) (j := -45) (by decide) (by decide) (by decide) (by decide) (by decide)
  have s3 := step_ok (d := 156) hx s2.1 hy s2.2 (k := 5488762045857792) (j := -45) (by decide) (by decide) (by decide) (by decide) (by decide)
  have s4 := step_ok (d := 110) hx s3.1 hy s3.2 (k := 7740561859543040) (j := -46) (by decide) (by decide) (by decide) (by decide) (by decide)
  have s5 := step_ok (d := 72) hx s4.1 hy s4.2 (k := 5066549580791808) (j := -46) (by decide) (by decide) (by decide) (by decide) (by decide)
  have s6 := step_ok (d := 42) hx s5.1 hy s5.2 (k := 5910974510923776) (j := -47) (by decide) (by decide) (by decide) (by decide) (by decide)
  have s7 := step_ok (d := 20) hx s6.1 hy s6.2 (k := 5629499534213120) (j := -48) (by decide) (by decide) (by decide) (by decide) (by decide)
  exact step_ok (d := 6) hx s7.1 hy s7.2 (k := 6755399441055744) (j := -50) (by decide) (by decide) (by decide) (by decide) (by decide)
def mulI (a b : Nat × Nat) : Nat × Nat := (a.1 * b.1 / 2 ^ 40 - 1, a.2 * b.2 / 2 ^ 40 + 2)
theorem mul_ok {x z : Nat} {a b : Nat × Nat} (hx : pG x a) (hz : pG z b) (h : a.2 * b.2 ≤ 3 * 2 ^ 80) : pG (fMul .f64 x z) (mulI a b) := by
  obtain ⟨a0, a1⟩ := a
  obtain ⟨b0, b1⟩ := b
  have h : a1 * b1 ≤ 3 * 2 ^ 80 := h
  exact inG.mulP 2 0 (a0 * b0 / 2 ^ 40) (a1 * b1 / 2 ^ 40 + 1) hx hz (Nat.div_mul_le_self _ _) (by generalize a1 * b1 = z; omega) (by show a1 * b1 / 2 ^ 40 + 1 ≤ 2 ^ 42; omega) (by decide) (by decide)
/-- how great a number is -/
def absG (x : Nat) (a : Nat × Nat) : Prop := ∃ A B : Int, inG .f32 x A B ∧ -(a.2 : Int) ≤ A ∧ B ≤ a.2 ∧ ((a.1 : Int) ≤ A ∨ B ≤ -(a.1 : Int) ∨ a.1 = 0)
def lastI (z : Nat × Nat) : Nat × Nat := (mulI (polyI (mulI (mulI (6908435304715, 6908435304716) z) (mulI (6908435304715, 6908435304716) z))) (mulI (6908435304715, 6908435304716) z))
def wideI (z : Nat × Nat) : Nat × Nat := (z.1 - 2 ^ 18, z.2 + 2 ^ 18)
theorem last_ok {z : Nat} {a : Nat × Nat} (h : pG z a) (ha : a.2 ≤ 2 ^ 38 + 1) (b : Bool) : ∃ v : Nat, (bif b then (fConv .f64 .f32 (fNeg .f64 (fMul .f64 (polyP (fMul .f64 (fMul .f64 4618760256179416344 z) (fMul .f64 4618760256179416344 z))) (fMul .f64 4618760256179416344 z)))).bind fun y => some ((y, ()), ()) else (fConv .f64 .f32 (fMul .f64 (polyP (fMul .f64 (fMul .f64 4618760256179416344 z) (fMul .f64 4618760256179416344 z))) (fMul .f64 4618760256179416344 z))).bind fun y => some ((y, ()), ())) = some ((v, ()), ()) ∧ absG v (wideI (lastI a)) := by
  obtain ⟨a0, a1⟩ := a
  have ha : a1 ≤ 2 ^ 38 + 1 := ha
  have h1 := mul_ok g_tau h (by show 6908435304716 * a1 ≤ 3 * 2 ^ 80; omega)
  have k1 : (mulI (6908435304715, 6908435304716) (a0, a1)).2 ≤ 1730000000000 := by
    show 6908435304716 * a1 / 2 ^ 40 + 2 ≤ _
    omega
  generalize hX : mulI (6908435304715, 6908435304716) (a0, a1) = X at *
  have h2 := mul_ok h1 h1 (by
    have := Nat.mul_le_mul k1 k1
    refine Nat.le_trans this (by decide))
  have k2 : (mulI X X).2 ≤ 3 * 2 ^ 40 := by
    show X.2 * X.2 / 2 ^ 40 + 2 ≤ _
    have := Nat.mul_le_mul k1 k1
    omega
  obtain ⟨h3, k3⟩ := poly_ok h2 k2
  have h4 := mul_ok h3 h1 (by
    have := Nat.mul_le_mul k3 k1
    refine Nat.le_trans this (by decide))
  have k4 : (mulI (polyI (mulI X X)) X).2 ≤ 2 ^ 41 := by
    show (polyI (mulI X X)).2 * X.2 / 2 ^ 40 + 2 ≤ _
    have := Nat.mul_le_mul k3 k1
    omega
  have hS : lastI (a0, a1) = mulI (polyI (mulI X X)) X := by rw [← hX]; rfl
  rw [hS]
  generalize mulI (polyI (mulI X X)) X = S at *
  obtain ⟨S0, S1⟩ := S
  have h4 : inG .f64 _ (S0 : Int) (S1 : Int) := h4
  have k4 : S1 ≤ 2 ^ 41 := k4
  have hle : S0 ≤ S1 := by have := h4.le; omega
  obtain ⟨y, e1, g1⟩ := h4.conv 1 18 (by omega) (by show (S1 : Int) ≤ 2 ^ 41; omega) (by decide) (by decide)
  obtain ⟨y', e2, g2⟩ := h4.neg.conv 1 18 (by show -2 ^ 41 ≤ -(S1 : Int); omega) (by show -(S0 : Int) ≤ 2 ^ 41; omega) (by decide) (by decide)
  cases b with
  | true =>
    refine ⟨y', by rw [cond_true, e2]; rfl, _, _, g2, ?_, ?_, ?_⟩
    · show -((S1 + 2 ^ 18 : Nat) : Int) ≤ _; omega
    · show _ ≤ ((S1 + 2 ^ 18 : Nat) : Int); omega
    · show _ ∨ _ ≤ -((S0 - 2 ^ 18 : Nat) : Int) ∨ S0 - 2 ^ 18 = 0; omega
  | false =>
    refine ⟨y, by rw [cond_false, e1]; rfl, _, _, g1, ?_, ?_, ?_⟩
    · show -((S1 + 2 ^ 18 : Nat) : Int) ≤ _; omega
    · show _ ≤ ((S1 + 2 ^ 18 : Nat) : Int); omega
    · show ((S0 - 2 ^ 18 : Nat) : Int) ≤ _ ∨ _ ∨ S0 - 2 ^ 18 = 0; omega
end Go.Proofs.YtnndahnmlmgenaaGreat
