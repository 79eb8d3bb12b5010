/- Functions of the program and of the reference in plain terms. -/
import Derived.Test.YtnndahnmlmgenaaGreatP13
namespace Go.Proofs.YtnndahnmlmgenaaGreat
open Go Go.Tm
set_option linter.unusedVariables false
set_option linter.unusedSimpArgs false
set_option linter.unusedSectionVars false
/-! ### great angles -/
theorem pw_const {k : FloatKind} {x : Nat} {s : Bool} {m : Nat} {p t : Int} (h : k.decode x = .number s m p) (h1 : p ≤ t) (h2 : m ≤ 2 ^ (t - p).toNat) : pw k x t :=
  ⟨s, m, p, h, le2_of p (Int.le_refl _) h1 (by rw [show (p - p).toNat = 0 by omega, Nat.pow_zero, Nat.mul_one]; exact h2)⟩
theorem pw_one : pw .f64 4607182418800017408 0 := pw_const (s := false) (m := 4503599627370496) (p := -52) (by decide) (by decide) (by decide)
theorem pw_half : pw .f64 4602678819172646912 0 := pw_const (s := false) (m := 4503599627370496) (p := -53) (by decide) (by decide) (by decide)
theorem pw_quarter : pw .f64 4598175219545276416 0 := pw_const (s := false) (m := 4503599627370496) (p := -54) (by decide) (by decide) (by decide)
theorem pw_tau : pw .f64 4618760256179416344 3 := pw_const (s := false) (m := 7074237752028440) (p := -50) (by decide) (by decide) (by decide)
/-- divided by what is at least 2 ^ u -/
theorem pw_over {k : FloatKind} {a b : Nat} {t u : Int} {s' : Bool} {n : Nat} {j : Int} (ha : pw k a t) (hb : k.decode b = .number s' n j) (hn : 2 ^ (u - j).toNat ≤ n) (hj : j ≤ u) (h1 : pwLo k ≤ t - u) (h2 : t - u ≤ pwHi k) : pw k (fDiv k a b) (t - u) := by
  obtain ⟨s, m, i, hd, hm⟩ := ha
  have hn0 : n ≠ 0 := by have := Nat.two_pow_pos (u - j).toNat; omega
  refine pw_div hd hb hn0 (fun c c1 c2 => ?_) h1 h2
  have g1 := hm (min c t) (by omega) (by omega)
  have g2 : m * 2 ^ (i - c).toNat ≤ 2 ^ (u - j).toNat * 2 ^ (j + (t - u) - c).toNat := by
    by_cases hct : c ≤ t
    · have g1 := hm c c1 hct
      refine Nat.le_trans g1 ?_
      rw [← Nat.pow_add]
      exact Nat.pow_le_pow_right (by decide) (by omega)
    · omega
  exact Nat.le_trans g2 (Nat.mul_le_mul_right _ hn)

theorem tri {a b c : Int} {x y : Nat} (h1 : (a - b).natAbs ≤ x) (h2 : (b - c).natAbs ≤ y) : (a - c).natAbs ≤ x + y := by omega
theorem le_of_abs {a b x : Nat} (h : ((a : Int) - b).natAbs ≤ x) : a ≤ b + x := by omega
theorem near_of {a b x : Nat} (h1 : a ≤ b + x) (h2 : b ≤ a + x) : ((a : Int) - b).natAbs ≤ x := by omega
theorem quot_err (N C : Nat) (hC : 0 < C) : C * (2 * (N / C) + (N % C != 0).toNat) ≤ 2 * N + C ∧ 2 * N ≤ C * (2 * (N / C) + (N % C != 0).toNat) + C := by
  have a := Nat.div_add_mod N C
  have b := Nat.mod_lt N hC
  generalize N / C = w at *
  generalize N % C = r at *
  have e : C * (2 * w) = 2 * (C * w) := Nat.mul_left_comm _ _ _
  by_cases hr : r = 0
  · subst hr
    simp only [bne_self_eq_false, Bool.toNat_false, Nat.add_zero]
    omega
  · have : (r != 0) = true := by simp [hr]
    rw [this, Bool.toNat_true, Nat.mul_add, Nat.mul_one]
    omega

/-- 2 pi, as a whole number of 2 ^ (-50) -/
def tauC : Nat := 7074237752028440
theorem tauC_pos : 0 < tauC := by decide
theorem tauC_hi : tauC ≤ 2 ^ 53 := by decide
theorem tauC_log : tauC.log2 = 52 := by decide
theorem dec_tauC : FloatKind.f64.format.read 4618760256179416344 = .number false tauC (-50) := by decide
theorem last_eq (m : Nat) (p : Int) : lastOf FloatKind.f64.format m p = max (p + m.log2 - 52) (-1074) := by
  have hf1 : (FloatKind.f64.format.fractionBits : Int) = 52 := rfl
  have hf2 : FloatKind.f64.format.leastPlace = -1074 := by decide
  unfold lastOf
  rw [hf1, hf2]

theorem quot_tau {y : Nat} {s : Bool} {m : Nat} {i : Int} (hd : FloatKind.f64.decode y = .number s m i) (hm1 : 2 ^ 52 ≤ m) (hm2 : m < 2 ^ 53) : ∃ W : Nat, tauC * W ≤ m * 2 ^ 55 + tauC ∧ m * 2 ^ 55 ≤ tauC * W + tauC ∧ fDiv .f64 y 4618760256179416344 = FloatKind.f64.format.nearest s W (i - 5) := by
  have hm0 : m ≠ 0 := fun z => by rw [z] at hm1; exact absurd hm1 (by decide)
  have hlm : m.log2 = 52 := (Nat.log2_eq_iff hm0).2 ⟨hm1, hm2⟩
  obtain ⟨q1, q2⟩ := quot_err (m * 2 ^ 54) tauC tauC_pos
  have e2 : 2 * (m * 2 ^ 54) = m * 2 ^ 55 := by rw [Nat.mul_left_comm]
  rw [e2] at q1 q2
  refine ⟨_, q1, q2, ?_⟩
  unfold fDiv Ieee.Format.div
  rw [show FloatKind.f64.format.read y = .number s m i from hd, dec_tauC]
  simp only [Ieee.Datum.quotient, if_neg (Nat.ne_of_gt tauC_pos), Option.map_some, orNan, Bool.xor_false, hlm, tauC_log]
  rw [show FloatKind.f64.format.fractionBits + 2 + 52 - 52 = 54 from rfl, Nat.shiftLeft_eq, show i - -50 - ((54 : Nat) : Int) - 1 = i - 5 by omega]
  exact canon_of_num (write_nan (d := .number s _ _) rfl)

theorem quot_range {m W : Nat} (hm1 : 2 ^ 52 ≤ m) (hm2 : m < 2 ^ 53) (h1 : tauC * W ≤ m * 2 ^ 55 + tauC) (h2 : m * 2 ^ 55 ≤ tauC * W + tauC) : 2 ^ 54 ≤ W ∧ W < 2 ^ 56 := by
  constructor
  · apply Classical.byContradiction
    intro q
    have a : tauC * W ≤ tauC * 2 ^ 54 := Nat.mul_le_mul_left _ (by omega)
    have b : 2 ^ 52 * 2 ^ 55 ≤ m * 2 ^ 55 := Nat.mul_le_mul_right _ hm1
    have c : tauC * 2 ^ 54 + tauC < 2 ^ 52 * 2 ^ 55 := by decide
    exact absurd (Nat.le_trans b (Nat.le_trans h2 (Nat.add_le_add_right a _))) (by omega)
  · apply Classical.byContradiction
    intro q
    have a : tauC * 2 ^ 56 ≤ tauC * W := Nat.mul_le_mul_left _ (by omega)
    have b : m * 2 ^ 55 ≤ 2 ^ 53 * 2 ^ 55 := Nat.mul_le_mul_right _ (Nat.le_of_lt hm2)
    have c : 2 ^ 53 * 2 ^ 55 + tauC < tauC * 2 ^ 56 := by decide
    exact absurd (Nat.le_trans a (Nat.le_trans h1 (Nat.add_le_add_right b _))) (by omega)

/-- a difference of numbers of one sign -/
theorem sub_pw {x y : Nat} {s : Bool} {m K : Nat} {i l t B : Int} (hx : FloatKind.f64.decode x = .number s m i) (hy : FloatKind.f64.decode y = .number s K l) (h1 : B ≤ i) (h2 : B ≤ l) (h3 : B ≤ t) (h : ((m * 2 ^ (i - B).toNat : Nat) - (K * 2 ^ (l - B).toNat : Nat) : Int).natAbs ≤ 2 ^ (t - B).toNat) (ht : -1021 ≤ t) (ht2 : t ≤ 900) : pw .f64 (fSub .f64 x y) t ∧ (fEq .f64 (fSub .f64 x y) 0 = true → fSub .f64 x y = 0) := by
  have e : ∃ g, fSub .f64 x y = canon .f64 (FloatKind.f64.encode (.number g (Ieee.signed s m (i - min i l).toNat + Ieee.signed (!s) K (l - min i l).toNat).natAbs (min i l))) ∧ (Ieee.signed s m (i - min i l).toNat + Ieee.signed (!s) K (l - min i l).toNat = 0 → g = false) := by
    unfold fSub Ieee.Format.sub
    rw [show FloatKind.f64.format.read x = .number s m i from hx, show FloatKind.f64.format.read y = .number s K l from hy]
    refine ⟨_, rfl, fun z => ?_⟩
    rw [if_pos z]
    cases s <;> rfl
  obtain ⟨g, e, hg⟩ := e
  have hl : le2 (Ieee.signed s m (i - min i l).toNat + Ieee.signed (!s) K (l - min i l).toNat).natAbs (min i l) t := by
    refine le2_of B (by omega) h3 ?_
    have hdiff : (Ieee.signed s m (i - min i l).toNat + Ieee.signed (!s) K (l - min i l).toNat).natAbs * 2 ^ (min i l - B).toNat = ((m * 2 ^ (i - B).toNat : Nat) - (K * 2 ^ (l - B).toNat : Nat) : Int).natAbs := by
      rw [pow_split (by omega : min i l ≤ i) B (by omega), pow_split (by omega : min i l ≤ l) B (by omega), ← Nat.mul_assoc, ← Nat.mul_assoc, sub_scale]
      congr 1
      unfold Ieee.signed
      rw [Nat.shiftLeft_eq, Nat.shiftLeft_eq]
      cases s
      · simp only [Bool.not_false, if_true, Bool.false_eq_true, if_false]
        rfl
      · simp only [Bool.not_true, if_true, Bool.false_eq_true, if_false]
        omega
    rw [hdiff]
    exact h
  obtain ⟨m', p', e1, e2⟩ := pw_write (k := .f64) g hl ht (by show t ≤ (1023 : Int); omega)
  refine ⟨by rw [e]; exact ⟨_, m', p', e1, e2⟩, fun hz => ?_⟩
  obtain ⟨_, b1, _⟩ := double_read hx
  obtain ⟨_, b2, _⟩ := double_read hy
  generalize hT : Ieee.signed s m (i - min i l).toNat + Ieee.signed (!s) K (l - min i l).toNat = T at *
  by_cases hT0 : T = 0
  · rw [e, hg hT0, hT0]
    have : FloatKind.f64.encode (.number false (0 : Int).natAbs (min i l)) = 0 := by
      show FloatKind.f64.format.nearest false 0 (min i l) = 0
      unfold Ieee.Format.nearest
      rw [if_pos rfl]
      rfl
    rw [this]
    decide
  · have hTn : T.natAbs ≠ 0 := by omega
    have htop := le2_top hTn hl
    obtain ⟨K', q', r', _, k1, _⟩ := near_err g hTn (p := min i l) (by omega) (by rw [last_eq]; omega)
    have hn : isNan .f64 (FloatKind.f64.encode (.number g T.natAbs (min i l))) = false := write_nan rfl
    rw [e, canon_of_num hn] at hz
    unfold fEq Ieee.Format.order at hz
    have h0 : FloatKind.f64.format.read 0 = .number false 0 (-1074) := by decide
    rw [show FloatKind.f64.format.read (FloatKind.f64.encode (.number g T.natAbs (min i l))) = .number g K' q' from r', h0] at hz
    exfalso
    have hz0 : ∀ u, Ieee.signed false 0 u = 0 := fun u => by simp [Ieee.signed]
    have h5 := abs_signed g K' (q' - min q' (-1074)).toNat
    have h6 : 0 < K' * 2 ^ (q' - min q' (-1074)).toNat := Nat.mul_pos (by omega) (Nat.two_pow_pos _)
    simp only [Ieee.Datum.order, hz0] at hz
    generalize Ieee.signed g K' (q' - min q' (-1074)).toNat = v at *
    have hv : v ≠ 0 := by omega
    rcases Int.lt_trichotomy v 0 with q | q | q
    · have : compare v 0 = .lt := by simp [compare, compareOfLessAndEq, q]
      rw [this] at hz
      exact absurd hz (by decide)
    · exact hv q
    · have : compare v 0 = .gt := by
        have n1 : ¬ v < 0 := by omega
        simp [compare, compareOfLessAndEq, n1, hv]
      rw [this] at hz
      exact absurd hz (by decide)

theorem pow_lt_of {a b : Nat} (h : 2 ^ a < 2 ^ b) : a < b := (Nat.pow_lt_pow_iff_right (a := 2) (by decide)).1 h

theorem ar3 {i l3 q2 : Int} {P : Nat} (g3 : max (-50 + q2 + (P : Int) - 52) (-1074) ≤ l3) (h : 104 ≤ P) (hq : i - 56 < q2) : i - 110 ≤ l3 := by omega
theorem ar4 {i l1 q2 : Int} {P : Nat} (g1 : max (i - 5 + (P : Int) - 52) (-1074) ≤ l1) (h : 54 ≤ P) (hq : l1 < 53 + q2) : i - 56 < q2 := by omega
/-- a great angle less its whole turns is small beside it -/
theorem wrap_great {y : Nat} {s : Bool} {m : Nat} {i : Int} (hd : FloatKind.f64.decode y = .number s m i) (h1 : 68 ≤ i) (h2 : i ≤ 100) : pw .f64 (fSub .f64 y (fMul .f64 4618760256179416344 (fRound .even (fDiv .f64 y 4618760256179416344)))) (i + 3) ∧ (fEq .f64 (fSub .f64 y (fMul .f64 4618760256179416344 (fRound .even (fDiv .f64 y 4618760256179416344)))) 0 = true → fSub .f64 y (fMul .f64 4618760256179416344 (fRound .even (fDiv .f64 y 4618760256179416344))) = 0) := by
  have t1 : i - 110 ≤ i := by omega
  have t2 : i - 110 ≤ i + 3 := by omega
  have t4 : -1021 ≤ i + 3 := by omega
  have t5 : i + 3 ≤ 900 := by omega
  have t6 : (i - (i - 110)).toNat = 110 := by omega
  have t7 : (i + 3 - (i - 110)).toNat = 113 := by omega
  obtain ⟨hm53, _, _⟩ := double_read hd
  have hm52 := double_norm hd (by omega)
  obtain ⟨W, hW1, hW2, hq⟩ := quot_tau hd hm52 hm53
  obtain ⟨hWlo, hWhi⟩ := quot_range hm52 hm53 hW1 hW2
  have hW0 : W ≠ 0 := fun z => by rw [z] at hWlo; exact absurd hWlo (by decide)
  have hWl1 : 54 ≤ W.log2 := (Nat.le_log2 hW0).2 hWlo
  have hWl2 : W.log2 < 56 := (Nat.log2_lt hW0).2 hWhi
  obtain ⟨K1, l1, r1, g1, p1, er1⟩ := near_err s hW0 (p := i - 5) (by omega) (by rw [last_eq]; omega)
  rw [last_eq] at g1 er1
  have hq1 : FloatKind.f64.decode (fDiv .f64 y 4618760256179416344) = .number s K1 l1 := by rw [hq]; exact r1
  have er1 := er1 (i - 60) (by omega) (by omega)
  rw [show (i - 5 - (i - 60)).toNat = 55 by omega] at er1
  obtain ⟨X1, hX1⟩ : ∃ X, K1 * 2 ^ (l1 - (i - 60)).toNat = X := ⟨_, rfl⟩
  rw [hX1] at er1
  have er1' : ((X1 : Int) - (W * 2 ^ 55 : Nat)).natAbs ≤ 2 ^ 58 := Nat.le_trans er1 (Nat.pow_le_pow_right (by decide) (by omega))
  have hW55 : W * 2 ^ 55 < 2 ^ 111 := by
    have := Nat.mul_lt_mul_of_pos_right hWhi (Nat.two_pow_pos 55)
    exact Nat.lt_of_lt_of_le this (by decide)
  have hX112 : X1 < 2 ^ 112 := Nat.lt_of_le_of_lt (le_of_abs er1') (Nat.lt_of_lt_of_le (Nat.add_lt_add_right hW55 _) (by decide))
  have hl1 : (l1 - (i - 60)).toNat < 112 := by
    refine pow_lt_of (Nat.lt_of_le_of_lt ?_ hX112)
    rw [← hX1]
    exact Nat.le_mul_of_pos_left _ p1
  have hK10 : K1 ≠ 0 := by omega
  obtain ⟨K2, q2, r2, hK2⟩ := round_whole .even hq1 hK10 (by omega) (by omega)
  obtain ⟨hK53, hq2lo, _⟩ := double_read r2
  -- the place of the round
  have hq2 : l1 < 53 + q2 := by
    have e1 := hK2 (min q2 0) (by omega) (by omega)
    have e2 : K2 * 2 ^ (q2 - min q2 0).toNat < 2 ^ (53 + (q2 - min q2 0).toNat) := by
      rw [Nat.pow_add]
      exact Nat.mul_lt_mul_of_pos_right hK53 (Nat.two_pow_pos _)
    rw [e1] at e2
    have e3 : 2 ^ (l1 - min q2 0).toNat ≤ K1 * 2 ^ (l1 - min q2 0).toNat := Nat.le_mul_of_pos_left _ p1
    have := pow_lt_of (Nat.lt_of_le_of_lt e3 e2)
    omega
  have hK52 := double_norm r2 (by omega)
  have hX2 : K2 * 2 ^ (q2 - (i - 60)).toNat = X1 := by
    have e1 := hK2 0 (by omega) (by omega)
    rw [pow_split (by omega : i - 60 ≤ q2) 0 (by omega), pow_split (by omega : i - 60 ≤ l1) 0 (by omega), ← Nat.mul_assoc, ← Nat.mul_assoc] at e1
    rw [← hX1]
    exact Nat.mul_right_cancel (Nat.two_pow_pos _) e1
  have hq2hi : (q2 - (i - 60)).toNat < 60 := by
    have e1 : 2 ^ (52 + (q2 - (i - 60)).toNat) < 2 ^ 112 := by
      refine Nat.lt_of_le_of_lt ?_ hX112
      rw [← hX2, Nat.pow_add]
      exact Nat.mul_le_mul_right _ hK52
    have := pow_lt_of e1
    omega
  -- the product
  have hP0 : tauC * K2 ≠ 0 := Nat.mul_ne_zero (Nat.ne_of_gt tauC_pos) (fun z => by rw [z] at hK52; exact absurd hK52 (by decide))
  have hPl1 : 104 ≤ (tauC * K2).log2 := (Nat.le_log2 hP0).2 (by
    have : 2 ^ 52 * 2 ^ 52 ≤ tauC * K2 := Nat.mul_le_mul (by decide) hK52
    exact this)
  have hPl2 : (tauC * K2).log2 < 106 := (Nat.log2_lt hP0).2 (by
    have a : tauC * K2 ≤ 2 ^ 53 * K2 := Nat.mul_le_mul_right _ tauC_hi
    have b : 2 ^ 53 * K2 < 2 ^ 53 * 2 ^ 53 := Nat.mul_lt_mul_of_pos_left hK53 (by decide)
    exact Nat.lt_of_le_of_lt a b)
  have hb : fMul .f64 4618760256179416344 (fRound .even (fDiv .f64 y 4618760256179416344)) = FloatKind.f64.format.nearest s (tauC * K2) (-50 + q2) := by
    unfold fMul Ieee.Format.mul
    rw [dec_tauC, show FloatKind.f64.format.read (fRound .even (fDiv .f64 y 4618760256179416344)) = .number s K2 q2 from r2]
    simp only [Ieee.Datum.product, Option.map_some, orNan, Bool.false_xor]
    exact canon_of_num (write_nan (d := .number s _ _) rfl)
  obtain ⟨K3, l3, r3, g3, _, er3⟩ := near_err s hP0 (p := -50 + q2) (by omega) (by rw [last_eq]; omega)
  rw [last_eq] at g3 er3
  have er3 := er3 (i - 110) (by omega) (by omega)
  rw [show (-50 + q2 - (i - 110)).toNat = (q2 - (i - 60)).toNat by omega, Nat.mul_assoc, hX2] at er3
  have er3' : ((K3 * 2 ^ (l3 - (i - 110)).toNat : Nat) - (tauC * X1 : Nat) : Int).natAbs ≤ 2 ^ 112 := Nat.le_trans er3 (Nat.pow_le_pow_right (by decide) (by omega))
  have er2 : ((tauC * X1 : Nat) - (tauC * (W * 2 ^ 55) : Nat) : Int).natAbs ≤ 2 ^ 111 := by
    have := sub_scale X1 (W * 2 ^ 55) tauC
    rw [Nat.mul_comm tauC X1, Nat.mul_comm tauC (W * 2 ^ 55), this]
    refine Nat.le_trans (Nat.mul_le_mul er1' tauC_hi) (by decide)
  have er0 : ((tauC * (W * 2 ^ 55) : Nat) - (m * 2 ^ 110 : Nat) : Int).natAbs ≤ 2 ^ 108 := by
    rw [← Nat.mul_assoc, show m * 2 ^ 110 = m * 2 ^ 55 * 2 ^ 55 by rw [Nat.mul_assoc, ← Nat.pow_add], sub_scale]
    have : ((tauC * W : Nat) - (m * 2 ^ 55 : Nat) : Int).natAbs ≤ tauC := near_of hW1 hW2
    exact Nat.le_trans (Nat.mul_le_mul (Nat.le_trans this tauC_hi) (Nat.le_refl _)) (by decide)
  have er := tri (tri er3' er2) er0
  have er4 : ((m * 2 ^ 110 : Nat) - (K3 * 2 ^ (l3 - (i - 110)).toNat : Nat) : Int).natAbs ≤ 2 ^ 113 := by
    have c : (2 : Nat) ^ 112 + 2 ^ 111 + 2 ^ 108 ≤ 2 ^ 113 := by decide
    rw [← Int.natAbs_neg, Int.neg_sub]
    exact Nat.le_trans er c
  rw [hb]
  refine sub_pw (B := i - 110) hd r3 t1 (ar3 g3 hPl1 (ar4 g1 hWl1 hq2)) t2 ?_ t4 t5
  rw [t6, t7]
  exact er4

theorem cut_even_le (s : Bool) (n d t : Nat) (h : n ≤ 2 ^ t * 2 ^ d) : Ieee.Toward.even.cut s n d ≤ 2 ^ (t + 1) := by
  refine Nat.le_trans (cut_le _ _ _ _) ?_
  have h1 : 1 ≤ 2 ^ t := Nat.two_pow_pos t
  have h2 : (2 : Nat) ^ (t + 1) = 2 ^ t + 2 ^ t := by rw [Nat.pow_succ, Nat.mul_comm, Nat.two_mul]
  by_cases hd : d ≤ n.log2 + 2
  · rw [Nat.min_eq_left hd]
    have : n / 2 ^ d ≤ 2 ^ t := Nat.div_le_of_le_mul (by rw [Nat.mul_comm]; exact h)
    omega
  · rw [Nat.min_eq_right (by omega)]
    have h3 : n < 2 ^ (n.log2 + 2) := Nat.lt_of_lt_of_le Nat.lt_log2_self (Nat.pow_le_pow_right (by decide) (by omega))
    rw [Nat.div_eq_of_lt h3]
    omega

/-- a round keeps the sign, and does not grow much -/
theorem round_sign {x : Nat} {s : Bool} {m : Nat} {p : Int} {t : Nat} (hd : FloatKind.f64.decode x = .number s m p) (hl : le2 m p t) (ht : t ≤ 900) : ∃ m' p', FloatKind.f64.decode (fRound .even x) = .number s m' p' ∧ le2 m' p' (t + 1 : Nat) := by
  have hn : isNan .f64 x = false := by
    rw [isNan_eq, show FloatKind.f64.format.read x = .number s m p from hd]; rfl
  have hw : fRound .even x = canon .f64 (FloatKind.f64.encode (.number s (Ieee.Toward.even.cut s (m <<< p.toNat) (-p).toNat) 0)) := by
    unfold fRound
    rw [hn, cond_false, hd]
    rfl
  rw [hw]
  refine pw_write (k := .f64) s (le2_of 0 (Int.le_refl _) (by omega) ?_) (by show (-1021 : Int) ≤ _; omega) (by show _ ≤ (1023 : Int); omega)
  rw [show ((0 : Int) - 0).toNat = 0 by omega, Nat.pow_zero, Nat.mul_one, show (((t + 1 : Nat) : Int) - 0).toNat = t + 1 by omega]
  refine cut_even_le _ _ _ _ ?_
  rw [Nat.shiftLeft_eq]
  have := hl (min p 0) (by omega) (by omega)
  by_cases hp : 0 ≤ p
  · rw [show min p 0 = 0 by omega] at this
    rw [show (-p).toNat = 0 by omega, Nat.pow_zero, Nat.mul_one]
    rw [show (p - 0).toNat = p.toNat by omega, show ((t : Int) - 0).toNat = t by omega] at this
    exact this
  · rw [show min p 0 = p by omega, show (p - p).toNat = 0 by omega, show ((t : Int) - p).toNat = t + (-p).toNat by omega, Nat.pow_add] at this
    rw [show p.toNat = 0 by omega]
    exact this

/-- the whole turns of a small angle -/
theorem turns_small {y : Nat} {s : Bool} {m : Nat} {i : Int} (hd : FloatKind.f64.decode y = .number s m i) (hl : le2 m i 120) : ∃ K l, FloatKind.f64.decode (fMul .f64 4618760256179416344 (fRound .even (fDiv .f64 y 4618760256179416344))) = .number s K l ∧ le2 K l 122 := by
  have dtau : FloatKind.f64.decode 4618760256179416344 = .number false 7074237752028440 (-50) := by decide
  obtain ⟨m1, p1, d1, l1⟩ := pw_divS (k := .f64) (v := 118) hd dtau (by decide) (fun c c1 c2 => by
    have h2 : 2 ^ (2 - (-50 : Int)).toNat * 2 ^ (-50 + 118 - c).toNat ≤ 7074237752028440 * 2 ^ (-50 + 118 - c).toNat := Nat.mul_le_mul_right _ (by decide)
    refine Nat.le_trans ?_ h2
    rw [← Nat.pow_add]
    exact Nat.le_trans (hl c c1 (by omega)) (Nat.pow_le_pow_right (by decide) (by omega))) (by decide) (by decide)
  rw [Bool.xor_false] at d1
  obtain ⟨m2, p2, d2, l2⟩ := round_sign (t := 118) d1 l1 (by decide)
  have e : fMul .f64 4618760256179416344 (fRound .even (fDiv .f64 y 4618760256179416344)) = canon .f64 (FloatKind.f64.encode (.number s (7074237752028440 * m2) (-50 + p2))) := by
    unfold fMul Ieee.Format.mul
    rw [show FloatKind.f64.format.read 4618760256179416344 = .number false 7074237752028440 (-50) from dtau, show FloatKind.f64.format.read (fRound .even (fDiv .f64 y 4618760256179416344)) = .number s m2 p2 from d2]
    simp only [Ieee.Datum.product, Option.map_some, orNan, Bool.false_xor]
    rfl
  rw [e]
  obtain ⟨b, hb⟩ : ∃ b, b = min (-50 + p2) 69 := ⟨_, rfl⟩
  refine pw_write (k := .f64) s (le2_of b (by omega) (by omega) ?_) (by decide) (by decide)
  have h3 := l2 (b + 50) (by omega) (by omega)
  have h4 := Nat.mul_le_mul (show 7074237752028440 ≤ 2 ^ 53 by decide) h3
  rw [Nat.mul_assoc, show (-50 + p2 - b).toNat = (p2 - (b + 50)).toNat by omega]
  refine Nat.le_trans h4 ?_
  rw [← Nat.pow_add]
  exact Nat.pow_le_pow_right (by decide) (by omega)

/-- what an angle is less its whole turns -/
def restF (y : Nat) : Nat := fSub .f64 y (fMul .f64 4618760256179416344 (fRound .even (fDiv .f64 y 4618760256179416344)))
theorem rest_ok {y : Nat} (h : pw .f64 y 128) : pw .f64 (restF y) 127 ∧ (fEq .f64 (restF y) 0 = true → restF y = 0) := by
  obtain ⟨s, m, i, hd, hl⟩ := h
  obtain ⟨hm53, hi1, _⟩ := double_read hd
  by_cases hi : i ≤ 67
  · have hl120 : le2 m i 120 := le2_of i (Int.le_refl _) (by omega) (by
      rw [show (i - i).toNat = 0 by omega, Nat.pow_zero, Nat.mul_one]
      exact Nat.le_trans (Nat.le_of_lt hm53) (Nat.pow_le_pow_right (by decide) (by omega)))
    obtain ⟨K, l, d2, l2⟩ := turns_small hd hl120
    obtain ⟨B, hB⟩ : ∃ B, B = min (min i l) 120 := ⟨_, rfl⟩
    have g1 := hl120 B (by omega) (by omega)
    have g2 := l2 B (by omega) (by omega)
    have hs : ((m * 2 ^ (i - B).toNat : Nat) - (K * 2 ^ (l - B).toNat : Nat) : Int).natAbs ≤ 2 ^ (123 - B).toNat := by
      have a1 : 2 ^ (120 - B).toNat ≤ 2 ^ (122 - B).toNat := Nat.pow_le_pow_right (by decide) (by omega)
      have a2 : 2 ^ (123 - B).toNat = 2 ^ (122 - B).toNat + 2 ^ (122 - B).toNat := by
        rw [show (123 - B).toNat = (122 - B).toNat + 1 by omega, Nat.pow_succ, Nat.mul_comm, Nat.two_mul]
      rw [a2]
      generalize m * 2 ^ (i - B).toNat = u at *
      generalize K * 2 ^ (l - B).toNat = v at *
      generalize 2 ^ (122 - B).toNat = w at *
      generalize 2 ^ (120 - B).toNat = z at *
      omega
    obtain ⟨r1, r2⟩ := sub_pw (t := 123) (B := B) hd d2 (by omega) (by omega) (by omega) hs (by decide) (by decide)
    exact ⟨pw_up r1 (by decide), r2⟩
  · have hm52 := double_norm hd (by omega)
    have hm0 : m ≠ 0 := fun z => by rw [z] at hm52; exact absurd hm52 (by decide)
    have htop := le2_top hm0 hl
    have hlog : 52 ≤ m.log2 := (Nat.le_log2 hm0).2 hm52
    obtain ⟨r1, r2⟩ := wrap_great hd (by omega) (by omega)
    exact ⟨pw_up r1 (by omega), r2⟩
end Go.Proofs.YtnndahnmlmgenaaGreat
