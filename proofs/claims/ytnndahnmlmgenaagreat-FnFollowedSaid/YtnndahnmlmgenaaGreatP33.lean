/- Functions of the program and of the reference in plain terms. -/
import Derived.Test.YtnndahnmlmgenaaGreatP32
namespace Go.Proofs.YtnndahnmlmgenaaGreat
open Go Go.Tm
set_option linter.unusedVariables false
set_option linter.unusedSimpArgs false
set_option linter.unusedSectionVars false
theorem int_mul4 (a b c d : Int) : a * b * (c * d) = a * c * (b * d) := by
  rw [Int.mul_assoc, Int.mul_assoc]
  congr 1
  rw [← Int.mul_assoc, ← Int.mul_assoc, Int.mul_comm b c]
theorem fl_sq {C n X : Int} (hX : X = C * n / 8) (h1 : -2 ^ 41 ≤ X) (h2 : X ≤ 2 ^ 41) : -2 ^ 49 ≤ 64 * (X * X) - C * n * (C * n) ∧ 64 * (X * X) - C * n * (C * n) ≤ 2 ^ 49 := by
  generalize C * n = D at *
  obtain ⟨r, hr⟩ : ∃ r, r = D - 8 * X := ⟨_, rfl⟩
  have hD : D = 8 * X + r := by omega
  have hr0 : r = 0 ∨ r = 1 ∨ r = 2 ∨ r = 3 ∨ r = 4 ∨ r = 5 ∨ r = 6 ∨ r = 7 := by omega
  have e : D * D = 64 * (X * X) + 16 * (X * r) + r * r := by
    rw [hD, Int.add_mul, Int.mul_add, Int.mul_add, Int.mul_comm r (8 * X), Int.mul_assoc 8 X r, int_mul4]
    omega
  rw [e]
  generalize X * X = XX
  rcases hr0 with z | z | z | z | z | z | z | z <;> subst z <;> omega
theorem sq_le_of {C : Int} (h : C * C ≤ 2 ^ 82) : -2 ^ 41 ≤ C ∧ C ≤ 2 ^ 41 := by
  constructor
  · have := le_of_sq (a := -C) (b := 2 ^ 41) (by decide) (by rw [Int.neg_mul_neg]; exact h)
    omega
  · exact le_of_sq (by decide) h
theorem sq_nonneg' (C : Int) : 0 ≤ C * C := by
  rcases Int.le_total 0 C with q | q
  · exact Int.mul_nonneg q q
  · rw [← Int.neg_mul_neg C C]; exact Int.mul_nonneg (by omega) (by omega)
theorem dot_ok (a b c : Nat) : impl_DotVec ((a, b, c, ()) : Vec 3 Nat) ((a, b, c, ()) : Vec 3 Nat) = some ((fAdd .f32 (fAdd .f32 (fMul .f32 a a) (fMul .f32 b b)) (fMul .f32 c c), ()), ()) := by
  unfold impl_DotVec
  have : impl_sumOf ([Vec.getD 3 ((a, b, c, ()) : Vec 3 Nat) 0 (0 : Nat), Vec.getD 3 ((a, b, c, ()) : Vec 3 Nat) 1 (0 : Nat), Vec.getD 3 ((a, b, c, ()) : Vec 3 Nat) 2 (0 : Nat)] : (List Nat)) ([Vec.getD 3 ((a, b, c, ()) : Vec 3 Nat) 0 (0 : Nat), Vec.getD 3 ((a, b, c, ()) : Vec 3 Nat) 1 (0 : Nat), Vec.getD 3 ((a, b, c, ()) : Vec 3 Nat) 2 (0 : Nat)] : (List Nat)) = some ((dotA (fMul .f32 a a) [b, c] [b, c], ()), ()) := sum3_3 a b c a b c
  rw [this]
  rfl
theorem bounds_n {n CC SS XX YY : Int} (n1 : 1 ≤ n) (n2 : n ≤ 8) (hC : -2 ^ 49 ≤ 64 * XX - n * n * CC ∧ 64 * XX - n * n * CC ≤ 2 ^ 49) (hS : -2 ^ 49 ≤ 64 * YY - n * n * SS ∧ 64 * YY - n * n * SS ≤ 2 ^ 49) (r1 : 2 ^ 80 ≤ SS + CC + 2 ^ 80 / 700) (r2 : SS + CC ≤ 2 ^ 80 + 2 ^ 80 / 700) :
    (n * 2 ^ 37 - 1098000000) * (n * 2 ^ 37 - 1098000000) ≤ (XX / 2 ^ 40 + YY / 2 ^ 40 - 2 ^ 27 - 2 ^ 23 - 1) * 2 ^ 40 ∧ (XX / 2 ^ 40 + YY / 2 ^ 40 + 2 ^ 27 + 2 ^ 23 + 1) * 2 ^ 40 ≤ (n * 2 ^ 37 + 1098000000) * (n * 2 ^ 37 + 1098000000) ∧ 1 ≤ XX / 2 ^ 40 + YY / 2 ^ 40 - 2 ^ 27 - 2 ^ 23 := by
  have hn : n = 1 ∨ n = 2 ∨ n = 3 ∨ n = 4 ∨ n = 5 ∨ n = 6 ∨ n = 7 ∨ n = 8 := by omega
  rcases hn with z | z | z | z | z | z | z | z <;> subst z <;> refine ⟨?_, ?_, ?_⟩ <;> omega
theorem len_ok {c s g p0 p1 : Nat} {P0 P1 n : Int} (hr : roundG s c) (hg : inG .f32 g (n * 2 ^ 37) (n * 2 ^ 37)) (h0 : inG .f32 p0 P0 P0) (h1 : inG .f32 p1 P1 P1) (a1 : -2 ^ 42 ≤ P0) (a2 : P0 ≤ 2 ^ 42) (b1 : -2 ^ 42 ≤ P1) (b2 : P1 ≤ 2 ^ 42) (n1 : 1 ≤ n) (n2 : n ≤ 8) :
    ∃ d : Nat, impl_LengthOf ((fSub .f32 (fAdd .f32 p0 (fSub .f32 (fMul .f32 c g) (fMul .f32 s 0))) p0, fSub .f32 (fAdd .f32 p1 (fAdd .f32 (fMul .f32 s g) (fMul .f32 c 0))) p1, 0, ()) : Vec 3 Nat) = some ((d, ()), ()) ∧ laws_f6near d g 981668463 = some ((true, ()), ()) := by
  obtain ⟨S, C, hs, hc, r1, r2⟩ := hr
  have nS := sq_nonneg' S
  have nC := sq_nonneg' C
  obtain ⟨c1, c2⟩ := sq_le_of (C := C) (by omega)
  obtain ⟨s1, s2⟩ := sq_le_of (C := S) (by omega)
  have zs := zero_part hs
  have zc := zero_part hc
  have mc := one_part hc hg c1 c2 (by omega) n2
  have ms := one_part hs hg s1 s2 (by omega) n2
  have tc := times_le c1 c2 (n := n) (by omega) n2
  have ts := times_le s1 s2 (n := n) (by omega) n2
  obtain ⟨X, hX⟩ : ∃ X, X = C * n / 8 := ⟨_, rfl⟩
  obtain ⟨Y, hY⟩ : ∃ Y, Y = S * n / 8 := ⟨_, rfl⟩
  rw [← hX] at mc
  rw [← hY] at ms
  have x1 : -2 ^ 41 ≤ X := by omega
  have x2 : X ≤ 2 ^ 41 := by omega
  have y1 : -2 ^ 41 ≤ Y := by omega
  have y2 : Y ≤ 2 ^ 41 := by omega
  have ux := (mc.sub 2 19 zs (by omega) (by omega) (by decide) (by decide)).mono (A' := X - 2 ^ 21) (B' := X + 2 ^ 21) (by omega) (by omega)
  have uy := (ms.add 2 19 zc (by omega) (by omega) (by decide) (by decide)).mono (A' := Y - 2 ^ 21) (B' := Y + 2 ^ 21) (by omega) (by omega)
  have vx := (moved ux h0 a1 a2 x1 x2 (by decide)).mono (A' := X - 2 ^ 23) (B' := X + 2 ^ 23) (by omega) (by omega)
  have vy := (moved uy h1 b1 b2 y1 y2 (by decide)).mono (A' := Y - 2 ^ 23) (B' := Y + 2 ^ 23) (by omega) (by omega)
  generalize fSub .f32 (fAdd .f32 p0 (fSub .f32 (fMul .f32 c g) (fMul .f32 s 0))) p0 = dx at *
  generalize fSub .f32 (fAdd .f32 p1 (fAdd .f32 (fMul .f32 s g) (fMul .f32 c 0))) p1 = dy at *
  have qx := sq_part vx x1 x2
  have qy := sq_part vy y1 y2
  have fx := fl_sq hX x1 x2
  have fy := fl_sq hY y1 y2
  have ex : C * n * (C * n) = n * n * (C * C) := by rw [int_mul4, Int.mul_comm]
  have ey : S * n * (S * n) = n * n * (S * S) := by rw [int_mul4, Int.mul_comm]
  rw [ex] at fx
  rw [ey] at fy
  have nX := sq_nonneg' X
  have nY := sq_nonneg' Y
  have kX : X * X ≤ 2 ^ 82 := by
    have : 0 ≤ (2 ^ 41 - X) * (2 ^ 41 + X) := Int.mul_nonneg (by omega) (by omega)
    rw [Int.sub_mul, Int.mul_add, Int.mul_add] at this
    omega
  have kY : Y * Y ≤ 2 ^ 82 := by
    have : 0 ≤ (2 ^ 41 - Y) * (2 ^ 41 + Y) := Int.mul_nonneg (by omega) (by omega)
    rw [Int.sub_mul, Int.mul_add, Int.mul_add] at this
    omega
  obtain ⟨k0, k1, k2⟩ := bounds_n n1 n2 fx fy r1 r2
  generalize X * X = XX at *
  generalize Y * Y = YY at *
  have z0 : inG .f32 (fMul .f32 0 0) (-2 ^ 17) (2 ^ 17) := zero_part (S := 0) (g_zero.mono (by decide) (by decide))
  have w1 := qx.add 4 21 qy (by omega) (by omega) (by decide) (by decide)
  have w2 := (w1.add 4 21 z0 (by omega) (by omega) (by decide) (by decide)).mono (A' := XX / 2 ^ 40 + YY / 2 ^ 40 - 2 ^ 27 - 2 ^ 23) (B' := XX / 2 ^ 40 + YY / 2 ^ 40 + 2 ^ 27 + 2 ^ 23) (by omega) (by omega)
  obtain ⟨d, hd, gd⟩ := root_ok w2 k2 (by omega) (R0 := n * 2 ^ 37 - 1098000000) (R1 := n * 2 ^ 37 + 1098000000) (by omega) (by omega) k0 k1 (by omega) 1 18 (by omega) (by decide) (by decide)
  refine ⟨d, ?_, near_ok gd hg (by omega) (by omega)⟩
  unfold impl_LengthOf
  rw [dot_ok]
  simp only [Option.bind_some]
  rw [hd]
  rfl
theorem zero_mul' {c : Nat} {A B : Int} (h : inG .f32 c A B) : fMul .f32 c 0 = 0 ∨ fMul .f32 c 0 = 2147483648 := by
  obtain ⟨s, m, p, hd, -⟩ := h
  have e : fMul .f32 c 0 = canon .f32 (FloatKind.f32.encode (.number s 0 (p + -149))) := by
    unfold fMul Ieee.Format.mul
    rw [show FloatKind.f32.format.read c = .number s m p from hd, show FloatKind.f32.format.read 0 = .number false 0 (-149) from by decide]
    simp only [Ieee.Datum.product, Option.map_some, orNan, Bool.xor_false, Nat.mul_zero]
    rfl
  have hn : isNan .f32 (FloatKind.f32.encode (.number s 0 (p + -149))) = false := write_nan rfl
  rw [e, canon_of_num hn]
  have e2 : FloatKind.f32.encode (.number s 0 (p + -149)) = FloatKind.f32.format.word s 0 := by
    show FloatKind.f32.format.nearest s 0 (p + -149) = _
    rw [nearest_rungOf]
    have : rungOf FloatKind.f32.format 0 (p + -149) = 0 := by unfold rungOf; rw [if_pos rfl]
    rw [this]
  rw [e2]
  cases s
  · exact .inl (by decide)
  · exact .inr (by decide)
def quarters (k : Nat) : Nat := fDiv .f32 (fOfInt .f32 (iSub .i64 (k : Int) 16)) 1082130432
def stayB (k : Nat) : Bool := [0, 2147483648].all fun z => [0, 2147483648].all fun w => fSub .f32 (fAdd .f32 (quarters k) (fSub .f32 z w)) (quarters k) == 0 && fSub .f32 (fAdd .f32 (quarters k) (fAdd .f32 z w)) (quarters k) == 0
theorem stay_all : (List.range 33).all stayB = true := by decide +kernel
theorem stay_ok {k z w : Nat} (hk : k < 33) (hz : z = 0 ∨ z = 2147483648) (hw : w = 0 ∨ w = 2147483648) : fSub .f32 (fAdd .f32 (quarters k) (fSub .f32 z w)) (quarters k) = 0 ∧ fSub .f32 (fAdd .f32 (quarters k) (fAdd .f32 z w)) (quarters k) = 0 := by
  have h := List.all_eq_true.1 stay_all k (List.mem_range.2 hk)
  have h1 := List.all_eq_true.1 h z (by rcases hz with e | e <;> simp [e])
  have h2 := List.all_eq_true.1 h1 w (by rcases hw with e | e <;> simp [e])
  obtain ⟨a, b⟩ := Bool.and_eq_true_iff.1 h2
  exact ⟨beq_iff_eq.1 a, beq_iff_eq.1 b⟩
theorem len_zero {c s : Nat} {i j : Nat} (hr : roundG s c) (hi : i < 33) (hj : j < 33) :
    ∃ d : Nat, impl_LengthOf ((fSub .f32 (fAdd .f32 (quarters i) (fSub .f32 (fMul .f32 c 0) (fMul .f32 s 0))) (quarters i), fSub .f32 (fAdd .f32 (quarters j) (fAdd .f32 (fMul .f32 s 0) (fMul .f32 c 0))) (quarters j), 0, ()) : Vec 3 Nat) = some ((d, ()), ()) ∧ laws_f6near d 0 981668463 = some ((true, ()), ()) := by
  obtain ⟨S, C, hs, hc, -, -⟩ := hr
  have zs := zero_mul' hs
  have zc := zero_mul' hc
  rw [(stay_ok hi zc zs).1, (stay_ok hj zs zc).2]
  refine ⟨0, ?_, near_ok g_zero g_zero (by decide) (by decide)⟩
  unfold impl_LengthOf
  rw [dot_ok]
  simp only [Option.bind_some]
  have : fAdd .f32 (fAdd .f32 (fMul .f32 0 0) (fMul .f32 0 0)) (fMul .f32 0 0) = 0 := by decide
  have hr : impl_root 0 = some ((0, ()), ()) := by kernel_rfl
  rw [this, hr]
  rfl
end Go.Proofs.YtnndahnmlmgenaaGreat
