/- Functions of the program and of the reference in plain terms. -/
import Derived.Test.YtnndahnmlmgenaaGreatP31
namespace Go.Proofs.YtnndahnmlmgenaaGreat
open Go Go.Tm
set_option linter.unusedVariables false
set_option linter.unusedSimpArgs false
set_option linter.unusedSectionVars false
/-! ### how far a step leads -/
theorem and31 (x : Nat) : iAnd .u32 (x : Int) 2147483647 = ((x % 2 ^ 31 : Nat) : Int) := by
  have h : (BitVec.ofInt 32 (x : Int) &&& BitVec.ofInt 32 2147483647).toNat = x % 2 ^ 31 := by
    rw [BitVec.toNat_and, BitVec.toNat_ofInt, BitVec.toNat_ofInt]
    have e1 : ((x : Int) % ((2 ^ 32 : Nat) : Int)).toNat = x % 2 ^ 32 := by omega
    have e2 : ((2147483647 : Int) % ((2 ^ 32 : Nat) : Int)).toNat = 2 ^ 31 - 1 := by decide
    rw [e1, e2, Nat.and_two_pow_sub_one_eq_mod]
    omega
  show IntKind.wrap .u32 (((BitVec.ofInt 32 (x : Int) &&& BitVec.ofInt 32 2147483647).toNat : Nat) : Int) = _
  rw [h]
  simp [IntKind.wrap, IntKind.signed, IntKind.bits]
  omega
theorem size_ok {x : Nat} {A B : Int} (h : inG .f32 x A B) : ∃ y : Nat, spec_SizeOf x = some ((y, ()), ()) ∧ inG .f32 y 0 (max B (-A)) := by
  obtain ⟨s, m, p, hd, hg⟩ := h
  have hd1 : FloatKind.f32.format.read x = .number s m p := hd
  have hr : FloatKind.f32.format.read (x % 2 ^ 31) = .number false m p := by
    have hs : FloatKind.f32.format.signWeight = 2 ^ 31 := rfl
    have z : (x % 2 ^ 31 / 2 ^ 31 % 2 == 1) = false := by
      rw [Nat.div_eq_of_lt (Nat.mod_lt _ (by decide))]; rfl
    unfold Ieee.Format.read at hd1 ⊢
    simp only [hs, Nat.mod_mod, z] at hd1 ⊢
    split at hd1
    · rename_i h; rw [if_pos h]; cases hd1; rfl
    · rename_i h
      rw [if_neg h]
      split at hd1
      · rename_i h2; rw [if_pos h2]; cases hd1; rfl
      · split at hd1 <;> cases hd1
  have hn : isNan .f32 x = false := by rw [isNan_eq, hd1]; rfl
  have hn2 : isNan .f32 (x % 2 ^ 31) = false := by rw [isNan_eq, hr]; rfl
  have ha : spec_l01Abs x = some ((x % 2 ^ 31, ()), ()) := by
    unfold spec_l01Abs
    refine allSame_of fun q => ?_
    rw [bits_num hn]
    have e := and31 x
    have e' : math_Float32frombits (iAnd .u32 ((x : Nat) : Int) 2147483647) = some ((x % 2 ^ 31, ()), ()) := by
      rw [e]
      unfold math_Float32frombits
      rw [Int.toNat_natCast, canon_of_num hn2]
    rw [e']
    rfl
  refine ⟨x % 2 ^ 31, by unfold spec_SizeOf; rw [ha]; rfl, false, m, p, hr, fun b b1 b2 => ?_⟩
  have hb := hg b b1 b2
  rw [signed_eq] at hb
  rw [signed_eq, cond_false, Int.one_mul, Int.zero_mul]
  refine ⟨Int.natCast_nonneg _, ?_⟩
  have pu := p2_pos (-40 - b).toNat
  cases s with
  | false =>
    rw [cond_false, Int.one_mul] at hb
    exact Int.le_trans hb.2 (Int.mul_le_mul_of_nonneg_right (by omega) (Int.le_of_lt pu))
  | true =>
    rw [cond_true, Int.neg_mul, Int.one_mul] at hb
    have : -A * 2 ^ (-40 - b).toNat ≤ max B (-A) * 2 ^ (-40 - b).toNat := Int.mul_le_mul_of_nonneg_right (by omega) (Int.le_of_lt pu)
    rw [Int.neg_mul] at this
    omega
theorem g_thou : inG .f32 981668463 1099511680 1099511680 := ⟨false, 8589935, -33, by decide, GAt.of (-40) (by decide) (by decide) (by decide)⟩
theorem near_ok {d g : Nat} {A B C D : Int} (h : inG .f32 d A B) (h' : inG .f32 g C D) (h1 : -1099380000 ≤ A - D) (h2 : B - C ≤ 1099380000) : laws_f6near d g 981668463 = some ((true, ()), ()) := by
  have hs := h.sub 0 17 h' (by omega) (by omega) (by decide) (by decide)
  obtain ⟨y, e, hy⟩ := size_ok hs
  have hle := fLe_true hy g_thou (by
    have : (2 : Int) ^ 17 = 131072 := by decide
    omega)
  unfold laws_f6near
  rw [e]
  simp only [Option.bind_some, hle]
theorem g_zero : inG .f32 0 0 0 := ⟨false, 0, -149, by decide, fun b _ _ => by rw [signed_zero, Int.zero_mul]; exact ⟨Int.le_refl _, Int.le_refl _⟩⟩
theorem zero_part {s : Nat} {S : Int} (h : inG .f32 s S (S + 1)) : inG .f32 (fMul .f32 s 0) (-2 ^ 17) (2 ^ 17) := by
  have := h.mul 0 17 0 0 g_zero (by omega) (by omega) (by omega) (by omega) (by omega) (by omega) (by omega) (by omega) (by decide) (by decide) (by decide) (by decide)
  exact this.mono (by decide) (by decide)
theorem times_le {C n : Int} (h1 : -2 ^ 41 ≤ C) (h2 : C ≤ 2 ^ 41) (n1 : 0 ≤ n) (n2 : n ≤ 8) : -2 ^ 44 ≤ C * n ∧ C * n ≤ 2 ^ 44 := by
  have a1 := Int.mul_le_mul_of_nonneg_right h1 n1
  have a2 := Int.mul_le_mul_of_nonneg_right h2 n1
  omega
theorem one_part {c g : Nat} {C n : Int} (h : inG .f32 c C (C + 1)) (h' : inG .f32 g (n * 2 ^ 37) (n * 2 ^ 37)) (h1 : -2 ^ 41 ≤ C) (h2 : C ≤ 2 ^ 41) (n1 : 0 ≤ n) (n2 : n ≤ 8) : inG .f32 (fMul .f32 c g) (C * n / 8 - 2 ^ 19) (C * n / 8 + 2 + 2 ^ 19) := by
  have hb := times_le h1 h2 n1 n2
  have e1 : C * (n * 2 ^ 37) = C * n * 2 ^ 37 := by rw [Int.mul_assoc]
  have e2 : (C + 1) * (n * 2 ^ 37) = C * n * 2 ^ 37 + n * 2 ^ 37 := by rw [Int.add_mul, Int.one_mul, e1]
  generalize C * n = X at *
  exact h.mul 2 19 (X / 8) (X / 8 + 2) h' (by omega) (by omega) (by omega) (by omega) (by omega) (by omega) (by omega) (by omega) (by omega) (by omega) (by decide) (by decide)
theorem moved {u p : Nat} {X P e : Int} (h : inG .f32 u (X - e) (X + e)) (hp : inG .f32 p P P) (h1 : -2 ^ 42 ≤ P) (h2 : P ≤ 2 ^ 42) (x1 : -2 ^ 41 ≤ X) (x2 : X ≤ 2 ^ 41) (e2 : e ≤ 2 ^ 22) : inG .f32 (fSub .f32 (fAdd .f32 p u) p) (X - e - 2 ^ 21) (X + e + 2 ^ 21) := by
  have a := hp.add 3 20 h (by omega) (by omega) (by decide) (by decide)
  have b := a.sub 2 19 hp (by omega) (by omega) (by decide) (by decide)
  exact b.mono (by omega) (by omega)
theorem sq_part {v : Nat} {X : Int} (h : inG .f32 v (X - 2 ^ 23) (X + 2 ^ 23)) (x1 : -2 ^ 41 ≤ X) (x2 : X ≤ 2 ^ 41) : inG .f32 (fMul .f32 v v) (X * X / 2 ^ 40 - 2 ^ 26) (X * X / 2 ^ 40 + 2 ^ 26) := by
  have hx : X * X ≤ 2 ^ 82 := by
    have : 0 ≤ (2 ^ 41 - X) * (2 ^ 41 + X) := Int.mul_nonneg (by omega) (by omega)
    rw [Int.sub_mul, Int.mul_add, Int.mul_add] at this
    omega
  have hx0 : 0 ≤ X * X := by
    rcases Int.le_total 0 X with q | q
    · exact Int.mul_nonneg q q
    · rw [← Int.neg_mul_neg X X]; exact Int.mul_nonneg (by omega) (by omega)
  have e1 : (X - 2 ^ 23) * (X - 2 ^ 23) = X * X - 2 * 2 ^ 23 * X + 2 ^ 46 := by rw [Int.sub_mul, Int.mul_sub, Int.mul_sub]; omega
  have e2 : (X - 2 ^ 23) * (X + 2 ^ 23) = X * X - 2 ^ 46 := by rw [Int.sub_mul, Int.mul_add, Int.mul_add]; omega
  have e3 : (X + 2 ^ 23) * (X - 2 ^ 23) = X * X - 2 ^ 46 := by rw [Int.add_mul, Int.mul_sub, Int.mul_sub]; omega
  have e4 : (X + 2 ^ 23) * (X + 2 ^ 23) = X * X + 2 * 2 ^ 23 * X + 2 ^ 46 := by rw [Int.add_mul, Int.mul_add, Int.mul_add]; omega
  generalize X * X = XX at *
  have := h.mul 3 20 (XX / 2 ^ 40 - 2 ^ 25 - 1) (XX / 2 ^ 40 + 2 ^ 25 + 2 ^ 7) h (by rw [e1]; omega) (by rw [e2]; omega) (by rw [e3]; omega) (by rw [e4]; omega) (by rw [e1]; omega) (by rw [e2]; omega) (by rw [e3]; omega) (by rw [e4]; omega) (by omega) (by omega) (by decide) (by decide)
  exact this.mono (by omega) (by omega)
end Go.Proofs.YtnndahnmlmgenaaGreat
