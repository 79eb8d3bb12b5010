/- Functions of the program and of the reference in plain terms. -/
import Derived.Test.YtnndahnmlmgenaaGreatP23
namespace Go.Proofs.YtnndahnmlmgenaaGreat
open Go Go.Tm
set_option linter.unusedVariables false
set_option linter.unusedSimpArgs false
set_option linter.unusedSectionVars false
/-! ### the operations on the grid -/
theorem GAt.both {k : FloatKind} {x : Nat} {A B C D : Int} (h : inG k x A B) (h' : inG k x C D) : inG k x (max A C) (min B D) := by
  obtain ⟨s, m, p, hd, hg⟩ := h
  obtain ⟨s', m', p', hd', hg'⟩ := h'
  rw [hd] at hd'
  cases hd'
  refine ⟨s, m, p, hd, fun b b1 b2 => ?_⟩
  have g1 := hg b b1 b2
  have g2 := hg' b b1 b2
  constructor
  · rcases Int.le_total A C with h | h
    · rw [Int.max_eq_right h]; exact g2.1
    · rw [Int.max_eq_left h]; exact g1.1
  · rcases Int.le_total B D with h | h
    · rw [Int.min_eq_left h]; exact g1.2
    · rw [Int.min_eq_right h]; exact g2.2
theorem signed_not (s : Bool) (m u : Nat) : Ieee.signed (!s) m u = -Ieee.signed s m u := by
  rw [signed_eq, signed_eq]; cases s <;> simp
theorem GAt.neg {s : Bool} {m : Nat} {p A B : Int} (h : GAt s m p A B) : GAt (!s) m p (-B) (-A) := fun b b1 b2 => by
  have g := h b b1 b2
  rw [signed_not, Int.neg_mul, Int.neg_mul]
  omega
theorem signed_total (t : Int) (z : Bool) (u : Nat) : Ieee.signed (if t = 0 then z else decide (t < 0)) t.natAbs u = t * 2 ^ u := by
  rw [signed_eq]
  by_cases h : t = 0
  · rw [if_pos h, h]; simp
  · rw [if_neg h]
    by_cases h2 : t < 0
    · rw [decide_eq_true h2, cond_true, Int.natCast_mul, show ((t.natAbs : Nat) : Int) = -t by omega]
      simp [Int.neg_mul]
    · rw [decide_eq_false h2, cond_false, Int.natCast_mul, show ((t.natAbs : Nat) : Int) = t by omega]
      simp
theorem GAt.sum {s t : Bool} {m n : Nat} {p q A B C D : Int} (h : GAt s m p A B) (h' : GAt t n q C D) (z : Bool) :
    GAt (if Ieee.signed s m (p - min p q).toNat + Ieee.signed t n (q - min p q).toNat = 0 then z else decide (Ieee.signed s m (p - min p q).toNat + Ieee.signed t n (q - min p q).toNat < 0)) (Ieee.signed s m (p - min p q).toNat + Ieee.signed t n (q - min p q).toNat).natAbs (min p q) (A + C) (B + D) := by
  intro b b1 b2
  have e1 : Ieee.signed s m (p - b).toNat = Ieee.signed s m (p - min p q).toNat * 2 ^ (min p q - b).toNat := by rw [← signed_up]; congr 1; omega
  have e2 : Ieee.signed t n (q - b).toNat = Ieee.signed t n (q - min p q).toNat * 2 ^ (min p q - b).toNat := by rw [← signed_up]; congr 1; omega
  have e3 := signed_total (Ieee.signed s m (p - min p q).toNat + Ieee.signed t n (q - min p q).toNat) z (min p q - b).toNat
  rw [Int.add_mul, ← e1, ← e2] at e3
  rw [e3, Int.add_mul, Int.add_mul]
  have g1 := h b (by omega) b2
  have g2 := h' b (by omega) b2
  omega
theorem inG.add {k : FloatKind} {a b : Nat} {A B C D : Int} (T E : Nat) (h : inG k a A B) (h' : inG k b C D) (h1 : -2 ^ (40 + T) ≤ A + C) (h2 : B + D ≤ 2 ^ (40 + T)) (hE : (T : Int) - k.format.fractionBits ≤ -40 + E) (hT : T ≤ 100) : inG k (fAdd k a b) (A + C - 2 ^ E) (B + D + 2 ^ E) := by
  obtain ⟨s, m, p, hd, hg⟩ := h
  obtain ⟨t, n, q, hd', hg'⟩ := h'
  have e : fAdd k a b = canon k (k.encode (.number (if Ieee.signed s m (p - min p q).toNat + Ieee.signed t n (q - min p q).toNat = 0 then s && t else decide (Ieee.signed s m (p - min p q).toNat + Ieee.signed t n (q - min p q).toNat < 0)) (Ieee.signed s m (p - min p q).toNat + Ieee.signed t n (q - min p q).toNat).natAbs (min p q))) := by
    unfold fAdd Ieee.Format.add
    rw [show k.format.read a = .number s m p from hd, show k.format.read b = .number t n q from hd']
    rfl
  rw [e]
  exact rnd k T E (hg.sum hg' _) h1 h2 hE hT
theorem inG.sub {k : FloatKind} {a b : Nat} {A B C D : Int} (T E : Nat) (h : inG k a A B) (h' : inG k b C D) (h1 : -2 ^ (40 + T) ≤ A - D) (h2 : B - C ≤ 2 ^ (40 + T)) (hE : (T : Int) - k.format.fractionBits ≤ -40 + E) (hT : T ≤ 100) : inG k (fSub k a b) (A - D - 2 ^ E) (B - C + 2 ^ E) := by
  obtain ⟨s, m, p, hd, hg⟩ := h
  obtain ⟨t, n, q, hd', hg'⟩ := h'
  have e : fSub k a b = canon k (k.encode (.number (if Ieee.signed s m (p - min p q).toNat + Ieee.signed (!t) n (q - min p q).toNat = 0 then s && !t else decide (Ieee.signed s m (p - min p q).toNat + Ieee.signed (!t) n (q - min p q).toNat < 0)) (Ieee.signed s m (p - min p q).toNat + Ieee.signed (!t) n (q - min p q).toNat).natAbs (min p q))) := by
    unfold fSub Ieee.Format.sub
    rw [show k.format.read a = .number s m p from hd, show k.format.read b = .number t n q from hd']
    rfl
  rw [e]
  have := rnd k T E ((hg.sum hg'.neg (s && !t)).mono (A' := A - D) (B' := B - C) (by omega) (by omega)) h1 h2 hE hT
  exact this
theorem mul_corner {A B C D L x y : Int} (h1 : A ≤ x) (h2 : x ≤ B) (h3 : C ≤ y) (h4 : y ≤ D) (a1 : L ≤ A * C) (a2 : L ≤ A * D) (a3 : L ≤ B * C) (a4 : L ≤ B * D) : L ≤ x * y := by
  have key : ∀ Z : Int, L ≤ Z * C → L ≤ Z * D → L ≤ Z * y := fun Z z1 z2 => by
    rcases Int.le_total 0 Z with h | h
    · exact Int.le_trans z1 (Int.mul_le_mul_of_nonneg_left h3 h)
    · exact Int.le_trans z2 (Int.mul_le_mul_of_nonpos_left h h4)
  rcases Int.le_total 0 y with h | h
  · exact Int.le_trans (key A a1 a2) (Int.mul_le_mul_of_nonneg_right h1 h)
  · exact Int.le_trans (key B a3 a4) (Int.mul_le_mul_of_nonpos_right h2 h)
theorem signed_mul (s t : Bool) (m n u v : Nat) : Ieee.signed (s ^^ t) (m * n) (u + v) = Ieee.signed s m u * Ieee.signed t n v := by
  rw [signed_eq, signed_eq, signed_eq, Nat.pow_add, Nat.mul_mul_mul_comm, Int.natCast_mul (m * 2 ^ u)]
  cases s <;> cases t <;> simp [Int.neg_mul, Int.mul_neg]
theorem GAt.prod {s t : Bool} {m n : Nat} {p q A B C D L H : Int} (h : GAt s m p A B) (h' : GAt t n q C D) (a1 : L * 2 ^ 40 ≤ A * C) (a2 : L * 2 ^ 40 ≤ A * D) (a3 : L * 2 ^ 40 ≤ B * C) (a4 : L * 2 ^ 40 ≤ B * D)
    (c1 : A * C ≤ H * 2 ^ 40) (c2 : A * D ≤ H * 2 ^ 40) (c3 : B * C ≤ H * 2 ^ 40) (c4 : B * D ≤ H * 2 ^ 40) : GAt (s ^^ t) (m * n) (p + q) L H := by
  refine GAt.of (min p (-40) + min q (-40)) (by omega) (by omega) ?_
  have g1 := h (min p (-40)) (by omega) (by omega)
  have g2 := h' (min q (-40)) (by omega) (by omega)
  rw [show (p + q - (min p (-40) + min q (-40))).toNat = (p - min p (-40)).toNat + (q - min q (-40)).toNat by omega, signed_mul]
  rw [show (-40 - (min p (-40) + min q (-40))).toNat = 40 + (-40 - min p (-40)).toNat + (-40 - min q (-40)).toNat by omega, Int.pow_add, Int.pow_add]
  generalize Ieee.signed s m (p - min p (-40)).toNat = x at *
  generalize Ieee.signed t n (q - min q (-40)).toNat = y at *
  have pu := p2_pos (-40 - min p (-40)).toNat
  have pv := p2_pos (-40 - min q (-40)).toNat
  generalize (2 : Int) ^ (-40 - min p (-40)).toNat = u at *
  generalize (2 : Int) ^ (-40 - min q (-40)).toNat = v at *
  have puv : 0 ≤ u * v := Int.le_of_lt (Int.mul_pos pu pv)
  have up : ∀ X Y Z : Int, X ≤ Y * Z → X * (u * v) ≤ Y * u * (Z * v) := fun X Y Z h => by
    have := Int.mul_le_mul_of_nonneg_right h puv
    rw [show Y * u * (Z * v) = Y * Z * (u * v) by rw [Int.mul_assoc, Int.mul_assoc]; congr 1; rw [← Int.mul_assoc, ← Int.mul_assoc, Int.mul_comm u Z]]
    exact this
  have dn : ∀ X Y Z : Int, Y * Z ≤ X → Y * u * (Z * v) ≤ X * (u * v) := fun X Y Z h => by
    have := Int.mul_le_mul_of_nonneg_right h puv
    rw [show Y * u * (Z * v) = Y * Z * (u * v) by rw [Int.mul_assoc, Int.mul_assoc]; congr 1; rw [← Int.mul_assoc, ← Int.mul_assoc, Int.mul_comm u Z]]
    exact this
  have eL : ∀ X : Int, X * (2 ^ 40 * u * v) = X * 2 ^ 40 * (u * v) := fun X => by rw [Int.mul_assoc (2 ^ 40), Int.mul_assoc]
  rw [eL, eL]
  constructor
  · exact mul_corner g1.1 g1.2 g2.1 g2.2 (up _ _ _ a1) (up _ _ _ a2) (up _ _ _ a3) (up _ _ _ a4)
  · have key : -(H * 2 ^ 40 * (u * v)) ≤ (-x) * y := by
      have n : ∀ Y Z : Int, Y * Z ≤ H * 2 ^ 40 → -(H * 2 ^ 40 * (u * v)) ≤ -(Y * u) * (Z * v) := fun Y Z h => by
        rw [Int.neg_mul]
        exact Int.neg_le_neg (dn _ _ _ h)
      exact mul_corner (A := -(B * u)) (B := -(A * u)) (by omega) (by omega) g2.1 g2.2 (n _ _ c3) (n _ _ c4) (n _ _ c1) (n _ _ c2)
    rw [Int.neg_mul] at key
    omega
theorem inG.mul {k : FloatKind} {a b : Nat} {A B C D : Int} (T E : Nat) (L H : Int) (h : inG k a A B) (h' : inG k b C D) (a1 : L * 2 ^ 40 ≤ A * C) (a2 : L * 2 ^ 40 ≤ A * D) (a3 : L * 2 ^ 40 ≤ B * C) (a4 : L * 2 ^ 40 ≤ B * D)
    (c1 : A * C ≤ H * 2 ^ 40) (c2 : A * D ≤ H * 2 ^ 40) (c3 : B * C ≤ H * 2 ^ 40) (c4 : B * D ≤ H * 2 ^ 40) (h1 : -2 ^ (40 + T) ≤ L) (h2 : H ≤ 2 ^ (40 + T)) (hE : (T : Int) - k.format.fractionBits ≤ -40 + E) (hT : T ≤ 100) : inG k (fMul k a b) (L - 2 ^ E) (H + 2 ^ E) := by
  obtain ⟨s, m, p, hd, hg⟩ := h
  obtain ⟨t, n, q, hd', hg'⟩ := h'
  have e : fMul k a b = canon k (k.encode (.number (s ^^ t) (m * n) (p + q))) := by
    unfold fMul Ieee.Format.mul
    rw [show k.format.read a = .number s m p from hd, show k.format.read b = .number t n q from hd']
    rfl
  rw [e]
  exact rnd k T E (hg.prod hg' a1 a2 a3 a4 c1 c2 c3 c4) h1 h2 hE hT
end Go.Proofs.YtnndahnmlmgenaaGreat
