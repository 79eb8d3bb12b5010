/- Functions of the program and of the reference in plain terms. -/
import Derived.Test.YtnndahnmlmgenaaGreatP25
namespace Go.Proofs.YtnndahnmlmgenaaGreat
open Go Go.Tm
set_option linter.unusedVariables false
set_option linter.unusedSimpArgs false
set_option linter.unusedSectionVars false
theorem GAt.le2 {s : Bool} {m : Nat} {p A B : Int} (h : GAt s m p A B) (T : Nat) (hA : -2 ^ (40 + T) ≤ A) (hB : B ≤ 2 ^ (40 + T)) : le2 m p T := by
  refine le2_of (min p (-40)) (by omega) (by omega) ?_
  have hb := h (min p (-40)) (by omega) (by omega)
  have ha := abs_signed s m (p - min p (-40)).toNat
  have pp := p2_pos (-40 - min p (-40)).toNat
  have e : (2 : Int) ^ (T - min p (-40)).toNat = 2 ^ (40 + T) * 2 ^ (-40 - min p (-40)).toNat := by rw [← Int.pow_add]; congr 1; omega
  have g1 := Int.mul_le_mul_of_nonneg_right hA (Int.le_of_lt pp)
  have g2 := Int.mul_le_mul_of_nonneg_right hB (Int.le_of_lt pp)
  rw [Int.neg_mul, ← e] at g1
  rw [← e] at g2
  have e5 : (((2 : Nat) ^ (T - min p (-40)).toNat : Nat) : Int) = 2 ^ (T - min p (-40)).toNat := by simp
  omega
theorem rnd_pos (k : FloatKind) {s : Bool} {m : Nat} {p A B : Int} (T E : Nat) (h : GAt s m p A B) (hA : 0 ≤ A) (hB : B ≤ 2 ^ (40 + T)) (hE : (T : Int) - k.format.fractionBits ≤ -40 + E) (hT : T ≤ 100) :
    inG k (canon k (k.encode (.number s m p))) (max 0 (A - 2 ^ E)) (B + 2 ^ E) := by
  have hT0 := p2_pos (40 + T)
  obtain ⟨s1, m1, p1, hd1, hg1⟩ := rnd k T E h (by omega) hB hE hT
  refine ⟨s1, m1, p1, hd1, ?_⟩
  have hl := h.le2 T (by omega) hB
  have hnn : ∀ b : Int, 0 ≤ Ieee.signed s1 m1 (p1 - b).toNat := fun b => by
    by_cases hm : m = 0
    · subst hm
      rw [decode_write, near_zero] at hd1
      cases hd1
      rw [signed_zero]
      exact Int.le_refl _
    · cases s with
      | false =>
        obtain ⟨m', p', e1, -⟩ := pw_write (k := k) false (t := T) hl (by have : pwLo k ≤ 0 := by cases k <;> decide
                                                                          omega) (by have : 127 ≤ pwHi k := by cases k <;> decide
                                                                                     omega)
        rw [e1] at hd1
        cases hd1
        rw [signed_eq, cond_false, Int.one_mul]
        exact Int.natCast_nonneg _
      | true =>
        exfalso
        have hb := h (min p (-40)) (by omega) (by omega)
        rw [signed_eq, cond_true, Int.neg_mul, Int.one_mul] at hb
        have h1 : 0 < m * 2 ^ (p - min p (-40)).toNat := Nat.mul_pos (Nat.pos_of_ne_zero hm) (Nat.two_pow_pos _)
        have h2 := Int.mul_nonneg hA (Int.le_of_lt (p2_pos (-40 - min p (-40)).toNat))
        omega
  intro b b1 b2
  have := hg1 b b1 b2
  refine ⟨?_, this.2⟩
  rcases Int.le_total 0 (A - 2 ^ E) with z | z
  · rw [Int.max_eq_right z]; exact this.1
  · rw [Int.max_eq_left z, Int.zero_mul]; exact hnn b

theorem inG.mulP {k : FloatKind} {a b : Nat} {A B C D : Nat} (T E : Nat) (L H : Nat) (h : inG k a A B) (h' : inG k b C D) (a1 : L * 2 ^ 40 ≤ A * C) (c4 : B * D ≤ H * 2 ^ 40) (h2 : H ≤ 2 ^ (40 + T)) (hE : (T : Int) - k.format.fractionBits ≤ -40 + E) (hT : T ≤ 100) : inG k (fMul k a b) ((L - 2 ^ E : Nat) : Int) ((H + 2 ^ E : Nat) : Int) := by
  have hAB : A ≤ B := by have := h.le; omega
  have hCD : C ≤ D := by have := h'.le; omega
  obtain ⟨s, m, p, hd, hg⟩ := h
  obtain ⟨t, n, q, hd', hg'⟩ := h'
  have e : fMul k a b = canon k (k.encode (.number (s ^^ t) (m * n) (p + q))) := by
    unfold fMul Ieee.Format.mul
    rw [show k.format.read a = .number s m p from hd, show k.format.read b = .number t n q from hd']
    rfl
  rw [e]
  have n1 : A * C ≤ A * D := Nat.mul_le_mul_left _ hCD
  have n2 : A * C ≤ B * C := Nat.mul_le_mul_right _ hAB
  have n3 : A * D ≤ B * D := Nat.mul_le_mul_right _ hAB
  have n4 : B * C ≤ B * D := Nat.mul_le_mul_left _ hCD
  have cast : ∀ x y : Nat, ((x : Int) * (y : Int)) = ((x * y : Nat) : Int) := fun x y => (Int.natCast_mul x y).symm
  have := rnd_pos k T E (hg.prod hg' (L := L) (H := H) (by rw [cast]; omega) (by rw [cast]; omega) (by rw [cast]; omega) (by rw [cast]; omega) (by rw [cast]; omega) (by rw [cast]; omega) (by rw [cast]; omega) (by rw [cast]; omega)) (by omega) (by
    have := Int.ofNat_le.2 h2
    simpa using this) hE hT
  refine this.mono ?_ ?_
  · have : ((2 ^ E : Nat) : Int) = 2 ^ E := by simp
    omega
  · have : ((2 ^ E : Nat) : Int) = 2 ^ E := by simp
    omega

/-- what is left of one -/
theorem inG.restP {k : FloatKind} {a b : Nat} {C D : Nat} (E : Nat) (h : inG k a (2 ^ 40 : Nat) (2 ^ 40 : Nat)) (h' : inG k b C D) (h2 : D ≤ 2 ^ 40) (hE : (0 : Int) - k.format.fractionBits ≤ -40 + E) : inG k (fSub k a b) ((2 ^ 40 - D - 2 ^ E : Nat) : Int) ((2 ^ 40 - C + 2 ^ E : Nat) : Int) := by
  have hCD : C ≤ D := by have := h'.le; omega
  obtain ⟨s, m, p, hd, hg⟩ := h
  obtain ⟨t, n, q, hd', hg'⟩ := h'
  have e : fSub k a b = canon k (k.encode (.number (if Ieee.signed s m (p - min p q).toNat + Ieee.signed (!t) n (q - min p q).toNat = 0 then s && !t else decide (Ieee.signed s m (p - min p q).toNat + Ieee.signed (!t) n (q - min p q).toNat < 0)) (Ieee.signed s m (p - min p q).toNat + Ieee.signed (!t) n (q - min p q).toNat).natAbs (min p q))) := by
    unfold fSub Ieee.Format.sub
    rw [show k.format.read a = .number s m p from hd, show k.format.read b = .number t n q from hd']
    rfl
  rw [e]
  have := rnd_pos k 0 E ((hg.sum hg'.neg (s && !t)).mono (A' := ((2 ^ 40 - D : Nat) : Int)) (B' := ((2 ^ 40 - C : Nat) : Int)) (by omega) (by omega)) (by omega) (by
    show ((2 ^ 40 - C : Nat) : Int) ≤ 2 ^ 40
    omega) hE (by decide)
  have e2 : ((2 ^ E : Nat) : Int) = 2 ^ E := by simp
  exact this.mono (by omega) (by omega)
end Go.Proofs.YtnndahnmlmgenaaGreat
