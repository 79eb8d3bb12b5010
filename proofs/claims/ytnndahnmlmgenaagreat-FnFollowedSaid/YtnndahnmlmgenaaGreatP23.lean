/- Functions of the program and of the reference in plain terms. -/
import Derived.Test.YtnndahnmlmgenaaGreatP22
namespace Go.Proofs.YtnndahnmlmgenaaGreat
open Go Go.Tm
set_option linter.unusedVariables false
set_option linter.unusedSimpArgs false
set_option linter.unusedSectionVars false
/-! ### numbers on a grid of 2 ^ (-40) -/
theorem signed_eq (s : Bool) (m u : Nat) : Ieee.signed s m u = (bif s then -1 else 1) * ((m * 2 ^ u : Nat) : Int) := by
  unfold Ieee.signed
  rw [Nat.shiftLeft_eq]
  cases s <;> simp
theorem signed_up (s : Bool) (m u v : Nat) : Ieee.signed s m (u + v) = Ieee.signed s m u * (2 : Int) ^ v := by
  rw [signed_eq, signed_eq, Nat.pow_add, ← Nat.mul_assoc, Int.natCast_mul _ (2 ^ v), Int.mul_assoc]
  simp
theorem signed_zero (s : Bool) (u : Nat) : Ieee.signed s 0 u = 0 := by rw [signed_eq]; simp
theorem p2_pos (n : Nat) : (0 : Int) < 2 ^ n := Int.pow_pos (by decide)
/-- a number's value lies between A and B of the grid -/
def GAt (s : Bool) (m : Nat) (p A B : Int) : Prop := ∀ b, b ≤ p → b ≤ -40 → A * 2 ^ (-40 - b).toNat ≤ Ieee.signed s m (p - b).toNat ∧ Ieee.signed s m (p - b).toNat ≤ B * 2 ^ (-40 - b).toNat
theorem GAt.of {s : Bool} {m : Nat} {p A B : Int} (b : Int) (h1 : b ≤ p) (h2 : b ≤ -40) (h : A * 2 ^ (-40 - b).toNat ≤ Ieee.signed s m (p - b).toNat ∧ Ieee.signed s m (p - b).toNat ≤ B * 2 ^ (-40 - b).toNat) : GAt s m p A B := fun c c1 c2 => by
  have e1 : Ieee.signed s m (p - min b c).toNat = Ieee.signed s m (p - b).toNat * 2 ^ (b - min b c).toNat := by rw [← signed_up]; congr 1; omega
  have e2 : Ieee.signed s m (p - min b c).toNat = Ieee.signed s m (p - c).toNat * 2 ^ (c - min b c).toNat := by rw [← signed_up]; congr 1; omega
  have e3 : (2 : Int) ^ (-40 - min b c).toNat = 2 ^ (-40 - b).toNat * 2 ^ (b - min b c).toNat := by rw [← Int.pow_add]; congr 1; omega
  have e4 : (2 : Int) ^ (-40 - min b c).toNat = 2 ^ (-40 - c).toNat * 2 ^ (c - min b c).toNat := by rw [← Int.pow_add]; congr 1; omega
  have pb := p2_pos (b - min b c).toNat
  have pc := p2_pos (c - min b c).toNat
  have g1 := Int.mul_le_mul_of_nonneg_right h.1 (Int.le_of_lt pb)
  have g2 := Int.mul_le_mul_of_nonneg_right h.2 (Int.le_of_lt pb)
  rw [Int.mul_assoc, ← e3, e4, ← Int.mul_assoc, ← e1, e2] at g1
  rw [Int.mul_assoc, ← e3, e4, ← Int.mul_assoc, ← e1, e2] at g2
  exact ⟨Int.le_of_mul_le_mul_right g1 pc, Int.le_of_mul_le_mul_right g2 pc⟩
theorem GAt.mono {s : Bool} {m : Nat} {p A B A' B' : Int} (h : GAt s m p A B) (h1 : A' ≤ A) (h2 : B ≤ B') : GAt s m p A' B' := fun b b1 b2 =>
  ⟨Int.le_trans (Int.mul_le_mul_of_nonneg_right h1 (Int.le_of_lt (p2_pos _))) (h b b1 b2).1, Int.le_trans (h b b1 b2).2 (Int.mul_le_mul_of_nonneg_right h2 (Int.le_of_lt (p2_pos _)))⟩
def inG (k : FloatKind) (x : Nat) (A B : Int) : Prop := ∃ s m p, k.decode x = .number s m p ∧ GAt s m p A B
theorem inG.mono {k : FloatKind} {x : Nat} {A B A' B' : Int} (h : inG k x A B) (h1 : A' ≤ A) (h2 : B ≤ B') : inG k x A' B' :=
  let ⟨s, m, p, hd, hg⟩ := h
  ⟨s, m, p, hd, hg.mono h1 h2⟩
theorem inG.le {k : FloatKind} {x : Nat} {A B : Int} (h : inG k x A B) : A ≤ B := by
  obtain ⟨s, m, p, -, hg⟩ := h
  have := hg (min p (-40)) (by omega) (by omega)
  exact Int.le_of_mul_le_mul_right (Int.le_trans this.1 this.2) (p2_pos _)

theorem decode_write {k : FloatKind} (s : Bool) (m : Nat) (p : Int) : k.decode (canon k (k.encode (.number s m p))) = k.format.read (k.format.nearest s m p) := by
  have hn : isNan k (k.encode (.number s m p)) = false := write_nan rfl
  rw [canon_of_num hn]
  rfl
theorem near_zero (k : FloatKind) (s : Bool) (p : Int) : k.format.read (k.format.nearest s 0 p) = .number s 0 k.format.leastPlace := by
  rw [nearest_rungOf]
  have e : rungOf k.format 0 p = 0 := by unfold rungOf; rw [if_pos rfl]
  rw [e]
  have := read_kept (f := k.format) (s := s) (e := 0) (K := 0) (.inl ⟨rfl, Nat.two_pow_pos _⟩) (by cases k <;> decide)
  simpa using this
/-- ROUNDING: a number below 2 ^ T moves by at most 2 ^ E of the grid -/
theorem rnd (k : FloatKind) {s : Bool} {m : Nat} {p A B : Int} (T E : Nat) (h : GAt s m p A B) (hA : -2 ^ (40 + T) ≤ A) (hB : B ≤ 2 ^ (40 + T)) (hE : (T : Int) - k.format.fractionBits ≤ -40 + E) (hT : T ≤ 100) :
    inG k (canon k (k.encode (.number s m p))) (A - 2 ^ E) (B + 2 ^ E) := by
  by_cases hm : m = 0
  · subst hm
    refine ⟨s, 0, k.format.leastPlace, by rw [decode_write, near_zero], ?_⟩
    have hb := h (min p (-40)) (by omega) (by omega)
    rw [signed_zero] at hb
    have h1 : A ≤ 0 := by
      have := p2_pos (-40 - min p (-40)).toNat
      apply Classical.byContradiction
      intro q
      have := Int.mul_pos (show 0 < A by omega) this
      omega
    have h2 : 0 ≤ B := by
      have := p2_pos (-40 - min p (-40)).toNat
      apply Classical.byContradiction
      intro q
      have := Int.mul_neg_of_neg_of_pos (show B < 0 by omega) this
      omega
    have pe := p2_pos E
    intro b b1 b2
    rw [signed_zero]
    have := p2_pos (-40 - b).toNat
    exact ⟨Int.mul_nonpos_of_nonpos_of_nonneg (by omega) (Int.le_of_lt this), Int.mul_nonneg (by omega) (Int.le_of_lt this)⟩
  · have htop : le2 m p T := by
      refine le2_of (min p (-40)) (by omega) (by omega) ?_
      have hb := h (min p (-40)) (by omega) (by omega)
      have ha := abs_signed s m (p - min p (-40)).toNat
      have pp := p2_pos (-40 - min p (-40)).toNat
      have e : (2 : Int) ^ (T - min p (-40)).toNat = 2 ^ (40 + T) * 2 ^ (-40 - min p (-40)).toNat := by rw [← Int.pow_add]; congr 1; omega
      have g1 := Int.mul_le_mul_of_nonneg_right hA (Int.le_of_lt pp)
      have g2 := Int.mul_le_mul_of_nonneg_right hB (Int.le_of_lt pp)
      rw [Int.neg_mul, ← e] at g1
      rw [← e] at g2
      have e5 : (((2 : Nat) ^ (T - min p (-40)).toNat : Nat) : Int) = 2 ^ (T - min p (-40)).toNat := by simp
      omega
    have ht := le2_top hm htop
    have hlast : lastOf k.format m p ≤ -40 + E := by
      unfold lastOf
      have : k.format.leastPlace ≤ -149 := by cases k <;> decide
      omega
    have hl0 : k.format.leastPlace ≤ lastOf k.format m p := by unfold lastOf; omega
    have hl1 : lastOf k.format m p ≤ 100 - k.format.fractionBits := by
      unfold lastOf
      have : k.format.leastPlace ≤ -149 := by cases k <;> decide
      have : k.format.fractionBits ≤ 52 := by cases k <;> decide
      omega
    obtain ⟨K, q, hr, hq, herr⟩ := near_gen (f := k.format) s (m := m) (p := p) hm (by
      cases k
      · have h1 : lastOf FloatKind.f32.format m p ≤ 100 - (23 : Nat) := hl1
        show (lastOf FloatKind.f32.format m p - -149 + 2) * 2 ^ 23 ≤ ((2 ^ 8 - 1) * 2 ^ 23 : Nat)
        omega
      · have h1 : lastOf FloatKind.f64.format m p ≤ 100 - (52 : Nat) := hl1
        show (lastOf FloatKind.f64.format m p - -1074 + 2) * 2 ^ 52 ≤ ((2 ^ 11 - 1) * 2 ^ 52 : Nat)
        omega) (by
      cases k
      · have h1 : lastOf FloatKind.f32.format m p ≤ 100 - (23 : Nat) := hl1
        show (lastOf FloatKind.f32.format m p - -149).toNat * 2 ^ 23 + 3 * 2 ^ 23 ≤ (2 ^ 8 - 1) * 2 ^ 23
        omega
      · have h1 : lastOf FloatKind.f64.format m p ≤ 100 - (52 : Nat) := hl1
        show (lastOf FloatKind.f64.format m p - -1074).toNat * 2 ^ 52 + 3 * 2 ^ 52 ≤ (2 ^ 11 - 1) * 2 ^ 52
        omega)
    refine ⟨s, K, q, by rw [decode_write]; exact hr, ?_⟩
    generalize lastOf k.format m p = last at *
    have hbp : min (min p last) (-40) ≤ p := by omega
    refine GAt.of (min (min p last) (-40)) (by omega) (by omega) ?_
    generalize hbb : min (min p last) (-40) = b at *
    have hv := h b hbp (by omega)
    have he := herr b hbp (by omega)
    have e5 : (((2 : Nat) ^ (last - b).toNat : Nat) : Int) ≤ 2 ^ E * 2 ^ (-40 - b).toNat := by
      rw [← Int.pow_add]
      have := Nat.pow_le_pow_right (n := 2) (by decide) (show (last - b).toNat ≤ E + (-40 - b).toNat by omega)
      have h2 : (((2 : Nat) ^ (last - b).toNat : Nat) : Int) ≤ ((2 ^ (E + (-40 - b).toNat) : Nat) : Int) := Int.ofNat_le.2 this
      simpa using h2
    rw [Int.sub_mul, Int.add_mul]
    rw [signed_eq] at hv ⊢
    generalize (((K * 2 ^ (q - b).toNat : Nat)) : Int) = X at *
    generalize (((m * 2 ^ (p - b).toNat : Nat)) : Int) = Y at *
    generalize A * 2 ^ (-40 - b).toNat = A' at *
    generalize B * 2 ^ (-40 - b).toNat = B' at *
    generalize 2 ^ E * (2 : Int) ^ (-40 - b).toNat = Z at *
    cases s
    · simp only [cond_false, Int.one_mul] at hv ⊢
      omega
    · simp only [cond_true, Int.neg_mul, Int.one_mul] at hv ⊢
      omega
end Go.Proofs.YtnndahnmlmgenaaGreat
