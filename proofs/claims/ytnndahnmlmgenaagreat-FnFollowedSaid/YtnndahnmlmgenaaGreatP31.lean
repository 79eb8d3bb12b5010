/- Functions of the program and of the reference in plain terms. -/
import Derived.Test.YtnndahnmlmgenaaGreatP30
namespace Go.Proofs.YtnndahnmlmgenaaGreat
open Go Go.Tm
set_option linter.unusedVariables false
set_option linter.unusedSimpArgs false
set_option linter.unusedSectionVars false
/-! ### square roots -/
theorem rootFrom_lt (n : Nat) : ∀ (t r : Nat), n < (r + 2 ^ t) * (r + 2 ^ t) → n < (Ieee.Datum.rootFrom n t r + 1) * (Ieee.Datum.rootFrom n t r + 1)
  | 0, r, h => h
  | t + 1, r, h => by
    unfold Ieee.Datum.rootFrom
    simp only [Nat.shiftLeft_eq, Nat.one_mul]
    split
    · refine rootFrom_lt n t _ ?_
      rw [Nat.add_assoc, ← Nat.two_mul, Nat.mul_comm 2, ← Nat.pow_succ]
      exact h
    · rename_i h1
      exact rootFrom_lt n t _ (by omega)
theorem root_near (n : Nat) : (2 * Ieee.Datum.rootFrom n (n.log2 / 2 + 1) 0 + (Ieee.Datum.rootFrom n (n.log2 / 2 + 1) 0 * Ieee.Datum.rootFrom n (n.log2 / 2 + 1) 0 != n).toNat - 1) * (2 * Ieee.Datum.rootFrom n (n.log2 / 2 + 1) 0 + (Ieee.Datum.rootFrom n (n.log2 / 2 + 1) 0 * Ieee.Datum.rootFrom n (n.log2 / 2 + 1) 0 != n).toNat - 1) ≤ 4 * n ∧
    4 * n ≤ (2 * Ieee.Datum.rootFrom n (n.log2 / 2 + 1) 0 + (Ieee.Datum.rootFrom n (n.log2 / 2 + 1) 0 * Ieee.Datum.rootFrom n (n.log2 / 2 + 1) 0 != n).toNat + 1) * (2 * Ieee.Datum.rootFrom n (n.log2 / 2 + 1) 0 + (Ieee.Datum.rootFrom n (n.log2 / 2 + 1) 0 * Ieee.Datum.rootFrom n (n.log2 / 2 + 1) 0 != n).toNat + 1) := by
  have h1 := rootFrom_le n (n.log2 / 2 + 1) 0 (Nat.zero_le _)
  have h2 := rootFrom_lt n (n.log2 / 2 + 1) 0 (by
    rw [Nat.zero_add, ← Nat.pow_add]
    exact Nat.lt_of_lt_of_le Nat.lt_log2_self (Nat.pow_le_pow_right (by decide) (by omega)))
  generalize Ieee.Datum.rootFrom n (n.log2 / 2 + 1) 0 = w at *
  have e1 : ∀ a : Nat, (2 * a) * (2 * a) = 4 * (a * a) := fun a => by rw [Nat.mul_mul_mul_comm]
  by_cases h : w * w = n
  · have : (w * w != n).toNat = 0 := by rw [h]; simp
    rw [this, Nat.add_zero]
    constructor
    · refine Nat.le_trans (Nat.mul_le_mul (Nat.sub_le _ _) (Nat.sub_le _ _)) ?_
      rw [e1]; omega
    · refine Nat.le_trans ?_ (Nat.mul_le_mul (Nat.le_add_right _ _) (Nat.le_add_right _ _))
      rw [e1]; omega
  · have : (w * w != n).toNat = 1 := by simp [h]
    rw [this, Nat.add_sub_cancel]
    constructor
    · rw [e1]; omega
    · rw [show 2 * w + 1 + 1 = 2 * (w + 1) by omega, e1]; omega
theorem le_of_sq {a b : Int} (hb : 0 ≤ b) (h : a * a ≤ b * b) : a ≤ b := by
  apply Classical.byContradiction
  intro q
  have h1 : b < a := by omega
  have h2 := Int.mul_le_mul_of_nonneg_left (Int.le_of_lt h1) hb
  have h3 := Int.mul_lt_mul_of_pos_right h1 (show 0 < a by omega)
  omega
theorem inG.sqrt {x : Nat} {A B R0 R1 : Int} (h : inG .f64 x A B) (hA : 0 ≤ A) (hB : B ≤ 2 ^ 50) (h0 : 0 ≤ R0) (h1 : 0 ≤ R1) (k0 : R0 * R0 ≤ A * 2 ^ 40) (k1 : B * 2 ^ 40 ≤ R1 * R1) (hR : R1 ≤ 2 ^ 50) :
    inG .f64 (orNan .f64 (FloatKind.f64.format.sqrt x)) (R0 - 2) (R1 + 2) := by
  obtain ⟨s, m, i, hd, hg⟩ := h
  have hl := hg.le2 10 (by omega) hB
  have key : ∃ s' Q pl, Ieee.Datum.root 54 (.number s m i) = some (.number s' Q pl) ∧ GAt s' Q pl (R0 - 1) (R1 + 1) := by
    unfold Ieee.Datum.root
    by_cases hm : m = 0
    · subst hm
      refine ⟨s, 0, i, by simp only [if_true], ?_⟩
      have hb := hg (min i (-40)) (by omega) (by omega)
      rw [signed_zero] at hb
      have hA0 : A = 0 := by
        have := p2_pos (-40 - min i (-40)).toNat
        apply Classical.byContradiction
        intro q
        have := Int.mul_pos (show 0 < A by omega) this
        omega
      have hR0 : R0 ≤ 0 := le_of_sq (Int.le_refl 0) (by rw [hA0] at k0; simpa using k0)
      intro b b1 b2
      rw [signed_zero]
      have := p2_pos (-40 - b).toNat
      exact ⟨Int.mul_nonpos_of_nonpos_of_nonneg (by omega) (Int.le_of_lt this), Int.mul_nonneg (by omega) (Int.le_of_lt this)⟩
    · have hs : s = false := by
        cases s with
        | false => rfl
        | true =>
          exfalso
          have hb := hg (min i (-40)) (by omega) (by omega)
          rw [signed_eq, cond_true, Int.neg_mul, Int.one_mul] at hb
          have z1 : 0 < m * 2 ^ (i - min i (-40)).toNat := Nat.mul_pos (Nat.pos_of_ne_zero hm) (Nat.two_pow_pos _)
          have z2 := Int.mul_nonneg hA (Int.le_of_lt (p2_pos (-40 - min i (-40)).toNat))
          omega
      subst hs
      have htop := le2_top hm hl
      have hm53 := (double_read hd).1
      have hlog := log2_lt53 hm53
      simp only [if_neg hm, Bool.false_eq_true, if_false]
      obtain ⟨more, hmore⟩ : ∃ more : Nat, more = 2 * 54 - m.log2 + ((i - (2 * 54 - m.log2 : Nat)) % 2).toNat := ⟨_, rfl⟩
      rw [← hmore]
      obtain ⟨pl, hpl⟩ : ∃ pl : Int, pl = (i - (more : Int)) / 2 - 1 := ⟨_, rfl⟩
      have hev : i - (more : Int) = 2 * pl + 2 := by omega
      rw [← hpl]
      refine ⟨_, _, _, rfl, ?_⟩
      obtain ⟨q1, q2⟩ := root_near (m <<< more)
      generalize 2 * Ieee.Datum.rootFrom (m <<< more) ((m <<< more).log2 / 2 + 1) 0 + (Ieee.Datum.rootFrom (m <<< more) ((m <<< more).log2 / 2 + 1) 0 * Ieee.Datum.rootFrom (m <<< more) ((m <<< more).log2 / 2 + 1) 0 != m <<< more).toNat = Q at *
      have hb := hg (2 * pl) (by omega) (by omega)
      have hN : ((m * 2 ^ (more + 2) : Nat) : Int) = ((4 * m <<< more : Nat) : Int) := by
        rw [Nat.shiftLeft_eq, Nat.pow_add, ← Nat.mul_assoc]
        omega
      rw [signed_eq, cond_false, Int.one_mul, show (i - 2 * pl).toNat = more + 2 by omega, hN] at hb
      have q1 := Int.ofNat_le.2 q1
      have q2 := Int.ofNat_le.2 q2
      generalize ((4 * m <<< more : Nat) : Int) = N4 at *
      refine GAt.of pl (Int.le_refl _) (by omega) ?_
      rw [signed_eq, cond_false, Int.one_mul, show (pl - pl).toNat = 0 by omega, Nat.pow_zero, Nat.mul_one]
      have pu := p2_pos (-40 - pl).toNat
      have e2 : (2 : Int) ^ (-40 - pl).toNat * 2 ^ (-40 - pl).toNat * 2 ^ 40 = 2 ^ (-40 - 2 * pl).toNat := by
        rw [← Int.pow_add, ← Int.pow_add]; congr 1; omega
      generalize (2 : Int) ^ (-40 - pl).toNat = u at *
      generalize (2 : Int) ^ (-40 - 2 * pl).toNat = v at *
      have puu : 0 ≤ u * u := Int.mul_nonneg (Int.le_of_lt pu) (Int.le_of_lt pu)
      have sw : ∀ X : Int, X * u * (X * u) = X * X * (u * u) := fun X => by
        rw [Int.mul_assoc, Int.mul_assoc]
        congr 1
        rw [← Int.mul_assoc, ← Int.mul_assoc, Int.mul_comm u X]
      have up : ∀ X : Int, X * 2 ^ 40 * (u * u) = X * v := fun X => by
        rw [← e2, Int.mul_assoc, Int.mul_comm (2 ^ 40)]
      constructor
      · have g := Int.mul_le_mul_of_nonneg_right k0 puu
        rw [← sw, up] at g
        have := le_of_sq (a := R0 * u) (b := (Q : Int) + 1) (by omega) (by
          refine Int.le_trans g (Int.le_trans hb.1 ?_)
          have := q2
          simpa using this)
        rw [Int.sub_mul, Int.one_mul]
        omega
      · have g := Int.mul_le_mul_of_nonneg_right k1 puu
        rw [← sw, up] at g
        have hRu := Int.mul_nonneg h1 (Int.le_of_lt pu)
        have := le_of_sq (a := ((Q - 1 : Nat) : Int)) (b := R1 * u) hRu (by
          refine Int.le_trans ?_ g
          refine Int.le_trans ?_ hb.2
          have := q1
          simpa using this)
        rw [Int.add_mul, Int.one_mul]
        omega
  obtain ⟨s', Q, pl, hr, hq⟩ := key
  have e : FloatKind.f64.format.sqrt x = some (FloatKind.f64.encode (.number s' Q pl)) := by
    show ((FloatKind.f64.format.read x).root 54).map FloatKind.f64.format.write = _
    rw [show FloatKind.f64.format.read x = .number s m i from hd, hr]
    rfl
  rw [e]
  have := rnd .f64 11 0 hq (by show -2 ^ 51 ≤ R0 - 1; omega) (by show R1 + 1 ≤ 2 ^ 51; omega) (by decide) (by decide)
  exact this.mono (by show R0 - 2 ≤ R0 - 1 - 1; omega) (by show R1 + 1 + 1 ≤ R1 + 2; omega)
theorem root_ok {x : Nat} {A B R0 R1 : Int} (h : inG .f32 x A B) (hA : 1 ≤ A) (hB : B ≤ 2 ^ 48) (h0 : 0 ≤ R0) (h1 : 0 ≤ R1) (k0 : R0 * R0 ≤ (A - 1) * 2 ^ 40) (k1 : (B + 1) * 2 ^ 40 ≤ R1 * R1) (hR : R1 ≤ 2 ^ 45) (T E : Nat) (hT1 : R1 + 2 ≤ 2 ^ (40 + T)) (hE : (T : Int) - 23 ≤ -40 + E) (hT : T ≤ 100) :
    ∃ y : Nat, impl_root x = some ((y, ()), ()) ∧ inG .f32 y (R0 - 2 - 2 ^ E) (R1 + 2 + 2 ^ E) := by
  have w := h.wide 8 0 (by omega) (by omega) (by decide) (by decide)
  have r := inG.sqrt w (by show (0 : Int) ≤ A - 1; omega) (by show B + 1 ≤ (2 : Int) ^ 50; omega) h0 h1 k0 k1 (by omega)
  have pT : (2 : Int) ^ 40 ≤ 2 ^ (40 + T) := by
    have := Nat.pow_le_pow_right (n := 2) (by decide) (show 40 ≤ 40 + T by omega)
    have := Int.ofNat_le.2 this
    simpa using this
  obtain ⟨y, e, g⟩ := r.conv T E (by omega) hT1 hE hT
  refine ⟨y, ?_, g⟩
  simp only [impl_root, fConv32_eq, Option.bind_some, math_Sqrt, math_sqrt]
  rw [e]
  rfl
end Go.Proofs.YtnndahnmlmgenaaGreat
