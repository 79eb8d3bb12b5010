/- Functions of the program and of the reference in plain terms. -/
import Derived.Test.YtnndahnmlmgenaaGreatP21
namespace Go.Proofs.YtnndahnmlmgenaaGreat
open Go Go.Tm
set_option linter.unusedVariables false
set_option linter.unusedSimpArgs false
set_option linter.unusedSectionVars false
/-! ### how far a rounded number may lie -/
theorem cut_even_two (s : Bool) (m d : Nat) (hm : m ≠ 0) : Ieee.Toward.even.cut s m d = m / 2 ^ d ∨ Ieee.Toward.even.cut s m d = m / 2 ^ d + 1 := by
  unfold Ieee.Toward.cut
  simp only [Nat.shiftLeft_eq, Nat.one_mul]
  have hml2 : m < 2 ^ (m.log2 + 1) := Nat.lt_log2_self
  by_cases hd : d ≤ m.log2 + 2
  · rw [Nat.min_eq_left hd]
    have := Bool.toNat_le (decide (2 ^ d < 2 * (m % 2 ^ d)) || 2 ^ d == 2 * (m % 2 ^ d) && m / 2 ^ d % 2 == 1)
    omega
  · rw [Nat.min_eq_right (by omega)]
    have h2 : m < 2 ^ (m.log2 + 2) := Nat.lt_of_lt_of_le hml2 (Nat.pow_le_pow_right (by decide) (by omega))
    have h3 : m < 2 ^ d := Nat.lt_of_lt_of_le h2 (Nat.pow_le_pow_right (by decide) (by omega))
    rw [Nat.div_eq_of_lt h2, Nat.mod_eq_of_lt h2, Nat.div_eq_of_lt h3]
    have := Bool.toNat_le (decide (2 ^ (m.log2 + 2) < 2 * m) || 2 ^ (m.log2 + 2) == 2 * m && 0 % 2 == 1)
    omega

theorem near_gen {f : Ieee.Format} (s : Bool) {m : Nat} {p : Int} (hm : m ≠ 0) (hR : ((lastOf f m p - f.leastPlace + 2) * 2 ^ f.fractionBits : Int) ≤ f.infRung) (h2 : (lastOf f m p - f.leastPlace).toNat * f.binade + 3 * f.binade ≤ f.infRung) :
    ∃ K q, f.read (f.nearest s m p) = .number s K q ∧ lastOf f m p ≤ q ∧ ∀ b, b ≤ p → b ≤ lastOf f m p →
      ((K * 2 ^ (q - b).toNat : Nat) - (m * 2 ^ (p - b).toNat : Nat) : Int).natAbs ≤ 2 ^ (lastOf f m p - b).toNat := by
  have hlo : f.leastPlace ≤ lastOf f m p := by unfold lastOf; omega
  have hbin : f.binade = 2 ^ f.fractionBits := rfl
  have hbp : 0 < f.binade := Nat.two_pow_pos _
  have hml := Nat.log2_self_le hm
  have hml2 : m < 2 ^ (m.log2 + 1) := Nat.lt_log2_self
  by_cases hle : lastOf f m p ≤ p
  · refine ⟨_, _, near_exact s hm hle hR, Int.le_refl _, fun b b1 b2 => ?_⟩
    rw [Nat.mul_assoc, ← Nat.pow_add, show (p - lastOf f m p).toNat + (lastOf f m p - b).toNat = (p - b).toNat by omega]
    simp
  · have hmax0 : lastOf f m p = max (p + (m.log2 : Int) - f.fractionBits) f.leastPlace := rfl
    generalize hla : lastOf f m p = last at *
    obtain ⟨d, hd⟩ : ∃ d : Nat, (last - p).toNat = d := ⟨_, rfl⟩
    obtain ⟨K, hK⟩ : ∃ K, Ieee.Toward.even.cut s (m <<< (p - last).toNat) (last - p).toNat = K := ⟨_, rfl⟩
    have hK2 : K = m / 2 ^ d ∨ K = m / 2 ^ d + 1 := by
      rw [← hK, show (p - last).toNat = 0 by omega, hd, Nat.shiftLeft_eq, Nat.pow_zero, Nat.mul_one]
      exact cut_even_two s m d hm
    have hup : m / 2 ^ d < 2 * f.binade := by
      rw [Nat.div_lt_iff_lt_mul (Nat.two_pow_pos _), hbin, show 2 * 2 ^ f.fractionBits = 2 ^ (f.fractionBits + 1) by rw [Nat.pow_succ, Nat.mul_comm], ← Nat.pow_add]
      exact Nat.lt_of_lt_of_le hml2 (Nat.pow_le_pow_right (by decide) (by omega))
    have hdn : f.leastPlace < last → f.binade ≤ m / 2 ^ d := fun h => by
      rw [Nat.le_div_iff_mul_le (Nat.two_pow_pos _), hbin, ← Nat.pow_add]
      exact Nat.le_trans (Nat.pow_le_pow_right (by decide) (by omega)) hml
    have hdiv := Nat.div_add_mod m (2 ^ d)
    have hmod := Nat.mod_lt m (Nat.two_pow_pos d)
    obtain ⟨E, hE⟩ : ∃ E : Nat, (last - f.leastPlace).toNat = E := ⟨_, rfl⟩
    have hnear : f.nearest s m p = f.word s (E * f.binade + K) := by
      unfold Ieee.Format.nearest
      rw [if_neg hm]
      simp only [← hmax0]
      rw [hK, hE, Nat.min_eq_left]
      rw [hE] at h2
      omega
    have herr : ∀ b, b ≤ p → b ≤ last → ((K * 2 ^ (last - b).toNat : Nat) - (m * 2 ^ (p - b).toNat : Nat) : Int).natAbs ≤ 2 ^ (last - b).toNat := fun b b1 b2 => by
      have h1 : K * 2 ^ (last - b).toNat = K * 2 ^ d * 2 ^ (p - b).toNat := by rw [Nat.mul_assoc, ← Nat.pow_add]; congr 2; omega
      have h2 : (2 : Nat) ^ (last - b).toNat = 2 ^ d * 2 ^ (p - b).toNat := by rw [← Nat.pow_add]; congr 1; omega
      rw [h1, h2, sub_scale]
      refine Nat.mul_le_mul_right _ ?_
      rw [Nat.mul_comm] at hdiv
      rcases hK2 with e | e
      · rw [e]; omega
      · rw [e, Nat.add_mul, Nat.one_mul]; omega
    rw [hE] at h2
    by_cases hcarry : K < 2 * f.binade
    · have hc : (E = 0 ∧ K < f.binade) ∨ (f.binade ≤ K ∧ K < 2 * f.binade) := by
        by_cases hEz : E = 0
        · by_cases hKb : K < f.binade
          · exact .inl ⟨hEz, hKb⟩
          · exact .inr ⟨by omega, hcarry⟩
        · have := hdn (by omega)
          exact .inr ⟨by omega, hcarry⟩
      rw [hnear, read_kept hc (by omega)]
      exact ⟨K, last, by congr 1; omega, Int.le_refl _, herr⟩
    · have hKe : K = 2 * f.binade := by omega
      have e : E * f.binade + K = (E + 1) * f.binade + f.binade := by rw [hKe, Nat.add_mul]; omega
      rw [hnear, e, read_kept (.inr ⟨Nat.le_refl _, by omega⟩) (by rw [← e]; omega)]
      refine ⟨f.binade, last + 1, by congr 1; omega, by omega, fun b b1 b2 => ?_⟩
      have := herr b b1 b2
      rw [hKe] at this
      have e52 : f.binade * 2 ^ (last + 1 - b).toNat = 2 * f.binade * 2 ^ (last - b).toNat := by
        rw [show (last + 1 - b).toNat = (last - b).toNat + 1 by omega, Nat.pow_succ, Nat.mul_comm 2, Nat.mul_assoc, Nat.mul_comm 2]
      rw [e52]
      exact this
end Go.Proofs.YtnndahnmlmgenaaGreat
