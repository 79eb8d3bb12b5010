import Derived.Test.YtildomllnnnofaaGreatP7
/- Functions of the program and of the reference in plain terms. -/
namespace Go.Proofs.YtildomllnnnofaaGreat
open Go Go.Tm
set_option linter.unusedVariables false
set_option linter.unusedSimpArgs false
set_option linter.unusedSectionVars false
def lastOf (f : Ieee.Format) (m : Nat) (p : Int) : Int := max (p + m.log2 - f.fractionBits) f.leastPlace
theorem qvj {f : Ieee.Format} {s : Bool} {e K : Nat} (hK : (e = 0 ∧ K < f.binade) ∨ (f.binade ≤ K ∧ K < 2 * f.binade)) (hr : e * f.binade + K < f.infRung) : f.read (f.word s (e * f.binade + K)) = .number s K (f.leastPlace + e) := by
  have h1 : f.infRung < f.signWeight := Ieee.Format.infRung_lt f
  generalize hR : e * f.binade + K = r at *
  have hm : f.word s r % f.signWeight = r := qfc s (by omega)
  have hs : (f.word s r / f.signWeight % 2 == 1) = s := by
    cases s
    · show (r / f.signWeight % 2 == 1) = false
      rw [Nat.div_eq_of_lt (by omega)]; rfl
    · show ((f.signWeight + r) / f.signWeight % 2 == 1) = true
      rw [Nat.add_div_left _ (by omega), Nat.div_eq_of_lt (by omega)]; rfl
  have hpos : 0 < f.binade := Nat.two_pow_pos _
  unfold Ieee.Format.read
  simp only [hm, hs]
  rcases hK with ⟨he, hK⟩ | ⟨hK, hK2⟩
  · subst he
    rw [Nat.zero_mul, Nat.zero_add] at hR
    subst hR
    rw [if_pos hK]
    simp
  · have hge : ¬ r < f.binade := by
      rw [← hR]
      have := Nat.zero_le (e * f.binade)
      omega
    rw [if_neg hge, if_pos hr]
    obtain ⟨g, hg⟩ : ∃ g, K = f.binade + g := ⟨K - f.binade, by omega⟩
    have hg2 : g < f.binade := by omega
    have hR2 : r = g + f.binade * (e + 1) := by rw [← hR, hg, Nat.mul_add, Nat.mul_comm]; omega
    have d1 : r / f.binade = e + 1 := by rw [hR2, Nat.add_mul_div_left _ _ hpos, Nat.div_eq_of_lt hg2]; omega
    have d2 : r % f.binade = g := by rw [hR2, Nat.add_mul_mod_self_left, Nat.mod_eq_of_lt hg2]
    rw [d1, d2, hg]
    simp
theorem qu2 {f : Ieee.Format} (s : Bool) {m : Nat} {p : Int} (hm : m ≠ 0) (hp : lastOf f m p ≤ p) (hR : ((lastOf f m p - f.leastPlace + 2) * 2 ^ f.fractionBits : Int) ≤ f.infRung) :
    f.read (f.nearest s m p) = .number s (m * 2 ^ (p - lastOf f m p).toNat) (lastOf f m p) := by
  have hl : f.leastPlace ≤ lastOf f m p := by unfold lastOf; omega
  have hml := Nat.log2_self_le hm
  have hml2 : m < 2 ^ (m.log2 + 1) := Nat.lt_log2_self
  have hbin : f.binade = 2 ^ f.fractionBits := rfl
  generalize hla : lastOf f m p = last at *
  have hmax : max (p + (m.log2 : Int) - f.fractionBits) f.leastPlace = last := hla
  have hlt : m * 2 ^ (p - last).toNat < 2 * f.binade := by
    have : m * 2 ^ (p - last).toNat < 2 ^ (m.log2 + 1) * 2 ^ (p - last).toNat := Nat.mul_lt_mul_of_pos_right hml2 (Nat.two_pow_pos _)
    rw [← Nat.pow_add] at this
    refine Nat.lt_of_lt_of_le this ?_
    rw [hbin, show 2 * 2 ^ f.fractionBits = 2 ^ (f.fractionBits + 1) by rw [Nat.pow_succ, Nat.mul_comm]]
    exact Nat.pow_le_pow_right (by decide) (by omega)
  have hcase : ((last - f.leastPlace).toNat = 0 ∧ m * 2 ^ (p - last).toNat < f.binade) ∨ (f.binade ≤ m * 2 ^ (p - last).toNat ∧ m * 2 ^ (p - last).toNat < 2 * f.binade) := by
    by_cases hb : m * 2 ^ (p - last).toNat < f.binade
    · refine .inl ⟨?_, hb⟩
      apply Classical.byContradiction
      intro q
      have hlast : last = p + m.log2 - f.fractionBits := by omega
      have : 2 ^ (m.log2 + (p - last).toNat) ≤ m * 2 ^ (p - last).toNat := by rw [Nat.pow_add]; exact Nat.mul_le_mul_right _ hml
      rw [show m.log2 + (p - last).toNat = f.fractionBits by omega, ← hbin] at this
      omega
    · exact .inr ⟨by omega, hlt⟩
  have hrung : (last - f.leastPlace).toNat * f.binade + m * 2 ^ (p - last).toNat < f.infRung := by
    have e1 : (((last - f.leastPlace).toNat + 2) * f.binade : Nat) ≤ f.infRung := by
      have : ((((last - f.leastPlace).toNat + 2) * f.binade : Nat) : Int) ≤ f.infRung := by
        rw [hbin, Int.natCast_mul, Int.natCast_add, Int.toNat_of_nonneg (by omega)]
        simpa using hR
      exact Int.ofNat_le.1 this
    rw [Nat.add_mul] at e1
    omega
  have e : f.nearest s m p = f.word s ((last - f.leastPlace).toNat * f.binade + m * 2 ^ (p - last).toNat) := by
    unfold Ieee.Format.nearest
    rw [if_neg hm]
    simp only [hmax]
    rw [show (last - p).toNat = 0 by omega, qfj, Nat.shiftLeft_eq, Nat.min_eq_left (Nat.le_of_lt hrung)]
  rw [e, qvj hcase hrung]
  congr 1
  omega
end Go.Proofs.YtildomllnnnofaaGreat
