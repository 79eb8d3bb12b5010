/- Functions of the program and of the reference in plain terms. -/
import Derived.Test.YtnndahnmlmgenaaGreatP12
namespace Go.Proofs.YtnndahnmlmgenaaGreat
open Go Go.Tm
set_option linter.unusedVariables false
set_option linter.unusedSimpArgs false
set_option linter.unusedSectionVars false
/-! ### what is left of an angle -/
theorem double_norm {x : Nat} {s : Bool} {m : Nat} {p : Int} (h : FloatKind.f64.decode x = .number s m p) (hp : -1074 < p) : 2 ^ 52 ≤ m := by
  have h : Ieee.double.read x = .number s m p := h
  unfold Ieee.Format.read at h
  simp only at h
  have e1 : Ieee.double.binade = 4503599627370496 := rfl
  have e3 : Ieee.double.leastPlace = -1074 := by decide
  rw [e1, e3] at h
  split at h
  · cases h; omega
  · split at h
    · cases h; omega
    · split at h <;> cases h

/-- a rounded number is off by one digit in the last place at most -/
theorem near_err (s : Bool) {m : Nat} {p : Int} (hm : m ≠ 0) (hp : -1074 ≤ p) (hR : lastOf FloatKind.f64.format m p ≤ 900) :
    ∃ K q, FloatKind.f64.format.read (FloatKind.f64.format.nearest s m p) = .number s K q ∧ lastOf FloatKind.f64.format m p ≤ q ∧ 1 ≤ K ∧ ∀ b, b ≤ p → b ≤ lastOf FloatKind.f64.format m p →
      ((K * 2 ^ (q - b).toNat : Nat) - (m * 2 ^ (p - b).toNat : Nat) : Int).natAbs ≤ 2 ^ (lastOf FloatKind.f64.format m p - b).toNat := by
  have hf1 : FloatKind.f64.format.fractionBits = 52 := rfl
  have hf2 : FloatKind.f64.format.leastPlace = -1074 := by decide
  have hf3 : (FloatKind.f64.format.infRung : Int) = 2047 * 2 ^ 52 := by decide
  have hf4 : FloatKind.f64.format.binade = 2 ^ 52 := rfl
  have hlo : -1074 ≤ lastOf FloatKind.f64.format m p := by unfold lastOf; rw [hf2]; omega
  have hRR : ((lastOf FloatKind.f64.format m p - FloatKind.f64.format.leastPlace + 2) * 2 ^ FloatKind.f64.format.fractionBits : Int) ≤ FloatKind.f64.format.infRung := by
    rw [hf2, hf3, hf1]
    show (lastOf FloatKind.f64.format m p - -1074 + 2) * 2 ^ 52 ≤ _
    omega
  have hml := Nat.log2_self_le hm
  have hml2 : m < 2 ^ (m.log2 + 1) := Nat.lt_log2_self
  by_cases hle : lastOf FloatKind.f64.format m p ≤ p
  · refine ⟨_, _, near_exact s hm hle hRR, Int.le_refl _, ?_, fun b b1 b2 => ?_⟩
    · exact Nat.mul_pos (by omega) (Nat.two_pow_pos _)
    · rw [Nat.mul_assoc, ← Nat.pow_add, show (p - lastOf FloatKind.f64.format m p).toNat + (lastOf FloatKind.f64.format m p - b).toNat = (p - b).toNat by omega]
      simp
  · generalize hla : lastOf FloatKind.f64.format m p = last at *
    have hmax : max (p + (m.log2 : Int) - (52 : Nat)) (-1074) = last := by
      have := hla
      unfold lastOf at this
      rw [hf1, hf2] at this
      exact this
    have hlast : last = p + m.log2 - 52 := by omega
    obtain ⟨d, hd⟩ : ∃ d : Nat, (last - p).toNat = d := ⟨_, rfl⟩
    have hdm : d + 52 = m.log2 := by omega
    have hcut : ∃ K, Ieee.Toward.even.cut s (m <<< (p - last).toNat) (last - p).toNat = K ∧ (K = m / 2 ^ d ∨ K = m / 2 ^ d + 1) := by
      refine ⟨_, rfl, ?_⟩
      rw [show (p - last).toNat = 0 by omega, hd, Nat.shiftLeft_eq, Nat.pow_zero, Nat.mul_one]
      unfold Ieee.Toward.cut
      simp only [Nat.shiftLeft_eq, Nat.one_mul]
      rw [Nat.min_eq_left (by omega : d ≤ m.log2 + 2)]
      have := Bool.toNat_le (decide (2 ^ d < 2 * (m % 2 ^ d)) || 2 ^ d == 2 * (m % 2 ^ d) && m / 2 ^ d % 2 == 1)
      omega
    obtain ⟨K, hK, hK2⟩ := hcut
    have hlow1 : 2 ^ 52 ≤ m / 2 ^ d := by
      rw [Nat.le_div_iff_mul_le (Nat.two_pow_pos _), ← Nat.pow_add, Nat.add_comm, hdm]
      exact hml
    have hlow2 : m / 2 ^ d < 2 ^ 53 := by
      rw [Nat.div_lt_iff_lt_mul (Nat.two_pow_pos _), ← Nat.pow_add, show 53 + d = m.log2 + 1 by omega]
      exact hml2
    have hdiv := Nat.div_add_mod m (2 ^ d)
    have hmod := Nat.mod_lt m (Nat.two_pow_pos d)
    obtain ⟨E, hE⟩ : ∃ E : Nat, (last - -1074).toNat = E := ⟨_, rfl⟩
    have hE2 : E ≤ 1974 := by omega
    have hnear : ∀ R, E * 2 ^ 52 + K = R → R < 2047 * 2 ^ 52 → FloatKind.f64.format.nearest s m p = FloatKind.f64.format.word s R := fun R hR1 hR2 => by
      unfold Ieee.Format.nearest
      rw [if_neg hm, hf1, hf2]
      simp only [hmax]
      rw [hK, hE, hf4, hR1, Nat.min_eq_left]
      have : (FloatKind.f64.format.infRung : Int) = ((2047 * 2 ^ 52 : Nat) : Int) := by rw [hf3]; rfl
      have : FloatKind.f64.format.infRung = 2047 * 2 ^ 52 := Int.ofNat.inj this
      rw [this]
      omega
    have hinf : FloatKind.f64.format.infRung = 2047 * 2 ^ 52 := by decide
    -- the error
    have herr : ∀ b, b ≤ p → b ≤ last → ((K * 2 ^ (last - b).toNat : Nat) - (m * 2 ^ (p - b).toNat : Nat) : Int).natAbs ≤ 2 ^ (last - b).toNat := fun b b1 b2 => by
      have h1 : K * 2 ^ (last - b).toNat = K * 2 ^ d * 2 ^ (p - b).toNat := by rw [Nat.mul_assoc, ← Nat.pow_add]; congr 2; omega
      have h2 : (2 : Nat) ^ (last - b).toNat = 2 ^ d * 2 ^ (p - b).toNat := by rw [← Nat.pow_add]; congr 1; omega
      rw [h1, h2, sub_scale]
      refine Nat.mul_le_mul_right _ ?_
      rw [Nat.mul_comm] at hdiv
      rcases hK2 with e | e
      · rw [e]; omega
      · rw [e, Nat.add_mul, Nat.one_mul]; omega
    by_cases hcarry : K < 2 * 2 ^ 52
    · have e := hnear _ rfl (by omega)
      rw [e, show FloatKind.f64.format.word s (E * 2 ^ 52 + K) = FloatKind.f64.format.word s (E * FloatKind.f64.format.binade + K) from rfl, read_kept (.inr ⟨by rw [hf4]; omega, by rw [hf4]; omega⟩) (by rw [hf4, hinf]; omega), hf2]
      refine ⟨K, last, by congr 1; omega, Int.le_refl _, by omega, herr⟩
    · have hKe : K = 2 ^ 53 := by omega
      have e := hnear ((E + 1) * 2 ^ 52 + 2 ^ 52) (by rw [hKe]; omega) (by omega)
      rw [e, show FloatKind.f64.format.word s ((E + 1) * 2 ^ 52 + 2 ^ 52) = FloatKind.f64.format.word s ((E + 1) * FloatKind.f64.format.binade + 2 ^ 52) from rfl, read_kept (.inr ⟨by rw [hf4]; omega, by rw [hf4]; omega⟩) (by rw [hf4, hinf]; omega), hf2]
      refine ⟨2 ^ 52, last + 1, by congr 1; omega, by omega, by decide, fun b b1 b2 => ?_⟩
      have := herr b b1 b2
      rw [hKe] at this
      have e52 : 2 ^ 52 * 2 ^ (last + 1 - b).toNat = 2 ^ 53 * 2 ^ (last - b).toNat := by rw [← Nat.pow_add, ← Nat.pow_add]; congr 1; omega
      rw [e52]
      exact this

/-- a whole number is its own round -/
theorem round_whole (w : Ieee.Toward) {x : Nat} {s : Bool} {m : Nat} {p : Int} (hd : FloatKind.f64.decode x = .number s m p) (hm0 : m ≠ 0) (hpos : 0 ≤ p) (hp : p ≤ 900) : ∃ K q, FloatKind.f64.decode (fRound w x) = .number s K q ∧ ∀ b, b ≤ q → b ≤ 0 → K * 2 ^ (q - b).toNat = m * 2 ^ (p - b).toNat := by
  obtain ⟨hm53, hp1, hp2⟩ := double_read hd
  have hn : isNan .f64 x = false := by
    rw [isNan_eq, show FloatKind.f64.format.read x = .number s m p from hd]; rfl
  have hw : fRound w x = FloatKind.f64.format.nearest s (m * 2 ^ p.toNat) 0 := by
    unfold fRound
    rw [hn, cond_false, hd]
    have : w.cut s (m <<< p.toNat) (-p).toNat = m * 2 ^ p.toNat := by rw [show (-p).toNat = 0 by omega, cut_zero, Nat.shiftLeft_eq]
    show canon .f64 (FloatKind.f64.encode (.number s (w.cut s (m <<< p.toNat) (-p).toNat) 0)) = _
    rw [this]
    exact canon_of_num (write_nan (d := .number s _ 0) rfl)
  have hf2 : FloatKind.f64.format.leastPlace = -1074 := by decide
  have hf1 : (FloatKind.f64.format.fractionBits : Int) = 52 := rfl
  have hf3 : (FloatKind.f64.format.infRung : Int) = 2047 * 2 ^ 52 := by decide
  show ∃ K q, FloatKind.f64.format.read (fRound w x) = .number s K q ∧ _
  rw [hw]
  generalize hFm : m * 2 ^ p.toNat = F
  have hF0 : F ≠ 0 := by rw [← hFm]; exact Nat.mul_ne_zero hm0 (Nat.ne_of_gt (Nat.two_pow_pos _))
  have hlastF : lastOf FloatKind.f64.format F 0 = max ((F.log2 : Int) - 52) (-1074) := by
    unfold lastOf
    rw [hf1, hf2, Int.zero_add]
  have hlog : F.log2 = m.log2 + p.toNat := by
    rw [← hFm]
    exact log2_shift hm0 _
  have hlm := log2_lt53 hm53
  have hgoal : ∀ b, b ≤ 0 → m * 2 ^ (p - b).toNat = F * 2 ^ (-b).toNat := fun b h => by
    rw [← hFm, Nat.mul_assoc, ← Nat.pow_add]
    congr 2
    omega
  by_cases hle : lastOf FloatKind.f64.format F 0 ≤ 0
  · rw [near_exact s hF0 hle (by
      rw [hlastF, hf2, hf3]
      show (max ((F.log2 : Int) - 52) (-1074) - -1074 + 2) * 2 ^ 52 ≤ _
      omega)]
    refine ⟨_, _, rfl, fun b h1 h2 => ?_⟩
    rw [hgoal b h2, Nat.mul_assoc, ← Nat.pow_add]
    congr 2
    omega
  · have hl2 : lastOf FloatKind.f64.format F 0 = (m.log2 : Int) + p - 52 := by omega
    have hdd : F = m * 2 ^ (p - lastOf FloatKind.f64.format F 0).toNat * 2 ^ (lastOf FloatKind.f64.format F 0 - 0).toNat := by
      rw [hl2, Nat.mul_assoc, ← Nat.pow_add]
      have e : (p - ((m.log2 : Int) + p - 52)).toNat + ((m.log2 : Int) + p - 52 - 0).toNat = p.toNat := by omega
      rw [e, hFm]
    rw [near_exact2 s hF0 (by rw [hf2]; omega) (by omega) hdd (by
      rw [hl2, hf2, hf3]
      show ((m.log2 : Int) + p - 52 - -1074 + 2) * 2 ^ 52 ≤ _
      omega)]
    refine ⟨_, _, rfl, fun b h1 h2 => ?_⟩
    rw [Nat.mul_assoc, ← Nat.pow_add]
    congr 2
    omega
end Go.Proofs.YtnndahnmlmgenaaGreat
