/- Functions of the program and of the reference in plain terms. -/
import Derived.Test.YtnndahnmlmgenaaGreatP11
namespace Go.Proofs.YtnndahnmlmgenaaGreat
open Go Go.Tm
set_option linter.unusedVariables false
set_option linter.unusedSimpArgs false
set_option linter.unusedSectionVars false
/-! ### exact words -/
/-- the place of the last digit that a word of this number keeps -/
def lastOf (f : Ieee.Format) (m : Nat) (p : Int) : Int := max (p + m.log2 - f.fractionBits) f.leastPlace
theorem read_kept {f : Ieee.Format} {s : Bool} {e K : Nat} (hK : (e = 0 ∧ K < f.binade) ∨ (f.binade ≤ K ∧ K < 2 * f.binade)) (hr : e * f.binade + K < f.infRung) : f.read (f.word s (e * f.binade + K)) = .number s K (f.leastPlace + e) := by
  have h1 : f.infRung < f.signWeight := Ieee.Format.infRung_lt f
  generalize hR : e * f.binade + K = r at *
  have hm : f.word s r % f.signWeight = r := word_mod s (by omega)
  have hs : (f.word s r / f.signWeight % 2 == 1) = s := by
    cases s
    · show (r / f.signWeight % 2 == 1) = false
      rw [Nat.div_eq_of_lt (by omega)]; rfl
    · show ((f.signWeight + r) / f.signWeight % 2 == 1) = true
      rw [Nat.add_div_left _ (by omega), Nat.div_eq_of_lt (by omega)]; rfl
  have hpos : 0 < f.binade := Nat.two_pow_pos _
  unfold Ieee.Format.read
  simp only [hm, hs]
  rcases hK with ⟨he, hK⟩ | ⟨hK, hK2⟩
  · subst he
    rw [Nat.zero_mul, Nat.zero_add] at hR
    subst hR
    rw [if_pos hK]
    simp
  · have hge : ¬ r < f.binade := by
      rw [← hR]
      have := Nat.zero_le (e * f.binade)
      omega
    rw [if_neg hge, if_pos hr]
    obtain ⟨g, hg⟩ : ∃ g, K = f.binade + g := ⟨K - f.binade, by omega⟩
    have hg2 : g < f.binade := by omega
    have hR2 : r = g + f.binade * (e + 1) := by rw [← hR, hg, Nat.mul_add, Nat.mul_comm]; omega
    have d1 : r / f.binade = e + 1 := by rw [hR2, Nat.add_mul_div_left _ _ hpos, Nat.div_eq_of_lt hg2]; omega
    have d2 : r % f.binade = g := by rw [hR2, Nat.add_mul_mod_self_left, Nat.mod_eq_of_lt hg2]
    rw [d1, d2, hg]
    simp

/-- a number that has no digit below its last place is kept as it is -/
theorem near_exact {f : Ieee.Format} (s : Bool) {m : Nat} {p : Int} (hm : m ≠ 0) (hp : lastOf f m p ≤ p) (hR : ((lastOf f m p - f.leastPlace + 2) * 2 ^ f.fractionBits : Int) ≤ f.infRung) :
    f.read (f.nearest s m p) = .number s (m * 2 ^ (p - lastOf f m p).toNat) (lastOf f m p) := by
  have hl : f.leastPlace ≤ lastOf f m p := by unfold lastOf; omega
  have hml := Nat.log2_self_le hm
  have hml2 : m < 2 ^ (m.log2 + 1) := Nat.lt_log2_self
  have hbin : f.binade = 2 ^ f.fractionBits := rfl
  generalize hla : lastOf f m p = last at *
  have hmax : max (p + (m.log2 : Int) - f.fractionBits) f.leastPlace = last := hla
  have hlt : m * 2 ^ (p - last).toNat < 2 * f.binade := by
    have : m * 2 ^ (p - last).toNat < 2 ^ (m.log2 + 1) * 2 ^ (p - last).toNat := Nat.mul_lt_mul_of_pos_right hml2 (Nat.two_pow_pos _)
    rw [← Nat.pow_add] at this
    refine Nat.lt_of_lt_of_le this ?_
    rw [hbin, show 2 * 2 ^ f.fractionBits = 2 ^ (f.fractionBits + 1) by rw [Nat.pow_succ, Nat.mul_comm]]
    exact Nat.pow_le_pow_right (by decide) (by omega)
  have hcase : ((last - f.leastPlace).toNat = 0 ∧ m * 2 ^ (p - last).toNat < f.binade) ∨ (f.binade ≤ m * 2 ^ (p - last).toNat ∧ m * 2 ^ (p - last).toNat < 2 * f.binade) := by
    by_cases hb : m * 2 ^ (p - last).toNat < f.binade
    · refine .inl ⟨?_, hb⟩
      apply Classical.byContradiction
      intro q
      have hlast : last = p + m.log2 - f.fractionBits := by omega
      have : 2 ^ (m.log2 + (p - last).toNat) ≤ m * 2 ^ (p - last).toNat := by rw [Nat.pow_add]; exact Nat.mul_le_mul_right _ hml
      rw [show m.log2 + (p - last).toNat = f.fractionBits by omega, ← hbin] at this
      omega
    · exact .inr ⟨by omega, hlt⟩
  have hrung : (last - f.leastPlace).toNat * f.binade + m * 2 ^ (p - last).toNat < f.infRung := by
    have e1 : (((last - f.leastPlace).toNat + 2) * f.binade : Nat) ≤ f.infRung := by
      have : ((((last - f.leastPlace).toNat + 2) * f.binade : Nat) : Int) ≤ f.infRung := by
        rw [hbin, Int.natCast_mul, Int.natCast_add, Int.toNat_of_nonneg (by omega)]
        simpa using hR
      exact Int.ofNat_le.1 this
    rw [Nat.add_mul] at e1
    omega
  have e : f.nearest s m p = f.word s ((last - f.leastPlace).toNat * f.binade + m * 2 ^ (p - last).toNat) := by
    unfold Ieee.Format.nearest
    rw [if_neg hm]
    simp only [hmax]
    rw [show (last - p).toNat = 0 by omega, cut_zero, Nat.shiftLeft_eq, Nat.min_eq_left (Nat.le_of_lt hrung)]
  rw [e, read_kept hcase hrung]
  congr 1
  omega

theorem double_read {x : Nat} {s : Bool} {m : Nat} {p : Int} (h : FloatKind.f64.decode x = .number s m p) : m < 2 ^ 53 ∧ -1074 ≤ p ∧ p ≤ 971 := by
  have h : Ieee.double.read x = .number s m p := h
  unfold Ieee.Format.read at h
  simp only at h
  have e1 : Ieee.double.binade = 4503599627370496 := rfl
  have e2 : Ieee.double.infRung = 9218868437227405312 := by decide
  have e3 : Ieee.double.leastPlace = -1074 := by decide
  rw [e1, e2, e3] at h
  split at h
  · cases h
    exact ⟨by omega, by omega, by omega⟩
  · split at h
    · cases h
      exact ⟨by omega, by omega, by omega⟩
    · split at h <;> cases h

/-- the whole number below (for a negative number: of greater size) -/
theorem cut_down (s : Bool) (m d : Nat) : (s = false → Ieee.Toward.down.cut s m d * 2 ^ d ≤ m ∧ m < Ieee.Toward.down.cut s m d * 2 ^ d + 2 ^ d) ∧ (s = true → m ≤ Ieee.Toward.down.cut s m d * 2 ^ d ∧ Ieee.Toward.down.cut s m d * 2 ^ d < m + 2 ^ d) := by
  have key : Ieee.Toward.down.cut s m d = m / 2 ^ d + (s && m % 2 ^ d != 0).toNat := by
    unfold Ieee.Toward.cut
    simp only [Nat.shiftLeft_eq, Nat.one_mul]
    by_cases hd : d ≤ m.log2 + 2
    · rw [Nat.min_eq_left hd]
    · rw [Nat.min_eq_right (by omega)]
      have h1 : m < 2 ^ (m.log2 + 2) := Nat.lt_of_lt_of_le Nat.lt_log2_self (Nat.pow_le_pow_right (by decide) (by omega))
      have h2 : m < 2 ^ d := Nat.lt_of_lt_of_le h1 (Nat.pow_le_pow_right (by decide) (by omega))
      rw [Nat.div_eq_of_lt h1, Nat.div_eq_of_lt h2, Nat.mod_eq_of_lt h1, Nat.mod_eq_of_lt h2]
  have hdm := Nat.div_add_mod m (2 ^ d)
  have hmod := Nat.mod_lt m (Nat.two_pow_pos d)
  rw [Nat.mul_comm] at hdm
  rw [key]
  constructor
  · rintro rfl
    simp only [Bool.false_and, Bool.toNat_false, Nat.add_zero]
    omega
  · rintro rfl
    simp only [Bool.true_and]
    by_cases hz : m % 2 ^ d = 0
    · rw [hz]
      simp only [bne_self_eq_false, Bool.toNat_false, Nat.add_zero]
      omega
    · have : (m % 2 ^ d != 0) = true := by simp [hz]
      rw [this, Bool.toNat_true, Nat.add_mul, Nat.one_mul]
      omega

theorem near_exact2 {f : Ieee.Format} (s : Bool) {m K : Nat} {p : Int} (hm : m ≠ 0) (hL : f.leastPlace ≤ p) (hp : p < lastOf f m p) (hd : m = K * 2 ^ (lastOf f m p - p).toNat) (hR : ((lastOf f m p - f.leastPlace + 2) * 2 ^ f.fractionBits : Int) ≤ f.infRung) :
    f.read (f.nearest s m p) = .number s K (lastOf f m p) := by
  have hml := Nat.log2_self_le hm
  have hml2 : m < 2 ^ (m.log2 + 1) := Nat.lt_log2_self
  have hbin : f.binade = 2 ^ f.fractionBits := rfl
  generalize hla : lastOf f m p = last at *
  have hmax : max (p + (m.log2 : Int) - f.fractionBits) f.leastPlace = last := hla
  have hlast : last = p + m.log2 - f.fractionBits := by omega
  have hdd : (last - p).toNat + f.fractionBits = m.log2 := by omega
  have hK1 : f.binade ≤ K := by
    have : 2 ^ f.fractionBits * 2 ^ (last - p).toNat ≤ K * 2 ^ (last - p).toNat := by
      rw [← Nat.pow_add, Nat.add_comm, hdd, ← hd]; exact hml
    rw [hbin]
    exact Nat.le_of_mul_le_mul_right this (Nat.two_pow_pos _)
  have hK2 : K < 2 * f.binade := by
    have : K * 2 ^ (last - p).toNat < 2 ^ (f.fractionBits + 1) * 2 ^ (last - p).toNat := by
      rw [← hd, ← Nat.pow_add, show f.fractionBits + 1 + (last - p).toNat = m.log2 + 1 by omega]; exact hml2
    have := Nat.lt_of_mul_lt_mul_right this
    rw [hbin, Nat.mul_comm, ← Nat.pow_succ]
    exact this
  have hrung : (last - f.leastPlace).toNat * f.binade + K < f.infRung := by
    have e1 : (((last - f.leastPlace).toNat + 2) * f.binade : Nat) ≤ f.infRung := by
      have : ((((last - f.leastPlace).toNat + 2) * f.binade : Nat) : Int) ≤ f.infRung := by
        rw [hbin, Int.natCast_mul, Int.natCast_add, Int.toNat_of_nonneg (by omega)]
        simpa using hR
      exact Int.ofNat_le.1 this
    rw [Nat.add_mul] at e1
    omega
  have hcut : Ieee.Toward.even.cut s (m <<< (p - last).toNat) (last - p).toNat = K := by
    rw [show (p - last).toNat = 0 by omega, Nat.shiftLeft_eq, Nat.pow_zero, Nat.mul_one]
    generalize (last - p).toNat = d at *
    unfold Ieee.Toward.cut
    simp only [Nat.shiftLeft_eq, Nat.one_mul]
    rw [Nat.min_eq_left (by omega : d ≤ m.log2 + 2)]
    have e2 : m / 2 ^ d = K := by rw [hd, Nat.mul_div_cancel _ (Nat.two_pow_pos _)]
    have e3 : m % 2 ^ d = 0 := by rw [hd, Nat.mul_mod_left]
    rw [e2, e3]
    simp
  have e : f.nearest s m p = f.word s ((last - f.leastPlace).toNat * f.binade + K) := by
    unfold Ieee.Format.nearest
    rw [if_neg hm]
    simp only [hmax]
    rw [hcut, Nat.min_eq_left (Nat.le_of_lt hrung)]
  rw [e, read_kept (.inr ⟨hK1, hK2⟩) hrung]
  congr 1
  omega

theorem log2_shift {m : Nat} (hm : m ≠ 0) (k : Nat) : (m * 2 ^ k).log2 = m.log2 + k := by
  rw [Nat.log2_eq_iff (Nat.mul_ne_zero hm (Nat.ne_of_gt (Nat.two_pow_pos _)))]
  constructor
  · rw [Nat.pow_add]; exact Nat.mul_le_mul_right _ (Nat.log2_self_le hm)
  · rw [show m.log2 + k + 1 = m.log2 + 1 + k by omega, Nat.pow_add]; exact Nat.mul_lt_mul_of_pos_right Nat.lt_log2_self (Nat.two_pow_pos _)
theorem sub_scale (A C D : Nat) : ((A * D : Nat) - (C * D : Nat) : Int).natAbs = ((A : Int) - C).natAbs * D := by
  rw [Int.natCast_mul, Int.natCast_mul, ← Int.sub_mul, Int.natAbs_mul]
  rfl
theorem log2_lt53 {m : Nat} (h : m < 2 ^ 53) : m.log2 ≤ 52 := by
  by_cases hm : m = 0
  · subst hm; decide
  · have := (Nat.log2_lt hm).2 h
    omega

/-- what the whole number of a word reads as -/
theorem floor_read {x : Nat} {s : Bool} {m : Nat} {p : Int} (hd : FloatKind.f64.decode x = .number s m p) (hp : p ≤ 900) : ∃ K q, FloatKind.f64.decode (fRound .down x) = .number s K q ∧ ∀ b, b ≤ q → b ≤ 0 → K * 2 ^ (q - b).toNat = Ieee.Toward.down.cut s (m <<< p.toNat) (-p).toNat * 2 ^ (-b).toNat := by
  obtain ⟨hm53, hp1, hp2⟩ := double_read hd
  have hn : isNan .f64 x = false := by
    rw [isNan_eq, show FloatKind.f64.format.read x = .number s m p from hd]; rfl
  have hw : fRound .down x = FloatKind.f64.format.nearest s (Ieee.Toward.down.cut s (m <<< p.toNat) (-p).toNat) 0 := by
    unfold fRound
    rw [hn, cond_false, hd]
    exact canon_of_num (write_nan (d := .number s _ 0) rfl)
  have hf1 : (FloatKind.f64.format.fractionBits : Int) = 52 := rfl
  have hf2 : FloatKind.f64.format.leastPlace = -1074 := by decide
  have hf3 : (FloatKind.f64.format.infRung : Int) = 2047 * 2 ^ 52 := by decide
  show ∃ K q, FloatKind.f64.format.read (fRound .down x) = .number s K q ∧ _
  rw [hw]
  generalize hF : Ieee.Toward.down.cut s (m <<< p.toNat) (-p).toNat = F
  by_cases hF0 : F = 0
  · subst hF0
    have e : FloatKind.f64.format.nearest s 0 0 = FloatKind.f64.format.word s (0 * FloatKind.f64.format.binade + 0) := by
      unfold Ieee.Format.nearest
      rw [if_pos rfl, Nat.zero_mul]
    rw [e, read_kept (.inl ⟨rfl, by decide⟩) (by decide)]
    exact ⟨_, _, rfl, fun b _ _ => by rw [Nat.zero_mul, Nat.zero_mul]⟩
  · have hlastF : lastOf FloatKind.f64.format F 0 = max ((F.log2 : Int) - 52) (-1074) := by
      unfold lastOf
      rw [hf1, hf2, Int.zero_add]
    by_cases hpos : 0 ≤ p
    · have hFm : F = m * 2 ^ p.toNat := by
        rw [← hF, show (-p).toNat = 0 by omega, cut_zero, Nat.shiftLeft_eq]
      have hm0 : m ≠ 0 := fun z => hF0 (by rw [hFm, z, Nat.zero_mul])
      have hlog : F.log2 = m.log2 + p.toNat := by
        rw [hFm]
        exact log2_shift hm0 _
      have hlm := log2_lt53 hm53
      by_cases hle : lastOf FloatKind.f64.format F 0 ≤ 0
      · rw [near_exact s hF0 hle (by rw [hlastF, hf2, hf3]; have : (F.log2 : Int) ≤ 52 := by omega
                                     show (max ((F.log2 : Int) - 52) (-1074) - -1074 + 2) * 2 ^ 52 ≤ _
                                     omega)]
        refine ⟨_, _, rfl, fun b h1 h2 => ?_⟩
        rw [Nat.mul_assoc, ← Nat.pow_add]
        congr 2
        omega
      · have hl2 : lastOf FloatKind.f64.format F 0 = (m.log2 : Int) + p - 52 := by omega
        rw [near_exact2 (K := m * 2 ^ (p - lastOf FloatKind.f64.format F 0).toNat) s hF0 (by rw [hf2]; omega) (by omega) (by rw [hl2, Nat.mul_assoc, ← Nat.pow_add, hFm]; congr 2; omega) (by
          rw [hl2, hf2, hf3]
          show ((m.log2 : Int) + p - 52 - -1074 + 2) * 2 ^ 52 ≤ _
          omega)]
        refine ⟨_, _, rfl, fun b h1 h2 => ?_⟩
        rw [Nat.mul_assoc, ← Nat.pow_add, show F * 2 ^ (-b).toNat = m * 2 ^ (p.toNat + (-b).toNat) by rw [Nat.pow_add, ← Nat.mul_assoc, ← hFm]]
        congr 2
        omega
    · have hFle : F ≤ 2 ^ 52 := by
        have hc := cut_down s (m <<< p.toNat) (-p).toNat
        rw [hF, show p.toNat = 0 by omega, Nat.shiftLeft_eq, Nat.pow_zero, Nat.mul_one] at hc
        have h2 : 2 ≤ 2 ^ (-p).toNat := by
          have : (2 : Nat) ^ 1 ≤ 2 ^ (-p).toNat := Nat.pow_le_pow_right (by decide) (by omega)
          simpa using this
        have hlt : F * 2 ^ (-p).toNat < m + 2 ^ (-p).toNat := by
          cases s
          · have := (hc.1 rfl).1
            have := Nat.two_pow_pos (-p).toNat
            omega
          · exact (hc.2 rfl).2
        apply Classical.byContradiction
        intro q
        have h3 : (2 ^ 52 + 1) * 2 ^ (-p).toNat ≤ F * 2 ^ (-p).toNat := Nat.mul_le_mul_right _ (by omega)
        have h4 : 2 ^ 52 * 2 ≤ 2 ^ 52 * 2 ^ (-p).toNat := Nat.mul_le_mul_left _ h2
        rw [Nat.add_mul, Nat.one_mul] at h3
        omega
      have hlF : F.log2 ≤ 52 := log2_lt53 (Nat.lt_of_le_of_lt hFle (by decide))
      rw [near_exact s hF0 (by rw [hlastF]; omega) (by
        rw [hlastF, hf2, hf3]
        show (max ((F.log2 : Int) - 52) (-1074) - -1074 + 2) * 2 ^ 52 ≤ _
        omega)]
      refine ⟨_, _, rfl, fun b h1 h2 => ?_⟩
      rw [Nat.mul_assoc, ← Nat.pow_add]
      congr 2
      have : lastOf FloatKind.f64.format F 0 ≤ 0 := by rw [hlastF]; omega
      omega

/-- what is above the whole number is at most one -/
theorem floor_diff {x : Nat} {s : Bool} {m : Nat} {p : Int} (hd : FloatKind.f64.decode x = .number s m p) (hp : p ≤ 900) : pw .f64 (fSub .f64 x (fRound .down x)) 0 := by
  obtain ⟨K, q, hr, hK⟩ := floor_read hd hp
  have e : ∃ g, fSub .f64 x (fRound .down x) = canon .f64 (FloatKind.f64.encode (.number g (Ieee.signed s m (p - min p q).toNat + Ieee.signed (!s) K (q - min p q).toNat).natAbs (min p q))) := by
    unfold fSub Ieee.Format.sub
    rw [show FloatKind.f64.format.read x = .number s m p from hd, show FloatKind.f64.format.read (fRound .down x) = .number s K q from hr]
    exact ⟨_, rfl⟩
  obtain ⟨g, e⟩ := e
  have hl : le2 (Ieee.signed s m (p - min p q).toNat + Ieee.signed (!s) K (q - min p q).toNat).natAbs (min p q) 0 := by
    refine le2_of (min (min p q) 0) (by omega) (by omega) ?_
    have hk := hK (min (min p q) 0) (by omega) (by omega)
    generalize hF : Ieee.Toward.down.cut s (m <<< p.toNat) (-p).toNat = F at hk
    generalize hb : min (min p q) 0 = b at *
    have hdiff : (Ieee.signed s m (p - min p q).toNat + Ieee.signed (!s) K (q - min p q).toNat).natAbs * 2 ^ (min p q - b).toNat = ((m * 2 ^ (p - b).toNat : Nat) - (K * 2 ^ (q - b).toNat : Nat) : Int).natAbs := by
      rw [pow_split (by omega : min p q ≤ p) b (by omega), pow_split (by omega : min p q ≤ q) b (by omega), ← Nat.mul_assoc, ← Nat.mul_assoc, sub_scale]
      congr 1
      unfold Ieee.signed
      rw [Nat.shiftLeft_eq, Nat.shiftLeft_eq]
      cases s
      · simp only [Bool.not_false, if_true, Bool.false_eq_true, if_false]
        rfl
      · simp only [Bool.not_true, if_true, Bool.false_eq_true, if_false]
        omega
    rw [hdiff, hk]
    by_cases hpos : 0 ≤ p
    · have hFm : F = m * 2 ^ p.toNat := by rw [← hF, show (-p).toNat = 0 by omega, cut_zero, Nat.shiftLeft_eq]
      rw [hFm, Nat.mul_assoc, ← Nat.pow_add, show p.toNat + (-b).toNat = (p - b).toNat by omega]
      simp
    · have hc := cut_down s (m <<< p.toNat) (-p).toNat
      rw [hF, show p.toNat = 0 by omega, Nat.shiftLeft_eq, Nat.pow_zero, Nat.mul_one] at hc
      have h1 : F * 2 ^ (-b).toNat = F * 2 ^ (-p).toNat * 2 ^ (p - b).toNat := by rw [Nat.mul_assoc, ← Nat.pow_add]; congr 2; omega
      have h2 : (2 : Nat) ^ (0 - b).toNat = 2 ^ (-p).toNat * 2 ^ (p - b).toNat := by rw [← Nat.pow_add]; congr 1; omega
      rw [h1, h2]
      have h3 : ((m : Int) - (F * 2 ^ (-p).toNat : Nat)).natAbs ≤ 2 ^ (-p).toNat := by
        cases s
        · have := hc.1 rfl
          omega
        · have := hc.2 rfl
          omega
      have h4 : ((m * 2 ^ (p - b).toNat : Nat) - (F * 2 ^ (-p).toNat * 2 ^ (p - b).toNat : Nat) : Int).natAbs = ((m : Int) - (F * 2 ^ (-p).toNat : Nat)).natAbs * 2 ^ (p - b).toNat := by
        exact sub_scale _ _ _
      rw [h4]
      exact Nat.mul_le_mul_right _ h3
  obtain ⟨m', p', e1, e2⟩ := pw_write (k := .f64) g hl (by decide) (by decide)
  rw [e]
  exact ⟨_, m', p', e1, e2⟩
end Go.Proofs.YtnndahnmlmgenaaGreat
