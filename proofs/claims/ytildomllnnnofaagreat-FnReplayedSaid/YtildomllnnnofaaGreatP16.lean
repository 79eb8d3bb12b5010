import Derived.Test.YtildomllnnnofaaGreatP15
/- Functions of the program and of the reference in plain terms. -/
namespace Go.Proofs.YtildomllnnnofaaGreat
open Go Go.Tm
set_option linter.unusedVariables false
set_option linter.unusedSimpArgs false
set_option linter.unusedSectionVars false
theorem qaai {M d q r : Nat} (hM : M = q * 2 ^ (d + 3) + r) (hr : r ≤ 2 ^ d) (hd : d + 3 ≤ M.log2 + 2) : Ieee.Toward.even.cut false M (d + 3) = q := by
  have h8 : 2 ^ (d + 3) = 8 * 2 ^ d := by rw [Nat.pow_add]; omega
  have hp : 0 < 2 ^ d := Nat.two_pow_pos d
  have e2 : M / 2 ^ (d + 3) = q := by
    rw [hM, Nat.mul_comm, Nat.mul_add_div (Nat.two_pow_pos _), Nat.div_eq_of_lt (by omega)]; omega
  have e3 : M % 2 ^ (d + 3) = r := by
    rw [hM, Nat.mul_comm, Nat.mul_add_mod, Nat.mod_eq_of_lt (by omega)]
  unfold Ieee.Toward.cut
  simp only [Nat.shiftLeft_eq, Nat.one_mul]
  rw [Nat.min_eq_left hd, e2, e3]
  have h1 : ¬ (2 ^ (d + 3) < 2 * r) := by omega
  have h2 : ¬ (2 ^ (d + 3) = 2 * r) := by omega
  have h3 : ¬ (2 * r > 2 ^ (d + 3)) := by omega
  have h4 : ¬ (2 * r = 2 ^ (d + 3)) := by omega
  simp [h1, h2, h3, h4]
theorem qyv {M u : Nat} {P : Int} (hP : P + u = 20) (h1 : 2 ^ (u + 26) < M) (h2 : M ≤ 2 ^ (u + 26) + 2 ^ u) :
    (rungOf FloatKind.f32.format M P : Int) ≤ (46 - 23 - -149 + 1) * 2 ^ 23 := by
  have h26 : 2 ^ (u + 26) = 67108864 * 2 ^ u := by rw [Nat.pow_add]; omega
  have hp : 0 < 2 ^ u := Nat.two_pow_pos u
  have hm : M ≠ 0 := by omega
  have hl : M.log2 = u + 26 := by
    have a : u + 26 ≤ M.log2 := (Nat.le_log2 hm).2 (Nat.le_of_lt h1)
    have b : M.log2 < u + 27 := (Nat.log2_lt hm).2 (by rw [Nat.pow_succ]; omega)
    omega
  unfold rungOf
  rw [if_neg hm]
  simp only
  have hf : (FloatKind.f32.format.fractionBits : Int) = 23 := rfl
  have hL : FloatKind.f32.format.leastPlace = -149 := rfl
  rw [hf, hL, hl, show max (P + ((u + 26 : Nat) : Int) - 23) (-149) = 23 by omega]
  rw [show (P - 23).toNat = 0 by omega, show (23 - P).toNat = u + 3 by omega, Nat.shiftLeft_eq, Nat.pow_zero, Nat.mul_one]
  have h83 : 8388608 * 2 ^ (u + 3) = 2 ^ (u + 26) := by rw [h26, Nat.pow_add]; omega
  rw [qaai (M := M) (d := u) (q := 8388608) (r := M - 2 ^ (u + 26)) (by omega) (by omega) (by omega)]
  have hb : FloatKind.f32.format.binade = 8388608 := rfl
  rw [hb]
  refine Int.le_trans (Int.ofNat_le.2 (Nat.min_le_left _ _)) ?_
  decide
theorem qrs (s : Bool) {M : Nat} {P : Int} (h : ∀ b, b ≤ P → b ≤ 20 → M * 2 ^ (P - b).toNat ≤ 2 ^ (46 - b).toNat + 2 ^ (20 - b).toNat) :
    ∃ m' p', FloatKind.f32.decode (canon .f32 (FloatKind.f32.encode (.number s M P))) = .number s m' p' ∧ le2 m' p' 46 := by
  by_cases h46 : le2 M P 46
  · exact qb5 (k := .f32) s h46 (by decide) (by decide)
  · have hg : ¬ M * 2 ^ (P - min P 20).toNat ≤ 2 ^ (46 - min P 20).toNat := fun q => h46 (qdh (min P 20) (by omega) (by omega) q)
    have hh := h (min P 20) (by omega) (by omega)
    have hP : P ≤ 20 := by
      rcases Int.lt_or_le 20 P with hlt | hle
      · exfalso
        rw [show min P 20 = 20 by omega, show (46 - 20 : Int).toNat = 26 by omega] at hh hg
        rw [show (20 - 20 : Int).toNat = 0 by omega] at hh
        obtain ⟨k, hk⟩ : ∃ k : Nat, (P - 20).toNat = k + 1 := ⟨(P - 20).toNat - 1, by omega⟩
        rw [hk, Nat.pow_succ] at hh hg
        have e : M * (2 ^ k * 2) = 2 * (M * 2 ^ k) := by rw [← Nat.mul_assoc, Nat.mul_comm]
        rw [e] at hh hg
        omega
      · exact hle
    rw [show min P 20 = P by omega, show (P - P).toNat = 0 by omega, Nat.pow_zero, Nat.mul_one] at hh hg
    obtain ⟨u, hu⟩ : ∃ u : Nat, P + u = 20 := ⟨(20 - P).toNat, by omega⟩
    rw [show (46 - P).toNat = u + 26 by omega] at hh hg
    rw [show (20 - P).toNat = u by omega] at hh
    have hn : isNan .f32 (FloatKind.f32.encode (.number s M P)) = false := qcm rfl
    rw [qai hn]
    show ∃ m' p', FloatKind.f32.format.read (FloatKind.f32.format.nearest s M P) = .number s m' p' ∧ le2 m' p' 46
    rw [qdr]
    have e := qyv (M := M) (u := u) (P := P) hu (by omega) hh
    have hR : ((46 - 23 - -149 + 1) * 2 ^ 23 : Int) < (FloatKind.f32.format.infRung : Int) := by decide
    exact qng (f := FloatKind.f32.format) (t := 46) (by omega) e (by decide)
theorem qzp {m n : Nat} {p q : Int} (hm : le2 m p 46) (hn : le2 n q 20) (s s' : Bool) : ∀ b, b ≤ min p q → b ≤ 20 →
    (Ieee.signed s m (p - min p q).toNat + Ieee.signed s' n (q - min p q).toNat).natAbs * 2 ^ (min p q - b).toNat ≤ 2 ^ (46 - b).toNat + 2 ^ (20 - b).toNat := by
  intro b h1 h2
  have g1 := hm b (by omega) (by omega)
  have g2 := hn b (by omega) (by omega)
  have h3 := Int.natAbs_add_le (Ieee.signed s m (p - min p q).toNat) (Ieee.signed s' n (q - min p q).toNat)
  rw [qgn, qgn] at h3
  have h4 := Nat.mul_le_mul_right (2 ^ (min p q - b).toNat) h3
  rw [Nat.add_mul, Nat.mul_assoc, Nat.mul_assoc, ← qcl (by omega : min p q ≤ p) _ (by omega), ← qcl (by omega : min p q ≤ q) _ (by omega)] at h4
  omega
theorem qrk {a b : Nat} (ha : pw .f32 a 46) (hb : pw .f32 b 20) : pw .f32 (fAdd .f32 a b) 46 := by
  obtain ⟨s, m, p, hd, hm⟩ := ha
  obtain ⟨s', n, q, hd', hn⟩ := hb
  have e : ∃ g, fAdd .f32 a b = canon .f32 (FloatKind.f32.encode (.number g (Ieee.signed s m (p - min p q).toNat + Ieee.signed s' n (q - min p q).toNat).natAbs (min p q))) := by
    unfold fAdd Ieee.Format.add
    rw [show FloatKind.f32.format.read a = .number s m p from hd, show FloatKind.f32.format.read b = .number s' n q from hd']
    exact ⟨_, rfl⟩
  obtain ⟨g, e⟩ := e
  obtain ⟨m', p', e1, e2⟩ := qrs g (qzp hm hn s s')
  rw [e]
  exact ⟨_, m', p', e1, e2⟩
theorem qnl {x : Nat} {t : Int} (h : pw .f32 x t) : finB x = true := by
  obtain ⟨s, m, p, hd, -⟩ := h
  exact qbr.2 ⟨s, m, p, hd⟩
end Go.Proofs.YtildomllnnnofaaGreat
