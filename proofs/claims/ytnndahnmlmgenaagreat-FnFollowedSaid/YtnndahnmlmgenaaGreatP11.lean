/- Functions of the program and of the reference in plain terms. -/
import Derived.Test.YtnndahnmlmgenaaGreatP10
namespace Go.Proofs.YtnndahnmlmgenaaGreat
open Go Go.Tm
set_option linter.unusedVariables false
set_option linter.unusedSimpArgs false
set_option linter.unusedSectionVars false
/-! ### sizes by powers of two, kept by rounding -/
/-- m * 2 ^ p is at most 2 ^ t -/
def le2 (m : Nat) (p t : Int) : Prop := ∀ b, b ≤ p → b ≤ t → m * 2 ^ (p - b).toNat ≤ 2 ^ (t - b).toNat
theorem pow_split {a b : Int} (h : b ≤ a) (c : Int) (h2 : c ≤ b) : (2 : Nat) ^ (a - c).toNat = 2 ^ (a - b).toNat * 2 ^ (b - c).toNat := by
  rw [← Nat.pow_add]; congr 1; omega
theorem le2_of {m : Nat} {p t : Int} (b : Int) (h1 : b ≤ p) (h2 : b ≤ t) (h : m * 2 ^ (p - b).toNat ≤ 2 ^ (t - b).toNat) : le2 m p t := fun c c1 c2 => by
  by_cases hc : c ≤ b
  · rw [pow_split h1 c hc, pow_split h2 c hc, ← Nat.mul_assoc]
    exact Nat.mul_le_mul_right _ h
  · have hb : b ≤ c := by omega
    rw [pow_split c1 b hb, pow_split c2 b hb, ← Nat.mul_assoc] at h
    exact Nat.le_of_mul_le_mul_right h (Nat.two_pow_pos _)
theorem le2_zero (p t : Int) : le2 0 p t := fun _ _ _ => by rw [Nat.zero_mul]; exact Nat.zero_le _
theorem le2_up {m : Nat} {p t u : Int} (h : le2 m p t) (hu : t ≤ u) : le2 m p u := by
  have h1 := h (min p t) (by omega) (by omega)
  exact le2_of (min p t) (by omega) (by omega) (Nat.le_trans h1 (Nat.pow_le_pow_right (by decide) (by omega)))
theorem le2_top {m : Nat} {p t : Int} (hm : m ≠ 0) (h : le2 m p t) : p + m.log2 ≤ t := by
  have h1 := h (min p t) (by omega) (by omega)
  have h2 : 2 ^ m.log2 ≤ m := Nat.log2_self_le hm
  have h3 : 2 ^ (m.log2 + (p - min p t).toNat) ≤ 2 ^ (t - min p t).toNat := by
    rw [Nat.pow_add]
    exact Nat.le_trans (Nat.mul_le_mul_right _ h2) h1
  have := (Nat.pow_le_pow_iff_right (a := 2) (by decide)).1 h3
  omega
theorem le2_eq {m : Nat} {p t : Int} (hm : m ≠ 0) (h : le2 m p t) (ht : p + m.log2 = t) : m = 2 ^ m.log2 := by
  have h1 := h p (Int.le_refl _) (by omega)
  rw [show (p - p).toNat = 0 by omega, Nat.pow_zero, Nat.mul_one, show (t - p).toNat = m.log2 by omega] at h1
  exact Nat.le_antisymm h1 (Nat.log2_self_le hm)

theorem rung_le2 {f : Ieee.Format} {m : Nat} {p t : Int} (hm : m ≠ 0) (h : le2 m p t) (ht : f.leastPlace + f.fractionBits + 1 ≤ t) : (rungOf f m p : Int) ≤ (t - f.fractionBits - f.leastPlace + 1) * 2 ^ f.fractionBits := by
  have htop := le2_top hm h
  by_cases he : p + m.log2 = t
  · have hpow := le2_eq hm h he
    unfold rungOf
    rw [if_neg hm]
    simp only
    rw [show max (p + (m.log2 : Int) - f.fractionBits) f.leastPlace = t - f.fractionBits by omega]
    have hk : Ieee.Toward.even.cut false (m <<< (p - (t - f.fractionBits)).toNat) (t - f.fractionBits - p).toNat = 2 ^ f.fractionBits := by
      by_cases hp : t - f.fractionBits ≤ p
      · rw [show (t - f.fractionBits - p).toNat = 0 by omega, cut_zero, Nat.shiftLeft_eq]
        rw [hpow, ← Nat.pow_add]
        congr 1
        omega
      · rw [show (p - (t - f.fractionBits)).toNat = 0 by omega, Nat.shiftLeft_eq, Nat.pow_zero, Nat.mul_one]
        generalize hd : (t - f.fractionBits - p).toNat = d
        have hd' : d + f.fractionBits = m.log2 := by omega
        have e1 : m = 2 ^ f.fractionBits * 2 ^ d := by rw [← Nat.pow_add, Nat.add_comm, hd']; exact hpow
        unfold Ieee.Toward.cut
        simp only [Nat.shiftLeft_eq, Nat.one_mul]
        rw [Nat.min_eq_left (by omega : d ≤ m.log2 + 2)]
        have e2 : m / 2 ^ d = 2 ^ f.fractionBits := by rw [e1, Nat.mul_div_cancel _ (Nat.two_pow_pos _)]
        have e3 : m % 2 ^ d = 0 := by rw [e1, Nat.mul_mod_left]
        rw [e2, e3]
        simp
    rw [hk]
    have h0 : 0 ≤ t - f.fractionBits - f.leastPlace := by omega
    refine Int.le_trans (Int.ofNat_le.2 (Nat.min_le_left _ _)) (Int.le_of_eq ?_)
    have hbin : f.binade = 2 ^ f.fractionBits := rfl
    rw [hbin, Int.natCast_add, Int.natCast_mul, Int.toNat_of_nonneg h0, Int.add_mul]
    simp
  · obtain ⟨r, e1, e2, e3⟩ := nearest_rung f false m p hm
    have e4 := nearest_rungOf f false m p
    rw [e4] at e1
    have e5 : rungOf f m p = r := e1
    rw [e5]
    refine Int.le_trans e3 (Int.mul_le_mul_of_nonneg_right (by omega) ?_)
    exact Int.le_of_lt (Int.pow_pos (by decide))

theorem read_le2 {f : Ieee.Format} {s : Bool} {r : Nat} {t : Int} (hr : r < f.infRung) (h : (r : Int) ≤ (t - f.fractionBits - f.leastPlace + 1) * 2 ^ f.fractionBits) (ht : f.leastPlace + f.fractionBits + 1 ≤ t) : ∃ m p, f.read (f.word s r) = .number s m p ∧ le2 m p t := by
  have h1 : f.infRung < f.signWeight := Ieee.Format.infRung_lt f
  have hm : f.word s r % f.signWeight = r := word_mod s (by omega)
  have hs : (f.word s r / f.signWeight % 2 == 1) = s := by
    have hw : f.signWeight ≠ 0 := by omega
    cases s
    · show (r / f.signWeight % 2 == 1) = false
      rw [Nat.div_eq_of_lt (by omega)]; rfl
    · show ((f.signWeight + r) / f.signWeight % 2 == 1) = true
      rw [Nat.add_div_left _ (by omega), Nat.div_eq_of_lt (by omega)]; rfl
  have hbin : f.binade = 2 ^ f.fractionBits := rfl
  unfold Ieee.Format.read
  simp only [hm, hs]
  by_cases hb : r < f.binade
  · rw [if_pos hb]
    refine ⟨_, _, rfl, le2_of f.leastPlace (Int.le_refl _) (by omega) ?_⟩
    rw [show (f.leastPlace - f.leastPlace).toNat = 0 by omega, Nat.pow_zero, Nat.mul_one]
    rw [hbin] at hb
    exact Nat.le_trans (Nat.le_of_lt hb) (Nat.pow_le_pow_right (by decide) (by omega))
  · rw [if_neg hb, if_pos hr]
    refine ⟨_, _, rfl, le2_of f.leastPlace (by omega) (by omega) ?_⟩
    have hpos : 0 < f.binade := by rw [hbin]; exact Nat.two_pow_pos _
    have hdm := Nat.div_add_mod r f.binade
    have hmod := Nat.mod_lt r hpos
    have he1 : 1 ≤ r / f.binade := (Nat.one_le_div_iff hpos).2 (by omega)
    generalize hE : r / f.binade = e at *
    generalize hG : r % f.binade = g at *
    rw [show (f.leastPlace + ((e - 1 : Nat) : Int) - f.leastPlace).toNat = e - 1 by omega]
    obtain ⟨R, hR⟩ : ∃ R : Nat, (R : Int) = t - f.fractionBits - f.leastPlace + 1 := ⟨(t - f.fractionBits - f.leastPlace + 1).toNat, Int.toNat_of_nonneg (by omega)⟩
    have hle : r ≤ R * f.binade := by
      rw [← hR] at h
      have : ((R * f.binade : Nat) : Int) = (R : Int) * 2 ^ f.fractionBits := by rw [hbin, Int.natCast_mul]; simp
      rw [← this] at h
      exact Int.ofNat_le.1 h
    rw [show (t - f.leastPlace).toNat = f.fractionBits + (R - 1) by omega, Nat.pow_add, ← hbin]
    have heR : e ≤ R := by
      apply Classical.byContradiction
      intro q
      have : (R + 1) * f.binade ≤ e * f.binade := Nat.mul_le_mul_right _ (by omega)
      rw [Nat.succ_mul] at this
      rw [Nat.mul_comm] at hdm
      omega
    by_cases heq : e = R
    · subst heq
      have : g = 0 := by rw [Nat.mul_comm] at hdm; omega
      rw [this, Nat.add_zero]
      exact Nat.le_refl _
    · have h2 : f.binade + g ≤ f.binade * 2 := by omega
      refine Nat.le_trans (Nat.mul_le_mul_right _ h2) ?_
      rw [Nat.mul_assoc]
      refine Nat.mul_le_mul_left _ ?_
      rw [show (2 : Nat) * 2 ^ (e - 1) = 2 ^ (e - 1 + 1) by rw [Nat.pow_succ, Nat.mul_comm]]
      exact Nat.pow_le_pow_right (by decide) (by omega)

/-- a number of this kind, at most 2 ^ t -/
def pw (k : FloatKind) (x : Nat) (t : Int) : Prop := ∃ s m p, k.decode x = .number s m p ∧ le2 m p t
def pwLo : FloatKind → Int
  | .f32 => -125
  | .f64 => -1021
def pwHi : FloatKind → Int
  | .f32 => 127
  | .f64 => 1023
theorem pw_up {k : FloatKind} {x : Nat} {t u : Int} (h : pw k x t) (hu : t ≤ u) : pw k x u := by
  obtain ⟨s, m, p, h1, h2⟩ := h
  exact ⟨s, m, p, h1, le2_up h2 hu⟩
theorem pw_write {k : FloatKind} (s : Bool) {m : Nat} {p t : Int} (h : le2 m p t) (h1 : pwLo k ≤ t) (h2 : t ≤ pwHi k) : ∃ m' p', k.decode (canon k (k.encode (.number s m p))) = .number s m' p' ∧ le2 m' p' t := by
  have hn : isNan k (k.encode (.number s m p)) = false := write_nan rfl
  rw [canon_of_num hn]
  show ∃ m' p', k.format.read (k.format.nearest s m p) = .number s m' p' ∧ le2 m' p' t
  rw [nearest_rungOf]
  have hlo : k.format.leastPlace + k.format.fractionBits + 1 ≤ t := by cases k <;> exact h1
  have hR : (t - k.format.fractionBits - k.format.leastPlace + 1) * 2 ^ k.format.fractionBits < (k.format.infRung : Int) := by
    cases k
    · show (t - 23 - -149 + 1) * 2 ^ 23 < ((2 ^ 8 - 1) * 2 ^ 23 : Nat)
      have h2 : t ≤ 127 := h2
      omega
    · show (t - 52 - -1074 + 1) * 2 ^ 52 < ((2 ^ 11 - 1) * 2 ^ 52 : Nat)
      have h2 : t ≤ 1023 := h2
      omega
  by_cases hm : m = 0
  · have e : rungOf k.format m p = 0 := by unfold rungOf; rw [if_pos hm]
    rw [e]
    refine read_le2 (by cases k <;> decide) ?_ hlo
    exact Int.mul_nonneg (by omega) (Int.le_of_lt (Int.pow_pos (by decide)))
  · have e := rung_le2 (f := k.format) hm h hlo
    exact read_le2 (by omega) e hlo

theorem pw_mul {k : FloatKind} {a b : Nat} {t u : Int} (ha : pw k a t) (hb : pw k b u) (h1 : pwLo k ≤ t + u) (h2 : t + u ≤ pwHi k) : pw k (fMul k a b) (t + u) := by
  obtain ⟨s, m, p, hd, hm⟩ := ha
  obtain ⟨s', n, q, hd', hn⟩ := hb
  have e : fMul k a b = canon k (k.encode (.number (s ^^ s') (m * n) (p + q))) := by
    unfold fMul Ieee.Format.mul
    rw [show k.format.read a = .number s m p from hd, show k.format.read b = .number s' n q from hd']
    rfl
  have hl : le2 (m * n) (p + q) (t + u) := by
    have g1 := hm (min p t) (by omega) (by omega)
    have g2 := hn (min q u) (by omega) (by omega)
    refine le2_of (min p t + min q u) (by omega) (by omega) ?_
    have x1 : (2 : Nat) ^ (p + q - (min p t + min q u)).toNat = 2 ^ (p - min p t).toNat * 2 ^ (q - min q u).toNat := by rw [← Nat.pow_add]; congr 1; omega
    have x2 : (2 : Nat) ^ (t + u - (min p t + min q u)).toNat = 2 ^ (t - min p t).toNat * 2 ^ (u - min q u).toNat := by rw [← Nat.pow_add]; congr 1; omega
    rw [x1, x2]
    have := Nat.mul_le_mul g1 g2
    rw [Nat.mul_mul_mul_comm] at this
    exact this
  obtain ⟨m', p', e1, e2⟩ := pw_write (k := k) (s ^^ s') hl h1 h2
  rw [e]
  exact ⟨_, m', p', e1, e2⟩

theorem abs_signed (s : Bool) (m k : Nat) : (Ieee.signed s m k).natAbs = m * 2 ^ k := by
  unfold Ieee.signed
  rw [Nat.shiftLeft_eq]
  cases s <;> simp [Int.natAbs_mul, Int.natAbs_pow]

theorem le2_sum {m n : Nat} {p q t : Int} (hm : le2 m p t) (hn : le2 n q t) (s s' : Bool) : le2 (Ieee.signed s m (p - min p q).toNat + Ieee.signed s' n (q - min p q).toNat).natAbs (min p q) (t + 1) := by
  have g1 := hm (min (min p q) t) (by omega) (by omega)
  have g2 := hn (min (min p q) t) (by omega) (by omega)
  refine le2_of (min (min p q) t) (by omega) (by omega) ?_
  have h1 := Int.natAbs_add_le (Ieee.signed s m (p - min p q).toNat) (Ieee.signed s' n (q - min p q).toNat)
  rw [abs_signed, abs_signed] at h1
  have h2 := Nat.mul_le_mul_right (2 ^ (min p q - min (min p q) t).toNat) h1
  rw [Nat.add_mul, Nat.mul_assoc, Nat.mul_assoc, ← pow_split (by omega : min p q ≤ p) _ (by omega), ← pow_split (by omega : min p q ≤ q) _ (by omega)] at h2
  refine Nat.le_trans h2 ?_
  rw [show (t + 1 - min (min p q) t).toNat = (t - min (min p q) t).toNat + 1 by omega, Nat.pow_succ]
  omega

theorem pw_add {k : FloatKind} {a b : Nat} {t : Int} (ha : pw k a t) (hb : pw k b t) (h1 : pwLo k ≤ t + 1) (h2 : t + 1 ≤ pwHi k) : pw k (fAdd k a b) (t + 1) := by
  obtain ⟨s, m, p, hd, hm⟩ := ha
  obtain ⟨s', n, q, hd', hn⟩ := hb
  have e : ∃ g, fAdd k a b = canon k (k.encode (.number g (Ieee.signed s m (p - min p q).toNat + Ieee.signed s' n (q - min p q).toNat).natAbs (min p q))) := by
    unfold fAdd Ieee.Format.add
    rw [show k.format.read a = .number s m p from hd, show k.format.read b = .number s' n q from hd']
    exact ⟨_, rfl⟩
  obtain ⟨g, e⟩ := e
  obtain ⟨m', p', e1, e2⟩ := pw_write (k := k) g (le2_sum hm hn s s') h1 h2
  rw [e]
  exact ⟨_, m', p', e1, e2⟩

theorem pw_sub {k : FloatKind} {a b : Nat} {t : Int} (ha : pw k a t) (hb : pw k b t) (h1 : pwLo k ≤ t + 1) (h2 : t + 1 ≤ pwHi k) : pw k (fSub k a b) (t + 1) := by
  obtain ⟨s, m, p, hd, hm⟩ := ha
  obtain ⟨s', n, q, hd', hn⟩ := hb
  have e : ∃ g, fSub k a b = canon k (k.encode (.number g (Ieee.signed s m (p - min p q).toNat + Ieee.signed (!s') n (q - min p q).toNat).natAbs (min p q))) := by
    unfold fSub Ieee.Format.sub
    rw [show k.format.read a = .number s m p from hd, show k.format.read b = .number s' n q from hd']
    exact ⟨_, rfl⟩
  obtain ⟨g, e⟩ := e
  obtain ⟨m', p', e1, e2⟩ := pw_write (k := k) g (le2_sum hm hn s (!s')) h1 h2
  rw [e]
  exact ⟨_, m', p', e1, e2⟩

/-- a quotient is at most 2 ^ v where the one number is at most 2 ^ v times the other -/
theorem pw_divS {k : FloatKind} {a b : Nat} {v : Int} {s s' : Bool} {m n : Nat} {i j : Int} (ha : k.decode a = .number s m i) (hb : k.decode b = .number s' n j) (hn : n ≠ 0)
    (h : ∀ c, c ≤ i → c ≤ j + v → m * 2 ^ (i - c).toNat ≤ n * 2 ^ (j + v - c).toNat) (h1 : pwLo k ≤ v) (h2 : v ≤ pwHi k) : ∃ m' p', k.decode (fDiv k a b) = .number (s ^^ s') m' p' ∧ le2 m' p' v := by
  have e : fDiv k a b = canon k (k.encode (.number (s ^^ s') (2 * ((m <<< (k.format.fractionBits + 2 + n.log2 - m.log2)) / n) + ((m <<< (k.format.fractionBits + 2 + n.log2 - m.log2)) % n != 0).toNat) (i - j - (k.format.fractionBits + 2 + n.log2 - m.log2 : Nat) - 1))) := by
    unfold fDiv Ieee.Format.div
    rw [show k.format.read a = .number s m i from ha, show k.format.read b = .number s' n j from hb]
    simp only [Ieee.Datum.quotient, if_neg hn, Option.map_some, orNan]
    rfl
  generalize hmore : k.format.fractionBits + 2 + n.log2 - m.log2 = more at e
  have hl : le2 (2 * ((m <<< more) / n) + ((m <<< more) % n != 0).toNat) (i - j - (more : Nat) - 1) v := by
    by_cases hm0 : m = 0
    · subst hm0
      simp only [Nat.zero_shiftLeft, Nat.zero_div, Nat.zero_mod]
      exact le2_zero _ _
    · -- the place of the last digit lies below 2 ^ v
      have hnl := Nat.log2_self_le hn
      have hnl2 : n < 2 ^ (n.log2 + 1) := Nat.lt_log2_self
      have hml := Nat.log2_self_le hm0
      have htop : i + m.log2 ≤ j + n.log2 + v := by
        have g1 := h (min i (j + v)) (by omega) (by omega)
        have g2 : 2 ^ (m.log2 + (i - min i (j + v)).toNat) < 2 ^ (n.log2 + 1 + (j + v - min i (j + v)).toNat) := by
          rw [Nat.pow_add, Nat.pow_add]
          exact Nat.lt_of_le_of_lt (Nat.le_trans (Nat.mul_le_mul_right _ hml) g1) (Nat.mul_lt_mul_of_pos_right hnl2 (Nat.two_pow_pos _))
        have := (Nat.pow_lt_pow_iff_right (a := 2) (by decide)).1 g2
        omega
      have hplace : i - j - (more : Nat) ≤ v := by omega
      refine le2_of (i - j - (more : Nat) - 1) (Int.le_refl _) (by omega) ?_
      rw [show (i - j - (more : Nat) - 1 - (i - j - (more : Nat) - 1)).toNat = 0 by omega, Nat.pow_zero, Nat.mul_one]
      obtain ⟨T, hT⟩ : ∃ T : Nat, (v - (i - j - (more : Nat) - 1)).toNat = T + 1 := ⟨(v - (i - j - (more : Nat))).toNat, by omega⟩
      rw [hT, Nat.pow_succ, Nat.shiftLeft_eq]
      have hq : m * 2 ^ more ≤ n * 2 ^ T := by
        have g1 := h (min i (j + v) - more) (by omega) (by omega)
        have g2 : m * 2 ^ more * 2 ^ (i - min i (j + v)).toNat ≤ n * 2 ^ T * 2 ^ (i - min i (j + v)).toNat := by
          rw [Nat.mul_assoc, Nat.mul_assoc, ← Nat.pow_add, ← Nat.pow_add]
          rw [show more + (i - min i (j + v)).toNat = (i - (min i (j + v) - (more : Int))).toNat by omega, show T + (i - min i (j + v)).toNat = (j + v - (min i (j + v) - (more : Int))).toNat by omega]
          exact g1
        exact Nat.le_of_mul_le_mul_right g2 (Nat.two_pow_pos _)
      have hdm := Nat.div_add_mod (m * 2 ^ more) n
      have hw : m * 2 ^ more / n ≤ 2 ^ T := Nat.div_le_of_le_mul (by exact hq)
      by_cases hr : m * 2 ^ more % n = 0
      · rw [hr]
        simp only [bne_self_eq_false, Bool.toNat_false]
        omega
      · have hlt : m * 2 ^ more / n < 2 ^ T := by
          apply Classical.byContradiction
          intro q
          have e1 : m * 2 ^ more / n = 2 ^ T := by omega
          rw [e1] at hdm
          omega
        have := Bool.toNat_le (m * 2 ^ more % n != 0)
        omega
  obtain ⟨m', p', e1, e2⟩ := pw_write (k := k) (s ^^ s') hl h1 h2
  rw [e]
  exact ⟨m', p', e1, e2⟩

theorem pw_div {k : FloatKind} {a b : Nat} {v : Int} {s s' : Bool} {m n : Nat} {i j : Int} (ha : k.decode a = .number s m i) (hb : k.decode b = .number s' n j) (hn : n ≠ 0)
    (h : ∀ c, c ≤ i → c ≤ j + v → m * 2 ^ (i - c).toNat ≤ n * 2 ^ (j + v - c).toNat) (h1 : pwLo k ≤ v) (h2 : v ≤ pwHi k) : pw k (fDiv k a b) v := by
  obtain ⟨m', p', e1, e2⟩ := pw_divS ha hb hn h h1 h2
  exact ⟨_, m', p', e1, e2⟩

theorem pw_conv {x : Nat} {t : Int} (h : pw .f64 x t) (h1 : -125 ≤ t) (h2 : t ≤ 127) : ∃ y, fConv .f64 .f32 x = some y ∧ pw .f32 y t := by
  obtain ⟨s, m, p, hd, hm⟩ := h
  obtain ⟨m', p', e1, e2⟩ := pw_write (k := .f32) s hm h1 h2
  have hn : isNan .f32 (FloatKind.f32.encode (.number s m p)) = false := write_nan rfl
  have e1' := e1
  rw [canon_of_num hn] at e1'
  refine ⟨canon .f32 (FloatKind.f32.encode (.number s m p)), ?_, s, m', p', e1, e2⟩
  unfold fConv
  rw [hd]
  simp only [e1']
  rfl

theorem pw_wide {x : Nat} {t : Int} (h : pw .f32 x t) (h1 : -1021 ≤ t) (h2 : t ≤ 1023) : pw .f64 (conv64 x) t := by
  obtain ⟨s, m, p, hd, hm⟩ := h
  have hc := fConv32_eq x
  unfold fConv at hc
  rw [hd] at hc
  obtain ⟨m', p', e1, e2⟩ := pw_write (k := .f64) s hm h1 h2
  have hn : isNan .f64 (FloatKind.f64.encode (.number s m p)) = false := write_nan rfl
  have e1' := e1
  rw [canon_of_num hn] at e1'
  simp only [e1'] at hc
  have hc : canon .f64 (FloatKind.f64.encode (.number s m p)) = conv64 x := by simpa [Ieee.Datum.isInfinity] using hc
  rw [← hc]
  exact ⟨s, m', p', e1, e2⟩
end Go.Proofs.YtnndahnmlmgenaaGreat
