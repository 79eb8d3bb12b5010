/- Functions of the program and of the reference in plain terms. -/
import Derived.Test.YtnndahnmlmgenaaGreatP24
namespace Go.Proofs.YtnndahnmlmgenaaGreat
open Go Go.Tm
set_option linter.unusedVariables false
set_option linter.unusedSimpArgs false
set_option linter.unusedSectionVars false
/-! ### comparisons, conversions and rounds on the grid -/
theorem inG.num {k : FloatKind} {x : Nat} {A B : Int} (h : inG k x A B) : ∃ s m p, k.decode x = .number s m p := let ⟨s, m, p, hd, _⟩ := h; ⟨s, m, p, hd⟩
theorem inG.both {k : FloatKind} {x : Nat} {A B C D : Int} (h : inG k x A B) (h' : inG k x C D) : inG k x (max A C) (min B D) := GAt.both h h'
theorem fLt_num {k : FloatKind} {a b : Nat} {s t : Bool} {m n : Nat} {p q : Int} (hd : k.decode a = .number s m p) (hd' : k.decode b = .number t n q) :
    fLt k a b = decide (Ieee.signed s m (p - min p q).toNat < Ieee.signed t n (q - min p q).toNat) := by
  have ho : k.format.order a b = some (compare (Ieee.signed s m (p - min p q).toNat) (Ieee.signed t n (q - min p q).toNat)) := by
    unfold Ieee.Format.order
    rw [show k.format.read a = .number s m p from hd, show k.format.read b = .number t n q from hd']
    rfl
  unfold fLt
  rw [ho, sbeq]
  generalize Ieee.signed s m (p - min p q).toNat = x
  generalize Ieee.signed t n (q - min p q).toNat = y
  by_cases h : x < y
  · have : compare x y = .lt := by simp [compare, compareOfLessAndEq, h]
    rw [this, decide_eq_true h]; rfl
  · rw [decide_eq_false h]
    by_cases h2 : x = y
    · have : compare x y = .eq := by simp [compare, compareOfLessAndEq, h2]
      rw [this]; rfl
    · have : compare x y = .gt := by simp [compare, compareOfLessAndEq, h, h2]
      rw [this]; rfl
theorem fLe_num {k : FloatKind} {a b : Nat} {s t : Bool} {m n : Nat} {p q : Int} (hd : k.decode a = .number s m p) (hd' : k.decode b = .number t n q) :
    fLe k a b = decide (Ieee.signed s m (p - min p q).toNat ≤ Ieee.signed t n (q - min p q).toNat) := by
  have ho : k.format.order a b = some (compare (Ieee.signed s m (p - min p q).toNat) (Ieee.signed t n (q - min p q).toNat)) := by
    unfold Ieee.Format.order
    rw [show k.format.read a = .number s m p from hd, show k.format.read b = .number t n q from hd']
    rfl
  unfold fLe
  rw [ho, sbeq, sbeq]
  generalize Ieee.signed s m (p - min p q).toNat = x
  generalize Ieee.signed t n (q - min p q).toNat = y
  by_cases h : x < y
  · have : compare x y = .lt := by simp [compare, compareOfLessAndEq, h]
    rw [this, decide_eq_true (Int.le_of_lt h)]; rfl
  · by_cases h2 : x = y
    · have : compare x y = .eq := by simp [compare, compareOfLessAndEq, h2]
      rw [this, decide_eq_true (by omega)]; rfl
    · have : compare x y = .gt := by simp [compare, compareOfLessAndEq, h, h2]
      rw [this, decide_eq_false (by omega)]; rfl
/-- two numbers that are in order on one place are so on all -/
theorem signed_le {s t : Bool} {m n : Nat} {p q b : Int} (b1 : b ≤ p) (b2 : b ≤ q) : Ieee.signed s m (p - b).toNat ≤ Ieee.signed t n (q - b).toNat ↔ Ieee.signed s m (p - min p q).toNat ≤ Ieee.signed t n (q - min p q).toNat := by
  have e1 : Ieee.signed s m (p - b).toNat = Ieee.signed s m (p - min p q).toNat * 2 ^ (min p q - b).toNat := by rw [← signed_up]; congr 1; omega
  have e2 : Ieee.signed t n (q - b).toNat = Ieee.signed t n (q - min p q).toNat * 2 ^ (min p q - b).toNat := by rw [← signed_up]; congr 1; omega
  rw [e1, e2]
  have := p2_pos (min p q - b).toNat
  exact ⟨fun h => Int.le_of_mul_le_mul_right h this, fun h => Int.mul_le_mul_of_nonneg_right h (Int.le_of_lt this)⟩
theorem le_clip {k : FloatKind} {a b : Nat} {A B C D : Int} {s t : Bool} {m n : Nat} {p q : Int} (hd : k.decode a = .number s m p) (hd' : k.decode b = .number t n q) (h : inG k a A B) (h' : inG k b C D)
    (hl : Ieee.signed s m (p - min p q).toNat ≤ Ieee.signed t n (q - min p q).toNat) : inG k a A (min B D) ∧ inG k b (max A C) D := by
  obtain ⟨s1, m1, p1, e1, g1⟩ := h
  obtain ⟨t1, n1, q1, e2, g2⟩ := h'
  rw [hd] at e1; cases e1
  rw [hd'] at e2; cases e2
  have f1 := fun b b1 b2 b3 => Int.le_trans (g1 b b1 b3).1 ((signed_le (b := b) b1 b2).2 hl)
  have f2 := fun b b1 b2 b3 => Int.le_trans ((signed_le (b := b) b1 b2).2 hl) (g2 b b2 b3).2
  have hb1 : min (min p q) (-40) ≤ p := by omega
  have hb2 : min (min p q) (-40) ≤ q := by omega
  have i1 := f1 _ hb1 hb2 (by omega)
  have i2 := f2 _ hb1 hb2 (by omega)
  have j1 := g1 _ hb1 (by omega)
  have j2 := g2 _ hb2 (by omega)
  refine ⟨⟨s, m, p, hd, GAt.of _ hb1 (by omega) ⟨j1.1, ?_⟩⟩, ⟨t, n, q, hd', GAt.of _ hb2 (by omega) ⟨?_, j2.2⟩⟩⟩
  · rcases Int.le_total B D with z | z
    · rw [Int.min_eq_left z]; exact j1.2
    · rw [Int.min_eq_right z]; exact i2
  · rcases Int.le_total A C with z | z
    · rw [Int.max_eq_right z]; exact j2.1
    · rw [Int.max_eq_left z]; exact i1
theorem fLe_clip {k : FloatKind} {a b : Nat} {A B C D : Int} (h : inG k a A B) (h' : inG k b C D) : (fLe k a b = true ∧ inG k a A (min B D) ∧ inG k b (max A C) D) ∨ (fLe k a b = false ∧ inG k a (max C A) B ∧ inG k b C (min D B)) := by
  obtain ⟨s, m, p, hd⟩ := h.num
  obtain ⟨t, n, q, hd'⟩ := h'.num
  rw [fLe_num hd hd']
  by_cases z : Ieee.signed s m (p - min p q).toNat ≤ Ieee.signed t n (q - min p q).toNat
  · exact .inl ⟨decide_eq_true z, le_clip hd hd' h h' z⟩
  · obtain ⟨a1, a2⟩ := le_clip hd' hd h' h (by rw [Int.min_comm q p]; omega)
    exact .inr ⟨decide_eq_false z, a2, a1⟩
theorem fLt_clip {k : FloatKind} {a b : Nat} {A B C D : Int} (h : inG k a A B) (h' : inG k b C D) : (fLt k a b = true ∧ inG k a A (min B D) ∧ inG k b (max A C) D) ∨ (fLt k a b = false ∧ inG k a (max C A) B ∧ inG k b C (min D B)) := by
  obtain ⟨s, m, p, hd⟩ := h.num
  obtain ⟨t, n, q, hd'⟩ := h'.num
  rw [fLt_num hd hd']
  by_cases z : Ieee.signed s m (p - min p q).toNat < Ieee.signed t n (q - min p q).toNat
  · exact .inl ⟨decide_eq_true z, le_clip hd hd' h h' (Int.le_of_lt z)⟩
  · obtain ⟨a1, a2⟩ := le_clip hd' hd h' h (by rw [Int.min_comm q p]; omega)
    exact .inr ⟨decide_eq_false z, a2, a1⟩
theorem fLe_true {k : FloatKind} {a b : Nat} {A B C D : Int} (h : inG k a A B) (h' : inG k b C D) (hc : B < C) : fLe k a b = true := by
  rcases fLe_clip h h' with ⟨e, -⟩ | ⟨-, e, -⟩
  · exact e
  · have := e.le; omega
theorem fLe_false {k : FloatKind} {a b : Nat} {A B C D : Int} (h : inG k a A B) (h' : inG k b C D) (hc : D < A) : fLe k a b = false := by
  rcases fLe_clip h h' with ⟨-, e, -⟩ | ⟨e, -⟩
  · have := e.le; omega
  · exact e

theorem neg_read64 {x : Nat} {s : Bool} {m : Nat} {p : Int} (hd' : FloatKind.f64.format.read x = .number s m p) : FloatKind.f64.format.read (fNeg .f64 x) = .number (!s) m p := by
  have h1 : FloatKind.f64.format.read (Op.negFloat .f64 x) = .number (!s) m p := by
    have e0 : Op.negFloat .f64 x = x ^^^ 2 ^ 63 := rfl
    have e1 : (x ^^^ 2 ^ 63) % 2 ^ 63 = x % 2 ^ 63 := by rw [Nat.xor_mod_two_pow, Nat.mod_self, Nat.xor_zero]
    have e2 : ((x ^^^ 2 ^ 63) / 2 ^ 63 % 2 == 1) = !(x / 2 ^ 63 % 2 == 1) := by
      rw [Nat.xor_div_two_pow, Nat.div_self (by decide)]
      have h2 : (x / 2 ^ 63 ^^^ 1) % 2 = (x / 2 ^ 63 % 2) ^^^ 1 := Nat.xor_mod_two_pow (n := 1)
      rw [h2]
      have : x / 2 ^ 63 % 2 = 0 ∨ x / 2 ^ 63 % 2 = 1 := by omega
      rcases this with h | h <;> rw [h] <;> rfl
    have hs : FloatKind.f64.format.signWeight = 2 ^ 63 := rfl
    unfold Ieee.Format.read at hd' ⊢
    simp only [hs, e0, e1, e2] at hd' ⊢
    split at hd'
    · rename_i h; rw [if_pos h]; cases hd'; rfl
    · rename_i h
      rw [if_neg h]
      split at hd'
      · rename_i h2; rw [if_pos h2]; cases hd'; rfl
      · split at hd' <;> cases hd'
  have hn : isNan .f64 (Op.negFloat .f64 x) = false := by rw [isNan_eq, h1]; rfl
  unfold fNeg
  rw [canon_of_num hn, h1]
theorem inG.neg {x : Nat} {A B : Int} (h : inG .f64 x A B) : inG .f64 (fNeg .f64 x) (-B) (-A) := by
  obtain ⟨s, m, p, hd, hg⟩ := h
  exact ⟨!s, m, p, neg_read64 hd, hg.neg⟩
theorem inG.conv {x : Nat} {A B : Int} (T E : Nat) (h : inG .f64 x A B) (h1 : -2 ^ (40 + T) ≤ A) (h2 : B ≤ 2 ^ (40 + T)) (hE : (T : Int) - 23 ≤ -40 + E) (hT : T ≤ 100) : ∃ y, fConv .f64 .f32 x = some y ∧ inG .f32 y (A - 2 ^ E) (B + 2 ^ E) := by
  obtain ⟨s, m, p, hd, hg⟩ := h
  have hr := rnd .f32 T E hg h1 h2 hE hT
  have hn : isNan .f32 (FloatKind.f32.encode (.number s m p)) = false := write_nan rfl
  have hr' := hr
  obtain ⟨s', m', p', e1, -⟩ := hr'
  rw [canon_of_num hn] at e1
  refine ⟨canon .f32 (FloatKind.f32.encode (.number s m p)), ?_, hr⟩
  unfold fConv
  rw [hd]
  simp only [e1]
  rfl
theorem inG.wide {x : Nat} {A B : Int} (T E : Nat) (h : inG .f32 x A B) (h1 : -2 ^ (40 + T) ≤ A) (h2 : B ≤ 2 ^ (40 + T)) (hE : (T : Int) - 52 ≤ -40 + E) (hT : T ≤ 100) : inG .f64 (conv64 x) (A - 2 ^ E) (B + 2 ^ E) := by
  obtain ⟨s, m, p, hd, hg⟩ := h
  have hr := rnd .f64 T E hg h1 h2 hE hT
  have hc := fConv32_eq x
  unfold fConv at hc
  rw [hd] at hc
  have hn : isNan .f64 (FloatKind.f64.encode (.number s m p)) = false := write_nan rfl
  have hr' := hr
  obtain ⟨s', m', p', e1, -⟩ := hr'
  rw [canon_of_num hn] at e1
  simp only [e1] at hc
  have hc : canon .f64 (FloatKind.f64.encode (.number s m p)) = conv64 x := by simpa [Ieee.Datum.isInfinity] using hc
  rw [← hc]
  exact hr

theorem cut_even_half (s : Bool) (m d : Nat) : (2 * ((Ieee.Toward.even.cut s m d * 2 ^ d : Nat) - (m : Nat) : Int)).natAbs ≤ 2 ^ d := by
  by_cases hm : m = 0
  · subst hm
    have : Ieee.Toward.even.cut s 0 d = 0 := by
      unfold Ieee.Toward.cut
      simp only [Nat.shiftLeft_eq, Nat.one_mul, Nat.zero_div, Nat.zero_mod, Nat.mul_zero]
      have h1 : (2 : Nat) ^ min d (Nat.log2 0 + 2) ≠ 0 := Nat.ne_of_gt (Nat.two_pow_pos _)
      simp [h1]
    rw [this]
    simp
  unfold Ieee.Toward.cut
  simp only [Nat.shiftLeft_eq, Nat.one_mul]
  have hml2 : m < 2 ^ (m.log2 + 1) := Nat.lt_log2_self
  by_cases hd : d ≤ m.log2 + 2
  · rw [Nat.min_eq_left hd]
    have hdm := Nat.div_add_mod m (2 ^ d)
    have hmod := Nat.mod_lt m (Nat.two_pow_pos d)
    cases hb : (decide (2 ^ d < 2 * (m % 2 ^ d)) || 2 ^ d == 2 * (m % 2 ^ d) && m / 2 ^ d % 2 == 1) with
    | true =>
      have : 2 ^ d ≤ 2 * (m % 2 ^ d) := by
        rw [Bool.or_eq_true, Bool.and_eq_true, decide_eq_true_eq, beq_iff_eq] at hb
        rcases hb with h | ⟨h, -⟩ <;> omega
      rw [Bool.toNat_true, Nat.add_mul, Nat.one_mul, Nat.mul_comm (m / 2 ^ d)]
      omega
    | false =>
      have : 2 * (m % 2 ^ d) ≤ 2 ^ d := by
        rw [Bool.or_eq_false_iff, decide_eq_false_iff_not] at hb
        omega
      rw [Bool.toNat_false, Nat.add_zero, Nat.mul_comm (m / 2 ^ d)]
      omega
  · rw [Nat.min_eq_right (by omega)]
    have e : (2 : Nat) ^ (m.log2 + 2) = 2 * 2 ^ (m.log2 + 1) := by rw [Nat.pow_succ, Nat.mul_comm]
    have h2 : m < 2 ^ (m.log2 + 2) := by omega
    have h3 : 2 ^ (m.log2 + 2) ≤ 2 ^ d := Nat.pow_le_pow_right (by decide) (by omega)
    rw [Nat.div_eq_of_lt h2, Nat.mod_eq_of_lt h2]
    have hb : (decide (2 ^ (m.log2 + 2) < 2 * m) || 2 ^ (m.log2 + 2) == 2 * m && 0 % 2 == 1) = false := by
      rw [decide_eq_false (by omega)]
      simp
    rw [hb]
    simp
    omega
end Go.Proofs.YtnndahnmlmgenaaGreat
