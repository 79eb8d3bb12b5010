import Derived.Test.YtildomllnnnofaaGreatP21
/- Functions of the program and of the reference in plain terms. -/
namespace Go.Proofs.YtildomllnnnofaaGreat
open Go Go.Tm
set_option linter.unusedVariables false
set_option linter.unusedSimpArgs false
set_option linter.unusedSectionVars false
def magB (x : Nat) (t : Int) : Prop := ∃ s m p, FloatKind.f32.decode x = .number s m p ∧ (m ≠ 0 → topOf m p ≤ t)
theorem qzk {x : Nat} {t : Int} (h : magB x t) : finB x = true := by
  obtain ⟨s, m, p, hd, _⟩ := h
  exact qbr.2 ⟨s, m, p, hd⟩
theorem qj8 (s : Bool) {m : Nat} {p t : Int} (h : m ≠ 0 → topOf m p ≤ t) (h1 : t ≤ 126) (h2 : -126 ≤ t) : magB (canon .f32 (FloatKind.f32.encode (.number s m p))) (t + 1) := by
  obtain ⟨s', m', p', e1, _, _, e4⟩ := qwc s (m := m) (p := p) (fun q => Int.le_trans (h q) h1)
  have hn : isNan .f32 (FloatKind.f32.encode (.number s m p)) = false := qcm rfl
  rw [qai hn]
  refine ⟨s', m', p', e1, fun q => ?_⟩
  obtain ⟨a, b⟩ := e4 q
  have := h a
  omega
theorem qy1 {m n : Nat} (hm : m ≠ 0) (hn : n ≠ 0) : (m * n).log2 ≤ m.log2 + n.log2 + 1 := by
  have h1 : m < 2 ^ (m.log2 + 1) := Nat.lt_log2_self
  have h2 : n < 2 ^ (n.log2 + 1) := Nat.lt_log2_self
  have h3 : m * n < 2 ^ (m.log2 + n.log2 + 2) := by
    have : 2 ^ (m.log2 + n.log2 + 2) = 2 ^ (m.log2 + 1) * 2 ^ (n.log2 + 1) := by rw [← Nat.pow_add]; congr 1; omega
    rw [this]
    exact Nat.mul_lt_mul'' h1 h2
  have := (Nat.log2_lt (Nat.mul_ne_zero hm hn)).2 h3
  omega
theorem qaas {a b : Nat} {t u : Int} (ha : magB a t) (hb : magB b u) (h1 : t + u + 1 ≤ 126) (h2 : -126 ≤ t + u + 1) : magB (fMul .f32 a b) (t + u + 2) := by
  obtain ⟨s, m, p, hd, hm⟩ := ha
  obtain ⟨s', m', p', hd', hm'⟩ := hb
  have e : fMul .f32 a b = canon .f32 (FloatKind.f32.encode (.number (s ^^ s') (m * m') (p + p'))) := by
    unfold fMul Ieee.Format.mul
    rw [show FloatKind.f32.format.read a = .number s m p from hd, show FloatKind.f32.format.read b = .number s' m' p' from hd']
    rfl
  rw [e, show t + u + 2 = (t + u + 1) + 1 by omega]
  refine qj8 _ (fun q => ?_) h1 h2
  have q1 : m ≠ 0 := fun z => q (by rw [z]; simp)
  have q2 : m' ≠ 0 := fun z => q (by rw [z]; simp)
  have := qy1 q1 q2
  have a1 := hm q1
  have a2 := hm' q2
  unfold topOf at *
  omega
theorem qvd {n : Int} (h : -32768 ≤ n) (h1 : n ≤ 32767) : magB (fOfInt .f32 n) 17 := by
  have e : fOfInt .f32 n = canon .f32 (FloatKind.f32.encode (.number (n < 0) n.natAbs 0)) := rfl
  rw [e]
  refine qj8 _ (t := 16) (fun q => ?_) (by omega) (by omega)
  have : n.natAbs < 2 ^ 17 := by have : (2 : Nat) ^ 17 = 131072 := by decide
                                 omega
  have := (Nat.log2_lt q).2 this
  unfold topOf
  omega
theorem qw6 (t : Int) : magB 0 t := ⟨false, 0, -149, by decide, fun q => absurd rfl q⟩
theorem qoj (s : Bool) (m k : Nat) : (Ieee.signed s m k).natAbs = m * 2 ^ k := by
  unfold Ieee.signed
  rw [Nat.shiftLeft_eq]
  cases s <;> simp [Int.natAbs_mul, Int.natAbs_pow]
theorem qty {m : Nat} {i base t : Int} (hb : base ≤ i) (h : m ≠ 0 → topOf m i ≤ t) : m * 2 ^ (i - base).toNat < 2 ^ (t + 1 - base).toNat := by
  by_cases hm : m = 0
  · rw [hm, Nat.zero_mul]; exact Nat.two_pow_pos _
  · have ht := h hm
    unfold topOf at ht
    have h1 : m < 2 ^ (m.log2 + 1) := Nat.lt_log2_self
    have h2 : m * 2 ^ (i - base).toNat < 2 ^ (m.log2 + 1) * 2 ^ (i - base).toNat := Nat.mul_lt_mul_of_pos_right h1 (Nat.two_pow_pos _)
    rw [← Nat.pow_add] at h2
    exact Nat.lt_of_lt_of_le h2 (Nat.pow_le_pow_right (by decide) (by omega))
theorem qaaj {a b : Nat} {t : Int} (ha : magB a t) (hb : magB b t) (h1 : t + 1 ≤ 126) (h2 : -126 ≤ t + 1) : magB (fAdd .f32 a b) (t + 2) := by
  obtain ⟨s, m, i, hd, hm⟩ := ha
  obtain ⟨s', n, j, hd', hn⟩ := hb
  have e : ∃ g, fAdd .f32 a b = canon .f32 (FloatKind.f32.encode (.number g (Ieee.signed s m (i - min i j).toNat + Ieee.signed s' n (j - min i j).toNat).natAbs (min i j))) := by
    unfold fAdd Ieee.Format.add
    rw [show FloatKind.f32.format.read a = .number s m i from hd, show FloatKind.f32.format.read b = .number s' n j from hd']
    exact ⟨_, rfl⟩
  obtain ⟨g, e⟩ := e
  rw [e, show t + 2 = (t + 1) + 1 by omega]
  refine qj8 _ (fun q => ?_) h1 h2
  have p1 := qty (m := m) (i := i) (base := min i j) (t := t) (by omega) hm
  have p2 := qty (m := n) (i := j) (base := min i j) (t := t) (by omega) hn
  have q1 := qoj s m (i - min i j).toNat
  have q2 := qoj s' n (j - min i j).toNat
  generalize hx : Ieee.signed s m (i - min i j).toNat = x at *
  generalize hy : Ieee.signed s' n (j - min i j).toNat = y at *
  have hs : (x + y).natAbs < 2 ^ ((t + 1 - min i j).toNat + 1) := by
    have := Int.natAbs_add_le x y
    rw [Nat.pow_succ]
    omega
  have hl := (Nat.log2_lt q).2 hs
  have hbase : min i j ≤ t := by
    by_cases z : m = 0
    · by_cases z' : n = 0
      · subst z z'
        rw [Nat.zero_mul] at q1 q2
        omega
      · have := hn z'
        unfold topOf at this
        omega
    · have := hm z
      unfold topOf at this
      omega
  unfold topOf
  omega
end Go.Proofs.YtildomllnnnofaaGreat
