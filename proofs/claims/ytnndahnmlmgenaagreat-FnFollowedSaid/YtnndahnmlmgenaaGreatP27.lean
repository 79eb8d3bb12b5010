/- Functions of the program and of the reference in plain terms. -/
import Derived.Test.YtnndahnmlmgenaaGreatP26
namespace Go.Proofs.YtnndahnmlmgenaaGreat
open Go Go.Tm
set_option linter.unusedVariables false
set_option linter.unusedSimpArgs false
set_option linter.unusedSectionVars false
/-! ### quotients by a constant, whole numbers -/
theorem GAt.quot {k : FloatKind} {a b : Nat} {A B : Int} {n : Nat} {j : Int} (h : inG k a A B) (hc : k.decode b = .number false n j) (hn : n ≠ 0) (hj : j ≤ 0) (L H : Int) (h1 : L * n ≤ A * 2 ^ (-j).toNat) (h2 : B * 2 ^ (-j).toNat ≤ H * n)
    (T : Nat) (hA : -2 ^ (40 + T) ≤ A) (hB : B ≤ 2 ^ (40 + T)) (hp : (T : Int) - (j + n.log2) - k.format.fractionBits ≤ -40) :
    ∃ s Q p, fDiv k a b = canon k (k.encode (.number s Q p)) ∧ GAt s Q p (L - 1) (H + 1) ∧ (0 ≤ A → ∀ u, 0 ≤ Ieee.signed s Q u) := by
  obtain ⟨s, m, i, hd, hg⟩ := h
  have e : fDiv k a b = canon k (k.encode (.number s (2 * ((m <<< (k.format.fractionBits + 2 + n.log2 - m.log2)) / n) + ((m <<< (k.format.fractionBits + 2 + n.log2 - m.log2)) % n != 0).toNat) (i - j - (k.format.fractionBits + 2 + n.log2 - m.log2 : Nat) - 1))) := by
    unfold fDiv Ieee.Format.div
    rw [show k.format.read a = .number s m i from hd, show k.format.read b = .number false n j from hc]
    simp only [Ieee.Datum.quotient, if_neg hn, Option.map_some, orNan, Bool.xor_false]
    rfl
  have hsgn : 0 ≤ A → s = false ∨ m = 0 := fun hA0 => by
    by_cases hm : m = 0
    · exact .inr hm
    · refine .inl ?_
      cases s with
      | false => rfl
      | true =>
        exfalso
        have hb := hg (min i (-40)) (by omega) (by omega)
        rw [signed_eq, cond_true, Int.neg_mul, Int.one_mul] at hb
        have h1 : 0 < m * 2 ^ (i - min i (-40)).toNat := Nat.mul_pos (Nat.pos_of_ne_zero hm) (Nat.two_pow_pos _)
        have h2 := Int.mul_nonneg hA0 (Int.le_of_lt (p2_pos (-40 - min i (-40)).toNat))
        omega
  refine ⟨_, _, _, e, ?_, fun hA0 u => ?_⟩
  rotate_left
  · rcases hsgn hA0 with z | z
    · rw [z, signed_eq, cond_false, Int.one_mul]
      exact Int.natCast_nonneg _
    · subst z
      simp only [Nat.zero_shiftLeft, Nat.zero_div, Nat.zero_mod, bne_self_eq_false, Bool.toNat_false, Nat.mul_zero, Nat.add_zero]
      rw [signed_zero]
      exact Int.le_refl _
  have hl := hg.le2 T hA hB
  have hnp : (0 : Int) < n := by omega
  by_cases hm : m = 0
  · subst hm
    have hb := hg (min i (-40)) (by omega) (by omega)
    rw [signed_zero] at hb
    have pu := p2_pos (-40 - min i (-40)).toNat
    have pj := p2_pos (-j).toNat
    have hA0 : A ≤ 0 := by
      apply Classical.byContradiction
      intro q
      have := Int.mul_pos (show 0 < A by omega) pu
      omega
    have hB0 : 0 ≤ B := by
      apply Classical.byContradiction
      intro q
      have := Int.mul_neg_of_neg_of_pos (show B < 0 by omega) pu
      omega
    have hL0 : L ≤ 0 := by
      apply Classical.byContradiction
      intro q
      have z1 := Int.mul_pos (show 0 < L by omega) hnp
      have z2 := Int.mul_nonpos_of_nonpos_of_nonneg hA0 (Int.le_of_lt pj)
      omega
    have hH0 : 0 ≤ H := by
      apply Classical.byContradiction
      intro q
      have z1 := Int.mul_neg_of_neg_of_pos (show H < 0 by omega) hnp
      have z2 := Int.mul_nonneg hB0 (Int.le_of_lt pj)
      omega
    simp only [Nat.zero_shiftLeft, Nat.zero_div, Nat.zero_mod, bne_self_eq_false, Bool.toNat_false, Nat.mul_zero, Nat.add_zero]
    intro b b1 b2
    rw [signed_zero]
    have := p2_pos (-40 - b).toNat
    exact ⟨Int.mul_nonpos_of_nonpos_of_nonneg (by omega) (Int.le_of_lt this), Int.mul_nonneg (by omega) (Int.le_of_lt this)⟩
  · have htop := le2_top hm hl
    generalize hmore : k.format.fractionBits + 2 + n.log2 - m.log2 = more
    have hmo : (k.format.fractionBits : Int) + 2 + n.log2 - m.log2 ≤ more := by omega
    have hplace : i - j - (more : Int) - 1 ≤ -40 := by omega
    have hq := quot_err (m <<< more) n (Nat.pos_of_ne_zero hn)
    generalize 2 * ((m <<< more) / n) + ((m <<< more) % n != 0).toNat = Q at *
    rw [Nat.shiftLeft_eq] at hq
    refine GAt.of (i - j - (more : Int) - 1) (Int.le_refl _) hplace ?_
    rw [show (i - j - (more : Int) - 1 - (i - j - (more : Int) - 1)).toNat = 0 by omega]
    have hv := hg (i - (more : Int) - 1) (by omega) (by omega)
    rw [show (i - (i - (more : Int) - 1)).toNat = more + 1 by omega] at hv
    -- both sides times n
    have hu : (-40 - (i - (more : Int) - 1)).toNat = (-j).toNat + (-40 - (i - j - (more : Int) - 1)).toNat := by omega
    rw [hu, Int.pow_add, ← Int.mul_assoc, ← Int.mul_assoc] at hv
    have pu := p2_pos (-40 - (i - j - (more : Int) - 1)).toNat
    generalize (2 : Int) ^ (-40 - (i - j - (more : Int) - 1)).toNat = u at *
    have g1 := Int.mul_le_mul_of_nonneg_right h1 (Int.le_of_lt pu)
    have g2 := Int.mul_le_mul_of_nonneg_right h2 (Int.le_of_lt pu)
    have n1 : (n : Int) ≤ n * u := by
      have := Int.mul_le_mul_of_nonneg_left (show (1 : Int) ≤ u by omega) (Int.le_of_lt hnp)
      omega
    have eN : Ieee.signed s m (more + 1) = (bif s then -1 else 1) * ((2 * (m * 2 ^ more) : Nat) : Int) := by
      rw [signed_eq, Nat.pow_succ, ← Nat.mul_assoc, Nat.mul_comm _ 2]
    have eQ : Ieee.signed s Q 0 = (bif s then -1 else 1) * ((Q : Nat) : Int) := by
      rw [signed_eq, Nat.pow_zero, Nat.mul_one]
    rw [eN] at hv
    rw [eQ]
    have hq1 : ((n * Q : Nat) : Int) ≤ ((2 * (m * 2 ^ more) + n : Nat) : Int) := Int.ofNat_le.2 hq.1
    have hq2 : ((2 * (m * 2 ^ more) : Nat) : Int) ≤ ((n * Q + n : Nat) : Int) := Int.ofNat_le.2 hq.2
    generalize 2 * (m * 2 ^ more) = N at *
    rw [Int.natCast_add] at hq1 hq2
    rw [Int.natCast_mul] at hq1 hq2
    have sw : ∀ X : Int, X * n * u = X * u * n := fun X => by rw [Int.mul_assoc, Int.mul_comm (n : Int) u, Int.mul_assoc]
    rw [sw] at g1 g2
    rw [Int.mul_comm (n : Int) u] at n1
    rw [Int.mul_comm (n : Int) Q] at hq1 hq2
    rw [Int.sub_mul, Int.add_mul, Int.one_mul]
    constructor
    · refine Int.le_of_mul_le_mul_right (a := (n : Int)) ?_ hnp
      rw [Int.sub_mul]
      cases s
      · simp only [cond_false, Int.one_mul] at hv ⊢
        omega
      · simp only [cond_true, Int.neg_mul, Int.one_mul] at hv ⊢
        omega
    · refine Int.le_of_mul_le_mul_right (a := (n : Int)) ?_ hnp
      rw [Int.add_mul]
      cases s
      · simp only [cond_false, Int.one_mul] at hv ⊢
        omega
      · simp only [cond_true, Int.neg_mul, Int.one_mul] at hv ⊢
        omega
theorem inG.div {k : FloatKind} {a b : Nat} {A B : Int} {n : Nat} {j : Int} (T E : Nat) (L H : Int) (h : inG k a A B) (hc : k.decode b = .number false n j) (hn : n ≠ 0) (hj : j ≤ 0) (h1 : L * n ≤ A * 2 ^ (-j).toNat) (h2 : B * 2 ^ (-j).toNat ≤ H * n)
    (hA : -2 ^ (40 + T) ≤ A) (hB : B ≤ 2 ^ (40 + T)) (hp : (T : Int) - (j + n.log2) - k.format.fractionBits ≤ -40) (h3 : -2 ^ (40 + T) ≤ L - 1) (h4 : H + 1 ≤ 2 ^ (40 + T)) (hE : (T : Int) - k.format.fractionBits ≤ -40 + E) (hT : T ≤ 100) : inG k (fDiv k a b) (L - 1 - 2 ^ E) (H + 1 + 2 ^ E) := by
  obtain ⟨s, Q, p, e, hg, -⟩ := GAt.quot h hc hn hj L H h1 h2 T hA hB hp
  rw [e]
  exact rnd k T E hg h3 h4 hE hT
theorem inG.divP {k : FloatKind} {a b : Nat} {A B n : Nat} {j : Int} (T E d : Nat) (h : inG k a A B) (hc : k.decode b = .number false n j) (hd : n = d * 2 ^ (-j).toNat) (hd0 : 0 < d) (hj : j ≤ 0)
    (hB : B < 2 ^ (40 + T)) (hH : B / d + 2 ≤ 2 ^ (40 + T)) (hp : (T : Int) - (j + n.log2) - k.format.fractionBits ≤ -40) (hE : (T : Int) - k.format.fractionBits ≤ -40 + E) (hT : T ≤ 100) : inG k (fDiv k a b) ((A / d - 1 - 2 ^ E : Nat) : Int) ((B / d + 2 + 2 ^ E : Nat) : Int) := by
  have hn : n ≠ 0 := by rw [hd]; exact Nat.ne_of_gt (Nat.mul_pos hd0 (Nat.two_pow_pos _))
  have hAB : A ≤ B := by have := h.le; omega
  have hBi : (B : Int) < 2 ^ (40 + T) := by
    have := Int.ofNat_lt.2 hB
    simpa using this
  have pT := p2_pos (40 + T)
  have c1 : A / d * n ≤ A * 2 ^ (-j).toNat := by
    rw [hd, ← Nat.mul_assoc]
    exact Nat.mul_le_mul_right _ (Nat.div_mul_le_self A d)
  have c2 : B * 2 ^ (-j).toNat ≤ (B / d + 1) * n := by
    rw [hd, ← Nat.mul_assoc]
    refine Nat.mul_le_mul_right _ ?_
    have := Nat.div_add_mod B d
    have := Nat.mod_lt B hd0
    rw [Nat.add_mul, Nat.one_mul, Nat.mul_comm (B / d)]
    omega
  obtain ⟨s, Q, p, e, hg, hpos⟩ := GAt.quot h hc hn hj ((A / d : Nat) : Int) ((B / d + 1 : Nat) : Int) (by
      have := Int.ofNat_le.2 c1
      simpa using this) (by
      have := Int.ofNat_le.2 c2
      simpa using this) T (by omega) (by omega) hp
  rw [e]
  have hle : B / d ≤ B := Nat.div_le_self B d
  have hle2 : A / d ≤ A := Nat.div_le_self A d
  have e2 : ((2 ^ E : Nat) : Int) = 2 ^ E := by simp
  have hg2 : GAt s Q p ((A / d - 1 : Nat) : Int) ((B / d + 2 : Nat) : Int) := fun b b1 b2 => by
    have := hg b b1 b2
    have h0 := hpos (Int.natCast_nonneg _) (p - b).toNat
    have pu := p2_pos (-40 - b).toNat
    constructor
    · by_cases z : A / d = 0
      · rw [z]
        simpa using h0
      · generalize A / d = z1 at *
        rw [show ((z1 - 1 : Nat) : Int) = (z1 : Int) - 1 by omega]
        exact this.1
    · generalize B / d = z1 at *
      rw [show ((z1 + 2 : Nat) : Int) = ((z1 + 1 : Nat) : Int) + 1 by omega]
      exact this.2
  have := rnd_pos k T E hg2 (by omega) (by have : B / d + 2 ≤ 2 ^ (40 + T) := hH
                                           have := Int.ofNat_le.2 this
                                           simpa using this) hE hT
  generalize A / d = z1 at *
  generalize B / d = z2 at *
  exact this.mono (by omega) (by omega)

theorem inG.whole {x : Nat} {A B : Int} (h : inG .f64 x A B) (h1 : -2 ^ 45 ≤ A) (h2 : B ≤ 2 ^ 45) :
    (∃ N : Int, inG .f64 (fRound .down x) (N * 2 ^ 40) (N * 2 ^ 40) ∧ inG .f64 x (N * 2 ^ 40) ((N + 1) * 2 ^ 40)) ∧
    (∃ N : Int, inG .f64 (fRound .even x) (N * 2 ^ 40) (N * 2 ^ 40) ∧ inG .f64 x ((2 * N - 1) * 2 ^ 39) ((2 * N + 1) * 2 ^ 39)) := by
  obtain ⟨s, m, p, hd, hg⟩ := id h
  have hn : isNan .f64 x = false := by
    rw [isNan_eq, show FloatKind.f64.format.read x = .number s m p from hd]; rfl
  have hw : ∀ w : Ieee.Toward, fRound w x = canon .f64 (FloatKind.f64.encode (.number s (w.cut s (m <<< p.toNat) (-p).toNat) 0)) := fun w => by
    unfold fRound
    rw [hn, cond_false, hd]
    rfl
  have hwhole : ∀ K : Nat, GAt s K 0 (Ieee.signed s K 0 * 2 ^ 40) (Ieee.signed s K 0 * 2 ^ 40) := fun K b b1 b2 => by
    have : Ieee.signed s K (0 - b).toNat = Ieee.signed s K 0 * 2 ^ 40 * 2 ^ (-40 - b).toNat := by
      rw [Int.mul_assoc, ← Int.pow_add, ← signed_up]
      congr 1
      omega
    rw [this]
    exact ⟨Int.le_refl _, Int.le_refl _⟩
  -- the number on the place min (p - 1) (-41), as a part of 2 ^ d
  have hx : ∀ L H : Int, L * 2 ^ (-p).toNat ≤ Ieee.signed s (m <<< p.toNat) 1 → Ieee.signed s (m <<< p.toNat) 1 ≤ H * 2 ^ (-p).toNat → inG .f64 x (L * 2 ^ 39) (H * 2 ^ 39) := fun L H hL hH => by
    refine ⟨s, m, p, hd, GAt.of (min (p - 1) (-41)) (by omega) (by omega) ?_⟩
    have e1 : Ieee.signed s m (p - min (p - 1) (-41)).toNat = Ieee.signed s (m <<< p.toNat) 1 * 2 ^ (min p 0 - min (p - 1) (-41) - 1).toNat := by
      rw [← signed_up, signed_eq, signed_eq, Nat.shiftLeft_eq, Nat.mul_assoc, ← Nat.pow_add]
      congr 4
      omega
    have e2 : (2 : Int) ^ 39 * 2 ^ (-40 - min (p - 1) (-41)).toNat = 2 ^ (-p).toNat * 2 ^ (min p 0 - min (p - 1) (-41) - 1).toNat := by
      rw [← Int.pow_add, ← Int.pow_add]
      congr 1
      omega
    have pu := p2_pos (min p 0 - min (p - 1) (-41) - 1).toNat
    rw [e1, Int.mul_assoc, Int.mul_assoc, e2, ← Int.mul_assoc, ← Int.mul_assoc]
    exact ⟨Int.mul_le_mul_of_nonneg_right hL (Int.le_of_lt pu), Int.mul_le_mul_of_nonneg_right hH (Int.le_of_lt pu)⟩
  have e1 : ∀ M : Nat, Ieee.signed s M 1 = 2 * ((bif s then -1 else 1) * (M : Int)) := fun M => by
    rw [signed_eq, Nat.pow_one, Int.natCast_mul]
    cases s <;> simp <;> omega
  have e0 : ∀ K : Nat, Ieee.signed s K 0 = (bif s then -1 else 1) * (K : Int) := fun K => by
    rw [signed_eq, Nat.pow_zero, Nat.mul_one]
  have fin : ∀ (w : Ieee.Toward) (N : Int), N = Ieee.signed s (w.cut s (m <<< p.toNat) (-p).toNat) 0 → -2 ^ 6 ≤ N → N ≤ 2 ^ 6 → inG .f64 (fRound w x) (N * 2 ^ 40) (N * 2 ^ 40) := fun w N hN n1 n2 => by
    rw [hw, hN]
    have hK : w.cut s (m <<< p.toNat) (-p).toNat ≤ 64 := by
      rw [e0] at hN
      cases s
      · rw [cond_false] at hN; omega
      · rw [cond_true] at hN; omega
    generalize w.cut s (m <<< p.toNat) (-p).toNat = K at *
    by_cases hK0 : K = 0
    · subst hK0
      refine ⟨s, 0, _, by rw [decode_write, near_zero], ?_⟩
      intro b b1 b2
      rw [signed_zero, signed_zero, Int.zero_mul, Int.zero_mul]
      exact ⟨Int.le_refl _, Int.le_refl _⟩
    · have hlog : K.log2 < 7 := (Nat.log2_lt hK0).2 (by omega)
      have hlast : lastOf FloatKind.f64.format K 0 ≤ 0 := by
        rw [last_eq]
        omega
      refine ⟨s, _, _, by rw [decode_write]; exact near_exact s hK0 hlast (by
        rw [last_eq] at hlast ⊢
        show (max (0 + (K.log2 : Int) - 52) (-1074) - -1074 + 2) * 2 ^ 52 ≤ ((2 ^ 11 - 1) * 2 ^ 52 : Nat)
        omega), ?_⟩
      refine GAt.of (min (lastOf FloatKind.f64.format K 0) (-40)) (by omega) (by omega) ?_
      have e3 : Ieee.signed s (K * 2 ^ (0 - lastOf FloatKind.f64.format K 0).toNat) (lastOf FloatKind.f64.format K 0 - min (lastOf FloatKind.f64.format K 0) (-40)).toNat = Ieee.signed s K 0 * 2 ^ 40 * 2 ^ (-40 - min (lastOf FloatKind.f64.format K 0) (-40)).toNat := by
        rw [Int.mul_assoc, ← Int.pow_add, ← signed_up, signed_eq, signed_eq, Nat.mul_assoc, ← Nat.pow_add]
        congr 4
        omega
      rw [e3]
      exact ⟨Int.le_refl _, Int.le_refl _⟩
  constructor
  · have hc := cut_down s (m <<< p.toNat) (-p).toNat
    refine ⟨Ieee.signed s (Ieee.Toward.down.cut s (m <<< p.toNat) (-p).toNat) 0, ?_⟩
    have hin := hx (2 * Ieee.signed s (Ieee.Toward.down.cut s (m <<< p.toNat) (-p).toNat) 0) (2 * (Ieee.signed s (Ieee.Toward.down.cut s (m <<< p.toNat) (-p).toNat) 0 + 1))
    have hf := fin .down _ rfl
    rw [e1, e0] at hin
    rw [e0] at hf ⊢
    generalize Ieee.Toward.down.cut s (m <<< p.toNat) (-p).toNat = K at *
    generalize m <<< p.toNat = M at *
    have hin' : inG .f64 x (((bif s then -1 else 1) * (K : Int)) * 2 ^ 40) (((bif s then -1 else 1) * (K : Int) + 1) * 2 ^ 40) := by
      have := hin (by
        rw [Int.mul_assoc, Int.mul_assoc]
        cases s
        · have := (hc.1 rfl).1
          have := Int.ofNat_le.2 this
          simp only [cond_false, Int.one_mul]
          simp at this
          omega
        · have := (hc.2 rfl).1
          have := Int.ofNat_le.2 this
          simp only [cond_true, Int.neg_mul, Int.one_mul]
          simp at this
          omega) (by
        rw [Int.mul_assoc 2, Int.add_mul, Int.mul_assoc]
        cases s
        · have := (hc.1 rfl).2
          have := Int.ofNat_lt.2 this
          simp only [cond_false, Int.one_mul]
          simp at this
          omega
        · have := (hc.2 rfl).2
          have := Int.ofNat_lt.2 this
          simp only [cond_true, Int.neg_mul, Int.one_mul]
          simp at this
          omega)
      refine this.mono ?_ ?_ <;> omega
    have hle := (h.both hin').le
    exact ⟨hf (by omega) (by omega), hin'⟩
  · have hc := cut_even_half s (m <<< p.toNat) (-p).toNat
    refine ⟨Ieee.signed s (Ieee.Toward.even.cut s (m <<< p.toNat) (-p).toNat) 0, ?_⟩
    have hin := hx (2 * Ieee.signed s (Ieee.Toward.even.cut s (m <<< p.toNat) (-p).toNat) 0 - 1) (2 * Ieee.signed s (Ieee.Toward.even.cut s (m <<< p.toNat) (-p).toNat) 0 + 1)
    have hf := fin .even _ rfl
    rw [e1, e0] at hin
    rw [e0] at hf ⊢
    generalize Ieee.Toward.even.cut s (m <<< p.toNat) (-p).toNat = K at *
    generalize m <<< p.toNat = M at *
    have hP : (((2 : Nat) ^ (-p).toNat : Nat) : Int) = 2 ^ (-p).toNat := by simp
    rw [Int.natCast_mul] at hc
    rw [hP] at hc
    have hin' := hin (by
        rw [Int.sub_mul, Int.one_mul, Int.mul_assoc, Int.mul_assoc]
        cases s
        · simp only [cond_false, Int.one_mul]
          omega
        · simp only [cond_true, Int.neg_mul, Int.one_mul]
          omega) (by
        rw [Int.add_mul, Int.one_mul, Int.mul_assoc, Int.mul_assoc]
        cases s
        · simp only [cond_false, Int.one_mul]
          omega
        · simp only [cond_true, Int.neg_mul, Int.one_mul]
          omega)
    have hle := (h.both hin').le
    exact ⟨hf (by omega) (by omega), hin'⟩

/-- a rounded number stays between 0 and a power of two -/
theorem rnd_clip {s : Bool} {m : Nat} {p A B : Int} (t : Nat) (h : GAt s m p A B) (hA : 0 ≤ A) (hB : B ≤ 2 ^ t) (ht : t ≤ 40) :
    inG .f64 (canon .f64 (FloatKind.f64.encode (.number s m p))) (max 0 (A - 1)) (min (B + 1) (2 ^ t)) := by
  have hp : (2 : Int) ^ t ≤ 2 ^ (40 + 0) := by
    have := Nat.pow_le_pow_right (n := 2) (by decide) ht
    have := Int.ofNat_le.2 this
    simpa using this
  have h1 := rnd_pos .f64 0 0 h hA (by omega) (by decide) (by decide)
  have hpt := p2_pos t
  have hl : le2 m p (t - 40 : Int) := by
    refine le2_of (min p (-40)) (by omega) (by omega) ?_
    have hb := h (min p (-40)) (by omega) (by omega)
    have ha := abs_signed s m (p - min p (-40)).toNat
    have pp := p2_pos (-40 - min p (-40)).toNat
    have e : (2 : Int) ^ (t - 40 - min p (-40)).toNat = 2 ^ t * 2 ^ (-40 - min p (-40)).toNat := by rw [← Int.pow_add]; congr 1; omega
    have g1 := Int.mul_le_mul_of_nonneg_right hA (Int.le_of_lt pp)
    have g2 := Int.mul_le_mul_of_nonneg_right hB (Int.le_of_lt pp)
    rw [← e] at g2
    have e5 : (((2 : Nat) ^ (t - 40 - min p (-40)).toNat : Nat) : Int) = 2 ^ (t - 40 - min p (-40)).toNat := by simp
    omega
  obtain ⟨m', p', e1, l1⟩ := pw_write (k := .f64) s hl (by show (-1021 : Int) ≤ _; omega) (by show _ ≤ (1023 : Int); omega)
  have h2 : inG .f64 (canon .f64 (FloatKind.f64.encode (.number s m p))) (-2 ^ t) (2 ^ t) := by
    refine ⟨s, m', p', e1, GAt.of (min (min p' (-40)) (t - 40)) (by omega) (by omega) ?_⟩
    have := l1 (min (min p' (-40)) (t - 40)) (by omega) (by omega)
    have ha := abs_signed s m' (p' - min (min p' (-40)) (t - 40)).toNat
    have e : (2 : Int) ^ (t - 40 - min (min p' (-40)) (t - 40)).toNat = 2 ^ t * 2 ^ (-40 - min (min p' (-40)) (t - 40)).toNat := by rw [← Int.pow_add]; congr 1; omega
    have e5 : (((2 : Nat) ^ (t - 40 - min (min p' (-40)) (t - 40)).toNat : Nat) : Int) = 2 ^ (t - 40 - min (min p' (-40)) (t - 40)).toNat := by simp
    rw [Int.neg_mul, ← e]
    omega
  exact (h1.both h2).mono (by omega) (by show _ ≤ min (B + 1) (2 ^ t); have : (2 : Int) ^ 0 = 1 := rfl
                                         omega)
/-- a difference that is between 0 and a power of two -/
theorem inG.subP {a b : Nat} {A B C D : Int} (t : Nat) (h : inG .f64 a A B) (h' : inG .f64 b C D) (h1 : 0 ≤ A - D) (h2 : B - C ≤ 2 ^ t) (ht : t ≤ 40) : inG .f64 (fSub .f64 a b) (max 0 (A - D - 1)) (min (B - C + 1) (2 ^ t)) := by
  obtain ⟨s, m, p, hd, hg⟩ := h
  obtain ⟨t', n, q, hd', hg'⟩ := h'
  have e : fSub .f64 a b = canon .f64 (FloatKind.f64.encode (.number (if Ieee.signed s m (p - min p q).toNat + Ieee.signed (!t') n (q - min p q).toNat = 0 then s && !t' else decide (Ieee.signed s m (p - min p q).toNat + Ieee.signed (!t') n (q - min p q).toNat < 0)) (Ieee.signed s m (p - min p q).toNat + Ieee.signed (!t') n (q - min p q).toNat).natAbs (min p q))) := by
    unfold fSub Ieee.Format.sub
    rw [show FloatKind.f64.format.read a = .number s m p from hd, show FloatKind.f64.format.read b = .number t' n q from hd']
    rfl
  rw [e]
  have := rnd_clip t ((hg.sum hg'.neg (s && !t')).mono (A' := A - D) (B' := B - C) (by omega) (by omega)) h1 h2 ht
  exact this
theorem inG.floor {k : FloatKind} {x : Nat} {A B : Int} (h : inG k x A B) : ∃ C, inG k x C (C + 1) ∧ A ≤ C ∧ C ≤ B := by
  obtain ⟨s, m, p, hd, hg⟩ := h
  have hb := hg (min p (-40)) (by omega) (by omega)
  have pp := p2_pos (-40 - min p (-40)).toNat
  have hdm := Int.emod_add_mul_ediv (Ieee.signed s m (p - min p (-40)).toNat) (2 ^ (-40 - min p (-40)).toNat)
  have hm0 := Int.emod_nonneg (Ieee.signed s m (p - min p (-40)).toNat) (Int.ne_of_gt pp)
  have hm1 := Int.emod_lt_of_pos (Ieee.signed s m (p - min p (-40)).toNat) pp
  refine ⟨Ieee.signed s m (p - min p (-40)).toNat / 2 ^ (-40 - min p (-40)).toNat, ⟨s, m, p, hd, GAt.of (min p (-40)) (by omega) (by omega) ?_⟩, ?_, ?_⟩
  · rw [Int.mul_comm] at hdm
    rw [Int.add_mul, Int.one_mul]
    omega
  · exact (Int.le_ediv_iff_mul_le pp).2 hb.1
  · refine Int.le_of_lt_add_one ((Int.ediv_lt_iff_lt_mul pp).2 ?_)
    rw [Int.add_mul, Int.one_mul]
    omega
end Go.Proofs.YtnndahnmlmgenaaGreat
