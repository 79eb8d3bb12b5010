/- Functions of the program and of the reference in plain terms. -/
import Derived.Test.YtnndahnmlmgenaaGreatP17
namespace Go.Proofs.YtnndahnmlmgenaaGreat
open Go Go.Tm
set_option linter.unusedVariables false
set_option linter.unusedSimpArgs false
set_option linter.unusedSectionVars false
/-! ### the angle of a point -/
theorem conv_abs {a : Nat} (hf : finB a = true) : isNan .f64 (conv64 a) = false ∧ ∃ m p, FloatKind.f64.decode (absW (conv64 a)) = .number false m p ∧ ((fEq .f32 a 0 = true ∧ m = 0) ∨ (fEq .f32 a 0 = false ∧ 2 ^ 52 ≤ m ∧ m < 2 ^ 53)) := by
  obtain ⟨s, M, P, hd, hM24, hP1, hP2⟩ : ∃ s M P, FloatKind.f32.decode a = .number s M P ∧ M < 2 ^ 24 ∧ -149 ≤ P ∧ P ≤ 104 := by
    obtain ⟨s, M, P, hd⟩ := fin_iff.1 hf
    rcases single_read a with ⟨_, _, e⟩ | ⟨_, e⟩ | ⟨s', m', p', e, h1, h2, h3⟩
    · rw [show Ieee.single.read a = FloatKind.f32.decode a from rfl, hd] at e; cases e
    · rw [show Ieee.single.read a = FloatKind.f32.decode a from rfl, hd] at e; cases e
    · exact ⟨s', m', p', e, h1, h2, h3⟩
  have hn : isNan .f64 (FloatKind.f64.encode (.number s M P)) = false := write_nan rfl
  have hcc : conv64 a = FloatKind.f64.encode (.number s M P) := by
    have hc := fConv32_eq a
    unfold fConv at hc
    rw [hd] at hc
    obtain ⟨s', m', p', h1, _⟩ := near64 s (m := M) (p := P) (fun h => by
      have := single_top a hd h
      omega)
    simp only at hc
    rw [h1] at hc
    have hc : canon .f64 (FloatKind.f64.encode (.number s M P)) = conv64 a := by simpa [Ieee.Datum.isInfinity] using hc
    rw [← hc, canon_of_num hn]
  have hnan : isNan .f64 (conv64 a) = false := by rw [hcc]; exact hn
  have hlt : conv64 a < 2 ^ 64 := by
    rw [hcc]
    exact Ieee.Format.write_lt FloatKind.f64.format (.number s M P)
  have habs := absW_decode hlt hnan
  refine ⟨hnan, ?_⟩
  have d0 : FloatKind.f32.format.read a = .number s M P := hd
  have h0 : FloatKind.f32.format.read 0 = .number false 0 (-149) := by decide
  have hz0 : ∀ u, Ieee.signed false 0 u = 0 := fun u => by simp [Ieee.signed]
  have ho : FloatKind.f32.format.order a 0 = some (compare (Ieee.signed s M (P - min P (-149)).toNat) 0) := by
    unfold Ieee.Format.order
    rw [d0, h0]
    simp only [Ieee.Datum.order, hz0]
  have habsS := abs_signed s M (P - min P (-149)).toNat
  by_cases hM : M = 0
  · subst hM
    have hr : FloatKind.f64.decode (conv64 a) = .number s 0 (FloatKind.f64.format.leastPlace + (0 : Nat)) := by
      rw [hcc]
      have e : FloatKind.f64.encode (.number s 0 P) = FloatKind.f64.format.word s (0 * FloatKind.f64.format.binade + 0) := by
        show FloatKind.f64.format.nearest s 0 P = _
        unfold Ieee.Format.nearest
        rw [if_pos rfl, Nat.zero_mul]
      rw [e]
      exact read_kept (.inl ⟨rfl, by decide⟩) (by decide)
    rw [hr] at habs
    refine ⟨_, _, habs, .inl ⟨?_, rfl⟩⟩
    rw [Nat.zero_mul] at habsS
    have hv : Ieee.signed s 0 (P - min P (-149)).toNat = 0 := by omega
    unfold fEq
    rw [ho, hv, compare_self]
    rfl
  · obtain ⟨K, q, r, g, _, _⟩ := near_err s hM (p := P) (by omega) (by
      rw [last_eq]
      have : M.log2 < 24 := (Nat.log2_lt hM).2 hM24
      omega)
    rw [last_eq] at g
    have hr : FloatKind.f64.decode (conv64 a) = .number s K q := by rw [hcc]; exact r
    have hK53 := (double_read hr).1
    have hK52 := double_norm hr (by omega)
    rw [hr] at habs
    refine ⟨_, _, habs, .inr ⟨?_, hK52, hK53⟩⟩
    have hpos : 0 < M * 2 ^ (P - min P (-149)).toNat := Nat.mul_pos (by omega) (Nat.two_pow_pos _)
    unfold fEq
    rw [ho]
    generalize Ieee.signed s M (P - min P (-149)).toNat = v at *
    rcases Int.lt_trichotomy v 0 with h | h | h
    · rw [cmp_lt' h]; rfl
    · rw [h] at habsS; simp at habsS; omega
    · rw [cmp_gt' h]; rfl

/-- the smaller over the greater, and which is the greater -/
theorem ratio_two {u w m n : Nat} {p q : Int} (hu : FloatKind.f64.decode u = .number false m p) (hw : FloatKind.f64.decode w = .number false n q) (hm : m = 0 ∨ (2 ^ 52 ≤ m ∧ m < 2 ^ 53)) (hn : n = 0 ∨ (2 ^ 52 ≤ n ∧ n < 2 ^ 53)) (hne : ¬ (m = 0 ∧ n = 0)) :
    ∃ x : Nat, pw .f64 x 0 ∧ fDiv .f64 (fMin .f64 u w) (fMax .f64 u w) = x ∧ ((fLt .f64 w u = true ∧ fEq .f64 u 0 = false ∧ fDiv .f64 w u = x) ∨ (fLt .f64 w u = false ∧ fEq .f64 w 0 = false ∧ fDiv .f64 u w = x)) := by
  have du : FloatKind.f64.format.read u = .number false m p := hu
  have dw : FloatKind.f64.format.read w = .number false n q := hw
  have nu : (FloatKind.f64.decode u).neg = false := by rw [hu]; rfl
  have h0 : FloatKind.f64.format.read 0 = .number false 0 (-1074) := by decide
  have hz0 : ∀ u, Ieee.signed false 0 u = 0 := fun u => by simp [Ieee.signed]
  have sg : ∀ m k, Ieee.signed false m k = ((m * 2 ^ k : Nat) : Int) := fun m k => by rw [← Nat.shiftLeft_eq]; rfl
  have o1 : FloatKind.f64.format.order u w = some (compare ((m * 2 ^ (p - min p q).toNat : Nat) : Int) ((n * 2 ^ (q - min p q).toNat : Nat) : Int)) := by
    unfold Ieee.Format.order
    rw [du, dw]
    simp only [Ieee.Datum.order, sg]
  have o2 : FloatKind.f64.format.order w u = some (compare ((n * 2 ^ (q - min p q).toNat : Nat) : Int) ((m * 2 ^ (p - min p q).toNat : Nat) : Int)) := by
    unfold Ieee.Format.order
    rw [du, dw]
    simp only [Ieee.Datum.order, sg, Int.min_comm q p]
  have nz : ∀ {x k : Nat} {j : Int}, FloatKind.f64.format.read x = .number false k j → k ≠ 0 → fEq .f64 x 0 = false := fun {x k j} hx hk => by
    unfold fEq Ieee.Format.order
    rw [hx, h0]
    simp only [Ieee.Datum.order, sg, Nat.zero_mul]
    have : 0 < k * 2 ^ (j - min j (-1074)).toNat := Nat.mul_pos (by omega) (Nat.two_pow_pos _)
    rw [cmp_gt' (by omega)]
    rfl
  have quo : ∀ {x y k l : Nat} {i j : Int}, FloatKind.f64.decode x = .number false k i → FloatKind.f64.decode y = .number false l j → l ≠ 0 → k * 2 ^ (i - min i j).toNat ≤ l * 2 ^ (j - min i j).toNat → pw .f64 (fDiv .f64 x y) 0 := fun {x y k l i j} hx hy hl hle => by
    refine pw_div hx hy hl (fun c c1 c2 => ?_) (by decide) (by decide)
    rw [Int.add_zero] at c2 ⊢
    rw [pow_split (by omega : min i j ≤ i) c (by omega), pow_split (by omega : min i j ≤ j) c (by omega), ← Nat.mul_assoc, ← Nat.mul_assoc]
    exact Nat.mul_le_mul_right _ hle
  rcases Nat.lt_trichotomy (m * 2 ^ (p - min p q).toNat) (n * 2 ^ (q - min p q).toNat) with h | h | h
  · have hn0 : n ≠ 0 := fun z => by rw [z, Nat.zero_mul] at h; omega
    refine ⟨_, quo hu hw hn0 (Nat.le_of_lt h), ?_, .inr ⟨?_, nz dw hn0, rfl⟩⟩
    · have e1 : fMin .f64 u w = u := by unfold fMin; rw [o1, cmp_lt' (Int.ofNat_lt.2 h)]
      have e2 : fMax .f64 u w = w := by unfold fMax; rw [o1, cmp_lt' (Int.ofNat_lt.2 h)]
      rw [e1, e2]
    · unfold fLt; rw [o2, cmp_gt' (Int.ofNat_lt.2 h)]; rfl
  · have hn0 : n ≠ 0 := fun z => by
      rw [z, Nat.zero_mul] at h
      have hp2 := Nat.two_pow_pos (p - min p q).toNat
      have : m = 0 := by
        rcases Nat.mul_eq_zero.1 h with e | e
        · exact e
        · omega
      exact hne ⟨this, z⟩
    have hm0 : m ≠ 0 := fun z => by
      rw [z, Nat.zero_mul] at h
      have hp2 := Nat.two_pow_pos (q - min p q).toNat
      rcases Nat.mul_eq_zero.1 h.symm with e | e
      · exact hn0 e
      · omega
    obtain ⟨m1, m2⟩ := hm.resolve_left hm0
    obtain ⟨n1, n2⟩ := hn.resolve_left hn0
    have hpq : p = q := by
      rcases Int.lt_trichotomy p q with hlt | he | hlt
      · exfalso
        rw [show (p - min p q).toNat = 0 by omega, Nat.pow_zero, Nat.mul_one] at h
        have : n * 2 ^ 1 ≤ n * 2 ^ (q - min p q).toNat := Nat.mul_le_mul_left _ (Nat.pow_le_pow_right (by decide) (by omega))
        omega
      · exact he
      · exfalso
        rw [show (q - min p q).toNat = 0 by omega, Nat.pow_zero, Nat.mul_one] at h
        have : m * 2 ^ 1 ≤ m * 2 ^ (p - min p q).toNat := Nat.mul_le_mul_left _ (Nat.pow_le_pow_right (by decide) (by omega))
        omega
    have hmn : m = n := by
      subst hpq
      exact Nat.eq_of_mul_eq_mul_right (Nat.two_pow_pos _) h
    have hsame : fDiv .f64 w u = fDiv .f64 u w := by
      unfold fDiv Ieee.Format.div
      rw [du, dw, hmn, hpq]
    refine ⟨_, quo hu hw hn0 (Nat.le_of_eq h), ?_, .inr ⟨?_, nz dw hn0, rfl⟩⟩
    · have e1 : fMin .f64 u w = w := by unfold fMin; rw [o1, h, compare_self, nu]; rfl
      have e2 : fMax .f64 u w = u := by unfold fMax; rw [o1, h, compare_self, nu]; rfl
      rw [e1, e2, hsame]
    · unfold fLt; rw [o2, h, compare_self]; rfl
  · have hm0 : m ≠ 0 := fun z => by rw [z, Nat.zero_mul] at h; omega
    refine ⟨_, quo hw hu hm0 (by rw [Int.min_comm q p]; exact Nat.le_of_lt h), ?_, .inl ⟨?_, nz du hm0, rfl⟩⟩
    · have e1 : fMin .f64 u w = w := by unfold fMin; rw [o1, cmp_gt' (Int.ofNat_lt.2 h)]
      have e2 : fMax .f64 u w = u := by unfold fMax; rw [o1, cmp_gt' (Int.ofNat_lt.2 h)]
      rw [e1, e2]
    · unfold fLt; rw [o2, cmp_lt' (Int.ofNat_lt.2 h)]; rfl
end Go.Proofs.YtnndahnmlmgenaaGreat
