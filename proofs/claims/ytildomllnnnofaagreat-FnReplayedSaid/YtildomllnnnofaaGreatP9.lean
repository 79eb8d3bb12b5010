import Derived.Test.YtildomllnnnofaaGreatP8
/- Functions of the program and of the reference in plain terms. -/
namespace Go.Proofs.YtildomllnnnofaaGreat
open Go Go.Tm
set_option linter.unusedVariables false
set_option linter.unusedSimpArgs false
set_option linter.unusedSectionVars false
theorem qv3 (s : Bool) (q d : Nat) (hq : q ≠ 0) : Ieee.Toward.even.cut s (q * 2 ^ d) d = q := by
  have hlog : d ≤ (q * 2 ^ d).log2 := by
    refine (Nat.le_log2 (Nat.mul_ne_zero hq (Nat.pos_iff_ne_zero.1 (Nat.two_pow_pos d)))).2 ?_
    exact Nat.le_mul_of_pos_left _ (Nat.pos_of_ne_zero hq)
  unfold Ieee.Toward.cut
  rw [Nat.min_eq_left (by omega), Nat.shiftLeft_eq, Nat.one_mul]
  simp only [Nat.mul_mod_left, Nat.mul_div_cancel _ (Nat.two_pow_pos d)]
  have h2 : (2 ^ d == 2 * 0) = false := by
    rw [beq_eq_false_iff_ne]
    have := Nat.two_pow_pos d
    omega
  simp [h2]
theorem qoa {m : Nat} (hm : m ≠ 0) (a : Nat) : (m * 2 ^ a).log2 = m.log2 + a := by
  have h1 := Nat.log2_self_le hm
  have h2 := @Nat.lt_log2_self m
  have h0 : m * 2 ^ a ≠ 0 := Nat.mul_ne_zero hm (Nat.pos_iff_ne_zero.1 (Nat.two_pow_pos a))
  refine Nat.le_antisymm ?_ ?_
  · have : m * 2 ^ a < 2 ^ (m.log2 + a + 1) := by
      rw [show m.log2 + a + 1 = m.log2 + 1 + a by omega, Nat.pow_add]
      exact Nat.mul_lt_mul_of_pos_right h2 (Nat.two_pow_pos a)
    exact Nat.le_of_lt_succ ((Nat.log2_lt h0).2 this)
  · refine (Nat.le_log2 h0).2 ?_
    rw [Nat.pow_add]
    exact Nat.mul_le_mul_right _ h1
theorem qqx {f : Ieee.Format} (s : Bool) {m : Nat} {p : Int} (a : Nat) (hm : m ≠ 0) (hp : lastOf f m p ≤ p) : f.nearest s (m * 2 ^ a) (p - a) = f.nearest s m p := by
  have h0 : m * 2 ^ a ≠ 0 := Nat.mul_ne_zero hm (Nat.pos_iff_ne_zero.1 (Nat.two_pow_pos a))
  have hl : max (p - a + ((m * 2 ^ a).log2 : Int) - f.fractionBits) f.leastPlace = lastOf f m p := by
    rw [qoa hm]
    unfold lastOf
    congr 1
    omega
  unfold Ieee.Format.nearest
  rw [if_neg h0, if_neg hm]
  simp only [hl]
  rw [show max (p + (m.log2 : Int) - f.fractionBits) f.leastPlace = lastOf f m p from rfl]
  generalize lastOf f m p = last at hp
  have e1 : Ieee.Toward.even.cut s (m <<< (p - last).toNat) (last - p).toNat = m * 2 ^ (p - last).toNat := by
    rw [Nat.shiftLeft_eq, show (last - p).toNat = 0 by omega]
    exact qfj _ _ _
  have e2 : Ieee.Toward.even.cut s ((m * 2 ^ a) <<< (p - a - last).toNat) (last - (p - a)).toNat = m * 2 ^ (p - last).toNat := by
    rw [Nat.shiftLeft_eq]
    by_cases h : (a : Int) ≤ p - last
    · rw [show (last - (p - a)).toNat = 0 by omega, qfj, Nat.mul_assoc, ← Nat.pow_add]
      congr 2
      omega
    · have hd : m * 2 ^ a * 2 ^ (p - a - last).toNat = (m * 2 ^ (p - last).toNat) * 2 ^ (last - (p - a)).toNat := by
        rw [show (p - a - last).toNat = 0 by omega, Nat.pow_zero, Nat.mul_one, Nat.mul_assoc, ← Nat.pow_add]
        congr 2
        omega
      rw [hd]
      exact qv3 s _ _ (Nat.mul_ne_zero hm (Nat.pos_iff_ne_zero.1 (Nat.two_pow_pos _)))
  rw [e1, e2]
theorem qk3 {b : Nat} (h : isNan .f32 b = false) : canon .f32 b = b := by
  unfold canon; rw [h]; rfl
theorem qud {n : Int} : fOfInt .f32 n = FloatKind.f32.format.nearest (decide (n < 0)) n.natAbs 0 := by
  show canon .f32 (FloatKind.f32.format.nearest (decide (n < 0)) n.natAbs 0) = _
  exact qk3 (qjp .f32 _ _ _)
theorem div_one {n : Int} (h : n.natAbs < 2 ^ 24) : fDiv .f32 (fOfInt .f32 n) (fOfInt .f32 1) = fOfInt .f32 n := by
  have one : FloatKind.f32.format.read (fOfInt .f32 1) = .number false 8388608 (-23) := by decide
  rcases Nat.eq_zero_or_pos n.natAbs with h0 | h0
  · have : n = 0 := by omega
    subst this
    decide
  · have hm : n.natAbs ≠ 0 := by omega
    have hlog : n.natAbs.log2 ≤ 23 := Nat.le_of_lt_succ ((Nat.log2_lt hm).2 h)
    have hf2 : FloatKind.f32.format.fractionBits = 23 := rfl
    have hf3 : FloatKind.f32.format.leastPlace = -149 := rfl
    have hlast : lastOf FloatKind.f32.format n.natAbs 0 = (n.natAbs.log2 : Int) - 23 := by
      unfold lastOf
      rw [hf2, hf3]
      omega
    have hr := qu2 (f := FloatKind.f32.format) (decide (n < 0)) (m := n.natAbs) (p := 0) hm (by rw [hlast]; omega) (by
      rw [hlast, hf2, hf3]
      show ((n.natAbs.log2 : Int) - 23 - -149 + 2) * 2 ^ 23 ≤ ((2139095040 : Nat) : Int)
      omega)
    rw [hlast] at hr
    rw [qud (n := n)]
    unfold fDiv Ieee.Format.div
    rw [hr, one]
    simp only [Ieee.Datum.quotient, if_neg (show (8388608 : Nat) ≠ 0 by decide), Option.map_some, orNan]
    obtain ⟨a, ha⟩ : ∃ a : Nat, (0 - ((n.natAbs.log2 : Int) - 23)).toNat = a ∧ (a : Int) = 23 - (n.natAbs.log2 : Int) := ⟨_, rfl, by omega⟩
    rw [ha.1]
    have hM : (n.natAbs * 2 ^ a).log2 = 23 := by
      rw [qoa hm]; omega
    have hmore : FloatKind.f32.format.fractionBits + 2 + Nat.log2 8388608 - (n.natAbs * 2 ^ a).log2 = 25 := by rw [hM, hf2]; decide
    rw [hmore]
    have hsh : (n.natAbs * 2 ^ a) <<< 25 = n.natAbs * 2 ^ a * 4 * 8388608 := by rw [Nat.shiftLeft_eq]; omega
    rw [hsh, Nat.mul_div_cancel _ (by decide), Nat.mul_mod_left]
    have hmag : 2 * (n.natAbs * 2 ^ a * 4) + (0 != 0 : Bool).toNat = n.natAbs * 2 ^ (a + 3) := by
      rw [Nat.pow_add]
      show 2 * (n.natAbs * 2 ^ a * 4) + 0 = n.natAbs * (2 ^ a * 8)
      have : n.natAbs * (2 ^ a * 8) = n.natAbs * 2 ^ a * 8 := (Nat.mul_assoc _ _ _).symm
      omega
    have hpl : (n.natAbs.log2 : Int) - 23 - -23 - ((25 : Nat) : Int) - 1 = 0 - ((a + 3 : Nat) : Int) := by omega
    rw [hmag, hpl, Bool.xor_false]
    show canon .f32 (FloatKind.f32.format.nearest _ _ _) = _
    rw [qqx _ _ hm (by rw [hlast]; omega)]
    exact qk3 (qjp .f32 _ _ _)
theorem qb8 {s : List UInt8} (hs : s.length ≤ 1048576) : ∃ n : Int, impl_whole s = some ((n, numOK 999999 s, ()), ()) ∧ (numOK 999999 s = true → n = (valD 0 s : Int)) := by
  obtain ⟨hb1, hb2⟩ := qmc s
  refine ⟨(parseInt64 s).1, ?_, fun h => by rw [(qc8 (by decide) h).1]⟩
  simp only [impl_whole, qjv hs, qbt, qbl, qiq hb1 hb2, Option.bind_some]
  cases h : numOK 999999 s with
  | true =>
    obtain ⟨h1, h2, h3⟩ := qc8 (by decide) h
    rw [h1]
    simp only [cond_true, qaq (show (0 : Int) ≤ (valD 0 s : Int) by omega), qaq (show (valD 0 s : Int) ≤ 999999 by omega), Bool.and_self, h2, qxn]
  | false =>
    cases (parseInt64 s).2 with
    | false => rfl
    | true =>
      simp only [cond_true]
      cases hr : (iLe 0 (parseInt64 s).1 && iLe (parseInt64 s).1 999999) with
      | false => rfl
      | true =>
        simp only [Bool.and_eq_true, qbo] at hr
        have := qs8 h hr.1 (by have := hr.2; omega)
        have : sEq (Lib.itoa (parseInt64 s).1) s = false := by simpa [sEq] using this
        simp only [cond_true, this]
theorem qu7 {s : List UInt8} (h : numOK 999999 s = true) : s.length ≤ 6 := by
  obtain ⟨k, hk, rfl⟩ := numOK_iff.1 h
  exact (qc5 5 k (by omega)).2.2.1
theorem qcv (s : List UInt8) : ∃ n : Int, spec_l08Whole s = some ((n, numOK 999999 s, ()), ()) ∧ (numOK 999999 s = true → n = (valD 0 s : Int)) := by
  unfold spec_l08Whole
  by_cases h6 : 6 < lenI s
  · have : numOK 999999 s = false := by
      rw [← Bool.not_eq_true]
      intro h
      have := qu7 h
      rw [qaa] at h6
      omega
    rw [qah h6, this]
    exact ⟨0, rfl, fun h => by cases h⟩
  · obtain ⟨n, h1, h2⟩ := qqw s
    have e : numOK 999999999 s = numOK 999999 s := by
      rw [qaa] at h6
      cases h : numOK 999999999 s with
      | true =>
        obtain ⟨k, hk, e⟩ := numOK_iff.1 h
        symm
        refine numOK_iff.2 ⟨k, ?_, e⟩
        have hd := (qbs k)
        have := qoz (Lib.decDigits k) 0 0 hd.1 (by decide)
        rw [hd.2.1, ← e] at this
        have h2 : 10 ^ (0 + s.length) ≤ 10 ^ 6 := Nat.pow_le_pow_right (by decide) (by omega)
        omega
      | false =>
        symm
        rw [← Bool.not_eq_true]
        intro h'
        obtain ⟨k, hk, e⟩ := numOK_iff.1 h'
        have : numOK 999999999 s = true := numOK_iff.2 ⟨k, by omega, e⟩
        rw [h] at this
        cases this
    rw [qag h6]
    rw [e] at h1 h2
    exact ⟨n, by simp only [cond_false, h1, Option.bind_some], h2⟩
abbrev RdF := (Nat × Int × Unit) × Unit
def badF : RdF := ((0, 5, ()), ())
def negB (p : List UInt8) : Bool := Lib.hasPrefix p [45]
def tailS (p : List UInt8) : List UInt8 := Lib.trimPrefix p [45]
def signedI (p : List UInt8) : Int := bif negB p then -(valD 0 (tailS p) : Int) else (valD 0 (tailS p) : Int)
def divB (r : List UInt8) : Bool := numOK 999999 r && ((iLe 2 (valD 0 r : Int) && iLe (valD 0 r : Int) 1024) && iEq (iAnd .i64 (valD 0 r : Int) (iSub .i64 (valD 0 r : Int) 1)) 0)
def fracOne (p : List UInt8) : RdF := bif numOK 999999 (tailS p) then ((fOfInt .f32 (signedI p), 0, ()), ()) else badF
def fracTwo (p r : List UInt8) : RdF := bif numOK 999999 (tailS p) && divB r then ((fDiv .f32 (fOfInt .f32 (signedI p)) (fOfInt .f32 (valD 0 r : Int)), 0, ()), ()) else badF
theorem qru (p : List UInt8) : (tailS p).length ≤ p.length := by
  unfold tailS Lib.trimPrefix
  split
  · simp
  · exact Nat.le_refl _
theorem qyd {c : UInt8} {s : List UInt8} (h : c ∉ s) : Lib.cut s [c] = (s, [], false) := by
  unfold Lib.cut
  rw [qjh h]
  rfl
theorem qw5 {c : UInt8} {p r : List UInt8} (h : c ∉ p) : Lib.cut (p ++ c :: r) [c] = (p, r, true) := by
  unfold Lib.cut
  rw [qhw r h, if_pos (by omega)]
  rw [show p ++ c :: r = (p ++ [c]) ++ r by simp]
  have e1 : ((p ++ [c]) ++ r).take (p.length : Int).toNat = p := by rw [Int.toNat_natCast]; simp
  have e2 : ((p ++ [c]) ++ r).drop ((p.length : Int).toNat + [c].length) = r := by rw [Int.toNat_natCast, List.length_singleton, show p.length + 1 = (p ++ [c]).length by simp, List.drop_left]
  rw [e1, e2]
theorem qpg {s sep : List UInt8} (h : s.length ≤ 1048576) : strings_Cut s sep = some (((Lib.cut s sep).1, (Lib.cut s sep).2.1, (Lib.cut s sep).2.2, ()), ()) := by
  unfold strings_Cut
  rw [Nat.ble_eq_true_of_le (by omega)]
  rfl
theorem qqb {n : Nat} (h : n ≤ 999999) : iSub .i64 0 (n : Int) = -(n : Int) := by rw [qbv (by omega) (by omega)]; omega
theorem qsz {p : List UInt8} (h : numOK 999999 (tailS p) = true) : fDiv .f32 (fOfInt .f32 (signedI p)) (fOfInt .f32 1) = fOfInt .f32 (signedI p) := by
  obtain ⟨_, _, hv⟩ := qc8 (by decide) h
  refine div_one ?_
  unfold signedI
  cases negB p <;> simp <;> omega
theorem qe2 {s : List UInt8} (hs : s.length ≤ 1048576) : ∃ w, impl_ReadFraction s = some w ∧ ((∀ (h : (47 : UInt8) ∉ s), w = fracOne s) ∧ ∀ p r, s = p ++ 47 :: r → (47 : UInt8) ∉ p → w = fracTwo p r) := by
  have hcut := qpg (sep := [47]) hs
  have hpre : ∀ p : List UInt8, strings_CutPrefix p [45] = some ((tailS p, negB p, ()), ()) := fun p => rfl
  rcases qcp 47 s with h | ⟨p, r, e, h⟩
  · rw [qyd h] at hcut
    obtain ⟨n, hn, hv⟩ := qb8 (s := tailS s) (Nat.le_trans (qru s) hs)
    refine ⟨fracOne s, ?_, fun _ => rfl, fun p r e _ => absurd (by rw [e]; simp) h⟩
    simp only [impl_ReadFraction, hcut, hpre, hn, Option.bind_some, fracOne]
    cases hk : numOK 999999 (tailS s) with
    | false => cases negB s <;> rfl
    | true =>
      have hd := qsz hk
      obtain ⟨_, _, hv'⟩ := qc8 (by decide) hk
      rw [hv hk]
      unfold signedI at hd ⊢
      cases hg : negB s with
      | true =>
        rw [hg] at hd
        simp only [cond_true, cond_false, Bool.not_true, qqb hv'] at hd ⊢
        rw [hd]
      | false =>
        rw [hg] at hd
        simp only [cond_true, cond_false, Bool.not_true] at hd ⊢
        rw [hd]
  · have hl : p.length ≤ 1048576 ∧ r.length ≤ 1048576 := by rw [e] at hs; simp at hs; omega
    rw [e, qw5 h] at hcut
    obtain ⟨n, hn, hv⟩ := qb8 (s := tailS p) (Nat.le_trans (qru p) hl.1)
    obtain ⟨m, hm, hu⟩ := qb8 (s := r) hl.2
    refine ⟨fracTwo p r, ?_, fun h' => absurd (by rw [e]; simp) h', fun p' r' e' h' => ?_⟩
    · rw [e]
      simp only [impl_ReadFraction, hcut, hpre, hn, hm, Option.bind_some, fracTwo, divB, qbt, qbl]
      cases hk : numOK 999999 (tailS p) with
      | false => cases negB p <;> rfl
      | true =>
        obtain ⟨_, _, hv'⟩ := qc8 (by decide) hk
        rw [hv hk]
        cases hq : numOK 999999 r with
        | false => cases negB p <;> rfl
        | true =>
          rw [hu hq]
          unfold signedI
          cases negB p with
          | true =>
            simp only [cond_true, cond_false, Bool.true_and, qqb hv']
            cases (iLe 2 (valD 0 r : Int) && iLe (valD 0 r : Int) 1024) <;> cases iEq (iAnd .i64 (valD 0 r : Int) (iSub .i64 (valD 0 r : Int) 1)) 0 <;> rfl
          | false =>
            simp only [cond_true, cond_false, Bool.true_and]
            cases (iLe 2 (valD 0 r : Int) && iLe (valD 0 r : Int) 1024) <;> cases iEq (iAnd .i64 (valD 0 r : Int) (iSub .i64 (valD 0 r : Int) 1)) 0 <;> rfl
    · have h1 := qce r h
      have h2 := qce r' h'
      rw [← e, e', h2] at h1
      have hp : p' = p := (List.cons.inj h1).1
      subst hp
      have : r' = r := by
        rw [e] at e'
        exact ((List.cons.inj (List.append_cancel_left e')).2).symm
      rw [this]
theorem qyu (p : List UInt8) : (p = [] ∧ negB p = false ∧ tailS p = p) ∨ (∃ c t, p = c :: t ∧ ((byteI c = 45 ∧ negB p = true ∧ tailS p = t) ∨ (byteI c ≠ 45 ∧ negB p = false ∧ tailS p = p))) := by
  cases p with
  | nil => exact .inl ⟨rfl, rfl, rfl⟩
  | cons c t =>
    refine .inr ⟨c, t, rfl, ?_⟩
    have hb : iEq (byteI c) 45 = decide (c = 45) := qmy c 45
    by_cases h : c = 45
    · subst h
      exact .inl ⟨rfl, rfl, rfl⟩
    · have hp : negB (c :: t) = false := by
        unfold negB Lib.hasPrefix
        have : ((45 : UInt8) == c) = false := by simpa using fun e : (45 : UInt8) = c => h e.symm
        simp [List.isPrefixOf, this]
      refine .inr ⟨fun e => ?_, hp, ?_⟩
      · rw [qlm e] at hb
        simp at hb
        exact h hb
      · unfold tailS Lib.trimPrefix
        unfold negB at hp
        rw [hp]
        rfl
noncomputable def backF (l : List (List UInt8)) (sg : Int) (n : Int) : Option ((Nat × Bool × Unit) × Unit) :=
  bif (iLt 2 (lenI l)) then some (((0 : Nat), false, ()), ()) else
  bif (iEq (lenI l) 1) then some (((fOfInt .f32 (iMul .i64 sg n)), true, ()), ()) else
  bif inB 1 (List.length l) then
    (spec_l08Whole (List.getD l 1 ([] : List UInt8))).bind fun y309 =>
    bif (! y309.1.2.1) then some (((0 : Nat), false, ()), ()) else
    bif (iLt y309.1.1 2) then some (((0 : Nat), false, ()), ()) else
    bif (iLt 1024 y309.1.1) then some (((0 : Nat), false, ()), ()) else
    bif (! (iEq (iAnd .i64 y309.1.1 (iSub .i64 y309.1.1 1)) 0)) then some (((0 : Nat), false, ()), ()) else
    some (((fDiv .f32 (fOfInt .f32 (iMul .i64 sg n)) (fOfInt .f32 y309.1.1)), true, ()), ())
  else none
theorem qfa {s p : List UInt8} {q : List (List UInt8)} (hs : s.length ≤ 1048576) (e : splitC 47 s = p :: q) : spec_l08Fraction s = bif numOK 999999 (tailS p) then backF (p :: q) (bif negB p then -1 else 1) (valD 0 (tailS p) : Int) else some (((0 : Nat), false, ()), ()) := by
  have hsp : spec_l01Split s 47 = some ((splitC 47 s, ()), ()) := qcr 47 hs
  have i0 : inB 0 (p :: q).length = true := qaf (i := 0) (by simp)
  have g0 : (p :: q).getD 0 [] = p := rfl
  obtain ⟨n, hn, hv⟩ := qcv (tailS p)
  rcases qyu p with ⟨hp, h1, h2⟩ | ⟨c, t, hp, ⟨h0, h1, h2⟩ | ⟨h0, h1, h2⟩⟩
  · have l0 : iLt 0 (lenI p) = false := by rw [hp]; rfl
    rw [h2] at hn hv ⊢
    simp only [spec_l08Fraction, hsp, e, i0, g0, l0, hn, h1, Option.bind_some, cond_true, cond_false]
    cases hk : numOK 999999 p with
    | false => rfl
    | true => rw [hv hk]; rfl
  · have l0 : iLt 0 (lenI p) = true := by rw [hp]; exact qah (by rw [qaa, List.length_cons]; omega)
    have ip : inB 0 p.length = true := qaf (i := 0) (by rw [hp]; simp)
    have es : iEq (strAt p 0) 45 = true := by rw [hp]; exact qlm h0
    have ins : inS 1 (lenI p) p.length = true := by unfold inS; rw [qaa, hp, List.length_cons]; simp; omega
    have dr : dropL p 1 = tailS p := by rw [h2, hp]; rfl
    simp only [spec_l08Fraction, hsp, e, i0, g0, l0, ip, es, ins, dr, hn, h1, Option.bind_some, cond_true, cond_false]
    cases hk : numOK 999999 (tailS p) with
    | false => rfl
    | true => rw [hv hk]; rfl
  · have l0 : iLt 0 (lenI p) = true := by rw [hp]; exact qah (by rw [qaa, List.length_cons]; omega)
    have ip : inB 0 p.length = true := qaf (i := 0) (by rw [hp]; simp)
    have es : iEq (strAt p 0) 45 = false := by rw [hp]; exact qbm h0
    rw [h2] at hn hv ⊢
    simp only [spec_l08Fraction, hsp, e, i0, g0, l0, ip, es, hn, h1, Option.bind_some, cond_true, cond_false]
    cases hk : numOK 999999 p with
    | false => rfl
    | true => rw [hv hk]; rfl
theorem qq8 {p : List UInt8} (h : numOK 999999 (tailS p) = true) : iMul .i64 (bif negB p then -1 else 1) (valD 0 (tailS p) : Int) = signedI p := by
  obtain ⟨_, _, hv⟩ := qc8 (by decide) h
  unfold signedI
  cases negB p <;> simp only [cond_true, cond_false] <;> rw [qlk (by omega) (by omega)] <;> omega
theorem qi4 {s : List UInt8} (hs : s.length ≤ 1048576) : ∃ w, spec_ReadFraction s = some w ∧ ((∀ (h : (47 : UInt8) ∉ s), w = fracOne s) ∧ ∀ p r, s = p ++ 47 :: r → (47 : UInt8) ∉ p → w = fracTwo p r) := by
  rcases qcp 47 s with h | ⟨p, r, e, h⟩
  · have hf := qfa hs (qcg h)
    refine ⟨fracOne s, ?_, fun _ => rfl, fun p r e _ => absurd (by rw [e]; simp) h⟩
    simp only [spec_ReadFraction, hf, fracOne]
    cases hk : numOK 999999 (tailS s) with
    | false => rfl
    | true =>
      have e1 : iLt 2 (lenI [s]) = false := rfl
      have e2 : iEq (lenI [s]) 1 = true := rfl
      simp only [backF, e1, e2, qq8 hk, cond_true, cond_false, Option.bind_some, Bool.not_true]
  · have hl : p.length ≤ 1048576 ∧ r.length ≤ 1048576 := by rw [e] at hs; simp at hs; omega
    have hf := qfa hs (by rw [e]; exact qce r h)
    have uniq : ∀ p' r', s = p' ++ 47 :: r' → (47 : UInt8) ∉ p' → p' = p ∧ r' = r := by
      intro p' r' e' h'
      have h1 := qce r h
      have h2 := qce r' h'
      rw [← e, e', h2] at h1
      have hp : p' = p := (List.cons.inj h1).1
      subst hp
      rw [e] at e'
      exact ⟨rfl, ((List.cons.inj (List.append_cancel_left e')).2).symm⟩
    refine ⟨fracTwo p r, ?_, fun h' => absurd (by rw [e]; simp) h', fun p' r' e' h' => by rw [(uniq p' r' e' h').1, (uniq p' r' e' h').2]⟩
    simp only [spec_ReadFraction, hf, fracTwo, divB]
    cases hk : numOK 999999 (tailS p) with
    | false => rfl
    | true =>
      simp only [cond_true, Bool.true_and]
      rcases qcp 47 r with hr | ⟨p2, r2, e2, h2⟩
      · rw [qcg hr]
        obtain ⟨m, hm, hu⟩ := qcv r
        have a1 : iLt 2 (lenI [p, r]) = false := rfl
        have a2 : iEq (lenI [p, r]) 1 = false := rfl
        have a3 : inB 1 [p, r].length = true := rfl
        have a4 : [p, r].getD 1 [] = r := rfl
        simp only [backF, a1, a2, a3, a4, hm, qq8 hk, cond_true, cond_false, Option.bind_some]
        cases hq : numOK 999999 r with
        | false => rfl
        | true =>
          rw [hu hq]
          simp only [Bool.not_true, cond_false, Bool.true_and]
          by_cases h2 : (valD 0 r : Int) < 2
          · rw [qah h2, qc9 (show ¬ (2 : Int) ≤ (valD 0 r : Int) by omega)]; rfl
          · rw [qag h2, qaq (show (2 : Int) ≤ (valD 0 r : Int) by omega)]
            by_cases h3 : (1024 : Int) < (valD 0 r : Int)
            · rw [qah h3, qc9 (show ¬ (valD 0 r : Int) ≤ 1024 by omega)]; rfl
            · rw [qag h3, qaq (show (valD 0 r : Int) ≤ 1024 by omega)]
              cases iEq (iAnd .i64 (valD 0 r : Int) (iSub .i64 (valD 0 r : Int) 1)) 0 <;> rfl
      · have hq : numOK 999999 r = false := by
          rw [← Bool.not_eq_true]
          intro hq
          obtain ⟨k, _, ek⟩ := numOK_iff.1 hq
          have := qs6 (c := 47) rfl k
          rw [← ek, e2] at this
          exact this (by simp)
        have hlen := qd2 47 r
        have hc : 1 ≤ r.count 47 := List.one_le_count_iff.2 (by rw [e2]; simp)
        have a1 : iLt 2 (lenI (p :: splitC 47 r)) = true := qah (by rw [qaa, List.length_cons]; omega)
        simp only [backF, a1, hq, cond_true, Bool.false_and, cond_false, Option.bind_some, Bool.not_false]
        rfl
theorem qlx {s : List UInt8} (hs : s.length ≤ 1048576) : ∃ w, spec_ReadFraction s = some w ∧ impl_ReadFraction s = some w := by
  obtain ⟨w, h1, h2, h3⟩ := qi4 hs
  obtain ⟨w', k1, k2, k3⟩ := qe2 hs
  refine ⟨w, h1, ?_⟩
  rw [k1]
  rcases qcp 47 s with h | ⟨p, r, e, h⟩
  · rw [h2 h, k2 h]
  · rw [h3 p r e h, k3 p r e h]
end Go.Proofs.YtildomllnnnofaaGreat
