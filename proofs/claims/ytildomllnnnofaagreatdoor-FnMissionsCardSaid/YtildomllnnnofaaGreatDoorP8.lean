/- Functions of the program and of the reference in plain terms. -/
import Derived.Test.YtildomllnnnofaaGreatDoorP7
namespace Go.Proofs.YtildomllnnnofaaGreatDoor
open Go Go.Tm
set_option linter.unusedVariables false
set_option linter.unusedSimpArgs false
set_option linter.unusedSectionVars false
/-! ### a whole number divided by one -/
theorem cut_exact (s : Bool) (q d : Nat) (hq : q ≠ 0) : Ieee.Toward.even.cut s (q * 2 ^ d) d = q := by
  have hlog : d ≤ (q * 2 ^ d).log2 := by
    refine (Nat.le_log2 (Nat.mul_ne_zero hq (Nat.pos_iff_ne_zero.1 (Nat.two_pow_pos d)))).2 ?_
    exact Nat.le_mul_of_pos_left _ (Nat.pos_of_ne_zero hq)
  unfold Ieee.Toward.cut
  rw [Nat.min_eq_left (by omega), Nat.shiftLeft_eq, Nat.one_mul]
  simp only [Nat.mul_mod_left, Nat.mul_div_cancel _ (Nat.two_pow_pos d)]
  have h2 : (2 ^ d == 2 * 0) = false := by
    rw [beq_eq_false_iff_ne]
    have := Nat.two_pow_pos d
    omega
  simp [h2]

theorem log2_shift {m : Nat} (hm : m ≠ 0) (a : Nat) : (m * 2 ^ a).log2 = m.log2 + a := by
  have h1 := Nat.log2_self_le hm
  have h2 := @Nat.lt_log2_self m
  have h0 : m * 2 ^ a ≠ 0 := Nat.mul_ne_zero hm (Nat.pos_iff_ne_zero.1 (Nat.two_pow_pos a))
  refine Nat.le_antisymm ?_ ?_
  · have : m * 2 ^ a < 2 ^ (m.log2 + a + 1) := by
      rw [show m.log2 + a + 1 = m.log2 + 1 + a by omega, Nat.pow_add]
      exact Nat.mul_lt_mul_of_pos_right h2 (Nat.two_pow_pos a)
    exact Nat.le_of_lt_succ ((Nat.log2_lt h0).2 this)
  · refine (Nat.le_log2 h0).2 ?_
    rw [Nat.pow_add]
    exact Nat.mul_le_mul_right _ h1

theorem nearest_shift {f : Ieee.Format} (s : Bool) {m : Nat} {p : Int} (a : Nat) (hm : m ≠ 0) (hp : lastOf f m p ≤ p) : f.nearest s (m * 2 ^ a) (p - a) = f.nearest s m p := by
  have h0 : m * 2 ^ a ≠ 0 := Nat.mul_ne_zero hm (Nat.pos_iff_ne_zero.1 (Nat.two_pow_pos a))
  have hl : max (p - a + ((m * 2 ^ a).log2 : Int) - f.fractionBits) f.leastPlace = lastOf f m p := by
    rw [log2_shift hm]
    unfold lastOf
    congr 1
    omega
  unfold Ieee.Format.nearest
  rw [if_neg h0, if_neg hm]
  simp only [hl]
  rw [show max (p + (m.log2 : Int) - f.fractionBits) f.leastPlace = lastOf f m p from rfl]
  generalize lastOf f m p = last at hp
  have e1 : Ieee.Toward.even.cut s (m <<< (p - last).toNat) (last - p).toNat = m * 2 ^ (p - last).toNat := by
    rw [Nat.shiftLeft_eq, show (last - p).toNat = 0 by omega]
    exact cut_zero _ _ _
  have e2 : Ieee.Toward.even.cut s ((m * 2 ^ a) <<< (p - a - last).toNat) (last - (p - a)).toNat = m * 2 ^ (p - last).toNat := by
    rw [Nat.shiftLeft_eq]
    by_cases h : (a : Int) ≤ p - last
    · rw [show (last - (p - a)).toNat = 0 by omega, cut_zero, Nat.mul_assoc, ← Nat.pow_add]
      congr 2
      omega
    · have hd : m * 2 ^ a * 2 ^ (p - a - last).toNat = (m * 2 ^ (p - last).toNat) * 2 ^ (last - (p - a)).toNat := by
        rw [show (p - a - last).toNat = 0 by omega, Nat.pow_zero, Nat.mul_one, Nat.mul_assoc, ← Nat.pow_add]
        congr 2
        omega
      rw [hd]
      exact cut_exact s _ _ (Nat.mul_ne_zero hm (Nat.pos_iff_ne_zero.1 (Nat.two_pow_pos _)))
  rw [e1, e2]

theorem read_canon32 {b : Nat} (h : isNan .f32 b = false) : canon .f32 b = b := by
  unfold canon; rw [h]; rfl

theorem ofInt_word {n : Int} : fOfInt .f32 n = FloatKind.f32.format.nearest (decide (n < 0)) n.natAbs 0 := by
  show canon .f32 (FloatKind.f32.format.nearest (decide (n < 0)) n.natAbs 0) = _
  exact read_canon32 (isNan_nearest .f32 _ _ _)

/-- a number of at most 24 digits divided by one is that number -/
theorem div_one {n : Int} (h : n.natAbs < 2 ^ 24) : fDiv .f32 (fOfInt .f32 n) (fOfInt .f32 1) = fOfInt .f32 n := by
  have one : FloatKind.f32.format.read (fOfInt .f32 1) = .number false 8388608 (-23) := by decide
  rcases Nat.eq_zero_or_pos n.natAbs with h0 | h0
  · have : n = 0 := by omega
    subst this
    decide
  · have hm : n.natAbs ≠ 0 := by omega
    have hlog : n.natAbs.log2 ≤ 23 := Nat.le_of_lt_succ ((Nat.log2_lt hm).2 h)
    have hf2 : FloatKind.f32.format.fractionBits = 23 := rfl
    have hf3 : FloatKind.f32.format.leastPlace = -149 := rfl
    have hlast : lastOf FloatKind.f32.format n.natAbs 0 = (n.natAbs.log2 : Int) - 23 := by
      unfold lastOf
      rw [hf2, hf3]
      omega
    have hr := near_exact (f := FloatKind.f32.format) (decide (n < 0)) (m := n.natAbs) (p := 0) hm (by rw [hlast]; omega) (by
      rw [hlast, hf2, hf3]
      show ((n.natAbs.log2 : Int) - 23 - -149 + 2) * 2 ^ 23 ≤ ((2139095040 : Nat) : Int)
      omega)
    rw [hlast] at hr
    rw [ofInt_word (n := n)]
    unfold fDiv Ieee.Format.div
    rw [hr, one]
    simp only [Ieee.Datum.quotient, if_neg (show (8388608 : Nat) ≠ 0 by decide), Option.map_some, orNan]
    obtain ⟨a, ha⟩ : ∃ a : Nat, (0 - ((n.natAbs.log2 : Int) - 23)).toNat = a ∧ (a : Int) = 23 - (n.natAbs.log2 : Int) := ⟨_, rfl, by omega⟩
    rw [ha.1]
    have hM : (n.natAbs * 2 ^ a).log2 = 23 := by
      rw [log2_shift hm]; omega
    have hmore : FloatKind.f32.format.fractionBits + 2 + Nat.log2 8388608 - (n.natAbs * 2 ^ a).log2 = 25 := by rw [hM, hf2]; decide
    rw [hmore]
    have hsh : (n.natAbs * 2 ^ a) <<< 25 = n.natAbs * 2 ^ a * 4 * 8388608 := by rw [Nat.shiftLeft_eq]; omega
    rw [hsh, Nat.mul_div_cancel _ (by decide), Nat.mul_mod_left]
    have hmag : 2 * (n.natAbs * 2 ^ a * 4) + (0 != 0 : Bool).toNat = n.natAbs * 2 ^ (a + 3) := by
      rw [Nat.pow_add]
      show 2 * (n.natAbs * 2 ^ a * 4) + 0 = n.natAbs * (2 ^ a * 8)
      have : n.natAbs * (2 ^ a * 8) = n.natAbs * 2 ^ a * 8 := (Nat.mul_assoc _ _ _).symm
      omega
    have hpl : (n.natAbs.log2 : Int) - 23 - -23 - ((25 : Nat) : Int) - 1 = 0 - ((a + 3 : Nat) : Int) := by omega
    rw [hmag, hpl, Bool.xor_false]
    show canon .f32 (FloatKind.f32.format.nearest _ _ _) = _
    rw [nearest_shift _ _ hm (by rw [hlast]; omega)]
    exact read_canon32 (isNan_nearest .f32 _ _ _)

/-! ### fractions -/
theorem impl_whole_ok {s : List UInt8} (hs : s.length ≤ 1048576) : ∃ n : Int, impl_whole s = some ((n, numOK 999999 s, ()), ()) ∧ (numOK 999999 s = true → n = (valD 0 s : Int)) := by
  obtain ⟨hb1, hb2⟩ := parseInt64_bounds s
  refine ⟨(parseInt64 s).1, ?_, fun h => by rw [(numOK_parse (by decide) h).1]⟩
  simp only [impl_whole, strconv_ParseInt_ok hs, within_eq, l00In_ok, impl_decimal_int64_ok hb1 hb2, Option.bind_some]
  cases h : numOK 999999 s with
  | true =>
    obtain ⟨h1, h2, h3⟩ := numOK_parse (by decide) h
    rw [h1]
    simp only [cond_true, iLe_pos (show (0 : Int) ≤ (valD 0 s : Int) by omega), iLe_pos (show (valD 0 s : Int) ≤ 999999 by omega), Bool.and_self, h2, sEq_self]
  | false =>
    cases (parseInt64 s).2 with
    | false => rfl
    | true =>
      simp only [cond_true]
      cases hr : (iLe 0 (parseInt64 s).1 && iLe (parseInt64 s).1 999999) with
      | false => rfl
      | true =>
        simp only [Bool.and_eq_true, iLe_true] at hr
        have := numOK_false h hr.1 (by have := hr.2; omega)
        have : sEq (Lib.itoa (parseInt64 s).1) s = false := by simpa [sEq] using this
        simp only [cond_true, this]

theorem numOK_len {s : List UInt8} (h : numOK 999999 s = true) : s.length ≤ 6 := by
  obtain ⟨k, hk, rfl⟩ := numOK_iff.1 h
  exact (decDigits_val 5 k (by omega)).2.2.1

abbrev RdF := (Nat × Int × Unit) × Unit
def badF : RdF := ((0, 5, ()), ())
/-- a sign and a numeral -/
def negB (p : List UInt8) : Bool := Lib.hasPrefix p [45]
def tailS (p : List UInt8) : List UInt8 := Lib.trimPrefix p [45]
def signedI (p : List UInt8) : Int := bif negB p then -(valD 0 (tailS p) : Int) else (valD 0 (tailS p) : Int)
/-- is it a divisor -/
def divB (r : List UInt8) : Bool := numOK 999999 r && ((iLe 2 (valD 0 r : Int) && iLe (valD 0 r : Int) 1024) && iEq (iAnd .i64 (valD 0 r : Int) (iSub .i64 (valD 0 r : Int) 1)) 0)

/-- a fraction without and with a divisor -/
def fracOne (p : List UInt8) : RdF := bif numOK 999999 (tailS p) then ((fOfInt .f32 (signedI p), 0, ()), ()) else badF
def fracTwo (p r : List UInt8) : RdF := bif numOK 999999 (tailS p) && divB r then ((fDiv .f32 (fOfInt .f32 (signedI p)) (fOfInt .f32 (valD 0 r : Int)), 0, ()), ()) else badF

theorem tail_len (p : List UInt8) : (tailS p).length ≤ p.length := by
  unfold tailS Lib.trimPrefix
  split
  · simp
  · exact Nat.le_refl _

theorem cut_none {c : UInt8} {s : List UInt8} (h : c ∉ s) : Lib.cut s [c] = (s, [], false) := by
  unfold Lib.cut
  rw [index_free h]
  rfl
theorem cut_some {c : UInt8} {p r : List UInt8} (h : c ∉ p) : Lib.cut (p ++ c :: r) [c] = (p, r, true) := by
  unfold Lib.cut
  rw [index_cut r h, if_pos (by omega)]
  rw [show p ++ c :: r = (p ++ [c]) ++ r by simp]
  have e1 : ((p ++ [c]) ++ r).take (p.length : Int).toNat = p := by rw [Int.toNat_natCast]; simp
  have e2 : ((p ++ [c]) ++ r).drop ((p.length : Int).toNat + [c].length) = r := by rw [Int.toNat_natCast, List.length_singleton, show p.length + 1 = (p ++ [c]).length by simp, List.drop_left]
  rw [e1, e2]

theorem strings_Cut_ok {s sep : List UInt8} (h : s.length ≤ 1048576) : strings_Cut s sep = some (((Lib.cut s sep).1, (Lib.cut s sep).2.1, (Lib.cut s sep).2.2, ()), ()) := by
  unfold strings_Cut
  rw [Nat.ble_eq_true_of_le (by omega)]
  rfl

theorem iSub_zero {n : Nat} (h : n ≤ 999999) : iSub .i64 0 (n : Int) = -(n : Int) := by rw [iSub_eq (by omega) (by omega)]; omega

theorem fracOne_div {p : List UInt8} (h : numOK 999999 (tailS p) = true) : fDiv .f32 (fOfInt .f32 (signedI p)) (fOfInt .f32 1) = fOfInt .f32 (signedI p) := by
  obtain ⟨_, _, hv⟩ := numOK_parse (by decide) h
  refine div_one ?_
  unfold signedI
  cases negB p <;> simp <;> omega

theorem impl_ReadFraction_ok {s : List UInt8} (hs : s.length ≤ 1048576) : ∃ w, impl_ReadFraction s = some w ∧ ((∀ (h : (47 : UInt8) ∉ s), w = fracOne s) ∧ ∀ p r, s = p ++ 47 :: r → (47 : UInt8) ∉ p → w = fracTwo p r) := by
  have hcut := strings_Cut_ok (sep := [47]) hs
  have hpre : ∀ p : List UInt8, strings_CutPrefix p [45] = some ((tailS p, negB p, ()), ()) := fun p => rfl
  rcases cut_first 47 s with h | ⟨p, r, e, h⟩
  · rw [cut_none h] at hcut
    obtain ⟨n, hn, hv⟩ := impl_whole_ok (s := tailS s) (Nat.le_trans (tail_len s) hs)
    refine ⟨fracOne s, ?_, fun _ => rfl, fun p r e _ => absurd (by rw [e]; simp) h⟩
    simp only [impl_ReadFraction, hcut, hpre, hn, Option.bind_some, fracOne]
    cases hk : numOK 999999 (tailS s) with
    | false => cases negB s <;> rfl
    | true =>
      have hd := fracOne_div hk
      obtain ⟨_, _, hv'⟩ := numOK_parse (by decide) hk
      rw [hv hk]
      unfold signedI at hd ⊢
      cases hg : negB s with
      | true =>
        rw [hg] at hd
        simp only [cond_true, cond_false, Bool.not_true, iSub_zero hv'] at hd ⊢
        rw [hd]
      | false =>
        rw [hg] at hd
        simp only [cond_true, cond_false, Bool.not_true] at hd ⊢
        rw [hd]
  · have hl : p.length ≤ 1048576 ∧ r.length ≤ 1048576 := by rw [e] at hs; simp at hs; omega
    rw [e, cut_some h] at hcut
    obtain ⟨n, hn, hv⟩ := impl_whole_ok (s := tailS p) (Nat.le_trans (tail_len p) hl.1)
    obtain ⟨m, hm, hu⟩ := impl_whole_ok (s := r) hl.2
    refine ⟨fracTwo p r, ?_, fun h' => absurd (by rw [e]; simp) h', fun p' r' e' h' => ?_⟩
    · rw [e]
      simp only [impl_ReadFraction, hcut, hpre, hn, hm, Option.bind_some, fracTwo, divB, within_eq, l00In_ok]
      cases hk : numOK 999999 (tailS p) with
      | false => cases negB p <;> rfl
      | true =>
        obtain ⟨_, _, hv'⟩ := numOK_parse (by decide) hk
        rw [hv hk]
        cases hq : numOK 999999 r with
        | false => cases negB p <;> rfl
        | true =>
          rw [hu hq]
          unfold signedI
          cases negB p with
          | true =>
            simp only [cond_true, cond_false, Bool.true_and, iSub_zero hv']
            cases (iLe 2 (valD 0 r : Int) && iLe (valD 0 r : Int) 1024) <;> cases iEq (iAnd .i64 (valD 0 r : Int) (iSub .i64 (valD 0 r : Int) 1)) 0 <;> rfl
          | false =>
            simp only [cond_true, cond_false, Bool.true_and]
            cases (iLe 2 (valD 0 r : Int) && iLe (valD 0 r : Int) 1024) <;> cases iEq (iAnd .i64 (valD 0 r : Int) (iSub .i64 (valD 0 r : Int) 1)) 0 <;> rfl
    · have h1 := splitC_cut r h
      have h2 := splitC_cut r' h'
      rw [← e, e', h2] at h1
      have hp : p' = p := (List.cons.inj h1).1
      subst hp
      have : r' = r := by
        rw [e] at e'
        exact ((List.cons.inj (List.append_cancel_left e')).2).symm
      rw [this]

theorem head_neg (p : List UInt8) : (p = [] ∧ negB p = false ∧ tailS p = p) ∨ (∃ c t, p = c :: t ∧ ((byteI c = 45 ∧ negB p = true ∧ tailS p = t) ∨ (byteI c ≠ 45 ∧ negB p = false ∧ tailS p = p))) := by
  cases p with
  | nil => exact .inl ⟨rfl, rfl, rfl⟩
  | cons c t =>
    refine .inr ⟨c, t, rfl, ?_⟩
    have hb : iEq (byteI c) 45 = decide (c = 45) := byteI_eq c 45
    by_cases h : c = 45
    · subst h
      exact .inl ⟨rfl, rfl, rfl⟩
    · have hp : negB (c :: t) = false := by
        unfold negB Lib.hasPrefix
        have : ((45 : UInt8) == c) = false := by simpa using fun e : (45 : UInt8) = c => h e.symm
        simp [List.isPrefixOf, this]
      refine .inr ⟨fun e => ?_, hp, ?_⟩
      · rw [iEq_pos e] at hb
        simp at hb
        exact h hb
      · unfold tailS Lib.trimPrefix
        unfold negB at hp
        rw [hp]
        rfl

theorem sign_mul {p : List UInt8} (h : numOK 999999 (tailS p) = true) : iMul .i64 (bif negB p then -1 else 1) (valD 0 (tailS p) : Int) = signedI p := by
  obtain ⟨_, _, hv⟩ := numOK_parse (by decide) h
  unfold signedI
  cases negB p <;> simp only [cond_true, cond_false] <;> rw [iMul_eq (by omega) (by omega)] <;> omega
end Go.Proofs.YtildomllnnnofaaGreatDoor
