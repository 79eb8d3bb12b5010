import Derived.Test.YtildomllnnnofaaGreatP27
/- Functions of the program and of the reference in plain terms. -/
namespace Go.Proofs.YtildomllnnnofaaGreat
open Go Go.Tm
set_option linter.unusedVariables false
set_option linter.unusedSimpArgs false
set_option linter.unusedSectionVars false
def geOne (b : Nat) : Prop := ∃ s n j, FloatKind.f32.decode b = .number s n j ∧ j ≤ 0 ∧ 2 ^ (0 - j).toNat ≤ n
theorem qpl {a b : Nat} {t : Int} (ha : pw .f32 a t) (hb : geOne b) (h1 : -125 ≤ t) (h2 : t ≤ 127) : pw .f32 (fDiv .f32 a b) t := by
  obtain ⟨s, m, i, hd, hm⟩ := ha
  obtain ⟨s', n, j, hd', hj, hn⟩ := hb
  have hn0 : n ≠ 0 := by
    have := Nat.two_pow_pos (0 - j).toNat
    omega
  refine qabj hd hd' hn0 (fun c c1 c2 => ?_) h1 h2
  refine Nat.le_trans (hm c c1 (by omega)) ?_
  rw [show (t - c).toNat = (0 - j).toNat + (j + t - c).toNat by omega, Nat.pow_add]
  exact Nat.mul_le_mul_right _ hn
def geOneB (b : Nat) : Bool := match FloatKind.f32.decode b with
  | .number _ n j => decide (j ≤ 0) && decide (2 ^ (0 - j).toNat ≤ n)
  | _ => false
theorem qqd {b : Nat} (h : geOneB b = true) : geOne b := by
  unfold geOneB at h
  cases hd : FloatKind.f32.decode b with
  | number s m p =>
    rw [hd] at h
    simp only [Bool.and_eq_true, decide_eq_true_eq] at h
    exact ⟨s, m, p, hd, h.1, h.2⟩
  | _ => rw [hd] at h; cases h
theorem qabm : ((List.range 1024).all fun d => geOneB (fOfInt .f32 ((d + 1 : Nat) : Int))) = true := by kernel_rfl
theorem qwf {n : Int} (h : 1 ≤ n) (h1 : n ≤ 1024) : geOne (fOfInt .f32 n) := by
  have := List.all_eq_true.1 qabm (n.toNat - 1) (List.mem_range.2 (by omega))
  rw [show ((n.toNat - 1 + 1 : Nat) : Int) = n by omega] at this
  exact qqd this
theorem qsb {n : Int} (h : n.natAbs ≤ 1048576) : pw .f32 (fOfInt .f32 n) 20 := by
  have e : fOfInt .f32 n = canon .f32 (FloatKind.f32.encode (.number (decide (n < 0)) n.natAbs 0)) := rfl
  have hl : le2 n.natAbs 0 20 := qdh 0 (by decide) (by decide) (by
    rw [show (0 - 0 : Int).toNat = 0 by decide, show (20 - 0 : Int).toNat = 20 by decide, Nat.pow_zero, Nat.mul_one]
    exact h)
  obtain ⟨m', p', e1, e2⟩ := qb5 (k := .f32) (decide (n < 0)) hl (by decide) (by decide)
  rw [e]
  exact ⟨_, m', p', e1, e2⟩
theorem qgx (t : Int) : pw .f32 0 t := ⟨false, 0, -149, by decide, qmx _ _⟩
theorem qjq {p : List UInt8} (h : numOK 999999 (tailS p) = true) : (signedI p).natAbs ≤ 1048576 := by
  have hv : valD 0 (tailS p) ≤ 999999 := by
    unfold numOK at h
    simp at h
    exact h.2
  unfold signedI
  cases negB p with
  | true => simp only [cond_true]; omega
  | false => simp only [cond_false]; omega
theorem qu3 (p : List UInt8) : pw .f32 (fracOne p).1.1 20 := by
  unfold fracOne
  cases h : numOK 999999 (tailS p) with
  | true => exact qsb (qjq h)
  | false => exact qgx 20
theorem qut (p r : List UInt8) : pw .f32 (fracTwo p r).1.1 20 := by
  unfold fracTwo
  cases h : numOK 999999 (tailS p) with
  | false => exact qgx 20
  | true =>
    cases hd : divB r with
    | false => exact qgx 20
    | true =>
      unfold divB at hd
      simp only [Bool.and_eq_true, qbo] at hd
      exact qpl (qsb (qjq h)) (qwf (by omega) (by omega)) (by decide) (by decide)
theorem qnk {s : List UInt8} (hs : s.length ≤ 1048576) {w : RdF} (h : impl_ReadFraction s = some w) : pw .f32 w.1.1 20 := by
  obtain ⟨v, h1, h2, h3⟩ := qe2 hs
  have e : w = v := Option.some.inj (h.symm.trans h1)
  subst e
  by_cases hc : (47 : UInt8) ∈ s
  · obtain ⟨p, r, e, hp⟩ := List.append_of_mem hc |> fun ⟨p, r, e⟩ => (qcp 47 s).elim (fun hf => absurd hc hf) (fun ⟨p, r, e, hf⟩ => (⟨p, r, e, hf⟩ : ∃ p r, s = p ++ 47 :: r ∧ (47 : UInt8) ∉ p))
    rw [h3 p r e hp]
    exact qut p r
  · rw [h2 hc]
    exact qu3 s
end Go.Proofs.YtildomllnnnofaaGreat
