/- Functions of the program and of the reference in plain terms. -/
import Derived.Test.YtnndahnmlmgenaaGreatP28
namespace Go.Proofs.YtnndahnmlmgenaaGreat
open Go Go.Tm
set_option linter.unusedVariables false
set_option linter.unusedSimpArgs false
set_option linter.unusedSectionVars false
def hull (a b : Nat × Nat) : Nat × Nat := (min a.1 b.1, max a.2 b.2)
def bad : Nat × Nat := (2 ^ 60, 0)
theorem absG.left {x : Nat} {a : Nat × Nat} (h : absG x a) (b : Nat × Nat) : absG x (hull a b) := by
  obtain ⟨A, B, h1, h2, h3, h4⟩ := h
  refine ⟨A, B, h1, ?_, ?_, ?_⟩
  · show -((max a.2 b.2 : Nat) : Int) ≤ A; omega
  · show B ≤ ((max a.2 b.2 : Nat) : Int); omega
  · show ((min a.1 b.1 : Nat) : Int) ≤ A ∨ B ≤ -((min a.1 b.1 : Nat) : Int) ∨ min a.1 b.1 = 0; omega
theorem absG.right {x : Nat} {a : Nat × Nat} (h : absG x a) (b : Nat × Nat) : absG x (hull b a) := by
  have : hull b a = hull a b := by
    unfold hull
    rw [Nat.min_comm, Nat.max_comm]
  rw [this]
  exact h.left b
def qB (u : Nat × Nat) : Nat × Nat := hull (bif Nat.ble (2 ^ 38) u.2 then wideI (lastI (2 ^ 39 - u.2 - 1, min (2 ^ 39 - max u.1 (2 ^ 38) + 1) (2 ^ 38))) else bad) (bif Nat.ble u.1 (2 ^ 38) then wideI (lastI (u.1, min u.2 (2 ^ 38))) else bad)
def sinB (y : Nat × Nat) : Nat × Nat := hull (bif Nat.ble (2 ^ 39) y.2 then qB (max y.1 (2 ^ 39) - 2 ^ 39 - 1, min (y.2 - 2 ^ 39 + 1) (2 ^ 39)) else bad) (bif Nat.ble y.1 (2 ^ 39) then qB (y.1, min y.2 (2 ^ 39)) else bad)
def sinX (X : Nat × Nat) : Nat × Nat := hull (bif Nat.ble X.1 (2 ^ 40) then sinB (X.1 - 1, min (X.2 + 1) (2 ^ 40)) else bad) (bif Nat.ble (2 ^ 40) X.2 then sinB (max X.1 (2 ^ 40) - 2 ^ 40 - 1, min (X.2 - 2 ^ 40 + 1) (2 ^ 40)) else bad)
def sOut (b : Bool) (z : Nat) : Option ((Nat × Unit) × Unit) := (bif b then (fConv .f64 .f32 (fNeg .f64 (fMul .f64 (polyP (fMul .f64 (fMul .f64 4618760256179416344 z) (fMul .f64 4618760256179416344 z))) (fMul .f64 4618760256179416344 z)))).bind fun y => some ((y, ()), ()) else (fConv .f64 .f32 (fMul .f64 (polyP (fMul .f64 (fMul .f64 4618760256179416344 z) (fMul .f64 4618760256179416344 z))) (fMul .f64 4618760256179416344 z))).bind fun y => some ((y, ()), ()))
theorem q_ok {u : Nat} {a : Nat × Nat} (h : pG u a) (ha : a.2 ≤ 2 ^ 39) (b : Bool) : ∃ v : Nat, (bif fLt .f64 4598175219545276416 u then sOut b (fSub .f64 4602678819172646912 u) else sOut b u) = some ((v, ()), ()) ∧ absG v (qB a) := by
  obtain ⟨a0, a1⟩ := a
  have ha : a1 ≤ 2 ^ 39 := ha
  have hle : a0 ≤ a1 := by have := h.le; exact Int.ofNat_le.1 this
  rcases fLt_clip g_quarter h with ⟨e, -, h1⟩ | ⟨e, h2, h1⟩
  · have hq := h1.le
    have h1 : inG .f64 u (max (2 ^ 38) (a0 : Int)) (a1 : Int) := h1
    have hq : max (2 ^ 38) (a0 : Int) ≤ (a1 : Int) := hq
    have h3 := inG.subP 38 g_half h1 (by omega) (by show (2 : Int) ^ 39 - max (2 ^ 38) (a0 : Int) ≤ 2 ^ 38; omega) (by decide)
    have h4 : pG (fSub .f64 4602678819172646912 u) (2 ^ 39 - a1 - 1, min (2 ^ 39 - max a0 (2 ^ 38) + 1) (2 ^ 38)) := h3.mono (by show ((2 ^ 39 - a1 - 1 : Nat) : Int) ≤ max 0 (2 ^ 39 - (a1 : Int) - 1); omega) (by show min ((2 : Int) ^ 39 - max (2 ^ 38) (a0 : Int) + 1) (2 ^ 38) ≤ ((min (2 ^ 39 - max a0 (2 ^ 38) + 1) (2 ^ 38) : Nat) : Int); omega)
    obtain ⟨v, hv, hg⟩ := last_ok h4 (by show min (2 ^ 39 - max a0 (2 ^ 38) + 1) (2 ^ 38) ≤ 2 ^ 38 + 1; omega) b
    refine ⟨v, by rw [e, cond_true]; exact hv, ?_⟩
    have hb : Nat.ble (2 ^ 38) a1 = true := Nat.ble_eq_true_of_le (by omega)
    show absG v (hull (bif Nat.ble (2 ^ 38) a1 then _ else _) _)
    rw [hb, cond_true]
    exact hg.left _
  · have h1 : inG .f64 u (a0 : Int) (min (a1 : Int) (2 ^ 38)) := h1
    have hq := h1.le
    have h4 : pG u (a0, min a1 (2 ^ 38)) := h1.mono (Int.le_refl _) (by show min (a1 : Int) (2 ^ 38) ≤ ((min a1 (2 ^ 38) : Nat) : Int); omega)
    obtain ⟨v, hv, hg⟩ := last_ok h4 (by show min a1 (2 ^ 38) ≤ 2 ^ 38 + 1; omega) b
    refine ⟨v, by rw [e, cond_false]; exact hv, ?_⟩
    have hb : Nat.ble a0 (2 ^ 38) = true := Nat.ble_eq_true_of_le (by omega)
    show absG v (hull _ (bif Nat.ble a0 (2 ^ 38) then _ else _))
    rw [hb, cond_true]
    exact hg.right _
theorem sinB_ok {y : Nat} {a : Nat × Nat} (h : pG y a) (ha : a.2 ≤ 2 ^ 40) : ∃ v : Nat, (bif fLe .f64 4602678819172646912 y then (bif fLt .f64 4598175219545276416 (fSub .f64 y 4602678819172646912) then sOut true (fSub .f64 4602678819172646912 (fSub .f64 y 4602678819172646912)) else sOut true (fSub .f64 y 4602678819172646912)) else (bif fLt .f64 4598175219545276416 y then sOut false (fSub .f64 4602678819172646912 y) else sOut false y)) = some ((v, ()), ()) ∧ absG v (sinB a) := by
  obtain ⟨a0, a1⟩ := a
  have ha : a1 ≤ 2 ^ 40 := ha
  have hle : a0 ≤ a1 := by have := h.le; exact Int.ofNat_le.1 this
  rcases fLe_clip g_half h with ⟨e, -, h1⟩ | ⟨e, h2, h1⟩
  · have h1 : inG .f64 y (max (2 ^ 39) (a0 : Int)) (a1 : Int) := h1
    have hq : max (2 ^ 39) (a0 : Int) ≤ (a1 : Int) := h1.le
    have h3 := inG.subP 39 h1 g_half (by omega) (by show (a1 : Int) - 2 ^ 39 ≤ 2 ^ 39; omega) (by decide)
    have h4 : pG (fSub .f64 y 4602678819172646912) (max a0 (2 ^ 39) - 2 ^ 39 - 1, min (a1 - 2 ^ 39 + 1) (2 ^ 39)) := h3.mono (by show ((max a0 (2 ^ 39) - 2 ^ 39 - 1 : Nat) : Int) ≤ max 0 (max (2 ^ 39) (a0 : Int) - 2 ^ 39 - 1); omega) (by show min ((a1 : Int) - 2 ^ 39 + 1) (2 ^ 39) ≤ ((min (a1 - 2 ^ 39 + 1) (2 ^ 39) : Nat) : Int); omega)
    obtain ⟨v, hv, hg⟩ := q_ok h4 (by show min (a1 - 2 ^ 39 + 1) (2 ^ 39) ≤ 2 ^ 39; omega) true
    refine ⟨v, by rw [e, cond_true]; exact hv, ?_⟩
    have hb : Nat.ble (2 ^ 39) a1 = true := Nat.ble_eq_true_of_le (by omega)
    show absG v (hull (bif Nat.ble (2 ^ 39) a1 then _ else _) _)
    rw [hb, cond_true]
    exact hg.left _
  · have h1 : inG .f64 y (a0 : Int) (min (a1 : Int) (2 ^ 39)) := h1
    have hq := h1.le
    have h4 : pG y (a0, min a1 (2 ^ 39)) := h1.mono (Int.le_refl _) (by show min (a1 : Int) (2 ^ 39) ≤ ((min a1 (2 ^ 39) : Nat) : Int); omega)
    obtain ⟨v, hv, hg⟩ := q_ok h4 (by show min a1 (2 ^ 39) ≤ 2 ^ 39; omega) false
    refine ⟨v, by rw [e, cond_false]; exact hv, ?_⟩
    have hb : Nat.ble a0 (2 ^ 39) = true := Nat.ble_eq_true_of_le (by omega)
    show absG v (hull _ (bif Nat.ble a0 (2 ^ 39) then _ else _))
    rw [hb, cond_true]
    exact hg.right _
theorem sine_ok {x : Nat} {X : Nat × Nat} (h : inG .f64 x ((X.1 : Int) - 2 ^ 40) ((X.2 : Int) - 2 ^ 40)) (h1 : 1 ≤ X.1) (h2 : X.2 < 2 * 2 ^ 40) : ∃ v : Nat, spec_l02Sine x = some ((v, ()), ()) ∧ absG v (sinX X) := by
  obtain ⟨X0, X1⟩ := X
  have h : inG .f64 x ((X0 : Int) - 2 ^ 40) ((X1 : Int) - 2 ^ 40) := h
  have h1 : 1 ≤ X0 := h1
  have h2 : X1 < 2 * 2 ^ 40 := h2
  have hfl : math_Floor x = some ((fRound .down x, ()), ()) := rfl
  obtain ⟨⟨N, f1, f2⟩, -⟩ := h.whole (by omega) (by omega)
  have hb := h.both f2
  have hle := hb.le
  have hN : N = -1 ∨ N = 0 := by omega
  have hs := inG.subP 40 hb f1 (by omega) (by omega) (by decide)
  have key : ∀ a : Nat × Nat, pG (fSub .f64 x (fRound .down x)) a → a.2 ≤ 2 ^ 40 → ∃ v : Nat, spec_l02Sine x = some ((v, ()), ()) ∧ absG v (sinB a) := fun a ha1 ha2 => by
    obtain ⟨v, hv, hg⟩ := sinB_ok ha1 ha2
    refine ⟨v, ?_, hg⟩
    unfold spec_l02Sine
    simp only [hfl, Option.bind_some]
    generalize fSub .f64 x (fRound .down x) = y at *
    cases hb : fLe .f64 4602678819172646912 y with
    | true =>
      rw [hb] at hv
      simp only [cond_true] at hv ⊢
      cases hc : fLt .f64 4598175219545276416 (fSub .f64 y 4602678819172646912) with
      | true => rw [hc] at hv; exact hv
      | false => rw [hc] at hv; exact hv
    | false =>
      rw [hb] at hv
      simp only [cond_false] at hv ⊢
      cases hc : fLt .f64 4598175219545276416 y with
      | true => rw [hc] at hv; exact hv
      | false => rw [hc] at hv; exact hv
  rcases hN with z | z
  · subst z
    obtain ⟨v, hv, hg⟩ := key (X0 - 1, min (X1 + 1) (2 ^ 40)) (hs.mono (by show ((X0 - 1 : Nat) : Int) ≤ _; omega) (by show _ ≤ ((min (X1 + 1) (2 ^ 40) : Nat) : Int); omega)) (by show min (X1 + 1) (2 ^ 40) ≤ 2 ^ 40; omega)
    refine ⟨v, hv, ?_⟩
    have hbb : Nat.ble X0 (2 ^ 40) = true := Nat.ble_eq_true_of_le (by omega)
    show absG v (hull (bif Nat.ble X0 (2 ^ 40) then _ else _) _)
    rw [hbb, cond_true]
    exact hg.left _
  · subst z
    obtain ⟨v, hv, hg⟩ := key (max X0 (2 ^ 40) - 2 ^ 40 - 1, min (X1 - 2 ^ 40 + 1) (2 ^ 40)) (hs.mono (by show ((max X0 (2 ^ 40) - 2 ^ 40 - 1 : Nat) : Int) ≤ _; omega) (by show _ ≤ ((min (X1 - 2 ^ 40 + 1) (2 ^ 40) : Nat) : Int); omega)) (by show min (X1 - 2 ^ 40 + 1) (2 ^ 40) ≤ 2 ^ 40; omega)
    refine ⟨v, hv, ?_⟩
    have hbb : Nat.ble (2 ^ 40) X1 = true := Nat.ble_eq_true_of_le (by omega)
    show absG v (hull _ (bif Nat.ble (2 ^ 40) X1 then _ else _))
    rw [hbb, cond_true]
    exact hg.right _
/-! ### all cells -/
def tileB (i : Nat) : Bool :=
  let s := sinX (i * 2 ^ 27 + 2 ^ 39 - 2 ^ 27, i * 2 ^ 27 + 2 ^ 39)
  let c := sinX (i * 2 ^ 27 + 2 ^ 39 - 2 ^ 27 + 2 ^ 38 - 1, i * 2 ^ 27 + 2 ^ 39 + 2 ^ 38 + 1)
  Nat.ble (2 ^ 80) (s.1 * s.1 + c.1 * c.1 + 2 ^ 80 / 700) && Nat.ble (s.2 * s.2 + c.2 * c.2) (2 ^ 80 + 2 ^ 80 / 700)
def tilesB (P : Nat → Bool) : Nat → Nat → Bool
  | 0, i => P i
  | k + 1, i => tilesB P k (2 * i) && tilesB P k (2 * i + 1)
theorem tilesB_ok (P : Nat → Bool) : ∀ (k i : Nat), tilesB P k i = true → ∀ j, i * 2 ^ k ≤ j → j < (i + 1) * 2 ^ k → P j = true
  | 0, i, h, j, h1, h2 => by
    have : j = i := by omega
    rw [this]
    exact h
  | k + 1, i, h, j, h1, h2 => by
    have h := Bool.and_eq_true_iff.1 h
    rw [Nat.pow_succ, Nat.mul_comm _ 2, ← Nat.mul_assoc] at h1 h2
    by_cases hj : j < (2 * i + 1) * 2 ^ k
    · exact tilesB_ok P k _ h.1 j (by rw [Nat.mul_comm 2]; exact h1) hj
    · exact tilesB_ok P k _ h.2 j (by omega) (by rw [show 2 * i + 1 + 1 = (i + 1) * 2 by omega]; exact h2)
theorem tiles0 : tilesB tileB 11 0 = true := by decide +kernel
theorem tiles1 : tilesB tileB 11 1 = true := by decide +kernel
theorem tiles2 : tilesB tileB 11 2 = true := by decide +kernel
theorem tiles3 : tilesB tileB 11 3 = true := by decide +kernel
theorem tiles4 : tilesB tileB 1 4096 = true := by decide +kernel
theorem tiles_ok (i : Nat) (h : i < 8194) : tileB i = true := by
  by_cases h0 : i < 2048
  · exact tilesB_ok _ _ _ tiles0 i (by omega) (by omega)
  · by_cases h1 : i < 4096
    · exact tilesB_ok _ _ _ tiles1 i (by omega) (by omega)
    · by_cases h2 : i < 6144
      · exact tilesB_ok _ _ _ tiles2 i (by omega) (by omega)
      · by_cases h3 : i < 8192
        · exact tilesB_ok _ _ _ tiles3 i (by omega) (by omega)
        · exact tilesB_ok _ _ _ tiles4 i (by omega) (by omega)
end Go.Proofs.YtnndahnmlmgenaaGreat
