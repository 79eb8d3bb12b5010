/- Functions of the program and of the reference in plain terms. -/
import Derived.Test.YtnndahnmlmgenaaGreatP33
namespace Go.Proofs.YtnndahnmlmgenaaGreat
open Go Go.Tm
set_option linter.unusedVariables false
set_option linter.unusedSimpArgs false
set_option linter.unusedSectionVars false
/-! ### wrapped angles on the grid -/
theorem g_pi : inG .f32 1078530011 3454217748480 3454217748480 := ⟨false, 13176795, -22, by decide, GAt.of (-40) (by decide) (by decide) (by decide)⟩
theorem g_npi : inG .f32 3226013659 (-3454217748480) (-3454217748480) := ⟨true, 13176795, -22, by decide, GAt.of (-40) (by decide) (by decide) (by decide)⟩
theorem g_501 : inG .f32 1056981385 550855311360 550855311360 := ⟨false, 8405385, -24, by decide, GAt.of (-40) (by decide) (by decide) (by decide)⟩
theorem g_n501 : inG .f32 3204465033 (-550855311360) (-550855311360) := ⟨true, 8405385, -24, by decide, GAt.of (-40) (by decide) (by decide) (by decide)⟩
theorem wrap_ok {a : Nat} {A B : Int} (h : inG .f32 a A B) (h1 : -2 ^ 43 ≤ A) (h2 : B ≤ 2 ^ 43) : ∃ (v : Nat) (N : Int), impl_WrapAngle a = some ((v, ()), ()) ∧ spec_WrapAngle a = some ((v, ()), ()) ∧ inG .f32 v (A - N * 6908435304715 - 2 ^ 23) (B - N * 6908435304715 + 2 ^ 23) ∧ inG .f32 v (-3454217748480) 3454217748480 ∧
    -1 ≤ N ∧ N ≤ 1 ∧ N * 6908435304715 - 3454217660000 ≤ B ∧ A ≤ N * 6908435304715 + 3454217660000 := by
  obtain ⟨w, hw1, hw2, -⟩ := wrap_two a
  have hle := h.le
  obtain ⟨L, hL⟩ : ∃ L, L = (A - 1) * 2 ^ 50 / 7074237752028440 := ⟨_, rfl⟩
  obtain ⟨H, hH⟩ : ∃ H, H = (B + 1) * 2 ^ 50 / 7074237752028440 + 1 := ⟨_, rfl⟩
  have ht := turns_ok (L := L) (H := H) h h1 h2 (by omega) (by omega) (by omega) (by omega)
  have hwide : inG .f64 (conv64 a) (A - 1) (B + 1) := h.wide 3 0 (by omega) (by omega) (by decide) (by decide)
  generalize htt : fDiv .f64 (conv64 a) 4618760256179416344 = t at *
  obtain ⟨-, N, n1, n2⟩ := ht.whole (by omega) (by omega)
  have hb := (ht.both n2).le
  have hN1 : -1 ≤ N := by omega
  have hN2 : N ≤ 1 := by omega
  have b1 : N * 6908435304715 - 3454217660000 ≤ B := by omega
  have b2 : A ≤ N * 6908435304715 + 3454217660000 := by omega
  have tau : inG .f64 4618760256179416344 (6908435304715 : Int) (6908435304716 : Int) := g_tau
  have hm : inG .f64 (fMul .f64 4618760256179416344 (fRound .even t)) (N * 6908435304715 - 2) (N * 6908435304715 + 2) := by
    have hN : N = -1 ∨ N = 0 ∨ N = 1 := by omega
    have := tau.mul 4 0 (N * 6908435304715 - 1) (N * 6908435304715 + 1) n1 (by omega) (by omega) (by omega) (by omega) (by omega) (by omega) (by omega) (by omega) (by omega) (by omega) (by decide) (by decide)
    exact this.mono (by show _ ≤ N * 6908435304715 - 1 - 1; omega) (by show N * 6908435304715 + 1 + 1 ≤ _; omega)
  have hd := hwide.sub 5 0 hm (by omega) (by omega) (by decide) (by decide)
  obtain ⟨y, hy, gy⟩ := hd.conv 5 22 (by omega) (by omega) (by decide) (by decide)
  have rd : math_RoundToEven t = some ((fRound .even t, ()), ()) := rfl
  have gy : inG .f32 y (A - N * 6908435304715 - 2 ^ 23) (B - N * 6908435304715 + 2 ^ 23) := gy.mono (by omega) (by omega)
  have key : ∃ v : Nat, spec_WrapAngle a = some ((v, ()), ()) ∧ inG .f32 v (A - N * 6908435304715 - 2 ^ 23) (B - N * 6908435304715 + 2 ^ 23) ∧ inG .f32 v (-3454217748480) 3454217748480 := by
    simp only [spec_WrapAngle, spec_l02Wrap, spec_l01Finite_ok, h.fin, fConv32_eq, htt, rd, hy, Option.bind_some, Bool.not_true, cond_false]
    rcases fLt_clip g_pi gy with ⟨e, l1, -⟩ | ⟨e, -, l2⟩
    · have := l1.le
      rw [e]
      simp only [cond_true, Option.bind_some]
      exact ⟨_, rfl, g_pi.mono (by omega) (by omega), g_pi.mono (by omega) (by omega)⟩
    · rw [e]
      simp only [cond_false]
      rcases fLt_clip l2 g_npi with ⟨e2, -, l3⟩ | ⟨e2, l4, -⟩
      · have := l3.le
        rw [e2]
        simp only [cond_true, Option.bind_some]
        exact ⟨_, rfl, g_npi.mono (by omega) (by omega), g_npi.mono (by omega) (by omega)⟩
      · have := l4.le
        rw [e2]
        simp only [cond_false, Option.bind_some]
        exact ⟨_, rfl, l4.mono (by omega) (by omega), l4.mono (by omega) (by omega)⟩
  obtain ⟨v, k1, k2, k3⟩ := key
  have : w = v := by
    rw [k1] at hw2
    injection hw2 with e
    injection e with e
    injection e with e
    exact e.symm
  subst this
  exact ⟨w, N, hw1, k1, k2, k3, hN1, hN2, b1, b2⟩
/-- a turn is found again -/
theorem turn_back {h p : Nat} {P C M e : Int} (hp : inG .f32 p P P) (p1 : -3 * 2 ^ 40 ≤ P) (p2 : P ≤ 3 * 2 ^ 40) (hh : inG .f32 h (P + C - M * 6908435304715 - e) (P + C + 1 - M * 6908435304715 + e)) (hc : inG .f32 h (-3454217748480) 3454217748480) (he0 : 0 ≤ e) (he : e ≤ 2 ^ 25) (c1 : -2 ^ 39 - 1 ≤ C) (c2 : C ≤ 2 ^ 39) (m1 : -1 ≤ M) (m2 : M ≤ 1) :
    ∃ u w : Nat, spec_WrapAngle (fAdd .f32 h 0) = some ((u, ()), ()) ∧ impl_WrapAngle (fSub .f32 u p) = some ((w, ()), ()) ∧ fLe .f32 w 1056981385 = true ∧ fLe .f32 3204465033 w = true := by
  have hb := (hh.both hc)
  have a1 := hc.add 2 19 g_zero (by decide) (by decide) (by decide) (by decide)
  have a2 := hb.add 3 20 g_zero (by omega) (by omega) (by decide) (by decide)
  have a3 := (a1.both a2)
  have l3 := a3.le
  obtain ⟨u, N, -, hu, gu, gc, n1, n2, n3, n4⟩ := wrap_ok a3 (by omega) (by omega)
  have ub := gu.both gc
  have lu := ub.le
  have s1 := ub.sub 3 20 hp (by omega) (by omega) (by decide) (by decide)
  have ls := s1.le
  obtain ⟨w, K, hw, -, gw, -, k1, k2, k3, k4⟩ := wrap_ok s1 (by omega) (by omega)
  have hK : K = -(M + N) := by omega
  refine ⟨u, w, hu, hw, fLe_true gw g_501 (by omega), fLe_true g_n501 gw (by omega)⟩
end Go.Proofs.YtnndahnmlmgenaaGreat
