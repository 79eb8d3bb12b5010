/- Functions of the program and of the reference in plain terms. -/
import Derived.Test.YtnndahnmlmgenaaGreatP16
namespace Go.Proofs.YtnndahnmlmgenaaGreat
open Go Go.Tm
set_option linter.unusedVariables false
set_option linter.unusedSimpArgs false
set_option linter.unusedSectionVars false
/-! ### angles -/
theorem le2_of_top {m : Nat} {p t : Int} (h : m ≠ 0 → topOf m p ≤ t) : le2 m p (t + 1) := by
  by_cases hm : m = 0
  · subst hm; exact le2_zero _ _
  · have ht := h hm
    unfold topOf at ht
    have hlt : m < 2 ^ (m.log2 + 1) := Nat.lt_log2_self
    refine le2_of (min p (t + 1)) (by omega) (by omega) ?_
    refine Nat.le_trans (Nat.mul_le_mul_right _ (Nat.le_of_lt hlt)) ?_
    rw [← Nat.pow_add]
    exact Nat.pow_le_pow_right (by decide) (by omega)

theorem sqrt_nn {v m : Nat} {p : Int} (hd : FloatKind.f64.decode v = .number false m p) (hl : le2 m p 2) : ∃ m' p', FloatKind.f64.decode (orNan .f64 (FloatKind.f64.format.sqrt v)) = .number false m' p' ∧ le2 m' p' 2 := by
  obtain ⟨m1, p1, hr⟩ : ∃ m1 p1, Ieee.Datum.root 54 (.number false m p) = some (.number false m1 p1) := by
    unfold Ieee.Datum.root
    by_cases hm : m = 0
    · exact ⟨m, p, by simp only [if_pos hm]⟩
    · simp only [if_neg hm, Bool.false_eq_true, if_false]
      exact ⟨_, _, rfl⟩
  have e : FloatKind.f64.format.sqrt v = some (FloatKind.f64.encode (.number false m1 p1)) := by
    show ((FloatKind.f64.format.read v).root 54).map FloatKind.f64.format.write = _
    rw [show FloatKind.f64.format.read v = .number false m p from hd, hr]
    rfl
  rw [e]
  have hle : le2 m1 p1 (1 + 1) := le2_of_top fun h1 => by
    obtain ⟨h2, h3⟩ := root_top hr h1
    have := le2_top h2 hl
    unfold topOf at h3 ⊢
    omega
  exact pw_write (k := .f64) false (t := 2) hle (by decide) (by decide)

theorem dec_one : FloatKind.f64.format.read 4607182418800017408 = .number false (2 ^ 52) (-52) := by decide
theorem add_nn {a b m n : Nat} {p q : Int} (ha : FloatKind.f64.decode a = .number false m p) (hb : FloatKind.f64.decode b = .number false n q) : fAdd .f64 a b = canon .f64 (FloatKind.f64.encode (.number false (m * 2 ^ (p - min p q).toNat + n * 2 ^ (q - min p q).toNat) (min p q))) := by
  unfold fAdd Ieee.Format.add
  rw [show FloatKind.f64.format.read a = .number false m p from ha, show FloatKind.f64.format.read b = .number false n q from hb]
  have e : Ieee.signed false m (p - min p q).toNat + Ieee.signed false n (q - min p q).toNat = ((m * 2 ^ (p - min p q).toNat + n * 2 ^ (q - min p q).toNat : Nat) : Int) := by
    unfold Ieee.signed
    rw [Nat.shiftLeft_eq, Nat.shiftLeft_eq]
    simp
  simp only [Ieee.Datum.sum, Option.map_some, orNan, e, Int.natAbs_natCast]
  have hg : (if ((m * 2 ^ (p - min p q).toNat + n * 2 ^ (q - min p q).toNat : Nat) : Int) = 0 then false && false else decide (((m * 2 ^ (p - min p q).toNat + n * 2 ^ (q - min p q).toNat : Nat) : Int) < 0)) = false := by
    split
    · rfl
    · exact decide_eq_false (by omega)
  rw [hg]
  rfl

theorem one_plus {r n : Nat} {q : Int} (hd : FloatKind.f64.decode r = .number false n q) (hl : le2 n q 2) : ∃ K l, FloatKind.f64.decode (fAdd .f64 4607182418800017408 r) = .number false K l ∧ 2 ^ 52 ≤ K ∧ -52 ≤ l ∧ le2 K l 3 := by
  obtain ⟨_, hq, _⟩ := double_read hd
  have e := add_nn (a := 4607182418800017408) dec_one hd
  have h1 : le2 (2 ^ 52) (-52) 2 := le2_of (-52) (Int.le_refl _) (by decide) (by decide)
  have hsum := le2_sum h1 hl false false
  have en : (Ieee.signed false (2 ^ 52) (-52 - min (-52) q).toNat + Ieee.signed false n (q - min (-52) q).toNat).natAbs = 2 ^ 52 * 2 ^ (-52 - min (-52) q).toNat + n * 2 ^ (q - min (-52) q).toNat := by
    unfold Ieee.signed
    rw [Nat.shiftLeft_eq, Nat.shiftLeft_eq]
    simp only [Bool.false_eq_true, if_false]
    rw [← Int.natCast_add, Int.natAbs_natCast]
  rw [en] at hsum
  obtain ⟨m', p', e1, e2⟩ := pw_write (k := .f64) false hsum (by decide) (by decide)
  have hT : 2 ^ (-(min (-52) q)).toNat ≤ 2 ^ 52 * 2 ^ (-52 - min (-52) q).toNat + n * 2 ^ (q - min (-52) q).toNat := by
    refine Nat.le_trans ?_ (Nat.le_add_right _ _)
    rw [← Nat.pow_add]
    exact Nat.pow_le_pow_right (by decide) (by omega)
  generalize hTT : 2 ^ 52 * 2 ^ (-52 - min (-52) q).toNat + n * 2 ^ (q - min (-52) q).toNat = T at *
  have hT0 : T ≠ 0 := by have := Nat.two_pow_pos (-(min (-52) q)).toNat; omega
  have hlog : (-(min (-52) q)).toNat ≤ T.log2 := (Nat.le_log2 hT0).2 hT
  have htop := le2_top hT0 hsum
  obtain ⟨K, l, r', g, _, _⟩ := near_err false hT0 (p := min (-52) q) (by omega) (by rw [last_eq]; omega)
  rw [last_eq] at g
  have hn : isNan .f64 (FloatKind.f64.encode (.number false T (min (-52) q))) = false := write_nan rfl
  have hdec : FloatKind.f64.decode (fAdd .f64 4607182418800017408 r) = .number false K l := by
    rw [e, canon_of_num hn]
    exact r'
  have h3 : FloatKind.f64.decode (fAdd .f64 4607182418800017408 r) = .number false m' p' := by rw [e]; exact e1
  have h4 := hdec.symm.trans h3
  simp only [Ieee.Datum.number.injEq, true_and] at h4
  obtain ⟨rfl, rfl⟩ := h4
  exact ⟨K, l, hdec, double_norm hdec (by omega), by omega, e2⟩

def halfA (x : Nat) : Nat := fDiv .f64 x (fAdd .f64 4607182418800017408 (orNan .f64 (FloatKind.f64.format.sqrt (fAdd .f64 4607182418800017408 (fMul .f64 x x)))))
theorem pw_halfA {x : Nat} (h : pw .f64 x 0) : pw .f64 (halfA x) 0 := by
  obtain ⟨s, m, i, hd, hl⟩ := h
  -- the square
  have e : fMul .f64 x x = canon .f64 (FloatKind.f64.encode (.number false (m * m) (i + i))) := by
    unfold fMul Ieee.Format.mul
    rw [show FloatKind.f64.format.read x = .number s m i from hd]
    simp only [Ieee.Datum.product, Option.map_some, orNan, Bool.xor_self]
    rfl
  have hsq : le2 (m * m) (i + i) 0 := by
    have g1 := hl (min i 0) (by omega) (by omega)
    refine le2_of (min i 0 + min i 0) (by omega) (by omega) ?_
    have x1 : (2 : Nat) ^ (i + i - (min i 0 + min i 0)).toNat = 2 ^ (i - min i 0).toNat * 2 ^ (i - min i 0).toNat := by rw [← Nat.pow_add]; congr 1; omega
    have x2 : (2 : Nat) ^ (0 - (min i 0 + min i 0)).toNat = 2 ^ (0 - min i 0).toNat * 2 ^ (0 - min i 0).toNat := by rw [← Nat.pow_add]; congr 1; omega
    rw [x1, x2]
    have := Nat.mul_le_mul g1 g1
    rw [Nat.mul_mul_mul_comm] at this
    exact this
  obtain ⟨m1, p1, d1, l1⟩ := pw_write (k := .f64) false hsq (by decide) (by decide)
  rw [← e] at d1
  have hA := add_nn (a := 4607182418800017408) dec_one d1
  have hsum := le2_sum (t := 0) (m := 2 ^ 52) (p := -52) (le2_of (-52) (Int.le_refl _) (by decide) (by decide)) l1 false false
  have en : (Ieee.signed false (2 ^ 52) (-52 - min (-52) p1).toNat + Ieee.signed false m1 (p1 - min (-52) p1).toNat).natAbs = 2 ^ 52 * 2 ^ (-52 - min (-52) p1).toNat + m1 * 2 ^ (p1 - min (-52) p1).toNat := by
    unfold Ieee.signed
    rw [Nat.shiftLeft_eq, Nat.shiftLeft_eq]
    simp only [Bool.false_eq_true, if_false]
    rw [← Int.natCast_add, Int.natAbs_natCast]
  rw [en] at hsum
  obtain ⟨m2, p2, d2, l2⟩ := pw_write (k := .f64) false hsum (by decide) (by decide)
  rw [← hA] at d2
  obtain ⟨m3, p3, d3, l3⟩ := sqrt_nn d2 (le2_up l2 (by decide))
  obtain ⟨K, l, d4, hK, hl52, _⟩ := one_plus d3 l3
  have hK0 : K ≠ 0 := fun z => by rw [z] at hK; exact absurd hK (by decide)
  refine pw_div hd d4 hK0 (fun c c1 c2 => ?_) (by decide) (by decide)
  by_cases hm : m = 0
  · rw [hm, Nat.zero_mul]; exact Nat.zero_le _
  · have htop := le2_top hm hl
    have g1 := hl c c1 (by omega)
    refine Nat.le_trans g1 (Nat.le_trans ?_ (Nat.mul_le_mul_right _ hK))
    rw [← Nat.pow_add]
    exact Nat.pow_le_pow_right (by decide) (by omega)

/-! the series -/
theorem run_end {σ A : Type} {f : σ → Option (σ ⊕ A)} {s : σ} {X : Option A} (h : f s = Option.map Sum.inr X) : run f s = X := by
  rw [run_eq, h]; cases X <;> rfl
def stepA (z2 s : Nat) (i : Nat) : Nat := fSub .f64 (fDiv .f64 4607182418800017408 (fOfInt .f64 (iAdd .i64 (iMul .i64 2 (i : Int)) 1))) (fMul .f64 z2 s)
def downA (z2 : Nat) : Nat → Nat → Nat
  | 0, s => stepA z2 s 0
  | n + 1, s => downA z2 n (stepA z2 s (n + 1))
theorem run_down {A : Type} {f : Nat × Int × Unit → Option ((Nat × Int × Unit) ⊕ A)} {F : Nat → Option A} (z2 : Nat) (h1 : ∀ s (i : Nat), i ≤ 12 → f (s, (i : Int), ()) = some (.inl (stepA z2 s i, (i : Int) - 1, ()))) (h2 : ∀ s, f (s, -1, ()) = Option.map Sum.inr (F s)) : ∀ (n s : Nat), n ≤ 12 → run f (s, (n : Int), ()) = F (downA z2 n s)
  | 0, s, h => (run_step (h1 s 0 h)).trans (run_end (h2 _))
  | n + 1, s, h => (run_step (h1 s (n + 1) h)).trans (by
      rw [show (((n + 1 : Nat) : Int) - 1) = (n : Int) by omega]
      exact run_down z2 h1 h2 n _ (by omega))
def pwB (c : Nat) : Bool := match FloatKind.f64.decode c with
  | .number _ m p => decide (p ≤ 0) && decide (m ≤ 2 ^ (0 - p).toNat)
  | _ => false
theorem pwB_ok {c : Nat} (h : pwB c = true) : pw .f64 c 0 := by
  unfold pwB at h
  cases hd : FloatKind.f64.decode c with
  | number s m p =>
    rw [hd] at h
    simp only [Bool.and_eq_true, decide_eq_true_eq] at h
    exact pw_const hd h.1 h.2
  | infinity s => rw [hd] at h; cases h
  | nan s t => rw [hd] at h; cases h
theorem odds_ok : ∀ i, i < 13 → pwB (fDiv .f64 4607182418800017408 (fOfInt .f64 (iAdd .i64 (iMul .i64 2 ((i : Nat) : Int)) 1))) = true := by decide
theorem pw_stepA {z2 s : Nat} {t : Int} {i : Nat} (hz : pw .f64 z2 0) (hs : pw .f64 s t) (h0 : 0 ≤ t) (h1 : t ≤ 500) (hi : i < 13) : pw .f64 (stepA z2 s i) (t + 1) := by
  have h2 := pw_mul hz hs (by show (-1021 : Int) ≤ _; omega) (by show _ ≤ (1023 : Int); omega)
  exact pw_sub (pw_up (pwB_ok (odds_ok i hi)) h0) (pw_up h2 (by omega)) (by show (-1021 : Int) ≤ _; omega) (by show _ ≤ (1023 : Int); omega)
theorem pw_downA {z2 : Nat} (hz : pw .f64 z2 0) : ∀ (n s : Nat) (t : Int), n ≤ 12 → pw .f64 s t → 0 ≤ t → t + n ≤ 400 → pw .f64 (downA z2 n s) (t + 1 + n)
  | 0, s, t, _, hs, h0, h1 => pw_up (pw_stepA (i := 0) hz hs h0 (by omega) (by decide)) (by omega)
  | n + 1, s, t, hn, hs, h0, h1 => by
    have := pw_downA hz n _ (t + 1) (by omega) (pw_stepA (i := n + 1) hz hs h0 (by omega) (by omega)) (by omega) (by omega)
    exact pw_up this (by omega)

def outA (x : Nat) : Option ((Nat × Unit) × Unit) := (fConv .f64 .f32 x).bind fun r => some ((r, ()), ())
def tailA (c : Bool) (a1 a0 z s : Nat) : Option ((Nat × Unit) × Unit) :=
  let x := fMul .f64 (fMul .f64 4620693217682128896 z) s
  bif c then
    let y := fSub .f64 4609753056924675352 x
    bif fLt .f32 a1 0 then
      let t := fSub .f64 4614256656552045848 y
      bif fLt .f32 a0 0 then outA (fNeg .f64 t) else outA t
    else bif fLt .f32 a0 0 then outA (fNeg .f64 y) else outA y
  else bif fLt .f32 a1 0 then
    let t := fSub .f64 4614256656552045848 x
    bif fLt .f32 a0 0 then outA (fNeg .f64 t) else outA t
  else bif fLt .f32 a0 0 then outA (fNeg .f64 x) else outA x
theorem outA_some {x : Nat} (h : pw .f64 x 100) : ∃ v : Nat, outA x = some ((v, ()), ()) ∧ pw .f32 v 100 := by
  obtain ⟨y, e, hy⟩ := pw_conv h (by decide) (by decide)
  exact ⟨y, by unfold outA; rw [e]; rfl, hy⟩
theorem tailA_some (c : Bool) (a1 a0 : Nat) {z s : Nat} (hz : pw .f64 z 0) (hs : pw .f64 s 13) : ∃ v : Nat, tailA c a1 a0 z s = some ((v, ()), ()) ∧ pw .f32 v 100 := by
  have c8 : pw .f64 4620693217682128896 3 := pw_const (s := false) (m := 4503599627370496) (p := -49) (by decide) (by decide) (by decide)
  have cp2 : pw .f64 4609753056924675352 1 := pw_const (s := false) (m := 7074237752028440) (p := -52) (by decide) (by decide) (by decide)
  have cp : pw .f64 4614256656552045848 2 := pw_const (s := false) (m := 7074237752028440) (p := -51) (by decide) (by decide) (by decide)
  have hx := pw_mul (pw_mul c8 hz (by decide) (by decide)) hs (by decide) (by decide)
  have hy := pw_sub (pw_up cp2 (show (1 : Int) ≤ 3 + 0 + 13 by decide)) hx (by decide) (by decide)
  have ht := pw_sub (pw_up cp (show (2 : Int) ≤ 3 + 0 + 13 + 1 by decide)) hy (by decide) (by decide)
  have ht2 := pw_sub (pw_up cp (show (2 : Int) ≤ 3 + 0 + 13 by decide)) hx (by decide) (by decide)
  unfold tailA
  simp only
  cases c <;> cases fLt .f32 a1 0 <;> cases fLt .f32 a0 0 <;> simp only [cond_true, cond_false] <;> first
    | exact outA_some (pw_up hx (by decide))
    | exact outA_some (pw_up (pw_neg hx) (by decide))
    | exact outA_some (pw_up hy (by decide))
    | exact outA_some (pw_up (pw_neg hy) (by decide))
    | exact outA_some (pw_up ht (by decide))
    | exact outA_some (pw_up (pw_neg ht) (by decide))
    | exact outA_some (pw_up ht2 (by decide))
    | exact outA_some (pw_up (pw_neg ht2) (by decide))
end Go.Proofs.YtnndahnmlmgenaaGreat
