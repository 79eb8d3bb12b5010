import Derived.Test.YtildomllnnnofaaGreatP30
/- Functions of the program and of the reference in plain terms. -/
namespace Go.Proofs.YtildomllnnnofaaGreat
open Go Go.Tm
set_option linter.unusedVariables false
set_option linter.unusedSimpArgs false
set_option linter.unusedSectionVars false
def nn (k : FloatKind) (x : Nat) (t : Int) : Prop := ∃ m p, k.decode x = .number false m p ∧ le2 m p t
theorem qab6 {k : FloatKind} {x : Nat} {t : Int} (h : nn k x t) : pw k x t := by
  obtain ⟨m, p, h1, h2⟩ := h
  exact ⟨_, m, p, h1, h2⟩
theorem qacb {k : FloatKind} {x : Nat} {t u : Int} (h : nn k x t) (hu : t ≤ u) : nn k x u := by
  obtain ⟨m, p, h1, h2⟩ := h
  exact ⟨m, p, h1, qvg h2 hu⟩
theorem quf {a : Nat} {t : Int} (ha : pw .f32 a t) (h1 : -125 ≤ t + t) (h2 : t + t ≤ 127) : nn .f32 (fMul .f32 a a) (t + t) := by
  obtain ⟨s, m, p, hd, hm⟩ := ha
  have e : fMul .f32 a a = canon .f32 (FloatKind.f32.encode (.number false (m * m) (p + p))) := by
    unfold fMul Ieee.Format.mul
    rw [show FloatKind.f32.format.read a = .number s m p from hd]
    cases s <;> rfl
  have hl : le2 (m * m) (p + p) (t + t) := by
    have g1 := hm (min p t) (by omega) (by omega)
    refine qdh (min p t + min p t) (by omega) (by omega) ?_
    have x1 : (2 : Nat) ^ (p + p - (min p t + min p t)).toNat = 2 ^ (p - min p t).toNat * 2 ^ (p - min p t).toNat := by rw [← Nat.pow_add]; congr 1; omega
    have x2 : (2 : Nat) ^ (t + t - (min p t + min p t)).toNat = 2 ^ (t - min p t).toNat * 2 ^ (t - min p t).toNat := by rw [← Nat.pow_add]; congr 1; omega
    rw [x1, x2]
    have := Nat.mul_le_mul g1 g1
    rw [Nat.mul_mul_mul_comm] at this
    exact this
  obtain ⟨m', p', e1, e2⟩ := qb5 (k := .f32) false hl h1 h2
  rw [e]
  exact ⟨m', p', e1, e2⟩
theorem qwq {a b : Nat} {t : Int} (ha : nn .f32 a t) (hb : nn .f32 b t) (h1 : -125 ≤ t + 1) (h2 : t + 1 ≤ 127) : nn .f32 (fAdd .f32 a b) (t + 1) := by
  obtain ⟨m, p, hd, hm⟩ := ha
  obtain ⟨n, q, hd', hn⟩ := hb
  have e : fAdd .f32 a b = canon .f32 (FloatKind.f32.encode (.number false (Ieee.signed false m (p - min p q).toNat + Ieee.signed false n (q - min p q).toNat).natAbs (min p q))) := by
    unfold fAdd Ieee.Format.add
    rw [show FloatKind.f32.format.read a = .number false m p from hd, show FloatKind.f32.format.read b = .number false n q from hd']
    have e : Ieee.signed false m (p - min p q).toNat + Ieee.signed false n (q - min p q).toNat = ((m * 2 ^ (p - min p q).toNat + n * 2 ^ (q - min p q).toNat : Nat) : Int) := by
      unfold Ieee.signed
      rw [Nat.shiftLeft_eq, Nat.shiftLeft_eq]
      simp
    simp only [Ieee.Datum.sum, Option.map_some, orNan, e]
    have hg : (if ((m * 2 ^ (p - min p q).toNat + n * 2 ^ (q - min p q).toNat : Nat) : Int) = 0 then false && false else decide (((m * 2 ^ (p - min p q).toNat + n * 2 ^ (q - min p q).toNat : Nat) : Int) < 0)) = false := by
      split
      · rfl
      · exact decide_eq_false (by omega)
    rw [hg]
    rfl
  obtain ⟨m', p', e1, e2⟩ := qb5 (k := .f32) false (qo9 hm hn false false) h1 h2
  rw [e]
  exact ⟨m', p', e1, e2⟩
theorem qz1 {x : Nat} {t : Int} (h : nn .f32 x t) (h1 : -1021 ≤ t) (h2 : t ≤ 1023) : nn .f64 (conv64 x) t := by
  obtain ⟨m, p, hd, hm⟩ := h
  have hc := qcx x
  unfold fConv at hc
  rw [hd] at hc
  obtain ⟨m', p', e1, e2⟩ := qb5 (k := .f64) false hm h1 h2
  have hn : isNan .f64 (FloatKind.f64.encode (.number false m p)) = false := qcm rfl
  have e1' := e1
  rw [qai hn] at e1'
  simp only [e1'] at hc
  have hc : canon .f64 (FloatKind.f64.encode (.number false m p)) = conv64 x := by simpa [Ieee.Datum.isInfinity] using hc
  rw [← hc]
  exact ⟨m', p', e1, e2⟩
theorem qsr {m : Nat} {p t : Int} (h : m ≠ 0 → topOf m p ≤ t) : le2 m p (t + 1) := by
  by_cases hm : m = 0
  · subst hm; exact qmx _ _
  · have ht := h hm
    unfold topOf at ht
    have hlt : m < 2 ^ (m.log2 + 1) := Nat.lt_log2_self
    refine qdh (min p (t + 1)) (by omega) (by omega) ?_
    refine Nat.le_trans (Nat.mul_le_mul_right _ (Nat.le_of_lt hlt)) ?_
    rw [← Nat.pow_add]
    exact Nat.pow_le_pow_right (by decide) (by omega)
theorem qzz {v : Nat} {t : Int} (h : nn .f64 v t) (h1 : 2 ≤ t) (h2 : t ≤ 1023) : nn .f64 (orNan .f64 (FloatKind.f64.format.sqrt v)) t := by
  obtain ⟨m, p, hd, hl⟩ := h
  obtain ⟨m1, p1, hr⟩ : ∃ m1 p1, Ieee.Datum.root 54 (.number false m p) = some (.number false m1 p1) := by
    unfold Ieee.Datum.root
    by_cases hm : m = 0
    · exact ⟨m, p, by simp only [if_pos hm]⟩
    · simp only [if_neg hm, Bool.false_eq_true, if_false]
      exact ⟨_, _, rfl⟩
  have e : FloatKind.f64.format.sqrt v = some (FloatKind.f64.encode (.number false m1 p1)) := by
    show ((FloatKind.f64.format.read v).root 54).map FloatKind.f64.format.write = _
    rw [show FloatKind.f64.format.read v = .number false m p from hd, hr]
    rfl
  rw [e]
  have hle : le2 m1 p1 (t - 1 + 1) := qsr fun h1 => by
    obtain ⟨h2, h3⟩ := qr0 hr h1
    have := qtn h2 hl
    unfold topOf at h3 ⊢
    omega
  rw [show t - 1 + 1 = t by omega] at hle
  exact qb5 (k := .f64) false (t := t) hle (by show (-1021 : Int) ≤ t; omega) h2
theorem qaao {x : Nat} {t : Int} (h : nn .f32 x t) (h1 : 2 ≤ t) (h2 : t ≤ 127) : pw .f32 (rootF x) t := by
  obtain ⟨y, e, hy⟩ := qzi (qab6 (qzz (qz1 h (by omega) (by omega)) h1 (by omega))) (by omega) h2
  rw [qnb] at e
  rw [Option.some.inj e]
  exact hy
theorem qyt {p q : Vec 3 Nat} (hp : pv 46 p) (hq : pv 20 q) {z : Int} (h0 : 0 ≤ z) (h1 : z ≤ 8) : ∃ m, spec_SubVec p q = some ((m, ()), ()) ∧ finB (fAdd .f32 (rootF (dotR m m)) (fDiv .f32 (fOfInt .f32 (iSub .i64 z 4)) 1098907648)) = true := by
  obtain ⟨a, b, c, ⟨⟩⟩ := p
  obtain ⟨d, e, f, ⟨⟩⟩ := q
  refine ⟨(fSub .f32 a d, fSub .f32 b e, fSub .f32 c f, ()), rfl, ?_⟩
  obtain ⟨p1, p2, p3⟩ := hp
  obtain ⟨q1, q2, q3⟩ := hq
  have s1 : pw .f32 (fSub .f32 a d) 47 := qrx (k := .f32) (t := 46) p1 (qje q1 (by decide)) (by decide) (by decide)
  have s2 : pw .f32 (fSub .f32 b e) 47 := qrx (k := .f32) (t := 46) p2 (qje q2 (by decide)) (by decide) (by decide)
  have s3 : pw .f32 (fSub .f32 c f) 47 := qrx (k := .f32) (t := 46) p3 (qje q3 (by decide)) (by decide) (by decide)
  have hd : nn .f32 (fAdd .f32 (fAdd .f32 (fMul .f32 (fSub .f32 a d) (fSub .f32 a d)) (fMul .f32 (fSub .f32 b e) (fSub .f32 b e))) (fMul .f32 (fSub .f32 c f) (fSub .f32 c f))) 96 :=
    qwq (t := 95) (qwq (t := 94) (quf s1 (by decide) (by decide)) (quf s2 (by decide) (by decide)) (by decide) (by decide)) (qacb (quf s3 (by decide) (by decide)) (by decide)) (by decide) (by decide)
  have hn : pw .f32 (fDiv .f32 (fOfInt .f32 (iSub .i64 z 4)) 1098907648) 96 := by
    rw [qbv (by omega) (by omega)]
    exact qje (qpl (qsb (by omega)) (qqd (by kernel_rfl)) (by decide) (by decide)) (by decide)
  exact qnl (qabh (k := .f32) (t := 96) (qaao hd (by decide) (by decide)) hn (by decide) (by decide))
end Go.Proofs.YtildomllnnnofaaGreat
