/- Functions of the program and of the reference in plain terms. -/
import Derived.Test.YtnndahnmlmgenaaGreatP34
namespace Go.Proofs.YtnndahnmlmgenaaGreat
open Go Go.Tm
set_option linter.unusedVariables false
set_option linter.unusedSimpArgs false
set_option linter.unusedSectionVars false
/-! ### who follows a way: the pose -/
def gB (k : FloatKind) (x : Nat) (A B : Int) : Bool := match k.decode x with
  | .number s m p => decide (A * 2 ^ (-40 - min p (-40)).toNat ≤ Ieee.signed s m (p - min p (-40)).toNat) && decide (Ieee.signed s m (p - min p (-40)).toNat ≤ B * 2 ^ (-40 - min p (-40)).toNat)
  | _ => false
theorem gB_ok {k : FloatKind} {x : Nat} {A B : Int} (h : gB k x A B = true) : inG k x A B := by
  unfold gB at h
  split at h
  · rename_i s m p hd
    obtain ⟨h1, h2⟩ := Bool.and_eq_true_iff.1 h
    exact ⟨s, m, p, hd, GAt.of _ (by omega) (by omega) ⟨of_decide_eq_true h1, of_decide_eq_true h2⟩⟩
  · exact absurd h (by decide)
theorem quarters_all : (List.range 33).all (fun k => gB .f32 (quarters k) (((k : Int) - 16) * 2 ^ 38) (((k : Int) - 16) * 2 ^ 38)) = true := by decide +kernel
theorem quarters_ok {k : Nat} (h : k < 33) : inG .f32 (quarters k) (((k : Int) - 16) * 2 ^ 38) (((k : Int) - 16) * 2 ^ 38) := gB_ok (List.all_eq_true.1 quarters_all k (List.mem_range.2 h))
def eighths (k : Nat) : Nat := fDiv .f32 (fOfInt .f32 (iSub .i64 (k : Int) 24)) 1090519040
theorem eighths_all : (List.range 49).all (fun k => gB .f32 (eighths k) (((k : Int) - 24) * 2 ^ 37) (((k : Int) - 24) * 2 ^ 37)) = true := by decide +kernel
theorem eighths_ok {k : Nat} (h : k < 49) : inG .f32 (eighths k) (((k : Int) - 24) * 2 ^ 37) (((k : Int) - 24) * 2 ^ 37) := gB_ok (List.all_eq_true.1 eighths_all k (List.mem_range.2 h))
theorem steps_all : (List.range 9).all (fun k => gB .f32 (fDiv .f32 (fOfInt .f32 (k : Int)) 1090519040) ((k : Int) * 2 ^ 37) ((k : Int) * 2 ^ 37)) = true := by decide +kernel
theorem steps_ok {k : Nat} (h : k < 9) : inG .f32 (fDiv .f32 (fOfInt .f32 (k : Int)) 1090519040) ((k : Int) * 2 ^ 37) ((k : Int) * 2 ^ 37) := gB_ok (List.all_eq_true.1 steps_all k (List.mem_range.2 h))
theorem fars_all : (List.range 20).all (fun k => gB .f32 (fDiv .f32 (fOfInt .f32 (k : Int)) 1082130432) ((k : Int) * 2 ^ 38) ((k : Int) * 2 ^ 38) && fLe .f32 0 (fDiv .f32 (fOfInt .f32 (k : Int)) 1082130432)) = true := by decide +kernel
theorem fars_ok {k : Nat} (h : k < 20) : inG .f32 (fDiv .f32 (fOfInt .f32 (k : Int)) 1082130432) ((k : Int) * 2 ^ 38) ((k : Int) * 2 ^ 38) ∧ fLe .f32 0 (fDiv .f32 (fOfInt .f32 (k : Int)) 1082130432) = true := by
  obtain ⟨h1, h2⟩ := Bool.and_eq_true_iff.1 (List.all_eq_true.1 fars_all k (List.mem_range.2 h))
  exact ⟨gB_ok h1, h2⟩

/-- what a step leads to -/
def Walked (p0 p1 g : Nat) (P : Int) (w : Vec 3 Nat) : Prop := ∃ (s c h u : Nat) (C M e : Int), roundG s c ∧ w = ((fAdd .f32 p0 (fSub .f32 (fMul .f32 c g) (fMul .f32 s 0)), fAdd .f32 p1 (fAdd .f32 (fMul .f32 s g) (fMul .f32 c 0)), u, ()) : Vec 3 Nat) ∧ spec_WrapAngle (fAdd .f32 h 0) = some ((u, ()), ()) ∧
  inG .f32 h (P + C - M * 6908435304715 - e) (P + C + 1 - M * 6908435304715 + e) ∧ inG .f32 h (-3454217748480) 3454217748480 ∧ 0 ≤ e ∧ e ≤ 2 ^ 25 ∧ -2 ^ 39 - 1 ≤ C ∧ C ≤ 2 ^ 39 ∧ -1 ≤ M ∧ M ≤ 1
theorem compose_far (p0 p1 g : Nat) {h : Nat} {P C M e : Int} (h1 : inG .f32 h (P + C - M * 6908435304715 - e) (P + C + 1 - M * 6908435304715 + e)) (h2 : inG .f32 h (-3454217748480) 3454217748480) (e1 : 0 ≤ e) (e2 : e ≤ 2 ^ 25) (c1 : -2 ^ 39 - 1 ≤ C) (c2 : C ≤ 2 ^ 39) (m1 : -1 ≤ M) (m2 : M ≤ 1) :
    ∃ w : Vec 3 Nat, spec_l06Compose ((p0, p1, h, ()) : Vec 3 Nat) ((g, 0, 0, ()) : Vec 3 Nat) = some ((w, ()), ()) ∧ Walked p0 p1 g P w := by
  obtain ⟨s, c, k1, k2, hr⟩ := heading_ok h2
  obtain ⟨u, -, hu, -⟩ := wrap_two (fAdd .f32 h 0)
  refine ⟨_, ?_, s, c, h, u, C, M, e, hr, rfl, hu, h1, h2, e1, e2, c1, c2, m1, m2⟩
  unfold spec_l06Compose
  have k1' : spec_SineOf (Vec.getD 3 ((p0, p1, h, ()) : Vec 3 Nat) 2 (0 : Nat)) = some ((s, ()), ()) := k1
  have k2' : spec_CosineOf (Vec.getD 3 ((p0, p1, h, ()) : Vec 3 Nat) 2 (0 : Nat)) = some ((c, ()), ()) := k2
  have hu' : spec_WrapAngle (fAdd .f32 (Vec.getD 3 ((p0, p1, h, ()) : Vec 3 Nat) 2 (0 : Nat)) (Vec.getD 3 ((g, 0, 0, ()) : Vec 3 Nat) 2 (0 : Nat))) = some ((u, ()), ()) := hu
  rw [k2', k1', hu']
  rfl
theorem g_halff : inG .f32 1056964608 (2 ^ 39) (2 ^ 39) := gB_ok (by decide)
theorem g_nhalff : inG .f32 3204448256 (-2 ^ 39) (-2 ^ 39) := gB_ok (by decide)
theorem inG.any {k : FloatKind} {x : Nat} {s : Bool} {m : Nat} {p : Int} (hd : k.decode x = .number s m p) : ∃ C, inG k x C (C + 1) := by
  have pp := p2_pos (-40 - min p (-40)).toNat
  have hdm := Int.emod_add_mul_ediv (Ieee.signed s m (p - min p (-40)).toNat) (2 ^ (-40 - min p (-40)).toNat)
  have hm0 := Int.emod_nonneg (Ieee.signed s m (p - min p (-40)).toNat) (Int.ne_of_gt pp)
  have hm1 := Int.emod_lt_of_pos (Ieee.signed s m (p - min p (-40)).toNat) pp
  refine ⟨Ieee.signed s m (p - min p (-40)).toNat / 2 ^ (-40 - min p (-40)).toNat, s, m, p, hd, GAt.of (min p (-40)) (by omega) (by omega) ?_⟩
  rw [Int.mul_comm] at hdm
  rw [Int.add_mul, Int.one_mul]
  omega
theorem inG.pw {k : FloatKind} {x : Nat} {A B : Int} (h : inG k x A B) (T : Nat) (hA : -2 ^ (40 + T) ≤ A) (hB : B ≤ 2 ^ (40 + T)) : pw k x T := by
  obtain ⟨s, m, p, hd, hg⟩ := h
  exact ⟨s, m, p, hd, hg.le2 T hA hB⟩
theorem pw_fin {x : Nat} {t : Int} (h : pw .f32 x t) : finB x = true := by
  obtain ⟨s, m, p, hd, -⟩ := h
  exact fin_iff.2 ⟨s, m, p, hd⟩
theorem turn_far (p0 p1 g dx dy : Nat) {p2 : Nat} {P : Int} (hp : inG .f32 p2 P P) (b1 : -3 * 2 ^ 40 ≤ P) (b2 : P ≤ 3 * 2 ^ 40) (hx : finB dx = true) (hy : finB dy = true) : ∃ w : Vec 3 Nat,
    ((spec_AngleOf dy dx).bind fun y565 => (spec_WrapAngle (fSub .f32 y565.1.1 p2)).bind fun y568 =>
    bif (fLt .f32 1056964608 y568.1.1) then
      bif (fLt .f32 1056964608 3204448256) then
        (spec_WrapAngle (fAdd .f32 p2 3204448256)).bind fun y573 =>
        (spec_l06Compose ((p0, p1, y573.1.1, ()) : (Vec 3 Nat)) ((g, 0, 0, ()) : (Vec 3 Nat))).bind fun y576 =>
        some ((y576.1.1, (0 : Int), ()), ())
      else
      (spec_WrapAngle (fAdd .f32 p2 1056964608)).bind fun y579 =>
      (spec_l06Compose ((p0, p1, y579.1.1, ()) : (Vec 3 Nat)) ((g, 0, 0, ()) : (Vec 3 Nat))).bind fun y582 =>
      some ((y582.1.1, (0 : Int), ()), ())
    else
    bif (fLt .f32 y568.1.1 3204448256) then
      (spec_WrapAngle (fAdd .f32 p2 3204448256)).bind fun y586 =>
      (spec_l06Compose ((p0, p1, y586.1.1, ()) : (Vec 3 Nat)) ((g, 0, 0, ()) : (Vec 3 Nat))).bind fun y589 =>
      some ((y589.1.1, (0 : Int), ()), ())
    else
    (spec_WrapAngle (fAdd .f32 p2 y568.1.1)).bind fun y592 =>
    (spec_l06Compose ((p0, p1, y592.1.1, ()) : (Vec 3 Nat)) ((g, 0, 0, ()) : (Vec 3 Nat))).bind fun y595 =>
    some ((y595.1.1, (0 : Int), ()), ())) = some ((w, 0, ()), ()) ∧ Walked p0 p1 g P w := by
  have key : ∀ tu : Nat, inG .f32 tu (-2 ^ 39) (2 ^ 39) → ∃ w : Vec 3 Nat, ((spec_WrapAngle (fAdd .f32 p2 tu)).bind fun y579 =>
      (spec_l06Compose ((p0, p1, y579.1.1, ()) : (Vec 3 Nat)) ((g, 0, 0, ()) : (Vec 3 Nat))).bind fun y582 =>
      some ((y582.1.1, (0 : Int), ()), ())) = some ((w, 0, ()), ()) ∧ Walked p0 p1 g P w := fun tu ht => by
    obtain ⟨C, c1, c2, c3⟩ := ht.floor
    have ha := hp.add 3 20 c1 (by omega) (by omega) (by decide) (by decide)
    obtain ⟨h, N, -, hh, gh, gc, n1, n2, -, -⟩ := wrap_ok ha (by omega) (by omega)
    obtain ⟨w, hw, hW⟩ := compose_far p0 p1 g (P := P) (C := C) (M := N) (e := 2 ^ 24) (gh.mono (by omega) (by omega)) gc (by decide) (by decide) (by omega) (by omega) n1 n2
    refine ⟨w, ?_, hW⟩
    rw [hh]
    simp only [Option.bind_some]
    rw [hw]
    rfl
  obtain ⟨t, -, t2, tp⟩ := angle_two dy dx
  have tp := tp hy hx
  have hs := pw_sub tp (pw_up (hp.pw 2 (by omega) (by omega)) (show ((2 : Nat) : Int) ≤ 100 by decide)) (by decide) (by decide)
  obtain ⟨v, -, v2, hv⟩ := wrap_two (fSub .f32 t p2)
  have hc : fLt .f32 1056964608 3204448256 = false := by decide
  rcases hv with ⟨-, hv⟩ | ⟨s, m, p, hd⟩
  · rw [pw_fin hs] at hv; cases hv
  obtain ⟨V, gv⟩ := inG.any hd
  rw [t2]
  simp only [Option.bind_some]
  rw [v2]
  simp only [Option.bind_some]
  rcases fLt_clip g_halff gv with ⟨e, -, -⟩ | ⟨e, -, l2⟩
  · rw [e, hc]
    simp only [cond_true, cond_false]
    exact key _ (g_halff.mono (by decide) (by decide))
  · rw [e]
    simp only [cond_false]
    rcases fLt_clip l2 g_nhalff with ⟨e2, -, -⟩ | ⟨e2, l4, -⟩
    · rw [e2]
      simp only [cond_true]
      exact key _ (g_nhalff.mono (by decide) (by decide))
    · rw [e2]
      simp only [cond_false]
      exact key _ (l4.mono (by omega) (by omega))
theorem walked_law {p0 p1 p2 g : Nat} {P : Int} {w : Vec 3 Nat} (h : Walked p0 p1 g P w) {P0 P1 n : Int} {i j : Nat} (q0 : p0 = quarters i) (q1 : p1 = quarters j) (hi : i < 33) (hj : j < 33) (hp : inG .f32 p2 P P) (b1 : -3 * 2 ^ 40 ≤ P) (b2 : P ≤ 3 * 2 ^ 40) {k : Nat} (hk : k < 9) (hg : g = fDiv .f32 (fOfInt .f32 (k : Int)) 1090519040) :
    ∃ d u : Nat, impl_LengthOf (((fSub .f32 (Vec.getD 3 w 0 (0 : Nat)) p0), (fSub .f32 (Vec.getD 3 w 1 (0 : Nat)) p1), 0, ()) : (Vec 3 Nat)) = some ((d, ()), ()) ∧ impl_WrapAngle (fSub .f32 (Vec.getD 3 w 2 (0 : Nat)) p2) = some ((u, ()), ()) ∧ laws_f6near d g 981668463 = some ((true, ()), ()) ∧ fLe .f32 u 1056981385 = true ∧ fLe .f32 3204465033 u = true := by
  obtain ⟨s, c, h, u, C, M, e, hr, hw, hu, h1, h2, e1, e2, c1, c2, m1, m2⟩ := h
  obtain ⟨u', z, hu', hz, z1, z2⟩ := turn_back hp b1 b2 h1 h2 e1 e2 c1 c2 m1 m2
  have : u' = u := by
    rw [hu] at hu'
    injection hu' with e
    injection e with e
    injection e with e
    exact e.symm
  subst this
  have gi := quarters_ok hi
  have gj := quarters_ok hj
  have gg := steps_ok hk
  rw [← hg] at gg
  rw [← q0] at gi
  rw [← q1] at gj
  obtain ⟨d, hd, hn⟩ : ∃ d : Nat, impl_LengthOf ((fSub .f32 (fAdd .f32 p0 (fSub .f32 (fMul .f32 c g) (fMul .f32 s 0))) p0, fSub .f32 (fAdd .f32 p1 (fAdd .f32 (fMul .f32 s g) (fMul .f32 c 0))) p1, 0, ()) : Vec 3 Nat) = some ((d, ()), ()) ∧ laws_f6near d g 981668463 = some ((true, ()), ()) := by
    by_cases hk0 : k = 0
    · have hg0 : g = 0 := by rw [hg, hk0]; decide
      rw [hg0, q0, q1]
      exact len_zero hr hi hj
    · exact len_ok hr gg gi gj (by omega) (by omega) (by omega) (by omega) (by omega) (by omega)
  refine ⟨d, z, ?_, ?_, hn, z1, z2⟩
  · rw [hw]; exact hd
  · rw [hw]; exact hz
end Go.Proofs.YtnndahnmlmgenaaGreat
