/- Functions of the program and of the reference in plain terms. -/
import Derived.Test.YtnndahnmlmgenaaGreatP36
namespace Go.Proofs.YtnndahnmlmgenaaGreat
open Go Go.Tm
set_option linter.unusedVariables false
set_option linter.unusedSimpArgs false
set_option linter.unusedSectionVars false
/-! ### good ways -/
def nearF (p q : Vec 2 Nat) : Bool := (rootF (sqF p q) == 1056964608 || rootF (sqF p q) == 1060439283) && (fEq .f32 (Vec.getD 2 (aheadP p q (fDiv .f32 0 (rootF (sqF p q)))) 0 (0 : Nat)) (Vec.getD 2 p 0 (0 : Nat)) && fEq .f32 (Vec.getD 2 (aheadP p q (fDiv .f32 0 (rootF (sqF p q)))) 1 (0 : Nat)) (Vec.getD 2 p 1 (0 : Nat)))
def ptB (p : Vec 2 Nat) : Bool := gB .f32 (Vec.getD 2 p 0 (0 : Nat)) 0 (2 ^ 43) && gB .f32 (Vec.getD 2 p 1 (0 : Nat)) 0 (2 ^ 43)
abbrev ptAt (l : List (Vec 2 Nat)) (i : Nat) : Vec 2 Nat := l.getD i ((0, 0, ()) : (Vec 2 Nat))
structure Good (l : List (Vec 2 Nat)) : Prop where
  pos : 1 ≤ l.length
  len : l.length ≤ 576
  pt : ∀ i, i < l.length → ptB (ptAt l i) = true
  near : ∀ i, i + 1 < l.length → nearF (ptAt l i) (ptAt l (i + 1)) = true
  far : ∀ i, i < l.length → fLt .f32 (sqF (ptAt l 0) (ptAt l i)) (sqF (ptAt l 0) (ptAt l 0)) = false
theorem near_d {p q : Vec 2 Nat} (h : nearF p q = true) : rootF (sqF p q) = 1056964608 ∨ rootF (sqF p q) = 1060439283 := by
  have := (Bool.and_eq_true_iff.1 h).1
  rw [Bool.or_eq_true, beq_iff_eq, beq_iff_eq] at this
  exact this
theorem d_facts {d : Nat} (h : d = 1056964608 ∨ d = 1060439283) : fEq .f32 d 0 = false ∧ (∃ D : Int, inG .f32 d D D ∧ 2 ^ 39 ≤ D ∧ D ≤ 800000000000) ∧ fLe .f32 0 d = true ∧ (∀ x, pw .f32 x 0 → pw .f32 (fDiv .f32 x d) 1) := by
  rcases h with rfl | rfl
  · exact ⟨by decide, ⟨2 ^ 39, gB_ok (by decide), by decide, by decide⟩, by decide, fun x hx => pw_up (pw_over (u := -1) hx (show FloatKind.f32.decode 1056964608 = .number false 8388608 (-24) by decide) (by decide) (by decide) (by decide) (by decide)) (by decide)⟩
  · exact ⟨by decide, ⟨777472114688, gB_ok (by decide), by decide, by decide⟩, by decide, fun x hx => pw_up (pw_over (u := -1) hx (show FloatKind.f32.decode 1060439283 = .number false 11863283 (-24) by decide) (by decide) (by decide) (by decide) (by decide)) (by decide)⟩
theorem pt_pw {p : Vec 2 Nat} (h : ptB p = true) : pw .f32 (Vec.getD 2 p 0 (0 : Nat)) 3 ∧ pw .f32 (Vec.getD 2 p 1 (0 : Nat)) 3 := by
  obtain ⟨h1, h2⟩ := Bool.and_eq_true_iff.1 h
  exact ⟨(gB_ok h1).pw 3 (by decide) (by decide), (gB_ok h2).pw 3 (by decide) (by decide)⟩
theorem good_way {l : List (Vec 2 Nat)} (h : Good l) : wayB l = true := by
  have hp := h.pos
  have hn := h.len
  have e1 : iLe 1 (lenI l) = true := iLe_pos (by rw [lenI_eq]; omega)
  have e2 : iLe (lenI l) 600 = true := iLe_pos (by rw [lenI_eq]; omega)
  unfold wayB
  rw [e1, e2]
  simp only [Bool.and_self, Bool.true_and]
  refine List.all_eq_true.2 fun p hp => ?_
  obtain ⟨i, hi, e⟩ := List.getElem_of_mem hp
  have := h.pt i hi
  rw [show ptAt l i = p from (getD_of hi).trans e] at this
  obtain ⟨h1, h2⟩ := pt_pw this
  unfold finP
  rw [pw_fin h1, pw_fin h2]
  rfl
theorem walk_step {l : List (Vec 2 Nat)} {x i : Nat} (h2 : l.length ≤ 600) (hlt : i + 1 < l.length) : spec_l07Ahead_l8 l (x, (i : Int), ()) = some (match aheadF l x i with | .inl y => .inl (y, ((i + 1 : Nat) : Int), ()) | .inr p => .inr ((p, ()), ())) := by
  have e0 : iAdd .i64 (i : Int) 1 = ((i + 1 : Nat) : Int) := iAdd_one (show i < l.length by omega) (by omega)
  have e1 : iLt ((i + 1 : Nat) : Int) (lenI l) = true := iLt_pos (by rw [lenI_eq]; omega)
  have e2 : inB ((i + 1 : Nat) : Int) l.length = true := inB_pos hlt
  have e3 : inB (i : Int) l.length = true := inB_pos (by omega)
  simp only [spec_l07Ahead_l8, e0, e1, e2, e3, Int.toNat_natCast, spec_l07Square_ok, spec_l01Root_ok, Option.bind_some, cond_true, aheadF]
  generalize l.getD i ((0, 0, ()) : (Vec 2 Nat)) = p
  generalize l.getD (i + 1) ((0, 0, ()) : (Vec 2 Nat)) = q
  cases fEq .f32 (rootF (sqF p q)) 0 <;> cases fLe .f32 x (rootF (sqF p q)) <;> rfl
theorem walk_end {l : List (Vec 2 Nat)} {x i : Nat} (h2 : l.length ≤ 600) (hi : i + 1 = l.length) : run (spec_l07Ahead_l8 l) (x, (i : Int), ()) = some ((ptAt l i, ()), ()) := by
  have e0 : iAdd .i64 (i : Int) 1 = ((i + 1 : Nat) : Int) := iAdd_one (show i < l.length by omega) (by omega)
  have e1 : iLt ((i + 1 : Nat) : Int) (lenI l) = false := iLt_neg (by rw [lenI_eq]; omega)
  have e4 : iSub .i64 (lenI l) 1 = (i : Int) := by rw [iSub_eq (by rw [lenI_eq]; omega) (by rw [lenI_eq]; omega), lenI_eq]; omega
  have e3 : inB (i : Int) l.length = true := inB_pos (by omega)
  refine run_done ?_
  simp only [spec_l07Ahead_l8, e0, e1, e3, e4, cond_false, cond_true, Int.toNat_natCast]
  rfl
theorem walk_fin {l : List (Vec 2 Nat)} (h : Good l) : ∀ (n x i : Nat), i + n + 1 = l.length → inG .f32 x (-2 ^ 30) (2 ^ 43) → ∃ w : Vec 2 Nat, run (spec_l07Ahead_l8 l) (x, (i : Int), ()) = some ((w, ()), ()) ∧ pw .f32 (Vec.getD 2 w 0 (0 : Nat)) 10 ∧ pw .f32 (Vec.getD 2 w 1 (0 : Nat)) 10
  | 0, x, i, hi, hx => by
    obtain ⟨p1, p2⟩ := pt_pw (h.pt i (by omega))
    exact ⟨_, walk_end (by have := h.len; omega) (by omega), pw_up p1 (by decide), pw_up p2 (by decide)⟩
  | n + 1, x, i, hi, hx => by
    have hl := h.len
    have hs := walk_step (l := l) (x := x) (i := i) (by omega) (by omega)
    have hd := near_d (h.near i (by omega))
    obtain ⟨f1, ⟨D, f2, D1, D2⟩, f3, f4⟩ := d_facts hd
    obtain ⟨a1, a2⟩ := pt_pw (h.pt i (by omega))
    obtain ⟨b1, b2⟩ := pt_pw (h.pt (i + 1) (by omega))
    have ea : aheadF l x i = bif fLe .f32 x (rootF (sqF (ptAt l i) (ptAt l (i + 1)))) then .inr (aheadP (ptAt l i) (ptAt l (i + 1)) (fDiv .f32 x (rootF (sqF (ptAt l i) (ptAt l (i + 1)))))) else .inl (fSub .f32 x (rootF (sqF (ptAt l i) (ptAt l (i + 1))))) := by
      unfold aheadF
      simp only [ptAt] at f1
      simp only [f1, cond_false]
    rw [ea] at hs
    rcases fLe_clip hx f2 with ⟨e, k1, -⟩ | ⟨e, k1, -⟩
    · rw [e] at hs
      have hr := f4 x (k1.pw 0 (by decide) (by omega))
      have m1 := pw_mul (pw_sub b1 a1 (by decide) (by decide)) hr (by decide) (by decide)
      have m2 := pw_mul (pw_sub b2 a2 (by decide) (by decide)) hr (by decide) (by decide)
      have s1 := pw_add (pw_up a1 (show (3 : Int) ≤ 3 + 1 + 1 by decide)) m1 (by decide) (by decide)
      have s2 := pw_add (pw_up a2 (show (3 : Int) ≤ 3 + 1 + 1 by decide)) m2 (by decide) (by decide)
      exact ⟨_, run_done hs, pw_up s1 (by decide), pw_up s2 (by decide)⟩
    · rw [e] at hs
      have hsub := k1.sub 4 21 f2 (by omega) (by omega) (by decide) (by decide)
      obtain ⟨w, hw, g1, g2⟩ := walk_fin h n _ (i + 1) (by omega) (hsub.mono (by omega) (by omega))
      exact ⟨w, (run_step hs).trans hw, g1, g2⟩
theorem walk_last {l : List (Vec 2 Nat)} (h : Good l) : ∀ (n x i : Nat), i + n + 1 = l.length → inG .f32 x ((1000 - (i : Int)) * 2 ^ 40) (1000 * 2 ^ 40) → run (spec_l07Ahead_l8 l) (x, (i : Int), ()) = some ((ptAt l (l.length - 1), ()), ())
  | 0, x, i, hi, hx => by
    have := walk_end (l := l) (x := x) (i := i) (by have := h.len; omega) (by omega)
    rw [show l.length - 1 = i by omega]
    exact this
  | n + 1, x, i, hi, hx => by
    have hl := h.len
    have hs := walk_step (l := l) (x := x) (i := i) (by omega) (by omega)
    have hd := near_d (h.near i (by omega))
    obtain ⟨f1, ⟨D, f2, D1, D2⟩, f3, f4⟩ := d_facts hd
    have e := fLe_false hx f2 (by omega)
    have ea : aheadF l x i = .inl (fSub .f32 x (rootF (sqF (ptAt l i) (ptAt l (i + 1))))) := by
      unfold aheadF
      simp only [ptAt] at f1 e
      simp only [f1, e, cond_false]
    rw [ea] at hs
    have hsub := hx.sub 10 27 f2 (by omega) (by omega) (by decide) (by decide)
    exact (run_step hs).trans (walk_last h n _ (i + 1) (by omega) (hsub.mono (by omega) (by omega)))
theorem walk_none {l : List (Vec 2 Nat)} (h : Good l) : ∃ w : Vec 2 Nat, run (spec_l07Ahead_l8 l) (0, (0 : Int), ()) = some ((w, ()), ()) ∧ fEq .f32 (Vec.getD 2 w 0 (0 : Nat)) (Vec.getD 2 (ptAt l 0) 0 (0 : Nat)) = true ∧ fEq .f32 (Vec.getD 2 w 1 (0 : Nat)) (Vec.getD 2 (ptAt l 0) 1 (0 : Nat)) = true := by
  have hl := h.len
  have hp := h.pos
  by_cases h1 : l.length = 1
  · refine ⟨_, walk_end (x := 0) (i := 0) (by omega) (by omega), ?_, ?_⟩
    · obtain ⟨⟨s, m, p, hd, -⟩, -⟩ := pt_pw (h.pt 0 (by omega))
      rw [fEq_self, isNan_eq, show FloatKind.f32.format.read _ = _ from hd]
      rfl
    · obtain ⟨-, s, m, p, hd, -⟩ := pt_pw (h.pt 0 (by omega))
      rw [fEq_self, isNan_eq, show FloatKind.f32.format.read _ = _ from hd]
      rfl
  · have hs := walk_step (l := l) (x := 0) (i := 0) (by omega) (by omega)
    have hn := h.near 0 (by omega)
    obtain ⟨f1, ⟨D, f2, D1, D2⟩, f3, f4⟩ := d_facts (near_d hn)
    have ea : aheadF l 0 0 = .inr (aheadP (ptAt l 0) (ptAt l (0 + 1)) (fDiv .f32 0 (rootF (sqF (ptAt l 0) (ptAt l (0 + 1)))))) := by
      unfold aheadF
      simp only [ptAt] at f1 f3
      simp only [f1, f3, cond_false, cond_true]
    rw [ea] at hs
    obtain ⟨k1, k2⟩ := Bool.and_eq_true_iff.1 (Bool.and_eq_true_iff.1 hn).2
    exact ⟨_, run_done hs, k1, k2⟩
theorem near_run {l : List (Vec 2 Nat)} (h2 : l.length ≤ 600) (p : Vec 2 Nat) (x : Nat) : ∀ (n i j : Nat), i + n = l.length → j < l.length → ∃ j', j' < l.length ∧ run (spec_l07Ahead_l3 l p x) ((j : Int), (i : Int), ()) = run (spec_l07Ahead_l8 l) (x, (j' : Int), ())
  | 0, i, j, hi, hj => by
    have e1 : iLt (i : Int) (lenI l) = false := iLt_neg (by rw [lenI_eq]; omega)
    refine ⟨j, hj, run_end ?_⟩
    simp only [spec_l07Ahead_l3, e1, cond_false]
  | n + 1, i, j, hi, hj => by
    have hlt : i < l.length := by omega
    have e0 : iAdd .i64 (i : Int) 1 = ((i + 1 : Nat) : Int) := iAdd_one hlt (by omega)
    have e1 : iLt (i : Int) (lenI l) = true := iLt_pos (by rw [lenI_eq]; omega)
    have e2 : inB (i : Int) l.length = true := inB_pos hlt
    have e3 : inB (j : Int) l.length = true := inB_pos hj
    cases hb : fLt .f32 (sqF p (ptAt l i)) (sqF p (ptAt l j)) with
    | true =>
      obtain ⟨j', h1, h3⟩ := near_run h2 p x n (i + 1) i (by omega) hlt
      refine ⟨j', h1, (run_step ?_).trans h3⟩
      simp only [spec_l07Ahead_l3, e0, e1, e2, e3, spec_l07Square_ok, Int.toNat_natCast, Option.bind_some, cond_true]
      simp only [ptAt] at hb
      rw [hb]
      rfl
    | false =>
      obtain ⟨j', h1, h3⟩ := near_run h2 p x n (i + 1) j (by omega) hj
      refine ⟨j', h1, (run_step ?_).trans h3⟩
      simp only [spec_l07Ahead_l3, e0, e1, e2, e3, spec_l07Square_ok, Int.toNat_natCast, Option.bind_some, cond_true]
      simp only [ptAt] at hb
      rw [hb]
      rfl
theorem near_first {l : List (Vec 2 Nat)} (h : Good l) (x : Nat) : ∀ (n i : Nat), i + n = l.length → run (spec_l07Ahead_l3 l (ptAt l 0) x) ((0 : Int), (i : Int), ()) = run (spec_l07Ahead_l8 l) (x, (0 : Int), ())
  | 0, i, hi => by
    have e1 : iLt (i : Int) (lenI l) = false := iLt_neg (by rw [lenI_eq]; omega)
    refine run_end ?_
    simp only [spec_l07Ahead_l3, e1, cond_false]
  | n + 1, i, hi => by
    have hl := h.len
    have hlt : i < l.length := by omega
    have e0 : iAdd .i64 (i : Int) 1 = ((i + 1 : Nat) : Int) := iAdd_one hlt (by omega)
    have e1 : iLt (i : Int) (lenI l) = true := iLt_pos (by rw [lenI_eq]; omega)
    have e2 : inB (i : Int) l.length = true := inB_pos hlt
    have e3 : inB 0 l.length = true := inB_pos (i := 0) (by omega)
    have hb := h.far i hlt
    refine (run_step ?_).trans (near_first h x n (i + 1) (by omega))
    simp only [spec_l07Ahead_l3, e0, e1, e2, e3, spec_l07Square_ok, Int.toNat_natCast, Option.bind_some, cond_true]
    simp only [ptAt] at hb
    have e4 : (0 : Int).toNat = 0 := rfl
    rw [e4, hb]
    rfl
theorem fLt_no {k : FloatKind} {a b : Nat} {A B C D : Int} (h : inG k a A B) (h' : inG k b C D) (hc : D ≤ A) : fLt k a b = false := by
  obtain ⟨s, m, p, hd, g1⟩ := h
  obtain ⟨t, n, q, hd', g2⟩ := h'
  rw [fLt_num hd hd']
  refine decide_eq_false ?_
  have i1 := (g1 (min (min p q) (-40)) (by omega) (by omega)).1
  have i2 := (g2 (min (min p q) (-40)) (by omega) (by omega)).2
  have pp := p2_pos (-40 - min (min p q) (-40)).toNat
  have i3 := Int.mul_le_mul_of_nonneg_right hc (Int.le_of_lt pp)
  have := (signed_le (s := t) (m := n) (t := s) (n := m) (p := q) (q := p) (b := min (min p q) (-40)) (by omega) (by omega)).1 (Int.le_trans i2 (Int.le_trans i3 i1))
  rw [Int.min_comm q p] at this
  omega
theorem len_run {l : List (Vec 2 Nat)} (h : Good l) : ∀ (n acc i : Nat), i + n = l.length → 1 ≤ i → inG .f32 acc 0 ((i : Int) * 2 ^ 40) → ∃ L : Nat, run (impl_LengthOfWay_l5 l) (acc, (i : Int), ()) = some ((L, (0 : Int), ()), ()) ∧ fLt .f32 L 0 = false
  | 0, acc, i, hi, h1, ha => by
    have e1 : iLt (i : Int) (lenI l) = false := iLt_neg (by rw [lenI_eq]; omega)
    refine ⟨acc, run_done ?_, fLt_no ha g_zero (Int.le_refl _)⟩
    simp only [impl_LengthOfWay_l5, e1, cond_false]
    rfl
  | n + 1, acc, i, hi, h1, ha => by
    have hl := h.len
    have hlt : i < l.length := by omega
    have e0 : iAdd .i64 (i : Int) 1 = ((i + 1 : Nat) : Int) := iAdd_one hlt (by omega)
    have e1 : iLt (i : Int) (lenI l) = true := iLt_pos (by rw [lenI_eq]; omega)
    have e2 : inB (i : Int) l.length = true := inB_pos hlt
    have ep : iSub .i64 (i : Int) 1 = ((i - 1 : Nat) : Int) := by rw [iSub_eq (by omega) (by omega)]; omega
    have e3 : inB ((i - 1 : Nat) : Int) l.length = true := inB_pos (by omega)
    obtain ⟨f1, ⟨D, f2, D1, D2⟩, f3, f4⟩ := d_facts (near_d (h.near (i - 1) (by omega)))
    have ha2 := ha.add 10 27 f2 (by omega) (by omega) (by decide) (by decide)
    obtain ⟨L, k1, k2⟩ := len_run h n (fAdd .f32 acc (rootF (sqF (ptAt l (i - 1)) (ptAt l (i - 1 + 1))))) (i + 1) (by omega) (by omega) (ha2.mono (by omega) (by omega))
    refine ⟨L, (run_step ?_).trans k1, k2⟩
    simp only [impl_LengthOfWay_l5, e0, e1, e2, e3, ep, Int.toNat_natCast, impl_square_ok, impl_root_ok, Option.bind_some, cond_true]
    rw [show i - 1 + 1 = i by omega]
end Go.Proofs.YtnndahnmlmgenaaGreat
