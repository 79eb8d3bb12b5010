/- Functions of the program and of the reference in plain terms. -/
import Derived.Test.YtdmaamakckochaaP8
namespace Go.Proofs.Ytdmaamakckochaa
open Go Go.Tm
set_option linter.unusedVariables false
set_option linter.unusedSimpArgs false
set_option linter.unusedSectionVars false
/-! ### FnShortened -/
theorem lineQ_end {n d : Int} (hn : 1 ≤ n) : lineQ n d n = d := by
  unfold lineQ
  rw [show 2 * n * d + n = n + 2 * n * d by omega, Int.add_mul_ediv_left _ _ (by omega), half_zero hn]
  omega
theorem line_first (a b : Vec 2 Int) (h : 0 < (lineL a b).length) : (lineL a b)[0] = a := rfl
section
variable {g : DGrid} (hf : Fit TyGrid g) (hg : gridB g = true) {a b : Vec 2 Int} (ha : Fit TySpot a) (hb : Fit TySpot b) (hha : hasB g a = true) (hhb : hasB g b = true)
include hf hg ha hb hha hhb
theorem line_at' {i : Nat} (h : i < (lineL a b).length) : Fit TySpot (lineL a b)[i] ∧ hasB g (lineL a b)[i] = true ∧ (i + 1 = (lineL a b).length → (lineL a b)[i] = b) := by
  obtain ⟨s1, s2, s3, s4, s5, s6, s7⟩ := span_bounds hg ha hb hha hhb
  have hl := line_len a b
  by_cases hn : 1 ≤ spanI a b
  · have e := line_at h hn
    have hi : (i : Int) ≤ spanI a b := by omega
    have f := point_fit hg ha hb hha hhb hn (k := i) (by omega) hi
    have p := point_in hg ha hb hha hhb hn (k := i) (by omega) hi
    rw [e]
    refine ⟨f, (hasB_iff f hg).2 p, fun hlast => ?_⟩
    have hi : (i : Int) = spanI a b := by omega
    obtain ⟨x, y, ⟨⟩⟩ := a
    obtain ⟨x', y', ⟨⟩⟩ := b
    unfold pointP
    rw [hi, lineQ_end hn, lineQ_end hn]
    simp only [dxI, dyI]
    congr 1
    · omega
    · congr 1; omega
  · have h0 : spanI a b = 0 := by omega
    have hi : i = 0 := by rw [h0] at hl; omega
    subst hi
    refine ⟨ha, hha, fun _ => ?_⟩
    show a = b
    obtain ⟨x, y, ⟨⟩⟩ := a
    obtain ⟨x', y', ⟨⟩⟩ := b
    have hx : x = x' := by rw [h0] at s3; simp only [dxI] at s3; omega
    have hy : y = y' := by rw [h0] at s4; simp only [dyI] at s4; omega
    rw [hx, hy]
theorem line_near' {i : Nat} (h : i + 1 < (lineL a b).length) : nearB (lineL a b)[i] (lineL a b)[i + 1] = true := by
  have hl := line_len a b
  have hn : 1 ≤ spanI a b := by omega
  rw [line_at (by omega) hn, line_at h hn]
  have := point_near hg ha hb hha hhb hn (k := i) (by omega) (by omega)
  have e : ((i + 1 : Nat) : Int) = (i : Int) + 1 := by omega
  rw [e]
  exact this
theorem line_short : (lineL a b).length ≤ 24 := by
  obtain ⟨s1, s2, _⟩ := span_bounds hg ha hb hha hhb
  have hl := line_len a b
  omega
theorem sees_iff : (seesB g a b = true ∧ wallB g a = false ∧ AllSteps g (lineL a b)) ∨ (seesB g a b = false ∧ (wallB g a = true ∨ ¬ AllSteps g (lineL a b))) := by
  have hl := line_len a b
  have hsh := line_short hf hg ha hb hha hhb
  have k := (sees_both hf hg ha hb hha hhb).1
  simp only [impl_Grid_sees, impl_spotsBetween_ok hg ha hb hha hhb, impl_Grid_isWall_ok ha hg hha, Option.bind_some] at k
  cases hw : wallB g a with
  | true =>
    rw [hw] at k
    simp only [cond_true, Option.some.injEq, Prod.mk.injEq, and_true] at k
    exact .inr ⟨k.symm, .inl rfl⟩
  | false =>
    rw [hw] at k
    simp only [cond_false] at k
    have r := run_inv (f := impl_Grid_sees_l5 ((lineL a b, ()), ()) g) (fun s => ∃ (i : Nat) (hi : i < (lineL a b).length), s = (((i + 1 : Nat) : Int), ()) ∧ ∀ (j : Nat) (h : j + 1 < (lineL a b).length), j < i → stepB g (lineL a b)[j] (lineL a b)[j + 1] = true) (fun s => ((lineL a b).length - s.1).toNat)
      (fun x => (x = ((true, ()), ()) ∧ AllSteps g (lineL a b)) ∨ (x = ((false, ()), ()) ∧ ¬ AllSteps g (lineL a b))) (fun s hI => by
      obtain ⟨i, hi, rfl, hst⟩ := hI
      have ep : iSub .i64 (((i + 1 : Nat) : Int)) 1 = (i : Int) := by rw [iSub_eq (by omega) (by omega)]; omega
      by_cases hlt : i + 1 < (lineL a b).length
      · obtain ⟨fa, hhi, _⟩ := line_at' hf hg ha hb hha hhb hi
        obtain ⟨fb, _, _⟩ := line_at' hf hg ha hb hha hhb hlt
        have e1 : iLt ((i + 1 : Nat) : Int) (lenI (lineL a b)) = true := iLt_pos (by rw [lenI_eq]; omega)
        have e2 : inB ((i + 1 : Nat) : Int) (lineL a b).length = true := inB_pos hlt
        have e3 : inB (i : Int) (lineL a b).length = true := inB_pos hi
        have e4 : (lineL a b).getD i ((0, 0, ()) : (Vec 2 Int)) = (lineL a b)[i] := getD_of hi
        have e5 : (lineL a b).getD (i + 1) ((0, 0, ()) : (Vec 2 Int)) = (lineL a b)[i + 1] := getD_of hlt
        have e6 : iAdd .i64 ((i + 1 : Nat) : Int) 1 = ((i + 1 + 1 : Nat) : Int) := iAdd_one hlt (by omega)
        have k := impl_Grid_stepCost_ok hf hg fa fb hhi
        have f1 : impl_Grid_sees_l5 ((lineL a b, ()), ()) g (((i + 1 : Nat) : Int), ()) = bif stepB g (lineL a b)[i] (lineL a b)[i + 1] then some (.inl (((i + 1 + 1 : Nat) : Int), ())) else some (.inr ((false, ()), ())) := by
          simp only [impl_Grid_sees_l5, e1, e2, e3, e4, e5, e6, ep, Int.toNat_natCast, k, Option.bind_some, cond_true]
          cases stepB g (lineL a b)[i] (lineL a b)[i + 1] <;> rfl
        rw [f1]
        cases hs : stepB g (lineL a b)[i] (lineL a b)[i + 1] with
        | false => exact .inr ⟨_, rfl, .inr ⟨rfl, fun h => by rw [h i hlt] at hs; exact absurd hs (by decide)⟩⟩
        | true =>
          left
          refine ⟨_, rfl, ⟨i + 1, hlt, rfl, fun j h hj => ?_⟩, by show (((lineL a b).length : Int) - ((i + 1 + 1 : Nat) : Int)).toNat < (((lineL a b).length : Int) - ((i + 1 : Nat) : Int)).toNat; omega⟩
          by_cases hji : j = i
          · subst hji; exact hs
          · exact hst j h (by omega)
      · right
        have e1 : iLt ((i + 1 : Nat) : Int) (lenI (lineL a b)) = false := iLt_neg (by rw [lenI_eq]; omega)
        exact ⟨_, by simp only [impl_Grid_sees_l5, e1, cond_false]; rfl, .inl ⟨rfl, fun j h => hst j h (by omega)⟩⟩) (s := ((1 : Int), ())) ⟨0, by omega, rfl, fun j _ hj => absurd hj (Nat.not_lt_zero _)⟩
    obtain ⟨x, hx, h⟩ := r
    rw [k] at hx
    rcases h with ⟨rfl, h⟩ | ⟨rfl, h⟩
    · simp only [Option.some.injEq, Prod.mk.injEq, and_true] at hx
      exact .inl ⟨hx, rfl, h⟩
    · simp only [Option.some.injEq, Prod.mk.injEq, and_true] at hx
      exact .inr ⟨hx, .inr h⟩
theorem line_route (hw : wallB g a = false) (hs : AllSteps g (lineL a b)) : RouteP g (lineL a b) := by
  have hl := line_len a b
  have hsh := line_short hf hg ha hb hha hhb
  exact ⟨by omega, by omega, hha, hw, hs⟩
theorem impl_SeesSpot_in : impl_SeesSpot g a b = some ((seesB g a b, 0, ()), ()) := by
  have h0 : spotsCode g [a, b] = 0 := by simp [spotsCode, hg, hha, hhb]
  simp only [impl_SeesSpot, impl_checkSpots_ok g [a, b] (by simp), h0, iEq_self, Option.bind_some, Bool.not_true, cond_false, (sees_both hf hg ha hb hha hhb).1]
theorem between_ok : impl_SpotsBetween a b = some ((lineL a b, 0, ()), ()) ∧ spec_SpotsBetween a b = some ((lineL a b, 0, ()), ()) := by
  obtain ⟨g1, g2, g3, g4, _⟩ := gridB_true hg
  have h1 := (hasB_iff ha hg).1 hha
  have h2 := (hasB_iff hb hg).1 hhb
  have w1 : iWrap .i64 a.1 = a.1 := wrap_i64 (by omega) (by omega)
  have w2 : iWrap .i64 a.2.1 = a.2.1 := wrap_i64 (by omega) (by omega)
  have w3 : iWrap .i64 b.1 = b.1 := wrap_i64 (by omega) (by omega)
  have w4 : iWrap .i64 b.2.1 = b.2.1 := wrap_i64 (by omega) (by omega)
  have t : ∀ x : Int, 0 ≤ x → x ≤ 23 → (iLe 0 x && iLe x 23) = true := fun x h h' => by rw [iLe_pos h, iLe_pos h']; rfl
  have t1 := t a.1 (by omega) (by omega)
  have t2 := t a.2.1 (by omega) (by omega)
  have t3 := t b.1 (by omega) (by omega)
  have t4 := t b.2.1 (by omega) (by omega)
  have ea0 : Vec.getD 2 a 0 (0 : Int) = a.1 := rfl
  have ea1 : Vec.getD 2 a 1 (0 : Int) = a.2.1 := rfl
  have eb0 : Vec.getD 2 b 0 (0 : Int) = b.1 := rfl
  have eb1 : Vec.getD 2 b 1 (0 : Int) = b.2.1 := rfl
  have l0 : ∀ p q r s : Int, List.getD [p, q, r, s] 0 (0 : Int) = p := fun _ _ _ _ => rfl
  have l1 : ∀ p q r s : Int, List.getD [p, q, r, s] 1 (0 : Int) = q := fun _ _ _ _ => rfl
  have l2 : ∀ p q r s : Int, List.getD [p, q, r, s] 2 (0 : Int) = r := fun _ _ _ _ => rfl
  have l3 : ∀ p q r s : Int, List.getD [p, q, r, s] 3 (0 : Int) = s := fun _ _ _ _ => rfl
  constructor
  · simp only [impl_SpotsBetween, within_eq, l00In_ok, ea0, ea1, eb0, eb1, l0, l1, l2, l3, w1, w2, w3, w4, t1, t2, t3, t4, Option.bind_some, Bool.not_true, cond_false, impl_spotsBetween_ok hg ha hb hha hhb]
  · simp only [spec_SpotsBetween, l00In_ok, ea0, ea1, eb0, eb1, w1, w2, w3, w4, t1, t2, t3, t4, Option.bind_some, Bool.not_true, cond_false, spec_l07Line_ok hg ha hb hha hhb]
end
theorem shortened_l29 {g : DGrid} (hf : Fit TyGrid g) (hg : gridB g = true) {l out : List (Vec 2 Int)} (hl : ∀ s ∈ l, Fit TySpot s) (hr : RouteP g l) {n : Nat} (hP : ShortP g l out n) {z : Int} :
    run (laws_FnShortened_l29 ((out, z, ()), ()) ((g, ()), ())) ((1 : Int), ()) = some ((true, ()), ()) := by
  have hm := hr.most
  have hle := hP.le
  have hlt := hP.lt
  have hpos := hP.pos
  have hin : ∀ s ∈ out, Fit TySpot s ∧ hasB g s = true := fun s hs => by
    have hs' := hP.mem s hs
    obtain ⟨i, hi, rfl⟩ := List.mem_iff_getElem.1 hs'
    exact ⟨hl _ hs', (hr.all i hi).1⟩
  have r := run_inv (f := laws_FnShortened_l29 ((out, z, ()), ()) ((g, ()), ())) (fun s => ∃ i : Nat, s = (((i + 1 : Nat) : Int), ()) ∧ i < out.length) (fun s => (out.length - s.1).toNat) (fun a => a = ((true, ()), ())) (fun s hI => by
    obtain ⟨i, rfl, hi⟩ := hI
    have ep : iSub .i64 (((i + 1 : Nat) : Int)) 1 = (i : Int) := by rw [iSub_eq (by omega) (by omega)]; omega
    by_cases h : i + 1 < out.length
    · left
      have e1 : iLt ((i + 1 : Nat) : Int) (lenI out) = true := iLt_pos (by rw [lenI_eq]; omega)
      have e2 : inB ((i + 1 : Nat) : Int) out.length = true := inB_pos h
      have e3 : inB (i : Int) out.length = true := inB_pos hi
      have e4 : out.getD i ((0, 0, ()) : (Vec 2 Int)) = out[i] := getD_of hi
      have e5 : out.getD (i + 1) ((0, 0, ()) : (Vec 2 Int)) = out[i + 1] := getD_of h
      have e6 : iAdd .i64 ((i + 1 : Nat) : Int) 1 = ((i + 1 + 1 : Nat) : Int) := iAdd_one h (by omega)
      obtain ⟨fa, hha⟩ := hin _ (List.getElem_mem hi)
      obtain ⟨fb, hhb⟩ := hin _ (List.getElem_mem h)
      have k := impl_SeesSpot_in hf hg fa fb hha hhb
      rw [hP.sees i h] at k
      have eg : ((g.1, g.2.1, g.2.2.1, g.2.2.2) : DGrid) = g := rfl
      refine ⟨_, ?_, ⟨i + 1, rfl, h⟩, by show ((out.length : Int) - ((i + 1 + 1 : Nat) : Int)).toNat < ((out.length : Int) - ((i + 1 : Nat) : Int)).toNat; omega⟩
      simp only [laws_FnShortened_l29, e1, e2, e3, e4, e5, e6, ep, eg, k, Int.toNat_natCast, iEq_self, Option.bind_some, Bool.not_true, cond_true, cond_false]
    · right
      have e1 : iLt ((i + 1 : Nat) : Int) (lenI out) = false := iLt_neg (by rw [lenI_eq]; omega)
      exact ⟨_, by simp only [laws_FnShortened_l29, e1, cond_false]; rfl, rfl⟩) (s := ((1 : Int), ())) ⟨0, rfl, hpos⟩
  obtain ⟨a, ha, rfl⟩ := r
  exact ha
theorem iSub16_eq {a b : Int} (h : -32768 ≤ a - b) (h1 : a - b ≤ 32767) : iSub .i16 a b = a - b := wrap_i16 h h1

theorem laws_FnShortened_plain (x : List Int) (hx : Fit (.list (.int .u8)) x) (y : List Int) (hy : Fit (.list (.int .u8)) y) : ∃ o, laws_FnShortened x y = some ((true, ()), o) := by
  simp only [laws_FnShortened, laws_f6big_ok, Option.bind_some]
  by_cases hlx : 4096 < lenI x
  · rw [iLt_pos hlx]; exact ⟨_, rfl⟩
  by_cases hly : 4096 < lenI y
  · rw [iLt_neg hlx, iLt_pos hly]; exact ⟨_, rfl⟩
  rw [iLt_neg hlx, iLt_neg hly]
  simp only [cond_false]
  rw [lenI_eq] at hlx hly
  obtain ⟨g, h1, hf, hg, _, _⟩ := p6Grid_ok hx (by omega)
  obtain ⟨a, h2, fa, ha⟩ := p6Spot_ok hy (by omega) hg
  obtain ⟨b, h3, fb, hb⟩ := p6Spot_ok hx (by omega) hg
  obtain ⟨b1, b2⟩ := between_ok hf hg fa fb ha hb
  have hl := line_len a b
  have hsh := line_short hf hg fa fb ha hb
  have same := spec_SameSpots_self (lineL a b) (by omega)
  have eg : ((g.1, g.2.1, g.2.2.1, g.2.2.2) : DGrid) = g := rfl
  have i0 : inB 0 (lineL a b).length = true := inB_pos (i := 0) (by omega)
  have e0 : List.getD (lineL a b) 0 ((0, 0, ()) : (Vec 2 Int)) = a := rfl
  have el : iSub .i64 (lenI (lineL a b)) 1 = (((lineL a b).length - 1 : Nat) : Int) := by rw [lenI_eq, iSub_eq (by omega) (by omega)]; omega
  have il : inB (((lineL a b).length - 1 : Nat) : Int) (lineL a b).length = true := inB_pos (by omega)
  have e1 : List.getD (lineL a b) ((lineL a b).length - 1) ((0, 0, ()) : (Vec 2 Int)) = b := (getD_of (by omega)).trans ((line_at' hf hg fa fb ha hb (i := (lineL a b).length - 1) (by omega)).2.2 (by omega))
  have sa := (spot_eq hf hg (a := a) (b := a)).2 rfl
  have sb := (spot_eq hf hg (a := b) (b := b)).2 rfl
  simp only [h1, h2, h3, b1, b2, eg, same, i0, e0, el, il, e1, sa, sb, iEq_self, Int.toNat_natCast, Option.bind_some, Bool.not_true, cond_false, cond_true]
  -- the end of the first loop
  have fin : laws_FnShortened_l11 ((lineL a b, 0, ()), ()) ((g, ()), ()) ((a, ()), ()) ((b, ()), ()) (((lineL a b).length : Int), ()) = some (.inr ((true, ()), ())) := by
    have n1 : iLt ((lineL a b).length : Int) (lenI (lineL a b)) = false := iLt_neg (by rw [lenI_eq]; omega)
    have cs := impl_SeesSpot_in hf hg fa fb ha hb
    have cc := impl_CostAt_in hg fa ha
    have wa : iEq (cellI g a) 255 = wallB g a := rfl
    have hfit : ∀ s ∈ lineL a b, Fit TySpot s := fun s hs => by
      obtain ⟨i, hi, rfl⟩ := List.mem_iff_getElem.1 hs
      exact (line_at' hf hg fa fb ha hb hi).1
    obtain ⟨w, k4, k5, klen, kfit, kcase⟩ := bestRoute_ok g hf a b fa fb
    have kcase := kcase hg ha hb
    obtain ⟨u, u1, u2, u3, u4⟩ := shortenRoute_ok hf kfit
    have usame := spec_SameSpots_self u.1 (by omega)
    have q2 : laws_FnShortened_l29_2 = laws_FnShortened_l29 := rfl
    have q3 : laws_FnShortened_l29_3 = laws_FnShortened_l29 := rfl
    have q4 : laws_FnShortened_l29_4 = laws_FnShortened_l29 := rfl
    have q5 : laws_FnShortened_l29_5 = laws_FnShortened_l29 := rfl
    have q6 : laws_FnShortened_l29_6 = laws_FnShortened_l29 := rfl
    have tail : (iEq w.2.2.1 0 = false) ∨ (iEq w.2.2.1 0 = true ∧ u.2.1 = 0 ∧ inB 0 u.1.length = true ∧ List.getD u.1 0 ((0, 0, ()) : (Vec 2 Int)) = a ∧ iSub .i64 (lenI u.1) 1 = ((u.1.length - 1 : Nat) : Int) ∧ inB ((u.1.length - 1 : Nat) : Int) u.1.length = true ∧ List.getD u.1 (u.1.length - 1) ((0, 0, ()) : (Vec 2 Int)) = b ∧ iLt (lenI w.1) (lenI u.1) = false ∧ run (laws_FnShortened_l29 (u, ()) ((g, ()), ())) ((1 : Int), ()) = some ((true, ()), ())) := by
      have n4 : iEq 4 0 = false := by decide
      have n6 : iEq 6 0 = false := by decide
      rcases kcase with ⟨hcode, _⟩ | ⟨_, _, out, _, L, hc, ⟨hcode, _⟩ | ⟨hcode, _, hp⟩⟩
      · rw [hcode]; exact .inl n4
      · rw [hcode]; exact .inl n6
      · rw [hcode]
        have hroute := hp.route hf hg
        obtain ⟨c0, hP⟩ := u4 hg hroute
        have hpos := hP.pos
        have hle := hP.le
        have hwp := hroute.pos
        obtain ⟨u', uc, ⟨⟩⟩ := u
        simp only at c0 hP hpos hle u3 ⊢
        refine .inr ⟨iEq_self 0, c0, inB_pos (i := 0) hpos, ?_, ?_, inB_pos (by omega), ?_, iLt_neg (by rw [lenI_eq, lenI_eq]; omega), shortened_l29 hf hg kfit hroute hP⟩
        · exact hP.first.trans ((getD_of hwp).trans hp.first)
        · rw [lenI_eq, iSub_eq (by omega) (by omega)]; omega
        · exact hP.last.trans ((getD_of (by omega)).trans hp.last)
    obtain ⟨g1, g2, g3, ⟨⟩⟩ := g
    rcases sees_iff hf hg fa fb ha hb with ⟨hs, hw, hst⟩ | ⟨hs, hno⟩
    · have vr : impl_ValidRoute (g1, g2, g3, ()) (lineL a b) = some ((true, ()), ()) := by
        rcases validRoute_iff hf hg hfit with ⟨h, _⟩ | ⟨_, h⟩
        · exact h
        · exact absurd (line_route hf hg fa fb ha hb hw hst) h
      rcases tail with ht | ⟨ht, t0, t1, t2, t3, t4, t5, t6, t7⟩
      · simp only [laws_FnShortened_l11, n1, cs, cc, hs, hw, wa, vr, k4, ht, iEq_self, Option.bind_some, Option.map_some, Bool.not_true, Bool.not_false, cond_false, cond_true]
      · simp only [laws_FnShortened_l11, n1, cs, cc, hs, hw, wa, vr, k4, ht, q3, u1, u2, usame, t0, t1, t2, t3, t4, t5, t6, t7, sa, sb, iEq_self, Int.toNat_natCast, Option.bind_some, Option.map_some, Bool.not_true, Bool.not_false, cond_false, cond_true] <;> rfl
    · cases hw : wallB (g1, g2, g3, ()) a with
      | true =>
        rcases tail with ht | ⟨ht, t0, t1, t2, t3, t4, t5, t6, t7⟩
        · simp only [laws_FnShortened_l11, n1, cs, cc, hs, hw, wa, k4, ht, iEq_self, Option.bind_some, Option.map_some, Bool.not_true, Bool.not_false, cond_false, cond_true]
        · simp only [laws_FnShortened_l11, n1, cs, cc, hs, hw, wa, k4, ht, q5, u1, u2, usame, t0, t1, t2, t3, t4, t5, t6, t7, sa, sb, iEq_self, Int.toNat_natCast, Option.bind_some, Option.map_some, Bool.not_true, Bool.not_false, cond_false, cond_true] <;> rfl
      | false =>
        have vr : impl_ValidRoute (g1, g2, g3, ()) (lineL a b) = some ((false, ()), ()) := by
          rcases validRoute_iff hf hg hfit with ⟨_, h⟩ | ⟨h, _⟩
          · rcases hno with h' | h'
            · rw [hw] at h'; exact absurd h' (by decide)
            · exact absurd h.steps h'
          · exact h
        rcases tail with ht | ⟨ht, t0, t1, t2, t3, t4, t5, t6, t7⟩
        · simp only [laws_FnShortened_l11, n1, cs, cc, hs, hw, wa, vr, k4, ht, iEq_self, Option.bind_some, Option.map_some, Bool.not_true, Bool.not_false, cond_false, cond_true]
        · simp only [laws_FnShortened_l11, n1, cs, cc, hs, hw, wa, vr, k4, ht, q4, u1, u2, usame, t0, t1, t2, t3, t4, t5, t6, t7, sa, sb, iEq_self, Int.toNat_natCast, Option.bind_some, Option.map_some, Bool.not_true, Bool.not_false, cond_false, cond_true] <;> rfl
  have r := run_inv (f := laws_FnShortened_l11 ((lineL a b, 0, ()), ()) ((g, ()), ()) ((a, ()), ()) ((b, ()), ())) (fun s => ∃ i : Nat, s = (((i + 1 : Nat) : Int), ()) ∧ i < (lineL a b).length) (fun s => ((lineL a b).length - s.1).toNat) (fun a => a = ((true, ()), ())) (fun s hI => by
    obtain ⟨i, rfl, hi⟩ := hI
    by_cases h : i + 1 < (lineL a b).length
    · left
      have ep : iSub .i64 (((i + 1 : Nat) : Int)) 1 = (i : Int) := by rw [iSub_eq (by omega) (by omega)]; omega
      have e1 : iLt ((i + 1 : Nat) : Int) (lenI (lineL a b)) = true := iLt_pos (by rw [lenI_eq]; omega)
      have e2 : inB ((i + 1 : Nat) : Int) (lineL a b).length = true := inB_pos h
      have e3 : inB (i : Int) (lineL a b).length = true := inB_pos hi
      have e4 : (lineL a b).getD i ((0, 0, ()) : (Vec 2 Int)) = (lineL a b)[i] := getD_of hi
      have e5 : (lineL a b).getD (i + 1) ((0, 0, ()) : (Vec 2 Int)) = (lineL a b)[i + 1] := getD_of h
      have e6 : iAdd .i64 ((i + 1 : Nat) : Int) 1 = ((i + 1 + 1 : Nat) : Int) := iAdd_one h (by omega)
      have hn := line_near' hf hg fa fb ha hb h
      generalize (lineL a b)[i] = p at e4 hn
      generalize (lineL a b)[i + 1] = q at e5 hn
      have hn' := hn
      simp only [nearB, dxI, dyI, Bool.and_eq_true, iLe_true, Bool.not_eq_true', Bool.and_eq_false_iff, iEq_false] at hn'
      have dx : iSub .i16 (Vec.getD 2 q 0 (0 : Int)) (Vec.getD 2 p 0 (0 : Int)) = q.1 - p.1 := iSub16_eq (by show -32768 ≤ q.1 - p.1; omega) (by show q.1 - p.1 ≤ 32767; omega)
      have dy : iSub .i16 (Vec.getD 2 q 1 (0 : Int)) (Vec.getD 2 p 1 (0 : Int)) = q.2.1 - p.2.1 := iSub16_eq (by show -32768 ≤ q.2.1 - p.2.1; omega) (by show q.2.1 - p.2.1 ≤ 32767; omega)
      have n1 : iLt 1 (q.1 - p.1) = false := iLt_neg (by omega)
      have n2 : iLt (q.1 - p.1) (-1) = false := iLt_neg (by omega)
      have n3 : iLt 1 (q.2.1 - p.2.1) = false := iLt_neg (by omega)
      have n4 : iLt (q.2.1 - p.2.1) (-1) = false := iLt_neg (by omega)
      have n5 : iEq (q.1 - p.1) 0 = false ∨ iEq (q.2.1 - p.2.1) 0 = false := by
        rcases hn'.2.2 with h | h
        · exact .inl (iEq_neg h)
        · exact .inr (iEq_neg h)
      refine ⟨(((i + 1 + 1 : Nat) : Int), ()), ?_, ⟨i + 1, rfl, h⟩, by show (((lineL a b).length : Int) - ((i + 1 + 1 : Nat) : Int)).toNat < (((lineL a b).length : Int) - ((i + 1 : Nat) : Int)).toNat; omega⟩
      rcases n5 with n5 | n5
      · simp only [laws_FnShortened_l11, ep, e1, e2, e3, e4, e5, e6, dx, dy, n1, n2, n3, n4, n5, Int.toNat_natCast, cond_true, cond_false]
      · cases h5 : iEq (q.1 - p.1) 0 <;> simp only [laws_FnShortened_l11, ep, e1, e2, e3, e4, e5, e6, dx, dy, n1, n2, n3, n4, n5, h5, Int.toNat_natCast, cond_true, cond_false]
    · right
      have : i + 1 = (lineL a b).length := by omega
      rw [this]
      exact ⟨_, fin, rfl⟩) (s := ((1 : Int), ())) ⟨0, rfl, by omega⟩
  obtain ⟨z, hz, rfl⟩ := r
  exact ⟨_, hz⟩
end Go.Proofs.Ytdmaamakckochaa
