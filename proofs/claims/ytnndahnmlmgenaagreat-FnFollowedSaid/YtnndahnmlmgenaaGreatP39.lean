/- Functions of the program and of the reference in plain terms. -/
import Derived.Test.YtnndahnmlmgenaaGreatP38
namespace Go.Proofs.YtnndahnmlmgenaaGreat
open Go Go.Tm
set_option linter.unusedVariables false
set_option linter.unusedSimpArgs false
set_option linter.unusedSectionVars false
/-! ### FnFollowed -/
theorem points_both (r : List (Vec 2 Int)) (hn : r.length ≤ 600) : spec_PointsOf r ((1065353216, 1073741824, ()) : Vec 2 Nat) 1056964608 = some ((wayOf r, (0 : Int), ()), ()) ∧ impl_PointsOf r ((1065353216, 1073741824, ()) : Vec 2 Nat) 1056964608 = some ((wayOf r, (0 : Int), ()), ()) := by
  have hr := points_run r ((1065353216, 1073741824, ()) : Vec 2 Nat) 1056964608 hn
  have e1 : iLt 600 (lenI r) = false := iLt_neg (by rw [lenI_eq]; omega)
  have f1 : finB (Vec.getD 2 ((1065353216, 1073741824, ()) : Vec 2 Nat) 0 (0 : Nat)) = true := by decide
  have f2 : finB (Vec.getD 2 ((1065353216, 1073741824, ()) : Vec 2 Nat) 1 (0 : Nat)) = true := by decide
  have f3 : finB 1056964608 = true := by decide
  simp only [spec_PointsOf, impl_PointsOf, spec_l07Low, spec_l01Finite_ok, impl_isFinite_ok [Vec.getD 2 ((1065353216, 1073741824, ()) : Vec 2 Nat) 0 (0 : Nat), Vec.getD 2 ((1065353216, 1073741824, ()) : Vec 2 Nat) 1 (0 : Nat)] (by simp), impl_isFinite_ok [1056964608] (by simp), Option.bind_some, List.all_cons, List.all_nil, Bool.and_true, f1, f2, f3, Bool.not_true, cond_true, cond_false, e1, ← pointsLoop_eq]
  exact ⟨hr, hr⟩
theorem length_ok {l : List (Vec 2 Nat)} (h : Good l) : ∃ L : Nat, impl_LengthOfWay l = some ((L, (0 : Int), ()), ()) ∧ fLt .f32 L 0 = false := by
  obtain ⟨L, k1, k2⟩ := len_run h (l.length - 1) 0 1 (by have := h.pos; omega) (by decide) (g_zero.mono (by decide) (by decide))
  refine ⟨L, ?_, k2⟩
  simp only [impl_LengthOfWay, impl_isWay_ok l (by have := h.len; omega), good_way h, Option.bind_some, Bool.not_true, cond_false]
  exact k1
theorem ahead_eval {l : List (Vec 2 Nat)} (h : Good l) {p : Vec 2 Nat} {x : Nat} {q : Vec 2 Nat} (hp : finP p = true) (hx : finB x = true) (h0 : fLe .f32 0 x = true) (hr : run (spec_l07Ahead_l3 l p x) ((0 : Int), (1 : Int), ()) = some ((q, ()), ())) : spec_AheadOnWay l p x = some ((q, (0 : Int), ()), ()) ∧ impl_AheadOnWay l p x = some ((q, (0 : Int), ()), ()) := by
  obtain ⟨w, k1, k2⟩ := aheadOnWay_ok l (by have := h.len; omega) p x
  have hs : spec_AheadOnWay l p x = some ((q, (0 : Int), ()), ()) := by
    obtain ⟨p1, p2⟩ := Bool.and_eq_true_iff.1 hp
    have ha : spec_l07Ahead l p x = some ((q, ()), ()) := hr
    simp only [spec_AheadOnWay, spec_l07Follows, spec_l07Way_ok l (by have := h.len; omega), good_way h, spec_l01Finite_ok, p1, p2, hx, h0, ha, Option.bind_some, Bool.not_true, cond_true, cond_false]
  refine ⟨hs, ?_⟩
  rw [hs] at k1
  injection k1 with e
  injection e with e
  rw [k2, ← e]
theorem follow_far {l : List (Vec 2 Nat)} (h : Good l) {p0 p1 p2 x g : Nat} {P0 P1 P X G : Int} (h0 : inG .f32 p0 P0 P0) (h1 : inG .f32 p1 P1 P1) (h2 : inG .f32 p2 P P) (a1 : -2 ^ 42 ≤ P0) (a2 : P0 ≤ 2 ^ 42) (b1 : -2 ^ 42 ≤ P1) (b2 : P1 ≤ 2 ^ 42) (c1 : -3 * 2 ^ 40 ≤ P) (c2 : P ≤ 3 * 2 ^ 40) (hx : inG .f32 x X X) (x1 : 0 ≤ X) (x2 : X ≤ 2 ^ 43) (hx0 : fLe .f32 0 x = true) (hg : inG .f32 g G G) :
    ∃ w : Vec 3 Nat, spec_FollowWay l ((p0, p1, p2, ()) : Vec 3 Nat) x g = some ((w, (0 : Int), ()), ()) ∧ Walked p0 p1 g P w := by
  have hl := h.len
  have hp := h.pos
  obtain ⟨j, hj, hr⟩ := near_run (l := l) (by omega) ((p0, p1, ()) : Vec 2 Nat) x (l.length - 1) 1 0 (by omega) (by omega)
  obtain ⟨q, hq, g1, g2⟩ := walk_fin h (l.length - 1 - j) x j (by omega) (hx.mono (by omega) (by omega))
  have ha : spec_l07Ahead l ((p0, p1, ()) : Vec 2 Nat) x = some ((q, ()), ()) := hr.trans hq
  have w0 := h0.pw 2 (by omega) (by omega)
  have w1 := h1.pw 2 (by omega) (by omega)
  have d0 := pw_fin (pw_sub g1 (pw_up w0 (show ((2 : Nat) : Int) ≤ 10 by decide)) (by decide) (by decide))
  have d1 := pw_fin (pw_sub g2 (pw_up w1 (show ((2 : Nat) : Int) ≤ 10 by decide)) (by decide) (by decide))
  have hpl := compose_far p0 p1 g (h := p2) (P := P) (C := 0) (M := 0) (e := 0) (h2.mono (by omega) (by omega)) (h2.mono (by omega) (by omega)) (by decide) (by decide) (by decide) (by decide) (by decide) (by decide)
  have htf := turn_far p0 p1 g (fSub .f32 (Vec.getD 2 q 0 (0 : Nat)) p0) (fSub .f32 (Vec.getD 2 q 1 (0 : Nat)) p1) h2 c1 c2 d0 d1
  have v0 : Vec.getD 3 ((p0, p1, p2, ()) : Vec 3 Nat) 0 (0 : Nat) = p0 := rfl
  have v1 : Vec.getD 3 ((p0, p1, p2, ()) : Vec 3 Nat) 1 (0 : Nat) = p1 := rfl
  have v2 : Vec.getD 3 ((p0, p1, p2, ()) : Vec 3 Nat) 2 (0 : Nat) = p2 := rfl
  have u0 : Vec.getD 2 ((p0, p1, ()) : Vec 2 Nat) 0 (0 : Nat) = p0 := rfl
  have u1 : Vec.getD 2 ((p0, p1, ()) : Vec 2 Nat) 1 (0 : Nat) = p1 := rfl
  have fo : spec_l07Follows l ((p0, p1, ()) : Vec 2 Nat) x = some ((true, ()), ()) := by
    simp only [spec_l07Follows, spec_l07Way_ok l (by omega), good_way h, spec_l01Finite_ok, u0, u1, h0.fin, h1.fin, hx.fin, hx0, Option.bind_some, cond_true]
  have fi : spec_l06Finite ((p0, p1, p2, ()) : Vec 3 Nat) = some ((true, ()), ()) := by
    simp only [spec_l06Finite, spec_l01Vec, spec_l01Finite_ok, v0, v1, v2, h0.fin, h1.fin, h2.fin, Option.bind_some, cond_true]
  simp only [spec_FollowWay, v0, v1, v2, fo, fi, ha, spec_l01Finite_ok, hg.fin, Option.bind_some, Bool.not_true, cond_false]
  cases fEq .f32 (fSub .f32 (Vec.getD 2 q 0 (0 : Nat)) p0) 0 with
  | false => exact htf
  | true =>
    simp only [Bool.not_true, cond_false]
    cases fEq .f32 (fSub .f32 (Vec.getD 2 q 1 (0 : Nat)) p1) 0 with
    | false => exact htf
    | true =>
      obtain ⟨w, hw, hW⟩ := hpl
      refine ⟨w, ?_, hW⟩
      simp only [Bool.not_true, cond_false]
      rw [hw]
      rfl
theorem sameN_me (a : Nat) : sameN a a = true := by
  unfold sameN
  cases isNan .f32 a
  · simp only [cond_false, iEq_self]
  · rfl
theorem samePose_self (w : Vec 3 Nat) : spec_SamePose w w = some ((true, ()), ()) := by
  simp only [spec_SamePose, spec_l06SamePose, spec_l01SameVec_ok, sameV, sameN_me, Bool.and_self, Option.bind_some]
theorem pick_one {x : List Int} (hx : Fit (.list (.int .u8)) x) (hl : x.length ≤ 4096) (k : Int) (h1 : 1 ≤ k) (h2 : k ≤ 60000) : ∃ v : Nat, spec_P6Pick x k = some (((v : Int), ()), ()) ∧ (v : Int) < k := by
  obtain ⟨v, s, e, v0, -, v1, -⟩ := spec_pick_ok (by decide) (src_from (bytes_fit hx) hl) k h2
  refine ⟨v.toNat, ?_, by have := v1 h1; omega⟩
  rw [Int.toNat_of_nonneg v0]
  simp only [spec_P6Pick, spec_l00From_ok, e, Option.bind_some]
theorem pose_drawn {x : List Int} (hx : Fit (.list (.int .u8)) x) (hl : x.length ≤ 4096) : ∃ i j k : Nat, i < 33 ∧ j < 33 ∧ k < 49 ∧ spec_P6Pose x = some ((((quarters i, quarters j, eighths k, ()) : Vec 3 Nat), ()), ()) := by
  obtain ⟨v, s, e, v0, -, v1, hs⟩ := spec_pick_ok (by decide) (src_from (bytes_fit hx) hl) 33 (by decide)
  obtain ⟨v', s', e', v0', -, v1', hs'⟩ := spec_pick_ok (by decide) hs 33 (by decide)
  obtain ⟨v2, s2, e2, v02, -, v12, -⟩ := spec_pick_ok (by decide) hs' 49 (by decide)
  have v1 := v1 (by decide)
  have v1' := v1' (by decide)
  have v12 := v12 (by decide)
  refine ⟨v.toNat, v'.toNat, v2.toNat, by omega, by omega, by omega, ?_⟩
  simp only [spec_P6Pose, spec_l00From_ok, spec_l06PoseDrawn, e, e', e2, Option.bind_some]
  unfold quarters eighths
  rw [Int.toNat_of_nonneg v0, Int.toNat_of_nonneg v0', Int.toNat_of_nonneg v02]
  rfl
theorem bind_to {α β : Type} {o : Option α} {a : α} {f : α → Option β} {r : Option β} (h : o = some a) (h2 : f a = r) : o.bind f = r := by subst h; exact h2
theorem cond_no {α : Type} {c : Bool} {x y r : α} (h : c = false) (h2 : y = r) : (bif c then x else y) = r := by subst h; exact h2
theorem cond_yes {α : Type} {c : Bool} {x y r : α} (h : c = true) (h2 : x = r) : (bif c then x else y) = r := by subst h; exact h2
theorem notNan_pw {x : Nat} {t : Int} (h : pw .f32 x t) : fEq .f32 x x = true := by
  obtain ⟨s, m, p, hd, -⟩ := h
  rw [fEq_self, isNan_eq, show FloatKind.f32.format.read x = _ from hd]
  rfl
theorem laws_FnFollowed_plain (x : List Int) (hx : Fit (.list (.int .u8)) x) (y : List Int) (hy : Fit (.list (.int .u8)) y) : ∃ o, laws_FnFollowed x y = some ((true, ()), o) := by
  simp only [laws_FnFollowed, laws_f6big_ok, Option.bind_some]
  by_cases hlx : 4096 < lenI x
  · rw [iLt_pos hlx]; exact ⟨_, rfl⟩
  by_cases hly : 4096 < lenI y
  · rw [iLt_neg hlx, iLt_pos hly]; exact ⟨_, rfl⟩
  rw [iLt_neg hlx, iLt_neg hly]
  simp only [cond_false]
  rw [lenI_eq] at hlx hly
  obtain ⟨g, h1, hf, hg, hw1, hw2⟩ := p6Grid_ok hx (by omega)
  obtain ⟨a, h2, fa, ha⟩ := p6Spot_ok hy (by omega) hg
  obtain ⟨b, h3, fb, hb⟩ := p6Spot_ok hx (by omega) hg
  obtain ⟨w, h4, -, hlen, hfit, hcase⟩ := bestRoute_ok g hf a b fa fb
  have hcase := hcase hg ha hb
  have eg : ((g.1, g.2.1, g.2.2.1, g.2.2.2) : DGrid) = g := rfl
  simp only [h1, h2, h3, h4, eg, Option.bind_some]
  have main : ∀ out, Path g out a b w.1 → w.2.2.1 = 0 → ∃ o, (bif !iEq w.2.2.1 0 then some ((true, ()), ()) else
      (impl_PointsOf w.1 ((1065353216, 1073741824, ()) : Vec 2 Nat) 1056964608).bind fun y8 =>
      (spec_PointsOf w.1 ((1065353216, 1073741824, ()) : Vec 2 Nat) 1056964608).bind fun y9 =>
      (impl_LengthOfWay y9.1.1).bind fun y10 =>
      bif (! (iEq y8.1.2.1 y9.1.2.1)) then some ((false, ()), ()) else
      bif (! (iEq y8.1.2.1 0)) then some ((false, ()), ()) else
      bif (! (iEq (lenI y8.1.1) (lenI y9.1.1))) then some ((false, ()), ()) else
      bif (! (iEq y10.1.2.1 0)) then some ((false, ()), ()) else
      bif (fLt .f32 y10.1.1 0) then some ((false, ()), ()) else run (laws_FnFollowed_l13 y9 y8 y x) ((0 : Int), ())) = some ((true, ()), o) := fun out hp hcode => by
    have G := good_route hg hw1 hw2 hp hlen
    obtain ⟨p1, p2⟩ := points_both w.1 (by omega)
    obtain ⟨L, l1, l2⟩ := length_ok G
    rw [hcode, p1, p2]
    simp only [iEq_self, Option.bind_some, l1, l2, Bool.not_true, cond_false]
    generalize wayOf w.1 = l at *
    have gl := G.len
    have gp := G.pos
    obtain ⟨i, j, k, hi, hj, hk, hpose⟩ := pose_drawn hy (by omega)
    obtain ⟨m, hm, hm1⟩ := pick_one hy (by omega) 20 (by decide) (by decide)
    obtain ⟨n, hn, hn1⟩ := pick_one hx (by omega) 9 (by decide) (by decide)
    obtain ⟨fx, fx0⟩ := fars_ok (k := m) (by omega)
    have fg := steps_ok (k := n) (by omega)
    have fin0 : finP (ptAt l 0) = true := by
      obtain ⟨k1, k2⟩ := pt_pw (G.pt 0 (by omega))
      unfold finP
      rw [pw_fin k1, pw_fin k2]
      rfl
    obtain ⟨q0, r0, n0, n1⟩ := walk_none G
    obtain ⟨-, a0⟩ := ahead_eval G fin0 (x := 0) (by decide) (by decide) ((near_first G 0 (l.length - 1) 1 (by omega)).trans r0)
    have r1 := walk_last G (l.length - 1) 1148846080 0 (by omega) (gB_ok (by decide))
    obtain ⟨-, a1⟩ := ahead_eval G fin0 (x := 1148846080) (by decide) (by decide) ((near_first G _ (l.length - 1) 1 (by omega)).trans r1)
    obtain ⟨q2, r2, z1, z2⟩ := walk_fin G (l.length - 1) (fDiv .f32 (fOfInt .f32 (m : Int)) 1082130432) 0 (by omega) (fx.mono (by omega) (by omega))
    obtain ⟨a3, a2⟩ := ahead_eval G fin0 fx.fin fx0 ((near_first G _ (l.length - 1) 1 (by omega)).trans r2)
    obtain ⟨v, hv, hW⟩ := follow_far G (quarters_ok hi) (quarters_ok hj) (eighths_ok hk) (by omega) (by omega) (by omega) (by omega) (by omega) (by omega) fx (by omega) (by omega) fx0 fg
    obtain ⟨v', kk, i1, i2⟩ := followWay_two l (by omega) ((quarters i, quarters j, eighths k, ()) : Vec 3 Nat) (fDiv .f32 (fOfInt .f32 (m : Int)) 1082130432) (fDiv .f32 (fOfInt .f32 (n : Int)) 1090519040)
    have i1 : impl_FollowWay l ((quarters i, quarters j, eighths k, ()) : Vec 3 Nat) (fDiv .f32 (fOfInt .f32 (m : Int)) 1082130432) (fDiv .f32 (fOfInt .f32 (n : Int)) 1090519040) = some ((v, (0 : Int), ()), ()) := by
      rw [hv] at i2
      injection i2 with e
      rw [i1, ← e]
    obtain ⟨d, u, t1, t2, t3, t4, t5⟩ := walked_law (P0 := 0) (P1 := 0) (n := 0) hW rfl rfl hi hj (eighths_ok hk) (by omega) (by omega) (k := n) (by omega) rfl
    obtain ⟨P, hP⟩ : ∃ P : Vec 3 Nat, P = ((quarters i, quarters j, eighths k, ()) : Vec 3 Nat) := ⟨_, rfl⟩
    have V0 : Vec.getD 3 P 0 (0 : Nat) = quarters i := by rw [hP]; rfl
    have V1 : Vec.getD 3 P 1 (0 : Nat) = quarters j := by rw [hP]; rfl
    have V2 : Vec.getD 3 P 2 (0 : Nat) = eighths k := by rw [hP]; rfl
    rw [← hP] at hpose i1 hv
    have hfin : ∀ s : Unit, laws_FnFollowed_l13 ((l, (0 : Int), ()), ()) ((l, (0 : Int), ()), ()) y x ((l.length : Int), ()) = (some ((true, ()), ())).map .inr := fun _ => by
      have e1 : iLt (l.length : Int) (lenI l) = false := iLt_neg (by rw [lenI_eq]; omega)
      have e2 : inB 0 l.length = true := inB_pos (i := 0) (by omega)
      have e3 : iSub .i64 (lenI l) 1 = ((l.length - 1 : Nat) : Int) := by rw [iSub_eq (by rw [lenI_eq]; omega) (by rw [lenI_eq]; omega), lenI_eq]; omega
      have e4 : inB ((l.length - 1 : Nat) : Int) l.length = true := inB_pos (by omega)
      have e5 : (0 : Int).toNat = 0 := rfl
      obtain ⟨y1, y2⟩ := pt_pw (G.pt (l.length - 1) (by omega))
      have y1 := notNan_pw y1
      have y2 := notNan_pw y2
      have z1 := notNan_pw z1
      have z2 := notNan_pw z2
      simp only [ptAt] at n0 n1 a0 a1 a2 a3 y1 y2
      have t6 := samePose_self v
      simp only [laws_FnFollowed_l13, e1, e2, e3, e4, e5, Int.toNat_natCast, a0, a1, a2, a3, hm, hn, hpose, i1, hv, t1, t2, t3, t4, t5, t6, V0, V1, V2, n0, n1, y1, y2, z1, z2, iEq_self, Option.bind_some, Option.map_some, Bool.and_true, Bool.not_true, cond_true, cond_false]
      rw [← V0, ← V1] at t1
      rw [← V2] at t2
      refine congrArg (Option.map Sum.inr) (a₂ := some ((true, ()), ())) ?_
      refine bind_to rfl ?_
      refine bind_to i1 ?_
      refine bind_to hv ?_
      refine cond_no rfl ?_
      refine cond_no rfl ?_
      refine bind_to t6 ?_
      refine cond_no rfl ?_
      refine bind_to t1 ?_
      refine bind_to t2 ?_
      refine bind_to t3 ?_
      refine cond_yes rfl ?_
      refine cond_yes t4 ?_
      exact congrArg (fun z : Bool => some ((z, ()), ())) t5
    have hrun : run (laws_FnFollowed_l13 ((l, (0 : Int), ()), ()) ((l, (0 : Int), ()), ()) y x) ((0 : Int), ()) = some ((true, ()), ()) := by
      refine loop_fold (xs := l) (fun i (_ : Unit) => ((i : Int), ())) (fun s _ => s) (fun _ => some ((true, ()), ())) (fun i hi s => ?_) hfin ()
      have e1 : iLt (i : Int) (lenI l) = true := iLt_pos (by rw [lenI_eq]; omega)
      have e2 : inB (i : Int) l.length = true := inB_pos hi
      have e5 : iAdd .i64 (i : Int) 1 = ((i + 1 : Nat) : Int) := iAdd_one hi (by omega)
      obtain ⟨y1, y2⟩ := pt_pw (G.pt i hi)
      have y1 := notNan_pw y1
      have y2 := notNan_pw y2
      simp only [ptAt] at y1 y2
      simp only [laws_FnFollowed_l13, e1, e2, e5, Int.toNat_natCast, y1, y2, Bool.and_true, Bool.not_true, cond_true, cond_false]
    rw [hrun]
    exact ⟨_, rfl⟩
  rcases hcase with ⟨hcode, -⟩ | ⟨-, -, out, -, -, -, hrest⟩
  · rw [hcode]
    exact ⟨_, rfl⟩
  · rcases hrest with ⟨hcode, -⟩ | ⟨hcode, -, hp⟩
    · rw [hcode]
      exact ⟨_, rfl⟩
    · exact main out hp hcode
end Go.Proofs.YtnndahnmlmgenaaGreat
