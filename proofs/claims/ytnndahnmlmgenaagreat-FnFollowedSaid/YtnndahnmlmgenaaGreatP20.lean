/- Functions of the program and of the reference in plain terms. -/
import Derived.Test.YtnndahnmlmgenaaGreatP19
namespace Go.Proofs.YtnndahnmlmgenaaGreat
open Go Go.Tm
set_option linter.unusedVariables false
set_option linter.unusedSimpArgs false
set_option linter.unusedSectionVars false
/-! ### the law -/
theorem followWay_two (l : List (Vec 2 Nat)) (hl : l.length ≤ 140737488355328) (a : Vec 3 Nat) (x g : Nat) : ∃ (w : Vec 3 Nat) (k : Int), impl_FollowWay l a x g = some ((w, k, ()), ()) ∧ spec_FollowWay l a x g = some ((w, k, ()), ()) := by
  have fg : impl_isFinite [g] = some ((finB g, ()), ()) := by rw [impl_isFinite_ok _ (by simp)]; simp
  have fp : impl_IsFinitePose a = some ((finV a, ()), ()) := by
    simp only [impl_IsFinitePose, impl_isFinite_ok [Vec.getD 3 a 0 (0 : Nat), Vec.getD 3 a 1 (0 : Nat), Vec.getD 3 a 2 (0 : Nat)] (by simp), Option.bind_some, List.all_cons, List.all_nil, Bool.and_true, finV]
  have sp : spec_l06Finite a = some ((finV a, ()), ()) := by simp only [spec_l06Finite, spec_l01Vec_ok, Option.bind_some]
  have fo : ∀ p : Vec 2 Nat, spec_l07Follows l p x = some ((wayB l && (finB (Vec.getD 2 p 0 (0 : Nat)) && (finB (Vec.getD 2 p 1 (0 : Nat)) && (finB x && fLe .f32 0 x))), ()), ()) := fun p => by
    simp only [spec_l07Follows, spec_l07Way_ok l hl, spec_l01Finite_ok, Option.bind_some]
    cases wayB l <;> cases finB (Vec.getD 2 p 0 (0 : Nat)) <;> cases finB (Vec.getD 2 p 1 (0 : Nat)) <;> cases finB x <;> rfl
  have fo1 : ∀ u v : Nat, spec_l07Follows l ((u, v, ()) : Vec 2 Nat) x = some ((wayB l && (finB u && (finB v && (finB x && fLe .f32 0 x))), ()), ()) := fun u v => fo _
  have hI : impl_FollowWay l a x g = bif !wayB l then some ((((0, 0, 0, ()) : (Vec 3 Nat)), (2 : Int), ()), ()) else bif !leastB x then some ((((0, 0, 0, ()) : (Vec 3 Nat)), (2 : Int), ()), ()) else bif !finV a then some ((((0, 0, 0, ()) : (Vec 3 Nat)), (2 : Int), ()), ()) else bif !finB g then some ((((0, 0, 0, ()) : (Vec 3 Nat)), (2 : Int), ()), ()) else
      (impl_aheadOnWay l (((Vec.getD 3 a 0 (0 : Nat)), (Vec.getD 3 a 1 (0 : Nat)), ()) : (Vec 2 Nat)) x).bind fun y25 =>
      bif (! (fEq .f32 (fSub .f32 (Vec.getD 2 y25.1.1 0 (0 : Nat)) (Vec.getD 3 a 0 (0 : Nat))) 0)) then
        (impl_AngleOf (fSub .f32 (Vec.getD 2 y25.1.1 1 (0 : Nat)) (Vec.getD 3 a 1 (0 : Nat))) (fSub .f32 (Vec.getD 2 y25.1.1 0 (0 : Nat)) (Vec.getD 3 a 0 (0 : Nat)))).bind fun y33 => (impl_WrapAngle (fSub .f32 y33.1.1 (Vec.getD 3 a 2 (0 : Nat)))).bind fun y36 => (impl_WrapAngle (fAdd .f32 (Vec.getD 3 a 2 (0 : Nat)) (fMin .f32 1056964608 (fMax .f32 3204448256 y36.1.1)))).bind fun y41 => (impl_ComposePoses (Vec.set 3 a 2 y41.1.1) ((g, 0, 0, ()) : (Vec 3 Nat))).bind fun y43 => some ((y43.1.1, (0 : Int), ()), ())
      else
      bif (! (fEq .f32 (fSub .f32 (Vec.getD 2 y25.1.1 1 (0 : Nat)) (Vec.getD 3 a 1 (0 : Nat))) 0)) then
        (impl_AngleOf (fSub .f32 (Vec.getD 2 y25.1.1 1 (0 : Nat)) (Vec.getD 3 a 1 (0 : Nat))) (fSub .f32 (Vec.getD 2 y25.1.1 0 (0 : Nat)) (Vec.getD 3 a 0 (0 : Nat)))).bind fun y33 => (impl_WrapAngle (fSub .f32 y33.1.1 (Vec.getD 3 a 2 (0 : Nat)))).bind fun y36 => (impl_WrapAngle (fAdd .f32 (Vec.getD 3 a 2 (0 : Nat)) (fMin .f32 1056964608 (fMax .f32 3204448256 y36.1.1)))).bind fun y41 => (impl_ComposePoses (Vec.set 3 a 2 y41.1.1) ((g, 0, 0, ()) : (Vec 3 Nat))).bind fun y43 => some ((y43.1.1, (0 : Int), ()), ())
      else (impl_ComposePoses a ((g, 0, 0, ()) : (Vec 3 Nat))).bind fun y56 => some ((y56.1.1, (0 : Int), ()), ()) := by
    simp only [impl_FollowWay, impl_isWay_ok l hl, impl_isLeast_ok, fp, fg, Option.bind_some]
    rfl
  rw [hI]
  simp only [spec_FollowWay, fo1, sp, spec_l01Finite_ok, Option.bind_some]
  have hfa : finV a = (finB (Vec.getD 3 a 0 (0 : Nat)) && (finB (Vec.getD 3 a 1 (0 : Nat)) && finB (Vec.getD 3 a 2 (0 : Nat)))) := rfl
  have hlx : leastB x = (finB x && fLe .f32 0 x) := rfl
  by_cases hall : wayB l = true ∧ leastB x = true ∧ finV a = true ∧ finB g = true
  · obtain ⟨hw, hx, ha, hg⟩ := hall
    have h3 : (wayB l && (finB (Vec.getD 3 a 0 (0 : Nat)) && (finB (Vec.getD 3 a 1 (0 : Nat)) && (finB x && fLe .f32 0 x)))) = true := by
      rw [← hlx, hw, hx]
      rw [hfa, Bool.and_eq_true, Bool.and_eq_true] at ha
      rw [ha.1, ha.2.1]
      rfl
    rw [h3, hw, hx, ha, hg]
    obtain ⟨h1, h2⟩ := wayB_len hw
    obtain ⟨q, k1, k2⟩ := ahead_near l h1 h2 (((Vec.getD 3 a 0 (0 : Nat)), (Vec.getD 3 a 1 (0 : Nat)), ()) : (Vec 2 Nat)) x
    simp only [Bool.not_true, cond_false]
    rw [k1, k2]
    simp only [Option.bind_some]
    obtain ⟨w, w1, w2⟩ := turn_two a (fSub .f32 (Vec.getD 2 q 0 (0 : Nat)) (Vec.getD 3 a 0 (0 : Nat))) (fSub .f32 (Vec.getD 2 q 1 (0 : Nat)) (Vec.getD 3 a 1 (0 : Nat))) g
    cases fEq .f32 (fSub .f32 (Vec.getD 2 q 0 (0 : Nat)) (Vec.getD 3 a 0 (0 : Nat))) 0 with
    | false => exact ⟨w, 0, w1, w2⟩
    | true =>
      simp only [Bool.not_true, cond_false]
      cases fEq .f32 (fSub .f32 (Vec.getD 2 q 1 (0 : Nat)) (Vec.getD 3 a 1 (0 : Nat))) 0 with
      | false => exact ⟨w, 0, w1, w2⟩
      | true =>
        obtain ⟨w, w1, w2⟩ := compose_two a ((g, 0, 0, ()) : (Vec 3 Nat))
        have w2' : spec_l06Compose ((Vec.getD 3 a 0 (0 : Nat), Vec.getD 3 a 1 (0 : Nat), Vec.getD 3 a 2 (0 : Nat), ()) : Vec 3 Nat) ((g, 0, 0, ()) : (Vec 3 Nat)) = some ((w, ()), ()) := w2
        simp only [Bool.not_true, cond_false, w1, w2', Option.bind_some]
        exact ⟨w, 0, rfl, rfl⟩
  · refine ⟨((0, 0, 0, ()) : Vec 3 Nat), 2, ?_, ?_⟩
    · cases hw : wayB l with
      | false => rfl
      | true =>
        cases hx : leastB x with
        | false => rfl
        | true =>
          cases ha : finV a with
          | false => rfl
          | true =>
            cases hg : finB g with
            | false => rfl
            | true => exact absurd ⟨hw, hx, ha, hg⟩ hall
    · cases h3 : (wayB l && (finB (Vec.getD 3 a 0 (0 : Nat)) && (finB (Vec.getD 3 a 1 (0 : Nat)) && (finB x && fLe .f32 0 x)))) with
      | false => rfl
      | true =>
        cases ha : finV a with
        | false => rfl
        | true =>
          cases hg : finB g with
          | false => rfl
          | true =>
            simp only [Bool.and_eq_true] at h3
            exact absurd ⟨h3.1, by rw [hlx, h3.2.2.2.1, h3.2.2.2.2]; rfl, ha, hg⟩ hall
end Go.Proofs.YtnndahnmlmgenaaGreat
