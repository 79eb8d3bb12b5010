/- Functions of the program and of the reference in plain terms. -/
import Derived.Test.YtildomllnnnofaaGreatDoorP9
namespace Go.Proofs.YtildomllnnnofaaGreatDoor
open Go Go.Tm
set_option linter.unusedVariables false
set_option linter.unusedSimpArgs false
set_option linter.unusedSectionVars false
/-! ### missions and logs that are the same -/
abbrev DLeg := Int × ((Vec 3 Nat) × (Int × (Int × Unit)))
abbrev DMission := Int × ((Vec 3 Nat) × ((List (Vec 3 Nat)) × ((List DLeg) × Unit)))
abbrev DEntry := Int × ((Vec 3 Nat) × ((Vec 3 Int) × (Int × (Nat × Unit))))
abbrev DLog := Int × ((Vec 3 Nat) × ((List (Vec 3 Nat)) × ((List DEntry) × Unit)))
abbrev TyLeg : Ty := .pair (.int .i64) (.pair (.arr 3 (.flt .f32)) (.pair (.int .i64) (.pair (.int .i64) .unit)))
abbrev TyVec : Ty := .arr 3 (.flt .f32)
abbrev TyMission : Ty := .pair (.int .i64) (.pair TyVec (.pair (.list TyVec) (.pair (.list TyLeg) .unit)))
abbrev TyEntry : Ty := .pair (.int .i64) (.pair TyVec (.pair (.arr 3 (.int .i16)) (.pair (.int .i64) (.pair (.flt .f32) .unit))))
abbrev TyLog : Ty := .pair (.int .i64) (.pair TyVec (.pair (.list TyVec) (.pair (.list TyEntry) .unit)))
def sameVs (a b : List (Vec 3 Nat)) : Bool := iEq (lenI a) (lenI b) && all2 sameV a b
theorem len_eq {α : Type} {a b : List α} (h : iEq (lenI a) (lenI b) = true) : a.length = b.length := by
  rw [iEq_true, lenI_eq, lenI_eq] at h
  omega

theorem slices_EqualFunc_impl_Vec_ok (a b : List (Vec 3 Nat)) (g : (Vec 3 Nat) × (Vec 3 Nat) × Unit → Option Bool) (p : Vec 3 Nat → Vec 3 Nat → Bool) (hl : a.length ≤ 140737488355328) (hg : ∀ x y, g (x, y, ()) = some (p x y)) :
    slices_EqualFunc_impl_Vec a b g = some ((iEq (lenI a) (lenI b) && all2 p a b, ()), ()) := by
  unfold slices_EqualFunc_impl_Vec
  cases he : iEq (lenI a) (lenI b)
  · rfl
  · have hab := len_eq he
    simp only [Bool.not_true, cond_false, Bool.true_and]
    refine equal_loop hab (fun i hi hj => ?_) ?_
    · have e1 : iLt (i : Int) (lenI a) = true := iLt_pos (by rw [lenI_eq]; omega)
      have e2 : inB (i : Int) a.length = true := inB_pos hi
      have e3 : inB (i : Int) b.length = true := inB_pos hj
      have e4 : a.getD i ((0, 0, 0, ()) : (Vec 3 Nat)) = a[i] := getD_of hi
      have e6 : b.getD i ((0, 0, 0, ()) : (Vec 3 Nat)) = b[i] := getD_of hj
      have e5 : iAdd .i64 (i : Int) 1 = ((i + 1 : Nat) : Int) := iAdd_one hi (by omega)
      simp only [slices_EqualFunc_impl_Vec_l4, e1, e2, e3, e4, e5, e6, Int.toNat_natCast, hg, Option.bind_some, cond_true]
      cases p a[i] b[i] <;> rfl
    · have e1 : iLt (a.length : Int) (lenI a) = false := iLt_neg (by rw [lenI_eq]; omega)
      simp only [slices_EqualFunc_impl_Vec_l4, e1, cond_false]
      rfl

theorem slices_EqualFunc_impl_Leg_ok (a b : List DLeg) (g : DLeg × DLeg × Unit → Option Bool) (p : DLeg → DLeg → Bool) (hl : a.length ≤ 140737488355328) (hg : ∀ x y, g (x, y, ()) = some (p x y)) :
    slices_EqualFunc_impl_Leg a b g = some ((iEq (lenI a) (lenI b) && all2 p a b, ()), ()) := by
  unfold slices_EqualFunc_impl_Leg
  cases he : iEq (lenI a) (lenI b)
  · rfl
  · have hab := len_eq he
    simp only [Bool.not_true, cond_false, Bool.true_and]
    refine equal_loop hab (fun i hi hj => ?_) ?_
    · have e1 : iLt (i : Int) (lenI a) = true := iLt_pos (by rw [lenI_eq]; omega)
      have e2 : inB (i : Int) a.length = true := inB_pos hi
      have e3 : inB (i : Int) b.length = true := inB_pos hj
      have e4 : a.getD i ((0, (0, 0, 0, ()), 0, 0, ()) : DLeg) = a[i] := getD_of hi
      have e6 : b.getD i ((0, (0, 0, 0, ()), 0, 0, ()) : DLeg) = b[i] := getD_of hj
      have e5 : iAdd .i64 (i : Int) 1 = ((i + 1 : Nat) : Int) := iAdd_one hi (by omega)
      simp only [slices_EqualFunc_impl_Leg_l4, e1, e2, e3, e4, e5, e6, Int.toNat_natCast, hg, Option.bind_some, cond_true]
      cases p a[i] b[i] <;> rfl
    · have e1 : iLt (a.length : Int) (lenI a) = false := iLt_neg (by rw [lenI_eq]; omega)
      simp only [slices_EqualFunc_impl_Leg_l4, e1, cond_false]
      rfl

theorem spec_l08SameVecs_ok (a b : List (Vec 3 Nat)) (hl : a.length ≤ 140737488355328) : spec_l08SameVecs a b = some ((sameVs a b, ()), ()) := by
  unfold spec_l08SameVecs sameVs
  cases he : iEq (lenI a) (lenI b)
  · rfl
  · have hab := len_eq he
    simp only [Bool.not_true, cond_false, Bool.true_and]
    refine equal_loop hab (fun i hi hj => ?_) ?_
    · have e1 : iLt (i : Int) (lenI a) = true := iLt_pos (by rw [lenI_eq]; omega)
      have e2 : inB (i : Int) a.length = true := inB_pos hi
      have e3 : inB (i : Int) b.length = true := inB_pos hj
      have e4 : a.getD i ((0, 0, 0, ()) : (Vec 3 Nat)) = a[i] := getD_of hi
      have e6 : b.getD i ((0, 0, 0, ()) : (Vec 3 Nat)) = b[i] := getD_of hj
      have e5 : iAdd .i64 (i : Int) 1 = ((i + 1 : Nat) : Int) := iAdd_one hi (by omega)
      simp only [spec_l08SameVecs_l4, e1, e2, e3, e4, e5, e6, Int.toNat_natCast, spec_l01SameVec_ok, Option.bind_some, cond_true]
      cases sameV a[i] b[i] <;> rfl
    · have e1 : iLt (a.length : Int) (lenI a) = false := iLt_neg (by rw [lenI_eq]; omega)
      simp only [spec_l08SameVecs_l4, e1, cond_false]
      rfl

def sameLeg (a b : DLeg) : Bool := iEq a.1 b.1 && (sameV a.2.1 b.2.1 && (iEq a.2.2.1 b.2.2.1 && iEq a.2.2.2.1 b.2.2.2.1))
def sameM (a b : DMission) : Bool := iEq a.1 b.1 && (sameV a.2.1 b.2.1 && (sameVs a.2.2.1 b.2.2.1 && (iEq (lenI a.2.2.2.1) (lenI b.2.2.2.1) && all2 sameLeg a.2.2.2.1 b.2.2.2.1)))
def sameE (a b : DEntry) : Bool := iEq a.1 b.1 && (sameV a.2.1 b.2.1 && ((iEq (Vec.getD 3 a.2.2.1 0 (0 : Int)) (Vec.getD 3 b.2.2.1 0 (0 : Int)) && (iEq (Vec.getD 3 a.2.2.1 1 (0 : Int)) (Vec.getD 3 b.2.2.1 1 (0 : Int)) && (iEq (Vec.getD 3 a.2.2.1 2 (0 : Int)) (Vec.getD 3 b.2.2.1 2 (0 : Int)) && true))) && (iEq a.2.2.2.1 b.2.2.2.1 && sameN a.2.2.2.2.1 b.2.2.2.2.1)))
def sameL (a b : DLog) : Bool := iEq a.1 b.1 && (sameV a.2.1 b.2.1 && (sameVs a.2.2.1 b.2.2.1 && (iEq (lenI a.2.2.2.1) (lenI b.2.2.2.1) && all2 sameE a.2.2.2.1 b.2.2.2.1)))

theorem impl_SameMission_ok (a b : DMission) (h : Sized TyMission a) : impl_SameMission a b = some ((sameM a b, ()), ()) := by
  have h1 := slices_EqualFunc_impl_Vec_ok a.2.2.1 b.2.2.1 (fun z423 => (impl_SameVec z423.1 z423.2.1).map fun y => y.1.1) sameV h.2.2.1.1 (fun x y => by simp only [impl_SameVec_ok, Option.map_some])
  have h2 := slices_EqualFunc_impl_Leg_ok a.2.2.2.1 b.2.2.2.1 (fun z425 => (impl_SameMission_1 z425.1 z425.2.1).map fun y => y.1.1) sameLeg h.2.2.2.1.1 (fun x y => by
    simp only [impl_SameMission_1, impl_SameVec_ok, Option.bind_some, sameLeg]
    cases iEq x.1 y.1 <;> cases sameV x.2.1 y.2.1 <;> cases iEq x.2.2.1 y.2.2.1 <;> rfl)
  simp only [impl_SameMission, h1, h2]
  simp only [impl_SameVec_ok, Option.bind_some, sameM, sameVs]
  cases iEq a.1 b.1 <;> cases sameV a.2.1 b.2.1 <;> cases (iEq (lenI a.2.2.1) (lenI b.2.2.1) && all2 sameV a.2.2.1 b.2.2.1) <;> rfl

theorem spec_SameMission_ok (a b : DMission) (h : Sized TyMission a) : spec_SameMission a b = some ((sameM a b, ()), ()) := by
  have h3 : a.2.2.2.1.length ≤ 140737488355328 := h.2.2.2.1.1
  simp only [spec_SameMission, spec_l01SameVec_ok, spec_l08SameVecs_ok a.2.2.1 b.2.2.1 h.2.2.1.1, Option.bind_some, sameM]
  cases iEq a.1 b.1 <;> cases sameV a.2.1 b.2.1 <;> cases sameVs a.2.2.1 b.2.2.1 <;> cases he : iEq (lenI a.2.2.2.1) (lenI b.2.2.2.1) <;> first | rfl | skip
  have hab := len_eq he
  simp only [Bool.not_true, cond_false, Bool.true_and]
  refine equal_loop hab (fun i hi hj => ?_) ?_
  · have e1 : iLt (i : Int) (lenI a.2.2.2.1) = true := iLt_pos (by rw [lenI_eq]; omega)
    have e2 : inB (i : Int) a.2.2.2.1.length = true := inB_pos hi
    have e3 : inB (i : Int) b.2.2.2.1.length = true := inB_pos hj
    have e4 : a.2.2.2.1.getD i ((0, (0, 0, 0, ()), 0, 0, ()) : DLeg) = a.2.2.2.1[i] := getD_of hi
    have e6 : b.2.2.2.1.getD i ((0, (0, 0, 0, ()), 0, 0, ()) : DLeg) = b.2.2.2.1[i] := getD_of hj
    have e5 : iAdd .i64 (i : Int) 1 = ((i + 1 : Nat) : Int) := iAdd_one hi (by omega)
    simp only [spec_SameMission_l4, e1, e2, e3, e4, e5, e6, Int.toNat_natCast, spec_l01SameVec_ok, Option.bind_some, cond_true, sameLeg]
    generalize a.2.2.2.1[i] = x
    generalize b.2.2.2.1[i] = y
    cases iEq x.1 y.1 <;> cases sameV x.2.1 y.2.1 <;> cases iEq x.2.2.1 y.2.2.1 <;> cases iEq x.2.2.2.1 y.2.2.2.1 <;> rfl
  · have e1 : iLt (a.2.2.2.1.length : Int) (lenI a.2.2.2.1) = false := iLt_neg (by rw [lenI_eq]; omega)
    simp only [spec_SameMission_l4, e1, cond_false]
    rfl

/-! ### what missions are valid -/
def legB (n : Int) (x : DLeg) : Bool := (iLe 1 x.1 && iLe x.1 400) && (finV x.2.1 && ((iLe 0 x.2.2.1 && iLe x.2.2.1 400) && (iLe (-1) x.2.2.2.1 && iLe x.2.2.2.1 n)))
def ticksI (l : List DLeg) : Int := l.foldl (fun s x => iAdd .i64 s x.1) 0
def frameB (a : Int) (v : Vec 3 Nat) (l : List (Vec 3 Nat)) : Bool := (iLe 1 a && iLe a 64) && (finV v && (iLe (lenI l) 6 && l.all finV))
def missionB (a : DMission) : Bool := frameB a.1 a.2.1 a.2.2.1 && (iLe (lenI a.2.2.2.1) 64 && (a.2.2.2.1.all (legB (iSub .i64 (lenI a.2.2.1) 1)) && iLe (ticksI a.2.2.2.1) 400))
theorem iLe_not {a b : Int} : iLt b a = !iLe a b := by
  by_cases h : a ≤ b
  · rw [iLe_pos h, iLt_neg (by omega)]; rfl
  · rw [iLe_neg h, iLt_pos (by omega)]; rfl
theorem any_not {α : Type} (p : α → Bool) (l : List α) : (l.any fun x => !p x) = !l.all p := by
  induction l with
  | nil => rfl
  | cons x r ih => rw [List.any_cons, List.all_cons, ih]; cases p x <;> rfl

theorem impl_validFrame_ok (a : Int) (v : Vec 3 Nat) (l : List (Vec 3 Nat)) (hl : l.length ≤ 140737488355328) : impl_validFrame a v l = some ((frameB a v l, ()), ()) := by
  have h := slices_ContainsFunc_impl_Vec_ok l (fun z659 => (impl_validFrame_1 z659.1).map fun y => y.1.1) (fun s => !finV s) hl (fun x _ => by
    simp only [impl_validFrame_1, impl_IsFiniteVec_ok, Option.bind_some, Option.map_some])
  simp only [impl_validFrame, h]
  simp only [within_eq, l00In_ok, impl_IsFiniteVec_ok, Option.bind_some, frameB, any_not]
  cases (iLe 1 a && iLe a 64) <;> cases finV v <;> cases iLe (lenI l) 6 <;> cases l.all finV <;> rfl

theorem spec_l08Frame_ok (a : Int) (v : Vec 3 Nat) (l : List (Vec 3 Nat)) (hl : l.length ≤ 140737488355328) : spec_l08Frame a v l = some ((frameB a v l, ()), ()) := by
  have hr : run (spec_l08Frame_l4 l) ((0 : Int), ()) = some ((l.all finV, ()), ()) := by
    refine every_loop (fun i hi => ?_) ?_
    · have e1 : iLt (i : Int) (lenI l) = true := iLt_pos (by rw [lenI_eq]; omega)
      have e2 : inB (i : Int) l.length = true := inB_pos hi
      have e4 : l.getD i ((0, 0, 0, ()) : (Vec 3 Nat)) = l[i] := getD_of hi
      have e5 : iAdd .i64 (i : Int) 1 = ((i + 1 : Nat) : Int) := iAdd_one hi (by omega)
      simp only [spec_l08Frame_l4, e1, e2, e4, e5, Int.toNat_natCast, spec_l01Vec_ok, Option.bind_some, cond_true]
      cases finV l[i] <;> rfl
    · have e1 : iLt (l.length : Int) (lenI l) = false := iLt_neg (by rw [lenI_eq]; omega)
      simp only [spec_l08Frame_l4, e1, cond_false]
      rfl
  simp only [spec_l08Frame, l00In_ok, spec_l01Vec_ok, Option.bind_some, hr, frameB, iLe_not]
  cases (iLe 1 a && iLe a 64) <;> cases finV v <;> cases iLe (lenI l) 6 <;> rfl

theorem impl_ticksOf_ok (a : DMission) (h : a.2.2.2.1.length ≤ 140737488355328) : impl_ticksOf a = some ((ticksI a.2.2.2.1, ()), ()) := by
  unfold impl_ticksOf ticksI
  refine loop_fold (xs := a.2.2.2.1) (fun i (s : Int) => (s, (i : Int), ())) _ (fun s => some ((s, ()), ())) (fun i hi s => ?_) (fun s => ?_) 0
  · have e1 : iLt (i : Int) (lenI a.2.2.2.1) = true := iLt_pos (by rw [lenI_eq]; omega)
    have e2 : inB (i : Int) a.2.2.2.1.length = true := inB_pos hi
    have e4 : a.2.2.2.1.getD i ((0, (0, 0, 0, ()), 0, 0, ()) : DLeg) = a.2.2.2.1[i] := getD_of hi
    have e5 : iAdd .i64 (i : Int) 1 = ((i + 1 : Nat) : Int) := iAdd_one hi (by omega)
    simp only [impl_ticksOf_l3, e1, e2, e4, e5, Int.toNat_natCast, cond_true]
  · have e1 : iLt (a.2.2.2.1.length : Int) (lenI a.2.2.2.1) = false := iLt_neg (by rw [lenI_eq]; omega)
    simp only [impl_ticksOf_l3, e1, cond_false]

theorem impl_ValidMission_ok (a : DMission) (h : Sized TyMission a) : impl_ValidMission a = some ((missionB a, ()), ()) := by
  have hl : a.2.2.2.1.length ≤ 140737488355328 := h.2.2.2.1.1
  have hr : run (impl_ValidMission_l4 a) ((0 : Int), ()) = bif a.2.2.2.1.all (legB (iSub .i64 (lenI a.2.2.1) 1)) then some ((iLe (ticksI a.2.2.2.1) 400, ()), ()) else some ((false, ()), ()) := by
    refine loop_all (xs := a.2.2.2.1) (fun i (s : Unit) => ((i : Int), ())) _ (fun s _ => s) ((false, ()), ()) (fun s => some ((iLe (ticksI a.2.2.2.1) 400, ()), ())) (fun i hi s => ?_) (fun s => ?_) ()
    · have e1 : iLt (i : Int) (lenI a.2.2.2.1) = true := iLt_pos (by rw [lenI_eq]; omega)
      have e2 : inB (i : Int) a.2.2.2.1.length = true := inB_pos hi
      have e4 : a.2.2.2.1.getD i ((0, (0, 0, 0, ()), 0, 0, ()) : DLeg) = a.2.2.2.1[i] := getD_of hi
      have e5 : iAdd .i64 (i : Int) 1 = ((i + 1 : Nat) : Int) := iAdd_one hi (by omega)
      simp only [impl_ValidMission_l4, e1, e2, e4, e5, Int.toNat_natCast, within_eq, l00In_ok, impl_IsFiniteVec_ok, Option.bind_some, cond_true, legB]
      generalize a.2.2.2.1[i] = x
      cases (iLe 1 x.1 && iLe x.1 400) <;> cases finV x.2.1 <;> cases (iLe 0 x.2.2.1 && iLe x.2.2.1 400) <;> cases (iLe (-1) x.2.2.2.1 && iLe x.2.2.2.1 (iSub .i64 (lenI a.2.2.1) 1)) <;> rfl
    · have e1 : iLt (a.2.2.2.1.length : Int) (lenI a.2.2.2.1) = false := iLt_neg (by rw [lenI_eq]; omega)
      simp only [impl_ValidMission_l4, e1, cond_false, impl_ticksOf_ok a hl, Option.bind_some]
  simp only [impl_ValidMission, impl_validFrame_ok a.1 a.2.1 a.2.2.1 h.2.2.1.1, hr, Option.bind_some, missionB, iLe_not]
  cases frameB a.1 a.2.1 a.2.2.1 <;> cases iLe (lenI a.2.2.2.1) 64 <;> cases a.2.2.2.1.all (legB (iSub .i64 (lenI a.2.2.1) 1)) <;> rfl

theorem spec_l08Ok_ok (a : DMission) (h : Sized TyMission a) : spec_l08Ok a = some ((missionB a, ()), ()) := by
  have hl : a.2.2.2.1.length ≤ 140737488355328 := h.2.2.2.1.1
  have hr : run (spec_l08Ok_l5 a) ((0 : Int), (0 : Int), ()) = bif a.2.2.2.1.all (legB (iSub .i64 (lenI a.2.2.1) 1)) then some ((iLe (ticksI a.2.2.2.1) 400, ()), ()) else some ((false, ()), ()) := by
    refine loop_all (xs := a.2.2.2.1) (fun i (s : Int) => (s, (i : Int), ())) _ (fun s x => iAdd .i64 s x.1) ((false, ()), ()) (fun s => some ((iLe s 400, ()), ())) (fun i hi s => ?_) (fun s => ?_) 0
    · have e1 : iLt (i : Int) (lenI a.2.2.2.1) = true := iLt_pos (by rw [lenI_eq]; omega)
      have e2 : inB (i : Int) a.2.2.2.1.length = true := inB_pos hi
      have e4 : a.2.2.2.1.getD i ((0, (0, 0, 0, ()), 0, 0, ()) : DLeg) = a.2.2.2.1[i] := getD_of hi
      have e5 : iAdd .i64 (i : Int) 1 = ((i + 1 : Nat) : Int) := iAdd_one hi (by omega)
      simp only [spec_l08Ok_l5, e1, e2, e4, e5, Int.toNat_natCast, l00In_ok, spec_l01Vec_ok, Option.bind_some, cond_true, legB]
      generalize a.2.2.2.1[i] = x
      cases (iLe 1 x.1 && iLe x.1 400) <;> cases finV x.2.1 <;> cases (iLe 0 x.2.2.1 && iLe x.2.2.1 400) <;> cases (iLe (-1) x.2.2.2.1 && iLe x.2.2.2.1 (iSub .i64 (lenI a.2.2.1) 1)) <;> rfl
    · have e1 : iLt (a.2.2.2.1.length : Int) (lenI a.2.2.2.1) = false := iLt_neg (by rw [lenI_eq]; omega)
      simp only [spec_l08Ok_l5, e1, cond_false]
  simp only [spec_l08Ok, spec_l08Frame_ok a.1 a.2.1 a.2.2.1 h.2.2.1.1, hr, Option.bind_some, missionB, iLe_not]
  cases frameB a.1 a.2.1 a.2.2.1 <;> cases iLe (lenI a.2.2.2.1) 64 <;> cases a.2.2.2.1.all (legB (iSub .i64 (lenI a.2.2.1) 1)) <;> rfl

theorem impl_TicksOf_ok (a : DMission) (h : Sized TyMission a) : impl_TicksOf a = some (bif missionB a then (ticksI a.2.2.2.1, 0, ()) else (0, 1, ()), ()) := by
  simp only [impl_TicksOf, impl_ValidMission_ok a h, impl_ticksOf_ok a h.2.2.2.1.1, Option.bind_some]
  cases missionB a <;> rfl

/-! ### logs that are valid -/
theorem sameN_zero {x : Nat} (h : sameN x 0 = true) : x = 0 := by
  have h0 : isNan .f32 0 = false := by decide
  unfold sameN at h
  rw [h0] at h
  cases hx : isNan .f32 x with
  | true => rw [hx] at h; simp at h
  | false =>
    rw [hx] at h
    simp only [cond_false, iEq_true] at h
    omega
theorem finB_zero : finB 0 = true := by decide
theorem sameN_self (x : Nat) : sameN x x = true := by
  unfold sameN
  cases isNan .f32 x
  · simp [iEq_self]
  · rfl
theorem sameV_self (v : Vec 3 Nat) : sameV v v = true := by simp [sameV, sameN_self]
theorem sameV_zero {v : Vec 3 Nat} (h : sameV v (0, 0, 0, ()) = true) : finV v = true := by
  simp only [sameV, Bool.and_eq_true] at h
  obtain ⟨h1, h2, h3⟩ := h
  have e1 := sameN_zero h1
  have e2 := sameN_zero h2
  have e3 := sameN_zero h3
  simp only [finV, e1, e2, e3, finB_zero, Bool.and_self]
def zeroC (c : Vec 3 Int) : Bool := iEq (Vec.getD 3 c 0 (0 : Int)) 0 && (iEq (Vec.getD 3 c 1 (0 : Int)) 0 && iEq (Vec.getD 3 c 2 (0 : Int)) 0)
def entryB (n : Int) (e : DEntry) : Bool :=
  bif iEq e.1 1 then sameV e.2.1 (0, 0, 0, ()) && (zeroC e.2.2.1 && (iEq e.2.2.2.1 0 && sameN e.2.2.2.2.1 0))
  else bif iEq e.1 2 then (zeroC e.2.2.1 && (iEq e.2.2.2.1 0 && sameN e.2.2.2.2.1 0)) && finV e.2.1
  else bif iEq e.1 3 then sameV e.2.1 (0, 0, 0, ()) && (iEq e.2.2.2.1 0 && sameN e.2.2.2.2.1 0)
  else bif iEq e.1 4 then (iLe 0 e.2.2.2.1 && iLe e.2.2.2.1 (iSub .i64 n 1)) && (sameV e.2.1 (0, 0, 0, ()) && (zeroC e.2.2.1 && finB e.2.2.2.2.1))
  else false

def logB (a : DLog) : Bool := frameB a.1 a.2.1 a.2.2.1 && (iLe (lenI a.2.2.2.1) 1200 && a.2.2.2.1.all (entryB (lenI a.2.2.1)))

/-! ### tracks -/
theorem addVec_eq (a b : Vec 3 Nat) : impl_AddVec a b = spec_AddVec a b := by
  obtain ⟨a1, a2, a3, ⟨⟩⟩ := a
  rfl

theorem scaleVec_eq (a : Vec 3 Nat) (c : Nat) : impl_ScaleVec a c = spec_ScaleVec a c := by
  obtain ⟨a1, a2, a3, ⟨⟩⟩ := a
  rfl

def addV (a b : Vec 3 Nat) : Vec 3 Nat := (fAdd .f32 (Vec.getD 3 a 0 (0 : Nat)) (Vec.getD 3 b 0 (0 : Nat)), fAdd .f32 (Vec.getD 3 a 1 (0 : Nat)) (Vec.getD 3 b 1 (0 : Nat)), fAdd .f32 (Vec.getD 3 a 2 (0 : Nat)) (Vec.getD 3 b 2 (0 : Nat)), ())
def scaleV (a : Vec 3 Nat) (c : Nat) : Vec 3 Nat := (fMul .f32 (Vec.getD 3 a 0 (0 : Nat)) c, fMul .f32 (Vec.getD 3 a 1 (0 : Nat)) c, fMul .f32 (Vec.getD 3 a 2 (0 : Nat)) c, ())
theorem spec_AddVec_ok (a b : Vec 3 Nat) : spec_AddVec a b = some ((addV a b, ()), ()) := rfl
theorem spec_ScaleVec_ok (a : Vec 3 Nat) (c : Nat) : spec_ScaleVec a c = some ((scaleV a c, ()), ()) := rfl

theorem track_eq (a : DMission) : impl_TrackOf_l7 a (fDiv .f32 1065353216 (fOfInt .f32 a.1)) = spec_l08Track_l4 a := by
  funext s
  unfold impl_TrackOf_l7 spec_l08Track_l4
  cases iLt s.2.1 (lenI a.2.2.2.1)
  · rfl
  · cases hb : inB s.2.1 a.2.2.2.1.length
    · rfl
    · simp only [cond_true, spec_ScaleVec_ok, Option.bind_some]
      congr 1
      funext z
      simp only [impl_TrackOf_l10, spec_l08Track_l8, hb, cond_true, addVec_eq, scaleVec_eq, spec_ScaleVec_ok, spec_AddVec_ok, spec_l01Vec_ok, impl_IsFiniteVec_ok, Option.bind_some]

theorem track_leg (a : DMission) (s : List (Vec 3 Nat) × Int × Vec 3 Nat × Unit) (y : (Vec 3 Nat × Unit) × Unit) (i : Nat) (hi : i < a.2.2.2.1.length) (hs : s.2.1 = i) (ht : 1 ≤ a.2.2.2.1[i].1 ∧ a.2.2.2.1[i].1 ≤ 400) (hl : a.2.2.2.1.length ≤ 64) (hn : s.1.length ≤ 1 + 400 * i) :
    ∃ o, run (spec_l08Track_l8 s a y) (s.1, (0 : Int), s.2.2.1, ()) = some o ∧ ((∃ l : List (Vec 3 Nat), l.length ≤ 30000 ∧ ∃ v : Vec 3 Nat, o = .inl (l, ((i + 1 : Nat) : Int), v, ()) ∧ l.length ≤ 1 + 400 * (i + 1)) ∨ o = .inr (([], 4, ()), ())) := by
  refine run_inv (f := spec_l08Track_l8 s a y) (fun z => 0 ≤ z.2.1 ∧ z.2.1 ≤ a.2.2.2.1[i].1 ∧ (z.1.length : Int) ≤ 1 + 400 * i + z.2.1) (fun z => (a.2.2.2.1[i].1 - z.2.1).toNat) _ (fun z hz => ?_) (s := (s.1, (0 : Int), s.2.2.1, ())) ⟨Int.le_refl _, by show (0 : Int) ≤ _; omega, by show (s.1.length : Int) ≤ 1 + 400 * i + 0; omega⟩
  obtain ⟨z1, z2, z3, ⟨⟩⟩ := z
  obtain ⟨h1, h2, h3⟩ := hz
  simp only at h1 h2 h3
  have e1 : inB s.2.1 a.2.2.2.1.length = true := by rw [hs]; exact inB_pos hi
  have e4 : a.2.2.2.1.getD s.2.1.toNat ((0, (0, 0, 0, ()), 0, 0, ()) : DLeg) = a.2.2.2.1[i] := by rw [hs, Int.toNat_natCast]; exact getD_of hi
  have e6 : iAdd .i64 s.2.1 1 = ((i + 1 : Nat) : Int) := by rw [hs]; exact iAdd_one hi (by omega)
  by_cases hlt : z2 < a.2.2.2.1[i].1
  · have e2 : iLt z2 a.2.2.2.1[i].1 = true := iLt_pos hlt
    have e3 : room (z1.length + 1) 12 = true := room_pos (by omega)
    have e5 : iAdd .i64 z2 1 = z2 + 1 := iAdd_eq (by omega) (by omega)
    simp only [spec_l08Track_l8, e1, e2, e3, e4, e5, cond_true, spec_AddVec_ok, spec_l01Vec_ok, Option.bind_some]
    cases finV (addV z3 y.1.1)
    · exact .inr ⟨_, rfl, .inr rfl⟩
    · refine .inl ⟨_, rfl, ⟨by show (0 : Int) ≤ z2 + 1; omega, by show z2 + 1 ≤ _; omega, ?_⟩, ?_⟩
      · show ((z1 ++ [_]).length : Int) ≤ 1 + 400 * i + (z2 + 1)
        rw [List.length_append, List.length_singleton]
        omega
      · show (a.2.2.2.1[i].1 - (z2 + 1)).toNat < (a.2.2.2.1[i].1 - z2).toNat
        omega
  · have e2 : iLt z2 a.2.2.2.1[i].1 = false := iLt_neg hlt
    simp only [spec_l08Track_l8, e1, e2, e4, e6, cond_true, cond_false]
    exact .inr ⟨_, rfl, .inl ⟨z1, by omega, z3, rfl, by omega⟩⟩

theorem track_run (a : DMission) (hm : missionB a = true) : ∃ w : (List (Vec 3 Nat) × Int × Unit) × Unit, spec_l08Track a = some w ∧ w.1.1.length ≤ 30000 := by
  have hm' : a.2.2.2.1.length ≤ 64 ∧ ∀ x ∈ a.2.2.2.1, 1 ≤ x.1 ∧ x.1 ≤ 400 := by
    simp only [missionB, Bool.and_eq_true, iLe_true, List.all_eq_true, lenI_eq] at hm
    obtain ⟨_, h1, h2, _⟩ := hm
    refine ⟨by omega, fun x hx => ?_⟩
    have := h2 x hx
    simp only [legB, Bool.and_eq_true, iLe_true] at this
    exact this.1
  obtain ⟨hl, hx⟩ := hm'
  unfold spec_l08Track
  refine run_inv (f := spec_l08Track_l4 a) (fun s => ∃ i : Nat, s.2.1 = i ∧ i ≤ a.2.2.2.1.length ∧ s.1.length ≤ 1 + 400 * i) (fun s => (a.2.2.2.1.length - s.2.1).toNat) (fun w => w.1.1.length ≤ 30000) (fun s hs => ?_) ⟨0, rfl, Nat.zero_le _, by simp⟩
  obtain ⟨i, h1, h2, h3⟩ := hs
  by_cases hlt : i < a.2.2.2.1.length
  · have e1 : iLt s.2.1 (lenI a.2.2.2.1) = true := iLt_pos (by rw [lenI_eq]; omega)
    have e2 : inB s.2.1 a.2.2.2.1.length = true := by rw [h1]; exact inB_pos hlt
    obtain ⟨o, ho, hq⟩ := track_leg a s ((scaleV (((List.getD a.2.2.2.1 s.2.1.toNat ((0, (0, 0, 0, ()), 0, 0, ()) : DLeg)).2).1) (fDiv .f32 1065353216 (fOfInt .f32 a.1)), ()), ()) i hlt h1 (hx _ (List.getElem_mem hlt)) hl h3
    simp only [spec_l08Track_l4, e1, e2, spec_ScaleVec_ok, Option.bind_some, cond_true, ho]
    rcases hq with ⟨l, hll, v, rfl, hn⟩ | rfl
    · exact .inl ⟨_, rfl, ⟨i + 1, rfl, hlt, hn⟩, by show ((a.2.2.2.1.length : Int) - ((i + 1 : Nat) : Int)).toNat < ((a.2.2.2.1.length : Int) - s.2.1).toNat; omega⟩
    · exact .inr ⟨_, rfl, by simp⟩
  · have e1 : iLt s.2.1 (lenI a.2.2.2.1) = false := iLt_neg (by rw [lenI_eq]; omega)
    simp only [spec_l08Track_l4, e1, cond_false]
    refine .inr ⟨_, rfl, ?_⟩
    show s.1.length ≤ 30000
    omega

theorem trackOf_ok (a : DMission) (h : Sized TyMission a) : ∃ w, spec_TrackOf a = some (w, ()) ∧ impl_TrackOf a = some (w, ()) ∧ w.1.length ≤ 30000 := by
  simp only [spec_TrackOf, impl_TrackOf, spec_l08Ok_ok a h, impl_ValidMission_ok a h, Option.bind_some, track_eq]
  cases hm : missionB a with
  | false => exact ⟨_, rfl, rfl, Nat.zero_le _⟩
  | true =>
    obtain ⟨⟨w, ⟨⟩⟩, h1, h2⟩ := track_run a hm
    have h1' := h1
    unfold spec_l08Track at h1
    simp only [Bool.not_true, cond_false, h1, h1', Option.bind_some]
    obtain ⟨w1, w2, ⟨⟩⟩ := w
    exact ⟨_, rfl, rfl, h2⟩
end Go.Proofs.YtildomllnnnofaaGreatDoor
