/- Functions of the program and of the reference in plain terms. -/
import Derived.Test.YtnndahnmlmgenaaGreatP7
namespace Go.Proofs.YtnndahnmlmgenaaGreat
open Go Go.Tm
set_option linter.unusedVariables false
set_option linter.unusedSimpArgs false
set_option linter.unusedSectionVars false
/-! ### ways -/
def finP (p : Vec 2 Nat) : Bool := finB (Vec.getD 2 p 0 (0 : Nat)) && finB (Vec.getD 2 p 1 (0 : Nat))
def wayB (l : List (Vec 2 Nat)) : Bool := (iLe 1 (lenI l) && iLe (lenI l) 600) && l.all finP
def sqF (a b : Vec 2 Nat) : Nat := fAdd .f32 (fMul .f32 (fSub .f32 (Vec.getD 2 b 0 (0 : Nat)) (Vec.getD 2 a 0 (0 : Nat))) (fSub .f32 (Vec.getD 2 b 0 (0 : Nat)) (Vec.getD 2 a 0 (0 : Nat)))) (fMul .f32 (fSub .f32 (Vec.getD 2 b 1 (0 : Nat)) (Vec.getD 2 a 1 (0 : Nat))) (fSub .f32 (Vec.getD 2 b 1 (0 : Nat)) (Vec.getD 2 a 1 (0 : Nat))))
theorem sqF_swap (a b : Vec 2 Nat) : sqF a b = sqF b a := by
  unfold sqF
  rw [square_swap .f32 (Vec.getD 2 b 0 (0 : Nat)) (Vec.getD 2 a 0 (0 : Nat)), square_swap .f32 (Vec.getD 2 b 1 (0 : Nat)) (Vec.getD 2 a 1 (0 : Nat))]
theorem wayB_len {l : List (Vec 2 Nat)} (h : wayB l = true) : 1 ≤ l.length ∧ l.length ≤ 600 := by
  simp only [wayB, Bool.and_eq_true, iLe_true, lenI_eq] at h
  omega

theorem impl_square_ok (a b : Vec 2 Nat) : impl_square a b = some ((sqF a b, ()), ()) := rfl

theorem spec_l07Square_ok (a b : Vec 2 Nat) : spec_l07Square a b = some ((sqF a b, ()), ()) := rfl

theorem impl_isWay_ok (l : List (Vec 2 Nat)) (hl : l.length ≤ 140737488355328) : impl_isWay l = some ((wayB l, ()), ()) := by
  have h := slices_ContainsFunc_A2float32_ok l (fun z287 => (impl_isWay_1 z287.1).map fun y => y.1.1) (fun p => !finP p) hl (fun x _ => by
    simp only [impl_isWay_1, impl_isFinite_ok [Vec.getD 2 x 0 (0 : Nat), Vec.getD 2 x 1 (0 : Nat)] (by simp), Option.bind_some, Option.map_some, List.all_cons, List.all_nil, Bool.and_true, finP])
  simp only [impl_isWay, h]
  simp only [within_eq, l00In_ok, Option.bind_some, wayB, any_not, Bool.not_not]
  cases (iLe 1 (lenI l) && iLe (lenI l) 600) <;> rfl

theorem spec_l07Way_ok (l : List (Vec 2 Nat)) (hl : l.length ≤ 140737488355328) : spec_l07Way l = some ((wayB l, ()), ()) := by
  have hr : run (spec_l07Way_l2 l) ((0 : Int), ()) = bif l.all finP then some (((iLe 1 (lenI l) && iLe (lenI l) 600), ()), ()) else some ((false, ()), ()) := by
    refine loop_all (xs := l) (fun i (s : Unit) => ((i : Int), ())) finP (fun s _ => s) ((false, ()), ()) (fun s => some (((iLe 1 (lenI l) && iLe (lenI l) 600), ()), ())) (fun i hi s => ?_) (fun s => ?_) ()
    · have e1 : iLt (i : Int) (lenI l) = true := iLt_pos (by rw [lenI_eq]; omega)
      have e2 : inB (i : Int) l.length = true := inB_pos hi
      have e4 : l.getD i ((0, 0, ()) : (Vec 2 Nat)) = l[i] := getD_of hi
      have e5 : iAdd .i64 (i : Int) 1 = ((i + 1 : Nat) : Int) := iAdd_one hi (by omega)
      simp only [spec_l07Way_l2, e1, e2, e4, e5, Int.toNat_natCast, spec_l01Finite_ok, Option.bind_some, cond_true, finP]
      cases finB (Vec.getD 2 l[i] 0 (0 : Nat)) <;> cases finB (Vec.getD 2 l[i] 1 (0 : Nat)) <;> rfl
    · have e1 : iLt (l.length : Int) (lenI l) = false := iLt_neg (by rw [lenI_eq]; omega)
      simp only [spec_l07Way_l2, e1, cond_false, l00In_ok, Option.bind_some]
  simp only [spec_l07Way, hr, wayB]
  cases l.all finP <;> cases (iLe 1 (lenI l) && iLe (lenI l) 600) <;> rfl

abbrev TyWay : Ty := .list (.arr 2 (.flt .f32))

/-! ### ahead on a way -/
theorem fLe_fLt (x : Nat) (h : finB x = true) : (!fLt .f32 x 0) = fLe .f32 0 x := by
  obtain ⟨s, m, p, hd⟩ := fin_number (k := .f32) h
  have hd' : FloatKind.f32.format.read x = .number s m p := hd
  have h0 : FloatKind.f32.format.read 0 = .number false 0 (-149) := by decide
  have some_beq : ∀ (a b : Ordering), ((some a : Option Ordering) == some b) = (a == b) := fun a b => by cases a <;> cases b <;> rfl
  unfold fLt fLe Ieee.Format.order
  rw [hd', h0]
  simp only [Ieee.Datum.order, some_beq]
  rw [compare_le, compare_lt, Int.min_comm]
  generalize Ieee.signed s m _ = a
  generalize Ieee.signed false 0 _ = b
  by_cases h : a < b
  · have : ¬ b ≤ a := by omega
    simp [h, this]
  · have : b ≤ a := by omega
    simp [h, this]

def leastB (x : Nat) : Bool := finB x && fLe .f32 0 x

theorem impl_isLeast_ok (x : Nat) : impl_isLeast [x] = some ((leastB x, ()), ()) := by
  have h := slices_ContainsFunc_float32_ok [x] (fun z1059 => (impl_isLeast_1 z1059.1).map fun y => y.1.1) (fun p => fLt .f32 p 0) (by simp) (fun x _ => rfl)
  simp only [impl_isLeast, h, impl_isFinite_ok [x] (by simp), Option.bind_some, List.all_cons, List.all_nil, List.any_cons, List.any_nil, Bool.and_true, Bool.or_false, leastB]
  cases hf : finB x with
  | false => rfl
  | true => rw [fLe_fLt x hf]; rfl

def aheadP (a b : Vec 2 Nat) (t : Nat) : Vec 2 Nat := (fAdd .f32 (Vec.getD 2 a 0 (0 : Nat)) (fMul .f32 (fSub .f32 (Vec.getD 2 b 0 (0 : Nat)) (Vec.getD 2 a 0 (0 : Nat))) t), fAdd .f32 (Vec.getD 2 a 1 (0 : Nat)) (fMul .f32 (fSub .f32 (Vec.getD 2 b 1 (0 : Nat)) (Vec.getD 2 a 1 (0 : Nat))) t), ())
/-- one step of the second walk: what is left, or the point -/
def aheadF (l : List (Vec 2 Nat)) (x : Nat) (i : Nat) : Nat ⊕ Vec 2 Nat :=
  let d := rootF (sqF (l.getD i ((0, 0, ()) : (Vec 2 Nat))) (l.getD (i + 1) ((0, 0, ()) : (Vec 2 Nat))))
  bif fEq .f32 d 0 then .inl x else bif fLe .f32 x d then .inr (aheadP (l.getD i ((0, 0, ()) : (Vec 2 Nat))) (l.getD (i + 1) ((0, 0, ()) : (Vec 2 Nat))) (fDiv .f32 x d)) else .inl (fSub .f32 x d)

theorem ahead_walk (l : List (Vec 2 Nat)) (h2 : l.length ≤ 600) (x : Nat) (i : Nat) (hi : i < l.length) : ∃ w : Vec 2 Nat, run (impl_aheadOnWay_l9 l) (x, (i : Int), ()) = some ((w, ()), ()) ∧ run (spec_l07Ahead_l8 l) (x, (i : Int), ()) = some ((w, ()), ()) := by
  obtain ⟨a, b, k1, k2, w, rfl, rfl⟩ := run_two (f := impl_aheadOnWay_l9 l) (g := spec_l07Ahead_l8 l) (fun s t => ∃ (x : Nat) (i : Nat), s = (x, (i : Int), ()) ∧ t = (x, (i : Int), ()) ∧ i < l.length) (fun s => (l.length - s.2.1).toNat) (fun a b => ∃ w : Vec 2 Nat, a = ((w, ()), ()) ∧ b = ((w, ()), ())) (fun s t hR => by
    obtain ⟨x, i, rfl, rfl, hi⟩ := hR
    have e0 : iAdd .i64 (i : Int) 1 = ((i + 1 : Nat) : Int) := iAdd_one hi (by omega)
    by_cases hlt : i + 1 < l.length
    · have e1 : iLt ((i + 1 : Nat) : Int) (lenI l) = true := iLt_pos (by rw [lenI_eq]; omega)
      have e2 : inB ((i + 1 : Nat) : Int) l.length = true := inB_pos hlt
      have e3 : inB (i : Int) l.length = true := inB_pos hi
      have f1 : impl_aheadOnWay_l9 l (x, (i : Int), ()) = some (match aheadF l x i with | .inl y => .inl (y, ((i + 1 : Nat) : Int), ()) | .inr p => .inr ((p, ()), ())) := by
        simp only [impl_aheadOnWay_l9, e0, e1, e2, e3, Int.toNat_natCast, impl_square_ok, impl_root_ok, Option.bind_some, cond_true, aheadF]
        generalize l.getD i ((0, 0, ()) : (Vec 2 Nat)) = p
        generalize l.getD (i + 1) ((0, 0, ()) : (Vec 2 Nat)) = q
        cases fEq .f32 (rootF (sqF p q)) 0 <;> cases fLe .f32 x (rootF (sqF p q)) <;> first | rfl | (obtain ⟨p1, p2, ⟨⟩⟩ := p; rfl)
      have f2 : spec_l07Ahead_l8 l (x, (i : Int), ()) = some (match aheadF l x i with | .inl y => .inl (y, ((i + 1 : Nat) : Int), ()) | .inr p => .inr ((p, ()), ())) := by
        simp only [spec_l07Ahead_l8, e0, e1, e2, e3, Int.toNat_natCast, spec_l07Square_ok, spec_l01Root_ok, Option.bind_some, cond_true, aheadF]
        generalize l.getD i ((0, 0, ()) : (Vec 2 Nat)) = p
        generalize l.getD (i + 1) ((0, 0, ()) : (Vec 2 Nat)) = q
        cases fEq .f32 (rootF (sqF p q)) 0 <;> cases fLe .f32 x (rootF (sqF p q)) <;> rfl
      rw [f1, f2]
      cases aheadF l x i with
      | inl y => exact .inl ⟨_, _, rfl, rfl, ⟨y, i + 1, rfl, rfl, hlt⟩, by show ((l.length : Int) - ((i + 1 : Nat) : Int)).toNat < ((l.length : Int) - (i : Int)).toNat; omega⟩
      | inr p => exact .inr ⟨_, _, rfl, rfl, p, rfl, rfl⟩
    · have e1 : iLt ((i + 1 : Nat) : Int) (lenI l) = false := iLt_neg (by rw [lenI_eq]; omega)
      have e4 : iSub .i64 (lenI l) 1 = (i : Int) := by rw [iSub_eq (by rw [lenI_eq]; omega) (by rw [lenI_eq]; omega), lenI_eq]; omega
      have e3 : inB (i : Int) l.length = true := inB_pos hi
      simp only [impl_aheadOnWay_l9, spec_l07Ahead_l8, e0, e1, e3, e4, cond_false, cond_true, Int.toNat_natCast]
      exact .inr ⟨_, _, rfl, rfl, _, rfl, rfl⟩) (s := (x, (i : Int), ())) (t := (x, (i : Int), ())) ⟨x, i, rfl, rfl, hi⟩
  exact ⟨w, k1, k2⟩

theorem ahead_near (l : List (Vec 2 Nat)) (h1 : 1 ≤ l.length) (h2 : l.length ≤ 600) (p : Vec 2 Nat) (x : Nat) : ∃ w : Vec 2 Nat, impl_aheadOnWay l p x = some ((w, ()), ()) ∧ spec_l07Ahead l p x = some ((w, ()), ()) := by
  unfold impl_aheadOnWay spec_l07Ahead
  -- the program looks at the first point too
  have f0 : impl_aheadOnWay_l3 l p x ((0 : Int), (0 : Int), ()) = some (.inl ((0 : Int), (1 : Int), ())) := by
    have e1 : iLt 0 (lenI l) = true := iLt_pos (by rw [lenI_eq]; omega)
    have e2 : inB 0 l.length = true := inB_pos (i := 0) h1
    have e3 : iAdd .i64 0 1 = 1 := by decide
    simp only [impl_aheadOnWay_l3, e1, e2, e3, impl_square_ok, Option.bind_some, cond_true]
    cases fLt .f32 (sqF (l.getD (0 : Int).toNat ((0, 0, ()) : (Vec 2 Nat))) p) (sqF (l.getD (0 : Int).toNat ((0, 0, ()) : (Vec 2 Nat))) p) <;> rfl
  rw [run_step f0]
  obtain ⟨a, b, k1, k2, w, rfl, rfl⟩ := run_two (f := impl_aheadOnWay_l3 l p x) (g := spec_l07Ahead_l3 l p x) (fun s t => ∃ (j : Nat) (i : Nat), s = ((j : Int), (i : Int), ()) ∧ t = ((j : Int), (i : Int), ()) ∧ j < l.length ∧ i ≤ l.length) (fun s => (l.length - s.2.1).toNat) (fun a b => ∃ w : Vec 2 Nat, a = ((w, ()), ()) ∧ b = ((w, ()), ())) (fun s t hR => by
    obtain ⟨j, i, rfl, rfl, hj, hi⟩ := hR
    by_cases hlt : i < l.length
    · have e0 : iAdd .i64 (i : Int) 1 = ((i + 1 : Nat) : Int) := iAdd_one hlt (by omega)
      have e1 : iLt (i : Int) (lenI l) = true := iLt_pos (by rw [lenI_eq]; omega)
      have e2 : inB (i : Int) l.length = true := inB_pos hlt
      have e3 : inB (j : Int) l.length = true := inB_pos hj
      simp only [impl_aheadOnWay_l3, spec_l07Ahead_l3, e0, e1, e2, e3, impl_square_ok, spec_l07Square_ok, Int.toNat_natCast, Option.bind_some, cond_true]
      rw [sqF_swap p (l.getD i ((0, 0, ()) : (Vec 2 Nat))), sqF_swap p (l.getD j ((0, 0, ()) : (Vec 2 Nat)))]
      cases fLt .f32 (sqF (l.getD i ((0, 0, ()) : (Vec 2 Nat))) p) (sqF (l.getD j ((0, 0, ()) : (Vec 2 Nat))) p)
      · exact .inl ⟨_, _, rfl, rfl, ⟨j, i + 1, rfl, rfl, hj, hlt⟩, by show ((l.length : Int) - ((i + 1 : Nat) : Int)).toNat < ((l.length : Int) - (i : Int)).toNat; omega⟩
      · exact .inl ⟨_, _, rfl, rfl, ⟨i, i + 1, rfl, rfl, hlt, hlt⟩, by show ((l.length : Int) - ((i + 1 : Nat) : Int)).toNat < ((l.length : Int) - (i : Int)).toNat; omega⟩
    · have e1 : iLt (i : Int) (lenI l) = false := iLt_neg (by rw [lenI_eq]; omega)
      obtain ⟨w, q1, q2⟩ := ahead_walk l h2 x j hj
      simp only [impl_aheadOnWay_l3, spec_l07Ahead_l3, e1, cond_false, q1, q2]
      exact .inr ⟨_, _, rfl, rfl, w, rfl, rfl⟩) (s := ((0 : Int), (1 : Int), ())) (t := ((0 : Int), (1 : Int), ())) ⟨0, 1, rfl, rfl, h1, h1⟩
  exact ⟨w, k1, k2⟩

theorem aheadOnWay_ok (l : List (Vec 2 Nat)) (hl : l.length ≤ 140737488355328) (p : Vec 2 Nat) (x : Nat) : ∃ w, spec_AheadOnWay l p x = some (w, ()) ∧ impl_AheadOnWay l p x = some (w, ()) := by
  have hf : impl_isFinite [Vec.getD 2 p 0 (0 : Nat), Vec.getD 2 p 1 (0 : Nat)] = some ((finP p, ()), ()) := by
    rw [impl_isFinite_ok _ (by simp)]
    simp [finP]
  simp only [spec_AheadOnWay, impl_AheadOnWay, spec_l07Follows, spec_l07Way_ok l hl, impl_isWay_ok l hl, hf, impl_isLeast_ok, spec_l01Finite_ok, Option.bind_some, finP, leastB]
  cases hw : wayB l with
  | false => exact ⟨_, rfl, rfl⟩
  | true =>
    obtain ⟨h1, h2⟩ := wayB_len hw
    obtain ⟨w, k1, k2⟩ := ahead_near l h1 h2 p x
    simp only [k1, k2, Option.bind_some]
    cases finB (Vec.getD 2 p 0 (0 : Nat)) <;> cases finB (Vec.getD 2 p 1 (0 : Nat)) <;> cases finB x <;> cases fLe .f32 0 x <;> exact ⟨_, rfl, rfl⟩
end Go.Proofs.YtnndahnmlmgenaaGreat
