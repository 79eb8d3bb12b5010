import Derived.Test.YtildomllnnnofaaGreatP22
/- Functions of the program and of the reference in plain terms. -/
namespace Go.Proofs.YtildomllnnnofaaGreat
open Go Go.Tm
set_option linter.unusedVariables false
set_option linter.unusedSimpArgs false
set_option linter.unusedSectionVars false
abbrev DClue := Vec 6 Nat × (Nat × (Nat × Unit))
abbrev zC : DClue := ((0, 0, 0, 0, 0, 0, ()), 0, 0, ())
def clueB (c : DClue) : Bool := (rowL c.1).all finB && (finB c.2.1 && (finB c.2.2.1 && fLt .f32 0 c.2.2.1))
theorem qb1 (c : DClue) : impl_ValidClue c = some ((clueB c, ()), ()) := by
  simp only [impl_ValidClue, qgc, Option.bind_some]
  have h2 : impl_isFinite [c.2.1, c.2.2.1] = some (((finB c.2.1 && finB c.2.2.1), ()), ()) := by rw [qbb _ (by simp)]; simp
  rw [h2]
  show (bif (rowL c.1).all finB then _ else _) = _
  unfold clueB
  cases (rowL c.1).all finB <;> cases finB c.2.1 <;> cases finB c.2.2.1 <;> rfl
theorem qcd (c : DClue) : spec_l03Clue c = some ((clueB c, ()), ()) := by
  simp only [spec_l03Clue, qin, qax, Option.bind_some]
  unfold clueB
  cases (rowL c.1).all finB <;> cases finB c.2.1 <;> cases finB c.2.2.1 <;> rfl
theorem qih (c : DClue) : impl_clueOr c = some ((bif clueB c then c else zC, bif clueB c then 0 else 1, ()), ()) := by
  simp only [impl_clueOr, qb1, Option.bind_some]
  cases clueB c <;> rfl
theorem qd7 (c : DClue) : spec_l03Valid c = some ((bif clueB c then c else zC, bif clueB c then 0 else 1, ()), ()) := by
  simp only [spec_l03Valid, qcd, Option.bind_some]
  cases clueB c <;> rfl
def cl (i x d : Nat) : DClue := (Vec.set 6 r6 i (1065353216 : Nat), x, d, ())
theorem qpu {i : Nat} (hi : i < 6) (x d : Nat) : impl_ClueAt (i : Int) x d = some ((bif clueB (cl i x d) then cl i x d else zC, bif clueB (cl i x d) then 0 else 1, ()), ()) := by
  have e1 : iLt (i : Int) 0 = false := qag (by omega)
  have e2 : iLt 5 (i : Int) = false := qag (by omega)
  have e3 : inB (i : Int) 6 = true := qaf hi
  have e4 := qih (cl i x d)
  simp only [impl_ClueAt, e1, e2, e3, Int.toNat_natCast, cond_true, cond_false]
  exact (congrArg (fun z => Option.bind z _) e4).trans rfl
theorem qaz {i : Nat} (hi : i < 6) (x d : Nat) : spec_ClueAt (i : Int) x d = some ((bif clueB (cl i x d) then cl i x d else zC, bif clueB (cl i x d) then 0 else 1, ()), ()) := by
  have e1 : iLe 0 (i : Int) = true := qaq (by omega)
  have e2 : iLe (i : Int) 5 = true := qaq (by omega)
  have e3 : inB (i : Int) 6 = true := qaf hi
  have e4 := qd7 (cl i x d)
  simp only [spec_ClueAt, qbl, e1, e2, e3, Option.bind_some, Bool.and_self, Bool.not_true, Int.toNat_natCast, cond_true, cond_false]
  exact (congrArg (fun z => Option.bind z _) e4).trans rfl
theorem qbx {i : Nat} (hi : i < 6) (x d : Nat) : impl_clueFor (i : Int) x d = some ((bif clueB (cl i x d) then cl i x d else zC, ()), ()) := by
  simp only [impl_clueFor, qpu hi, Option.bind_some]
theorem qm4 (a b : Vec 3 Nat) : impl_SubVec a b = spec_SubVec a b := by kernel_rfl
def dot3 (a b : Vec 3 Nat) : Nat := fAdd .f32 (fAdd .f32 (fMul .f32 (Vec.getD 3 a 0 (0 : Nat)) (Vec.getD 3 b 0 (0 : Nat))) (fMul .f32 (Vec.getD 3 a 1 (0 : Nat)) (Vec.getD 3 b 1 (0 : Nat)))) (fMul .f32 (Vec.getD 3 a 2 (0 : Nat)) (Vec.getD 3 b 2 (0 : Nat)))
theorem qpp (a b : Vec 3 Nat) : impl_DotVec a b = some ((dot3 a b, ()), ()) := by
  simp only [impl_DotVec, qwe, Option.bind_some]
  rfl
theorem qh9 (a b : Vec 3 Nat) : spec_l01Dot a b = some ((dot3 a b, ()), ()) := rfl
theorem qg8 (a : Vec 3 Nat) : impl_LengthOf a = some ((rootF (dot3 a a), ()), ()) := by simp only [impl_LengthOf, qpp, qez, Option.bind_some]
theorem qg9 (a : Vec 3 Nat) : spec_LengthOf a = some ((rootF (dot3 a a), ()), ()) := by simp only [spec_LengthOf, qh9, qbw, Option.bind_some]
theorem qqr (x : Nat) : impl_isFinite [x] = some ((finB x, ()), ()) := by rw [qbb _ (by simp)]; simp
theorem qq9 (v : Vec 3 Nat) : ∃ (u : Vec 3 Nat) (k : Int), impl_UnitOf v = some ((u, k, ()), ()) ∧ spec_UnitOf v = some ((u, k, ()), ()) := by
  simp only [impl_UnitOf, spec_UnitOf, qg8, qh9, qbw, qax, qqr, Option.bind_some]
  cases fEq .f32 (rootF (dot3 v v)) 0 with
  | true => exact ⟨_, _, rfl, rfl⟩
  | false =>
    cases finB (rootF (dot3 v v)) with
    | true => exact ⟨_, _, rfl, rfl⟩
    | false => exact ⟨_, _, rfl, rfl⟩
theorem qtq (c : DClue) (v : Vec 6 Nat) : impl_Clue_seen c v = spec_l03Dot c.1 v := by
  simp only [impl_Clue_seen, qre, Option.bind_some]
  rfl
theorem qiv (u v : Vec 6 Nat) : ∃ x, spec_l03Dot u v = some ((x, ()), ()) := ⟨_, rfl⟩
theorem qve (s : DState) (p : Vec 3 Nat) (x d : Nat) : ∃ (c : DClue) (k : Int), impl_RangeClue s p x d = some ((c, k, ()), ()) ∧ spec_RangeClue s p x d = some ((c, k, ()), ()) := by
  have h1 : ∃ q, impl_PositionOf s = some ((q, ()), ()) ∧ spec_l03Place s = some ((q, ()), ()) := ⟨_, rfl, rfl⟩
  obtain ⟨q, p1, p2⟩ := h1
  have h2 : ∃ m, spec_SubVec q p = some ((m, ()), ()) := ⟨_, rfl⟩
  obtain ⟨m, hm⟩ := h2
  obtain ⟨u, k, u1, u2⟩ := qq9 m
  simp only [impl_RangeClue, spec_RangeClue, qas, qbd, p1, p2, qm4, hm, u1, u2, qg8, qg9, Option.bind_some]
  cases stateB s with
  | false => exact ⟨zC, 1, rfl, rfl⟩
  | true =>
    simp only [Bool.not_true, cond_false]
    cases iEq k 0 with
    | false => exact ⟨zC, k, rfl, rfl⟩
    | true =>
      simp only [Bool.not_true, cond_false]
      have e := qtq ((Vec.getD 3 u 0 (0 : Nat), Vec.getD 3 u 1 (0 : Nat), Vec.getD 3 u 2 (0 : Nat), 0, 0, 0, ()), 0, d, ()) s.1
      obtain ⟨z, hz⟩ := qiv (Vec.getD 3 u 0 (0 : Nat), Vec.getD 3 u 1 (0 : Nat), Vec.getD 3 u 2 (0 : Nat), 0, 0, 0, ()) s.1
      obtain ⟨C, hC⟩ : ∃ C : DClue, C = ((Vec.getD 3 u 0 (0 : Nat), Vec.getD 3 u 1 (0 : Nat), Vec.getD 3 u 2 (0 : Nat), 0, 0, 0, ()), fAdd .f32 (fSub .f32 x (rootF (dot3 m m))) z, d, ()) := ⟨_, rfl⟩
      refine ⟨bif clueB C then C else zC, bif clueB C then 0 else 1, (congrArg (fun w => Option.bind w _) (e.trans hz)).trans ?_, (congrArg (fun w => Option.bind w _) hz).trans ?_⟩
      · subst hC
        exact (congrArg (fun w => Option.bind w _) (qih _)).trans rfl
      · subst hC
        exact (congrArg (fun w => Option.bind w _) (qd7 _)).trans rfl
theorem qi9 (s : DState) (c : DClue) : ∃ (sh : Vec 6 Nat) (e v : Nat), impl_shares s c = some ((sh, e, v, ()), ()) ∧ spec_l03Shares s c = some ((sh, e, v, ()), ()) := by
  refine ⟨_, _, _, ?_, rfl⟩
  simp only [impl_shares, qre, qaa9, qaau, qwe, qabd, qabb, qtq, Option.bind_some]
  kernel_rfl
def dt (L : DRoot) (sh : Vec 6 Nat) (i : Nat) : Nat := dotS ((rowL (rowS L i)).take (i + 1)) (rowL sh)
def ug (L : DRoot) (sh : Vec 6 Nat) (f : Nat) (i j : Nat) : Nat := fSub .f32 (Vec.getD 6 (rowS L i) j (0 : Nat)) (fMul .f32 (fMul .f32 (dt L sh i) f) (Vec.getD 6 sh j (0 : Nat)))
def updT (L : DRoot) (sh : Vec 6 Nat) (f : Nat) : DTab := ((ug L sh f 0 0, ug L sh f 0 1, ug L sh f 0 2, ug L sh f 0 3, ug L sh f 0 4, ug L sh f 0 5, 0, 0, 0, ()), (ug L sh f 1 0, ug L sh f 1 1, ug L sh f 1 2, ug L sh f 1 3, ug L sh f 1 4, ug L sh f 1 5, 0, 0, 0, ()), (ug L sh f 2 0, ug L sh f 2 1, ug L sh f 2 2, ug L sh f 2 3, ug L sh f 2 4, ug L sh f 2 5, 0, 0, 0, ()), (ug L sh f 3 0, ug L sh f 3 1, ug L sh f 3 2, ug L sh f 3 3, ug L sh f 3 4, ug L sh f 3 5, 0, 0, 0, ()), (ug L sh f 4 0, ug L sh f 4 1, ug L sh f 4 2, ug L sh f 4 3, ug L sh f 4 4, ug L sh f 4 5, 0, 0, 0, ()), (ug L sh f 5 0, ug L sh f 5 1, ug L sh f 5 2, ug L sh f 5 3, ug L sh f 5 4, ug L sh f 5 5, 0, 0, 0, ()), ())
def updL (L : DRoot) (sh : Vec 6 Nat) (f : Nat) : List Nat := [ug L sh f 0 0, ug L sh f 0 1, ug L sh f 0 2, ug L sh f 0 3, ug L sh f 0 4, ug L sh f 0 5, ug L sh f 1 0, ug L sh f 1 1, ug L sh f 1 2, ug L sh f 1 3, ug L sh f 1 4, ug L sh f 1 5, ug L sh f 2 0, ug L sh f 2 1, ug L sh f 2 2, ug L sh f 2 3, ug L sh f 2 4, ug L sh f 2 5, ug L sh f 3 0, ug L sh f 3 1, ug L sh f 3 2, ug L sh f 3 3, ug L sh f 3 4, ug L sh f 3 5, ug L sh f 4 0, ug L sh f 4 1, ug L sh f 4 2, ug L sh f 4 3, ug L sh f 4 4, ug L sh f 4 5, ug L sh f 5 0, ug L sh f 5 1, ug L sh f 5 2, ug L sh f 5 3, ug L sh f 5 4, ug L sh f 5 5]
def updX (x : Vec 6 Nat) (L : DRoot) (sh : Vec 6 Nat) (g : Nat) : Vec 6 Nat := (fAdd .f32 (Vec.getD 6 x 0 (0 : Nat)) (fMul .f32 (dt L sh 0) g), fAdd .f32 (Vec.getD 6 x 1 (0 : Nat)) (fMul .f32 (dt L sh 1) g), fAdd .f32 (Vec.getD 6 x 2 (0 : Nat)) (fMul .f32 (dt L sh 2) g), fAdd .f32 (Vec.getD 6 x 3 (0 : Nat)) (fMul .f32 (dt L sh 3) g), fAdd .f32 (Vec.getD 6 x 4 (0 : Nat)) (fMul .f32 (dt L sh 4) g), fAdd .f32 (Vec.getD 6 x 5 (0 : Nat)) (fMul .f32 (dt L sh 5) g), ())
noncomputable def chk {A : Type} : List Nat → Option A → Option A → Option A
  | [], _, R => R
  | x :: l, Z, R => (spec_l01Finite x).bind fun y => bif !y.1.1 then Z else chk l Z R
theorem qvp {A : Type} (Z R : Option A) : ∀ l : List Nat, chk l Z R = bif l.all finB then R else Z
  | [] => rfl
  | x :: l => by
    simp only [chk, qax, Option.bind_some, qvp Z R l, List.all_cons]
    cases finB x <;> rfl
noncomputable def madeOf (x : Vec 6 Nat) (T : DTab) : Option DMade := (spec_l03Lower T).bind fun y => (spec_l03Made ((x, y.1.1, ()) : DState) y.1.2.1).bind fun y => some ((y.1.1, y.1.2.1, ()), ())
theorem qj1 (s : DState) (c : DClue) : spec_l03Update s c = (spec_l03Shares s c).bind fun y => (spec_l01Root (fDiv .f32 (fMul .f32 c.2.2.1 c.2.2.1) y.1.2.2.1)).bind fun z =>
    chk (updL s.2.1 y.1.1 (fDiv .f32 (fDiv .f32 1065353216 (fAdd .f32 1065353216 z.1.1)) y.1.2.2.1)) (some ((zS, (4 : Int), ()), ())) (madeOf (updX s.1 s.2.1 y.1.1 (fDiv .f32 y.1.2.1 y.1.2.2.1)) (updT s.2.1 y.1.1 (fDiv .f32 (fDiv .f32 1065353216 (fAdd .f32 1065353216 z.1.1)) y.1.2.2.1))) := by kernel_rfl
theorem qy8 {L : DRoot} {sh : Vec 6 Nat} {f : Nat} (h : finT (updT L sh f) = true) : (updL L sh f).all finB = true := by
  have h' : ([ug L sh f 0 0, ug L sh f 0 1, ug L sh f 0 2, ug L sh f 0 3, ug L sh f 0 4, ug L sh f 0 5, 0, 0, 0].all finB && ([ug L sh f 1 0, ug L sh f 1 1, ug L sh f 1 2, ug L sh f 1 3, ug L sh f 1 4, ug L sh f 1 5, 0, 0, 0].all finB && ([ug L sh f 2 0, ug L sh f 2 1, ug L sh f 2 2, ug L sh f 2 3, ug L sh f 2 4, ug L sh f 2 5, 0, 0, 0].all finB && ([ug L sh f 3 0, ug L sh f 3 1, ug L sh f 3 2, ug L sh f 3 3, ug L sh f 3 4, ug L sh f 3 5, 0, 0, 0].all finB && ([ug L sh f 4 0, ug L sh f 4 1, ug L sh f 4 2, ug L sh f 4 3, ug L sh f 4 4, ug L sh f 4 5, 0, 0, 0].all finB && ([ug L sh f 5 0, ug L sh f 5 1, ug L sh f 5 2, ug L sh f 5 3, ug L sh f 5 4, ug L sh f 5 5, 0, 0, 0].all finB && true)))))) = true := h
  simp only [updL, List.all_cons, List.all_nil, Bool.and_eq_true, and_true, qha, and_assoc] at h' ⊢
  exact h'
theorem qgp {s : DState} (hs : stateB s = true) {c : DClue} (hc : clueB c = true) : ∃ (w : DState) (k : Int), impl_Update s c = some ((w, k, ()), ()) ∧ spec_l03Update s c = some ((w, k, ()), ()) ∧ ((k = 0 ∧ stateB w = true) ∨ (k = 4 ∧ w = zS)) := by
  obtain ⟨sh, e, v, h1, h2⟩ := qi9 s c
  obtain ⟨w, k, r1, r2, r3, r4⟩ := qk8 (updX s.1 s.2.1 sh (fDiv .f32 e v)) (updT s.2.1 sh (fDiv .f32 (fDiv .f32 1065353216 (fAdd .f32 1065353216 (rootF (fDiv .f32 (fMul .f32 c.2.2.1 c.2.2.1) v)))) v))
  have e1 : impl_Update s c = some ((w, k, ()), ()) := by
    simp only [impl_Update, qas, hs, qb1, hc, h1, qez, qabl, qaay, qabo, qaax, qabi, qre, Option.bind_some, Bool.not_true, cond_false]
    refine Eq.trans (b := (impl_rooted (updX s.1 s.2.1 sh (fDiv .f32 e v)) (updT s.2.1 sh (fDiv .f32 (fDiv .f32 1065353216 (fAdd .f32 1065353216 (rootF (fDiv .f32 (fMul .f32 c.2.2.1 c.2.2.1) v)))) v))).bind fun y => some ((y.1.1, y.1.2.1, ()), ())) (by kernel_rfl) ?_
    rw [r1]
    rfl
  have e2 : spec_l03Update s c = bif (updL s.2.1 sh (fDiv .f32 (fDiv .f32 1065353216 (fAdd .f32 1065353216 (rootF (fDiv .f32 (fMul .f32 c.2.2.1 c.2.2.1) v)))) v)).all finB then some ((w, k, ()), ()) else some ((zS, (4 : Int), ()), ()) := by
    rw [qj1]
    simp only [h2, qbw, Option.bind_some, qvp]
    rw [show madeOf (updX s.1 s.2.1 sh (fDiv .f32 e v)) (updT s.2.1 sh (fDiv .f32 (fDiv .f32 1065353216 (fAdd .f32 1065353216 (rootF (fDiv .f32 (fMul .f32 c.2.2.1 c.2.2.1) v)))) v)) = some ((w, k, ()), ()) from r2]
  cases hf : (updL s.2.1 sh (fDiv .f32 (fDiv .f32 1065353216 (fAdd .f32 1065353216 (rootF (fDiv .f32 (fMul .f32 c.2.2.1 c.2.2.1) v)))) v)).all finB with
  | true =>
    rw [hf] at e2
    exact ⟨w, k, e1, e2, r3⟩
  | false =>
    rw [hf] at e2
    have hT : finT (updT s.2.1 sh (fDiv .f32 (fDiv .f32 1065353216 (fAdd .f32 1065353216 (rootF (fDiv .f32 (fMul .f32 c.2.2.1 c.2.2.1) v)))) v)) = false := by
      cases ht : finT (updT s.2.1 sh (fDiv .f32 (fDiv .f32 1065353216 (fAdd .f32 1065353216 (rootF (fDiv .f32 (fMul .f32 c.2.2.1 c.2.2.1) v)))) v)) with
      | false => rfl
      | true => rw [qy8 ht] at hf; cases hf
    have hk := r4 hT
    rcases r3 with ⟨q, _⟩ | ⟨_, rfl⟩
    · omega
    · exact ⟨zS, k, e1, by rw [hk]; exact e2, .inr ⟨hk, rfl⟩⟩
theorem qxv {s : DState} (hs : stateB s = true) {c : DClue} (hc : clueB c = true) : ∃ (g : Nat) (k : Int), impl_GateOf s c = some ((g, k, ()), ()) ∧ spec_l03Gate s c = some ((g, k, ()), ()) ∧ finB g = true := by
  obtain ⟨sh, e, v, h1, h2⟩ := qi9 s c
  simp only [impl_GateOf, spec_l03Gate, qas, hs, qb1, hc, h1, h2, impl_numberOr, qqr, qax, Option.bind_some, Bool.not_true, cond_false]
  cases hf : finB (fDiv .f32 (fMul .f32 e e) v) with
  | true => exact ⟨_, _, rfl, rfl, hf⟩
  | false => exact ⟨_, _, rfl, rfl, qha⟩
theorem qhm (s : DState) (c : DClue) {f : Nat} (hf : finB f = true) : ∃ (w : DState) (b : Bool) (k : Int), impl_UpdateGated s c f = some ((w, b, k, ()), ()) ∧ spec_UpdateGated s c f = some ((w, b, k, ()), ()) ∧ (k = 0 → stateB w = true) := by
  simp only [impl_UpdateGated, spec_UpdateGated, spec_l03Both, qas, qbd, qb1, qcd, Option.bind_some]
  cases hs : stateB s with
  | false => exact ⟨_, _, _, rfl, rfl, fun q => absurd q (by decide)⟩
  | true =>
    cases hc : clueB c with
    | false => exact ⟨_, _, _, rfl, rfl, fun q => absurd q (by decide)⟩
    | true =>
      obtain ⟨g, k, g1, g2, g3⟩ := qxv hs hc
      obtain ⟨w, k', u1, u2, u3⟩ := qgp hs hc
      have i0 : (!iEq (0 : Int) 0) = false := rfl
      simp only [Bool.not_true, cond_false, g1, g2, u1, u2, i0, Option.bind_some]
      cases fLe .f32 0 f with
      | false => exact ⟨_, _, _, rfl, rfl, fun q => absurd q (by decide)⟩
      | true =>
        simp only [Bool.not_true, cond_false]
        cases hk : iEq k 0 with
        | false => exact ⟨_, _, _, rfl, rfl, fun q => absurd q (qcn.1 hk)⟩
        | true =>
          simp only [Bool.not_true, cond_false, qv2 g3 hf]
          cases fLt .f32 f g with
          | true => exact ⟨_, _, _, rfl, rfl, fun _ => hs⟩
          | false => exact ⟨_, _, _, rfl, rfl, fun q => by
              rcases u3 with ⟨_, h⟩ | ⟨h, _⟩
              · exact h
              · have q : k' = 0 := q
                omega⟩
theorem qaab {l : List DClue} (hl : l.length ≤ 256) (hv : l.all clueB = true) {s : DState} (hs : stateB s = true) : ∃ (w : DState) (k : Int), run (impl_UpdateAll_l6 l) ((0 : Int), s, ()) = some ((w, k, ()), ()) ∧ run (spec_UpdateAll_l11 l) ((0 : Int), s, ()) = some ((w, k, ()), ()) ∧ (k = 0 → stateB w = true) := by
  obtain ⟨a, b, h1, h2, w, k, rfl, rfl, h3⟩ := qps (f := impl_UpdateAll_l6 l) (g := spec_UpdateAll_l11 l) (fun s t => s = t ∧ ∃ (i : Nat) (u : DState), s = ((i : Int), u, ()) ∧ i ≤ l.length ∧ stateB u = true) (fun s => (l.length - s.1).toNat)
    (fun a b : DMade => ∃ (w : DState) (k : Int), a = ((w, k, ()), ()) ∧ b = ((w, k, ()), ()) ∧ (k = 0 → stateB w = true)) (fun s t hR => by
      obtain ⟨rfl, i, u, rfl, hi, hu⟩ := hR
      by_cases hlt : i < l.length
      · have e1 : iLt (i : Int) (lenI l) = true := qah (by rw [qaa]; omega)
        have e2 : inB (i : Int) l.length = true := qaf hlt
        have e4 : l.getD i zC = l[i] := qau hlt
        have e5 : iAdd .i64 (i : Int) 1 = ((i + 1 : Nat) : Int) := qap hlt (by omega)
        have hc : clueB l[i] = true := List.all_eq_true.1 hv _ (List.getElem_mem hlt)
        obtain ⟨w, k, u1, u2, u3⟩ := qgp hu hc
        have f1 : impl_UpdateAll_l6 l ((i : Int), u, ()) = bif !iEq k 0 then some (.inr ((zS, k, ()), ())) else some (.inl (((i + 1 : Nat) : Int), w, ())) := by
          simp only [impl_UpdateAll_l6, e1, e2, e4, e5, u1, Int.toNat_natCast, Option.bind_some, Option.map_some, cond_true]
        have f2 : spec_UpdateAll_l11 l ((i : Int), u, ()) = bif !iEq k 0 then some (.inr ((zS, k, ()), ())) else some (.inl (((i + 1 : Nat) : Int), w, ())) := by
          simp only [spec_UpdateAll_l11, e1, e2, e4, e5, u2, Int.toNat_natCast, Option.bind_some, Option.map_some, cond_true]
        rw [f1, f2]
        cases hk : iEq k 0 with
        | false => exact .inr ⟨_, _, rfl, rfl, _, _, rfl, rfl, fun q => absurd q (qcn.1 hk)⟩
        | true =>
          have hk0 := qbq.1 hk
          refine .inl ⟨_, _, rfl, rfl, ⟨rfl, i + 1, w, rfl, by omega, ?_⟩, by show ((l.length : Int) - ((i + 1 : Nat) : Int)).toNat < ((l.length : Int) - (i : Int)).toNat; omega⟩
          rcases u3 with ⟨_, h⟩ | ⟨h, _⟩
          · exact h
          · omega
      · have e1 : iLt (i : Int) (lenI l) = false := qag (by rw [qaa]; omega)
        exact .inr ⟨_, _, by simp only [impl_UpdateAll_l6, e1, cond_false, Option.map_some], by simp only [spec_UpdateAll_l11, e1, cond_false, Option.map_some], u, 0, rfl, rfl, fun _ => hu⟩) ⟨rfl, 0, s, rfl, by omega, hs⟩
  exact ⟨w, k, h1, h2, h3⟩
theorem qzf {s : DState} (hs : stateB s = true) {l : List DClue} (hl : l.length ≤ 256) : ∃ (w : DState) (k : Int), impl_UpdateAll s l = some ((w, k, ()), ()) ∧ spec_UpdateAll s l = some ((w, k, ()), ()) ∧ (k = 0 → stateB w = true) := by
  have h1 := qd5 l (fun z614 => (impl_UpdateAll_1 z614.1).map fun y => y.1.1) (fun c => !clueB c) (by omega) (fun x _ => by simp only [impl_UpdateAll_1, qb1, Option.bind_some, Option.map_some])
  have e256 : iLt 256 (lenI l) = false := qag (by rw [qaa]; omega)
  have h2 : run (spec_UpdateAll_l4 l s) ((0 : Int), ()) = bif l.all clueB then run (spec_UpdateAll_l11 l) ((0 : Int), s, ()) else some ((zS, (1 : Int), ()), ()) := by
    refine qr5 (xs := l) (fun i (_ : Unit) => ((i : Int), ())) clueB (fun u _ => u) ((zS, (1 : Int), ()), ()) (fun _ => run (spec_UpdateAll_l11 l) ((0 : Int), s, ())) (fun i hi u => ?_) (fun u => ?_) ()
    · have e1 : iLt (i : Int) (lenI l) = true := qah (by rw [qaa]; omega)
      have e2 : inB (i : Int) l.length = true := qaf hi
      have e4 : l.getD i zC = l[i] := qau hi
      have e5 : iAdd .i64 (i : Int) 1 = ((i + 1 : Nat) : Int) := qap hi (by omega)
      simp only [spec_UpdateAll_l4, e1, e2, e4, e5, Int.toNat_natCast, qcd, Option.bind_some, cond_true]
      cases clueB l[i] <;> rfl
    · have e1 : iLt (l.length : Int) (lenI l) = false := qag (by rw [qaa]; omega)
      simp only [spec_UpdateAll_l4, e1, e256, cond_false]
  have h3 : l.any (fun c => !clueB c) = !l.all clueB := by rw [List.any_eq_not_all_not]; simp
  have hs0 : (!stateB s) = false := by rw [hs]; rfl
  simp only [impl_UpdateAll, spec_UpdateAll, qas, qbd, hs0, h1, h2, h3, e256, Option.bind_some, cond_false]
  cases hv : l.all clueB with
  | false => exact ⟨_, _, rfl, rfl, fun q => absurd q (by decide)⟩
  | true => exact qaab hl hv hs
theorem qyr (a b c : Nat) : impl_isLeast [a, b, c] = some ((leastB a && (leastB b && leastB c), ()), ()) := by
  have h := qcb [a, b, c] (fun z1059 => (impl_isLeast_1 z1059.1).map fun y => y.1.1) (fun p => fLt .f32 p 0) (by simp) (fun x _ => rfl)
  simp only [impl_isLeast, h, qbb [a, b, c] (by simp), Option.bind_some, List.all_cons, List.all_nil, List.any_cons, List.any_nil, Bool.and_true, Bool.or_false, leastB]
  cases ha : finB a with
  | false => rfl
  | true =>
    rw [← qlq a ha]
    cases hb : finB b with
    | false => cases fLt .f32 a 0 <;> rfl
    | true =>
      rw [← qlq b hb]
      cases hc : finB c with
      | false => cases fLt .f32 a 0 <;> cases fLt .f32 b 0 <;> rfl
      | true =>
        rw [← qlq c hc]
        cases fLt .f32 a 0 <;> cases fLt .f32 b 0 <;> cases fLt .f32 c 0 <;> rfl
theorem qsx (x : Vec 6 Nat) (T : DTab) {A B : Option DMade} (hA : A = (impl_rooted x T).bind fun y => some ((y.1.1, y.1.2.1, ()), ())) (hB : B = (spec_l03Lower T).bind fun y => (spec_l03Made ((x, y.1.1, ()) : DState) y.1.2.1).bind fun y => some ((y.1.1, y.1.2.1, ()), ())) :
    ∃ (w : DState) (k : Int), A = some ((w, k, ()), ()) ∧ B = some ((w, k, ()), ()) ∧ (k = 0 → stateB w = true) := by
  obtain ⟨w, k, h1, h2, h3, _⟩ := qk8 x T
  refine ⟨w, k, by rw [hA, h1]; rfl, by rw [hB, h2], fun q => ?_⟩
  rcases h3 with ⟨_, h⟩ | ⟨h, _⟩
  · exact h
  · omega
theorem qsw {s : DState} (hs : stateB s = true) (t : Nat) (a : Vec 3 Nat) : ∃ (w : DState) (k : Int), impl_Predict s t a = some ((w, k, ()), ()) ∧ spec_Predict s t a = some ((w, k, ()), ()) ∧ (k = 0 → stateB w = true) := by
  have hs0 : (!stateB s) = false := by rw [hs]; rfl
  simp only [impl_Predict, spec_Predict, qas, qbd, hs0, qou, qyr, qg7, qez, qbw, Option.bind_some, cond_false]
  cases leastB t with
  | false => exact ⟨_, _, rfl, rfl, fun q => absurd q (by decide)⟩
  | true =>
    cases leastB (Vec.getD 3 a 0 (0 : Nat)) with
    | false => exact ⟨_, _, rfl, rfl, fun q => absurd q (by decide)⟩
    | true =>
      cases leastB (Vec.getD 3 a 1 (0 : Nat)) with
      | false => exact ⟨_, _, rfl, rfl, fun q => absurd q (by decide)⟩
      | true =>
        cases leastB (Vec.getD 3 a 2 (0 : Nat)) with
        | false => exact ⟨_, _, rfl, rfl, fun q => absurd q (by decide)⟩
        | true =>
          simp only [Bool.and_self, Bool.not_true, cond_false]
          exact qsx _ _ rfl rfl
end Go.Proofs.YtildomllnnnofaaGreat
