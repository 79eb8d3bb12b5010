import Derived.Test.YtildomllnnnofaaGreatP29
/- Functions of the program and of the reference in plain terms. -/
namespace Go.Proofs.YtildomllnnnofaaGreat
open Go Go.Tm
set_option linter.unusedVariables false
set_option linter.unusedSimpArgs false
set_option linter.unusedSectionVars false
def C4 (k : Int) : Prop := k = 0 ∨ k = 4
theorem qv9 (s : DState) (c : DClue) : ∃ (g : Nat) (k : Int), spec_l03Gate s c = some ((g, k, ()), ()) ∧ C4 k := by
  obtain ⟨sh, e, v, h1, h2⟩ := qi9 s c
  simp only [spec_l03Gate, h2, qax, Option.bind_some]
  cases finB (fDiv .f32 (fMul .f32 e e) v) with
  | true => exact ⟨_, _, rfl, .inl rfl⟩
  | false => exact ⟨_, _, rfl, .inr rfl⟩
theorem qaaq : fLe .f32 0 1091567616 = true := by decide
theorem qgu {s : DState} (hs : stateB s = true) {c : DClue} (hc : clueB c = true) : ∃ (w : DState) (b : Bool) (k : Int), spec_UpdateGated s c 1091567616 = some ((w, b, k, ()), ()) ∧ C4 k ∧ (k = 0 → stateB w = true) := by
  obtain ⟨g, k, g1, g2⟩ := qv9 s c
  obtain ⟨w, k', u1, u2, u3⟩ := qgp hs hc
  have i0 : (!iEq (0 : Int) 0) = false := rfl
  simp only [spec_UpdateGated, spec_l03Both, qbd, qcd, hs, hc, Option.bind_some, Bool.not_true, cond_false, g1, u2, i0, qaaq]
  cases hk : iEq k 0 with
  | false => exact ⟨_, _, _, rfl, g2, fun q => absurd q (qcn.1 hk)⟩
  | true =>
    simp only [Bool.not_true, cond_false]
    cases fLt .f32 1091567616 g with
    | true => exact ⟨_, _, _, rfl, .inl rfl, fun _ => hs⟩
    | false =>
      refine ⟨_, _, _, rfl, ?_, fun q => ?_⟩
      · rcases u3 with ⟨h, _⟩ | ⟨h, _⟩
        · exact .inl h
        · exact .inr h
      · rcases u3 with ⟨_, h⟩ | ⟨h, _⟩
        · exact h
        · have q : k' = 0 := q
          omega
theorem qxg {l : List DClue} (hl : l.length ≤ 256) (hv : l.all clueB = true) {s : DState} (hs : stateB s = true) : ∃ o, run (spec_UpdateAll_l11 l) ((0 : Int), s, ()) = some o ∧ ∃ (w : DState) (k : Int), o = ((w, k, ()), ()) ∧ C4 k := by
  refine qfi (f := spec_UpdateAll_l11 l) (fun z => ∃ i : Nat, z.1 = i ∧ i ≤ l.length ∧ stateB z.2.1 = true) (fun z => (l.length - z.1).toNat) _ (fun z hz => ?_) ⟨0, rfl, Nat.zero_le _, hs⟩
  obtain ⟨z1, z2, ⟨⟩⟩ := z
  obtain ⟨i, h1, h2, h3⟩ := hz
  simp only at h1 h3
  subst h1
  by_cases hlt : i < l.length
  · have e1 : iLt (i : Int) (lenI l) = true := qah (by rw [qaa]; omega)
    have e2 : inB (i : Int) (List.length l) = true := qaf hlt
    have e4 : List.getD l i (((0, 0, 0, 0, 0, 0, ()), 0, 0, ()) : DClue) = l[i] := qau hlt
    have e5 : iAdd .i64 (i : Int) 1 = ((i + 1 : Nat) : Int) := qap hlt (by omega)
    obtain ⟨w, k, u1, u2, u3⟩ := qgp h3 (List.all_eq_true.1 hv _ (List.getElem_mem hlt))
    simp only [spec_UpdateAll_l11, e1, e2, e4, e5, Int.toNat_natCast, u2, Option.bind_some, cond_true]
    cases hk : iEq k 0 with
    | false =>
      refine .inr ⟨_, rfl, _, _, rfl, ?_⟩
      rcases u3 with ⟨h, _⟩ | ⟨h, _⟩
      · exact .inl h
      · exact .inr h
    | true =>
      refine .inl ⟨_, rfl, ⟨i + 1, rfl, hlt, ?_⟩, by show ((l.length : Int) - ((i + 1 : Nat) : Int)).toNat < ((l.length : Int) - (i : Int)).toNat; omega⟩
      rcases u3 with ⟨_, h⟩ | ⟨h, _⟩
      · exact h
      · have := qbq.1 hk; omega
  · have e1 : iLt (i : Int) (lenI l) = false := qag (by rw [qaa]; omega)
    simp only [spec_UpdateAll_l11, e1, cond_false]
    exact .inr ⟨_, rfl, _, _, rfl, .inl rfl⟩
theorem qxj {s : DState} (hs : stateB s = true) {l : List DClue} (hl : l.length ≤ 256) (hv : l.all clueB = true) : ∃ (w : DState) (k : Int), spec_UpdateAll s l = some ((w, k, ()), ()) ∧ C4 k := by
  have e256 : iLt 256 (lenI l) = false := qag (by rw [qaa]; omega)
  have h2 : run (spec_UpdateAll_l4 l s) ((0 : Int), ()) = bif l.all clueB then run (spec_UpdateAll_l11 l) ((0 : Int), s, ()) else some ((zS, (1 : Int), ()), ()) := by
    refine qr5 (xs := l) (fun i (_ : Unit) => ((i : Int), ())) clueB (fun u _ => u) ((zS, (1 : Int), ()), ()) (fun _ => run (spec_UpdateAll_l11 l) ((0 : Int), s, ())) (fun i hi u => ?_) (fun u => ?_) ()
    · have e1 : iLt (i : Int) (lenI l) = true := qah (by rw [qaa]; omega)
      have e2 : inB (i : Int) l.length = true := qaf hi
      have e4 : l.getD i zC = l[i] := qau hi
      have e5 : iAdd .i64 (i : Int) 1 = ((i + 1 : Nat) : Int) := qap hi (by omega)
      simp only [spec_UpdateAll_l4, e1, e2, e4, e5, Int.toNat_natCast, qcd, Option.bind_some, cond_true]
      cases clueB l[i] <;> rfl
    · have e1 : iLt (l.length : Int) (lenI l) = false := qag (by rw [qaa]; omega)
      simp only [spec_UpdateAll_l4, e1, e256, cond_false]
  obtain ⟨o, h3, w, k, rfl, h4⟩ := qxg hl hv hs
  refine ⟨w, k, ?_, h4⟩
  unfold spec_UpdateAll
  rw [qbd, hs]
  simp only [Option.bind_some, Bool.not_true, cond_false]
  rw [h2, hv]
  exact h3
theorem qi6 {i x : Nat} (h3 : 3 ≤ i) (hi : i < 6) (hx : finB x = true) : clueB (cl i x 1040187392) = true := by
  match i, h3, hi with
  | 3, _, _ => show ((rowL (Vec.set 6 r6 3 (1065353216 : Nat))).all finB && (finB x && (finB 1040187392 && fLt .f32 0 1040187392))) = true; rw [hx]; decide
  | 4, _, _ => show ((rowL (Vec.set 6 r6 4 (1065353216 : Nat))).all finB && (finB x && (finB 1040187392 && fLt .f32 0 1040187392))) = true; rw [hx]; decide
  | 5, _, _ => show ((rowL (Vec.set 6 r6 5 (1065353216 : Nat))).all finB && (finB x && (finB 1040187392 && fLt .f32 0 1040187392))) = true; rw [hx]; decide
theorem qsj {s : DState} (hs : stateB s = true) {t : Nat} (ht : leastB t = true) : ∃ (w : DState) (k : Int), spec_Predict s t ((1048576000, 1048576000, 1048576000, ()) : Vec 3 Nat) = some ((w, k, ()), ()) ∧ C4 k := by
  have hs0 : (!stateB s) = false := by rw [hs]; rfl
  have a0 : leastB (Vec.getD 3 ((1048576000, 1048576000, 1048576000, ()) : Vec 3 Nat) 0 (0 : Nat)) = true := by decide
  have a1 : leastB (Vec.getD 3 ((1048576000, 1048576000, 1048576000, ()) : Vec 3 Nat) 1 (0 : Nat)) = true := by decide
  have a2 : leastB (Vec.getD 3 ((1048576000, 1048576000, 1048576000, ()) : Vec 3 Nat) 2 (0 : Nat)) = true := by decide
  simp only [spec_Predict, qbd, hs0, qg7, ht, a0, a1, a2, qbw, Option.bind_some, cond_false, Bool.not_true]
  have key : ∀ (x : Vec 6 Nat) (T : DTab), ∃ (w : DState) (k : Int), ((spec_l03Lower T).bind fun y => (spec_l03Made ((x, y.1.1, ()) : DState) y.1.2.1).bind fun y => some ((y.1.1, y.1.2.1, ()), ())) = some ((w, k, ()), ()) ∧ C4 k := by
    intro x T
    obtain ⟨w, k, -, h2, h3, -⟩ := qk8 x T
    refine ⟨w, k, h2, ?_⟩
    rcases h3 with ⟨h, _⟩ | ⟨h, _⟩
    · exact .inl h
    · exact .inr h
  exact key _ _
theorem qul {s : DState} (hs : stateB s = true) (p : Vec 3 Nat) (x d : Nat) : ∃ (c : DClue) (k : Int), spec_RangeClue s p x d = some ((c, k, ()), ()) ∧ (k = 0 → clueB c = true) := by
  have h1 : ∃ q, spec_l03Place s = some ((q, ()), ()) := ⟨_, rfl⟩
  obtain ⟨q, p2⟩ := h1
  have h2 : ∃ m, spec_SubVec q p = some ((m, ()), ()) := ⟨_, rfl⟩
  obtain ⟨m, hm⟩ := h2
  obtain ⟨u, k, u1, u2⟩ := qq9 m
  simp only [spec_RangeClue, qbd, p2, hm, u2, qg9, hs, Option.bind_some, Bool.not_true, cond_false]
  cases hk : iEq k 0 with
  | false => exact ⟨zC, k, rfl, fun q => absurd q (qcn.1 hk)⟩
  | true =>
    simp only [Bool.not_true, cond_false]
    obtain ⟨z, hz⟩ := qiv (Vec.getD 3 u 0 (0 : Nat), Vec.getD 3 u 1 (0 : Nat), Vec.getD 3 u 2 (0 : Nat), 0, 0, 0, ()) s.1
    obtain ⟨C, hC⟩ : ∃ C : DClue, C = ((Vec.getD 3 u 0 (0 : Nat), Vec.getD 3 u 1 (0 : Nat), Vec.getD 3 u 2 (0 : Nat), 0, 0, 0, ()), fAdd .f32 (fSub .f32 x (rootF (dot3 m m))) z, d, ()) := ⟨_, rfl⟩
    refine ⟨bif clueB C then C else zC, bif clueB C then 0 else 1, (congrArg (fun w => Option.bind w _) hz).trans ?_, ?_⟩
    · subst hC
      exact (congrArg (fun w => Option.bind w _) (qd7 _)).trans rfl
    · cases hb : clueB C with
      | true => exact fun _ => hb
      | false => exact fun q => absurd q (by decide)
theorem qxt {s : DState} (hs : stateB s = true) (v : Vec 3 Int) (hv : Fit (.arr 3 (.int .i16)) v) : ∃ (w : DState) (b : Bool) (k : Int), spec_l08Fix s v = some ((w, b, k, ()), ()) ∧ C4 k := by
  obtain ⟨c1, c2⟩ := qnq v
  obtain ⟨f0, f1, f2, _⟩ := hv
  have d0 := qem (n := Vec.getD 3 v 0 (0 : Int)) f0.1 f0.2
  have d1 := qem (n := Vec.getD 3 v 1 (0 : Int)) f1.1 f1.2
  have d2 := qem (n := Vec.getD 3 v 2 (0 : Int)) f2.1 f2.2
  generalize h0 : seenF (Vec.getD 3 v 0 (0 : Int)) = x0 at *
  generalize h1 : seenF (Vec.getD 3 v 1 (0 : Int)) = x1 at *
  generalize h2 : seenF (Vec.getD 3 v 2 (0 : Int)) = x2 at *
  have e2 : spec_l08Sensor = some ((dSens, ()), ()) := rfl
  have b0 := qfq (i := 0) (by omega) d0
  have b1 := qfq (i := 1) (by omega) d1
  have b2 := qfq (i := 2) (by omega) d2
  have s0 : spec_ClueAt 0 x0 1056964608 = some ((cl 0 x0 1056964608, 0, ()), ()) := (qaz (i := 0) (by omega) x0 1056964608).trans (by rw [b0]; rfl)
  have s1 : spec_ClueAt 1 x1 1056964608 = some ((cl 1 x1 1056964608, 0, ()), ()) := (qaz (i := 1) (by omega) x1 1056964608).trans (by rw [b1]; rfl)
  have s2 : spec_ClueAt 2 x2 1056964608 = some ((cl 2 x2 1056964608, 0, ()), ()) := (qaz (i := 2) (by omega) x2 1056964608).trans (by rw [b2]; rfl)
  have z0 : (!iEq (0 : Int) 0) = false := rfl
  obtain ⟨V, hV⟩ : ∃ V : Vec 3 Nat, V = (x0, x1, x2, ()) := ⟨_, rfl⟩
  replace c2 : spec_l04Vec dSens v = some ((V, ()), ()) := c2.trans (by rw [hV]; rfl)
  have g0 : Vec.getD 3 V 0 (0 : Nat) = x0 := by rw [hV]; rfl
  have g1 : Vec.getD 3 V 1 (0 : Nat) = x1 := by rw [hV]; rfl
  have g2 : Vec.getD 3 V 2 (0 : Nat) = x2 := by rw [hV]; rfl
  obtain ⟨w1, p1, k1, t1, r1, v1⟩ := qgu hs b0
  simp only [spec_l08Fix, e2, c2, g0, g1, g2, s0, s1, s2, t1, z0, Option.bind_some, cond_false]
  cases q1 : iEq k1 0 with
  | false => exact ⟨_, _, _, rfl, r1⟩
  | true =>
    simp only [Bool.not_true, cond_false]
    obtain ⟨w2, p2, k2, t2, r2, v2⟩ := qgu (v1 (qbq.1 q1)) b1
    simp only [t2, Option.bind_some]
    cases q2 : iEq k2 0 with
    | false => exact ⟨_, _, _, rfl, r2⟩
    | true =>
      simp only [Bool.not_true, cond_false]
      obtain ⟨w3, p3, k3, t3, r3, v3⟩ := qgu (v2 (qbq.1 q2)) b2
      simp only [t3, Option.bind_some]
      cases q3 : iEq k3 0 with
      | false => cases p1 <;> exact ⟨_, _, _, rfl, r3⟩
      | true => cases p1 <;> cases p2 <;> exact ⟨_, _, _, rfl, .inl rfl⟩
theorem qws : ((List.range 64).all fun d => leastB (fDiv .f32 1065353216 (fOfInt .f32 ((d + 1 : Nat) : Int)))) = true := by kernel_rfl
theorem qt8 {n : Int} (h : 1 ≤ n) (h1 : n ≤ 64) : leastB (fDiv .f32 1065353216 (fOfInt .f32 n)) = true := by
  have := List.all_eq_true.1 qws (n.toNat - 1) (List.mem_range.2 (by omega))
  rw [show ((n.toNat - 1 + 1 : Nat) : Int) = n by omega] at this
  exact this
theorem qw1 (a : DLog) (hr : 1 ≤ a.1 ∧ a.1 ≤ 64) {s : DState} (hs : stateB s = true) (e : DEntry) (he : entryB (lenI a.2.2.1) e = true) (hf : Fit (.arr 3 (.int .i16)) e.2.2.1) (hl : a.2.2.1.length ≤ 140737488355328) :
    ∃ (w : DState) (b : Bool) (k : Int), spec_l08Take a s e = some ((w, b, k, ()), ()) ∧ C4 k ∧ (k = 0 → b = false → 3 ≤ e.1) := by
  unfold spec_l08Take
  cases h1 : iEq e.1 1 with
  | true =>
    obtain ⟨w, k, p1, p2⟩ := qsj hs (qt8 hr.1 hr.2)
    refine ⟨w, iEq k 0, k, (congrArg (fun z => Option.bind z _) p1).trans rfl, p2, fun q r => ?_⟩
    rw [q] at r; cases r
  | false =>
    simp only [cond_false]
    cases h2 : iEq e.1 2 with
    | true =>
      have hv : finV e.2.1 = true := by
        simp only [entryB, h1, h2, cond_false, cond_true, Bool.and_eq_true] at he
        exact he.2
      unfold finV at hv
      simp only [Bool.and_eq_true] at hv
      have s3 := qaz (i := 3) (by omega) (Vec.getD 3 e.2.1 0 (0 : Nat)) 1040187392
      have s4 := qaz (i := 4) (by omega) (Vec.getD 3 e.2.1 1 (0 : Nat)) 1040187392
      have s5 := qaz (i := 5) (by omega) (Vec.getD 3 e.2.1 2 (0 : Nat)) 1040187392
      replace s3 : spec_ClueAt (3 : Int) _ _ = _ := s3
      replace s4 : spec_ClueAt (4 : Int) _ _ = _ := s4
      replace s5 : spec_ClueAt (5 : Int) _ _ = _ := s5
      have f3 : clueB (cl 3 (Vec.getD 3 e.2.1 0 (0 : Nat)) 1040187392) = true := qi6 (by omega) (by omega) hv.1
      have f4 : clueB (cl 4 (Vec.getD 3 e.2.1 1 (0 : Nat)) 1040187392) = true := qi6 (by omega) (by omega) hv.2.1
      have f5 : clueB (cl 5 (Vec.getD 3 e.2.1 2 (0 : Nat)) 1040187392) = true := qi6 (by omega) (by omega) hv.2.2
      rw [f3] at s3
      rw [f4] at s4
      rw [f5] at s5
      simp only [s3, s4, s5, Option.bind_some, cond_true]
      obtain ⟨w, k, u1, u2⟩ := qxj hs (l := [cl 3 (Vec.getD 3 e.2.1 0 (0 : Nat)) 1040187392, cl 4 (Vec.getD 3 e.2.1 1 (0 : Nat)) 1040187392, cl 5 (Vec.getD 3 e.2.1 2 (0 : Nat)) 1040187392]) (by simp) (by simp [f3, f4, f5])
      refine ⟨w, iEq k 0, k, by rw [u1]; rfl, u2, fun q r => ?_⟩
      rw [q] at r; cases r
    | false =>
      simp only [cond_false]
      cases h3 : iEq e.1 3 with
      | true =>
        obtain ⟨w, b, k, f1, f2⟩ := qxt hs e.2.2.1 hf
        exact ⟨w, b, k, by rw [f1]; rfl, f2, fun _ _ => by have := qbq.1 h3; omega⟩
      | false =>
        simp only [cond_false]
        have h40 : iEq e.1 4 = true := by
          simp only [entryB, h1, h2, h3, cond_false] at he
          cases h4 : iEq e.1 4 with
          | false => rw [h4] at he; cases he
          | true => rfl
        have h4 : iLe 0 e.2.2.2.1 = true ∧ iLe e.2.2.2.1 (iSub .i64 (lenI a.2.2.1) 1) = true := by
          simp only [entryB, h1, h2, h3, h40, cond_false, cond_true, Bool.and_eq_true] at he
          exact he.1
        have e3 : iSub .i64 (lenI a.2.2.1) 1 = lenI a.2.2.1 - 1 := qbv (by rw [qaa]; omega) (by rw [qaa]; omega)
        have h5 := qbo.1 h4.1
        have h6 := qbo.1 h4.2
        rw [e3, qaa] at h6
        have e4 : inB e.2.2.2.1 a.2.2.1.length = true := qfm h5 (by omega)
        have h7 : 3 ≤ e.1 := by have := qbq.1 h40; omega
        rw [e4]
        obtain ⟨c, k, r1, r2⟩ := qul hs (a.2.2.1.getD e.2.2.2.1.toNat ((0, 0, 0, ()) : Vec 3 Nat)) e.2.2.2.2.1 1056964608
        simp only [r1, Option.bind_some, cond_true]
        cases hk : iEq k 0 with
        | false => exact ⟨_, _, _, rfl, .inl rfl, fun _ _ => h7⟩
        | true =>
          obtain ⟨w, b, k', g1, g2, g3⟩ := qgu hs (r2 (qbq.1 hk))
          simp only [Bool.not_true, cond_false, g1, Option.bind_some]
          exact ⟨_, _, _, rfl, g2, fun _ _ => h7⟩
end Go.Proofs.YtildomllnnnofaaGreat
