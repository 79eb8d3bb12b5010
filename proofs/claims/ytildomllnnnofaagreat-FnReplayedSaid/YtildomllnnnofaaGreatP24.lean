import Derived.Test.YtildomllnnnofaaGreatP23
/- Functions of the program and of the reference in plain terms. -/
namespace Go.Proofs.YtildomllnnnofaaGreat
open Go Go.Tm
set_option linter.unusedVariables false
set_option linter.unusedSimpArgs false
set_option linter.unusedSectionVars false
abbrev dSens : Vec 3 Nat × (Vec 3 Nat × (Int × (Int × Unit))) := ((1031798784, 1031798784, 1031798784, ()), (0, 0, 0, ()), 1, 0, ())
def seenF (n : Int) : Nat := fAdd .f32 (fMul .f32 (fOfInt .f32 n) 1031798784) 0
theorem qem {n : Int} (h : -32768 ≤ n) (h1 : n ≤ 32767) : finB (seenF n) = true := by
  have h2 : magB 1031798784 (-4) := ⟨false, 8388608, -27, by decide, fun _ => by decide⟩
  have h3 := qaas (qvd h h1) h2 (by omega) (by omega)
  exact qzk (qaaj h3 (qw6 _) (by omega) (by omega))
theorem qnq (v : Vec 3 Int) : impl_vecOfCounts dSens v = some (((seenF (Vec.getD 3 v 0 (0 : Int)), seenF (Vec.getD 3 v 1 (0 : Int)), seenF (Vec.getD 3 v 2 (0 : Int)), ()), ()), ()) ∧ spec_l04Vec dSens v = some (((seenF (Vec.getD 3 v 0 (0 : Int)), seenF (Vec.getD 3 v 1 (0 : Int)), seenF (Vec.getD 3 v 2 (0 : Int)), ()), ()), ()) := ⟨rfl, rfl⟩
theorem qfq {i x : Nat} (hi : i < 3) (hx : finB x = true) : clueB (cl i x 1056964608) = true := by
  match i, hi with
  | 0, _ => show ((rowL (Vec.set 6 r6 0 (1065353216 : Nat))).all finB && (finB x && (finB 1056964608 && fLt .f32 0 1056964608))) = true; rw [hx]; decide
  | 1, _ => show ((rowL (Vec.set 6 r6 1 (1065353216 : Nat))).all finB && (finB x && (finB 1056964608 && fLt .f32 0 1056964608))) = true; rw [hx]; decide
  | 2, _ => show ((rowL (Vec.set 6 r6 2 (1065353216 : Nat))).all finB && (finB x && (finB 1056964608 && fLt .f32 0 1056964608))) = true; rw [hx]; decide
theorem qi1 : finB 1091567616 = true := by decide
theorem qz6 {s : DState} (v : Vec 3 Int) (hv : Fit (.arr 3 (.int .i16)) v) : ∃ (w : DState) (b : Bool) (k : Int),
    ((impl_FixSensor).bind fun y183 => (impl_vecOfCounts y183.1.1 v).bind fun y184 => (impl_clueFor (0 : Int) (Vec.getD 3 y184.1.1 0 (0 : Nat)) (1056964608 : Nat)).bind fun y186 => (impl_UpdateGated s y186.1.1 (1091567616 : Nat)).bind fun y187 =>
    bif (! (iEq y187.1.2.2.1 0)) then some ((zS, false, y187.1.2.2.1, ()), ()) else
    (impl_clueFor (1 : Int) (Vec.getD 3 y184.1.1 1 (0 : Nat)) (1056964608 : Nat)).bind fun y190 => (impl_UpdateGated y187.1.1 y190.1.1 (1091567616 : Nat)).bind fun y191 =>
    bif (! (iEq y191.1.2.2.1 0)) then some ((zS, false, y191.1.2.2.1, ()), ()) else
    bif y187.1.2.1 then
      (impl_clueFor (2 : Int) (Vec.getD 3 y184.1.1 2 (0 : Nat)) (1056964608 : Nat)).bind fun y194 => (impl_UpdateGated y191.1.1 y194.1.1 (1091567616 : Nat)).bind fun y195 =>
      bif (! (iEq y195.1.2.2.1 0)) then some ((zS, false, y195.1.2.2.1, ()), ()) else
      bif y191.1.2.1 then some ((y195.1.1, y195.1.2.1, (0 : Int), ()), ()) else some ((y195.1.1, false, (0 : Int), ()), ())
    else
    (impl_clueFor (2 : Int) (Vec.getD 3 y184.1.1 2 (0 : Nat)) (1056964608 : Nat)).bind fun y198 => (impl_UpdateGated y191.1.1 y198.1.1 (1091567616 : Nat)).bind fun y199 =>
    bif (! (iEq y199.1.2.2.1 0)) then some ((zS, false, y199.1.2.2.1, ()), ()) else some ((y199.1.1, false, (0 : Int), ()), ())) = some ((w, b, k, ()), ()) ∧
    spec_l08Fix s v = some ((w, b, k, ()), ()) ∧ (k = 0 → stateB w = true) := by
  obtain ⟨c1, c2⟩ := qnq v
  obtain ⟨f0, f1, f2, _⟩ := hv
  have d0 := qem (n := Vec.getD 3 v 0 (0 : Int)) f0.1 f0.2
  have d1 := qem (n := Vec.getD 3 v 1 (0 : Int)) f1.1 f1.2
  have d2 := qem (n := Vec.getD 3 v 2 (0 : Int)) f2.1 f2.2
  generalize h0 : seenF (Vec.getD 3 v 0 (0 : Int)) = x0 at *
  generalize h1 : seenF (Vec.getD 3 v 1 (0 : Int)) = x1 at *
  generalize h2 : seenF (Vec.getD 3 v 2 (0 : Int)) = x2 at *
  have e1 : impl_FixSensor = some ((dSens, ()), ()) := rfl
  have e2 : spec_l08Sensor = some ((dSens, ()), ()) := rfl
  have b0 := qfq (i := 0) (by omega) d0
  have b1 := qfq (i := 1) (by omega) d1
  have b2 := qfq (i := 2) (by omega) d2
  have i0 : impl_clueFor 0 x0 1056964608 = some ((cl 0 x0 1056964608, ()), ()) := (qbx (i := 0) (by omega) x0 1056964608).trans (by rw [b0]; rfl)
  have i1 : impl_clueFor 1 x1 1056964608 = some ((cl 1 x1 1056964608, ()), ()) := (qbx (i := 1) (by omega) x1 1056964608).trans (by rw [b1]; rfl)
  have i2 : impl_clueFor 2 x2 1056964608 = some ((cl 2 x2 1056964608, ()), ()) := (qbx (i := 2) (by omega) x2 1056964608).trans (by rw [b2]; rfl)
  have s0 : spec_ClueAt 0 x0 1056964608 = some ((cl 0 x0 1056964608, 0, ()), ()) := (qaz (i := 0) (by omega) x0 1056964608).trans (by rw [b0]; rfl)
  have s1 : spec_ClueAt 1 x1 1056964608 = some ((cl 1 x1 1056964608, 0, ()), ()) := (qaz (i := 1) (by omega) x1 1056964608).trans (by rw [b1]; rfl)
  have s2 : spec_ClueAt 2 x2 1056964608 = some ((cl 2 x2 1056964608, 0, ()), ()) := (qaz (i := 2) (by omega) x2 1056964608).trans (by rw [b2]; rfl)
  have g0 : ∀ z : Nat, Vec.getD 3 ((x0, x1, x2, ()) : Vec 3 Nat) 0 z = x0 := fun _ => rfl
  have g1 : ∀ z : Nat, Vec.getD 3 ((x0, x1, x2, ()) : Vec 3 Nat) 1 z = x1 := fun _ => rfl
  have g2 : ∀ z : Nat, Vec.getD 3 ((x0, x1, x2, ()) : Vec 3 Nat) 2 z = x2 := fun _ => rfl
  have z0 : (!iEq (0 : Int) 0) = false := rfl
  obtain ⟨V, hV⟩ : ∃ V : Vec 3 Nat, V = (x0, x1, x2, ()) := ⟨_, rfl⟩
  replace c1 : impl_vecOfCounts dSens v = some ((V, ()), ()) := c1.trans (by rw [hV]; rfl)
  replace c2 : spec_l04Vec dSens v = some ((V, ()), ()) := c2.trans (by rw [hV]; rfl)
  replace g0 : Vec.getD 3 V 0 (0 : Nat) = x0 := by rw [hV]; rfl
  replace g1 : Vec.getD 3 V 1 (0 : Nat) = x1 := by rw [hV]; rfl
  replace g2 : Vec.getD 3 V 2 (0 : Nat) = x2 := by rw [hV]; rfl
  obtain ⟨w1, p1, k1, u1, t1, v1⟩ := qhm s (cl 0 x0 1056964608) qi1
  obtain ⟨w2, p2, k2, u2, t2, v2⟩ := qhm w1 (cl 1 x1 1056964608) qi1
  obtain ⟨w3, p3, k3, u3, t3, v3⟩ := qhm w2 (cl 2 x2 1056964608) qi1
  simp only [spec_l08Fix, e1, e2, c1, c2, g0, g1, g2, i0, i1, i2, s0, s1, s2, u1, u2, u3, t1, t2, t3, z0, Option.bind_some, cond_false]
  cases q1 : iEq k1 0 with
  | false => exact ⟨_, _, _, rfl, rfl, fun q => absurd q (qcn.1 q1)⟩
  | true =>
    simp only [Bool.not_true, cond_false]
    cases q2 : iEq k2 0 with
    | false => exact ⟨_, _, _, rfl, rfl, fun q => absurd q (qcn.1 q2)⟩
    | true =>
      simp only [Bool.not_true, cond_false]
      cases q3 : iEq k3 0 with
      | false => cases p1 <;> exact ⟨_, _, _, rfl, rfl, fun q => absurd q (qcn.1 q3)⟩
      | true => cases p1 <;> cases p2 <;> exact ⟨_, _, _, rfl, rfl, fun _ => v3 (qbq.1 q3)⟩
theorem qy0 (a : DLog) {s : DState} (hs : stateB s = true) (e : DEntry) (he : entryB (lenI a.2.2.1) e = true) (hf : Fit (.arr 3 (.int .i16)) e.2.2.1) (hl : a.2.2.1.length ≤ 140737488355328) : ∃ (w : DState) (b : Bool) (k : Int), impl_takeEntry a s e = some ((w, b, k, ()), ()) ∧ spec_l08Take a s e = some ((w, b, k, ()), ()) ∧ (k = 0 → stateB w = true) := by
  unfold impl_takeEntry spec_l08Take
  cases h1 : iEq e.1 1 with
  | true =>
    obtain ⟨w, k, p1, p2, p3⟩ := qsw hs (fDiv .f32 1065353216 (fOfInt .f32 a.1)) ((1048576000, 1048576000, 1048576000, ()) : Vec 3 Nat)
    refine ⟨w, iEq k 0, k, ?_, ?_, p3⟩
    · exact (congrArg (fun z => Option.bind z _) p1).trans rfl
    · exact (congrArg (fun z => Option.bind z _) p2).trans rfl
  | false =>
    simp only [cond_false]
    cases h2 : iEq e.1 2 with
    | true =>
      have i3 := qbx (i := 3) (by omega) (Vec.getD 3 e.2.1 0 (0 : Nat)) 1040187392
      have i4 := qbx (i := 4) (by omega) (Vec.getD 3 e.2.1 1 (0 : Nat)) 1040187392
      have i5 := qbx (i := 5) (by omega) (Vec.getD 3 e.2.1 2 (0 : Nat)) 1040187392
      have s3 := qaz (i := 3) (by omega) (Vec.getD 3 e.2.1 0 (0 : Nat)) 1040187392
      have s4 := qaz (i := 4) (by omega) (Vec.getD 3 e.2.1 1 (0 : Nat)) 1040187392
      have s5 := qaz (i := 5) (by omega) (Vec.getD 3 e.2.1 2 (0 : Nat)) 1040187392
      replace i3 : impl_clueFor (3 : Int) _ _ = _ := i3
      replace i4 : impl_clueFor (4 : Int) _ _ = _ := i4
      replace i5 : impl_clueFor (5 : Int) _ _ = _ := i5
      replace s3 : spec_ClueAt (3 : Int) _ _ = _ := s3
      replace s4 : spec_ClueAt (4 : Int) _ _ = _ := s4
      replace s5 : spec_ClueAt (5 : Int) _ _ = _ := s5
      simp only [i3, i4, i5, s3, s4, s5, Option.bind_some, cond_true]
      generalize (bif clueB (cl 3 (Vec.getD 3 e.2.1 0 (0 : Nat)) 1040187392) then cl 3 (Vec.getD 3 e.2.1 0 (0 : Nat)) 1040187392 else zC) = c3
      generalize (bif clueB (cl 4 (Vec.getD 3 e.2.1 1 (0 : Nat)) 1040187392) then cl 4 (Vec.getD 3 e.2.1 1 (0 : Nat)) 1040187392 else zC) = c4
      generalize (bif clueB (cl 5 (Vec.getD 3 e.2.1 2 (0 : Nat)) 1040187392) then cl 5 (Vec.getD 3 e.2.1 2 (0 : Nat)) 1040187392 else zC) = c5
      obtain ⟨w, k, u1, u2, u3⟩ := qzf hs (l := [c3, c4, c5]) (by simp)
      exact ⟨w, iEq k 0, k, by rw [u1]; rfl, by rw [u2]; rfl, u3⟩
    | false =>
      simp only [cond_false]
      cases h3 : iEq e.1 3 with
      | true =>
        obtain ⟨w, b, k, f1, f2, f3⟩ := qz6 (s := s) e.2.2.1 hf
        exact ⟨w, b, k, f1, by rw [f2]; rfl, f3⟩
      | false =>
        simp only [cond_false]
        have h4 : iLe 0 e.2.2.2.1 = true ∧ iLe e.2.2.2.1 (iSub .i64 (lenI a.2.2.1) 1) = true := by
          simp only [entryB, h1, h2, h3, cond_false] at he
          cases h4 : iEq e.1 4 with
          | false => rw [h4] at he; cases he
          | true => rw [h4] at he; simp only [cond_true, Bool.and_eq_true] at he; exact he.1
        have e3 : iSub .i64 (lenI a.2.2.1) 1 = lenI a.2.2.1 - 1 := qbv (by rw [qaa]; omega) (by rw [qaa]; omega)
        have h5 := qbo.1 h4.1
        have h6 := qbo.1 h4.2
        rw [e3, qaa] at h6
        have e4 : inB e.2.2.2.1 a.2.2.1.length = true := qfm h5 (by omega)
        rw [e4]
        obtain ⟨c, k, r1, r2⟩ := qve s (a.2.2.1.getD e.2.2.2.1.toNat ((0, 0, 0, ()) : Vec 3 Nat)) e.2.2.2.2.1 1056964608
        obtain ⟨w, b, k', g1, g2, g3⟩ := qhm s c qi1
        simp only [r1, r2, g1, g2, Option.bind_some, cond_true]
        cases iEq k 0 with
        | false => exact ⟨_, _, _, rfl, rfl, fun _ => hs⟩
        | true => exact ⟨_, _, _, rfl, rfl, g3⟩
end Go.Proofs.YtildomllnnnofaaGreat
