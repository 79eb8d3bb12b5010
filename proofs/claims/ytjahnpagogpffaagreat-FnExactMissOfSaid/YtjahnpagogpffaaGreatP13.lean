/- Functions of the program and of the reference in plain terms. -/
import Derived.Test.YtjahnpagogpffaaGreatP12
namespace Go.Proofs.YtjahnpagogpffaaGreat
open Go Go.Tm
set_option linter.unusedVariables false
set_option linter.unusedSimpArgs false
set_option linter.unusedSectionVars false
/-! ### entries of a log -/
abbrev dSens : Vec 3 Nat × (Vec 3 Nat × (Int × (Int × Unit))) := ((1031798784, 1031798784, 1031798784, ()), (0, 0, 0, ()), 1, 0, ())
def seenF (n : Int) : Nat := fAdd .f32 (fMul .f32 (fOfInt .f32 n) 1031798784) 0
theorem seenF_fin {n : Int} (h : -32768 ≤ n) (h1 : n ≤ 32767) : finB (seenF n) = true := by
  have h2 : magB 1031798784 (-4) := ⟨false, 8388608, -27, by decide, fun _ => by decide⟩
  have h3 := mag_mul (mag_count h h1) h2 (by omega) (by omega)
  exact mag_fin (mag_add h3 (mag_zero _) (by omega) (by omega))

theorem counts_two (v : Vec 3 Int) : impl_vecOfCounts dSens v = some (((seenF (Vec.getD 3 v 0 (0 : Int)), seenF (Vec.getD 3 v 1 (0 : Int)), seenF (Vec.getD 3 v 2 (0 : Int)), ()), ()), ()) ∧ spec_l04Vec dSens v = some (((seenF (Vec.getD 3 v 0 (0 : Int)), seenF (Vec.getD 3 v 1 (0 : Int)), seenF (Vec.getD 3 v 2 (0 : Int)), ()), ()), ()) := ⟨rfl, rfl⟩

theorem clueB_at {i x : Nat} (hi : i < 3) (hx : finB x = true) : clueB (cl i x 1056964608) = true := by
  match i, hi with
  | 0, _ => show ((rowL (Vec.set 6 r6 0 (1065353216 : Nat))).all finB && (finB x && (finB 1056964608 && fLt .f32 0 1056964608))) = true; rw [hx]; decide
  | 1, _ => show ((rowL (Vec.set 6 r6 1 (1065353216 : Nat))).all finB && (finB x && (finB 1056964608 && fLt .f32 0 1056964608))) = true; rw [hx]; decide
  | 2, _ => show ((rowL (Vec.set 6 r6 2 (1065353216 : Nat))).all finB && (finB x && (finB 1056964608 && fLt .f32 0 1056964608))) = true; rw [hx]; decide

theorem nine_fin : finB 1091567616 = true := by decide

theorem fix_two {s : DState} (v : Vec 3 Int) (hv : Fit (.arr 3 (.int .i16)) v) : ∃ (w : DState) (b : Bool) (k : Int),
    ((impl_FixSensor).bind fun y183 => (impl_vecOfCounts y183.1.1 v).bind fun y184 => (impl_clueFor (0 : Int) (Vec.getD 3 y184.1.1 0 (0 : Nat)) (1056964608 : Nat)).bind fun y186 => (impl_UpdateGated s y186.1.1 (1091567616 : Nat)).bind fun y187 =>
    bif (! (iEq y187.1.2.2.1 0)) then some ((zS, false, y187.1.2.2.1, ()), ()) else
    (impl_clueFor (1 : Int) (Vec.getD 3 y184.1.1 1 (0 : Nat)) (1056964608 : Nat)).bind fun y190 => (impl_UpdateGated y187.1.1 y190.1.1 (1091567616 : Nat)).bind fun y191 =>
    bif (! (iEq y191.1.2.2.1 0)) then some ((zS, false, y191.1.2.2.1, ()), ()) else
    bif y187.1.2.1 then
      (impl_clueFor (2 : Int) (Vec.getD 3 y184.1.1 2 (0 : Nat)) (1056964608 : Nat)).bind fun y194 => (impl_UpdateGated y191.1.1 y194.1.1 (1091567616 : Nat)).bind fun y195 =>
      bif (! (iEq y195.1.2.2.1 0)) then some ((zS, false, y195.1.2.2.1, ()), ()) else
      bif y191.1.2.1 then some ((y195.1.1, y195.1.2.1, (0 : Int), ()), ()) else some ((y195.1.1, false, (0 : Int), ()), ())
    else
    (impl_clueFor (2 : Int) (Vec.getD 3 y184.1.1 2 (0 : Nat)) (1056964608 : Nat)).bind fun y198 => (impl_UpdateGated y191.1.1 y198.1.1 (1091567616 : Nat)).bind fun y199 =>
    bif (! (iEq y199.1.2.2.1 0)) then some ((zS, false, y199.1.2.2.1, ()), ()) else some ((y199.1.1, false, (0 : Int), ()), ())) = some ((w, b, k, ()), ()) ∧
    spec_l08Fix s v = some ((w, b, k, ()), ()) ∧ (k = 0 → stateB w = true) := by
  obtain ⟨c1, c2⟩ := counts_two v
  obtain ⟨f0, f1, f2, _⟩ := hv
  have d0 := seenF_fin (n := Vec.getD 3 v 0 (0 : Int)) f0.1 f0.2
  have d1 := seenF_fin (n := Vec.getD 3 v 1 (0 : Int)) f1.1 f1.2
  have d2 := seenF_fin (n := Vec.getD 3 v 2 (0 : Int)) f2.1 f2.2
  generalize h0 : seenF (Vec.getD 3 v 0 (0 : Int)) = x0 at *
  generalize h1 : seenF (Vec.getD 3 v 1 (0 : Int)) = x1 at *
  generalize h2 : seenF (Vec.getD 3 v 2 (0 : Int)) = x2 at *
  have e1 : impl_FixSensor = some ((dSens, ()), ()) := rfl
  have e2 : spec_l08Sensor = some ((dSens, ()), ()) := rfl
  have b0 := clueB_at (i := 0) (by omega) d0
  have b1 := clueB_at (i := 1) (by omega) d1
  have b2 := clueB_at (i := 2) (by omega) d2
  have i0 : impl_clueFor 0 x0 1056964608 = some ((cl 0 x0 1056964608, ()), ()) := (impl_clueFor_ok (i := 0) (by omega) x0 1056964608).trans (by rw [b0]; rfl)
  have i1 : impl_clueFor 1 x1 1056964608 = some ((cl 1 x1 1056964608, ()), ()) := (impl_clueFor_ok (i := 1) (by omega) x1 1056964608).trans (by rw [b1]; rfl)
  have i2 : impl_clueFor 2 x2 1056964608 = some ((cl 2 x2 1056964608, ()), ()) := (impl_clueFor_ok (i := 2) (by omega) x2 1056964608).trans (by rw [b2]; rfl)
  have s0 : spec_ClueAt 0 x0 1056964608 = some ((cl 0 x0 1056964608, 0, ()), ()) := (spec_ClueAt_ok (i := 0) (by omega) x0 1056964608).trans (by rw [b0]; rfl)
  have s1 : spec_ClueAt 1 x1 1056964608 = some ((cl 1 x1 1056964608, 0, ()), ()) := (spec_ClueAt_ok (i := 1) (by omega) x1 1056964608).trans (by rw [b1]; rfl)
  have s2 : spec_ClueAt 2 x2 1056964608 = some ((cl 2 x2 1056964608, 0, ()), ()) := (spec_ClueAt_ok (i := 2) (by omega) x2 1056964608).trans (by rw [b2]; rfl)
  have g0 : ∀ z : Nat, Vec.getD 3 ((x0, x1, x2, ()) : Vec 3 Nat) 0 z = x0 := fun _ => rfl
  have g1 : ∀ z : Nat, Vec.getD 3 ((x0, x1, x2, ()) : Vec 3 Nat) 1 z = x1 := fun _ => rfl
  have g2 : ∀ z : Nat, Vec.getD 3 ((x0, x1, x2, ()) : Vec 3 Nat) 2 z = x2 := fun _ => rfl
  have z0 : (!iEq (0 : Int) 0) = false := rfl
  obtain ⟨V, hV⟩ : ∃ V : Vec 3 Nat, V = (x0, x1, x2, ()) := ⟨_, rfl⟩
  replace c1 : impl_vecOfCounts dSens v = some ((V, ()), ()) := c1.trans (by rw [hV]; rfl)
  replace c2 : spec_l04Vec dSens v = some ((V, ()), ()) := c2.trans (by rw [hV]; rfl)
  replace g0 : Vec.getD 3 V 0 (0 : Nat) = x0 := by rw [hV]; rfl
  replace g1 : Vec.getD 3 V 1 (0 : Nat) = x1 := by rw [hV]; rfl
  replace g2 : Vec.getD 3 V 2 (0 : Nat) = x2 := by rw [hV]; rfl
  obtain ⟨w1, p1, k1, u1, t1, v1⟩ := gated_two s (cl 0 x0 1056964608) nine_fin
  obtain ⟨w2, p2, k2, u2, t2, v2⟩ := gated_two w1 (cl 1 x1 1056964608) nine_fin
  obtain ⟨w3, p3, k3, u3, t3, v3⟩ := gated_two w2 (cl 2 x2 1056964608) nine_fin
  simp only [spec_l08Fix, e1, e2, c1, c2, g0, g1, g2, i0, i1, i2, s0, s1, s2, u1, u2, u3, t1, t2, t3, z0, Option.bind_some, cond_false]
  cases q1 : iEq k1 0 with
  | false => exact ⟨_, _, _, rfl, rfl, fun q => absurd q (iEq_false.1 q1)⟩
  | true =>
    simp only [Bool.not_true, cond_false]
    cases q2 : iEq k2 0 with
    | false => exact ⟨_, _, _, rfl, rfl, fun q => absurd q (iEq_false.1 q2)⟩
    | true =>
      simp only [Bool.not_true, cond_false]
      cases q3 : iEq k3 0 with
      | false => cases p1 <;> exact ⟨_, _, _, rfl, rfl, fun q => absurd q (iEq_false.1 q3)⟩
      | true => cases p1 <;> cases p2 <;> exact ⟨_, _, _, rfl, rfl, fun _ => v3 (iEq_true.1 q3)⟩

theorem take_two (a : DLog) {s : DState} (hs : stateB s = true) (e : DEntry) (he : entryB (lenI a.2.2.1) e = true) (hf : Fit (.arr 3 (.int .i16)) e.2.2.1) (hl : a.2.2.1.length ≤ 140737488355328) : ∃ (w : DState) (b : Bool) (k : Int), impl_takeEntry a s e = some ((w, b, k, ()), ()) ∧ spec_l08Take a s e = some ((w, b, k, ()), ()) ∧ (k = 0 → stateB w = true) := by
  unfold impl_takeEntry spec_l08Take
  cases h1 : iEq e.1 1 with
  | true =>
    obtain ⟨w, k, p1, p2, p3⟩ := predict_two hs (fDiv .f32 1065353216 (fOfInt .f32 a.1)) ((1048576000, 1048576000, 1048576000, ()) : Vec 3 Nat)
    refine ⟨w, iEq k 0, k, ?_, ?_, p3⟩
    · exact (congrArg (fun z => Option.bind z _) p1).trans rfl
    · exact (congrArg (fun z => Option.bind z _) p2).trans rfl
  | false =>
    simp only [cond_false]
    cases h2 : iEq e.1 2 with
    | true =>
      have i3 := impl_clueFor_ok (i := 3) (by omega) (Vec.getD 3 e.2.1 0 (0 : Nat)) 1040187392
      have i4 := impl_clueFor_ok (i := 4) (by omega) (Vec.getD 3 e.2.1 1 (0 : Nat)) 1040187392
      have i5 := impl_clueFor_ok (i := 5) (by omega) (Vec.getD 3 e.2.1 2 (0 : Nat)) 1040187392
      have s3 := spec_ClueAt_ok (i := 3) (by omega) (Vec.getD 3 e.2.1 0 (0 : Nat)) 1040187392
      have s4 := spec_ClueAt_ok (i := 4) (by omega) (Vec.getD 3 e.2.1 1 (0 : Nat)) 1040187392
      have s5 := spec_ClueAt_ok (i := 5) (by omega) (Vec.getD 3 e.2.1 2 (0 : Nat)) 1040187392
      replace i3 : impl_clueFor (3 : Int) _ _ = _ := i3
      replace i4 : impl_clueFor (4 : Int) _ _ = _ := i4
      replace i5 : impl_clueFor (5 : Int) _ _ = _ := i5
      replace s3 : spec_ClueAt (3 : Int) _ _ = _ := s3
      replace s4 : spec_ClueAt (4 : Int) _ _ = _ := s4
      replace s5 : spec_ClueAt (5 : Int) _ _ = _ := s5
      simp only [i3, i4, i5, s3, s4, s5, Option.bind_some, cond_true]
      generalize (bif clueB (cl 3 (Vec.getD 3 e.2.1 0 (0 : Nat)) 1040187392) then cl 3 (Vec.getD 3 e.2.1 0 (0 : Nat)) 1040187392 else zC) = c3
      generalize (bif clueB (cl 4 (Vec.getD 3 e.2.1 1 (0 : Nat)) 1040187392) then cl 4 (Vec.getD 3 e.2.1 1 (0 : Nat)) 1040187392 else zC) = c4
      generalize (bif clueB (cl 5 (Vec.getD 3 e.2.1 2 (0 : Nat)) 1040187392) then cl 5 (Vec.getD 3 e.2.1 2 (0 : Nat)) 1040187392 else zC) = c5
      obtain ⟨w, k, u1, u2, u3⟩ := all_two hs (l := [c3, c4, c5]) (by simp)
      exact ⟨w, iEq k 0, k, by rw [u1]; rfl, by rw [u2]; rfl, u3⟩
    | false =>
      simp only [cond_false]
      cases h3 : iEq e.1 3 with
      | true =>
        obtain ⟨w, b, k, f1, f2, f3⟩ := fix_two (s := s) e.2.2.1 hf
        exact ⟨w, b, k, f1, by rw [f2]; rfl, f3⟩
      | false =>
        simp only [cond_false]
        have h4 : iLe 0 e.2.2.2.1 = true ∧ iLe e.2.2.2.1 (iSub .i64 (lenI a.2.2.1) 1) = true := by
          simp only [entryB, h1, h2, h3, cond_false] at he
          cases h4 : iEq e.1 4 with
          | false => rw [h4] at he; cases he
          | true => rw [h4] at he; simp only [cond_true, Bool.and_eq_true] at he; exact he.1
        have e3 : iSub .i64 (lenI a.2.2.1) 1 = lenI a.2.2.1 - 1 := iSub_eq (by rw [lenI_eq]; omega) (by rw [lenI_eq]; omega)
        have h5 := iLe_true.1 h4.1
        have h6 := iLe_true.1 h4.2
        rw [e3, lenI_eq] at h6
        have e4 : inB e.2.2.2.1 a.2.2.1.length = true := inB_int h5 (by omega)
        rw [e4]
        obtain ⟨c, k, r1, r2⟩ := range_two s (a.2.2.1.getD e.2.2.2.1.toNat ((0, 0, 0, ()) : Vec 3 Nat)) e.2.2.2.2.1 1056964608
        obtain ⟨w, b, k', g1, g2, g3⟩ := gated_two s c nine_fin
        simp only [r1, r2, g1, g2, Option.bind_some, cond_true]
        cases iEq k 0 with
        | false => exact ⟨_, _, _, rfl, rfl, fun _ => hs⟩
        | true => exact ⟨_, _, _, rfl, rfl, g3⟩

/-! ### replays -/
theorem replay_gen {a : DLog} (hm : a.2.2.1.length ≤ 140737488355328) (hc : ∀ e ∈ a.2.2.2.1, Fit (.arr 3 (.int .i16)) e.2.2.1) (hl : logB a = true) {s : DState} (hs : stateB s = true) {lo hi : Int} (h0 : 0 ≤ lo) (h1 : lo ≤ hi) (h2 : hi ≤ a.2.2.2.1.length) :
    ∃ (w : DState) (l : List Int) (k : Int), impl_replay a s lo hi = some ((w, l, k, ()), ()) ∧ spec_l08Replay a s lo hi = some ((w, l, k, ()), ()) ∧ l.length ≤ 1200 := by
  have hb : a.2.2.2.1.length ≤ 1200 ∧ a.2.2.2.1.all (entryB (lenI a.2.2.1)) = true := by
    simp only [logB, Bool.and_eq_true] at hl
    have := iLe_true.1 hl.2.1
    rw [lenI_eq] at this
    exact ⟨by omega, hl.2.2⟩
  obtain ⟨x, y, e1, e2, w, l, k, rfl, rfl, h3⟩ := run_two (f := impl_replay_l3 hi a) (g := spec_l08Replay_l3 hi a) (fun u t => u = t ∧ ∃ (l : List Int) (i : Int) (s : DState), u = (l, i, s, ()) ∧ lo ≤ i ∧ i ≤ hi ∧ (l.length : Int) ≤ i ∧ stateB s = true) (fun u => (hi - u.2.1).toNat)
    (fun x y : (DState × List Int × Int × Unit) × Unit => ∃ (w : DState) (l : List Int) (k : Int), x = ((w, l, k, ()), ()) ∧ y = ((w, l, k, ()), ()) ∧ l.length ≤ 1200) (fun u t hR => by
      obtain ⟨rfl, l, i, s, rfl, hlo, hhi, hll, hs⟩ := hR
      by_cases hlt : i < hi
      · have e1 : iLt i hi = true := iLt_pos hlt
        have e2 : inB i a.2.2.2.1.length = true := inB_int (by omega) (by omega)
        have hj : i.toNat < a.2.2.2.1.length := by omega
        have e4 : a.2.2.2.1.getD i.toNat ((0, (0, 0, 0, ()), (0, 0, 0, ()), 0, 0, ()) : DEntry) = a.2.2.2.1[i.toNat] := getD_of hj
        have e5 : iAdd .i64 i 1 = i + 1 := iAdd_eq (by omega) (by omega)
        have e6 : room (l.length + 1) 8 = true := room_pos (by omega)
        obtain ⟨w, b, k, t1, t2, t3⟩ := take_two a hs a.2.2.2.1[i.toNat] (List.all_eq_true.1 hb.2 _ (List.getElem_mem hj)) (hc _ (List.getElem_mem hj)) hm
        simp only [impl_replay_l3, spec_l08Replay_l3, e1, e2, e4, e5, e6, t1, t2, Option.bind_some, Option.map_some, cond_true]
        cases hk : iEq k 0 with
        | false => exact .inr ⟨_, _, rfl, rfl, zS, [], k, rfl, rfl, by simp⟩
        | true =>
          have hw := t3 (iEq_true.1 hk)
          cases b with
          | false =>
            refine .inl ⟨_, _, rfl, rfl, ⟨rfl, l ++ [i], i + 1, w, rfl, by omega, by omega, ?_, hw⟩, by show (hi - (i + 1)).toNat < (hi - i).toNat; omega⟩
            rw [List.length_append]
            show ((l.length + 1 : Nat) : Int) ≤ i + 1
            omega
          | true => exact .inl ⟨_, _, rfl, rfl, ⟨rfl, l, i + 1, w, rfl, by omega, by omega, by omega, hw⟩, by show (hi - (i + 1)).toNat < (hi - i).toNat; omega⟩
      · have e1 : iLt i hi = false := iLt_neg hlt
        exact .inr ⟨_, _, by simp only [impl_replay_l3, e1, cond_false, Option.map_some], by simp only [spec_l08Replay_l3, e1, cond_false, Option.map_some], s, l, 0, rfl, rfl, by omega⟩) ⟨rfl, [], lo, s, rfl, by omega, h1, by simpa using h0, hs⟩
  exact ⟨w, l, k, e1, e2, h3⟩

theorem replay_two {a : DLog} (ha : Fit TyLog a) (hl : logB a = true) {s : DState} (hs : stateB s = true) {lo hi : Int} (h0 : 0 ≤ lo) (h1 : lo ≤ hi) (h2 : hi ≤ a.2.2.2.1.length) :
    ∃ (w : DState) (l : List Int) (k : Int), impl_replay a s lo hi = some ((w, l, k, ()), ()) ∧ spec_l08Replay a s lo hi = some ((w, l, k, ()), ()) ∧ l.length ≤ 1200 :=
  replay_gen (sized_of_fit (t := TyLog) rfl ha).2.2.1.1 (fun e he => (ha.2.2.2.1.2 e he).2.2.1) hl hs h0 h1 h2

theorem takeEntry_two (a : DLog) (ha : Fit TyLog a) (s : DState) (e : DEntry) (hf : Fit TyEntry e) : ∃ (w : DState) (b : Bool) (k : Int), impl_TakeEntry a s e = some ((w, b, k, ()), ()) ∧ spec_TakeEntry a s e = some ((w, b, k, ()), ()) := by
  have sl : Sized TyLog a := sized_of_fit rfl ha
  simp only [impl_TakeEntry, spec_TakeEntry, impl_ValidLog_ok a sl, spec_l08Log_ok a sl, impl_ValidState_ok, spec_l03Ok_ok, impl_validEntry_ok, spec_l08Entry_ok, Option.bind_some]
  cases logB a with
  | false => exact ⟨_, _, _, rfl, rfl⟩
  | true =>
    cases hs : stateB s with
    | false => exact ⟨_, _, _, rfl, rfl⟩
    | true =>
      cases he : entryB (lenI a.2.2.1) e with
      | false => exact ⟨_, _, _, rfl, rfl⟩
      | true =>
        obtain ⟨w, b, k, t1, t2, _⟩ := take_two a hs e he hf.2.2.1 sl.2.2.1.1
        simp only [t1, t2, Bool.not_true, cond_false, Option.bind_some]
        exact ⟨_, _, _, rfl, rfl⟩

theorem laws_FnExactTakeEntry_plain (a : DLog) (ha : Fit TyLog a) (s : DState) (hs : Fit (.pair (.arr 6 (.flt .f32)) (.pair (.arr 6 (.arr 6 (.flt .f32))) .unit)) s) (e : DEntry) (he : Fit TyEntry e) : ∃ o, laws_FnExactTakeEntry a s e = some ((true, ()), o) := by
  obtain ⟨r, hr⟩ := laws_szLog_ok a 1048576
  have sl : Sized TyLog a := sized_of_fit rfl ha
  obtain ⟨w, b, k, h1, h2⟩ := takeEntry_two a ha s e he
  have h3 := laws_toLog_ok a ha
  have h4 := laws_eqLog_ok a sl
  have h5 := laws_eqState_ok w
  have h6 := laws_toState_ok s
  have h7 := laws_toEntry_ok e
  obtain ⟨a1, a2, a3, a4, ⟨⟩⟩ := a
  simp only [laws_FnExactTakeEntry, hr, h3, h1, h2, h4, h5, h6, h7, iEq_self, bEq_self, Option.bind_some, Bool.not_true, cond_false]
  cases iLt r 0 <;> exact ⟨_, rfl⟩

theorem replayLog_two (a : DLog) (ha : Fit TyLog a) : ∃ (w : DState) (l : List Int) (k : Int), impl_ReplayLog a = some ((w, k, ()), ()) ∧ spec_ReplayLog a = some ((w, k, ()), ()) ∧ impl_RefusedEntries a = some ((l, k, ()), ()) ∧ spec_RefusedEntries a = some ((l, k, ()), ()) ∧ l.length ≤ 1200 := by
  have sl : Sized TyLog a := sized_of_fit rfl ha
  simp only [impl_ReplayLog, spec_ReplayLog, impl_RefusedEntries, spec_RefusedEntries, impl_ValidLog_ok a sl, spec_l08Log_ok a sl, Option.bind_some]
  cases hl : logB a with
  | false => exact ⟨_, [], _, rfl, rfl, rfl, rfl, by simp⟩
  | true =>
    have hv := log_start hl
    obtain ⟨w, l, k, r1, r2, r3⟩ := replay_two ha hl (firstS_valid hv) (lo := 0) (hi := lenI a.2.2.2.1) (by omega) (by rw [lenI_eq]; omega) (by rw [lenI_eq]; omega)
    simp only [Bool.not_true, cond_false, impl_firstState_ok a hv, spec_l08First_ok, r1, r2, Option.bind_some]
    exact ⟨w, l, k, rfl, rfl, rfl, rfl, r3⟩

theorem laws_FnExactReplayLog_plain (a : DLog) (ha : Fit TyLog a) : ∃ o, laws_FnExactReplayLog a = some ((true, ()), o) := by
  obtain ⟨r, hr⟩ := laws_szLog_ok a 1048576
  have sl : Sized TyLog a := sized_of_fit rfl ha
  obtain ⟨w, l, k, h1, h2, _⟩ := replayLog_two a ha
  have h3 := laws_toLog_ok a ha
  have h4 := laws_eqLog_ok a sl
  have h5 := laws_eqState_ok w
  obtain ⟨a1, a2, a3, a4, ⟨⟩⟩ := a
  simp only [laws_FnExactReplayLog, hr, h3, h1, h2, h4, h5, iEq_self, Option.bind_some, Bool.not_true, cond_false]
  cases iLt r 0 <;> exact ⟨_, rfl⟩

theorem replayFrom_two (a : DLog) (ha : Fit TyLog a) (s : DState) (i j : Int) : ∃ (w : DState) (k : Int), impl_ReplayFrom a s i j = some ((w, k, ()), ()) ∧ spec_ReplayFrom a s i j = some ((w, k, ()), ()) := by
  have sl : Sized TyLog a := sized_of_fit rfl ha
  simp only [impl_ReplayFrom, spec_ReplayFrom, within_eq, l00In_ok, impl_ValidLog_ok a sl, spec_l08Log_ok a sl, impl_ValidState_ok, spec_l03Ok_ok, Option.bind_some]
  cases hl : logB a with
  | false => exact ⟨_, _, rfl, rfl⟩
  | true =>
    cases hs : stateB s with
    | false => exact ⟨_, _, rfl, rfl⟩
    | true =>
      simp only [Bool.not_true, cond_false]
      by_cases h1 : 0 ≤ i ∧ i ≤ lenI a.2.2.2.1
      · have e1 : iLe 0 i = true := iLe_pos h1.1
        have e2 : iLe i (lenI a.2.2.2.1) = true := iLe_pos h1.2
        rw [e1, e2]
        simp only [Bool.and_self, Bool.not_true, cond_false]
        by_cases h2 : i ≤ j ∧ j ≤ lenI a.2.2.2.1
        · have e3 : iLe 0 j = true := iLe_pos (by omega)
          have e4 : iLe j (lenI a.2.2.2.1) = true := iLe_pos h2.2
          have e5 : iLt j i = false := iLt_neg (by omega)
          have e6 : iLe i j = true := iLe_pos h2.1
          rw [e3, e4, e5, e6]
          obtain ⟨w, l, k, r1, r2, _⟩ := replay_two ha hl hs (lo := i) (hi := j) h1.1 h2.1 (by have := h2.2; rw [lenI_eq] at this; exact this)
          simp only [Bool.and_self, Bool.not_true, cond_false, r1, r2, Option.bind_some]
          exact ⟨_, _, rfl, rfl⟩
        · have e : (iLe i j && iLe j (lenI a.2.2.2.1)) = false := by
            cases q1 : iLe i j with
            | false => rfl
            | true =>
              cases q2 : iLe j (lenI a.2.2.2.1) with
              | false => rfl
              | true => exact absurd ⟨iLe_true.1 q1, iLe_true.1 q2⟩ h2
          rw [e]
          refine ⟨zS, 2, ?_, rfl⟩
          cases q3 : iLe 0 j && iLe j (lenI a.2.2.2.1) with
          | false => rfl
          | true =>
            simp only [Bool.and_eq_true] at q3
            have : iLt j i = true := iLt_pos (by
              have := iLe_true.1 q3.2
              apply Classical.byContradiction
              intro z
              exact h2 ⟨by omega, this⟩)
            rw [this]
            rfl
      · have e : (iLe 0 i && iLe i (lenI a.2.2.2.1)) = false := by
          cases q1 : iLe 0 i with
          | false => rfl
          | true =>
            cases q2 : iLe i (lenI a.2.2.2.1) with
            | false => rfl
            | true => exact absurd ⟨iLe_true.1 q1, iLe_true.1 q2⟩ h1
        rw [e]
        exact ⟨_, _, rfl, rfl⟩

theorem laws_FnExactReplayFrom_plain (a : DLog) (ha : Fit TyLog a) (s : DState) (hs : Fit (.pair (.arr 6 (.flt .f32)) (.pair (.arr 6 (.arr 6 (.flt .f32))) .unit)) s) (i : Int) (hi : Fit (.int .i64) i) (j : Int) (hj : Fit (.int .i64) j) : ∃ o, laws_FnExactReplayFrom a s i j = some ((true, ()), o) := by
  obtain ⟨r, hr⟩ := laws_szLog_ok a 1048576
  have sl : Sized TyLog a := sized_of_fit rfl ha
  obtain ⟨w, k, h1, h2⟩ := replayFrom_two a ha s i j
  have h3 := laws_toLog_ok a ha
  have h4 := laws_eqLog_ok a sl
  have h5 := laws_eqState_ok w
  have h6 := laws_toState_ok s
  obtain ⟨a1, a2, a3, a4, ⟨⟩⟩ := a
  simp only [laws_FnExactReplayFrom, hr, h3, h1, h2, h4, h5, h6, iEq_self, Option.bind_some, Bool.not_true, cond_false]
  cases iLt r 0 <;> exact ⟨_, rfl⟩

theorem laws_FnExactRefusedEntries_plain (a : DLog) (ha : Fit TyLog a) : ∃ o, laws_FnExactRefusedEntries a = some ((true, ()), o) := by
  obtain ⟨r, hr⟩ := laws_szLog_ok a 1048576
  have sl : Sized TyLog a := sized_of_fit rfl ha
  obtain ⟨w, l, k, _, _, h1, h2, hlen⟩ := replayLog_two a ha
  have h3 := laws_toLog_ok a ha
  have h4 := laws_eqLog_ok a sl
  have sI : Sized (.list (.int .i64)) l := sized_list (t := .int .i64) rfl (l := l) (Nat.le_trans hlen (by decide))
  have h5 := laws_eqInt64S_ok l sI
  have hM := laws_markLog_exm a sl 1 (by omega) (by omega)
  obtain ⟨m2, l2, k1, k2, k3, k4⟩ := laws_markInt64S_ex l sI 1 (by omega) (by omega)
  have q1 : iLt m2 0 = false := iLt_neg (by omega)
  obtain ⟨m, j0, j1, g1, g2, g3⟩ := hM
  have q2 : iLt m 0 = false := iLt_neg (by omega)
  obtain ⟨a1, a2, a3, a4, ⟨⟩⟩ := a
  simp only [laws_FnExactRefusedEntries, hr, h3, h1, h2, h4, h5, k1, k4, g1, q1, q2, iEq_self, Option.bind_some, Bool.not_true, cond_false]
  cases iLt r 0 <;> exact ⟨_, rfl⟩
end Go.Proofs.YtjahnpagogpffaaGreat
