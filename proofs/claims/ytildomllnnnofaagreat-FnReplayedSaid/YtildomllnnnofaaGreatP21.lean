import Derived.Test.YtildomllnnnofaaGreatP20
/- Functions of the program and of the reference in plain terms. -/
namespace Go.Proofs.YtildomllnnnofaaGreat
open Go Go.Tm
set_option linter.unusedVariables false
set_option linter.unusedSimpArgs false
set_option linter.unusedSectionVars false
theorem qh8 {σ A : Type} {f : σ → Option (σ ⊕ A)} {s s' : σ} {a : A} {b c : Bool} {X : Option A} (h : f s = bif !b then some (.inr a) else some (.inl s')) (hr : run f s' = bif c then X else some a) : run f s = bif (b && c) then X else some a := by
  cases b with
  | false => exact qaj h
  | true => exact (qad h).trans hr
def finR (T : DTab) (r : Nat) : Bool := [tg T r 0, tg T r 1, tg T r 2, tg T r 3, tg T r 4, tg T r 5, tg T r 6, tg T r 7, tg T r 8].all finB
def finT (T : DTab) : Bool := finR T 0 && (finR T 1 && (finR T 2 && (finR T 3 && (finR T 4 && (finR T 5 && true)))))
theorem qg1 (T : DTab) {r : Nat} (hr : r < 6) : impl_LowerOf_l2 T ((r : Int), ()) = bif !finR T r then some (.inr ((z6, (1 : Int), ()), ())) else some (.inl (((r + 1 : Nat) : Int), ())) := by
  have e1 : iLt (r : Int) 6 = true := qah (by omega)
  have e2 : inB (r : Int) 6 = true := qaf hr
  have e5 : iAdd .i64 (r : Int) 1 = ((r + 1 : Nat) : Int) := qap (n := 6) hr (by omega)
  simp only [impl_LowerOf_l2, e1, e2, e5, cond_true, Int.toNat_natCast]
  rw [qbb _ (by simp)]
  rfl
theorem qab0 (T : DTab) : impl_LowerOf T = bif finT T then run impl_LowerOf_l8 ((0 : Int), T, ()) else some ((z6, (1 : Int), ()), ()) :=
  qh8 (qg1 T (r := 0) (by omega)) (qh8 (qg1 T (r := 1) (by omega)) (qh8 (qg1 T (r := 2) (by omega)) (qh8 (qg1 T (r := 3) (by omega)) (qh8 (qg1 T (r := 4) (by omega)) (qh8 (qg1 T (r := 5) (by omega)) (c := true) (qpi (by kernel_rfl)))))))
theorem qaap {T : DTab} (h : ∀ r k, r < 6 → k < 9 → finB (tg T r k) = true) : finT T = true := by
  have hr : ∀ r, r < 6 → finR T r = true := fun r hr => by
    simp only [finR, List.all_cons, List.all_nil, h r _ hr (show 0 < 9 by omega), h r _ hr (show 1 < 9 by omega), h r _ hr (show 2 < 9 by omega), h r _ hr (show 3 < 9 by omega), h r _ hr (show 4 < 9 by omega), h r _ hr (show 5 < 9 by omega), h r _ hr (show 6 < 9 by omega), h r _ hr (show 7 < 9 by omega), h r _ hr (show 8 < 9 by omega), Bool.and_self]
  simp only [finT, hr 0 (by omega), hr 1 (by omega), hr 2 (by omega), hr 3 (by omega), hr 4 (by omega), hr 5 (by omega), Bool.and_self]
theorem qt7 {T : DTab} (h : finT T = false) : Seen 0 T fun _ _ => True := by
  apply Classical.byContradiction
  intro hn
  have : finT T = true := qaap fun r k hr hk => by
    cases hf : finB (tg T r k) with
    | true => rfl
    | false => exact absurd ⟨r, k, hr, hk, hf, .inr ⟨Nat.zero_le _, Nat.zero_le _⟩, trivial⟩ hn
  rw [h] at this
  cases this
theorem qtm (T : DTab) (k i : Nat) : finB (osg T k i) = finB (tg T k i) := by
  unfold osg
  cases fLt .f32 (tg T i i) 0
  · rfl
  · exact qaah _
theorem qo5 {T : DTab} (h : outB T = true) {i k : Nat} (hi : i ≤ k) (hk : k < 6) : finB (osg T k i) = true := by
  have h1 := List.all_eq_true.1 h i (List.mem_range.2 (by omega))
  have h2 := List.all_eq_true.1 h1 k (List.mem_range.2 hk)
  rw [decide_eq_false (by omega), Bool.false_or] at h2
  exact h2
theorem qx5 {T : DTab} (h : Seen 6 T fun _ _ => True) : outB T = false := by
  obtain ⟨r, k, h1, h2, h3, h4, _⟩ := h
  cases ho : outB T with
  | false => rfl
  | true =>
    have := qo5 ho (i := k) (k := r) (by omega) h1
    rw [qtm, h3] at this
    cases this
def rootB (R : DRoot) : Bool := (rowL (rowS R 0)).all finB && ((rowL (rowS R 1)).all finB && ((rowL (rowS R 2)).all finB && ((rowL (rowS R 3)).all finB && ((rowL (rowS R 4)).all finB && ((rowL (rowS R 5)).all finB && true)))))
theorem qoo (R : DRoot) : impl_isFiniteRoot R = some ((rootB R, ()), ()) := by
  simp only [impl_isFiniteRoot, qgc, Option.bind_some, qlp]
  rfl
theorem qwl (T : DTab) : rootB (outT T) = outB T := by
  have e1 : rootB (outT T) = ([osg T 0 0, 0, 0, 0, 0, 0].all finB && ([osg T 1 0, osg T 1 1, 0, 0, 0, 0].all finB && ([osg T 2 0, osg T 2 1, osg T 2 2, 0, 0, 0].all finB && ([osg T 3 0, osg T 3 1, osg T 3 2, osg T 3 3, 0, 0].all finB && ([osg T 4 0, osg T 4 1, osg T 4 2, osg T 4 3, osg T 4 4, 0].all finB && ([osg T 5 0, osg T 5 1, osg T 5 2, osg T 5 3, osg T 5 4, osg T 5 5].all finB && true)))))) := rfl
  have e2 : outB T = ([osg T 0 0, osg T 1 0, osg T 2 0, osg T 3 0, osg T 4 0, osg T 5 0].all finB && ([osg T 1 1, osg T 2 1, osg T 3 1, osg T 4 1, osg T 5 1].all finB && ([osg T 2 2, osg T 3 2, osg T 4 2, osg T 5 2].all finB && ([osg T 3 3, osg T 4 3, osg T 5 3].all finB && ([osg T 4 4, osg T 5 4].all finB && ([osg T 5 5].all finB && true)))))) := rfl
  rw [e1, e2]
  simp only [List.all_cons, List.all_nil, qha, Bool.and_true]
  ac_rfl
theorem qvl {T : DTab} (h : outB T = true) : (restC (outT T)).all id = true := by
  have hd : ∀ i, i < 6 → fLt .f32 (osg T i i) 0 = false := fun i hi => by
    have hf := qo5 h (Nat.le_refl i) hi
    rw [qtm] at hf
    unfold osg
    cases hl : fLt .f32 (tg T i i) 0 with
    | false => exact hl
    | true => exact qub hf hl
  have z : fEq .f32 0 0 = true := by decide
  have e : (restC (outT T)).all id = (([osg T 0 0, 0, 0, 0, 0, 0].all finB && (!fLt .f32 (osg T 0 0) 0 && (fEq .f32 0 0 && (fEq .f32 0 0 && (fEq .f32 0 0 && (fEq .f32 0 0 && (fEq .f32 0 0 && (
    [osg T 1 0, osg T 1 1, 0, 0, 0, 0].all finB && (!fLt .f32 (osg T 1 1) 0 && (fEq .f32 0 0 && (fEq .f32 0 0 && (fEq .f32 0 0 && (fEq .f32 0 0 && (
    [osg T 2 0, osg T 2 1, osg T 2 2, 0, 0, 0].all finB && (!fLt .f32 (osg T 2 2) 0 && (fEq .f32 0 0 && (fEq .f32 0 0 && (fEq .f32 0 0 && (
    [osg T 3 0, osg T 3 1, osg T 3 2, osg T 3 3, 0, 0].all finB && (!fLt .f32 (osg T 3 3) 0 && (fEq .f32 0 0 && (fEq .f32 0 0 && (
    [osg T 4 0, osg T 4 1, osg T 4 2, osg T 4 3, osg T 4 4, 0].all finB && (!fLt .f32 (osg T 4 4) 0 && (fEq .f32 0 0 && (
    [osg T 5 0, osg T 5 1, osg T 5 2, osg T 5 3, osg T 5 4, osg T 5 5].all finB && (!fLt .f32 (osg T 5 5) 0 && true)))))))))))))))))))))))))))) := rfl
  rw [e]
  have f := fun (k i : Nat) (hi : i ≤ k) (hk : k < 6) => qo5 h hi hk
  simp only [List.all_cons, List.all_nil, qha, z, hd 0 (by omega), hd 1 (by omega), hd 2 (by omega), hd 3 (by omega), hd 4 (by omega), hd 5 (by omega), f 0 0 (by omega) (by omega), f 1 0 (by omega) (by omega), f 1 1 (by omega) (by omega), f 2 0 (by omega) (by omega), f 2 1 (by omega) (by omega), f 2 2 (by omega) (by omega), f 3 0 (by omega) (by omega), f 3 1 (by omega) (by omega), f 3 2 (by omega) (by omega), f 3 3 (by omega) (by omega), f 4 0 (by omega) (by omega), f 4 1 (by omega) (by omega), f 4 2 (by omega) (by omega), f 4 3 (by omega) (by omega), f 4 4 (by omega) (by omega), f 5 0 (by omega) (by omega), f 5 1 (by omega) (by omega), f 5 2 (by omega) (by omega), f 5 3 (by omega) (by omega), f 5 4 (by omega) (by omega), f 5 5 (by omega) (by omega), Bool.and_true, Bool.and_self, Bool.not_false]
abbrev DCode := (DRoot × Int × Unit) × Unit
theorem qwp (T : DTab) : ∃ a : DCode, run impl_LowerOf_l8 ((0 : Int), T, ()) = some a ∧ spec_l03Lower T = some a ∧ (a = ((z6, (4 : Int), ()), ()) ∨ (finT T = true ∧ ∃ U, outB U = true ∧ a = ((outT U, (0 : Int), ()), ()))) := by
  obtain ⟨a, b, h1, h2, rfl, h4⟩ := qps (f := impl_LowerOf_l8) (g := spec_l03Lower_l2) (fun s t => s = t ∧ ∃ (i : Nat) (U : DTab), s = ((i : Int), U, ()) ∧ i ≤ 6 ∧ (finT T = false → Seen i U fun _ _ => True)) (fun s => (6 - s.1).toNat)
    (fun a b : DCode => a = b ∧ (a = ((z6, (4 : Int), ()), ()) ∨ (finT T = true ∧ ∃ U, outB U = true ∧ a = ((outT U, (0 : Int), ()), ())))) (fun s t hR => by
      obtain ⟨rfl, i, U, rfl, hi, hs⟩ := hR
      by_cases h6 : i < 6
      · have e1 : iLt (i : Int) 6 = true := qah (by omega)
        have e5 : iAdd .i64 (i : Int) 1 = ((i + 1 : Nat) : Int) := qap (n := 6) h6 (by omega)
        have f1 : impl_LowerOf_l8 ((i : Int), U, ()) = run (impl_LowerOf_l11 ((i : Int), U, ())) (((i + 1 : Nat) : Int), U, ()) := by simp only [impl_LowerOf_l8, e1, e5, cond_true]
        have f2 : spec_l03Lower_l2 ((i : Int), U, ()) = run (impl_LowerOf_l11 ((i : Int), U, ())) (((i + 1 : Nat) : Int), U, ()) := by
          simp only [spec_l03Lower_l2, e1, e5, cond_true]
          rfl
        obtain ⟨o, ho, hh⟩ := qabc h6 (finT T = false) hs
        rw [f1, f2, ho]
        rcases hh with ⟨U', rfl, hU⟩ | rfl
        · exact .inl ⟨_, _, rfl, rfl, ⟨rfl, i + 1, U', rfl, by omega, hU⟩, by show (6 - ((i + 1 : Nat) : Int)).toNat < (6 - (i : Int)).toNat; omega⟩
        · exact .inr ⟨_, _, rfl, rfl, rfl, .inl rfl⟩
      · have : i = 6 := by omega
        subst this
        have f1 : impl_LowerOf_l8 ((6 : Int), U, ()) = Option.map Sum.inr (run (impl_LowerOf_l30 ((6 : Int), U, ())) ((0 : Int), z6, ())) := by kernel_rfl
        have f2 : spec_l03Lower_l2 ((6 : Int), U, ()) = Option.map Sum.inr (run (spec_l03Lower_l25 ((6 : Int), U, ())) ((0 : Int), z6, ())) := by kernel_rfl
        have g1 : run (impl_LowerOf_l30 ((6 : Int), U, ())) ((0 : Int), z6, ()) = bif outB U then some ((outT U, (0 : Int), ()), ()) else some ((z6, (4 : Int), ()), ()) := by
          refine (qaa5 _).trans ((qaa4 U).trans ?_)
          rw [qoo, qwl]
          cases outB U <;> rfl
        have g2 := qaa6 U
        refine .inr ?_
        cases ho : outB U with
        | false =>
          rw [ho] at g1 g2
          exact ⟨_, _, f1.trans (congrArg (Option.map Sum.inr) g1), f2.trans (congrArg (Option.map Sum.inr) g2), rfl, .inl rfl⟩
        | true =>
          rw [ho] at g1 g2
          refine ⟨_, _, f1.trans (congrArg (Option.map Sum.inr) g1), f2.trans (congrArg (Option.map Sum.inr) g2), rfl, .inr ⟨?_, U, ho, rfl⟩⟩
          cases hf : finT T with
          | true => rfl
          | false =>
            have := qx5 (hs hf)
            rw [ho] at this
            cases this) ⟨rfl, 0, T, rfl, by omega, qt7⟩
  exact ⟨a, h1, h2, h4⟩
theorem qin (r : Vec 6 Nat) : spec_l03Six r = some (((rowL r).all finB, ()), ()) := by
  simp only [spec_l03Six, qax, Option.bind_some, qlp]
  rfl
theorem qbd (s : DState) : spec_l03Ok s = some ((stateB s, ()), ()) := by
  simp only [spec_l03Ok, qin, Option.bind_some, qlp, qtt, Bool.not_not]
  rfl
abbrev zS : DState := ((0, 0, 0, 0, 0, 0, ()), ((0, 0, 0, 0, 0, 0, ()), (0, 0, 0, 0, 0, 0, ()), (0, 0, 0, 0, 0, 0, ()), (0, 0, 0, 0, 0, 0, ()), (0, 0, 0, 0, 0, 0, ()), (0, 0, 0, 0, 0, 0, ()), ()), ())
abbrev DMade := (DState × Int × Unit) × Unit
theorem qk8 (x : Vec 6 Nat) (T : DTab) : ∃ (w : DState) (k : Int), impl_rooted x T = some ((w, k, ()), ()) ∧ ((spec_l03Lower T).bind fun y => (spec_l03Made ((x, y.1.1, ()) : DState) y.1.2.1).bind fun y => some ((y.1.1, y.1.2.1, ()), ())) = some ((w, k, ()), ()) ∧ ((k = 0 ∧ stateB w = true) ∨ (k = 4 ∧ w = zS)) ∧ (finT T = false → k = 4) := by
  obtain ⟨a, h1, h2, h3⟩ := qwp T
  have hL := qab0 T
  rcases h3 with rfl | ⟨hf, U, hU, rfl⟩
  · refine ⟨zS, 4, ?_, ?_, .inr ⟨rfl, rfl⟩, fun _ => rfl⟩
    · cases hf : finT T with
      | true =>
        rw [hf, cond_true, h1] at hL
        simp only [impl_rooted, hL, Option.bind_some]
        rfl
      | false =>
        rw [hf, cond_false] at hL
        simp only [impl_rooted, hL, Option.bind_some]
        rfl
    · rw [h2]
      rfl
  · rw [hf, cond_true, h1] at hL
    have hv : stateB ((x, outT U, ()) : DState) = (rowL x).all finB := by
      show ((rowL x).all finB && (restC (outT U)).all id) = _
      rw [qvl hU, Bool.and_true]
    cases hx : (rowL x).all finB with
    | true =>
      rw [hx] at hv
      refine ⟨(x, outT U, ()), 0, ?_, ?_, .inl ⟨rfl, hv⟩, fun q => ?_⟩
      · simp only [impl_rooted, hL, Option.bind_some, qgc]
        show (bif !(rowL x).all finB then _ else _) = _
        rw [hx]
        rfl
      · rw [h2]
        simp only [Option.bind_some, spec_l03Made, qbd, hv]
        rfl
      · rw [hf] at q; cases q
    | false =>
      rw [hx] at hv
      refine ⟨zS, 4, ?_, ?_, .inr ⟨rfl, rfl⟩, fun _ => rfl⟩
      · simp only [impl_rooted, hL, Option.bind_some, qgc]
        show (bif !(rowL x).all finB then _ else _) = _
        rw [hx]
        rfl
      · rw [h2]
        simp only [Option.bind_some, spec_l03Made, qbd, hv]
        rfl
end Go.Proofs.YtildomllnnnofaaGreat
