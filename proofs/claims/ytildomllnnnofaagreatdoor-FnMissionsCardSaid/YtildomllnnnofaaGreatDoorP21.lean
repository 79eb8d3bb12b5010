/- Functions of the program and of the reference in plain terms. -/
import Derived.Test.YtildomllnnnofaaGreatDoorP20
namespace Go.Proofs.YtildomllnnnofaaGreatDoor
open Go Go.Tm
set_option linter.unusedVariables false
set_option linter.unusedSimpArgs false
set_option linter.unusedSectionVars false
/-! ## the law of texts of missions -/
theorem fit_bytes {l : List Int} (h : Fit (.list (.int .u8)) l) : ∀ x ∈ l, 0 ≤ x ∧ x ≤ 255 := fun x hx => h.2 x hx
theorem a2At_ok {c : List Int} (h : ∀ x ∈ c, 0 ≤ x ∧ x ≤ 255) (hl : c.length ≤ 4096) (i : Nat) (k : Nat) (hk : 1 ≤ k) (hk2 : k ≤ 1000) : ∃ v : Nat, laws_a2At c (i : Int) (k : Int) = some (((v : Int), ()), ()) ∧ v < k := by
  unfold laws_a2At
  by_cases hi : i < c.length
  · have e1 : iLe (lenI c) (i : Int) = false := iLe_neg (by rw [lenI_eq]; omega)
    have e2 : iLt (k : Int) 1 = false := iLt_neg (by omega)
    have e3 : inB (i : Int) (List.length c) = true := inB_pos hi
    have e4 : iEq (k : Int) 0 = false := iEq_neg (by omega)
    have hx := h _ (List.getElem_mem hi)
    have e5 : iWrap .i64 c[i] = c[i] := wrap_i64 (by omega) (by omega)
    have e6 : iRem .i64 c[i] (k : Int) = c[i] % (k : Int) := Int.tmod_eq_emod_of_nonneg hx.1
    rw [e1, e2, e3, e4, Int.toNat_natCast, getD_of hi, e5, e6]
    have m0 := Int.emod_nonneg c[i] (show (k : Int) ≠ 0 by omega)
    have m1 := Int.emod_lt_of_pos c[i] (show (0 : Int) < k by omega)
    refine ⟨(c[i] % (k : Int)).toNat, ?_, by omega⟩
    rw [Int.toNat_of_nonneg m0]
    rfl
  · have e1 : iLe (lenI c) (i : Int) = true := iLe_pos (by rw [lenI_eq]; omega)
    rw [e1]
    exact ⟨0, rfl, by omega⟩

theorem linesT_cons (f : List UInt8) (Y : List (List UInt8)) : linesT (f :: Y) = f ++ 10 :: linesT Y := by
  unfold linesT; rw [List.flatMap_cons]; simp
theorem linesT_app (X Y : List (List UInt8)) : linesT (X ++ Y) = linesT X ++ linesT Y := by
  unfold linesT; rw [List.flatMap_append]
theorem count_lines : ∀ (X : List (List UInt8)), (∀ f ∈ X, (10 : UInt8) ∉ f) → (linesT X).count 10 = X.length
  | [], _ => rfl
  | f :: X, h => by
    rw [linesT_cons, List.count_append, List.count_eq_zero.2 (h f (by simp)), List.count_cons, count_lines X (fun g hg => h g (List.mem_cons_of_mem _ hg))]
    simp
theorem count_run (T : List UInt8) (hT : T.length ≤ 1000000) (a1 : List Int) : ∀ (d i c : Nat), i + d = T.length → c ≤ i →
    run (laws_FnMissions_l22 ((T, ()), ()) a1) ((c : Int), (i : Int), ()) = run (laws_FnMissions_l22 ((T, ()), ()) a1) (((c + (T.drop i).count 10 : Nat) : Int), (T.length : Int), ())
  | 0, i, c, hi, hc => by
    have : i = T.length := by omega
    subst this
    rw [List.drop_length]
    rfl
  | d + 1, i, c, hi, hc => by
    have hlt : i < T.length := by omega
    have e1 : iLt (i : Int) (lenI T) = true := iLt_pos (by rw [lenI_eq]; omega)
    have e2 : inB (i : Int) (List.length T) = true := inB_pos hlt
    have e3 : strAt T (i : Int) = byteI T[i] := by rw [strAt_nat, getD_of hlt]
    have e4 : iAdd .i64 (i : Int) 1 = ((i + 1 : Nat) : Int) := iAdd_one hlt (by omega)
    have e5 : iAdd .i64 (c : Int) 1 = ((c + 1 : Nat) : Int) := by rw [iAdd_eq (by omega) (by omega)]; omega
    have e6 : iEq (byteI T[i]) 10 = decide (T[i] = 10) := byteI_eq _ 10
    have hd : T.drop i = T[i] :: T.drop (i + 1) := List.drop_eq_getElem_cons hlt
    by_cases hb : T[i] = 10
    · have hs : laws_FnMissions_l22 ((T, ()), ()) a1 ((c : Int), (i : Int), ()) = some (.inl (((c + 1 : Nat) : Int), ((i + 1 : Nat) : Int), ())) := by
        unfold laws_FnMissions_l22
        simp only
        rw [e1, e2, e3, e4, e5, e6, hb]
        rfl
      rw [run_step hs, count_run T hT a1 d (i + 1) (c + 1) (by omega) (by omega), hd, hb, List.count_cons_self, show c + 1 + (T.drop (i + 1)).count 10 = c + ((T.drop (i + 1)).count 10 + 1) by omega]
    · have hs : laws_FnMissions_l22 ((T, ()), ()) a1 ((c : Int), (i : Int), ()) = some (.inl ((c : Int), ((i + 1 : Nat) : Int), ())) := by
        unfold laws_FnMissions_l22
        simp only
        rw [e1, e2, e3, e4, e6, decide_eq_false hb]
        rfl
      rw [run_step hs, count_run T hT a1 d (i + 1) c (by omega) (by omega), hd, List.count_cons_of_ne hb]

/-! ### fractions that come back -/
def fracC (e k : Nat) : Bool := fEq .f32 (fMul .f32 (fDiv .f32 (fOfInt .f32 (-(k : Int))) (fOfInt .f32 ((2 ^ (e + 1) : Nat) : Int))) (fOfInt .f32 ((2 ^ (e + 1) : Nat) : Int))) (fNeg .f32 (fOfInt .f32 (k : Int)))
theorem frac_tab : ((List.range 10).all fun e => (List.range 256).all fun k => fracC e k) = true := by kernel_rfl
theorem frac_back {e k : Nat} (he : e < 10) (hk : k < 256) : fracC e k = true := by
  have := List.all_eq_true.1 (List.all_eq_true.1 frac_tab e (List.mem_range.2 he)) k (List.mem_range.2 hk)
  exact this
theorem two_tab : ∀ e : Fin 10, iShl .i64 1 (iWrap .u64 (iAdd .i64 1 (e.val : Int))) = ((2 ^ (e.val + 1) : Nat) : Int) ∧ iLe 0 (iWrap .u64 (iAdd .i64 1 (e.val : Int))) = true ∧ iEq (iAnd .i64 ((2 ^ (e.val + 1) : Nat) : Int) (iSub .i64 ((2 ^ (e.val + 1) : Nat) : Int) 1)) 0 = true ∧ 2 ^ (e.val + 1) ≤ 1024 ∧ 2 ≤ 2 ^ (e.val + 1) := by decide

theorem dig_free {k : Nat} {c : UInt8} (hc : digB c = false) : c ∉ Lib.decDigits k := by
  intro h
  have := List.all_eq_true.1 (decDigits_val' k).1 c h
  rw [hc] at this
  cases this
theorem readFraction_neg {e k : Nat} (he : e < 10) (hk : k < 256) :
    impl_ReadFraction (strCat (strCat (strCat [45] (Lib.decDigits k)) [47]) (Lib.decDigits (2 ^ (e + 1)))) = some ((fDiv .f32 (fOfInt .f32 (-(k : Int))) (fOfInt .f32 ((2 ^ (e + 1) : Nat) : Int)), 0, ()), ()) := by
  obtain ⟨-, -, t3, t4, t5⟩ := two_tab ⟨e, he⟩
  simp only at t3 t4 t5
  have d1 := decDigits_val' k
  have d2 := decDigits_val' (2 ^ (e + 1))
  have l1 := (spec_Decimal_ok (n := k) (by omega)).2
  have l2 := (spec_Decimal_ok (n := 2 ^ (e + 1)) (by omega)).2
  have hs : strCat (strCat (strCat [45] (Lib.decDigits k)) [47]) (Lib.decDigits (2 ^ (e + 1))) = (45 :: Lib.decDigits k) ++ 47 :: Lib.decDigits (2 ^ (e + 1)) := by unfold strCat; simp
  rw [hs]
  obtain ⟨w, h1, -, h2⟩ := impl_ReadFraction_ok (s := (45 :: Lib.decDigits k) ++ 47 :: Lib.decDigits (2 ^ (e + 1))) (by simp; omega)
  have hw := h2 (45 :: Lib.decDigits k) _ rfl (by
    intro h
    rcases List.mem_cons.1 h with h | h
    · exact absurd h (by decide)
    · exact dig_free (by decide) h)
  rw [h1, hw]
  have ht : tailS (45 :: Lib.decDigits k) = Lib.decDigits k := rfl
  have hn : negB (45 :: Lib.decDigits k) = true := rfl
  have n1 : numOK 999999 (Lib.decDigits k) = true := numOK_iff.2 ⟨k, by omega, rfl⟩
  have n2 : numOK 999999 (Lib.decDigits (2 ^ (e + 1))) = true := numOK_iff.2 ⟨_, by omega, rfl⟩
  unfold fracTwo divB signedI
  rw [ht, hn, n1, n2, d1.2.1, d2.2.1, t3, iLe_pos (by omega), iLe_pos (by omega)]
  rfl
end Go.Proofs.YtildomllnnnofaaGreatDoor
