/- Functions of the program and of the reference in plain terms. -/
import Derived.Test.YtildomllnnnofaaGreatDoorP5
namespace Go.Proofs.YtildomllnnnofaaGreatDoor
open Go Go.Tm
set_option linter.unusedVariables false
set_option linter.unusedSimpArgs false
set_option linter.unusedSectionVars false
/-! ### reading a deed -/
theorem splitC_join (c : UInt8) : ∀ s : List UInt8, List.intercalate [c] (splitC c s) = s
  | [] => rfl
  | b :: s => by
    have ih := splitC_join c s
    unfold splitC
    by_cases h : b = c
    · rw [if_pos h]
      cases hs : splitC c s with
      | nil => exact absurd hs (splitC_ne c s)
      | cons l ls =>
        rw [hs] at ih
        rw [h]
        show List.flatten (List.intersperse [c] ([] :: l :: ls)) = c :: s
        rw [show List.intersperse [c] ([] :: l :: ls) = [] :: [c] :: List.intersperse [c] (l :: ls) from rfl, List.flatten_cons, List.flatten_cons, List.nil_append]
        show [c] ++ List.flatten (List.intersperse [c] (l :: ls)) = c :: s
        rw [show List.flatten (List.intersperse [c] (l :: ls)) = s from ih]
        rfl
    · rw [if_neg h]
      cases hs : splitC c s with
      | nil => exact absurd hs (splitC_ne c s)
      | cons l ls =>
        rw [hs] at ih
        have ih : List.flatten (List.intersperse [c] (l :: ls)) = s := ih
        show List.flatten (List.intersperse [c] ((b :: l) :: ls)) = b :: s
        cases ls with
        | nil =>
          have : l ++ [] = s := ih
          show (b :: l) ++ [] = b :: s
          rw [← this]; rfl
        | cons m ms =>
          have : l ++ ([c] ++ List.flatten (List.intersperse [c] (m :: ms))) = s := ih
          show (b :: l) ++ ([c] ++ List.flatten (List.intersperse [c] (m :: ms))) = b :: s
          rw [← this]; rfl

theorem split_two {c : UInt8} {s a b : List UInt8} (h : splitC c s = [a, b]) : s = a ++ c :: b := by
  have := splitC_join c s
  rw [h] at this
  rw [← this]
  show a ++ ([c] ++ (b ++ [])) = _
  simp

theorem split_three {c : UInt8} {s a b d : List UInt8} (h : splitC c s = [a, b, d]) : s = a ++ c :: (b ++ c :: d) := by
  have := splitC_join c s
  rw [h] at this
  rw [← this]
  show a ++ ([c] ++ (b ++ ([c] ++ (d ++ [])))) = _
  simp

theorem digits_free {c : UInt8} (hc : digB c = false) (k : Nat) : c ∉ Lib.decDigits k := by
  intro h
  have := List.all_eq_true.1 (decDigits_val' k).1 c h
  rw [hc] at this
  cases this

theorem word_free {k : Nat} (h1 : 1 ≤ k) (h2 : k ≤ 7) : (32 : UInt8) ∉ deedWordsL.getD k [] := by
  rcases k with _ | _ | _ | _ | _ | _ | _ | _ | k <;> first | omega | decide

/-- a valid deed's text, cut -/
theorem deed_split {k a b : Nat} (h1 : 1 ≤ k) (h2 : k ≤ 7) (h3 : k = 2 ∨ b = 0) : splitC 32 (deedT ((k : Int), (a : Int), (b : Int), ())) = deedWordsL.getD k [] :: Lib.decDigits a :: (if k = 2 then [Lib.decDigits b] else []) := by
  have hw := word_free h1 h2
  have ha := digits_free (c := 32) rfl a
  have hb := digits_free (c := 32) rfl b
  unfold deedT
  simp only [Int.toNat_natCast]
  by_cases h : k = 2
  · rw [iEq_pos (by omega), if_pos h]
    simp only [cond_true]
    rw [show deedWordsL.getD k [] ++ [32] ++ Lib.decDigits a ++ ([32] ++ Lib.decDigits b) = deedWordsL.getD k [] ++ 32 :: (Lib.decDigits a ++ 32 :: Lib.decDigits b) by simp]
    rw [splitC_cut _ hw, splitC_cut _ ha, splitC_free hb]
  · rw [iEq_neg (by omega), if_neg h]
    simp only [cond_false]
    rw [show deedWordsL.getD k [] ++ [32] ++ Lib.decDigits a ++ [] = deedWordsL.getD k [] ++ 32 :: Lib.decDigits a by simp]
    rw [splitC_cut _ hw, splitC_free ha]

abbrev DRd := List (List UInt8) × (Bool × Unit)
def wordOf (r : DRd) : List UInt8 := r.1.getD 0 []
def restOf (r : DRd) : DRd := (r.1.drop 1, (r.1.isEmpty || r.2.1, ()))

def intOf (r : DRd) : Int := (parseInt64 (wordOf r)).1
def intRest (r : DRd) : DRd := (r.1.drop 1, ((r.1.isEmpty || r.2.1) || (!(parseInt64 (wordOf r)).2 || !(sEq (Lib.itoa (intOf r)) (wordOf r))), ()))

abbrev RdD := (DDeed × Int × Unit) × Unit
def badD : RdD := (((0, 0, 0, ()), 5, ()), ())

theorem splitC_len (c : UInt8) {s : List UInt8} : ∀ w ∈ splitC c s, w.length ≤ s.length := by
  induction s with
  | nil => intro w hw; simp [splitC] at hw; simp [hw]
  | cons b s ih =>
    intro w hw
    unfold splitC at hw
    by_cases h : b = c
    · rw [if_pos h] at hw
      rcases List.mem_cons.1 hw with rfl | hw
      · simp
      · have := ih w hw; simp; omega
    · rw [if_neg h] at hw
      cases hs : splitC c s with
      | nil => exact absurd hs (splitC_ne c s)
      | cons l ls =>
        rw [hs] at hw ih
        rcases List.mem_cons.1 hw with rfl | hw
        · have := ih l (by simp); simp; omega
        · have := ih w (by simp [hw]); simp; omega

theorem wordOf_len {ws : List (List UInt8)} {n : Nat} (h : ∀ w ∈ ws, w.length ≤ n) (k : Nat) (f : Bool) : (wordOf (ws.drop k, f, ())).length ≤ n := by
  unfold wordOf
  rw [List.getD_eq_getElem?_getD]
  cases hg : (ws.drop k)[0]? with
  | none => simp
  | some w => exact h w (List.mem_of_mem_drop (List.mem_of_getElem? hg))

/-! ### the reference reads a deed -/
/-- the kind of a word -/
def kindS (w : List UInt8) : Nat := if deedWordsL.getD 7 [] = w then 7 else if deedWordsL.getD 6 [] = w then 6 else if deedWordsL.getD 5 [] = w then 5 else if deedWordsL.getD 4 [] = w then 4 else if deedWordsL.getD 3 [] = w then 3 else if deedWordsL.getD 2 [] = w then 2 else if deedWordsL.getD 1 [] = w then 1 else 0

theorem kindS_word {w : List UInt8} (h : kindS w ≠ 0) : 1 ≤ kindS w ∧ kindS w ≤ 7 ∧ deedWordsL.getD (kindS w) [] = w := by
  unfold kindS at h ⊢
  repeat' split
  all_goals first | (rename_i e; exact ⟨by decide, by decide, e⟩) | skip
  rename_i h1 h2 h3 h4 h5 h6 h7
  rw [if_neg h1, if_neg h2, if_neg h3, if_neg h4, if_neg h5, if_neg h6, if_neg h7] at h
  exact absurd rfl h

theorem kindS_of {k : Nat} (h1 : 1 ≤ k) (h2 : k ≤ 7) : kindS (deedWordsL.getD k []) = k := by
  rcases k with _ | _ | _ | _ | _ | _ | _ | _ | k <;> first | omega | decide

def toldL : List Int := [0, 1, 2, 1, 1, 1, 1, 1]

theorem toldL_one {k : Nat} (h1 : 1 ≤ k) (h2 : k ≤ 7) (h : k ≠ 2) : toldL.getD k (0 : Int) = 1 := by
  rcases k with _ | _ | _ | _ | _ | _ | _ | _ | k <;> first | omega | rfl
end Go.Proofs.YtildomllnnnofaaGreatDoor
