/- Functions of the program and of the reference in plain terms. -/
import Derived.Test.YtildomllnnnofaaGreatDoorP13
namespace Go.Proofs.YtildomllnnnofaaGreatDoor
open Go Go.Tm
set_option linter.unusedVariables false
set_option linter.unusedSimpArgs false
set_option linter.unusedSectionVars false
/-! ### texts out of words and lines -/
def joinC (c : UInt8) : List (List UInt8) → List UInt8
  | [] => []
  | [w] => w
  | w :: v :: r => w ++ c :: joinC c (v :: r)
theorem join_split (c : UInt8) : ∀ (n : Nat) (s : List UInt8), s.length ≤ n → joinC c (splitC c s) = s := by
  intro n
  induction n with
  | zero =>
    intro s h
    have : s = [] := List.length_eq_zero_iff.1 (by omega)
    subst this; rfl
  | succ n ih =>
    intro s h
    rcases cut_first c s with hf | ⟨p, r, rfl, hf⟩
    · rw [splitC_free hf]; rfl
    · rw [splitC_cut r hf]
      have hl : r.length ≤ n := by simp at h; omega
      cases hr : splitC c r with
      | nil => exact absurd hr (splitC_ne c r)
      | cons x y =>
        show p ++ c :: joinC c (x :: y) = _
        rw [← hr, ih r hl]
theorem split_join (c : UInt8) : ∀ ws : List (List UInt8), ws ≠ [] → (∀ w ∈ ws, c ∉ w) → splitC c (joinC c ws) = ws
  | [], h, _ => absurd rfl h
  | [w], _, h => splitC_free (h w (by simp))
  | w :: v :: r, _, h => by
    show splitC c (w ++ c :: joinC c (v :: r)) = _
    rw [splitC_cut _ (h w (by simp)), split_join c (v :: r) (by simp) (fun x hx => h x (List.mem_cons_of_mem _ hx))]
theorem join_free {c d : UInt8} (hcd : d ≠ c) : ∀ ws : List (List UInt8), (∀ w ∈ ws, d ∉ w) → d ∉ joinC c ws
  | [], _ => by simp [joinC]
  | [w], h => h w (by simp)
  | w :: v :: r, h => by
    show d ∉ w ++ c :: joinC c (v :: r)
    intro hd
    rcases List.mem_append.1 hd with hd | hd
    · exact h w (by simp) hd
    · rcases List.mem_cons.1 hd with hd | hd
      · exact hcd hd
      · exact join_free hcd (v :: r) (fun x hx => h x (List.mem_cons_of_mem _ hx)) hd

def linesT (Ls : List (List UInt8)) : List UInt8 := Ls.flatMap fun x => x ++ [10]
theorem split_lines : ∀ Ls : List (List UInt8), (∀ x ∈ Ls, (10 : UInt8) ∉ x) → splitC 10 (linesT Ls) = Ls ++ [[]]
  | [], _ => rfl
  | x :: Ls, h => by
    have e : linesT (x :: Ls) = x ++ 10 :: linesT Ls := by
      unfold linesT; rw [List.flatMap_cons]; simp
    rw [e, splitC_cut _ (h x (by simp)), split_lines Ls (fun y hy => h y (List.mem_cons_of_mem _ hy))]
    rfl
theorem join_lines : ∀ Ls : List (List UInt8), joinC 10 (Ls ++ [[]]) = linesT Ls
  | [] => rfl
  | x :: Ls => by
    have e : linesT (x :: Ls) = x ++ 10 :: linesT Ls := by
      unfold linesT; rw [List.flatMap_cons]; simp
    rw [e, ← join_lines Ls]
    cases Ls <;> rfl
theorem lines_of {s : List UInt8} {Ls : List (List UInt8)} (h : splitC 10 s = Ls ++ [[]]) : s = linesT Ls := by
  rw [← join_lines, ← h, join_split 10 s.length s (Nat.le_refl _)]
end Go.Proofs.YtildomllnnnofaaGreatDoor
