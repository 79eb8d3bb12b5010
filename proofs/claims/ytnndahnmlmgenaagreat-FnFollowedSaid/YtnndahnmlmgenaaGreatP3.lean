/- Functions of the program and of the reference in plain terms. -/
import Derived.Test.YtnndahnmlmgenaaGreatP2
namespace Go.Proofs.YtnndahnmlmgenaaGreat
open Go Go.Tm
set_option linter.unusedVariables false
set_option linter.unusedSimpArgs false
set_option linter.unusedSectionVars false
/-! ### missions and logs that are the same -/
abbrev DLeg := Int × ((Vec 3 Nat) × (Int × (Int × Unit)))
abbrev DMission := Int × ((Vec 3 Nat) × ((List (Vec 3 Nat)) × ((List DLeg) × Unit)))
abbrev DEntry := Int × ((Vec 3 Nat) × ((Vec 3 Int) × (Int × (Nat × Unit))))
abbrev DLog := Int × ((Vec 3 Nat) × ((List (Vec 3 Nat)) × ((List DEntry) × Unit)))
abbrev TyLeg : Ty := .pair (.int .i64) (.pair (.arr 3 (.flt .f32)) (.pair (.int .i64) (.pair (.int .i64) .unit)))
abbrev TyVec : Ty := .arr 3 (.flt .f32)
abbrev TyMission : Ty := .pair (.int .i64) (.pair TyVec (.pair (.list TyVec) (.pair (.list TyLeg) .unit)))
abbrev TyEntry : Ty := .pair (.int .i64) (.pair TyVec (.pair (.arr 3 (.int .i16)) (.pair (.int .i64) (.pair (.flt .f32) .unit))))
abbrev TyLog : Ty := .pair (.int .i64) (.pair TyVec (.pair (.list TyVec) (.pair (.list TyEntry) .unit)))
def sameVs (a b : List (Vec 3 Nat)) : Bool := iEq (lenI a) (lenI b) && all2 sameV a b
theorem len_eq {α : Type} {a b : List α} (h : iEq (lenI a) (lenI b) = true) : a.length = b.length := by
  rw [iEq_true, lenI_eq, lenI_eq] at h
  omega

def sameLeg (a b : DLeg) : Bool := iEq a.1 b.1 && (sameV a.2.1 b.2.1 && (iEq a.2.2.1 b.2.2.1 && iEq a.2.2.2.1 b.2.2.2.1))
def sameM (a b : DMission) : Bool := iEq a.1 b.1 && (sameV a.2.1 b.2.1 && (sameVs a.2.2.1 b.2.2.1 && (iEq (lenI a.2.2.2.1) (lenI b.2.2.2.1) && all2 sameLeg a.2.2.2.1 b.2.2.2.1)))
def sameE (a b : DEntry) : Bool := iEq a.1 b.1 && (sameV a.2.1 b.2.1 && ((iEq (Vec.getD 3 a.2.2.1 0 (0 : Int)) (Vec.getD 3 b.2.2.1 0 (0 : Int)) && (iEq (Vec.getD 3 a.2.2.1 1 (0 : Int)) (Vec.getD 3 b.2.2.1 1 (0 : Int)) && (iEq (Vec.getD 3 a.2.2.1 2 (0 : Int)) (Vec.getD 3 b.2.2.1 2 (0 : Int)) && true))) && (iEq a.2.2.2.1 b.2.2.2.1 && sameN a.2.2.2.2.1 b.2.2.2.2.1)))
def sameL (a b : DLog) : Bool := iEq a.1 b.1 && (sameV a.2.1 b.2.1 && (sameVs a.2.2.1 b.2.2.1 && (iEq (lenI a.2.2.2.1) (lenI b.2.2.2.1) && all2 sameE a.2.2.2.1 b.2.2.2.1)))

/-! ### what missions are valid -/
def legB (n : Int) (x : DLeg) : Bool := (iLe 1 x.1 && iLe x.1 400) && (finV x.2.1 && ((iLe 0 x.2.2.1 && iLe x.2.2.1 400) && (iLe (-1) x.2.2.2.1 && iLe x.2.2.2.1 n)))
def ticksI (l : List DLeg) : Int := l.foldl (fun s x => iAdd .i64 s x.1) 0
def frameB (a : Int) (v : Vec 3 Nat) (l : List (Vec 3 Nat)) : Bool := (iLe 1 a && iLe a 64) && (finV v && (iLe (lenI l) 6 && l.all finV))
def missionB (a : DMission) : Bool := frameB a.1 a.2.1 a.2.2.1 && (iLe (lenI a.2.2.2.1) 64 && (a.2.2.2.1.all (legB (iSub .i64 (lenI a.2.2.1) 1)) && iLe (ticksI a.2.2.2.1) 400))
theorem iLe_not {a b : Int} : iLt b a = !iLe a b := by
  by_cases h : a ≤ b
  · rw [iLe_pos h, iLt_neg (by omega)]; rfl
  · rw [iLe_neg h, iLt_pos (by omega)]; rfl
theorem any_not {α : Type} (p : α → Bool) (l : List α) : (l.any fun x => !p x) = !l.all p := by
  induction l with
  | nil => rfl
  | cons x r ih => rw [List.any_cons, List.all_cons, ih]; cases p x <;> rfl

/-! ### logs that are valid -/
theorem sameN_zero {x : Nat} (h : sameN x 0 = true) : x = 0 := by
  have h0 : isNan .f32 0 = false := by decide
  unfold sameN at h
  rw [h0] at h
  cases hx : isNan .f32 x with
  | true => rw [hx] at h; simp at h
  | false =>
    rw [hx] at h
    simp only [cond_false, iEq_true] at h
    omega
theorem finB_zero : finB 0 = true := by decide
theorem sameN_self (x : Nat) : sameN x x = true := by
  unfold sameN
  cases isNan .f32 x
  · simp [iEq_self]
  · rfl
theorem sameV_self (v : Vec 3 Nat) : sameV v v = true := by simp [sameV, sameN_self]
theorem sameV_zero {v : Vec 3 Nat} (h : sameV v (0, 0, 0, ()) = true) : finV v = true := by
  simp only [sameV, Bool.and_eq_true] at h
  obtain ⟨h1, h2, h3⟩ := h
  have e1 := sameN_zero h1
  have e2 := sameN_zero h2
  have e3 := sameN_zero h3
  simp only [finV, e1, e2, e3, finB_zero, Bool.and_self]
def zeroC (c : Vec 3 Int) : Bool := iEq (Vec.getD 3 c 0 (0 : Int)) 0 && (iEq (Vec.getD 3 c 1 (0 : Int)) 0 && iEq (Vec.getD 3 c 2 (0 : Int)) 0)
def entryB (n : Int) (e : DEntry) : Bool :=
  bif iEq e.1 1 then sameV e.2.1 (0, 0, 0, ()) && (zeroC e.2.2.1 && (iEq e.2.2.2.1 0 && sameN e.2.2.2.2.1 0))
  else bif iEq e.1 2 then (zeroC e.2.2.1 && (iEq e.2.2.2.1 0 && sameN e.2.2.2.2.1 0)) && finV e.2.1
  else bif iEq e.1 3 then sameV e.2.1 (0, 0, 0, ()) && (iEq e.2.2.2.1 0 && sameN e.2.2.2.2.1 0)
  else bif iEq e.1 4 then (iLe 0 e.2.2.2.1 && iLe e.2.2.2.1 (iSub .i64 n 1)) && (sameV e.2.1 (0, 0, 0, ()) && (zeroC e.2.2.1 && finB e.2.2.2.2.1))
  else false

def logB (a : DLog) : Bool := frameB a.1 a.2.1 a.2.2.1 && (iLe (lenI a.2.2.2.1) 1200 && a.2.2.2.1.all (entryB (lenI a.2.2.1)))
end Go.Proofs.YtnndahnmlmgenaaGreat
