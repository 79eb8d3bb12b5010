import Derived.Test.YtildomllnnnofaaGreatP10
/- Functions of the program and of the reference in plain terms. -/
namespace Go.Proofs.YtildomllnnnofaaGreat
open Go Go.Tm
set_option linter.unusedVariables false
set_option linter.unusedSimpArgs false
set_option linter.unusedSectionVars false
abbrev DLeg := Int × ((Vec 3 Nat) × (Int × (Int × Unit)))
abbrev DMission := Int × ((Vec 3 Nat) × ((List (Vec 3 Nat)) × ((List DLeg) × Unit)))
abbrev DEntry := Int × ((Vec 3 Nat) × ((Vec 3 Int) × (Int × (Nat × Unit))))
abbrev DLog := Int × ((Vec 3 Nat) × ((List (Vec 3 Nat)) × ((List DEntry) × Unit)))
abbrev TyLeg : Ty := .pair (.int .i64) (.pair (.arr 3 (.flt .f32)) (.pair (.int .i64) (.pair (.int .i64) .unit)))
abbrev TyVec : Ty := .arr 3 (.flt .f32)
abbrev TyMission : Ty := .pair (.int .i64) (.pair TyVec (.pair (.list TyVec) (.pair (.list TyLeg) .unit)))
abbrev TyEntry : Ty := .pair (.int .i64) (.pair TyVec (.pair (.arr 3 (.int .i16)) (.pair (.int .i64) (.pair (.flt .f32) .unit))))
abbrev TyLog : Ty := .pair (.int .i64) (.pair TyVec (.pair (.list TyVec) (.pair (.list TyEntry) .unit)))
def sameE (a b : DEntry) : Bool := iEq a.1 b.1 && (sameV a.2.1 b.2.1 && ((iEq (Vec.getD 3 a.2.2.1 0 (0 : Int)) (Vec.getD 3 b.2.2.1 0 (0 : Int)) && (iEq (Vec.getD 3 a.2.2.1 1 (0 : Int)) (Vec.getD 3 b.2.2.1 1 (0 : Int)) && (iEq (Vec.getD 3 a.2.2.1 2 (0 : Int)) (Vec.getD 3 b.2.2.1 2 (0 : Int)) && true))) && (iEq a.2.2.2.1 b.2.2.2.1 && sameN a.2.2.2.2.1 b.2.2.2.2.1)))
theorem ql2 (a b : DEntry) : impl_sameEntry a b = some ((sameE a b, ()), ()) := by
  simp only [impl_sameEntry, qog, qf8, Option.bind_some, sameE]
  cases iEq a.1 b.1 <;> cases sameV a.2.1 b.2.1 <;> cases (iEq (Vec.getD 3 a.2.2.1 0 (0 : Int)) (Vec.getD 3 b.2.2.1 0 (0 : Int)) && (iEq (Vec.getD 3 a.2.2.1 1 (0 : Int)) (Vec.getD 3 b.2.2.1 1 (0 : Int)) && (iEq (Vec.getD 3 a.2.2.1 2 (0 : Int)) (Vec.getD 3 b.2.2.1 2 (0 : Int)) && true))) <;> cases iEq a.2.2.2.1 b.2.2.2.1 <;> rfl
def legB (n : Int) (x : DLeg) : Bool := (iLe 1 x.1 && iLe x.1 400) && (finV x.2.1 && ((iLe 0 x.2.2.1 && iLe x.2.2.1 400) && (iLe (-1) x.2.2.2.1 && iLe x.2.2.2.1 n)))
def ticksI (l : List DLeg) : Int := l.foldl (fun s x => iAdd .i64 s x.1) 0
def frameB (a : Int) (v : Vec 3 Nat) (l : List (Vec 3 Nat)) : Bool := (iLe 1 a && iLe a 64) && (finV v && (iLe (lenI l) 6 && l.all finV))
def missionB (a : DMission) : Bool := frameB a.1 a.2.1 a.2.2.1 && (iLe (lenI a.2.2.2.1) 64 && (a.2.2.2.1.all (legB (iSub .i64 (lenI a.2.2.1) 1)) && iLe (ticksI a.2.2.2.1) 400))
theorem qtj {a b : Int} : iLt b a = !iLe a b := by
  by_cases h : a ≤ b
  · rw [qaq h, qag (by omega)]; rfl
  · rw [qc9 h, qah (by omega)]; rfl
theorem qtu {α : Type} (p : α → Bool) (l : List α) : (l.any fun x => !p x) = !l.all p := by
  induction l with
  | nil => rfl
  | cons x r ih => rw [List.any_cons, List.all_cons, ih]; cases p x <;> rfl
theorem qld (a : Int) (v : Vec 3 Nat) (l : List (Vec 3 Nat)) (hl : l.length ≤ 140737488355328) : impl_validFrame a v l = some ((frameB a v l, ()), ()) := by
  have h := qep l (fun z659 => (impl_validFrame_1 z659.1).map fun y => y.1.1) (fun s => !finV s) hl (fun x _ => by
    simp only [impl_validFrame_1, qde, Option.bind_some, Option.map_some])
  simp only [impl_validFrame, h]
  simp only [qbt, qbl, qde, Option.bind_some, frameB, qtu]
  cases (iLe 1 a && iLe a 64) <;> cases finV v <;> cases iLe (lenI l) 6 <;> cases l.all finV <;> rfl
theorem qna (a : Int) (v : Vec 3 Nat) (l : List (Vec 3 Nat)) (hl : l.length ≤ 140737488355328) : spec_l08Frame a v l = some ((frameB a v l, ()), ()) := by
  have hr : run (spec_l08Frame_l4 l) ((0 : Int), ()) = some ((l.all finV, ()), ()) := by
    refine qjo (fun i hi => ?_) ?_
    · have e1 : iLt (i : Int) (lenI l) = true := qah (by rw [qaa]; omega)
      have e2 : inB (i : Int) l.length = true := qaf hi
      have e4 : l.getD i ((0, 0, 0, ()) : (Vec 3 Nat)) = l[i] := qau hi
      have e5 : iAdd .i64 (i : Int) 1 = ((i + 1 : Nat) : Int) := qap hi (by omega)
      simp only [spec_l08Frame_l4, e1, e2, e4, e5, Int.toNat_natCast, qdo, Option.bind_some, cond_true]
      cases finV l[i] <;> rfl
    · have e1 : iLt (l.length : Int) (lenI l) = false := qag (by rw [qaa]; omega)
      simp only [spec_l08Frame_l4, e1, cond_false]
      rfl
  simp only [spec_l08Frame, qbl, qdo, Option.bind_some, hr, frameB, qtj]
  cases (iLe 1 a && iLe a 64) <;> cases finV v <;> cases iLe (lenI l) 6 <;> rfl
theorem qew (a : DMission) (h : a.2.2.2.1.length ≤ 140737488355328) : impl_ticksOf a = some ((ticksI a.2.2.2.1, ()), ()) := by
  unfold impl_ticksOf ticksI
  refine qv6 (xs := a.2.2.2.1) (fun i (s : Int) => (s, (i : Int), ())) _ (fun s => some ((s, ()), ())) (fun i hi s => ?_) (fun s => ?_) 0
  · have e1 : iLt (i : Int) (lenI a.2.2.2.1) = true := qah (by rw [qaa]; omega)
    have e2 : inB (i : Int) a.2.2.2.1.length = true := qaf hi
    have e4 : a.2.2.2.1.getD i ((0, (0, 0, 0, ()), 0, 0, ()) : DLeg) = a.2.2.2.1[i] := qau hi
    have e5 : iAdd .i64 (i : Int) 1 = ((i + 1 : Nat) : Int) := qap hi (by omega)
    simp only [impl_ticksOf_l3, e1, e2, e4, e5, Int.toNat_natCast, cond_true]
  · have e1 : iLt (a.2.2.2.1.length : Int) (lenI a.2.2.2.1) = false := qag (by rw [qaa]; omega)
    simp only [impl_ticksOf_l3, e1, cond_false]
theorem qgt {x : Nat} (h : sameN x 0 = true) : x = 0 := by
  have h0 : isNan .f32 0 = false := by decide
  unfold sameN at h
  rw [h0] at h
  cases hx : isNan .f32 x with
  | true => rw [hx] at h; simp at h
  | false =>
    rw [hx] at h
    simp only [cond_false, qbq] at h
    omega
theorem qkt : finB 0 = true := by decide
theorem qjj (x : Nat) : sameN x x = true := by
  unfold sameN
  cases isNan .f32 x
  · simp [qck]
  · rfl
theorem qt2 (v : Vec 3 Nat) : sameV v v = true := by simp [sameV, qjj]
theorem qum {v : Vec 3 Nat} (h : sameV v (0, 0, 0, ()) = true) : finV v = true := by
  simp only [sameV, Bool.and_eq_true] at h
  obtain ⟨h1, h2, h3⟩ := h
  have e1 := qgt h1
  have e2 := qgt h2
  have e3 := qgt h3
  simp only [finV, e1, e2, e3, qkt, Bool.and_self]
def zeroC (c : Vec 3 Int) : Bool := iEq (Vec.getD 3 c 0 (0 : Int)) 0 && (iEq (Vec.getD 3 c 1 (0 : Int)) 0 && iEq (Vec.getD 3 c 2 (0 : Int)) 0)
def entryB (n : Int) (e : DEntry) : Bool :=
  bif iEq e.1 1 then sameV e.2.1 (0, 0, 0, ()) && (zeroC e.2.2.1 && (iEq e.2.2.2.1 0 && sameN e.2.2.2.2.1 0))
  else bif iEq e.1 2 then (zeroC e.2.2.1 && (iEq e.2.2.2.1 0 && sameN e.2.2.2.2.1 0)) && finV e.2.1
  else bif iEq e.1 3 then sameV e.2.1 (0, 0, 0, ()) && (iEq e.2.2.2.1 0 && sameN e.2.2.2.2.1 0)
  else bif iEq e.1 4 then (iLe 0 e.2.2.2.1 && iLe e.2.2.2.1 (iSub .i64 n 1)) && (sameV e.2.1 (0, 0, 0, ()) && (zeroC e.2.2.1 && finB e.2.2.2.2.1))
  else false
theorem qf2 (e : DEntry) (n : Int) : impl_validEntry e n = some ((entryB n e, ()), ()) := by
  have hf : impl_isFinite [e.2.2.2.2.1] = some ((finB e.2.2.2.2.1, ()), ()) := by
    rw [qbb _ (by simp)]; simp
  have hz : ∀ c : Vec 3 Int, (iEq (Vec.getD 3 c 0 (0 : Int)) (Vec.getD 3 c 0 (0 : Int)) && (iEq (Vec.getD 3 c 1 (0 : Int)) (Vec.getD 3 c 1 (0 : Int)) && iEq (Vec.getD 3 c 2 (0 : Int)) (Vec.getD 3 c 2 (0 : Int)))) = true := fun c => by simp [qck]
  have hzc : (iEq (Vec.getD 3 e.2.2.1 0 (0 : Int)) (Vec.getD 3 ((0, 0, 0, ()) : Vec 3 Int) 0 (0 : Int)) && (iEq (Vec.getD 3 e.2.2.1 1 (0 : Int)) (Vec.getD 3 ((0, 0, 0, ()) : Vec 3 Int) 1 (0 : Int)) && iEq (Vec.getD 3 e.2.2.1 2 (0 : Int)) (Vec.getD 3 ((0, 0, 0, ()) : Vec 3 Int) 2 (0 : Int)))) = zeroC e.2.2.1 := rfl
  simp only [impl_validEntry, qbt, qbl, ql2, qde, hf, Option.bind_some, sameE, entryB, hz, hzc, qck, qt2, qjj, Bool.true_and, Bool.and_true]
  have hv : sameV e.2.1 (0, 0, 0, ()) = true → finV e.2.1 = true := qum
  have hn : sameN e.2.2.2.2.1 0 = true → finB e.2.2.2.2.1 = true := fun h => by rw [qgt h]; exact qkt
  cases hV : sameV e.2.1 (0, 0, 0, ()) <;> cases hR : sameN e.2.2.2.2.1 0 <;> cases hF : finV e.2.1 <;> cases hB : finB e.2.2.2.2.1 <;> first
    | (exfalso; have := hv hV; rw [hF] at this; exact Bool.noConfusion this)
    | (exfalso; have := hn hR; rw [hB] at this; exact Bool.noConfusion this)
    | skip
  all_goals
    cases iEq e.1 1 <;> cases iEq e.1 2 <;> cases iEq e.1 3 <;> cases iEq e.1 4 <;> cases zeroC e.2.2.1 <;> cases iEq e.2.2.2.1 0 <;> cases (iLe 0 e.2.2.2.1 && iLe e.2.2.2.1 (iSub .i64 n 1)) <;> rfl
theorem qmu (e : DEntry) (n : Int) : spec_l08Entry e n = some ((entryB n e, ()), ()) := by
  have hzc : (iEq (Vec.getD 3 e.2.2.1 0 (0 : Int)) 0 && (iEq (Vec.getD 3 e.2.2.1 1 (0 : Int)) 0 && iEq (Vec.getD 3 e.2.2.1 2 (0 : Int)) 0)) = zeroC e.2.2.1 := rfl
  have q := qlj e.2.1 ((0, 0, 0, ()) : (Vec 3 Nat))
  simp only [spec_l08Entry, qbl, qeq, q, qdo, qax, Option.bind_some, entryB, Bool.and_true, hzc]
  by_cases k1 : e.1 = 1
  · simp only [k1, qck, cond_true]
    cases sameV e.2.1 (0, 0, 0, ()) <;> cases sameN e.2.2.2.2.1 0 <;> cases zeroC e.2.2.1 <;> cases iEq e.2.2.2.1 0 <;> rfl
  have e1 := qbm k1
  by_cases k2 : e.1 = 2
  · simp only [k2, qck, cond_true, show iEq 2 1 = false from rfl, cond_false]
    cases sameV e.2.1 (0, 0, 0, ()) <;> cases sameN e.2.2.2.2.1 0 <;> cases zeroC e.2.2.1 <;> cases iEq e.2.2.2.1 0 <;> cases finV e.2.1 <;> rfl
  have e2 := qbm k2
  by_cases k3 : e.1 = 3
  · simp only [k3, qck, cond_true, show iEq 3 1 = false from rfl, show iEq 3 2 = false from rfl, cond_false]
    cases sameV e.2.1 (0, 0, 0, ()) <;> cases sameN e.2.2.2.2.1 0 <;> cases iEq e.2.2.2.1 0 <;> rfl
  have e3 := qbm k3
  by_cases k4 : e.1 = 4
  · simp only [k4, qck, cond_true, show iEq 4 1 = false from rfl, show iEq 4 2 = false from rfl, show iEq 4 3 = false from rfl, cond_false]
    cases sameV e.2.1 (0, 0, 0, ()) <;> cases sameN e.2.2.2.2.1 0 <;> cases zeroC e.2.2.1 <;> cases finB e.2.2.2.2.1 <;> cases (iLe 0 e.2.2.2.1 && iLe e.2.2.2.1 (iSub .i64 n 1)) <;> rfl
  have e4 := qbm k4
  simp only [e1, e2, e3, e4, cond_false]
  cases sameV e.2.1 (0, 0, 0, ()) <;> cases sameN e.2.2.2.2.1 0 <;> rfl
def logB (a : DLog) : Bool := frameB a.1 a.2.1 a.2.2.1 && (iLe (lenI a.2.2.2.1) 1200 && a.2.2.2.1.all (entryB (lenI a.2.2.1)))
theorem qcu (a : DLog) (h : Sized TyLog a) : impl_ValidLog a = some ((logB a, ()), ()) := by
  have h1 := qdv a.2.2.2.1 (fun z1131 => (impl_ValidLog_1 z1131.1 a).map fun y => y.1.1) (fun e => !entryB (lenI a.2.2.1) e) h.2.2.2.1.1 (fun x _ => by
    simp only [impl_ValidLog_1, qf2, Option.bind_some, Option.map_some])
  simp only [impl_ValidLog, h1]
  simp only [qld a.1 a.2.1 a.2.2.1 h.2.2.1.1, Option.bind_some, logB, qtu, Bool.not_not]
  cases frameB a.1 a.2.1 a.2.2.1 <;> cases iLe (lenI a.2.2.2.1) 1200 <;> rfl
theorem qo7 (a : DLog) (h : Sized TyLog a) : spec_l08Log a = some ((logB a, ()), ()) := by
  have hl : a.2.2.2.1.length ≤ 140737488355328 := h.2.2.2.1.1
  have hr : run (spec_l08Log_l4 a) ((0 : Int), ()) = some ((a.2.2.2.1.all (entryB (lenI a.2.2.1)), ()), ()) := by
    refine qjo (fun i hi => ?_) ?_
    · have e1 : iLt (i : Int) (lenI a.2.2.2.1) = true := qah (by rw [qaa]; omega)
      have e2 : inB (i : Int) a.2.2.2.1.length = true := qaf hi
      have e4 : a.2.2.2.1.getD i ((0, (0, 0, 0, ()), (0, 0, 0, ()), 0, 0, ()) : DEntry) = a.2.2.2.1[i] := qau hi
      have e5 : iAdd .i64 (i : Int) 1 = ((i + 1 : Nat) : Int) := qap hi (by omega)
      simp only [spec_l08Log_l4, e1, e2, e4, e5, Int.toNat_natCast, qmu, Option.bind_some, cond_true]
      cases entryB (lenI a.2.2.1) a.2.2.2.1[i] <;> rfl
    · have e1 : iLt (a.2.2.2.1.length : Int) (lenI a.2.2.2.1) = false := qag (by rw [qaa]; omega)
      simp only [spec_l08Log_l4, e1, cond_false]
      rfl
  simp only [spec_l08Log, qna a.1 a.2.1 a.2.2.1 h.2.2.1.1, hr, Option.bind_some, logB, qtj]
  cases frameB a.1 a.2.1 a.2.2.1 <;> cases iLe (lenI a.2.2.2.1) 1200 <;> rfl
def addV (a b : Vec 3 Nat) : Vec 3 Nat := (fAdd .f32 (Vec.getD 3 a 0 (0 : Nat)) (Vec.getD 3 b 0 (0 : Nat)), fAdd .f32 (Vec.getD 3 a 1 (0 : Nat)) (Vec.getD 3 b 1 (0 : Nat)), fAdd .f32 (Vec.getD 3 a 2 (0 : Nat)) (Vec.getD 3 b 2 (0 : Nat)), ())
def scaleV (a : Vec 3 Nat) (c : Nat) : Vec 3 Nat := (fMul .f32 (Vec.getD 3 a 0 (0 : Nat)) c, fMul .f32 (Vec.getD 3 a 1 (0 : Nat)) c, fMul .f32 (Vec.getD 3 a 2 (0 : Nat)) c, ())
theorem qpn (a b : Vec 3 Nat) : spec_AddVec a b = some ((addV a b, ()), ()) := rfl
theorem qmw (a : Vec 3 Nat) (c : Nat) : spec_ScaleVec a c = some ((scaleV a c, ()), ()) := rfl
end Go.Proofs.YtildomllnnnofaaGreat
