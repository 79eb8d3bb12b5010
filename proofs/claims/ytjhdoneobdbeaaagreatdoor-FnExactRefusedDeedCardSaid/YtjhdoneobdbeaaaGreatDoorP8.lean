import Derived.Test.YtjhdoneobdbeaaaGreatDoorP7
/- Functions of the program and of the reference in plain terms. -/
set_option linter.unusedSectionVars false
set_option linter.unusedSimpArgs false
set_option linter.unusedVariables false
namespace Go.Proofs.YtjhdoneobdbeaaaGreatDoor
open Go Go.Tm
section
noncomputable def doF (f:DFleet) (y:DYard) (d:DDeed):Int×DYard :=
 match qb5 ((f,y,()):DRun) d with
 | some r=>(r.1.1,r.2.1.2.1)
 | none=>(0,y)
theorem qakq {f:DFleet} (hf:FleetOK f) {y:DYard} (hy:YardOK f y) {d:DDeed} (hd:deedB d=true) :
  qcp ((f,y,()):DRun) d=some (((doF f y d).1,()),(((f,(doF f y d).2,()):DRun),()))∧qb5 ((f,y,()):DRun) d=some (((doF f y d).1,()),(((f,(doF f y d).2,()):DRun),()))∧YardOK f (doF f y d).2:=by
 obtain ⟨code,y',h1,h2,h3⟩:=qak0 hf hy hd
 have e:doF f y d=(code,y'):=by unfold doF;rw [h2]
 rw [e]
 exact ⟨h1,h2,h3⟩
noncomputable def playF (f:DFleet):DYard→List DDeed→DYard×List Int
 | y,[]=>(y,[])
 | y,d :: r=>((playF f (doF f y d).2 r).1,(doF f y d).1 :: (playF f (doF f y d).2 r).2)
theorem qaej (f:DFleet) : ∀ (ds:List DDeed) (y:DYard),(playF f y ds).2.length=ds.length
 | [],_=>rfl
 | d :: r,y=>by
  show ((doF f y d).1 :: (playF f (doF f y d).2 r).2).length=_
  rw [List.length_cons,qaej f r,List.length_cons]
def mind0 (f:DFleet):DMind:=((f.1,[],()),0,())
def yard0 (f:DFleet):DYard:=(List.replicate f.2.2.1.length (mind0 f),List.replicate f.2.2.1.length (mind0 f),[],())
theorem qad4 (f:DFleet) (i:Nat):MindOK f i (mind0 f):=⟨⟨rfl,Nat.zero_le _,⟨fun x hx=>(by cases hx),List.Pairwise.nil⟩,fun x hx=>(by cases hx)⟩,Int.le_refl _,Int.natCast_nonneg _⟩
theorem qaeu (f:DFleet):YardOK f (yard0 f):=by
 refine ⟨List.length_replicate,List.length_replicate,fun i h => ?_,fun i h => ?_,Nat.zero_le _,fun p hp=>by cases hp⟩
 ·have:(yard0 f).1[i]=mind0 f:=List.getElem_replicate _
  rw [this];exact qad4 f i
 ·have:(yard0 f).2.1[i]=mind0 f:=List.getElem_replicate _
  rw [this];exact qad4 f i
theorem qacf {α:Type} (a:α) (n:Nat):List.replicate n a++[a]=List.replicate (n+1) a:=by rw [← List.replicate_succ']
theorem qad8 {f:DFleet} (hl:f.2.2.1.length≤100):qix f=some (((((f,yard0 f,()):DRun),()),()) ):=by
 unfold qix
 have key : ∀ (d i:Nat),i+d=f.2.2.1.length→run (qd0 f) ((i:Int),((f,(List.replicate i (mind0 f),List.replicate i (mind0 f),[],()),()):DRun),())=some (((((f,yard0 f,()):DRun),()),())):=by
  intro d
  induction d with
  | zero =>
   intro i hi
   have hi:i=f.2.2.1.length:=by omega
   subst hi
   refine qak ?_
   unfold qd0
   simp only
   rw [qah (by rw [qaa];omega)]
   rfl
  | succ d ih =>
   intro i hi
   have hstep:qd0 f ((i:Int),((f,(List.replicate i (mind0 f),List.replicate i (mind0 f),[],()),()):DRun),())=some (.inl (((i+1:Nat):Int),((f,(List.replicate (i+1) (mind0 f),List.replicate (i+1) (mind0 f),[],()),()):DRun),())):=by
    unfold qd0
    simp only
    rw [qag (by rw [qaa];omega),qav (by rw [List.length_replicate];omega),qap (n:=f.2.2.1.length) (by omega) (by omega)]
    simp only [cond_true]
    rw [show List.replicate i (mind0 f)++([((f.1,[],()),0,())]:List DMind)=List.replicate (i+1) (mind0 f) from qacf (mind0 f) i]
   rw [qan hstep]
   exact ih (i+1) (by omega)
 exact key f.2.2.1.length 0 (by omega)
theorem qaiv {f:DFleet} (hl:f.2.2.1.length≤100):qju f=some (((((f,yard0 f,()):DRun),()),())):=by
 unfold qju
 have key : ∀ (d i:Nat),i+d=f.2.2.1.length→run (qer f) ((i:Int),((f,(List.replicate i (mind0 f),List.replicate i (mind0 f),[],()),()):DRun),())=some (((((f,yard0 f,()):DRun),()),())):=by
  intro d
  induction d with
  | zero =>
   intro i hi
   have hi:i=f.2.2.1.length:=by omega
   subst hi
   refine qak ?_
   unfold qer
   simp only
   rw [qah (by rw [qaa];omega)]
   rfl
  | succ d ih =>
   intro i hi
   have hstep:qer f ((i:Int),((f,(List.replicate i (mind0 f),List.replicate i (mind0 f),[],()),()):DRun),())=some (.inl (((i+1:Nat):Int),((f,(List.replicate (i+1) (mind0 f),List.replicate (i+1) (mind0 f),[],()),()):DRun),())):=by
    unfold qer
    simp only
    rw [qag (by rw [qaa];omega),qav (by rw [List.length_replicate];omega),qap (n:=f.2.2.1.length) (by omega) (by omega)]
    simp only [cond_true]
    rw [show List.replicate i (mind0 f)++([((f.1,[],()),0,())]:List DMind)=List.replicate (i+1) (mind0 f) from qacf (mind0 f) i]
   rw [qan hstep]
   exact ih (i+1) (by omega)
 exact key f.2.2.1.length 0 (by omega)
theorem qajg {f:DFleet} (hf:Fit TyFleet f) (hb:fleetB f=true):FleetOK f:=by
 unfold fleetB at hb
 simp only [Bool.and_eq_true,List.all_eq_true,Bool.not_eq_true',qmq] at hb
 obtain ⟨h1,h2,⟨h3,h4⟩,h5⟩:=hb
 obtain ⟨f1,f2,f3,f4⟩:=hf
 rw [qaa] at h3 h4
 refine ⟨h1,f1,by omega,by omega,fun l hl => ?_⟩
 obtain ⟨h6,h7⟩:=h5 l hl
 rw [qaa] at h6
 have h6:=of_decide_eq_false h6
 refine ⟨by omega,fun x hx => ?_⟩
 have hfx:=(f3.2 l hl).2 x hx
 exact ⟨hfx.1,hfx.2.1⟩
def givenC (f:DFleet) (ds:List DDeed):Int:=bif fleetB f then (bif ds.all deedB then (bif iLt 200 (lenI ds) then 2 else 0) else 1) else 1
theorem qai2 {f:DFleet} (sf:Sized TyFleet f) {ds:List DDeed} (hl:ds.length≤140737488355328):qhq f ds=some ((givenC f ds,()),()):=by
 unfold qhq givenC
 rw [qu9 f sf]
 simp only [Option.bind_some]
 cases fleetB f with
 | false=>rfl
 | true =>
  have:=qkc ds (fun z790=>(qfw z790.1).map fun y=>y.1.1) (fun d => !deedB d) hl (fun d _=>by
   unfold qfw
   rw [qwb]
   rfl)
  simp only [Bool.not_true,cond_false,cond_true]
  rw [show qbc ds _=_ from this]
  simp only [Option.bind_some]
  have e:(ds.any fun d => !deedB d) = !ds.all deedB:=by rw [List.not_all_eq_any_not]
  rw [e]
  cases ds.all deedB with
  | false=>rfl
  | true=>cases iLt 200 (lenI ds) <;> rfl
theorem qaji {f:DFleet} (sf:Sized TyFleet f) {ds:List DDeed} (hl:ds.length≤140737488355328):qjv f ds=some ((givenC f ds,()),()):=by
 unfold qjv givenC
 rw [qac4 f sf]
 simp only [Option.bind_some]
 cases fleetB f with
 | false=>rfl
 | true =>
  simp only [Bool.not_true,cond_false,cond_true]
  have:=qxz (f:=qet ds) (xs:=ds) (fun i (s:Unit)=>((i:Int),())) deedB (fun s _=>s) (((1:Int),()),()) (fun s=>some (bif iLt 200 (lenI ds) then (((2:Int),()),()) else (((0:Int),()),()))) (fun i hi s => ?_) (fun s => ?_) ()
  ·rw [show run (qet ds) ((0:Int),())=_ from this]
   cases ds.all deedB with
   | false=>rfl
   | true=>cases iLt 200 (lenI ds) <;> rfl
  ·have e1:iLt (i:Int) (lenI ds)=true:=qag (by rw [qaa];omega)
   have e2:inB (i:Int) ds.length=true:=qaf hi
   have e4:ds.getD i ((0,0,0,()):DDeed)=ds[i]:=qal hi
   have e5:iAdd .i64 (i:Int) 1=((i+1:Nat):Int):=qap hi (by omega)
   simp only [qet,e1,e2,e4,e5,Int.toNat_natCast,qaai,Option.bind_some,cond_true]
   cases deedB ds[i] <;> rfl
  ·have e1:iLt (ds.length:Int) (lenI ds)=false:=qah (by rw [qaa];omega)
   simp only [qet,e1,cond_false]
   cases iLt 200 (lenI ds) <;> rfl
theorem qagn {f:DFleet} {ds:List DDeed} (h:givenC f ds=0):fleetB f=true∧(∀ d∈ds,deedB d=true)∧ds.length≤200:=by
 unfold givenC at h
 cases h1:fleetB f with
 | false=>rw [h1] at h;exact absurd (show (1:Int)=0 from h) (by decide)
 | true =>
  cases h2:ds.all deedB with
  | false=>rw [h1,h2] at h;exact absurd (show (1:Int)=0 from h) (by decide)
  | true =>
   cases h3:iLt 200 (lenI ds) with
   | true=>rw [h1,h2,h3] at h;exact absurd (show (2:Int)=0 from h) (by decide)
   | false =>
    have:=of_decide_eq_false h3
    rw [qaa] at this
    exact ⟨rfl,List.all_eq_true.1 h2,by omega⟩
theorem qaj3 {f:DFleet} (hf:FleetOK f) {ds:List DDeed} (hl:ds.length≤200) (hd : ∀ d∈ds,deedB d=true):ql1 f ds=some (((((f,(playF f (yard0 f) ds).1,()):DRun),(playF f (yard0 f) ds).2,()),())):=by
 unfold ql1
 have hfew:=hf.few
 rw [qaiv (by omega)]
 simp only [Option.bind_some]
 have key : ∀ (r:List DDeed) (i:Nat),ds.drop i=r→i≤ds.length → ∀ (y:DYard) (c:List Int),YardOK f y→c.length=i→run (qfl ds) (c,(i:Int),((f,y,()):DRun),())=some (((((f,(playF f y r).1,()):DRun),c++(playF f y r).2,()),())):=by
  intro r
  induction r with
  | nil =>
   intro i hi hle y c hy hc
   have hi:ds.length≤i:=List.drop_eq_nil_iff.1 hi
   refine qak ?_
   unfold qfl
   simp only
   rw [qah (by rw [qaa];omega)]
   simp only [cond_false,playF,List.append_nil]
   rfl
  | cons d r ih =>
   intro i hi hle y c hy hc
   have hlt:i<ds.length:=by
    rcases Nat.lt_or_ge i ds.length with h | h
    ·exact h
    ·rw [List.drop_eq_nil_of_le h] at hi;cases hi
   have hcons:=List.getElem_cons_drop (h:=hlt)
   rw [hi] at hcons
   obtain ⟨e1,e2⟩:=List.cons.inj hcons
   obtain ⟨-,h2,h3⟩:=qakq hf hy (d:=d) (by rw [← e1];exact hd _ (List.getElem_mem hlt))
   have hstep:qfl ds (c,(i:Int),((f,y,()):DRun),())=some (.inl (c++[(doF f y d).1],((i+1:Nat):Int),((f,(doF f y d).2,()):DRun),())):=by
    unfold qfl
    simp only
    rw [qag (by rw [qaa];omega),qaf hlt,Int.toNat_natCast,qal hlt,e1]
    simp only [cond_true]
    rw [show qb5 ((f,(y.1,y.2.1,y.2.2.1,y.2.2.2),()):DRun) d=_ from h2]
    simp only [Option.bind_some]
    rw [qav (by omega),qap hlt (by omega)]
    rfl
   rw [qan hstep,ih (i+1) e2 (by omega) _ _ h3 (by rw [List.length_append,hc];rfl)]
   simp only [playF,List.append_assoc,List.singleton_append]
 have:=key ds 0 rfl (Nat.zero_le _) (yard0 f) [] (qaeu f) rfl
 exact this
def refF:Nat→List Int→Int×Int×Int×Unit
 | _,[]=>(0,0,6,())
 | i,c :: r=>bif iEq c 0 then refF (i+1) r else ((i:Int),c,0,())
theorem qadv {f:DFleet} (hf:FleetOK f) {ds:List DDeed} (hl:ds.length≤200) (hd : ∀ d∈ds,deedB d=true) : ∀ (r:List DDeed) (i:Nat),ds.drop i=r→i≤ds.length → ∀ (y:DYard),YardOK f y →
  run (qdb ds) ((i:Int),((f,y,()):DRun),())=some (refF i (playF f y r).2,()):=by
 intro r
 induction r with
 | nil =>
  intro i hi hle y hy
  have hi:ds.length≤i:=List.drop_eq_nil_iff.1 hi
  refine qak ?_
  unfold qdb
  simp only
  rw [qah (by rw [qaa];omega)]
  rfl
 | cons d r ih =>
  intro i hi hle y hy
  have hlt:i<ds.length:=by
   rcases Nat.lt_or_ge i ds.length with h | h
   ·exact h
   ·rw [List.drop_eq_nil_of_le h] at hi;cases hi
  have hcons:=List.getElem_cons_drop (h:=hlt)
  rw [hi] at hcons
  obtain ⟨e1,e2⟩:=List.cons.inj hcons
  obtain ⟨h1,-,h3⟩:=qakq hf hy (d:=d) (by rw [← e1];exact hd _ (List.getElem_mem hlt))
  have hstep:qdb ds ((i:Int),((f,y,()):DRun),())=bif iEq (doF f y d).1 0 then some (.inl (((i+1:Nat):Int),((f,(doF f y d).2,()):DRun),())) else some (.inr (((i:Int),(doF f y d).1,0,()),())):=by
   unfold qdb
   simp only
   rw [qag (by rw [qaa];omega),qaf hlt,Int.toNat_natCast,qal hlt,e1]
   simp only [cond_true]
   rw [show qcp ((f,(y.1,y.2.1,y.2.2.1,y.2.2.2),()):DRun) d=_ from h1]
   simp only [Option.bind_some]
   rw [qap hlt (by omega)]
   cases iEq (doF f y d).1 0 <;> rfl
  show _=some (bif iEq (doF f y d).1 0 then refF (i+1) (playF f (doF f y d).2 r).2 else ((i:Int),(doF f y d).1,0,()),())
  cases hc:iEq (doF f y d).1 0 with
  | true =>
   rw [hc] at hstep
   rw [qan hstep,ih (i+1) e2 (by omega) _ h3]
   rfl
  | false =>
   rw [hc] at hstep
   exact qak hstep
theorem qaeq {z:DRun} {cs:List Int} (hl:cs.length≤200) : ∀ (r:List Int) (i:Nat),cs.drop i=r→i≤cs.length→run (qdc ((z,cs,()),())) ((i:Int),())=some (refF i r,()):=by
 intro r
 induction r with
 | nil =>
  intro i hi hle
  have hi:cs.length≤i:=List.drop_eq_nil_iff.1 hi
  refine qak ?_
  unfold qdc
  simp only
  rw [qah (by rw [qaa];omega)]
  rfl
 | cons c r ih =>
  intro i hi hle
  have hlt:i<cs.length:=by
   rcases Nat.lt_or_ge i cs.length with h | h
   ·exact h
   ·rw [List.drop_eq_nil_of_le h] at hi;cases hi
  have hcons:=List.getElem_cons_drop (h:=hlt)
  rw [hi] at hcons
  obtain ⟨e1,e2⟩:=List.cons.inj hcons
  have hstep:qdc ((z,cs,()),()) ((i:Int),())=bif iEq c 0 then some (.inl (((i+1:Nat):Int),())) else some (.inr (((i:Int),c,0,()),())):=by
   unfold qdc
   simp only
   rw [qag (by rw [qaa];omega),qaf hlt,Int.toNat_natCast,qal hlt,e1,qap hlt (by omega)]
   cases iEq c 0 <;> rfl
  show _=some (bif iEq c 0 then refF (i+1) r else ((i:Int),c,0,()),())
  cases hc:iEq c 0 with
  | true =>
   rw [hc] at hstep
   rw [qan hstep,ih (i+1) e2 (by omega)]
   rfl
  | false =>
   rw [hc] at hstep
   exact qak hstep
abbrev TyDeed:Ty:=.pair (.int .i64) (.pair (.int .i64) (.pair (.int .i64) .unit))
noncomputable def refusedF (f:DFleet) (ds:List DDeed):Int×Int×Int×Unit:=bif iEq (givenC f ds) 0 then refF 0 (playF f (yard0 f) ds).2 else (0,0,givenC f ds,())
theorem qagw {f:DFleet} (hf:Fit TyFleet f) {ds:List DDeed} (hd:Fit (.list TyDeed) ds):qgq f ds=some (refusedF f ds,())∧qg4 f ds=some (refusedF f ds,()):=by
 have sf:Sized TyFleet f:=qdn rfl hf
 have sd:Sized (.list TyDeed) ds:=qdn rfl hd
 have hl:ds.length≤140737488355328:=sd.1
 unfold qgq qg4 refusedF
 rw [qai2 sf hl,qaji sf hl]
 simp only [Option.bind_some]
 cases hc:iEq (givenC f ds) 0 with
 | false=>exact ⟨rfl,rfl⟩
 | true =>
  obtain ⟨h1,h2,h3⟩:=qagn (qxo.1 hc)
  have F:=qajg hf h1
  have hfew:=F.few
  simp only [Bool.not_true,cond_false,cond_true]
  rw [qad8 (by omega),qaj3 F h3 h2]
  simp only [Option.bind_some]
  exact ⟨qadv F h3 h2 ds 0 rfl (Nat.zero_le _) (yard0 f) (qaeu f),qaeq (by rw [qaej];exact h3) _ 0 rfl (Nat.zero_le _)⟩
theorem ql5 (f:DFleet) (hf:Fit TyFleet f) (ds:List DDeed) (hd:Fit (.list TyDeed) ds) : ∃ o,qey f ds=some ((true,()),o):=by
 have sf:Sized TyFleet f:=qdn rfl hf
 have sd:Sized (.list TyDeed) ds:=qdn rfl hd
 obtain ⟨r,hr⟩:=qzb f 1048576 sf
 obtain ⟨r2,hr2⟩:=qy9 ds r
 have k1:=qzf f hf
 have k2:=qzd ds hd
 have k3:=qy5 f sf
 have k4:=qy3 ds sd
 obtain ⟨k5,k6⟩:=qagw hf hd
 obtain ⟨a1,a2,a3,⟨⟩⟩:=f
 unfold qey
 rw [hr]
 simp only [Option.bind_some]
 cases iLt r 0 with
 | true=>exact ⟨_,rfl⟩
 | false =>
  simp only [cond_false]
  rw [hr2]
  simp only [Option.bind_some]
  cases iLt r2 0 with
  | true=>exact ⟨_,rfl⟩
  | false =>
   simp only [cond_false]
   rw [k1,k2]
   simp only [Option.bind_some]
   rw [k6,k5]
   simp only [Option.bind_some,qbw,Bool.not_true,cond_false]
   rw [k3,k4]
   exact ⟨_,rfl⟩
end
end Go.Proofs.YtjhdoneobdbeaaaGreatDoor
