import Derived.Test.YtjhdoneobdbeaaaGreatDoorP7
/- Functions of the program and of the reference in plain terms. -/
set_option linter.unusedSectionVars false
set_option linter.unusedSimpArgs false
set_option linter.unusedVariables false
namespace Go.Proofs.YtjhdoneobdbeaaaGreatDoor
open Go Go.Tm
section
noncomputable def doF (f:DFleet) (y:DYard) (d:DDeed):Int×DYard :=
 match qb9 ((f,y,()):DRun) d with
 | some r=>(r.1.1,r.2.1.2.1)
 | none=>(0,y)
theorem qaid {f:DFleet} (hf:FleetOK f) {y:DYard} (hy:YardOK f y) {d:DDeed} (hd:deedB d=true) :
  qcv ((f,y,()):DRun) d=some (((doF f y d).1,()),(((f,(doF f y d).2,()):DRun),()))∧qb9 ((f,y,()):DRun) d=some (((doF f y d).1,()),(((f,(doF f y d).2,()):DRun),()))∧YardOK f (doF f y d).2:=by
 obtain ⟨code,y',h1,h2,h3⟩:=qamv hf hy hd
 have e:doF f y d=(code,y'):=by unfold doF;rw [h2]
 rw [e]
 exact ⟨h1,h2,h3⟩
noncomputable def playF (f:DFleet):DYard→List DDeed→DYard×List Int
 | y,[]=>(y,[])
 | y,d :: r=>((playF f (doF f y d).2 r).1,(doF f y d).1 :: (playF f (doF f y d).2 r).2)
theorem qacl {f:DFleet} (hf:FleetOK f) : ∀ (ds:List DDeed) {y:DYard},YardOK f y→(∀ d∈ds,deedB d=true)→YardOK f (playF f y ds).1
 | [],_,hy,_=>hy
 | d :: r,y,hy,hd=>qacl hf r (qaid hf hy (hd d (by simp))).2.2 (fun e he=>hd e (by simp [he]))
def mind0 (f:DFleet):DMind:=((f.1,[],()),0,())
def yard0 (f:DFleet):DYard:=(List.replicate f.2.2.1.length (mind0 f),List.replicate f.2.2.1.length (mind0 f),[],())
theorem qafy (f:DFleet) (i:Nat):MindOK f i (mind0 f):=⟨⟨rfl,Nat.zero_le _,⟨fun x hx=>(by cases hx),List.Pairwise.nil⟩,fun x hx=>(by cases hx)⟩,Int.le_refl _,Int.natCast_nonneg _⟩
theorem qu7 (f:DFleet):YardOK f (yard0 f):=by
 refine ⟨List.length_replicate,List.length_replicate,fun i h => ?_,fun i h => ?_,Nat.zero_le _,fun p hp=>by cases hp⟩
 ·have:(yard0 f).1[i]=mind0 f:=List.getElem_replicate _
  rw [this];exact qafy f i
 ·have:(yard0 f).2.1[i]=mind0 f:=List.getElem_replicate _
  rw [this];exact qafy f i
theorem qad5 {α:Type} (a:α) (n:Nat):List.replicate n a++[a]=List.replicate (n+1) a:=by rw [← List.replicate_succ']
theorem qaf3 {f:DFleet} (hl:f.2.2.1.length≤100):qjg f=some (((((f,yard0 f,()):DRun),()),()) ):=by
 unfold qjg
 have key : ∀ (d i:Nat),i+d=f.2.2.1.length→run (qd8 f) ((i:Int),((f,(List.replicate i (mind0 f),List.replicate i (mind0 f),[],()),()):DRun),())=some (((((f,yard0 f,()):DRun),()),())):=by
  intro d
  induction d with
  | zero =>
   intro i hi
   have hi:i=f.2.2.1.length:=by omega
   subst hi
   refine qal ?_
   unfold qd8
   simp only
   rw [qah (by rw [qaa];omega)]
   rfl
  | succ d ih =>
   intro i hi
   have hstep:qd8 f ((i:Int),((f,(List.replicate i (mind0 f),List.replicate i (mind0 f),[],()),()):DRun),())=some (.inl (((i+1:Nat):Int),((f,(List.replicate (i+1) (mind0 f),List.replicate (i+1) (mind0 f),[],()),()):DRun),())):=by
    unfold qd8
    simp only
    rw [qag (by rw [qaa];omega),qav (by rw [List.length_replicate];omega),qao (n:=f.2.2.1.length) (by omega) (by omega)]
    simp only [cond_true]
    rw [show List.replicate i (mind0 f)++([((f.1,[],()),0,())]:List DMind)=List.replicate (i+1) (mind0 f) from qad5 (mind0 f) i]
   rw [qan hstep]
   exact ih (i+1) (by omega)
 exact key f.2.2.1.length 0 (by omega)
theorem qaks {f:DFleet} (hl:f.2.2.1.length≤100):qkf f=some (((((f,yard0 f,()):DRun),()),())):=by
 unfold qkf
 have key : ∀ (d i:Nat),i+d=f.2.2.1.length→run (qe1 f) ((i:Int),((f,(List.replicate i (mind0 f),List.replicate i (mind0 f),[],()),()):DRun),())=some (((((f,yard0 f,()):DRun),()),())):=by
  intro d
  induction d with
  | zero =>
   intro i hi
   have hi:i=f.2.2.1.length:=by omega
   subst hi
   refine qal ?_
   unfold qe1
   simp only
   rw [qah (by rw [qaa];omega)]
   rfl
  | succ d ih =>
   intro i hi
   have hstep:qe1 f ((i:Int),((f,(List.replicate i (mind0 f),List.replicate i (mind0 f),[],()),()):DRun),())=some (.inl (((i+1:Nat):Int),((f,(List.replicate (i+1) (mind0 f),List.replicate (i+1) (mind0 f),[],()),()):DRun),())):=by
    unfold qe1
    simp only
    rw [qag (by rw [qaa];omega),qav (by rw [List.length_replicate];omega),qao (n:=f.2.2.1.length) (by omega) (by omega)]
    simp only [cond_true]
    rw [show List.replicate i (mind0 f)++([((f.1,[],()),0,())]:List DMind)=List.replicate (i+1) (mind0 f) from qad5 (mind0 f) i]
   rw [qan hstep]
   exact ih (i+1) (by omega)
 exact key f.2.2.1.length 0 (by omega)
theorem qafl {f:DFleet} (hf:Fit TyFleet f) (hb:fleetB f=true):FleetOK f:=by
 unfold fleetB at hb
 simp only [Bool.and_eq_true,List.all_eq_true,Bool.not_eq_true',qnp] at hb
 obtain ⟨h1,h2,⟨h3,h4⟩,h5⟩:=hb
 obtain ⟨f1,f2,f3,f4⟩:=hf
 rw [qaa] at h3 h4
 refine ⟨h1,f1,by omega,by omega,fun l hl => ?_⟩
 obtain ⟨h6,h7⟩:=h5 l hl
 rw [qaa] at h6
 have h6:=of_decide_eq_false h6
 refine ⟨by omega,fun x hx => ?_⟩
 have hfx:=(f3.2 l hl).2 x hx
 exact ⟨hfx.1,hfx.2.1⟩
def givenC (f:DFleet) (ds:List DDeed):Int:=bif fleetB f then (bif ds.all deedB then (bif iLt 200 (lenI ds) then 2 else 0) else 1) else 1
theorem qakz {f:DFleet} (sf:Sized TyFleet f) {ds:List DDeed} (hl:ds.length≤140737488355328):qh5 f ds=some ((givenC f ds,()),()):=by
 unfold qh5 givenC
 rw [qwi f sf]
 simp only [Option.bind_some]
 cases fleetB f with
 | false=>rfl
 | true =>
  have:=qkz ds (fun z790=>(qga z790.1).map fun y=>y.1.1) (fun d => !deedB d) hl (fun d _=>by
   unfold qga
   rw [qxo]
   rfl)
  simp only [Bool.not_true,cond_false,cond_true]
  rw [show qbe ds _=_ from this]
  simp only [Option.bind_some]
  have e:(ds.any fun d => !deedB d) = !ds.all deedB:=by rw [List.not_all_eq_any_not]
  rw [e]
  cases ds.all deedB with
  | false=>rfl
  | true=>cases iLt 200 (lenI ds) <;> rfl
theorem qale {f:DFleet} (sf:Sized TyFleet f) {ds:List DDeed} (hl:ds.length≤140737488355328):qkg f ds=some ((givenC f ds,()),()):=by
 unfold qkg givenC
 rw [qaey f sf]
 simp only [Option.bind_some]
 cases fleetB f with
 | false=>rfl
 | true =>
  simp only [Bool.not_true,cond_false,cond_true]
  have:=qzf (f:=qe3 ds) (xs:=ds) (fun i (s:Unit)=>((i:Int),())) deedB (fun s _=>s) (((1:Int),()),()) (fun s=>some (bif iLt 200 (lenI ds) then (((2:Int),()),()) else (((0:Int),()),()))) (fun i hi s => ?_) (fun s => ?_) ()
  ·rw [show run (qe3 ds) ((0:Int),())=_ from this]
   cases ds.all deedB with
   | false=>rfl
   | true=>cases iLt 200 (lenI ds) <;> rfl
  ·have e1:iLt (i:Int) (lenI ds)=true:=qag (by rw [qaa];omega)
   have e2:inB (i:Int) ds.length=true:=qae hi
   have e4:ds.getD i ((0,0,0,()):DDeed)=ds[i]:=qaj hi
   have e5:iAdd .i64 (i:Int) 1=((i+1:Nat):Int):=qao hi (by omega)
   simp only [qe3,e1,e2,e4,e5,Int.toNat_natCast,qab3,Option.bind_some,cond_true]
   cases deedB ds[i] <;> rfl
  ·have e1:iLt (ds.length:Int) (lenI ds)=false:=qah (by rw [qaa];omega)
   simp only [qe3,e1,cond_false]
   cases iLt 200 (lenI ds) <;> rfl
theorem qz2 {f:DFleet} {ds:List DDeed} (h:givenC f ds=0):fleetB f=true∧(∀ d∈ds,deedB d=true)∧ds.length≤200:=by
 unfold givenC at h
 cases h1:fleetB f with
 | false=>rw [h1] at h;exact absurd (show (1:Int)=0 from h) (by decide)
 | true =>
  cases h2:ds.all deedB with
  | false=>rw [h1,h2] at h;exact absurd (show (1:Int)=0 from h) (by decide)
  | true =>
   cases h3:iLt 200 (lenI ds) with
   | true=>rw [h1,h2,h3] at h;exact absurd (show (2:Int)=0 from h) (by decide)
   | false =>
    have:=of_decide_eq_false h3
    rw [qaa] at this
    exact ⟨rfl,List.all_eq_true.1 h2,by omega⟩
theorem qalz {f:DFleet} (hf:FleetOK f) {ds:List DDeed} (hl:ds.length≤200) (hd : ∀ d∈ds,deedB d=true):qmx f ds=some (((((f,(playF f (yard0 f) ds).1,()):DRun),(playF f (yard0 f) ds).2,()),())):=by
 unfold qmx
 have hfew:=hf.few
 rw [qaks (by omega)]
 simp only [Option.bind_some]
 have key : ∀ (r:List DDeed) (i:Nat),ds.drop i=r→i≤ds.length → ∀ (y:DYard) (c:List Int),YardOK f y→c.length=i→run (qfw ds) (c,(i:Int),((f,y,()):DRun),())=some (((((f,(playF f y r).1,()):DRun),c++(playF f y r).2,()),())):=by
  intro r
  induction r with
  | nil =>
   intro i hi hle y c hy hc
   have hi:ds.length≤i:=List.drop_eq_nil_iff.1 hi
   refine qal ?_
   unfold qfw
   simp only
   rw [qah (by rw [qaa];omega)]
   simp only [cond_false,playF,List.append_nil]
   rfl
  | cons d r ih =>
   intro i hi hle y c hy hc
   have hlt:i<ds.length:=by
    rcases Nat.lt_or_ge i ds.length with h | h
    ·exact h
    ·rw [List.drop_eq_nil_of_le h] at hi;cases hi
   have hcons:=List.getElem_cons_drop (h:=hlt)
   rw [hi] at hcons
   obtain ⟨e1,e2⟩:=List.cons.inj hcons
   obtain ⟨-,h2,h3⟩:=qaid hf hy (d:=d) (by rw [← e1];exact hd _ (List.getElem_mem hlt))
   have hstep:qfw ds (c,(i:Int),((f,y,()):DRun),())=some (.inl (c++[(doF f y d).1],((i+1:Nat):Int),((f,(doF f y d).2,()):DRun),())):=by
    unfold qfw
    simp only
    rw [qag (by rw [qaa];omega),qae hlt,Int.toNat_natCast,qaj hlt,e1]
    simp only [cond_true]
    rw [show qb9 ((f,(y.1,y.2.1,y.2.2.1,y.2.2.2),()):DRun) d=_ from h2]
    simp only [Option.bind_some]
    rw [qav (by omega),qao hlt (by omega)]
    rfl
   rw [qan hstep,ih (i+1) e2 (by omega) _ _ h3 (by rw [List.length_append,hc];rfl)]
   simp only [playF,List.append_assoc,List.singleton_append]
 have:=key ds 0 rfl (Nat.zero_le _) (yard0 f) [] (qu7 f) rfl
 exact this
abbrev TyDeed:Ty:=.pair (.int .i64) (.pair (.int .i64) (.pair (.int .i64) .unit))
end
section
def sameK (a b:DMark):Bool:=(iEq (Vec.getD 3 a.1 0 (0:Int)) (Vec.getD 3 b.1 0 (0:Int))&&(iEq (Vec.getD 3 a.1 1 (0:Int)) (Vec.getD 3 b.1 1 (0:Int))&&(iEq (Vec.getD 3 a.1 2 (0:Int)) (Vec.getD 3 b.1 2 (0:Int))&&true)))&&(sameV a.2.1 b.2.1&&(sameN a.2.2.1 b.2.2.1&&(iEq a.2.2.2.1 b.2.2.2.1&&iEq a.2.2.2.2.1 b.2.2.2.2.1)))
theorem qy6 (a b:DMark):qhp a b=some ((sameK a b,()),()):=by
 simp only [qhp,qz9,qdq,Option.bind_some,sameK]
 cases (iEq (Vec.getD 3 a.1 0 (0:Int)) (Vec.getD 3 b.1 0 (0:Int))&&(iEq (Vec.getD 3 a.1 1 (0:Int)) (Vec.getD 3 b.1 1 (0:Int))&&(iEq (Vec.getD 3 a.1 2 (0:Int)) (Vec.getD 3 b.1 2 (0:Int))&&true))) <;> cases sameV a.2.1 b.2.1 <;> cases sameN a.2.2.1 b.2.2.1 <;> cases iEq a.2.2.2.1 b.2.2.2.1 <;> rfl
theorem qvt (a b:DMark):qhi a b=some ((sameK a b,()),()):=by
 simp only [qhi,qw9,qfr,Option.bind_some,sameK]
 cases (iEq (Vec.getD 3 a.1 0 (0:Int)) (Vec.getD 3 b.1 0 (0:Int))&&(iEq (Vec.getD 3 a.1 1 (0:Int)) (Vec.getD 3 b.1 1 (0:Int))&&(iEq (Vec.getD 3 a.1 2 (0:Int)) (Vec.getD 3 b.1 2 (0:Int))&&true))) <;> cases sameV a.2.1 b.2.1 <;> cases sameN a.2.2.1 b.2.2.1 <;> cases iEq a.2.2.2.1 b.2.2.2.1 <;> rfl
theorem qkp (a b:Int):iEq a b=iEq b a:=by
 rw [Bool.eq_iff_iff,qkq,qkq];exact eq_comm
theorem qma (a b:Nat):sameN a b=sameN b a:=by
 unfold sameN
 cases isNan .f32 a <;> cases isNan .f32 b <;> first | rfl | exact qkp _ _
theorem qaiq (a b:Vec 3 Nat):sameV a b=sameV b a:=by
 unfold sameV
 rw [qma (Vec.getD 3 a 0 (0:Nat)),qma (Vec.getD 3 a 1 (0:Nat)),qma (Vec.getD 3 a 2 (0:Nat))]
theorem qaio (a b:DMark):sameK a b=sameK b a:=by
 unfold sameK
 rw [qaiq a.2.1,qma a.2.2.1,qkp a.2.2.2.1,qkp a.2.2.2.2.1,qkp (Vec.getD 3 a.1 0 (0:Int)),qkp (Vec.getD 3 a.1 1 (0:Int)),qkp (Vec.getD 3 a.1 2 (0:Int))]
theorem qaip (a:DMark):sameK a a=true:=by
 unfold sameK
 simp [qair,qmb,qbm]
theorem qac4 {α:Type} {p:α→α→Bool} (h : ∀ a b,p a b=p b a) : ∀ a b:List α,all2 p a b=all2 p b a
 | [],b=>by cases b <;> rfl
 | x :: a,[]=>rfl
 | x :: a,y :: b=>by
  show (p x y&&all2 p a b)=(p y x&&all2 p b a)
  rw [h x y,qac4 h a b]
theorem qac5 {α:Type} {p:α→α→Bool} (h : ∀ a,p a a=true) : ∀ a:List α,all2 p a a=true
 | []=>rfl
 | x :: a=>by
  show (p x x&&all2 p a a)=true
  rw [h x,qac5 h a];rfl
def sameMapB (a b:DMap):Bool:=sameN a.1 b.1&&(iEq (lenI a.2.1) (lenI b.2.1)&&all2 sameK a.2.1 b.2.1)
theorem qaew (a b:DMap):sameMapB a b=sameMapB b a:=by
 unfold sameMapB
 rw [qma a.1,qkp (lenI a.2.1),qac4 qaio a.2.1]
theorem qaex (a:DMap):sameMapB a a=true:=by
 unfold sameMapB
 rw [qmb,qbm,qac5 qaip];rfl
theorem qm1 (a b:List DMark) (f:(DMark×DMark×Unit)→Option Bool) (p:DMark→DMark→Bool) (hl:a.length≤140737488355328) (hp : ∀ x y,f (x,y,())=some (p x y)) :
  qbq a b f=some ((iEq (lenI a) (lenI b)&&all2 p a b,()),()):=by
 unfold qbq
 cases he:iEq (lenI a) (lenI b) with
 | false=>rfl
 | true =>
  have hab:=qajo he
  simp only [Bool.not_true,cond_false,Bool.true_and]
  refine qzy hab (fun i hi hj => ?_) ?_
  ·have e1:iLt (i:Int) (lenI a)=true:=qag (by rw [qaa];omega)
   have e2:inB (i:Int) a.length=true:=qae hi
   have e3:inB (i:Int) b.length=true:=qae hj
   have e4:a.getD i (((0,0,0,()),(0,0,0,()),0,0,0,()):DMark)=a[i]:=qaj hi
   have e6:b.getD i (((0,0,0,()),(0,0,0,()),0,0,0,()):DMark)=b[i]:=qaj hj
   have e5:iAdd .i64 (i:Int) 1=((i+1:Nat):Int):=qao hi (by omega)
   simp only [qdd,e1,e2,e3,e4,e5,e6,Int.toNat_natCast,hp,Option.bind_some,cond_true]
   cases p a[i] b[i] <;> rfl
  ·have e1:iLt (a.length:Int) (lenI a)=false:=qah (by rw [qaa];omega)
   simp only [qdd,e1,cond_false]
   rfl
theorem qz7 (a b:DMap) (h:a.2.1.length≤140737488355328):qlo a b=some ((sameMapB a b,()),()):=by
 have h1:=qm1 a.2.1 b.2.1 (fun z=>(qhp z.1 z.2.1).map fun y=>y.1.1) sameK h (fun x y=>by simp only [qy6,Option.map_some])
 unfold qlo sameMapB
 rw [qdq]
 simp only [Option.bind_some]
 cases sameN a.1 b.1 with
 | false=>rfl
 | true =>
  simp only [cond_true]
  rw [show qbq a.2.1 b.2.1 _=_ from h1]
  rfl
theorem qab0 (a b:DMap) (h:a.2.1.length≤140737488355328):qmq a b=some ((sameMapB a b,()),()):=by
 unfold qmq sameMapB
 rw [qfr]
 simp only [Option.bind_some]
 cases sameN a.1 b.1 with
 | false=>rfl
 | true =>
  cases he:iEq (lenI a.2.1) (lenI b.2.1) with
  | false=>rfl
  | true =>
   have hab:=qajo he
   simp only [Bool.not_true,cond_false,Bool.true_and]
   refine qzy hab (fun i hi hj => ?_) ?_
   ·have e1:iLt (i:Int) (lenI a.2.1)=true:=qag (by rw [qaa];omega)
    have e2:inB (i:Int) a.2.1.length=true:=qae hi
    have e3:inB (i:Int) b.2.1.length=true:=qae hj
    have e4:a.2.1.getD i (((0,0,0,()),(0,0,0,()),0,0,0,()):DMark)=a.2.1[i]:=qaj hi
    have e6:b.2.1.getD i (((0,0,0,()),(0,0,0,()),0,0,0,()):DMark)=b.2.1[i]:=qaj hj
    have e5:iAdd .i64 (i:Int) 1=((i+1:Nat):Int):=qao hi (by omega)
    simp only [qmr,e1,e2,e3,e4,e5,e6,Int.toNat_natCast,qvt,Option.bind_some,cond_true]
    cases sameK a.2.1[i] b.2.1[i] <;> rfl
   ·have e1:iLt (a.2.1.length:Int) (lenI a.2.1)=false:=qah (by rw [qaa];omega)
    simp only [qmr,e1,cond_false]
    rfl
def agreedB (y:DYard):Bool:=y.1.all fun x=>sameMapB (y.1.getD 0 (((0,[],()),0,()):DMind)).1 x.1
theorem qafz {f:DFleet} {y:DYard} (hy:YardOK f y) : ∀ x∈y.1,x.1.2.1.length≤200:=by
 intro x hx
 obtain ⟨i,hi,rfl⟩:=List.getElem_of_mem hx
 exact (hy.minds i hi).map.len
theorem qacc {f:DFleet} (hf:FleetOK f) {y:DYard} (hy:YardOK f y):qdt ((f,y,()):DRun)=some (((agreedB y,()),(((f,y,()):DRun),()))):=by
 have hlen:=qafz hy
 have hnm:=hy.nm
 have h4:=hf.few
 have h1:=hf.some
 unfold qdt agreedB
 simp only
 rw [show inB 0 y.1.length=true from qae (i:=0) (by omega)]
 simp only [cond_true]
 have:=qk1 y.1 (fun z=>(qec z.1 ((y.1.getD 0 (((0,[],()),0,()):DMind)).1)).map fun y=>y.1.1) (fun x => !sameMapB (y.1.getD 0 (((0,[],()),0,()):DMind)).1 x.1) (by omega) (fun x hx=>by
  unfold qec
  have:=hlen x hx
  rw [qz7 _ _ (show x.1.2.1.length≤_ by omega),qaew]
  rfl)
 rw [show qbf y.1 _=_ from this]
 simp only [Option.bind_some]
 rw [List.not_any_eq_all_not]
 simp only [Bool.not_not]
theorem qacr {f:DFleet} (hf:FleetOK f) {y:DYard} (hy:YardOK f y):qfx ((f,y,()):DRun)=some (((agreedB y,()),(((f,y,()):DRun),()))):=by
 have hlen:=qafz hy
 have hnm:=hy.nm
 have h4:=hf.few
 have h1:=hf.some
 obtain ⟨M,S,W,⟨⟩⟩:=y
 have hnm:M.length=f.2.2.1.length:=hnm
 have hlen : ∀ x∈M,x.1.2.1.length≤200:=hlen
 obtain ⟨m0,rest,rfl⟩ : ∃ m0 rest,M=m0 :: rest:=by
  cases M with
  | nil=>simp at hnm;omega
  | cons a b=>exact ⟨a,b,rfl⟩
 have g0:List.getD (m0 :: rest) 0 (((0,[],()),0,()):DMind)=m0:=rfl
 have key : ∀ (r:List DMind) (i:Nat),(m0 :: rest).drop i=r→i≤(m0 :: rest).length→run (qc0 ((f,(m0 :: rest,S,W,()),()):DRun)) ((i:Int),())=some (((r.all fun x=>sameMapB m0.1 x.1,()),(((f,(m0 :: rest,S,W,()),()):DRun),()))):=by
  intro r
  induction r with
  | nil =>
   intro i hi hle
   have hi:(m0 :: rest).length≤i:=List.drop_eq_nil_iff.1 hi
   refine qal ?_
   unfold qc0
   simp only
   rw [qah (by rw [qaa];omega)]
   rfl
  | cons x r ih =>
   intro i hi hle
   have hlt:i<(m0 :: rest).length:=by
    rcases Nat.lt_or_ge i (m0 :: rest).length with h | h
    ·exact h
    ·rw [List.drop_eq_nil_of_le h] at hi;cases hi
   have hcons:=List.getElem_cons_drop (h:=hlt)
   rw [hi] at hcons
   obtain ⟨e1,e2⟩:=List.cons.inj hcons
   have hm:=hlen m0 (by simp)
   have hstep:qc0 ((f,(m0 :: rest,S,W,()),()):DRun) ((i:Int),())=bif sameMapB m0.1 x.1 then some (.inl (((i+1:Nat):Int),())) else some (.inr ((false,()),(((f,(m0 :: rest,S,W,()),()):DRun),()))):=by
    unfold qc0
    simp only
    rw [qag (by rw [qaa];omega),qae hlt,show inB 0 (m0 :: rest).length=true from qae (i:=0) (by omega),Int.toNat_natCast,qaj hlt,e1,g0,qao hlt (by omega)]
    simp only [cond_true]
    rw [qab0 _ _ (by omega)]
    simp only [Option.bind_some]
    cases sameMapB m0.1 x.1 <;> rfl
   rw [List.all_cons]
   cases hc:sameMapB m0.1 x.1 with
   | true =>
    rw [hc] at hstep
    rw [qan hstep,ih (i+1) e2 (by omega)]
    rfl
   | false =>
    rw [hc] at hstep
    exact qal hstep
 have hk:=key rest 1 rfl (by simp)
 have e:agreedB ((m0 :: rest,S,W,()):DYard)=rest.all fun x=>sameMapB m0.1 x.1:=by
  show (sameMapB m0.1 m0.1&&rest.all fun x=>sameMapB m0.1 x.1)=_
  rw [qaex];rfl
 rw [e]
 exact hk
def zeroN:List Int→Nat
 | []=>0
 | c :: r=>(bif iEq c 0 then 1 else 0)+zeroN r
theorem qaiy (c:Int) (r:List Int):zeroN (c :: r)=(bif iEq c 0 then 1 else 0)+zeroN r:=rfl
theorem qaei {f:DFleet} (hf:FleetOK f) {ds:List DDeed} (hl:ds.length≤200) (hd : ∀ d∈ds,deedB d=true):qp7 f ds=some (((((f,(playF f (yard0 f) ds).1,()):DRun),(zeroN (playF f (yard0 f) ds).2:Int),()),())):=by
 unfold qp7
 have hfew:=hf.few
 rw [qaf3 (by omega)]
 simp only [Option.bind_some]
 have key : ∀ (r:List DDeed) (i:Nat),ds.drop i=r→i≤ds.length → ∀ (y:DYard) (c:Nat),YardOK f y→c≤i→run (qhm ds) ((c:Int),(i:Int),((f,y,()):DRun),())=some (((((f,(playF f y r).1,()):DRun),((c+zeroN (playF f y r).2:Nat):Int),()),())):=by
  intro r
  induction r with
  | nil =>
   intro i hi hle y c hy hc
   have hi:ds.length≤i:=List.drop_eq_nil_iff.1 hi
   refine qal ?_
   unfold qhm
   simp only
   rw [qah (by rw [qaa];omega)]
   rfl
  | cons d r ih =>
   intro i hi hle y c hy hc
   have hlt:i<ds.length:=by
    rcases Nat.lt_or_ge i ds.length with h | h
    ·exact h
    ·rw [List.drop_eq_nil_of_le h] at hi;cases hi
   have hcons:=List.getElem_cons_drop (h:=hlt)
   rw [hi] at hcons
   obtain ⟨e1,e2⟩:=List.cons.inj hcons
   obtain ⟨h1,-,h3⟩:=qaid hf hy (d:=d) (by rw [← e1];exact hd _ (List.getElem_mem hlt))
   have hstep:qhm ds ((c:Int),(i:Int),((f,y,()):DRun),())=some (.inl (((c+(bif iEq (doF f y d).1 0 then 1 else 0):Nat):Int),((i+1:Nat):Int),((f,(doF f y d).2,()):DRun),())):=by
    unfold qhm
    simp only
    rw [qag (by rw [qaa];omega),qae hlt,Int.toNat_natCast,qaj hlt,e1]
    simp only [cond_true]
    rw [show qcv ((f,(y.1,y.2.1,y.2.2.1,y.2.2.2),()):DRun) d=_ from h1]
    simp only [Option.bind_some]
    rw [qao hlt (by omega),qao (n:=300) (show c<300 by omega) (by omega)]
    cases iEq (doF f y d).1 0 <;> rfl
   rw [qan hstep,ih (i+1) e2 (by omega) (doF f y d).2 _ h3 (by cases iEq (doF f y d).1 0 <;> simp <;> omega)]
   show _=some (((((f,(playF f (doF f y d).2 r).1,()):DRun),((c+zeroN ((doF f y d).1 :: (playF f (doF f y d).2 r).2):Nat):Int),()),()))
   rw [qaiy,Nat.add_assoc]
 have:=key ds 0 rfl (Nat.zero_le _) (yard0 f) 0 (qu7 f) (Nat.le_refl _)
 rw [Nat.zero_add] at this
 exact this
noncomputable def agreedF (f:DFleet) (ds:List DDeed):Bool×Int×Unit:=bif iEq (givenC f ds) 0 then (agreedB (playF f (yard0 f) ds).1,0,()) else (false,givenC f ds,())
theorem qxl {f:DFleet} (hf:Fit TyFleet f) {ds:List DDeed} (hd:Fit (.list TyDeed) ds):qja f ds=some (agreedF f ds,()):=by
 have sf:Sized TyFleet f:=qch rfl hf
 have sd:Sized (.list TyDeed) ds:=qch rfl hd
 have hl:ds.length≤140737488355328:=sd.1
 unfold qja agreedF
 rw [qakz sf hl]
 simp only [Option.bind_some]
 cases hc:iEq (givenC f ds) 0 with
 | false=>rfl
 | true =>
  obtain ⟨h1,h2,h3⟩:=qz2 (qkq.1 hc)
  have F:=qafl hf h1
  have Y:=qacl F ds (qu7 f) h2
  have hn:=qaei F h3 h2
  simp only [Bool.not_true,cond_false,cond_true]
  rw [hn]
  simp only [Option.bind_some]
  rw [show qdt _=_ from qacc F Y]
  rfl
theorem qx4 {f:DFleet} (hf:Fit TyFleet f) {ds:List DDeed} (hd:Fit (.list TyDeed) ds):qjm f ds=some (agreedF f ds,()):=by
 have sf:Sized TyFleet f:=qch rfl hf
 have sd:Sized (.list TyDeed) ds:=qch rfl hd
 have hl:ds.length≤140737488355328:=sd.1
 unfold qjm agreedF
 rw [qale sf hl]
 simp only [Option.bind_some]
 cases hc:iEq (givenC f ds) 0 with
 | false=>rfl
 | true =>
  obtain ⟨h1,h2,h3⟩:=qz2 (qkq.1 hc)
  have F:=qafl hf h1
  have Y:=qacl F ds (qu7 f) h2
  simp only [Bool.not_true,cond_false,cond_true]
  rw [qalz F h3 h2]
  simp only [Option.bind_some]
  rw [show qfx _=_ from qacr F Y]
  rfl
theorem qov (f:DFleet) (hf:Fit TyFleet f) (ds:List DDeed) (hd:Fit (.list TyDeed) ds) : ∃ o,qgl f ds=some ((true,()),o):=by
 have sf:Sized TyFleet f:=qch rfl hf
 have sd:Sized (.list TyDeed) ds:=qch rfl hd
 obtain ⟨r,hr⟩:=qaaw f 1048576 sf
 obtain ⟨r2,hr2⟩:=qaau ds r
 have k1:=qaa0 f hf
 have k2:=qaay ds hd
 have k3:=qaaq f sf
 have k4:=qaao ds sd
 have k5:=qxl hf hd
 have k6:=qx4 hf hd
 obtain ⟨a1,a2,a3,⟨⟩⟩:=f
 unfold qgl
 rw [hr]
 simp only [Option.bind_some]
 cases iLt r 0 with
 | true=>exact ⟨_,rfl⟩
 | false =>
  simp only [cond_false]
  rw [hr2]
  simp only [Option.bind_some]
  cases iLt r2 0 with
  | true=>exact ⟨_,rfl⟩
  | false =>
   simp only [cond_false]
   rw [k1,k2]
   simp only [Option.bind_some]
   rw [k6,k5]
   simp only [Option.bind_some,qbm,qnj,Bool.not_true,cond_false]
   rw [k3,k4]
   exact ⟨_,rfl⟩
end
end Go.Proofs.YtjhdoneobdbeaaaGreatDoor
