import Derived.Test.YtjhdoneobdbeaaaGreatDoorP2
/- Functions of the program and of the reference in plain terms. -/
set_option linter.unusedSectionVars false
set_option linter.unusedSimpArgs false
set_option linter.unusedVariables false
namespace Go.Proofs.YtjhdoneobdbeaaaGreatDoor
open Go Go.Tm
section
abbrev TySpot:Ty:=.arr 2 (.int .i16)
abbrev DGrid:=Int×(Int×((List Int)×Unit))
def gridB (g:DGrid):Bool:=(iLe 1 g.1&&iLe g.1 24)&&((iLe 1 g.2.1&&iLe g.2.1 24)&&iEq (lenI g.2.2.1) (iMul .i64 g.1 g.2.1))
def hasB (g:DGrid) (s:Vec 2 Int):Bool:=(iLe 0 (iWrap .i64 (Vec.getD 2 s 0 (0:Int)))&&iLe (iWrap .i64 (Vec.getD 2 s 0 (0:Int))) (iSub .i64 g.1 1))&&(iLe 0 (iWrap .i64 (Vec.getD 2 s 1 (0:Int)))&&iLe (iWrap .i64 (Vec.getD 2 s 1 (0:Int))) (iSub .i64 g.2.1 1))
section
variable {g : DGrid} (hg : gridB g = true) {a b : Vec 2 Int} (ha : Fit TySpot a) (hb : Fit TySpot b) (hha : hasB g a = true) (hhb : hasB g b = true)
include hg ha hb hha hhb
end
end
section

end
section
theorem qyh {c:UInt8} (hc:digB c=false) (k:Nat):c∉Lib.decDigits k:=by
 intro h
 have:=List.all_eq_true.1 (qcp k).1 c h
 rw [hc] at this
 cases this
abbrev DRd:=List (List UInt8)×(Bool×Unit)
def wordOf (r:DRd):List UInt8:=r.1.getD 0 []
def restOf (r:DRd):DRd:=(r.1.drop 1,(r.1.isEmpty||r.2.1,()))
theorem qe6 (r:DRd):qbn r=some ((wordOf r,()),(restOf r,())):=by
 obtain ⟨ws,f,⟨⟩⟩:=r
 cases ws with
 | nil=>rfl
 | cons w ws =>
  have e1:iEq (lenI (w :: ws)) 0=false:=qa5 (by rw [qaa,List.length_cons];omega)
  have e2:inB 0 (w :: ws).length=true:=qae (i:=0) (by simp)
  have e3:inS 1 (((w :: ws).length:Nat):Int) (w :: ws).length=true:=by unfold inS;simp;omega
  simp only [qbn,e1,e2,e3,cond_false,cond_true,restOf,wordOf]
  simp
def intOf (r:DRd):Int:=(parseInt64 (wordOf r)).1
def intRest (r:DRd):DRd:=(r.1.drop 1,((r.1.isEmpty||r.2.1)||(!(parseInt64 (wordOf r)).2 || !(sEq (Lib.itoa (intOf r)) (wordOf r))),()))
theorem qo7 {r:DRd} (h:(wordOf r).length≤1048576):qad r=some ((intOf r,()),(intRest r,())):=by
 obtain ⟨hb1,hb2⟩:=qx1 (wordOf r)
 obtain ⟨ws,f,⟨⟩⟩:=r
 simp only [qad,qe6,qvx h,qgh hb1 hb2,Option.bind_some,restOf,intRest,intOf]
 cases (ws.isEmpty||f) <;> cases (parseInt64 (wordOf (ws,f,()))).2 <;> rfl
theorem qiq (r:DRd):qap r=some ((!r.2.1&&r.1.isEmpty,()),()):=by
 obtain ⟨ws,f,⟨⟩⟩:=r
 unfold qap
 cases f
 ·cases ws with
  | nil=>rfl
  | cons w ws =>
   have e1:iEq (lenI (w :: ws)) 0=false:=qa5 (by rw [qaa,List.length_cons];omega)
   simp only [e1]
   rfl
 ·rfl
end
section
theorem qaj7 {f:Ieee.Format} {s:Bool} {e K:Nat} (hK:(e=0∧K<f.binade)∨(f.binade≤K∧K<2*f.binade)) (hr:e*f.binade+K<f.infRung):f.read (f.word s (e*f.binade+K)) = .number s K (f.leastPlace+e):=by
 have h1:f.infRung<f.signWeight:=Ieee.Format.infRung_lt f
 generalize hR:e*f.binade+K=r at *
 have hm:f.word s r%f.signWeight=r:=qra s (by omega)
 have hs:(f.word s r/f.signWeight%2==1)=s:=by
  cases s
  ·show (r/f.signWeight%2==1)=false
   rw [Nat.div_eq_of_lt (by omega)];rfl
  ·show ((f.signWeight+r)/f.signWeight%2==1)=true
   rw [Nat.add_div_left _ (by omega),Nat.div_eq_of_lt (by omega)];rfl
 have hpos:0<f.binade:=Nat.two_pow_pos _
 unfold Ieee.Format.read
 simp only [hm,hs]
 rcases hK with ⟨he,hK⟩ | ⟨hK,hK2⟩
 ·subst he
  rw [Nat.zero_mul,Nat.zero_add] at hR
  subst hR
  rw [if_pos hK]
  simp
 ·have hge:¬ r<f.binade:=by
   rw [← hR]
   have:=Nat.zero_le (e*f.binade)
   omega
  rw [if_neg hge,if_pos hr]
  obtain ⟨g,hg⟩ : ∃ g,K=f.binade+g:=⟨K-f.binade,by omega⟩
  have hg2:g<f.binade:=by omega
  have hR2:r=g+f.binade*(e+1):=by rw [← hR,hg,Nat.mul_add,Nat.mul_comm];omega
  have d1:r/f.binade=e+1:=by rw [hR2,Nat.add_mul_div_left _ _ hpos,Nat.div_eq_of_lt hg2];omega
  have d2:r%f.binade=g:=by rw [hR2,Nat.add_mul_mod_self_left,Nat.mod_eq_of_lt hg2]
  rw [d1,d2,hg]
  simp
end
section
theorem qajo {α:Type} {a b:List α} (h:iEq (lenI a) (lenI b)=true):a.length=b.length:=by
 rw [qkq,qaa,qaa] at h
 omega
theorem qmb (x:Nat):sameN x x=true:=by
 unfold sameN
 cases isNan .f32 x
 ·simp [qbm]
 ·rfl
theorem qair (v:Vec 3 Nat):sameV v v=true:=by simp [sameV,qmb]
end
section
theorem qamz (x:Nat) (h:finB x=true):(!fLt .f32 x 0)=fLe .f32 0 x:=by
 obtain ⟨s,m,p,hd⟩:=qfe (k:=.f32) h
 have hd':FloatKind.f32.format.read x = .number s m p:=hd
 have h0:FloatKind.f32.format.read 0 = .number false 0 (-149):=by decide
 have some_beq : ∀ (a b:Ordering),((some a:Option Ordering)==some b)=(a==b):=fun a b=>by cases a <;> cases b <;> rfl
 unfold fLt fLe Ieee.Format.order
 rw [hd',h0]
 simp only [Ieee.Datum.order,some_beq]
 rw [qp3,qlj,Int.min_comm]
 generalize Ieee.signed s m _=a
 generalize Ieee.signed false 0 _=b
 by_cases h:a<b
 ·have:¬ b≤a:=by omega
  simp [h,this]
 ·have:b≤a:=by omega
  simp [h,this]
def leastB (x:Nat):Bool:=finB x&&fLe .f32 0 x
theorem qaae (x:Nat):qls [x]=some ((leastB x,()),()):=by
 have h:=qmc [x] (fun z1059=>(qns z1059.1).map fun y=>y.1.1) (fun p=>fLt .f32 p 0) (by simp) (fun x _=>rfl)
 simp only [qls,h,qg8 [x] (by simp),Option.bind_some,List.all_cons,List.all_nil,List.any_cons,List.any_nil,Bool.and_true,Bool.or_false,leastB]
 cases hf:finB x with
 | false=>rfl
 | true=>rw [qamz x hf];rfl
end
section
abbrev DSight:=(Vec 3 Nat)×(Nat×(Int×Unit))
abbrev DFleet:=Nat×(Nat×((List (List DSight))×Unit))
abbrev TySight:Ty:=.pair (.arr 3 (.flt .f32)) (.pair (.flt .f32) (.pair (.int .i64) .unit))
abbrev TyFleet:Ty:=.pair (.flt .f32) (.pair (.flt .f32) (.pair (.list (.list TySight)) .unit))
def sideB (x:Nat):Bool:=finB x&&fLt .f32 0 x
theorem qcu (x:Nat):qdn x=some ((sideB x,()),()):=by
 simp only [qdn,qg8 [x] (by simp),Option.bind_some,List.all_cons,List.all_nil,Bool.and_true,sideB]
 cases finB x <;> rfl
theorem qms (x:Nat):qgs x=some ((sideB x,()),()):=by
 simp only [qgs,qcc,Option.bind_some,sideB]
 cases finB x <;> rfl
theorem qve (x:Nat):qfo x=some ((fRound .down x,()),()):=rfl
theorem qafw {y:Nat} (hn:isNan .f64 y=false):qkx y=some ((absW y,()),()):=by
 unfold qkx
 exact qg0 fun q=>by rw [qnk hn];rfl
def floorC (v side:Nat):Nat:=fRound .down (conv64 (fDiv .f32 v side))
theorem qp6 {v side:Nat} (hv:finB v=true) (hs:sideB side=true):isNan .f64 (floorC v side)=false:=by
 simp only [sideB,Bool.and_eq_true] at hs
 obtain ⟨s,m,p,h1⟩:=qfe (k:=.f32) hv
 obtain ⟨s',m',p',h2⟩:=qfe (k:=.f32) hs.1
 exact qaif (qah8 (qamu h1 h2 (qalb h2 hs.2)))
def cellB (v side:Nat):Bool:=fLe .f64 milliom (floorC v side)&&fLe .f64 (floorC v side) million
def cellN (v side:Nat):Int:=(fToInt .f64 (floorC v side) .i32).getD 0
theorem qnl {v side:Nat} (hv:finB v=true) (hs:sideB side=true) (h:cellB v side=true):fToInt .f64 (floorC v side) .i32=some (cellN v side):=by
 obtain ⟨n,hn,_⟩:=qvn (qp6 hv hs) h
 unfold cellN
 rw [hn]
 rfl
def cellF (side:Nat) (v:Vec 3 Nat):Vec 3 Int×Int×Unit :=
 bif !(sideB side&&finV v) then ((0,0,0,()),2,()) else
 bif cellB (Vec.getD 3 v 0 (0:Nat)) side&&(cellB (Vec.getD 3 v 1 (0:Nat)) side&&cellB (Vec.getD 3 v 2 (0:Nat)) side) then ((cellN (Vec.getD 3 v 0 (0:Nat)) side,cellN (Vec.getD 3 v 1 (0:Nat)) side,cellN (Vec.getD 3 v 2 (0:Nat)) side,()),0,()) else ((0,0,0,()),3,())
theorem qnq (side:Nat) (v:Vec 3 Nat):qb3 side v=some (cellF side v,()):=by
 have em:(4696837146684686336:Nat)=million:=rfl
 simp only [qb3,qcu,qm7,Option.bind_some,cellF]
 cases hs:sideB side with
 | false=>rfl
 | true =>
  cases hv:finV v with
  | false=>rfl
  | true =>
   have hv':=hv
   simp only [finV,Bool.and_eq_true] at hv'
   obtain ⟨v0,v1,v2⟩:=hv'
   have ab : ∀ x,finB x=true→qkx (floorC x side)=some ((absW (floorC x side),()),()):=fun x hx=>qafw (qp6 hx hs)
   have am : ∀ x,finB x=true→fLt .f64 million (absW (floorC x side)) = !cellB x side:=fun x hx=>qago (qajd _) (qp6 hx hs)
   have ec : ∀ x,fRound .down (conv64 (fDiv .f32 x side))=floorC x side:=fun _=>rfl
   simp only [Bool.not_true,Bool.and_self,cond_false,qdm,qve,Option.bind_some,ec,ab _ v0,ab _ v1,ab _ v2,em,am _ v0,am _ v1,am _ v2]
   cases c0:cellB (Vec.getD 3 v 0 (0:Nat)) side
   ·rfl
   ·simp only [Bool.not_true,cond_false,qnl v0 hs c0,Option.bind_some,Bool.true_and]
    cases c1:cellB (Vec.getD 3 v 1 (0:Nat)) side
    ·rfl
    ·simp only [Bool.not_true,cond_false,qnl v1 hs c1,Option.bind_some,Bool.true_and]
     cases c2:cellB (Vec.getD 3 v 2 (0:Nat)) side
     ·rfl
     ·simp only [Bool.not_true,cond_false,cond_true,qnl v2 hs c2,Option.bind_some]
theorem qml (side:Nat) (v:Vec 3 Nat):qc6 side v=some (cellF side v,()):=by
 have em:(4696837146684686336:Nat)=million:=rfl
 have en:(13920209183539462144:Nat)=milliom:=rfl
 simp only [qc6,qms,qtz,Option.bind_some,cellF]
 cases hs:sideB side with
 | false=>rfl
 | true =>
  cases hv:finV v with
  | false=>rfl
  | true =>
   have hv':=hv
   simp only [finV,Bool.and_eq_true] at hv'
   obtain ⟨v0,v1,v2⟩:=hv'
   have ec : ∀ x,fRound .down (conv64 (fDiv .f32 x side))=floorC x side:=fun _=>rfl
   have cb : ∀ x,cellB x side=(fLe .f64 milliom (floorC x side)&&fLe .f64 (floorC x side) million):=fun _=>rfl
   have k0:=fun h=>qnl v0 hs h
   have k1:=fun h=>qnl v1 hs h
   have k2:=fun h=>qnl v2 hs h
   rw [cb] at k0 k1 k2
   simp only [Bool.not_true,Bool.and_self,cond_false,qdm,qve,Option.bind_some,ec,em,en,cb]
   cases a0:fLe .f64 milliom (floorC (Vec.getD 3 v 0 (0:Nat)) side)
   ·rfl
   ·cases b0:fLe .f64 (floorC (Vec.getD 3 v 0 (0:Nat)) side) million
    ·rfl
    ·simp only [Bool.not_true,cond_false,cond_true,k0 (by rw [a0,b0];rfl),Option.bind_some,Bool.true_and]
     cases a1:fLe .f64 milliom (floorC (Vec.getD 3 v 1 (0:Nat)) side)
     ·rfl
     ·cases b1:fLe .f64 (floorC (Vec.getD 3 v 1 (0:Nat)) side) million
      ·rfl
      ·simp only [Bool.not_true,cond_false,cond_true,k1 (by rw [a1,b1];rfl),Option.bind_some,Bool.true_and]
       cases a2:fLe .f64 milliom (floorC (Vec.getD 3 v 2 (0:Nat)) side)
       ·rfl
       ·cases b2:fLe .f64 (floorC (Vec.getD 3 v 2 (0:Nat)) side) million
        ·rfl
        ·simp only [Bool.not_true,cond_false,cond_true,k2 (by rw [a2,b2];rfl),Option.bind_some,Bool.and_self]
theorem qacp (side:Nat) (v:Vec 3 Nat):qoh side v=some (cellF side v,()):=by
 simp only [qoh,qml,Option.bind_some]
theorem qzj (x:Nat):qkc x=some ((leastB x,()),()):=by
 simp only [qkc,qcc,Option.bind_some,leastB]
 cases fLe .f32 0 x <;> cases finB x <;> rfl
def timeB (t:Int):Bool:=iLe 0 t&&iLe t 1000000000
theorem qgj (t:Int):qhx t=some ((timeB t,()),()):=by
 simp only [qhx,qgz,qcb,Option.bind_some,timeB]
theorem qfs (t:Int):qgq t=some ((timeB t,()),()):=by
 simp only [qgq,qcb,Option.bind_some,timeB]
def rangeB (x:Nat):Bool:=fLt .f32 0 x&&fLe .f32 x 1232348160
theorem qaeg {x:Nat} {s:Bool} {m:Nat} {p:Int} (h:FloatKind.f32.decode x = .number s m p):finB x=true:=by
 have h':FloatKind.f32.format.read x = .number s m p:=h
 have e:fSub .f32 x x=0:=by
  unfold fSub Ieee.Format.sub
  rw [h']
  have hs:Ieee.signed s m (p-min p p).toNat+Ieee.signed (!s) m (p-min p p).toNat=0:=by rw [qais];omega
  have e2:Ieee.Datum.sum (.number s m p) (Ieee.Datum.opposite (.number s m p))=some (.number false 0 (min p p)):=by
   simp only [Ieee.Datum.sum,Ieee.Datum.opposite,hs]
   cases s <;> rfl
  rw [e2]
  simp only [Option.map_some,orNan]
  have e3:FloatKind.f32.format.write (.number false 0 (min p p))=0:=by
   show FloatKind.f32.format.nearest false 0 (min p p)=0
   rw [qjl]
   unfold rungOf
   rw [if_pos rfl]
   rfl
  rw [e3]
  decide
 unfold finB
 rw [e]
 decide
theorem qal2 (x:Nat):(sideB x && !fLt .f32 1232348160 x)=rangeB x:=by
 have hC:FloatKind.f32.format.read 1232348160 = .number false 16000000 (-4):=by decide
 have some_beq : ∀ (a b:Ordering),((some a:Option Ordering)==some b)=(a==b):=fun a b=>by cases a <;> cases b <;> rfl
 cases hd:FloatKind.f32.decode x with
 | nan s t =>
  have hn:isNan .f32 x=true:=qat.2 ⟨s,t,hd⟩
  have e1:fLt .f32 0 x=false:=by unfold fLt;rw [quv _ _ hn];rfl
  simp [sideB,rangeB,e1]
 | infinity s =>
  have hd':FloatKind.f32.format.read x = .infinity s:=hd
  have e2:finB x=false:=by
   cases hf:finB x with
   | false=>rfl
   | true =>
    obtain ⟨a,b,c,h⟩:=qfe (k:=.f32) hf
    exact absurd (hd.symm.trans h) (by simp)
  have h0:FloatKind.f32.format.read 0 = .number false 0 (-149):=by decide
  have e3:rangeB x=false:=by
   unfold rangeB fLt fLe Ieee.Format.order
   rw [hd',hC,h0]
   cases s <;> rfl
  simp [sideB,e2,e3]
 | number s m p =>
  have hd':FloatKind.f32.format.read x = .number s m p:=hd
  have e4:(!fLt .f32 1232348160 x)=fLe .f32 x 1232348160:=by
   unfold fLt fLe Ieee.Format.order
   rw [hd',hC]
   simp only [Ieee.Datum.order,some_beq]
   rw [qp3,qlj,Int.min_comm]
   generalize Ieee.signed s m _=a
   generalize Ieee.signed false 16000000 _=b
   by_cases h:b<a
   ·have:¬ a≤b:=by omega
    simp [h,this]
   ·have:a≤b:=by omega
    simp [h,this]
  rw [e4]
  simp [sideB,rangeB,qaeg hd]
def sightB (side:Nat) (s:DSight):Bool:=iEq (cellF side s.1).2.1 0&&(rangeB s.2.1&&timeB s.2.2.1)
def fleetB (f:DFleet):Bool:=sideB f.1&&(leastB f.2.1&&((iLe 1 (lenI f.2.2.1)&&iLe (lenI f.2.2.1) 4)&&f.2.2.1.all fun l => !iLt 16 (lenI l)&&l.all (sightB f.1)))
theorem qwi (f:DFleet) (h:Sized TyFleet f):qh4 f=some ((fleetB f,()),()):=by
 have hr:run (qfg f) ((0:Int),())=some ((f.2.2.1.all fun l => !iLt 16 (lenI l)&&l.all (sightB f.1),()),()):=by
  have hl:f.2.2.1.length≤140737488355328:=h.2.2.1.1
  refine qi6 (fun i hi => ?_) ?_
  ·have e1:iLt (i:Int) (lenI f.2.2.1)=true:=qag (by rw [qaa];omega)
   have e2:inB (i:Int) f.2.2.1.length=true:=qae hi
   have e4:f.2.2.1.getD i ([]:List DSight)=f.2.2.1[i]:=qaj hi
   have e5:iAdd .i64 (i:Int) 1=((i+1:Nat):Int):=qao hi (by omega)
   have hs:f.2.2.1[i].length≤140737488355328:=(h.2.2.1.2 _ (List.getElem_mem hi)).1
   simp only [qfg,e1,e2,e4,Int.toNat_natCast,cond_true]
   generalize f.2.2.1[i]=l at hs
   cases iLt 16 (lenI l)
   ·have hin:run (qfh l f ((i:Int),())) ((0:Int),())=bif l.all (sightB f.1) then some (.inl (((i+1:Nat):Int),())) else some (.inr ((false,()),())):=by
     refine qzf (xs:=l) (fun j (s:Unit)=>((j:Int),())) (sightB f.1) (fun s _=>s) (Sum.inr ((false,()),())) (fun s=>some (Sum.inl (((i+1:Nat):Int),()))) (fun j hj s => ?_) (fun s => ?_) ()
     ·have e1:iLt (j:Int) (lenI l)=true:=qag (by rw [qaa];omega)
      have e2:inB (j:Int) l.length=true:=qae hj
      have e4:l.getD j (((0,0,0,()),0,0,()):DSight)=l[j]:=qaj hj
      have e5:iAdd .i64 (j:Int) 1=((j+1:Nat):Int):=qao hj (by omega)
      simp only [qfh,e1,e2,e4,e5,Int.toNat_natCast,qnq,qcu,qgj,Option.bind_some,cond_true,sightB,← qal2]
      generalize l[j]=x
      cases iEq (cellF f.1 x.1).2.1 0 <;> cases sideB x.2.1 <;> cases fLt .f32 1232348160 x.2.1 <;> cases timeB x.2.2.1 <;> rfl
     ·have e1:iLt (l.length:Int) (lenI l)=false:=qah (by rw [qaa];omega)
      simp only [qfh,e1,e5,cond_false]
    simp only [cond_false,hin]
    cases l.all (sightB f.1) <;> rfl
   ·rfl
  ·have e1:iLt (f.2.2.1.length:Int) (lenI f.2.2.1)=false:=qah (by rw [qaa];omega)
   simp only [qfg,e1,cond_false]
   rfl
 simp only [qh4,qcu,qaae,qgz,qcb,hr,Option.bind_some,fleetB]
 cases sideB f.1 <;> cases leastB f.2.1 <;> cases (iLe 1 (lenI f.2.2.1)&&iLe (lenI f.2.2.1) 4) <;> rfl
theorem qaey (f:DFleet) (h:Sized TyFleet f):qqd f=some ((fleetB f,()),()):=by
 have hr:run (qkh f) ((0:Int),())=some ((f.2.2.1.all fun l => !iLt 16 (lenI l)&&l.all (sightB f.1),()),()):=by
  have hl:f.2.2.1.length≤140737488355328:=h.2.2.1.1
  refine qi6 (fun i hi => ?_) ?_
  ·have e1:iLt (i:Int) (lenI f.2.2.1)=true:=qag (by rw [qaa];omega)
   have e2:inB (i:Int) f.2.2.1.length=true:=qae hi
   have e4:f.2.2.1.getD i ([]:List DSight)=f.2.2.1[i]:=qaj hi
   have e5:iAdd .i64 (i:Int) 1=((i+1:Nat):Int):=qao hi (by omega)
   have hs:f.2.2.1[i].length≤140737488355328:=(h.2.2.1.2 _ (List.getElem_mem hi)).1
   have hin : ∀ l:List DSight,f.2.2.1[i]=l→l.length≤140737488355328→run (qki ((i:Int),()) f) ((0:Int),())=bif l.all (sightB f.1) then some (.inl (((i+1:Nat):Int),())) else some (.inr ((false,()),())):=by
    intro l hl' hs
    rw [hl'] at e4
    refine qzf (xs:=l) (fun j (s:Unit)=>((j:Int),())) (sightB f.1) (fun s _=>s) (Sum.inr ((false,()),())) (fun s=>some (Sum.inl (((i+1:Nat):Int),()))) (fun j hj s => ?_) (fun s => ?_) ()
    ·have e1:iLt (j:Int) (lenI l)=true:=qag (by rw [qaa];omega)
     have e3:inB (j:Int) l.length=true:=qae hj
     have e6:l.getD j (((0,0,0,()),0,0,()):DSight)=l[j]:=qaj hj
     have e5:iAdd .i64 (j:Int) 1=((j+1:Nat):Int):=qao hj (by omega)
     simp only [qki,e1,e2,e3,e4,e5,e6,Int.toNat_natCast,qacp,qfs,Option.bind_some,cond_true,sightB,rangeB]
     generalize l[j]=x
     cases iEq (cellF f.1 x.1).2.1 0 <;> cases fLt .f32 0 x.2.1 <;> cases fLe .f32 x.2.1 1232348160 <;> cases timeB x.2.2.1 <;> rfl
    ·have e1:iLt (l.length:Int) (lenI l)=false:=qah (by rw [qaa];omega)
     simp only [qki,e1,e2,e4,e5,Int.toNat_natCast,cond_false,cond_true]
   have hin':=hin _ rfl hs
   simp only [qkh,e1,e2,e4,Int.toNat_natCast,cond_true,hin']
   cases iLt 16 (lenI f.2.2.1[i]) <;> cases f.2.2.1[i].all (sightB f.1) <;> rfl
  ·have e1:iLt (f.2.2.1.length:Int) (lenI f.2.2.1)=false:=qah (by rw [qaa];omega)
   simp only [qkh,e1,cond_false]
   rfl
 simp only [qqd,qms,qzj,qcb,hr,Option.bind_some,fleetB]
 cases sideB f.1 <;> cases leastB f.2.1 <;> cases (iLe 1 (lenI f.2.2.1)&&iLe (lenI f.2.2.1) 4) <;> rfl
end
section

end
section
def joinC (c:UInt8):List (List UInt8)→List UInt8
 | []=>[]
 | [w]=>w
 | w :: v :: r=>w++c :: joinC c (v :: r)
theorem qu2 (c:UInt8) : ∀ ws:List (List UInt8),ws≠[]→(∀ w∈ws,c∉w)→splitC c (joinC c ws)=ws
 | [],h,_=>absurd rfl h
 | [w],_,h=>qj7 (h w (by simp))
 | w :: v :: r,_,h=>by
  show splitC c (w++c :: joinC c (v :: r))=_
  rw [qmy _ (h w (by simp)),qu2 c (v :: r) (by simp) (fun x hx=>h x (List.mem_cons_of_mem _ hx))]
theorem qwp {c d:UInt8} (hcd:d≠c) : ∀ ws:List (List UInt8),(∀ w∈ws,d∉w)→d∉joinC c ws
 | [],_=>by simp [joinC]
 | [w],h=>h w (by simp)
 | w :: v :: r,h=>by
  show d∉w++c :: joinC c (v :: r)
  intro hd
  rcases List.mem_append.1 hd with hd | hd
  ·exact h w (by simp) hd
  ·rcases List.mem_cons.1 hd with hd | hd
   ·exact hcd hd
   ·exact qwp hcd (v :: r) (fun x hx=>h x (List.mem_cons_of_mem _ hx)) hd
def linesT (Ls:List (List UInt8)):List UInt8:=Ls.flatMap fun x=>x++[10]
theorem qyv : ∀ Ls:List (List UInt8),(∀ x∈Ls,(10:UInt8)∉x)→splitC 10 (linesT Ls)=Ls++[[]]
 | [],_=>rfl
 | x :: Ls,h=>by
  have e:linesT (x :: Ls)=x++10 :: linesT Ls:=by
   unfold linesT;rw [List.flatMap_cons];simp
  rw [e,qmy _ (h x (by simp)),qyv Ls (fun y hy=>h y (List.mem_cons_of_mem _ hy))]
  rfl
end
section
def hex8 (a:Nat):List UInt8:=hexP 8 (bitsOf a)
theorem qaji {c:UInt8} (hc:c=32∨c=10) {d:Nat} (h:d<16):hexC d≠c:=by
 have key : ∀ d:Fin 16,hexC d.val≠32∧hexC d.val≠10:=by decide
 rcases hc with rfl | rfl
 ·exact (key ⟨d,h⟩).1
 ·exact (key ⟨d,h⟩).2
theorem qwe {c:UInt8} (hc:c=32∨c=10) : ∀ k n,c∉hexP k n
 | 0,_=>by simp [hexP]
 | k+1,n=>by
  rw [hexP]
  intro h
  rcases List.mem_append.1 h with h | h
  ·exact qwe hc k _ h
  ·rw [List.mem_singleton] at h
   exact qaji hc (Nat.mod_lt n (by decide)) h.symm
theorem qajl {c:UInt8} (hc:c=32∨c=10) (n:Int):c∉Lib.itoa n:=by
 have hd : ∀ u,c∉Lib.decDigits u:=fun u=>by
  rcases hc with rfl | rfl
  ·exact qyh rfl u
  ·exact qyh rfl u
 unfold Lib.itoa
 split
 ·intro h
  rcases List.mem_cons.1 h with h | h
  ·rcases hc with rfl | rfl <;> exact absurd h (by decide)
  ·exact hd _ h
 ·exact hd _
def goodN (a:Nat):Prop:=numR (hex8 a)=some a
def goodV (v:Vec 3 Nat):Prop:=goodN v.1∧goodN v.2.1∧goodN v.2.2.1
theorem qaj0 (r:DRd) (h:(wordOf r).length≤1048576) : ∃ a:Nat,qai r=some ((a,()),((r.1.drop 1,((r.1.isEmpty||r.2.1)||(numR (wordOf r)).isNone,())),())) ∧ ∀ x,numR (wordOf r)=some x→a=x:=by
 obtain ⟨ws,f,⟨⟩⟩:=r
 have hw:=qe6 (ws,f,())
 have hn:=qwg h
 unfold qai
 rw [hw]
 simp only [Option.bind_some]
 rw [hn]
 cases hr:numR (wordOf (ws,f,())) with
 | none =>
  refine ⟨0,?_,fun x hx=>by cases hx⟩
  simp only [Option.bind_some,restOf]
  cases (ws.isEmpty||f) <;> rfl
 | some a =>
  refine ⟨a,?_,fun x hx=>Option.some.inj hx⟩
  simp only [Option.bind_some,restOf]
  cases (ws.isEmpty||f) <;> rfl
end
section
theorem qnm {a:Nat} (h:goodN a):a<4294967296:=(qajz h).1
theorem qte {a:Nat} (h:goodN a):qek a=some ((hex8 a,()),()):=qacw (qnm h)
theorem qcg (a:Nat):(hex8 a).length=8:=qhw 8 _
def vecT (v:Vec 3 Nat):List UInt8:=hex8 v.1++[32]++hex8 v.2.1++[32]++hex8 v.2.2.1
theorem qaha (v:Vec 3 Nat):(vecT v).length=26:=by
 unfold vecT
 simp [qcg]
theorem qb5 {a b:List UInt8} (h:a.length+b.length≤1000000000):strRoom a b=true:=qaiv (by omega)
theorem qabp {v:Vec 3 Nat} (h:goodV v):qmg v=some ((vecT v,()),()):=by
 obtain ⟨a,b,c,⟨⟩⟩:=v
 obtain ⟨ha,hb,hc⟩:=h
 have l0:lenI ([a,b,c]:List Nat)=3:=rfl
 have step0:qb8 [a,b,c] (([]:List UInt8),(0:Int),())=some (.inl (hex8 a,(1:Int),())):=by
  unfold qb8
  simp only
  rw [l0,show iLt (0:Int) 3=true from rfl,show iLt 0 (0:Int)=false from rfl,show inB 0 ([a,b,c]:List Nat).length=true from rfl]
  simp only [cond_true,cond_false]
  rw [show List.getD [a,b,c] (0:Int).toNat (0:Nat)=a from rfl,qte ha]
  simp only [Option.bind_some]
  rw [qb5 (by rw [qcg];simp),show iAdd .i64 (0:Int) 1=1 from by decide]
  rfl
 have step1:qb8 [a,b,c] (hex8 a,(1:Int),())=some (.inl (hex8 a++[32]++hex8 b,(2:Int),())):=by
  unfold qb8
  simp only
  rw [l0,show iLt (1:Int) 3=true from rfl,show iLt 0 (1:Int)=true from rfl,show inB 1 ([a,b,c]:List Nat).length=true from rfl,qb5 (a:=hex8 a) (b:=[32]) (by rw [qcg];simp)]
  simp only [cond_true,cond_false]
  rw [show List.getD [a,b,c] (1:Int).toNat (0:Nat)=b from rfl,qte hb]
  simp only [Option.bind_some]
  rw [qb5 (by unfold strCat;simp [qcg]),show iAdd .i64 (1:Int) 1=2 from by decide]
  rfl
 have step2:qb8 [a,b,c] (hex8 a++[32]++hex8 b,(2:Int),())=some (.inl (hex8 a++[32]++hex8 b++[32]++hex8 c,(3:Int),())):=by
  unfold qb8
  simp only
  rw [l0,show iLt (2:Int) 3=true from rfl,show iLt 0 (2:Int)=true from rfl,show inB 2 ([a,b,c]:List Nat).length=true from rfl,qb5 (a:=hex8 a++[32]++hex8 b) (b:=[32]) (by simp [qcg])]
  simp only [cond_true,cond_false]
  rw [show List.getD [a,b,c] (2:Int).toNat (0:Nat)=c from rfl,qte hc]
  simp only [Option.bind_some]
  rw [qb5 (by unfold strCat;simp [qcg]),show iAdd .i64 (2:Int) 1=3 from by decide]
  rfl
 have step3:qb8 [a,b,c] (hex8 a++[32]++hex8 b++[32]++hex8 c,(3:Int),())=some (.inr ((hex8 a++[32]++hex8 b++[32]++hex8 c,()),())):=by
  unfold qb8
  simp only
  rw [l0]
  rfl
 have hr:qj5 [a,b,c]=some ((vecT (a,b,c,()),()),()):=by
  unfold qj5
  rw [qan step0,qan step1,qan step2,qal step3]
  rfl
 unfold qmg
 show (qj5 [a,b,c]).bind _=_
 rw [hr]
 rfl
end
section
theorem qags (a b:List UInt8):bytesOf (a++b)=bytesOf a++bytesOf b:=List.map_append
theorem qaf5 (t:List UInt8):ofBytes (bytesOf t)=t:=by
 unfold ofBytes bytesOf
 rw [List.map_map]
 exact (List.map_congr_left fun b _=>qq9 b).trans (List.map_id _)
theorem qada {t s:List UInt8} (h:t.length+s.length≤1000000000):qa6 ((),bytesOf t,()) s=some ((lenI s,true,()),(((),bytesOf (t++s),()),())):=by
 unfold qa6 qef
 simp only [Option.bind_some]
 have:room (List.length (bytesOf t)+List.length (bytesOf s)) 1=true:=by unfold room bytesOf;simp;omega
 rw [this,qags]
 rfl
theorem qah5 {s:List UInt8} (h:s.length≤1000000000):qa6 ((),[],()) s=some ((lenI s,true,()),(((),bytesOf s,()),())):=qada (t:=[]) (by simpa using h)
theorem qamq {t:List UInt8} (h:t≠[]) (h1:t.length≤1000000000):bldStr ((),bytesOf t,())=some t:=by
 have e1:Nat.ble 1 (List.length (bytesOf t))=true:=by
  rw [Nat.ble_eq];unfold bytesOf;rw [List.length_map]
  exact List.length_pos_iff.2 h
 have e2:Nat.ble (List.length (bytesOf t)) 140737488355328=true:=by rw [Nat.ble_eq];unfold bytesOf;rw [List.length_map];omega
 unfold bldStr
 simp only
 rw [e1,e2,qaf5]
 rfl
theorem qgw {a:Nat} (h:fltFit .f32 a):goodN a:=by
 obtain ⟨hc,hl⟩:=h
 have hl:a<4294967296:=hl
 have hb:bitsOf a=a:=by
  unfold bitsOf
  split
  ·rfl
  ·rename_i hn
   rw [qim] at hn
   have hn:isNan .f32 a=true:=by simpa using hn
   unfold canon at hc
   rw [hn] at hc
   exact hc
 unfold goodN hex8
 rw [hb,qajy hl,hc,if_pos hb]
theorem qajh {v:Vec 3 Nat} (h:FitVec (fltFit .f32) 3 v):goodV v:=⟨qgw h.1,qgw h.2.1,qgw h.2.2.1⟩
theorem qaek (a b c:Nat) (ha:a<4294967296) (hb:b<4294967296) (hc:c<4294967296):qha [a,b,c]=some ((hex8 a++[32]++hex8 b++[32]++hex8 c,()),()):=by
 have l1 : ∀ x,(hex8 x).length=8:=fun x=>qhw 8 _
 have s0:qbg [a,b,c] ([],0,())=some (.inl ([hex8 a],1,())):=by
  unfold qbg
  have e:=qcq ha
  have g:List.getD [a,b,c] (Int.toNat 0) 0=a:=rfl
  simp only
  rw [g,e]
  rfl
 have s1:qbg [a,b,c] ([hex8 a],1,())=some (.inl ([hex8 a,hex8 b],2,())):=by
  unfold qbg
  have e:=qcq hb
  have g:List.getD [a,b,c] (Int.toNat 1) 0=b:=rfl
  simp only
  rw [g,e]
  rfl
 have s2:qbg [a,b,c] ([hex8 a,hex8 b],2,())=some (.inl ([hex8 a,hex8 b,hex8 c],3,())):=by
  unfold qbg
  have e:=qcq hc
  have g:List.getD [a,b,c] (Int.toNat 2) 0=c:=rfl
  simp only
  rw [g,e]
  rfl
 have hj:Lib.join [hex8 a,hex8 b,hex8 c] [32]=hex8 a++[32]++hex8 b++[32]++hex8 c:=by
  simp [Lib.join_cons,Lib.joinTail]
 have e:strings_Join [hex8 a,hex8 b,hex8 c] [32]=some ((hex8 a++[32]++hex8 b++[32]++hex8 c,()),()):=by
  unfold strings_Join
  rw [hj]
  have:Nat.ble (hex8 a++[32]++hex8 b++[32]++hex8 c).length 140737488355328=true:=by rw [Nat.ble_eq];simp [l1]
  rw [this]
  rfl
 unfold qha
 rw [qan s0,qan s1,qan s2]
 refine qal ?_
 unfold qbg
 simp only
 rw [e]
 rfl
theorem qaab {v:Vec 3 Nat} (h:goodV v):qlq v=some ((vecT v,()),()):=by
 unfold qlq
 have v0:Vec.getD 3 v 0 (0:Nat)=v.1:=rfl
 have v1:Vec.getD 3 v 1 (0:Nat)=v.2.1:=rfl
 have v2:Vec.getD 3 v 2 (0:Nat)=v.2.2.1:=rfl
 rw [v0,v1,v2,qaek _ _ _ (qnm h.1) (qnm h.2.1) (qnm h.2.2)]
 rfl
end
section
def dotA:Nat→List Nat→List Nat→Nat
 | acc,a :: l,b :: m=>dotA (fAdd .f32 acc (fMul .f32 a b)) l m
 | acc,_,_=>acc
theorem qahv {L M:List Nat} (hLM:L.length≤M.length) (hL:L.length≤100) : ∀ (k i acc:Nat),1≤i→i+k=L.length→run (qhq L M) (acc,(i:Int),())=some ((dotA acc (L.drop i) (M.drop i),()),())
 | 0,i,acc,h1,h=>by
  have e1:iLt (i:Int) (lenI L)=false:=qah (by rw [qaa];omega)
  rw [List.drop_of_length_le (by omega:L.length≤i)]
  exact qal (by simp only [qhq,e1,cond_false,Option.map_some];rfl)
 | k+1,i,acc,h1,h=>by
  have e1:iLt (i:Int) (lenI L)=true:=qag (by rw [qaa];omega)
  have e2:inB (i:Int) L.length=true:=qae (by omega)
  have e3:inB (i:Int) M.length=true:=qae (by omega)
  have e4:iEq (i:Int) 0=false:=qa5 (by omega)
  have e5:iAdd .i64 (i:Int) 1=((i+1:Nat):Int):=qao (n:=L.length) (by omega) (by omega)
  have g1:L.getD i (0:Nat)=L[i]'(by omega):=qaj (by omega)
  have g2:M.getD i (0:Nat)=M[i]'(by omega):=qaj (by omega)
  rw [List.drop_eq_getElem_cons (by omega:i<L.length),List.drop_eq_getElem_cons (by omega:i<M.length)]
  refine (qan (s':=(fAdd .f32 acc (fMul .f32 (L[i]'(by omega)) (M[i]'(by omega))),((i+1:Nat):Int),())) ?_).trans (qahv hLM hL k (i+1) _ (by omega) (by omega))
  simp only [qhq,e1,e2,e3,e4,e5,Int.toNat_natCast,g1,g2,cond_true,cond_false]
theorem qael (a b:Nat) (l m:List Nat) (h:l.length≤m.length) (h1:l.length≤90):qlw (a :: l) (b :: m)=some ((dotA (fMul .f32 a b) l m,()),()):=by
 have e:=qahv (L:=a :: l) (M:=b :: m) (by rw [List.length_cons,List.length_cons];omega) (by rw [List.length_cons];omega) l.length 1 (fMul .f32 a b) (by omega) (by rw [List.length_cons];omega)
 refine (qan (s':=(fMul .f32 a b,((1:Nat):Int),())) ?_).trans (e.trans (by simp))
 have e1:iLt 0 (lenI (a :: l))=true:=qag (by rw [qaa,List.length_cons];omega)
 have e2:inB 0 (a :: l).length=true:=qae (i:=0) (by simp)
 have e3:inB 0 (b :: m).length=true:=qae (i:=0) (by simp)
 simp only [qhq,e1,e2,e3,cond_true]
 rfl
theorem qaoc (a0 a1 a2 b0 b1 b2:Nat):qlw [a0,a1,a2] [b0,b1,b2]=some ((dotA (fMul .f32 a0 b0) [a1,a2] [b1,b2],()),()):=qael _ _ _ _ (by simp) (by simp)
end
end Go.Proofs.YtjhdoneobdbeaaaGreatDoor
