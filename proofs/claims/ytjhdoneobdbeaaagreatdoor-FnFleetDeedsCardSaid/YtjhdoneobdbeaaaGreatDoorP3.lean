import Derived.Test.YtjhdoneobdbeaaaGreatDoorP2
/- Functions of the program and of the reference in plain terms. -/
set_option linter.unusedSectionVars false
set_option linter.unusedSimpArgs false
set_option linter.unusedVariables false
namespace Go.Proofs.YtjhdoneobdbeaaaGreatDoor
open Go Go.Tm
section
theorem qamn {f:Ieee.Format} {s:Bool} {e K:Nat} (hK:(e=0∧K<f.binade)∨(f.binade≤K∧K<2*f.binade)) (hr:e*f.binade+K<f.infRung):f.read (f.word s (e*f.binade+K)) = .number s K (f.leastPlace+e):=by
 have h1:f.infRung<f.signWeight:=Ieee.Format.infRung_lt f
 generalize hR:e*f.binade+K=r at *
 have hm:f.word s r%f.signWeight=r:=qtb s (by omega)
 have hs:(f.word s r/f.signWeight%2==1)=s:=by
  cases s
  ·show (r/f.signWeight%2==1)=false
   rw [Nat.div_eq_of_lt (by omega)];rfl
  ·show ((f.signWeight+r)/f.signWeight%2==1)=true
   rw [Nat.add_div_left _ (by omega),Nat.div_eq_of_lt (by omega)];rfl
 have hpos:0<f.binade:=Nat.two_pow_pos _
 unfold Ieee.Format.read
 simp only [hm,hs]
 rcases hK with ⟨he,hK⟩ | ⟨hK,hK2⟩
 ·subst he
  rw [Nat.zero_mul,Nat.zero_add] at hR
  subst hR
  rw [if_pos hK]
  simp
 ·have hge:¬ r<f.binade:=by
   rw [← hR]
   have:=Nat.zero_le (e*f.binade)
   omega
  rw [if_neg hge,if_pos hr]
  obtain ⟨g,hg⟩ : ∃ g,K=f.binade+g:=⟨K-f.binade,by omega⟩
  have hg2:g<f.binade:=by omega
  have hR2:r=g+f.binade*(e+1):=by rw [← hR,hg,Nat.mul_add,Nat.mul_comm];omega
  have d1:r/f.binade=e+1:=by rw [hR2,Nat.add_mul_div_left _ _ hpos,Nat.div_eq_of_lt hg2];omega
  have d2:r%f.binade=g:=by rw [hR2,Nat.add_mul_mod_self_left,Nat.mod_eq_of_lt hg2]
  rw [d1,d2,hg]
  simp
end
section
theorem qal2 {α:Type} {a b:List α} (h:iEq (lenI a) (lenI b)=true):a.length=b.length:=by
 rw [qhw,qaa,qaa] at h
 omega
theorem qn0 (x:Nat):sameN x x=true:=by
 unfold sameN
 cases isNan .f32 x
 ·simp [qbr]
 ·rfl
theorem qak1 (v:Vec 3 Nat):sameV v v=true:=by simp [sameV,qn0]
end
section
theorem qapi (x:Nat) (h:finB x=true):(!fLt .f32 x 0)=fLe .f32 0 x:=by
 obtain ⟨s,m,p,hd⟩:=qg1 (k:=.f32) h
 have hd':FloatKind.f32.format.read x = .number s m p:=hd
 have h0:FloatKind.f32.format.read 0 = .number false 0 (-149):=by decide
 have some_beq : ∀ (a b:Ordering),((some a:Option Ordering)==some b)=(a==b):=fun a b=>by cases a <;> cases b <;> rfl
 unfold fLt fLe Ieee.Format.order
 rw [hd',h0]
 simp only [Ieee.Datum.order,some_beq]
 rw [qrx,qnf,Int.min_comm]
 generalize Ieee.signed s m _=a
 generalize Ieee.signed false 0 _=b
 by_cases h:a<b
 ·have:¬ b≤a:=by omega
  simp [h,this]
 ·have:b≤a:=by omega
  simp [h,this]
def leastB (x:Nat):Bool:=finB x&&fLe .f32 0 x
theorem qacb (x:Nat):qno [x]=some ((leastB x,()),()):=by
 have h:=qn1 [x] (fun z1059=>(qpl z1059.1).map fun y=>y.1.1) (fun p=>fLt .f32 p 0) (by simp) (fun x _=>rfl)
 simp only [qno,h,qi7 [x] (by simp),Option.bind_some,List.all_cons,List.all_nil,List.any_cons,List.any_nil,Bool.and_true,Bool.or_false,leastB]
 cases hf:finB x with
 | false=>rfl
 | true=>rw [qapi x hf];rfl
end
section
abbrev DSight:=(Vec 3 Nat)×(Nat×(Int×Unit))
abbrev DFleet:=Nat×(Nat×((List (List DSight))×Unit))
abbrev TySight:Ty:=.pair (.arr 3 (.flt .f32)) (.pair (.flt .f32) (.pair (.int .i64) .unit))
abbrev TyFleet:Ty:=.pair (.flt .f32) (.pair (.flt .f32) (.pair (.list (.list TySight)) .unit))
def sideB (x:Nat):Bool:=finB x&&fLt .f32 0 x
theorem qdk (x:Nat):qet x=some ((sideB x,()),()):=by
 simp only [qet,qi7 [x] (by simp),Option.bind_some,List.all_cons,List.all_nil,Bool.and_true,sideB]
 cases finB x <;> rfl
theorem qom (x:Nat):qip x=some ((sideB x,()),()):=by
 simp only [qip,qcx,Option.bind_some,sideB]
 cases finB x <;> rfl
theorem qxh (x:Nat):qhe x=some ((fRound .down x,()),()):=rfl
theorem qahh {y:Nat} (hn:isNan .f64 y=false):qms y=some ((absW y,()),()):=by
 unfold qms
 exact qiy fun q=>by rw [qpe hn];rfl
def floorC (v side:Nat):Nat:=fRound .down (conv64 (fDiv .f32 v side))
theorem qr0 {v side:Nat} (hv:finB v=true) (hs:sideB side=true):isNan .f64 (floorC v side)=false:=by
 simp only [sideB,Bool.and_eq_true] at hs
 obtain ⟨s,m,p,h1⟩:=qg1 (k:=.f32) hv
 obtain ⟨s',m',p',h2⟩:=qg1 (k:=.f32) hs.1
 exact qakl (qakd (qapd h1 h2 (qanu h2 hs.2)))
def cellB (v side:Nat):Bool:=fLe .f64 milliom (floorC v side)&&fLe .f64 (floorC v side) million
def cellN (v side:Nat):Int:=(fToInt .f64 (floorC v side) .i32).getD 0
theorem qpf {v side:Nat} (hv:finB v=true) (hs:sideB side=true) (h:cellB v side=true):fToInt .f64 (floorC v side) .i32=some (cellN v side):=by
 obtain ⟨n,hn,_⟩:=qxq (qr0 hv hs) h
 unfold cellN
 rw [hn]
 rfl
def cellF (side:Nat) (v:Vec 3 Nat):Vec 3 Int×Int×Unit :=
 bif !(sideB side&&finV v) then ((0,0,0,()),2,()) else
 bif cellB (Vec.getD 3 v 0 (0:Nat)) side&&(cellB (Vec.getD 3 v 1 (0:Nat)) side&&cellB (Vec.getD 3 v 2 (0:Nat)) side) then ((cellN (Vec.getD 3 v 0 (0:Nat)) side,cellN (Vec.getD 3 v 1 (0:Nat)) side,cellN (Vec.getD 3 v 2 (0:Nat)) side,()),0,()) else ((0,0,0,()),3,())
theorem qpj (side:Nat) (v:Vec 3 Nat):qco side v=some (cellF side v,()):=by
 have em:(4696837146684686336:Nat)=million:=rfl
 simp only [qco,qdk,qo0,Option.bind_some,cellF]
 cases hs:sideB side with
 | false=>rfl
 | true =>
  cases hv:finV v with
  | false=>rfl
  | true =>
   have hv':=hv
   simp only [finV,Bool.and_eq_true] at hv'
   obtain ⟨v0,v1,v2⟩:=hv'
   have ab : ∀ x,finB x=true→qms (floorC x side)=some ((absW (floorC x side),()),()):=fun x hx=>qahh (qr0 hx hs)
   have am : ∀ x,finB x=true→fLt .f64 million (absW (floorC x side)) = !cellB x side:=fun x hx=>qaig (qalq _) (qr0 hx hs)
   have ec : ∀ x,fRound .down (conv64 (fDiv .f32 x side))=floorC x side:=fun _=>rfl
   simp only [Bool.not_true,Bool.and_self,cond_false,qk2,qxh,Option.bind_some,ec,ab _ v0,ab _ v1,ab _ v2,em,am _ v0,am _ v1,am _ v2]
   cases c0:cellB (Vec.getD 3 v 0 (0:Nat)) side
   ·rfl
   ·simp only [Bool.not_true,cond_false,qpf v0 hs c0,Option.bind_some,Bool.true_and]
    cases c1:cellB (Vec.getD 3 v 1 (0:Nat)) side
    ·rfl
    ·simp only [Bool.not_true,cond_false,qpf v1 hs c1,Option.bind_some,Bool.true_and]
     cases c2:cellB (Vec.getD 3 v 2 (0:Nat)) side
     ·rfl
     ·simp only [Bool.not_true,cond_false,cond_true,qpf v2 hs c2,Option.bind_some]
theorem qoe (side:Nat) (v:Vec 3 Nat):qd1 side v=some (cellF side v,()):=by
 have em:(4696837146684686336:Nat)=million:=rfl
 have en:(13920209183539462144:Nat)=milliom:=rfl
 simp only [qd1,qom,qv1,Option.bind_some,cellF]
 cases hs:sideB side with
 | false=>rfl
 | true =>
  cases hv:finV v with
  | false=>rfl
  | true =>
   have hv':=hv
   simp only [finV,Bool.and_eq_true] at hv'
   obtain ⟨v0,v1,v2⟩:=hv'
   have ec : ∀ x,fRound .down (conv64 (fDiv .f32 x side))=floorC x side:=fun _=>rfl
   have cb : ∀ x,cellB x side=(fLe .f64 milliom (floorC x side)&&fLe .f64 (floorC x side) million):=fun _=>rfl
   have k0:=fun h=>qpf v0 hs h
   have k1:=fun h=>qpf v1 hs h
   have k2:=fun h=>qpf v2 hs h
   rw [cb] at k0 k1 k2
   simp only [Bool.not_true,Bool.and_self,cond_false,qk2,qxh,Option.bind_some,ec,em,en,cb]
   cases a0:fLe .f64 milliom (floorC (Vec.getD 3 v 0 (0:Nat)) side)
   ·rfl
   ·cases b0:fLe .f64 (floorC (Vec.getD 3 v 0 (0:Nat)) side) million
    ·rfl
    ·simp only [Bool.not_true,cond_false,cond_true,k0 (by rw [a0,b0];rfl),Option.bind_some,Bool.true_and]
     cases a1:fLe .f64 milliom (floorC (Vec.getD 3 v 1 (0:Nat)) side)
     ·rfl
     ·cases b1:fLe .f64 (floorC (Vec.getD 3 v 1 (0:Nat)) side) million
      ·rfl
      ·simp only [Bool.not_true,cond_false,cond_true,k1 (by rw [a1,b1];rfl),Option.bind_some,Bool.true_and]
       cases a2:fLe .f64 milliom (floorC (Vec.getD 3 v 2 (0:Nat)) side)
       ·rfl
       ·cases b2:fLe .f64 (floorC (Vec.getD 3 v 2 (0:Nat)) side) million
        ·rfl
        ·simp only [Bool.not_true,cond_false,cond_true,k2 (by rw [a2,b2];rfl),Option.bind_some,Bool.and_self]
theorem qad8 (side:Nat) (v:Vec 3 Nat):qqb side v=some (cellF side v,()):=by
 simp only [qqb,qoe,Option.bind_some]
theorem qabg (x:Nat):ql7 x=some ((leastB x,()),()):=by
 simp only [ql7,qcx,Option.bind_some,leastB]
 cases fLe .f32 0 x <;> cases finB x <;> rfl
def timeB (t:Int):Bool:=iLe 0 t&&iLe t 1000000000
theorem qii (t:Int):qjw t=some ((timeB t,()),()):=by
 simp only [qjw,qht,qcg,Option.bind_some,timeB]
theorem qhk (t:Int):qin t=some ((timeB t,()),()):=by
 simp only [qin,qcg,Option.bind_some,timeB]
def rangeB (x:Nat):Bool:=fLt .f32 0 x&&fLe .f32 x 1232348160
theorem qaf2 {x:Nat} {s:Bool} {m:Nat} {p:Int} (h:FloatKind.f32.decode x = .number s m p):finB x=true:=by
 have h':FloatKind.f32.format.read x = .number s m p:=h
 have e:fSub .f32 x x=0:=by
  unfold fSub Ieee.Format.sub
  rw [h']
  have hs:Ieee.signed s m (p-min p p).toNat+Ieee.signed (!s) m (p-min p p).toNat=0:=by rw [qak4];omega
  have e2:Ieee.Datum.sum (.number s m p) (Ieee.Datum.opposite (.number s m p))=some (.number false 0 (min p p)):=by
   simp only [Ieee.Datum.sum,Ieee.Datum.opposite,hs]
   cases s <;> rfl
  rw [e2]
  simp only [Option.map_some,orNan]
  have e3:FloatKind.f32.format.write (.number false 0 (min p p))=0:=by
   show FloatKind.f32.format.nearest false 0 (min p p)=0
   rw [qlc]
   unfold rungOf
   rw [if_pos rfl]
   rfl
  rw [e3]
  decide
 unfold finB
 rw [e]
 decide
theorem qaon (x:Nat):(sideB x && !fLt .f32 1232348160 x)=rangeB x:=by
 have hC:FloatKind.f32.format.read 1232348160 = .number false 16000000 (-4):=by decide
 have some_beq : ∀ (a b:Ordering),((some a:Option Ordering)==some b)=(a==b):=fun a b=>by cases a <;> cases b <;> rfl
 cases hd:FloatKind.f32.decode x with
 | nan s t =>
  have hn:isNan .f32 x=true:=qa0.2 ⟨s,t,hd⟩
  have e1:fLt .f32 0 x=false:=by unfold fLt;rw [qwz _ _ hn];rfl
  simp [sideB,rangeB,e1]
 | infinity s =>
  have hd':FloatKind.f32.format.read x = .infinity s:=hd
  have e2:finB x=false:=by
   cases hf:finB x with
   | false=>rfl
   | true =>
    obtain ⟨a,b,c,h⟩:=qg1 (k:=.f32) hf
    exact absurd (hd.symm.trans h) (by simp)
  have h0:FloatKind.f32.format.read 0 = .number false 0 (-149):=by decide
  have e3:rangeB x=false:=by
   unfold rangeB fLt fLe Ieee.Format.order
   rw [hd',hC,h0]
   cases s <;> rfl
  simp [sideB,e2,e3]
 | number s m p =>
  have hd':FloatKind.f32.format.read x = .number s m p:=hd
  have e4:(!fLt .f32 1232348160 x)=fLe .f32 x 1232348160:=by
   unfold fLt fLe Ieee.Format.order
   rw [hd',hC]
   simp only [Ieee.Datum.order,some_beq]
   rw [qrx,qnf,Int.min_comm]
   generalize Ieee.signed s m _=a
   generalize Ieee.signed false 16000000 _=b
   by_cases h:b<a
   ·have:¬ a≤b:=by omega
    simp [h,this]
   ·have:a≤b:=by omega
    simp [h,this]
  rw [e4]
  simp [sideB,rangeB,qaf2 hd]
def sightB (side:Nat) (s:DSight):Bool:=iEq (cellF side s.1).2.1 0&&(rangeB s.2.1&&timeB s.2.2.1)
def fleetB (f:DFleet):Bool:=sideB f.1&&(leastB f.2.1&&((iLe 1 (lenI f.2.2.1)&&iLe (lenI f.2.2.1) 4)&&f.2.2.1.all fun l => !iLt 16 (lenI l)&&l.all (sightB f.1)))
theorem qqm (f:DFleet) (h:Sized TyFleet f):qg3 f=some ((fleetB f,()),()):=by
 have hr:run (qg4 f) ((0:Int),())=some ((f.2.2.1.all fun l => !iLt 16 (lenI l)&&l.all (sightB f.1),()),()):=by
  have hl:f.2.2.1.length≤140737488355328:=h.2.2.1.1
  refine qk1 (fun i hi => ?_) ?_
  ·have e1:iLt (i:Int) (lenI f.2.2.1)=true:=qah (by rw [qaa];omega)
   have e2:inB (i:Int) f.2.2.1.length=true:=qae hi
   have e4:f.2.2.1.getD i ([]:List DSight)=f.2.2.1[i]:=qal hi
   have e5:iAdd .i64 (i:Int) 1=((i+1:Nat):Int):=qaq hi (by omega)
   have hs:f.2.2.1[i].length≤140737488355328:=(h.2.2.1.2 _ (List.getElem_mem hi)).1
   simp only [qg4,e1,e2,e4,Int.toNat_natCast,cond_true]
   generalize f.2.2.1[i]=l at hs
   cases iLt 16 (lenI l)
   ·have hin:run (qg5 l f ((i:Int),())) ((0:Int),())=bif l.all (sightB f.1) then some (.inl (((i+1:Nat):Int),())) else some (.inr ((false,()),())):=by
     refine qaa7 (xs:=l) (fun j (s:Unit)=>((j:Int),())) (sightB f.1) (fun s _=>s) (Sum.inr ((false,()),())) (fun s=>some (Sum.inl (((i+1:Nat):Int),()))) (fun j hj s => ?_) (fun s => ?_) ()
     ·have e1:iLt (j:Int) (lenI l)=true:=qah (by rw [qaa];omega)
      have e2:inB (j:Int) l.length=true:=qae hj
      have e4:l.getD j (((0,0,0,()),0,0,()):DSight)=l[j]:=qal hj
      have e5:iAdd .i64 (j:Int) 1=((j+1:Nat):Int):=qaq hj (by omega)
      simp only [qg5,e1,e2,e4,e5,Int.toNat_natCast,qpj,qdk,qii,Option.bind_some,cond_true,sightB,← qaon]
      generalize l[j]=x
      cases iEq (cellF f.1 x.1).2.1 0 <;> cases sideB x.2.1 <;> cases fLt .f32 1232348160 x.2.1 <;> cases timeB x.2.2.1 <;> rfl
     ·have e1:iLt (l.length:Int) (lenI l)=false:=qaf (by rw [qaa];omega)
      simp only [qg5,e1,e5,cond_false]
    simp only [cond_false,hin]
    cases l.all (sightB f.1) <;> rfl
   ·rfl
  ·have e1:iLt (f.2.2.1.length:Int) (lenI f.2.2.1)=false:=qaf (by rw [qaa];omega)
   simp only [qg4,e1,cond_false]
   rfl
 simp only [qg3,qdk,qacb,qht,qcg,hr,Option.bind_some,fleetB]
 cases sideB f.1 <;> cases leastB f.2.1 <;> cases (iLe 1 (lenI f.2.2.1)&&iLe (lenI f.2.2.1) 4) <;> rfl
theorem qrd (f:DFleet) (h:Sized TyFleet f):qos f=some ((fleetB f,()),()):=by
 have hr:run (qma f) ((0:Int),())=some ((f.2.2.1.all fun l => !iLt 16 (lenI l)&&l.all (sightB f.1),()),()):=by
  have hl:f.2.2.1.length≤140737488355328:=h.2.2.1.1
  refine qk1 (fun i hi => ?_) ?_
  ·have e1:iLt (i:Int) (lenI f.2.2.1)=true:=qah (by rw [qaa];omega)
   have e2:inB (i:Int) f.2.2.1.length=true:=qae hi
   have e4:f.2.2.1.getD i ([]:List DSight)=f.2.2.1[i]:=qal hi
   have e5:iAdd .i64 (i:Int) 1=((i+1:Nat):Int):=qaq hi (by omega)
   have hs:f.2.2.1[i].length≤140737488355328:=(h.2.2.1.2 _ (List.getElem_mem hi)).1
   have hin : ∀ l:List DSight,f.2.2.1[i]=l→l.length≤140737488355328→run (qmb ((i:Int),()) f) ((0:Int),())=bif l.all (sightB f.1) then some (.inl (((i+1:Nat):Int),())) else some (.inr ((false,()),())):=by
    intro l hl' hs
    rw [hl'] at e4
    refine qaa7 (xs:=l) (fun j (s:Unit)=>((j:Int),())) (sightB f.1) (fun s _=>s) (Sum.inr ((false,()),())) (fun s=>some (Sum.inl (((i+1:Nat):Int),()))) (fun j hj s => ?_) (fun s => ?_) ()
    ·have e1:iLt (j:Int) (lenI l)=true:=qah (by rw [qaa];omega)
     have e3:inB (j:Int) l.length=true:=qae hj
     have e6:l.getD j (((0,0,0,()),0,0,()):DSight)=l[j]:=qal hj
     have e5:iAdd .i64 (j:Int) 1=((j+1:Nat):Int):=qaq hj (by omega)
     simp only [qmb,e1,e2,e3,e4,e5,e6,Int.toNat_natCast,qad8,qhk,Option.bind_some,cond_true,sightB,rangeB]
     generalize l[j]=x
     cases iEq (cellF f.1 x.1).2.1 0 <;> cases fLt .f32 0 x.2.1 <;> cases fLe .f32 x.2.1 1232348160 <;> cases timeB x.2.2.1 <;> rfl
    ·have e1:iLt (l.length:Int) (lenI l)=false:=qaf (by rw [qaa];omega)
     simp only [qmb,e1,e2,e4,e5,Int.toNat_natCast,cond_false,cond_true]
   have hin':=hin _ rfl hs
   simp only [qma,e1,e2,e4,Int.toNat_natCast,cond_true,hin']
   cases iLt 16 (lenI f.2.2.1[i]) <;> cases f.2.2.1[i].all (sightB f.1) <;> rfl
  ·have e1:iLt (f.2.2.1.length:Int) (lenI f.2.2.1)=false:=qaf (by rw [qaa];omega)
   simp only [qma,e1,cond_false]
   rfl
 simp only [qos,qom,qabg,qcg,hr,Option.bind_some,fleetB]
 cases sideB f.1 <;> cases leastB f.2.1 <;> cases (iLe 1 (lenI f.2.2.1)&&iLe (lenI f.2.2.1) 4) <;> rfl
end
section

end
section
def joinC (c:UInt8):List (List UInt8)→List UInt8
 | []=>[]
 | [w]=>w
 | w :: v :: r=>w++c :: joinC c (v :: r)
theorem qw8 (c:UInt8) : ∀ ws:List (List UInt8),ws≠[]→(∀ w∈ws,c∉w)→splitC c (joinC c ws)=ws
 | [],h,_=>absurd rfl h
 | [w],_,h=>qfz (h w (by simp))
 | w :: v :: r,_,h=>by
  show splitC c (w++c :: joinC c (v :: r))=_
  rw [qfq _ (h w (by simp)),qw8 c (v :: r) (by simp) (fun x hx=>h x (List.mem_cons_of_mem _ hx))]
theorem qyt {c d:UInt8} (hcd:d≠c) : ∀ ws:List (List UInt8),(∀ w∈ws,d∉w)→d∉joinC c ws
 | [],_=>by simp [joinC]
 | [w],h=>h w (by simp)
 | w :: v :: r,h=>by
  show d∉w++c :: joinC c (v :: r)
  intro hd
  rcases List.mem_append.1 hd with hd | hd
  ·exact h w (by simp) hd
  ·rcases List.mem_cons.1 hd with hd | hd
   ·exact hcd hd
   ·exact qyt hcd (v :: r) (fun x hx=>h x (List.mem_cons_of_mem _ hx)) hd
def linesT (Ls:List (List UInt8)):List UInt8:=Ls.flatMap fun x=>x++[10]
theorem qaat : ∀ Ls:List (List UInt8),(∀ x∈Ls,(10:UInt8)∉x)→splitC 10 (linesT Ls)=Ls++[[]]
 | [],_=>rfl
 | x :: Ls,h=>by
  have e:linesT (x :: Ls)=x++10 :: linesT Ls:=by
   unfold linesT;rw [List.flatMap_cons];simp
  rw [e,qfq _ (h x (by simp)),qaat Ls (fun y hy=>h y (List.mem_cons_of_mem _ hy))]
  rfl
end
section
def hex8 (a:Nat):List UInt8:=hexP 8 (bitsOf a)
theorem qalw {c:UInt8} (hc:c=32∨c=10) {d:Nat} (h:d<16):hexC d≠c:=by
 have key : ∀ d:Fin 16,hexC d.val≠32∧hexC d.val≠10:=by decide
 rcases hc with rfl | rfl
 ·exact (key ⟨d,h⟩).1
 ·exact (key ⟨d,h⟩).2
theorem qyl {c:UInt8} (hc:c=32∨c=10) : ∀ k n,c∉hexP k n
 | 0,_=>by simp [hexP]
 | k+1,n=>by
  rw [hexP]
  intro h
  rcases List.mem_append.1 h with h | h
  ·exact qyl hc k _ h
  ·rw [List.mem_singleton] at h
   exact qalw hc (Nat.mod_lt n (by decide)) h.symm
theorem qalz {c:UInt8} (hc:c=32∨c=10) (n:Int):c∉Lib.itoa n:=by
 have hd : ∀ u,c∉Lib.decDigits u:=fun u=>by
  rcases hc with rfl | rfl
  ·exact qfu rfl u
  ·exact qfu rfl u
 unfold Lib.itoa
 split
 ·intro h
  rcases List.mem_cons.1 h with h | h
  ·rcases hc with rfl | rfl <;> exact absurd h (by decide)
  ·exact hd _ h
 ·exact hd _
def goodN (a:Nat):Prop:=numR (hex8 a)=some a
def goodV (v:Vec 3 Nat):Prop:=goodN v.1∧goodN v.2.1∧goodN v.2.2.1
theorem qamf (r:DRd) (h:(wordOf r).length≤1048576) : ∃ a:Nat,qan r=some ((a,()),((r.1.drop 1,((r.1.isEmpty||r.2.1)||(numR (wordOf r)).isNone,())),())) ∧ ∀ x,numR (wordOf r)=some x→a=x:=by
 obtain ⟨ws,f,⟨⟩⟩:=r
 have hw:=qcv (ws,f,())
 have hn:=qyn h
 unfold qan
 rw [hw]
 simp only [Option.bind_some]
 rw [hn]
 cases hr:numR (wordOf (ws,f,())) with
 | none =>
  refine ⟨0,?_,fun x hx=>by cases hx⟩
  simp only [Option.bind_some,restOf]
  cases (ws.isEmpty||f) <;> rfl
 | some a =>
  refine ⟨a,?_,fun x hx=>Option.some.inj hx⟩
  simp only [Option.bind_some,restOf]
  cases (ws.isEmpty||f) <;> rfl
theorem qad6 {a b:List UInt8} (h:a≠b):sEq a b=false:=by
 cases e:sEq a b with
 | false=>rfl
 | true=>exact absurd (by simpa [sEq] using e) h
theorem qamb {r:DRd} (hall : ∀ w∈r.1,w.length≤1048576) (k:List UInt8) : ∃ r':DRd,qbe r k=some ((),(r',()))∧r'.1=r.1.drop 1 ∧
  (r'.2.1=false→r.2.1=false ∧ ∃ ws,r.1=k :: ws)∧(∀ ws,r.2.1=false→r.1=k :: ws→r'.2.1=false):=by
 obtain ⟨ws,f,⟨⟩⟩:=r
 unfold qbe
 rw [qcv]
 simp only [Option.bind_some,restOf,wordOf]
 cases ws with
 | nil =>
  cases hq:sEq ([]:List UInt8) k with
  | false =>
   refine ⟨([],true,()),?_,rfl,fun h=>absurd (show true=false from h) (by decide),fun ws h1 h2=>by cases h2⟩
   have:(([]:List (List UInt8)).getD 0 [])=([]:List UInt8):=rfl
   rw [this,hq];rfl
  | true =>
   refine ⟨([],true,()),?_,rfl,fun h=>absurd (show true=false from h) (by decide),fun ws h1 h2=>by cases h2⟩
   have:(([]:List (List UInt8)).getD 0 [])=([]:List UInt8):=rfl
   rw [this,hq];rfl
 | cons w ws =>
  have hg:((w :: ws).getD 0 [])=w:=rfl
  rw [hg]
  cases hq:sEq w k with
  | false =>
   refine ⟨(ws,true,()),rfl,rfl,fun h=>absurd (show true=false from h) (by decide),fun z h1 h2 => ?_⟩
   have:w=k:=(List.cons.inj h2).1
   rw [this,qdy] at hq
   cases hq
  | true =>
   have hwk:w=k:=by simpa [sEq] using hq
   refine ⟨(ws,f,()),rfl,rfl,fun h=>⟨h,ws,by rw [hwk]⟩,fun z h1 h2=>h1⟩
theorem qai1 {s:List UInt8} (hs:s.length≤1048576):qby s=some (((splitC 32 s,(false,())),()),()):=by
 unfold qby
 rw [qde 32 (by omega)]
 rfl
theorem qu9 {c:UInt8} {s f:List UInt8} (h:f∈splitC c s):f.length≤s.length:=by
 have h1:=(List.sublist_flatten_of_mem h).length_le
 rw [qv8] at h1
 exact Nat.le_trans h1 (List.length_filter_le _ _)
end
section
theorem qpg {a:Nat} (h:goodN a):a<4294967296:=(qame h).1
theorem qvg {a:Nat} (h:goodN a):qfy a=some ((hex8 a,()),()):=qaee (qpg h)
theorem qc1 (a:Nat):(hex8 a).length=8:=qjv 8 _
def vecT (v:Vec 3 Nat):List UInt8:=hex8 v.1++[32]++hex8 v.2.1++[32]++hex8 v.2.2.1
theorem qai9 (v:Vec 3 Nat):(vecT v).length=26:=by
 unfold vecT
 simp [qc1]
theorem qcq {a b:List UInt8} (h:a.length+b.length≤1000000000):strRoom a b=true:=qas (by omega)
theorem qac9 {v:Vec 3 Nat} (h:goodV v):qn6 v=some ((vecT v,()),()):=by
 obtain ⟨a,b,c,⟨⟩⟩:=v
 obtain ⟨ha,hb,hc⟩:=h
 have l0:lenI ([a,b,c]:List Nat)=3:=rfl
 have step0:qct [a,b,c] (([]:List UInt8),(0:Int),())=some (.inl (hex8 a,(1:Int),())):=by
  unfold qct
  simp only
  rw [l0,show iLt (0:Int) 3=true from rfl,show iLt 0 (0:Int)=false from rfl,show inB 0 ([a,b,c]:List Nat).length=true from rfl]
  simp only [cond_true,cond_false]
  rw [show List.getD [a,b,c] (0:Int).toNat (0:Nat)=a from rfl,qvg ha]
  simp only [Option.bind_some]
  rw [qcq (by rw [qc1];simp),show iAdd .i64 (0:Int) 1=1 from by decide]
  rfl
 have step1:qct [a,b,c] (hex8 a,(1:Int),())=some (.inl (hex8 a++[32]++hex8 b,(2:Int),())):=by
  unfold qct
  simp only
  rw [l0,show iLt (1:Int) 3=true from rfl,show iLt 0 (1:Int)=true from rfl,show inB 1 ([a,b,c]:List Nat).length=true from rfl,qcq (a:=hex8 a) (b:=[32]) (by rw [qc1];simp)]
  simp only [cond_true,cond_false]
  rw [show List.getD [a,b,c] (1:Int).toNat (0:Nat)=b from rfl,qvg hb]
  simp only [Option.bind_some]
  rw [qcq (by unfold strCat;simp [qc1]),show iAdd .i64 (1:Int) 1=2 from by decide]
  rfl
 have step2:qct [a,b,c] (hex8 a++[32]++hex8 b,(2:Int),())=some (.inl (hex8 a++[32]++hex8 b++[32]++hex8 c,(3:Int),())):=by
  unfold qct
  simp only
  rw [l0,show iLt (2:Int) 3=true from rfl,show iLt 0 (2:Int)=true from rfl,show inB 2 ([a,b,c]:List Nat).length=true from rfl,qcq (a:=hex8 a++[32]++hex8 b) (b:=[32]) (by simp [qc1])]
  simp only [cond_true,cond_false]
  rw [show List.getD [a,b,c] (2:Int).toNat (0:Nat)=c from rfl,qvg hc]
  simp only [Option.bind_some]
  rw [qcq (by unfold strCat;simp [qc1]),show iAdd .i64 (2:Int) 1=3 from by decide]
  rfl
 have step3:qct [a,b,c] (hex8 a++[32]++hex8 b++[32]++hex8 c,(3:Int),())=some (.inr ((hex8 a++[32]++hex8 b++[32]++hex8 c,()),())):=by
  unfold qct
  simp only
  rw [l0]
  rfl
 have hr:ql0 [a,b,c]=some ((vecT (a,b,c,()),()),()):=by
  unfold ql0
  rw [qak step0,qak step1,qak step2,qaj step3]
  rfl
 unfold qn6
 show (ql0 [a,b,c]).bind _=_
 rw [hr]
 rfl
end
section
theorem qail (a b:List UInt8):bytesOf (a++b)=bytesOf a++bytesOf b:=List.map_append
theorem qahp (t:List UInt8):ofBytes (bytesOf t)=t:=by
 unfold ofBytes bytesOf
 rw [List.map_map]
 exact (List.map_congr_left fun b _=>qta b).trans (List.map_id _)
theorem qx8 {t s:List UInt8} (h:t.length+s.length≤1000000000):qav ((),bytesOf t,()) s=some ((lenI s,true,()),(((),bytesOf (t++s),()),())):=by
 unfold qav qfs
 simp only [Option.bind_some]
 have:room (List.length (bytesOf t)+List.length (bytesOf s)) 1=true:=by unfold room bytesOf;simp;omega
 rw [this,qail]
 rfl
theorem qaka {s:List UInt8} (h:s.length≤1000000000):qav ((),[],()) s=some ((lenI s,true,()),(((),bytesOf s,()),())):=qx8 (t:=[]) (by simpa using h)
theorem qajc {t:List UInt8} (h:t≠[]) (h1:t.length≤1000000000):bldStr ((),bytesOf t,())=some t:=by
 have e1:Nat.ble 1 (List.length (bytesOf t))=true:=by
  rw [Nat.ble_eq];unfold bytesOf;rw [List.length_map]
  exact List.length_pos_iff.2 h
 have e2:Nat.ble (List.length (bytesOf t)) 140737488355328=true:=by rw [Nat.ble_eq];unfold bytesOf;rw [List.length_map];omega
 unfold bldStr
 simp only
 rw [e1,e2,qahp]
 rfl
theorem qiu {a:Nat} (h:fltFit .f32 a):goodN a:=by
 obtain ⟨hc,hl⟩:=h
 have hl:a<4294967296:=hl
 have hb:bitsOf a=a:=by
  unfold bitsOf
  split
  ·rfl
  ·rename_i hn
   rw [qmh] at hn
   have hn:isNan .f32 a=true:=by simpa using hn
   unfold canon at hc
   rw [hn] at hc
   exact hc
 unfold goodN hex8
 rw [hb,qamd hl,hc,if_pos hb]
theorem qalv {v:Vec 3 Nat} (h:FitVec (fltFit .f32) 3 v):goodV v:=⟨qiu h.1,qiu h.2.1,qiu h.2.2.1⟩
theorem qaf6 (a b c:Nat) (ha:a<4294967296) (hb:b<4294967296) (hc:c<4294967296):qi9 [a,b,c]=some ((hex8 a++[32]++hex8 b++[32]++hex8 c,()),()):=by
 have l1 : ∀ x,(hex8 x).length=8:=fun x=>qjv 8 _
 have s0:qbw [a,b,c] ([],0,())=some (.inl ([hex8 a],1,())):=by
  unfold qbw
  have e:=qdg ha
  have g:List.getD [a,b,c] (Int.toNat 0) 0=a:=rfl
  simp only
  rw [g,e]
  rfl
 have s1:qbw [a,b,c] ([hex8 a],1,())=some (.inl ([hex8 a,hex8 b],2,())):=by
  unfold qbw
  have e:=qdg hb
  have g:List.getD [a,b,c] (Int.toNat 1) 0=b:=rfl
  simp only
  rw [g,e]
  rfl
 have s2:qbw [a,b,c] ([hex8 a,hex8 b],2,())=some (.inl ([hex8 a,hex8 b,hex8 c],3,())):=by
  unfold qbw
  have e:=qdg hc
  have g:List.getD [a,b,c] (Int.toNat 2) 0=c:=rfl
  simp only
  rw [g,e]
  rfl
 have hj:Lib.join [hex8 a,hex8 b,hex8 c] [32]=hex8 a++[32]++hex8 b++[32]++hex8 c:=by
  simp [Lib.join_cons,Lib.joinTail]
 have e:strings_Join [hex8 a,hex8 b,hex8 c] [32]=some ((hex8 a++[32]++hex8 b++[32]++hex8 c,()),()):=by
  unfold strings_Join
  rw [hj]
  have:Nat.ble (hex8 a++[32]++hex8 b++[32]++hex8 c).length 140737488355328=true:=by rw [Nat.ble_eq];simp [l1]
  rw [this]
  rfl
 unfold qi9
 rw [qak s0,qak s1,qak s2]
 refine qaj ?_
 unfold qbw
 simp only
 rw [e]
 rfl
theorem qab8 {v:Vec 3 Nat} (h:goodV v):qnm v=some ((vecT v,()),()):=by
 unfold qnm
 have v0:Vec.getD 3 v 0 (0:Nat)=v.1:=rfl
 have v1:Vec.getD 3 v 1 (0:Nat)=v.2.1:=rfl
 have v2:Vec.getD 3 v 2 (0:Nat)=v.2.2.1:=rfl
 rw [v0,v1,v2,qaf6 _ _ _ (qpg h.1) (qpg h.2.1) (qpg h.2.2)]
 rfl
end
section
def dotA:Nat→List Nat→List Nat→Nat
 | acc,a :: l,b :: m=>dotA (fAdd .f32 acc (fMul .f32 a b)) l m
 | acc,_,_=>acc
theorem qajy {L M:List Nat} (hLM:L.length≤M.length) (hL:L.length≤100) : ∀ (k i acc:Nat),1≤i→i+k=L.length→run (qjn L M) (acc,(i:Int),())=some ((dotA acc (L.drop i) (M.drop i),()),())
 | 0,i,acc,h1,h=>by
  have e1:iLt (i:Int) (lenI L)=false:=qaf (by rw [qaa];omega)
  rw [List.drop_of_length_le (by omega:L.length≤i)]
  exact qaj (by simp only [qjn,e1,cond_false,Option.map_some];rfl)
 | k+1,i,acc,h1,h=>by
  have e1:iLt (i:Int) (lenI L)=true:=qah (by rw [qaa];omega)
  have e2:inB (i:Int) L.length=true:=qae (by omega)
  have e3:inB (i:Int) M.length=true:=qae (by omega)
  have e4:iEq (i:Int) 0=false:=qau (by omega)
  have e5:iAdd .i64 (i:Int) 1=((i+1:Nat):Int):=qaq (n:=L.length) (by omega) (by omega)
  have g1:L.getD i (0:Nat)=L[i]'(by omega):=qal (by omega)
  have g2:M.getD i (0:Nat)=M[i]'(by omega):=qal (by omega)
  rw [List.drop_eq_getElem_cons (by omega:i<L.length),List.drop_eq_getElem_cons (by omega:i<M.length)]
  refine (qak (s':=(fAdd .f32 acc (fMul .f32 (L[i]'(by omega)) (M[i]'(by omega))),((i+1:Nat):Int),())) ?_).trans (qajy hLM hL k (i+1) _ (by omega) (by omega))
  simp only [qjn,e1,e2,e3,e4,e5,Int.toNat_natCast,g1,g2,cond_true,cond_false]
theorem qaf7 (a b:Nat) (l m:List Nat) (h:l.length≤m.length) (h1:l.length≤90):qns (a :: l) (b :: m)=some ((dotA (fMul .f32 a b) l m,()),()):=by
 have e:=qajy (L:=a :: l) (M:=b :: m) (by rw [List.length_cons,List.length_cons];omega) (by rw [List.length_cons];omega) l.length 1 (fMul .f32 a b) (by omega) (by rw [List.length_cons];omega)
 refine (qak (s':=(fMul .f32 a b,((1:Nat):Int),())) ?_).trans (e.trans (by simp))
 have e1:iLt 0 (lenI (a :: l))=true:=qah (by rw [qaa,List.length_cons];omega)
 have e2:inB 0 (a :: l).length=true:=qae (i:=0) (by simp)
 have e3:inB 0 (b :: m).length=true:=qae (i:=0) (by simp)
 simp only [qjn,e1,e2,e3,cond_true]
 rfl
theorem qaqx (a0 a1 a2 b0 b1 b2:Nat):qns [a0,a1,a2] [b0,b1,b2]=some ((dotA (fMul .f32 a0 b0) [a1,a2] [b1,b2],()),()):=qaf7 _ _ _ _ (by simp) (by simp)
end
section
abbrev TyMark:Ty:=.pair (.arr 3 (.int .i32)) (.pair (.arr 3 (.flt .f32)) (.pair (.flt .f32) (.pair (.int .i64) (.pair (.int .i64) .unit))))
abbrev TyMap:Ty:=.pair (.flt .f32) (.pair (.list TyMark) .unit)
abbrev DMark:=(Vec 3 Int)×((Vec 3 Nat)×(Nat×(Int×(Int×Unit))))
abbrev DMap:=Nat×((List DMark)×Unit)
def cmpI (a b:Vec 3 Int):Int :=
 bif iLt (Vec.getD 3 a 0 (0:Int)) (Vec.getD 3 b 0 (0:Int)) then -1 else bif iLt (Vec.getD 3 b 0 (0:Int)) (Vec.getD 3 a 0 (0:Int)) then 1 else
 bif iLt (Vec.getD 3 a 1 (0:Int)) (Vec.getD 3 b 1 (0:Int)) then -1 else bif iLt (Vec.getD 3 b 1 (0:Int)) (Vec.getD 3 a 1 (0:Int)) then 1 else
 bif iLt (Vec.getD 3 a 2 (0:Int)) (Vec.getD 3 b 2 (0:Int)) then -1 else bif iLt (Vec.getD 3 b 2 (0:Int)) (Vec.getD 3 a 2 (0:Int)) then 1 else 0
theorem qkw (a b:Vec 3 Int):qhl a b=some ((cmpI a b,()),()):=by
 unfold qhl cmpI
 cases iLt (Vec.getD 3 a 0 (0:Int)) (Vec.getD 3 b 0 (0:Int)) <;> cases iLt (Vec.getD 3 b 0 (0:Int)) (Vec.getD 3 a 0 (0:Int)) <;> cases iLt (Vec.getD 3 a 1 (0:Int)) (Vec.getD 3 b 1 (0:Int)) <;> cases iLt (Vec.getD 3 b 1 (0:Int)) (Vec.getD 3 a 1 (0:Int)) <;> cases iLt (Vec.getD 3 a 2 (0:Int)) (Vec.getD 3 b 2 (0:Int)) <;> cases iLt (Vec.getD 3 b 2 (0:Int)) (Vec.getD 3 a 2 (0:Int)) <;> rfl
theorem qanj (a b c x y z:Int):qjg [a,b,c] [x,y,z]=some ((bif iLt a x then -1 else bif iLt x a then 1 else bif iLt b y then -1 else bif iLt y b then 1 else bif iLt c z then -1 else bif iLt z c then 1 else 0,()),()):=by
 have c1 : ∀ p q:Int,cmp_Compare_int32 p q=some ((bif iLt p q then -1 else bif iLt q p then 1 else 0,()),()):=fun p q=>by
  simp only [cmp_Compare_int32,cmp_isNaN_int32,qbr,Bool.not_true,cond_false,Option.bind_some]
  cases iLt p q <;> cases iLt q p <;> rfl
 have l3:lenI [a,b,c]=3:=rfl
 have m3:lenI [x,y,z]=3:=rfl
 have step : ∀ (i:Nat) (p q:Int),i<3→List.getD [a,b,c] i (0:Int)=p→List.getD [x,y,z] i (0:Int)=q→qb6 [a,b,c] [x,y,z] ((i:Int),())=bif iLt p q then some (.inr ((-1,()),())) else bif iLt q p then some (.inr ((1,()),())) else some (.inl (((i+1:Nat):Int),())):=fun i p q hi h1 h2=>by
  have e1:iLt (i:Int) 3=true:=qah (by omega)
  have e2:inB (i:Int) ([a,b,c]:List Int).length=true:=qae hi
  have e3:iLe 3 (i:Int)=false:=qbt (by omega)
  have e4:inB (i:Int) ([x,y,z]:List Int).length=true:=qae hi
  have e5:iAdd .i64 (i:Int) 1=((i+1:Nat):Int):=qaq hi (by omega)
  have n1:iEq (-1) 0=false:=by decide
  have n2:iEq 1 0=false:=by decide
  simp only [qb6,l3,m3,e1,e2,e3,e4,e5,h1,h2,c1,Int.toNat_natCast,Option.bind_some,cond_true,cond_false]
  cases iLt p q <;> cases iLt q p <;> simp only [n1,n2,qbr,cond_true,cond_false,Bool.not_true,Bool.not_false] <;> rfl
 have s0:=step 0 a x (by omega) rfl rfl
 have s1:=step 1 b y (by omega) rfl rfl
 have s2:=step 2 c z (by omega) rfl rfl
 have s3:qb6 [a,b,c] [x,y,z] (((3:Nat):Int),())=some (.inr ((0,()),())):=by
  have e1:iLt ((3:Nat):Int) 3=false:=by decide
  have e2:iLt 3 3=false:=by decide
  simp only [qb6,l3,m3,e1,e2,cond_false]
  rfl
 show run (qb6 [a,b,c] [x,y,z]) (((0:Nat):Int),())=_
 cases h0:iLt a x with
 | true=>rw [h0] at s0;exact qaj s0
 | false =>
  rw [h0] at s0
  cases h0':iLt x a with
  | true=>rw [h0'] at s0;exact qaj s0
  | false =>
   rw [h0'] at s0
   rw [qak s0]
   cases h1:iLt b y with
   | true=>rw [h1] at s1;exact qaj s1
   | false =>
    rw [h1] at s1
    cases h1':iLt y b with
    | true=>rw [h1'] at s1;exact qaj s1
    | false =>
     rw [h1'] at s1
     rw [qak s1]
     cases h2:iLt c z with
     | true=>rw [h2] at s2;exact qaj s2
     | false =>
      rw [h2] at s2
      cases h2':iLt z c with
      | true=>rw [h2'] at s2;exact qaj s2
      | false =>
       rw [h2'] at s2
       rw [qak s2]
       exact qaj s3
theorem qm2 (a b:Vec 3 Int):qey a b=some ((cmpI a b,()),()):=by
 simp only [qey,qanj,Option.bind_some]
 rfl
theorem qaay (a b:Vec 3 Int):iLe (cmpI a b) 0=iLe 0 (cmpI b a):=by
 have no : ∀ p q:Int,iLt p q=true→iLt q p=true→False:=fun p q h1 h2=>by
  rw [qaa2] at h1 h2;omega
 unfold cmpI
 generalize Vec.getD 3 a 0 (0:Int)=a0
 generalize Vec.getD 3 b 0 (0:Int)=b0
 generalize Vec.getD 3 a 1 (0:Int)=a1
 generalize Vec.getD 3 b 1 (0:Int)=b1
 generalize Vec.getD 3 a 2 (0:Int)=a2
 generalize Vec.getD 3 b 2 (0:Int)=b2
 cases h0:iLt a0 b0 <;> cases h0':iLt b0 a0 <;> simp only [cond_true,cond_false]
 ·cases h1:iLt a1 b1 <;> cases h1':iLt b1 a1 <;> simp only [cond_true,cond_false]
  ·cases h2:iLt a2 b2 <;> cases h2':iLt b2 a2 <;> first | rfl | exact (no _ _ h2 h2').elim
  ·rfl
  ·rfl
  ·exact (no _ _ h1 h1').elim
 ·rfl
 ·rfl
 ·exact (no _ _ h0 h0').elim
def markB (x:DMark):Bool:=finV x.2.1&&(sideB x.2.2.1&&((iLe 1 x.2.2.2.1&&iLe x.2.2.2.1 1000000)&&timeB x.2.2.2.2.1))
theorem qrn (x:DMark):qf3 x=some ((markB x,()),()):=by
 simp only [qf3,qo0,qdk,qht,qcg,qii,Option.bind_some,markB]
 cases finV x.2.1 <;> cases sideB x.2.2.1 <;> cases (iLe 1 x.2.2.2.1&&iLe x.2.2.2.1 1000000) <;> rfl
theorem qadg (x:DMark):qoh x=some ((markB x,()),()):=by
 simp only [qoh,qv1,qcx,qcg,qhk,Option.bind_some,markB,sideB]
 cases finV x.2.1 <;> cases finB x.2.2.1 <;> cases fLt .f32 0 x.2.2.1 <;> cases (iLe 1 x.2.2.2.1&&iLe x.2.2.2.1 1000000) <;> rfl
abbrev zMark:DMark:=((0,0,0,()),(0,0,0,()),0,0,0,())
def markAt (l:List DMark) (i:Nat):Bool:=markB (l.getD i zMark)&&(bif Nat.beq i 0 then true else !iLe (cmpI (l.getD i zMark).1 (l.getD (i-1) zMark).1) 0)
def mapB (m:DMap):Bool:=sideB m.1&&(!iLt 200 (lenI m.2.1)&&(List.range m.2.1.length).all (markAt m.2.1))
theorem qi6 (m:DMap) (h:Sized TyMap m):qe7 m=some ((mapB m,()),()):=by
 have hl:m.2.1.length≤140737488355328:=h.2.1.1
 have r:run (qi5 m) ((0:Int),())=some (((List.range m.2.1.length).all (markAt m.2.1),()),()):=by
  refine qk1 (a:=List.range m.2.1.length) (fun i hi => ?_) ?_
  ·rw [List.length_range] at hi
   have e1:iLt (i:Int) (lenI m.2.1)=true:=qah (by rw [qaa];omega)
   have e2:inB (i:Int) m.2.1.length=true:=qae hi
   have e5:iAdd .i64 (i:Int) 1=((i+1:Nat):Int):=qaq hi (by omega)
   rw [List.getElem_range]
   simp only [qi5,e1,e2,e5,Int.toNat_natCast,cond_true,qrn,Option.bind_some,markAt]
   cases markB (m.2.1.getD i zMark) with
   | false=>rfl
   | true =>
    cases i with
    | zero=>rfl
    | succ i =>
     have e3:iLt 0 ((i+1:Nat):Int)=true:=qah (by omega)
     have e4:iSub .i64 ((i+1:Nat):Int) 1=(i:Int):=by rw [qd3 (by omega) (by omega)];omega
     have e6:inB (i:Int) m.2.1.length=true:=qae (by omega)
     have e7:Nat.beq (i+1) 0=false:=rfl
     have e8:i+1-1=i:=rfl
     simp only [e3,e4,e6,e7,e8,Int.toNat_natCast,qm2,Option.bind_some,cond_true,cond_false,Bool.not_true,Bool.true_and]
     cases iLe (cmpI (m.2.1.getD (i+1) zMark).1 (m.2.1.getD i zMark).1) 0 <;> rfl
  ·rw [List.length_range]
   have e1:iLt (m.2.1.length:Int) (lenI m.2.1)=false:=qaf (by rw [qaa];omega)
   simp only [qi5,e1,cond_false]
   rfl
 simp only [qe7,qdk,r,Option.bind_some,mapB]
 cases sideB m.1 <;> cases iLt 200 (lenI m.2.1) <;> rfl
theorem qjs (m:DMap) (h:Sized TyMap m):qfp m=some ((mapB m,()),()):=by
 have hl:m.2.1.length≤140737488355328:=h.2.1.1
 have r:run (ql8 m) ((0:Int),())=some (((List.range m.2.1.length).all (markAt m.2.1),()),()):=by
  refine qk1 (a:=List.range m.2.1.length) (fun i hi => ?_) ?_
  ·rw [List.length_range] at hi
   have e1:iLt (i:Int) (lenI m.2.1)=true:=qah (by rw [qaa];omega)
   have e2:inB (i:Int) m.2.1.length=true:=qae hi
   have e5:iAdd .i64 (i:Int) 1=((i+1:Nat):Int):=qaq hi (by omega)
   rw [List.getElem_range]
   simp only [ql8,e1,e2,e5,Int.toNat_natCast,cond_true,qadg,Option.bind_some,markAt]
   cases markB (m.2.1.getD i zMark) with
   | false=>rfl
   | true =>
    cases i with
    | zero=>rfl
    | succ i =>
     have e3:iLt 0 ((i+1:Nat):Int)=true:=qah (by omega)
     have e4:iSub .i64 ((i+1:Nat):Int) 1=(i:Int):=by rw [qd3 (by omega) (by omega)];omega
     have e6:inB (i:Int) m.2.1.length=true:=qae (by omega)
     have e7:Nat.beq (i+1) 0=false:=rfl
     have e8:i+1-1=i:=rfl
     simp only [e3,e4,e6,e7,e8,Int.toNat_natCast,qkw,← qaay,Option.bind_some,cond_true,cond_false,Bool.not_true,Bool.true_and]
     cases iLe (cmpI (m.2.1.getD (i+1) zMark).1 (m.2.1.getD i zMark).1) 0 <;> rfl
  ·rw [List.length_range]
   have e1:iLt (m.2.1.length:Int) (lenI m.2.1)=false:=qaf (by rw [qaa];omega)
   simp only [ql8,e1,cond_false]
   rfl
 simp only [qfp,qom,r,Option.bind_some,mapB]
 cases sideB m.1 <;> cases iLt 200 (lenI m.2.1) <;> rfl
end
section
abbrev DSrc:=(List Int)×(Int×(Int×Unit))
structure SrcOK (n:Int) (s:DSrc):Prop where
 low:0≤s.2.1
 up:s.2.1≤n
 byte : ∀ x∈s.1,0≤x∧x≤255
 len:s.1.length≤4096
theorem SrcOK.mono {n m:Int} {s:DSrc} (h:SrcOK n s) (hm:n≤m):SrcOK m s:=⟨h.low,Int.le_trans h.up hm,h.byte,h.len⟩
theorem qana (a:Int):0≤iAnd .u64 a 255∧iAnd .u64 a 255≤255:=by
 have e2:(BitVec.ofInt 64 255).toNat=255:=by decide
 have h:((BitVec.ofInt IntKind.u64.bits a &&& BitVec.ofInt IntKind.u64.bits 255).toNat)≤255:=by
  show ((BitVec.ofInt 64 a &&& BitVec.ofInt 64 255).toNat)≤255
  rw [BitVec.toNat_and,e2]
  exact Nat.and_le_right
 unfold iAnd
 generalize (BitVec.ofInt IntKind.u64.bits a &&& BitVec.ofInt IntKind.u64.bits 255).toNat=m at h
 simp [IntKind.wrap,IntKind.signed,IntKind.bits];omega
theorem qud (l:List Int):qn7 l=some (((l,0,0,()),()),()):=rfl
theorem qaib {l:List Int} (h : ∀ x∈l,0≤x∧x≤255) (hl:l.length≤4096):SrcOK 0 ((l,0,0,()):DSrc):=⟨Int.le_refl _,Int.le_refl _,h,hl⟩
theorem qzk {n:Int} (hn:n≤1000000000000) {s:DSrc} (h:SrcOK n s) : ∃ (v:Int) (s':DSrc),qen s=some ((v,()),(s',()))∧0≤v∧v≤255∧SrcOK (n+1) s':=by
 obtain ⟨l,k,z,⟨⟩⟩:=s
 have h0:=h.low
 have h1:=h.up
 have hb:=h.byte
 have hl:=h.len
 simp only at h0 h1 hb hl
 have ek:iAdd .i64 k 1=k+1:=qcr (by omega) (by omega)
 have good : ∀ q:Int,SrcOK (n+1) ((l,k+1,q,()):DSrc):=fun q=>⟨by show 0≤k+1;omega,by show k+1≤n+1;omega,hb,hl⟩
 have wb : ∀ a:Int,0≤iWrap .i64 (iAnd .u64 a 255)∧iWrap .i64 (iAnd .u64 a 255)≤255:=fun a=>by
  have:=qana a
  rw [wrap_i64 (by omega) (by omega)];exact this
 by_cases hk:k<(l.length:Int)
 ·have e1:iLt k (lenI l)=true:=qah (by rw [qaa];exact hk)
  have e2:inB k l.length=true:=qapr h0 hk
  have hlt:k.toNat<l.length:=by omega
  have e3:l.getD k.toNat 0=l[k.toNat]:=qal hlt
  have hx:=hb _ (List.getElem_mem hlt)
  have e4:iWrap .i64 l[k.toNat]=l[k.toNat]:=wrap_i64 (by omega) (by omega)
  have e5:iLe (k+1) (lenI l)=true:=qat (by rw [qaa];omega)
  refine ⟨l[k.toNat],(l,k+1,iAdd .u64 (iAdd .u64 (iMul .u64 z 6364136223846793005) (iWrap .u64 l[k.toNat])) 1442695040888963407,()),?_,hx.1,hx.2,good _⟩
  simp only [qen,e1,e2,e3,e4,ek,e5,cond_true]
 ·have e1:iLt k (lenI l)=false:=qaf (by rw [qaa];exact hk)
  have e5:iLe (k+1) (lenI l)=false:=qbt (by rw [qaa];omega)
  refine ⟨_,_,by simp only [qen,e1,ek,e5,cond_false];rfl,(wb _).1,(wb _).2,good _⟩
theorem qah8 {n:Int} (hn:n≤999999999999) {s:DSrc} (h:SrcOK n s) (k:Int) (hk:k≤60000) : ∃ (v:Int) (s':DSrc),qag s k=some ((v,()),(s',()))∧0≤v∧v≤60000∧(1≤k→v<k)∧SrcOK (n+2) s':=by
 by_cases h1:k≤1
 ·have e:iLe k 1=true:=qat h1
  exact ⟨0,s,by simp only [qag,e,cond_true],Int.le_refl _,by omega,fun h=>by omega,h.mono (by omega)⟩
 ·have e:iLe k 1=false:=qbt h1
  have e0:iEq k 0=false:=qau (by omega)
  obtain ⟨v,s1,hv,v0,v1,hs1⟩:=qzk (by omega) h
  have key : ∀ x:Int,0≤x→0≤iRem .i64 x k∧iRem .i64 x k<k:=fun x hx=>by
   have:iRem .i64 x k=x%k:=Int.tmod_eq_emod_of_nonneg hx
   rw [this]
   exact ⟨Int.emod_nonneg _ (by omega),Int.emod_lt_of_pos _ (by omega)⟩
  by_cases h2:200<k
  ·have e2:iLt 200 k=true:=qah h2
   obtain ⟨u,s2,hu,u0,u1,hs2⟩:=qzk (by omega) hs1
   have m1:iMul .i64 v 256=v*256:=qaji (by omega) (by omega)
   have m2:iAdd .i64 (v*256) u=v*256+u:=qcr (by omega) (by omega)
   have:=key (v*256+u) (by omega)
   refine ⟨iRem .i64 (v*256+u) k,s2,?_,this.1,by omega,fun _=>this.2,hs2.mono (by omega)⟩
   simp only [qag,e,e0,e2,hv,hu,m1,m2,Option.bind_some,cond_true,cond_false]
  ·have e2:iLt 200 k=false:=qaf h2
   have:=key v v0
   refine ⟨iRem .i64 v k,s1,?_,this.1,by omega,fun _=>this.2,hs1.mono (by omega)⟩
   simp only [qag,e,e0,e2,hv,Option.bind_some,cond_false]
theorem qaes {l:List Int} (h:Fit (.list (.int .u8)) l) : ∀ x∈l,0≤x∧x≤255:=fun x hx=>h.2 x hx
end
end Go.Proofs.YtjhdoneobdbeaaaGreatDoor
