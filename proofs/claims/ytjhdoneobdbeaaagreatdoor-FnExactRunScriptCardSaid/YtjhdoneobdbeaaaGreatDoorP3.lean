import Derived.Test.YtjhdoneobdbeaaaGreatDoorP2
/- Functions of the program and of the reference in plain terms. -/
set_option linter.unusedSectionVars false
set_option linter.unusedSimpArgs false
set_option linter.unusedVariables false
namespace Go.Proofs.YtjhdoneobdbeaaaGreatDoor
open Go Go.Tm
section
theorem qak5 {f:Ieee.Format} {s:Bool} {e K:Nat} (hK:(e=0∧K<f.binade)∨(f.binade≤K∧K<2*f.binade)) (hr:e*f.binade+K<f.infRung):f.read (f.word s (e*f.binade+K)) = .number s K (f.leastPlace+e):=by
 have h1:f.infRung<f.signWeight:=Ieee.Format.infRung_lt f
 generalize hR:e*f.binade+K=r at *
 have hm:f.word s r%f.signWeight=r:=qr2 s (by omega)
 have hs:(f.word s r/f.signWeight%2==1)=s:=by
  cases s
  ·show (r/f.signWeight%2==1)=false
   rw [Nat.div_eq_of_lt (by omega)];rfl
  ·show ((f.signWeight+r)/f.signWeight%2==1)=true
   rw [Nat.add_div_left _ (by omega),Nat.div_eq_of_lt (by omega)];rfl
 have hpos:0<f.binade:=Nat.two_pow_pos _
 unfold Ieee.Format.read
 simp only [hm,hs]
 rcases hK with ⟨he,hK⟩ | ⟨hK,hK2⟩
 ·subst he
  rw [Nat.zero_mul,Nat.zero_add] at hR
  subst hR
  rw [if_pos hK]
  simp
 ·have hge:¬ r<f.binade:=by
   rw [← hR]
   have:=Nat.zero_le (e*f.binade)
   omega
  rw [if_neg hge,if_pos hr]
  obtain ⟨g,hg⟩ : ∃ g,K=f.binade+g:=⟨K-f.binade,by omega⟩
  have hg2:g<f.binade:=by omega
  have hR2:r=g+f.binade*(e+1):=by rw [← hR,hg,Nat.mul_add,Nat.mul_comm];omega
  have d1:r/f.binade=e+1:=by rw [hR2,Nat.add_mul_div_left _ _ hpos,Nat.div_eq_of_lt hg2];omega
  have d2:r%f.binade=g:=by rw [hR2,Nat.add_mul_mod_self_left,Nat.mod_eq_of_lt hg2]
  rw [d1,d2,hg]
  simp
end
section
theorem qakk {α:Type} {a b:List α} (h:iEq (lenI a) (lenI b)=true):a.length=b.length:=by
 rw [qg3,qaa,qaa] at h
 omega
theorem qm7 (x:Nat):sameN x x=true:=by
 unfold sameN
 cases isNan .f32 x
 ·simp [qbt]
 ·rfl
theorem qajl (v:Vec 3 Nat):sameV v v=true:=by simp [sameV,qm7]
end
section
theorem qan0 (x:Nat) (h:finB x=true):(!fLt .f32 x 0)=fLe .f32 0 x:=by
 obtain ⟨s,m,p,hd⟩:=qgb (k:=.f32) h
 have hd':FloatKind.f32.format.read x = .number s m p:=hd
 have h0:FloatKind.f32.format.read 0 = .number false 0 (-149):=by decide
 have some_beq : ∀ (a b:Ordering),((some a:Option Ordering)==some b)=(a==b):=fun a b=>by cases a <;> cases b <;> rfl
 unfold fLt fLe Ieee.Format.order
 rw [hd',h0]
 simp only [Ieee.Datum.order,some_beq]
 rw [qqt,qmk,Int.min_comm]
 generalize Ieee.signed s m _=a
 generalize Ieee.signed false 0 _=b
 by_cases h:a<b
 ·have:¬ b≤a:=by omega
  simp [h,this]
 ·have:b≤a:=by omega
  simp [h,this]
def leastB (x:Nat):Bool:=finB x&&fLe .f32 0 x
theorem qaa8 (x:Nat):qms [x]=some ((leastB x,()),()):=by
 have h:=qm9 [x] (fun z1059=>(qoj z1059.1).map fun y=>y.1.1) (fun p=>fLt .f32 p 0) (by simp) (fun x _=>rfl)
 simp only [qms,h,qie [x] (by simp),Option.bind_some,List.all_cons,List.all_nil,List.any_cons,List.any_nil,Bool.and_true,Bool.or_false,leastB]
 cases hf:finB x with
 | false=>rfl
 | true=>rw [qan0 x hf];rfl
end
section
abbrev DSight:=(Vec 3 Nat)×(Nat×(Int×Unit))
abbrev DFleet:=Nat×(Nat×((List (List DSight))×Unit))
abbrev TySight:Ty:=.pair (.arr 3 (.flt .f32)) (.pair (.flt .f32) (.pair (.int .i64) .unit))
abbrev TyFleet:Ty:=.pair (.flt .f32) (.pair (.flt .f32) (.pair (.list (.list TySight)) .unit))
def sideB (x:Nat):Bool:=finB x&&fLt .f32 0 x
theorem qde (x:Nat):qec x=some ((sideB x,()),()):=by
 simp only [qec,qie [x] (by simp),Option.bind_some,List.all_cons,List.all_nil,Bool.and_true,sideB]
 cases finB x <;> rfl
theorem qnp (x:Nat):qhw x=some ((sideB x,()),()):=by
 simp only [qhw,qcu,Option.bind_some,sideB]
 cases finB x <;> rfl
theorem qv5 (x:Nat):qgn x=some ((fRound .down x,()),()):=rfl
theorem qagg {y:Nat} (hn:isNan .f64 y=false):ql1 y=some ((absW y,()),()):=by
 unfold ql1
 exact qh4 fun q=>by rw [qoc hn];rfl
def floorC (v side:Nat):Nat:=fRound .down (conv64 (fDiv .f32 v side))
theorem qqx {v side:Nat} (hv:finB v=true) (hs:sideB side=true):isNan .f64 (floorC v side)=false:=by
 simp only [sideB,Bool.and_eq_true] at hs
 obtain ⟨s,m,p,h1⟩:=qgb (k:=.f32) hv
 obtain ⟨s',m',p',h2⟩:=qgb (k:=.f32) hs.1
 exact qai7 (qai1 (qanu h1 h2 (qamb h2 hs.2)))
def cellB (v side:Nat):Bool:=fLe .f64 milliom (floorC v side)&&fLe .f64 (floorC v side) million
def cellN (v side:Nat):Int:=(fToInt .f64 (floorC v side) .i32).getD 0
theorem qod {v side:Nat} (hv:finB v=true) (hs:sideB side=true) (h:cellB v side=true):fToInt .f64 (floorC v side) .i32=some (cellN v side):=by
 obtain ⟨n,hn,_⟩:=qwg (qqx hv hs) h
 unfold cellN
 rw [hn]
 rfl
def cellF (side:Nat) (v:Vec 3 Nat):Vec 3 Int×Int×Unit :=
 bif !(sideB side&&finV v) then ((0,0,0,()),2,()) else
 bif cellB (Vec.getD 3 v 0 (0:Nat)) side&&(cellB (Vec.getD 3 v 1 (0:Nat)) side&&cellB (Vec.getD 3 v 2 (0:Nat)) side) then ((cellN (Vec.getD 3 v 0 (0:Nat)) side,cellN (Vec.getD 3 v 1 (0:Nat)) side,cellN (Vec.getD 3 v 2 (0:Nat)) side,()),0,()) else ((0,0,0,()),3,())
theorem qoh (side:Nat) (v:Vec 3 Nat):qck side v=some (cellF side v,()):=by
 have em:(4696837146684686336:Nat)=million:=rfl
 simp only [qck,qde,qnz,Option.bind_some,cellF]
 cases hs:sideB side with
 | false=>rfl
 | true =>
  cases hv:finV v with
  | false=>rfl
  | true =>
   have hv':=hv
   simp only [finV,Bool.and_eq_true] at hv'
   obtain ⟨v0,v1,v2⟩:=hv'
   have ab : ∀ x,finB x=true→ql1 (floorC x side)=some ((absW (floorC x side),()),()):=fun x hx=>qagg (qqx hx hs)
   have am : ∀ x,finB x=true→fLt .f64 million (absW (floorC x side)) = !cellB x side:=fun x hx=>qaha (qaj9 _) (qqx hx hs)
   have ec : ∀ x,fRound .down (conv64 (fDiv .f32 x side))=floorC x side:=fun _=>rfl
   simp only [Bool.not_true,Bool.and_self,cond_false,qe7,qv5,Option.bind_some,ec,ab _ v0,ab _ v1,ab _ v2,em,am _ v0,am _ v1,am _ v2]
   cases c0:cellB (Vec.getD 3 v 0 (0:Nat)) side
   ·rfl
   ·simp only [Bool.not_true,cond_false,qod v0 hs c0,Option.bind_some,Bool.true_and]
    cases c1:cellB (Vec.getD 3 v 1 (0:Nat)) side
    ·rfl
    ·simp only [Bool.not_true,cond_false,qod v1 hs c1,Option.bind_some,Bool.true_and]
     cases c2:cellB (Vec.getD 3 v 2 (0:Nat)) side
     ·rfl
     ·simp only [Bool.not_true,cond_false,cond_true,qod v2 hs c2,Option.bind_some]
theorem qni (side:Nat) (v:Vec 3 Nat):qdr side v=some (cellF side v,()):=by
 have em:(4696837146684686336:Nat)=million:=rfl
 have en:(13920209183539462144:Nat)=milliom:=rfl
 simp only [qdr,qnp,quq,Option.bind_some,cellF]
 cases hs:sideB side with
 | false=>rfl
 | true =>
  cases hv:finV v with
  | false=>rfl
  | true =>
   have hv':=hv
   simp only [finV,Bool.and_eq_true] at hv'
   obtain ⟨v0,v1,v2⟩:=hv'
   have ec : ∀ x,fRound .down (conv64 (fDiv .f32 x side))=floorC x side:=fun _=>rfl
   have cb : ∀ x,cellB x side=(fLe .f64 milliom (floorC x side)&&fLe .f64 (floorC x side) million):=fun _=>rfl
   have k0:=fun h=>qod v0 hs h
   have k1:=fun h=>qod v1 hs h
   have k2:=fun h=>qod v2 hs h
   rw [cb] at k0 k1 k2
   simp only [Bool.not_true,Bool.and_self,cond_false,qe7,qv5,Option.bind_some,ec,em,en,cb]
   cases a0:fLe .f64 milliom (floorC (Vec.getD 3 v 0 (0:Nat)) side)
   ·rfl
   ·cases b0:fLe .f64 (floorC (Vec.getD 3 v 0 (0:Nat)) side) million
    ·rfl
    ·simp only [Bool.not_true,cond_false,cond_true,k0 (by rw [a0,b0];rfl),Option.bind_some,Bool.true_and]
     cases a1:fLe .f64 milliom (floorC (Vec.getD 3 v 1 (0:Nat)) side)
     ·rfl
     ·cases b1:fLe .f64 (floorC (Vec.getD 3 v 1 (0:Nat)) side) million
      ·rfl
      ·simp only [Bool.not_true,cond_false,cond_true,k1 (by rw [a1,b1];rfl),Option.bind_some,Bool.true_and]
       cases a2:fLe .f64 milliom (floorC (Vec.getD 3 v 2 (0:Nat)) side)
       ·rfl
       ·cases b2:fLe .f64 (floorC (Vec.getD 3 v 2 (0:Nat)) side) million
        ·rfl
        ·simp only [Bool.not_true,cond_false,cond_true,k2 (by rw [a2,b2];rfl),Option.bind_some,Bool.and_self]
theorem qadb (side:Nat) (v:Vec 3 Nat):qo8 side v=some (cellF side v,()):=by
 simp only [qo8,qni,Option.bind_some]
theorem qaae (x:Nat):qli x=some ((leastB x,()),()):=by
 simp only [qli,qcu,Option.bind_some,leastB]
 cases fLe .f32 0 x <;> cases finB x <;> rfl
def timeB (t:Int):Bool:=iLe 0 t&&iLe t 1000000000
theorem qhk (t:Int):qi4 t=some ((timeB t,()),()):=by
 simp only [qi4,qg1,qcb,Option.bind_some,timeB]
theorem qgt (t:Int):qhu t=some ((timeB t,()),()):=by
 simp only [qhu,qcb,Option.bind_some,timeB]
def rangeB (x:Nat):Bool:=fLt .f32 0 x&&fLe .f32 x 1232348160
theorem qae2 {x:Nat} {s:Bool} {m:Nat} {p:Int} (h:FloatKind.f32.decode x = .number s m p):finB x=true:=by
 have h':FloatKind.f32.format.read x = .number s m p:=h
 have e:fSub .f32 x x=0:=by
  unfold fSub Ieee.Format.sub
  rw [h']
  have hs:Ieee.signed s m (p-min p p).toNat+Ieee.signed (!s) m (p-min p p).toNat=0:=by rw [qajn];omega
  have e2:Ieee.Datum.sum (.number s m p) (Ieee.Datum.opposite (.number s m p))=some (.number false 0 (min p p)):=by
   simp only [Ieee.Datum.sum,Ieee.Datum.opposite,hs]
   cases s <;> rfl
  rw [e2]
  simp only [Option.map_some,orNan]
  have e3:FloatKind.f32.format.write (.number false 0 (min p p))=0:=by
   show FloatKind.f32.format.nearest false 0 (min p p)=0
   rw [qkn]
   unfold rungOf
   rw [if_pos rfl]
   rfl
  rw [e3]
  decide
 unfold finB
 rw [e]
 decide
theorem qam2 (x:Nat):(sideB x && !fLt .f32 1232348160 x)=rangeB x:=by
 have hC:FloatKind.f32.format.read 1232348160 = .number false 16000000 (-4):=by decide
 have some_beq : ∀ (a b:Ordering),((some a:Option Ordering)==some b)=(a==b):=fun a b=>by cases a <;> cases b <;> rfl
 cases hd:FloatKind.f32.decode x with
 | nan s t =>
  have hn:isNan .f32 x=true:=qav.2 ⟨s,t,hd⟩
  have e1:fLt .f32 0 x=false:=by unfold fLt;rw [qvn _ _ hn];rfl
  simp [sideB,rangeB,e1]
 | infinity s =>
  have hd':FloatKind.f32.format.read x = .infinity s:=hd
  have e2:finB x=false:=by
   cases hf:finB x with
   | false=>rfl
   | true =>
    obtain ⟨a,b,c,h⟩:=qgb (k:=.f32) hf
    exact absurd (hd.symm.trans h) (by simp)
  have h0:FloatKind.f32.format.read 0 = .number false 0 (-149):=by decide
  have e3:rangeB x=false:=by
   unfold rangeB fLt fLe Ieee.Format.order
   rw [hd',hC,h0]
   cases s <;> rfl
  simp [sideB,e2,e3]
 | number s m p =>
  have hd':FloatKind.f32.format.read x = .number s m p:=hd
  have e4:(!fLt .f32 1232348160 x)=fLe .f32 x 1232348160:=by
   unfold fLt fLe Ieee.Format.order
   rw [hd',hC]
   simp only [Ieee.Datum.order,some_beq]
   rw [qqt,qmk,Int.min_comm]
   generalize Ieee.signed s m _=a
   generalize Ieee.signed false 16000000 _=b
   by_cases h:b<a
   ·have:¬ a≤b:=by omega
    simp [h,this]
   ·have:a≤b:=by omega
    simp [h,this]
  rw [e4]
  simp [sideB,rangeB,qae2 hd]
def sightB (side:Nat) (s:DSight):Bool:=iEq (cellF side s.1).2.1 0&&(rangeB s.2.1&&timeB s.2.2.1)
def fleetB (f:DFleet):Bool:=sideB f.1&&(leastB f.2.1&&((iLe 1 (lenI f.2.2.1)&&iLe (lenI f.2.2.1) 4)&&f.2.2.1.all fun l => !iLt 16 (lenI l)&&l.all (sightB f.1)))
theorem qpi (f:DFleet) (h:Sized TyFleet f):qgd f=some ((fleetB f,()),()):=by
 have hr:run (qge f) ((0:Int),())=some ((f.2.2.1.all fun l => !iLt 16 (lenI l)&&l.all (sightB f.1),()),()):=by
  have hl:f.2.2.1.length≤140737488355328:=h.2.2.1.1
  refine qka (fun i hi => ?_) ?_
  ·have e1:iLt (i:Int) (lenI f.2.2.1)=true:=qah (by rw [qaa];omega)
   have e2:inB (i:Int) f.2.2.1.length=true:=qae hi
   have e4:f.2.2.1.getD i ([]:List DSight)=f.2.2.1[i]:=qan hi
   have e5:iAdd .i64 (i:Int) 1=((i+1:Nat):Int):=qaq hi (by omega)
   have hs:f.2.2.1[i].length≤140737488355328:=(h.2.2.1.2 _ (List.getElem_mem hi)).1
   simp only [qge,e1,e2,e4,Int.toNat_natCast,cond_true]
   generalize f.2.2.1[i]=l at hs
   cases iLt 16 (lenI l)
   ·have hin:run (qgf l f ((i:Int),())) ((0:Int),())=bif l.all (sightB f.1) then some (.inl (((i+1:Nat):Int),())) else some (.inr ((false,()),())):=by
     refine qagf (xs:=l) (fun j (s:Unit)=>((j:Int),())) (sightB f.1) (fun s _=>s) (Sum.inr ((false,()),())) (fun s=>some (Sum.inl (((i+1:Nat):Int),()))) (fun j hj s => ?_) (fun s => ?_) ()
     ·have e1:iLt (j:Int) (lenI l)=true:=qah (by rw [qaa];omega)
      have e2:inB (j:Int) l.length=true:=qae hj
      have e4:l.getD j (((0,0,0,()),0,0,()):DSight)=l[j]:=qan hj
      have e5:iAdd .i64 (j:Int) 1=((j+1:Nat):Int):=qaq hj (by omega)
      simp only [qgf,e1,e2,e4,e5,Int.toNat_natCast,qoh,qde,qhk,Option.bind_some,cond_true,sightB,← qam2]
      generalize l[j]=x
      cases iEq (cellF f.1 x.1).2.1 0 <;> cases sideB x.2.1 <;> cases fLt .f32 1232348160 x.2.1 <;> cases timeB x.2.2.1 <;> rfl
     ·have e1:iLt (l.length:Int) (lenI l)=false:=qag (by rw [qaa];omega)
      simp only [qgf,e1,e5,cond_false]
    simp only [cond_false,hin]
    cases l.all (sightB f.1) <;> rfl
   ·rfl
  ·have e1:iLt (f.2.2.1.length:Int) (lenI f.2.2.1)=false:=qag (by rw [qaa];omega)
   simp only [qge,e1,cond_false]
   rfl
 simp only [qgd,qde,qaa8,qg1,qcb,hr,Option.bind_some,fleetB]
 cases sideB f.1 <;> cases leastB f.2.1 <;> cases (iLe 1 (lenI f.2.2.1)&&iLe (lenI f.2.2.1) 4) <;> rfl
theorem qwc (f:DFleet) (h:Sized TyFleet f):qq3 f=some ((fleetB f,()),()):=by
 have hr:run (qll f) ((0:Int),())=some ((f.2.2.1.all fun l => !iLt 16 (lenI l)&&l.all (sightB f.1),()),()):=by
  have hl:f.2.2.1.length≤140737488355328:=h.2.2.1.1
  refine qka (fun i hi => ?_) ?_
  ·have e1:iLt (i:Int) (lenI f.2.2.1)=true:=qah (by rw [qaa];omega)
   have e2:inB (i:Int) f.2.2.1.length=true:=qae hi
   have e4:f.2.2.1.getD i ([]:List DSight)=f.2.2.1[i]:=qan hi
   have e5:iAdd .i64 (i:Int) 1=((i+1:Nat):Int):=qaq hi (by omega)
   have hs:f.2.2.1[i].length≤140737488355328:=(h.2.2.1.2 _ (List.getElem_mem hi)).1
   have hin : ∀ l:List DSight,f.2.2.1[i]=l→l.length≤140737488355328→run (qlm ((i:Int),()) f) ((0:Int),())=bif l.all (sightB f.1) then some (.inl (((i+1:Nat):Int),())) else some (.inr ((false,()),())):=by
    intro l hl' hs
    rw [hl'] at e4
    refine qagf (xs:=l) (fun j (s:Unit)=>((j:Int),())) (sightB f.1) (fun s _=>s) (Sum.inr ((false,()),())) (fun s=>some (Sum.inl (((i+1:Nat):Int),()))) (fun j hj s => ?_) (fun s => ?_) ()
    ·have e1:iLt (j:Int) (lenI l)=true:=qah (by rw [qaa];omega)
     have e3:inB (j:Int) l.length=true:=qae hj
     have e6:l.getD j (((0,0,0,()),0,0,()):DSight)=l[j]:=qan hj
     have e5:iAdd .i64 (j:Int) 1=((j+1:Nat):Int):=qaq hj (by omega)
     simp only [qlm,e1,e2,e3,e4,e5,e6,Int.toNat_natCast,qadb,qgt,Option.bind_some,cond_true,sightB,rangeB]
     generalize l[j]=x
     cases iEq (cellF f.1 x.1).2.1 0 <;> cases fLt .f32 0 x.2.1 <;> cases fLe .f32 x.2.1 1232348160 <;> cases timeB x.2.2.1 <;> rfl
    ·have e1:iLt (l.length:Int) (lenI l)=false:=qag (by rw [qaa];omega)
     simp only [qlm,e1,e2,e4,e5,Int.toNat_natCast,cond_false,cond_true]
   have hin':=hin _ rfl hs
   simp only [qll,e1,e2,e4,Int.toNat_natCast,cond_true,hin']
   cases iLt 16 (lenI f.2.2.1[i]) <;> cases f.2.2.1[i].all (sightB f.1) <;> rfl
  ·have e1:iLt (f.2.2.1.length:Int) (lenI f.2.2.1)=false:=qag (by rw [qaa];omega)
   simp only [qll,e1,cond_false]
   rfl
 simp only [qq3,qnp,qaae,qcb,hr,Option.bind_some,fleetB]
 cases sideB f.1 <;> cases leastB f.2.1 <;> cases (iLe 1 (lenI f.2.2.1)&&iLe (lenI f.2.2.1) 4) <;> rfl
end
section

end
section
def joinC (c:UInt8):List (List UInt8)→List UInt8
 | []=>[]
 | [w]=>w
 | w :: v :: r=>w++c :: joinC c (v :: r)
theorem qvu (c:UInt8) : ∀ ws:List (List UInt8),ws≠[]→(∀ w∈ws,c∉w)→splitC c (joinC c ws)=ws
 | [],h,_=>absurd rfl h
 | [w],_,h=>qg7 (h w (by simp))
 | w :: v :: r,_,h=>by
  show splitC c (w++c :: joinC c (v :: r))=_
  rw [qgz _ (h w (by simp)),qvu c (v :: r) (by simp) (fun x hx=>h x (List.mem_cons_of_mem _ hx))]
theorem qxj {c d:UInt8} (hcd:d≠c) : ∀ ws:List (List UInt8),(∀ w∈ws,d∉w)→d∉joinC c ws
 | [],_=>by simp [joinC]
 | [w],h=>h w (by simp)
 | w :: v :: r,h=>by
  show d∉w++c :: joinC c (v :: r)
  intro hd
  rcases List.mem_append.1 hd with hd | hd
  ·exact h w (by simp) hd
  ·rcases List.mem_cons.1 hd with hd | hd
   ·exact hcd hd
   ·exact qxj hcd (v :: r) (fun x hx=>h x (List.mem_cons_of_mem _ hx)) hd
def linesT (Ls:List (List UInt8)):List UInt8:=Ls.flatMap fun x=>x++[10]
theorem qzo : ∀ Ls:List (List UInt8),(∀ x∈Ls,(10:UInt8)∉x)→splitC 10 (linesT Ls)=Ls++[[]]
 | [],_=>rfl
 | x :: Ls,h=>by
  have e:linesT (x :: Ls)=x++10 :: linesT Ls:=by
   unfold linesT;rw [List.flatMap_cons];simp
  rw [e,qgz _ (h x (by simp)),qzo Ls (fun y hy=>h y (List.mem_cons_of_mem _ hy))]
  rfl
end
section
def hex8 (a:Nat):List UInt8:=hexP 8 (bitsOf a)
theorem qake {c:UInt8} (hc:c=32∨c=10) {d:Nat} (h:d<16):hexC d≠c:=by
 have key : ∀ d:Fin 16,hexC d.val≠32∧hexC d.val≠10:=by decide
 rcases hc with rfl | rfl
 ·exact (key ⟨d,h⟩).1
 ·exact (key ⟨d,h⟩).2
theorem qxb {c:UInt8} (hc:c=32∨c=10) : ∀ k n,c∉hexP k n
 | 0,_=>by simp [hexP]
 | k+1,n=>by
  rw [hexP]
  intro h
  rcases List.mem_append.1 h with h | h
  ·exact qxb hc k _ h
  ·rw [List.mem_singleton] at h
   exact qake hc (Nat.mod_lt n (by decide)) h.symm
theorem qakh {c:UInt8} (hc:c=32∨c=10) (n:Int):c∉Lib.itoa n:=by
 have hd : ∀ u,c∉Lib.decDigits u:=fun u=>by
  rcases hc with rfl | rfl
  ·exact qi2 rfl u
  ·exact qi2 rfl u
 unfold Lib.itoa
 split
 ·intro h
  rcases List.mem_cons.1 h with h | h
  ·rcases hc with rfl | rfl <;> exact absurd h (by decide)
  ·exact hd _ h
 ·exact hd _
def goodN (a:Nat):Prop:=numR (hex8 a)=some a
def goodV (v:Vec 3 Nat):Prop:=goodN v.1∧goodN v.2.1∧goodN v.2.2.1
theorem qakx (r:DRd) (h:(wordOf r).length≤1048576) : ∃ a:Nat,qal r=some ((a,()),((r.1.drop 1,((r.1.isEmpty||r.2.1)||(numR (wordOf r)).isNone,())),())) ∧ ∀ x,numR (wordOf r)=some x→a=x:=by
 obtain ⟨ws,f,⟨⟩⟩:=r
 have hw:=qcr (ws,f,())
 have hn:=qxd h
 unfold qal
 rw [hw]
 simp only [Option.bind_some]
 rw [hn]
 cases hr:numR (wordOf (ws,f,())) with
 | none =>
  refine ⟨0,?_,fun x hx=>by cases hx⟩
  simp only [Option.bind_some,restOf]
  cases (ws.isEmpty||f) <;> rfl
 | some a =>
  refine ⟨a,?_,fun x hx=>Option.some.inj hx⟩
  simp only [Option.bind_some,restOf]
  cases (ws.isEmpty||f) <;> rfl
theorem qaot {a b:List UInt8} (h:a≠b):sEq a b=false:=by
 cases e:sEq a b with
 | false=>rfl
 | true=>exact absurd (by simpa [sEq] using e) h
theorem qakt {r:DRd} (hall : ∀ w∈r.1,w.length≤1048576) (k:List UInt8) : ∃ r':DRd,qbb r k=some ((),(r',()))∧r'.1=r.1.drop 1 ∧
  (r'.2.1=false→r.2.1=false ∧ ∃ ws,r.1=k :: ws)∧(∀ ws,r.2.1=false→r.1=k :: ws→r'.2.1=false):=by
 obtain ⟨ws,f,⟨⟩⟩:=r
 unfold qbb
 rw [qcr]
 simp only [Option.bind_some,restOf,wordOf]
 cases ws with
 | nil =>
  cases hq:sEq ([]:List UInt8) k with
  | false =>
   refine ⟨([],true,()),?_,rfl,fun h=>absurd (show true=false from h) (by decide),fun ws h1 h2=>by cases h2⟩
   have:(([]:List (List UInt8)).getD 0 [])=([]:List UInt8):=rfl
   rw [this,hq];rfl
  | true =>
   refine ⟨([],true,()),?_,rfl,fun h=>absurd (show true=false from h) (by decide),fun ws h1 h2=>by cases h2⟩
   have:(([]:List (List UInt8)).getD 0 [])=([]:List UInt8):=rfl
   rw [this,hq];rfl
 | cons w ws =>
  have hg:((w :: ws).getD 0 [])=w:=rfl
  rw [hg]
  cases hq:sEq w k with
  | false =>
   refine ⟨(ws,true,()),rfl,rfl,fun h=>absurd (show true=false from h) (by decide),fun z h1 h2 => ?_⟩
   have:w=k:=(List.cons.inj h2).1
   rw [this,qct] at hq
   cases hq
  | true =>
   have hwk:w=k:=by simpa [sEq] using hq
   refine ⟨(ws,f,()),rfl,rfl,fun h=>⟨h,ws,by rw [hwk]⟩,fun z h1 h2=>h1⟩
theorem qahu {s:List UInt8} (hs:s.length≤1048576):qbq s=some (((splitC 32 s,(false,())),()),()):=by
 unfold qbq
 rw [qc9 32 (by omega)]
 rfl
theorem qtz {c:UInt8} {s f:List UInt8} (h:f∈splitC c s):f.length≤s.length:=by
 have h1:=(List.sublist_flatten_of_mem h).length_le
 rw [qux] at h1
 exact Nat.le_trans h1 (List.length_filter_le _ _)
end
end Go.Proofs.YtjhdoneobdbeaaaGreatDoor
