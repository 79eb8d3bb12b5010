import Derived.Test.YtjhdoneobdbeaaaGreatDoorP4
/- Functions of the program and of the reference in plain terms. -/
set_option linter.unusedSectionVars false
set_option linter.unusedSimpArgs false
set_option linter.unusedVariables false
namespace Go.Proofs.YtjhdoneobdbeaaaGreatDoor
open Go Go.Tm
section
structure MapOK (side:Nat) (m:DMap):Prop where
 side:m.1=side
 len:m.2.1.length≤200
 marks:Marks m.2.1
 all : ∀ x∈m.2.1,MarkOK x
theorem MapOK.sized {side:Nat} {m:DMap} (h:MapOK side m):Sized TyMap m:=⟨trivial,qak5 (by rfl) (Nat.le_trans h.len (by decide)),trivial⟩
theorem MapOK.valid {side:Nat} {m:DMap} (hs:sideB side=true) (h:MapOK side m):mapB m=true:=qan3.2 ⟨by rw [h.side];exact hs,h.len,h.marks⟩
theorem quy {v side:Nat} (hv:finB v=true) (hs:sideB side=true) (h:cellB v side=true) : -1000000≤cellN v side∧cellN v side≤1000000:=by
 obtain ⟨n,hn,hb⟩:=qxq (qr0 hv hs) h
 unfold cellN
 rw [hn]
 exact hb
theorem qakc {side:Nat} {v:Vec 3 Nat} (h:iEq (cellF side v).2.1 0=true) :
  (-1000000≤Vec.getD 3 (cellF side v).1 0 (0:Int)∧Vec.getD 3 (cellF side v).1 0 (0:Int)≤1000000)∧(-1000000≤Vec.getD 3 (cellF side v).1 1 (0:Int)∧Vec.getD 3 (cellF side v).1 1 (0:Int)≤1000000)∧(-1000000≤Vec.getD 3 (cellF side v).1 2 (0:Int)∧Vec.getD 3 (cellF side v).1 2 (0:Int)≤1000000):=by
 unfold cellF at h ⊢
 cases hs:sideB side with
 | false=>rw [hs] at h;exact absurd h (by simp [iEq])
 | true =>
  cases hv:finV v with
  | false=>rw [hs,hv] at h;exact absurd h (by simp [iEq])
  | true =>
   rw [hs,hv] at h
   have hv':=hv
   unfold finV at hv'
   simp only [Bool.and_eq_true] at hv'
   cases c0:cellB (Vec.getD 3 v 0 (0:Nat)) side with
   | false=>rw [c0] at h;exact absurd h (by simp [iEq])
   | true =>
    cases c1:cellB (Vec.getD 3 v 1 (0:Nat)) side with
    | false=>rw [c0,c1] at h;exact absurd h (by simp [iEq])
    | true =>
     cases c2:cellB (Vec.getD 3 v 2 (0:Nat)) side with
     | false=>rw [c0,c1,c2] at h;exact absurd h (by simp [iEq])
     | true=>exact ⟨quy hv'.1 hs c0,quy hv'.2.1 hs c1,quy hv'.2.2 hs c2⟩
theorem qago (a b:Vec 3 Int) : ∃ v,qio a b=some ((v,()),())∧qkm a b=some ((v,()),()):=by
 have k1 : ∀ c:Int,iLt 1 c = !iLe c 1:=fun c=>by unfold iLt iLe;by_cases h:c≤1 <;> simp [h];omega
 have k2 : ∀ c:Int,iLt c (-1) = !iLe (-1) c:=fun c=>by unfold iLt iLe;by_cases h : -1≤c <;> simp [h];omega
 unfold qio qkm
 simp only [qht,qcg,Option.bind_some,k1,k2]
 generalize iSub .i64 (iWrap .i64 (Vec.getD 3 a 0 (0:Int))) (iWrap .i64 (Vec.getD 3 b 0 (0:Int)))=c0
 generalize iSub .i64 (iWrap .i64 (Vec.getD 3 a 1 (0:Int))) (iWrap .i64 (Vec.getD 3 b 1 (0:Int)))=c1
 generalize iSub .i64 (iWrap .i64 (Vec.getD 3 a 2 (0:Int))) (iWrap .i64 (Vec.getD 3 b 2 (0:Int)))=c2
 cases iLe c0 1 <;> cases iLe (-1) c0 <;> cases iLe c1 1 <;> cases iLe (-1) c1 <;> cases iLe c2 1 <;> cases iLe (-1) c2 <;> exact ⟨_,rfl,rfl⟩
theorem qalh (x:DMark) (v:Vec 3 Nat) : ∃ d:Nat,qku x v=some ((d,()),())∧qh5 x v=some ((d,()),()):=by
 obtain ⟨c,⟨x0,x1,x2,⟨⟩⟩,y⟩:=x
 obtain ⟨v0,v1,v2,⟨⟩⟩:=v
 have hd : ∀ a b c:Nat,qp4 ((a,b,c,()):Vec 3 Nat) ((a,b,c,()):Vec 3 Nat)=some ((fAdd .f32 (fAdd .f32 (fMul .f32 a a) (fMul .f32 b b)) (fMul .f32 c c),()),()):=fun a b c=>by
  unfold qp4
  rw [show qns [Vec.getD 3 ((a,b,c,()):Vec 3 Nat) 0 (0:Nat),Vec.getD 3 ((a,b,c,()):Vec 3 Nat) 1 (0:Nat),Vec.getD 3 ((a,b,c,()):Vec 3 Nat) 2 (0:Nat)] [Vec.getD 3 ((a,b,c,()):Vec 3 Nat) 0 (0:Nat),Vec.getD 3 ((a,b,c,()):Vec 3 Nat) 1 (0:Nat),Vec.getD 3 ((a,b,c,()):Vec 3 Nat) 2 (0:Nat)]=_ from qaqx a b c a b c]
  rfl
 refine ⟨rootF (fAdd .f32 (fAdd .f32 (fMul .f32 (fSub .f32 x0 v0) (fSub .f32 x0 v0)) (fMul .f32 (fSub .f32 x1 v1) (fSub .f32 x1 v1))) (fMul .f32 (fSub .f32 x2 v2) (fSub .f32 x2 v2))),?_,?_⟩
 ·simp only [qku,qu7,qadc,Option.bind_some]
  rfl
 ·have e1:qp5 ((x0,x1,x2,()):Vec 3 Nat) ((v0,v1,v2,()):Vec 3 Nat)=some ((((fSub .f32 x0 v0,fSub .f32 x1 v1,fSub .f32 x2 v2,()):Vec 3 Nat),()),()):=rfl
  have e2:qgy ((fSub .f32 x0 v0,fSub .f32 x1 v1,fSub .f32 x2 v2,()):Vec 3 Nat)=some ((rootF (fAdd .f32 (fAdd .f32 (fMul .f32 (fSub .f32 x0 v0) (fSub .f32 x0 v0)) (fMul .f32 (fSub .f32 x1 v1) (fSub .f32 x1 v1))) (fMul .f32 (fSub .f32 x2 v2) (fSub .f32 x2 v2))),()),()):=by
   unfold qgy
   rw [hd]
   simp only [Option.bind_some,qahb]
  show ((qp5 ((x0,x1,x2,()):Vec 3 Nat) ((v0,v1,v2,()):Vec 3 Nat)).bind fun y374=>(qgy y374.1.1).bind fun y375=>some ((y375.1.1,()),()))=_
  rw [e1]
  show ((qgy ((fSub .f32 x0 v0,fSub .f32 x1 v1,fSub .f32 x2 v2,()):Vec 3 Nat)).bind fun y375=>some ((y375.1.1,()),()))=_
  rw [e2]
  rfl
theorem qahm {m:DMap} (hl:m.2.1.length≤1000) (v:Vec 3 Nat) (g:Nat) : ∃ b code:Int,qkd m v g=some ((b,code,()),())∧(b = -1∨(0≤b∧b<m.2.1.length))∧code≠6 ∧
  qc9 m v g=some ((bif iEq code 0 then (bif iLt b 0 then (0,6,()) else (b,0,())) else (0,code,())),()):=by
 unfold qkd qc9
 rw [qoe,qpj]
 simp only [Option.bind_some]
 have hcode:(cellF m.1 v).2.1=0∨(cellF m.1 v).2.1=2∨(cellF m.1 v).2.1=3:=by
  unfold cellF
  cases sideB m.1&&finV v
  ·exact .inr (.inl rfl)
  ·cases cellB (Vec.getD 3 v 0 (0:Nat)) m.1&&(cellB (Vec.getD 3 v 1 (0:Nat)) m.1&&cellB (Vec.getD 3 v 2 (0:Nat)) m.1)
   ·exact .inr (.inr rfl)
   ·exact .inl rfl
 have i20:iEq (2:Int) 0=false:=by decide
 have i22:iEq (2:Int) 2=true:=by decide
 have i02:iEq (0:Int) 2=false:=by decide
 have i00:iEq (0:Int) 0=true:=by decide
 have i32:iEq (3:Int) 2=false:=by decide
 have i30:iEq (3:Int) 0=false:=by decide
 cases hg:fLe .f32 0 g with
 | false =>
  rcases hcode with h | h | h <;> rw [h] <;> simp only [i20,i22,i02,i00,i32,i30,Bool.not_false,Bool.not_true,cond_true,cond_false]
  all_goals exact ⟨_,_,rfl,.inl rfl,by decide,rfl⟩
 | true =>
  rcases hcode with h | h | h
  ·rw [h]
   simp only [i02,i00,Bool.not_true,cond_false]
   have r:=qaqa (f:=qhm m (cellF m.1 v,()) v g) (g:=qgs m v (cellF m.1 v,()) g) (fun s t=>s=t ∧ ∃ (b:Int) (d:Nat) (i:Nat),s=(b,d,(i:Int),())∧i≤m.2.1.length∧(b = -1∨(0≤b∧b<m.2.1.length))) (fun s=>(m.2.1.length-s.2.2.1).toNat)
    (fun a a' => ∃ b:Int,a=((b,0,()),())∧(b = -1∨(0≤b∧b<m.2.1.length))∧a'=((bif iLt b 0 then (0,6,()) else (b,0,())),())) (fun s t hI=>by
    obtain ⟨rfl,b,d,i,rfl,hi,hb⟩:=hI
    by_cases hlt:i<m.2.1.length
    ·left
     have e1:iLt (i:Int) (lenI m.2.1)=true:=qah (by rw [qaa];omega)
     have e2:inB (i:Int) m.2.1.length=true:=qae hlt
     have e5:iAdd .i64 (i:Int) 1=((i+1:Nat):Int):=qaq hlt (by omega)
     have hm:((m.2.1.length:Int)-((i+1:Nat):Int)).toNat<((m.2.1.length:Int)-(i:Int)).toNat:=by omega
     obtain ⟨q,hq,hq2⟩:=qago (m.2.1.getD i zMark).1 (cellF m.1 v).1
     obtain ⟨x,hx,hx2⟩:=qalh (m.2.1.getD i zMark) v
     have hq:qio ((List.getD m.2.1 i (((0,0,0,()),(0,0,0,()),0,0,0,()):DMark)).1) (cellF m.1 v).1=some ((q,()),()):=hq
     have hq2:qkm ((List.getD m.2.1 i (((0,0,0,()),(0,0,0,()),0,0,0,()):DMark)).1) (cellF m.1 v).1=some ((q,()),()):=hq2
     have hx:qku (List.getD m.2.1 i (((0,0,0,()),(0,0,0,()),0,0,0,()):DMark)) v=some ((x,()),()):=hx
     have hx2:qh5 (List.getD m.2.1 i (((0,0,0,()),(0,0,0,()),0,0,0,()):DMark)) v=some ((x,()),()):=hx2
     unfold qhm qgs
     simp only [Int.toNat_natCast]
     rw [e1,e2,hq,e5,hx,hq2,hx2]
     simp only [cond_true,Option.bind_some]
     cases q with
     | false=>exact ⟨_,_,rfl,rfl,⟨rfl,b,d,i+1,rfl,by omega,hb⟩,hm⟩
     | true =>
      simp only [Bool.not_true,cond_false,cond_true]
      cases fLe .f32 x g with
      | false=>exact ⟨_,_,rfl,rfl,⟨rfl,b,d,i+1,rfl,by omega,hb⟩,hm⟩
      | true =>
       cases iLt b 0 with
       | true=>exact ⟨_,_,rfl,rfl,⟨rfl,(i:Int),x,i+1,rfl,by omega,.inr ⟨by omega,by omega⟩⟩,hm⟩
       | false =>
        cases fLt .f32 x d with
        | true=>exact ⟨_,_,rfl,rfl,⟨rfl,(i:Int),x,i+1,rfl,by omega,.inr ⟨by omega,by omega⟩⟩,hm⟩
        | false=>exact ⟨_,_,rfl,rfl,⟨rfl,b,d,i+1,rfl,by omega,hb⟩,hm⟩
    ·right
     have e1:iLt (i:Int) (lenI m.2.1)=false:=qaf (by rw [qaa];omega)
     refine ⟨((b,0,()),()),_,?_,?_,b,rfl,hb,rfl⟩
     ·unfold qhm
      simp only
      rw [e1]
      rfl
     ·unfold qgs
      simp only
      rw [e1]
      cases iLt b 0 <;> rfl) (s:=((-1:Int),(0:Nat),(0:Int),())) (t:=((-1:Int),(0:Nat),(0:Int),())) ⟨rfl,-1,0,0,rfl,Nat.zero_le _,.inl rfl⟩
   obtain ⟨a,a',ha,ha',b,rfl,hb,rfl⟩:=r
   exact ⟨b,0,ha,hb,by decide,ha'⟩
  ·rw [h]
   simp only [i20,i22,Bool.not_false,Bool.not_true,cond_true,cond_false]
   exact ⟨_,_,rfl,.inl rfl,by decide,rfl⟩
  ·rw [h]
   simp only [i32,i30,Bool.not_false,Bool.not_true,cond_true,cond_false]
   exact ⟨_,_,rfl,.inl rfl,by decide,rfl⟩
theorem qaim {l:List DMark} (hl:l.length≤1000000):qeu l=some ((l,()),()):=by
 have r:room (0+l.length) 48=true:=qaw (by omega)
 unfold qeu
 rw [r]
 cases l with
 | nil=>exact qiy fun q=>by cases q <;> rfl
 | cons a l=>rfl
theorem qzr {m:DMap} (hl:m.2.1.length≤1000000):qhx m=some (((m.1,m.2.1,()),()),()):=by
 unfold qhx
 rw [qaim hl]
 rfl
theorem qad4 {l:List DMark} {x:DMark} : (putL l x).length=bif foundB l x.1 then l.length else l.length+1:=by
 have hp:=qiv l x.1
 unfold putL
 cases hf:foundB l x.1 with
 | true =>
  obtain ⟨hi,hc⟩:=qaa1 hf
  simp only [cond_true]
  cases betterB x (l.getD (placeN l x.1) zMark) with
  | true=>simp [List.length_take];omega
  | false=>rfl
 | false=>simp [List.length_take];omega
theorem qwo {l:List DMark} (hl:l.length≤200) {x:DMark} : iLt 200 (lenI (putL l x))=fullB l x:=by
 unfold fullB
 rw [qaa,qad4,qaa]
 cases foundB l x.1 with
 | true=>exact qaf (by simp;omega)
 | false =>
  simp only [cond_false,Bool.not_false,Bool.true_and]
  by_cases h:l.length=200
  ·rw [h];rfl
  ·rw [qaf (by omega),qau (by omega)]
theorem qzm {side:Nat} (hs:sideB side=true) {L:List DMark} (hL:Marks L) (hl:L.length≤200) (hk : ∀ y∈L,MarkOK y) {v:Vec 3 Nat} (hv:FitVec (fltFit .f32) 3 v) {w:Nat} (hw:sideB w=true) (hwc:fltFit .f32 w) {n t:Int} (hn:1≤n) (hn1:n≤1000000) (ht:timeB t=true) (fl fl':Bool) (a0:DMap) (u:Unit) :
  ∃ (m':DMap) (c:Vec 3 Int) (o:Bool) (code:Int),((qd1 side v).bind fun y=>bif (! (iEq y.1.2.1 0)) then some ((((0,[],()):DMap),((0,0,0,()):Vec 3 Int),false,(3:Int),()),(a0,())) else
   (qdr L ((y.1.1,v,w,n,t,()):DMark)).bind fun z=>(qcm side z.1.1).bind fun u=>some ((u.1.1,y.1.1,fl,u.1.2.1,()),(a0,())))=some (((m',c,o,code,()):DSeen),(a0,())) ∧
  ∃ (m2:DMap) (c2:Vec 3 Int) (o2:Bool),((qco side v).bind fun y=>bif (! (iEq y.1.2.1 0)) then some ((((0,[],()):DMap),((0,0,0,()):Vec 3 Int),false,(3:Int),()),()) else
   (qa6 ((side,L,u):DMap) ((y.1.1,v,w,n,t,()):DMark)).bind fun z=>bif (! z.1.1) then some ((((0,[],()):DMap),((0,0,0,()):Vec 3 Int),false,(3:Int),()),()) else
    some ((((z.2.1.1,z.2.1.2.1,z.2.1.2.2):DMap),y.1.1,fl',(0:Int),()),()))=some (((m2,c2,o2,code,()):DSeen),())∧(code=0→m2=m'∧MapOK side m'):=by
 rw [qoe,qpj]
 simp only [Option.bind_some]
 cases hc:iEq (cellF side v).2.1 0 with
 | false=>exact ⟨_,_,_,_,rfl,_,_,_,rfl,fun h=>absurd h (by decide)⟩
 | true =>
  simp only [Bool.not_true,cond_false]
  obtain ⟨b0,b1,b2⟩:=qakc hc
  have hx:MarkOK (((cellF side v).1,v,w,n,t,()):DMark):=by
   refine ⟨?_,b0,b1,b2,hv,hwc⟩
   unfold markB
   simp only [Bool.and_eq_true,qpi]
   exact ⟨qani hc,hw,⟨hn,hn1⟩,ht⟩
  rw [qabl (by omega),qag9 (m:=((side,L,u):DMap)) hl hL hk hx]
  simp only [Option.bind_some]
  unfold qcm
  rw [qwo hl]
  cases hf:fullB L (((cellF side v).1,v,w,n,t,()):DMark) with
  | true=>exact ⟨_,_,_,_,rfl,_,_,_,rfl,fun h=>absurd h (by decide)⟩
  | false =>
   have hpm:=qafm (x:=(((cellF side v).1,v,w,n,t,()):DMark)) (by omega) hL hx.ok
   have h200:(putL L (((cellF side v).1,v,w,n,t,()):DMark)).length≤200:=by
    have:=qwo hl (x:=(((cellF side v).1,v,w,n,t,()):DMark))
    rw [hf,qaa] at this
    have:=of_decide_eq_false this
    omega
   exact ⟨_,_,_,_,rfl,_,_,_,rfl,fun _=>⟨rfl,rfl,h200,hpm.1,fun y hy=>(qaju hy).elim (hk y) (fun h=>h▸hx)⟩⟩
end
section
theorem qah7 {v:Vec 3 Nat} {a b c:Nat} (ha:cF a) (hb:cF b) (hc:cF c):FitVec (fltFit .f32) 3 (Vec.set 3 (Vec.set 3 (Vec.set 3 v 0 a) 1 b) 2 c):=⟨ha,hb,hc,trivial⟩
theorem qaho {side:Nat} (hs:sideB side=true) {m:DMap} (hm:MapOK side m) {v:Vec 3 Nat} (hv:FitVec (fltFit .f32) 3 v) {w:Nat} (hwc:fltFit .f32 w) (t:Int) (g:Nat) :
  ∃ (m':DMap) (c:Vec 3 Int) (o:Bool) (code:Int),qjx m v w t g=some (((m',c,o,code,()):DSeen),(m,())) ∧
  ∃ (m2:DMap) (c2:Vec 3 Int) (o2:Bool),qij m v w t g=some (((m2,c2,o2,code,()):DSeen),())∧(code=0→m2=m'∧MapOK side m'):=by
 obtain ⟨hsd,hl,hM,hk⟩:=hm
 subst hsd
 obtain ⟨b,code,hn,hb,h6,hn2⟩:=qahm (m:=m) (by omega) v g
 have hsw:sideB w=(finB w&&fLt .f32 0 w):=rfl
 have i66:iEq (6:Int) 6=true:=by decide
 have i60:iEq (6:Int) 0=false:=by decide
 have i00:iEq (0:Int) 0=true:=by decide
 have early : ∀ {q:Int},q≠0→(q=0 → ∀ {P:Prop},P):=fun h h0=>absurd h0 h
 by_cases hc:code=0
 ·subst hc
  have r0:room (0+m.2.1.length) 48=true:=qaw (by omega)
  rcases hb with rfl | ⟨b0,b1⟩
  ·have hn2:qc9 m v g=some ((0,6,()),()):=hn2
   have e0:iLe 0 (-1:Int)=false:=by decide
   unfold qjx qij
   simp only [qcx,qhk,hn,qdk,qii,hn2,qzr (m:=m) (by omega),Option.bind_some,i66,i60,i00,hsw]
   cases hw:finB w with
   | false=>exact ⟨_,_,_,_,rfl,_,_,_,rfl,fun h=>absurd h (by decide)⟩
   | true =>
    cases hw0:fLt .f32 0 w with
    | false=>exact ⟨_,_,_,_,rfl,_,_,_,rfl,fun h=>absurd h (by decide)⟩
    | true =>
     cases ht:timeB t with
     | false=>exact ⟨_,_,_,_,rfl,_,_,_,rfl,fun h=>absurd h (by decide)⟩
     | true =>
      have hsw':sideB w=true:=by rw [hsw,hw,hw0];rfl
      rw [r0,e0]
      simp only [Bool.not_true,Bool.not_false,Bool.and_self,cond_false,cond_true,List.nil_append]
      exact qzm hs hM hl hk hv hsw' hwc (by omega) (by omega) ht _ _ m ()
  ·obtain ⟨k,rfl⟩:=Int.eq_ofNat_of_zero_le b0
   have hn2:qc9 m v g=some (((k:Int),0,()),()):=by
    rw [hn2,i00,qaf (by omega:¬ (k:Int)<0)]
    rfl
   have hkl:k<m.2.1.length:=by omega
   have e0:iLe 0 (k:Int)=true:=qat (by omega)
   have e1:inB (k:Int) m.2.1.length=true:=qae hkl
   have e2:inS 0 (k:Int) m.2.1.length=true:=by unfold inS;simp;omega
   have e5:iAdd .i64 (k:Int) 1=((k+1:Nat):Int):=(qcr (by omega) (by omega)).trans (by omega)
   have e6:inS ((k+1:Nat):Int) (lenI m.2.1) m.2.1.length=true:=by unfold inS;rw [qaa];simp;omega
   have t1:takeL m.2.1 (k:Int)=m.2.1.take k:=by unfold takeL;rw [Int.toNat_natCast]
   have t2:dropL m.2.1 ((k+1:Nat):Int)=m.2.1.drop (k+1):=by unfold dropL;rw [Int.toNat_natCast]
   have l1:(m.2.1.take k).length=k:=by rw [List.length_take];omega
   have l2:(m.2.1.drop (k+1)).length=m.2.1.length-(k+1):=List.length_drop
   have r1:room (0+(m.2.1.take k).length) 48=true:=qaw (by omega)
   have r2:room ((m.2.1.take k).length+(m.2.1.drop (k+1)).length) 48=true:=qaw (by omega)
   have hsub:(m.2.1.take k++m.2.1.drop (k+1)).Sublist m.2.1:=by
    have h1:(m.2.1.take k++m.2.1.drop (k+1)).Sublist (m.2.1.take k++m.2.1.drop k):=List.Sublist.append (List.Sublist.refl _) (by
     rw [← List.getElem_cons_drop (h:=hkl)]
     exact List.sublist_cons_self _ _)
    rwa [List.take_append_drop] at h1
   have hM':Marks (m.2.1.take k++m.2.1.drop (k+1)):=⟨fun x hx=>hM.1 x (hsub.mem hx),hM.2.sublist hsub⟩
   have hl':(m.2.1.take k++m.2.1.drop (k+1)).length≤200:=Nat.le_trans hsub.length_le hl
   have hk' : ∀ y∈m.2.1.take k++m.2.1.drop (k+1),MarkOK y:=fun y hy=>hk y (hsub.mem hy)
   have hold:=hk _ (List.getElem_mem hkl)
   have hdel:qgw m.2.1 (k:Int) ((k+1:Nat):Int)=some ((m.2.1.take k++m.2.1.drop (k+1),()),()):=qabu TyMark m.2.1 k hkl
   have hgd:List.getD m.2.1 (Int.toNat (k:Int)) (((0,0,0,()),(0,0,0,()),0,0,0,()):DMark)=m.2.1[k]:=by
    rw [Int.toNat_natCast];exact qal hkl
   unfold qjx qij
   simp only [qcx,qhk,hn,qdk,qii,hn2,qzr (m:=m) (by omega),Option.bind_some,i00,hsw]
   cases hw:finB w with
   | false=>exact ⟨_,_,_,_,rfl,_,_,_,rfl,fun h=>absurd h (by decide)⟩
   | true =>
    cases hw0:fLt .f32 0 w with
    | false=>exact ⟨_,_,_,_,rfl,_,_,_,rfl,fun h=>absurd h (by decide)⟩
    | true =>
     cases ht:timeB t with
     | false=>exact ⟨_,_,_,_,rfl,_,_,_,rfl,fun h=>absurd h (by decide)⟩
     | true =>
      rw [r0,e0,e1,e2,t1,r1,e5,e6,t2]
      simp only [Bool.not_true,Bool.not_false,Bool.and_self,cond_false,cond_true,List.nil_append]
      rw [r2,hdel,hgd]
      simp only [cond_true,Option.bind_some]
      generalize m.2.1[k]=x at hold
      obtain ⟨x1,x2,⟨x3,x4⟩,x5⟩:=qp8 hold.ok
      have hseen:iAdd .i64 x.2.2.2.1 1=x.2.2.2.1+1:=qcr (by omega) (by omega)
      have hmn:1≤min (x.2.2.2.1+1) 1000000∧min (x.2.2.2.1+1) 1000000≤1000000:=by omega
      have hmx:timeB (max x.2.2.2.2.1 t)=true:=by
       unfold timeB at ht x5 ⊢
       simp only [Bool.and_eq_true,qpi] at ht x5 ⊢
       omega
      have hfin:qc4 [fAdd .f32 x.2.2.1 w]=some ((finB (fAdd .f32 x.2.2.1 w),()),()):=by
       rw [qi7 _ (by simp)]
       simp
      simp only [qaeb,qal1,Option.bind_some,hseen,hfin,qapq,qapp]
      cases hf:finB (fAdd .f32 x.2.2.1 w) with
      | false=>exact qzm hs hM' hl' hk' (qah7 (qzp _ _) (qzp _ _) (qzp _ _)) x2 hold.wt hmn.1 hmn.2 hmx _ _ m ()
      | true =>
       have hx2:=x2
       unfold sideB at hx2
       rw [Bool.and_eq_true] at hx2
       have hsum:sideB (fAdd .f32 x.2.2.1 w)=true:=by
        unfold sideB
        rw [hf,qagi hx2.1 hx2.2 hw hw0 hf]
        rfl
       exact qzm hs hM' hl' hk' (qah7 (qzp _ _) (qzp _ _) (qzp _ _)) hsum (qaq0 _ _) hmn.1 hmn.2 hmx _ _ m ()
 ·have ic:iEq code 0=false:=qau hc
  have ic6:iEq code 6=false:=qau h6
  rw [ic] at hn2
  have hn2:qc9 m v g=some ((0,code,()),()):=hn2
  unfold qjx qij
  simp only [qcx,qhk,hn,qdk,qii,hn2,Option.bind_some,ic,ic6,hsw]
  cases hw:finB w with
  | false=>exact ⟨_,_,_,_,rfl,_,_,_,rfl,fun h=>absurd h (by decide)⟩
  | true =>
   cases hw0:fLt .f32 0 w with
   | false=>exact ⟨_,_,_,_,rfl,_,_,_,rfl,fun h=>absurd h (by decide)⟩
   | true =>
    cases ht:timeB t with
    | false=>exact ⟨_,_,_,_,rfl,_,_,_,rfl,fun h=>absurd h (by decide)⟩
    | true=>exact ⟨_,_,_,_,rfl,_,_,_,rfl,fun h=>absurd h hc⟩
theorem qal8 {side:Nat} (hs:sideB side=true) {m:DMap} (hm:MapOK side m) {v:Vec 3 Nat} (hv:FitVec (fltFit .f32) 3 v) {w:Nat} (hwc:fltFit .f32 w) (t:Int) (g:Nat) :
  ∃ (m':DMap) (c:Vec 3 Int) (code:Int),qjh m v w t g=some ((m',c,code,()),()) ∧
  ∃ (m2:DMap) (c2:Vec 3 Int),qi2 m v w t g=some ((m2,c2,code,()),())∧(code=0→m2=m'∧MapOK side m'):=by
 obtain ⟨m',c,o,code,h1,m2,c2,o2,h2,h3⟩:=qaho hs hm hv hwc t g
 have hv1:=qi6 m hm.sized
 have hv2:=qjs m hm.sized
 rw [hm.valid hs] at hv1 hv2
 unfold qjh qi2
 rw [hv1,hv2,Option.bind_some,Option.bind_some]
 simp only [Bool.not_true,cond_false]
 rw [h1,h2]
 simp only [Option.bind_some]
 by_cases hc:code=0
 ·subst hc
  exact ⟨_,_,_,rfl,_,_,rfl,fun _=>h3 rfl⟩
 ·rw [qau hc]
  exact ⟨_,_,_,rfl,_,_,rfl,fun h=>absurd h hc⟩
theorem qaom (l:List DMark) (x:DMark):l.length≤(putL l x).length:=by
 rw [qad4]
 cases foundB l x.1 <;> simp
theorem qae8 : ∀ (xs:List DMark) (l:List DMark),l.length≤(xs.foldl putL l).length
 | [],_=>Nat.le_refl _
 | x :: xs,l=>Nat.le_trans (qaom l x) (qae8 xs (putL l x))
theorem qaks {side:Nat} (hs:sideB side=true) {m n:DMap} (hm:MapOK side m) (hn:MapOK side n) :
  ∃ (r:DMap) (code:Int),qil m n=some ((r,code,()),()) ∧ ∃ r2:DMap,qic m n=some ((r2,code,()),())∧(code=0→r2=r∧MapOK side r∧r.2.1=n.2.1.foldl putL m.2.1)∧(code≠0→200<(n.2.1.foldl putL m.2.1).length):=by
 have k1:=qi6 m hm.sized
 have k2:=qjs m hm.sized
 have k3:=qi6 n hn.sized
 have k4:=qjs n hn.sized
 rw [hm.valid hs] at k1 k2
 rw [hn.valid hs] at k3 k4
 have hfs:isNan .f32 side=false:=qadu (by unfold sideB at hs;simp only [Bool.and_eq_true] at hs;exact hs.1)
 have e1:qk7 m n=some ((0,()),()):=by
  unfold qk7
  rw [k1,k3]
  simp only [Option.bind_some,Bool.not_true,cond_false,qew]
  rw [hm.side,hn.side,qn0]
  rfl
 have e2:qqc m n=some ((0,()),()):=by
  unfold qqc
  rw [k2,k4]
  simp only [Option.bind_some,Bool.not_true,cond_false]
  rw [hm.side,hn.side,qmh,hfs]
  rfl
 have hl:=hm.len
 have hnl:=hn.len
 have r0:room (0+m.2.1.length) 48=true:=qaw (by omega)
 have hspec : ∀ (d i:Nat),i+d=n.2.1.length → ∀ l:List DMark,l.length≤200+i→run (qd5 n m) (l,(i:Int),()) =
   (qcm m.1 ((n.2.1.drop i).foldl putL l)).bind fun y=>some ((y.1.1,y.1.2.1,()),()):=by
  intro d
  induction d with
  | zero =>
   intro i hi l _
   have hi:i=n.2.1.length:=by omega
   subst hi
   obtain ⟨q,hq⟩ : ∃ q,(qcm m.1 l).bind (fun y=>some ((y.1.1,y.1.2.1,()),()))=some q:=by
    unfold qcm
    cases iLt 200 (lenI l) <;> exact ⟨_,rfl⟩
   rw [List.drop_length,List.foldl_nil,hq]
   refine qaj ?_
   unfold qd5
   simp only
   rw [qaf (by rw [qaa];omega),cond_false,hq]
   rfl
  | succ d ih =>
   intro i hi l hll
   have hlt:i<n.2.1.length:=by omega
   have hstep:qd5 n m (l,(i:Int),())=some (.inl (putL l n.2.1[i],((i+1:Nat):Int),())):=by
    unfold qd5
    simp only
    rw [qah (by rw [qaa];omega),qae hlt,Int.toNat_natCast,qal hlt,qabl (by omega),qaq hlt (by omega)]
    rfl
   rw [qak hstep,ih (i+1) (by omega) _ (by
    have:(putL l n.2.1[i]).length≤l.length+1:=by rw [qad4];cases foundB l (n.2.1[i]).1 <;> simp
    omega),← List.getElem_cons_drop (h:=hlt),List.foldl_cons]
 have himpl : ∀ (d i:Nat),i+d=n.2.1.length → ∀ l:List DMark,l.length≤200→Marks l→(∀ y∈l,MarkOK y) →
   (((n.2.1.drop i).foldl putL l).length≤200→run (qcw n) ((i:Int),((m.1,l,()):DMap),())=some ((((m.1,(n.2.1.drop i).foldl putL l,()):DMap),0,()),())∧Marks ((n.2.1.drop i).foldl putL l) ∧ ∀ y∈(n.2.1.drop i).foldl putL l,MarkOK y) ∧
   (200<((n.2.1.drop i).foldl putL l).length→run (qcw n) ((i:Int),((m.1,l,()):DMap),())=some ((((0,[],()):DMap),3,()),())):=by
  intro d
  induction d with
  | zero =>
   intro i hi l hl hM hk
   have hi:i=n.2.1.length:=by omega
   subst hi
   rw [List.drop_length,List.foldl_nil]
   refine ⟨fun _=>⟨qaj ?_,hM,hk⟩,fun h=>by omega⟩
   unfold qcw
   simp only
   rw [qaf (by rw [qaa];omega)]
   rfl
  | succ d ih =>
   intro i hi l hl hM hk
   have hlt:i<n.2.1.length:=by omega
   have hx:MarkOK n.2.1[i]:=hn.all _ (List.getElem_mem hlt)
   have hput:=qag9 (m:=((m.1,l,()):DMap)) hl hM hk hx
   rw [← List.getElem_cons_drop (h:=hlt),List.foldl_cons]
   cases hf:fullB l n.2.1[i] with
   | true =>
    have h200:200<(putL l n.2.1[i]).length:=by
     have:=qwo hl (x:=n.2.1[i])
     rw [hf,qaa] at this
     have:=of_decide_eq_true this
     omega
    have h3:=qae8 (n.2.1.drop (i+1)) (putL l n.2.1[i])
    refine ⟨fun h=>by omega,fun _=>qaj ?_⟩
    rw [hf] at hput
    unfold qcw
    simp only
    rw [qah (by rw [qaa];omega),qae hlt,Int.toNat_natCast,qal hlt]
    rw [show qa6 ((m.1,l,()):DMap) n.2.1[i]=_ from hput]
    rfl
   | false =>
    have h200:(putL l n.2.1[i]).length≤200:=by
     have:=qwo hl (x:=n.2.1[i])
     rw [hf,qaa] at this
     have:=of_decide_eq_false this
     omega
    have hstep:qcw n ((i:Int),((m.1,l,()):DMap),())=some (.inl (((i+1:Nat):Int),((m.1,putL l n.2.1[i],()):DMap),())):=by
     rw [hf] at hput
     unfold qcw
     simp only
     rw [qah (by rw [qaa];omega),qae hlt,Int.toNat_natCast,qal hlt]
     rw [show qa6 ((m.1,l,()):DMap) n.2.1[i]=_ from hput,qaq hlt (by omega)]
     rfl
    rw [qak hstep]
    exact ih (i+1) (by omega) _ h200 (qafm (by omega) hM hx.ok).1 (fun y hy=>(qaju hy).elim (hk y) (fun h=>h▸hx))
 have q1:=hspec n.2.1.length 0 (by omega) m.2.1 (by omega)
 have q2:=himpl n.2.1.length 0 (by omega) m.2.1 hl hm.marks hm.all
 rw [List.drop_zero] at q1 q2
 unfold qil qic
 rw [e1,e2,qzr (m:=m) (by omega)]
 simp only [Option.bind_some]
 rw [r0]
 have i00:iEq (0:Int) 0=true:=by decide
 rw [i00]
 simp only [Bool.not_true,cond_false,cond_true,List.nil_append]
 rw [show run (qd5 n m) (m.2.1,(0:Int),())=_ from q1]
 unfold qcm
 by_cases h:200<(n.2.1.foldl putL m.2.1).length
 ·rw [qah (by rw [qaa];omega)]
  exact ⟨_,_,rfl,_,q2.2 h,fun h0=>absurd h0 (by decide),fun _=>h⟩
 ·rw [qaf (by rw [qaa];omega)]
  obtain ⟨a1,a2,a3⟩:=q2.1 (by omega)
  exact ⟨_,_,rfl,_,a1,fun _=>⟨rfl,⟨hm.side,by show (n.2.1.foldl putL m.2.1).length≤200;omega,a2,a3⟩,rfl⟩,fun h0=>absurd rfl h0⟩
end
section
def wMap:List UInt8:=[109,97,112]
def markW (x:DMark):List (List UInt8):=[Lib.itoa (Vec.getD 3 x.1 0 (0:Int)),Lib.itoa (Vec.getD 3 x.1 1 (0:Int)),Lib.itoa (Vec.getD 3 x.1 2 (0:Int)),hex8 (Vec.getD 3 x.2.1 0 (0:Nat)),hex8 (Vec.getD 3 x.2.1 1 (0:Nat)),hex8 (Vec.getD 3 x.2.1 2 (0:Nat)),hex8 x.2.2.1,Lib.itoa x.2.2.2.1,Lib.itoa x.2.2.2.2.1]
def markL (x:DMark):List UInt8:=joinC 32 (markW x)
def mapH (side:Nat):List UInt8:=joinC 32 [wMap,hex8 side]
def mapL (m:DMap):List (List UInt8):=mapH m.1 :: m.2.1.map markL
def mapT (m:DMap):List UInt8:=linesT (mapL m)
theorem MarkOK.good {x:DMark} (h:MarkOK x):goodV x.2.1∧goodN x.2.2.1:=⟨qalv h.at',qiu h.wt⟩
theorem MarkOK.nums {x:DMark} (h:MarkOK x):(1≤x.2.2.2.1∧x.2.2.2.1≤1000000)∧0≤x.2.2.2.2.1∧x.2.2.2.2.1≤1000000000:=by
 obtain ⟨-,-,a,b⟩:=qp8 h.ok
 refine ⟨a,?_⟩
 unfold timeB at b
 simp only [Bool.and_eq_true,qpi] at b
 exact b
theorem qng {k u:Nat} (h:u<10^(k+1)):(Lib.decDigits u).length≤k+1:=(qjk k u h).2.2.1
theorem qd7 {n:Int} (h : -1000000≤n) (h1:n≤1000000):(Lib.itoa n).length≤8:=by
 by_cases h0:0≤n
 ·rw [qsp h0]
  have:=qng (k:=6) (u:=n.toNat) (by omega)
  omega
 ·obtain ⟨u,rfl⟩ : ∃ u:Nat,n = -(u:Int):=⟨n.natAbs,by omega⟩
  rw [Lib.itoa_neg u (by omega)]
  have:=qng (k:=6) (u:=u) (by omega)
  simp
  omega
theorem qwv {n:Int} (h:0≤n) (h1:n≤1000000000):(Lib.itoa n).length≤10:=by
 rw [qsp h]
 have:=qng (k:=9) (u:=n.toNat) (by omega)
 omega
theorem markL_length {x:DMark} (h:MarkOK x):(markL x).length≤82:=by
 have l0:=qd7 h.c0.1 h.c0.2
 have l1:=qd7 h.c1.1 h.c1.2
 have l2:=qd7 h.c2.1 h.c2.2
 obtain ⟨⟨n1,n2⟩,n3,n4⟩:=h.nums
 have l3:=qd7 (n:=x.2.2.2.1) (by omega) n2
 have l4:=qwv n3 n4
 unfold markL markW
 simp only [joinC,List.length_append,List.length_cons,List.length_nil,qc1]
 omega
theorem qfw (s:Nat):(mapH s).length=12:=by
 unfold mapH wMap
 simp [joinC,qc1]
theorem qyv {B:Nat} : ∀ Ls:List (List UInt8),(∀ x∈Ls,x.length+1≤B)→(linesT Ls).length≤Ls.length*B
 | [],_=>Nat.zero_le _
 | x :: r,h=>by
  have h1:=h x (by simp)
  have h2:=qyv r (fun y hy=>h y (by simp [hy]))
  unfold linesT at h2 ⊢
  rw [List.flatMap_cons,List.length_append,List.length_append]
  simp only [List.length_cons,List.length_nil]
  rw [Nat.add_mul]
  omega
theorem qaai {side:Nat} {m:DMap} (h:MapOK side m):(mapT m).length≤20000:=by
 have h1:=qyv (B:=83) (mapL m) (fun x hx=>by
  rcases List.mem_cons.1 hx with rfl | hx
  ·rw [qfw];omega
  ·obtain ⟨y,hy,rfl⟩:=List.mem_map.1 hx
   have:=markL_length (h.all y hy)
   omega)
 have h2:(mapL m).length=m.2.1.length+1:=by simp [mapL]
 have:=h.len
 unfold mapT
 omega
theorem qacp {c:UInt8} (hc:c=32∨c=10) (x:DMark) : ∀ w∈markW x,c∉w:=by
 intro w hw
 unfold markW at hw
 simp only [List.mem_cons,List.mem_nil_iff,or_false] at hw
 rcases hw with rfl | rfl | rfl | rfl | rfl | rfl | rfl | rfl | rfl <;> first | exact qalz hc _ | exact qyl hc 8 _
theorem qam0 {c:UInt8} (hc:c=32∨c=10):c∉wMap:=by rcases hc with rfl | rfl <;> decide
theorem qab1 {c:UInt8} (hc:c=32∨c=10) (s:Nat) : ∀ w∈[wMap,hex8 s],c∉w:=by
 intro w hw
 simp only [List.mem_cons,List.mem_nil_iff,or_false] at hw
 rcases hw with rfl | rfl
 ·exact qam0 hc
 ·exact qyl hc 8 _
theorem qal7 (m:DMap) : ∀ x∈mapL m,(10:UInt8)∉x:=by
 intro x hx
 rcases List.mem_cons.1 hx with rfl | hx
 ·exact qyt (by decide) _ (qab1 (.inr rfl) _)
 ·obtain ⟨y,_,rfl⟩:=List.mem_map.1 hx
  exact qyt (by decide) _ (qacp (.inr rfl) y)
theorem qacn (m:DMap):splitC 10 (mapT m)=mapL m++[[]]:=qaat _ (qal7 m)
theorem qaaj (x:DMark):splitC 32 (markL x)=markW x:=qw8 32 _ (by simp [markW]) (qacp (.inl rfl) x)
theorem qakq (s:Nat):splitC 32 (mapH s)=[wMap,hex8 s]:=qw8 32 _ (by simp) (qab1 (.inl rfl) s)
theorem qp1 {n:Int} (h : -1000000≤n) (h1:n≤1000000):iWrap .i32 n=n:=by simp [iWrap,IntKind.wrap,IntKind.signed,IntKind.bits];omega
theorem qif {n:Int} (h : -1000000≤n) (h1:n≤1000000):qdi n=some ((Lib.itoa n,()),()):=by
 have w0:iWrap .i64 n=n:=wrap_i64 (by omega) (by omega)
 unfold qdi qbx
 have e:(iEq 10 10&&(iLe (-9223372036854775808) (iWrap .i64 n)&&iLe (iWrap .i64 n) 9223372036854775807))=true:=by
  rw [w0,qat (by omega),qat (by omega)];rfl
 rw [e,w0]
 rfl
theorem qj7 {n:Int} (h:0≤n) (h1:n≤1000000000000):qb2 n=some ((Lib.itoa n,()),()):=by
 obtain ⟨u,rfl⟩:=Int.eq_ofNat_of_zero_le h
 rw [(qbo (n:=u) (by omega)).1,qe9]
theorem qps {n:Int} (h : -1000000≤n) (h1:n≤1000000):qf5 (iWrap .i64 n)=some ((Lib.itoa n,()),()):=by
 rw [wrap_i64 (by omega) (by omega)]
 unfold qf5
 by_cases h0:n<0
 ·obtain ⟨u,rfl⟩ : ∃ u:Nat,n = -(u:Int):=⟨n.natAbs,by omega⟩
  have e:iSub .i64 0 (-(u:Int))=(u:Int):=(qd3 (by omega) (by omega)).trans (by omega)
  rw [qah h0,e,qj7 (by omega) (by omega),Lib.itoa_neg u (by omega),qe9]
  simp only [cond_true,Option.bind_some]
  have hl:=qng (k:=6) (u:=u) (by omega)
  rw [qcq (by simp;omega)]
  rfl
 ·rw [qaf h0,cond_false,qj7 (by omega) (by omega)]
  rfl
theorem qaq5 (a b c d e f g:List UInt8):Lib.join [a,b,c,d,e,f,g] [32]=a++[32]++b++[32]++c++[32]++d++[32]++e++[32]++f++[32]++g:=by
 simp [Lib.join,List.intercalate,List.intersperse]
theorem qaco (x:DMark):markL x=Lib.itoa (Vec.getD 3 x.1 0 (0:Int))++[32]++Lib.itoa (Vec.getD 3 x.1 1 (0:Int))++[32]++Lib.itoa (Vec.getD 3 x.1 2 (0:Int))++[32]++vecT x.2.1++[32]++hex8 x.2.2.1++[32]++Lib.itoa x.2.2.2.1++[32]++Lib.itoa x.2.2.2.2.1:=by
 unfold markL markW vecT
 simp [joinC]
 rfl
theorem qadz {a:Nat} {l:List DMark} {u:Unit} {i:Nat} (hi:i<l.length) (hl:l.length≤200) (hx:MarkOK l[i]) {out:List UInt8} (ho:out.length≤1000000) :
  qg7 ((a,l,u):DMap) ((i:Int),((),bytesOf out,()),())=some (.inl (((i+1:Nat):Int),((),bytesOf (out++(markL l[i]++[10])),()),())):=by
 have e1:iLt (i:Int) (lenI l)=true:=qah (by rw [qaa];omega)
 have e2:inB (i:Int) l.length=true:=qae hi
 have e5:iAdd .i64 (i:Int) 1=((i+1:Nat):Int):=qaq hi (by omega)
 have hgd:List.getD l (i:Int).toNat (((0,0,0,()),(0,0,0,()),0,0,0,()):DMark)=l[i]:=by rw [Int.toNat_natCast];exact qal hi
 unfold qg7
 simp only
 rw [e1,e2,hgd,e5]
 generalize l[i]=x at hx
 obtain ⟨g1,g2⟩:=hx.good
 obtain ⟨⟨n1,n2⟩,n3,n4⟩:=hx.nums
 have hlen:=markL_length hx
 rw [qif hx.c0.1 hx.c0.2,qif hx.c1.1 hx.c1.2,qif hx.c2.1 hx.c2.2,qab8 g1,qdg (qpg g2),qb1 (by omega) (by omega),qb1 (by omega) (by omega)]
 simp only [cond_true,Option.bind_some]
 have hj:strings_Join [Lib.itoa (Vec.getD 3 x.1 0 (0:Int)),Lib.itoa (Vec.getD 3 x.1 1 (0:Int)),Lib.itoa (Vec.getD 3 x.1 2 (0:Int)),vecT x.2.1,hexP 8 (bitsOf x.2.2.1),Lib.itoa x.2.2.2.1,Lib.itoa x.2.2.2.2.1] [32]=some ((markL x,()),()):=by
  have:Lib.join [Lib.itoa (Vec.getD 3 x.1 0 (0:Int)),Lib.itoa (Vec.getD 3 x.1 1 (0:Int)),Lib.itoa (Vec.getD 3 x.1 2 (0:Int)),vecT x.2.1,hexP 8 (bitsOf x.2.2.1),Lib.itoa x.2.2.2.1,Lib.itoa x.2.2.2.2.1] [32]=markL x:=by
   rw [qaq5,qaco];rfl
  unfold strings_Join
  rw [this,show Nat.ble (markL x).length 140737488355328=true from by rw [Nat.ble_eq];omega]
  rfl
 rw [hj]
 simp only [Option.bind_some]
 rw [qcq (by simp;omega)]
 simp only [cond_true]
 rw [show strCat (markL x) [10]=markL x++[10] from rfl,qx8 (by simp;omega)]
 rfl
theorem qaei {a:Nat} {l:List DMark} {u:Unit} {i:Nat} (hi:i<l.length) (hl:l.length≤200) (hx:MarkOK l[i]) {out:List UInt8} (ho:out.length≤1000000) :
  qhn ((a,l,u):DMap) (out,(i:Int),())=some (.inl (out++(markL l[i]++[10]),((i+1:Nat):Int),())):=by
 have e1:iLt (i:Int) (lenI l)=true:=qah (by rw [qaa];omega)
 have e2:inB (i:Int) l.length=true:=qae hi
 have e5:iAdd .i64 (i:Int) 1=((i+1:Nat):Int):=qaq hi (by omega)
 have hgd:List.getD l (i:Int).toNat (((0,0,0,()),(0,0,0,()),0,0,0,()):DMark)=l[i]:=by rw [Int.toNat_natCast];exact qal hi
 unfold qhn
 simp only
 rw [e1,e2,hgd,e5]
 generalize l[i]=x at hx
 obtain ⟨g1,g2⟩:=hx.good
 obtain ⟨⟨n1,n2⟩,n3,n4⟩:=hx.nums
 have l0:=qd7 hx.c0.1 hx.c0.2
 have l1:=qd7 hx.c1.1 hx.c1.2
 have l2:=qd7 hx.c2.1 hx.c2.2
 have l3:=qd7 (n:=x.2.2.2.1) (by omega) n2
 have l4:=qwv n3 n4
 have l5:=qai9 x.2.1
 have l6:=qc1 x.2.2.1
 rw [qps hx.c0.1 hx.c0.2,qps hx.c1.1 hx.c1.2,qps hx.c2.1 hx.c2.2,qac9 g1,qvg g2,qj7 (by omega) (by omega),qj7 (by omega) (by omega)]
 simp only [cond_true,Option.bind_some,strCat]
 iterate 14 (rw [qcq (by simp only [List.length_append,List.length_cons,List.length_nil];omega)];simp only [cond_true])
 rw [qaco]
 simp only [List.append_assoc]
end
section
theorem qafg (m:DMap):mapT m=mapH m.1++[10]++(m.2.1.map markL).flatMap (fun x=>x++[10]):=by
 unfold mapT linesT mapL
 rw [List.flatMap_cons]
theorem qt0 (s:Nat):mapH s=[109,97,112,32]++hex8 s:=by
 unfold mapH wMap
 simp [joinC]
theorem qace {side:Nat} (hg:fltFit .f32 side) {m:DMap} (h:MapOK side m):qnq m=some ((mapT m,()),()):=by
 obtain ⟨a,l,⟨⟩⟩:=m
 obtain ⟨hsd,hl,-,hk⟩:=h
 have hsd:a=side:=hsd
 subst hsd
 have hl:l.length≤200:=hl
 have hk : ∀ x∈l,MarkOK x:=hk
 have g:=qiu hg
 unfold qnq
 simp only
 rw [qdg (qpg g)]
 simp only [Option.bind_some]
 have l8:(hexP 8 (bitsOf a)).length=8:=qjv 8 _
 rw [qcq (by simp [l8]),qcq (by unfold strCat;simp [l8])]
 simp only [cond_true]
 have e0:strCat (strCat [109,97,112,32] (hexP 8 (bitsOf a))) [10]=mapH a++[10]:=by rw [qt0];rfl
 rw [e0,qaka (by rw [List.length_append,qfw];decide)]
 simp only [Option.bind_some]
 have hrun : ∀ (d i:Nat),i+d=l.length → ∀ out:List UInt8,out.length≤100+i*83→out≠[]→run (qg7 ((a,l,()):DMap)) ((i:Int),((),bytesOf out,()),())=some ((out++((l.drop i).map markL).flatMap (fun x=>x++[10]),()),()):=by
  intro d
  induction d with
  | zero =>
   intro i hi out ho hne
   have hi:i=l.length:=by omega
   subst hi
   rw [List.drop_length]
   refine qaj ?_
   unfold qg7
   simp only
   rw [qaf (by rw [qaa];omega)]
   simp only [cond_false]
   rw [show bldStr ((),bytesOf out,())=some out from qajc hne (by omega)]
   simp
  | succ d ih =>
   intro i hi out ho hne
   have hlt:i<l.length:=by omega
   have hx:=hk _ (List.getElem_mem hlt)
   have hlen:=markL_length hx
   rw [qak (qadz hlt hl hx (by omega)),ih (i+1) (by omega) _ (by simp;omega) (by simp),← List.getElem_cons_drop (h:=hlt),List.map_cons,List.flatMap_cons]
   simp only [List.append_assoc]
 have:=hrun l.length 0 (by omega) (mapH a++[10]) (by rw [List.length_append,qfw];simp) (by simp)
 rw [List.drop_zero] at this
 rw [qafg]
 exact this
theorem quq {side:Nat} (hg:fltFit .f32 side) {m:DMap} (h:MapOK side m):qiq m=some ((mapT m,()),()):=by
 obtain ⟨a,l,⟨⟩⟩:=m
 obtain ⟨hsd,hl,-,hk⟩:=h
 have hsd:a=side:=hsd
 subst hsd
 have hl:l.length≤200:=hl
 have hk : ∀ x∈l,MarkOK x:=hk
 have g:=qiu hg
 unfold qiq
 simp only
 rw [qvg g]
 simp only [Option.bind_some]
 have l8:=qc1 a
 rw [qcq (by simp [l8]),qcq (by unfold strCat;simp [l8])]
 simp only [cond_true]
 have e0:strCat (strCat [109,97,112,32] (hex8 a)) [10]=mapH a++[10]:=by rw [qt0];rfl
 rw [e0]
 have hrun : ∀ (d i:Nat),i+d=l.length → ∀ out:List UInt8,out.length≤100+i*83→run (qhn ((a,l,()):DMap)) (out,(i:Int),())=some ((out++((l.drop i).map markL).flatMap (fun x=>x++[10]),()),()):=by
  intro d
  induction d with
  | zero =>
   intro i hi out ho
   have hi:i=l.length:=by omega
   subst hi
   rw [List.drop_length]
   refine qaj ?_
   unfold qhn
   simp only
   rw [qaf (by rw [qaa];omega)]
   simp
  | succ d ih =>
   intro i hi out ho
   have hlt:i<l.length:=by omega
   have hx:=hk _ (List.getElem_mem hlt)
   have hlen:=markL_length hx
   rw [qak (qaei hlt hl hx (by omega)),ih (i+1) (by omega) _ (by simp;omega),← List.getElem_cons_drop (h:=hlt),List.map_cons,List.flatMap_cons]
   simp only [List.append_assoc]
 have:=hrun l.length 0 (by omega) (mapH a++[10]) (by rw [List.length_append,qfw];simp)
 rw [List.drop_zero] at this
 rw [qafg]
 exact this
theorem qac5 {side:Nat} (hs:sideB side=true) (hg:fltFit .f32 side) {m:DMap} (h:MapOK side m):qks m=some ((mapT m,()),()):=by
 have k:=qjs m h.sized
 rw [h.valid hs] at k
 unfold qks
 rw [k,quq hg h]
 rfl
theorem qy1 {n:Nat} (h:n≤999999999):qbg (Lib.decDigits n)=some (((n:Int),true,()),()):=by
 obtain ⟨k,h1,h2⟩:=qjo (Lib.decDigits n)
 have hv:=(qbf n).2.1
 have ho:numOK 999999999 (Lib.decDigits n)=true:=qhf.2 ⟨n,h,rfl⟩
 rw [ho] at h1
 rw [h1,h2 ho,hv]
theorem qae0 {n:Nat} (h:n≤1000000000):qeq (Lib.decDigits n)=some (((n:Int),true,()),()):=by
 by_cases h9:n≤999999999
 ·have hl:(Lib.decDigits n).length≤9:=qng (k:=8) (by omega)
  unfold qeq
  rw [qau (by rw [qaa];omega),qy1 h9]
  rfl
 ·have:n=1000000000:=by omega
  subst this
  have v1:valD 0 [49,48,48,48,48,48,48,48,48,48]=1000000000:=by decide
  have v2:valD 0 [49,48,48,48,48,48,48,48,48]=100000000:=by decide
  have e1:Lib.decDigits 1000000000=[49,48,48,48,48,48,48,48,48,48]:=by rw [← v1];exact qti 9 _ rfl (by decide) (.inr ⟨_,_,rfl,by decide⟩)
  have e2:[49,48,48,48,48,48,48,48,48]=Lib.decDigits 100000000:=by rw [← v2];exact (qti 8 _ rfl (by decide) (.inr ⟨_,_,rfl,by decide⟩)).symm
  have e3:takeL ([49,48,48,48,48,48,48,48,48,48]:List UInt8) 9=[49,48,48,48,48,48,48,48,48]:=rfl
  have n1:=qy1 (n:=100000000) (by omega)
  rw [← e2] at n1
  unfold qeq
  rw [e1,e3,n1]
  simp only [Option.bind_some,qcg]
  rfl
theorem qxc {n:Int} (h : -1000000≤n) (h1:n≤1000000000):qcb (Lib.itoa n)=some ((n,true,()),()):=by
 unfold qcb
 by_cases h0:n<0
 ·obtain ⟨u,rfl⟩ : ∃ u:Nat,n = -(u:Int):=⟨n.natAbs,by omega⟩
  rw [Lib.itoa_neg u (by omega)]
  have hp:=ql2 u
  have e1:iLt 1 (lenI ((45:UInt8) :: Lib.decDigits u))=true:=qah (by rw [qaa,List.length_cons];omega)
  have e2:inB 0 ((45:UInt8) :: Lib.decDigits u).length=true:=qae (i:=0) (by simp)
  have e3:iEq (strAt ((45:UInt8) :: Lib.decDigits u) 0) 45=true:=by rfl
  have e4:inS 1 (lenI ((45:UInt8) :: Lib.decDigits u)) ((45:UInt8) :: Lib.decDigits u).length=true:=by unfold inS;rw [qaa];simp;omega
  have e5:dropL ((45:UInt8) :: Lib.decDigits u) 1=Lib.decDigits u:=rfl
  have e6:iSub .i64 0 (u:Int) = -(u:Int):=(qd3 (by omega) (by omega)).trans (by omega)
  rw [e1,e2,e3,e4,e5,qae0 (by omega)]
  simp only [cond_true,Option.bind_some]
  rw [e6,qah (by omega)]
 ·obtain ⟨u,rfl⟩:=Int.eq_ofNat_of_zero_le (by omega:0≤n)
  rw [qe9,qae0 (by omega)]
  by_cases hl:1<(Lib.decDigits u).length
  ·have e1:iLt 1 (lenI (Lib.decDigits u))=true:=qah (by rw [qaa];omega)
   have e2:inB 0 (Lib.decDigits u).length=true:=qae (i:=0) (by omega)
   have e3:iEq (strAt (Lib.decDigits u) 0) 45=false:=by
    obtain ⟨hd,-⟩:=qbf u
    cases hq:Lib.decDigits u with
    | nil=>rw [hq] at hl;simp at hl
    | cons c r =>
     rw [hq] at hd
     simp only [List.all_cons,Bool.and_eq_true,digB,decide_eq_true_eq] at hd
     apply qau
     show (c.toNat:Int)≠45
     omega
   rw [e1,e2,e3]
   rfl
  ·rw [qaf (by rw [qaa];omega)]
   rfl
theorem qsu {a:Nat} (h:goodN a):qbd (hex8 a)=some ((a,true,()),()):=by
 obtain ⟨y,h1,h2⟩:=qadb (hex8 a)
 rw [h1,h2 a h,show numR (hex8 a)=some a from h]
 rfl
theorem qadi {x:DMark} (h:MarkOK x):qoi (markL x)=some ((x,true,()),()):=by
 have hlen:=markL_length h
 obtain ⟨g1,g2⟩:=h.good
 obtain ⟨⟨n1,n2⟩,n3,n4⟩:=h.nums
 have hs:=qep 32 (s:=markL x) (by omega)
 rw [qaaj] at hs
 have w0:=qxc (n:=Vec.getD 3 x.1 0 (0:Int)) h.c0.1 (by have:=h.c0.2;omega)
 have w1:=qxc (n:=Vec.getD 3 x.1 1 (0:Int)) h.c1.1 (by have:=h.c1.2;omega)
 have w2:=qxc (n:=Vec.getD 3 x.1 2 (0:Int)) h.c2.1 (by have:=h.c2.2;omega)
 have w3:=qxc (n:=x.2.2.2.2.1) (by omega) n4
 have r0:qbd (hex8 (Vec.getD 3 x.2.1 0 (0:Nat)))=_:=qsu g1.1
 have r1:qbd (hex8 (Vec.getD 3 x.2.1 1 (0:Nat)))=_:=qsu g1.2.1
 have r2:qbd (hex8 (Vec.getD 3 x.2.1 2 (0:Nat)))=_:=qsu g1.2.2
 have r3:=qsu g2
 have q:=qy1 (n:=x.2.2.2.1.toNat) (by omega)
 rw [← qsp (by omega:0≤x.2.2.2.1),Int.toNat_of_nonneg (by omega)] at q
 have i0 : ∀ c:Int,-1000000≤c→c≤1000000→(iLe (-2147483648) c&&iLe c 2147483647)=true:=fun c a b=>by rw [qat (by omega),qat (by omega)];rfl
 unfold qoi
 rw [show qbz (markL x) (32:Int)=_ from hs]
 simp only [Option.bind_some]
 have hl:iEq (lenI (markW x)) 9=true:=rfl
 have b : ∀ k:Nat,k<9→inB (k:Int) (markW x).length=true:=fun k hk=>qae (show k<9 from hk)
 rw [hl,show inB 0 (markW x).length=true from b 0 (by omega),show inB 1 (markW x).length=true from b 1 (by omega),show inB 2 (markW x).length=true from b 2 (by omega),show inB 3 (markW x).length=true from b 3 (by omega),show inB 4 (markW x).length=true from b 4 (by omega),show inB 5 (markW x).length=true from b 5 (by omega),show inB 6 (markW x).length=true from b 6 (by omega),show inB 7 (markW x).length=true from b 7 (by omega),show inB 8 (markW x).length=true from b 8 (by omega)]
 simp only [Bool.not_true,cond_false,cond_true]
 rw [show List.getD (markW x) 0 ([]:List UInt8)=_ from rfl,show List.getD (markW x) 1 ([]:List UInt8)=_ from rfl,show List.getD (markW x) 2 ([]:List UInt8)=_ from rfl]
 rw [show qcb (List.getD (markW x) 0 ([]:List UInt8))=_ from w0,show qcb (List.getD (markW x) 1 ([]:List UInt8))=_ from w1,show qcb (List.getD (markW x) 2 ([]:List UInt8))=_ from w2,show qcb (List.getD (markW x) 8 ([]:List UInt8))=_ from w3,
  show qbd (List.getD (markW x) 3 ([]:List UInt8))=_ from r0,show qbd (List.getD (markW x) 4 ([]:List UInt8))=_ from r1,show qbd (List.getD (markW x) 5 ([]:List UInt8))=_ from r2,show qbd (List.getD (markW x) 6 ([]:List UInt8))=_ from r3,show qbg (List.getD (markW x) 7 ([]:List UInt8))=_ from q]
 simp only [Option.bind_some,qcg,i0 _ h.c0.1 h.c0.2,i0 _ h.c1.1 h.c1.2,i0 _ h.c2.1 h.c2.2,Bool.not_true,cond_false,cond_true,qp1 h.c0.1 h.c0.2,qp1 h.c1.1 h.c1.2,qp1 h.c2.1 h.c2.2]
 rfl
end
end Go.Proofs.YtjhdoneobdbeaaaGreatDoor
