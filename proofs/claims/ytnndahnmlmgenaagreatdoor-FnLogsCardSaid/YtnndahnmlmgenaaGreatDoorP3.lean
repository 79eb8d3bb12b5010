import Derived.Test.YtnndahnmlmgenaaGreatDoorP2
/- Functions of the program and of the reference in plain terms. -/
set_option linter.unusedSectionVars false
set_option linter.unusedSimpArgs false
set_option linter.unusedVariables false
namespace Go.Proofs.YtnndahnmlmgenaaGreatDoor
open Go Go.Tm
section
theorem qwn {σ A:Type} {f:σ→Option (σ⊕A)} {s s':σ} {a:A} {b c:Bool} {X:Option A} (h:f s=bif !b then some (.inr a) else some (.inl s')) (hr:run f s'=bif c then X else some a):run f s=bif (b&&c) then X else some a:=by
 cases b with
 | false=>exact qay h
 | true=>exact (qar h).trans hr
def finR (T:DTab) (r:Nat):Bool:=[tg T r 0,tg T r 1,tg T r 2,tg T r 3,tg T r 4,tg T r 5,tg T r 6,tg T r 7,tg T r 8].all finB
def finT (T:DTab):Bool:=finR T 0&&(finR T 1&&(finR T 2&&(finR T 3&&(finR T 4&&(finR T 5&&true)))))
theorem qtk (T:DTab) {r:Nat} (hr:r<6):qn9 T ((r:Int),())=bif !finR T r then some (.inr ((z6,(1:Int),()),())) else some (.inl (((r+1:Nat):Int),())):=by
 have e1:iLt (r:Int) 6=true:=qaf (by omega)
 have e2:inB (r:Int) 6=true:=qad hr
 have e5:iAdd .i64 (r:Int) 1=((r+1:Nat):Int):=qat (n:=6) hr (by omega)
 simp only [qn9,e1,e2,e5,cond_true,Int.toNat_natCast]
 rw [qcf _ (by simp)]
 rfl
theorem qavb (T:DTab):qtw T=bif finT T then run qd7 ((0:Int),T,()) else some ((z6,(1:Int),()),()) :=
 qwn (qtk T (r:=0) (by omega)) (qwn (qtk T (r:=1) (by omega)) (qwn (qtk T (r:=2) (by omega)) (qwn (qtk T (r:=3) (by omega)) (qwn (qtk T (r:=4) (by omega)) (qwn (qtk T (r:=5) (by omega)) (c:=true) (qaf1 (by kernel_rfl)))))))
theorem qasg {T:DTab} (h : ∀ r k,r<6→k<9→finB (tg T r k)=true):finT T=true:=by
 have hr : ∀ r,r<6→finR T r=true:=fun r hr=>by
  simp only [finR,List.all_cons,List.all_nil,h r _ hr (show 0<9 by omega),h r _ hr (show 1<9 by omega),h r _ hr (show 2<9 by omega),h r _ hr (show 3<9 by omega),h r _ hr (show 4<9 by omega),h r _ hr (show 5<9 by omega),h r _ hr (show 6<9 by omega),h r _ hr (show 7<9 by omega),h r _ hr (show 8<9 by omega),Bool.and_self]
 simp only [finT,hr 0 (by omega),hr 1 (by omega),hr 2 (by omega),hr 3 (by omega),hr 4 (by omega),hr 5 (by omega),Bool.and_self]
theorem qamx {T:DTab} (h:finT T=false):Seen 0 T fun _ _=>True:=by
 apply Classical.byContradiction
 intro hn
 have:finT T=true:=qasg fun r k hr hk=>by
  cases hf:finB (tg T r k) with
  | true=>rfl
  | false=>exact absurd ⟨r,k,hr,hk,hf,.inr ⟨Nat.zero_le _,Nat.zero_le _⟩,trivial⟩ hn
 rw [h] at this
 cases this
theorem qak9 (T:DTab) (k i:Nat):finB (osg T k i)=finB (tg T k i):=by
 unfold osg
 cases fLt .f32 (tg T i i) 0
 ·rfl
 ·exact qasi _
theorem qafw {T:DTab} (h:outB T=true) {i k:Nat} (hi:i≤k) (hk:k<6):finB (osg T k i)=true:=by
 have h1:=List.all_eq_true.1 h i (List.mem_range.2 (by omega))
 have h2:=List.all_eq_true.1 h1 k (List.mem_range.2 hk)
 rw [decide_eq_false (by omega),Bool.false_or] at h2
 exact h2
theorem qaro {T:DTab} (h:Seen 6 T fun _ _=>True):outB T=false:=by
 obtain ⟨r,k,h1,h2,h3,h4,_⟩:=h
 cases ho:outB T with
 | false=>rfl
 | true =>
  have:=qafw ho (i:=k) (k:=r) (by omega) h1
  rw [qak9,h3] at this
  cases this
def rootB (R:DRoot):Bool:=(rowL (rowS R 0)).all finB&&((rowL (rowS R 1)).all finB&&((rowL (rowS R 2)).all finB&&((rowL (rowS R 3)).all finB&&((rowL (rowS R 4)).all finB&&((rowL (rowS R 5)).all finB&&true)))))
theorem qaej (R:DRoot):qf2 R=some ((rootB R,()),()):=by
 simp only [qf2,qrr,Option.bind_some,qaa7]
 rfl
theorem qao9 (T:DTab):rootB (outT T)=outB T:=by
 have e1:rootB (outT T)=([osg T 0 0,0,0,0,0,0].all finB&&([osg T 1 0,osg T 1 1,0,0,0,0].all finB&&([osg T 2 0,osg T 2 1,osg T 2 2,0,0,0].all finB&&([osg T 3 0,osg T 3 1,osg T 3 2,osg T 3 3,0,0].all finB&&([osg T 4 0,osg T 4 1,osg T 4 2,osg T 4 3,osg T 4 4,0].all finB&&([osg T 5 0,osg T 5 1,osg T 5 2,osg T 5 3,osg T 5 4,osg T 5 5].all finB&&true)))))):=rfl
 have e2:outB T=([osg T 0 0,osg T 1 0,osg T 2 0,osg T 3 0,osg T 4 0,osg T 5 0].all finB&&([osg T 1 1,osg T 2 1,osg T 3 1,osg T 4 1,osg T 5 1].all finB&&([osg T 2 2,osg T 3 2,osg T 4 2,osg T 5 2].all finB&&([osg T 3 3,osg T 4 3,osg T 5 3].all finB&&([osg T 4 4,osg T 5 4].all finB&&([osg T 5 5].all finB&&true)))))):=rfl
 rw [e1,e2]
 simp only [List.all_cons,List.all_nil,qtq,Bool.and_true]
 ac_rfl
theorem qaoy {T:DTab} (h:outB T=true):(restC (outT T)).all id=true:=by
 have hd : ∀ i,i<6→fLt .f32 (osg T i i) 0=false:=fun i hi=>by
  have hf:=qafw h (Nat.le_refl i) hi
  rw [qak9] at hf
  unfold osg
  cases hl:fLt .f32 (tg T i i) 0 with
  | false=>exact hl
  | true=>exact qamm hf hl
 have z:fEq .f32 0 0=true:=by decide
 have e:(restC (outT T)).all id=(([osg T 0 0,0,0,0,0,0].all finB&&(!fLt .f32 (osg T 0 0) 0&&(fEq .f32 0 0&&(fEq .f32 0 0&&(fEq .f32 0 0&&(fEq .f32 0 0&&(fEq .f32 0 0&&(
  [osg T 1 0,osg T 1 1,0,0,0,0].all finB&&(!fLt .f32 (osg T 1 1) 0&&(fEq .f32 0 0&&(fEq .f32 0 0&&(fEq .f32 0 0&&(fEq .f32 0 0&&(
  [osg T 2 0,osg T 2 1,osg T 2 2,0,0,0].all finB&&(!fLt .f32 (osg T 2 2) 0&&(fEq .f32 0 0&&(fEq .f32 0 0&&(fEq .f32 0 0&&(
  [osg T 3 0,osg T 3 1,osg T 3 2,osg T 3 3,0,0].all finB&&(!fLt .f32 (osg T 3 3) 0&&(fEq .f32 0 0&&(fEq .f32 0 0&&(
  [osg T 4 0,osg T 4 1,osg T 4 2,osg T 4 3,osg T 4 4,0].all finB&&(!fLt .f32 (osg T 4 4) 0&&(fEq .f32 0 0&&(
  [osg T 5 0,osg T 5 1,osg T 5 2,osg T 5 3,osg T 5 4,osg T 5 5].all finB&&(!fLt .f32 (osg T 5 5) 0&&true)))))))))))))))))))))))))))):=rfl
 rw [e]
 have f:=fun (k i:Nat) (hi:i≤k) (hk:k<6)=>qafw h hi hk
 simp only [List.all_cons,List.all_nil,qtq,z,hd 0 (by omega),hd 1 (by omega),hd 2 (by omega),hd 3 (by omega),hd 4 (by omega),hd 5 (by omega),f 0 0 (by omega) (by omega),f 1 0 (by omega) (by omega),f 1 1 (by omega) (by omega),f 2 0 (by omega) (by omega),f 2 1 (by omega) (by omega),f 2 2 (by omega) (by omega),f 3 0 (by omega) (by omega),f 3 1 (by omega) (by omega),f 3 2 (by omega) (by omega),f 3 3 (by omega) (by omega),f 4 0 (by omega) (by omega),f 4 1 (by omega) (by omega),f 4 2 (by omega) (by omega),f 4 3 (by omega) (by omega),f 4 4 (by omega) (by omega),f 5 0 (by omega) (by omega),f 5 1 (by omega) (by omega),f 5 2 (by omega) (by omega),f 5 3 (by omega) (by omega),f 5 4 (by omega) (by omega),f 5 5 (by omega) (by omega),Bool.and_true,Bool.and_self,Bool.not_false]
abbrev DCode:=(DRoot×Int×Unit)×Unit
theorem qaoi (T:DTab) : ∃ a:DCode,run qd7 ((0:Int),T,())=some a∧qep T=some a∧(a=((z6,(4:Int),()),())∨(finT T=true ∧ ∃ U,outB U=true∧a=((outT U,(0:Int),()),()))):=by
 obtain ⟨a,b,h1,h2,rfl,h4⟩:=qxd (f:=qd7) (g:=qg2) (fun s t=>s=t ∧ ∃ (i:Nat) (U:DTab),s=((i:Int),U,())∧i≤6∧(finT T=false→Seen i U fun _ _=>True)) (fun s=>(6-s.1).toNat)
  (fun a b:DCode=>a=b∧(a=((z6,(4:Int),()),())∨(finT T=true ∧ ∃ U,outB U=true∧a=((outT U,(0:Int),()),())))) (fun s t hR=>by
   obtain ⟨rfl,i,U,rfl,hi,hs⟩:=hR
   by_cases h6:i<6
   ·have e1:iLt (i:Int) 6=true:=qaf (by omega)
    have e5:iAdd .i64 (i:Int) 1=((i+1:Nat):Int):=qat (n:=6) h6 (by omega)
    have f1:qd7 ((i:Int),U,())=run (qdr ((i:Int),U,())) (((i+1:Nat):Int),U,()):=by simp only [qd7,e1,e5,cond_true]
    have f2:qg2 ((i:Int),U,())=run (qdr ((i:Int),U,())) (((i+1:Nat):Int),U,()):=by
     simp only [qg2,e1,e5,cond_true]
     rfl
    obtain ⟨o,ho,hh⟩:=qaur h6 (finT T=false) hs
    rw [f1,f2,ho]
    rcases hh with ⟨U',rfl,hU⟩ | rfl
    ·exact .inl ⟨_,_,rfl,rfl,⟨rfl,i+1,U',rfl,by omega,hU⟩,by show (6-((i+1:Nat):Int)).toNat<(6-(i:Int)).toNat;omega⟩
    ·exact .inr ⟨_,_,rfl,rfl,rfl,.inl rfl⟩
   ·have:i=6:=by omega
    subst this
    have f1:qd7 ((6:Int),U,())=Option.map Sum.inr (run (qgo ((6:Int),U,())) ((0:Int),z6,())):=by kernel_rfl
    have f2:qg2 ((6:Int),U,())=Option.map Sum.inr (run (qc8 ((6:Int),U,())) ((0:Int),z6,())):=by kernel_rfl
    have g1:run (qgo ((6:Int),U,())) ((0:Int),z6,())=bif outB U then some ((outT U,(0:Int),()),()) else some ((z6,(4:Int),()),()):=by
     refine (qaud _).trans ((qaue U).trans ?_)
     rw [qaej,qao9]
     cases outB U <;> rfl
    have g2:=qaus U
    refine .inr ?_
    cases ho:outB U with
    | false =>
     rw [ho] at g1 g2
     exact ⟨_,_,f1.trans (congrArg (Option.map Sum.inr) g1),f2.trans (congrArg (Option.map Sum.inr) g2),rfl,.inl rfl⟩
    | true =>
     rw [ho] at g1 g2
     refine ⟨_,_,f1.trans (congrArg (Option.map Sum.inr) g1),f2.trans (congrArg (Option.map Sum.inr) g2),rfl,.inr ⟨?_,U,ho,rfl⟩⟩
     cases hf:finT T with
     | true=>rfl
     | false =>
      have:=qaro (hs hf)
      rw [ho] at this
      cases this) ⟨rfl,0,T,rfl,by omega,qamx⟩
 exact ⟨a,h1,h2,h4⟩
theorem qxr (r:Vec 6 Nat):qdm r=some (((rowL r).all finB,()),()):=by
 simp only [qdm,qbg,Option.bind_some,qaa7]
 rfl
theorem qc0 (s:DState):qhx s=some ((stateB s,()),()):=by
 simp only [qhx,qxr,Option.bind_some,qaa7,qak4,Bool.not_not]
 rfl
abbrev zS:DState:=((0,0,0,0,0,0,()),((0,0,0,0,0,0,()),(0,0,0,0,0,0,()),(0,0,0,0,0,0,()),(0,0,0,0,0,0,()),(0,0,0,0,0,0,()),(0,0,0,0,0,0,()),()),())
abbrev DMade:=(DState×Int×Unit)×Unit
theorem qaax (x:Vec 6 Nat) (T:DTab) : ∃ (w:DState) (k:Int),qd5 x T=some ((w,k,()),())∧((qep T).bind fun y=>(qeg ((x,y.1.1,()):DState) y.1.2.1).bind fun y=>some ((y.1.1,y.1.2.1,()),()))=some ((w,k,()),())∧((k=0∧stateB w=true)∨(k=4∧w=zS))∧(finT T=false→k=4):=by
 obtain ⟨a,h1,h2,h3⟩:=qaoi T
 have hL:=qavb T
 rcases h3 with rfl | ⟨hf,U,hU,rfl⟩
 ·refine ⟨zS,4,?_,?_,.inr ⟨rfl,rfl⟩,fun _=>rfl⟩
  ·cases hf:finT T with
   | true =>
    rw [hf,cond_true,h1] at hL
    simp only [qd5,hL,Option.bind_some]
    rfl
   | false =>
    rw [hf,cond_false] at hL
    simp only [qd5,hL,Option.bind_some]
    rfl
  ·rw [h2]
   rfl
 ·rw [hf,cond_true,h1] at hL
  have hv:stateB ((x,outT U,()):DState)=(rowL x).all finB:=by
   show ((rowL x).all finB&&(restC (outT U)).all id)=_
   rw [qaoy hU,Bool.and_true]
  cases hx:(rowL x).all finB with
  | true =>
   rw [hx] at hv
   refine ⟨(x,outT U,()),0,?_,?_,.inl ⟨rfl,hv⟩,fun q => ?_⟩
   ·simp only [qd5,hL,Option.bind_some,qrr]
    show (bif !(rowL x).all finB then _ else _)=_
    rw [hx]
    rfl
   ·rw [h2]
    simp only [Option.bind_some,qeg,qc0,hv]
    rfl
   ·rw [hf] at q;cases q
  | false =>
   rw [hx] at hv
   refine ⟨zS,4,?_,?_,.inr ⟨rfl,rfl⟩,fun _=>rfl⟩
   ·simp only [qd5,hL,Option.bind_some,qrr]
    show (bif !(rowL x).all finB then _ else _)=_
    rw [hx]
    rfl
   ·rw [h2]
    simp only [Option.bind_some,qeg,qc0,hv]
    rfl
end
section
def magB (x:Nat) (t:Int):Prop:=∃ s m p,FloatKind.f32.decode x = .number s m p∧(m≠0→topOf m p≤t)
theorem qas6 {x:Nat} {t:Int} (h:magB x t):finB x=true:=by
 obtain ⟨s,m,p,hd,_⟩:=h
 exact qex.2 ⟨s,m,p,hd⟩
theorem qaaf (s:Bool) {m:Nat} {p t:Int} (h:m≠0→topOf m p≤t) (h1:t≤126) (h2 : -126≤t):magB (canon .f32 (FloatKind.f32.encode (.number s m p))) (t+1):=by
 obtain ⟨s',m',p',e1,_,_,e4⟩:=qaom s (m:=m) (p:=p) (fun q=>Int.le_trans (h q) h1)
 have hn:isNan .f32 (FloatKind.f32.encode (.number s m p))=false:=qix rfl
 rw [qan hn]
 refine ⟨s',m',p',e1,fun q => ?_⟩
 obtain ⟨a,b⟩:=e4 q
 have:=h a
 omega
theorem qaqv {m n:Nat} (hm:m≠0) (hn:n≠0):(m*n).log2≤m.log2+n.log2+1:=by
 have h1:m<2^(m.log2+1):=Nat.lt_log2_self
 have h2:n<2^(n.log2+1):=Nat.lt_log2_self
 have h3:m*n<2^(m.log2+n.log2+2):=by
  have:2^(m.log2+n.log2+2)=2^(m.log2+1)*2^(n.log2+1):=by rw [← Nat.pow_add];congr 1;omega
  rw [this]
  exact Nat.mul_lt_mul'' h1 h2
 have:=(Nat.log2_lt (Nat.mul_ne_zero hm hn)).2 h3
 omega
theorem qas7 {a b:Nat} {t u:Int} (ha:magB a t) (hb:magB b u) (h1:t+u+1≤126) (h2 : -126≤t+u+1):magB (fMul .f32 a b) (t+u+2):=by
 obtain ⟨s,m,p,hd,hm⟩:=ha
 obtain ⟨s',m',p',hd',hm'⟩:=hb
 have e:fMul .f32 a b=canon .f32 (FloatKind.f32.encode (.number (s ^^ s') (m*m') (p+p'))):=by
  unfold fMul Ieee.Format.mul
  rw [show FloatKind.f32.format.read a = .number s m p from hd,show FloatKind.f32.format.read b = .number s' m' p' from hd']
  rfl
 rw [e,show t+u+2=(t+u+1)+1 by omega]
 refine qaaf _ (fun q => ?_) h1 h2
 have q1:m≠0:=fun z=>q (by rw [z];simp)
 have q2:m'≠0:=fun z=>q (by rw [z];simp)
 have:=qaqv q1 q2
 have a1:=hm q1
 have a2:=hm' q2
 unfold topOf at *
 omega
theorem qaoj {n:Int} (h : -32768≤n) (h1:n≤32767):magB (fOfInt .f32 n) 17:=by
 have e:fOfInt .f32 n=canon .f32 (FloatKind.f32.encode (.number (n<0) n.natAbs 0)):=rfl
 rw [e]
 refine qaaf _ (t:=16) (fun q => ?_) (by omega) (by omega)
 have : n.natAbs < 2 ^ 17 := by have : (2 : Nat) ^ 17 = 131072 := by decide
                                omega
 have:=(Nat.log2_lt q).2 this
 unfold topOf
 omega
theorem qaqy (t:Int):magB 0 t:=⟨false,0,-149,by decide,fun q=>absurd rfl q⟩
theorem qae1 (s:Bool) (m k:Nat):(Ieee.signed s m k).natAbs=m*2^k:=by
 unfold Ieee.signed
 rw [Nat.shiftLeft_eq]
 cases s <;> simp [Int.natAbs_mul,Int.natAbs_pow]
theorem qall {m:Nat} {i base t:Int} (hb:base≤i) (h:m≠0→topOf m i≤t):m*2^(i-base).toNat<2^(t+1-base).toNat:=by
 by_cases hm:m=0
 ·rw [hm,Nat.zero_mul];exact Nat.two_pow_pos _
 ·have ht:=h hm
  unfold topOf at ht
  have h1:m<2^(m.log2+1):=Nat.lt_log2_self
  have h2:m*2^(i-base).toNat<2^(m.log2+1)*2^(i-base).toNat:=Nat.mul_lt_mul_of_pos_right h1 (Nat.two_pow_pos _)
  rw [← Nat.pow_add] at h2
  exact Nat.lt_of_lt_of_le h2 (Nat.pow_le_pow_right (by decide) (by omega))
theorem qas5 {a b:Nat} {t:Int} (ha:magB a t) (hb:magB b t) (h1:t+1≤126) (h2 : -126≤t+1):magB (fAdd .f32 a b) (t+2):=by
 obtain ⟨s,m,i,hd,hm⟩:=ha
 obtain ⟨s',n,j,hd',hn⟩:=hb
 have e : ∃ g,fAdd .f32 a b=canon .f32 (FloatKind.f32.encode (.number g (Ieee.signed s m (i-min i j).toNat+Ieee.signed s' n (j-min i j).toNat).natAbs (min i j))):=by
  unfold fAdd Ieee.Format.add
  rw [show FloatKind.f32.format.read a = .number s m i from hd,show FloatKind.f32.format.read b = .number s' n j from hd']
  exact ⟨_,rfl⟩
 obtain ⟨g,e⟩:=e
 rw [e,show t+2=(t+1)+1 by omega]
 refine qaaf _ (fun q => ?_) h1 h2
 have p1:=qall (m:=m) (i:=i) (base:=min i j) (t:=t) (by omega) hm
 have p2:=qall (m:=n) (i:=j) (base:=min i j) (t:=t) (by omega) hn
 have q1:=qae1 s m (i-min i j).toNat
 have q2:=qae1 s' n (j-min i j).toNat
 generalize hx:Ieee.signed s m (i-min i j).toNat=x at *
 generalize hy:Ieee.signed s' n (j-min i j).toNat=y at *
 have hs:(x+y).natAbs<2^((t+1-min i j).toNat+1):=by
  have:=Int.natAbs_add_le x y
  rw [Nat.pow_succ]
  omega
 have hl:=(Nat.log2_lt q).2 hs
 have hbase:min i j≤t:=by
  by_cases z:m=0
  ·by_cases z':n=0
   ·subst z z'
    rw [Nat.zero_mul] at q1 q2
    omega
   ·have:=hn z'
    unfold topOf at this
    omega
  ·have:=hm z
   unfold topOf at this
   omega
 unfold topOf
 omega
end
section
abbrev DClue:=Vec 6 Nat×(Nat×(Nat×Unit))
abbrev zC:DClue:=((0,0,0,0,0,0,()),0,0,())
def clueB (c:DClue):Bool:=(rowL c.1).all finB&&(finB c.2.1&&(finB c.2.2.1&&fLt .f32 0 c.2.2.1))
theorem qfz (c:DClue):qdw c=some ((clueB c,()),()):=by
 simp only [qdw,qrr,Option.bind_some]
 have h2:qaj [c.2.1,c.2.2.1]=some (((finB c.2.1&&finB c.2.2.1),()),()):=by rw [qcf _ (by simp)];simp
 rw [h2]
 show (bif (rowL c.1).all finB then _ else _)=_
 unfold clueB
 cases (rowL c.1).all finB <;> cases finB c.2.1 <;> cases finB c.2.2.1 <;> rfl
theorem qhw (c:DClue):qip c=some ((clueB c,()),()):=by
 simp only [qip,qxr,qbg,Option.bind_some]
 unfold clueB
 cases (rowL c.1).all finB <;> cases finB c.2.1 <;> cases finB c.2.2.1 <;> rfl
theorem qwz (c:DClue):qmd c=some ((bif clueB c then c else zC,bif clueB c then 0 else 1,()),()):=by
 simp only [qmd,qfz,Option.bind_some]
 cases clueB c <;> rfl
theorem qnj (c:DClue):qjz c=some ((bif clueB c then c else zC,bif clueB c then 0 else 1,()),()):=by
 simp only [qjz,qhw,Option.bind_some]
 cases clueB c <;> rfl
def cl (i x d:Nat):DClue:=(Vec.set 6 r6 i (1065353216:Nat),x,d,())
theorem qafl {i:Nat} (hi:i<6) (x d:Nat):qqy (i:Int) x d=some ((bif clueB (cl i x d) then cl i x d else zC,bif clueB (cl i x d) then 0 else 1,()),()):=by
 have e1:iLt (i:Int) 0=false:=qag (by omega)
 have e2:iLt 5 (i:Int)=false:=qag (by omega)
 have e3:inB (i:Int) 6=true:=qad hi
 have e4:=qwz (cl i x d)
 simp only [qqy,e1,e2,e3,Int.toNat_natCast,cond_true,cond_false]
 exact (congrArg (fun z=>Option.bind z _) e4).trans rfl
theorem qbw {i:Nat} (hi:i<6) (x d:Nat):qa5 (i:Int) x d=some ((bif clueB (cl i x d) then cl i x d else zC,bif clueB (cl i x d) then 0 else 1,()),()):=by
 have e1:iLe 0 (i:Int)=true:=qa3 (by omega)
 have e2:iLe (i:Int) 5=true:=qa3 (by omega)
 have e3:inB (i:Int) 6=true:=qad hi
 have e4:=qnj (cl i x d)
 simp only [qa5,qgv,e1,e2,e3,Option.bind_some,Bool.and_self,Bool.not_true,Int.toNat_natCast,cond_true,cond_false]
 exact (congrArg (fun z=>Option.bind z _) e4).trans rfl
theorem qfk {i:Nat} (hi:i<6) (x d:Nat):qa7 (i:Int) x d=some ((bif clueB (cl i x d) then cl i x d else zC,()),()):=by
 simp only [qa7,qafl hi,Option.bind_some]
theorem qacl (a b:Vec 3 Nat):qj5 a b=qdl a b:=by kernel_rfl
def dot3 (a b:Vec 3 Nat):Nat:=fAdd .f32 (fAdd .f32 (fMul .f32 (Vec.getD 3 a 0 (0:Nat)) (Vec.getD 3 b 0 (0:Nat))) (fMul .f32 (Vec.getD 3 a 1 (0:Nat)) (Vec.getD 3 b 1 (0:Nat)))) (fMul .f32 (Vec.getD 3 a 2 (0:Nat)) (Vec.getD 3 b 2 (0:Nat)))
theorem qafn (a b:Vec 3 Nat):qj4 a b=some ((dot3 a b,()),()):=by
 simp only [qj4,qaj3,Option.bind_some]
 rfl
theorem qxn (a b:Vec 3 Nat):qmp a b=some ((dot3 a b,()),()):=rfl
theorem qtv (a:Vec 3 Nat):qdo a=some ((rootF (dot3 a a),()),()):=by simp only [qdo,qafn,qk5,Option.bind_some]
theorem quc (a:Vec 3 Nat):qen a=some ((rootF (dot3 a a),()),()):=by simp only [qen,qxn,qfp,Option.bind_some]
theorem qag7 (x:Nat):qaj [x]=some ((finB x,()),()):=by rw [qcf _ (by simp)];simp
theorem qaj9 (v:Vec 3 Nat) : ∃ (u:Vec 3 Nat) (k:Int),qq0 v=some ((u,k,()),())∧qq7 v=some ((u,k,()),()):=by
 simp only [qq0,qq7,qtv,qxn,qfp,qbg,qag7,Option.bind_some]
 cases fEq .f32 (rootF (dot3 v v)) 0 with
 | true=>exact ⟨_,_,rfl,rfl⟩
 | false =>
  cases finB (rootF (dot3 v v)) with
  | true=>exact ⟨_,_,rfl,rfl⟩
  | false=>exact ⟨_,_,rfl,rfl⟩
theorem qalq (c:DClue) (v:Vec 6 Nat):qh8 c v=qmq c.1 v:=by
 simp only [qh8,qaj4,Option.bind_some]
 rfl
theorem qxp (u v:Vec 6 Nat) : ∃ x,qmq u v=some ((x,()),()):=⟨_,rfl⟩
theorem qao4 (s:DState) (p:Vec 3 Nat) (x d:Nat) : ∃ (c:DClue) (k:Int),qln s p x d=some ((c,k,()),())∧qgg s p x d=some ((c,k,()),()):=by
 have h1 : ∃ q,qhf s=some ((q,()),())∧qhc s=some ((q,()),()):=⟨_,rfl,rfl⟩
 obtain ⟨q,p1,p2⟩:=h1
 have h2 : ∃ m,qdl q p=some ((m,()),()):=⟨_,rfl⟩
 obtain ⟨m,hm⟩:=h2
 obtain ⟨u,k,u1,u2⟩:=qaj9 m
 simp only [qln,qgg,qcd,qc0,p1,p2,qacl,hm,u1,u2,qtv,quc,Option.bind_some]
 cases stateB s with
 | false=>exact ⟨zC,1,rfl,rfl⟩
 | true =>
  simp only [Bool.not_true,cond_false]
  cases iEq k 0 with
  | false=>exact ⟨zC,k,rfl,rfl⟩
  | true =>
   simp only [Bool.not_true,cond_false]
   have e:=qalq ((Vec.getD 3 u 0 (0:Nat),Vec.getD 3 u 1 (0:Nat),Vec.getD 3 u 2 (0:Nat),0,0,0,()),0,d,()) s.1
   obtain ⟨z,hz⟩:=qxp (Vec.getD 3 u 0 (0:Nat),Vec.getD 3 u 1 (0:Nat),Vec.getD 3 u 2 (0:Nat),0,0,0,()) s.1
   obtain ⟨C,hC⟩ : ∃ C:DClue,C=((Vec.getD 3 u 0 (0:Nat),Vec.getD 3 u 1 (0:Nat),Vec.getD 3 u 2 (0:Nat),0,0,0,()),fAdd .f32 (fSub .f32 x (rootF (dot3 m m))) z,d,()):=⟨_,rfl⟩
   refine ⟨bif clueB C then C else zC,bif clueB C then 0 else 1,(congrArg (fun w=>Option.bind w _) (e.trans hz)).trans ?_,(congrArg (fun w=>Option.bind w _) hz).trans ?_⟩
   ·subst hC
    exact (congrArg (fun w=>Option.bind w _) (qwz _)).trans rfl
   ·subst hC
    exact (congrArg (fun w=>Option.bind w _) (qnj _)).trans rfl
theorem qyr (s:DState) (c:DClue) : ∃ (sh:Vec 6 Nat) (e v:Nat),qmf s c=some ((sh,e,v,()),())∧qir s c=some ((sh,e,v,()),()):=by
 refine ⟨_,_,_,?_,rfl⟩
 simp only [qmf,qaj4,qau2,qau0,qaj3,qaux,qauv,qalq,Option.bind_some]
 kernel_rfl
def dt (L:DRoot) (sh:Vec 6 Nat) (i:Nat):Nat:=dotS ((rowL (rowS L i)).take (i+1)) (rowL sh)
def ug (L:DRoot) (sh:Vec 6 Nat) (f:Nat) (i j:Nat):Nat:=fSub .f32 (Vec.getD 6 (rowS L i) j (0:Nat)) (fMul .f32 (fMul .f32 (dt L sh i) f) (Vec.getD 6 sh j (0:Nat)))
def updT (L:DRoot) (sh:Vec 6 Nat) (f:Nat):DTab:=((ug L sh f 0 0,ug L sh f 0 1,ug L sh f 0 2,ug L sh f 0 3,ug L sh f 0 4,ug L sh f 0 5,0,0,0,()),(ug L sh f 1 0,ug L sh f 1 1,ug L sh f 1 2,ug L sh f 1 3,ug L sh f 1 4,ug L sh f 1 5,0,0,0,()),(ug L sh f 2 0,ug L sh f 2 1,ug L sh f 2 2,ug L sh f 2 3,ug L sh f 2 4,ug L sh f 2 5,0,0,0,()),(ug L sh f 3 0,ug L sh f 3 1,ug L sh f 3 2,ug L sh f 3 3,ug L sh f 3 4,ug L sh f 3 5,0,0,0,()),(ug L sh f 4 0,ug L sh f 4 1,ug L sh f 4 2,ug L sh f 4 3,ug L sh f 4 4,ug L sh f 4 5,0,0,0,()),(ug L sh f 5 0,ug L sh f 5 1,ug L sh f 5 2,ug L sh f 5 3,ug L sh f 5 4,ug L sh f 5 5,0,0,0,()),())
def updL (L:DRoot) (sh:Vec 6 Nat) (f:Nat):List Nat:=[ug L sh f 0 0,ug L sh f 0 1,ug L sh f 0 2,ug L sh f 0 3,ug L sh f 0 4,ug L sh f 0 5,ug L sh f 1 0,ug L sh f 1 1,ug L sh f 1 2,ug L sh f 1 3,ug L sh f 1 4,ug L sh f 1 5,ug L sh f 2 0,ug L sh f 2 1,ug L sh f 2 2,ug L sh f 2 3,ug L sh f 2 4,ug L sh f 2 5,ug L sh f 3 0,ug L sh f 3 1,ug L sh f 3 2,ug L sh f 3 3,ug L sh f 3 4,ug L sh f 3 5,ug L sh f 4 0,ug L sh f 4 1,ug L sh f 4 2,ug L sh f 4 3,ug L sh f 4 4,ug L sh f 4 5,ug L sh f 5 0,ug L sh f 5 1,ug L sh f 5 2,ug L sh f 5 3,ug L sh f 5 4,ug L sh f 5 5]
def updX (x:Vec 6 Nat) (L:DRoot) (sh:Vec 6 Nat) (g:Nat):Vec 6 Nat:=(fAdd .f32 (Vec.getD 6 x 0 (0:Nat)) (fMul .f32 (dt L sh 0) g),fAdd .f32 (Vec.getD 6 x 1 (0:Nat)) (fMul .f32 (dt L sh 1) g),fAdd .f32 (Vec.getD 6 x 2 (0:Nat)) (fMul .f32 (dt L sh 2) g),fAdd .f32 (Vec.getD 6 x 3 (0:Nat)) (fMul .f32 (dt L sh 3) g),fAdd .f32 (Vec.getD 6 x 4 (0:Nat)) (fMul .f32 (dt L sh 4) g),fAdd .f32 (Vec.getD 6 x 5 (0:Nat)) (fMul .f32 (dt L sh 5) g),())
noncomputable def chk {A:Type} : List Nat→Option A→Option A→Option A
 | [],_,R=>R
 | x :: l,Z,R=>(qac x).bind fun y=>bif !y.1.1 then Z else chk l Z R
theorem qanj {A:Type} (Z R:Option A) : ∀ l:List Nat,chk l Z R=bif l.all finB then R else Z
 | []=>rfl
 | x :: l=>by
  simp only [chk,qbg,Option.bind_some,qanj Z R l,List.all_cons]
  cases finB x <;> rfl
noncomputable def madeOf (x:Vec 6 Nat) (T:DTab):Option DMade:=(qep T).bind fun y=>(qeg ((x,y.1.1,()):DState) y.1.2.1).bind fun y=>some ((y.1.1,y.1.2.1,()),())
theorem qze (s:DState) (c:DClue):qgk s c=(qir s c).bind fun y=>(qef (fDiv .f32 (fMul .f32 c.2.2.1 c.2.2.1) y.1.2.2.1)).bind fun z =>
  chk (updL s.2.1 y.1.1 (fDiv .f32 (fDiv .f32 1065353216 (fAdd .f32 1065353216 z.1.1)) y.1.2.2.1)) (some ((zS,(4:Int),()),())) (madeOf (updX s.1 s.2.1 y.1.1 (fDiv .f32 y.1.2.1 y.1.2.2.1)) (updT s.2.1 y.1.1 (fDiv .f32 (fDiv .f32 1065353216 (fAdd .f32 1065353216 z.1.1)) y.1.2.2.1))):=by kernel_rfl
theorem qarx {L:DRoot} {sh:Vec 6 Nat} {f:Nat} (h:finT (updT L sh f)=true):(updL L sh f).all finB=true:=by
 have h':([ug L sh f 0 0,ug L sh f 0 1,ug L sh f 0 2,ug L sh f 0 3,ug L sh f 0 4,ug L sh f 0 5,0,0,0].all finB&&([ug L sh f 1 0,ug L sh f 1 1,ug L sh f 1 2,ug L sh f 1 3,ug L sh f 1 4,ug L sh f 1 5,0,0,0].all finB&&([ug L sh f 2 0,ug L sh f 2 1,ug L sh f 2 2,ug L sh f 2 3,ug L sh f 2 4,ug L sh f 2 5,0,0,0].all finB&&([ug L sh f 3 0,ug L sh f 3 1,ug L sh f 3 2,ug L sh f 3 3,ug L sh f 3 4,ug L sh f 3 5,0,0,0].all finB&&([ug L sh f 4 0,ug L sh f 4 1,ug L sh f 4 2,ug L sh f 4 3,ug L sh f 4 4,ug L sh f 4 5,0,0,0].all finB&&([ug L sh f 5 0,ug L sh f 5 1,ug L sh f 5 2,ug L sh f 5 3,ug L sh f 5 4,ug L sh f 5 5,0,0,0].all finB&&true))))))=true:=h
 simp only [updL,List.all_cons,List.all_nil,Bool.and_eq_true,and_true,qtq,and_assoc] at h' ⊢
 exact h'
theorem qth {s:DState} (hs:stateB s=true) {c:DClue} (hc:clueB c=true) : ∃ (w:DState) (k:Int),qj6 s c=some ((w,k,()),())∧qgk s c=some ((w,k,()),())∧((k=0∧stateB w=true)∨(k=4∧w=zS)):=by
 obtain ⟨sh,e,v,h1,h2⟩:=qyr s c
 obtain ⟨w,k,r1,r2,r3,r4⟩:=qaax (updX s.1 s.2.1 sh (fDiv .f32 e v)) (updT s.2.1 sh (fDiv .f32 (fDiv .f32 1065353216 (fAdd .f32 1065353216 (rootF (fDiv .f32 (fMul .f32 c.2.2.1 c.2.2.1) v)))) v))
 have e1:qj6 s c=some ((w,k,()),()):=by
  simp only [qj6,qcd,hs,qfz,hc,h1,qk5,qauw,qauy,qauz,qau1,qau3,qaj4,Option.bind_some,Bool.not_true,cond_false]
  refine Eq.trans (b:=(qd5 (updX s.1 s.2.1 sh (fDiv .f32 e v)) (updT s.2.1 sh (fDiv .f32 (fDiv .f32 1065353216 (fAdd .f32 1065353216 (rootF (fDiv .f32 (fMul .f32 c.2.2.1 c.2.2.1) v)))) v))).bind fun y=>some ((y.1.1,y.1.2.1,()),())) (by kernel_rfl) ?_
  rw [r1]
  rfl
 have e2:qgk s c=bif (updL s.2.1 sh (fDiv .f32 (fDiv .f32 1065353216 (fAdd .f32 1065353216 (rootF (fDiv .f32 (fMul .f32 c.2.2.1 c.2.2.1) v)))) v)).all finB then some ((w,k,()),()) else some ((zS,(4:Int),()),()):=by
  rw [qze]
  simp only [h2,qfp,Option.bind_some,qanj]
  rw [show madeOf (updX s.1 s.2.1 sh (fDiv .f32 e v)) (updT s.2.1 sh (fDiv .f32 (fDiv .f32 1065353216 (fAdd .f32 1065353216 (rootF (fDiv .f32 (fMul .f32 c.2.2.1 c.2.2.1) v)))) v))=some ((w,k,()),()) from r2]
 cases hf:(updL s.2.1 sh (fDiv .f32 (fDiv .f32 1065353216 (fAdd .f32 1065353216 (rootF (fDiv .f32 (fMul .f32 c.2.2.1 c.2.2.1) v)))) v)).all finB with
 | true =>
  rw [hf] at e2
  exact ⟨w,k,e1,e2,r3⟩
 | false =>
  rw [hf] at e2
  have hT:finT (updT s.2.1 sh (fDiv .f32 (fDiv .f32 1065353216 (fAdd .f32 1065353216 (rootF (fDiv .f32 (fMul .f32 c.2.2.1 c.2.2.1) v)))) v))=false:=by
   cases ht:finT (updT s.2.1 sh (fDiv .f32 (fDiv .f32 1065353216 (fAdd .f32 1065353216 (rootF (fDiv .f32 (fMul .f32 c.2.2.1 c.2.2.1) v)))) v)) with
   | false=>rfl
   | true=>rw [qarx ht] at hf;cases hf
  have hk:=r4 hT
  rcases r3 with ⟨q,_⟩ | ⟨_,rfl⟩
  ·omega
  ·exact ⟨zS,k,e1,by rw [hk];exact e2,.inr ⟨hk,rfl⟩⟩
theorem qaqo {s:DState} (hs:stateB s=true) {c:DClue} (hc:clueB c=true) : ∃ (g:Nat) (k:Int),qqz s c=some ((g,k,()),())∧qiq s c=some ((g,k,()),())∧finB g=true:=by
 obtain ⟨sh,e,v,h1,h2⟩:=qyr s c
 simp only [qqz,qiq,qcd,hs,qfz,hc,h1,h2,qju,qag7,qbg,Option.bind_some,Bool.not_true,cond_false]
 cases hf:finB (fDiv .f32 (fMul .f32 e e) v) with
 | true=>exact ⟨_,_,rfl,rfl,hf⟩
 | false=>exact ⟨_,_,rfl,rfl,qtq⟩
theorem qu3 (s:DState) (c:DClue) {f:Nat} (hf:finB f=true) : ∃ (w:DState) (b:Bool) (k:Int),qbl s c f=some ((w,b,k,()),())∧qb1 s c f=some ((w,b,k,()),())∧(k=0→stateB w=true):=by
 simp only [qbl,qb1,qo4,qcd,qc0,qfz,qhw,Option.bind_some]
 cases hs:stateB s with
 | false=>exact ⟨_,_,_,rfl,rfl,fun q=>absurd q (by decide)⟩
 | true =>
  cases hc:clueB c with
  | false=>exact ⟨_,_,_,rfl,rfl,fun q=>absurd q (by decide)⟩
  | true =>
   obtain ⟨g,k,g1,g2,g3⟩:=qaqo hs hc
   obtain ⟨w,k',u1,u2,u3⟩:=qth hs hc
   have i0:(!iEq (0:Int) 0)=false:=rfl
   simp only [Bool.not_true,cond_false,g1,g2,u1,u2,i0,Option.bind_some]
   cases fLe .f32 0 f with
   | false=>exact ⟨_,_,_,rfl,rfl,fun q=>absurd q (by decide)⟩
   | true =>
    simp only [Bool.not_true,cond_false]
    cases hk:iEq k 0 with
    | false=>exact ⟨_,_,_,rfl,rfl,fun q=>absurd q (qda.1 hk)⟩
    | true =>
     simp only [Bool.not_true,cond_false,qaoq g3 hf]
     cases fLt .f32 f g with
     | true=>exact ⟨_,_,_,rfl,rfl,fun _=>hs⟩
     | false=>exact ⟨_,_,_,rfl,rfl,fun q=>by
       rcases u3 with ⟨_,h⟩ | ⟨h,_⟩
       ·exact h
       ·have q:k'=0:=q
        omega⟩
theorem qar4 {l:List DClue} (hl:l.length≤256) (hv:l.all clueB=true) {s:DState} (hs:stateB s=true) : ∃ (w:DState) (k:Int),run (qei l) ((0:Int),s,())=some ((w,k,()),())∧run (qa1 l) ((0:Int),s,())=some ((w,k,()),())∧(k=0→stateB w=true):=by
 obtain ⟨a,b,h1,h2,w,k,rfl,rfl,h3⟩:=qxd (f:=qei l) (g:=qa1 l) (fun s t=>s=t ∧ ∃ (i:Nat) (u:DState),s=((i:Int),u,())∧i≤l.length∧stateB u=true) (fun s=>(l.length-s.1).toNat)
  (fun a b:DMade => ∃ (w:DState) (k:Int),a=((w,k,()),())∧b=((w,k,()),())∧(k=0→stateB w=true)) (fun s t hR=>by
   obtain ⟨rfl,i,u,rfl,hi,hu⟩:=hR
   by_cases hlt:i<l.length
   ·have e1:iLt (i:Int) (lenI l)=true:=qaf (by rw [qaa];omega)
    have e2:inB (i:Int) l.length=true:=qad hlt
    have e4:l.getD i zC=l[i]:=qao hlt
    have e5:iAdd .i64 (i:Int) 1=((i+1:Nat):Int):=qat hlt (by omega)
    have hc:clueB l[i]=true:=List.all_eq_true.1 hv _ (List.getElem_mem hlt)
    obtain ⟨w,k,u1,u2,u3⟩:=qth hu hc
    have f1:qei l ((i:Int),u,())=bif !iEq k 0 then some (.inr ((zS,k,()),())) else some (.inl (((i+1:Nat):Int),w,())):=by
     simp only [qei,e1,e2,e4,e5,u1,Int.toNat_natCast,Option.bind_some,Option.map_some,cond_true]
    have f2:qa1 l ((i:Int),u,())=bif !iEq k 0 then some (.inr ((zS,k,()),())) else some (.inl (((i+1:Nat):Int),w,())):=by
     simp only [qa1,e1,e2,e4,e5,u2,Int.toNat_natCast,Option.bind_some,Option.map_some,cond_true]
    rw [f1,f2]
    cases hk:iEq k 0 with
    | false=>exact .inr ⟨_,_,rfl,rfl,_,_,rfl,rfl,fun q=>absurd q (qda.1 hk)⟩
    | true =>
     have hk0:=qas.1 hk
     refine .inl ⟨_,_,rfl,rfl,⟨rfl,i+1,w,rfl,by omega,?_⟩,by show ((l.length:Int)-((i+1:Nat):Int)).toNat<((l.length:Int)-(i:Int)).toNat;omega⟩
     rcases u3 with ⟨_,h⟩ | ⟨h,_⟩
     ·exact h
     ·omega
   ·have e1:iLt (i:Int) (lenI l)=false:=qag (by rw [qaa];omega)
    exact .inr ⟨_,_,by simp only [qei,e1,cond_false,Option.map_some],by simp only [qa1,e1,cond_false,Option.map_some],u,0,rfl,rfl,fun _=>hu⟩) ⟨rfl,0,s,rfl,by omega,hs⟩
 exact ⟨w,k,h1,h2,h3⟩
theorem qar5 {s:DState} (hs:stateB s=true) {l:List DClue} (hl:l.length≤256) : ∃ (w:DState) (k:Int),qlp s l=some ((w,k,()),())∧qgh s l=some ((w,k,()),())∧(k=0→stateB w=true):=by
 have h1:=qnc l (fun z614=>(qi5 z614.1).map fun y=>y.1.1) (fun c => !clueB c) (by omega) (fun x _=>by simp only [qi5,qfz,Option.bind_some,Option.map_some])
 have e256:iLt 256 (lenI l)=false:=qag (by rw [qaa];omega)
 have h2:run (qc7 l s) ((0:Int),())=bif l.all clueB then run (qa1 l) ((0:Int),s,()) else some ((zS,(1:Int),()),()):=by
  refine qyk (xs:=l) (fun i (_:Unit)=>((i:Int),())) clueB (fun u _=>u) ((zS,(1:Int),()),()) (fun _=>run (qa1 l) ((0:Int),s,())) (fun i hi u => ?_) (fun u => ?_) ()
  ·have e1:iLt (i:Int) (lenI l)=true:=qaf (by rw [qaa];omega)
   have e2:inB (i:Int) l.length=true:=qad hi
   have e4:l.getD i zC=l[i]:=qao hi
   have e5:iAdd .i64 (i:Int) 1=((i+1:Nat):Int):=qat hi (by omega)
   simp only [qc7,e1,e2,e4,e5,Int.toNat_natCast,qhw,Option.bind_some,cond_true]
   cases clueB l[i] <;> rfl
  ·have e1:iLt (l.length:Int) (lenI l)=false:=qag (by rw [qaa];omega)
   simp only [qc7,e1,e256,cond_false]
 have h3:l.any (fun c => !clueB c) = !l.all clueB:=by rw [List.any_eq_not_all_not];simp
 have hs0:(!stateB s)=false:=by rw [hs];rfl
 simp only [qlp,qgh,qcd,qc0,hs0,h1,h2,h3,e256,Option.bind_some,cond_false]
 cases hv:l.all clueB with
 | false=>exact ⟨_,_,rfl,rfl,fun q=>absurd q (by decide)⟩
 | true=>exact qar4 hl hv hs
theorem qaqq (a b c:Nat):qgr [a,b,c]=some ((leastB a&&(leastB b&&leastB c),()),()):=by
 have h:=qhp [a,b,c] (fun z1059=>(qlq z1059.1).map fun y=>y.1.1) (fun p=>fLt .f32 p 0) (by simp) (fun x _=>rfl)
 simp only [qgr,h,qcf [a,b,c] (by simp),Option.bind_some,List.all_cons,List.all_nil,List.any_cons,List.any_nil,Bool.and_true,Bool.or_false,leastB]
 cases ha:finB a with
 | false=>rfl
 | true =>
  rw [← qabb a ha]
  cases hb:finB b with
  | false=>cases fLt .f32 a 0 <;> rfl
  | true =>
   rw [← qabb b hb]
   cases hc:finB c with
   | false=>cases fLt .f32 a 0 <;> cases fLt .f32 b 0 <;> rfl
   | true =>
    rw [← qabb c hc]
    cases fLt .f32 a 0 <;> cases fLt .f32 b 0 <;> cases fLt .f32 c 0 <;> rfl
theorem qaku (x:Vec 6 Nat) (T:DTab) {A B:Option DMade} (hA:A=(qd5 x T).bind fun y=>some ((y.1.1,y.1.2.1,()),())) (hB:B=(qep T).bind fun y=>(qeg ((x,y.1.1,()):DState) y.1.2.1).bind fun y=>some ((y.1.1,y.1.2.1,()),())) :
  ∃ (w:DState) (k:Int),A=some ((w,k,()),())∧B=some ((w,k,()),())∧(k=0→stateB w=true):=by
 obtain ⟨w,k,h1,h2,h3,_⟩:=qaax x T
 refine ⟨w,k,by rw [hA,h1];rfl,by rw [hB,h2],fun q => ?_⟩
 rcases h3 with ⟨_,h⟩ | ⟨h,_⟩
 ·exact h
 ·omega
theorem qaks {s:DState} (hs:stateB s=true) (t:Nat) (a:Vec 3 Nat) : ∃ (w:DState) (k:Int),qoa s t a=some ((w,k,()),())∧qin s t a=some ((w,k,()),())∧(k=0→stateB w=true):=by
 have hs0:(!stateB s)=false:=by rw [hs];rfl
 simp only [qoa,qin,qcd,qc0,hs0,qaee,qaqq,quh,qk5,qfp,Option.bind_some,cond_false]
 cases leastB t with
 | false=>exact ⟨_,_,rfl,rfl,fun q=>absurd q (by decide)⟩
 | true =>
  cases leastB (Vec.getD 3 a 0 (0:Nat)) with
  | false=>exact ⟨_,_,rfl,rfl,fun q=>absurd q (by decide)⟩
  | true =>
   cases leastB (Vec.getD 3 a 1 (0:Nat)) with
   | false=>exact ⟨_,_,rfl,rfl,fun q=>absurd q (by decide)⟩
   | true =>
    cases leastB (Vec.getD 3 a 2 (0:Nat)) with
    | false=>exact ⟨_,_,rfl,rfl,fun q=>absurd q (by decide)⟩
    | true =>
     simp only [Bool.and_self,Bool.not_true,cond_false]
     exact qaku _ _ rfl rfl
end
section
abbrev dSens:Vec 3 Nat×(Vec 3 Nat×(Int×(Int×Unit))):=((1031798784,1031798784,1031798784,()),(0,0,0,()),1,0,())
def seenF (n:Int):Nat:=fAdd .f32 (fMul .f32 (fOfInt .f32 n) 1031798784) 0
theorem qn0 {n:Int} (h : -32768≤n) (h1:n≤32767):finB (seenF n)=true:=by
 have h2:magB 1031798784 (-4):=⟨false,8388608,-27,by decide,fun _=>by decide⟩
 have h3:=qas7 (qaoj h h1) h2 (by omega) (by omega)
 exact qas6 (qas5 h3 (qaqy _) (by omega) (by omega))
theorem qadn (v:Vec 3 Int):qgt dSens v=some (((seenF (Vec.getD 3 v 0 (0:Int)),seenF (Vec.getD 3 v 1 (0:Int)),seenF (Vec.getD 3 v 2 (0:Int)),()),()),())∧qmr dSens v=some (((seenF (Vec.getD 3 v 0 (0:Int)),seenF (Vec.getD 3 v 1 (0:Int)),seenF (Vec.getD 3 v 2 (0:Int)),()),()),()):=⟨rfl,rfl⟩
theorem qp0 {i x:Nat} (hi:i<3) (hx:finB x=true):clueB (cl i x 1056964608)=true:=by
 match i,hi with
 | 0,_=>show ((rowL (Vec.set 6 r6 0 (1065353216:Nat))).all finB&&(finB x&&(finB 1056964608&&fLt .f32 0 1056964608)))=true;rw [hx];decide
 | 1,_=>show ((rowL (Vec.set 6 r6 1 (1065353216:Nat))).all finB&&(finB x&&(finB 1056964608&&fLt .f32 0 1056964608)))=true;rw [hx];decide
 | 2,_=>show ((rowL (Vec.set 6 r6 2 (1065353216:Nat))).all finB&&(finB x&&(finB 1056964608&&fLt .f32 0 1056964608)))=true;rw [hx];decide
theorem qyl:finB 1091567616=true:=by decide
theorem qask {s:DState} (v:Vec 3 Int) (hv:Fit (.arr 3 (.int .i16)) v) : ∃ (w:DState) (b:Bool) (k:Int),
  ((qgf).bind fun y183=>(qgt y183.1.1 v).bind fun y184=>(qa7 (0:Int) (Vec.getD 3 y184.1.1 0 (0:Nat)) (1056964608:Nat)).bind fun y186=>(qbl s y186.1.1 (1091567616:Nat)).bind fun y187 =>
  bif (! (iEq y187.1.2.2.1 0)) then some ((zS,false,y187.1.2.2.1,()),()) else
  (qa7 (1:Int) (Vec.getD 3 y184.1.1 1 (0:Nat)) (1056964608:Nat)).bind fun y190=>(qbl y187.1.1 y190.1.1 (1091567616:Nat)).bind fun y191 =>
  bif (! (iEq y191.1.2.2.1 0)) then some ((zS,false,y191.1.2.2.1,()),()) else
  bif y187.1.2.1 then
   (qa7 (2:Int) (Vec.getD 3 y184.1.1 2 (0:Nat)) (1056964608:Nat)).bind fun y194=>(qbl y191.1.1 y194.1.1 (1091567616:Nat)).bind fun y195 =>
   bif (! (iEq y195.1.2.2.1 0)) then some ((zS,false,y195.1.2.2.1,()),()) else
   bif y191.1.2.1 then some ((y195.1.1,y195.1.2.1,(0:Int),()),()) else some ((y195.1.1,false,(0:Int),()),())
  else
  (qa7 (2:Int) (Vec.getD 3 y184.1.1 2 (0:Nat)) (1056964608:Nat)).bind fun y198=>(qbl y191.1.1 y198.1.1 (1091567616:Nat)).bind fun y199 =>
  bif (! (iEq y199.1.2.2.1 0)) then some ((zS,false,y199.1.2.2.1,()),()) else some ((y199.1.1,false,(0:Int),()),()))=some ((w,b,k,()),()) ∧
  qkd s v=some ((w,b,k,()),())∧(k=0→stateB w=true):=by
 obtain ⟨c1,c2⟩:=qadn v
 obtain ⟨f0,f1,f2,_⟩:=hv
 have d0:=qn0 (n:=Vec.getD 3 v 0 (0:Int)) f0.1 f0.2
 have d1:=qn0 (n:=Vec.getD 3 v 1 (0:Int)) f1.1 f1.2
 have d2:=qn0 (n:=Vec.getD 3 v 2 (0:Int)) f2.1 f2.2
 generalize h0:seenF (Vec.getD 3 v 0 (0:Int))=x0 at *
 generalize h1:seenF (Vec.getD 3 v 1 (0:Int))=x1 at *
 generalize h2:seenF (Vec.getD 3 v 2 (0:Int))=x2 at *
 have e1:qgf=some ((dSens,()),()):=rfl
 have e2:qe8=some ((dSens,()),()):=rfl
 have b0:=qp0 (i:=0) (by omega) d0
 have b1:=qp0 (i:=1) (by omega) d1
 have b2:=qp0 (i:=2) (by omega) d2
 have i0:qa7 0 x0 1056964608=some ((cl 0 x0 1056964608,()),()):=(qfk (i:=0) (by omega) x0 1056964608).trans (by rw [b0];rfl)
 have i1:qa7 1 x1 1056964608=some ((cl 1 x1 1056964608,()),()):=(qfk (i:=1) (by omega) x1 1056964608).trans (by rw [b1];rfl)
 have i2:qa7 2 x2 1056964608=some ((cl 2 x2 1056964608,()),()):=(qfk (i:=2) (by omega) x2 1056964608).trans (by rw [b2];rfl)
 have s0:qa5 0 x0 1056964608=some ((cl 0 x0 1056964608,0,()),()):=(qbw (i:=0) (by omega) x0 1056964608).trans (by rw [b0];rfl)
 have s1:qa5 1 x1 1056964608=some ((cl 1 x1 1056964608,0,()),()):=(qbw (i:=1) (by omega) x1 1056964608).trans (by rw [b1];rfl)
 have s2:qa5 2 x2 1056964608=some ((cl 2 x2 1056964608,0,()),()):=(qbw (i:=2) (by omega) x2 1056964608).trans (by rw [b2];rfl)
 have g0 : ∀ z:Nat,Vec.getD 3 ((x0,x1,x2,()):Vec 3 Nat) 0 z=x0:=fun _=>rfl
 have g1 : ∀ z:Nat,Vec.getD 3 ((x0,x1,x2,()):Vec 3 Nat) 1 z=x1:=fun _=>rfl
 have g2 : ∀ z:Nat,Vec.getD 3 ((x0,x1,x2,()):Vec 3 Nat) 2 z=x2:=fun _=>rfl
 have z0:(!iEq (0:Int) 0)=false:=rfl
 obtain ⟨V,hV⟩ : ∃ V:Vec 3 Nat,V=(x0,x1,x2,()):=⟨_,rfl⟩
 replace c1:qgt dSens v=some ((V,()),()):=c1.trans (by rw [hV];rfl)
 replace c2:qmr dSens v=some ((V,()),()):=c2.trans (by rw [hV];rfl)
 replace g0:Vec.getD 3 V 0 (0:Nat)=x0:=by rw [hV];rfl
 replace g1:Vec.getD 3 V 1 (0:Nat)=x1:=by rw [hV];rfl
 replace g2:Vec.getD 3 V 2 (0:Nat)=x2:=by rw [hV];rfl
 obtain ⟨w1,p1,k1,u1,t1,v1⟩:=qu3 s (cl 0 x0 1056964608) qyl
 obtain ⟨w2,p2,k2,u2,t2,v2⟩:=qu3 w1 (cl 1 x1 1056964608) qyl
 obtain ⟨w3,p3,k3,u3,t3,v3⟩:=qu3 w2 (cl 2 x2 1056964608) qyl
 simp only [qkd,e1,e2,c1,c2,g0,g1,g2,i0,i1,i2,s0,s1,s2,u1,u2,u3,t1,t2,t3,z0,Option.bind_some,cond_false]
 cases q1:iEq k1 0 with
 | false=>exact ⟨_,_,_,rfl,rfl,fun q=>absurd q (qda.1 q1)⟩
 | true =>
  simp only [Bool.not_true,cond_false]
  cases q2:iEq k2 0 with
  | false=>exact ⟨_,_,_,rfl,rfl,fun q=>absurd q (qda.1 q2)⟩
  | true =>
   simp only [Bool.not_true,cond_false]
   cases q3:iEq k3 0 with
   | false=>cases p1 <;> exact ⟨_,_,_,rfl,rfl,fun q=>absurd q (qda.1 q3)⟩
   | true=>cases p1 <;> cases p2 <;> exact ⟨_,_,_,rfl,rfl,fun _=>v3 (qas.1 q3)⟩
theorem qaj5 (a:DLog) {s:DState} (hs:stateB s=true) (e:DEntry) (he:entryB (lenI a.2.2.1) e=true) (hf:Fit (.arr 3 (.int .i16)) e.2.2.1) (hl:a.2.2.1.length≤140737488355328) : ∃ (w:DState) (b:Bool) (k:Int),qdz a s e=some ((w,b,k,()),())∧qeh a s e=some ((w,b,k,()),())∧(k=0→stateB w=true):=by
 unfold qdz qeh
 cases h1:iEq e.1 1 with
 | true =>
  obtain ⟨w,k,p1,p2,p3⟩:=qaks hs (fDiv .f32 1065353216 (fOfInt .f32 a.1)) ((1048576000,1048576000,1048576000,()):Vec 3 Nat)
  refine ⟨w,iEq k 0,k,?_,?_,p3⟩
  ·exact (congrArg (fun z=>Option.bind z _) p1).trans rfl
  ·exact (congrArg (fun z=>Option.bind z _) p2).trans rfl
 | false =>
  simp only [cond_false]
  cases h2:iEq e.1 2 with
  | true =>
   have i3:=qfk (i:=3) (by omega) (Vec.getD 3 e.2.1 0 (0:Nat)) 1040187392
   have i4:=qfk (i:=4) (by omega) (Vec.getD 3 e.2.1 1 (0:Nat)) 1040187392
   have i5:=qfk (i:=5) (by omega) (Vec.getD 3 e.2.1 2 (0:Nat)) 1040187392
   have s3:=qbw (i:=3) (by omega) (Vec.getD 3 e.2.1 0 (0:Nat)) 1040187392
   have s4:=qbw (i:=4) (by omega) (Vec.getD 3 e.2.1 1 (0:Nat)) 1040187392
   have s5:=qbw (i:=5) (by omega) (Vec.getD 3 e.2.1 2 (0:Nat)) 1040187392
   replace i3:qa7 (3:Int) _ _=_:=i3
   replace i4:qa7 (4:Int) _ _=_:=i4
   replace i5:qa7 (5:Int) _ _=_:=i5
   replace s3:qa5 (3:Int) _ _=_:=s3
   replace s4:qa5 (4:Int) _ _=_:=s4
   replace s5:qa5 (5:Int) _ _=_:=s5
   simp only [i3,i4,i5,s3,s4,s5,Option.bind_some,cond_true]
   generalize (bif clueB (cl 3 (Vec.getD 3 e.2.1 0 (0:Nat)) 1040187392) then cl 3 (Vec.getD 3 e.2.1 0 (0:Nat)) 1040187392 else zC)=c3
   generalize (bif clueB (cl 4 (Vec.getD 3 e.2.1 1 (0:Nat)) 1040187392) then cl 4 (Vec.getD 3 e.2.1 1 (0:Nat)) 1040187392 else zC)=c4
   generalize (bif clueB (cl 5 (Vec.getD 3 e.2.1 2 (0:Nat)) 1040187392) then cl 5 (Vec.getD 3 e.2.1 2 (0:Nat)) 1040187392 else zC)=c5
   obtain ⟨w,k,u1,u2,u3⟩:=qar5 hs (l:=[c3,c4,c5]) (by simp)
   exact ⟨w,iEq k 0,k,by rw [u1];rfl,by rw [u2];rfl,u3⟩
  | false =>
   simp only [cond_false]
   cases h3:iEq e.1 3 with
   | true =>
    obtain ⟨w,b,k,f1,f2,f3⟩:=qask (s:=s) e.2.2.1 hf
    exact ⟨w,b,k,f1,by rw [f2];rfl,f3⟩
   | false =>
    simp only [cond_false]
    have h4:iLe 0 e.2.2.2.1=true∧iLe e.2.2.2.1 (iSub .i64 (lenI a.2.2.1) 1)=true:=by
     simp only [entryB,h1,h2,h3,cond_false] at he
     cases h4:iEq e.1 4 with
     | false=>rw [h4] at he;cases he
     | true=>rw [h4] at he;simp only [cond_true,Bool.and_eq_true] at he;exact he.1
    have e3:iSub .i64 (lenI a.2.2.1) 1=lenI a.2.2.1-1:=qcm (by rw [qaa];omega) (by rw [qaa];omega)
    have h5:=qb8.1 h4.1
    have h6:=qb8.1 h4.2
    rw [e3,qaa] at h6
    have e4:inB e.2.2.2.1 a.2.2.1.length=true:=qii h5 (by omega)
    rw [e4]
    obtain ⟨c,k,r1,r2⟩:=qao4 s (a.2.2.1.getD e.2.2.2.1.toNat ((0,0,0,()):Vec 3 Nat)) e.2.2.2.2.1 1056964608
    obtain ⟨w,b,k',g1,g2,g3⟩:=qu3 s c qyl
    simp only [r1,r2,g1,g2,Option.bind_some,cond_true]
    cases iEq k 0 with
    | false=>exact ⟨_,_,_,rfl,rfl,fun _=>hs⟩
    | true=>exact ⟨_,_,_,rfl,rfl,g3⟩
theorem qamv {a:DLog} (hm:a.2.2.1.length≤140737488355328) (hc : ∀ e∈a.2.2.2.1,Fit (.arr 3 (.int .i16)) e.2.2.1) (hl:logB a=true) {s:DState} (hs:stateB s=true) {lo hi:Int} (h0:0≤lo) (h1:lo≤hi) (h2:hi≤a.2.2.2.1.length) :
  ∃ (w:DState) (l:List Int) (k:Int),qme a s lo hi=some ((w,l,k,()),())∧qgm a s lo hi=some ((w,l,k,()),())∧l.length≤1200:=by
 have hb:a.2.2.2.1.length≤1200∧a.2.2.2.1.all (entryB (lenI a.2.2.1))=true:=by
  simp only [logB,Bool.and_eq_true] at hl
  have:=qb8.1 hl.2.1
  rw [qaa] at this
  exact ⟨by omega,hl.2.2⟩
 obtain ⟨x,y,e1,e2,w,l,k,rfl,rfl,h3⟩:=qxd (f:=qcn hi a) (g:=qbt hi a) (fun u t=>u=t ∧ ∃ (l:List Int) (i:Int) (s:DState),u=(l,i,s,())∧lo≤i∧i≤hi∧(l.length:Int)≤i∧stateB s=true) (fun u=>(hi-u.2.1).toNat)
  (fun x y:(DState×List Int×Int×Unit)×Unit => ∃ (w:DState) (l:List Int) (k:Int),x=((w,l,k,()),())∧y=((w,l,k,()),())∧l.length≤1200) (fun u t hR=>by
   obtain ⟨rfl,l,i,s,rfl,hlo,hhi,hll,hs⟩:=hR
   by_cases hlt:i<hi
   ·have e1:iLt i hi=true:=qaf hlt
    have e2:inB i a.2.2.2.1.length=true:=qii (by omega) (by omega)
    have hj:i.toNat<a.2.2.2.1.length:=by omega
    have e4:a.2.2.2.1.getD i.toNat ((0,(0,0,0,()),(0,0,0,()),0,0,()):DEntry)=a.2.2.2.1[i.toNat]:=qao hj
    have e5:iAdd .i64 i 1=i+1:=qba (by omega) (by omega)
    have e6:room (l.length+1) 8=true:=qbi (by omega)
    obtain ⟨w,b,k,t1,t2,t3⟩:=qaj5 a hs a.2.2.2.1[i.toNat] (List.all_eq_true.1 hb.2 _ (List.getElem_mem hj)) (hc _ (List.getElem_mem hj)) hm
    simp only [qcn,qbt,e1,e2,e4,e5,e6,t1,t2,Option.bind_some,Option.map_some,cond_true]
    cases hk:iEq k 0 with
    | false=>exact .inr ⟨_,_,rfl,rfl,zS,[],k,rfl,rfl,by simp⟩
    | true =>
     have hw:=t3 (qas.1 hk)
     cases b with
     | false =>
      refine .inl ⟨_,_,rfl,rfl,⟨rfl,l++[i],i+1,w,rfl,by omega,by omega,?_,hw⟩,by show (hi-(i+1)).toNat<(hi-i).toNat;omega⟩
      rw [List.length_append]
      show ((l.length+1:Nat):Int)≤i+1
      omega
     | true=>exact .inl ⟨_,_,rfl,rfl,⟨rfl,l,i+1,w,rfl,by omega,by omega,by omega,hw⟩,by show (hi-(i+1)).toNat<(hi-i).toNat;omega⟩
   ·have e1:iLt i hi=false:=qag hlt
    exact .inr ⟨_,_,by simp only [qcn,e1,cond_false,Option.map_some],by simp only [qbt,e1,cond_false,Option.map_some],s,l,0,rfl,rfl,by omega⟩) ⟨rfl,[],lo,s,rfl,by omega,h1,by simpa using h0,hs⟩
 exact ⟨w,l,k,e1,e2,h3⟩
end
section
theorem qank (a b:Int):compare b a=(compare a b).swap:=by
 rcases Int.lt_trichotomy a b with h | h | h
 ·have h1:compare a b = .lt:=by simp [compare,compareOfLessAndEq,h]
  have h2:compare b a = .gt:=by
   have n1:¬ b<a:=by omega
   have n2:¬ b=a:=by omega
   simp [compare,compareOfLessAndEq,n1,n2]
  rw [h1,h2];rfl
 ·subst h;rw [qail];rfl
 ·have h1:compare b a = .lt:=by simp [compare,compareOfLessAndEq,h]
  have h2:compare a b = .gt:=by
   have n1:¬ a<b:=by omega
   have n2:¬ a=b:=by omega
   simp [compare,compareOfLessAndEq,n1,n2]
  rw [h1,h2];rfl
theorem ord_swap (x y:Ieee.Datum):y.order x=(x.order y).map Ordering.swap:=by
 cases x with
 | nan s t=>cases y <;> rfl
 | infinity s =>
  cases y with
  | nan t u=>rfl
  | infinity t=>cases s <;> cases t <;> rfl
  | number t n j=>cases s <;> rfl
 | number s m i =>
  cases y with
  | nan t u=>rfl
  | infinity t=>cases t <;> rfl
  | number t n j =>
   simp only [Ieee.Datum.order,Option.map_some]
   rw [Int.min_comm j i,qank]
theorem qajj {k:FloatKind} {x y:Nat} (hx:isNan k x=false) (hy:isNan k y=false):k.format.order x y≠none:=by
 rw [qk8] at hx hy
 unfold Ieee.Format.order
 cases h:k.format.read x <;> cases h':k.format.read y <;> rw [h] at hx <;> rw [h'] at hy <;> simp [Ieee.Datum.isNaN,Ieee.Datum.order] at *
theorem qar3 (a b:Ordering):((some a:Option Ordering)==some b)=(a==b):=by cases a <;> cases b <;> rfl
theorem qaqk {m y:Nat} (hm:isNan .f64 m=false) (hy:isNan .f64 y=false) (hneg:(FloatKind.f64.decode m).neg=true):fMax .f64 m y=bif fLt .f64 y m then m else y:=by
 have hn:=qajj hm hy
 have hs:FloatKind.f64.format.order y m=(FloatKind.f64.format.order m y).map Ordering.swap:=ord_swap _ _
 unfold fMax fLt
 rw [hs]
 cases ho:FloatKind.f64.format.order m y with
 | none=>exact absurd ho hn
 | some o =>
  cases o
  ·rfl
  ·simp only [hneg];rfl
  ·rfl
theorem qanr {m y:Nat} (hm:isNan .f64 m=false) (hy:isNan .f64 y=false) (hneg:(FloatKind.f64.decode m).neg=false):fMin .f64 m y=bif fLt .f64 m y then m else y:=by
 have hn:=qajj hm hy
 unfold fMin fLt
 cases ho:FloatKind.f64.format.order m y with
 | none=>exact absurd ho hn
 | some o =>
  cases o
  ·rfl
  ·simp only [hneg];rfl
  ·rfl
theorem qagr {s:Bool} {M:Nat} {B:Int} (q K:Nat) (h:M*2^(B-min (-(q:Int)) B).toNat≤K*2^q*2^(-(q:Int)-min (-(q:Int)) B).toNat):Ieee.Toward.zero.cut s (M <<< B.toNat) (-B).toNat≤K:=by
 unfold Ieee.Toward.cut
 simp only [Nat.shiftLeft_eq,Nat.one_mul,Bool.toNat_false,Nat.add_zero]
 by_cases hB:0≤B
 ·have e1:(-B).toNat=0:=by omega
  rw [e1,Nat.zero_min,Nat.pow_zero,Nat.div_one]
  rw [show (B-min (-(q:Int)) B).toNat=B.toNat+q by omega,show (-(q:Int)-min (-(q:Int)) B).toNat=0 by omega,Nat.pow_zero,Nat.mul_one,Nat.pow_add,← Nat.mul_assoc] at h
  exact Nat.le_of_mul_le_mul_right h (Nat.two_pow_pos _)
 ·rw [show B.toNat=0 by omega,Nat.pow_zero,Nat.mul_one]
  have hM:M≤K*2^(-B).toNat:=by
   by_cases hq : -(q:Int)≤B
   ·rw [show (-(q:Int)-min (-(q:Int)) B).toNat=0 by omega,Nat.pow_zero,Nat.mul_one] at h
    have e:K*2^q=K*2^(-B).toNat*2^(B-min (-(q:Int)) B).toNat:=by
     rw [Nat.mul_assoc,← Nat.pow_add]
     congr 2
     omega
    rw [e] at h
    exact Nat.le_of_mul_le_mul_right h (Nat.two_pow_pos _)
   ·rw [show (B-min (-(q:Int)) B).toNat=0 by omega,Nat.pow_zero,Nat.mul_one,Nat.mul_assoc,← Nat.pow_add] at h
    rw [show (-B).toNat=q+(-(q:Int)-min (-(q:Int)) B).toNat by omega]
    exact h
  by_cases hd:(-B).toNat≤M.log2+2
  ·rw [Nat.min_eq_left hd]
   exact Nat.div_le_of_le_mul (by rw [Nat.mul_comm];exact hM)
  ·rw [Nat.min_eq_right (by omega)]
   have:M<2^(M.log2+2):=Nat.lt_of_lt_of_le Nat.lt_log2_self (Nat.pow_le_pow_right (by decide) (by omega))
   rw [Nat.div_eq_of_lt this]
   exact Nat.zero_le _
theorem qab1 (a b:Int) (h:(compare a b == .lt)=false):b≤a:=by
 rw [qn8] at h
 have:=of_decide_eq_false h
 omega
theorem qapl {y:Nat} (hn:isNan .f64 y=false) (h1:fLt .f64 4674736138332667904 y=false) (h2:fLt .f64 y 13898108450065350656=false) : ∃ n,fToInt .f64 y .i16=some n ∧ -32768≤n∧n≤32767:=by
 have r1:FloatKind.f64.format.read 4674736138332667904 = .number false (32767*2^38) (-((38:Nat):Int)):=by decide
 have r2:FloatKind.f64.format.read 13898108450065350656 = .number true (32768*2^37) (-((37:Nat):Int)):=by decide
 unfold fLt Ieee.Format.order at h1 h2
 rw [r1] at h1
 rw [r2] at h2
 rw [qk8] at hn
 unfold fToInt
 have hn:(FloatKind.f64.decode y).isNaN=false:=hn
 cases hd:FloatKind.f64.decode y with
 | nan s t=>rw [hd] at hn;simp [Ieee.Datum.isNaN] at hn
 | infinity s =>
  rw [show FloatKind.f64.format.read y = .infinity s from hd] at h1 h2
  cases s
  ·simp [Ieee.Datum.order] at h1
  ·simp [Ieee.Datum.order] at h2
 | number s M B =>
  rw [show FloatKind.f64.format.read y = .number s M B from hd] at h1 h2
  simp only [Ieee.Datum.order,qar3] at h1 h2
  have g1:=qab1 _ _ h1
  have g2:=qab1 _ _ h2
  rw [Int.min_comm B] at g2
  have e1 : ∀ (m:Nat) (u:Nat),Ieee.signed false m u=((m*2^u:Nat):Int):=fun m u=>by rw [← Nat.shiftLeft_eq];rfl
  have e2 : ∀ (m:Nat) (u:Nat),Ieee.signed true m u = -((m*2^u:Nat):Int):=fun m u=>by rw [← Nat.shiftLeft_eq];rfl
  rw [e1] at g1
  rw [e2] at g2
  have fin : ∀ (z:Int),(FloatKind.f64.decode y).toInt .zero=some z → -32768≤z→z≤32767→(match (Ieee.Datum.number s M B).toInt .zero with | some n=>bif decide (IntKind.min .i16≤n)&&decide (n≤IntKind.max .i16) then some n else none | none=>none)=some z:=fun z hz z1 z2=>by
   rw [hd] at hz
   rw [hz]
   simp only
   rw [decide_eq_true (show IntKind.min .i16≤z from z1),decide_eq_true (show z≤IntKind.max .i16 from z2)]
   rfl
  cases s with
  | false =>
   rw [e1] at g1
   have k:Ieee.Toward.zero.cut false (M <<< B.toNat) (-B).toNat≤32767:=qagr 38 32767 (Int.ofNat_le.1 g1)
   refine ⟨((Ieee.Toward.zero.cut false (M <<< B.toNat) (-B).toNat:Nat):Int),fin _ ?_ (by omega) (by omega),by omega,by omega⟩
   rw [hd]
   simp only [Ieee.Datum.toInt,Ieee.Datum.integral,e1,Nat.pow_zero,Nat.mul_one]
  | true =>
   rw [e2] at g2
   have k:Ieee.Toward.zero.cut true (M <<< B.toNat) (-B).toNat≤32768:=qagr 37 32768 (Int.ofNat_le.1 (by omega))
   refine ⟨-((Ieee.Toward.zero.cut true (M <<< B.toNat) (-B).toNat:Nat):Int),fin _ ?_ (by omega) (by omega),by omega,by omega⟩
   rw [hd]
   simp only [Ieee.Datum.toInt,Ieee.Datum.integral,e2,Nat.pow_zero,Nat.mul_one]
theorem qavc {y:Nat} (h:fLt .f64 y 13898108450065350656=true):fLt .f64 4674736138332667904 y=false:=by
 have r1:FloatKind.f64.format.read 4674736138332667904 = .number false (32767*2^38) (-((38:Nat):Int)):=by decide
 have r2:FloatKind.f64.format.read 13898108450065350656 = .number true (32768*2^37) (-((37:Nat):Int)):=by decide
 unfold fLt Ieee.Format.order at h ⊢
 rw [r2] at h
 rw [r1]
 cases hd:FloatKind.f64.format.read y with
 | nan s t=>rfl
 | infinity s =>
  rw [hd] at h
  cases s
  ·simp [Ieee.Datum.order] at h
  ·rfl
 | number s M B =>
  rw [hd] at h
  simp only [Ieee.Datum.order,qar3,qn8] at h ⊢
  have h:=of_decide_eq_true h
  have e1 : ∀ (m:Nat) (u:Nat),Ieee.signed false m u=((m*2^u:Nat):Int):=fun m u=>by rw [← Nat.shiftLeft_eq];rfl
  have e2 : ∀ (m:Nat) (u:Nat),Ieee.signed true m u = -((m*2^u:Nat):Int):=fun m u=>by rw [← Nat.shiftLeft_eq];rfl
  apply decide_eq_false
  cases s with
  | false=>rw [e1,e2] at h;omega
  | true=>rw [e1,e2];omega
theorem qahz (x:Nat):qf6 x=some ((isNan .f32 x,()),()):=by
 simp only [qf6,qm6,Bool.not_not]
theorem qakg {b:Nat} (h:isNan .f32 b=true):isNan .f64 (conv64 b)=true:=by
 obtain ⟨s,t,hd⟩:=qa8.1 h
 have hc:=qi0 b
 unfold fConv at hc
 rw [show FloatKind.f32.decode b = .nan s t from hd] at hc
 have hc:nan .f64=conv64 b:=by simpa using hc
 rw [← hc]
 exact qem .f64
theorem qzs (x:Nat) : ∃ n:Int,qib x=some ((n,()),())∧qhd x=some ((n,()),()) ∧ -32768≤n∧n≤32767:=by
 have e0 : ∀ y,qja y=some ((fRound .even y,()),()):=fun _=>rfl
 simp only [qib,qhd,qahz,qi0,e0,qm6,Bool.not_not,Option.bind_some]
 have hL:isNan .f64 13898108450065350656=false:=by decide
 have hH:isNan .f64 4674736138332667904=false:=by decide
 cases hx:isNan .f32 x with
 | true =>
  have h1:isNan .f64 (fRound .even (conv64 x))=true:=by unfold fRound;rw [qakg hx];exact qem .f64
  rw [h1]
  exact ⟨0,rfl,rfl,by omega,by omega⟩
 | false =>
  have hy:isNan .f64 (fRound .even (conv64 x))=false:=qal9 (qal2 hx)
  rw [hy]
  generalize fRound .even (conv64 x)=y at *
  simp only [cond_false]
  rw [qaqk hL hy (by decide)]
  cases hl:fLt .f64 y 13898108450065350656 with
  | true =>
   have h2:fLt .f64 4674736138332667904 y=false:=qavc hl
   simp only [cond_true,h2,cond_false]
   exact ⟨-32768,by decide,rfl,by omega,by omega⟩
  | false =>
   simp only [cond_false]
   rw [qanr hH hy (by decide)]
   cases hh:fLt .f64 4674736138332667904 y with
   | true =>
    simp only [cond_true]
    exact ⟨32767,by decide,rfl,by omega,by omega⟩
   | false =>
    obtain ⟨n,h1,h2,h3⟩:=qapl hy hh hl
    simp only [cond_false,h1,Option.bind_some]
    exact ⟨n,rfl,rfl,h2,h3⟩
end
section
abbrev zLeg:DLeg:=(0,(0,0,0,()),0,0,())
def sT (l:List DLeg):Nat→Int
 | 0=>0
 | n+1=>sT l n+(l.getD n zLeg).1
theorem qqc {l:List DLeg} (h : ∀ x∈l,1≤x.1) : ∀ (d i:Nat),i+d≤l.length→sT l i+d≤sT l (i+d)
 | 0,i,_=>by simp
 | d+1,i,hi=>by
  have:=qqc h d i (by omega)
  have e:l.getD (i+d) zLeg=l[i+d]'(by omega):=qao (by omega)
  have h1:=h _ (List.getElem_mem (by omega:i+d<l.length))
  show _≤sT l (i+d)+(l.getD (i+d) zLeg).1
  rw [e]
  omega
theorem qtl {l:List DLeg} {i:Nat} (hi:i<l.length):sT l (i+1)=sT l i+l[i].1:=by
 show sT l i+(l.getD i zLeg).1=_
 rw [qao hi]
theorem qny {a:DMission} (hm:missionB a=true):a.2.2.2.1.length≤64∧(∀ x∈a.2.2.2.1,1≤x.1∧x.1≤400)∧(∀ x∈a.2.2.2.1,legB (iSub .i64 (lenI a.2.2.1) 1) x=true)∧frameB a.1 a.2.1 a.2.2.1=true:=by
 simp only [missionB,Bool.and_eq_true,qb8,List.all_eq_true,qaa] at hm
 obtain ⟨h0,h1,h2,_⟩:=hm
 refine ⟨by omega,fun x hx => ?_,h2,h0⟩
 have:=h2 x hx
 simp only [legB,Bool.and_eq_true,qb8] at this
 exact this.1
theorem qam4 (a:DMission) (s:List (Vec 3 Nat)×Int×Vec 3 Nat×Unit) (y:(Vec 3 Nat×Unit)×Unit) (i:Nat) (hi:i<a.2.2.2.1.length) (hs:s.2.1=i) (ht:1≤a.2.2.2.1[i].1∧a.2.2.2.1[i].1≤400) (hl:a.2.2.2.1.length≤64) (hn:(s.1.length:Int)=1+sT a.2.2.2.1 i) (hc:s.1.length≤1+400*i) :
  ∃ o,run (qb2 s a y) (s.1,(0:Int),s.2.2.1,())=some o∧((∃ (l:List (Vec 3 Nat)) (v:Vec 3 Nat),o = .inl (l,((i+1:Nat):Int),v,())∧(l.length:Int)=1+sT a.2.2.2.1 (i+1)∧l.length≤1+400*(i+1))∨o = .inr (([],4,()),())):=by
 refine qik (f:=qb2 s a y) (fun z=>0≤z.2.1∧z.2.1≤a.2.2.2.1[i].1∧(z.1.length:Int)=1+sT a.2.2.2.1 i+z.2.1∧(z.1.length:Int)≤1+400*i+z.2.1) (fun z=>(a.2.2.2.1[i].1-z.2.1).toNat) _ (fun z hz => ?_) (s:=(s.1,(0:Int),s.2.2.1,())) ⟨Int.le_refl _,by show (0:Int)≤_;omega,by show (s.1.length:Int)=1+sT a.2.2.2.1 i+0;omega,by show (s.1.length:Int)≤1+400*i+0;omega⟩
 obtain ⟨z1,z2,z3,⟨⟩⟩:=z
 obtain ⟨h1,h2,h3,h4⟩:=hz
 simp only at h1 h2 h3 h4
 have e1:inB s.2.1 a.2.2.2.1.length=true:=by rw [hs];exact qad hi
 have e4:a.2.2.2.1.getD s.2.1.toNat ((0,(0,0,0,()),0,0,()):DLeg)=a.2.2.2.1[i]:=by rw [hs,Int.toNat_natCast];exact qao hi
 have e6:iAdd .i64 s.2.1 1=((i+1:Nat):Int):=by rw [hs];exact qat hi (by omega)
 by_cases hlt:z2<a.2.2.2.1[i].1
 ·have e2:iLt z2 a.2.2.2.1[i].1=true:=qaf hlt
  have e3:room (z1.length+1) 12=true:=qbi (by omega)
  have e5:iAdd .i64 z2 1=z2+1:=qba (by omega) (by omega)
  simp only [qb2,e1,e2,e3,e4,e5,cond_true,qqi,qe6,Option.bind_some]
  cases finV (addV z3 y.1.1)
  ·exact .inr ⟨_,rfl,.inr rfl⟩
  ·refine .inl ⟨_,rfl,⟨by show (0:Int)≤z2+1;omega,by show z2+1≤_;omega,?_,?_⟩,?_⟩
   ·show ((z1++[_]).length:Int)=1+sT a.2.2.2.1 i+(z2+1)
    rw [List.length_append,List.length_singleton]
    omega
   ·show ((z1++[_]).length:Int)≤1+400*i+(z2+1)
    rw [List.length_append,List.length_singleton]
    omega
   ·show (a.2.2.2.1[i].1-(z2+1)).toNat<(a.2.2.2.1[i].1-z2).toNat
    omega
 ·have e2:iLt z2 a.2.2.2.1[i].1=false:=qag hlt
  simp only [qb2,e1,e2,e4,e6,cond_true,cond_false]
  have:=qtl hi
  exact .inr ⟨_,rfl,.inl ⟨z1,z3,rfl,by omega,by omega⟩⟩
theorem qyz (a:DMission) (hm:missionB a=true) : ∃ (l:List (Vec 3 Nat)) (k:Int),qb7 a=some ((l,k,()),())∧(k=0→(l.length:Int)=1+sT a.2.2.2.1 a.2.2.2.1.length)∧l.length≤30000:=by
 obtain ⟨hl,hx,_,_⟩:=qny hm
 have h : ∃ w,qb7 a=some w ∧ ∃ (l:List (Vec 3 Nat)) (k:Int),w=((l,k,()),())∧(k=0→(l.length:Int)=1+sT a.2.2.2.1 a.2.2.2.1.length)∧l.length≤30000:=by
  unfold qb7
  refine qik (f:=qci a) (fun s => ∃ i:Nat,s.2.1=i∧i≤a.2.2.2.1.length∧(s.1.length:Int)=1+sT a.2.2.2.1 i∧s.1.length≤1+400*i) (fun s=>(a.2.2.2.1.length-s.2.1).toNat) _ (fun s hs => ?_) ⟨0,rfl,Nat.zero_le _,rfl,by simp⟩
  obtain ⟨i,h1,h2,h3,h4⟩:=hs
  by_cases hlt:i<a.2.2.2.1.length
  ·have e1:iLt s.2.1 (lenI a.2.2.2.1)=true:=qaf (by rw [qaa];omega)
   have e2:inB s.2.1 a.2.2.2.1.length=true:=by rw [h1];exact qad hlt
   obtain ⟨o,ho,hq⟩:=qam4 a s ((scaleV (((List.getD a.2.2.2.1 s.2.1.toNat ((0,(0,0,0,()),0,0,()):DLeg)).2).1) (fDiv .f32 1065353216 (fOfInt .f32 a.1)),()),()) i hlt h1 (hx _ (List.getElem_mem hlt)) hl h3 h4
   simp only [qci,e1,e2,qji,Option.bind_some,cond_true,ho]
   rcases hq with ⟨l,v,rfl,hn,hc⟩ | rfl
   ·exact .inl ⟨_,rfl,⟨i+1,rfl,hlt,hn,hc⟩,by show ((a.2.2.2.1.length:Int)-((i+1:Nat):Int)).toNat<((a.2.2.2.1.length:Int)-s.2.1).toNat;omega⟩
   ·exact .inr ⟨_,rfl,[],4,rfl,fun q=>absurd q (by decide),by simp⟩
  ·have e1:iLt s.2.1 (lenI a.2.2.2.1)=false:=qag (by rw [qaa];omega)
   simp only [qci,e1,cond_false]
   have:i=a.2.2.2.1.length:=by omega
   exact .inr ⟨_,rfl,s.1,0,rfl,fun _=>by rw [h3,this],by omega⟩
 obtain ⟨w,h1,l,k,rfl,h2,h3⟩:=h
 exact ⟨l,k,h1,h2,h3⟩
theorem qsi (a:DMission) (h:Sized TyMission a) (hm:missionB a=true):qic a=qb7 a:=by
 obtain ⟨l,k,h1,_⟩:=qyz a hm
 have h1':=h1
 unfold qb7 at h1
 simp only [qic,qi7 a h,hm,Option.bind_some,qarw,Bool.not_true,cond_false,h1,h1']
theorem qapn (z:Int):0≤IntKind.u32.wrap z∧IntKind.u32.wrap z<4294967296:=by
 simp only [IntKind.wrap,IntKind.signed,IntKind.bits]
 constructor <;> simp <;> omega
theorem qu5 (z:Int) : -32768≤iWrap .i16 z∧iWrap .i16 z≤32767:=by
 simp only [iWrap,IntKind.wrap,IntKind.signed,IntKind.bits]
 constructor <;> simp <;> omega
theorem qauu {x:Int} (h0:0≤x) (h1:x<4294967296):iWrap .i64 (iShr .u32 x 16)=x/65536:=by
 have e:iShr .u32 x 16=x/65536:=by
  show x.fdiv (2^(min (16:Int).toNat 32))=_
  rw [show ((2:Int)^(min (16:Int).toNat 32))=65536 by decide,Int.fdiv_eq_ediv_of_nonneg _ (by decide)]
 rw [e,qfy (by omega) (by omega)]
theorem qao3 {x:Int} (h0:0≤x) (h1:x<4294967296):iQuo .u32 x 65536=x/65536:=by
 show IntKind.u32.wrap (x.tdiv 65536)=_
 rw [Int.tdiv_eq_ediv_of_nonneg h0]
 simp only [IntKind.wrap,IntKind.signed,IntKind.bits]
 simp
 omega
theorem qacw {x:Int} (h0:0≤x) (k:IntKind):iRem k x 9=x%9:=Int.tmod_eq_emod_of_nonneg h0
theorem qvo {x:Int} (h0:0≤x) (h1:x<4294967296):iRem .i64 (iWrap .i64 (iShr .u32 x 16)) 9=x/65536%9:=by rw [qauu h0 h1,qacw (by omega)]
theorem qaam {x:Int} (h0:0≤x) (h1:x<4294967296):iRem .i64 (iWrap .i64 (iQuo .u32 x 65536)) 9=x/65536%9:=by rw [qao3 h0 h1,qfy (by omega) (by omega),qacw (by omega)]
theorem qahi {x:Int} (h0:0≤x) (h1:x<4294967296):iWrap .i64 (iRem .u32 (iQuo .u32 x 65536) 9)=x/65536%9:=by rw [qao3 h0 h1,qacw (by omega),qfy (by omega) (by omega)]
theorem qan8 (a b:Int):qkb a b=some ((min a b,()),()):=by
 unfold qkb
 by_cases h:a<b
 ·rw [qaf h,cond_true,Int.min_eq_left (by omega)]
 ·rw [qag h,cond_false,Int.min_eq_right (by omega)]
theorem qap5 (v:Int):min 32767 (max (-32768) v)=max (-32768) (min 32767 v):=by omega
def nx (s:Int):Int:=iAdd .u32 (iMul .u32 1664525 s) 1013904223
theorem qt6 (s:Int):0≤nx s∧nx s<4294967296:=qapn _
theorem qahr (v:Vec 3 Int) (s:Int) : ∃ (u:Vec 3 Int) (s':Int),qi4 v s 4=some ((u,s',0,()),())∧qjj v s 4=some ((u,s',0,()),())∧Fit (.arr 3 (.int .i16)) u∧0≤s'∧s'<4294967296:=by
 have c1:iLt 4 0=false:=by decide
 have c2:iAdd .i64 (iMul .i64 2 (iWrap .i64 4)) 1=9:=by decide
 have c3:iEq 9 0=false:=by decide
 have hx : ∀ z,iAdd .u32 (iMul .u32 1664525 z) 1013904223=nx z:=fun _=>rfl
 have r1:=qt6 s
 have r2:=qt6 (nx s)
 have r3:=qt6 (nx (nx s))
 refine ⟨((iWrap .i16 (max (-32768) (min 32767 (iAdd .i64 (iWrap .i64 (Vec.getD 3 v 0 (0:Int))) (iSub .i64 (nx s/65536%9) (iWrap .i64 4)))))),(iWrap .i16 (max (-32768) (min 32767 (iAdd .i64 (iWrap .i64 (Vec.getD 3 v 1 (0:Int))) (iSub .i64 (nx (nx s)/65536%9) (iWrap .i64 4)))))),(iWrap .i16 (max (-32768) (min 32767 (iAdd .i64 (iWrap .i64 (Vec.getD 3 v 2 (0:Int))) (iSub .i64 (nx (nx (nx s))/65536%9) (iWrap .i64 4)))))),()),nx (nx (nx s)),?_,?_,⟨qu5 _,qu5 _,qu5 _,trivial⟩,r3⟩
 ·simp only [qi4,c1,c2,c3,hx,qvo r1.1 r1.2,qvo r2.1 r2.2,qvo r3.1 r3.2,qasr,qasq,qap5,cond_false]
  rfl
 ·simp only [qjj,c1,c2,c3,hx,qaam r1.1 r1.2,qaam r2.1 r2.2,qaam r3.1 r3.2,qan8,qan7,Option.bind_some,cond_false]
abbrev dSen:Vec 3 Nat×(Vec 3 Nat×(Int×(Int×Unit))):=((1031798784,1031798784,1031798784,()),(0,0,0,()),1,0,())
theorem qatp:qqp dSen=some ((true,()),()):=by kernel_rfl
theorem qzt (p:Vec 3 Nat) : ∃ u:Vec 3 Int,qmt dSen p=some ((u,()),())∧qmw dSen p=some ((u,0,()),()):=by
 obtain ⟨n0,a0,b0,_⟩:=qzs (fDiv .f32 (fSub .f32 (Vec.getD 3 p 0 (0:Nat)) (Vec.getD 3 dSen.2.1 0 (0:Nat))) (Vec.getD 3 dSen.1 0 (0:Nat)))
 obtain ⟨n1,a1,b1,_⟩:=qzs (fDiv .f32 (fSub .f32 (Vec.getD 3 p 1 (0:Nat)) (Vec.getD 3 dSen.2.1 1 (0:Nat))) (Vec.getD 3 dSen.1 1 (0:Nat)))
 obtain ⟨n2,a2,b2,_⟩:=qzs (fDiv .f32 (fSub .f32 (Vec.getD 3 p 2 (0:Nat)) (Vec.getD 3 dSen.2.1 2 (0:Nat))) (Vec.getD 3 dSen.1 2 (0:Nat)))
 refine ⟨(n0,n1,n2,()),?_,?_⟩
 ·simp only [qmt,a0,a1,a2,Option.bind_some]
 ·simp only [qmw,qqo,qatp,b0,b1,b2,Option.bind_some,Bool.not_true,cond_false]
theorem qadp (n:Int):entryB n (1,(0,0,0,()),(0,0,0,()),0,0,())=true:=by kernel_rfl
theorem qab4 (n:Int) (v:Vec 3 Nat):entryB n (2,v,(0,0,0,()),0,0,())=finV v:=by kernel_rfl
theorem qzv (n:Int) (v:Vec 3 Int):entryB n (3,(0,0,0,()),v,0,0,())=true:=by kernel_rfl
theorem qab3 (n i:Int) (x:Nat):entryB n (4,(0,0,0,()),(0,0,0,()),i,x,())=((iLe 0 i&&iLe i (iSub .i64 n 1))&&(true&&(true&&finB x))):=by kernel_rfl
theorem qapd (a b:Vec 3 Nat):qj5 a b=qdl a b:=by kernel_rfl
def dotR (a b:Vec 3 Nat):Nat:=fAdd .f32 (fAdd .f32 (fMul .f32 (Vec.getD 3 a 0 (0:Nat)) (Vec.getD 3 b 0 (0:Nat))) (fMul .f32 (Vec.getD 3 a 1 (0:Nat)) (Vec.getD 3 b 1 (0:Nat)))) (fMul .f32 (Vec.getD 3 a 2 (0:Nat)) (Vec.getD 3 b 2 (0:Nat)))
theorem qapc (a:Vec 3 Nat):qdo a=some ((rootF (dotR a a),()),()):=by
 have e:qj4 a a=some ((dotR a a,()),()):=by
  simp only [qj4,qaj3,Option.bind_some]
  rfl
 simp only [qdo,e,qk5,Option.bind_some]
theorem qaf0 (a:Vec 3 Nat):qen a=some ((rootF (dotR a a),()),()):=by
 have e:qmp a a=some ((dotR a a,()),()):=rfl
 simp only [qen,e,qfp,Option.bind_some]
theorem qapb (x:Nat):qaj [x]=some ((finB x,()),()):=by rw [qcf _ (by simp)];simp
def GoodE (n:Int) (e:DEntry):Prop:=entryB n e=true∧Fit (.arr 3 (.int .i16)) e.2.2.1
theorem qnv:Fit (.arr 3 (.int .i16)) ((0,0,0,()):Vec 3 Int):=⟨⟨by decide,by decide⟩,⟨by decide,by decide⟩,⟨by decide,by decide⟩,trivial⟩
def GoodL (a:DMission) (c:Int) (g:DLog):Prop:=g.1=a.1∧g.2.1=a.2.1∧g.2.2.1=a.2.2.1∧(g.2.2.2.1.length:Int)≤c ∧ ∀ e∈g.2.2.2.1,GoodE (lenI a.2.2.1) e
theorem GoodL.add {a:DMission} {c:Int} {g:DLog} (h:GoodL a c g) {e:DEntry} (he:GoodE (lenI a.2.2.1) e):GoodL a (c+1) (g.1,g.2.1,g.2.2.1,g.2.2.2.1++[e],g.2.2.2.2):=by
 refine ⟨h.1,h.2.1,h.2.2.1,?_,fun x hx => ?_⟩
 ·show ((g.2.2.2.1++[e]).length:Int)≤c+1
  rw [List.length_append,List.length_singleton]
  have:=h.2.2.2.1
  omega
 ·rcases List.mem_append.1 hx with q | q
  ·exact h.2.2.2.2 x q
  ·rw [List.mem_singleton.1 q];exact he
theorem GoodL.le {a:DMission} {c d:Int} {g:DLog} (h:GoodL a c g) (hd:c≤d):GoodL a d g:=⟨h.1,h.2.1,h.2.2.1,by have:=h.2.2.2.1;omega,h.2.2.2.2⟩
abbrev zLog:DLog:=(0,(0,0,0,()),[],[],())
abbrev DRun:=Int×Int×Int×DLog×Unit
abbrev DRan:=(DLog×Int×Unit)×Unit
theorem qas2 (a:DMission) (hm:missionB a=true) (hmk:a.2.2.1.length≤140737488355328) {L:List (Vec 3 Nat)} (hL:(L.length:Int)=1+sT a.2.2.2.1 a.2.2.2.1.length) (hL2:L.length≤30000) {i:Nat} (hi:i<a.2.2.2.1.length) {s0 s1:Int} {g0 g1:DLog} (hg:GoodL a (1000*i+1) g1) (h0:0≤s1) (h1:s1<4294967296) (n0:Int) :
  ∃ o:DRun⊕DRan,run (qev a.2.2.2.1[i] ((L,0,()),()) (s0,n0,(i:Int),g0,()) a) (s1,sT a.2.2.2.1 i,(1:Int),g1,())=some o∧run (qcr a.2.2.2.1[i] ((L,0,()),()) (s0,n0,(i:Int),g0,()) a) (s1,sT a.2.2.2.1 i,(1:Int),g1,())=some o ∧
   ((∃ (s':Int) (g':DLog),o = .inl (s',sT a.2.2.2.1 (i+1),((i+1:Nat):Int),g',())∧0≤s'∧s'<4294967296∧GoodL a (1000*(i+1)) g')∨o = .inr ((zLog,4,()),())):=by
 obtain ⟨hl,hx,hx2,_⟩:=qny hm
 have hx1 : ∀ x∈a.2.2.2.1,1≤x.1:=fun x q=>(hx x q).1
 have ht:=hx _ (List.getElem_mem hi)
 have hleg:=hx2 _ (List.getElem_mem hi)
 simp only [legB,Bool.and_eq_true,qb8] at hleg
 obtain ⟨_,_,hev,hmark⟩:=hleg
 have hS:=qtl hi
 have hmono:=qqc hx1 (a.2.2.2.1.length-(i+1)) (i+1) (by omega)
 rw [show i+1+(a.2.2.2.1.length-(i+1))=a.2.2.2.1.length by omega] at hmono
 have hpos:=qqc hx1 i 0 (by omega)
 rw [Nat.zero_add] at hpos
 have hz:sT a.2.2.2.1 0=0:=rfl
 have emk:iSub .i64 (lenI a.2.2.1) 1=lenI a.2.2.1-1:=qcm (by rw [qaa];omega) (by rw [qaa];omega)
 rw [emk] at hmark
 generalize hX:a.2.2.2.1[i]=X at *
 obtain ⟨o,o',r1,r2,rfl,hq⟩:=qxd (f:=qev X ((L,0,()),()) (s0,n0,(i:Int),g0,()) a) (g:=qcr X ((L,0,()),()) (s0,n0,(i:Int),g0,()) a)
  (fun s t=>s=t ∧ ∃ (sd k:Int) (g:DLog),s=(sd,sT a.2.2.2.1 i+(k-1),k,g,())∧0≤sd∧sd<4294967296∧1≤k∧k≤X.1+1∧GoodL a (1000*i+1+2*(k-1)) g) (fun s=>(X.1+1-s.2.2.1).toNat)
  (fun o o':DRun⊕DRan=>o=o'∧((∃ (s':Int) (g':DLog),o = .inl (s',sT a.2.2.2.1 (i+1),((i+1:Nat):Int),g',())∧0≤s'∧s'<4294967296∧GoodL a (1000*(i+1)) g')∨o = .inr ((zLog,4,()),()))) (fun s t hR=>by
   obtain ⟨rfl,sd,k,g,rfl,hs0,hs1,hk1,hk2,hG⟩:=hR
   have hlen:=hG.2.2.2.1
   by_cases hk:k≤X.1
   ·have e1:iLe k X.1=true:=qa3 hk
    have e2:iAdd .i64 (sT a.2.2.2.1 i+(k-1)) 1=sT a.2.2.2.1 i+(k+1-1):=by rw [qba (by omega) (by omega)];omega
    have e3:room (g.2.2.2.1.length+1) 48=true:=qbi (by omega)
    have e4:iAdd .i64 k 1=k+1:=qba (by omega) (by omega)
    have e5:inB (sT a.2.2.2.1 i+(k+1-1)) L.length=true:=qii (by omega) (by omega)
    have G1:=hG.add (e:=(1,(0,0,0,()),(0,0,0,()),0,0,())) ⟨qadp _,qnv⟩
    have e6:room ((g.2.2.2.1++[((1,(0,0,0,()),(0,0,0,()),0,0,()):DEntry)]).length+1) 48=true:=qbi (by rw [List.length_append,List.length_singleton];omega)
    have done : ∀ (sd':Int) (g':DLog),0≤sd'→sd'<4294967296→GoodL a (1000*i+1+2*(k+1-1)) g'→(∃ (s' t':DRun),(some (.inl (sd',sT a.2.2.2.1 i+(k+1-1),k+1,g',())):Option (DRun⊕(DRun⊕DRan)))=some (.inl s')∧(some (.inl (sd',sT a.2.2.2.1 i+(k+1-1),k+1,g',())):Option (DRun⊕(DRun⊕DRan)))=some (.inl t')∧(s'=t' ∧ ∃ (sd k:Int) (g:DLog),s'=(sd,sT a.2.2.2.1 i+(k-1),k,g,())∧0≤sd∧sd<4294967296∧1≤k∧k≤X.1+1∧GoodL a (1000*i+1+2*(k-1)) g)∧(X.1+1-s'.2.2.1).toNat<(X.1+1-k).toNat):=fun sd' g' q1 q2 q3 =>
     ⟨_,_,rfl,rfl,⟨rfl,sd',k+1,g',rfl,q1,q2,by omega,by omega,q3⟩,by show (X.1+1-(k+1)).toNat<(X.1+1-k).toNat;omega⟩
    left
    simp only [qev,qcr,e1,e2,e3,e4,cond_true]
    cases he:iEq X.2.2.1 0 with
    | true =>
     have e7:iLt 0 X.2.2.1=false:=qag (by have:=qas.1 he;omega)
     simp only [e7,cond_true,cond_false]
     exact done _ _ hs0 hs1 (G1.le (by omega))
    | false =>
     have e7:iLt 0 X.2.2.1=true:=qaf (by have:=qda.1 he;omega)
     simp only [e7,cond_true,cond_false]
     cases hr:iEq (iRem .i64 k X.2.2.1) 0 with
     | false =>
      simp only [Bool.not_false,cond_true,cond_false]
      exact done _ _ hs0 hs1 (G1.le (by omega))
     | true =>
      obtain ⟨u,c1,c2⟩:=qzt (L.getD (sT a.2.2.2.1 i+(k+1-1)).toNat ((0,0,0,()):Vec 3 Nat))
      obtain ⟨v,sd',k1,k2,k3,k4,k5⟩:=qahr u sd
      have f1:qgf=some ((dSen,()),()):=rfl
      have f2:qe8=some ((dSen,()),()):=rfl
      simp only [f1,f2,e5,c1,c2,k1,k2,e6,Bool.not_true,Option.bind_some,cond_true,cond_false]
      exact done _ _ k4 k5 ((G1.add (e:=(3,(0,0,0,()),v,0,0,())) ⟨qzv _ _,k3⟩).le (by omega))
   ·have e1:iLe k X.1=false:=qg9 hk
    have hk':k=X.1+1:=by omega
    have e4:iAdd .i64 (i:Int) 1=((i+1:Nat):Int):=qat hi (by omega)
    have en:sT a.2.2.2.1 i+(k-1)=sT a.2.2.2.1 (i+1):=by omega
    right
    simp only [qev,qcr,e1,e4,en,cond_false]
    cases hmk0:iLt X.2.2.2.1 0 with
    | true =>
     simp only [cond_true,Option.map_some]
     exact ⟨_,_,rfl,rfl,rfl,.inl ⟨sd,_,rfl,hs0,hs1,hG.le (by omega)⟩⟩
    | false =>
     have hm0:0≤X.2.2.2.1:=by
      apply Classical.byContradiction
      intro q
      rw [qaf (by omega)] at hmk0
      cases hmk0
     have hm1:=hmark.2
     rw [qaa] at hm1
     have e5:inB (sT a.2.2.2.1 (i+1)) L.length=true:=qii (by omega) (by omega)
     have e6:inB X.2.2.2.1 a.2.2.1.length=true:=qii hm0 (by omega)
     have e7:room (g.2.2.2.1.length+1) 48=true:=qbi (by omega)
     have hxx:iAdd .u32 (iMul .u32 1664525 sd) 1013904223=nx sd:=rfl
     have rr:=qt6 sd
     have hsub : ∃ m,qdl (L.getD (sT a.2.2.2.1 (i+1)).toNat ((0,0,0,()):Vec 3 Nat)) (a.2.2.1.getD X.2.2.2.1.toNat ((0,0,0,()):Vec 3 Nat))=some ((m,()),()):=⟨_,rfl⟩
     obtain ⟨m,hsub⟩:=hsub
     simp only [e5,e6,hxx,qapd,hsub,qapc,qaf0,qvo rr.1 rr.2,qahi rr.1 rr.2,qapb,qbg,Option.bind_some,cond_true,cond_false]
     generalize hV:fAdd .f32 (rootF (dotR m m)) (fDiv .f32 (fOfInt .f32 (iSub .i64 (nx sd/65536%9) 4)) 1098907648)=V
     cases hf:finB V with
     | false =>
      simp only [Bool.not_false,cond_true,Option.map_some]
      exact ⟨_,_,rfl,rfl,rfl,.inr rfl⟩
     | true =>
      simp only [e7,Bool.not_true,cond_true,cond_false,Option.map_some]
      refine ⟨_,_,rfl,rfl,rfl,.inl ⟨nx sd,_,rfl,rr.1,rr.2,((hG.add (e:=(4,(0,0,0,()),(0,0,0,()),X.2.2.2.1,V,())) ⟨?_,qnv⟩).le (by omega))⟩⟩
      rw [qab3,emk,hf,qa3 hm0,qa3 (by rw [qaa];omega)]
      rfl) ⟨rfl,s1,1,g1,by rw [show sT a.2.2.2.1 i+((1:Int)-1)=sT a.2.2.2.1 i by omega],h0,h1,by omega,by omega,hg.le (by omega)⟩
 exact ⟨o,r1,r2,hq⟩
theorem qaju (a:DMission) (hsz:Sized TyMission a) (hm:missionB a=true) {sd:Int} (h0:0≤sd) (h1:sd<4294967296) (hmk:a.2.2.1.length*12≤140737488351232) :
  ∃ (g:DLog) (k:Int),qfj a sd=some ((g,k,()),())∧qd6 a sd=some ((g,k,()),())∧((k=0∧GoodL a 1200 g)∨(k≠0∧g=zLog)):=by
 obtain ⟨L,k,t1,t2,t3⟩:=qyz a hm
 have t4:=qsi a hsz hm
 have c1:=qt9 a.2.2.1 (by omega)
 have c2:room (0+a.2.2.1.length) 12=true:=qbi (by omega)
 simp only [qfj,qd6,t4,t1,c1,c2,Option.bind_some,List.nil_append,cond_true]
 cases hk:iEq k 0 with
 | false=>exact ⟨zLog,k,rfl,rfl,.inr ⟨qda.1 hk,rfl⟩⟩
 | true =>
  have hk0:k=0:=qas.1 hk
  subst hk0
  have hL:=t2 rfl
  obtain ⟨hl,hx,hx2,_⟩:=qny hm
  simp only [Bool.not_true,cond_false]
  obtain ⟨o,o',r1,r2,rfl,hq⟩:=qxd (f:=qhg a ((L,0,()),())) (g:=qe7 a ((L,0,()),()))
   (fun s t=>s=t ∧ ∃ (i:Nat) (sd:Int) (g:DLog),s=(sd,sT a.2.2.2.1 i,(i:Int),g,())∧i≤a.2.2.2.1.length∧0≤sd∧sd<4294967296∧GoodL a (1000*i) g) (fun s=>(a.2.2.2.1.length-s.2.2.1).toNat)
   (fun o o':DRan=>o=o' ∧ ∃ (g:DLog) (k:Int),o=((g,k,()),())∧((k=0∧GoodL a 1200 g)∨(k≠0∧g=zLog))) (fun s t hR=>by
    obtain ⟨rfl,i,sd,g,rfl,hi,q0,q1,hG⟩:=hR
    have hlen:=hG.2.2.2.1
    by_cases hlt:i<a.2.2.2.1.length
    ·have e1:iLt (i:Int) (lenI a.2.2.2.1)=true:=qaf (by rw [qaa];omega)
     have e2:inB (i:Int) a.2.2.2.1.length=true:=qad hlt
     have e3:room (g.2.2.2.1.length+1) 48=true:=qbi (by omega)
     have e4:a.2.2.2.1.getD i ((0,(0,0,0,()),0,0,()):DLeg)=a.2.2.2.1[i]:=qao hlt
     have hv:finV a.2.2.2.1[i].2.1=true:=by
      have:=hx2 _ (List.getElem_mem hlt)
      simp only [legB,Bool.and_eq_true] at this
      exact this.2.1
     have hG1:=hG.add (e:=(2,a.2.2.2.1[i].2.1,(0,0,0,()),0,0,())) ⟨(qab4 _ _).trans hv,qnv⟩
     obtain ⟨o,r1,r2,hq⟩:=qas2 a hm (by omega) hL t3 hlt (s0:=sd) (g0:=g) hG1 q0 q1 (sT a.2.2.2.1 i)
     simp only [qhg,qe7,e1,e2,e3,e4,Int.toNat_natCast,cond_true]
     rw [r1,r2]
     rcases hq with ⟨s',g',rfl,p0,p1,p2⟩ | rfl
     ·exact .inl ⟨_,_,rfl,rfl,⟨rfl,i+1,s',g',rfl,hlt,p0,p1,p2.le (by omega)⟩,by show ((a.2.2.2.1.length:Int)-((i+1:Nat):Int)).toNat<((a.2.2.2.1.length:Int)-(i:Int)).toNat;omega⟩
     ·exact .inr ⟨_,_,rfl,rfl,rfl,zLog,4,rfl,.inr ⟨by decide,rfl⟩⟩
    ·have e1:iLt (i:Int) (lenI a.2.2.2.1)=false:=qag (by rw [qaa];omega)
     right
     simp only [qhg,qe7,e1,cond_false]
     cases hc:iLt 1200 (lenI g.2.2.2.1) with
     | true=>exact ⟨_,_,rfl,rfl,rfl,zLog,3,rfl,.inr ⟨by decide,rfl⟩⟩
     | false =>
      have hc':(g.2.2.2.1.length:Int)≤1200:=by
       apply Classical.byContradiction
       intro q
       rw [qaf (by rw [qaa];omega)] at hc
       cases hc
      exact ⟨_,_,rfl,rfl,rfl,g,0,rfl,.inl ⟨rfl,hG.1,hG.2.1,hG.2.2.1,hc',hG.2.2.2.2⟩⟩) (s:=(sd,(0:Int),(0:Int),((a.1,a.2.1,a.2.2.1,[],()):DLog),())) ⟨rfl,0,sd,_,rfl,Nat.zero_le _,h0,h1,rfl,rfl,rfl,Int.le_refl _,fun e he=>by cases he⟩
  obtain ⟨g,k,rfl,hq⟩:=hq
  exact ⟨g,k,r1,r2,hq⟩
theorem qadw {a:DMission} (hsz:Sized TyMission a) {g:DLog} (h:GoodL a 1200 g):Sized TyLog g:=by
 refine ⟨qlt (t:=.int .i64) rfl g.1,qlt (t:=TyVec) rfl g.2.1,?_,qamy (t:=TyEntry) rfl (l:=g.2.2.2.1) (Nat.le_trans (Int.ofNat_le.1 h.2.2.2.1) (by decide)),trivial⟩
 rw [h.2.2.1]
 exact hsz.2.2.1
end
section
theorem qaj7 {a:DMission} (hm:missionB a=true) {sd:Int} {g:DLog} (h:qd6 a sd=some ((g,0,()),())) : ∃ L,qb7 a=some ((L,0,()),())∧0<L.length∧L.length≤30000:=by
 obtain ⟨L,k,t1,t2,t3⟩:=qyz a hm
 cases hk:iEq k 0 with
 | true =>
  have hk0:=qas.1 hk
  subst hk0
  have h1:=t2 rfl
  obtain ⟨_,hx,_,_⟩:=qny hm
  have h2:=qqc (fun x q=>(hx x q).1) a.2.2.2.1.length 0 (by omega)
  have hz:sT a.2.2.2.1 0=0:=rfl
  rw [Nat.zero_add] at h2
  exact ⟨L,t1,by omega,t3⟩
 | false =>
  simp only [qd6,t1,hk,Option.bind_some,Bool.not_false,cond_true,Option.some.injEq,Prod.mk.injEq] at h
  exact absurd h.1.2.1 (qda.1 hk)
theorem qamk (a:DMission) (ha:Fit TyMission a) {sd:Int} (hs:Fit (.int .u32) sd) : ∃ (x:Nat) (k:Int),qmb a sd=some ((x,k,()),())∧qmn a sd=some ((x,k,()),()):=by
 have sa:Sized TyMission a:=qld rfl ha
 have hmk:a.2.2.1.length*12≤140737488351232:=ha.2.2.1.1
 have h0:0≤sd∧sd<4294967296:=⟨hs.1,by have:sd≤4294967295:=hs.2;omega⟩
 cases hm:missionB a with
 | false =>
  refine ⟨0,1,?_,?_⟩
  ·simp only [qmb,qfj,qic,qi7 a sa,hm,Option.bind_some]
   rfl
  ·simp only [qmn,qsb a sa,hm,Option.bind_some]
   rfl
 | true =>
  obtain ⟨g,k,r1,r2,hq⟩:=qaju a sa hm h0.1 h0.2 hmk
  simp only [qmb,qmn,qsb a sa,hm,r1,r2,Option.bind_some,Bool.not_true,cond_false]
  rcases hq with ⟨rfl,hG⟩ | ⟨hk,rfl⟩
  ·obtain ⟨L,t1,t2,t3⟩:=qaj7 hm r2
   have t4:=qsi a sa hm
   have sg:=qadw sa hG
   have hb:logB g=true:=by
    obtain ⟨_,_,_,hf⟩:=qny hm
    have h1:iLe (lenI g.2.2.2.1) 1200=true:=qa3 hG.2.2.2.1
    have h2:g.2.2.2.1.all (entryB (lenI g.2.2.1))=true:=List.all_eq_true.2 fun e he=>by rw [hG.2.2.1];exact (hG.2.2.2.2 e he).1
    show (frameB g.1 g.2.1 g.2.2.1&&_)=true
    rw [hG.1,hG.2.1,hG.2.2.1,hf,h1,← hG.2.2.1,h2]
    rfl
   have hv:=qag9 hb
   obtain ⟨w,l,k,p1,p2,_⟩:=qamv sg.2.2.1.1 (fun e he=>(hG.2.2.2.2 e he).2) hb (qtr hv) (lo:=0) (hi:=lenI g.2.2.2.1) (by omega) (by rw [qaa];omega) (by rw [qaa];omega)
   have i0:(!iEq (0:Int) 0)=false:=rfl
   have q1:qia (g.1,g.2.1,g.2.2.1,g.2.2.2.1,g.2.2.2.2)=some ((w,k,()),()):=by
    show qia g=_
    simp only [qia,qe1 g sg,hb,qrm g hv,p1,Option.bind_some,Bool.not_true,cond_false]
   have q2:qgm (g.1,g.2.1,g.2.2.1,g.2.2.2.1,g.2.2.2.2) (firstS g.2.1) 0 (lenI g.2.2.2.1)=some ((w,l,k,()),()):=p2
   have q3:qj1 (g.1,g.2.1,g.2.2.1,g.2.2.2.1,g.2.2.2.2)=some ((firstS g.2.1,()),()):=qup g
   simp only [i0,q1,q2,q3,Option.bind_some,cond_false]
   cases hk:iEq k 0 with
   | false=>exact ⟨_,_,rfl,rfl⟩
   | true =>
    have e1:iSub .i64 (lenI L) 1=((L.length-1:Nat):Int):=by rw [qaa,qcm (by omega) (by omega)];omega
    have e2:inB ((L.length-1:Nat):Int) L.length=true:=qad (by omega)
    have h3 : ∃ q,qhf w=some ((q,()),())∧qhc w=some ((q,()),()):=⟨_,rfl,rfl⟩
    obtain ⟨q,y1,y2⟩:=h3
    obtain ⟨m,hsub⟩ : ∃ m,qdl q (L.getD (L.length-1) ((0,0,0,()):Vec 3 Nat))=some ((m,()),()):=⟨_,rfl⟩
    simp only [t1,t4,e1,e2,y1,y2,Int.toNat_natCast,qapd,hsub,qapc,qaf0,qju,qapb,qbg,Option.bind_some,Bool.not_true,cond_true,cond_false]
    cases finB (rootF (dotR m m)) with
    | false=>exact ⟨_,_,rfl,rfl⟩
    | true=>exact ⟨_,_,rfl,rfl⟩
  ·rw [qaz hk]
   exact ⟨_,_,rfl,rfl⟩
end
section
def pv (t:Int) (v:Vec 3 Nat):Prop:=pw .f32 v.1 t∧pw .f32 v.2.1 t∧pw .f32 v.2.2.1 t
theorem qaes {t:Int} {v:Vec 3 Nat} (h:pv t v):finV v=true:=by
 have h1:finB (Vec.getD 3 v 0 (0:Nat))=true:=qaet h.1
 have h2:finB (Vec.getD 3 v 1 (0:Nat))=true:=qaet h.2.1
 have h3:finB (Vec.getD 3 v 2 (0:Nat))=true:=qaet h.2.2
 unfold finV
 rw [h1,h2,h3]
 rfl
theorem qaun {a b:Vec 3 Nat} (ha:pv 46 a) (hb:pv 20 b):pv 46 (addV a b):=⟨qajp ha.1 hb.1,qajp ha.2.1 hb.2.1,qajp ha.2.2 hb.2.2⟩
theorem qam5 (a:DMission) (s:List (Vec 3 Nat)×Int×Vec 3 Nat×Unit) (y:(Vec 3 Nat×Unit)×Unit) (hy:pv 20 y.1.1) (i:Nat) (hi:i<a.2.2.2.1.length) (hs:s.2.1=i) (ht:1≤a.2.2.2.1[i].1∧a.2.2.2.1[i].1≤400) (hl:a.2.2.2.1.length≤64) (hn:(s.1.length:Int)=1+sT a.2.2.2.1 i) (hc:s.1.length≤1+400*i) (hv:pv 46 s.2.2.1) (hall : ∀ v∈s.1,pv 46 v) :
  ∃ o,run (qb2 s a y) (s.1,(0:Int),s.2.2.1,())=some o ∧ ∃ (l:List (Vec 3 Nat)) (v:Vec 3 Nat),o = .inl (l,((i+1:Nat):Int),v,())∧(l.length:Int)=1+sT a.2.2.2.1 (i+1)∧l.length≤1+400*(i+1)∧pv 46 v ∧ ∀ v∈l,pv 46 v:=by
 refine qik (f:=qb2 s a y) (fun z=>0≤z.2.1∧z.2.1≤a.2.2.2.1[i].1∧(z.1.length:Int)=1+sT a.2.2.2.1 i+z.2.1∧(z.1.length:Int)≤1+400*i+z.2.1∧pv 46 z.2.2.1 ∧ ∀ v∈z.1,pv 46 v) (fun z=>(a.2.2.2.1[i].1-z.2.1).toNat) _ (fun z hz => ?_) (s:=(s.1,(0:Int),s.2.2.1,())) ⟨Int.le_refl _,by show (0:Int)≤_;omega,by show (s.1.length:Int)=1+sT a.2.2.2.1 i+0;omega,by show (s.1.length:Int)≤1+400*i+0;omega,hv,hall⟩
 obtain ⟨z1,z2,z3,⟨⟩⟩:=z
 obtain ⟨h1,h2,h3,h4,h5,h6⟩:=hz
 simp only at h1 h2 h3 h4 h5 h6
 have e1:inB s.2.1 a.2.2.2.1.length=true:=by rw [hs];exact qad hi
 have e4:a.2.2.2.1.getD s.2.1.toNat ((0,(0,0,0,()),0,0,()):DLeg)=a.2.2.2.1[i]:=by rw [hs,Int.toNat_natCast];exact qao hi
 have e6:iAdd .i64 s.2.1 1=((i+1:Nat):Int):=by rw [hs];exact qat hi (by omega)
 by_cases hlt:z2<a.2.2.2.1[i].1
 ·have e2:iLt z2 a.2.2.2.1[i].1=true:=qaf hlt
  have e3:room (z1.length+1) 12=true:=qbi (by omega)
  have e5:iAdd .i64 z2 1=z2+1:=qba (by omega) (by omega)
  have hp:=qaun h5 hy
  simp only [qb2,e1,e2,e3,e4,e5,cond_true,qqi,qe6,Option.bind_some,qaes hp]
  refine .inl ⟨_,rfl,⟨by show (0:Int)≤z2+1;omega,by show z2+1≤_;omega,?_,?_,hp,?_⟩,?_⟩
  ·show ((z1++[_]).length:Int)=1+sT a.2.2.2.1 i+(z2+1)
   rw [List.length_append,List.length_singleton]
   omega
  ·show ((z1++[_]).length:Int)≤1+400*i+(z2+1)
   rw [List.length_append,List.length_singleton]
   omega
  ·intro v hv
   rcases List.mem_append.1 hv with hv | hv
   ·exact h6 v hv
   ·rw [List.mem_singleton.1 hv];exact hp
  ·show (a.2.2.2.1[i].1-(z2+1)).toNat<(a.2.2.2.1[i].1-z2).toNat
   omega
 ·have e2:iLt z2 a.2.2.2.1[i].1=false:=qag hlt
  simp only [qb2,e1,e2,e4,e6,cond_true,cond_false]
  have:=qtl hi
  exact .inr ⟨_,rfl,z1,z3,rfl,by omega,by omega,h5,h6⟩
theorem qam6 (a:DMission) (hm:missionB a=true) (hs:pv 46 a.2.1) (hx : ∀ x∈a.2.2.2.1,pv 20 (scaleV x.2.1 (fDiv .f32 1065353216 (fOfInt .f32 a.1)))) :
  ∃ l:List (Vec 3 Nat),qb7 a=some ((l,0,()),())∧(l.length:Int)=1+sT a.2.2.2.1 a.2.2.2.1.length∧l.length≤30000 ∧ ∀ v∈l,pv 46 v:=by
 obtain ⟨hl,ht,_,_⟩:=qny hm
 have h : ∃ w,qb7 a=some w ∧ ∃ l:List (Vec 3 Nat),w=((l,0,()),())∧(l.length:Int)=1+sT a.2.2.2.1 a.2.2.2.1.length∧l.length≤30000 ∧ ∀ v∈l,pv 46 v:=by
  unfold qb7
  refine qik (f:=qci a) (fun s => ∃ i:Nat,s.2.1=i∧i≤a.2.2.2.1.length∧(s.1.length:Int)=1+sT a.2.2.2.1 i∧s.1.length≤1+400*i∧pv 46 s.2.2.1 ∧ ∀ v∈s.1,pv 46 v) (fun s=>(a.2.2.2.1.length-s.2.1).toNat) _ (fun s hs => ?_) ⟨0,rfl,Nat.zero_le _,rfl,by simp,hs,by intro v hv;rw [List.mem_singleton.1 hv];exact hs⟩
  obtain ⟨i,h1,h2,h3,h4,h5,h6⟩:=hs
  by_cases hlt:i<a.2.2.2.1.length
  ·have e1:iLt s.2.1 (lenI a.2.2.2.1)=true:=qaf (by rw [qaa];omega)
   have e2:inB s.2.1 a.2.2.2.1.length=true:=by rw [h1];exact qad hlt
   have e4:a.2.2.2.1.getD s.2.1.toNat ((0,(0,0,0,()),0,0,()):DLeg)=a.2.2.2.1[i]:=by rw [h1,Int.toNat_natCast];exact qao hlt
   obtain ⟨o,ho,l,v,rfl,hn,hc,hv,hall⟩:=qam5 a s ((scaleV (((List.getD a.2.2.2.1 s.2.1.toNat ((0,(0,0,0,()),0,0,()):DLeg)).2).1) (fDiv .f32 1065353216 (fOfInt .f32 a.1)),()),()) (by rw [e4];exact hx _ (List.getElem_mem hlt)) i hlt h1 (ht _ (List.getElem_mem hlt)) hl h3 h4 h5 h6
   simp only [qci,e1,e2,qji,Option.bind_some,cond_true,ho]
   exact .inl ⟨_,rfl,⟨i+1,rfl,hlt,hn,hc,hv,hall⟩,by show ((a.2.2.2.1.length:Int)-((i+1:Nat):Int)).toNat<((a.2.2.2.1.length:Int)-s.2.1).toNat;omega⟩
  ·have e1:iLt s.2.1 (lenI a.2.2.2.1)=false:=qag (by rw [qaa];omega)
   simp only [qci,e1,cond_false]
   have:i=a.2.2.2.1.length:=by omega
   exact .inr ⟨_,rfl,s.1,rfl,by rw [h3,this],by omega,h6⟩
 obtain ⟨w,h1,l,rfl,h2,h3⟩:=h
 exact ⟨l,h1,h2,h3⟩
end
section
def geOne (b:Nat):Prop:=∃ s n j,FloatKind.f32.decode b = .number s n j∧j≤0∧2^(0-j).toNat≤n
theorem qafy {a b:Nat} {t:Int} (ha:pw .f32 a t) (hb:geOne b) (h1 : -125≤t) (h2:t≤127):pw .f32 (fDiv .f32 a b) t:=by
 obtain ⟨s,m,i,hd,hm⟩:=ha
 obtain ⟨s',n,j,hd',hj,hn⟩:=hb
 have hn0:n≠0:=by
  have:=Nat.two_pow_pos (0-j).toNat
  omega
 refine qaup hd hd' hn0 (fun c c1 c2 => ?_) h1 h2
 refine Nat.le_trans (hm c c1 (by omega)) ?_
 rw [show (t-c).toNat=(0-j).toNat+(j+t-c).toNat by omega,Nat.pow_add]
 exact Nat.mul_le_mul_right _ hn
def geOneB (b:Nat):Bool:=match FloatKind.f32.decode b with
 | .number _ n j=>decide (j≤0)&&decide (2^(0-j).toNat≤n)
 | _=>false
theorem qag4 {b:Nat} (h:geOneB b=true):geOne b:=by
 unfold geOneB at h
 cases hd:FloatKind.f32.decode b with
 | number s m p =>
  rw [hd] at h
  simp only [Bool.and_eq_true,decide_eq_true_eq] at h
  exact ⟨s,m,p,hd,h.1,h.2⟩
 | _=>rw [hd] at h;cases h
theorem qaub:((List.range 1024).all fun d=>geOneB (fOfInt .f32 ((d+1:Nat):Int)))=true:=by kernel_rfl
theorem qanz {n:Int} (h:1≤n) (h1:n≤1024):geOne (fOfInt .f32 n):=by
 have:=List.all_eq_true.1 qaub (n.toNat-1) (List.mem_range.2 (by omega))
 rw [show ((n.toNat-1+1:Nat):Int)=n by omega] at this
 exact qag4 this
theorem qao1 {n:Int} (h:n.natAbs≤1048576):pw .f32 (fOfInt .f32 n) 20:=by
 have e:fOfInt .f32 n=canon .f32 (FloatKind.f32.encode (.number (decide (n<0)) n.natAbs 0)):=rfl
 have hl:le2 n.natAbs 0 20:=qla 0 (by decide) (by decide) (by
  rw [show (0-0:Int).toNat=0 by decide,show (20-0:Int).toNat=20 by decide,Nat.pow_zero,Nat.mul_one]
  exact h)
 obtain ⟨m',p',e1,e2⟩:=qgz (k:=.f32) (decide (n<0)) hl (by decide) (by decide)
 rw [e]
 exact ⟨_,m',p',e1,e2⟩
theorem qatm (t:Int):pw .f32 0 t:=⟨false,0,-149,by decide,qaco _ _⟩
def nform (x:Nat):Prop:=∃ g m p,x=canon .f32 (FloatKind.f32.encode (.number g m p))
theorem qaal {x:Nat} (h:nform x):fltFit .f32 x:=by
 obtain ⟨g,m,p,rfl⟩:=h
 refine ⟨qab0 _ _,qaii ?_⟩
 show FloatKind.f32.format.nearest g m p<4294967296
 rw [qij]
 have h1:rungOf FloatKind.f32.format m p≤2139095040:=qahp _ _ _
 have h2:FloatKind.f32.format.signWeight=2147483648:=by decide
 unfold Ieee.Format.word
 rw [h2]
 split <;> omega
def pf (t:Int) (x:Nat):Prop:=pw .f32 x t∧fltFit .f32 x
theorem qaoz {n:Int} (h:n.natAbs≤1048576):pf 20 (fOfInt .f32 n):=⟨qao1 h,qaal ⟨_,_,_,rfl⟩⟩
theorem qfm (t:Int):pf t 0:=⟨qatm t,by decide,by decide⟩
theorem qap9 {a b:Nat} {t:Int} (ha:pw .f32 a t) (hb:geOne b):nform (fDiv .f32 a b):=by
 obtain ⟨s,m,i,hd,-⟩:=ha
 obtain ⟨s',n,j,hd',hj,hn⟩:=hb
 have hn0:n≠0:=by
  have:=Nat.two_pow_pos (0-j).toNat
  omega
 unfold nform fDiv Ieee.Format.div
 rw [show FloatKind.f32.format.read a = .number s m i from hd,show FloatKind.f32.format.read b = .number s' n j from hd']
 simp only [Ieee.Datum.quotient,if_neg hn0,Option.map_some,orNan]
 exact ⟨_,_,_,rfl⟩
theorem qapt {a b:Nat} {t u:Int} (ha:pw .f32 a t) (hb:pw .f32 b u):nform (fAdd .f32 a b):=by
 obtain ⟨s,m,p,hd,-⟩:=ha
 obtain ⟨s',n,q,hd',-⟩:=hb
 unfold nform fAdd Ieee.Format.add
 rw [show FloatKind.f32.format.read a = .number s m p from hd,show FloatKind.f32.format.read b = .number s' n q from hd']
 exact ⟨_,_,_,rfl⟩
theorem qati {a b:Nat} {t:Int} (ha:pf t a) (hb:geOne b) (h1 : -125≤t) (h2:t≤127):pf t (fDiv .f32 a b):=⟨qafy ha.1 hb h1 h2,qaal (qap9 ha.1 hb)⟩
def pvf (t:Int) (v:Vec 3 Nat):Prop:=pf t v.1∧pf t v.2.1∧pf t v.2.2.1
theorem pvf.pv {t:Int} {v:Vec 3 Nat} (h:pvf t v):pw .f32 v.1 t∧pw .f32 v.2.1 t∧pw .f32 v.2.2.1 t:=⟨h.1.1,h.2.1.1,h.2.2.1⟩
theorem pvf.fit {t:Int} {v:Vec 3 Nat} (h:pvf t v):FitVec (fltFit .f32) 3 v:=⟨h.1.2,h.2.1.2,h.2.2.2,trivial⟩
theorem qy3 {p:List UInt8} (h:numOK 999999 (tailS p)=true):(signedI p).natAbs≤1048576:=by
 have hv:valD 0 (tailS p)≤999999:=by
  unfold numOK at h
  simp at h
  exact h.2
 unfold signedI
 cases negB p with
 | true=>simp only [cond_true];omega
 | false=>simp only [cond_false];omega
theorem qama (p:List UInt8):pf 20 (fracOne p).1.1:=by
 unfold fracOne
 cases h:numOK 999999 (tailS p) with
 | true=>exact qaoz (qy3 h)
 | false=>exact qfm 20
theorem qamb (p r:List UInt8):pf 20 (fracTwo p r).1.1:=by
 unfold fracTwo
 cases h:numOK 999999 (tailS p) with
 | false=>exact qfm 20
 | true =>
  cases hd:divB r with
  | false=>exact qfm 20
  | true =>
   unfold divB at hd
   simp only [Bool.and_eq_true,qb8] at hd
   exact qati (qaoz (qy3 h)) (qanz (by omega) (by omega)) (by decide) (by decide)
end
section
abbrev DWork:=DMission×(Int×(Int×((List Int)×((List Int)×Unit))))
def workS (m:DMission) (fix:Int) (O:List (Nat×Nat)):DWork:=(m,fix,ticksI m.2.2.2.1,O.map (fun x:Nat×Nat=>(x.1:Int)),O.map (fun x:Nat×Nat=>(x.2:Int)),())
def wRate:List UInt8:=[114,97,116,101]
def wFix:List UInt8:=[102,105,120]
def wHold:List UInt8:=[104,111,108,100]
def wRange:List UInt8:=[114,97,110,103,101]
def wRepeat:List UInt8:=[114,101,112,101,97,116]
def wStart:List UInt8:=[115,116,97,114,116]
def wBeacon:List UInt8:=[98,101,97,99,111,110]
def wMove:List UInt8:=[109,111,118,101]
def wEnd:List UInt8:=[101,110,100]
section
variable {w : DWork} {line : List UInt8} {p : Int} {l : List (List UInt8)} {w0 : List UInt8} {r : List (List UInt8)} (hsp : qbx line 32 = some ((l, ()), ())) (hl : l = w0 :: r)
include hsp hl
theorem qtc (f1:sEq w0 [114,97,116,101]=false) (f2:sEq w0 [102,105,120]=false) (f3:sEq w0 [104,111,108,100]=false) (f4:sEq w0 [114,97,110,103,101]=false) (f5:sEq w0 [114,101,112,101,97,116]=false)
  (h:(sEq w0 [115,116,97,114,116]=true)∨(sEq w0 [115,116,97,114,116]=false∧sEq w0 [98,101,97,99,111,110]=true)∨(sEq w0 [115,116,97,114,116]=false∧sEq w0 [98,101,97,99,111,110]=false∧sEq w0 [109,111,118,101]=true)) :
  qap w line p=(qai w l).bind fun y=>some ((iAdd .i64 p 1,y.1.1,()),(y.2.1,())):=by
 have i0:inB 0 l.length=true:=qad (i:=0) (by rw [hl];simp)
 have g0:l.getD 0 []=w0:=by rw [hl];rfl
 unfold qap
 rw [hsp]
 simp only [Option.bind_some]
 rw [i0,g0,f1,f2,f3,f4,f5]
 rcases h with h | ⟨h,h'⟩ | ⟨h,h',h''⟩
 ·rw [h];rfl
 ·rw [h,h'];rfl
 ·rw [h,h',h''];rfl
theorem qacp (h:sEq w0 [114,97,116,101]=true∨(sEq w0 [114,97,116,101]=false∧(sEq w0 [102,105,120]=true∨(sEq w0 [102,105,120]=false∧(sEq w0 [104,111,108,100]=true∨(sEq w0 [104,111,108,100]=false∧(sEq w0 [114,97,110,103,101]=true∨(sEq w0 [114,97,110,103,101]=false∧sEq w0 [114,101,112,101,97,116]=true)))))))) :
  qap w line p=bif !(iEq (lenI l) 2) then some ((p,5,()),(w,())) else bif inB 1 l.length then (qa4 (l.getD 1 [])).bind fun y=>bif !y.1.2.1 then some ((p,5,()),(w,())) else (qbd w w0 y.1.1 p).bind fun z=>some ((iAdd .i64 p 1,z.1.1,()),(z.2.1,())) else none:=by
 have i0:inB 0 l.length=true:=qad (i:=0) (by rw [hl];simp)
 have g0:l.getD 0 []=w0:=by rw [hl];rfl
 unfold qap
 rw [hsp]
 simp only [Option.bind_some]
 rw [i0,g0]
 rcases h with h | ⟨h,h | ⟨h2,h | ⟨h3,h | ⟨h4,h⟩⟩⟩⟩
 ·rw [h];rfl
 ·rename_i h1;rw [h1,h];rfl
 ·rename_i h1;rw [h1,h2,h];rfl
 ·rename_i h1;rw [h1,h2,h3,h];rfl
 ·rename_i h1;rw [h1,h2,h3,h4,h];rfl
theorem qaob (f1:sEq w0 [114,97,116,101]=false) (f2:sEq w0 [102,105,120]=false) (f3:sEq w0 [104,111,108,100]=false) (f4:sEq w0 [114,97,110,103,101]=false) (f5:sEq w0 [114,101,112,101,97,116]=false)
  (f6:sEq w0 [115,116,97,114,116]=false) (f7:sEq w0 [98,101,97,99,111,110]=false) (f8:sEq w0 [109,111,118,101]=false) (f9:sEq w0 [101,110,100]=false) :
  qap w line p=some ((p,5,()),(w,())):=by
 have i0:inB 0 l.length=true:=qad (i:=0) (by rw [hl];simp)
 have g0:l.getD 0 []=w0:=by rw [hl];rfl
 unfold qap
 rw [hsp]
 simp only [Option.bind_some]
 rw [i0,g0,f1,f2,f3,f4,f5,f6,f7,f8,f9]
 rfl
def endOf (w:DWork) (p:Int):Option ((Int×Int×Unit)×(DWork×Unit)) :=
 let x:=iSub .i64 (lenI w.2.2.2.1) 1
 bif iLt x 0 then some ((p,4,()),(w,())) else
 bif inB x w.2.2.2.2.1.length then
  bif iLt 0 (w.2.2.2.2.1.getD x.toNat (0:Int)) then
   bif inB x w.2.2.2.2.1.length then
    bif inB x w.2.2.2.2.1.length then
     bif inB x w.2.2.2.1.length then
      some ((w.2.2.2.1.getD x.toNat (0:Int),0,()),((w.1,w.2.1,w.2.2.1,w.2.2.2.1,List.set w.2.2.2.2.1 x.toNat (iSub .i64 (w.2.2.2.2.1.getD x.toNat (0:Int)) 1),w.2.2.2.2.2),()))
     else none
    else none
   else none
  else
  bif inS 0 x w.2.2.2.1.length then
   bif inS 0 x w.2.2.2.2.1.length then
    some ((iAdd .i64 p 1,0,()),((w.1,w.2.1,w.2.2.1,List.take x.toNat (List.drop 0 w.2.2.2.1),List.take x.toNat (List.drop 0 w.2.2.2.2.1),w.2.2.2.2.2),()))
   else none
  else none
 else none
theorem qaqs (f:w0=[101,110,100]) :
  qap w line p=bif !(iEq (lenI l) 1) then some ((p,5,()),(w,())) else endOf w p:=by
 have i0:inB 0 l.length=true:=qad (i:=0) (by rw [hl];simp)
 have g0:l.getD 0 []=w0:=by rw [hl];rfl
 have f1:sEq w0 [114,97,116,101]=false:=by rw [f];rfl
 have f2:sEq w0 [102,105,120]=false:=by rw [f];rfl
 have f3:sEq w0 [104,111,108,100]=false:=by rw [f];rfl
 have f4:sEq w0 [114,97,110,103,101]=false:=by rw [f];rfl
 have f5:sEq w0 [114,101,112,101,97,116]=false:=by rw [f];rfl
 have f6:sEq w0 [115,116,97,114,116]=false:=by rw [f];rfl
 have f7:sEq w0 [98,101,97,99,111,110]=false:=by rw [f];rfl
 have f8:sEq w0 [109,111,118,101]=false:=by rw [f];rfl
 have f9:sEq w0 [101,110,100]=true:=by rw [f];rfl
 unfold qap
 rw [hsp]
 simp only [Option.bind_some]
 rw [i0,g0,f1,f2,f3,f4,f5,f6,f7,f8,f9]
 rfl
end
def LegG (n:Nat) (x:DLeg):Prop:=(1≤x.1∧x.1≤400)∧pvf 20 x.2.1∧(0≤x.2.2.1∧x.2.2.1≤400)∧(-1≤x.2.2.2.1∧x.2.2.2.1<n)
structure More (m:DMission) (fix:Int):Prop where
 rate:1≤m.1∧m.1≤64
 fixed:0≤fix∧fix≤400
 start:pvf 20 m.2.1
 marks : ∀ v∈m.2.2.1,pvf 20 v
 legsG : ∀ x∈m.2.2.2.1,LegG m.2.2.1.length x
theorem qajn:pvf 20 ((0,0,0,()):Vec 3 Nat):=⟨qfm 20,qfm 20,qfm 20⟩
structure Good (m:DMission) (fix:Int):Prop where
 legs:m.2.2.2.1.length≤64
 beacons:m.2.2.1.length≤6
 lo:0≤ticksI m.2.2.2.1
 hi:ticksI m.2.2.2.1≤400
 more:More m fix
theorem qwl (l:List DLeg) (x:DLeg):ticksI (l++[x])=iAdd .i64 (ticksI l) x.1:=by
 unfold ticksI;rw [List.foldl_append];rfl
theorem qai5 {m:DMission} {fix:Int} (hg:Good m fix) (O:List (Nat×Nat)) (q:Nat) (v:Vec 3 Nat) (hv:pvf 20 v) {n:Int} (h0:0≤n) (h1:n≤999999) :
  ∃ code m',qcx (workS m fix O) v n=some ((code,()),(workS m' fix O,()))∧(code=0→Good m' fix):=by
 obtain ⟨g1,g2,g3,g4,g5⟩:=hg
 obtain ⟨rt,st,bs,ls,⟨⟩⟩:=m
 simp only at g1 g2 g3 g4
 have ea:iAdd .i64 (ticksI ls) n=ticksI ls+n:=qba (by omega) (by omega)
 have er:room (ls.length+1) 40=true:=qbi (by omega)
 simp only [qcx,workS,qgv,ea,er,Option.bind_some]
 cases hw:(iLe 1 n&&iLe n 400) with
 | false=>exact ⟨2,(rt,st,bs,ls,()),rfl,fun h=>by cases h⟩
 | true =>
  cases h64:iEq (lenI ls) 64 with
  | true=>exact ⟨3,(rt,st,bs,ls,()),rfl,fun h=>by cases h⟩
  | false =>
   cases h4:iLt 400 (ticksI ls+n) with
   | true=>exact ⟨3,(rt,st,bs,ls,()),rfl,fun h=>by cases h⟩
   | false =>
    refine ⟨0,(rt,st,bs,ls++[(n,v,fix,-1,())],()),?_,fun _=>⟨?_,g2,?_,?_,g5.rate,g5.fixed,g5.start,g5.marks,fun y hy => ?_⟩⟩
    ·simp only [Bool.not_true,cond_false,cond_true,qwl,ea]
    ·have:(ls.length:Int)≠64:=by simpa [iEq,lenI] using h64
     simp
     omega
    ·simp only [Bool.and_eq_true,qb8] at hw
     show 0≤ticksI (ls++[(n,v,fix,-1,())])
     rw [qwl,ea];omega
    ·have:¬ 400<ticksI ls+n:=by simpa [iLt] using h4
     show ticksI (ls++[(n,v,fix,-1,())])≤400
     rw [qwl,ea];omega
    ·simp only [Bool.and_eq_true,qb8] at hw
     rcases List.mem_append.1 hy with hy | hy
     ·exact g5.legsG y hy
     ·rw [List.mem_singleton.1 hy]
      exact ⟨hw,hv,g5.fixed,by show (-1:Int) ≤ -1;omega,by show (-1:Int)<(bs.length:Int);omega⟩
theorem qam3 (l:List DLeg) (i:Nat) (x:DLeg) (h : ∀ (hi:i<l.length),x.1=l[i].1):ticksI (l.set i x)=ticksI l:=by
 have key : ∀ (l:List DLeg) (i:Nat) (s:Int),(∀ (hi:i<l.length),x.1=l[i].1)→(l.set i x).foldl (fun s x=>iAdd .i64 s x.1) s=l.foldl (fun s x=>iAdd .i64 s x.1) s:=by
  intro l
  induction l with
  | nil=>intro i s _;rfl
  | cons a l ih =>
   intro i s h
   cases i with
   | zero =>
    have:x.1=a.1:=h (by simp)
    show l.foldl _ (iAdd .i64 s x.1)=l.foldl _ (iAdd .i64 s a.1)
    rw [this]
   | succ i=>exact ih i _ (fun hi=>h (by simp;omega))
 exact key l i 0 h
theorem qai6 {α β:Type} (f:α→β) (l:List α):lenI (l.map f)=lenI l:=by unfold lenI;rw [List.length_map]
theorem qaq3 {m:DMission} {fix:Int} (hg:Good m fix) (O:List (Nat×Nat)) (hO:O.length≤3) {p:Nat} (hp:p≤200) {n:Int} (h0:0≤n) (h1:n≤999999) {w0:List UInt8}
  (hw:w0=wRate∨w0=wFix∨w0=wHold∨w0=wRange∨w0=wRepeat) :
  ∃ code m' fix' O',qbd (workS m fix O) w0 n (p:Int)=some ((code,()),(workS m' fix' O',())) ∧
   (code=0→Good m' fix'∧(O'=O∨(O.length<3 ∧ ∃ k,k≤15∧O'=O++[(p+1,k)]))):=by
 obtain ⟨cl,ml,l2,l3⟩:=qai5 hg O (p+1) ((0,0,0,()):Vec 3 Nat) qajn h0 h1
 obtain ⟨g1,g2,g3,g4,g5⟩:=id hg
 obtain ⟨rt,st,bs,ls,⟨⟩⟩:=m
 simp only at g1 g2 g3 g4
 rcases hw with rfl | rfl | rfl | rfl | rfl
 ·have a1:sEq wRate [114,97,116,101]=true:=rfl
  simp only [qbd,a1,cond_true,qgv,Option.bind_some,workS]
  cases hw:(iLe 1 n&&iLe n 64) with
  | false=>exact ⟨2,(rt,st,bs,ls,()),fix,O,rfl,fun h=>by cases h⟩
  | true =>
   cases hz:iLt 0 (lenI ls) with
   | true=>exact ⟨4,(rt,st,bs,ls,()),fix,O,rfl,fun h=>by cases h⟩
   | false =>
    simp only [Bool.and_eq_true,qb8] at hw
    exact ⟨0,(n,st,bs,ls,()),fix,O,rfl,fun _=>⟨⟨g1,g2,g3,g4,hw,g5.fixed,g5.start,g5.marks,g5.legsG⟩,.inl rfl⟩⟩
 ·have a1:sEq wFix [114,97,116,101]=false:=rfl
  have a2:sEq wFix [102,105,120]=true:=rfl
  simp only [qbd,a1,a2,cond_true,cond_false,workS]
  cases hw:iLt 400 n with
  | true=>exact ⟨2,(rt,st,bs,ls,()),fix,O,rfl,fun h=>by cases h⟩
  | false =>
   have hw':¬ 400<n:=by simpa [iLt] using hw
   exact ⟨0,(rt,st,bs,ls,()),n,O,rfl,fun _=>⟨⟨g1,g2,g3,g4,g5.rate,⟨h0,by omega⟩,g5.start,g5.marks,g5.legsG⟩,.inl rfl⟩⟩
 ·have a1:sEq wHold [114,97,116,101]=false:=rfl
  have a2:sEq wHold [102,105,120]=false:=rfl
  have a3:sEq wHold [104,111,108,100]=true:=rfl
  refine ⟨cl,ml,fix,O,?_,fun h=>⟨l3 h,.inl rfl⟩⟩
  ·simp only [qbd,a1,a2,a3,cond_true,cond_false]
   show (qcx (workS (rt,st,bs,ls,()) fix O) _ n).bind _=_
   rw [l2];rfl
 ·have a1:sEq wRange [114,97,116,101]=false:=rfl
  have a2:sEq wRange [102,105,120]=false:=rfl
  have a3:sEq wRange [104,111,108,100]=false:=rfl
  have a4:sEq wRange [114,97,110,103,101]=true:=rfl
  have hsub:iSub .i64 (lenI ls) 1=(ls.length:Int)-1:=by
   rw [qaa];exact qcm (by omega) (by omega)
  simp only [qbd,ql9,a1,a2,a3,a4,hsub,cond_true,cond_false,workS]
  cases hb:iLe (lenI bs) n with
  | true=>exact ⟨2,(rt,st,bs,ls,()),fix,O,rfl,fun h=>by cases h⟩
  | false =>
   rcases Nat.eq_zero_or_pos ls.length with hz | hz
   ·have e1:iEq (lenI ls) 0=true:=qfh (by rw [qaa];omega)
    have e2:iLt ((ls.length:Int)-1) 0=true:=qaf (by omega)
    simp only [e1,e2,cond_true,cond_false]
    exact ⟨4,(rt,st,bs,ls,()),fix,O,rfl,fun h=>by cases h⟩
   ·have e1:iEq (lenI ls) 0=false:=qaz (by rw [qaa];omega)
    have e2:iLt ((ls.length:Int)-1) 0=false:=qag (by omega)
    obtain ⟨i,hi⟩ : ∃ i:Nat,ls.length=i+1:=⟨ls.length-1,by omega⟩
    have e3:(ls.length:Int)-1=(i:Int):=by omega
    have e4:inB (i:Int) ls.length=true:=qad (by omega)
    simp only [e1,e2,e3,e4,Int.toNat_natCast,cond_true,cond_false]
    have hgd:ls.getD i ((0,(0,0,0,()),0,0,()):DLeg)=ls[i]:=qao (by omega)
    cases hk:iLe 0 (ls.getD i ((0,(0,0,0,()),0,0,()):DLeg)).2.2.2.1 with
    | true=>exact ⟨4,(rt,st,bs,ls,()),fix,O,rfl,fun h=>by cases h⟩
    | false =>
     have hts:=qam3 ls i ((ls.getD i ((0,(0,0,0,()),0,0,()):DLeg)).1,(ls.getD i ((0,(0,0,0,()),0,0,()):DLeg)).2.1,(ls.getD i ((0,(0,0,0,()),0,0,()):DLeg)).2.2.1,n,(ls.getD i ((0,(0,0,0,()),0,0,()):DLeg)).2.2.2.2) (fun hi=>by rw [hgd])
     refine ⟨0,(rt,st,bs,ls.set i ((ls.getD i ((0,(0,0,0,()),0,0,()):DLeg)).1,(ls.getD i ((0,(0,0,0,()),0,0,()):DLeg)).2.1,(ls.getD i ((0,(0,0,0,()),0,0,()):DLeg)).2.2.1,n,(ls.getD i ((0,(0,0,0,()),0,0,()):DLeg)).2.2.2.2),()),fix,O,?_,fun _=>⟨⟨?_,g2,?_,?_,g5.rate,g5.fixed,g5.start,g5.marks,fun y hy => ?_⟩,.inl rfl⟩⟩
     ·rw [hts];rfl
     ·show (ls.set i _).length≤64
      rw [List.length_set];exact g1
     ·show 0≤ticksI (ls.set i _)
      rw [hts];exact g3
     ·show ticksI (ls.set i _)≤400
      rw [hts];exact g4
     ·have hbn:¬ (bs.length:Int)≤n:=fun q=>by rw [qaa,qa3 q] at hb;cases hb
      rcases List.mem_or_eq_of_mem_set hy with hy | hy
      ·exact g5.legsG y hy
      ·rw [hy,hgd]
       obtain ⟨k1,k2,k3,-⟩:=g5.legsG _ (List.getElem_mem (by omega:i<ls.length))
       exact ⟨k1,k2,k3,by show (-1:Int)≤n;omega,by show n<(bs.length:Int);omega⟩
 ·have a1:sEq wRepeat [114,97,116,101]=false:=rfl
  have a2:sEq wRepeat [102,105,120]=false:=rfl
  have a3:sEq wRepeat [104,111,108,100]=false:=rfl
  have a4:sEq wRepeat [114,97,110,103,101]=false:=rfl
  have a5:sEq wRepeat [114,101,112,101,97,116]=true:=rfl
  have r1:room (O.length+1) 16=true:=qbi (by omega)
  have r2:room (O.length+1) 8=true:=qbi (by omega)
  have ep:iAdd .i64 (p:Int) 1=((p+1:Nat):Int):=(qba (by omega) (by omega)).trans (by omega)
  simp only [qbd,a1,a2,a3,a4,a5,qgv,Option.bind_some,cond_true,cond_false,workS,qai6,List.length_map,r1,r2,ep]
  cases hw:(iLe 1 n&&iLe n 16) with
  | false=>exact ⟨2,(rt,st,bs,ls,()),fix,O,rfl,fun h=>by cases h⟩
  | true =>
   simp only [Bool.and_eq_true,qb8] at hw
   cases h3:iEq (lenI O) 3 with
   | true=>exact ⟨3,(rt,st,bs,ls,()),fix,O,rfl,fun h=>by cases h⟩
   | false =>
    have hne:(O.length:Int)≠3:=by simpa [iEq,lenI] using h3
    have en:iSub .i64 n 1=(((n-1).toNat:Nat):Int):=(qcm (by omega) (by omega)).trans (by omega)
    refine ⟨0,(rt,st,bs,ls,()),fix,O++[(p+1,(n-1).toNat)],?_,fun _=>⟨⟨g1,g2,g3,g4,g5⟩,.inr ⟨by omega,(n-1).toNat,by omega,rfl⟩⟩⟩
    ·simp only [Bool.not_true,cond_false,cond_true,en,List.map_append,List.map_cons,List.map_nil]
def sizD:Nat→Nat
 | 0=>201
 | d+1=>201*(16*sizD d)
def muD:Nat→List (Nat×Nat)→Nat→Nat
 | 0,_,p=>200-p
 | d+1,[],p=>(200-p)*(16*sizD d)
 | d+1,x :: O,p=>(200-x.1)*(16*sizD d)+(x.2*sizD d+muD d O p)
theorem qqd : ∀ d,1≤sizD d
 | 0=>by decide
 | d+1=>by have:=qqd d;show 1≤201*(16*sizD d);omega
theorem qai9 : ∀ (d:Nat) (O:List (Nat×Nat)) (p:Nat),O.length≤d→(∀ x∈O,x.2≤15)→muD d O p<sizD d
 | 0,_,p,_,_=>by show 200-p<201;omega
 | d+1,[],p,_,_=>by
  have h0:=qqd d
  have h1:(200-p)*(16*sizD d)≤200*(16*sizD d):=Nat.mul_le_mul_right _ (by omega)
  show (200-p)*(16*sizD d)<201*(16*sizD d)
  omega
 | d+1,x :: O,p,hl,hk=>by
  have h0:=qqd d
  have h1:(200-x.1)*(16*sizD d)≤200*(16*sizD d):=Nat.mul_le_mul_right _ (by omega)
  have h2:x.2*sizD d≤15*sizD d:=Nat.mul_le_mul_right _ (hk x (by simp))
  have h3:=qai9 d O p (by simp at hl;omega) (fun y hy=>hk y (by simp [hy]))
  show (200-x.1)*(16*sizD d)+(x.2*sizD d+muD d O p)<201*(16*sizD d)
  omega
theorem qacq {a b X:Nat} (h:a<b):a*X+X≤b*X:=by
 have:=Nat.mul_le_mul_right X (show a+1≤b from h)
 rw [Nat.add_mul,Nat.one_mul] at this
 exact this
theorem qaja : ∀ (d:Nat) (O:List (Nat×Nat)) (p:Nat),O.length≤d→p<200→muD d O (p+1)<muD d O p
 | 0,_,p,_,hp=>by show 200-(p+1)<200-p;omega
 | d+1,[],p,_,hp=>by
  have h0:=qqd d
  have h1:=qacq (X:=16*sizD d) (show 200-(p+1)<200-p by omega)
  show (200-(p+1))*(16*sizD d)<(200-p)*(16*sizD d)
  omega
 | d+1,x :: O,p,hl,hp=>by
  have h3:=qaja d O p (by simp at hl;omega) hp
  show (200-x.1)*(16*sizD d)+(x.2*sizD d+muD d O (p+1))<(200-x.1)*(16*sizD d)+(x.2*sizD d+muD d O p)
  omega
theorem qajb (k:Nat) (hk:k≤15) : ∀ (d:Nat) (O:List (Nat×Nat)) (p:Nat),O.length<d→p<200→muD d (O++[(p+1,k)]) (p+1)<muD d O p
 | 0,_,p,h,hp=>by omega
 | d+1,[],p,_,hp=>by
  have h0:=qqd d
  have h1:=qacq (X:=16*sizD d) (show 200-(p+1)<200-p by omega)
  have h2:k*sizD d≤15*sizD d:=Nat.mul_le_mul_right _ hk
  have h3:=qai9 d [] (p+1) (by simp) (by simp)
  show (200-(p+1))*(16*sizD d)+(k*sizD d+muD d [] (p+1))<(200-p)*(16*sizD d)
  omega
 | d+1,x :: O,p,hl,hp=>by
  have h3:=qajb k hk d O p (by simp at hl;omega) hp
  show (200-x.1)*(16*sizD d)+(x.2*sizD d+muD d (O++[(p+1,k)]) (p+1))<(200-x.1)*(16*sizD d)+(x.2*sizD d+muD d O p)
  omega
theorem qahg (l k p:Nat) : ∀ (d:Nat) (O:List (Nat×Nat)),O.length<d→muD d (O++[(l,k)]) l<muD d (O++[(l,k+1)]) p
 | 0,_,h=>by omega
 | d+1,[],_=>by
  have h3:=qai9 d [] l (by simp) (by simp)
  have h4:(k+1)*sizD d=k*sizD d+sizD d:=by rw [Nat.add_mul,Nat.one_mul]
  show (200-l)*(16*sizD d)+(k*sizD d+muD d [] l)<(200-l)*(16*sizD d)+((k+1)*sizD d+muD d [] p)
  omega
 | d+1,x :: O,hl=>by
  have h3:=qahg l k p d O (by simp at hl;omega)
  show (200-x.1)*(16*sizD d)+(x.2*sizD d+muD d (O++[(l,k)]) l)<(200-x.1)*(16*sizD d)+(x.2*sizD d+muD d (O++[(l,k+1)]) p)
  omega
theorem qalf (l p:Nat) (hlp:l≤p) (hp:p<200) : ∀ (d:Nat) (O:List (Nat×Nat)),O.length<d→muD d O (p+1)<muD d (O++[(l,0)]) p
 | 0,_,h=>by omega
 | d+1,[],_=>by
  have h0:=qqd d
  have h1:=qacq (X:=16*sizD d) (show 200-(p+1)<200-l by omega)
  show (200-(p+1))*(16*sizD d)<(200-l)*(16*sizD d)+(0*sizD d+muD d [] p)
  omega
 | d+1,x :: O,hl=>by
  have h3:=qalf l p hlp hp d O (by simp at hl;omega)
  show (200-x.1)*(16*sizD d)+(x.2*sizD d+muD d O (p+1))<(200-x.1)*(16*sizD d)+(x.2*sizD d+muD d (O++[(l,0)]) p)
  omega
structure OInv (O:List (Nat×Nat)) (p:Nat):Prop where
 len:O.length≤3
 low : ∀ x∈O,x.1≤p
 few : ∀ x∈O,x.2≤15
 up:O.Pairwise (fun a b=>a.1≤b.1)
 pos:p≤200
def Stepped (m:DMission) (fix:Int) (O:List (Nat×Nat)) (p:Nat) (S:Option ((Int×Int×Unit)×(DWork×Unit))):Prop :=
 (∃ code q w,code≠0∧S=some ((q,code,()),(w,()))) ∨
 (∃ (m':DMission) (fix':Int) (O':List (Nat×Nat)) (p':Nat),S=some (((p':Int),0,()),(workS m' fix' O',()))∧Good m' fix'∧OInv O' p'∧muD 3 O' p'<muD 3 O p)
theorem qaqg {m:DMission} {fix:Int} (hg:Good m fix) {O:List (Nat×Nat)} {p:Nat} (hO:OInv O p) (hp:p<200) :
  Stepped m fix O p (endOf (workS m fix O) (p:Int)):=by
 obtain ⟨o1,o2,o3,o4,o5⟩:=hO
 rcases List.eq_nil_or_concat O with rfl | ⟨O',x,rfl⟩
 ·left
  have e':iLt (iSub .i64 (lenI ([]:List Int)) 1) 0=true:=rfl
  refine ⟨4,(p:Int),workS m fix [],by decide,?_⟩
  ·unfold endOf workS
   simp only [List.map_nil,e',cond_true]
 ·right
  obtain ⟨l,k⟩:=x
  simp only [List.concat_eq_append] at *
  simp only [List.length_append,List.length_cons,List.length_nil] at o1
  have hl:l≤p:=o2 (l,k) (by simp)
  have hk:k≤15:=o3 (l,k) (by simp)
  rw [List.pairwise_append] at o4
  obtain ⟨o4,-,o6⟩:=o4
  have n2:((O'++[(l,k)]).map (fun x:Nat×Nat=>(x.1:Int))).length=O'.length+1:=by simp
  have n3:((O'++[(l,k)]).map (fun x:Nat×Nat=>(x.2:Int))).length=O'.length+1:=by simp
  have e:iSub .i64 ((O'.length+1:Nat):Int) 1=(O'.length:Int):=(qcm (by omega) (by omega)).trans (by omega)
  have e1:iLt (O'.length:Int) 0=false:=qag (by omega)
  have e2:inB (O'.length:Int) (O'.length+1)=true:=qad (by omega)
  have g2:((O'++[(l,k)]).map (fun x:Nat×Nat=>(x.1:Int))).getD O'.length (0:Int)=(l:Int):=by
   simp [List.getD_eq_getElem?_getD]
  have g3:((O'++[(l,k)]).map (fun x:Nat×Nat=>(x.2:Int))).getD O'.length (0:Int)=(k:Int):=by
   simp [List.getD_eq_getElem?_getD]
  unfold endOf workS
  simp only [qaa,n2,n3,e,e1,e2,Int.toNat_natCast,g2,g3,cond_true,cond_false]
  cases k with
  | zero =>
   have e3:iLt 0 ((0:Nat):Int)=false:=qag (by omega)
   have e4:inS 0 (O'.length:Int) (O'.length+1)=true:=by simp [inS];omega
   have t2:List.take O'.length ((O'++[(l,0)]).map (fun x:Nat×Nat=>(x.1:Int)))=O'.map (fun x:Nat×Nat=>(x.1:Int)):=by simp
   have t3:List.take O'.length ((O'++[(l,0)]).map (fun x:Nat×Nat=>(x.2:Int)))=O'.map (fun x:Nat×Nat=>(x.2:Int)):=by simp
   have e5:iAdd .i64 (p:Int) 1=((p+1:Nat):Int):=(qba (by omega) (by omega)).trans (by omega)
   refine ⟨m,fix,O',p+1,?_,hg,⟨by omega,fun x hx => ?_,fun x hx=>o3 x (by simp [hx]),o4,by omega⟩,qalf l p hl hp 3 O' (by omega)⟩
   ·simp only [e3,e4,cond_true,cond_false,List.drop_zero,t2,t3,e5]
   ·have:=o2 x (by simp [hx]);omega
  | succ k =>
   have e3:iLt 0 ((k+1:Nat):Int)=true:=qaf (by omega)
   have e4:iSub .i64 ((k+1:Nat):Int) 1=(k:Int):=(qcm (by omega) (by omega)).trans (by omega)
   have t3:List.set ((O'++[(l,k+1)]).map (fun x:Nat×Nat=>(x.2:Int))) O'.length (k:Int)=(O'++[(l,k)]).map (fun x:Nat×Nat=>(x.2:Int)):=by simp
   have t2:(O'++[(l,k+1)]).map (fun x:Nat×Nat=>(x.1:Int))=(O'++[(l,k)]).map (fun x:Nat×Nat=>(x.1:Int)):=by simp
   refine ⟨m,fix,O'++[(l,k)],l,?_,hg,⟨by simp;omega,fun x hx => ?_,fun x hx => ?_,?_,by omega⟩,qahg l k p 3 O' (by omega)⟩
   ·simp only [e3,e4,cond_true,t2,t3]
   ·rcases List.mem_append.mp hx with h | h
    ·exact o6 x h (l,k+1) (by simp)
    ·simp at h;subst h;exact Nat.le_refl _
   ·rcases List.mem_append.mp hx with h | h
    ·exact o3 x (by simp [h])
    ·simp at h;subst h;show k≤15;omega
   ·rw [List.pairwise_append]
    refine ⟨o4,List.pairwise_singleton _ _,fun a ha b hb => ?_⟩
    simp at hb;subst hb
    exact o6 a ha (l,k+1) (by simp)
theorem qhn {a b:List UInt8} (h:a≠b):sEq a b=false:=by
 cases e:sEq a b with
 | false=>rfl
 | true=>exact absurd (by simpa [sEq] using e) h
theorem qacj {f:List UInt8} (hs:f.length≤1048576):(∃ x,qam f=some ((x,true,()),())∧pf 20 x) ∨ ∃ y,qam f=some ((y,false,()),()):=by
 obtain ⟨w,h1,h2,h3⟩:=qjh hs
 have hp:pf 20 w.1.1:=by
  by_cases hc:(47:UInt8)∈f
  ·rcases qku 47 f with hf | ⟨p,r,e,hp⟩
   ·exact absurd hc hf
   ·rw [h3 p r e hp]
    exact qamb p r
  ·rw [h2 hc]
   exact qama f
 unfold qek at h1
 cases hq:qam f with
 | none=>rw [hq] at h1;cases h1
 | some y =>
  obtain ⟨⟨x,ok,⟨⟩⟩,⟨⟩⟩:=y
  rw [hq] at h1
  cases ok with
  | true =>
   have e:(((x,(0:Int),()),()):RdF)=w:=Option.some.inj h1
   rw [← e] at hp
   exact .inl ⟨x,rfl,hp⟩
  | false=>exact .inr ⟨x,rfl⟩
theorem qat1 {a b d:List UInt8} {r:List (List UInt8)} (ha:a.length≤1048576) (hb:b.length≤1048576) (hd:d.length≤1048576) :
  (∃ x y z,pvf 20 ((x,y,z,()):Vec 3 Nat)∧qge (a :: b :: d :: r)=some (((x,y,z,()),true,()),())) ∨ ∃ v,qge (a :: b :: d :: r)=some ((v,false,()),()):=by
 have j0:inB 0 (a :: b :: d :: r).length=true:=qad (i:=0) (by simp)
 have j1:inB 1 (a :: b :: d :: r).length=true:=qad (i:=1) (by simp)
 have j2:inB 2 (a :: b :: d :: r).length=true:=qad (i:=2) (by simp)
 have h0:List.getD (a :: b :: d :: r) 0 []=a:=rfl
 have h1:List.getD (a :: b :: d :: r) 1 []=b:=rfl
 have h2:List.getD (a :: b :: d :: r) 2 []=d:=rfl
 unfold qge
 rw [j0,j1,j2,h0,h1,h2]
 simp only [cond_true,cond_false]
 rcases qacj ha with ⟨x,e1,e7⟩ | ⟨x,e1⟩
 ·rw [e1]
  simp only [Option.bind_some,Bool.not_true,cond_false]
  rcases qacj hb with ⟨y,e3,e8⟩ | ⟨y,e3⟩
  ·rw [e3]
   simp only [Option.bind_some,Bool.not_true,cond_false]
   rcases qacj hd with ⟨z,e5,e9⟩ | ⟨z,e5⟩
   ·rw [e5]
    exact .inl ⟨x,y,z,⟨e7,e8,e9⟩,rfl⟩
   ·rw [e5]
    exact .inr ⟨_,rfl⟩
  ·rw [e3]
   exact .inr ⟨_,rfl⟩
 ·rw [e1]
  exact .inr ⟨_,rfl⟩
theorem OInv.next {O:List (Nat×Nat)} {p:Nat} (h:OInv O p) (hp:p<200):OInv O (p+1) :=
 ⟨h.len,fun x hx=>Nat.le_succ_of_le (h.low x hx),h.few,h.up,hp⟩
theorem OInv.push {O:List (Nat×Nat)} {p:Nat} (h:OInv O p) (hp:p<200) (hl:O.length<3) {k:Nat} (hk:k≤15):OInv (O++[(p+1,k)]) (p+1):=by
 refine ⟨by simp;omega,fun x hx => ?_,fun x hx => ?_,?_,hp⟩
 ·rcases List.mem_append.mp hx with g | g
  ·have:=h.low x g;omega
  ·simp at g;subst g;exact Nat.le_refl _
 ·rcases List.mem_append.mp hx with g | g
  ·exact h.few x g
  ·simp at g;subst g;exact hk
 ·rw [List.pairwise_append]
  refine ⟨h.up,List.pairwise_singleton _ _,fun a ha b hb => ?_⟩
  simp at hb;subst hb
  have:=h.low a ha
  show a.1≤p+1
  omega
theorem qpd {m m':DMission} {fix fix':Int} {O O':List (Nat×Nat)} {p:Nat} (hO:OInv O p) (hp:p<200) {S:Option ((Int×Unit)×(DWork×Unit))} {code:Int}
  (hS:S=some ((code,()),(workS m' fix' O',())))
  (h:code=0→Good m' fix'∧(O'=O∨(O.length<3 ∧ ∃ k,k≤15∧O'=O++[(p+1,k)]))) :
  Stepped m fix O p (S.bind fun y=>some ((iAdd .i64 (p:Int) 1,y.1.1,()),(y.2.1,()))):=by
 have ep:iAdd .i64 (p:Int) 1=((p+1:Nat):Int):=(qba (by omega) (by omega)).trans (by omega)
 rw [hS,ep]
 by_cases hc:code=0
 ·subst hc
  obtain ⟨h1,h2⟩:=h rfl
  right
  refine ⟨m',fix',O',p+1,rfl,h1,?_,?_⟩
  ·rcases h2 with rfl | ⟨h3,k,hk,rfl⟩
   ·exact hO.next hp
   ·exact hO.push hp h3 hk
  ·rcases h2 with rfl | ⟨h3,k,hk,rfl⟩
   ·exact qaja 3 O' p hO.len hp
   ·exact qajb k hk 3 O p h3 hp
 ·left
  exact ⟨code,_,_,hc,rfl⟩
theorem qc1 {m:DMission} {fix:Int} {O:List (Nat×Nat)} {p:Nat} {S:Option ((Int×Int×Unit)×(DWork×Unit))} {q:Int} {w:DWork}
  (hS:S=some ((q,5,()),(w,()))):Stepped m fix O p S:=.inl ⟨5,q,w,by decide,hS⟩
theorem qam2 {m:DMission} {fix:Int} (hg:Good m fix) {O:List (Nat×Nat)} {p:Nat} (hO:OInv O p) (hp:p<200) {w0 a b d:List UInt8} {r:List (List UInt8)} (hall : ∀ f∈w0 :: a :: b :: d :: r,f.length≤1048576)
  (hw:w0=wStart∨w0=wBeacon∨w0=wMove) :
  Stepped m fix O p ((qai (workS m fix O) (w0 :: a :: b :: d :: r)).bind fun y=>some ((iAdd .i64 (p:Int) 1,y.1.1,()),(y.2.1,()))):=by
 have i0:inB 0 (w0 :: a :: b :: d :: r).length=true:=qad (i:=0) (by simp)
 have s1:inS 1 (lenI (w0 :: a :: b :: d :: r)) (w0 :: a :: b :: d :: r).length=true:=by unfold inS;rw [qaa];simp only [List.length_cons];simp;omega
 have d1:dropL (w0 :: a :: b :: d :: r) 1=a :: b :: d :: r:=rfl
 have g0:List.getD (w0 :: a :: b :: d :: r) 0 []=w0:=rfl
 obtain ⟨q1,q2,q3,q4,q5⟩:=id hg
 rcases qat1 (r:=r) (hall a (by simp)) (hall b (by simp)) (hall d (by simp)) with ⟨x,y,z,e0,e1⟩ | ⟨v,e1⟩
 ·unfold qai
  rw [i0,g0,s1,d1,e1]
  simp only [Option.bind_some,cond_true,cond_false,Bool.not_true]
  rcases hw with rfl | rfl | rfl
  ·have f1:sEq wStart wStart=true:=rfl
   have f2:sEq wStart [109,111,118,101]=false:=rfl
   have f3:sEq wStart [115,116,97,114,116]=true:=rfl
   simp only [f2,f3]
   simp only [cond_true,cond_false]
   cases iEq (lenI (wStart :: a :: b :: d :: r)) 4 with
   | false=>exact qc1 rfl
   | true =>
    simp only [cond_true,cond_false,Bool.not_true]
    have hc':(workS m fix O).1.2.2.2.1=m.2.2.2.1:=rfl
    rw [hc']
    cases iLt 0 (lenI m.2.2.2.1) with
    | true=>exact .inl ⟨4,_,_,by decide,rfl⟩
    | false=>exact qpd hO hp (m':=(m.1,(x,y,z,()),m.2.2)) (fix':=fix) (O':=O) (code:=0) rfl (fun _=>⟨⟨q1,q2,q3,q4,q5.rate,q5.fixed,e0,q5.marks,q5.legsG⟩,.inl rfl⟩)
  ·have f1:sEq wBeacon wBeacon=true:=rfl
   have f0:sEq wBeacon wStart=false:=rfl
   have f2:sEq wBeacon [109,111,118,101]=false:=rfl
   have f3:sEq wBeacon [115,116,97,114,116]=false:=rfl
   have f4:sEq wBeacon [98,101,97,99,111,110]=true:=rfl
   simp only [f2,f3,f4]
   simp only [cond_true,cond_false]
   cases iEq (lenI (wBeacon :: a :: b :: d :: r)) 4 with
   | false=>exact qc1 rfl
   | true =>
    simp only [cond_true,cond_false,Bool.not_true]
    have hc':(workS m fix O).1.2.2.1=m.2.2.1:=rfl
    have hr:room (m.2.2.1.length+1) 12=true:=qbi (by omega)
    rw [hc',hr]
    cases h6:iEq (lenI m.2.2.1) 6 with
    | true=>exact .inl ⟨3,_,_,by decide,rfl⟩
    | false =>
     have h6':(m.2.2.1.length:Int)≠6:=by simpa [iEq,lenI] using h6
     refine qpd hO hp (m':=(m.1,m.2.1,m.2.2.1++([(x,y,z,())]:List (Vec 3 Nat)),m.2.2.2)) (fix':=fix) (O':=O) (code:=0) rfl (fun _=>⟨⟨q1,?_,q3,q4,q5.rate,q5.fixed,q5.start,fun v hv => ?_,fun u hu => ?_⟩,.inl rfl⟩)
     ·show (m.2.2.1++_).length≤6
      rw [List.length_append]
      show m.2.2.1.length+1≤6
      omega
     ·rcases List.mem_append.1 hv with hv | hv
      ·exact q5.marks v hv
      ·rw [List.mem_singleton.1 hv];exact e0
     ·obtain ⟨k1,k2,k3,k4,k5⟩:=q5.legsG u hu
      refine ⟨k1,k2,k3,k4,?_⟩
      show u.2.2.2.1<((m.2.2.1++([(x,y,z,())]:List (Vec 3 Nat))).length:Int)
      rw [List.length_append]
      show u.2.2.2.1<((m.2.2.1.length+1:Nat):Int)
      omega
  ·have f1:sEq wMove wMove=true:=rfl
   have f0:sEq wMove wStart=false:=rfl
   have f0':sEq wMove wBeacon=false:=rfl
   have f2:sEq wMove [109,111,118,101]=true:=rfl
   have f3:sEq wMove [115,116,97,114,116]=false:=rfl
   have f4:sEq wMove [98,101,97,99,111,110]=false:=rfl
   simp only [f2,f3,f4]
   simp only [cond_true,cond_false]
   cases h5:iEq (lenI (wMove :: a :: b :: d :: r)) 5 with
   | false=>exact qc1 rfl
   | true =>
    simp only [cond_true,cond_false,Bool.not_true]
    cases r with
    | nil=>cases h5
    | cons e r =>
     have i4:inB 4 (wMove :: a :: b :: d :: e :: r).length=true:=qad (i:=4) (by simp)
     have g4:List.getD (wMove :: a :: b :: d :: e :: r) 4 []=e:=rfl
     rw [i4,g4]
     obtain ⟨n',w3,w4⟩:=qg3 e
     rw [w3]
     simp only [cond_true,Option.bind_some]
     cases hn:numOK 999999 e with
     | false=>exact qc1 rfl
     | true =>
      obtain ⟨k,hk,-⟩:=numOK_iff.mp hn
      have hv:valD 0 e≤999999:=by
       have:=hn
       unfold numOK at this
       simp at this
       exact this.2
      rw [w4 hn]
      simp only [Bool.not_true,cond_false]
      obtain ⟨code,m',l2,l3⟩:=qai5 hg O (p+1) ((x,y,z,()):Vec 3 Nat) e0 (n:=(valD 0 e:Int)) (by omega) (by omega)
      refine qpd hO hp (m':=m') (fix':=fix) (O':=O) (code:=code) ?_ (fun h=>⟨l3 h,.inl rfl⟩)
      show (qcx (workS m fix O) (x,y,z,()) (valD 0 e:Int)).bind _=_
      rw [l2]
      rfl
 ·unfold qai
  rw [i0,g0,s1,d1,e1]
  simp only [Option.bind_some,cond_true,cond_false,Bool.not_false]
  cases sEq w0 [109,111,118,101] <;> cases iEq (lenI (w0 :: a :: b :: d :: r)) 4 <;> cases iEq (lenI (w0 :: a :: b :: d :: r)) 5 <;> exact qc1 rfl
theorem qaff {c:UInt8} {s f:List UInt8} (h:f∈splitC c s):f.length≤s.length:=by
 have h1:=(List.sublist_flatten_of_mem h).length_le
 rw [qqr] at h1
 exact Nat.le_trans h1 (List.length_filter_le _ _)
theorem qamz {c:UInt8} {s f:List UInt8} (h:splitC c s=[f]):f=s:=by
 have h1:=qeq c s
 rw [h] at h1
 have h2:c∉s:=by
  rw [← List.count_eq_zero]
  simp at h1
  omega
 rw [qfa h2] at h
 exact ((List.cons.injEq _ _ _ _).mp h).1.symm
theorem qakn {f:List UInt8} (h:numOK 999999 f=true):valD 0 f≤999999:=by
 unfold numOK at h
 simp at h
 exact h.2
theorem qapi {m:DMission} {fix:Int} (hg:Good m fix) {O:List (Nat×Nat)} {p:Nat} (hO:OInv O p) (hp:p<200) {s:List UInt8} (hs:s.length≤1048576) :
  Stepped m fix O p (qap (workS m fix O) s (p:Int)):=by
 have hsp:qbx s 32=some ((splitC 32 s,()),()):=qe5 32 hs
 have hall : ∀ f∈splitC 32 s,f.length≤1048576:=fun f hf=>Nat.le_trans (qaff hf) hs
 have hone : ∀ f,splitC 32 s=[f]→f=s:=fun f h=>qamz h
 have hend:s=wEnd→splitC 32 s=[wEnd]:=fun h=>by rw [h];rfl
 generalize splitC 32 s=L at hsp hall hone hend
 cases L with
 | nil =>
  exfalso
  have h0:=qe5 32 hs
  have h1:qbx s (byteI 32)=_:=hsp
  rw [h0] at h1
  simp only [Option.some.injEq,Prod.mk.injEq,and_true] at h1
  exact qli 32 s h1
 | cons w0 l =>
  by_cases hA:w0=wRate∨w0=wFix∨w0=wHold∨w0=wRange∨w0=wRepeat
  ·have hne:s≠wEnd:=fun h=>by
    have:=hend h
    simp only [List.cons.injEq] at this
    rw [this.1] at hA
    revert hA;decide
   have hW:sEq w0 [114,97,116,101]=true∨(sEq w0 [114,97,116,101]=false∧(sEq w0 [102,105,120]=true∨(sEq w0 [102,105,120]=false∧(sEq w0 [104,111,108,100]=true∨(sEq w0 [104,111,108,100]=false∧(sEq w0 [114,97,110,103,101]=true∨(sEq w0 [114,97,110,103,101]=false∧sEq w0 [114,101,112,101,97,116]=true))))))):=by
    rcases hA with rfl | rfl | rfl | rfl | rfl <;> decide
   rw [qacp hsp rfl hW]
   by_cases h1:l.length=1
   ·obtain ⟨b,rfl⟩:=List.length_eq_one_iff.mp h1
    have k1:iEq (lenI [w0,b]) 2=true:=rfl
    have i1:inB 1 [w0,b].length=true:=rfl
    have g1:List.getD [w0,b] 1 []=b:=rfl
    rw [k1,i1,g1]
    obtain ⟨n',w3,w4⟩:=qg3 b
    rw [w3]
    simp only [cond_true,cond_false,Option.bind_some,Bool.not_true]
    cases hn:numOK 999999 b with
    | false=>exact qc1 rfl
    | true =>
     have hv:=qakn hn
     rw [w4 hn]
     simp only [Bool.not_true,cond_false]
     obtain ⟨code,m',fix',O',e2,e3⟩:=qaq3 hg O hO.len (p:=p) (by omega) (n:=(valD 0 b:Int)) (by omega) (by omega) hA
     exact qpd hO hp e2 e3
   ·have k1:iEq (lenI (w0 :: l)) 2=false:=qaz (by rw [qaa,List.length_cons];omega)
    rw [k1]
    exact qc1 rfl
  ·have a1:w0≠wRate:=fun h=>hA (.inl h)
   have a2:w0≠wFix:=fun h=>hA (.inr (.inl h))
   have a3:w0≠wHold:=fun h=>hA (.inr (.inr (.inl h)))
   have a4:w0≠wRange:=fun h=>hA (.inr (.inr (.inr (.inl h))))
   have a5:w0≠wRepeat:=fun h=>hA (.inr (.inr (.inr (.inr h))))
   by_cases hB:w0=wStart∨w0=wBeacon∨w0=wMove
   ·have hne:s≠wEnd:=fun h=>by
     have:=hend h
     simp only [List.cons.injEq] at this
     rw [this.1] at hB
     revert hB;decide
    have hW:(sEq w0 [115,116,97,114,116]=true)∨(sEq w0 [115,116,97,114,116]=false∧sEq w0 [98,101,97,99,111,110]=true)∨(sEq w0 [115,116,97,114,116]=false∧sEq w0 [98,101,97,99,111,110]=false∧sEq w0 [109,111,118,101]=true):=by
     rcases hB with rfl | rfl | rfl <;> decide
    rw [qtc hsp rfl (qhn a1) (qhn a2) (qhn a3) (qhn a4) (qhn a5) hW]
    match l,hsp,hall with
    | [],hsp,hall =>
     refine qc1 (q:=iAdd .i64 (p:Int) 1) (w:=workS m fix O) ?_
     rcases hB with rfl | rfl | rfl <;> rfl
    | [b],hsp,hall =>
     refine qc1 (q:=iAdd .i64 (p:Int) 1) (w:=workS m fix O) ?_
     rcases hB with rfl | rfl | rfl <;> rfl
    | [b,d],hsp,hall =>
     refine qc1 (q:=iAdd .i64 (p:Int) 1) (w:=workS m fix O) ?_
     rcases hB with rfl | rfl | rfl <;> rfl
    | a :: b :: d :: r,hsp,hall=>exact qam2 hg hO hp hall hB
   ·have b1:w0≠wStart:=fun h=>hB (.inl h)
    have b2:w0≠wBeacon:=fun h=>hB (.inr (.inl h))
    have b3:w0≠wMove:=fun h=>hB (.inr (.inr h))
    by_cases hE:w0=wEnd
    ·rw [qaqs hsp rfl hE]
     cases l with
     | nil =>
      have he:s=wEnd:=(hone w0 rfl).symm.trans hE
      have k1:iEq (lenI [w0]) 1=true:=rfl
      rw [k1]
      exact qaqg hg hO hp
     | cons b r =>
      have hne:s≠wEnd:=fun h=>by
       have:=hend h
       simp at this
      have k1:iEq (lenI (w0 :: b :: r)) 1=false:=qaz (by rw [qaa];simp;omega)
      rw [k1]
      exact qc1 rfl
    ·have hne:s≠wEnd:=fun h=>by
      have:=hend h
      simp only [List.cons.injEq] at this
      exact hE this.1
     rw [qaob hsp rfl (qhn a1) (qhn a2) (qhn a3) (qhn a4) (qhn a5) (qhn b1) (qhn b2) (qhn b3) (qhn hE)]
     exact qc1 rfl
abbrev DOut:=(DMission×Int×Int×Unit)×Unit
def zeroM:DMission:=(0,(0,0,0,()),[],[],())
abbrev muW (t:Int×DWork×Unit):Nat:=muD 3 ((t.2.1.2.2.2.1.map Int.toNat).zip (t.2.1.2.2.2.2.1.map Int.toNat)) t.1.toNat
theorem qahh (m:DMission) (fix:Int) (O:List (Nat×Nat)) (p:Nat):muW ((p:Int),workS m fix O,())=muD 3 O p:=by
 have:((O.map (fun x:Nat×Nat=>(x.1:Int))).map Int.toNat).zip ((O.map (fun x:Nat×Nat=>(x.2:Int))).map Int.toNat)=O:=by
  induction O with
  | nil=>rfl
  | cons x O ih=>simp only [List.map_cons,List.zip_cons_cons,ih,Int.toNat_natCast]
 show muD 3 (((O.map (fun x:Nat×Nat=>(x.1:Int))).map Int.toNat).zip ((O.map (fun x:Nat×Nat=>(x.2:Int))).map Int.toNat)) _=_
 rw [this]
 rfl
theorem qai7 {X:List (List UInt8)} (hX:X.length≤200) (hall : ∀ f∈X,f.length≤1048576) {g:Int×DWork×Unit→Option ((Int×DWork×Unit)⊕DOut)}
  (hg : ∀ (w:DWork) (p:Nat),g ((p:Int),w,())=bif iLt (p:Int) (X.length:Int) then (qap w (X.getD p []) (p:Int)).bind fun y=>bif !(iEq y.1.2.1 0) then Option.map Sum.inr (some ((zeroM,(p:Int),y.1.2.1,()),())) else some (Sum.inl (y.1.1,y.2.1,()))
   else Option.map Sum.inr (bif iLt 0 (lenI w.2.2.2.1) then some ((zeroM,(X.length:Int),4,()),()) else some ((w.1,0,0,()),()))) :
  ∃ a:DOut,run g (0,((8,(0,0,0,()),[],[],()),0,0,[],[],()),())=some a∧Sized TyMission a.1.1∧(a.1.2.2.1=0 → ∃ fix,Good a.1.1 fix):=by
 refine qik (f:=g) (fun t => ∃ (m:DMission) (fix:Int) (O:List (Nat×Nat)) (p:Nat),t=((p:Int),workS m fix O,())∧Good m fix∧OInv O p) muW _ (fun t hR => ?_) (s:=((0:Nat),workS (8,(0,0,0,()),[],[],()) 0 [],()))
  ⟨_,_,_,_,rfl,⟨by decide,by decide,by decide,by decide,by decide,by decide,qajn,(fun _ h=>by cases h),(fun _ h=>by cases h)⟩,⟨by decide,by simp,by simp,by simp,by decide⟩⟩
 obtain ⟨m,fix,O,p,rfl,hgd,hO⟩:=hR
 rw [hg]
 have hz:Sized TyMission zeroM:=⟨trivial,⟨trivial,trivial,trivial,trivial⟩,⟨Nat.zero_le _,fun _ h=>by cases h⟩,⟨Nat.zero_le _,fun _ h=>by cases h⟩,trivial⟩
 by_cases hp:p<X.length
 ·have l1:iLt (p:Int) (X.length:Int)=true:=qaf (by omega)
  have hf:(X.getD p []).length≤1048576:=by
   rw [qao hp];exact hall _ (List.getElem_mem hp)
  rw [l1]
  rcases qapi hgd hO (p:=p) (by omega) hf with ⟨code,q,w,hc,e2⟩ | ⟨m',fix',O',p',e2,g1,g2,g3⟩
  ·rw [e2]
   have:iEq code 0=false:=qaz hc
   right
   refine ⟨((zeroM,(p:Int),code,()),()),?_,hz,fun h=>absurd h hc⟩
   simp only [Option.bind_some,this,Bool.not_false,cond_true];rfl
  ·rw [e2]
   left
   refine ⟨((p':Int),workS m' fix' O',()),rfl,⟨m',fix',O',p',rfl,g1,g2⟩,?_⟩
   rw [qahh,qahh]
   exact g3
 ·have l1:iLt (p:Int) (X.length:Int)=false:=qag (by omega)
  right
  have h3:lenI (workS m fix O).2.2.2.1=(O.length:Int):=by
   show lenI (O.map _)=_
   rw [qai6,qaa]
  rw [l1,h3]
  cases iLt 0 (O.length:Int) with
  | true=>exact ⟨_,rfl,hz,fun h=>absurd (show (4:Int)=0 from h) (by decide)⟩
  | false =>
   refine ⟨((m,0,0,()),()),rfl,?_,fun _=>⟨fix,hgd⟩⟩
   obtain ⟨rt,⟨v1,v2,v3,⟨⟩⟩,bs,ls,⟨⟩⟩:=m
   have q1:=hgd.legs
   have q2:=hgd.beacons
   simp only at q1 q2
   refine ⟨trivial,⟨trivial,trivial,trivial,trivial⟩,⟨?_,fun _ _=>⟨trivial,trivial,trivial,trivial⟩⟩,⟨?_,fun _ _=>⟨trivial,⟨trivial,trivial,trivial,trivial⟩,trivial,trivial,trivial⟩⟩,trivial⟩
   ·show bs.length≤_;omega
   ·show ls.length≤_;omega
theorem qan0 {X:List (List UInt8)} {n p:Nat} (h:p<n):(X.take n).getD p []=X.getD p []:=by
 simp [List.getD_eq_getElem?_getD,h]
theorem qab2 {s:List UInt8} (hs:s.length≤1048576) : ∃ a:DOut,qb5 s=some a∧Sized TyMission a.1.1∧(a.1.2.2.1=0 → ∃ fix,Good a.1.1 fix):=by
 have hsp:qbx s 10=some ((splitC 10 s,()),()):=qe5 10 hs
 have hall : ∀ f∈splitC 10 s,f.length≤1048576:=fun f hf=>Nat.le_trans (qaff hf) hs
 have hne:splitC 10 s≠[]:=qli 10 s
 have hlen:(splitC 10 s).length≤1048577:=by
  rw [qeq]
  have:=List.count_le_length (a:=(10:UInt8)) (l:=s)
  omega
 generalize splitC 10 s=L at hsp hall hne hlen
 have hz:Sized TyMission zeroM:=⟨trivial,⟨trivial,trivial,trivial,trivial⟩,⟨Nat.zero_le _,fun _ h=>by cases h⟩,⟨Nat.zero_le _,fun _ h=>by cases h⟩,trivial⟩
 obtain ⟨n,hn⟩ : ∃ n:Nat,L.length=n+1:=⟨L.length-1,by have:=List.length_pos_iff.mpr hne;omega⟩
 have e1:iSub .i64 (lenI L) 1=(n:Int):=by
  rw [qaa,hn];exact (qcm (by omega) (by omega)).trans (by omega)
 have e2:inB (n:Int) L.length=true:=by rw [hn];exact qad (by omega)
 have e3:inS 0 (n:Int) L.length=true:=by rw [hn];unfold inS;simp;omega
 unfold qb5
 rw [hsp]
 simp only [Option.bind_some]
 rw [e1,e2,e3]
 simp only [cond_true,Int.toNat_natCast,List.drop_zero]
 cases hE:sEq (L.getD n []) [] with
 | true =>
  simp only [cond_true,Option.bind_some]
  have hX:lenI (L.take n)=(n:Int):=by rw [qaa,List.length_take,hn];omega
  have hX':(L.take n).length=n:=by rw [List.length_take,hn];omega
  cases iLt 4000 (lenI s) with
  | true=>exact ⟨_,rfl,hz,fun h=>absurd (show (2:Int)=0 from h) (by decide)⟩
  | false =>
   cases h2:iLt 200 (n:Int) with
   | true=>exact ⟨_,rfl,hz,fun h=>absurd (show (2:Int)=0 from h) (by decide)⟩
   | false =>
    have h2':¬ 200<(n:Int):=by simpa [iLt] using h2
    simp only [cond_false]
    refine qai7 (X:=L.take n) (by omega) (fun f hf=>hall f (List.mem_of_mem_take hf)) (fun w p => ?_)
    unfold qdk
    rw [hX']
    simp only [Int.toNat_natCast]
    by_cases hp:p<n
    ·rw [qaf (a:=(p:Int)) (b:=(n:Int)) (by omega),qad hp,qan0 hp,Nat.zero_add]
     rfl
    ·rw [qag (a:=(p:Int)) (b:=(n:Int)) (by omega)]
     rfl
 | false =>
  simp only [cond_false,Option.bind_some]
  cases iLt 4000 (lenI s) with
  | true=>exact ⟨_,rfl,hz,fun h=>absurd (show (2:Int)=0 from h) (by decide)⟩
  | false =>
   cases h2:iLt 200 (lenI L) with
   | true=>exact ⟨_,rfl,hz,fun h=>absurd (show (2:Int)=0 from h) (by decide)⟩
   | false =>
    have h2':¬ 200<(lenI L):=by simpa [iLt] using h2
    rw [qaa] at h2'
    simp only [cond_false]
    refine qai7 (X:=L) (by omega) hall (fun w p => ?_)
    unfold qlf
    simp only
    rw [qaa]
    by_cases hp:p<L.length
    ·rw [qaf (a:=(p:Int)) (b:=(L.length:Int)) (by omega),qad hp]
     rfl
    ·rw [qag (a:=(p:Int)) (b:=(L.length:Int)) (by omega)]
     rfl
end
end Go.Proofs.YtnndahnmlmgenaaGreatDoor
