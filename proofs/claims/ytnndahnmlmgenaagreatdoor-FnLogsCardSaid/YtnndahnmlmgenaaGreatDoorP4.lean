import Derived.Test.YtnndahnmlmgenaaGreatDoorP3
/- Functions of the program and of the reference in plain terms. -/
set_option linter.unusedSectionVars false
set_option linter.unusedSimpArgs false
set_option linter.unusedVariables false
namespace Go.Proofs.YtnndahnmlmgenaaGreatDoor
open Go Go.Tm
section
def C4 (k:Int):Prop:=k=0∨k=4
theorem qany (s:DState) (c:DClue) : ∃ (g:Nat) (k:Int),qiq s c=some ((g,k,()),())∧C4 k:=by
 obtain ⟨sh,e,v,h1,h2⟩:=qyr s c
 simp only [qiq,h2,qbg,Option.bind_some]
 cases finB (fDiv .f32 (fMul .f32 e e) v) with
 | true=>exact ⟨_,_,rfl,.inl rfl⟩
 | false=>exact ⟨_,_,rfl,.inr rfl⟩
theorem qas0:fLe .f32 0 1091567616=true:=by decide
theorem qs8 {s:DState} (hs:stateB s=true) {c:DClue} (hc:clueB c=true) : ∃ (w:DState) (b:Bool) (k:Int),qb1 s c 1091567616=some ((w,b,k,()),())∧C4 k∧(k=0→stateB w=true):=by
 obtain ⟨g,k,g1,g2⟩:=qany s c
 obtain ⟨w,k',u1,u2,u3⟩:=qth hs hc
 have i0:(!iEq (0:Int) 0)=false:=rfl
 simp only [qb1,qo4,qc0,qhw,hs,hc,Option.bind_some,Bool.not_true,cond_false,g1,u2,i0,qas0]
 cases hk:iEq k 0 with
 | false=>exact ⟨_,_,_,rfl,g2,fun q=>absurd q (qda.1 hk)⟩
 | true =>
  simp only [Bool.not_true,cond_false]
  cases fLt .f32 1091567616 g with
  | true=>exact ⟨_,_,_,rfl,.inl rfl,fun _=>hs⟩
  | false =>
   refine ⟨_,_,_,rfl,?_,fun q => ?_⟩
   ·rcases u3 with ⟨h,_⟩ | ⟨h,_⟩
    ·exact .inl h
    ·exact .inr h
   ·rcases u3 with ⟨_,h⟩ | ⟨h,_⟩
    ·exact h
    ·have q:k'=0:=q
     omega
theorem qaqr {l:List DClue} (hl:l.length≤256) (hv:l.all clueB=true) {s:DState} (hs:stateB s=true) : ∃ o,run (qa1 l) ((0:Int),s,())=some o ∧ ∃ (w:DState) (k:Int),o=((w,k,()),())∧C4 k:=by
 refine qik (f:=qa1 l) (fun z => ∃ i:Nat,z.1=i∧i≤l.length∧stateB z.2.1=true) (fun z=>(l.length-z.1).toNat) _ (fun z hz => ?_) ⟨0,rfl,Nat.zero_le _,hs⟩
 obtain ⟨z1,z2,⟨⟩⟩:=z
 obtain ⟨i,h1,h2,h3⟩:=hz
 simp only at h1 h3
 subst h1
 by_cases hlt:i<l.length
 ·have e1:iLt (i:Int) (lenI l)=true:=qaf (by rw [qaa];omega)
  have e2:inB (i:Int) (List.length l)=true:=qad hlt
  have e4:List.getD l i (((0,0,0,0,0,0,()),0,0,()):DClue)=l[i]:=qao hlt
  have e5:iAdd .i64 (i:Int) 1=((i+1:Nat):Int):=qat hlt (by omega)
  obtain ⟨w,k,u1,u2,u3⟩:=qth h3 (List.all_eq_true.1 hv _ (List.getElem_mem hlt))
  simp only [qa1,e1,e2,e4,e5,Int.toNat_natCast,u2,Option.bind_some,cond_true]
  cases hk:iEq k 0 with
  | false =>
   refine .inr ⟨_,rfl,_,_,rfl,?_⟩
   rcases u3 with ⟨h,_⟩ | ⟨h,_⟩
   ·exact .inl h
   ·exact .inr h
  | true =>
   refine .inl ⟨_,rfl,⟨i+1,rfl,hlt,?_⟩,by show ((l.length:Int)-((i+1:Nat):Int)).toNat<((l.length:Int)-(i:Int)).toNat;omega⟩
   rcases u3 with ⟨_,h⟩ | ⟨h,_⟩
   ·exact h
   ·have:=qas.1 hk;omega
 ·have e1:iLt (i:Int) (lenI l)=false:=qag (by rw [qaa];omega)
  simp only [qa1,e1,cond_false]
  exact .inr ⟨_,rfl,_,_,rfl,.inl rfl⟩
theorem qapx {s:DState} (hs:stateB s=true) {l:List DClue} (hl:l.length≤256) (hv:l.all clueB=true) : ∃ (w:DState) (k:Int),qgh s l=some ((w,k,()),())∧C4 k:=by
 have e256:iLt 256 (lenI l)=false:=qag (by rw [qaa];omega)
 have h2:run (qc7 l s) ((0:Int),())=bif l.all clueB then run (qa1 l) ((0:Int),s,()) else some ((zS,(1:Int),()),()):=by
  refine qyk (xs:=l) (fun i (_:Unit)=>((i:Int),())) clueB (fun u _=>u) ((zS,(1:Int),()),()) (fun _=>run (qa1 l) ((0:Int),s,())) (fun i hi u => ?_) (fun u => ?_) ()
  ·have e1:iLt (i:Int) (lenI l)=true:=qaf (by rw [qaa];omega)
   have e2:inB (i:Int) l.length=true:=qad hi
   have e4:l.getD i zC=l[i]:=qao hi
   have e5:iAdd .i64 (i:Int) 1=((i+1:Nat):Int):=qat hi (by omega)
   simp only [qc7,e1,e2,e4,e5,Int.toNat_natCast,qhw,Option.bind_some,cond_true]
   cases clueB l[i] <;> rfl
  ·have e1:iLt (l.length:Int) (lenI l)=false:=qag (by rw [qaa];omega)
   simp only [qc7,e1,e256,cond_false]
 obtain ⟨o,h3,w,k,rfl,h4⟩:=qaqr hl hv hs
 refine ⟨w,k,?_,h4⟩
 unfold qgh
 rw [qc0,hs]
 simp only [Option.bind_some,Bool.not_true,cond_false]
 rw [h2,hv]
 exact h3
theorem qx7 {i x:Nat} (h3:3≤i) (hi:i<6) (hx:finB x=true):clueB (cl i x 1040187392)=true:=by
 match i,h3,hi with
 | 3,_,_=>show ((rowL (Vec.set 6 r6 3 (1065353216:Nat))).all finB&&(finB x&&(finB 1040187392&&fLt .f32 0 1040187392)))=true;rw [hx];decide
 | 4,_,_=>show ((rowL (Vec.set 6 r6 4 (1065353216:Nat))).all finB&&(finB x&&(finB 1040187392&&fLt .f32 0 1040187392)))=true;rw [hx];decide
 | 5,_,_=>show ((rowL (Vec.set 6 r6 5 (1065353216:Nat))).all finB&&(finB x&&(finB 1040187392&&fLt .f32 0 1040187392)))=true;rw [hx];decide
theorem qajm {s:DState} (hs:stateB s=true) {t:Nat} (ht:leastB t=true) : ∃ (w:DState) (k:Int),qin s t ((1048576000,1048576000,1048576000,()):Vec 3 Nat)=some ((w,k,()),())∧C4 k:=by
 have hs0:(!stateB s)=false:=by rw [hs];rfl
 have a0:leastB (Vec.getD 3 ((1048576000,1048576000,1048576000,()):Vec 3 Nat) 0 (0:Nat))=true:=by decide
 have a1:leastB (Vec.getD 3 ((1048576000,1048576000,1048576000,()):Vec 3 Nat) 1 (0:Nat))=true:=by decide
 have a2:leastB (Vec.getD 3 ((1048576000,1048576000,1048576000,()):Vec 3 Nat) 2 (0:Nat))=true:=by decide
 simp only [qin,qc0,hs0,quh,ht,a0,a1,a2,qfp,Option.bind_some,cond_false,Bool.not_true]
 have key : ∀ (x:Vec 6 Nat) (T:DTab),∃ (w:DState) (k:Int),((qep T).bind fun y=>(qeg ((x,y.1.1,()):DState) y.1.2.1).bind fun y=>some ((y.1.1,y.1.2.1,()),()))=some ((w,k,()),())∧C4 k:=by
  intro x T
  obtain ⟨w,k,-,h2,h3,-⟩:=qaax x T
  refine ⟨w,k,h2,?_⟩
  rcases h3 with ⟨h,_⟩ | ⟨h,_⟩
  ·exact .inl h
  ·exact .inr h
 exact key _ _
theorem qamu {s:DState} (hs:stateB s=true) (p:Vec 3 Nat) (x d:Nat) : ∃ (c:DClue) (k:Int),qgg s p x d=some ((c,k,()),())∧(k=0→clueB c=true):=by
 have h1 : ∃ q,qhc s=some ((q,()),()):=⟨_,rfl⟩
 obtain ⟨q,p2⟩:=h1
 have h2 : ∃ m,qdl q p=some ((m,()),()):=⟨_,rfl⟩
 obtain ⟨m,hm⟩:=h2
 obtain ⟨u,k,u1,u2⟩:=qaj9 m
 simp only [qgg,qc0,p2,hm,u2,quc,hs,Option.bind_some,Bool.not_true,cond_false]
 cases hk:iEq k 0 with
 | false=>exact ⟨zC,k,rfl,fun q=>absurd q (qda.1 hk)⟩
 | true =>
  simp only [Bool.not_true,cond_false]
  obtain ⟨z,hz⟩:=qxp (Vec.getD 3 u 0 (0:Nat),Vec.getD 3 u 1 (0:Nat),Vec.getD 3 u 2 (0:Nat),0,0,0,()) s.1
  obtain ⟨C,hC⟩ : ∃ C:DClue,C=((Vec.getD 3 u 0 (0:Nat),Vec.getD 3 u 1 (0:Nat),Vec.getD 3 u 2 (0:Nat),0,0,0,()),fAdd .f32 (fSub .f32 x (rootF (dot3 m m))) z,d,()):=⟨_,rfl⟩
  refine ⟨bif clueB C then C else zC,bif clueB C then 0 else 1,(congrArg (fun w=>Option.bind w _) hz).trans ?_,?_⟩
  ·subst hC
   exact (congrArg (fun w=>Option.bind w _) (qnj _)).trans rfl
  ·cases hb:clueB C with
   | true=>exact fun _=>hb
   | false=>exact fun q=>absurd q (by decide)
theorem qaqm {s:DState} (hs:stateB s=true) (v:Vec 3 Int) (hv:Fit (.arr 3 (.int .i16)) v) : ∃ (w:DState) (b:Bool) (k:Int),qkd s v=some ((w,b,k,()),())∧C4 k:=by
 obtain ⟨c1,c2⟩:=qadn v
 obtain ⟨f0,f1,f2,_⟩:=hv
 have d0:=qn0 (n:=Vec.getD 3 v 0 (0:Int)) f0.1 f0.2
 have d1:=qn0 (n:=Vec.getD 3 v 1 (0:Int)) f1.1 f1.2
 have d2:=qn0 (n:=Vec.getD 3 v 2 (0:Int)) f2.1 f2.2
 generalize h0:seenF (Vec.getD 3 v 0 (0:Int))=x0 at *
 generalize h1:seenF (Vec.getD 3 v 1 (0:Int))=x1 at *
 generalize h2:seenF (Vec.getD 3 v 2 (0:Int))=x2 at *
 have e2:qe8=some ((dSens,()),()):=rfl
 have b0:=qp0 (i:=0) (by omega) d0
 have b1:=qp0 (i:=1) (by omega) d1
 have b2:=qp0 (i:=2) (by omega) d2
 have s0:qa5 0 x0 1056964608=some ((cl 0 x0 1056964608,0,()),()):=(qbw (i:=0) (by omega) x0 1056964608).trans (by rw [b0];rfl)
 have s1:qa5 1 x1 1056964608=some ((cl 1 x1 1056964608,0,()),()):=(qbw (i:=1) (by omega) x1 1056964608).trans (by rw [b1];rfl)
 have s2:qa5 2 x2 1056964608=some ((cl 2 x2 1056964608,0,()),()):=(qbw (i:=2) (by omega) x2 1056964608).trans (by rw [b2];rfl)
 have z0:(!iEq (0:Int) 0)=false:=rfl
 obtain ⟨V,hV⟩ : ∃ V:Vec 3 Nat,V=(x0,x1,x2,()):=⟨_,rfl⟩
 replace c2:qmr dSens v=some ((V,()),()):=c2.trans (by rw [hV];rfl)
 have g0:Vec.getD 3 V 0 (0:Nat)=x0:=by rw [hV];rfl
 have g1:Vec.getD 3 V 1 (0:Nat)=x1:=by rw [hV];rfl
 have g2:Vec.getD 3 V 2 (0:Nat)=x2:=by rw [hV];rfl
 obtain ⟨w1,p1,k1,t1,r1,v1⟩:=qs8 hs b0
 simp only [qkd,e2,c2,g0,g1,g2,s0,s1,s2,t1,z0,Option.bind_some,cond_false]
 cases q1:iEq k1 0 with
 | false=>exact ⟨_,_,_,rfl,r1⟩
 | true =>
  simp only [Bool.not_true,cond_false]
  obtain ⟨w2,p2,k2,t2,r2,v2⟩:=qs8 (v1 (qas.1 q1)) b1
  simp only [t2,Option.bind_some]
  cases q2:iEq k2 0 with
  | false=>exact ⟨_,_,_,rfl,r2⟩
  | true =>
   simp only [Bool.not_true,cond_false]
   obtain ⟨w3,p3,k3,t3,r3,v3⟩:=qs8 (v2 (qas.1 q2)) b2
   simp only [t3,Option.bind_some]
   cases q3:iEq k3 0 with
   | false=>cases p1 <;> exact ⟨_,_,_,rfl,r3⟩
   | true=>cases p1 <;> cases p2 <;> exact ⟨_,_,_,rfl,.inl rfl⟩
theorem qaoa:((List.range 64).all fun d=>leastB (fDiv .f32 1065353216 (fOfInt .f32 ((d+1:Nat):Int))))=true:=by kernel_rfl
theorem qamf {n:Int} (h:1≤n) (h1:n≤64):leastB (fDiv .f32 1065353216 (fOfInt .f32 n))=true:=by
 have:=List.all_eq_true.1 qaoa (n.toNat-1) (List.mem_range.2 (by omega))
 rw [show ((n.toNat-1+1:Nat):Int)=n by omega] at this
 exact this
theorem qapk (a:DLog) (hr:1≤a.1∧a.1≤64) {s:DState} (hs:stateB s=true) (e:DEntry) (he:entryB (lenI a.2.2.1) e=true) (hf:Fit (.arr 3 (.int .i16)) e.2.2.1) (hl:a.2.2.1.length≤140737488355328) :
  ∃ (w:DState) (b:Bool) (k:Int),qeh a s e=some ((w,b,k,()),())∧C4 k∧(k=0→b=false→3≤e.1):=by
 unfold qeh
 cases h1:iEq e.1 1 with
 | true =>
  obtain ⟨w,k,p1,p2⟩:=qajm hs (qamf hr.1 hr.2)
  refine ⟨w,iEq k 0,k,(congrArg (fun z=>Option.bind z _) p1).trans rfl,p2,fun q r => ?_⟩
  rw [q] at r;cases r
 | false =>
  simp only [cond_false]
  cases h2:iEq e.1 2 with
  | true =>
   have hv:finV e.2.1=true:=by
    simp only [entryB,h1,h2,cond_false,cond_true,Bool.and_eq_true] at he
    exact he.2
   unfold finV at hv
   simp only [Bool.and_eq_true] at hv
   have s3:=qbw (i:=3) (by omega) (Vec.getD 3 e.2.1 0 (0:Nat)) 1040187392
   have s4:=qbw (i:=4) (by omega) (Vec.getD 3 e.2.1 1 (0:Nat)) 1040187392
   have s5:=qbw (i:=5) (by omega) (Vec.getD 3 e.2.1 2 (0:Nat)) 1040187392
   replace s3:qa5 (3:Int) _ _=_:=s3
   replace s4:qa5 (4:Int) _ _=_:=s4
   replace s5:qa5 (5:Int) _ _=_:=s5
   have f3:clueB (cl 3 (Vec.getD 3 e.2.1 0 (0:Nat)) 1040187392)=true:=qx7 (by omega) (by omega) hv.1
   have f4:clueB (cl 4 (Vec.getD 3 e.2.1 1 (0:Nat)) 1040187392)=true:=qx7 (by omega) (by omega) hv.2.1
   have f5:clueB (cl 5 (Vec.getD 3 e.2.1 2 (0:Nat)) 1040187392)=true:=qx7 (by omega) (by omega) hv.2.2
   rw [f3] at s3
   rw [f4] at s4
   rw [f5] at s5
   simp only [s3,s4,s5,Option.bind_some,cond_true]
   obtain ⟨w,k,u1,u2⟩:=qapx hs (l:=[cl 3 (Vec.getD 3 e.2.1 0 (0:Nat)) 1040187392,cl 4 (Vec.getD 3 e.2.1 1 (0:Nat)) 1040187392,cl 5 (Vec.getD 3 e.2.1 2 (0:Nat)) 1040187392]) (by simp) (by simp [f3,f4,f5])
   refine ⟨w,iEq k 0,k,by rw [u1];rfl,u2,fun q r => ?_⟩
   rw [q] at r;cases r
  | false =>
   simp only [cond_false]
   cases h3:iEq e.1 3 with
   | true =>
    obtain ⟨w,b,k,f1,f2⟩:=qaqm hs e.2.2.1 hf
    exact ⟨w,b,k,by rw [f1];rfl,f2,fun _ _=>by have:=qas.1 h3;omega⟩
   | false =>
    simp only [cond_false]
    have h40:iEq e.1 4=true:=by
     simp only [entryB,h1,h2,h3,cond_false] at he
     cases h4:iEq e.1 4 with
     | false=>rw [h4] at he;cases he
     | true=>rfl
    have h4:iLe 0 e.2.2.2.1=true∧iLe e.2.2.2.1 (iSub .i64 (lenI a.2.2.1) 1)=true:=by
     simp only [entryB,h1,h2,h3,h40,cond_false,cond_true,Bool.and_eq_true] at he
     exact he.1
    have e3:iSub .i64 (lenI a.2.2.1) 1=lenI a.2.2.1-1:=qcm (by rw [qaa];omega) (by rw [qaa];omega)
    have h5:=qb8.1 h4.1
    have h6:=qb8.1 h4.2
    rw [e3,qaa] at h6
    have e4:inB e.2.2.2.1 a.2.2.1.length=true:=qii h5 (by omega)
    have h7:3≤e.1:=by have:=qas.1 h40;omega
    rw [e4]
    obtain ⟨c,k,r1,r2⟩:=qamu hs (a.2.2.1.getD e.2.2.2.1.toNat ((0,0,0,()):Vec 3 Nat)) e.2.2.2.2.1 1056964608
    simp only [r1,Option.bind_some,cond_true]
    cases hk:iEq k 0 with
    | false=>exact ⟨_,_,_,rfl,.inl rfl,fun _ _=>h7⟩
    | true =>
     obtain ⟨w,b,k',g1,g2,g3⟩:=qs8 hs (r2 (qas.1 hk))
     simp only [Bool.not_true,cond_false,g1,Option.bind_some]
     exact ⟨_,_,_,rfl,g2,fun _ _=>h7⟩
end
section
theorem qadv {f:List UInt8} {x:Nat} (hs:f.length≤1048576) (h47:(47:UInt8)∉f) (h:fracOne f=((x,0,()),())):qam f=some ((x,true,()),()):=by
 obtain ⟨w,h1,h2,-⟩:=qjh hs
 rw [h2 h47,h] at h1
 unfold qek at h1
 cases hq:qam f with
 | none=>rw [hq] at h1;cases h1
 | some y =>
  obtain ⟨⟨z,ok,⟨⟩⟩,⟨⟩⟩:=y
  rw [hq] at h1
  cases ok with
  | true =>
   have e:(((z,(0:Int),()),()):RdF)=((x,0,()),()):=Option.some.inj h1
   simp only [Prod.mk.injEq,and_true] at e
   rw [e]
  | false =>
   have e:(((0,(5:Int),()),()):RdF)=((x,0,()),()):=Option.some.inj h1
   simp only [Prod.mk.injEq,and_true] at e
   exact absurd e.2 (by decide)
theorem qaua {f p r:List UInt8} {x:Nat} (hs:f.length≤1048576) (e:f=p++47 :: r) (h47:(47:UInt8)∉p) (h:fracTwo p r=((x,0,()),())):qam f=some ((x,true,()),()):=by
 obtain ⟨w,h1,-,h2⟩:=qjh hs
 rw [h2 p r e h47,h] at h1
 unfold qek at h1
 cases hq:qam f with
 | none=>rw [hq] at h1;cases h1
 | some y =>
  obtain ⟨⟨z,ok,⟨⟩⟩,⟨⟩⟩:=y
  rw [hq] at h1
  cases ok with
  | true =>
   have e:(((z,(0:Int),()),()):RdF)=((x,0,()),()):=Option.some.inj h1
   simp only [Prod.mk.injEq,and_true] at e
   rw [e]
  | false =>
   have e:(((0,(5:Int),()),()):RdF)=((x,0,()),()):=Option.some.inj h1
   simp only [Prod.mk.injEq,and_true] at e
   exact absurd e.2 (by decide)
theorem fv_5:qam [53]=some ((1084227584,true,()),()):=qadv (by decide) (by decide) (by kernel_rfl)
theorem fv_0:qam [48]=some ((0,true,()),()):=qadv (by decide) (by decide) (by kernel_rfl)
theorem fv_1:qam [49]=some ((1065353216,true,()),()):=qadv (by decide) (by decide) (by kernel_rfl)
theorem fv_m:qam [45,49]=some ((3212836864,true,()),()):=qadv (by decide) (by decide) (by kernel_rfl)
theorem fv_h:qam [49,47,50]=some ((1056964608,true,()),()):=qaua (p:=[49]) (r:=[50]) (by decide) rfl (by decide) (by kernel_rfl)
theorem wh_d (s:List UInt8) (n:Nat) (h:numOK 999999 s=true) (hv:valD 0 s=n):qa4 s=some (((n:Int),true,()),()):=by
 obtain ⟨k,h1,h2⟩:=qg3 s
 rw [h1,h2 h,h,hv]
def dW (B:List (Vec 3 Nat)) (L:List DLeg) (fix t:Int):DWork:=((8,(0,0,0,()),B,L,()),fix,t,[],[],())
abbrev dB1:List (Vec 3 Nat):=[(1084227584,1084227584,0,())]
abbrev dL1:List DLeg:=[((6:Int),(1065353216,1056964608,0,()),2,-1,())]
abbrev dL2:List DLeg:=[((6:Int),(1065353216,1056964608,0,()),2,0,())]
abbrev dL3:List DLeg:=[((6:Int),(1065353216,1056964608,0,()),2,0,()),((4:Int),(3212836864,0,1065353216,()),2,-1,())]
theorem qagi {a b d:List UInt8} {r:List (List UInt8)} {x y z:Nat} (ha:qam a=some ((x,true,()),())) (hb:qam b=some ((y,true,()),())) (hd:qam d=some ((z,true,()),())) :
  qge (a :: b :: d :: r)=some (((x,y,z,()),true,()),()):=by
 have j0:inB 0 (a :: b :: d :: r).length=true:=qad (i:=0) (by simp)
 have j1:inB 1 (a :: b :: d :: r).length=true:=qad (i:=1) (by simp)
 have j2:inB 2 (a :: b :: d :: r).length=true:=qad (i:=2) (by simp)
 have h0:List.getD (a :: b :: d :: r) 0 []=a:=rfl
 have h1:List.getD (a :: b :: d :: r) 1 []=b:=rfl
 have h2:List.getD (a :: b :: d :: r) 2 []=d:=rfl
 unfold qge
 rw [j0,j1,j2,h0,h1,h2]
 simp only [cond_true,cond_false]
 rw [ha]
 simp only [Option.bind_some,Bool.not_true,cond_false]
 rw [hb]
 simp only [Option.bind_some,Bool.not_true,cond_false]
 rw [hd]
 rfl
theorem qxy (s:List UInt8) (l:List (List UInt8)) (hs:s.length≤1048576) (h:splitC 32 s=l):qbx s 32=some ((l,()),()):=by
 have:=qe5 32 hs
 rw [h] at this
 exact this
def dY0:List UInt8:=[98,101,97,99,111,110,32,53,32,53,32,48]
def dY1:List UInt8:=[102,105,120,32,50]
def dY2:List UInt8:=[109,111,118,101,32,49,32,49,47,50,32,48,32,54]
def dY3:List UInt8:=[114,97,110,103,101,32,48]
def dY4:List UInt8:=[109,111,118,101,32,45,49,32,48,32,49,32,52]
theorem dl_0:qap (dW [] [] 0 0) dY0 0=some ((1,0,()),(dW dB1 [] 0 0,())):=by
 rw [qtc (qxy dY0 [wBeacon,[53],[53],[48]] (by decide) (by decide)) rfl rfl rfl rfl rfl rfl (.inr (.inl ⟨rfl,rfl⟩))]
 have e:qai (dW [] [] 0 0) [wBeacon,[53],[53],[48]]=some ((0,()),(dW dB1 [] 0 0,())):=by
  unfold qai
  have d1:dropL [wBeacon,[53],[53],[48]] 1=[[53],[53],[48]]:=rfl
  rw [d1,qagi fv_5 fv_5 fv_0]
  rfl
 rw [e]
 rfl
theorem dl_1:qap (dW dB1 [] 0 0) dY1 1=some ((2,0,()),(dW dB1 [] 2 0,())):=by
 rw [qacp (qxy dY1 [wFix,[50]] (by decide) (by decide)) rfl (.inr ⟨rfl,.inl rfl⟩)]
 have g:List.getD [wFix,[50]] 1 []=[50]:=rfl
 rw [g,wh_d [50] 2 (by kernel_rfl) (by kernel_rfl)]
 rfl
theorem dl_2:qap (dW dB1 [] 2 0) dY2 2=some ((3,0,()),(dW dB1 dL1 2 6,())):=by
 rw [qtc (qxy dY2 [wMove,[49],[49,47,50],[48],[54]] (by decide) (by decide)) rfl rfl rfl rfl rfl rfl (.inr (.inr ⟨rfl,rfl,rfl⟩))]
 have e:qai (dW dB1 [] 2 0) [wMove,[49],[49,47,50],[48],[54]]=some ((0,()),(dW dB1 dL1 2 6,())):=by
  unfold qai
  have d1:dropL [wMove,[49],[49,47,50],[48],[54]] 1=[[49],[49,47,50],[48],[54]]:=rfl
  have g:List.getD [wMove,[49],[49,47,50],[48],[54]] 4 []=[54]:=rfl
  rw [d1,qagi fv_1 fv_h fv_0,g,wh_d [54] 6 (by kernel_rfl) (by kernel_rfl)]
  rfl
 rw [e]
 rfl
theorem dl_3:qap (dW dB1 dL1 2 6) dY3 3=some ((4,0,()),(dW dB1 dL2 2 6,())):=by
 rw [qacp (qxy dY3 [wRange,[48]] (by decide) (by decide)) rfl (.inr ⟨rfl,.inr ⟨rfl,.inr ⟨rfl,.inl rfl⟩⟩⟩)]
 have g:List.getD [wRange,[48]] 1 []=[48]:=rfl
 rw [g,wh_d [48] 0 (by kernel_rfl) (by kernel_rfl)]
 rfl
theorem dl_4:qap (dW dB1 dL2 2 6) dY4 4=some ((5,0,()),(dW dB1 dL3 2 10,())):=by
 rw [qtc (qxy dY4 [wMove,[45,49],[48],[49],[52]] (by decide) (by decide)) rfl rfl rfl rfl rfl rfl (.inr (.inr ⟨rfl,rfl,rfl⟩))]
 have e:qai (dW dB1 dL2 2 6) [wMove,[45,49],[48],[49],[52]]=some ((0,()),(dW dB1 dL3 2 10,())):=by
  unfold qai
  have d1:dropL [wMove,[45,49],[48],[49],[52]] 1=[[45,49],[48],[49],[52]]:=rfl
  have g:List.getD [wMove,[45,49],[48],[49],[52]] 4 []=[52]:=rfl
  rw [d1,qagi fv_m fv_0 fv_1,g,wh_d [52] 4 (by kernel_rfl) (by kernel_rfl)]
  rfl
 rw [e]
 rfl
def dflTx:List UInt8:=[98,101,97,99,111,110,32,53,32,53,32,48,10,102,105,120,32,50,10,109,111,118,101,32,49,32,49,47,50,32,48,32,54,10,114,97,110,103,101,32,48,10,109,111,118,101,32,45,49,32,48,32,49,32,52,10]
theorem qanm:qbx dflTx 10=some (([dY0,dY1,dY2,dY3,dY4,[]],()),()):=by
 have:=qe5 10 (s:=dflTx) (by decide)
 rw [show splitC 10 dflTx=[dY0,dY1,dY2,dY3,dY4,[]] by decide] at this
 exact this
theorem qaac {w w':DWork} {p q:Nat} (hp:p<5) {f:List UInt8} (hf:List.getD [dY0,dY1,dY2,dY3,dY4,[]] (0+p) []=f) (h:qap w f (p:Int)=some (((q:Int),0,()),(w',()))) :
  qdk 5 (([dY0,dY1,dY2,dY3,dY4,[]],()),()) ((p:Int),w,())=some (.inl ((q:Int),w',())):=by
 have e1:iLt (p:Int) (((5:Int).toNat:Nat):Int)=true:=qaf (by show (p:Int)<5;omega)
 have e2:inB (p:Int) (5:Int).toNat=true:=qad hp
 obtain ⟨⟨w1,w2,w3,w4,⟨⟩⟩,w5,w6,w7,w8,⟨⟩⟩:=w
 obtain ⟨⟨v1,v2,v3,v4,⟨⟩⟩,v5,v6,v7,v8,⟨⟩⟩:=w'
 unfold qdk
 simp only
 rw [e1,e2,Int.toNat_natCast,hf,h]
 rfl
theorem qap7 : ∃ m:DMission,qb5 dflTx=some ((m,0,0,()),()):=by
 have x1:iSub .i64 (lenI [dY0,dY1,dY2,dY3,dY4,[]]) 1=5:=rfl
 unfold qb5
 rw [qanm]
 simp only [Option.bind_some]
 have x2:inB 5 (List.length [dY0,dY1,dY2,dY3,dY4,[]])=true:=rfl
 have x3:List.getD [dY0,dY1,dY2,dY3,dY4,[]] (5:Int).toNat []=[]:=rfl
 have x4:sEq ([]:List UInt8) []=true:=rfl
 have x5:inS 0 5 (List.length [dY0,dY1,dY2,dY3,dY4,[]])=true:=rfl
 have x6:iLt 4000 (lenI dflTx)=false:=rfl
 have x7:iLt 200 (((5:Int).toNat:Nat):Int)=false:=rfl
 rw [x1,x2,x3,x4,x5,x6,x7]
 simp only [cond_true,cond_false]
 have r:run (qdk 5 (([dY0,dY1,dY2,dY3,dY4,[]],()),())) ((0:Nat),dW [] [] 0 0,())=some (((8,(0,0,0,()),dB1,dL3,()),0,0,()),()) :=
  (qar (qaac (p:=0) (q:=1) (by decide) rfl dl_0)).trans ((qar (qaac (p:=1) (q:=2) (by decide) rfl dl_1)).trans ((qar (qaac (p:=2) (q:=3) (by decide) rfl dl_2)).trans ((qar (qaac (p:=3) (q:=4) (by decide) rfl dl_3)).trans ((qar (qaac (p:=4) (q:=5) (by decide) rfl dl_4)).trans (qay rfl)))))
 exact ⟨_,r⟩
end
section
def nn (k:FloatKind) (x:Nat) (t:Int):Prop:=∃ m p,k.decode x = .number false m p∧le2 m p t
theorem qavd {k:FloatKind} {x:Nat} {t:Int} (h:nn k x t):pw k x t:=by
 obtain ⟨m,p,h1,h2⟩:=h
 exact ⟨_,m,p,h1,h2⟩
theorem qave {k:FloatKind} {x:Nat} {t u:Int} (h:nn k x t) (hu:t≤u):nn k x u:=by
 obtain ⟨m,p,h1,h2⟩:=h
 exact ⟨m,p,h1,qan9 h2 hu⟩
theorem qamn {a:Nat} {t:Int} (ha:pw .f32 a t) (h1 : -125≤t+t) (h2:t+t≤127):nn .f32 (fMul .f32 a a) (t+t):=by
 obtain ⟨s,m,p,hd,hm⟩:=ha
 have e:fMul .f32 a a=canon .f32 (FloatKind.f32.encode (.number false (m*m) (p+p))):=by
  unfold fMul Ieee.Format.mul
  rw [show FloatKind.f32.format.read a = .number s m p from hd]
  cases s <;> rfl
 have hl:le2 (m*m) (p+p) (t+t):=by
  have g1:=hm (min p t) (by omega) (by omega)
  refine qla (min p t+min p t) (by omega) (by omega) ?_
  have x1:(2:Nat)^(p+p-(min p t+min p t)).toNat=2^(p-min p t).toNat*2^(p-min p t).toNat:=by rw [← Nat.pow_add];congr 1;omega
  have x2:(2:Nat)^(t+t-(min p t+min p t)).toNat=2^(t-min p t).toNat*2^(t-min p t).toNat:=by rw [← Nat.pow_add];congr 1;omega
  rw [x1,x2]
  have:=Nat.mul_le_mul g1 g1
  rw [Nat.mul_mul_mul_comm] at this
  exact this
 obtain ⟨m',p',e1,e2⟩:=qgz (k:=.f32) false hl h1 h2
 rw [e]
 exact ⟨m',p',e1,e2⟩
theorem qaop {a b:Nat} {t:Int} (ha:nn .f32 a t) (hb:nn .f32 b t) (h1 : -125≤t+1) (h2:t+1≤127):nn .f32 (fAdd .f32 a b) (t+1):=by
 obtain ⟨m,p,hd,hm⟩:=ha
 obtain ⟨n,q,hd',hn⟩:=hb
 have e:fAdd .f32 a b=canon .f32 (FloatKind.f32.encode (.number false (Ieee.signed false m (p-min p q).toNat+Ieee.signed false n (q-min p q).toNat).natAbs (min p q))):=by
  unfold fAdd Ieee.Format.add
  rw [show FloatKind.f32.format.read a = .number false m p from hd,show FloatKind.f32.format.read b = .number false n q from hd']
  have e:Ieee.signed false m (p-min p q).toNat+Ieee.signed false n (q-min p q).toNat=((m*2^(p-min p q).toNat+n*2^(q-min p q).toNat:Nat):Int):=by
   unfold Ieee.signed
   rw [Nat.shiftLeft_eq,Nat.shiftLeft_eq]
   simp
  simp only [Ieee.Datum.sum,Option.map_some,orNan,e]
  have hg:(if ((m*2^(p-min p q).toNat+n*2^(q-min p q).toNat:Nat):Int)=0 then false&&false else decide (((m*2^(p-min p q).toNat+n*2^(q-min p q).toNat:Nat):Int)<0))=false:=by
   split
   ·rfl
   ·exact decide_eq_false (by omega)
  rw [hg]
  rfl
 obtain ⟨m',p',e1,e2⟩:=qgz (k:=.f32) false (qafu hm hn false false) h1 h2
 rw [e]
 exact ⟨m',p',e1,e2⟩
theorem qata {x:Nat} {t:Int} (h:nn .f32 x t) (h1 : -1021≤t) (h2:t≤1023):nn .f64 (conv64 x) t:=by
 obtain ⟨m,p,hd,hm⟩:=h
 have hc:=qi0 x
 unfold fConv at hc
 rw [hd] at hc
 obtain ⟨m',p',e1,e2⟩:=qgz (k:=.f64) false hm h1 h2
 have hn:isNan .f64 (FloatKind.f64.encode (.number false m p))=false:=qix rfl
 have e1':=e1
 rw [qan hn] at e1'
 simp only [e1'] at hc
 have hc:canon .f64 (FloatKind.f64.encode (.number false m p))=conv64 x:=by simpa [Ieee.Datum.isInfinity] using hc
 rw [← hc]
 exact ⟨m',p',e1,e2⟩
theorem qakl {m:Nat} {p t:Int} (h:m≠0→topOf m p≤t):le2 m p (t+1):=by
 by_cases hm:m=0
 ·subst hm;exact qaco _ _
 ·have ht:=h hm
  unfold topOf at ht
  have hlt:m<2^(m.log2+1):=Nat.lt_log2_self
  refine qla (min p (t+1)) (by omega) (by omega) ?_
  refine Nat.le_trans (Nat.mul_le_mul_right _ (Nat.le_of_lt hlt)) ?_
  rw [← Nat.pow_add]
  exact Nat.pow_le_pow_right (by decide) (by omega)
theorem qas9 {v:Nat} {t:Int} (h:nn .f64 v t) (h1:2≤t) (h2:t≤1023):nn .f64 (orNan .f64 (FloatKind.f64.format.sqrt v)) t:=by
 obtain ⟨m,p,hd,hl⟩:=h
 obtain ⟨m1,p1,hr⟩ : ∃ m1 p1,Ieee.Datum.root 54 (.number false m p)=some (.number false m1 p1):=by
  unfold Ieee.Datum.root
  by_cases hm:m=0
  ·exact ⟨m,p,by simp only [if_pos hm]⟩
  ·simp only [if_neg hm,Bool.false_eq_true,if_false]
   exact ⟨_,_,rfl⟩
 have e:FloatKind.f64.format.sqrt v=some (FloatKind.f64.encode (.number false m1 p1)):=by
  show ((FloatKind.f64.format.read v).root 54).map FloatKind.f64.format.write=_
  rw [show FloatKind.f64.format.read v = .number false m p from hd,hr]
  rfl
 rw [e]
 have hle:le2 m1 p1 (t-1+1):=qakl fun h1=>by
  obtain ⟨h2,h3⟩:=qajt hr h1
  have:=qale h2 hl
  unfold topOf at h3 ⊢
  omega
 rw [show t-1+1=t by omega] at hle
 exact qgz (k:=.f64) false (t:=t) hle (by show (-1021:Int)≤t;omega) h2
theorem qalo {x:Nat} {t:Int} (h:nn .f32 x t) (h1:2≤t) (h2:t≤127):pw .f32 (rootF x) t:=by
 obtain ⟨y,e,hy⟩:=qatk (qavd (qas9 (qata h (by omega) (by omega)) h1 (by omega))) (by omega) h2
 rw [qacx] at e
 rw [Option.some.inj e]
 exact hy
theorem qap8 {p q:Vec 3 Nat} (hp:pv 46 p) (hq:pv 20 q) {z:Int} (h0:0≤z) (h1:z≤8) : ∃ m,qdl p q=some ((m,()),())∧finB (fAdd .f32 (rootF (dotR m m)) (fDiv .f32 (fOfInt .f32 (iSub .i64 z 4)) 1098907648))=true∧fltFit .f32 (fAdd .f32 (rootF (dotR m m)) (fDiv .f32 (fOfInt .f32 (iSub .i64 z 4)) 1098907648)):=by
 obtain ⟨a,b,c,⟨⟩⟩:=p
 obtain ⟨d,e,f,⟨⟩⟩:=q
 refine ⟨(fSub .f32 a d,fSub .f32 b e,fSub .f32 c f,()),rfl,?_⟩
 obtain ⟨p1,p2,p3⟩:=hp
 obtain ⟨q1,q2,q3⟩:=hq
 have s1:pw .f32 (fSub .f32 a d) 47:=qajq (k:=.f32) (t:=46) p1 (qq3 q1 (by decide)) (by decide) (by decide)
 have s2:pw .f32 (fSub .f32 b e) 47:=qajq (k:=.f32) (t:=46) p2 (qq3 q2 (by decide)) (by decide) (by decide)
 have s3:pw .f32 (fSub .f32 c f) 47:=qajq (k:=.f32) (t:=46) p3 (qq3 q3 (by decide)) (by decide) (by decide)
 have hd:nn .f32 (fAdd .f32 (fAdd .f32 (fMul .f32 (fSub .f32 a d) (fSub .f32 a d)) (fMul .f32 (fSub .f32 b e) (fSub .f32 b e))) (fMul .f32 (fSub .f32 c f) (fSub .f32 c f))) 96 :=
  qaop (t:=95) (qaop (t:=94) (qamn s1 (by decide) (by decide)) (qamn s2 (by decide) (by decide)) (by decide) (by decide)) (qave (qamn s3 (by decide) (by decide)) (by decide)) (by decide) (by decide)
 have hn:pw .f32 (fDiv .f32 (fOfInt .f32 (iSub .i64 z 4)) 1098907648) 96:=by
  rw [qcm (by omega) (by omega)]
  exact qq3 (qafy (qao1 (by omega)) (qag4 (by kernel_rfl)) (by decide) (by decide)) (by decide)
 exact ⟨qaet (qauo (k:=.f32) (t:=96) (qalo hd (by decide) (by decide)) hn (by decide) (by decide)),qaal (qapt (qalo hd (by decide) (by decide)) hn)⟩
end
section
def sumB (l:List DLeg):Prop:=∀ x∈l,0≤x.1∧x.1≤400
theorem qaiw (l:List DLeg) (h:sumB l) (hl:l.length≤64) : ∀ i,i≤l.length→(l.take i).foldl (fun s x=>iAdd .i64 s x.1) 0=sT l i∧0≤sT l i∧sT l i≤400*i
 | 0,_=>⟨rfl,Int.le_refl _,by simp [sT]⟩
 | i+1,hi=>by
  obtain ⟨e,e0,e1⟩:=qaiw l h hl i (by omega)
  have hx:=h _ (List.getElem_mem (by omega:i<l.length))
  have hs:=qtl (l:=l) (i:=i) (by omega)
  rw [List.take_add_one,List.getElem?_eq_getElem (by omega)]
  simp only [Option.toList,List.foldl_append,List.foldl_cons,List.foldl_nil]
  rw [e,qba (by omega) (by omega),hs]
  omega
theorem qahw {l:List DLeg} (h:sumB l) (hl:l.length≤64):ticksI l=sT l l.length:=by
 have:=(qaiw l h hl l.length (Nat.le_refl _)).1
 rw [List.take_length] at this
 exact this
def cE (n:Int) (l:List DEntry):Int:=((l.countP fun e=>iEq e.1 n:Nat):Int)
theorem qb3 (n:Int) (l:List DEntry) (e:DEntry):cE n (l++[e])=cE n l+(bif iEq e.1 n then 1 else 0):=by
 unfold cE
 rw [List.countP_append]
 cases h:iEq e.1 n <;> simp [h]
def FE (e:DEntry):Prop:=FitVec (fltFit .f32) 3 e.2.1∧fltFit .f32 e.2.2.2.2.1
theorem qrg:FitVec (fltFit .f32) 3 ((0,0,0,()):Vec 3 Nat):=⟨(qfm 0).2,(qfm 0).2,(qfm 0).2,trivial⟩
theorem FE.snoc {l:List DEntry} {e:DEntry} (h : ∀ x∈l,FE x) (he:FE e) : ∀ x∈l++[e],FE x:=by
 intro x hx
 rcases List.mem_append.1 hx with hx | hx
 ·exact h x hx
 ·rw [List.mem_singleton.1 hx];exact he
structure Cnt (g g':DLog) (p q r s:Int):Prop where
 a:cE 1 g'.2.2.2.1=cE 1 g.2.2.2.1+p
 b:cE 2 g'.2.2.2.1=cE 2 g.2.2.2.1+q
 c:cE 3 g'.2.2.2.1=cE 3 g.2.2.2.1+r
 d:cE 4 g'.2.2.2.1=cE 4 g.2.2.2.1+s
 f:(∀ x∈g.2.2.2.1,FE x) → ∀ x∈g'.2.2.2.1,FE x
def fixN (x:DLeg) (k:Int):Int:=bif iLt 0 x.2.2.1 then k/x.2.2.1 else 0
def markN (x:DLeg):Int:=bif iLe 0 x.2.2.2.1 then 1 else 0
theorem qami {x:DLeg} (h:iLt x.2.2.2.1 0=true):markN x=0:=by
 unfold markN
 rw [qg9 (by have:=qyg.1 h;omega)];rfl
theorem qamj {x:DLeg} (h:0≤x.2.2.2.1):markN x=1:=by
 unfold markN
 rw [qa3 h];rfl
theorem qant {x:DLeg} {k:Int} (h:x.2.2.1=0):fixN x (k+1-1)=fixN x (k-1):=by
 unfold fixN
 rw [qag (by omega)];rfl
theorem qaim {k f:Int} (hk:1≤k) (hf:0<f):k/f=(k-1)/f+(if k%f=0 then 1 else 0):=by
 have h1:=Int.mul_ediv_add_emod k f
 have h2:=Int.emod_nonneg k (show f≠0 by omega)
 have h3:=Int.emod_lt_of_pos k hf
 have h4:=Int.mul_ediv_add_emod (k-1) f
 have h5:=Int.emod_nonneg (k-1) (show f≠0 by omega)
 have h6:=Int.emod_lt_of_pos (k-1) hf
 generalize k/f=a at *
 generalize (k-1)/f=b at *
 generalize k%f=r at *
 generalize (k-1)%f=s at *
 have e:f*(a-b)=1+s-r:=by rw [Int.mul_sub];omega
 split
 ·rename_i hr
  subst hr
  have:a-b=1:=by
   rcases Int.lt_trichotomy (a-b) 1 with h | h | h
   ·have:=Int.mul_le_mul_of_nonneg_left (show a-b≤0 by omega) (show 0≤f by omega)
    omega
   ·exact h
   ·have:=Int.mul_le_mul_of_nonneg_left (show 2≤a-b by omega) (show 0≤f by omega)
    omega
  omega
 ·rename_i hr
  have:a-b=0:=by
   rcases Int.lt_trichotomy (a-b) 0 with h | h | h
   ·have:=Int.mul_le_mul_of_nonneg_left (show a-b ≤ -1 by omega) (show 0≤f by omega)
    omega
   ·exact h
   ·have:=Int.mul_le_mul_of_nonneg_left (show 1≤a-b by omega) (show 0≤f by omega)
    omega
  omega
theorem qaln {k f:Int} (hk:1≤k):iRem .i64 k f=k%f:=Int.tmod_eq_emod_of_nonneg (by omega)
theorem qanu {x:DLeg} {k:Int} (hk:1≤k) (hf:0<x.2.2.1) (h:iEq (iRem .i64 k x.2.2.1) 0=false):fixN x (k+1-1)=fixN x (k-1):=by
 unfold fixN
 rw [qaln hk] at h
 rw [qaf hf,show k+1-1=k by omega]
 simp only [cond_true]
 rw [qaim hk hf,if_neg (qda.1 h)]
 omega
theorem qanv {x:DLeg} {k:Int} (hk:1≤k) (hf:0<x.2.2.1) (h:iEq (iRem .i64 k x.2.2.1) 0=true):fixN x (k+1-1)=fixN x (k-1)+1:=by
 unfold fixN
 rw [qaln hk] at h
 rw [qaf hf,show k+1-1=k by omega]
 simp only [cond_true]
 rw [qaim hk hf,if_pos (qas.1 h)]
theorem Cnt.start (g:DLog) (x:DLeg):Cnt g g (1-1) 0 (fixN x (1-1)) 0:=by
 have h:fixN x (1-1)=0:=by
  unfold fixN
  cases iLt 0 x.2.2.1
  ·rfl
  ·show (1-1:Int)/x.2.2.1=0
   simp
 rw [h]
 exact ⟨by omega,by omega,by omega,by omega,fun h=>h⟩
theorem Cnt.move {g g':DLog} {k q r r' s:Int} (h:Cnt g g' (k-1) q r s) (hr:r'=r):Cnt g (g'.1,g'.2.1,g'.2.2.1,g'.2.2.2.1++([(1,(0,0,0,()),(0,0,0,()),0,0,())]:List DEntry),g'.2.2.2.2) (k+1-1) q r' s:=by
 obtain ⟨a,b,c,d,f⟩:=h
 subst hr
 refine ⟨?_,?_,?_,?_,fun h => ?_⟩ 
 ·refine (qb3 _ _ _).trans ?_;rw [a];show _+1=_;omega
 ·refine (qb3 _ _ _).trans ?_;rw [b];show _+0=_;omega
 ·refine (qb3 _ _ _).trans ?_;rw [c];show _+0=_;omega
 ·refine (qb3 _ _ _).trans ?_;rw [d];show _+0=_;omega
 ·exact FE.snoc (f h) ⟨qrg,(qfm 0).2⟩
theorem Cnt.moveFix {g g':DLog} {k q r r' s:Int} (h:Cnt g g' (k-1) q r s) (hr:r'=r+1) {v:Vec 3 Int} : Cnt g (g'.1,g'.2.1,g'.2.2.1,(g'.2.2.2.1++([(1,(0,0,0,()),(0,0,0,()),0,0,())]:List DEntry))++([(3,(0,0,0,()),v,0,0,())]:List DEntry),g'.2.2.2.2) (k+1-1) q r' s:=by
 obtain ⟨a,b,c,d,f⟩:=h
 subst hr
 refine ⟨?_,?_,?_,?_,fun h => ?_⟩ 
 ·refine (qb3 _ _ _).trans ?_;rw [qb3];rw [a];show _+1+0=_;omega
 ·refine (qb3 _ _ _).trans ?_;rw [qb3];rw [b];show _+0+0=_;omega
 ·refine (qb3 _ _ _).trans ?_;rw [qb3];rw [c];show _+0+1=_;omega
 ·refine (qb3 _ _ _).trans ?_;rw [qb3];rw [d];show _+0+0=_;omega
 ·exact FE.snoc (FE.snoc (f h) ⟨qrg,(qfm 0).2⟩) ⟨qrg,(qfm 0).2⟩
theorem Cnt.mark {g g':DLog} {p q r i:Int} {V:Nat} (h:Cnt g g' p q r 0) (hV:fltFit .f32 V):Cnt g (g'.1,g'.2.1,g'.2.2.1,g'.2.2.2.1++([(4,(0,0,0,()),(0,0,0,()),i,V,())]:List DEntry),g'.2.2.2.2) p q r 1:=by
 obtain ⟨a,b,c,d,f⟩:=h
 refine ⟨?_,?_,?_,?_,fun h => ?_⟩ 
 ·refine (qb3 _ _ _).trans ?_;rw [a];show _+0=_;omega
 ·refine (qb3 _ _ _).trans ?_;rw [b];show _+0=_;omega
 ·refine (qb3 _ _ _).trans ?_;rw [c];show _+0=_;omega
 ·refine (qb3 _ _ _).trans ?_;rw [d];show _+1=_;omega
 ·exact FE.snoc (f h) ⟨qrg,hV⟩
theorem qas1 (a:DMission) (hm:missionB a=true) (hmk:a.2.2.1.length≤140737488355328) {L:List (Vec 3 Nat)} (hL:(L.length:Int)=1+sT a.2.2.2.1 a.2.2.2.1.length) (hL2:L.length≤30000) (hLv : ∀ v∈L,pv 46 v) (hMv : ∀ v∈a.2.2.1,pv 20 v)
  {i:Nat} (hi:i<a.2.2.2.1.length) {s0 s1:Int} {g0 g1:DLog} (hg:GoodL a (2*sT a.2.2.2.1 i+2*i+1) g1) (h0:0≤s1) (h1:s1<4294967296) (n0:Int) :
  ∃ o:DRun⊕DRan,run (qcr a.2.2.2.1[i] ((L,0,()),()) (s0,n0,(i:Int),g0,()) a) (s1,sT a.2.2.2.1 i,(1:Int),g1,())=some o ∧
   ∃ (s':Int) (g':DLog),o = .inl (s',sT a.2.2.2.1 (i+1),((i+1:Nat):Int),g',())∧0≤s'∧s'<4294967296∧GoodL a (2*sT a.2.2.2.1 (i+1)+2*(i+1)) g'∧Cnt g1 g' a.2.2.2.1[i].1 0 (fixN a.2.2.2.1[i] a.2.2.2.1[i].1) (markN a.2.2.2.1[i]):=by
 obtain ⟨hl,hx,hx2,_⟩:=qny hm
 have hx1 : ∀ x∈a.2.2.2.1,1≤x.1:=fun x q=>(hx x q).1
 have ht:=hx _ (List.getElem_mem hi)
 have hleg:=hx2 _ (List.getElem_mem hi)
 simp only [legB,Bool.and_eq_true,qb8] at hleg
 obtain ⟨_,_,hev,hmark⟩:=hleg
 have hS:=qtl hi
 have hmono:=qqc hx1 (a.2.2.2.1.length-(i+1)) (i+1) (by omega)
 rw [show i+1+(a.2.2.2.1.length-(i+1))=a.2.2.2.1.length by omega] at hmono
 have hpos:=qqc hx1 i 0 (by omega)
 rw [Nat.zero_add] at hpos
 have hz:sT a.2.2.2.1 0=0:=rfl
 have emk:iSub .i64 (lenI a.2.2.1) 1=lenI a.2.2.1-1:=qcm (by rw [qaa];omega) (by rw [qaa];omega)
 rw [emk] at hmark
 generalize hX:a.2.2.2.1[i]=X at *
 refine qik (f:=qcr X ((L,0,()),()) (s0,n0,(i:Int),g0,()) a)
  (fun s => ∃ (sd k:Int) (g:DLog),s=(sd,sT a.2.2.2.1 i+(k-1),k,g,())∧0≤sd∧sd<4294967296∧1≤k∧k≤X.1+1∧GoodL a (2*sT a.2.2.2.1 i+2*i+1+2*(k-1)) g∧Cnt g1 g (k-1) 0 (fixN X (k-1)) 0) (fun s=>(X.1+1-s.2.2.1).toNat)
  _ (fun s hR => ?_) ⟨s1,1,g1,by rw [show sT a.2.2.2.1 i+((1:Int)-1)=sT a.2.2.2.1 i by omega],h0,h1,by omega,by omega,hg.le (by omega),Cnt.start g1 X⟩
 obtain ⟨sd,k,g,rfl,hs0,hs1,hk1,hk2,hG,hC⟩:=hR
 have hlen:=hG.2.2.2.1
 by_cases hk:k≤X.1
 ·have e1:iLe k X.1=true:=qa3 hk
  have e2:iAdd .i64 (sT a.2.2.2.1 i+(k-1)) 1=sT a.2.2.2.1 i+(k+1-1):=by rw [qba (by omega) (by omega)];omega
  have e3:room (g.2.2.2.1.length+1) 48=true:=qbi (by omega)
  have e4:iAdd .i64 k 1=k+1:=qba (by omega) (by omega)
  have e5:inB (sT a.2.2.2.1 i+(k+1-1)) L.length=true:=qii (by omega) (by omega)
  have G1:=hG.add (e:=(1,(0,0,0,()),(0,0,0,()),0,0,())) ⟨qadp _,qnv⟩
  have e6:room ((g.2.2.2.1++[((1,(0,0,0,()),(0,0,0,()),0,0,()):DEntry)]).length+1) 48=true:=qbi (by rw [List.length_append,List.length_singleton];omega)
  left
  simp only [qcr,e1,e2,e3,e4,cond_true]
  cases he:iEq X.2.2.1 0 with
  | true =>
   have e7:iLt 0 X.2.2.1=false:=qag (by have:=qas.1 he;omega)
   simp only [e7,cond_true,cond_false]
   exact ⟨_,rfl,⟨sd,k+1,_,rfl,hs0,hs1,by omega,by omega,G1.le (by omega),hC.move (qant (qas.1 he))⟩,by show (X.1+1-(k+1)).toNat<(X.1+1-k).toNat;omega⟩
  | false =>
   have e7:iLt 0 X.2.2.1=true:=qaf (by have:=qda.1 he;omega)
   simp only [e7,cond_true,cond_false]
   cases hr:iEq (iRem .i64 k X.2.2.1) 0 with
   | false =>
    simp only [Bool.not_false,cond_true,cond_false]
    exact ⟨_,rfl,⟨sd,k+1,_,rfl,hs0,hs1,by omega,by omega,G1.le (by omega),hC.move (qanu hk1 (by have:=qda.1 he;omega) hr)⟩,by show (X.1+1-(k+1)).toNat<(X.1+1-k).toNat;omega⟩
   | true =>
    obtain ⟨u,c1,c2⟩:=qzt (L.getD (sT a.2.2.2.1 i+(k+1-1)).toNat ((0,0,0,()):Vec 3 Nat))
    obtain ⟨v,sd',k1,k2,k3,k4,k5⟩:=qahr u sd
    have f2:qe8=some ((dSen,()),()):=rfl
    simp only [f2,e5,c2,k2,e6,Bool.not_true,Option.bind_some,cond_true,cond_false]
    exact ⟨_,rfl,⟨sd',k+1,_,rfl,k4,k5,by omega,by omega,(G1.add (e:=(3,(0,0,0,()),v,0,0,())) ⟨qzv _ _,k3⟩).le (by omega),hC.moveFix (qanv hk1 (by have:=qda.1 he;omega) hr)⟩,by show (X.1+1-(k+1)).toNat<(X.1+1-k).toNat;omega⟩
 ·have e1:iLe k X.1=false:=qg9 hk
  have hk':k=X.1+1:=by omega
  have e4:iAdd .i64 (i:Int) 1=((i+1:Nat):Int):=qat hi (by omega)
  have en:sT a.2.2.2.1 i+(k-1)=sT a.2.2.2.1 (i+1):=by omega
  right
  simp only [qcr,e1,e4,en,cond_false]
  cases hmk0:iLt X.2.2.2.1 0 with
  | true =>
   simp only [cond_true,Option.map_some]
   exact ⟨_,rfl,sd,_,rfl,hs0,hs1,hG.le (by omega),by rw [show X.1=k-1 by omega,qami hmk0];exact hC⟩
  | false =>
   have hm0:0≤X.2.2.2.1:=by
    apply Classical.byContradiction
    intro q
    rw [qaf (by omega)] at hmk0
    cases hmk0
   have hm1:=hmark.2
   rw [qaa] at hm1
   have e5:inB (sT a.2.2.2.1 (i+1)) L.length=true:=qii (by omega) (by omega)
   have e6:inB X.2.2.2.1 a.2.2.1.length=true:=qii hm0 (by omega)
   have e7:room (g.2.2.2.1.length+1) 48=true:=qbi (by omega)
   have hxx:iAdd .u32 (iMul .u32 1664525 sd) 1013904223=nx sd:=rfl
   have rr:=qt6 sd
   have hp:pv 46 (L.getD (sT a.2.2.2.1 (i+1)).toNat ((0,0,0,()):Vec 3 Nat)):=by
    have hlt:(sT a.2.2.2.1 (i+1)).toNat<L.length:=by omega
    exact (congrArg (pv 46) (qao (d:=((0,0,0,()):Vec 3 Nat)) hlt)).mpr (hLv _ (List.getElem_mem hlt))
   have hq:pv 20 (a.2.2.1.getD X.2.2.2.1.toNat ((0,0,0,()):Vec 3 Nat)):=by
    have hlt:X.2.2.2.1.toNat<a.2.2.1.length:=by omega
    exact (congrArg (pv 20) (qao (d:=((0,0,0,()):Vec 3 Nat)) hlt)).mpr (hMv _ (List.getElem_mem hlt))
   have z0:0≤nx sd/65536%9:=Int.emod_nonneg _ (by decide)
   have z1:nx sd/65536%9<9:=Int.emod_lt_of_pos _ (by decide)
   obtain ⟨m,hsub,hV,hVf⟩:=qap8 hp hq z0 (by omega)
   simp only [e5,e6,hxx,hsub,qaf0,qahi rr.1 rr.2,qbg,Option.bind_some,cond_true,cond_false]
   generalize hVe:fAdd .f32 (rootF (dotR m m)) (fDiv .f32 (fOfInt .f32 (iSub .i64 (nx sd/65536%9) 4)) 1098907648)=V at *
   simp only [hV,e7,Bool.not_true,cond_true,cond_false,Option.map_some]
   refine ⟨_,rfl,nx sd,_,rfl,rr.1,rr.2,((hG.add (e:=(4,(0,0,0,()),(0,0,0,()),X.2.2.2.1,V,())) ⟨?_,qnv⟩).le (by omega)),by rw [show X.1=k-1 by omega,qamj hm0];exact hC.mark hVf⟩
   rw [qab3,emk,hV,qa3 hm0,qa3 (by rw [qaa];omega)]
   rfl
theorem Cnt.speed (g:DLog) (v:Vec 3 Nat) (hv:FitVec (fltFit .f32) 3 v):Cnt g (g.1,g.2.1,g.2.2.1,g.2.2.2.1++([(2,v,(0,0,0,()),0,0,())]:List DEntry),g.2.2.2.2) 0 1 0 0:=by
 exact ⟨(qb3 _ _ _).trans rfl,(qb3 _ _ _).trans rfl,(qb3 _ _ _).trans rfl,(qb3 _ _ _).trans rfl,fun h=>FE.snoc h ⟨hv,(qfm 0).2⟩⟩
theorem Cnt.trans {g g' g'':DLog} {p q r s p' q' r' s':Int} (h:Cnt g g' p q r s) (h':Cnt g' g'' p' q' r' s'):Cnt g g'' (p+p') (q+q') (r+r') (s+s'):=by
 obtain ⟨a,b,c,d,f⟩:=h
 obtain ⟨a',b',c',d',f'⟩:=h'
 exact ⟨by omega,by omega,by omega,by omega,fun h=>f' (f h)⟩
def sF (l:List DLeg):Nat→Int
 | 0=>0
 | n+1=>sF l n+fixN (l.getD n zLeg) (l.getD n zLeg).1
def sM (l:List DLeg):Nat→Int
 | 0=>0
 | n+1=>sM l n+markN (l.getD n zLeg)
theorem qaf2 {l:List DLeg} {i:Nat} (hi:i<l.length):sF l (i+1)=sF l i+fixN l[i] l[i].1:=by
 show sF l i+fixN (l.getD i zLeg) (l.getD i zLeg).1=_
 rw [qao hi]
theorem qaf3 {l:List DLeg} {i:Nat} (hi:i<l.length):sM l (i+1)=sM l i+markN l[i]:=by
 show sM l i+markN (l.getD i zLeg)=_
 rw [qao hi]
theorem qalp (a:DMission) (hm:missionB a=true) (ht4:sumB a.2.2.2.1) (ht:ticksI a.2.2.2.1≤400) (hs:pv 46 a.2.1) (hmk:a.2.2.1.length≤6) (hMv : ∀ v∈a.2.2.1,pv 20 v) (hV : ∀ x∈a.2.2.2.1,pv 20 (scaleV x.2.1 (fDiv .f32 1065353216 (fOfInt .f32 a.1)))) (hF : ∀ x∈a.2.2.2.1,FitVec (fltFit .f32) 3 x.2.1) {sd:Int} (h0:0≤sd) (h1:sd<4294967296) :
  ∃ g:DLog,qd6 a sd=some ((g,0,()),())∧GoodL a 1000 g∧cE 1 g.2.2.2.1=sT a.2.2.2.1 a.2.2.2.1.length∧cE 2 g.2.2.2.1=a.2.2.2.1.length∧cE 3 g.2.2.2.1=sF a.2.2.2.1 a.2.2.2.1.length∧cE 4 g.2.2.2.1=sM a.2.2.2.1 a.2.2.2.1.length ∧ ∀ x∈g.2.2.2.1,FE x:=by
 obtain ⟨L,t1,hL,t3,hLv⟩:=qam6 a hm hs hV
 obtain ⟨hl,hx,hx2,_⟩:=qny hm
 have hx1 : ∀ x∈a.2.2.2.1,1≤x.1:=fun x q=>(hx x q).1
 have hT:=qahw ht4 hl
 have c2:room (0+a.2.2.1.length) 12=true:=qbi (by omega)
 have i0:(!iEq (0:Int) 0)=false:=rfl
 simp only [qd6,t1,c2,i0,Option.bind_some,List.nil_append,cond_true,cond_false]
 obtain ⟨o,r1,g,rfl,hq⟩:=qik (f:=qe7 a ((L,0,()),()))
  (fun s => ∃ (i:Nat) (sd:Int) (g:DLog),s=(sd,sT a.2.2.2.1 i,(i:Int),g,())∧i≤a.2.2.2.1.length∧0≤sd∧sd<4294967296∧GoodL a (2*sT a.2.2.2.1 i+2*i) g∧Cnt ((a.1,a.2.1,a.2.2.1,[],()):DLog) g (sT a.2.2.2.1 i) i (sF a.2.2.2.1 i) (sM a.2.2.2.1 i)) (fun s=>(a.2.2.2.1.length-s.2.2.1).toNat)
  (fun o:DRan => ∃ g:DLog,o=((g,0,()),())∧GoodL a 1000 g∧cE 1 g.2.2.2.1=sT a.2.2.2.1 a.2.2.2.1.length∧cE 2 g.2.2.2.1=a.2.2.2.1.length∧cE 3 g.2.2.2.1=sF a.2.2.2.1 a.2.2.2.1.length∧cE 4 g.2.2.2.1=sM a.2.2.2.1 a.2.2.2.1.length ∧ ∀ x∈g.2.2.2.1,FE x) (fun s hR=>by
   obtain ⟨i,sd,g,rfl,hi,q0,q1,hG,hC⟩:=hR
   have hlen:=hG.2.2.2.1
   have hmono:=qqc hx1 (a.2.2.2.1.length-i) i (by omega)
   rw [show i+(a.2.2.2.1.length-i)=a.2.2.2.1.length by omega] at hmono
   by_cases hlt:i<a.2.2.2.1.length
   ·have e1:iLt (i:Int) (lenI a.2.2.2.1)=true:=qaf (by rw [qaa];omega)
    have e2:inB (i:Int) a.2.2.2.1.length=true:=qad hlt
    have e3:room (g.2.2.2.1.length+1) 48=true:=qbi (by omega)
    have e4:a.2.2.2.1.getD i ((0,(0,0,0,()),0,0,()):DLeg)=a.2.2.2.1[i]:=qao hlt
    have hv:finV a.2.2.2.1[i].2.1=true:=by
     have:=hx2 _ (List.getElem_mem hlt)
     simp only [legB,Bool.and_eq_true] at this
     exact this.2.1
    have hG1:=hG.add (e:=(2,a.2.2.2.1[i].2.1,(0,0,0,()),0,0,())) ⟨(qab4 _ _).trans hv,qnv⟩
    obtain ⟨o,r1,s',g',rfl,p0,p1,p2,p3⟩:=qas1 a hm (by omega) hL t3 hLv hMv hlt (s0:=sd) (g0:=g) hG1 q0 q1 (sT a.2.2.2.1 i)
    simp only [qe7,e1,e2,e3,e4,Int.toNat_natCast,cond_true]
    rw [r1]
    have hC2:=(hC.trans (Cnt.speed g a.2.2.2.1[i].2.1 (hF _ (List.getElem_mem hlt)))).trans p3
    refine .inl ⟨_,rfl,⟨i+1,s',g',rfl,hlt,p0,p1,p2.le (by omega),?_⟩,by show ((a.2.2.2.1.length:Int)-((i+1:Nat):Int)).toNat<((a.2.2.2.1.length:Int)-(i:Int)).toNat;omega⟩
    have z1:sT a.2.2.2.1 (i+1)=sT a.2.2.2.1 i+0+a.2.2.2.1[i].1:=by rw [qtl hlt];omega
    have z2:((i+1:Nat):Int)=(i:Int)+1+0:=by omega
    have z3:sF a.2.2.2.1 (i+1)=sF a.2.2.2.1 i+0+fixN a.2.2.2.1[i] a.2.2.2.1[i].1:=by rw [qaf2 hlt];omega
    have z4:sM a.2.2.2.1 (i+1)=sM a.2.2.2.1 i+0+markN a.2.2.2.1[i]:=by rw [qaf3 hlt];omega
    rw [z1,z2,z3,z4]
    exact hC2
   ·have e1:iLt (i:Int) (lenI a.2.2.2.1)=false:=qag (by rw [qaa];omega)
    have hi':i=a.2.2.2.1.length:=by omega
    rw [hT] at ht
    have hgl:(g.2.2.2.1.length:Int)≤1000:=by rw [hi'] at hlen;omega
    have hc:iLt 1200 (lenI g.2.2.2.1)=false:=qag (by rw [qaa];omega)
    right
    simp only [qe7,e1,hc,cond_false]
    rw [hi'] at hC
    obtain ⟨y1,y2,y3,y4,y5⟩:=hC
    have zz : ∀ n,cE n ([]:List DEntry)=0:=fun n=>rfl
    simp only [zz] at y1 y2 y3 y4
    exact ⟨_,rfl,g,rfl,⟨hG.1,hG.2.1,hG.2.2.1,hgl,hG.2.2.2.2⟩,by omega,by omega,by omega,by omega,y5 (fun x hx=>by cases hx)⟩) (s:=(sd,(0:Int),(0:Int),((a.1,a.2.1,a.2.2.1,[],()):DLog),())) ⟨0,sd,_,rfl,Nat.zero_le _,h0,h1,⟨rfl,rfl,rfl,Int.le_refl _,fun e he=>by cases he⟩,⟨rfl,rfl,rfl,rfl,fun h=>h⟩⟩
 exact ⟨g,r1,hq⟩
end
section
theorem qarf {n:Int} (hn:n≤999999) {s:DSrc} (h:SrcOK n s) : ∃ (v:Int) (s':DSrc),qau s 65536=some ((v,()),(s',()))∧0≤v∧v<65536∧SrcOK (n+2) s':=by
 have e:iLe 65536 1=false:=rfl
 have e0:iEq 65536 0=false:=rfl
 have e2:iLt 200 65536=true:=rfl
 obtain ⟨v,s1,hv,v0,v1,hs1⟩:=qpc (by omega) h
 obtain ⟨u,s2,hu,u0,u1,hs2⟩:=qpc (by omega) hs1
 have m1:iMul .i64 v 256=v*256:=qwr (by omega) (by omega)
 have m2:iAdd .i64 (v*256) u=v*256+u:=qba (by omega) (by omega)
 have m3:iRem .i64 (v*256+u) 65536=(v*256+u)%65536:=Int.tmod_eq_emod_of_nonneg (by omega)
 refine ⟨iRem .i64 (v*256+u) 65536,s2,?_,by rw [m3];omega,by rw [m3];omega,hs2.mono (by omega)⟩
 simp only [qau,e,e0,e2,hv,hu,m1,m2,Option.bind_some,cond_true,cond_false]
theorem qyw {n:Int} (hn:n≤999999) {s:DSrc} (h:SrcOK n s) (L:List (List UInt8)) (h1:1≤L.length) (h2:L.length≤60) : ∃ (t:List UInt8) (s':DSrc),qds s L=some ((t,()),(s',()))∧t∈L∧SrcOK (n+2) s':=by
 obtain ⟨v,s',e,v0,-,vl,hs⟩:=qdn (by omega) h (lenI L) (by rw [qaa];omega)
 rw [qaa] at vl
 have vl:=vl (by omega)
 have hlt:v.toNat<L.length:=by omega
 have eb:inB v L.length=true:=qii v0 vl
 refine ⟨L[v.toNat],s',?_,List.getElem_mem hlt,hs⟩
 unfold qds
 rw [e]
 simp only [Option.bind_some]
 rw [eb,qao hlt]
 rfl
theorem qacr {n:Int} (hn:n≤999999) {s:DSrc} (h:SrcOK n s) : ∃ (t:List UInt8) (s':DSrc),qgl s=some ((t,()),(s',()))∧t.length≤4∧SrcOK (n+2) s':=by
 obtain ⟨t,s',e,ht,hs⟩:=qyw hn h [[48],[49],[45,49],[49,47,50],[50],[45,51,47,52],[48],[52],[49,47,56]] (by decide) (by decide)
 refine ⟨t,s',?_,?_,hs⟩
 ·unfold qgl
  exact (congrArg (fun z=>Option.bind z _) e).trans rfl
 ·have : ∀ u∈([[48],[49],[45,49],[49,47,50],[50],[45,51,47,52],[48],[52],[49,47,56]]:List (List UInt8)),u.length≤4:=by decide
  exact this t ht
abbrev DTold:=(List UInt8×Unit)×(DSrc×Unit)
def ToldQ (o:DTold):Prop:=∃ t s',o=((t,()),(s',()))∧t.length≤4000∧SrcOK 1000 s'
theorem qaj6 (z:List UInt8×Int×Int×DSrc×Unit) (hz:SrcOK 1000 z.2.2.2.1) : ∀ (o:Nat) (out:List UInt8),out.length+4*o≤4000 → ∃ w,run (qjn z) (out,(o:Int),())=some w∧ToldQ w
 | 0,out,h=>by
  refine ⟨((out,()),(z.2.2.2.1,())),qay ?_,out,_,rfl,by omega,hz⟩
  unfold qjn
  have e:iLt 0 ((0:Nat):Int)=false:=rfl
  simp only
  rw [e]
  rfl
 | o+1,out,h=>by
  have e:iLt 0 ((o+1:Nat):Int)=true:=qaf (by omega)
  have es:iSub .i64 ((o+1:Nat):Int) 1=(o:Int):=by rw [qcm (by omega) (by omega)];omega
  obtain ⟨w,h1,h2⟩:=qaj6 z hz o (strCat out [101,110,100,10]) (by unfold strCat;simp;omega)
  refine ⟨w,?_,h2⟩
  refine Eq.trans (qar ?_) h1
  unfold qjn
  simp only
  rw [e,qa2 (by simp;omega),es]
  rfl
theorem qwo {v:Int} (h0:0≤v) (h1:v≤1000) : ∃ w,qcl v=some ((w,()),())∧w.length≤19:=by
 have:=qhs (n:=v.toNat) (by omega)
 rw [Int.toNat_of_nonneg h0] at this
 exact ⟨_,this.1,this.2⟩
theorem qapm {out:List UInt8} {o d:Nat} {s:DSrc} (ho:o+d≤6) (hd:1≤d) (hl:out.length+200*d≤2000) (hs:SrcOK (900-100*d) s) :
  ∃ (out':List UInt8) (o':Nat) (s':DSrc),qhy (out,(o:Int),(d:Int),s,())=some (.inl (out',(o':Int),((d-1:Nat):Int),s',()))∧o'+(d-1)≤6∧out'.length+200*(d-1)≤2000∧SrcOK (900-100*(d-1)) s':=by
 have ed:iLt 0 (d:Int)=true:=qaf (by omega)
 have es:iSub .i64 (d:Int) 1=((d-1:Nat):Int):=by rw [qcm (by omega) (by omega)];omega
 obtain ⟨v,s1,e1,v0,-,-,h1⟩:=qdn (by omega) hs 8 (by decide)
 unfold qhy
 simp only
 rw [ed,e1,es]
 simp only [cond_true,Option.bind_some]
 cases c0:iEq v 0 with
 | true =>
  obtain ⟨x,s2,e2,x0,-,x1,h2⟩:=qdn (by omega) h1 6 (by decide)
  have x1:=x1 (by omega)
  obtain ⟨w,ew,lw⟩:=qwo x0 (by omega)
  simp only [e2,ew,Option.bind_some,cond_true]
  rw [qa2 (by simp;omega),qa2 (by unfold strCat;simp;omega),qa2 (by unfold strCat;simp;omega)]
  exact ⟨_,o,s2,rfl,by omega,by unfold strCat;simp;omega,h2.mono (by omega)⟩
 | false =>
  simp only [cond_false]
  cases c1:iEq v 1 with
  | true =>
   obtain ⟨x,s2,e2,x0,-,x1,h2⟩:=qdn (by omega) h1 6 (by decide)
   have x1:=x1 (by omega)
   have ea:iAdd .i64 1 x=1+x:=qba (by omega) (by omega)
   obtain ⟨w,ew,lw⟩:=qwo (v:=1+x) (by omega) (by omega)
   simp only [e2,ea,ew,Option.bind_some,cond_true]
   rw [qa2 (by simp;omega),qa2 (by unfold strCat;simp;omega),qa2 (by unfold strCat;simp;omega)]
   exact ⟨_,o,s2,rfl,by omega,by unfold strCat;simp;omega,h2.mono (by omega)⟩
  | false =>
   simp only [cond_false]
   cases c2:iEq v 2 with
   | true =>
    obtain ⟨x,s2,e2,x0,-,x1,h2⟩:=qdn (by omega) h1 3 (by decide)
    have x1:=x1 (by omega)
    obtain ⟨w,ew,lw⟩:=qwo x0 (by omega)
    simp only [e2,ew,Option.bind_some,cond_true]
    rw [qa2 (by simp;omega),qa2 (by unfold strCat;simp;omega),qa2 (by unfold strCat;simp;omega)]
    exact ⟨_,o,s2,rfl,by omega,by unfold strCat;simp;omega,h2.mono (by omega)⟩
   | false =>
    simp only [cond_false]
    cases c3:iEq v 3 with
    | true =>
     obtain ⟨x,s2,e2,x0,-,x1,h2⟩:=qdn (by omega) h1 3 (by decide)
     have x1:=x1 (by omega)
     have ea:iAdd .i64 1 x=1+x:=qba (by omega) (by omega)
     have eo:iAdd .i64 (o:Int) 1=((o+1:Nat):Int):=by rw [qba (by omega) (by omega)];omega
     obtain ⟨w,ew,lw⟩:=qwo (v:=1+x) (by omega) (by omega)
     simp only [e2,ea,eo,ew,Option.bind_some,cond_true]
     rw [qa2 (by simp;omega),qa2 (by unfold strCat;simp;omega),qa2 (by unfold strCat;simp;omega)]
     exact ⟨_,o+1,s2,rfl,by omega,by unfold strCat;simp;omega,h2.mono (by omega)⟩
    | false =>
     simp only [cond_false]
     cases c4:iEq v 4 with
     | true =>
      simp only [cond_true]
      by_cases hz:0<o
      ·have eo:iSub .i64 (o:Int) 1=((o-1:Nat):Int):=by rw [qcm (by omega) (by omega)];omega
       rw [qaf (by omega:(0:Int)<(o:Int)),qa2 (by simp;omega),eo]
       exact ⟨_,o-1,s1,rfl,by omega,by unfold strCat;simp;omega,h1.mono (by omega)⟩
      ·rw [qag (by omega:¬ (0:Int)<(o:Int))]
       exact ⟨out,o,s1,rfl,by omega,by omega,h1.mono (by omega)⟩
     | false =>
      simp only [cond_false]
      obtain ⟨a,s2,e2,la,h2⟩:=qacr (by omega) h1
      obtain ⟨b,s3,e3,lb,h3⟩:=qacr (by omega) h2
      obtain ⟨c,s4,e4,lc,h4⟩:=qacr (by omega) h3
      obtain ⟨x,s5,e5,x0,-,x1,h5⟩:=qdn (by omega) h4 8 (by decide)
      have x1:=x1 (by omega)
      have ea:iAdd .i64 1 x=1+x:=qba (by omega) (by omega)
      obtain ⟨w,ew,lw⟩:=qwo (v:=1+x) (by omega) (by omega)
      simp only [e2,e3,e4,e5,ea,ew,Option.bind_some]
      rw [qa2 (by simp;omega),qa2 (by unfold strCat;simp;omega),qa2 (by unfold strCat;simp;omega),qa2 (by unfold strCat;simp;omega),qa2 (by unfold strCat;simp;omega),qa2 (by unfold strCat;simp;omega),qa2 (by unfold strCat;simp;omega),qa2 (by unfold strCat;simp;omega),qa2 (by unfold strCat;simp;omega)]
      exact ⟨_,o,s5,rfl,by omega,by unfold strCat;simp;omega,h5.mono (by omega)⟩
theorem qarv (d:Nat) : ∀ (out:List UInt8) (o:Nat) (s:DSrc),o+d≤6→out.length+200*d≤2000→SrcOK (900-100*d) s → ∃ w,run (qhy) (out,(o:Int),(d:Int),s,())=some w∧ToldQ w:=by
 induction d with
 | zero =>
  intro out o s ho hl hs
  obtain ⟨w,h1,h2⟩:=qaj6 (out,(o:Int),((0:Nat):Int),s,()) (hs.mono (by omega)) o out (by omega)
  refine ⟨w,qay ?_,h2⟩
  unfold qhy
  have e:iLt 0 ((0:Nat):Int)=false:=rfl
  simp only
  rw [e]
  simp only [cond_false]
  exact (congrArg (Option.map Sum.inr) h1).trans rfl
 | succ d ih =>
  intro out o s ho hl hs
  obtain ⟨out',o',s',e,k1,k2,k3⟩:=qapm (out:=out) (o:=o) (d:=d+1) (s:=s) ho (Nat.succ_le_succ (Nat.zero_le d)) hl hs
  have ed:d+1-1=d:=by omega
  rw [ed] at e k1 k2
  obtain ⟨w,h1,h2⟩:=ih out' o' s' k1 k2 (k3.mono (by omega))
  exact ⟨w,(qar e).trans h1,h2⟩
theorem qatw {s:DSrc} (hs:SrcOK 0 s) : ∃ w,qo9 s 6=some w∧ToldQ w:=by
 obtain ⟨a,s1,e1,m1,h1⟩:=qyw (by omega) hs [[],[114,97,116,101,32,52,10],[114,97,116,101,32,49,54,10],[115,116,97,114,116,32,49,32,48,32,45,49,47,50,10]] (by decide) (by decide)
 obtain ⟨b,s2,e2,m2,h2⟩:=qyw (by omega) h1 [[],[98,101,97,99,111,110,32,53,32,53,32,48,10],[98,101,97,99,111,110,32,48,32,48,32,48,10,98,101,97,99,111,110,32,45,52,32,50,32,49,10]] (by decide) (by decide)
 obtain ⟨c,s3,e3,m3,h3⟩:=qyw (by omega) h2 [[102,105,120,32,52,10],[102,105,120,32,50,10],[],[102,105,120,32,49,10]] (by decide) (by decide)
 have la:a.length≤30:=(by decide : ∀ u∈([[],[114,97,116,101,32,52,10],[114,97,116,101,32,49,54,10],[115,116,97,114,116,32,49,32,48,32,45,49,47,50,10]]:List (List UInt8)),u.length≤30) a m1
 have lb:b.length≤30:=(by decide : ∀ u∈([[],[98,101,97,99,111,110,32,53,32,53,32,48,10],[98,101,97,99,111,110,32,48,32,48,32,48,10,98,101,97,99,111,110,32,45,52,32,50,32,49,10]]:List (List UInt8)),u.length≤30) b m2
 have lc:c.length≤30:=(by decide : ∀ u∈([[102,105,120,32,52,10],[102,105,120,32,50,10],[],[102,105,120,32,49,10]]:List (List UInt8)),u.length≤30) c m3
 have e6:iAdd .i64 6 1=7:=rfl
 obtain ⟨v,s4,e4,v0,-,v1,h4⟩:=qdn (by omega) h3 7 (by decide)
 have v1:=v1 (by omega)
 obtain ⟨d,rfl⟩ : ∃ d:Nat,v=(d:Int):=⟨v.toNat,by omega⟩
 obtain ⟨w,r1,r2⟩:=qarv d (strCat (strCat a b) c) 0 s4 (by omega) (by unfold strCat;simp;omega) (h4.mono (by omega))
 refine ⟨w,?_,r2⟩
 unfold qo9
 rw [e1]
 simp only [Option.bind_some]
 rw [e2]
 simp only [Option.bind_some]
 rw [qa2 (by omega)]
 simp only [cond_true]
 rw [e3]
 simp only [Option.bind_some]
 rw [qa2 (by unfold strCat;simp;omega),e6,e4]
 simp only [Option.bind_some,cond_true]
 exact r1
end
section
theorem qain {s:DSrc} (hs:SrcOK 0 s) : ∃ (m:DMission) (s':DSrc),qj0 s=some ((m,()),(s',()))∧SrcOK 1000 s'∧Sized TyMission m ∧ ∃ fix,Good m fix:=by
 obtain ⟨w,e,t,s',rfl,hl,hs'⟩:=qatw hs
 obtain ⟨⟨⟨m,l,c,⟨⟩⟩,⟨⟩⟩,h2,h3,h4⟩:=qab2 (s:=t) (by omega)
 unfold qj0
 rw [e]
 simp only [Option.bind_some]
 rw [h2]
 simp only [Option.bind_some]
 cases hc:iEq c 0 with
 | true =>
  have h4:=h4 (qas.1 hc)
  obtain ⟨m1,m2,m3,m4,⟨⟩⟩:=m
  exact ⟨(m1,m2,m3,m4,()),s',rfl,hs',h3,h4⟩
 | false =>
  obtain ⟨⟨⟨m,l,c,⟨⟩⟩,⟨⟩⟩,g2,g3,g4⟩:=qab2 (s:=dflTx) (by decide)
  obtain ⟨m',hm'⟩:=qap7
  have g1:=g2
  rw [hm'] at g1
  have gc:c=0:=(congrArg (fun z:DOut=>z.1.2.2.1) (Option.some.inj g1)).symm
  have g4:=g4 gc
  obtain ⟨m1,m2,m3,m4,⟨⟩⟩:=m
  refine ⟨(m1,m2,m3,m4,()),s',?_,hs',g3,g4⟩
  simp only [Bool.not_false,cond_true]
  show (qb5 dflTx).bind _=_
  rw [g2]
  rfl
theorem qauk:pw .f32 1065353216 0:=⟨false,8388608,-23,by decide,qla (-23) (by decide) (by decide) (by decide)⟩
theorem qajz {v:Vec 3 Nat} (hv:pv 20 v) {r:Int} (h:1≤r) (h1:r≤64):pv 20 (scaleV v (fDiv .f32 1065353216 (fOfInt .f32 r))):=by
 have hr:pw .f32 (fDiv .f32 1065353216 (fOfInt .f32 r)) 0:=qafy qauk (qanz h (by omega)) (by decide) (by decide)
 exact ⟨qajo (k:=.f32) (t:=20) (u:=0) hv.1 hr (by decide) (by decide),qajo (k:=.f32) (t:=20) (u:=0) hv.2.1 hr (by decide) (by decide),qajo (k:=.f32) (t:=20) (u:=0) hv.2.2 hr (by decide) (by decide)⟩
theorem qtu {m:DMission} {fix:Int} (hg:Good m fix):missionB m=true:=by
 obtain ⟨g1,g2,g3,g4,gr,gf,gs,gm,gl⟩:=hg
 have emk:iSub .i64 (lenI m.2.2.1) 1=(m.2.2.1.length:Int)-1:=by rw [qaa];exact qcm (by omega) (by omega)
 have a1:m.2.2.1.all finV=true:=List.all_eq_true.2 fun v hv=>qaes (gm v hv).pv
 have a2:m.2.2.2.1.all (legB ((m.2.2.1.length:Int)-1))=true:=List.all_eq_true.2 fun x hx=>by
  obtain ⟨k1,k2,k3,k4,k5⟩:=gl x hx
  unfold legB
  rw [qaes k2.pv,qa3 k1.1,qa3 k1.2,qa3 k3.1,qa3 k3.2,qa3 k4,qa3 (by omega)]
  rfl
 unfold missionB frameB
 rw [emk,a1,a2,qaes gs.pv,qa3 gr.1,qa3 gr.2,qa3 (by rw [qaa];omega),qa3 (by rw [qaa];omega),qa3 g4]
 rfl
def LogOK (g:DLog):Prop:=logB g=true∧(1≤g.1∧g.1≤64)∧g.2.2.1.length≤6∧g.2.2.2.1.length≤1200∧Sized TyLog g ∧ ∀ e∈g.2.2.2.1,Fit (.arr 3 (.int .i16)) e.2.2.1
def LogFit (g:DLog):Prop:=FitVec (fltFit .f32) 3 g.2.1∧(∀ v∈g.2.2.1,FitVec (fltFit .f32) 3 v) ∧ ∀ e∈g.2.2.2.1,FE e
theorem qye {m:DMission} {fix:Int} (hg:Good m fix) (hz:Sized TyMission m) {g:DLog} (h:GoodL m 1200 g):LogOK g:=by
 obtain ⟨g1,g2,g3,g4,gr,gf,gs,gm,gl⟩:=id hg
 have hm:=qtu hg
 have hsz:=qadw hz h
 obtain ⟨k1,k2,k3,k4,k5⟩:=h
 simp only [missionB,Bool.and_eq_true] at hm
 refine ⟨?_,by rw [k1];exact gr,by rw [k3];exact g2,by omega,hsz,fun e he=>(k5 e he).2⟩
 unfold logB
 rw [k1,k2,k3,hm.1,qa3 (by rw [qaa];exact k4)]
 have:g.2.2.2.1.all (entryB (lenI m.2.2.1))=true:=List.all_eq_true.2 fun e he=>(k5 e he).1
 rw [this]
 rfl
theorem qaps {c:List Int} (h : ∀ x∈c,0≤x∧x≤255) (hl:c.length≤4096) : ∃ g:DLog,qtf c=some ((g,()),())∧LogOK g∧LogFit g:=by
 obtain ⟨m,s1,e1,h1,hz,fix,hg⟩:=qain (qaj2 h hl)
 obtain ⟨v,s2,e2,v0,v1,h2⟩:=qarf (by omega) h1
 have ew:iWrap .u32 v=v:=by simp [iWrap,IntKind.wrap,IntKind.signed,IntKind.bits];omega
 obtain ⟨g1,g2,g3,g4,gr,gf,gs,gm,gl⟩:=id hg
 obtain ⟨g,er,hG,-,-,-,-,hFE⟩:=qalp m (qtu hg) (fun x hx=>⟨by have:=(gl x hx).1.1;omega,(gl x hx).1.2⟩) g4 ⟨qq3 gs.pv.1 (by decide),qq3 gs.pv.2.1 (by decide),qq3 gs.pv.2.2 (by decide)⟩ g2 (fun v hv=>(gm v hv).pv) (fun x hx=>qajz (gl x hx).2.1.pv gr.1 gr.2) (fun x hx=>(gl x hx).2.1.fit) (sd:=v) v0 (by omega)
 obtain ⟨x,s3,e3,-,-,-,h3⟩:=qdn (by omega) h2 4 (by decide)
 obtain ⟨y,s4,e4,y0,-,y1,h4⟩:=qdn (by omega) h3 400 (by decide)
 have e3':qkq s2 4=some ((iEq x 0,()),(s3,())):=by unfold qkq;rw [e3];rfl
 obtain ⟨m1,m2,m3,m4,⟨⟩⟩:=m
 obtain ⟨l1,l2,l3,l4,⟨⟩⟩:=g
 unfold qtf
 rw [qvx]
 simp only [Option.bind_some]
 unfold qnn
 rw [e1]
 simp only [Option.bind_some]
 rw [e2]
 simp only [Option.bind_some]
 rw [ew,er]
 simp only [Option.bind_some]
 rw [e3']
 simp only [Option.bind_some]
 have hlen:=hG.2.2.2.1
 have k1:l2=m2:=hG.2.1
 have k2:l3=m3:=hG.2.2.1
 have hLF:LogFit ((l1,l2,l3,l4,()):DLog):=⟨by rw [k1];exact gs.fit,fun v hv=>by rw [k2] at hv;exact (gm v hv).fit,hFE⟩
 cases iEq x 0 with
 | true =>
  simp only [cond_true]
  rw [e4]
  simp only [Option.bind_some]
  rw [qbi (by simp only at hlen;omega)]
  refine ⟨_,rfl,qye hg hz ((hG.add (e:=(3,(0,0,0,()),((iWrap .i16 (iSub .i64 y 200)),100,(-20:Int),()),0,0,())) ⟨qzv _ _,⟨qu5 _,⟨(by decide:(-32768:Int)≤100),(by decide:(100:Int)≤32767)⟩,⟨(by decide:(-32768:Int) ≤ -20),(by decide:(-20:Int)≤32767)⟩,trivial⟩⟩).le (by omega)),hLF.1,hLF.2.1,FE.snoc hLF.2.2 ⟨qrg,(qfm 0).2⟩⟩
 | false=>exact ⟨_,rfl,qye hg hz (hG.le (by omega)),hLF⟩
end
section
abbrev zE:DEntry:=(0,(0,0,0,()),(0,0,0,()),0,0,())
def entAt (g:DLog) (i:Nat):DEntry:=List.getD g.2.2.2.1 i zE
noncomputable def nextS (g:DLog) (s:DState) (e:DEntry):DState:=match qdz g s e with
 | some y=>y.1.1
 | none=>s
noncomputable def fS (g:DLog) (s:DState):Nat→DState
 | 0=>s
 | m+1=>nextS g (fS g s m) (entAt g m)
def StepOK (g:DLog) (s:DState) (m:Nat):Prop:=stateB (fS g s m)=true∧stateB (fS g s (m+1))=true ∧ ∃ b,qdz g (fS g s m) (entAt g m)=some ((fS g s (m+1),b,0,()),())∧qeh g (fS g s m) (entAt g m)=some ((fS g s (m+1),b,0,()),())∧(b=false→3≤(entAt g m).1)
theorem qano {g:DLog} (hg:LogOK g) {i:Nat} (hi:i<g.2.2.2.1.length):entAt g i=g.2.2.2.1[i]∧entryB (lenI g.2.2.1) (entAt g i)=true∧Fit (.arr 3 (.int .i16)) (entAt g i).2.2.1:=by
 obtain ⟨h1,-,-,-,-,h6⟩:=hg
 have e:entAt g i=g.2.2.2.1[i]:=qao hi
 simp only [logB,Bool.and_eq_true] at h1
 rw [e]
 exact ⟨rfl,List.all_eq_true.1 h1.2.2 _ (List.getElem_mem hi),h6 _ (List.getElem_mem hi)⟩
theorem qart {g:DLog} (hg:LogOK g) {i:Nat} (hi:i<g.2.2.2.1.length) {s:DState} (hs:stateB s=true) :
  ∃ w b k,qdz g s (entAt g i)=some ((w,b,k,()),())∧qeh g s (entAt g i)=some ((w,b,k,()),())∧(k=0→stateB w=true)∧C4 k∧(k=0→b=false→3≤(entAt g i).1):=by
 obtain ⟨e,h1,h2⟩:=qano hg hi
 obtain ⟨w,b,k,t1,t2,t3⟩:=qaj5 g hs (entAt g i) h1 h2 (by have:=hg.2.2.1;omega)
 obtain ⟨w',b',k',u1,u2,u3⟩:=qapk g hg.2.1 hs (entAt g i) h1 h2 (by have:=hg.2.2.1;omega)
 rw [t2] at u1
 simp only [Option.some.injEq,Prod.mk.injEq,and_true] at u1
 obtain ⟨rfl,rfl,rfl⟩:=u1
 exact ⟨w,b,k,t1,t2,t3,u2,u3⟩
theorem qam1 {g:DLog} (hg:LogOK g) {s:DState} {i:Nat} (hi:i<g.2.2.2.1.length) (hs:stateB (fS g s i)=true) :
  StepOK g s i ∨ ∃ w b,qdz g (fS g s i) (entAt g i)=some ((w,b,4,()),())∧qeh g (fS g s i) (entAt g i)=some ((w,b,4,()),()):=by
 obtain ⟨w,b,k,t1,t2,t3,t4,t5⟩:=qart hg hi hs
 rcases t4 with rfl | rfl
 ·have e:fS g s (i+1)=w:=by
   show nextS g (fS g s i) (entAt g i)=w
   unfold nextS
   rw [t1]
  left
  exact ⟨hs,by rw [e];exact t3 rfl,b,by rw [e];exact t1,by rw [e];exact t2,t5 rfl⟩
 ·exact .inr ⟨w,b,t1,t2⟩
theorem qasz {g:DLog} (s:DState) (j:Nat) (l:List Int):qcn (j:Int) g (l,(j:Int),s,())=some (.inr ((s,l,0,()),()))∧qbt (j:Int) g (l,(j:Int),s,())=some (.inr ((s,l,0,()),())):=by
 have e1:iLt (j:Int) (j:Int)=false:=qag (by omega)
 constructor
 ·simp only [qcn,e1,cond_false,Option.map_some]
 ·simp only [qbt,e1,cond_false,Option.map_some]
end
section
theorem qabc {n:Int} (h : -9223372036854775808≤n) (h1:n≤9223372036854775807):Fit (.int .i64) n:=⟨h,h1⟩
theorem qasj {x:DLeg} {n:Nat} (hn:n≤6) (h:LegG n x):Fit TyLeg x:=by
 obtain ⟨k1,k2,k3,k4,k5⟩:=h
 exact ⟨qabc (by omega) (by omega),k2.fit,qabc (by omega) (by omega),qabc (by omega) (by omega),trivial⟩
theorem qakh {m:DMission} {fix:Int} (hg:Good m fix):Fit TyMission m:=by
 obtain ⟨g1,g2,g3,g4,gr,gf,gs,gm,gl⟩:=hg
 refine ⟨qabc (by omega) (by omega),gs.fit,⟨?_,fun v hv=>(gm v hv).fit⟩,⟨?_,fun x hx=>qasj g2 (gl x hx)⟩,trivial⟩
 ·have:m.2.2.1.length*TyVec.bytes≤6*TyVec.bytes:=Nat.mul_le_mul_right _ g2
  exact Nat.le_trans this (by decide)
 ·have:m.2.2.2.1.length*TyLeg.bytes≤64*TyLeg.bytes:=Nat.mul_le_mul_right _ g1
  exact Nat.le_trans this (by decide)
theorem qab7 {g:DLog} (hg:LogOK g) (h:LogFit g):goodL g:=by
 obtain ⟨h1,h2,h3⟩:=h
 refine ⟨qz3 h1,fun v hv=>qz3 (h2 v hv),fun e he=>⟨fun _=>qz3 (h3 e he).1,fun _ => ?_,fun _=>qu4 (h3 e he).2⟩⟩
 obtain ⟨a,b,c,-⟩:=hg.2.2.2.2.2 e he
 exact ⟨a,b,c⟩
theorem qaoc {L:List (List UInt8)} (h : ∀ f∈L,f.length≤100):(linesT L).length≤101*L.length:=by
 induction L with
 | nil=>simp [linesT]
 | cons x L ih =>
  have:=ih (fun f hf=>h f (List.mem_cons_of_mem _ hf))
  have hx:=h x (by simp)
  have e:linesT (x :: L)=(x++[10])++linesT L:=by unfold linesT;rw [List.flatMap_cons]
  rw [e]
  simp only [List.length_append,List.length_cons,List.length_nil]
  omega
theorem qamc {n:Int} (h0:1≤n) (h1:n≤64):(Lib.itoa n).length≤30:=by
 have:=(List.all_eq_true.1 (by kernel_rfl:((List.range 65).all fun k=>decide ((Lib.itoa (k:Int)).length≤30))=true)) n.toNat (List.mem_range.2 (by omega))
 rw [Int.toNat_of_nonneg (by omega)] at this
 simpa using this
theorem qaqw {g:DLog} (hg:LogOK g) (hf:LogFit g):(logT g).length≤1048576:=by
 have hgl:=qab7 hg hf
 obtain ⟨h1,h2,h3,h4,-,-⟩:=hg
 have hall : ∀ f∈logL g,f.length≤100:=by
  intro f hf
  simp only [logB,Bool.and_eq_true] at h1
  unfold logL at hf
  rcases List.mem_cons.1 hf with rfl | hf
  ·have:=qamc h2.1 h2.2
   unfold headL vecW
   simp [joinC,wLog,qgc]
   simp [hex8,qgc]
   omega
  ·rcases List.mem_append.1 hf with hf | hf
   ·obtain ⟨v,-,rfl⟩:=List.mem_map.1 hf
    unfold beaL vecW
    simp [joinC,wBea,hex8,qgc]
   ·obtain ⟨e,he,rfl⟩:=List.mem_map.1 hf
    exact qak5 (n:=lenI g.2.2.1) (by rw [qaa];omega) (by rw [qaa];omega) (List.all_eq_true.1 h1.2.2 e he) (hgl.2.2 e he)
 have:=qaoc hall
 have hn:(logL g).length=1+(g.2.2.1.length+g.2.2.2.1.length):=by unfold logL;simp;omega
 unfold logT
 omega
theorem qaqx {g:DLog} (hg:LogOK g) (hf:LogFit g):qh9 g=some ((logT g,()),())∧qkx (logT g)=some ((g,0,()),()):=by
 have hgl:=qab7 hg hf
 refine ⟨?_,?_⟩
 ·rw [qadz hg.2.2.2.2.1 hgl,hg.1];rfl
 ·obtain ⟨w,h1,-,h2⟩:=qad3 (qaqw hg hf)
  rw [h1,h2 g rfl hg.1 hgl]
def Ref3 (g:DLog) (l:List Int):Prop:=∀ x∈l,∃ j:Nat,x=(j:Int)∧j<g.2.2.2.1.length∧3≤(entAt g j).1
theorem qauh {g:DLog} {s:DState} {i j:Nat} (hi:i<j) (hj:j≤g.2.2.2.1.length) (hlen:g.2.2.2.1.length≤1200) (h:StepOK g s i) {l:List Int} (hl:l.length≤i) (hr:Ref3 g l) :
  ∃ l':List Int,l'.length≤i+1∧Ref3 g l'∧qcn (j:Int) g (l,(i:Int),fS g s i,())=some (.inl (l',((i+1:Nat):Int),fS g s (i+1),()))∧qbt (j:Int) g (l,(i:Int),fS g s i,())=some (.inl (l',((i+1:Nat):Int),fS g s (i+1),())):=by
 obtain ⟨-,-,b,t1,t2,t3⟩:=h
 have e1:iLt (i:Int) (j:Int)=true:=qaf (by omega)
 have e2:inB (i:Int) (List.length g.2.2.2.1)=true:=qad (by omega)
 have e4:List.getD g.2.2.2.1 i ((0,(0,0,0,()),(0,0,0,()),0,0,()):DEntry)=entAt g i:=rfl
 have e5:iAdd .i64 (i:Int) 1=((i+1:Nat):Int):=qat hi (by omega)
 have e6:room (l.length+1) 8=true:=qbi (by omega)
 have i0:(!iEq (0:Int) 0)=false:=rfl
 refine ⟨bif !b then l++[(i:Int)] else l,?_,?_,?_,?_⟩
 ·cases b
  ·simp only [Bool.not_false,cond_true,List.length_append,List.length_singleton];omega
  ·simp only [Bool.not_true,cond_false];omega
 ·cases b
  ·intro x hx
   simp only [Bool.not_false,cond_true] at hx
   rcases List.mem_append.1 hx with hx | hx
   ·exact hr x hx
   ·exact ⟨i,List.mem_singleton.1 hx,by omega,t3 rfl⟩
  ·exact hr
 ·simp only [qcn,e1,e2,e4,e5,e6,t1,i0,Int.toNat_natCast,Option.bind_some,cond_true,cond_false]
  cases b <;> rfl
 ·simp only [qbt,e1,e2,e4,e5,e6,t2,i0,Int.toNat_natCast,Option.bind_some,cond_true,cond_false]
  cases b <;> rfl
theorem qao6 {g:DLog} (hg:LogOK g) {s:DState} {n:Nat} (hn:n≤g.2.2.2.1.length) (d:Nat) : ∀ (i:Nat) (l:List Int),i+d=n→l.length≤i→Ref3 g l→stateB (fS g s i)=true →
  ∃ w l' k,Ref3 g l'∧l'.length≤1200∧run (qcn (n:Int) g) (l,(i:Int),fS g s i,())=some ((w,l',k,()),())∧run (qbt (n:Int) g) (l,(i:Int),fS g s i,())=some ((w,l',k,()),()):=by
 have hlen:=hg.2.2.2.1
 induction d with
 | zero =>
  intro i l hi hl hr hs
  have:i=n:=by omega
  subst this
  obtain ⟨a,b⟩:=qasz (g:=g) (fS g s i) i l
  exact ⟨_,l,0,hr,by omega,qay a,qay b⟩
 | succ d ih =>
  intro i l hi hl hr hs
  rcases qam1 hg (i:=i) (by omega) hs with h | ⟨w,b,t1,t2⟩
  ·obtain ⟨l',q1,q2,q3,q4⟩:=qauh (j:=n) (by omega) hn hlen h hl hr
   rw [qar q3,qar q4]
   exact ih (i+1) l' (by omega) q1 q2 h.2.1
  ·have e1:iLt (i:Int) (n:Int)=true:=qaf (by omega)
   have e2:inB (i:Int) (List.length g.2.2.2.1)=true:=qad (by omega)
   have e4:List.getD g.2.2.2.1 i ((0,(0,0,0,()),(0,0,0,()),0,0,()):DEntry)=entAt g i:=rfl
   have i0:(!iEq (4:Int) 0)=true:=rfl
   refine ⟨zS,[],4,(by intro x hx;cases hx),by simp,qay ?_,qay ?_⟩
   ·simp only [qcn,e1,e2,e4,t1,i0,Int.toNat_natCast,Option.bind_some,cond_true]
    rfl
   ·simp only [qbt,e1,e2,e4,t2,i0,Int.toNat_natCast,Option.bind_some,cond_true]
    rfl
theorem qakt {g:DLog} (hg:LogOK g) : ∃ l k,Ref3 g l∧l.length≤1200∧qg4 g=some ((l,k,()),())∧qg5 g=some ((l,k,()),()):=by
 have hv:=qag9 hg.1
 have hs:stateB (firstS g.2.1)=true:=qtr hv
 have hL:=qe1 g hg.2.2.2.2.1
 have hL2:=qagd g hg.2.2.2.2.1
 rw [hg.1] at hL hL2
 obtain ⟨w,l,k,h1,h2,r1,r2⟩:=qao6 hg (s:=firstS g.2.1) (n:=g.2.2.2.1.length) (Nat.le_refl _) g.2.2.2.1.length 0 [] (by omega) (Nat.zero_le _) (by intro x hx;cases hx) hs
 refine ⟨l,k,h1,h2,?_,?_⟩
 ·unfold qg4 qme
  rw [hL,qrm g hv,qaa]
  simp only [Option.bind_some,Bool.not_true,cond_false]
  exact (congrArg (fun z=>Option.bind z _) r1).trans rfl
 ·unfold qg5 qgm
  rw [hL2,qup g,qaa]
  simp only [Option.bind_some,Bool.not_true,cond_false]
  exact (congrArg (fun z=>Option.bind z _) r2).trans rfl
end
section
theorem qame {n:Int} {e:DEntry} (h:entryB n e=true):e.1=1∨e.1=2∨e.1=3∨e.1=4:=by
 unfold entryB at h
 cases h1:iEq e.1 1 with
 | true=>exact .inl (qas.1 h1)
 | false =>
  cases h2:iEq e.1 2 with
  | true=>exact .inr (.inl (qas.1 h2))
  | false =>
   cases h3:iEq e.1 3 with
   | true=>exact .inr (.inr (.inl (qas.1 h3)))
   | false =>
    cases h4:iEq e.1 4 with
    | true=>exact .inr (.inr (.inr (qas.1 h4)))
    | false=>rw [h1,h2,h3,h4] at h;cases h
theorem qah9 (n:Int) (l:List DEntry):0≤cE n l∧cE n l≤l.length:=by
 unfold cE
 have:=List.countP_le_length (p:=fun e:DEntry=>iEq e.1 n) (l:=l)
 omega
def cV (l:List DEntry):Vec 5 Int:=(0,cE 1 l,cE 2 l,cE 3 l,cE 4 l,())
theorem qasa {l:List DEntry} {e:DEntry} {n:Int} (h:entryB n e=true) (hl:l.length≤1200):Vec.set 5 (cV l) e.1.toNat (iAdd .i64 (Vec.getD 5 (cV l) e.1.toNat (0:Int)) 1)=cV (l++[e])∧iLt e.1 1=false∧iLt 4 e.1=false∧inB e.1 5=true:=by
 have b1:=qah9 1 l
 have b2:=qah9 2 l
 have b3:=qah9 3 l
 have b4:=qah9 4 l
 have a1:iAdd .i64 (cE 1 l) 1=cE 1 l+1:=qba (by omega) (by omega)
 have a2:iAdd .i64 (cE 2 l) 1=cE 2 l+1:=qba (by omega) (by omega)
 have a3:iAdd .i64 (cE 3 l) 1=cE 3 l+1:=qba (by omega) (by omega)
 have a4:iAdd .i64 (cE 4 l) 1=cE 4 l+1:=qba (by omega) (by omega)
 unfold cV
 rw [qb3,qb3,qb3,qb3]
 rcases qame h with h | h | h | h
 ·rw [h]
  refine ⟨?_,rfl,rfl,rfl⟩
  show ((0,iAdd .i64 (cE 1 l) 1,cE 2 l,cE 3 l,cE 4 l,()):Vec 5 Int)=(0,cE 1 l+1,cE 2 l+0,cE 3 l+0,cE 4 l+0,())
  rw [a1,Int.add_zero,Int.add_zero,Int.add_zero];rfl
 ·rw [h]
  refine ⟨?_,rfl,rfl,rfl⟩
  show ((0,cE 1 l,iAdd .i64 (cE 2 l) 1,cE 3 l,cE 4 l,()):Vec 5 Int)=(0,cE 1 l+0,cE 2 l+1,cE 3 l+0,cE 4 l+0,())
  rw [a2,Int.add_zero,Int.add_zero,Int.add_zero];rfl
 ·rw [h]
  refine ⟨?_,rfl,rfl,rfl⟩
  show ((0,cE 1 l,cE 2 l,iAdd .i64 (cE 3 l) 1,cE 4 l,()):Vec 5 Int)=(0,cE 1 l+0,cE 2 l+0,cE 3 l+1,cE 4 l+0,())
  rw [a3,Int.add_zero,Int.add_zero,Int.add_zero];rfl
 ·rw [h]
  refine ⟨?_,rfl,rfl,rfl⟩
  show ((0,cE 1 l,cE 2 l,cE 3 l,iAdd .i64 (cE 4 l) 1,()):Vec 5 Int)=(0,cE 1 l+0,cE 2 l+0,cE 3 l+0,cE 4 l+1,())
  rw [a4,Int.add_zero,Int.add_zero,Int.add_zero];rfl
theorem qasu {g:DLog} (hg:LogOK g) {k0:Int} (y2:(DMission×Unit)×Unit) (a1:List Int) (x7:Int) (d:Nat) : ∀ i,i+d=g.2.2.2.1.length →
  run (qd9 ((g,k0,()),()) y2 a1 x7) ((i:Int),cV (g.2.2.2.1.take i),())=run (qd9 ((g,k0,()),()) y2 a1 x7) ((g.2.2.2.1.length:Int),cV g.2.2.2.1,()):=by
 have hlen:=hg.2.2.2.1
 induction d with
 | zero =>
  intro i hi
  have:i=g.2.2.2.1.length:=by omega
  rw [this,List.take_length]
 | succ d ih =>
  intro i hi
  have hlt:i<g.2.2.2.1.length:=by omega
  have e1:iLt (i:Int) (lenI g.2.2.2.1)=true:=qaf (by rw [qaa];omega)
  have e2:inB (i:Int) (List.length g.2.2.2.1)=true:=qad hlt
  have e4:List.getD g.2.2.2.1 i ((0,(0,0,0,()),(0,0,0,()),0,0,()):DEntry)=g.2.2.2.1[i]:=qao hlt
  have e5:iAdd .i64 (i:Int) 1=((i+1:Nat):Int):=qat hlt (by omega)
  obtain ⟨q0,q1,-⟩:=qano hg hlt
  rw [q0] at q1
  obtain ⟨c1,c2,c3,c4⟩:=qasa (l:=g.2.2.2.1.take i) q1 (by rw [List.length_take];omega)
  have et:g.2.2.2.1.take i++[g.2.2.2.1[i]]=g.2.2.2.1.take (i+1):=(qf3 hlt).symm
  rw [et] at c1
  have hs:qd9 ((g,k0,()),()) y2 a1 x7 ((i:Int),cV (g.2.2.2.1.take i),())=some (.inl (((i+1:Nat):Int),cV (g.2.2.2.1.take (i+1)),())):=by
   unfold qd9
   simp only
   rw [e1,e2,Int.toNat_natCast,e4,e5,c2,c3,c4,c1]
   rfl
  rw [qar hs]
  exact ih (i+1) (by omega)
theorem qauq {a b:Int} (ha:0≤a):iQuo .i64 a b=IntKind.i64.wrap (a/b):=by
 show IntKind.i64.wrap (Int.tdiv a b)=_
 rw [Int.tdiv_eq_ediv_of_nonneg ha]
end
section
theorem qar2 {l:List DLeg} (h:sumB l) (hl:l.length≤64) : ∀ i,i≤l.length→0≤sF l i∧sF l i≤400*i∧0≤sM l i∧sM l i≤i
 | 0,_=>⟨Int.le_refl _,by simp [sF],Int.le_refl _,by simp [sM]⟩
 | i+1,hi=>by
  obtain ⟨e0,e1,e2,e3⟩:=qar2 h hl i (by omega)
  have hlt:i<l.length:=by omega
  have hx:=h _ (List.getElem_mem hlt)
  rw [qaf2 hlt,qaf3 hlt]
  have hf:0≤fixN l[i] l[i].1∧fixN l[i] l[i].1≤400:=by
   unfold fixN
   cases hc:iLt 0 l[i].2.2.1 with
   | false=>exact ⟨Int.le_refl _,(by decide:(0:Int)≤400)⟩
   | true =>
    have hp:=qyg.1 hc
    simp only [cond_true]
    have b0:=Int.ediv_nonneg hx.1 (show 0≤l[i].2.2.1 by omega)
    have b1:=Int.ediv_le_self l[i].2.2.1 hx.1
    omega
  have hm:0≤markN l[i]∧markN l[i]≤1:=by
   unfold markN
   cases iLe 0 l[i].2.2.2.1 with
   | false=>exact ⟨Int.le_refl _,by decide⟩
   | true=>exact ⟨by decide,Int.le_refl _⟩
  omega
theorem qasw {M:DMission} (hb:sumB M.2.2.2.1) (hl:M.2.2.2.1.length≤64) (y36:(Int×Int×Unit)×Unit) (s26:Int×(Vec 5 Int)×Unit) (a1:List Int) (x7:Int) (d:Nat) : ∀ i,i+d=M.2.2.2.1.length →
  run (qea ((M,()),()) y36 s26 a1 x7) (sF M.2.2.2.1 i,sM M.2.2.2.1 i,(i:Int),())=run (qea ((M,()),()) y36 s26 a1 x7) (sF M.2.2.2.1 M.2.2.2.1.length,sM M.2.2.2.1 M.2.2.2.1.length,(M.2.2.2.1.length:Int),()):=by
 induction d with
 | zero =>
  intro i hi
  have:i=M.2.2.2.1.length:=by omega
  rw [this]
 | succ d ih =>
  intro i hi
  have hlt:i<M.2.2.2.1.length:=by omega
  obtain ⟨f0,f1,f2,f3⟩:=qar2 hb hl i (by omega)
  have hx:=hb _ (List.getElem_mem hlt)
  have e1:iLt (i:Int) (lenI M.2.2.2.1)=true:=qaf (by rw [qaa];omega)
  have e2:inB (i:Int) (List.length M.2.2.2.1)=true:=qad hlt
  have e4:List.getD M.2.2.2.1 i ((0,(0,0,0,()),0,0,()):DLeg)=M.2.2.2.1[i]:=qao hlt
  have e5:iAdd .i64 (i:Int) 1=((i+1:Nat):Int):=qat hlt (by omega)
  have e6:iAdd .i64 (sM M.2.2.2.1 i) 1=sM M.2.2.2.1 i+1:=qba (by omega) (by omega)
  have hs:qea ((M,()),()) y36 s26 a1 x7 (sF M.2.2.2.1 i,sM M.2.2.2.1 i,(i:Int),())=some (.inl (sF M.2.2.2.1 (i+1),sM M.2.2.2.1 (i+1),((i+1:Nat):Int),())):=by
   rw [qaf2 hlt,qaf3 hlt]
   unfold qea fixN markN
   simp only
   rw [e1,e2,Int.toNat_natCast,e4,e5]
   simp only [cond_true]
   cases hc:iLt 0 M.2.2.2.1[i].2.2.1 with
   | true =>
    have hp:=qyg.1 hc
    have b0:=Int.ediv_nonneg hx.1 (show 0≤M.2.2.2.1[i].2.2.1 by omega)
    have b1:=Int.ediv_le_self M.2.2.2.1[i].2.2.1 hx.1
    have hq:iQuo .i64 M.2.2.2.1[i].1 M.2.2.2.1[i].2.2.1=M.2.2.2.1[i].1/M.2.2.2.1[i].2.2.1:=by
     rw [qauq hx.1]
     exact qfy (by omega) (by omega)
    have ez:iEq M.2.2.2.1[i].2.2.1 0=false:=qaz (by omega)
    simp only [cond_true]
    rw [ez,hq,qba (by omega) (by omega)]
    simp only [cond_false]
    cases iLe 0 M.2.2.2.1[i].2.2.2.1 with
    | true=>simp only [cond_true];rw [e6]
    | false=>simp only [cond_false];rw [Int.add_zero]
   | false =>
    simp only [cond_false]
    cases iLe 0 M.2.2.2.1[i].2.2.2.1 with
    | true=>simp only [cond_true];rw [e6,Int.add_zero]
    | false=>simp only [cond_false];rw [Int.add_zero,Int.add_zero]
  rw [qar hs]
  exact ih (i+1) (by omega)
theorem qasy {g:DLog} (hlen:g.2.2.2.1.length≤1200) {l:List Int} (hl:l.length≤1200) (hr:Ref3 g l) {k1 k2:Int} (y2:(DMission×Unit)×Unit) (x7:Int) (d:Nat) : ∀ i,i+d=l.length →
  run (qdd ((l,k2,()),()) ((l,k1,()),()) ((g,()),()) y2 x7) ((i:Int),())=run (qdd ((l,k2,()),()) ((l,k1,()),()) ((g,()),()) y2 x7) ((l.length:Int),()):=by
 induction d with
 | zero =>
  intro i hi
  have:i=l.length:=by omega
  rw [this]
 | succ d ih =>
  intro i hi
  have hlt:i<l.length:=by omega
  obtain ⟨j,hj,hjl,hk⟩:=hr _ (List.getElem_mem hlt)
  have e1:iLt (i:Int) (lenI l)=true:=qaf (by rw [qaa];omega)
  have e2:inB (i:Int) (List.length l)=true:=qad hlt
  have e4:List.getD l i 0=(j:Int):=by rw [qao hlt];exact hj
  have e5:iAdd .i64 (i:Int) 1=((i+1:Nat):Int):=qat hlt (by omega)
  have e6:inB (j:Int) (List.length g.2.2.2.1)=true:=qad hjl
  have e7:iLt (List.getD g.2.2.2.1 j ((0,(0,0,0,()),(0,0,0,()),0,0,()):DEntry)).1 3=false:=qag (fun q=>absurd q (Int.not_lt.2 hk))
  have hs:qdd ((l,k2,()),()) ((l,k1,()),()) ((g,()),()) y2 x7 ((i:Int),())=some (.inl (((i+1:Nat):Int),())):=by
   unfold qdd
   simp only
   rw [e1,e2,Int.toNat_natCast,e4,e5,qas.2 rfl,e6,Int.toNat_natCast,e7]
   rfl
  rw [qar hs]
  exact ih (i+1) (by omega)
theorem qadg : ∀ L:List (Vec 3 Nat),all2 sameV L L=true
 | []=>rfl
 | v :: L=>by
  show (sameV v v&&all2 sameV L L)=true
  rw [qte,qadg L];rfl
theorem qagk : ∀ L:List DEntry,all2 sameE L L=true
 | []=>rfl
 | v :: L=>by
  have e:sameE v v=true:=by unfold sameE;simp [qte,qtd,qas.2]
  show (sameE v v&&all2 sameE L L)=true
  rw [e,qagk L];rfl
theorem qaez (g:DLog):sameL g g=true:=by
 unfold sameL sameVs
 rw [qagk,qadg,qte,qas.2 rfl,qas.2 rfl,qas.2 rfl]
 rfl
end
section
theorem qs7 {l:List Int} (h:Fit (.list (.int .u8)) l) : ∀ x∈l,0≤x∧x≤255:=fun x hx=>h.2 x hx
theorem qaia {c:List Int} (h : ∀ x∈c,0≤x∧x≤255) (hl:c.length≤4096) (i:Nat) (k:Nat) (hk:1≤k) (hk2:k≤5000) : ∃ v:Nat,qk9 c (i:Int) (k:Int)=some (((v:Int),()),())∧v<k:=by
 unfold qk9
 by_cases hi:i<c.length
 ·have e1:iLe (lenI c) (i:Int)=false:=qg9 (by rw [qaa];omega)
  have e2:iLt (k:Int) 1=false:=qag (by omega)
  have e3:inB (i:Int) (List.length c)=true:=qad hi
  have e4:iEq (k:Int) 0=false:=qaz (by omega)
  have hx:=h _ (List.getElem_mem hi)
  have e5:iWrap .i64 c[i]=c[i]:=qfy (by omega) (by omega)
  have e6:iRem .i64 c[i] (k:Int)=c[i]%(k:Int):=Int.tmod_eq_emod_of_nonneg hx.1
  rw [e1,e2,e3,e4,Int.toNat_natCast,qao hi,e5,e6]
  have m0:=Int.emod_nonneg c[i] (show (k:Int)≠0 by omega)
  have m1:=Int.emod_lt_of_pos c[i] (show (0:Int)<k by omega)
  refine ⟨(c[i]%(k:Int)).toNat,?_,by omega⟩
  rw [Int.toNat_of_nonneg m0]
  rfl
 ·have e1:iLe (lenI c) (i:Int)=true:=qa3 (by rw [qaa];omega)
  rw [e1]
  exact ⟨0,rfl,by omega⟩
theorem qasx {g:DLog} {l:List Int} {k1 k2:Int} {M:DMission} {fix:Int} (hg:Good M fix) {sd:Int} (h0:0≤sd) (h1:sd<4294967296) :
  qdd ((l,k2,()),()) ((l,k1,()),()) ((g,()),()) ((M,()),()) sd ((l.length:Int),())=some (.inr ((true,()),())):=by
 have e1:iLt (l.length:Int) (lenI l)=false:=qag (by rw [qaa];omega)
 obtain ⟨x,k,m1,m2⟩:=qamk M (qakh hg) (sd:=sd) ⟨h0,by show sd≤(4294967295:Int);omega⟩
 obtain ⟨M1,M2,M3,M4,⟨⟩⟩:=M
 unfold qdd
 simp only
 rw [e1]
 simp only [cond_false]
 rw [m1,m2]
 simp only [Option.bind_some]
 rw [qas.2 rfl,qkz,qtd]
 rfl
theorem qasv {M:DMission} {fix:Int} (hg:Good M fix) {g:DLog} (hgl:M.2.2.2.1.length≤64) (c1:cE 1 g.2.2.2.1=ticksI M.2.2.2.1) (c2:cE 2 g.2.2.2.1=M.2.2.2.1.length) (c3:cE 3 g.2.2.2.1=sF M.2.2.2.1 M.2.2.2.1.length) (c4:cE 4 g.2.2.2.1=sM M.2.2.2.1 M.2.2.2.1.length)
  {n:Int} {a1:List Int} (ha : ∀ x∈a1,0≤x∧x≤255) (hal:a1.length≤4096) {sd:Int} (h0:0≤sd) (h1:sd<4294967296) :
  ∃ o,qea ((M,()),()) ((ticksI M.2.2.2.1,0,()),()) (n,cV g.2.2.2.1,()) a1 sd (sF M.2.2.2.1 M.2.2.2.1.length,sM M.2.2.2.1 M.2.2.2.1.length,(M.2.2.2.1.length:Int),())=some (.inr o)∧o=((true,()),()):=by
 have e1:iLt (M.2.2.2.1.length:Int) (lenI M.2.2.2.1)=false:=qag (by rw [qaa];omega)
 have i0:(!iEq (0:Int) 0)=false:=rfl
 have d1:Vec.getD 5 (cV g.2.2.2.1) 1 (0:Int)=ticksI M.2.2.2.1:=c1
 have d2:Vec.getD 5 (cV g.2.2.2.1) 2 (0:Int)=lenI M.2.2.2.1:=by rw [qaa];exact c2
 have d3:Vec.getD 5 (cV g.2.2.2.1) 3 (0:Int)=sF M.2.2.2.1 M.2.2.2.1.length:=c3
 have d4:Vec.getD 5 (cV g.2.2.2.1) 4 (0:Int)=sM M.2.2.2.1 M.2.2.2.1.length:=c4
 obtain ⟨G,hG0,hG,hF⟩:=qaps ha hal
 obtain ⟨t1,t2⟩:=qaqx hG hF
 obtain ⟨l,k,r1,r2,r3,r4⟩:=qakt hG
 have s1:=qvw G G hG.2.2.2.2.1
 have s2:=qad5 G G hG.2.2.2.2.1
 rw [qaez] at s1 s2
 have hrun:run (qdd ((l,k,()),()) ((l,k,()),()) ((G,()),()) ((M,()),()) sd) ((0:Int),())=some ((true,()),()):=by
  have e:=qasy hG.2.2.2.1 r2 r1 (k1:=k) (k2:=k) ((M,()),()) sd l.length 0 (by omega)
  exact e.trans (qay (qasx hg h0 h1))
 obtain ⟨G1,G2,G3,G4,⟨⟩⟩:=G
 refine ⟨_,?_,rfl⟩
 unfold qea
 simp only
 rw [e1]
 simp only [cond_false]
 rw [i0,d1,d2,d3,d4,qas.2 rfl,qas.2 rfl,qas.2 rfl,qas.2 rfl]
 simp only [cond_false,Bool.not_true]
 rw [hG0]
 simp only [Option.bind_some]
 rw [t1]
 simp only [Option.bind_some]
 rw [t2]
 simp only [Option.bind_some]
 rw [r3,r4]
 simp only [Option.bind_some,i0,cond_false]
 rw [s1]
 simp only [Option.bind_some,Bool.not_true,cond_false]
 rw [s2]
 simp only [Option.bind_some,Bool.not_true,cond_false]
 rw [qas.2 rfl,qas.2 rfl]
 simp only [Bool.not_true,cond_false]
 rw [hrun]
 rfl
theorem qabn (a0:List Int) (h0:Fit (.list (.int .u8)) a0) (a1:List Int) (h1:Fit (.list (.int .u8)) a1) : ∃ o,qwa a0 a1=some ((true,()),o):=by
 refine ⟨(),?_⟩
 unfold qwa qwb
 by_cases l0:a0.length≤3000
 ·by_cases l1:a1.length≤3000
  ·have e0:iLt 3000 (lenI a0)=false:=qag (by rw [qaa];omega)
   have e1:iLt 3000 (lenI a1)=false:=qag (by rw [qaa];omega)
   obtain ⟨M,s1,hd,-,hz,fix,hg⟩:=qain (qaj2 (qs7 h0) (by omega))
   obtain ⟨g1,g2,g3,g4,gr,gf,gs,gm,gl⟩:=id hg
   obtain ⟨u,hu,hu2⟩:=qaia (qs7 h1) (by omega) 0 256 (by omega) (by omega)
   obtain ⟨v,hv,hv2⟩:=qaia (qs7 h1) (by omega) 1 256 (by omega) (by omega)
   replace hu:qk9 a1 (0:Int) (256:Int)=some (((u:Int),()),()):=hu
   replace hv:qk9 a1 (1:Int) (256:Int)=some (((v:Int),()),()):=hv
   have es:iWrap .u32 (iAdd .i64 (iMul .i64 (u:Int) 65536) (v:Int))=(u:Int)*65536+v:=by
    rw [qwr (by omega) (by omega),qba (by omega) (by omega)]
    simp [iWrap,IntKind.wrap,IntKind.signed,IntKind.bits]
    omega
   have q0:(0:Int)≤(u:Int)*65536+v:=by omega
   have q1:(u:Int)*65536+v<4294967296:=by omega
   have hm:=qtu hg
   have hb:sumB M.2.2.2.1:=fun x hx=>⟨by have:=(gl x hx).1.1;omega,(gl x hx).1.2⟩
   obtain ⟨g,er,hG,c1,c2,c3,c4,hFE⟩:=qalp M hm hb g4 ⟨qq3 gs.pv.1 (by decide),qq3 gs.pv.2.1 (by decide),qq3 gs.pv.2.2 (by decide)⟩ g2 (fun v hv=>(gm v hv).pv) (fun x hx=>qajz (gl x hx).2.1.pv gr.1 gr.2) (fun x hx=>(gl x hx).2.1.fit) q0 q1
   have hLO:LogOK g:=qye hg hz (hG.le (by omega))
   obtain ⟨g',k',z1,z2,-⟩:=qaju M hz hm q0 q1 (by omega)
   rw [er] at z2
   have zz:g=g'∧(0:Int)=k':=by
    have:=Option.some.inj z2
    simp only [Prod.mk.injEq,and_true] at this
    exact this
   obtain ⟨rfl,rfl⟩:=zz
   have hok:=qsb M hz
   rw [hm] at hok
   have hT:=qad8 M hz
   rw [hm] at hT
   have hts:=qahw hb g1
   rw [← hts] at c1
   have hVL:=qe1 g hLO.2.2.2.2.1
   rw [hLO.1] at hVL
   have hS:=qvw g g hLO.2.2.2.2.1
   rw [qaez] at hS
   have i0:(!iEq (0:Int) 0)=false:=rfl
   obtain ⟨o,ho,rfl⟩:=qasv hg g1 c1 c2 c3 c4 (n:=(g.2.2.2.1.length:Int)) (qs7 h1) (by omega) q0 q1
   have hrun20:=(qasw hb g1 ((ticksI M.2.2.2.1,0,()),()) ((g.2.2.2.1.length:Int),cV g.2.2.2.1,()) a1 ((u:Int)*65536+v) M.2.2.2.1.length 0 (by omega)).trans (qay ho)
   have hl11:qd9 ((g,0,()),()) ((M,()),()) a1 ((u:Int)*65536+v) ((g.2.2.2.1.length:Int),cV g.2.2.2.1,())=some (.inr ((true,()),())):=by
    have e:iLt (g.2.2.2.1.length:Int) (lenI g.2.2.2.1)=false:=qag (by rw [qaa];omega)
    obtain ⟨M1,M2,M3,M4,⟨⟩⟩:=M
    unfold qd9
    simp only
    rw [e]
    simp only [cond_false]
    rw [hT]
    simp only [Option.bind_some,cond_true]
    exact congrArg (Option.map Sum.inr) hrun20
   have hrun11:=(qasu hLO (k0:=0) ((M,()),()) a1 ((u:Int)*65536+v) g.2.2.2.1.length 0 (by omega)).trans (qay hl11)
   have hA:qlu a0=some ((M,()),()):=by
    obtain ⟨M1,M2,M3,M4,⟨⟩⟩:=M
    unfold qlu
    rw [qvx]
    simp only [Option.bind_some]
    rw [hd]
    rfl
   have hSR:qkp M ((u:Int)*65536+v)=some ((g,0,()),()):=by
    obtain ⟨y1,y2,y3,y4,⟨⟩⟩:=g
    unfold qkp
    rw [hok]
    simp only [Option.bind_some,Bool.not_true,cond_false]
    rw [er]
    rfl
   obtain ⟨M1,M2,M3,M4,⟨⟩⟩:=M
   obtain ⟨y1,y2,y3,y4,⟨⟩⟩:=g
   rw [e0,e1]
   simp only [cond_false,Option.bind_some]
   rw [hA]
   simp only [Option.bind_some]
   rw [hu]
   simp only [Option.bind_some]
   rw [hv]
   simp only [Option.bind_some]
   rw [es,z1,hSR]
   simp only [Option.bind_some]
   rw [qas.2 rfl]
   simp only [Option.bind_some,Bool.not_true,cond_false]
   rw [hS]
   simp only [Option.bind_some,Bool.not_true,cond_false]
   rw [hVL]
   simp only [Option.bind_some,Bool.not_true,cond_false]
   exact hrun11
  ·have e0:iLt 3000 (lenI a0)=false:=qag (by rw [qaa];omega)
   have e1:iLt 3000 (lenI a1)=true:=qaf (by rw [qaa];omega)
   rw [e0,e1];rfl
 ·have e0:iLt 3000 (lenI a0)=true:=qaf (by rw [qaa];omega)
  rw [e0];rfl
end
end Go.Proofs.YtnndahnmlmgenaaGreatDoor
