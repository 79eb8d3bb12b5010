import Derived.Test.YtnndahnmlmgenaaGreatDoorP2
/- Functions of the program and of the reference in plain terms. -/
set_option linter.unusedSectionVars false
set_option linter.unusedSimpArgs false
set_option linter.unusedVariables false
namespace Go.Proofs.YtnndahnmlmgenaaGreatDoor
open Go Go.Tm
section
abbrev dSens:Vec 3 Nat×(Vec 3 Nat×(Int×(Int×Unit))):=((1031798784,1031798784,1031798784,()),(0,0,0,()),1,0,())
def seenF (n:Int):Nat:=fAdd .f32 (fMul .f32 (fOfInt .f32 n) 1031798784) 0
theorem qlz {n:Int} (h : -32768≤n) (h1:n≤32767):finB (seenF n)=true:=by
 have h2:magB 1031798784 (-4):=⟨false,8388608,-27,by decide,fun _=>by decide⟩
 have h3:=qan3 (qajj h h1) h2 (by omega) (by omega)
 exact qan2 (qan1 h3 (qal1 _) (by omega) (by omega))
theorem qz3 (v:Vec 3 Int):qfx dSens v=some (((seenF (Vec.getD 3 v 0 (0:Int)),seenF (Vec.getD 3 v 1 (0:Int)),seenF (Vec.getD 3 v 2 (0:Int)),()),()),())∧qkw dSens v=some (((seenF (Vec.getD 3 v 0 (0:Int)),seenF (Vec.getD 3 v 1 (0:Int)),seenF (Vec.getD 3 v 2 (0:Int)),()),()),()):=⟨rfl,rfl⟩
theorem qnb {i x:Nat} (hi:i<3) (hx:finB x=true):clueB (cl i x 1056964608)=true:=by
 match i,hi with
 | 0,_=>show ((rowL (Vec.set 6 r6 0 (1065353216:Nat))).all finB&&(finB x&&(finB 1056964608&&fLt .f32 0 1056964608)))=true;rw [hx];decide
 | 1,_=>show ((rowL (Vec.set 6 r6 1 (1065353216:Nat))).all finB&&(finB x&&(finB 1056964608&&fLt .f32 0 1056964608)))=true;rw [hx];decide
 | 2,_=>show ((rowL (Vec.set 6 r6 2 (1065353216:Nat))).all finB&&(finB x&&(finB 1056964608&&fLt .f32 0 1056964608)))=true;rw [hx];decide
theorem qu5:finB 1091567616=true:=by decide
theorem qanm {s:DState} (v:Vec 3 Int) (hv:Fit (.arr 3 (.int .i16)) v) : ∃ (w:DState) (b:Bool) (k:Int),
  ((qfi).bind fun y183=>(qfx y183.1.1 v).bind fun y184=>(qaz (0:Int) (Vec.getD 3 y184.1.1 0 (0:Nat)) (1056964608:Nat)).bind fun y186=>(qa3 s y186.1.1 (1091567616:Nat)).bind fun y187 =>
  bif (! (iEq y187.1.2.2.1 0)) then some ((zS,false,y187.1.2.2.1,()),()) else
  (qaz (1:Int) (Vec.getD 3 y184.1.1 1 (0:Nat)) (1056964608:Nat)).bind fun y190=>(qa3 y187.1.1 y190.1.1 (1091567616:Nat)).bind fun y191 =>
  bif (! (iEq y191.1.2.2.1 0)) then some ((zS,false,y191.1.2.2.1,()),()) else
  bif y187.1.2.1 then
   (qaz (2:Int) (Vec.getD 3 y184.1.1 2 (0:Nat)) (1056964608:Nat)).bind fun y194=>(qa3 y191.1.1 y194.1.1 (1091567616:Nat)).bind fun y195 =>
   bif (! (iEq y195.1.2.2.1 0)) then some ((zS,false,y195.1.2.2.1,()),()) else
   bif y191.1.2.1 then some ((y195.1.1,y195.1.2.1,(0:Int),()),()) else some ((y195.1.1,false,(0:Int),()),())
  else
  (qaz (2:Int) (Vec.getD 3 y184.1.1 2 (0:Nat)) (1056964608:Nat)).bind fun y198=>(qa3 y191.1.1 y198.1.1 (1091567616:Nat)).bind fun y199 =>
  bif (! (iEq y199.1.2.2.1 0)) then some ((zS,false,y199.1.2.2.1,()),()) else some ((y199.1.1,false,(0:Int),()),()))=some ((w,b,k,()),()) ∧
  qiw s v=some ((w,b,k,()),())∧(k=0→stateB w=true):=by
 obtain ⟨c1,c2⟩:=qz3 v
 obtain ⟨f0,f1,f2,_⟩:=hv
 have d0:=qlz (n:=Vec.getD 3 v 0 (0:Int)) f0.1 f0.2
 have d1:=qlz (n:=Vec.getD 3 v 1 (0:Int)) f1.1 f1.2
 have d2:=qlz (n:=Vec.getD 3 v 2 (0:Int)) f2.1 f2.2
 generalize h0:seenF (Vec.getD 3 v 0 (0:Int))=x0 at *
 generalize h1:seenF (Vec.getD 3 v 1 (0:Int))=x1 at *
 generalize h2:seenF (Vec.getD 3 v 2 (0:Int))=x2 at *
 have e1:qfi=some ((dSens,()),()):=rfl
 have e2:qfs=some ((dSens,()),()):=rfl
 have b0:=qnb (i:=0) (by omega) d0
 have b1:=qnb (i:=1) (by omega) d1
 have b2:=qnb (i:=2) (by omega) d2
 have i0:qaz 0 x0 1056964608=some ((cl 0 x0 1056964608,()),()):=(qeq (i:=0) (by omega) x0 1056964608).trans (by rw [b0];rfl)
 have i1:qaz 1 x1 1056964608=some ((cl 1 x1 1056964608,()),()):=(qeq (i:=1) (by omega) x1 1056964608).trans (by rw [b1];rfl)
 have i2:qaz 2 x2 1056964608=some ((cl 2 x2 1056964608,()),()):=(qeq (i:=2) (by omega) x2 1056964608).trans (by rw [b2];rfl)
 have s0:qax 0 x0 1056964608=some ((cl 0 x0 1056964608,0,()),()):=(qbt (i:=0) (by omega) x0 1056964608).trans (by rw [b0];rfl)
 have s1:qax 1 x1 1056964608=some ((cl 1 x1 1056964608,0,()),()):=(qbt (i:=1) (by omega) x1 1056964608).trans (by rw [b1];rfl)
 have s2:qax 2 x2 1056964608=some ((cl 2 x2 1056964608,0,()),()):=(qbt (i:=2) (by omega) x2 1056964608).trans (by rw [b2];rfl)
 have g0 : ∀ z:Nat,Vec.getD 3 ((x0,x1,x2,()):Vec 3 Nat) 0 z=x0:=fun _=>rfl
 have g1 : ∀ z:Nat,Vec.getD 3 ((x0,x1,x2,()):Vec 3 Nat) 1 z=x1:=fun _=>rfl
 have g2 : ∀ z:Nat,Vec.getD 3 ((x0,x1,x2,()):Vec 3 Nat) 2 z=x2:=fun _=>rfl
 have z0:(!iEq (0:Int) 0)=false:=rfl
 obtain ⟨V,hV⟩ : ∃ V:Vec 3 Nat,V=(x0,x1,x2,()):=⟨_,rfl⟩
 replace c1:qfx dSens v=some ((V,()),()):=c1.trans (by rw [hV];rfl)
 replace c2:qkw dSens v=some ((V,()),()):=c2.trans (by rw [hV];rfl)
 replace g0:Vec.getD 3 V 0 (0:Nat)=x0:=by rw [hV];rfl
 replace g1:Vec.getD 3 V 1 (0:Nat)=x1:=by rw [hV];rfl
 replace g2:Vec.getD 3 V 2 (0:Nat)=x2:=by rw [hV];rfl
 obtain ⟨w1,p1,k1,u1,t1,v1⟩:=qr1 s (cl 0 x0 1056964608) qu5
 obtain ⟨w2,p2,k2,u2,t2,v2⟩:=qr1 w1 (cl 1 x1 1056964608) qu5
 obtain ⟨w3,p3,k3,u3,t3,v3⟩:=qr1 w2 (cl 2 x2 1056964608) qu5
 simp only [qiw,e1,e2,c1,c2,g0,g1,g2,i0,i1,i2,s0,s1,s2,u1,u2,u3,t1,t2,t3,z0,Option.bind_some,cond_false]
 cases q1:iEq k1 0 with
 | false=>exact ⟨_,_,_,rfl,rfl,fun q=>absurd q (qff.1 q1)⟩
 | true =>
  simp only [Bool.not_true,cond_false]
  cases q2:iEq k2 0 with
  | false=>exact ⟨_,_,_,rfl,rfl,fun q=>absurd q (qff.1 q2)⟩
  | true =>
   simp only [Bool.not_true,cond_false]
   cases q3:iEq k3 0 with
   | false=>cases p1 <;> exact ⟨_,_,_,rfl,rfl,fun q=>absurd q (qff.1 q3)⟩
   | true=>cases p1 <;> cases p2 <;> exact ⟨_,_,_,rfl,rfl,fun _=>v3 (qbq.1 q3)⟩
theorem qamw (a:DLog) {s:DState} (hs:stateB s=true) (e:DEntry) (he:entryB (lenI a.2.2.1) e=true) (hf:Fit (.arr 3 (.int .i16)) e.2.2.1) (hl:a.2.2.1.length≤140737488355328) : ∃ (w:DState) (b:Bool) (k:Int),qcb a s e=some ((w,b,k,()),())∧qdr a s e=some ((w,b,k,()),())∧(k=0→stateB w=true):=by
 unfold qcb qdr
 cases h1:iEq e.1 1 with
 | true =>
  obtain ⟨w,k,p1,p2,p3⟩:=qaf3 hs (fDiv .f32 1065353216 (fOfInt .f32 a.1)) ((1048576000,1048576000,1048576000,()):Vec 3 Nat)
  refine ⟨w,iEq k 0,k,?_,?_,p3⟩
  ·exact (congrArg (fun z=>Option.bind z _) p1).trans rfl
  ·exact (congrArg (fun z=>Option.bind z _) p2).trans rfl
 | false =>
  simp only [cond_false]
  cases h2:iEq e.1 2 with
  | true =>
   have i3:=qeq (i:=3) (by omega) (Vec.getD 3 e.2.1 0 (0:Nat)) 1040187392
   have i4:=qeq (i:=4) (by omega) (Vec.getD 3 e.2.1 1 (0:Nat)) 1040187392
   have i5:=qeq (i:=5) (by omega) (Vec.getD 3 e.2.1 2 (0:Nat)) 1040187392
   have s3:=qbt (i:=3) (by omega) (Vec.getD 3 e.2.1 0 (0:Nat)) 1040187392
   have s4:=qbt (i:=4) (by omega) (Vec.getD 3 e.2.1 1 (0:Nat)) 1040187392
   have s5:=qbt (i:=5) (by omega) (Vec.getD 3 e.2.1 2 (0:Nat)) 1040187392
   replace i3:qaz (3:Int) _ _=_:=i3
   replace i4:qaz (4:Int) _ _=_:=i4
   replace i5:qaz (5:Int) _ _=_:=i5
   replace s3:qax (3:Int) _ _=_:=s3
   replace s4:qax (4:Int) _ _=_:=s4
   replace s5:qax (5:Int) _ _=_:=s5
   simp only [i3,i4,i5,s3,s4,s5,Option.bind_some,cond_true]
   generalize (bif clueB (cl 3 (Vec.getD 3 e.2.1 0 (0:Nat)) 1040187392) then cl 3 (Vec.getD 3 e.2.1 0 (0:Nat)) 1040187392 else zC)=c3
   generalize (bif clueB (cl 4 (Vec.getD 3 e.2.1 1 (0:Nat)) 1040187392) then cl 4 (Vec.getD 3 e.2.1 1 (0:Nat)) 1040187392 else zC)=c4
   generalize (bif clueB (cl 5 (Vec.getD 3 e.2.1 2 (0:Nat)) 1040187392) then cl 5 (Vec.getD 3 e.2.1 2 (0:Nat)) 1040187392 else zC)=c5
   obtain ⟨w,k,u1,u2,u3⟩:=qam8 hs (l:=[c3,c4,c5]) (by simp)
   exact ⟨w,iEq k 0,k,by rw [u1];rfl,by rw [u2];rfl,u3⟩
  | false =>
   simp only [cond_false]
   cases h3:iEq e.1 3 with
   | true =>
    obtain ⟨w,b,k,f1,f2,f3⟩:=qanm (s:=s) e.2.2.1 hf
    exact ⟨w,b,k,f1,by rw [f2];rfl,f3⟩
   | false =>
    simp only [cond_false]
    have h4:iLe 0 e.2.2.2.1=true∧iLe e.2.2.2.1 (iSub .i64 (lenI a.2.2.1) 1)=true:=by
     simp only [entryB,h1,h2,h3,cond_false] at he
     cases h4:iEq e.1 4 with
     | false=>rw [h4] at he;cases he
     | true=>rw [h4] at he;simp only [cond_true,Bool.and_eq_true] at he;exact he.1
    have e3:iSub .i64 (lenI a.2.2.1) 1=lenI a.2.2.1-1:=qlu (by rw [qac];omega) (by rw [qac];omega)
    have h5:=qdj.1 h4.1
    have h6:=qdj.1 h4.2
    rw [e3,qac] at h6
    have e4:inB e.2.2.2.1 a.2.2.1.length=true:=qto h5 (by omega)
    rw [e4]
    obtain ⟨c,k,r1,r2⟩:=qaj2 s (a.2.2.1.getD e.2.2.2.1.toNat ((0,0,0,()):Vec 3 Nat)) e.2.2.2.2.1 1056964608
    obtain ⟨w,b,k',g1,g2,g3⟩:=qr1 s c qu5
    simp only [r1,r2,g1,g2,Option.bind_some,cond_true]
    cases iEq k 0 with
    | false=>exact ⟨_,_,_,rfl,rfl,fun _=>hs⟩
    | true=>exact ⟨_,_,_,rfl,rfl,g3⟩
end
section
theorem qain (a b:Int):compare b a=(compare a b).swap:=by
 rcases Int.lt_trichotomy a b with h | h | h
 ·have h1:compare a b = .lt:=by simp [compare,compareOfLessAndEq,h]
  have h2:compare b a = .gt:=by
   have n1:¬ b<a:=by omega
   have n2:¬ b=a:=by omega
   simp [compare,compareOfLessAndEq,n1,n2]
  rw [h1,h2];rfl
 ·subst h;rw [qaec];rfl
 ·have h1:compare b a = .lt:=by simp [compare,compareOfLessAndEq,h]
  have h2:compare a b = .gt:=by
   have n1:¬ a<b:=by omega
   have n2:¬ a=b:=by omega
   simp [compare,compareOfLessAndEq,n1,n2]
  rw [h1,h2];rfl
theorem ord_swap (x y:Ieee.Datum):y.order x=(x.order y).map Ordering.swap:=by
 cases x with
 | nan s t=>cases y <;> rfl
 | infinity s =>
  cases y with
  | nan t u=>rfl
  | infinity t=>cases s <;> cases t <;> rfl
  | number t n j=>cases s <;> rfl
 | number s m i =>
  cases y with
  | nan t u=>rfl
  | infinity t=>cases t <;> rfl
  | number t n j =>
   simp only [Ieee.Datum.order,Option.map_some]
   rw [Int.min_comm j i,qain]
theorem qae5 {k:FloatKind} {x y:Nat} (hx:isNan k x=false) (hy:isNan k y=false):k.format.order x y≠none:=by
 rw [qjr] at hx hy
 unfold Ieee.Format.order
 cases h:k.format.read x <;> cases h':k.format.read y <;> rw [h] at hx <;> rw [h'] at hy <;> simp [Ieee.Datum.isNaN,Ieee.Datum.order] at *
theorem qam6 (a b:Ordering):((some a:Option Ordering)==some b)=(a==b):=by cases a <;> cases b <;> rfl
theorem qall {m y:Nat} (hm:isNan .f64 m=false) (hy:isNan .f64 y=false) (hneg:(FloatKind.f64.decode m).neg=true):fMax .f64 m y=bif fLt .f64 y m then m else y:=by
 have hn:=qae5 hm hy
 have hs:FloatKind.f64.format.order y m=(FloatKind.f64.format.order m y).map Ordering.swap:=ord_swap _ _
 unfold fMax fLt
 rw [hs]
 cases ho:FloatKind.f64.format.order m y with
 | none=>exact absurd ho hn
 | some o =>
  cases o
  ·rfl
  ·simp only [hneg];rfl
  ·rfl
theorem qait {m y:Nat} (hm:isNan .f64 m=false) (hy:isNan .f64 y=false) (hneg:(FloatKind.f64.decode m).neg=false):fMin .f64 m y=bif fLt .f64 m y then m else y:=by
 have hn:=qae5 hm hy
 unfold fMin fLt
 cases ho:FloatKind.f64.format.order m y with
 | none=>exact absurd ho hn
 | some o =>
  cases o
  ·rfl
  ·simp only [hneg];rfl
  ·rfl
theorem qacv {s:Bool} {M:Nat} {B:Int} (q K:Nat) (h:M*2^(B-min (-(q:Int)) B).toNat≤K*2^q*2^(-(q:Int)-min (-(q:Int)) B).toNat):Ieee.Toward.zero.cut s (M <<< B.toNat) (-B).toNat≤K:=by
 unfold Ieee.Toward.cut
 simp only [Nat.shiftLeft_eq,Nat.one_mul,Bool.toNat_false,Nat.add_zero]
 by_cases hB:0≤B
 ·have e1:(-B).toNat=0:=by omega
  rw [e1,Nat.zero_min,Nat.pow_zero,Nat.div_one]
  rw [show (B-min (-(q:Int)) B).toNat=B.toNat+q by omega,show (-(q:Int)-min (-(q:Int)) B).toNat=0 by omega,Nat.pow_zero,Nat.mul_one,Nat.pow_add,← Nat.mul_assoc] at h
  exact Nat.le_of_mul_le_mul_right h (Nat.two_pow_pos _)
 ·rw [show B.toNat=0 by omega,Nat.pow_zero,Nat.mul_one]
  have hM:M≤K*2^(-B).toNat:=by
   by_cases hq : -(q:Int)≤B
   ·rw [show (-(q:Int)-min (-(q:Int)) B).toNat=0 by omega,Nat.pow_zero,Nat.mul_one] at h
    have e:K*2^q=K*2^(-B).toNat*2^(B-min (-(q:Int)) B).toNat:=by
     rw [Nat.mul_assoc,← Nat.pow_add]
     congr 2
     omega
    rw [e] at h
    exact Nat.le_of_mul_le_mul_right h (Nat.two_pow_pos _)
   ·rw [show (B-min (-(q:Int)) B).toNat=0 by omega,Nat.pow_zero,Nat.mul_one,Nat.mul_assoc,← Nat.pow_add] at h
    rw [show (-B).toNat=q+(-(q:Int)-min (-(q:Int)) B).toNat by omega]
    exact h
  by_cases hd:(-B).toNat≤M.log2+2
  ·rw [Nat.min_eq_left hd]
   exact Nat.div_le_of_le_mul (by rw [Nat.mul_comm];exact hM)
  ·rw [Nat.min_eq_right (by omega)]
   have:M<2^(M.log2+2):=Nat.lt_of_lt_of_le Nat.lt_log2_self (Nat.pow_le_pow_right (by decide) (by omega))
   rw [Nat.div_eq_of_lt this]
   exact Nat.zero_le _
theorem qyn (a b:Int) (h:(compare a b == .lt)=false):b≤a:=by
 rw [ql5] at h
 have:=of_decide_eq_false h
 omega
theorem qakn {y:Nat} (hn:isNan .f64 y=false) (h1:fLt .f64 4674736138332667904 y=false) (h2:fLt .f64 y 13898108450065350656=false) : ∃ n,fToInt .f64 y .i16=some n ∧ -32768≤n∧n≤32767:=by
 have r1:FloatKind.f64.format.read 4674736138332667904 = .number false (32767*2^38) (-((38:Nat):Int)):=by decide
 have r2:FloatKind.f64.format.read 13898108450065350656 = .number true (32768*2^37) (-((37:Nat):Int)):=by decide
 unfold fLt Ieee.Format.order at h1 h2
 rw [r1] at h1
 rw [r2] at h2
 rw [qjr] at hn
 unfold fToInt
 have hn:(FloatKind.f64.decode y).isNaN=false:=hn
 cases hd:FloatKind.f64.decode y with
 | nan s t=>rw [hd] at hn;simp [Ieee.Datum.isNaN] at hn
 | infinity s =>
  rw [show FloatKind.f64.format.read y = .infinity s from hd] at h1 h2
  cases s
  ·simp [Ieee.Datum.order] at h1
  ·simp [Ieee.Datum.order] at h2
 | number s M B =>
  rw [show FloatKind.f64.format.read y = .number s M B from hd] at h1 h2
  simp only [Ieee.Datum.order,qam6] at h1 h2
  have g1:=qyn _ _ h1
  have g2:=qyn _ _ h2
  rw [Int.min_comm B] at g2
  have e1 : ∀ (m:Nat) (u:Nat),Ieee.signed false m u=((m*2^u:Nat):Int):=fun m u=>by rw [← Nat.shiftLeft_eq];rfl
  have e2 : ∀ (m:Nat) (u:Nat),Ieee.signed true m u = -((m*2^u:Nat):Int):=fun m u=>by rw [← Nat.shiftLeft_eq];rfl
  rw [e1] at g1
  rw [e2] at g2
  have fin : ∀ (z:Int),(FloatKind.f64.decode y).toInt .zero=some z → -32768≤z→z≤32767→(match (Ieee.Datum.number s M B).toInt .zero with | some n=>bif decide (IntKind.min .i16≤n)&&decide (n≤IntKind.max .i16) then some n else none | none=>none)=some z:=fun z hz z1 z2=>by
   rw [hd] at hz
   rw [hz]
   simp only
   rw [decide_eq_true (show IntKind.min .i16≤z from z1),decide_eq_true (show z≤IntKind.max .i16 from z2)]
   rfl
  cases s with
  | false =>
   rw [e1] at g1
   have k:Ieee.Toward.zero.cut false (M <<< B.toNat) (-B).toNat≤32767:=qacv 38 32767 (Int.ofNat_le.1 g1)
   refine ⟨((Ieee.Toward.zero.cut false (M <<< B.toNat) (-B).toNat:Nat):Int),fin _ ?_ (by omega) (by omega),by omega,by omega⟩
   rw [hd]
   simp only [Ieee.Datum.toInt,Ieee.Datum.integral,e1,Nat.pow_zero,Nat.mul_one]
  | true =>
   rw [e2] at g2
   have k:Ieee.Toward.zero.cut true (M <<< B.toNat) (-B).toNat≤32768:=qacv 37 32768 (Int.ofNat_le.1 (by omega))
   refine ⟨-((Ieee.Toward.zero.cut true (M <<< B.toNat) (-B).toNat:Nat):Int),fin _ ?_ (by omega) (by omega),by omega,by omega⟩
   rw [hd]
   simp only [Ieee.Datum.toInt,Ieee.Datum.integral,e2,Nat.pow_zero,Nat.mul_one]
theorem qapv {y:Nat} (h:fLt .f64 y 13898108450065350656=true):fLt .f64 4674736138332667904 y=false:=by
 have r1:FloatKind.f64.format.read 4674736138332667904 = .number false (32767*2^38) (-((38:Nat):Int)):=by decide
 have r2:FloatKind.f64.format.read 13898108450065350656 = .number true (32768*2^37) (-((37:Nat):Int)):=by decide
 unfold fLt Ieee.Format.order at h ⊢
 rw [r2] at h
 rw [r1]
 cases hd:FloatKind.f64.format.read y with
 | nan s t=>rfl
 | infinity s =>
  rw [hd] at h
  cases s
  ·simp [Ieee.Datum.order] at h
  ·rfl
 | number s M B =>
  rw [hd] at h
  simp only [Ieee.Datum.order,qam6,ql5] at h ⊢
  have h:=of_decide_eq_true h
  have e1 : ∀ (m:Nat) (u:Nat),Ieee.signed false m u=((m*2^u:Nat):Int):=fun m u=>by rw [← Nat.shiftLeft_eq];rfl
  have e2 : ∀ (m:Nat) (u:Nat),Ieee.signed true m u = -((m*2^u:Nat):Int):=fun m u=>by rw [← Nat.shiftLeft_eq];rfl
  apply decide_eq_false
  cases s with
  | false=>rw [e1,e2] at h;omega
  | true=>rw [e1,e2];omega
theorem qadu (x:Nat):qfa x=some ((isNan .f32 x,()),()):=by
 simp only [qfa,qne,Bool.not_not]
theorem qafs {b:Nat} (h:isNan .f32 b=true):isNan .f64 (conv64 b)=true:=by
 obtain ⟨s,t,hd⟩:=qa0.1 h
 have hc:=qjy b
 unfold fConv at hc
 rw [show FloatKind.f32.decode b = .nan s t from hd] at hc
 have hc:nan .f64=conv64 b:=by simpa using hc
 rw [← hc]
 exact qdw .f64
theorem qv8 (x:Nat) : ∃ n:Int,qg6 x=some ((n,()),())∧qf8 x=some ((n,()),()) ∧ -32768≤n∧n≤32767:=by
 have e0 : ∀ y,qh0 y=some ((fRound .even y,()),()):=fun _=>rfl
 simp only [qg6,qf8,qadu,qjy,e0,qne,Bool.not_not,Option.bind_some]
 have hL:isNan .f64 13898108450065350656=false:=by decide
 have hH:isNan .f64 4674736138332667904=false:=by decide
 cases hx:isNan .f32 x with
 | true =>
  have h1:isNan .f64 (fRound .even (conv64 x))=true:=by unfold fRound;rw [qafs hx];exact qdw .f64
  rw [h1]
  exact ⟨0,rfl,rfl,by omega,by omega⟩
 | false =>
  have hy:isNan .f64 (fRound .even (conv64 x))=false:=qahj (qahc hx)
  rw [hy]
  generalize fRound .even (conv64 x)=y at *
  simp only [cond_false]
  rw [qall hL hy (by decide)]
  cases hl:fLt .f64 y 13898108450065350656 with
  | true =>
   have h2:fLt .f64 4674736138332667904 y=false:=qapv hl
   simp only [cond_true,h2,cond_false]
   exact ⟨-32768,by decide,rfl,by omega,by omega⟩
  | false =>
   simp only [cond_false]
   rw [qait hH hy (by decide)]
   cases hh:fLt .f64 4674736138332667904 y with
   | true =>
    simp only [cond_true]
    exact ⟨32767,by decide,rfl,by omega,by omega⟩
   | false =>
    obtain ⟨n,h1,h2,h3⟩:=qakn hy hh hl
    simp only [cond_false,h1,Option.bind_some]
    exact ⟨n,rfl,rfl,h2,h3⟩
end
section
abbrev zLeg:DLeg:=(0,(0,0,0,()),0,0,())
def sT (l:List DLeg):Nat→Int
 | 0=>0
 | n+1=>sT l n+(l.getD n zLeg).1
theorem qaca {l:List DLeg} (h : ∀ x∈l,1≤x.1) : ∀ (d i:Nat),i+d≤l.length→sT l i+d≤sT l (i+d)
 | 0,i,_=>by simp
 | d+1,i,hi=>by
  have:=qaca h d i (by omega)
  have e:l.getD (i+d) zLeg=l[i+d]'(by omega):=qbd (by omega)
  have h1:=h _ (List.getElem_mem (by omega:i+d<l.length))
  show _≤sT l (i+d)+(l.getD (i+d) zLeg).1
  rw [e]
  omega
theorem qagy {l:List DLeg} {i:Nat} (hi:i<l.length):sT l (i+1)=sT l i+l[i].1:=by
 show sT l i+(l.getD i zLeg).1=_
 rw [qbd hi]
theorem qab3 {a:DMission} (hm:missionB a=true):a.2.2.2.1.length≤64∧(∀ x∈a.2.2.2.1,1≤x.1∧x.1≤400)∧(∀ x∈a.2.2.2.1,legB (iSub .i64 (lenI a.2.2.1) 1) x=true)∧frameB a.1 a.2.1 a.2.2.1=true:=by
 simp only [missionB,Bool.and_eq_true,qdj,List.all_eq_true,qac] at hm
 obtain ⟨h0,h1,h2,_⟩:=hm
 refine ⟨by omega,fun x hx => ?_,h2,h0⟩
 have:=h2 x hx
 simp only [legB,Bool.and_eq_true,qdj] at this
 exact this.1
theorem qah8 (a:DMission) (s:List (Vec 3 Nat)×Int×Vec 3 Nat×Unit) (y:(Vec 3 Nat×Unit)×Unit) (i:Nat) (hi:i<a.2.2.2.1.length) (hs:s.2.1=i) (ht:1≤a.2.2.2.1[i].1∧a.2.2.2.1[i].1≤400) (hl:a.2.2.2.1.length≤64) (hn:(s.1.length:Int)=1+sT a.2.2.2.1 i) (hc:s.1.length≤1+400*i) :
  ∃ o,run (qea s a y) (s.1,(0:Int),s.2.2.1,())=some o∧((∃ (l:List (Vec 3 Nat)) (v:Vec 3 Nat),o = .inl (l,((i+1:Nat):Int),v,())∧(l.length:Int)=1+sT a.2.2.2.1 (i+1)∧l.length≤1+400*(i+1))∨o = .inr (([],4,()),())):=by
 refine qqp (f:=qea s a y) (fun z=>0≤z.2.1∧z.2.1≤a.2.2.2.1[i].1∧(z.1.length:Int)=1+sT a.2.2.2.1 i+z.2.1∧(z.1.length:Int)≤1+400*i+z.2.1) (fun z=>(a.2.2.2.1[i].1-z.2.1).toNat) _ (fun z hz => ?_) (s:=(s.1,(0:Int),s.2.2.1,())) ⟨Int.le_refl _,by show (0:Int)≤_;omega,by show (s.1.length:Int)=1+sT a.2.2.2.1 i+0;omega,by show (s.1.length:Int)≤1+400*i+0;omega⟩
 obtain ⟨z1,z2,z3,⟨⟩⟩:=z
 obtain ⟨h1,h2,h3,h4⟩:=hz
 simp only at h1 h2 h3 h4
 have e1:inB s.2.1 a.2.2.2.1.length=true:=by rw [hs];exact qaj hi
 have e4:a.2.2.2.1.getD s.2.1.toNat ((0,(0,0,0,()),0,0,()):DLeg)=a.2.2.2.1[i]:=by rw [hs,Int.toNat_natCast];exact qbd hi
 have e6:iAdd .i64 s.2.1 1=((i+1:Nat):Int):=by rw [hs];exact qaw hi (by omega)
 by_cases hlt:z2<a.2.2.2.1[i].1
 ·have e2:iLt z2 a.2.2.2.1[i].1=true:=qan hlt
  have e3:room (z1.length+1) 12=true:=qd7 (by omega)
  have e5:iAdd .i64 z2 1=z2+1:=qta (by omega) (by omega)
  simp only [qea,e1,e2,e3,e4,e5,cond_true,qt0,qfq,Option.bind_some]
  cases finV (addV z3 y.1.1)
  ·exact .inr ⟨_,rfl,.inr rfl⟩
  ·refine .inl ⟨_,rfl,⟨by show (0:Int)≤z2+1;omega,by show z2+1≤_;omega,?_,?_⟩,?_⟩
   ·show ((z1++[_]).length:Int)=1+sT a.2.2.2.1 i+(z2+1)
    rw [List.length_append,List.length_singleton]
    omega
   ·show ((z1++[_]).length:Int)≤1+400*i+(z2+1)
    rw [List.length_append,List.length_singleton]
    omega
   ·show (a.2.2.2.1[i].1-(z2+1)).toNat<(a.2.2.2.1[i].1-z2).toNat
    omega
 ·have e2:iLt z2 a.2.2.2.1[i].1=false:=qas hlt
  simp only [qea,e1,e2,e4,e6,cond_true,cond_false]
  have:=qagy hi
  exact .inr ⟨_,rfl,.inl ⟨z1,z3,rfl,by omega,by omega⟩⟩
theorem qabr (a:DMission) (hm:missionB a=true) : ∃ (l:List (Vec 3 Nat)) (k:Int),qe5 a=some ((l,k,()),())∧(k=0→(l.length:Int)=1+sT a.2.2.2.1 a.2.2.2.1.length)∧l.length≤30000:=by
 obtain ⟨hl,hx,_,_⟩:=qab3 hm
 have h : ∃ w,qe5 a=some w ∧ ∃ (l:List (Vec 3 Nat)) (k:Int),w=((l,k,()),())∧(k=0→(l.length:Int)=1+sT a.2.2.2.1 a.2.2.2.1.length)∧l.length≤30000:=by
  unfold qe5
  refine qqp (f:=qd9 a) (fun s => ∃ i:Nat,s.2.1=i∧i≤a.2.2.2.1.length∧(s.1.length:Int)=1+sT a.2.2.2.1 i∧s.1.length≤1+400*i) (fun s=>(a.2.2.2.1.length-s.2.1).toNat) _ (fun s hs => ?_) ⟨0,rfl,Nat.zero_le _,rfl,by simp⟩
  obtain ⟨i,h1,h2,h3,h4⟩:=hs
  by_cases hlt:i<a.2.2.2.1.length
  ·have e1:iLt s.2.1 (lenI a.2.2.2.1)=true:=qan (by rw [qac];omega)
   have e2:inB s.2.1 a.2.2.2.1.length=true:=by rw [h1];exact qaj hlt
   obtain ⟨o,ho,hq⟩:=qah8 a s ((scaleV (((List.getD a.2.2.2.1 s.2.1.toNat ((0,(0,0,0,()),0,0,()):DLeg)).2).1) (fDiv .f32 1065353216 (fOfInt .f32 a.1)),()),()) i hlt h1 (hx _ (List.getElem_mem hlt)) hl h3 h4
   simp only [qd9,e1,e2,qll,Option.bind_some,cond_true,ho]
   rcases hq with ⟨l,v,rfl,hn,hc⟩ | rfl
   ·exact .inl ⟨_,rfl,⟨i+1,rfl,hlt,hn,hc⟩,by show ((a.2.2.2.1.length:Int)-((i+1:Nat):Int)).toNat<((a.2.2.2.1.length:Int)-s.2.1).toNat;omega⟩
   ·exact .inr ⟨_,rfl,[],4,rfl,fun q=>absurd q (by decide),by simp⟩
  ·have e1:iLt s.2.1 (lenI a.2.2.2.1)=false:=qas (by rw [qac];omega)
   simp only [qd9,e1,cond_false]
   have:i=a.2.2.2.1.length:=by omega
   exact .inr ⟨_,rfl,s.1,0,rfl,fun _=>by rw [h3,this],by omega⟩
 obtain ⟨w,h1,l,k,rfl,h2,h3⟩:=h
 exact ⟨l,k,h1,h2,h3⟩
theorem qx2 (a:DMission) (h:Sized TyMission a) (hm:missionB a=true):qg7 a=qe5 a:=by
 obtain ⟨l,k,h1,_⟩:=qabr a hm
 have h1':=h1
 unfold qe5 at h1
 simp only [qg7,qhx a h,hm,Option.bind_some,qamy,Bool.not_true,cond_false,h1,h1']
theorem qako (z:Int):0≤IntKind.u32.wrap z∧IntKind.u32.wrap z<4294967296:=by
 simp only [IntKind.wrap,IntKind.signed,IntKind.bits]
 constructor <;> simp <;> omega
theorem qwk (z:Int) : -32768≤iWrap .i16 z∧iWrap .i16 z≤32767:=by
 simp only [iWrap,IntKind.wrap,IntKind.signed,IntKind.bits]
 constructor <;> simp <;> omega
theorem qapf {x:Int} (h0:0≤x) (h1:x<4294967296):iWrap .i64 (iShr .u32 x 16)=x/65536:=by
 have e:iShr .u32 x 16=x/65536:=by
  show x.fdiv (2^(min (16:Int).toNat 32))=_
  rw [show ((2:Int)^(min (16:Int).toNat 32))=65536 by decide,Int.fdiv_eq_ediv_of_nonneg _ (by decide)]
 rw [e,qvk (by omega) (by omega)]
theorem qaj1 {x:Int} (h0:0≤x) (h1:x<4294967296):iQuo .u32 x 65536=x/65536:=by
 show IntKind.u32.wrap (x.tdiv 65536)=_
 rw [Int.tdiv_eq_ediv_of_nonneg h0]
 simp only [IntKind.wrap,IntKind.signed,IntKind.bits]
 simp
 omega
theorem qzc {x:Int} (h0:0≤x) (k:IntKind):iRem k x 9=x%9:=Int.tmod_eq_emod_of_nonneg h0
theorem qsg {x:Int} (h0:0≤x) (h1:x<4294967296):iRem .i64 (iWrap .i64 (iShr .u32 x 16)) 9=x/65536%9:=by rw [qapf h0 h1,qzc (by omega)]
theorem qw0 {x:Int} (h0:0≤x) (h1:x<4294967296):iRem .i64 (iWrap .i64 (iQuo .u32 x 65536)) 9=x/65536%9:=by rw [qaj1 h0 h1,qvk (by omega) (by omega),qzc (by omega)]
theorem qajq {x:Int} (h0:0≤x) (h1:x<4294967296):iWrap .i64 (iRem .u32 (iQuo .u32 x 65536) 9)=x/65536%9:=by rw [qaj1 h0 h1,qzc (by omega),qvk (by omega) (by omega)]
theorem qai6 (a b:Int):qiv a b=some ((min a b,()),()):=by
 unfold qiv
 by_cases h:a<b
 ·rw [qan h,cond_true,Int.min_eq_left (by omega)]
 ·rw [qas h,cond_false,Int.min_eq_right (by omega)]
theorem qak9 (v:Int):min 32767 (max (-32768) v)=max (-32768) (min 32767 v):=by omega
def nx (s:Int):Int:=iAdd .u32 (iMul .u32 1664525 s) 1013904223
theorem qu6 (s:Int):0≤nx s∧nx s<4294967296:=qako _
theorem qake (v:Vec 3 Int) (s:Int) : ∃ (u:Vec 3 Int) (s':Int),qhv v s 4=some ((u,s',0,()),())∧qh6 v s 4=some ((u,s',0,()),())∧Fit (.arr 3 (.int .i16)) u∧0≤s'∧s'<4294967296:=by
 have c1:iLt 4 0=false:=by decide
 have c2:iAdd .i64 (iMul .i64 2 (iWrap .i64 4)) 1=9:=by decide
 have c3:iEq 9 0=false:=by decide
 have hx : ∀ z,iAdd .u32 (iMul .u32 1664525 z) 1013904223=nx z:=fun _=>rfl
 have r1:=qu6 s
 have r2:=qu6 (nx s)
 have r3:=qu6 (nx (nx s))
 refine ⟨((iWrap .i16 (max (-32768) (min 32767 (iAdd .i64 (iWrap .i64 (Vec.getD 3 v 0 (0:Int))) (iSub .i64 (nx s/65536%9) (iWrap .i64 4)))))),(iWrap .i16 (max (-32768) (min 32767 (iAdd .i64 (iWrap .i64 (Vec.getD 3 v 1 (0:Int))) (iSub .i64 (nx (nx s)/65536%9) (iWrap .i64 4)))))),(iWrap .i16 (max (-32768) (min 32767 (iAdd .i64 (iWrap .i64 (Vec.getD 3 v 2 (0:Int))) (iSub .i64 (nx (nx (nx s))/65536%9) (iWrap .i64 4)))))),()),nx (nx (nx s)),?_,?_,⟨qwk _,qwk _,qwk _,trivial⟩,r3⟩
 ·simp only [qhv,c1,c2,c3,hx,qsg r1.1 r1.2,qsg r2.1 r2.2,qsg r3.1 r3.2,qant,qans,qak9,cond_false]
  rfl
 ·simp only [qh6,c1,c2,c3,hx,qw0 r1.1 r1.2,qw0 r2.1 r2.2,qw0 r3.1 r3.2,qai6,qai5,Option.bind_some,cond_false]
abbrev dSen:Vec 3 Nat×(Vec 3 Nat×(Int×(Int×Unit))):=((1031798784,1031798784,1031798784,()),(0,0,0,()),1,0,())
theorem qaoi:qnw dSen=some ((true,()),()):=by kernel_rfl
theorem qaed (p:Vec 3 Nat) : ∃ u:Vec 3 Int,qkz dSen p=some ((u,()),())∧qk2 dSen p=some ((u,0,()),()):=by
 obtain ⟨n0,a0,b0,_⟩:=qv8 (fDiv .f32 (fSub .f32 (Vec.getD 3 p 0 (0:Nat)) (Vec.getD 3 dSen.2.1 0 (0:Nat))) (Vec.getD 3 dSen.1 0 (0:Nat)))
 obtain ⟨n1,a1,b1,_⟩:=qv8 (fDiv .f32 (fSub .f32 (Vec.getD 3 p 1 (0:Nat)) (Vec.getD 3 dSen.2.1 1 (0:Nat))) (Vec.getD 3 dSen.1 1 (0:Nat)))
 obtain ⟨n2,a2,b2,_⟩:=qv8 (fDiv .f32 (fSub .f32 (Vec.getD 3 p 2 (0:Nat)) (Vec.getD 3 dSen.2.1 2 (0:Nat))) (Vec.getD 3 dSen.1 2 (0:Nat)))
 refine ⟨(n0,n1,n2,()),?_,?_⟩
 ·simp only [qkz,a0,a1,a2,Option.bind_some]
 ·simp only [qk2,qnv,qaoi,b0,b1,b2,Option.bind_some,Bool.not_true,cond_false]
theorem qahf (n:Int):entryB n (1,(0,0,0,()),(0,0,0,()),0,0,())=true:=by kernel_rfl
theorem qafu (n:Int) (v:Vec 3 Nat):entryB n (2,v,(0,0,0,()),0,0,())=finV v:=by kernel_rfl
theorem qaiq (n:Int) (v:Vec 3 Int):entryB n (3,(0,0,0,()),v,0,0,())=true:=by kernel_rfl
theorem qaft (n i:Int) (x:Nat):entryB n (4,(0,0,0,()),(0,0,0,()),i,x,())=((iLe 0 i&&iLe i (iSub .i64 n 1))&&(true&&(true&&finB x))):=by kernel_rfl
theorem qapc (a b:Vec 3 Nat):qkj a b=qfh a b:=by kernel_rfl
def dotR (a b:Vec 3 Nat):Nat:=fAdd .f32 (fAdd .f32 (fMul .f32 (Vec.getD 3 a 0 (0:Nat)) (Vec.getD 3 b 0 (0:Nat))) (fMul .f32 (Vec.getD 3 a 1 (0:Nat)) (Vec.getD 3 b 1 (0:Nat)))) (fMul .f32 (Vec.getD 3 a 2 (0:Nat)) (Vec.getD 3 b 2 (0:Nat)))
theorem qapb (a:Vec 3 Nat):qdu a=some ((rootF (dotR a a),()),()):=by
 have e:qio a a=some ((dotR a a,()),()):=by
  simp only [qio,qafj,Option.bind_some]
  rfl
 simp only [qdu,e,qhc,Option.bind_some]
theorem qaof (a:Vec 3 Nat):qe3 a=some ((rootF (dotR a a),()),()):=by
 have e:qku a a=some ((dotR a a,()),()):=rfl
 simp only [qe3,e,qev,Option.bind_some]
theorem qapa (x:Nat):qaf [x]=some ((finB x,()),()):=by rw [qb5 _ (by simp)];simp
def GoodE (n:Int) (e:DEntry):Prop:=entryB n e=true∧Fit (.arr 3 (.int .i16)) e.2.2.1
theorem qwc:Fit (.arr 3 (.int .i16)) ((0,0,0,()):Vec 3 Int):=⟨⟨by decide,by decide⟩,⟨by decide,by decide⟩,⟨by decide,by decide⟩,trivial⟩
def GoodL (a:DMission) (c:Int) (g:DLog):Prop:=g.1=a.1∧g.2.1=a.2.1∧g.2.2.1=a.2.2.1∧(g.2.2.2.1.length:Int)≤c ∧ ∀ e∈g.2.2.2.1,GoodE (lenI a.2.2.1) e
theorem GoodL.add {a:DMission} {c:Int} {g:DLog} (h:GoodL a c g) {e:DEntry} (he:GoodE (lenI a.2.2.1) e):GoodL a (c+1) (g.1,g.2.1,g.2.2.1,g.2.2.2.1++[e],g.2.2.2.2):=by
 refine ⟨h.1,h.2.1,h.2.2.1,?_,fun x hx => ?_⟩
 ·show ((g.2.2.2.1++[e]).length:Int)≤c+1
  rw [List.length_append,List.length_singleton]
  have:=h.2.2.2.1
  omega
 ·rcases List.mem_append.1 hx with q | q
  ·exact h.2.2.2.2 x q
  ·rw [List.mem_singleton.1 q];exact he
theorem GoodL.le {a:DMission} {c d:Int} {g:DLog} (h:GoodL a c g) (hd:c≤d):GoodL a d g:=⟨h.1,h.2.1,h.2.2.1,by have:=h.2.2.2.1;omega,h.2.2.2.2⟩
abbrev zLog:DLog:=(0,(0,0,0,()),[],[],())
abbrev DRun:=Int×Int×Int×DLog×Unit
abbrev DRan:=(DLog×Int×Unit)×Unit
theorem qany (a:DMission) (hm:missionB a=true) (hmk:a.2.2.1.length≤140737488355328) {L:List (Vec 3 Nat)} (hL:(L.length:Int)=1+sT a.2.2.2.1 a.2.2.2.1.length) (hL2:L.length≤30000) {i:Nat} (hi:i<a.2.2.2.1.length) {s0 s1:Int} {g0 g1:DLog} (hg:GoodL a (1000*i+1) g1) (h0:0≤s1) (h1:s1<4294967296) (n0:Int) :
  ∃ o:DRun⊕DRan,run (qc4 a.2.2.2.1[i] ((L,0,()),()) (s0,n0,(i:Int),g0,()) a) (s1,sT a.2.2.2.1 i,(1:Int),g1,())=some o∧run (qgq a.2.2.2.1[i] ((L,0,()),()) (s0,n0,(i:Int),g0,()) a) (s1,sT a.2.2.2.1 i,(1:Int),g1,())=some o ∧
   ((∃ (s':Int) (g':DLog),o = .inl (s',sT a.2.2.2.1 (i+1),((i+1:Nat):Int),g',())∧0≤s'∧s'<4294967296∧GoodL a (1000*(i+1)) g')∨o = .inr ((zLog,4,()),())):=by
 obtain ⟨hl,hx,hx2,_⟩:=qab3 hm
 have hx1 : ∀ x∈a.2.2.2.1,1≤x.1:=fun x q=>(hx x q).1
 have ht:=hx _ (List.getElem_mem hi)
 have hleg:=hx2 _ (List.getElem_mem hi)
 simp only [legB,Bool.and_eq_true,qdj] at hleg
 obtain ⟨_,_,hev,hmark⟩:=hleg
 have hS:=qagy hi
 have hmono:=qaca hx1 (a.2.2.2.1.length-(i+1)) (i+1) (by omega)
 rw [show i+1+(a.2.2.2.1.length-(i+1))=a.2.2.2.1.length by omega] at hmono
 have hpos:=qaca hx1 i 0 (by omega)
 rw [Nat.zero_add] at hpos
 have hz:sT a.2.2.2.1 0=0:=rfl
 have emk:iSub .i64 (lenI a.2.2.1) 1=lenI a.2.2.1-1:=qlu (by rw [qac];omega) (by rw [qac];omega)
 rw [emk] at hmark
 generalize hX:a.2.2.2.1[i]=X at *
 obtain ⟨o,o',r1,r2,rfl,hq⟩:=qxv (f:=qc4 X ((L,0,()),()) (s0,n0,(i:Int),g0,()) a) (g:=qgq X ((L,0,()),()) (s0,n0,(i:Int),g0,()) a)
  (fun s t=>s=t ∧ ∃ (sd k:Int) (g:DLog),s=(sd,sT a.2.2.2.1 i+(k-1),k,g,())∧0≤sd∧sd<4294967296∧1≤k∧k≤X.1+1∧GoodL a (1000*i+1+2*(k-1)) g) (fun s=>(X.1+1-s.2.2.1).toNat)
  (fun o o':DRun⊕DRan=>o=o'∧((∃ (s':Int) (g':DLog),o = .inl (s',sT a.2.2.2.1 (i+1),((i+1:Nat):Int),g',())∧0≤s'∧s'<4294967296∧GoodL a (1000*(i+1)) g')∨o = .inr ((zLog,4,()),()))) (fun s t hR=>by
   obtain ⟨rfl,sd,k,g,rfl,hs0,hs1,hk1,hk2,hG⟩:=hR
   have hlen:=hG.2.2.2.1
   by_cases hk:k≤X.1
   ·have e1:iLe k X.1=true:=qds hk
    have e2:iAdd .i64 (sT a.2.2.2.1 i+(k-1)) 1=sT a.2.2.2.1 i+(k+1-1):=by rw [qta (by omega) (by omega)];omega
    have e3:room (g.2.2.2.1.length+1) 48=true:=qd7 (by omega)
    have e4:iAdd .i64 k 1=k+1:=qta (by omega) (by omega)
    have e5:inB (sT a.2.2.2.1 i+(k+1-1)) L.length=true:=qto (by omega) (by omega)
    have G1:=hG.add (e:=(1,(0,0,0,()),(0,0,0,()),0,0,())) ⟨qahf _,qwc⟩
    have e6:room ((g.2.2.2.1++[((1,(0,0,0,()),(0,0,0,()),0,0,()):DEntry)]).length+1) 48=true:=qd7 (by rw [List.length_append,List.length_singleton];omega)
    have done : ∀ (sd':Int) (g':DLog),0≤sd'→sd'<4294967296→GoodL a (1000*i+1+2*(k+1-1)) g'→(∃ (s' t':DRun),(some (.inl (sd',sT a.2.2.2.1 i+(k+1-1),k+1,g',())):Option (DRun⊕(DRun⊕DRan)))=some (.inl s')∧(some (.inl (sd',sT a.2.2.2.1 i+(k+1-1),k+1,g',())):Option (DRun⊕(DRun⊕DRan)))=some (.inl t')∧(s'=t' ∧ ∃ (sd k:Int) (g:DLog),s'=(sd,sT a.2.2.2.1 i+(k-1),k,g,())∧0≤sd∧sd<4294967296∧1≤k∧k≤X.1+1∧GoodL a (1000*i+1+2*(k-1)) g)∧(X.1+1-s'.2.2.1).toNat<(X.1+1-k).toNat):=fun sd' g' q1 q2 q3 =>
     ⟨_,_,rfl,rfl,⟨rfl,sd',k+1,g',rfl,q1,q2,by omega,by omega,q3⟩,by show (X.1+1-(k+1)).toNat<(X.1+1-k).toNat;omega⟩
    left
    simp only [qc4,qgq,e1,e2,e3,e4,cond_true]
    cases he:iEq X.2.2.1 0 with
    | true =>
     have e7:iLt 0 X.2.2.1=false:=qas (by have:=qbq.1 he;omega)
     simp only [e7,cond_true,cond_false]
     exact done _ _ hs0 hs1 (G1.le (by omega))
    | false =>
     have e7:iLt 0 X.2.2.1=true:=qan (by have:=qff.1 he;omega)
     simp only [e7,cond_true,cond_false]
     cases hr:iEq (iRem .i64 k X.2.2.1) 0 with
     | false =>
      simp only [Bool.not_false,cond_true,cond_false]
      exact done _ _ hs0 hs1 (G1.le (by omega))
     | true =>
      obtain ⟨u,c1,c2⟩:=qaed (L.getD (sT a.2.2.2.1 i+(k+1-1)).toNat ((0,0,0,()):Vec 3 Nat))
      obtain ⟨v,sd',k1,k2,k3,k4,k5⟩:=qake u sd
      have f1:qfi=some ((dSen,()),()):=rfl
      have f2:qfs=some ((dSen,()),()):=rfl
      simp only [f1,f2,e5,c1,c2,k1,k2,e6,Bool.not_true,Option.bind_some,cond_true,cond_false]
      exact done _ _ k4 k5 ((G1.add (e:=(3,(0,0,0,()),v,0,0,())) ⟨qaiq _ _,k3⟩).le (by omega))
   ·have e1:iLe k X.1=false:=qabv hk
    have hk':k=X.1+1:=by omega
    have e4:iAdd .i64 (i:Int) 1=((i+1:Nat):Int):=qaw hi (by omega)
    have en:sT a.2.2.2.1 i+(k-1)=sT a.2.2.2.1 (i+1):=by omega
    right
    simp only [qc4,qgq,e1,e4,en,cond_false]
    cases hmk0:iLt X.2.2.2.1 0 with
    | true =>
     simp only [cond_true,Option.map_some]
     exact ⟨_,_,rfl,rfl,rfl,.inl ⟨sd,_,rfl,hs0,hs1,hG.le (by omega)⟩⟩
    | false =>
     have hm0:0≤X.2.2.2.1:=by
      apply Classical.byContradiction
      intro q
      rw [qan (by omega)] at hmk0
      cases hmk0
     have hm1:=hmark.2
     rw [qac] at hm1
     have e5:inB (sT a.2.2.2.1 (i+1)) L.length=true:=qto (by omega) (by omega)
     have e6:inB X.2.2.2.1 a.2.2.1.length=true:=qto hm0 (by omega)
     have e7:room (g.2.2.2.1.length+1) 48=true:=qd7 (by omega)
     have hxx:iAdd .u32 (iMul .u32 1664525 sd) 1013904223=nx sd:=rfl
     have rr:=qu6 sd
     have hsub : ∃ m,qfh (L.getD (sT a.2.2.2.1 (i+1)).toNat ((0,0,0,()):Vec 3 Nat)) (a.2.2.1.getD X.2.2.2.1.toNat ((0,0,0,()):Vec 3 Nat))=some ((m,()),()):=⟨_,rfl⟩
     obtain ⟨m,hsub⟩:=hsub
     simp only [e5,e6,hxx,qapc,hsub,qapb,qaof,qsg rr.1 rr.2,qajq rr.1 rr.2,qapa,qbo,Option.bind_some,cond_true,cond_false]
     generalize hV:fAdd .f32 (rootF (dotR m m)) (fDiv .f32 (fOfInt .f32 (iSub .i64 (nx sd/65536%9) 4)) 1098907648)=V
     cases hf:finB V with
     | false =>
      simp only [Bool.not_false,cond_true,Option.map_some]
      exact ⟨_,_,rfl,rfl,rfl,.inr rfl⟩
     | true =>
      simp only [e7,Bool.not_true,cond_true,cond_false,Option.map_some]
      refine ⟨_,_,rfl,rfl,rfl,.inl ⟨nx sd,_,rfl,rr.1,rr.2,((hG.add (e:=(4,(0,0,0,()),(0,0,0,()),X.2.2.2.1,V,())) ⟨?_,qwc⟩).le (by omega))⟩⟩
      rw [qaft,emk,hf,qds hm0,qds (by rw [qac];omega)]
      rfl) ⟨rfl,s1,1,g1,by rw [show sT a.2.2.2.1 i+((1:Int)-1)=sT a.2.2.2.1 i by omega],h0,h1,by omega,by omega,hg.le (by omega)⟩
 exact ⟨o,r1,r2,hq⟩
theorem qafc (a:DMission) (hsz:Sized TyMission a) (hm:missionB a=true) {sd:Int} (h0:0≤sd) (h1:sd<4294967296) (hmk:a.2.2.1.length*12≤140737488351232) :
  ∃ (g:DLog) (k:Int),qbu a sd=some ((g,k,()),())∧qob a sd=some ((g,k,()),())∧((k=0∧GoodL a 1200 g)∨(k≠0∧g=zLog)):=by
 obtain ⟨L,k,t1,t2,t3⟩:=qabr a hm
 have t4:=qx2 a hsz hm
 have c1:=qra a.2.2.1 (by omega)
 have c2:room (0+a.2.2.1.length) 12=true:=qd7 (by omega)
 simp only [qbu,qob,t4,t1,c1,c2,Option.bind_some,List.nil_append,cond_true]
 cases hk:iEq k 0 with
 | false=>exact ⟨zLog,k,rfl,rfl,.inr ⟨qff.1 hk,rfl⟩⟩
 | true =>
  have hk0:k=0:=qbq.1 hk
  subst hk0
  have hL:=t2 rfl
  obtain ⟨hl,hx,hx2,_⟩:=qab3 hm
  simp only [Bool.not_true,cond_false]
  obtain ⟨o,o',r1,r2,rfl,hq⟩:=qxv (f:=qeh a ((L,0,()),())) (g:=qka a ((L,0,()),()))
   (fun s t=>s=t ∧ ∃ (i:Nat) (sd:Int) (g:DLog),s=(sd,sT a.2.2.2.1 i,(i:Int),g,())∧i≤a.2.2.2.1.length∧0≤sd∧sd<4294967296∧GoodL a (1000*i) g) (fun s=>(a.2.2.2.1.length-s.2.2.1).toNat)
   (fun o o':DRan=>o=o' ∧ ∃ (g:DLog) (k:Int),o=((g,k,()),())∧((k=0∧GoodL a 1200 g)∨(k≠0∧g=zLog))) (fun s t hR=>by
    obtain ⟨rfl,i,sd,g,rfl,hi,q0,q1,hG⟩:=hR
    have hlen:=hG.2.2.2.1
    by_cases hlt:i<a.2.2.2.1.length
    ·have e1:iLt (i:Int) (lenI a.2.2.2.1)=true:=qan (by rw [qac];omega)
     have e2:inB (i:Int) a.2.2.2.1.length=true:=qaj hlt
     have e3:room (g.2.2.2.1.length+1) 48=true:=qd7 (by omega)
     have e4:a.2.2.2.1.getD i ((0,(0,0,0,()),0,0,()):DLeg)=a.2.2.2.1[i]:=qbd hlt
     have hv:finV a.2.2.2.1[i].2.1=true:=by
      have:=hx2 _ (List.getElem_mem hlt)
      simp only [legB,Bool.and_eq_true] at this
      exact this.2.1
     have hG1:=hG.add (e:=(2,a.2.2.2.1[i].2.1,(0,0,0,()),0,0,())) ⟨(qafu _ _).trans hv,qwc⟩
     obtain ⟨o,r1,r2,hq⟩:=qany a hm (by omega) hL t3 hlt (s0:=sd) (g0:=g) hG1 q0 q1 (sT a.2.2.2.1 i)
     simp only [qeh,qka,e1,e2,e3,e4,Int.toNat_natCast,cond_true]
     rw [r1,r2]
     rcases hq with ⟨s',g',rfl,p0,p1,p2⟩ | rfl
     ·exact .inl ⟨_,_,rfl,rfl,⟨rfl,i+1,s',g',rfl,hlt,p0,p1,p2.le (by omega)⟩,by show ((a.2.2.2.1.length:Int)-((i+1:Nat):Int)).toNat<((a.2.2.2.1.length:Int)-(i:Int)).toNat;omega⟩
     ·exact .inr ⟨_,_,rfl,rfl,rfl,zLog,4,rfl,.inr ⟨by decide,rfl⟩⟩
    ·have e1:iLt (i:Int) (lenI a.2.2.2.1)=false:=qas (by rw [qac];omega)
     right
     simp only [qeh,qka,e1,cond_false]
     cases hc:iLt 1200 (lenI g.2.2.2.1) with
     | true=>exact ⟨_,_,rfl,rfl,rfl,zLog,3,rfl,.inr ⟨by decide,rfl⟩⟩
     | false =>
      have hc':(g.2.2.2.1.length:Int)≤1200:=by
       apply Classical.byContradiction
       intro q
       rw [qan (by rw [qac];omega)] at hc
       cases hc
      exact ⟨_,_,rfl,rfl,rfl,g,0,rfl,.inl ⟨rfl,hG.1,hG.2.1,hG.2.2.1,hc',hG.2.2.2.2⟩⟩) (s:=(sd,(0:Int),(0:Int),((a.1,a.2.1,a.2.2.1,[],()):DLog),())) ⟨rfl,0,sd,_,rfl,Nat.zero_le _,h0,h1,rfl,rfl,rfl,Int.le_refl _,fun e he=>by cases he⟩
  obtain ⟨g,k,rfl,hq⟩:=hq
  exact ⟨g,k,r1,r2,hq⟩
theorem qaac {a:DMission} (hsz:Sized TyMission a) {g:DLog} (h:GoodL a 1200 g):Sized TyLog g:=by
 refine ⟨qgg (t:=.int .i64) rfl g.1,qgg (t:=TyVec) rfl g.2.1,?_,qve (t:=TyEntry) rfl (l:=g.2.2.2.1) (Nat.le_trans (Int.ofNat_le.1 h.2.2.2.1) (by decide)),trivial⟩
 rw [h.2.2.1]
 exact hsz.2.2.1
theorem qab8 (a:DMission) (ha:Fit TyMission a) {sd:Int} (hs:Fit (.int .u32) sd) : ∃ (g:DLog) (k:Int),qbu a sd=some ((g,k,()),())∧qet a sd=some ((g,k,()),())∧Sized TyLog g:=by
 have sa:Sized TyMission a:=qhf rfl ha
 have hmk:a.2.2.1.length*12≤140737488351232:=ha.2.2.1.1
 have z:Sized TyLog zLog:=⟨qgg (t:=.int .i64) rfl (0:Int),qgg (t:=TyVec) rfl ((0,0,0,()):Vec 3 Nat),qve (t:=TyVec) rfl (l:=[]) (by decide),qve (t:=TyEntry) rfl (l:=[]) (by decide),trivial⟩
 have h0:0≤sd∧sd<4294967296:=⟨hs.1,by have:sd≤4294967295:=hs.2;omega⟩
 cases hm:missionB a with
 | false =>
  refine ⟨zLog,1,?_,?_,z⟩
  ·simp only [qbu,qg7,qhx a sa,hm,Option.bind_some]
   rfl
  ·simp only [qet,qvq a sa,hm,Option.bind_some]
   rfl
 | true =>
  obtain ⟨g,k,r1,r2,hq⟩:=qafc a sa hm h0.1 h0.2 hmk
  refine ⟨g,k,r1,?_,?_⟩
  ·simp only [qet,qvq a sa,hm,r2,Option.bind_some,Bool.not_true,cond_false]
  ·rcases hq with ⟨_,h⟩ | ⟨_,rfl⟩
   ·exact qaac sa h
   ·exact z
end
section

end
section
def C4 (k:Int):Prop:=k=0∨k=4
theorem qaiy (s:DState) (c:DClue) : ∃ (g:Nat) (k:Int),qhl s c=some ((g,k,()),())∧C4 k:=by
 obtain ⟨sh,e,v,h1,h2⟩:=qqh s c
 simp only [qhl,h2,qbo,Option.bind_some]
 cases finB (fDiv .f32 (fMul .f32 e e) v) with
 | true=>exact ⟨_,_,rfl,.inl rfl⟩
 | false=>exact ⟨_,_,rfl,.inr rfl⟩
theorem qanx:fLe .f32 0 1091567616=true:=by decide
theorem qqa {s:DState} (hs:stateB s=true) {c:DClue} (hc:clueB c=true) : ∃ (w:DState) (b:Bool) (k:Int),qbw s c 1091567616=some ((w,b,k,()),())∧C4 k∧(k=0→stateB w=true):=by
 obtain ⟨g,k,g1,g2⟩:=qaiy s c
 obtain ⟨w,k',u1,u2,u3⟩:=qqk hs hc
 have i0:(!iEq (0:Int) 0)=false:=rfl
 simp only [qbw,qmq,qco,qgo,hs,hc,Option.bind_some,Bool.not_true,cond_false,g1,u2,i0,qanx]
 cases hk:iEq k 0 with
 | false=>exact ⟨_,_,_,rfl,g2,fun q=>absurd q (qff.1 hk)⟩
 | true =>
  simp only [Bool.not_true,cond_false]
  cases fLt .f32 1091567616 g with
  | true=>exact ⟨_,_,_,rfl,.inl rfl,fun _=>hs⟩
  | false =>
   refine ⟨_,_,_,rfl,?_,fun q => ?_⟩
   ·rcases u3 with ⟨h,_⟩ | ⟨h,_⟩
    ·exact .inl h
    ·exact .inr h
   ·rcases u3 with ⟨_,h⟩ | ⟨h,_⟩
    ·exact h
    ·have q:k'=0:=q
     omega
theorem qalt {l:List DClue} (hl:l.length≤256) (hv:l.all clueB=true) {s:DState} (hs:stateB s=true) : ∃ o,run (qav l) ((0:Int),s,())=some o ∧ ∃ (w:DState) (k:Int),o=((w,k,()),())∧C4 k:=by
 refine qqp (f:=qav l) (fun z => ∃ i:Nat,z.1=i∧i≤l.length∧stateB z.2.1=true) (fun z=>(l.length-z.1).toNat) _ (fun z hz => ?_) ⟨0,rfl,Nat.zero_le _,hs⟩
 obtain ⟨z1,z2,⟨⟩⟩:=z
 obtain ⟨i,h1,h2,h3⟩:=hz
 simp only at h1 h3
 subst h1
 by_cases hlt:i<l.length
 ·have e1:iLt (i:Int) (lenI l)=true:=qan (by rw [qac];omega)
  have e2:inB (i:Int) (List.length l)=true:=qaj hlt
  have e4:List.getD l i (((0,0,0,0,0,0,()),0,0,()):DClue)=l[i]:=qbd hlt
  have e5:iAdd .i64 (i:Int) 1=((i+1:Nat):Int):=qaw hlt (by omega)
  obtain ⟨w,k,u1,u2,u3⟩:=qqk h3 (List.all_eq_true.1 hv _ (List.getElem_mem hlt))
  simp only [qav,e1,e2,e4,e5,Int.toNat_natCast,u2,Option.bind_some,cond_true]
  cases hk:iEq k 0 with
  | false =>
   refine .inr ⟨_,rfl,_,_,rfl,?_⟩
   rcases u3 with ⟨h,_⟩ | ⟨h,_⟩
   ·exact .inl h
   ·exact .inr h
  | true =>
   refine .inl ⟨_,rfl,⟨i+1,rfl,hlt,?_⟩,by show ((l.length:Int)-((i+1:Nat):Int)).toNat<((l.length:Int)-(i:Int)).toNat;omega⟩
   rcases u3 with ⟨_,h⟩ | ⟨h,_⟩
   ·exact h
   ·have:=qbq.1 hk;omega
 ·have e1:iLt (i:Int) (lenI l)=false:=qas (by rw [qac];omega)
  simp only [qav,e1,cond_false]
  exact .inr ⟨_,rfl,_,_,rfl,.inl rfl⟩
theorem qaky {s:DState} (hs:stateB s=true) {l:List DClue} (hl:l.length≤256) (hv:l.all clueB=true) : ∃ (w:DState) (k:Int),qfo s l=some ((w,k,()),())∧C4 k:=by
 have e256:iLt 256 (lenI l)=false:=qas (by rw [qac];omega)
 have h2:run (qcx l s) ((0:Int),())=bif l.all clueB then run (qav l) ((0:Int),s,()) else some ((zS,(1:Int),()),()):=by
  refine qu4 (xs:=l) (fun i (_:Unit)=>((i:Int),())) clueB (fun u _=>u) ((zS,(1:Int),()),()) (fun _=>run (qav l) ((0:Int),s,())) (fun i hi u => ?_) (fun u => ?_) ()
  ·have e1:iLt (i:Int) (lenI l)=true:=qan (by rw [qac];omega)
   have e2:inB (i:Int) l.length=true:=qaj hi
   have e4:l.getD i zC=l[i]:=qbd hi
   have e5:iAdd .i64 (i:Int) 1=((i+1:Nat):Int):=qaw hi (by omega)
   simp only [qcx,e1,e2,e4,e5,Int.toNat_natCast,qgo,Option.bind_some,cond_true]
   cases clueB l[i] <;> rfl
  ·have e1:iLt (l.length:Int) (lenI l)=false:=qas (by rw [qac];omega)
   simp only [qcx,e1,e256,cond_false]
 obtain ⟨o,h3,w,k,rfl,h4⟩:=qalt hl hv hs
 refine ⟨w,k,?_,h4⟩
 unfold qfo
 rw [qco,hs]
 simp only [Option.bind_some,Bool.not_true,cond_false]
 rw [h2,hv]
 exact h3
theorem qur {i x:Nat} (h3:3≤i) (hi:i<6) (hx:finB x=true):clueB (cl i x 1040187392)=true:=by
 match i,h3,hi with
 | 3,_,_=>show ((rowL (Vec.set 6 r6 3 (1065353216:Nat))).all finB&&(finB x&&(finB 1040187392&&fLt .f32 0 1040187392)))=true;rw [hx];decide
 | 4,_,_=>show ((rowL (Vec.set 6 r6 4 (1065353216:Nat))).all finB&&(finB x&&(finB 1040187392&&fLt .f32 0 1040187392)))=true;rw [hx];decide
 | 5,_,_=>show ((rowL (Vec.set 6 r6 5 (1065353216:Nat))).all finB&&(finB x&&(finB 1040187392&&fLt .f32 0 1040187392)))=true;rw [hx];decide
theorem qae8 {s:DState} (hs:stateB s=true) {t:Nat} (ht:leastB t=true) : ∃ (w:DState) (k:Int),qhh s t ((1048576000,1048576000,1048576000,()):Vec 3 Nat)=some ((w,k,()),())∧C4 k:=by
 have hs0:(!stateB s)=false:=by rw [hs];rfl
 have a0:leastB (Vec.getD 3 ((1048576000,1048576000,1048576000,()):Vec 3 Nat) 0 (0:Nat))=true:=by decide
 have a1:leastB (Vec.getD 3 ((1048576000,1048576000,1048576000,()):Vec 3 Nat) 1 (0:Nat))=true:=by decide
 have a2:leastB (Vec.getD 3 ((1048576000,1048576000,1048576000,()):Vec 3 Nat) 2 (0:Nat))=true:=by decide
 simp only [qhh,qco,hs0,qrh,ht,a0,a1,a2,qev,Option.bind_some,cond_false,Bool.not_true]
 have key : ∀ (x:Vec 6 Nat) (T:DTab),∃ (w:DState) (k:Int),((qdx T).bind fun y=>(qdq ((x,y.1.1,()):DState) y.1.2.1).bind fun y=>some ((y.1.1,y.1.2.1,()),()))=some ((w,k,()),())∧C4 k:=by
  intro x T
  obtain ⟨w,k,-,h2,h3,-⟩:=qxb x T
  refine ⟨w,k,h2,?_⟩
  rcases h3 with ⟨h,_⟩ | ⟨h,_⟩
  ·exact .inl h
  ·exact .inr h
 exact key _ _
theorem qahz {s:DState} (hs:stateB s=true) (p:Vec 3 Nat) (x d:Nat) : ∃ (c:DClue) (k:Int),qfm s p x d=some ((c,k,()),())∧(k=0→clueB c=true):=by
 have h1 : ∃ q,qk4 s=some ((q,()),()):=⟨_,rfl⟩
 obtain ⟨q,p2⟩:=h1
 have h2 : ∃ m,qfh q p=some ((m,()),()):=⟨_,rfl⟩
 obtain ⟨m,hm⟩:=h2
 obtain ⟨u,k,u1,u2⟩:=qafl m
 simp only [qfm,qco,p2,hm,u2,qrd,hs,Option.bind_some,Bool.not_true,cond_false]
 cases hk:iEq k 0 with
 | false=>exact ⟨zC,k,rfl,fun q=>absurd q (qff.1 hk)⟩
 | true =>
  simp only [Bool.not_true,cond_false]
  obtain ⟨z,hz⟩:=qt8 (Vec.getD 3 u 0 (0:Nat),Vec.getD 3 u 1 (0:Nat),Vec.getD 3 u 2 (0:Nat),0,0,0,()) s.1
  obtain ⟨C,hC⟩ : ∃ C:DClue,C=((Vec.getD 3 u 0 (0:Nat),Vec.getD 3 u 1 (0:Nat),Vec.getD 3 u 2 (0:Nat),0,0,0,()),fAdd .f32 (fSub .f32 x (rootF (dot3 m m))) z,d,()):=⟨_,rfl⟩
  refine ⟨bif clueB C then C else zC,bif clueB C then 0 else 1,(congrArg (fun w=>Option.bind w _) hz).trans ?_,?_⟩
  ·subst hC
   exact (congrArg (fun w=>Option.bind w _) (qlo _)).trans rfl
  ·cases hb:clueB C with
   | true=>exact fun _=>hb
   | false=>exact fun q=>absurd q (by decide)
theorem qaln {s:DState} (hs:stateB s=true) (v:Vec 3 Int) (hv:Fit (.arr 3 (.int .i16)) v) : ∃ (w:DState) (b:Bool) (k:Int),qiw s v=some ((w,b,k,()),())∧C4 k:=by
 obtain ⟨c1,c2⟩:=qz3 v
 obtain ⟨f0,f1,f2,_⟩:=hv
 have d0:=qlz (n:=Vec.getD 3 v 0 (0:Int)) f0.1 f0.2
 have d1:=qlz (n:=Vec.getD 3 v 1 (0:Int)) f1.1 f1.2
 have d2:=qlz (n:=Vec.getD 3 v 2 (0:Int)) f2.1 f2.2
 generalize h0:seenF (Vec.getD 3 v 0 (0:Int))=x0 at *
 generalize h1:seenF (Vec.getD 3 v 1 (0:Int))=x1 at *
 generalize h2:seenF (Vec.getD 3 v 2 (0:Int))=x2 at *
 have e2:qfs=some ((dSens,()),()):=rfl
 have b0:=qnb (i:=0) (by omega) d0
 have b1:=qnb (i:=1) (by omega) d1
 have b2:=qnb (i:=2) (by omega) d2
 have s0:qax 0 x0 1056964608=some ((cl 0 x0 1056964608,0,()),()):=(qbt (i:=0) (by omega) x0 1056964608).trans (by rw [b0];rfl)
 have s1:qax 1 x1 1056964608=some ((cl 1 x1 1056964608,0,()),()):=(qbt (i:=1) (by omega) x1 1056964608).trans (by rw [b1];rfl)
 have s2:qax 2 x2 1056964608=some ((cl 2 x2 1056964608,0,()),()):=(qbt (i:=2) (by omega) x2 1056964608).trans (by rw [b2];rfl)
 have z0:(!iEq (0:Int) 0)=false:=rfl
 obtain ⟨V,hV⟩ : ∃ V:Vec 3 Nat,V=(x0,x1,x2,()):=⟨_,rfl⟩
 replace c2:qkw dSens v=some ((V,()),()):=c2.trans (by rw [hV];rfl)
 have g0:Vec.getD 3 V 0 (0:Nat)=x0:=by rw [hV];rfl
 have g1:Vec.getD 3 V 1 (0:Nat)=x1:=by rw [hV];rfl
 have g2:Vec.getD 3 V 2 (0:Nat)=x2:=by rw [hV];rfl
 obtain ⟨w1,p1,k1,t1,r1,v1⟩:=qqa hs b0
 simp only [qiw,e2,c2,g0,g1,g2,s0,s1,s2,t1,z0,Option.bind_some,cond_false]
 cases q1:iEq k1 0 with
 | false=>exact ⟨_,_,_,rfl,r1⟩
 | true =>
  simp only [Bool.not_true,cond_false]
  obtain ⟨w2,p2,k2,t2,r2,v2⟩:=qqa (v1 (qbq.1 q1)) b1
  simp only [t2,Option.bind_some]
  cases q2:iEq k2 0 with
  | false=>exact ⟨_,_,_,rfl,r2⟩
  | true =>
   simp only [Bool.not_true,cond_false]
   obtain ⟨w3,p3,k3,t3,r3,v3⟩:=qqa (v2 (qbq.1 q2)) b2
   simp only [t3,Option.bind_some]
   cases q3:iEq k3 0 with
   | false=>cases p1 <;> exact ⟨_,_,_,rfl,r3⟩
   | true=>cases p1 <;> cases p2 <;> exact ⟨_,_,_,rfl,.inl rfl⟩
theorem qai9:((List.range 64).all fun d=>leastB (fDiv .f32 1065353216 (fOfInt .f32 ((d+1:Nat):Int))))=true:=by kernel_rfl
theorem qahn {n:Int} (h:1≤n) (h1:n≤64):leastB (fDiv .f32 1065353216 (fOfInt .f32 n))=true:=by
 have:=List.all_eq_true.1 qai9 (n.toNat-1) (List.mem_range.2 (by omega))
 rw [show ((n.toNat-1+1:Nat):Int)=n by omega] at this
 exact this
theorem qakm (a:DLog) (hr:1≤a.1∧a.1≤64) {s:DState} (hs:stateB s=true) (e:DEntry) (he:entryB (lenI a.2.2.1) e=true) (hf:Fit (.arr 3 (.int .i16)) e.2.2.1) (hl:a.2.2.1.length≤140737488355328) :
  ∃ (w:DState) (b:Bool) (k:Int),qdr a s e=some ((w,b,k,()),())∧C4 k∧(k=0→b=false→3≤e.1):=by
 unfold qdr
 cases h1:iEq e.1 1 with
 | true =>
  obtain ⟨w,k,p1,p2⟩:=qae8 hs (qahn hr.1 hr.2)
  refine ⟨w,iEq k 0,k,(congrArg (fun z=>Option.bind z _) p1).trans rfl,p2,fun q r => ?_⟩
  rw [q] at r;cases r
 | false =>
  simp only [cond_false]
  cases h2:iEq e.1 2 with
  | true =>
   have hv:finV e.2.1=true:=by
    simp only [entryB,h1,h2,cond_false,cond_true,Bool.and_eq_true] at he
    exact he.2
   unfold finV at hv
   simp only [Bool.and_eq_true] at hv
   have s3:=qbt (i:=3) (by omega) (Vec.getD 3 e.2.1 0 (0:Nat)) 1040187392
   have s4:=qbt (i:=4) (by omega) (Vec.getD 3 e.2.1 1 (0:Nat)) 1040187392
   have s5:=qbt (i:=5) (by omega) (Vec.getD 3 e.2.1 2 (0:Nat)) 1040187392
   replace s3:qax (3:Int) _ _=_:=s3
   replace s4:qax (4:Int) _ _=_:=s4
   replace s5:qax (5:Int) _ _=_:=s5
   have f3:clueB (cl 3 (Vec.getD 3 e.2.1 0 (0:Nat)) 1040187392)=true:=qur (by omega) (by omega) hv.1
   have f4:clueB (cl 4 (Vec.getD 3 e.2.1 1 (0:Nat)) 1040187392)=true:=qur (by omega) (by omega) hv.2.1
   have f5:clueB (cl 5 (Vec.getD 3 e.2.1 2 (0:Nat)) 1040187392)=true:=qur (by omega) (by omega) hv.2.2
   rw [f3] at s3
   rw [f4] at s4
   rw [f5] at s5
   simp only [s3,s4,s5,Option.bind_some,cond_true]
   obtain ⟨w,k,u1,u2⟩:=qaky hs (l:=[cl 3 (Vec.getD 3 e.2.1 0 (0:Nat)) 1040187392,cl 4 (Vec.getD 3 e.2.1 1 (0:Nat)) 1040187392,cl 5 (Vec.getD 3 e.2.1 2 (0:Nat)) 1040187392]) (by simp) (by simp [f3,f4,f5])
   refine ⟨w,iEq k 0,k,by rw [u1];rfl,u2,fun q r => ?_⟩
   rw [q] at r;cases r
  | false =>
   simp only [cond_false]
   cases h3:iEq e.1 3 with
   | true =>
    obtain ⟨w,b,k,f1,f2⟩:=qaln hs e.2.2.1 hf
    exact ⟨w,b,k,by rw [f1];rfl,f2,fun _ _=>by have:=qbq.1 h3;omega⟩
   | false =>
    simp only [cond_false]
    have h40:iEq e.1 4=true:=by
     simp only [entryB,h1,h2,h3,cond_false] at he
     cases h4:iEq e.1 4 with
     | false=>rw [h4] at he;cases he
     | true=>rfl
    have h4:iLe 0 e.2.2.2.1=true∧iLe e.2.2.2.1 (iSub .i64 (lenI a.2.2.1) 1)=true:=by
     simp only [entryB,h1,h2,h3,h40,cond_false,cond_true,Bool.and_eq_true] at he
     exact he.1
    have e3:iSub .i64 (lenI a.2.2.1) 1=lenI a.2.2.1-1:=qlu (by rw [qac];omega) (by rw [qac];omega)
    have h5:=qdj.1 h4.1
    have h6:=qdj.1 h4.2
    rw [e3,qac] at h6
    have e4:inB e.2.2.2.1 a.2.2.1.length=true:=qto h5 (by omega)
    have h7:3≤e.1:=by have:=qbq.1 h40;omega
    rw [e4]
    obtain ⟨c,k,r1,r2⟩:=qahz hs (a.2.2.1.getD e.2.2.2.1.toNat ((0,0,0,()):Vec 3 Nat)) e.2.2.2.2.1 1056964608
    simp only [r1,Option.bind_some,cond_true]
    cases hk:iEq k 0 with
    | false=>exact ⟨_,_,_,rfl,.inl rfl,fun _ _=>h7⟩
    | true =>
     obtain ⟨w,b,k',g1,g2,g3⟩:=qqa hs (r2 (qbq.1 hk))
     simp only [Bool.not_true,cond_false,g1,Option.bind_some]
     exact ⟨_,_,_,rfl,g2,fun _ _=>h7⟩
end
section
def FE (e:DEntry):Prop:=FitVec (fltFit .f32) 3 e.2.1∧fltFit .f32 e.2.2.2.2.1
def LogOK (g:DLog):Prop:=logB g=true∧(1≤g.1∧g.1≤64)∧g.2.2.1.length≤6∧g.2.2.2.1.length≤1200∧Sized TyLog g ∧ ∀ e∈g.2.2.2.1,Fit (.arr 3 (.int .i16)) e.2.2.1
def LogFit (g:DLog):Prop:=FitVec (fltFit .f32) 3 g.2.1∧(∀ v∈g.2.2.1,FitVec (fltFit .f32) 3 v) ∧ ∀ e∈g.2.2.2.1,FE e
theorem qyr {g:DLog} (hg:LogOK g) (h:LogFit g):goodL g:=by
 obtain ⟨h1,h2,h3⟩:=h
 refine ⟨qwj h1,fun v hv=>qwj (h2 v hv),fun e he=>⟨fun _=>qwj (h3 e he).1,fun _ => ?_,fun _=>qoj (h3 e he).2⟩⟩
 obtain ⟨a,b,c,-⟩:=hg.2.2.2.2.2 e he
 exact ⟨a,b,c⟩
theorem qajb {L:List (List UInt8)} (h : ∀ f∈L,f.length≤100):(linesT L).length≤101*L.length:=by
 induction L with
 | nil=>simp [linesT]
 | cons x L ih =>
  have:=ih (fun f hf=>h f (List.mem_cons_of_mem _ hf))
  have hx:=h x (by simp)
  have e:linesT (x :: L)=(x++[10])++linesT L:=by unfold linesT;rw [List.flatMap_cons]
  rw [e]
  simp only [List.length_append,List.length_cons,List.length_nil]
  omega
theorem qahl {n:Int} (h0:1≤n) (h1:n≤64):(Lib.itoa n).length≤30:=by
 have:=(List.all_eq_true.1 (by kernel_rfl:((List.range 65).all fun k=>decide ((Lib.itoa (k:Int)).length≤30))=true)) n.toNat (List.mem_range.2 (by omega))
 rw [Int.toNat_of_nonneg (by omega)] at this
 simpa using this
theorem qalz {g:DLog} (hg:LogOK g) (hf:LogFit g):(logT g).length≤1048576:=by
 have hgl:=qyr hg hf
 obtain ⟨h1,h2,h3,h4,-,-⟩:=hg
 have hall : ∀ f∈logL g,f.length≤100:=by
  intro f hf
  simp only [logB,Bool.and_eq_true] at h1
  unfold logL at hf
  rcases List.mem_cons.1 hf with rfl | hf
  ·have:=qahl h2.1 h2.2
   unfold headL vecW
   simp [joinC,wLog,qed]
   simp [hex8,qed]
   omega
  ·rcases List.mem_append.1 hf with hf | hf
   ·obtain ⟨v,-,rfl⟩:=List.mem_map.1 hf
    unfold beaL vecW
    simp [joinC,wBea,hex8,qed]
   ·obtain ⟨e,he,rfl⟩:=List.mem_map.1 hf
    exact qagf (n:=lenI g.2.2.1) (by rw [qac];omega) (by rw [qac];omega) (List.all_eq_true.1 h1.2.2 e he) (hgl.2.2 e he)
 have:=qajb hall
 have hn:(logL g).length=1+(g.2.2.1.length+g.2.2.2.1.length):=by unfold logL;simp;omega
 unfold logT
 omega
theorem qal0 {g:DLog} (hg:LogOK g) (hf:LogFit g):qg4 g=some ((logT g,()),())∧qji (logT g)=some ((g,0,()),()):=by
 have hgl:=qyr hg hf
 refine ⟨?_,?_⟩
 ·rw [qaaf hg.2.2.2.2.1 hgl,hg.1];rfl
 ·obtain ⟨w,h1,-,h2⟩:=qaaj (qalz hg hf)
  rw [h1,h2 g rfl hg.1 hgl]
end
section
theorem qamq (v:Vec 6 Nat):qb1 v v=some ((true,()),()):=by
 unfold qb1
 simp only [qja,qqf,Option.bind_some,Bool.not_true,cond_false]
theorem qmv (s:DState):qhi s s=some ((true,()),()):=by
 unfold qhi qrk
 simp only [qamq,Option.bind_some,Bool.not_true,cond_false]
abbrev zE:DEntry:=(0,(0,0,0,()),(0,0,0,()),0,0,())
def entAt (g:DLog) (i:Nat):DEntry:=List.getD g.2.2.2.1 i zE
noncomputable def nextS (g:DLog) (s:DState) (e:DEntry):DState:=match qcb g s e with
 | some y=>y.1.1
 | none=>s
noncomputable def fS (g:DLog) (s:DState):Nat→DState
 | 0=>s
 | m+1=>nextS g (fS g s m) (entAt g m)
def StepOK (g:DLog) (s:DState) (m:Nat):Prop:=stateB (fS g s m)=true∧stateB (fS g s (m+1))=true ∧ ∃ b,qcb g (fS g s m) (entAt g m)=some ((fS g s (m+1),b,0,()),())∧qdr g (fS g s m) (entAt g m)=some ((fS g s (m+1),b,0,()),())∧(b=false→3≤(entAt g m).1)
theorem qaoy {g:DLog} (hg:LogOK g) {i:Nat} (hi:i<g.2.2.2.1.length):entAt g i=g.2.2.2.1[i]∧entryB (lenI g.2.2.1) (entAt g i)=true∧Fit (.arr 3 (.int .i16)) (entAt g i).2.2.1:=by
 obtain ⟨h1,-,-,-,-,h6⟩:=hg
 have e:entAt g i=g.2.2.2.1[i]:=qbd hi
 simp only [logB,Bool.and_eq_true] at h1
 rw [e]
 exact ⟨rfl,List.all_eq_true.1 h1.2.2 _ (List.getElem_mem hi),h6 _ (List.getElem_mem hi)⟩
theorem qamv {g:DLog} (hg:LogOK g) {i:Nat} (hi:i<g.2.2.2.1.length) {s:DState} (hs:stateB s=true) :
  ∃ w b k,qcb g s (entAt g i)=some ((w,b,k,()),())∧qdr g s (entAt g i)=some ((w,b,k,()),())∧(k=0→stateB w=true)∧C4 k∧(k=0→b=false→3≤(entAt g i).1):=by
 obtain ⟨e,h1,h2⟩:=qaoy hg hi
 obtain ⟨w,b,k,t1,t2,t3⟩:=qamw g hs (entAt g i) h1 h2 (by have:=hg.2.2.1;omega)
 obtain ⟨w',b',k',u1,u2,u3⟩:=qakm g hg.2.1 hs (entAt g i) h1 h2 (by have:=hg.2.2.1;omega)
 rw [t2] at u1
 simp only [Option.some.injEq,Prod.mk.injEq,and_true] at u1
 obtain ⟨rfl,rfl,rfl⟩:=u1
 exact ⟨w,b,k,t1,t2,t3,u2,u3⟩
theorem qah6 {g:DLog} (hg:LogOK g) {s:DState} {i:Nat} (hi:i<g.2.2.2.1.length) (hs:stateB (fS g s i)=true) :
  StepOK g s i ∨ ∃ w b,qcb g (fS g s i) (entAt g i)=some ((w,b,4,()),())∧qdr g (fS g s i) (entAt g i)=some ((w,b,4,()),()):=by
 obtain ⟨w,b,k,t1,t2,t3,t4,t5⟩:=qamv hg hi hs
 rcases t4 with rfl | rfl
 ·have e:fS g s (i+1)=w:=by
   show nextS g (fS g s i) (entAt g i)=w
   unfold nextS
   rw [t1]
  left
  exact ⟨hs,by rw [e];exact t3 rfl,b,by rw [e];exact t1,by rw [e];exact t2,t5 rfl⟩
 ·exact .inr ⟨w,b,t1,t2⟩
theorem qagq {g:DLog} {s:DState} {i j:Nat} (hi:i<j) (hj:j≤g.2.2.2.1.length) (hlen:g.2.2.2.1.length≤1200) (h:StepOK g s i) {l:List Int} (hl:l.length≤i) :
  ∃ l':List Int,l'.length≤i+1∧qcr (j:Int) g (l,(i:Int),fS g s i,())=some (.inl (l',((i+1:Nat):Int),fS g s (i+1),()))∧qcc (j:Int) g (l,(i:Int),fS g s i,())=some (.inl (l',((i+1:Nat):Int),fS g s (i+1),())):=by
 obtain ⟨-,-,b,t1,t2,-⟩:=h
 have e1:iLt (i:Int) (j:Int)=true:=qan (by omega)
 have e2:inB (i:Int) (List.length g.2.2.2.1)=true:=qaj (by omega)
 have e4:List.getD g.2.2.2.1 i ((0,(0,0,0,()),(0,0,0,()),0,0,()):DEntry)=entAt g i:=rfl
 have e5:iAdd .i64 (i:Int) 1=((i+1:Nat):Int):=qaw hi (by omega)
 have e6:room (l.length+1) 8=true:=qd7 (by omega)
 have i0:(!iEq (0:Int) 0)=false:=rfl
 refine ⟨bif !b then l++[(i:Int)] else l,?_,?_,?_⟩
 ·cases b
  ·simp only [Bool.not_false,cond_true,List.length_append,List.length_singleton];omega
  ·simp only [Bool.not_true,cond_false];omega
 ·simp only [qcr,e1,e2,e4,e5,e6,t1,i0,Int.toNat_natCast,Option.bind_some,cond_true,cond_false]
  cases b <;> rfl
 ·simp only [qcc,e1,e2,e4,e5,e6,t2,i0,Int.toNat_natCast,Option.bind_some,cond_true,cond_false]
  cases b <;> rfl
theorem qagp {g:DLog} (s:DState) (j:Nat) (l:List Int):qcr (j:Int) g (l,(j:Int),s,())=some (.inr ((s,l,0,()),()))∧qcc (j:Int) g (l,(j:Int),s,())=some (.inr ((s,l,0,()),())):=by
 have e1:iLt (j:Int) (j:Int)=false:=qas (by omega)
 constructor
 ·simp only [qcr,e1,cond_false,Option.map_some]
 ·simp only [qcc,e1,cond_false,Option.map_some]
theorem qaj5 {g:DLog} (hg:LogOK g) {s:DState} {n:Nat} (hn:n≤g.2.2.2.1.length) (d:Nat) : ∀ (i:Nat) (l:List Int),i+d=n→l.length≤i→stateB (fS g s i)=true →
  (run (qcr (n:Int) g) (l,(i:Int),fS g s i,())=some ((zS,[],4,()),())∧run (qcc (n:Int) g) (l,(i:Int),fS g s i,())=some ((zS,[],4,()),())) ∨
  ((∃ l',run (qcr (n:Int) g) (l,(i:Int),fS g s i,())=some ((fS g s n,l',0,()),())∧run (qcc (n:Int) g) (l,(i:Int),fS g s i,())=some ((fS g s n,l',0,()),())) ∧ ∀ m,i≤m→m<n→StepOK g s m):=by
 have hlen:=hg.2.2.2.1
 induction d with
 | zero =>
  intro i l hi hl hs
  have:i=n:=by omega
  subst this
  right
  obtain ⟨a,b⟩:=qagp (g:=g) (fS g s i) i l
  exact ⟨⟨l,qa9 a,qa9 b⟩,fun m h1 h2=>by omega⟩
 | succ d ih =>
  intro i l hi hl hs
  rcases qah6 hg (i:=i) (by omega) hs with h | ⟨w,b,t1,t2⟩
  ·obtain ⟨l',q1,q2,q3⟩:=qagq (j:=n) (by omega) hn hlen h hl
   rw [qao q2,qao q3]
   rcases ih (i+1) l' (by omega) q1 h.2.1 with h2 | ⟨h2,h3⟩
   ·exact .inl h2
   ·refine .inr ⟨h2,fun m h4 h5 => ?_⟩
    rcases Nat.lt_or_ge i m with h6 | h6
    ·exact h3 m h6 h5
    ·have:m=i:=by omega
     rw [this];exact h
  ·left
   have e1:iLt (i:Int) (n:Int)=true:=qan (by omega)
   have e2:inB (i:Int) (List.length g.2.2.2.1)=true:=qaj (by omega)
   have e4:List.getD g.2.2.2.1 i ((0,(0,0,0,()),(0,0,0,()),0,0,()):DEntry)=entAt g i:=rfl
   have i0:(!iEq (4:Int) 0)=true:=rfl
   constructor
   ·refine qa9 ?_
    simp only [qcr,e1,e2,e4,t1,i0,Int.toNat_natCast,Option.bind_some,cond_true]
    rfl
   ·refine qa9 ?_
    simp only [qcc,e1,e2,e4,t2,i0,Int.toNat_natCast,Option.bind_some,cond_true]
    rfl
theorem qaod {g:DLog} (hg:LogOK g) {s:DState} {j:Nat} (hj:j≤g.2.2.2.1.length) (h : ∀ m,m<j→StepOK g s m) (d:Nat) : ∀ (i:Nat) (l:List Int),i+d=j→l.length≤i →
  ∃ l',run (qcr (j:Int) g) (l,(i:Int),fS g s i,())=some ((fS g s j,l',0,()),()):=by
 have hlen:=hg.2.2.2.1
 induction d with
 | zero =>
  intro i l hi hl
  have:i=j:=by omega
  subst this
  exact ⟨l,qa9 (qagp (g:=g) (fS g s i) i l).1⟩
 | succ d ih =>
  intro i l hi hl
  obtain ⟨l',q1,q2,-⟩:=qagq (j:=j) (by omega) hj hlen (h i (by omega)) hl
  rw [qao q2]
  exact ih (i+1) l' (by omega) q1
theorem qabs {i n:Nat} (h:i≤n):qbh (i:Int) 0 (n:Int)=some ((true,()),()):=by
 rw [qo8,qhz,qds (by omega),qds (by omega)];rfl
theorem qagl {g:DLog} (hg:LogOK g) {s:DState} {i j:Nat} (hij:i≤j) (hj:j≤g.2.2.2.1.length) (h : ∀ m,m<j→StepOK g s m) (hs:stateB (fS g s i)=true):qep g (fS g s i) (i:Int) (j:Int)=some ((fS g s j,0,()),()):=by
 obtain ⟨l',hr⟩:=qaod hg hj h (j-i) i [] (by omega) (Nat.zero_le _)
 have hL:=qft g hg.2.2.2.2.1
 rw [hg.1] at hL
 have hV:=qau (fS g s i)
 rw [hs] at hV
 have hb:iLt (j:Int) (i:Int)=false:=qas (by omega)
 unfold qep
 rw [hL,hV,qac,qabs (by omega:i≤g.2.2.2.1.length),qabs hj,hb]
 simp only [Option.bind_some,Bool.not_true,cond_false]
 unfold qip
 rw [hr]
 rfl
end
section
theorem qam0 (d:Ieee.Datum):FloatKind.f32.format.write d<4294967296:=by
 have h2:FloatKind.f32.format.signWeight=2147483648:=by decide
 have hi:FloatKind.f32.format.infRung=2139095040:=by decide
 have hb:FloatKind.f32.format.binade=8388608:=by decide
 have hw : ∀ s r,r<2147483648→FloatKind.f32.format.word s r<4294967296:=by
  intro s r hr
  unfold Ieee.Format.word
  rw [h2]
  split <;> omega
 cases d with
 | number g m p =>
  show FloatKind.f32.format.nearest g m p<_
  rw [qtt]
  have:=qadn FloatKind.f32.format m p
  exact hw _ _ (by omega)
 | infinity g=>exact hw g _ (by rw [hi];decide)
 | nan g f =>
  refine hw g _ ?_
  have:=Nat.mod_lt f (show 0<FloatKind.f32.format.binade by rw [hb];decide)
  omega
def cF (x:Nat):Prop:=fltFit .f32 x
theorem qak5 (d:Ieee.Datum):cF (canon .f32 (FloatKind.f32.format.write d)):=⟨qsu _ _,qy1 (qam0 d)⟩
theorem qahb (r:Option Ieee.Datum):cF (orNan .f32 (r.map FloatKind.f32.format.write)):=by
 cases r with
 | none=>exact ⟨by decide,by decide⟩
 | some d=>exact qak5 d
theorem quq (a b:Nat):cF (fAdd .f32 a b):=qahb _
theorem qam3 (a b:Nat):cF (fSub .f32 a b):=qahb _
theorem qapn (a b:Nat):cF (fMul .f32 a b):=qahb _
theorem qd0:cF 0:=⟨by decide,by decide⟩
theorem qapo {a:Nat} (h:cF a):cF (fNeg .f32 a):=by
 refine ⟨qsu _ _,qy1 ?_⟩
 show a ^^^ 2^(8+23)<2^32
 exact Nat.xor_lt_two_pow h.2 (by decide)
theorem qxx {α:Type} {z:α} : ∀ (n:Nat) (v:Vec n α) (i j:Nat) (x:α),Vec.getD n (Vec.set n v i x) j z=x∨Vec.getD n (Vec.set n v i x) j z=Vec.getD n v j z
 | 0,_,_,_,_ => .inr rfl
 | _+1,_,0,0,_ => .inl rfl
 | _+1,_,0,_+1,_ => .inr rfl
 | _+1,_,_+1,0,_ => .inr rfl
 | n+1,v,i+1,j+1,x=>qxx n v.2 i j x
def CV {n:Nat} (v:Vec n Nat):Prop:=∀ k,cF (Vec.getD n v k (0:Nat))
def CT (T:DTab):Prop:=∀ r k,cF (tg T r k)
def CR (R:DRoot):Prop:=∀ r k,cF (Vec.getD 6 (rowS R r) k (0:Nat))
def CS (s:DState):Prop:=CV s.1∧CR s.2.1
theorem qaef {n:Nat} {v:Vec n Nat} (h:CV v) (i:Nat) {x:Nat} (hx:cF x):CV (Vec.set n v i x):=by
 intro k
 rcases qxx (z:=(0:Nat)) n v i k x with e | e <;> rw [e]
 ·exact hx
 ·exact h k
theorem qaee {T:DTab} (h:CT T) (r c:Nat) {x:Nat} (hx:cF x):CT (Vec.set 6 T r (Vec.set 9 (Vec.getD 6 T r r9) c x)):=by
 intro r' k
 unfold tg
 rcases qxx (z:=r9) 6 T r r' (Vec.set 9 (Vec.getD 6 T r r9) c x) with e | e <;> rw [e]
 ·rcases qxx (z:=(0:Nat)) 9 (Vec.getD 6 T r r9) c k x with e2 | e2 <;> rw [e2]
  ·exact hx
  ·exact h r k
 ·exact h r' k
theorem qajl (f:Nat→Nat→Nat) (r k:Nat):Vec.getD 6 (rowS (mk6 f) r) k (0:Nat)=f r k∨Vec.getD 6 (rowS (mk6 f) r) k (0:Nat)=0:=by
 rcases r with _ | _ | _ | _ | _ | _ | r <;> rcases k with _ | _ | _ | _ | _ | _ | k <;> first | exact .inl rfl | exact .inr rfl
theorem qaot {T:DTab} (h:CT T):CR (outT T):=by
 intro r k
 rcases qajl (osg T) r k with e | e
 ·rw [show Vec.getD 6 (rowS (outT T) r) k (0:Nat)=osg T r k from e]
  unfold osg
  cases fLt .f32 (tg T k k) 0
  ·exact h r k
  ·exact qapo (h r k)
 ·rw [show Vec.getD 6 (rowS (outT T) r) k (0:Nat)=0 from e];exact qd0
theorem qalb:CV (r6:Vec 6 Nat):=by
 intro k
 rcases k with _ | _ | _ | _ | _ | _ | k <;> exact qd0
theorem qxp:CR z6:=by
 intro r k
 rcases qajl (fun _ _=>0) r k with e | e
 ·rw [show Vec.getD 6 (rowS z6 r) k (0:Nat)=0 from e];exact qd0
 ·rw [show Vec.getD 6 (rowS z6 r) k (0:Nat)=0 from e];exact qd0
theorem qcp:CS zS:=⟨qalb,qxp⟩
def Kp {A:Type} (P:A→Prop) (m:Option A):Prop:=∀ a,m=some a→P a
def OI {σ A:Type} (I:σ→Prop) (Q:A→Prop):σ⊕A→Prop
 | .inl s=>I s
 | .inr a=>Q a
theorem qcs {A:Type} (P:A→Prop):Kp P none:=fun _ h=>by cases h
theorem qai {A:Type} {P:A→Prop} {a:A} (h:P a):Kp P (some a):=fun _ e=>by cases e;exact h
theorem qah {A:Type} {P:A→Prop} {c:Bool} {x y:Option A} (hx:Kp P x) (hy:Kp P y):Kp P (bif c then x else y):=by cases c;exact hy;exact hx
theorem qam {A B:Type} {P:A→Prop} {m:Option B} {f:B→Option A} (h : ∀ b,m=some b→Kp P (f b)):Kp P (m.bind f):=by
 cases m with
 | none=>exact qcs P
 | some b=>exact h b rfl
theorem qih {σ A:Type} {I:σ→Prop} {Q:A→Prop} {m:Option A} (h:Kp Q m):Kp (OI I Q) (Option.map Sum.inr m):=by
 cases m with
 | none=>exact qcs _
 | some b=>exact qai (h b rfl)
theorem qq5 {σ A:Type} {f:σ→Option (σ⊕A)} (I:σ→Prop) {Q:A→Prop} (h : ∀ s,I s→Kp (OI I Q) (f s)) {s:σ} (hs:I s):Kp Q (run f s):=by
 intro a ha
 obtain ⟨n,hn⟩:=qko ha
 clear ha
 induction n generalizing s with
 | zero=>cases hn
 | succ n ih =>
  have hk:=h s hs
  unfold iter at hn
  cases hf:f s with
  | none=>rw [hf] at hn;cases hn
  | some o =>
   rw [hf] at hn
   have ho:=hk o hf
   cases o with
   | inl s'=>exact ih ho hn
   | inr b=>cases hn;exact ho
def Qc (a:(DRoot×Int×Unit)×Unit):Prop:=CR a.1.1
theorem qalv (s1 s2:Int×DTab×Unit) (x y:Nat) (s:Int×DTab×Unit) (h:CT s.2.1):Kp (OI (fun s=>CT s.2.1) (OI (fun s=>CT s.2.1) (OI (fun s=>CT s.2.1) Qc))) (qck s1 s2 x y s):=by
 unfold qck
 dsimp only
 refine qah ?_ (qih (qah (qah (qai ?_) (qcs _)) (qcs _)))
 ·repeat (refine qah ?_ (qcs _))
  exact qai (qaee (qaee h _ _ (quq _ _)) _ _ (qam3 _ _))
 ·exact qaee h _ _ qd0
theorem qalu (s1 s:Int×DTab×Unit) (h:CT s.2.1):Kp (OI (fun s=>CT s.2.1) (OI (fun s=>CT s.2.1) Qc)) (qb4 s1 s):=by
 unfold qb4
 dsimp only
 refine qah ?_ (qih (qai h))
 repeat (refine qah ?_ (qcs _))
 refine qah (qai h) ?_
 repeat (refine qah ?_ (qcs _))
 refine qam fun z _=>qah (qih (qih (qai qxp))) ?_
 exact qq5 (fun s=>CT s.2.1) (fun s hs=>qalv _ _ _ _ s hs) h
theorem qanw (s:Int×DTab×Unit) (h:CT s.2.1):Kp (OI (fun s=>CT s.2.1) Qc) (qce s):=by
 unfold qce
 refine qah (qq5 (fun s=>CT s.2.1) (fun t ht=>qalu s t ht) h) (qih ?_)
 show Kp Qc (run (qd3 s) ((0:Int),z6,()))
 rw [qai7,qai8]
 exact qam fun z _=>qah (qai qxp) (qai (qaot h))
theorem qahq (T:DTab) (h:CT T):Kp Qc (qjg T):=by
 unfold qjg
 refine qq5 (fun _=>True) (fun s _ => ?_) trivial
 unfold qi5
 refine qah (qah (qam fun z _=>qah (qih (qai qxp)) (qai trivial)) (qcs _)) (qih ?_)
 exact qq5 (fun s=>CT s.2.1) (fun t ht=>qanw t ht) h
theorem qyu {x:Vec 6 Nat} {T:DTab} (hx:CV x) (h:CT T):Kp (fun y:(DState×Int×Unit)×Unit=>CS y.1.1) (qca x T):=by
 unfold qca
 refine qam fun y hy=>qah (qai qcp) (qam fun z _=>qah (qai qcp) (qai ⟨hx,qahq T h y hy⟩))
theorem qane {n:Nat} {x:Nat} {v:Vec n Nat} (hx:cF x) (h:CV v):CV (n:=n+1) (x,v):=by
 intro k
 cases k with
 | zero=>exact hx
 | succ k=>exact h k
theorem qaow:CV (n:=0) ():=fun _=>qd0
def CTv (m:Nat) (T:Vec m (Vec 9 Nat)):Prop:=∀ r,CV (Vec.getD m T r r9)
theorem qand {m:Nat} {x:Vec 9 Nat} {T:Vec m (Vec 9 Nat)} (hx:CV x) (h:CTv m T):CTv (m+1) (x,T):=by
 intro r
 cases r with
 | zero=>exact hx
 | succ r=>exact h r
theorem qaou:CTv 0 ():=fun _ k=>by
 rcases k with _ | _ | _ | _ | _ | _ | _ | _ | _ | k <;> exact qd0
theorem qapp {T:DTab} (h:CTv 6 T):CT T:=fun r k=>h r k
theorem qae9 {s:DState} (h:CS s) (t:Nat) (a:Vec 3 Nat):Kp (fun y:(DState×Int×Unit)×Unit=>CS y.1.1) (qg5 s t a):=by
 unfold qg5
 dsimp only
 refine qam fun _ _=>qah (qai qcp) (qam fun _ _=>qah (qai qcp) (qam fun _ _=>qah (qai qcp) ?_))
 refine qam fun _ _=>qam fun _ _=>qam fun _ _=>qam fun y hy=>qai (qyu ?_ ?_ y hy)
 ·exact qaef (qaef (qaef h.1 _ (quq _ _)) _ (quq _ _)) _ (quq _ _)
 ·have hr : ∀ r k,cF (Vec.getD 6 (Vec.getD 6 s.2.1 r ((0,0,0,0,0,0,()):Vec 6 Nat)) k (0:Nat)):=h.2
  refine qapp ?_
  repeat' first | exact qaou | exact qaow | with_reducible exact qd0 | with_reducible exact quq _ _ | with_reducible exact qapn _ _ | with_reducible exact hr _ _ | refine qand ?_ ?_ | refine qane ?_ ?_
theorem qyz {s:DState} (h:CS s) (c:DClue):Kp (fun y:(DState×Int×Unit)×Unit=>CS y.1.1) (qc6 s c):=by
 cases hs:stateB s with
 | false =>
  simp only [qc6,qau,hs,Option.bind_some,Bool.not_false,cond_true]
  exact qai qcp
 | true =>
  cases hc:clueB c with
  | false =>
   simp only [qc6,qau,hs,qcw,hc,Option.bind_some,Bool.not_true,Bool.not_false,cond_true,cond_false]
   exact qai qcp
  | true =>
   obtain ⟨sh,e,v,h1,-⟩:=qqh s c
   have e1:qc6 s c=(qca (updX s.1 s.2.1 sh (fDiv .f32 e v)) (updT s.2.1 sh (fDiv .f32 (fDiv .f32 1065353216 (fAdd .f32 1065353216 (rootF (fDiv .f32 (fMul .f32 c.2.2.1 c.2.2.1) v)))) v))).bind fun y=>some ((y.1.1,y.1.2.1,()),()):=by
    simp only [qc6,qau,hs,qcw,hc,h1,qhc,qakh,qaki,qakj,qakk,qakl,qabq,Option.bind_some,Bool.not_true,cond_false]
    kernel_rfl
   rw [e1]
   refine qam fun y hy=>qai (qyu (fun k => ?_) (fun r k => ?_) y hy)
   ·rcases k with _ | _ | _ | _ | _ | _ | k <;> first | exact quq _ _ | exact qd0
   ·rcases r with _ | _ | _ | _ | _ | _ | r <;> rcases k with _ | _ | _ | _ | _ | _ | _ | _ | _ | k <;> first | exact qd0 | exact qam3 _ _
theorem qec {s:DState} (h:CS s) (c:DClue) (f:Nat):Kp (fun y:(DState×Bool×Int×Unit)×Unit=>CS y.1.1) (qa3 s c f):=by
 unfold qa3
 exact qam fun _ _=>qah (qai qcp) (qam fun _ _=>qah (qai qcp) (qah (qai qcp) (qam fun _ _=>qah (qai qcp) (qah (qai h) (qam fun y hy=>qai (qyz h _ y hy))))))
theorem qakz {s:DState} (h:CS s) (l:List DClue):Kp (fun y:(DState×Int×Unit)×Unit=>CS y.1.1) (qfk s l):=by
 unfold qfk
 refine qam fun _ _=>qah (qai qcp) (qam fun _ _=>qah (qai qcp) (qah (qai qcp) (qq5 (fun s=>CS s.2.1) (fun s hs => ?_) h)))
 unfold qcv
 exact qah (qah (qam fun y hy=>qah (qih (qai qcp)) (qai (qyz hs _ y hy))) (qcs _)) (qih (qai hs))
theorem qacl (g:DLog) {s:DState} (h:CS s) (e:DEntry):Kp (fun y:(DState×Bool×Int×Unit)×Unit=>CS y.1.1) (qcb g s e):=by
 unfold qcb
 refine qah (qam fun y hy=>qai (qae9 h _ _ y hy)) (qah (qam fun _ _=>qam fun _ _=>qam fun _ _=>qam fun y hy=>qai (qakz h _ y hy)) (qah ?_ ?_))
 ·exact qam fun _ _=>qam fun _ _=>qam fun _ _=>qam fun y1 h1=>qah (qai qcp) (qam fun _ _=>qam fun y2 h2=>qah (qai qcp)
   (qah (qam fun _ _=>qam fun y3 h3=>qah (qai qcp) (qah (qai (qec (qec (qec h _ _ y1 h1) _ _ y2 h2) _ _ y3 h3)) (qai (qec (qec (qec h _ _ y1 h1) _ _ y2 h2) _ _ y3 h3))))
    (qam fun _ _=>qam fun y3 h3=>qah (qai qcp) (qai (qec (qec (qec h _ _ y1 h1) _ _ y2 h2) _ _ y3 h3)))))
 ·exact qah (qam fun _ _=>qah (qai h) (qam fun y hy=>qai (qec h _ _ y hy))) (qcs _)
theorem qahk {v:Vec 3 Nat} (h:FitVec (fltFit .f32) 3 v):CS (firstS v):=by
 have c1:cF 1056964608:=⟨by decide,by decide⟩
 have c2:cF 1065353216:=⟨by decide,by decide⟩
 refine ⟨fun k => ?_,fun r k => ?_⟩
 ·rcases k with _ | _ | _ | _ | _ | _ | k <;> first | exact h.1 | exact h.2.1 | exact h.2.2.1 | exact qd0
 ·rcases r with _ | _ | _ | _ | _ | _ | r <;> rcases k with _ | _ | _ | _ | _ | _ | k <;> first | exact qd0 | exact c1 | exact c2
end
section
def rowT (v:Vec 6 Nat):List UInt8:=joinC 32 ((rowL v).map hex8)
def rowsT (s:DState):List (List UInt8):=[rowT s.1,rowT (rowS s.2.1 0),rowT (rowS s.2.1 1),rowT (rowS s.2.1 2),rowT (rowS s.2.1 3),rowT (rowS s.2.1 4),rowT (rowS s.2.1 5)]
theorem qaer (a:Nat):(hex8 a).length=8:=qed 8 _
theorem qadl (v:Vec 6 Nat):rowT v=hex8 (Vec.getD 6 v 0 (0:Nat))++32 :: (hex8 (Vec.getD 6 v 1 (0:Nat))++32 :: (hex8 (Vec.getD 6 v 2 (0:Nat))++32 :: (hex8 (Vec.getD 6 v 3 (0:Nat))++32 :: (hex8 (Vec.getD 6 v 4 (0:Nat))++32 :: hex8 (Vec.getD 6 v 5 (0:Nat)))))):=rfl
theorem qvb (v:Vec 6 Nat):(rowT v).length=53:=by
 rw [qadl];simp [qaer]
theorem qhe {L:List Nat} {acc:List (List UInt8)} {i:Nat} (hi:i<L.length) (hl:L.length≤90) (hacc:acc.length≤90) (ha:List.getD L i 0<4294967296) :
  qa2 L (acc,(i:Int),())=some (.inl (acc++[hex8 (List.getD L i 0)],((i+1:Nat):Int),())):=by
 have e1:iLt (i:Int) (lenI L)=true:=qan (by rw [qac];omega)
 have e2:inB (i:Int) (List.length L)=true:=qaj hi
 have e5:iAdd .i64 (i:Int) 1=((i+1:Nat):Int):=qaw (n:=90) (by omega) (by omega)
 have e6:room (List.length acc+1) 16=true:=qd7 (by omega)
 simp only [qa2,e1,e2,e5,cond_true,Int.toNat_natCast,qdc ha,Option.bind_some]
 rw [e6]
 rfl
theorem qaez {L:List Nat} {acc:List (List UInt8)} (hl:L.length≤90) (hacc:acc.length≤90) {t:List UInt8} (hj:Lib.join acc [32]=t) (ht:t.length≤1000):qa2 L (acc,(L.length:Int),())=some (.inr ((t,()),())):=by
 have e1:iLt (L.length:Int) (lenI L)=false:=qas (by rw [qac];omega)
 simp only [qa2,e1,cond_false]
 have e:strings_Join acc [32]=some ((t,()),()):=by
  unfold strings_Join
  rw [hj]
  have:Nat.ble t.length 140737488355328=true:=Nat.ble_eq_true_of_le (by omega)
  have:Nat.ble acc.length 140737488355328=true:=Nat.ble_eq_true_of_le (by omega)
  simp [*]
 rw [e]
 rfl
theorem qaey {v:Vec 6 Nat} (h:CV v):qa5 [Vec.getD 6 v 0 (0:Nat),Vec.getD 6 v 1 (0:Nat),Vec.getD 6 v 2 (0:Nat),Vec.getD 6 v 3 (0:Nat),Vec.getD 6 v 4 (0:Nat),Vec.getD 6 v 5 (0:Nat)]=some ((rowT v,()),()):=by
 have hg : ∀ i,i<6→List.getD (rowL v) i 0<4294967296:=by
  intro i hi
  have:List.getD (rowL v) i 0=Vec.getD 6 v i (0:Nat):=by revert i;refine qhq ?_ ?_ ?_ ?_ ?_ ?_ <;> rfl
  rw [this];exact (h i).2
 have hl:(rowL v).length≤90:=by show 6≤90;decide
 show qa5 (rowL v)=_
 unfold qa5
 refine (qao (qhe (L:=rowL v) (i:=0) (by show 0<6;decide) hl (by simp) (hg 0 (by decide)))).trans ?_
 refine (qao (qhe (L:=rowL v) (i:=1) (by show 1<6;decide) hl (by simp) (hg 1 (by decide)))).trans ?_
 refine (qao (qhe (L:=rowL v) (i:=2) (by show 2<6;decide) hl (by simp) (hg 2 (by decide)))).trans ?_
 refine (qao (qhe (L:=rowL v) (i:=3) (by show 3<6;decide) hl (by simp) (hg 3 (by decide)))).trans ?_
 refine (qao (qhe (L:=rowL v) (i:=4) (by show 4<6;decide) hl (by simp) (hg 4 (by decide)))).trans ?_
 refine (qao (qhe (L:=rowL v) (i:=5) (by show 5<6;decide) hl (by simp) (hg 5 (by decide)))).trans ?_
 refine qa9 (qaez (L:=rowL v) hl (by simp) ?_ (by rw [qvb];decide))
 rw [qadl]
 simp [Lib.join_cons,Lib.joinTail,rowL]
theorem qafi {s:DState} (hs:stateB s=true) (h:CS s):qj3 s=some ((linesT (rowsT s),()),()):=by
 have n:=fun i=>qaey (v:=rowS s.2.1 i) (h.2 i)
 have n0:=qaey h.1
 unfold qj3
 rw [qau,hs]
 simp only [Option.bind_some,Bool.not_true,cond_false]
 have q : ∀ a b:List UInt8,a.length≤1000→b.length≤1000→strRoom a b=true:=fun a b h1 h2=>qbc (by omega)
 have e:qj6 s=some ((linesT (rowsT s),()),()):=by
  unfold qj6
  unfold rowS at n
  simp only [n0,n 0,n 1,n 2,n 3,n 4,n 5,Option.bind_some]
  have l:=qvb
  repeat rw [q _ _ (by simp [strCat,l]) (by simp [strCat,l]),cond_true]
  simp [linesT,rowsT,rowS,strCat]
 rw [e]
 rfl
theorem qqo {ws:List (List UInt8)} {out:List Nat} {i a:Nat} (hi:i<ws.length) (ho:i<out.length) (hl:ws.length≤90) (ha:numR (List.getD ws i [])=some a) (h8:(List.getD ws i []).length≤1048576) :
  qiz ((ws,()),()) ((i:Int),out,())=some (.inl (((i+1:Nat):Int),List.set out i a,())):=by
 have e1:iLt (i:Int) (lenI ws)=true:=qan (by rw [qac];omega)
 have e2:inB (i:Int) (List.length ws)=true:=qaj hi
 have e3:inB (i:Int) (List.length out)=true:=qaj ho
 have e5:iAdd .i64 (i:Int) 1=((i+1:Nat):Int):=qaw (n:=90) (by omega) (by omega)
 simp only [qiz,e1,e2,e3,e5,cond_true,Int.toNat_natCast,qon h8,ha,Option.bind_some]
 rfl
theorem qaks (v:Vec 6 Nat):Vec.ofList (0:Nat) 6 (spliceL (Vec.toList 6 ((0,0,0,0,0,0,()):Vec 6 Nat)) 0 (rowL v))=v:=by
 obtain ⟨a,b,c,d,e,f,⟨⟩⟩:=v
 rfl
theorem qah0 (S:DRoot):((rowS S 0,rowS S 1,rowS S 2,rowS S 3,rowS S 4,rowS S 5,()):DRoot)=S:=by
 obtain ⟨a,b,c,d,e,f,⟨⟩⟩:=S
 rfl
theorem rn6 {v:Vec 6 Nat} (h:CV v):qbv (rowT v) [0,0,0,0,0,0]=some ((true,()),(rowL v,())):=by
 have hsp:splitC 32 (rowT v)=(rowL v).map hex8:=qh9 32 _ (by simp [rowL]) (fun w hw=>by
  obtain ⟨a,-,rfl⟩:=List.mem_map.1 hw
  exact qok (.inl rfl) _ _)
 unfold qbv
 rw [qib 32 (by rw [qvb];decide),hsp]
 have hg : ∀ i,i<6→numR (List.getD ((rowL v).map hex8) i [])=some (Vec.getD 6 v i (0:Nat)):=by
  intro i hi
  have:List.getD ((rowL v).map hex8) i []=hex8 (Vec.getD 6 v i (0:Nat)):=by revert i;refine qhq ?_ ?_ ?_ ?_ ?_ ?_ <;> rfl
  rw [this];exact qoj (h i)
 have h8 : ∀ i,i<6→(List.getD ((rowL v).map hex8) i []).length≤1048576:=by
  intro i hi
  have:List.getD ((rowL v).map hex8) i []=hex8 (Vec.getD 6 v i (0:Nat)):=by revert i;refine qhq ?_ ?_ ?_ ?_ ?_ ?_ <;> rfl
  rw [this,qaer];decide
 have hlen:((rowL v).map hex8).length=6:=rfl
 simp only [Option.bind_some]
 rw [show (!iEq (lenI ((rowL v).map hex8)) (lenI [0,0,0,0,0,0]))=false from rfl,cond_false]
 refine (qao (qqo (i:=0) (by rw [hlen];decide) (by decide) (by rw [hlen];decide) (hg 0 (by decide)) (h8 0 (by decide)))).trans ?_
 refine (qao (qqo (i:=1) (by rw [hlen];decide) (by simp) (by rw [hlen];decide) (hg 1 (by decide)) (h8 1 (by decide)))).trans ?_
 refine (qao (qqo (i:=2) (by rw [hlen];decide) (by simp) (by rw [hlen];decide) (hg 2 (by decide)) (h8 2 (by decide)))).trans ?_
 refine (qao (qqo (i:=3) (by rw [hlen];decide) (by simp) (by rw [hlen];decide) (hg 3 (by decide)) (h8 3 (by decide)))).trans ?_
 refine (qao (qqo (i:=4) (by rw [hlen];decide) (by simp) (by rw [hlen];decide) (hg 4 (by decide)) (h8 4 (by decide)))).trans ?_
 refine (qao (qqo (i:=5) (by rw [hlen];decide) (by simp) (by rw [hlen];decide) (hg 5 (by decide)) (h8 5 (by decide)))).trans ?_
 exact qa9 rfl
theorem qah5 {s:DState} (hs:stateB s=true) (h:CS s):qj2 (linesT (rowsT s))=some ((s,0,()),()):=by
 have hf : ∀ x∈rowsT s,(10:UInt8)∉x:=by
  intro x hx
  have : ∀ v:Vec 6 Nat,(10:UInt8)∉rowT v:=fun v=>qo0 (by decide) _ fun w hw=>by
   obtain ⟨a,-,rfl⟩:=List.mem_map.1 hw
   exact qok (.inr rfl) _ _
  simp only [rowsT,List.mem_cons,List.not_mem_nil,or_false] at hx
  rcases hx with rfl | rfl | rfl | rfl | rfl | rfl | rfl <;> exact this _
 have hl:(linesT (rowsT s)).length≤4294967280:=by
  have l:=qvb
  simp [linesT,rowsT,l]
 have n:=fun i=>rn6 (v:=rowS s.2.1 i) (h.2 i)
 have e:qj5 (rowsT s++[[]])=some ((s,true,()),()):=by
  have n0:=rn6 h.1
  have g : ∀ i,inB (i:Int) (List.length (rowsT s++[[]]))=inB (i:Int) 8:=fun _=>rfl
  have g0:List.getD (rowsT s++[[]]) 0 ([]:List UInt8)=rowT s.1:=rfl
  have g1:List.getD (rowsT s++[[]]) 1 ([]:List UInt8)=rowT (rowS s.2.1 0):=rfl
  have g2:List.getD (rowsT s++[[]]) 2 ([]:List UInt8)=rowT (rowS s.2.1 1):=rfl
  have g3:List.getD (rowsT s++[[]]) 3 ([]:List UInt8)=rowT (rowS s.2.1 2):=rfl
  have g4:List.getD (rowsT s++[[]]) 4 ([]:List UInt8)=rowT (rowS s.2.1 3):=rfl
  have g5:List.getD (rowsT s++[[]]) 5 ([]:List UInt8)=rowT (rowS s.2.1 4):=rfl
  have g6:List.getD (rowsT s++[[]]) 6 ([]:List UInt8)=rowT (rowS s.2.1 5):=rfl
  have b : ∀ v:Vec 6 Nat,Nat.beq (List.length (rowL v)) 6=true:=fun _=>rfl
  have c0:inB 0 8=true:=rfl
  have c1:inB 1 8=true:=rfl
  have c2:inB 2 8=true:=rfl
  have c3:inB 3 8=true:=rfl
  have c4:inB 4 8=true:=rfl
  have c5:inB 5 8=true:=rfl
  have c6:inB 6 8=true:=rfl
  have es:((s.1,(rowS s.2.1 0,rowS s.2.1 1,rowS s.2.1 2,rowS s.2.1 3,rowS s.2.1 4,rowS s.2.1 5,()),()):DState)=s:=by
   obtain ⟨x,S,⟨⟩⟩:=s
   exact congrArg (fun R=>((x,R,()):DState)) (qah0 S)
  unfold qj5
  simp only [g,c0,c1,c2,c3,c4,c5,c6,g0,g1,g2,g3,g4,g5,g6,n0,n 0,n 1,n 2,n 3,n 4,n 5,b,qaks,Option.bind_some,cond_true,es]
  rw [qau,hs]
  rfl
 unfold qj2
 rw [qib 10 hl,qs3 _ hf]
 simp only [Option.bind_some]
 rw [show (!iEq (lenI (rowsT s++[[]])) 8)=false from rfl,cond_false,show inB 7 (List.length (rowsT s++[[]]))=true from rfl,cond_true,show (!sEq (List.getD (rowsT s++[[]]) 7 []) [])=false from rfl,cond_false,e]
 rfl
end
section
theorem fitz:FitVec (fltFit .f32) 3 ((0,0,0,()):Vec 3 Nat):=⟨qd0,qd0,qd0,trivial⟩
def EF (g:DLog):Prop:=∀ e∈g.2.2.2.1,FE e
theorem qxr {l:List DEntry} {e:DEntry} (h : ∀ x∈l,FE x) (he:FE e) : ∀ x∈l++[e],FE x:=by
 intro x hx
 rcases List.mem_append.1 hx with hx | hx
 ·exact h x hx
 ·rw [List.mem_singleton.1 hx];exact he
theorem qaoh {a:DMission} (hv : ∀ x∈a.2.2.2.1,FitVec (fltFit .f32) 3 x.2.1) (sd:Int):Kp (fun y:(DLog×Int×Unit)×Unit=>EF y.1.1) (qbu a sd):=by
 have hnil : ∀ e∈([]:List DEntry),FE e:=fun e he=>by cases he
 have f1:FE ((1,(0,0,0,()),(0,0,0,()),0,0,()):DEntry):=⟨fitz,qd0⟩
 have f2 : ∀ v:Vec 3 Nat,FitVec (fltFit .f32) 3 v→FE ((2,v,(0,0,0,()),0,0,()):DEntry):=fun v h=>⟨h,qd0⟩
 have f3 : ∀ c:Vec 3 Int,FE ((3,(0,0,0,()),c,0,0,()):DEntry):=fun c=>⟨fitz,qd0⟩
 have f4 : ∀ (i:Int) (a b:Nat),FE ((4,(0,0,0,()),(0,0,0,()),i,fAdd .f32 a b,()):DEntry):=fun i a b=>⟨fitz,quq a b⟩
 unfold qbu
 refine qam fun y _=>qah (qai hnil) (qam fun y2 _=>qq5 (fun s:Int×Int×Int×DLog×Unit=>EF s.2.2.2.1) (fun s hs => ?_) hnil)
 unfold qeh
 dsimp only
 have hleg:FitVec (fltFit .f32) 3 (List.getD a.2.2.2.1 s.2.2.1.toNat ((0,(0,0,0,()),0,0,()):DLeg)).2.1:=by
  rw [List.getD_eq_getElem?_getD]
  cases hx:a.2.2.2.1[s.2.2.1.toNat]? with
  | none=>exact fitz
  | some x=>exact hv x (List.mem_of_getElem? hx)
 refine qah (qah (qah (qq5 (fun s:Int×Int×Int×DLog×Unit=>EF s.2.2.2.1) (fun t ht => ?_) (qxr hs (f2 _ hleg))) (qcs _)) (qcs _)) (qih (qah (qai hnil) (qai hs)))
 unfold qc4
 dsimp only
 have ht1 : ∀ e∈t.2.2.2.1.2.2.2.1++[((1,(0,0,0,()),(0,0,0,()),0,0,()):DEntry)],FE e:=qxr ht f1
 refine qah (qah (qah (qai ht1) (qah (qcs _) (qah (qai ht1) (qam fun _ _=>qah (qam fun _ _=>qam fun _ _=>qah (qai (qxr ht1 (f3 _))) (qcs _)) (qcs _))))) (qcs _)) (qih (qah (qai ht) ?_))
 exact qah (qah (qam fun _ _=>qam fun _ _=>qam fun _ _=>qah (qih (qai hnil)) (qah (qai (qxr ht (f4 _ _ _))) (qcs _))) (qcs _)) (qcs _)
theorem qaka {m:DMission} (hm:missionB m=true) (hz:Sized TyMission m) {g:DLog} (h:GoodL m 1200 g):LogOK g:=by
 have hsz:=qaac hz h
 obtain ⟨k1,k2,k3,k4,k5⟩:=h
 have hf:frameB m.1 m.2.1 m.2.2.1=true:=by
  simp only [missionB,Bool.and_eq_true] at hm
  exact hm.1
 have hf':=hf
 simp only [frameB,Bool.and_eq_true,qdj] at hf'
 obtain ⟨⟨a1,a2⟩,-,a4,-⟩:=hf'
 rw [qac] at a4
 refine ⟨?_,by rw [k1];exact ⟨a1,a2⟩,by rw [k3];omega,by omega,hsz,fun e he=>(k5 e he).2⟩
 unfold logB
 rw [k1,k2,k3,hf,qds (by rw [qac];exact k4)]
 have:g.2.2.2.1.all (entryB (lenI m.2.2.1))=true:=List.all_eq_true.2 fun e he=>(k5 e he).1
 rw [this]
 rfl
theorem qaml (a:DMission) (ha:Fit TyMission a) {sd:Int} (hs:Fit (.int .u32) sd) : ∃ (g:DLog) (k:Int),qbu a sd=some ((g,k,()),())∧qet a sd=some ((g,k,()),())∧Sized TyLog g∧(k=0→LogOK g∧LogFit g):=by
 have sa:Sized TyMission a:=qhf rfl ha
 obtain ⟨g,k,r1,r2,hz⟩:=qab8 a ha hs
 refine ⟨g,k,r1,r2,hz,fun hk => ?_⟩
 subst hk
 have hmk:a.2.2.1.length*12≤140737488351232:=ha.2.2.1.1
 have h0:0≤sd∧sd<4294967296:=⟨hs.1,by have:sd≤4294967295:=hs.2;omega⟩
 cases hm:missionB a with
 | false =>
  have e:qbu a sd=some ((zLog,1,()),()):=by
   simp only [qbu,qg7,qhx a sa,hm,Option.bind_some]
   rfl
  rw [e] at r1
  have:(1:Int)=0:=congrArg (fun z:(DLog×Int×Unit)×Unit=>z.1.2.1) (Option.some.inj r1)
  omega
 | true =>
  obtain ⟨g',k',q1,-,hq⟩:=qafc a sa hm h0.1 h0.2 hmk
  rw [q1] at r1
  have e:=Option.some.inj r1
  have e1:g'=g:=congrArg (fun z:(DLog×Int×Unit)×Unit=>z.1.1) e
  have e2:k'=0:=congrArg (fun z:(DLog×Int×Unit)×Unit=>z.1.2.1) e
  subst e1 e2
  rcases hq with ⟨-,hG⟩ | ⟨h,-⟩
  ·refine ⟨qaka hm sa hG,?_,?_,?_⟩
   ·rw [hG.2.1];exact ha.2.1
   ·rw [hG.2.2.1];exact fun v hv=>ha.2.2.1.2 v hv
   ·exact qaoh (fun x hx=>(ha.2.2.2.1.2 x hx).2.1) sd _ q1
  ·exact absurd rfl h
theorem qzw : ∀ L:List (Vec 3 Nat),all2 sameV L L=true
 | []=>rfl
 | v :: L=>by
  show (sameV v v&&all2 sameV L L)=true
  rw [qqg,qzw L];rfl
theorem qaco : ∀ L:List DEntry,all2 sameE L L=true
 | []=>rfl
 | v :: L=>by
  have e:sameE v v=true:=by unfold sameE;simp [qqg,qqf,qbq.2]
  show (sameE v v&&all2 sameE L L)=true
  rw [e,qaco L];rfl
theorem qah1 (g:DLog):sameL g g=true:=by
 unfold sameL sameVs
 rw [qaco,qzw,qqg,qbq.2 rfl,qbq.2 rfl,qbq.2 rfl]
 rfl
theorem qaiu {g:DLog} {s:DState} (h:CS s) {n:Nat} (hst : ∀ m,m<n→StepOK g s m) : ∀ m,m≤n→CS (fS g s m)
 | 0,_=>h
 | m+1,hm=>by
  obtain ⟨-,-,b,e,-⟩:=hst m (by omega)
  exact qacl g (qaiu h hst m (by omega)) _ _ e
theorem qqe (a0:DMission) (h0:Fit TyMission a0) (a1:Int) (h1:Fit (.int .u32) a1) (a2:Int) (h2:Fit (.int .i64) a2) : ∃ o,qi0 a0 a1 a2=some ((true,()),o):=by
 refine ⟨(),?_⟩
 obtain ⟨g,c,r1,r2,hz,hgood⟩:=qaml a0 h0 h1
 have hself:qjv g g=some ((true,()),()):=by rw [qabi g g hz,qah1]
 have i0:(!iEq (0:Int) 0)=false:=rfl
 have i4:(!iEq (4:Int) 0)=true:=rfl
 have i44:(!iEq (4:Int) 4)=false:=rfl
 unfold qi0
 rw [r1,r2]
 by_cases hc:c=0
 ·subst hc
  obtain ⟨hg,hf⟩:=hgood rfl
  obtain ⟨t1,t2⟩:=qal0 hg hf
  have hlen:=hg.2.2.2.1
  have hv:=qajd hg.1
  have hs:stateB (firstS g.2.1)=true:=qwb hv
  have hL:=qft g hg.2.2.2.2.1
  have hL2:=qaci g hg.2.2.2.2.1
  rw [hg.1] at hL hL2
  have hF:qi4 g=some ((firstS g.2.1,0,()),()):=by
   unfold qi4
   rw [hL,qjm g hv]
   rfl
  have hlenE:lenI g.2.2.2.1=(g.2.2.2.1.length:Int):=qac _
  have key:=qaj5 hg (s:=firstS g.2.1) (n:=g.2.2.2.1.length) (Nat.le_refl _) g.2.2.2.1.length 0 [] (by omega) (Nat.zero_le _) hs
  rcases key with ⟨q1,q2⟩ | ⟨⟨l',q1,q2⟩,hst⟩
  ·have hR:qfj g=some ((zS,4,()),()):=by
    unfold qfj qip
    rw [hL,qjm g hv,hlenE]
    simp only [Option.bind_some,Bool.not_true,cond_false]
    exact (congrArg (fun z=>Option.bind z _) q1).trans rfl
   have hR2:qfn g=some ((zS,4,()),()):=by
    unfold qfn qj9
    rw [hL2,qrp g,hlenE]
    simp only [Option.bind_some,Bool.not_true,cond_false]
    exact (congrArg (fun z=>Option.bind z _) q2).trans rfl
   obtain ⟨g1,g2,g3,g4,⟨⟩⟩:=g
   simp only [Option.bind_some,i0,cond_false]
   rw [hself]
   simp only [Option.bind_some,Bool.not_true,cond_false]
   rw [t1]
   simp only [Option.bind_some]
   rw [t2]
   simp only [Option.bind_some]
   rw [hR,hR2]
   simp only [Option.bind_some,i0,i44,cond_false]
   rw [qmv]
   simp only [Option.bind_some,Bool.not_true,cond_false,i4,cond_true]
  ·have hR:qfj g=some ((fS g (firstS g.2.1) g.2.2.2.1.length,0,()),()):=by
    unfold qfj qip
    rw [hL,qjm g hv,hlenE]
    simp only [Option.bind_some,Bool.not_true,cond_false]
    exact (congrArg (fun z=>Option.bind z _) q1).trans rfl
   have hR2:qfn g=some ((fS g (firstS g.2.1) g.2.2.2.1.length,0,()),()):=by
    unfold qfn qj9
    rw [hL2,qrp g,hlenE]
    simp only [Option.bind_some,Bool.not_true,cond_false]
    exact (congrArg (fun z=>Option.bind z _) q2).trans rfl
   have hst' : ∀ m,m<g.2.2.2.1.length→StepOK g (firstS g.2.1) m:=fun m hm=>hst m (Nat.zero_le _) hm
   have hcs:=qaiu (qahk hf.1) hst'
   have hsk : ∀ k,k≤g.2.2.2.1.length→stateB (fS g (firstS g.2.1) k)=true:=by
    intro k hk
    cases k with
    | zero=>exact hs
    | succ k=>exact (hst' k (by omega)).2.1
   by_cases k0:a2<0
   ·have e1:iLt a2 0=true:=qan k0
    obtain ⟨g1,g2,g3,g4,⟨⟩⟩:=g
    simp only [Option.bind_some,i0,cond_false]
    rw [hself]
    simp only [Option.bind_some,Bool.not_true,cond_false]
    rw [t1]
    simp only [Option.bind_some]
    rw [t2]
    simp only [Option.bind_some]
    rw [hR,hR2]
    simp only [Option.bind_some,i0,cond_false]
    rw [qmv]
    simp only [Option.bind_some,Bool.not_true,cond_false,e1,cond_true]
   ·have e1:iLt a2 0=false:=qas k0
    by_cases k1:(g.2.2.2.1.length:Int)<a2
    ·have e2:iLt (lenI g.2.2.2.1) a2=true:=qan (by rw [qac];exact k1)
     obtain ⟨g1,g2,g3,g4,⟨⟩⟩:=g
     simp only [Option.bind_some,i0,cond_false]
     rw [hself]
     simp only [Option.bind_some,Bool.not_true,cond_false]
     rw [t1]
     simp only [Option.bind_some]
     rw [t2]
     simp only [Option.bind_some]
     rw [hR,hR2]
     simp only [Option.bind_some,i0,cond_false]
     rw [qmv]
     simp only [Option.bind_some,Bool.not_true,cond_false,e1]
     simp only at e2
     rw [e2]
     rfl
    ·have e2:iLt (lenI g.2.2.2.1) a2=false:=qas (by rw [qac];exact k1)
     obtain ⟨k,rfl⟩ : ∃ k:Nat,a2=(k:Int):=⟨a2.toNat,by omega⟩
     have hk:k≤g.2.2.2.1.length:=by omega
     have f1:qep g (firstS g.2.1) (0:Int) (k:Int)=some ((fS g (firstS g.2.1) k,0,()),()):=qagl hg (s:=firstS g.2.1) (i:=0) (j:=k) (Nat.zero_le _) hk (fun m hm=>hst' m (by omega)) hs
     have f2:=qagl hg (s:=firstS g.2.1) (i:=k) (j:=g.2.2.2.1.length) hk (Nat.le_refl _) hst' (hsk k hk)
     rw [← hlenE] at f2
     have s1:=qafi (hsk k hk) (hcs k hk)
     have s2:=qah5 (hsk k hk) (hcs k hk)
     obtain ⟨g1,g2,g3,g4,⟨⟩⟩:=g
     simp only [Option.bind_some,i0,cond_false]
     rw [hself]
     simp only [Option.bind_some,Bool.not_true,cond_false]
     rw [t1]
     simp only [Option.bind_some]
     rw [t2]
     simp only [Option.bind_some]
     rw [hR,hR2]
     simp only [Option.bind_some,i0,cond_false]
     rw [qmv]
     simp only [Option.bind_some,Bool.not_true,cond_false,e1]
     simp only at e2 f1 f2 s1 s2
     rw [e2,cond_false,hF]
     simp only [Option.bind_some]
     rw [f1]
     simp only [Option.bind_some]
     rw [s1]
     simp only [Option.bind_some]
     rw [s2]
     simp only [Option.bind_some]
     rw [f2]
     simp only [Option.bind_some,qbq.2 rfl,cond_true]
     rw [qmv]
     rfl
 ·have ec:iEq c c=true:=qbq.2 rfl
  have e0:(!iEq c 0)=true:=by rw [qff.2 hc];rfl
  obtain ⟨g1,g2,g3,g4,⟨⟩⟩:=g
  simp only [Option.bind_some,ec,Bool.not_true,cond_false]
  rw [hself]
  simp only [Option.bind_some,Bool.not_true,cond_false,e0,cond_true]
end
end Go.Proofs.YtnndahnmlmgenaaGreatDoor
