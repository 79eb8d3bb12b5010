import Derived.Test.YtjhdoneobdbeaaaGreatDoorP3
/- Functions of the program and of the reference in plain terms. -/
set_option linter.unusedSectionVars false
set_option linter.unusedSimpArgs false
set_option linter.unusedVariables false
namespace Go.Proofs.YtjhdoneobdbeaaaGreatDoor
open Go Go.Tm
section
theorem qoe {a:Nat} (h:goodN a):a<4294967296:=(qakw h).1
theorem qt6 {a:Nat} (h:goodN a):qfh a=some ((hex8 a,()),()):=qadi (qoe h)
theorem qcy (a:Nat):(hex8 a).length=8:=qi3 8 _
def vecT (v:Vec 3 Nat):List UInt8:=hex8 v.1++[32]++hex8 v.2.1++[32]++hex8 v.2.2.1
theorem qah1 (v:Vec 3 Nat):(vecT v).length=26:=by
 unfold vecT
 simp [qcy]
theorem qcm {a b:List UInt8} (h:a.length+b.length≤1000000000):strRoom a b=true:=qax (by omega)
theorem qacf {v:Vec 3 Nat} (h:goodV v):qnd v=some ((vecT v,()),()):=by
 obtain ⟨a,b,c,⟨⟩⟩:=v
 obtain ⟨ha,hb,hc⟩:=h
 have l0:lenI ([a,b,c]:List Nat)=3:=rfl
 have step0:qcp [a,b,c] (([]:List UInt8),(0:Int),())=some (.inl (hex8 a,(1:Int),())):=by
  unfold qcp
  simp only
  rw [l0,show iLt (0:Int) 3=true from rfl,show iLt 0 (0:Int)=false from rfl,show inB 0 ([a,b,c]:List Nat).length=true from rfl]
  simp only [cond_true,cond_false]
  rw [show List.getD [a,b,c] (0:Int).toNat (0:Nat)=a from rfl,qt6 ha]
  simp only [Option.bind_some]
  rw [qcm (by rw [qcy];simp),show iAdd .i64 (0:Int) 1=1 from by decide]
  rfl
 have step1:qcp [a,b,c] (hex8 a,(1:Int),())=some (.inl (hex8 a++[32]++hex8 b,(2:Int),())):=by
  unfold qcp
  simp only
  rw [l0,show iLt (1:Int) 3=true from rfl,show iLt 0 (1:Int)=true from rfl,show inB 1 ([a,b,c]:List Nat).length=true from rfl,qcm (a:=hex8 a) (b:=[32]) (by rw [qcy];simp)]
  simp only [cond_true,cond_false]
  rw [show List.getD [a,b,c] (1:Int).toNat (0:Nat)=b from rfl,qt6 hb]
  simp only [Option.bind_some]
  rw [qcm (by unfold strCat;simp [qcy]),show iAdd .i64 (1:Int) 1=2 from by decide]
  rfl
 have step2:qcp [a,b,c] (hex8 a++[32]++hex8 b,(2:Int),())=some (.inl (hex8 a++[32]++hex8 b++[32]++hex8 c,(3:Int),())):=by
  unfold qcp
  simp only
  rw [l0,show iLt (2:Int) 3=true from rfl,show iLt 0 (2:Int)=true from rfl,show inB 2 ([a,b,c]:List Nat).length=true from rfl,qcm (a:=hex8 a++[32]++hex8 b) (b:=[32]) (by simp [qcy])]
  simp only [cond_true,cond_false]
  rw [show List.getD [a,b,c] (2:Int).toNat (0:Nat)=c from rfl,qt6 hc]
  simp only [Option.bind_some]
  rw [qcm (by unfold strCat;simp [qcy]),show iAdd .i64 (2:Int) 1=3 from by decide]
  rfl
 have step3:qcp [a,b,c] (hex8 a++[32]++hex8 b++[32]++hex8 c,(3:Int),())=some (.inr ((hex8 a++[32]++hex8 b++[32]++hex8 c,()),())):=by
  unfold qcp
  simp only
  rw [l0]
  rfl
 have hr:qlb [a,b,c]=some ((vecT (a,b,c,()),()),()):=by
  unfold qlb
  rw [qaj step0,qaj step1,qaj step2,qai step3]
  rfl
 unfold qnd
 show (qlb [a,b,c]).bind _=_
 rw [hr]
 rfl
end
section
theorem qahe (a b:List UInt8):bytesOf (a++b)=bytesOf a++bytesOf b:=List.map_append
theorem qago (t:List UInt8):ofBytes (bytesOf t)=t:=by
 unfold ofBytes bytesOf
 rw [List.map_map]
 exact (List.map_congr_left fun b _=>qr1 b).trans (List.map_id _)
theorem qwz {t s:List UInt8} (h:t.length+s.length≤1000000000):qap ((),bytesOf t,()) s=some ((lenI s,true,()),(((),bytesOf (t++s),()),())):=by
 unfold qap qfc
 simp only [Option.bind_some]
 have:room (List.length (bytesOf t)+List.length (bytesOf s)) 1=true:=by unfold room bytesOf;simp;omega
 rw [this,qahe]
 rfl
theorem qaiy {s:List UInt8} (h:s.length≤1000000000):qap ((),[],()) s=some ((lenI s,true,()),(((),bytesOf s,()),())):=qwz (t:=[]) (by simpa using h)
theorem qah4 {t:List UInt8} (h:t≠[]) (h1:t.length≤1000000000):bldStr ((),bytesOf t,())=some t:=by
 have e1:Nat.ble 1 (List.length (bytesOf t))=true:=by
  rw [Nat.ble_eq];unfold bytesOf;rw [List.length_map]
  exact List.length_pos_iff.2 h
 have e2:Nat.ble (List.length (bytesOf t)) 140737488355328=true:=by rw [Nat.ble_eq];unfold bytesOf;rw [List.length_map];omega
 unfold bldStr
 simp only
 rw [e1,e2,qago]
 rfl
theorem qh0 {a:Nat} (h:fltFit .f32 a):goodN a:=by
 obtain ⟨hc,hl⟩:=h
 have hl:a<4294967296:=hl
 have hb:bitsOf a=a:=by
  unfold bitsOf
  split
  ·rfl
  ·rename_i hn
   rw [qjs] at hn
   have hn:isNan .f32 a=true:=by simpa using hn
   unfold canon at hc
   rw [hn] at hc
   exact hc
 unfold goodN hex8
 rw [hb,qakv hl,hc,if_pos hb]
theorem qakd {v:Vec 3 Nat} (h:FitVec (fltFit .f32) 3 v):goodV v:=⟨qh0 h.1,qh0 h.2.1,qh0 h.2.2.1⟩
theorem qae4 (a b c:Nat) (ha:a<4294967296) (hb:b<4294967296) (hc:c<4294967296):qig [a,b,c]=some ((hex8 a++[32]++hex8 b++[32]++hex8 c,()),()):=by
 have l1 : ∀ x,(hex8 x).length=8:=fun x=>qi3 8 _
 have s0:qbo [a,b,c] ([],0,())=some (.inl ([hex8 a],1,())):=by
  unfold qbo
  have e:=qda ha
  have g:List.getD [a,b,c] (Int.toNat 0) 0=a:=rfl
  simp only
  rw [g,e]
  rfl
 have s1:qbo [a,b,c] ([hex8 a],1,())=some (.inl ([hex8 a,hex8 b],2,())):=by
  unfold qbo
  have e:=qda hb
  have g:List.getD [a,b,c] (Int.toNat 1) 0=b:=rfl
  simp only
  rw [g,e]
  rfl
 have s2:qbo [a,b,c] ([hex8 a,hex8 b],2,())=some (.inl ([hex8 a,hex8 b,hex8 c],3,())):=by
  unfold qbo
  have e:=qda hc
  have g:List.getD [a,b,c] (Int.toNat 2) 0=c:=rfl
  simp only
  rw [g,e]
  rfl
 have hj:Lib.join [hex8 a,hex8 b,hex8 c] [32]=hex8 a++[32]++hex8 b++[32]++hex8 c:=by
  simp [Lib.join_cons,Lib.joinTail]
 have e:strings_Join [hex8 a,hex8 b,hex8 c] [32]=some ((hex8 a++[32]++hex8 b++[32]++hex8 c,()),()):=by
  unfold strings_Join
  rw [hj]
  have:Nat.ble (hex8 a++[32]++hex8 b++[32]++hex8 c).length 140737488355328=true:=by rw [Nat.ble_eq];simp [l1]
  rw [this]
  rfl
 unfold qig
 rw [qaj s0,qaj s1,qaj s2]
 refine qai ?_
 unfold qbo
 simp only
 rw [e]
 rfl
theorem qaa5 {v:Vec 3 Nat} (h:goodV v):qmr v=some ((vecT v,()),()):=by
 unfold qmr
 have v0:Vec.getD 3 v 0 (0:Nat)=v.1:=rfl
 have v1:Vec.getD 3 v 1 (0:Nat)=v.2.1:=rfl
 have v2:Vec.getD 3 v 2 (0:Nat)=v.2.2.1:=rfl
 rw [v0,v1,v2,qae4 _ _ _ (qoe h.1) (qoe h.2.1) (qoe h.2.2)]
 rfl
end
section
def dotA:Nat→List Nat→List Nat→Nat
 | acc,a :: l,b :: m=>dotA (fAdd .f32 acc (fMul .f32 a b)) l m
 | acc,_,_=>acc
theorem qain {L M:List Nat} (hLM:L.length≤M.length) (hL:L.length≤100) : ∀ (k i acc:Nat),1≤i→i+k=L.length→run (qiu L M) (acc,(i:Int),())=some ((dotA acc (L.drop i) (M.drop i),()),())
 | 0,i,acc,h1,h=>by
  have e1:iLt (i:Int) (lenI L)=false:=qag (by rw [qaa];omega)
  rw [List.drop_of_length_le (by omega:L.length≤i)]
  exact qai (by simp only [qiu,e1,cond_false,Option.map_some];rfl)
 | k+1,i,acc,h1,h=>by
  have e1:iLt (i:Int) (lenI L)=true:=qah (by rw [qaa];omega)
  have e2:inB (i:Int) L.length=true:=qae (by omega)
  have e3:inB (i:Int) M.length=true:=qae (by omega)
  have e4:iEq (i:Int) 0=false:=qat (by omega)
  have e5:iAdd .i64 (i:Int) 1=((i+1:Nat):Int):=qaq (n:=L.length) (by omega) (by omega)
  have g1:L.getD i (0:Nat)=L[i]'(by omega):=qan (by omega)
  have g2:M.getD i (0:Nat)=M[i]'(by omega):=qan (by omega)
  rw [List.drop_eq_getElem_cons (by omega:i<L.length),List.drop_eq_getElem_cons (by omega:i<M.length)]
  refine (qaj (s':=(fAdd .f32 acc (fMul .f32 (L[i]'(by omega)) (M[i]'(by omega))),((i+1:Nat):Int),())) ?_).trans (qain hLM hL k (i+1) _ (by omega) (by omega))
  simp only [qiu,e1,e2,e3,e4,e5,Int.toNat_natCast,g1,g2,cond_true,cond_false]
theorem qae5 (a b:Nat) (l m:List Nat) (h:l.length≤m.length) (h1:l.length≤90):qmw (a :: l) (b :: m)=some ((dotA (fMul .f32 a b) l m,()),()):=by
 have e:=qain (L:=a :: l) (M:=b :: m) (by rw [List.length_cons,List.length_cons];omega) (by rw [List.length_cons];omega) l.length 1 (fMul .f32 a b) (by omega) (by rw [List.length_cons];omega)
 refine (qaj (s':=(fMul .f32 a b,((1:Nat):Int),())) ?_).trans (e.trans (by simp))
 have e1:iLt 0 (lenI (a :: l))=true:=qah (by rw [qaa,List.length_cons];omega)
 have e2:inB 0 (a :: l).length=true:=qae (i:=0) (by simp)
 have e3:inB 0 (b :: m).length=true:=qae (i:=0) (by simp)
 simp only [qiu,e1,e2,e3,cond_true]
 rfl
theorem qape (a0 a1 a2 b0 b1 b2:Nat):qmw [a0,a1,a2] [b0,b1,b2]=some ((dotA (fMul .f32 a0 b0) [a1,a2] [b1,b2],()),()):=qae5 _ _ _ _ (by simp) (by simp)
end
section
abbrev TyMark:Ty:=.pair (.arr 3 (.int .i32)) (.pair (.arr 3 (.flt .f32)) (.pair (.flt .f32) (.pair (.int .i64) (.pair (.int .i64) .unit))))
abbrev TyMap:Ty:=.pair (.flt .f32) (.pair (.list TyMark) .unit)
abbrev DMark:=(Vec 3 Int)×((Vec 3 Nat)×(Nat×(Int×(Int×Unit))))
abbrev DMap:=Nat×((List DMark)×Unit)
def cmpI (a b:Vec 3 Int):Int :=
 bif iLt (Vec.getD 3 a 0 (0:Int)) (Vec.getD 3 b 0 (0:Int)) then -1 else bif iLt (Vec.getD 3 b 0 (0:Int)) (Vec.getD 3 a 0 (0:Int)) then 1 else
 bif iLt (Vec.getD 3 a 1 (0:Int)) (Vec.getD 3 b 1 (0:Int)) then -1 else bif iLt (Vec.getD 3 b 1 (0:Int)) (Vec.getD 3 a 1 (0:Int)) then 1 else
 bif iLt (Vec.getD 3 a 2 (0:Int)) (Vec.getD 3 b 2 (0:Int)) then -1 else bif iLt (Vec.getD 3 b 2 (0:Int)) (Vec.getD 3 a 2 (0:Int)) then 1 else 0
theorem qj5 (a b:Vec 3 Int):qgu a b=some ((cmpI a b,()),()):=by
 unfold qgu cmpI
 cases iLt (Vec.getD 3 a 0 (0:Int)) (Vec.getD 3 b 0 (0:Int)) <;> cases iLt (Vec.getD 3 b 0 (0:Int)) (Vec.getD 3 a 0 (0:Int)) <;> cases iLt (Vec.getD 3 a 1 (0:Int)) (Vec.getD 3 b 1 (0:Int)) <;> cases iLt (Vec.getD 3 b 1 (0:Int)) (Vec.getD 3 a 1 (0:Int)) <;> cases iLt (Vec.getD 3 a 2 (0:Int)) (Vec.getD 3 b 2 (0:Int)) <;> cases iLt (Vec.getD 3 b 2 (0:Int)) (Vec.getD 3 a 2 (0:Int)) <;> rfl
theorem qal0 (a b c x y z:Int):qin [a,b,c] [x,y,z]=some ((bif iLt a x then -1 else bif iLt x a then 1 else bif iLt b y then -1 else bif iLt y b then 1 else bif iLt c z then -1 else bif iLt z c then 1 else 0,()),()):=by
 have c1 : ∀ p q:Int,cmp_Compare_int32 p q=some ((bif iLt p q then -1 else bif iLt q p then 1 else 0,()),()):=fun p q=>by
  simp only [cmp_Compare_int32,cmp_isNaN_int32,qbt,Bool.not_true,cond_false,Option.bind_some]
  cases iLt p q <;> cases iLt q p <;> rfl
 have l3:lenI [a,b,c]=3:=rfl
 have m3:lenI [x,y,z]=3:=rfl
 have step : ∀ (i:Nat) (p q:Int),i<3→List.getD [a,b,c] i (0:Int)=p→List.getD [x,y,z] i (0:Int)=q→qb1 [a,b,c] [x,y,z] ((i:Int),())=bif iLt p q then some (.inr ((-1,()),())) else bif iLt q p then some (.inr ((1,()),())) else some (.inl (((i+1:Nat):Int),())):=fun i p q hi h1 h2=>by
  have e1:iLt (i:Int) 3=true:=qah (by omega)
  have e2:inB (i:Int) ([a,b,c]:List Int).length=true:=qae hi
  have e3:iLe 3 (i:Int)=false:=qb6 (by omega)
  have e4:inB (i:Int) ([x,y,z]:List Int).length=true:=qae hi
  have e5:iAdd .i64 (i:Int) 1=((i+1:Nat):Int):=qaq hi (by omega)
  have n1:iEq (-1) 0=false:=by decide
  have n2:iEq 1 0=false:=by decide
  simp only [qb1,l3,m3,e1,e2,e3,e4,e5,h1,h2,c1,Int.toNat_natCast,Option.bind_some,cond_true,cond_false]
  cases iLt p q <;> cases iLt q p <;> simp only [n1,n2,qbt,cond_true,cond_false,Bool.not_true,Bool.not_false] <;> rfl
 have s0:=step 0 a x (by omega) rfl rfl
 have s1:=step 1 b y (by omega) rfl rfl
 have s2:=step 2 c z (by omega) rfl rfl
 have s3:qb1 [a,b,c] [x,y,z] (((3:Nat):Int),())=some (.inr ((0,()),())):=by
  have e1:iLt ((3:Nat):Int) 3=false:=by decide
  have e2:iLt 3 3=false:=by decide
  simp only [qb1,l3,m3,e1,e2,cond_false]
  rfl
 show run (qb1 [a,b,c] [x,y,z]) (((0:Nat):Int),())=_
 cases h0:iLt a x with
 | true=>rw [h0] at s0;exact qai s0
 | false =>
  rw [h0] at s0
  cases h0':iLt x a with
  | true=>rw [h0'] at s0;exact qai s0
  | false =>
   rw [h0'] at s0
   rw [qaj s0]
   cases h1:iLt b y with
   | true=>rw [h1] at s1;exact qai s1
   | false =>
    rw [h1] at s1
    cases h1':iLt y b with
    | true=>rw [h1'] at s1;exact qai s1
    | false =>
     rw [h1'] at s1
     rw [qaj s1]
     cases h2:iLt c z with
     | true=>rw [h2] at s2;exact qai s2
     | false =>
      rw [h2] at s2
      cases h2':iLt z c with
      | true=>rw [h2'] at s2;exact qai s2
      | false =>
       rw [h2'] at s2
       rw [qaj s2]
       exact qai s3
theorem ql7 (a b:Vec 3 Int):qeh a b=some ((cmpI a b,()),()):=by
 simp only [qeh,qal0,Option.bind_some]
 rfl
theorem qzr (a b:Vec 3 Int):iLe (cmpI a b) 0=iLe 0 (cmpI b a):=by
 have no : ∀ p q:Int,iLt p q=true→iLt q p=true→False:=fun p q h1 h2=>by
  rw [qzv] at h1 h2;omega
 unfold cmpI
 generalize Vec.getD 3 a 0 (0:Int)=a0
 generalize Vec.getD 3 b 0 (0:Int)=b0
 generalize Vec.getD 3 a 1 (0:Int)=a1
 generalize Vec.getD 3 b 1 (0:Int)=b1
 generalize Vec.getD 3 a 2 (0:Int)=a2
 generalize Vec.getD 3 b 2 (0:Int)=b2
 cases h0:iLt a0 b0 <;> cases h0':iLt b0 a0 <;> simp only [cond_true,cond_false]
 ·cases h1:iLt a1 b1 <;> cases h1':iLt b1 a1 <;> simp only [cond_true,cond_false]
  ·cases h2:iLt a2 b2 <;> cases h2':iLt b2 a2 <;> first | rfl | exact (no _ _ h2 h2').elim
  ·rfl
  ·rfl
  ·exact (no _ _ h1 h1').elim
 ·rfl
 ·rfl
 ·exact (no _ _ h0 h0').elim
def markB (x:DMark):Bool:=finV x.2.1&&(sideB x.2.2.1&&((iLe 1 x.2.2.2.1&&iLe x.2.2.2.1 1000000)&&timeB x.2.2.2.2.1))
theorem qqg (x:DMark):qfk x=some ((markB x,()),()):=by
 simp only [qfk,qnz,qde,qg1,qcb,qhk,Option.bind_some,markB]
 cases finV x.2.1 <;> cases sideB x.2.2.1 <;> cases (iLe 1 x.2.2.2.1&&iLe x.2.2.2.1 1000000) <;> rfl
theorem qacm (x:DMark):qnl x=some ((markB x,()),()):=by
 simp only [qnl,quq,qcu,qcb,qgt,Option.bind_some,markB,sideB]
 cases finV x.2.1 <;> cases finB x.2.2.1 <;> cases fLt .f32 0 x.2.2.1 <;> cases (iLe 1 x.2.2.2.1&&iLe x.2.2.2.1 1000000) <;> rfl
abbrev zMark:DMark:=((0,0,0,()),(0,0,0,()),0,0,0,())
def markAt (l:List DMark) (i:Nat):Bool:=markB (l.getD i zMark)&&(bif Nat.beq i 0 then true else !iLe (cmpI (l.getD i zMark).1 (l.getD (i-1) zMark).1) 0)
def mapB (m:DMap):Bool:=sideB m.1&&(!iLt 200 (lenI m.2.1)&&(List.range m.2.1.length).all (markAt m.2.1))
theorem qid (m:DMap) (h:Sized TyMap m):qes m=some ((mapB m,()),()):=by
 have hl:m.2.1.length≤140737488355328:=h.2.1.1
 have r:run (qic m) ((0:Int),())=some (((List.range m.2.1.length).all (markAt m.2.1),()),()):=by
  refine qka (a:=List.range m.2.1.length) (fun i hi => ?_) ?_
  ·rw [List.length_range] at hi
   have e1:iLt (i:Int) (lenI m.2.1)=true:=qah (by rw [qaa];omega)
   have e2:inB (i:Int) m.2.1.length=true:=qae hi
   have e5:iAdd .i64 (i:Int) 1=((i+1:Nat):Int):=qaq hi (by omega)
   rw [List.getElem_range]
   simp only [qic,e1,e2,e5,Int.toNat_natCast,cond_true,qqg,Option.bind_some,markAt]
   cases markB (m.2.1.getD i zMark) with
   | false=>rfl
   | true =>
    cases i with
    | zero=>rfl
    | succ i =>
     have e3:iLt 0 ((i+1:Nat):Int)=true:=qah (by omega)
     have e4:iSub .i64 ((i+1:Nat):Int) 1=(i:Int):=by rw [qfi (by omega) (by omega)];omega
     have e6:inB (i:Int) m.2.1.length=true:=qae (by omega)
     have e7:Nat.beq (i+1) 0=false:=rfl
     have e8:i+1-1=i:=rfl
     simp only [e3,e4,e6,e7,e8,Int.toNat_natCast,ql7,Option.bind_some,cond_true,cond_false,Bool.not_true,Bool.true_and]
     cases iLe (cmpI (m.2.1.getD (i+1) zMark).1 (m.2.1.getD i zMark).1) 0 <;> rfl
  ·rw [List.length_range]
   have e1:iLt (m.2.1.length:Int) (lenI m.2.1)=false:=qag (by rw [qaa];omega)
   simp only [qic,e1,cond_false]
   rfl
 simp only [qes,qde,r,Option.bind_some,mapB]
 cases sideB m.1 <;> cases iLt 200 (lenI m.2.1) <;> rfl
theorem qiz (m:DMap) (h:Sized TyMap m):qfa m=some ((mapB m,()),()):=by
 have hl:m.2.1.length≤140737488355328:=h.2.1.1
 have r:run (qlj m) ((0:Int),())=some (((List.range m.2.1.length).all (markAt m.2.1),()),()):=by
  refine qka (a:=List.range m.2.1.length) (fun i hi => ?_) ?_
  ·rw [List.length_range] at hi
   have e1:iLt (i:Int) (lenI m.2.1)=true:=qah (by rw [qaa];omega)
   have e2:inB (i:Int) m.2.1.length=true:=qae hi
   have e5:iAdd .i64 (i:Int) 1=((i+1:Nat):Int):=qaq hi (by omega)
   rw [List.getElem_range]
   simp only [qlj,e1,e2,e5,Int.toNat_natCast,cond_true,qacm,Option.bind_some,markAt]
   cases markB (m.2.1.getD i zMark) with
   | false=>rfl
   | true =>
    cases i with
    | zero=>rfl
    | succ i =>
     have e3:iLt 0 ((i+1:Nat):Int)=true:=qah (by omega)
     have e4:iSub .i64 ((i+1:Nat):Int) 1=(i:Int):=by rw [qfi (by omega) (by omega)];omega
     have e6:inB (i:Int) m.2.1.length=true:=qae (by omega)
     have e7:Nat.beq (i+1) 0=false:=rfl
     have e8:i+1-1=i:=rfl
     simp only [e3,e4,e6,e7,e8,Int.toNat_natCast,qj5,← qzr,Option.bind_some,cond_true,cond_false,Bool.not_true,Bool.true_and]
     cases iLe (cmpI (m.2.1.getD (i+1) zMark).1 (m.2.1.getD i zMark).1) 0 <;> rfl
  ·rw [List.length_range]
   have e1:iLt (m.2.1.length:Int) (lenI m.2.1)=false:=qag (by rw [qaa];omega)
   simp only [qlj,e1,cond_false]
   rfl
 simp only [qfa,qnp,r,Option.bind_some,mapB]
 cases sideB m.1 <;> cases iLt 200 (lenI m.2.1) <;> rfl
end
section

end
section
theorem qx3 (a b:Ordering):((some a:Option Ordering)==some b)=(a==b):=by cases a <;> cases b <;> rfl
theorem qzi:FloatKind.f32.format.read 0 = .number false 0 (-149):=by decide
theorem qaen {x:Nat} (hf:finB x=true) (h:fLt .f32 0 x=true) : ∃ m p,FloatKind.f32.format.read x = .number false m p∧m≠0:=by
 obtain ⟨s,m,p,hd⟩:=qgb (k:=.f32) hf
 have hd':FloatKind.f32.format.read x = .number s m p:=hd
 unfold fLt Ieee.Format.order at h
 rw [qzi,hd'] at h
 simp only [Ieee.Datum.order,qx3] at h
 rw [qmk] at h
 have h:=of_decide_eq_true h
 cases s with
 | false =>
  refine ⟨m,p,hd',?_⟩
  rintro rfl
  simp [Ieee.signed] at h
 | true =>
  exfalso
  have h0:Ieee.signed false 0 (-149-min (-149) p).toNat=0:=by simp [Ieee.signed]
  have h1:Ieee.signed true m (p-min (-149) p).toNat≤0:=by
   unfold Ieee.signed
   rw [Nat.shiftLeft_eq]
   exact Int.neg_nonpos_of_nonneg (Int.natCast_nonneg _)
  omega
theorem qako {x m:Nat} {p:Int} (h:FloatKind.f32.format.read x = .number false m p) (hm:m≠0):fLt .f32 0 x=true:=by
 unfold fLt Ieee.Format.order
 rw [qzi,h]
 simp only [Ieee.Datum.order,qx3]
 rw [qmk]
 apply decide_eq_true
 have:0<m*2^(p-min (-149) p).toNat:=Nat.mul_pos (Nat.pos_of_ne_zero hm) (Nat.two_pow_pos _)
 have h0:Ieee.signed false 0 (-149-min (-149) p).toNat=0:=by simp [Ieee.signed]
 have h1:Ieee.signed false m (p-min (-149) p).toNat=((m*2^(p-min (-149) p).toNat:Nat):Int):=by
  unfold Ieee.signed
  rw [Nat.shiftLeft_eq]
  rfl
 rw [h0,h1]
 exact Int.ofNat_lt.2 this
theorem qam9 {m:Nat} {p:Int} (hm:m≠0) (hp : -149≤p):1≤rungOf FloatKind.f32.format m p:=by
 unfold rungOf
 rw [if_neg hm]
 simp only
 have hinf:1≤FloatKind.f32.format.infRung:=by decide
 have hbin:1≤FloatKind.f32.format.binade:=by decide
 have hL:FloatKind.f32.format.leastPlace = -149:=rfl
 rw [hL]
 refine Nat.le_min.2 ⟨?_,hinf⟩
 by_cases hl:max (p+(m.log2:Int)-FloatKind.f32.format.fractionBits) (-149) = -149
 ·rw [hl]
  rw [show (-149-p).toNat=0 by omega,qzs,Nat.shiftLeft_eq]
  have:0<m*2^(p - -149).toNat:=Nat.mul_pos (Nat.pos_of_ne_zero hm) (Nat.two_pow_pos _)
  omega
 ·have h1:1≤(max (p+(m.log2:Int)-FloatKind.f32.format.fractionBits) (-149) - -149).toNat:=by omega
  have:=Nat.mul_le_mul h1 hbin
  omega
theorem qab8 {x:Nat} {s:Bool} {m:Nat} {p:Int} (h:FloatKind.f32.format.read x = .number s m p) : -149≤p:=by
 have h:Ieee.single.read x = .number s m p:=h
 unfold Ieee.Format.read at h
 simp only at h
 have e3:Ieee.single.leastPlace = -149:=by decide
 rw [e3] at h
 split at h
 ·cases h
  omega
 ·split at h
  ·cases h
   omega
  ·split at h <;> cases h
theorem qafj {a b:Nat} (ha:finB a=true) (ha0:fLt .f32 0 a=true) (hb:finB b=true) (hb0:fLt .f32 0 b=true) (hs:finB (fAdd .f32 a b)=true):fLt .f32 0 (fAdd .f32 a b)=true:=by
 obtain ⟨m,p,hda,hm⟩:=qaen ha ha0
 obtain ⟨n,q,hdb,hn⟩:=qaen hb hb0
 have lp:=qab8 hda
 have lq:=qab8 hdb
 generalize hM:m*2^(p-min p q).toNat+n*2^(q-min p q).toNat=M
 have hM0:M≠0:=by
  have:0<m*2^(p-min p q).toNat:=Nat.mul_pos (Nat.pos_of_ne_zero hm) (Nat.two_pow_pos _)
  omega
 have e:fAdd .f32 a b=canon .f32 (FloatKind.f32.encode (.number false M (min p q))):=by
  unfold fAdd Ieee.Format.add
  rw [hda,hdb]
  have e:Ieee.signed false m (p-min p q).toNat+Ieee.signed false n (q-min p q).toNat=(M:Int):=by
   unfold Ieee.signed
   rw [Nat.shiftLeft_eq,Nat.shiftLeft_eq,← hM]
   simp
  simp only [Ieee.Datum.sum,Option.map_some,orNan,e,Int.natAbs_natCast]
  have hg:(if (M:Int)=0 then false&&false else decide ((M:Int)<0))=false:=by
   split
   ·rfl
   ·exact decide_eq_false (by omega)
  rw [hg]
  rfl
 have hn':isNan .f32 (FloatKind.f32.encode (.number false M (min p q)))=false:=qpv rfl
 rw [qao hn'] at e
 have e2:fAdd .f32 a b=FloatKind.f32.format.word false (rungOf FloatKind.f32.format M (min p q)):=e.trans (qkn _ _ _ _)
 have hr1:=qam9 hM0 (show -149≤min p q by omega)
 have hle:rungOf FloatKind.f32.format M (min p q)≤FloatKind.f32.format.infRung:=by
  unfold rungOf
  rw [if_neg hM0]
  exact Nat.min_le_right _ _
 generalize rungOf FloatKind.f32.format M (min p q)=r at e2 hr1 hle
 have hr:r<FloatKind.f32.format.infRung:=by
  rcases Nat.lt_or_ge r FloatKind.f32.format.infRung with h | h
  ·exact h
  ·exfalso
   have:r=FloatKind.f32.format.infRung:=by omega
   subst this
   rw [e2] at hs
   have hinf:finB (FloatKind.f32.format.word false FloatKind.f32.format.infRung)=false:=by kernel_rfl
   rw [hinf] at hs
   exact absurd hs (by decide)
 have hbin:FloatKind.f32.format.binade=8388608:=by decide
 obtain ⟨e',K,hK,hek,hK0⟩ : ∃ e' K,((e'=0∧K<FloatKind.f32.format.binade)∨(FloatKind.f32.format.binade≤K∧K<2*FloatKind.f32.format.binade))∧e'*FloatKind.f32.format.binade+K=r∧K≠0:=by
  rw [hbin]
  by_cases h:r<8388608
  ·exact ⟨0,r,.inl ⟨rfl,h⟩,by rw [Nat.zero_mul,Nat.zero_add],Nat.pos_iff_ne_zero.1 hr1⟩
  ·have hex : ∃ e':Nat,e'+1=r/8388608:=⟨r/8388608-1,Nat.sub_add_cancel (by omega)⟩
   obtain ⟨e',he'⟩:=hex
   have hex : ∃ K:Nat,K+e'*8388608=r:=⟨r-e'*8388608,Nat.sub_add_cancel (by omega)⟩
   obtain ⟨K,hK⟩:=hex
   exact ⟨e',K,Or.inr ⟨by omega,by omega⟩,by omega,by omega⟩
 have hread:=qak5 (f:=FloatKind.f32.format) (s:=false) hK (by rw [hek];exact hr)
 rw [hek,← e2] at hread
 exact qako hread hK0
def ltC (a b:Vec 3 Int):Prop:=a.1<b.1∨(a.1=b.1∧(a.2.1<b.2.1∨(a.2.1=b.2.1∧a.2.2.1<b.2.2.1)))
theorem ltC.trans {a b c:Vec 3 Int} (h:ltC a b) (h':ltC b c):ltC a c:=by
 unfold ltC at *
 omega
theorem qq9 {a b:Vec 3 Int} : iLt (cmpI a b) 0=true↔ltC a b:=by
 obtain ⟨a0,a1,a2,⟨⟩⟩:=a
 obtain ⟨b0,b1,b2,⟨⟩⟩:=b
 show iLt (bif iLt a0 b0 then -1 else bif iLt b0 a0 then 1 else bif iLt a1 b1 then -1 else bif iLt b1 a1 then 1 else bif iLt a2 b2 then -1 else bif iLt b2 a2 then 1 else 0) 0=true↔(a0<b0∨(a0=b0∧(a1<b1∨(a1=b1∧a2<b2))))
 have k : ∀ x y:Int,iLt x y=decide (x<y):=fun _ _=>rfl
 by_cases h0:a0<b0
 ·simp [k,h0]
 ·by_cases h0':b0<a0
  ·simp [k,h0,h0'];omega
  ·have e0:a0=b0:=by omega
   subst e0
   by_cases h1:a1<b1
   ·simp [k,h1]
   ·by_cases h1':b1<a1
    ·simp [k,h1,h1'];omega
    ·have e1:a1=b1:=by omega
     subst e1
     by_cases h2:a2<b2
     ·simp [k,h2]
     ·by_cases h2':b2<a2
      ·simp [k,h2,h2']
      ·simp [k,h2,h2']
theorem qah5 (a b:Vec 3 Int):ltC a b∨a=b∨ltC b a:=by
 obtain ⟨a0,a1,a2,⟨⟩⟩:=a
 obtain ⟨b0,b1,b2,⟨⟩⟩:=b
 show (a0<b0∨(a0=b0∧(a1<b1∨(a1=b1∧a2<b2))))∨((a0,a1,a2,()):Int×Int×Int×Unit)=(b0,b1,b2,())∨(b0<a0∨(b0=a0∧(b1<a1∨(b1=a1∧b2<a2))))
 simp only [Prod.mk.injEq,and_true]
 omega
theorem qaie {a b:Vec 3 Int} : (!iLe (cmpI b a) 0)=true↔ltC a b:=by
 rw [qzr]
 rw [← qq9]
 simp [iLe,iLt]
def Marks (l:List DMark):Prop:=(∀ x∈l,markB x=true)∧l.Pairwise fun a b=>ltC a.1 b.1
theorem qamj {m:DMap} : mapB m=true↔sideB m.1=true∧m.2.1.length≤200∧Marks m.2.1:=by
 unfold mapB
 simp only [Bool.and_eq_true,Bool.not_eq_true',List.all_eq_true,List.mem_range]
 have hlen:iLt 200 (lenI m.2.1)=false↔m.2.1.length≤200:=by
  rw [qaa];simp [iLt];omega
 rw [hlen]
 refine and_congr_right fun _=>and_congr_right fun _ => ?_
 generalize m.2.1=l
 constructor
 ·intro h
  have hm : ∀ i (hi:i<l.length),markB l[i]=true∧(0<i→ltC (l.getD (i-1) zMark).1 l[i].1):=by
   intro i hi
   have:=h i hi
   unfold markAt at this
   rw [Bool.and_eq_true,qan hi] at this
   refine ⟨this.1,fun h0 => ?_⟩
   have h2:=this.2
   have:Nat.beq i 0=false:=by
    cases i with
    | zero=>omega
    | succ n=>rfl
   rw [this] at h2
   exact qaie.1 h2
  refine ⟨fun x hx => ?_,?_⟩
  ·obtain ⟨i,hi,rfl⟩:=List.getElem_of_mem hx
   exact (hm i hi).1
  ·rw [List.pairwise_iff_getElem]
   have key : ∀ (d i:Nat) (h1:i+d+1<l.length),ltC (l[i]'(by omega)).1 l[i+d+1].1:=by
    intro d
    induction d with
    | zero =>
     intro i h1
     have:=(hm (i+0+1) h1).2 (by omega)
     rw [show i+0+1-1=i by omega,qan (by omega)] at this
     exact this
    | succ d ih =>
     intro i h1
     have h2:=(hm (i+(d+1)+1) h1).2 (by omega)
     rw [qan (by omega)] at h2
     have h3:=ih i (by omega)
     exact h3.trans (by simpa [show i+(d+1)+1-1=i+d+1 by omega] using h2)
   intro i j hi hj hij
   have:=key (j-i-1) i (by omega)
   have e:i+(j-i-1)+1=j:=by omega
   simpa [e] using this
 ·rintro ⟨h1,h2⟩ i hi
  unfold markAt
  rw [Bool.and_eq_true,qan hi]
  refine ⟨h1 _ (List.getElem_mem hi),?_⟩
  cases i with
  | zero=>rfl
  | succ n =>
   show (!iLe (cmpI l[n+1].1 (l.getD (n+1-1) zMark).1) 0)=true
   rw [show n+1-1=n by omega,qan (by omega)]
   exact qaie.2 (List.pairwise_iff_getElem.1 h2 n (n+1) (by omega) hi (by omega))
def placeN (l:List DMark) (c:Vec 3 Int):Nat:=(l.takeWhile fun y=>iLt (cmpI y.1 c) 0).length
def eqC (a c:Vec 3 Int):Bool:=iEq (Vec.getD 3 a 0 (0:Int)) (Vec.getD 3 c 0 (0:Int))&&(iEq (Vec.getD 3 a 1 (0:Int)) (Vec.getD 3 c 1 (0:Int))&&(iEq (Vec.getD 3 a 2 (0:Int)) (Vec.getD 3 c 2 (0:Int))&&true))
def foundB (l:List DMark) (c:Vec 3 Int):Bool:=bif iLt (placeN l c:Int) (l.length:Int) then eqC (l.getD (placeN l c) zMark).1 c else false
theorem qt3 {a c:Vec 3 Int} : eqC a c=true↔a=c:=by
 obtain ⟨a0,a1,a2,⟨⟩⟩:=a
 obtain ⟨b0,b1,b2,⟨⟩⟩:=c
 show (iEq a0 b0&&(iEq a1 b1&&(iEq a2 b2&&true)))=true↔((a0,a1,a2,()):Int×Int×Int×Unit)=(b0,b1,b2,())
 simp only [Bool.and_eq_true,Bool.and_true,qg3,Prod.mk.injEq,and_true]
theorem qwe {α:Type} (p:α→Bool) : ∀ l:List α,(l.takeWhile p).length≤l.length
 | []=>Nat.le_refl _
 | a :: l=>by
  rw [List.takeWhile_cons]
  split
  ·have:=qwe p l
   simp;omega
  ·simp
theorem qh1 (l:List DMark) (c:Vec 3 Int):placeN l c≤l.length:=qwe _ l
theorem qq0 : ∀ (l:List DMark) (c:Vec 3 Int) (i:Nat) (hi:i<placeN l c),iLt (cmpI (l[i]'(Nat.lt_of_lt_of_le hi (qh1 l c))).1 c) 0=true
 | [],_,_,hi=>by cases hi
 | a :: l,c,i,hi=>by
  cases h:iLt (cmpI a.1 c) 0 with
  | false =>
   exfalso
   unfold placeN at hi
   rw [List.takeWhile_cons,h] at hi
   exact absurd hi (by simp)
  | true =>
   cases i with
   | zero=>exact h
   | succ i =>
    have hi':i<placeN l c:=by
     unfold placeN at hi
     rw [List.takeWhile_cons,h] at hi
     simp at hi
     exact hi
    exact qq0 l c i hi'
theorem qo7 : ∀ (l:List DMark) (c:Vec 3 Int) (hi:placeN l c<l.length),iLt (cmpI (l[placeN l c]'hi).1 c) 0=false
 | [],_,hi=>by cases hi
 | a :: l,c,hi=>by
  cases h:iLt (cmpI a.1 c) 0 with
  | false =>
   have e:placeN (a :: l) c=0:=by
    unfold placeN
    rw [List.takeWhile_cons,h]
    rfl
   simp only [e]
   exact h
  | true =>
   have e:placeN (a :: l) c=placeN l c+1:=by
    unfold placeN
    rw [List.takeWhile_cons,h]
    rfl
   have hi':placeN l c<l.length:=by rw [e] at hi;simpa using hi
   simp only [e]
   exact qo7 l c hi'
theorem qtc {l:List DMark} (hl:l.length≤1000000) (c:Vec 3 Int):qnk l c=some (((placeN l c:Int),foundB l c,()),()):=by
 have hp:=qh1 l c
 unfold qnk
 have hend:qeq l c ((placeN l c:Int),())=some (.inr (((placeN l c:Int),foundB l c,()),())):=by
  unfold qeq foundB
  simp only [qaa,Int.toNat_natCast,qj5,Option.bind_some]
  by_cases h:placeN l c<l.length
  ·have e1:iLt (placeN l c:Int) (l.length:Int)=true:=qah (by omega)
   have e2:inB (placeN l c:Int) l.length=true:=qae h
   have e3:=qo7 l c h
   rw [← qan (d:=zMark) h] at e3
   rw [e1,e2,e3]
   rfl
  ·have e1:iLt (placeN l c:Int) (l.length:Int)=false:=qag (by omega)
   rw [e1]
   rfl
 have step : ∀ i:Nat,i<placeN l c→qeq l c ((i:Int),())=some (.inl (((i+1:Nat):Int),())):=by
  intro i hi
  have e1:iLt (i:Int) (lenI l)=true:=qah (by rw [qaa];omega)
  have e2:inB (i:Int) l.length=true:=qae (by omega)
  have e3:=qq0 l c i hi
  rw [← qan (d:=zMark) (by omega)] at e3
  have e5:iAdd .i64 (i:Int) 1=((i+1:Nat):Int):=(qdt (by omega) (by omega)).trans (by omega)
  unfold qeq
  simp only [Int.toNat_natCast,qj5,Option.bind_some]
  rw [e1,e2,e3,e5]
  rfl
 have key : ∀ (d i:Nat),i+d=placeN l c→run (qeq l c) ((i:Int),())=some (((placeN l c:Int),foundB l c,()),()):=by
  intro d
  induction d with
  | zero=>intro i e;rw [show i=placeN l c by omega];exact qai hend
  | succ d ih=>intro i e;rw [qaj (step i (by omega))];exact ih (i+1) (by omega)
 exact key (placeN l c) 0 (by omega)
theorem qy3 (a b:DMark) : ∃ v,qfl a b=some ((v,()),()):=by
 unfold qfl
 simp only [qgs,Option.bind_some]
 generalize iEq a.2.2.2.2.1 b.2.2.2.2.1=c1
 generalize fEq .f32 a.2.2.1 b.2.2.1=c2
 generalize iEq a.2.2.2.1 b.2.2.2.1=c3
 generalize fEq .f32 (Vec.getD 3 a.2.1 0 (0:Nat)) (Vec.getD 3 b.2.1 0 (0:Nat))=c4
 generalize fEq .f32 (Vec.getD 3 a.2.1 1 (0:Nat)) (Vec.getD 3 b.2.1 1 (0:Nat))=c5
 generalize fEq .f32 (Vec.getD 3 a.2.1 2 (0:Nat)) (Vec.getD 3 b.2.1 2 (0:Nat))=c6
 generalize sameN (Vec.getD 3 a.2.1 0 (0:Nat)) (Vec.getD 3 b.2.1 0 (0:Nat))=c7
 generalize sameN (Vec.getD 3 a.2.1 1 (0:Nat)) (Vec.getD 3 b.2.1 1 (0:Nat))=c8
 generalize sameN (Vec.getD 3 a.2.1 2 (0:Nat)) (Vec.getD 3 b.2.1 2 (0:Nat))=c9
 cases c1 <;> cases c2 <;> cases c3 <;> cases c4 <;> cases c5 <;> cases c6 <;> cases c7 <;> cases c8 <;> cases c9 <;> exact ⟨_,rfl⟩
theorem qapd {l:List DMark} (hl:l.length≤1000) (x:DMark) : ∃ l',qdl l x=some ((l',()),())∧l'.length≤l.length+1∧(Marks l→markB x=true→Marks l'):=by
 have hp:=qh1 l x.1
 obtain ⟨b,hb⟩:=qy3 x (l.getD (placeN l x.1) zMark)
 have e1:inS 0 (placeN l x.1:Int) l.length=true:=by unfold inS;simp;omega
 have et:takeL l (placeN l x.1:Int)=l.take (placeN l x.1):=by unfold takeL;rw [Int.toNat_natCast]
 have hlt:(l.take (placeN l x.1)).length=placeN l x.1:=by rw [List.length_take];omega
 have r1:room (0+(l.take (placeN l x.1)).length) 48=true:=qa2 (by omega)
 have r2:room ((l.take (placeN l x.1)).length+1) 48=true:=qa2 (by omega)
 have e2:inS (placeN l x.1:Int) (lenI l) l.length=true:=by unfold inS;rw [qaa];simp;omega
 have ed:dropL l (placeN l x.1:Int)=l.drop (placeN l x.1):=by unfold dropL;rw [Int.toNat_natCast]
 have hld:(l.drop (placeN l x.1)).length=l.length-placeN l x.1:=List.length_drop
 have hlow : ∀ y∈l.take (placeN l x.1),ltC y.1 x.1:=by
  intro y hy
  obtain ⟨i,hi,rfl⟩:=List.getElem_of_mem hy
  rw [List.getElem_take]
  exact qq9.1 (qq0 l x.1 i (by omega))
 unfold qdl
 rw [qtc (by omega)]
 simp only [Option.bind_some]
 rw [e1,et,r1]
 simp only [cond_true,List.nil_append]
 cases hf:foundB l x.1 with
 | true =>
  have hi:placeN l x.1<l.length:=by
   rcases Nat.lt_or_ge (placeN l x.1) l.length with h | h
   ·exact h
   ·unfold foundB at hf
    rw [qag (by omega)] at hf
    cases hf
  have hc:(l[placeN l x.1]).1=x.1:=by
   unfold foundB at hf
   rw [qah (by omega),qan hi] at hf
   exact qt3.1 hf
  have e3:inB (placeN l x.1:Int) l.length=true:=qae hi
  have e5:iAdd .i64 (placeN l x.1:Int) 1=((placeN l x.1+1:Nat):Int):=(qdt (by omega) (by omega)).trans (by omega)
  have e6:inS ((placeN l x.1+1:Nat):Int) (lenI l) l.length=true:=by unfold inS;rw [qaa];simp;omega
  have ed1:dropL l ((placeN l x.1+1:Nat):Int)=l.drop (placeN l x.1+1):=by unfold dropL;rw [Int.toNat_natCast]
  have hld1:(l.drop (placeN l x.1+1)).length=l.length-(placeN l x.1+1):=List.length_drop
  have hsplit:l=l.take (placeN l x.1)++l[placeN l x.1] :: l.drop (placeN l x.1+1):=by
   rw [List.getElem_cons_drop,List.take_append_drop]
  simp only [cond_true,Int.toNat_natCast]
  rw [e3,hb,e2,ed,e5,e6,ed1]
  have r3:room ((l.take (placeN l x.1)++[x]).length+(l.drop (placeN l x.1+1)).length) 48=true:=qa2 (by rw [List.length_append,hlt,hld1];simp;omega)
  have r4:room ((l.take (placeN l x.1)).length+(l.drop (placeN l x.1)).length) 48=true:=qa2 (by omega)
  rw [r2,r3,r4]
  simp only [cond_true,Option.bind_some]
  cases b with
  | true =>
   refine ⟨_,rfl,by rw [List.length_append,List.length_append,hlt,hld1];simp;omega,fun hm hx => ?_⟩
   obtain ⟨m1,m2⟩:=hm
   have m2':=m2
   rw [hsplit] at m2'
   refine ⟨fun y hy => ?_,?_⟩
   ·rw [List.append_assoc] at hy
    rcases List.mem_append.1 hy with h | h
    ·exact m1 y (List.mem_of_mem_take h)
    ·rcases List.mem_cons.1 h with h | h
     ·rw [h];exact hx
     ·exact m1 y (List.mem_of_mem_drop h)
   ·rw [List.append_assoc]
    rw [List.pairwise_append] at m2' ⊢
    obtain ⟨p1,p2,p3⟩:=m2'
    rw [List.pairwise_cons] at p2
    refine ⟨p1,List.pairwise_cons.2 ⟨fun y hy=>hc▸p2.1 y hy,p2.2⟩,fun a ha y hy => ?_⟩
    rcases List.mem_cons.1 hy with h | h
    ·rw [h];exact hlow a ha
    ·exact p3 a ha y (List.mem_cons_of_mem _ h)
  | false =>
   refine ⟨_,rfl,by rw [List.take_append_drop];omega,fun hm hx => ?_⟩
   rw [List.take_append_drop]
   exact hm
 | false =>
  simp only [cond_false]
  have r3:room ((l.take (placeN l x.1)++[x]).length+(l.drop (placeN l x.1)).length) 48=true:=qa2 (by rw [List.length_append,hlt,hld];simp;omega)
  rw [r2,e2,ed,r3]
  simp only [cond_true]
  refine ⟨_,rfl,by rw [List.length_append,List.length_append,hlt,hld];simp;omega,fun hm hx => ?_⟩
  obtain ⟨m1,m2⟩:=hm
  have m2':=m2
  rw [← List.take_append_drop (placeN l x.1) l] at m2'
  have hup : ∀ y∈l.drop (placeN l x.1),ltC x.1 y.1:=by
   intro y hy
   have hi:placeN l x.1<l.length:=by
    have:=List.length_pos_of_mem hy
    omega
   have h0:ltC x.1 (l[placeN l x.1]).1:=by
    have e3:=qo7 l x.1 hi
    rcases qah5 (l[placeN l x.1]).1 x.1 with h | h | h
    ·rw [qq9.2 h] at e3;cases e3
    ·exfalso
     unfold foundB at hf
     rw [qah (by omega),qan hi] at hf
     simp only [cond_true] at hf
     rw [qt3.2 h] at hf
     cases hf
    ·exact h
   obtain ⟨i,hi',rfl⟩:=List.getElem_of_mem hy
   rw [List.getElem_drop]
   cases i with
   | zero=>simpa using h0
   | succ i =>
    refine h0.trans (List.pairwise_iff_getElem.1 m2 _ _ hi (by omega) (by omega))
  refine ⟨fun y hy => ?_,?_⟩
  ·rw [List.append_assoc] at hy
   rcases List.mem_append.1 hy with h | h
   ·exact m1 y (List.mem_of_mem_take h)
   ·rcases List.mem_cons.1 h with h | h
    ·rw [h];exact hx
    ·exact m1 y (List.mem_of_mem_drop h)
  ·rw [List.append_assoc]
   rw [List.pairwise_append] at m2' ⊢
   obtain ⟨p1,p2,p3⟩:=m2'
   refine ⟨p1,List.pairwise_cons.2 ⟨hup,p2⟩,fun a ha y hy => ?_⟩
   rcases List.mem_cons.1 hy with h | h
   ·rw [h];exact hlow a ha
   ·exact p3 a ha y h
theorem qalz {side:Nat} {v:Vec 3 Nat} (h:iEq (cellF side v).2.1 0=true):finV v=true:=by
 unfold cellF at h
 cases hv:finV v with
 | true=>rfl
 | false =>
  rw [hv,Bool.and_false] at h
  have h':iEq (2:Int) 0=true:=h
  exact absurd h' (by decide)
abbrev DSeen:=DMap×(Vec 3 Int)×Bool×Int×Unit
theorem qadf (a b:Int):qla a b=some ((min a b,()),()):=by
 unfold qla
 by_cases h:a<b
 ·rw [qah h];simp only [cond_true];rw [Int.min_def,if_pos (by omega)]
 ·rw [qag h];simp only [cond_false];rw [Int.min_def];split
  ·rename_i h1;have:a=b:=by omega
   rw [this]
  ·rfl
end
end Go.Proofs.YtjhdoneobdbeaaaGreatDoor
