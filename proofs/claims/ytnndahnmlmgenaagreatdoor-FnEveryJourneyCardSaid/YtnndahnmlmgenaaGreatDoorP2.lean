import Derived.Test.YtnndahnmlmgenaaGreatDoorP1
/- Functions of the program and of the reference in plain terms. -/
set_option linter.unusedSectionVars false
set_option linter.unusedSimpArgs false
set_option linter.unusedVariables false
namespace Go.Proofs.YtnndahnmlmgenaaGreatDoor
open Go Go.Tm
section
theorem quy {a:Nat} (h:goodN a):a<4294967296:=(qadg h).1
theorem qsv (a:Nat):(hex8 a).length=8:=qed 8 _
def vecT (v:Vec 3 Nat):List UInt8:=hex8 v.1++[32]++hex8 v.2.1++[32]++hex8 v.2.2.1
theorem qxi (v:Vec 3 Nat):vecT v=joinC 32 (vecW v):=by
 unfold vecT vecW
 simp [joinC]
theorem qoc (v:Vec 3 Nat):(vecT v).length=26:=by
 unfold vecT
 simp [qsv]
theorem qbc {a b:List UInt8} (h:a.length+b.length≤1000000000):strRoom a b=true:=qah7 (by omega)
theorem qhy {n:Int} (h : -999999999≤n) (h1:n≤999999999):(Lib.itoa n).length≤20:=by
 have hd : ∀ u:Nat,u≤999999999→(Lib.decDigits u).length≤19:=fun u hu=>(qky 18 u (Nat.lt_of_le_of_lt hu (by decide))).2.2.1
 by_cases h0:0≤n
 ·rw [qaes h0]
  have:=hd n.toNat (by omega)
  omega
 ·obtain ⟨u,rfl⟩ : ∃ u:Nat,n = -(u:Int):=⟨n.natAbs,by omega⟩
  rw [Lib.itoa_neg u (by omega)]
  have:=hd u (by omega)
  simp
  omega
theorem qaei {e:DEntry} (h:e.1=2):entL e=wMov++[32]++vecT e.2.1:=by
 unfold entL entW
 rw [qbx (a:=e.1) (b:=1) (by omega),qng (a:=e.1) (b:=2) h]
 simp only [cond_true,cond_false]
 rw [qxi]
 unfold vecW
 simp [joinC]
theorem qz5 {e:DEntry} (h:e.1=3):entL e=wFi++[32]++Lib.itoa e.2.2.1.1++[32]++Lib.itoa e.2.2.1.2.1++[32]++Lib.itoa e.2.2.1.2.2.1:=by
 unfold entL entW
 rw [qbx (a:=e.1) (b:=1) (by omega),qbx (a:=e.1) (b:=2) (by omega),qng (a:=e.1) (b:=3) h]
 simp only [cond_true,cond_false]
 simp [joinC]
theorem qacz {e:DEntry} (h:e.1=4):entL e=wRan++[32]++Lib.itoa e.2.2.2.1++[32]++hex8 e.2.2.2.2.1:=by
 unfold entL entW
 rw [qbx (a:=e.1) (b:=1) (by omega),qbx (a:=e.1) (b:=2) (by omega),qbx (a:=e.1) (b:=3) (by omega)]
 simp only [cond_false]
 simp [joinC]
theorem qaeh {e:DEntry} (h:e.1=1):entL e=wTick:=by
 unfold entL entW
 rw [qng (a:=e.1) (b:=1) h]
 rfl
theorem qaeq (a:Int) (v:Vec 3 Nat):headL a v=wLog++[32]++Lib.itoa a++[32]++vecT v:=by
 unfold headL
 rw [qxi]
 unfold vecW
 simp [joinC]
theorem qagd (v:Vec 3 Nat):beaL v=wBea++[32]++vecT v:=by
 unfold beaL
 rw [qxi]
 unfold vecW
 simp [joinC]
theorem qvn (A B:List (List UInt8)):linesT (A++B)=linesT A++linesT B:=by unfold linesT;rw [List.flatMap_append]
theorem qahp (x:List UInt8):linesT [x]=x++[10]:=by unfold linesT;simp
end
section
theorem qafr (a b:List UInt8):bytesOf (a++b)=bytesOf a++bytesOf b:=List.map_append
theorem qae0 (t:List UInt8):ofBytes (bytesOf t)=t:=by
 unfold ofBytes bytesOf
 rw [List.map_map]
 exact (List.map_congr_left fun b _=>qxh b).trans (List.map_id _)
theorem qlr {t s:List UInt8} (h:t.length+s.length≤1000000000):qap ((),bytesOf t,()) s=some ((lenI s,true,()),(((),bytesOf (t++s),()),())):=by
 unfold qap qfd
 simp only [Option.bind_some]
 have:room (List.length (bytesOf t)+List.length (bytesOf s)) 1=true:=by unfold room bytesOf;simp;omega
 rw [this,qafr]
 rfl
theorem qag9 {s:List UInt8} (h:s.length≤1000000000):qap ((),[],()) s=some ((lenI s,true,()),(((),bytesOf s,()),())):=qlr (t:=[]) (by simpa using h)
theorem qanc {t:List UInt8} (h:t≠[]) (h1:t.length≤1000000000):bldStr ((),bytesOf t,())=some t:=by
 have e1:Nat.ble 1 (List.length (bytesOf t))=true:=by
  rw [Nat.ble_eq];unfold bytesOf;rw [List.length_map]
  exact List.length_pos_iff.2 h
 have e2:Nat.ble (List.length (bytesOf t)) 140737488355328=true:=by rw [Nat.ble_eq];unfold bytesOf;rw [List.length_map];omega
 unfold bldStr
 simp only
 rw [e1,e2,qae0]
 rfl
theorem qoj {a:Nat} (h:fltFit .f32 a):goodN a:=by
 obtain ⟨hc,hl⟩:=h
 have hl:a<4294967296:=hl
 have hb:bitsOf a=a:=by
  unfold bitsOf
  split
  ·rfl
  ·rename_i hn
   rw [qne] at hn
   have hn:isNan .f32 a=true:=by simpa using hn
   unfold canon at hc
   rw [hn] at hc
   exact hc
 unfold goodN hex8
 rw [hb,qajs hl,hc,if_pos hb]
theorem qwj {v:Vec 3 Nat} (h:FitVec (fltFit .f32) 3 v):goodV v:=⟨qoj h.1,qoj h.2.1,qoj h.2.2.1⟩
theorem qadv (a b c:Nat) (ha:a<4294967296) (hb:b<4294967296) (hc:c<4294967296):qa5 [a,b,c]=some ((hex8 a++[32]++hex8 b++[32]++hex8 c,()),()):=by
 have l1 : ∀ x,(hex8 x).length=8:=fun x=>qed 8 _
 have s0:qa2 [a,b,c] ([],0,())=some (.inl ([hex8 a],1,())):=by
  unfold qa2
  have e:=qdc ha
  have g:List.getD [a,b,c] (Int.toNat 0) 0=a:=rfl
  simp only
  rw [g,e]
  rfl
 have s1:qa2 [a,b,c] ([hex8 a],1,())=some (.inl ([hex8 a,hex8 b],2,())):=by
  unfold qa2
  have e:=qdc hb
  have g:List.getD [a,b,c] (Int.toNat 1) 0=b:=rfl
  simp only
  rw [g,e]
  rfl
 have s2:qa2 [a,b,c] ([hex8 a,hex8 b],2,())=some (.inl ([hex8 a,hex8 b,hex8 c],3,())):=by
  unfold qa2
  have e:=qdc hc
  have g:List.getD [a,b,c] (Int.toNat 2) 0=c:=rfl
  simp only
  rw [g,e]
  rfl
 have hj:Lib.join [hex8 a,hex8 b,hex8 c] [32]=hex8 a++[32]++hex8 b++[32]++hex8 c:=by
  simp [Lib.join_cons,Lib.joinTail]
 have e:strings_Join [hex8 a,hex8 b,hex8 c] [32]=some ((hex8 a++[32]++hex8 b++[32]++hex8 c,()),()):=by
  unfold strings_Join
  rw [hj]
  have:Nat.ble (hex8 a++[32]++hex8 b++[32]++hex8 c).length 140737488355328=true:=by rw [Nat.ble_eq];simp [l1]
  rw [this]
  rfl
 unfold qa5
 rw [qao s0,qao s1,qao s2]
 refine qa9 ?_
 unfold qa2
 simp only
 rw [e]
 rfl
theorem qmb {v:Vec 3 Nat} (h:goodV v):qg8 v=some ((vecT v,()),()):=by
 unfold qg8
 have v0:Vec.getD 3 v 0 (0:Nat)=v.1:=rfl
 have v1:Vec.getD 3 v 1 (0:Nat)=v.2.1:=rfl
 have v2:Vec.getD 3 v 2 (0:Nat)=v.2.2.1:=rfl
 rw [v0,v1,v2,qadv _ _ _ (quy h.1) (quy h.2.1) (quy h.2.2)]
 rfl
theorem qg9 {n:Int} (h : -32768≤n) (h1:n≤32767):qde n=some ((Lib.itoa n,()),()):=by
 have w0:iWrap .i64 n=n:=qvk (by omega) (by omega)
 unfold qde qby
 have e:(iEq 10 10&&(iLe (-9223372036854775808) (iWrap .i64 n)&&iLe (iWrap .i64 n) 9223372036854775807))=true:=by
  rw [w0,qds (by omega),qds (by omega)];rfl
 rw [e,w0]
 rfl
theorem qaas {a:Int} {v:Vec 3 Nat} {B:List (Vec 3 Nat)} {E:List DEntry} (hb6:B.length≤6) {j:Nat} (hjE:j<E.length) (hl:E.length≤1200) (hv:entryB (lenI B) E[j]=true) (hg:goodE E[j]) {out:List UInt8} (ho:out.length≤1000000) :
  qda (a,v,B,E,()) ((j:Int),((),bytesOf out,()),())=some (.inl (((j+1:Nat):Int),((),bytesOf (out++(entL E[j]++[10])),()),())):=by
 have e1:iLt (j:Int) (lenI E)=true:=qan (by rw [qac];omega)
 have e2:inB (j:Int) E.length=true:=qaj hjE
 have e5:iAdd .i64 (j:Int) 1=((j+1:Nat):Int):=qaw hjE (by omega)
 have hgd:List.getD E (j:Int).toNat ((0,(0,0,0,()),(0,0,0,()),0,0,()):DEntry)=E[j]:=by rw [Int.toNat_natCast];exact qbd hjE
 unfold qda
 simp only
 rw [e1,e2,hgd,e5]
 generalize E[j]=e at hv hg
 simp only [cond_true]
 rcases qe8 hv with h | ⟨u,h,-⟩ | ⟨c,h⟩ | ⟨k,x,h,k0,k1,-⟩
 ·have q:e.1=1:=congrArg (fun z:DEntry=>z.1) h
  rw [qng (a:=e.1) (b:=1) q,qaeh q]
  simp only [cond_true]
  rw [qlr (by simp;omega)]
  rfl
 ·have q:e.1=2:=congrArg (fun z:DEntry=>z.1) h
  have g:=qmb (hg.1 q)
  have hlv:=qoc e.2.1
  rw [qbx (a:=e.1) (b:=1) (by omega),qng (a:=e.1) (b:=2) q,g,qaei q]
  simp only [cond_true,cond_false,Option.bind_some]
  rw [qbc (by rw [hlv];simp),qbc (by unfold strCat;simp [hlv])]
  simp only [cond_true]
  rw [qlr (by unfold strCat;simp [hlv];omega)]
  rfl
 ·have q:e.1=3:=congrArg (fun z:DEntry=>z.1) h
  obtain ⟨g0,g1,g2⟩:=hg.2.1 q
  have v0:Vec.getD 3 e.2.2.1 0 (0:Int)=e.2.2.1.1:=rfl
  have v1:Vec.getD 3 e.2.2.1 1 (0:Int)=e.2.2.1.2.1:=rfl
  have v2:Vec.getD 3 e.2.2.1 2 (0:Int)=e.2.2.1.2.2.1:=rfl
  have q1:iEq e.1 1=false:=qbx (by omega)
  have q2:iEq e.1 2=false:=qbx (by omega)
  have q3:iEq e.1 3=true:=qng q
  rw [qz5 q,v0,v1,v2,q1,q2,q3]
  generalize e.2.2.1.1=c0 at g0
  generalize e.2.2.1.2.1=c1 at g1
  generalize e.2.2.1.2.2.1=c2 at g2
  have m0:=qhy (n:=c0) (by omega) (by omega)
  have m1:=qhy (n:=c1) (by omega) (by omega)
  have m2:=qhy (n:=c2) (by omega) (by omega)
  rw [qg9 g0.1 g0.2,qg9 g1.1 g1.2,qg9 g2.1 g2.2]
  simp only [cond_true,cond_false,Option.bind_some]
  rw [qbc (by simp;omega),qbc (by unfold strCat;simp;omega)]
  simp only [cond_true]
  rw [qbc (by unfold strCat;simp;omega),qbc (by unfold strCat;simp;omega)]
  simp only [cond_true]
  rw [qbc (by unfold strCat;simp;omega),qbc (by unfold strCat;simp;omega)]
  simp only [cond_true]
  rw [qlr (by unfold strCat;simp;omega)]
  rfl
 ·have q:e.1=4:=congrArg (fun z:DEntry=>z.1) h
  have qk:e.2.2.2.1=k:=congrArg (fun z:DEntry=>z.2.2.2.1) h
  have hk:k≤999:=by rw [qac,qlu (by omega) (by omega)] at k1;omega
  have g:=hg.2.2 q
  have e1:qdk e.2.2.2.2.1=some ((hex8 e.2.2.2.2.1,()),()):=qdc (quy g)
  have hl:=qsv e.2.2.2.2.1
  have hd:=qhb (n:=e.2.2.2.1) (by omega) (by omega)
  have m0:=qhy (n:=e.2.2.2.1) (by omega) (by omega)
  rw [qbx (a:=e.1) (b:=1) (by omega),qbx (a:=e.1) (b:=2) (by omega),qbx (a:=e.1) (b:=3) (by omega),qng (a:=e.1) (b:=4) q,hd,e1,qacz q]
  simp only [cond_true,cond_false,Option.bind_some]
  rw [qbc (by simp;omega),qbc (by unfold strCat;simp;omega)]
  simp only [cond_true]
  rw [qbc (by unfold strCat;simp;omega),qbc (by unfold strCat;simp;omega)]
  simp only [cond_true]
  rw [qlr (by unfold strCat;simp;omega)]
  rfl
theorem qagf {n:Int} {e:DEntry} (hn:0≤n) (hn1:n≤1000) (hv:entryB n e=true) (hg:goodE e):(entL e).length≤100:=by
 rcases qe8 hv with h | ⟨v,h,-⟩ | ⟨c,h⟩ | ⟨k,a,h,k0,k1,-⟩
 ·have q:e.1=1:=congrArg (fun z:DEntry=>z.1) h
  rw [qaeh q];decide
 ·have q:e.1=2:=congrArg (fun z:DEntry=>z.1) h
  have hl:=qoc e.2.1
  rw [qaei q];simp [hl,wMov]
 ·have q:e.1=3:=congrArg (fun z:DEntry=>z.1) h
  obtain ⟨g0,g1,g2⟩:=hg.2.1 q
  rw [qz5 q]
  have m0:=qhy (n:=e.2.2.1.1) (by omega) (by omega)
  have m1:=qhy (n:=e.2.2.1.2.1) (by omega) (by omega)
  have m2:=qhy (n:=e.2.2.1.2.2.1) (by omega) (by omega)
  simp [wFi];omega
 ·have q:e.1=4:=congrArg (fun z:DEntry=>z.1) h
  have qk:e.2.2.2.1=k:=congrArg (fun z:DEntry=>z.2.2.2.1) h
  have hk:k≤999:=by rw [qlu (by omega) (by omega)] at k1;omega
  have hl:=qsv e.2.2.2.2.1
  have m0:=qhy (n:=e.2.2.2.1) (by omega) (by omega)
  rw [qacz q];simp [wRan,hl];omega
theorem qaaf {l:DLog} (hs:Sized TyLog l) (hg:goodL l):qg4 l=some ((bif logB l then logT l else [],()),()):=by
 have hval:=qft l hs
 cases hv:logB l with
 | false =>
  unfold qg4
  rw [hval,hv]
  rfl
 | true =>
 obtain ⟨a,v,B,E,⟨⟩⟩:=l
 have hv':=hv
 unfold logB frameB at hv'
 simp only [Bool.and_eq_true,List.all_eq_true,qdj,qac] at hv'
 obtain ⟨⟨⟨ha0,ha1⟩,-,hb6,-⟩,he1200,heach⟩:=hv'
 obtain ⟨gv,gB,gE⟩:=hg
 simp only at gv gB gE heach he1200 hb6 ha0 ha1
 have hd:=qhb (n:=a) (by omega) (by omega)
 have m0:=qhy (n:=a) (by omega) (by omega)
 have e1:=qmb gv
 have hl:=qoc v
 have hnl : ∀ x:List UInt8,x++[10]≠[]:=fun x=>by simp
 have phase2 : ∀ (d j:Nat) (out:List UInt8),j+d=E.length→out≠[]→out.length≤10000+200*j→run (qda (a,v,B,E,())) ((j:Int),((),bytesOf out,()),())=some ((out++linesT ((E.drop j).map entL),()),()):=by
  intro d
  induction d with
  | zero =>
   intro j out hj hne ho
   have e1:iLt (j:Int) (lenI E)=false:=qas (by rw [qac];omega)
   rw [List.drop_eq_nil_of_le (by omega)]
   refine qa9 ?_
   unfold qda
   simp only
   rw [e1]
   simp only [cond_false]
   rw [qanc hne (by omega)]
   simp [linesT]
  | succ d ih =>
   intro j out hj hne ho
   have hjE:j<E.length:=by omega
   have k2:=qagf (n:=lenI B) (by rw [qac];omega) (by rw [qac];omega) (by rw [qac];exact heach _ (List.getElem_mem hjE)) (gE _ (List.getElem_mem hjE))
   have st:=qaas (a:=a) (v:=v) (B:=B) (E:=E) (by omega) hjE (by omega) (by rw [qac];exact heach _ (List.getElem_mem hjE)) (gE _ (List.getElem_mem hjE)) (out:=out) (by omega)
   rw [qao st,ih (j+1) _ (by omega) (by simp) (by simp;omega)]
   have hd:E.drop j=E[j] :: E.drop (j+1):=List.drop_eq_getElem_cons hjE
   rw [hd,List.map_cons]
   have e:linesT (entL E[j] :: (E.drop (j+1)).map entL)=(entL E[j]++[10])++linesT ((E.drop (j+1)).map entL):=by unfold linesT;rw [List.flatMap_cons]
   rw [e]
   simp
 have phase1 : ∀ (d i:Nat) (out:List UInt8),i+d=B.length→out≠[]→out.length≤1000+200*i→run (qeo (a,v,B,E,())) ((i:Int),((),bytesOf out,()),())=some ((out++linesT ((B.drop i).map beaL)++linesT (E.map entL),()),()):=by
  intro d
  induction d with
  | zero =>
   intro i out hi hne ho
   have e1:iLt (i:Int) (lenI B)=false:=qas (by rw [qac];omega)
   have:=phase2 E.length 0 out (by omega) hne (by omega)
   rw [List.drop_zero] at this
   rw [List.drop_eq_nil_of_le (by omega)]
   have hz:linesT (List.map beaL [])=[]:=rfl
   rw [hz,List.append_nil,← this]
   rw [qabb]
   have:qeo (a,v,B,E,()) ((i:Int),((),bytesOf out,()),())=Option.map Sum.inr (run (qda (a,v,B,E,())) ((0:Int),((),bytesOf out,()),())):=by
    unfold qeo
    simp only
    rw [e1]
    rfl
   rw [this]
   have c0:((0:Nat):Int)=0:=rfl
   rw [c0]
   cases run (qda (a,v,B,E,())) ((0:Int),((),bytesOf out,()),()) <;> rfl
  | succ d ih =>
   intro i out hi hne ho
   have hiB:i<B.length:=by omega
   have e1:iLt (i:Int) (lenI B)=true:=qan (by rw [qac];omega)
   have e2:inB (i:Int) B.length=true:=qaj hiB
   have e5:iAdd .i64 (i:Int) 1=((i+1:Nat):Int):=qaw hiB (by omega)
   have k1:=qmb (gB _ (List.getElem_mem hiB))
   have hvl:=qoc B[i]
   have hgd:List.getD B (i:Int).toNat ((0,0,0,()):Vec 3 Nat)=B[i]:=by rw [Int.toNat_natCast];exact qbd hiB
   have st:qeo (a,v,B,E,()) ((i:Int),((),bytesOf out,()),())=some (.inl (((i+1:Nat):Int),((),bytesOf (out++(beaL B[i]++[10])),()),())):=by
    unfold qeo
    simp only
    rw [e1,e2,hgd,k1,e5]
    simp only [cond_true,Option.bind_some]
    rw [qbc (by simp [hvl]),qbc (by unfold strCat;simp [hvl]),qagd]
    simp only [cond_true]
    rw [qlr (by unfold strCat;simp [hvl];omega)]
    rfl
   rw [qao st,ih (i+1) _ (by omega) (by simp) (by rw [qagd];simp [wBea,hvl];omega)]
   have hd:B.drop i=B[i] :: B.drop (i+1):=List.drop_eq_getElem_cons hiB
   rw [hd,List.map_cons]
   have e:linesT (beaL B[i] :: (B.drop (i+1)).map beaL)=(beaL B[i]++[10])++linesT ((B.drop (i+1)).map beaL):=by unfold linesT;rw [List.flatMap_cons]
   rw [e]
   simp
 have:=phase1 B.length 0 (headL a v++[10]) (by omega) (by simp) (by rw [qaeq];simp [wLog,hl];omega)
 rw [List.drop_zero] at this
 have hlog:logT (a,v,B,E,())=headL a v++[10]++linesT (B.map beaL)++linesT (E.map entL):=by
  unfold logT logL
  show linesT ([headL a v]++(B.map beaL++E.map entL))=_
  rw [qvn,qvn,qahp]
  simp
 rw [cond_true,hlog,← this]
 unfold qg4
 rw [hval,hv]
 simp only [Option.bind_some,Bool.not_true,cond_false]
 rw [hd]
 simp only [Option.bind_some]
 rw [qbc (by simp;omega),qbc (by unfold strCat;simp;omega),e1]
 simp only [Option.bind_some,cond_true]
 rw [qbc (by unfold strCat;simp [hl];omega),qbc (by unfold strCat;simp [hl];omega),qaeq]
 simp only [cond_true]
 rw [qag9 (by unfold strCat;simp [hl];omega)]
 rfl
end
section
theorem qoy (a b c d e f:Nat):qaf [a,b,c,d,e,f]=some ((([a,b,c,d,e,f]:List Nat).all finB,()),()):=qb5 _ (by simp)
theorem qxm (c b:Bool):(bif !c then some (((false,()),()):(Bool×Unit)×Unit) else some ((b,()),()))=some ((c&&b,()),()):=by cases c <;> rfl
theorem qage (c b:Bool):(bif c then some (((false,()),()):(Bool×Unit)×Unit) else some ((b,()),()))=some ((!c&&b,()),()):=by cases c <;> rfl
def rowL (r:Vec 6 Nat):List Nat:=[Vec.getD 6 r 0 (0:Nat),Vec.getD 6 r 1 (0:Nat),Vec.getD 6 r 2 (0:Nat),Vec.getD 6 r 3 (0:Nat),Vec.getD 6 r 4 (0:Nat),Vec.getD 6 r 5 (0:Nat)]
def rowC (i:Nat) (r:Vec 6 Nat):List Bool:=(rowL r).all finB :: (!fLt .f32 ((rowL r).getD i 0) 0) :: ((rowL r).drop (i+1)).map fun x=>fEq .f32 x 0
abbrev DState:=Vec 6 Nat×(Vec 6 (Vec 6 Nat)×Unit)
def rowS (S:Vec 6 (Vec 6 Nat)) (i:Nat):Vec 6 Nat:=Vec.getD 6 S i ((0,0,0,0,0,0,()):(Vec 6 Nat))
def restC (S:Vec 6 (Vec 6 Nat)):List Bool:=rowC 0 (rowS S 0)++(rowC 1 (rowS S 1)++(rowC 2 (rowS S 2)++(rowC 3 (rowS S 3)++(rowC 4 (rowS S 4)++rowC 5 (rowS S 5)))))
def stateB (s:DState):Bool:=(rowL s.1).all finB&&(restC s.2.1).all id
theorem qau (s:DState):qa4 s=some ((stateB s,()),()):=by
 simp only [qa4,qoy,Option.bind_some,qxm,qage,Bool.not_not]
 rfl
def firstR:Vec 6 (Vec 6 Nat):=((1056964608,0,0,0,0,0,()),(0,1056964608,0,0,0,0,()),(0,0,1056964608,0,0,0,()),(0,0,0,1065353216,0,0,()),(0,0,0,0,1065353216,0,()),(0,0,0,0,0,1065353216,()),())
def firstS (v:Vec 3 Nat):DState:=((Vec.getD 3 v 0 (0:Nat),Vec.getD 3 v 1 (0:Nat),Vec.getD 3 v 2 (0:Nat),0,0,0,()),firstR,())
theorem qaen:(restC firstR).all id=true:=by kernel_rfl
theorem qwb {v:Vec 3 Nat} (h:finV v=true):stateB (firstS v)=true:=by
 simp only [finV,Bool.and_eq_true] at h
 have e:(rowL (firstS v).1).all finB=true:=by
  show (([Vec.getD 3 v 0 (0:Nat),Vec.getD 3 v 1 (0:Nat),Vec.getD 3 v 2 (0:Nat),0,0,0]:List Nat).all finB)=true
  simp [h.1,h.2.1,h.2.2,qwa]
 show ((rowL (firstS v).1).all finB&&(restC firstR).all id)=true
 rw [e,qaen]
 rfl
theorem qjm (a:DLog) (hv:finV a.2.1=true):qer a=some ((firstS a.2.1,()),()):=by
 have e:qer a=(qa4 (firstS a.2.1)).bind fun y=>bif !y.1.1 then some ((((0,0,0,0,0,0,()),((0,0,0,0,0,0,()),(0,0,0,0,0,0,()),(0,0,0,0,0,0,()),(0,0,0,0,0,0,()),(0,0,0,0,0,0,()),(0,0,0,0,0,0,()),()),()),()),()) else some ((firstS a.2.1,()),()):=by
  have e1:qer a=(ql8 (firstS a.2.1).1 ((1056964608,1056964608,1056964608,1065353216,1065353216,1065353216,()):(Vec 6 Nat))).bind fun y=>some ((y.1.1,()),()):=rfl
  have e2:ql8 (firstS a.2.1).1 ((1056964608,1056964608,1056964608,1065353216,1065353216,1065353216,()):(Vec 6 Nat))=(qa4 (firstS a.2.1)).bind fun y=>bif !y.1.1 then some ((((0,0,0,0,0,0,()),((0,0,0,0,0,0,()),(0,0,0,0,0,0,()),(0,0,0,0,0,0,()),(0,0,0,0,0,0,()),(0,0,0,0,0,0,()),(0,0,0,0,0,0,()),()),()),1,()),()) else some ((firstS a.2.1,0,()),()):=rfl
  rw [e1,e2,qau]
  cases stateB (firstS a.2.1) <;> rfl
 rw [e,qau,qwb hv]
 rfl
theorem qrp (a:DLog):qpi a=some ((firstS a.2.1,()),()):=rfl
theorem qajd {a:DLog} (h:logB a=true):finV a.2.1=true:=by
 simp only [logB,frameB,Bool.and_eq_true] at h
 exact h.1.2.1
end
section
theorem qzt {α:Type} {z:α} : ∀ (n:Nat) (v:Vec n α) (i j:Nat) (x:α),i<n→Vec.getD n (Vec.set n v i x) j z=if j=i then x else Vec.getD n v j z
 | 0,_,_,_,_,h=>absurd h (Nat.not_lt_zero _)
 | _+1,_,0,0,_,_=>rfl
 | _+1,_,0,_+1,_,_=>rfl
 | _+1,_,_+1,0,_,_=>rfl
 | n+1,v,i+1,j+1,x,h=>by
  have:=qzt (z:=z) n v.2 i j x (Nat.lt_of_succ_lt_succ h)
  show Vec.getD n (Vec.set n v.2 i x) j z=_
  rw [this]
  by_cases e:j=i
  ·rw [if_pos e,if_pos (congrArg (· + 1) e)]
  ·rw [if_neg e,if_neg (fun q=>e (Nat.succ.inj q))];rfl
abbrev DTab:=Vec 6 (Vec 9 Nat)
abbrev DRoot:=Vec 6 (Vec 6 Nat)
abbrev r9:Vec 9 Nat:=(0,0,0,0,0,0,0,0,0,())
abbrev r6:Vec 6 Nat:=(0,0,0,0,0,0,())
abbrev z6:DRoot:=((0,0,0,0,0,0,()),(0,0,0,0,0,0,()),(0,0,0,0,0,0,()),(0,0,0,0,0,0,()),(0,0,0,0,0,0,()),(0,0,0,0,0,0,()),())
def tg (T:DTab) (r k:Nat):Nat:=Vec.getD 9 (Vec.getD 6 T r r9) k (0:Nat)
theorem qapl {T:DTab} {r:Nat} (hr:r<6) (row:Vec 9 Nat) (r' k:Nat):tg (Vec.set 6 T r row) r' k=if r'=r then Vec.getD 9 row k (0:Nat) else tg T r' k:=by
 unfold tg
 rw [qzt 6 T r r' row hr]
 by_cases h:r'=r
 ·rw [if_pos h,if_pos h]
 ·rw [if_neg h,if_neg h]
theorem qul {T:DTab} {r c:Nat} (hr:r<6) (hc:c<9) (x:Nat) (r' k:Nat):tg (Vec.set 6 T r (Vec.set 9 (Vec.getD 6 T r r9) c x)) r' k=if r'=r∧k=c then x else tg T r' k:=by
 rw [qapl hr,qzt 9 _ c k x hc]
 by_cases h:r'=r
 ·by_cases h1:k=c
  ·rw [if_pos h,if_pos h1,if_pos ⟨h,h1⟩]
  ·rw [if_pos h,if_neg h1,if_neg (fun q=>h1 q.2),h];rfl
 ·rw [if_neg h,if_neg (fun q=>h q.1)]
def Seen (i:Nat) (T:DTab) (P:Nat→Nat→Prop):Prop:=∃ r k,r<6∧k<9∧finB (tg T r k)=false∧((k<i∧k≤r)∨(i≤r∧i≤k))∧P r k
theorem qakc {i c r:Nat} {T:DTab} {x y:Nat} (hi:i<c) (hc:c<9) (hr:r<6) (hir:i≤r) {a b:Nat} (ha:a=fAdd .f32 (fMul .f32 x (tg T r i)) (fMul .f32 y (tg T r c)))
  (h:Seen i T fun r' k=>¬ (k=c∧r'<r)):Seen i (Vec.set 6 (Vec.set 6 T r (Vec.set 9 (Vec.getD 6 T r r9) i a)) r (Vec.set 9 (Vec.getD 6 (Vec.set 6 T r (Vec.set 9 (Vec.getD 6 T r r9) i a)) r r9) c b)) fun r' k=>¬ (k=c∧r'<r+1):=by
 obtain ⟨r',k,h1,h2,h3,h4,h5⟩:=h
 have key : ∀ (r' k:Nat),tg (Vec.set 6 (Vec.set 6 T r (Vec.set 9 (Vec.getD 6 T r r9) i a)) r (Vec.set 9 (Vec.getD 6 (Vec.set 6 T r (Vec.set 9 (Vec.getD 6 T r r9) i a)) r r9) c b)) r' k=if r'=r∧k=c then b else if r'=r∧k=i then a else tg T r' k:=fun r' k=>by
  rw [qul hr hc,qul hr (by omega)]
 by_cases hm:r'=r∧(k=i∨k=c)
 ·refine ⟨r,i,hr,by omega,?_,.inr ⟨hir,Nat.le_refl _⟩,fun q=>by omega⟩
  rw [key,if_neg (by omega),if_pos ⟨rfl,rfl⟩,ha]
  obtain ⟨rfl,hk⟩:=hm
  cases hf:finB (fAdd .f32 (fMul .f32 x (tg T r' i)) (fMul .f32 y (tg T r' c))) with
  | false=>rfl
  | true =>
   obtain ⟨f1,f2⟩:=qani hf
   rcases hk with rfl | rfl
   ·exact absurd (qagi f1).2 (by rw [h3];decide)
   ·exact absurd (qagi f2).2 (by rw [h3];decide)
 ·refine ⟨r',k,h1,h2,?_,h4,fun q => ?_⟩
  ·rw [key,if_neg (fun q=>hm ⟨q.1,.inr q.2⟩),if_neg (fun q=>hm ⟨q.1,.inl q.2⟩)];exact h3
  ·by_cases e:r'=r
   ·exact hm ⟨e,.inr q.1⟩
   ·exact h5 ⟨q.1,by omega⟩
theorem qaon {i c:Nat} (hi:i<c) (hi6:i<6) (hc:c<9) (x y:Nat) (B:Prop) (T0:DTab) {T:DTab} (h:B→Seen i T fun _ _=>True) (hz : ∀ k,i<k→k<c→finB (tg T i k)=true) :
  ∃ T':DTab,run (qck ((i:Int),T0,()) ((c:Int),T,()) x y) ((i:Int),T,())=some (.inl (((c+1:Nat):Int),T',()))∧(B→Seen i T' fun _ _=>True) ∧ ∀ k,i<k→k<c+1→finB (tg T' i k)=true:=by
 have he : ∃ o,run (qck ((i:Int),T0,()) ((c:Int),T,()) x y) ((i:Int),T,())=some o ∧ ∃ T':DTab,o = .inl (((c+1:Nat):Int),T',())∧(B→Seen i T' fun _ _=>True) ∧ ∀ k,i<k→k<c+1→finB (tg T' i k)=true:=by
  refine qqp (fun s => ∃ (r:Nat) (U:DTab),s=((r:Int),U,())∧i≤r∧r≤6∧(B→Seen i U fun r' k=>¬ (k=c∧r'<r)) ∧ ∀ k,i<k→k<c→finB (tg U i k)=true) (fun s=>(6-s.1).toNat) _ (fun s hs => ?_) ⟨i,T,rfl,Nat.le_refl _,by omega,fun b => ?_,hz⟩
  ·obtain ⟨r,U,rfl,hir,hr,hb,hU⟩:=hs
   by_cases h6:r<6
   ·have e1:iLt (r:Int) 6=true:=qan (by omega)
    have e2:inB (r:Int) 6=true:=qaj h6
    have e3:inB (i:Int) 9=true:=qaj (by omega)
    have e4:inB (c:Int) 9=true:=qaj hc
    have e5:iAdd .i64 (r:Int) 1=((r+1:Nat):Int):=qaw h6 (by omega)
    refine .inl ⟨_,by simp only [qck,e1,e2,e3,e4,e5,cond_true,Int.toNat_natCast];rfl,⟨r+1,_,rfl,by omega,by omega,fun b => ?_,fun k k1 k2 => ?_⟩,by show (6-((r+1:Nat):Int)).toNat<(6-(r:Int)).toNat;omega⟩
    ·exact qakc hi hc h6 hir rfl (hb b)
    ·rw [qul h6 hc,qul h6 (by omega),if_neg (by omega),if_neg (by omega)]
     exact hU k k1 k2
   ·have e1:iLt (r:Int) 6=false:=qas (by omega)
    have e2:inB (i:Int) 6=true:=qaj hi6
    have e4:inB (c:Int) 9=true:=qaj hc
    have e5:iAdd .i64 (c:Int) 1=((c+1:Nat):Int):=qaw hc (by omega)
    refine .inr ⟨_,by simp only [qck,e1,e2,e4,e5,cond_true,cond_false,Int.toNat_natCast,Option.map_some];rfl,_,rfl,fun b => ?_,fun k k1 k2 => ?_⟩
    ·obtain ⟨r',k,h1,h2,h3,h4,h5⟩:=hb b
     refine ⟨r',k,h1,h2,?_,h4,trivial⟩
     rw [qul hi6 hc,if_neg (by omega)]
     exact h3
    ·rw [qul hi6 hc]
     by_cases e:k=c
     ·rw [if_pos ⟨rfl,e⟩];exact qqv
     ·rw [if_neg (fun q=>e q.2)];exact hU k k1 (by omega)
  ·obtain ⟨r',k,h1,h2,h3,h4,_⟩:=h b
   exact ⟨r',k,h1,h2,h3,h4,by omega⟩
 obtain ⟨o,ho,T',rfl,h2,h3⟩:=he
 exact ⟨T',ho,h2,h3⟩
theorem qao9 {i:Nat} (hi:i<6) (B:Prop) {T:DTab} (h:B→Seen i T fun _ _=>True) :
  ∃ o,run (qb4 ((i:Int),T,())) (((i+1:Nat):Int),T,())=some o∧((∃ T':DTab,o = .inl (((i+1:Nat):Int),T',())∧(B→Seen (i+1) T' fun _ _=>True))∨o = .inr ((z6,4,()),())):=by
 refine qqp (fun s => ∃ (c:Nat) (U:DTab),s=((c:Int),U,())∧i<c∧c≤9∧(B→Seen i U fun _ _=>True) ∧ ∀ k,i<k→k<c→finB (tg U i k)=true) (fun s=>(9-s.1).toNat) _ (fun s hs => ?_) ⟨i+1,T,rfl,by omega,by omega,h,fun k k1 k2=>by omega⟩
 obtain ⟨c,U,rfl,hic,hc,hb,hU⟩:=hs
 by_cases h9:c<9
 ·have e1:iLt (c:Int) 9=true:=qan (by omega)
  have e2:inB (i:Int) 6=true:=qaj hi
  have e3:inB (i:Int) 9=true:=qaj (by omega)
  have e4:inB (c:Int) 9=true:=qaj h9
  have e5:iAdd .i64 (c:Int) 1=((c+1:Nat):Int):=qaw h9 (by omega)
  have e0:qb4 ((i:Int),T,()) ((c:Int),U,())=bif fEq .f32 (tg U i c) 0 then some (.inl (((c+1:Nat):Int),U,())) else
    bif fEq .f32 (rootF (fAdd .f32 (fMul .f32 (tg U i i) (tg U i i)) (fMul .f32 (tg U i c) (tg U i c)))) 0 then some (.inr (.inr ((z6,4,()),()))) else
    run (qck ((i:Int),T,()) ((c:Int),U,()) (fDiv .f32 (tg U i i) (rootF (fAdd .f32 (fMul .f32 (tg U i i) (tg U i i)) (fMul .f32 (tg U i c) (tg U i c))))) (fDiv .f32 (tg U i c) (rootF (fAdd .f32 (fMul .f32 (tg U i i) (tg U i i)) (fMul .f32 (tg U i c) (tg U i c)))))) ((i:Int),U,()):=by
   simp only [qb4,e1,e2,e3,e4,e5,cond_true,Int.toNat_natCast,qhc,Option.bind_some,Option.map_some]
   rfl
  rw [e0]
  cases hz:fEq .f32 (tg U i c) 0 with
  | true =>
   refine .inl ⟨_,rfl,⟨c+1,U,rfl,by omega,by omega,hb,fun k k1 k2 => ?_⟩,by show (9-((c+1:Nat):Int)).toNat<(9-(c:Int)).toNat;omega⟩
   by_cases e:k=c
   ·rw [e];exact qank hz
   ·exact hU k k1 (by omega)
  | false =>
   simp only [cond_false]
   cases hr:fEq .f32 (rootF (fAdd .f32 (fMul .f32 (tg U i i) (tg U i i)) (fMul .f32 (tg U i c) (tg U i c)))) 0 with
   | true=>exact .inr ⟨_,rfl,.inr rfl⟩
   | false =>
    simp only [cond_false]
    obtain ⟨U',h1,h2,h3⟩:=qaon hic hi h9 (fDiv .f32 (tg U i i) (rootF (fAdd .f32 (fMul .f32 (tg U i i) (tg U i i)) (fMul .f32 (tg U i c) (tg U i c))))) (fDiv .f32 (tg U i c) (rootF (fAdd .f32 (fMul .f32 (tg U i i) (tg U i i)) (fMul .f32 (tg U i c) (tg U i c))))) B T hb hU
    exact .inl ⟨_,h1,⟨c+1,U',rfl,by omega,by omega,h2,h3⟩,by show (9-((c+1:Nat):Int)).toNat<(9-(c:Int)).toNat;omega⟩
 ·have e1:iLt (c:Int) 9=false:=qas (by omega)
  have e5:iAdd .i64 (i:Int) 1=((i+1:Nat):Int):=qaw (n:=6) hi (by omega)
  refine .inr ⟨_,by simp only [qb4,e1,e5,cond_false,Option.map_some],.inl ⟨U,rfl,fun b => ?_⟩⟩
  obtain ⟨r,k,h1,h2,h3,h4,_⟩:=hb b
  refine ⟨r,k,h1,h2,h3,?_,trivial⟩
  by_cases e:i<k∧r=i
  ·exact absurd (hU k e.1 (by omega)) (by rw [← e.2,h3];exact Bool.false_ne_true)
  ·omega
end
section
def osg (T:DTab) (k i:Nat):Nat:=bif fLt .f32 (tg T i i) 0 then fNeg .f32 (tg T k i) else tg T k i
def mk6 (f:Nat→Nat→Nat):DRoot:=((f 0 0,0,0,0,0,0,()),(f 1 0,f 1 1,0,0,0,0,()),(f 2 0,f 2 1,f 2 2,0,0,0,()),(f 3 0,f 3 1,f 3 2,f 3 3,0,0,()),(f 4 0,f 4 1,f 4 2,f 4 3,f 4 4,0,()),(f 5 0,f 5 1,f 5 2,f 5 3,f 5 4,f 5 5,()),())
def outT (T:DTab):DRoot:=mk6 (osg T)
def outB (T:DTab):Bool:=(List.range 6).all fun i=>(List.range 6).all fun k=>decide (k<i)||finB (osg T k i)
theorem qab9 {σ A:Type} {f:σ→Option (σ⊕A)} {s:σ} {X:Option A} (h:f s=Option.map Sum.inr X):run f s=X:=by
 rw [qabb,h];cases X <;> rfl
theorem qak8 {σ A:Type} {f:σ→Option (σ⊕A)} {s s':σ} {a x:A} {b c:Bool} (h:f s=bif !b then some (.inr a) else some (.inl s')) (hr:run f s'=bif c then some x else some a):run f s=bif (b&&c) then some x else some a:=by
 cases b with
 | false=>exact qa9 h
 | true=>exact (qao h).trans hr
theorem qaog {σ A:Type} {f:σ→Option (σ⊕A)} {s s':σ} {a:A} {b:Bool} (h:f s=bif b then some (.inl s') else some (.inr a)):run f s=bif b then run f s' else some a:=by
 cases b with
 | false=>exact qa9 h
 | true=>exact qao h
theorem qnc {A:Type} {b:Bool} {x x' y:A} (h:x=x'):(bif b then x else y)=bif b then x' else y:=by rw [h]
theorem qak2 {A:Type} {b c:Bool} {x y:A} : (bif b then (bif c then x else y) else y)=bif (b&&c) then x else y:=by cases b <;> rfl
theorem qana {A B:Type} (F:A→B) {b:Bool} {x y:A} : (bif b then F x else F y)=F (bif b then x else y):=by cases b <;> rfl
theorem qhq {P:Nat→Prop} (h0:P 0) (h1:P 1) (h2:P 2) (h3:P 3) (h4:P 4) (h5:P 5) : ∀ i:Nat,i<6→P i
 | 0,_=>h0
 | 1,_=>h1
 | 2,_=>h2
 | 3,_=>h3
 | 4,_=>h4
 | 5,_=>h5
 | n+6,h=>absurd h (by omega)
theorem qzd {σ A:Type} {f:σ→Option (σ⊕A)} (S:Nat→σ) {n i:Nat} (h : ∀ k,k<n→i≤k→f (S k)=some (.inl (S (k+1)))) : ∀ d k,k+d=n→i≤k→run f (S k)=run f (S n)
 | 0,k,e,_=>by rw [show k=n from e]
 | d+1,k,e,g=>(qao (h k (by omega) g)).trans (qzd S h d (k+1) (by omega) (by omega))
def up0 (g:Nat→Nat→Nat) (k r j:Nat):Nat:=bif Nat.blt r k then g r j else 0
theorem qai7 (s:Int×DTab×Unit):run (qd3 s) ((0:Int),z6,())=run qd4 ((0:Int),mk6 (tg s.2.1),()):=by
 have h : ∀ k:Nat,k<6→0≤k→qd3 s ((k:Int),mk6 (up0 (tg s.2.1) k),())=some (.inl (((k+1:Nat):Int),mk6 (up0 (tg s.2.1) (k+1)),())):=by
  refine qhq ?_ ?_ ?_ ?_ ?_ ?_ <;> intro _ <;> kernel_rfl
 have e:=qzd (fun k:Nat=>((k:Int),mk6 (up0 (tg s.2.1) k),())) h 6 0 rfl (Nat.zero_le 0)
 exact Eq.trans (by kernel_rfl) (e.trans (qab9 (by kernel_rfl)))
def upI (T:DTab) (i r j:Nat):Nat:=bif Nat.blt j i then osg T r j else tg T r j
def upV (T:DTab) (i k r j:Nat):Nat:=bif Nat.blt j i then osg T r j else bif Nat.beq j i&&Nat.blt r k then fNeg .f32 (tg T r i) else tg T r j
def upW (T:DTab) (i r j:Nat):Nat:=bif Nat.blt j i then osg T r j else bif Nat.beq j i then fNeg .f32 (tg T r i) else tg T r j
theorem qxo {j i:Nat} (h:j<i):Nat.blt j i=true:=Nat.ble_eq_true_of_le h
theorem qxn {j i:Nat} (h:i≤j):Nat.blt j i=false:=by
 cases e:Nat.blt j i with
 | false=>rfl
 | true=>exact absurd (Nat.le_of_ble_eq_true e) (by omega)
theorem qaoo {T:DTab} {i:Nat} (h:fLt .f32 (tg T i i) 0=false):upI T i=upI T (i+1):=by
 funext r j;unfold upI
 rcases Nat.lt_trichotomy j i with a | a | a
 ·rw [qxo a,qxo (Nat.lt_succ_of_lt a)]
 ·subst a;rw [qxn (Nat.le_refl j),qxo (Nat.lt_succ_self j)];unfold osg;rw [h];rfl
 ·rw [qxn (Nat.le_of_lt a),qxn a]
theorem qaop {T:DTab} {i:Nat} (h:fLt .f32 (tg T i i) 0=true):upW T i=upI T (i+1):=by
 funext r j;unfold upI upW
 rcases Nat.lt_trichotomy j i with a | a | a
 ·rw [qxo a,qxo (Nat.lt_succ_of_lt a)];rfl
 ·subst a;rw [qxn (Nat.le_refl j),qxo (Nat.lt_succ_self j),Nat.beq_refl];unfold osg;rw [h];rfl
 ·rw [qxn (Nat.le_of_lt a),qxn a,qad7 (by omega)];rfl
theorem qao5 (T:DTab) : ∀ i:Nat,i<6 → ∀ k:Nat,k<6→i≤k→qhu ((i:Int),mk6 (upI T i),()) ((k:Int),mk6 (upV T i k),())=some (.inl (((k+1:Nat):Int),mk6 (upV T i (k+1)),())):=by
 refine qhq ?_ ?_ ?_ ?_ ?_ ?_ <;> refine qhq ?_ ?_ ?_ ?_ ?_ ?_ <;> intro h <;> first | exact absurd h (by decide) | kernel_rfl
theorem qao4 (T:DTab) : ∀ i:Nat,i<6→run (qhu ((i:Int),mk6 (upI T i),())) ((i:Int),mk6 (upI T i),())=some (.inl (((i+1:Nat):Int),mk6 (upW T i),())):=by
 intro i hi
 have e:=qzd (fun k:Nat=>((k:Int),mk6 (upV T i k),())) (qao5 T i hi) (6-i) i (by omega) (Nat.le_refl i)
 revert e;revert i hi
 refine qhq ?_ ?_ ?_ ?_ ?_ ?_ <;> intro e <;> exact Eq.trans (by kernel_rfl) (e.trans (qa9 (by kernel_rfl)))
theorem qtp (T:DTab) (i:Nat) (hi:i<6):run qd4 ((i:Int),mk6 (upI T i),())=run qd4 (((i+1:Nat):Int),mk6 (upI T (i+1)),()):=by
 have e:qd4 ((i:Int),mk6 (upI T i),())=(bif !fLt .f32 (tg T i i) 0 then some (.inl (((i+1:Nat):Int),mk6 (upI T i),())) else run (qhu ((i:Int),mk6 (upI T i),())) ((i:Int),mk6 (upI T i),())):=by
  revert i hi;refine qhq ?_ ?_ ?_ ?_ ?_ ?_ <;> kernel_rfl
 refine qao (e.trans ?_)
 rw [qao4 T i hi]
 cases h:fLt .f32 (tg T i i) 0 with
 | false=>rw [qaoo h];rfl
 | true=>rw [qaop h];rfl
theorem qai8 (T:DTab):run qd4 ((0:Int),mk6 (tg T),())=(qe7 (outT T)).bind fun y=>bif !y.1.1 then some ((z6,(4:Int),()),()) else some ((outT T,(0:Int),()),()) :=
 ((qtp T 0 (by decide)).trans <| (qtp T 1 (by decide)).trans <| (qtp T 2 (by decide)).trans <| (qtp T 3 (by decide)).trans <| (qtp T 4 (by decide)).trans <| (qtp T 5 (by decide)).trans <| qab9 (by kernel_rfl))
def upS (T:DTab) (i k x r j:Nat):Nat:=bif Nat.blt j i then osg T r j else bif Nat.beq j i then (bif Nat.blt r k then osg T r i else bif Nat.beq r k then x else 0) else 0
def seG (T:DTab) (i k x:Nat):Option ((Int×DRoot×Unit)⊕((Int×DRoot×Unit)⊕((DRoot×Int×Unit)×Unit))):=bif !finB x then some (.inr (.inr ((z6,(4:Int),()),()))) else some (.inl (((k+1:Nat):Int),mk6 (upS T i k x),()))
theorem qape (T:DTab) : ∀ i:Nat,i<6 → ∀ k:Nat,k<6→i≤k→qg0 ((i:Int),mk6 (upS T i i 0),()) ((6:Int),T,()) ((k:Int),mk6 (upS T i k 0),())=bif !finB (osg T k i) then some (.inr (.inr ((z6,(4:Int),()),()))) else some (.inl (((k+1:Nat):Int),mk6 (upS T i (k+1) 0),())):=by
 intro i hi k hk h
 have e:qg0 ((i:Int),mk6 (upS T i i 0),()) ((6:Int),T,()) ((k:Int),mk6 (upS T i k 0),())=bif fLt .f32 (tg T i i) 0 then seG T i k (fNeg .f32 (tg T k i)) else seG T i k (tg T k i):=by
  revert i hi k hk h
  refine qhq ?_ ?_ ?_ ?_ ?_ ?_ <;> refine qhq ?_ ?_ ?_ ?_ ?_ ?_ <;> intro h <;> first | exact absurd h (by decide) | kernel_rfl
 refine (e.trans (qana (seG T i k))).trans ?_
 clear e
 revert i hi k hk h
 refine qhq ?_ ?_ ?_ ?_ ?_ ?_ <;> refine qhq ?_ ?_ ?_ ?_ ?_ ?_ <;> intro h <;> first | exact absurd h (by decide) | kernel_rfl
def alF (T:DTab) (i k:Nat):Bool:=(List.range 6).all fun r=>decide (r<k)||finB (osg T r i)
theorem qakx (T:DTab) (i:Nat) : ∀ k:Nat,k<6→(finB (osg T k i)&&alF T i (k+1))=alF T i k:=by
 refine qhq ?_ ?_ ?_ ?_ ?_ ?_ <;> rfl
theorem qakb (T:DTab) (i:Nat) (hi:i<6) : ∀ d k:Nat,k+d=6→i≤k→run (qg0 ((i:Int),mk6 (upS T i i 0),()) ((6:Int),T,())) ((k:Int),mk6 (upS T i k 0),())=bif alF T i k then some (.inl (((i+1:Nat):Int),mk6 (upS T (i+1) (i+1) 0),())) else some (.inr ((z6,(4:Int),()),()))
 | 0,k,e,_=>by
  obtain rfl:k=6:=e
  refine qa9 ?_
  revert i hi;refine qhq ?_ ?_ ?_ ?_ ?_ ?_ <;> intros <;> kernel_rfl
 | d+1,k,e,g=>(qak8 (qape T i hi k (by omega) g) (qakb T i hi d (k+1) (by omega) (by omega))).trans (by rw [qakx T i k (by omega)])
theorem qtw (T:DTab) (i:Nat) (hi:i<6):run (qcy ((6:Int),T,())) ((i:Int),mk6 (upS T i i 0),())=bif alF T i i then run (qcy ((6:Int),T,())) (((i+1:Nat):Int),mk6 (upS T (i+1) (i+1) 0),()) else some ((z6,(4:Int),()),()) :=
 qaog (Eq.trans (by revert i hi;refine qhq ?_ ?_ ?_ ?_ ?_ ?_ <;> kernel_rfl) (qakb T i hi (6-i) i (by omega) (Nat.le_refl i)))
theorem qapd (T:DTab):run (qcy ((6:Int),T,())) ((0:Int),z6,())=bif outB T then some ((outT T,(0:Int),()),()) else some ((z6,(4:Int),()),()):=by
 have e:run (qcy ((6:Int),T,())) ((6:Int),mk6 (upS T 6 6 0),())=bif true then some ((outT T,(0:Int),()),()) else some ((z6,(4:Int),()),()):=qa9 (by kernel_rfl)
 refine Eq.trans (b:=run (qcy ((6:Int),T,())) (((0:Nat):Int),mk6 (upS T 0 0 0),())) (by kernel_rfl) ?_
 refine ((qtw T 0 (by decide)).trans (qnc ((qtw T 1 (by decide)).trans (qnc ((qtw T 2 (by decide)).trans (qnc ((qtw T 3 (by decide)).trans (qnc ((qtw T 4 (by decide)).trans (qnc ((qtw T 5 (by decide)).trans (qnc e)))))))))))).trans ?_
 simp only [qak2]
 rfl
end
section
def dotA:Nat→List Nat→List Nat→Nat
 | acc,a :: l,b :: m=>dotA (fAdd .f32 acc (fMul .f32 a b)) l m
 | acc,_,_=>acc
def dotS (l m:List Nat):Nat:=match l,m with
 | a :: l,b :: m=>dotA (fMul .f32 a b) l m
 | _,_=>0
theorem qag1 {L M:List Nat} (hLM:L.length≤M.length) (hL:L.length≤100) : ∀ (k i acc:Nat),1≤i→i+k=L.length→run (qig L M) (acc,(i:Int),())=some ((dotA acc (L.drop i) (M.drop i),()),())
 | 0,i,acc,h1,h=>by
  have e1:iLt (i:Int) (lenI L)=false:=qas (by rw [qac];omega)
  rw [List.drop_of_length_le (by omega:L.length≤i)]
  exact qa9 (by simp only [qig,e1,cond_false,Option.map_some];rfl)
 | k+1,i,acc,h1,h=>by
  have e1:iLt (i:Int) (lenI L)=true:=qan (by rw [qac];omega)
  have e2:inB (i:Int) L.length=true:=qaj (by omega)
  have e3:inB (i:Int) M.length=true:=qaj (by omega)
  have e4:iEq (i:Int) 0=false:=qbx (by omega)
  have e5:iAdd .i64 (i:Int) 1=((i+1:Nat):Int):=qaw (n:=L.length) (by omega) (by omega)
  have g1:L.getD i (0:Nat)=L[i]'(by omega):=qbd (by omega)
  have g2:M.getD i (0:Nat)=M[i]'(by omega):=qbd (by omega)
  rw [List.drop_eq_getElem_cons (by omega:i<L.length),List.drop_eq_getElem_cons (by omega:i<M.length)]
  refine (qao (s':=(fAdd .f32 acc (fMul .f32 (L[i]'(by omega)) (M[i]'(by omega))),((i+1:Nat):Int),())) ?_).trans (qag1 hLM hL k (i+1) _ (by omega) (by omega))
  simp only [qig,e1,e2,e3,e4,e5,Int.toNat_natCast,g1,g2,cond_true,cond_false]
theorem qb9 (a b:Nat) (l m:List Nat) (h:l.length≤m.length) (h1:l.length≤90):qar (a :: l) (b :: m)=some ((dotA (fMul .f32 a b) l m,()),()):=by
 have e:=qag1 (L:=a :: l) (M:=b :: m) (by rw [List.length_cons,List.length_cons];omega) (by rw [List.length_cons];omega) l.length 1 (fMul .f32 a b) (by omega) (by rw [List.length_cons];omega)
 refine (qao (s':=(fMul .f32 a b,((1:Nat):Int),())) ?_).trans (e.trans (by simp))
 have e1:iLt 0 (lenI (a :: l))=true:=qan (by rw [qac,List.length_cons];omega)
 have e2:inB 0 (a :: l).length=true:=qaj (i:=0) (by simp)
 have e3:inB 0 (b :: m).length=true:=qaj (i:=0) (by simp)
 simp only [qig,e1,e2,e3,cond_true]
 rfl
theorem qapg (a0 b0:Nat):qar [a0] [b0]=some ((dotA (fMul .f32 a0 b0) [] [],()),()):=qb9 _ _ _ _ (by simp) (by simp)
theorem qaph (a0 a1 b0 b1:Nat):qar [a0,a1] [b0,b1]=some ((dotA (fMul .f32 a0 b0) [a1] [b1],()),()):=qb9 _ _ _ _ (by simp) (by simp)
theorem qafj (a0 a1 a2 b0 b1 b2:Nat):qar [a0,a1,a2] [b0,b1,b2]=some ((dotA (fMul .f32 a0 b0) [a1,a2] [b1,b2],()),()):=qb9 _ _ _ _ (by simp) (by simp)
theorem qapi (a0 a1 a2 a3 b0 b1 b2 b3:Nat):qar [a0,a1,a2,a3] [b0,b1,b2,b3]=some ((dotA (fMul .f32 a0 b0) [a1,a2,a3] [b1,b2,b3],()),()):=qb9 _ _ _ _ (by simp) (by simp)
theorem qapj (a0 a1 a2 a3 a4 b0 b1 b2 b3 b4:Nat):qar [a0,a1,a2,a3,a4] [b0,b1,b2,b3,b4]=some ((dotA (fMul .f32 a0 b0) [a1,a2,a3,a4] [b1,b2,b3,b4],()),()):=qb9 _ _ _ _ (by simp) (by simp)
theorem qabq (a0 a1 a2 a3 a4 a5 b0 b1 b2 b3 b4 b5:Nat):qar [a0,a1,a2,a3,a4,a5] [b0,b1,b2,b3,b4,b5]=some ((dotA (fMul .f32 a0 b0) [a1,a2,a3,a4,a5] [b1,b2,b3,b4,b5],()),()):=qb9 _ _ _ _ (by simp) (by simp)
theorem qakh (a0 b0 b1 b2 b3 b4 b5:Nat):qar [a0] [b0,b1,b2,b3,b4,b5]=some ((dotA (fMul .f32 a0 b0) [] [b1,b2,b3,b4,b5],()),()):=qb9 _ _ _ _ (by simp) (by simp)
theorem qaki (a0 a1 b0 b1 b2 b3 b4 b5:Nat):qar [a0,a1] [b0,b1,b2,b3,b4,b5]=some ((dotA (fMul .f32 a0 b0) [a1] [b1,b2,b3,b4,b5],()),()):=qb9 _ _ _ _ (by simp) (by simp)
theorem qakj (a0 a1 a2 b0 b1 b2 b3 b4 b5:Nat):qar [a0,a1,a2] [b0,b1,b2,b3,b4,b5]=some ((dotA (fMul .f32 a0 b0) [a1,a2] [b1,b2,b3,b4,b5],()),()):=qb9 _ _ _ _ (by simp) (by simp)
theorem qakk (a0 a1 a2 a3 b0 b1 b2 b3 b4 b5:Nat):qar [a0,a1,a2,a3] [b0,b1,b2,b3,b4,b5]=some ((dotA (fMul .f32 a0 b0) [a1,a2,a3] [b1,b2,b3,b4,b5],()),()):=qb9 _ _ _ _ (by simp) (by simp)
theorem qakl (a0 a1 a2 a3 a4 b0 b1 b2 b3 b4 b5:Nat):qar [a0,a1,a2,a3,a4] [b0,b1,b2,b3,b4,b5]=some ((dotA (fMul .f32 a0 b0) [a1,a2,a3,a4] [b1,b2,b3,b4,b5],()),()):=qb9 _ _ _ _ (by simp) (by simp)
end
section
theorem qs7 {σ A:Type} {f:σ→Option (σ⊕A)} {s s':σ} {a:A} {b c:Bool} {X:Option A} (h:f s=bif !b then some (.inr a) else some (.inl s')) (hr:run f s'=bif c then X else some a):run f s=bif (b&&c) then X else some a:=by
 cases b with
 | false=>exact qa9 h
 | true=>exact (qao h).trans hr
def finR (T:DTab) (r:Nat):Bool:=[tg T r 0,tg T r 1,tg T r 2,tg T r 3,tg T r 4,tg T r 5,tg T r 6,tg T r 7,tg T r 8].all finB
def finT (T:DTab):Bool:=finR T 0&&(finR T 1&&(finR T 2&&(finR T 3&&(finR T 4&&(finR T 5&&true)))))
theorem qqn (T:DTab) {r:Nat} (hr:r<6):qi5 T ((r:Int),())=bif !finR T r then some (.inr ((z6,(1:Int),()),())) else some (.inl (((r+1:Nat):Int),())):=by
 have e1:iLt (r:Int) 6=true:=qan (by omega)
 have e2:inB (r:Int) 6=true:=qaj hr
 have e5:iAdd .i64 (r:Int) 1=((r+1:Nat):Int):=qaw (n:=6) hr (by omega)
 simp only [qi5,e1,e2,e5,cond_true,Int.toNat_natCast]
 rw [qb5 _ (by simp)]
 rfl
theorem qapu (T:DTab):qjg T=bif finT T then run qce ((0:Int),T,()) else some ((z6,(1:Int),()),()) :=
 qs7 (qqn T (r:=0) (by omega)) (qs7 (qqn T (r:=1) (by omega)) (qs7 (qqn T (r:=2) (by omega)) (qs7 (qqn T (r:=3) (by omega)) (qs7 (qqn T (r:=4) (by omega)) (qs7 (qqn T (r:=5) (by omega)) (c:=true) (qab9 (by kernel_rfl)))))))
theorem qanj {T:DTab} (h : ∀ r k,r<6→k<9→finB (tg T r k)=true):finT T=true:=by
 have hr : ∀ r,r<6→finR T r=true:=fun r hr=>by
  simp only [finR,List.all_cons,List.all_nil,h r _ hr (show 0<9 by omega),h r _ hr (show 1<9 by omega),h r _ hr (show 2<9 by omega),h r _ hr (show 3<9 by omega),h r _ hr (show 4<9 by omega),h r _ hr (show 5<9 by omega),h r _ hr (show 6<9 by omega),h r _ hr (show 7<9 by omega),h r _ hr (show 8<9 by omega),Bool.and_self]
 simp only [finT,hr 0 (by omega),hr 1 (by omega),hr 2 (by omega),hr 3 (by omega),hr 4 (by omega),hr 5 (by omega),Bool.and_self]
theorem qah3 {T:DTab} (h:finT T=false):Seen 0 T fun _ _=>True:=by
 apply Classical.byContradiction
 intro hn
 have:finT T=true:=qanj fun r k hr hk=>by
  cases hf:finB (tg T r k) with
  | true=>rfl
  | false=>exact absurd ⟨r,k,hr,hk,hf,.inr ⟨Nat.zero_le _,Nat.zero_le _⟩,trivial⟩ hn
 rw [h] at this
 cases this
theorem qagj (T:DTab) (k i:Nat):finB (osg T k i)=finB (tg T k i):=by
 unfold osg
 cases fLt .f32 (tg T i i) 0
 ·rfl
 ·exact qanl _
theorem qab5 {T:DTab} (h:outB T=true) {i k:Nat} (hi:i≤k) (hk:k<6):finB (osg T k i)=true:=by
 have h1:=List.all_eq_true.1 h i (List.mem_range.2 (by omega))
 have h2:=List.all_eq_true.1 h1 k (List.mem_range.2 hk)
 rw [decide_eq_false (by omega),Bool.false_or] at h2
 exact h2
theorem qamp {T:DTab} (h:Seen 6 T fun _ _=>True):outB T=false:=by
 obtain ⟨r,k,h1,h2,h3,h4,_⟩:=h
 cases ho:outB T with
 | false=>rfl
 | true =>
  have:=qab5 ho (i:=k) (k:=r) (by omega) h1
  rw [qagj,h3] at this
  cases this
def rootB (R:DRoot):Bool:=(rowL (rowS R 0)).all finB&&((rowL (rowS R 1)).all finB&&((rowL (rowS R 2)).all finB&&((rowL (rowS R 3)).all finB&&((rowL (rowS R 4)).all finB&&((rowL (rowS R 5)).all finB&&true)))))
theorem qaa0 (R:DRoot):qe7 R=some ((rootB R,()),()):=by
 simp only [qe7,qoy,Option.bind_some,qxm]
 rfl
theorem qaj7 (T:DTab):rootB (outT T)=outB T:=by
 have e1:rootB (outT T)=([osg T 0 0,0,0,0,0,0].all finB&&([osg T 1 0,osg T 1 1,0,0,0,0].all finB&&([osg T 2 0,osg T 2 1,osg T 2 2,0,0,0].all finB&&([osg T 3 0,osg T 3 1,osg T 3 2,osg T 3 3,0,0].all finB&&([osg T 4 0,osg T 4 1,osg T 4 2,osg T 4 3,osg T 4 4,0].all finB&&([osg T 5 0,osg T 5 1,osg T 5 2,osg T 5 3,osg T 5 4,osg T 5 5].all finB&&true)))))):=rfl
 have e2:outB T=([osg T 0 0,osg T 1 0,osg T 2 0,osg T 3 0,osg T 4 0,osg T 5 0].all finB&&([osg T 1 1,osg T 2 1,osg T 3 1,osg T 4 1,osg T 5 1].all finB&&([osg T 2 2,osg T 3 2,osg T 4 2,osg T 5 2].all finB&&([osg T 3 3,osg T 4 3,osg T 5 3].all finB&&([osg T 4 4,osg T 5 4].all finB&&([osg T 5 5].all finB&&true)))))):=rfl
 rw [e1,e2]
 simp only [List.all_cons,List.all_nil,qqv,Bool.and_true]
 ac_rfl
theorem qajy {T:DTab} (h:outB T=true):(restC (outT T)).all id=true:=by
 have hd : ∀ i,i<6→fLt .f32 (osg T i i) 0=false:=fun i hi=>by
  have hf:=qab5 h (Nat.le_refl i) hi
  rw [qagj] at hf
  unfold osg
  cases hl:fLt .f32 (tg T i i) 0 with
  | false=>exact hl
  | true=>exact qahs hf hl
 have z:fEq .f32 0 0=true:=by decide
 have e:(restC (outT T)).all id=(([osg T 0 0,0,0,0,0,0].all finB&&(!fLt .f32 (osg T 0 0) 0&&(fEq .f32 0 0&&(fEq .f32 0 0&&(fEq .f32 0 0&&(fEq .f32 0 0&&(fEq .f32 0 0&&(
  [osg T 1 0,osg T 1 1,0,0,0,0].all finB&&(!fLt .f32 (osg T 1 1) 0&&(fEq .f32 0 0&&(fEq .f32 0 0&&(fEq .f32 0 0&&(fEq .f32 0 0&&(
  [osg T 2 0,osg T 2 1,osg T 2 2,0,0,0].all finB&&(!fLt .f32 (osg T 2 2) 0&&(fEq .f32 0 0&&(fEq .f32 0 0&&(fEq .f32 0 0&&(
  [osg T 3 0,osg T 3 1,osg T 3 2,osg T 3 3,0,0].all finB&&(!fLt .f32 (osg T 3 3) 0&&(fEq .f32 0 0&&(fEq .f32 0 0&&(
  [osg T 4 0,osg T 4 1,osg T 4 2,osg T 4 3,osg T 4 4,0].all finB&&(!fLt .f32 (osg T 4 4) 0&&(fEq .f32 0 0&&(
  [osg T 5 0,osg T 5 1,osg T 5 2,osg T 5 3,osg T 5 4,osg T 5 5].all finB&&(!fLt .f32 (osg T 5 5) 0&&true)))))))))))))))))))))))))))):=rfl
 rw [e]
 have f:=fun (k i:Nat) (hi:i≤k) (hk:k<6)=>qab5 h hi hk
 simp only [List.all_cons,List.all_nil,qqv,z,hd 0 (by omega),hd 1 (by omega),hd 2 (by omega),hd 3 (by omega),hd 4 (by omega),hd 5 (by omega),f 0 0 (by omega) (by omega),f 1 0 (by omega) (by omega),f 1 1 (by omega) (by omega),f 2 0 (by omega) (by omega),f 2 1 (by omega) (by omega),f 2 2 (by omega) (by omega),f 3 0 (by omega) (by omega),f 3 1 (by omega) (by omega),f 3 2 (by omega) (by omega),f 3 3 (by omega) (by omega),f 4 0 (by omega) (by omega),f 4 1 (by omega) (by omega),f 4 2 (by omega) (by omega),f 4 3 (by omega) (by omega),f 4 4 (by omega) (by omega),f 5 0 (by omega) (by omega),f 5 1 (by omega) (by omega),f 5 2 (by omega) (by omega),f 5 3 (by omega) (by omega),f 5 4 (by omega) (by omega),f 5 5 (by omega) (by omega),Bool.and_true,Bool.and_self,Bool.not_false]
abbrev DCode:=(DRoot×Int×Unit)×Unit
theorem qaji (T:DTab) : ∃ a:DCode,run qce ((0:Int),T,())=some a∧qdx T=some a∧(a=((z6,(4:Int),()),())∨(finT T=true ∧ ∃ U,outB U=true∧a=((outT U,(0:Int),()),()))):=by
 obtain ⟨a,b,h1,h2,rfl,h4⟩:=qxv (f:=qce) (g:=qf2) (fun s t=>s=t ∧ ∃ (i:Nat) (U:DTab),s=((i:Int),U,())∧i≤6∧(finT T=false→Seen i U fun _ _=>True)) (fun s=>(6-s.1).toNat)
  (fun a b:DCode=>a=b∧(a=((z6,(4:Int),()),())∨(finT T=true ∧ ∃ U,outB U=true∧a=((outT U,(0:Int),()),())))) (fun s t hR=>by
   obtain ⟨rfl,i,U,rfl,hi,hs⟩:=hR
   by_cases h6:i<6
   ·have e1:iLt (i:Int) 6=true:=qan (by omega)
    have e5:iAdd .i64 (i:Int) 1=((i+1:Nat):Int):=qaw (n:=6) h6 (by omega)
    have f1:qce ((i:Int),U,())=run (qb4 ((i:Int),U,())) (((i+1:Nat):Int),U,()):=by simp only [qce,e1,e5,cond_true]
    have f2:qf2 ((i:Int),U,())=run (qb4 ((i:Int),U,())) (((i+1:Nat):Int),U,()):=by
     simp only [qf2,e1,e5,cond_true]
     rfl
    obtain ⟨o,ho,hh⟩:=qao9 h6 (finT T=false) hs
    rw [f1,f2,ho]
    rcases hh with ⟨U',rfl,hU⟩ | rfl
    ·exact .inl ⟨_,_,rfl,rfl,⟨rfl,i+1,U',rfl,by omega,hU⟩,by show (6-((i+1:Nat):Int)).toNat<(6-(i:Int)).toNat;omega⟩
    ·exact .inr ⟨_,_,rfl,rfl,rfl,.inl rfl⟩
   ·have:i=6:=by omega
    subst this
    have f1:qce ((6:Int),U,())=Option.map Sum.inr (run (qd3 ((6:Int),U,())) ((0:Int),z6,())):=by kernel_rfl
    have f2:qf2 ((6:Int),U,())=Option.map Sum.inr (run (qcy ((6:Int),U,())) ((0:Int),z6,())):=by kernel_rfl
    have g1:run (qd3 ((6:Int),U,())) ((0:Int),z6,())=bif outB U then some ((outT U,(0:Int),()),()) else some ((z6,(4:Int),()),()):=by
     refine (qai7 _).trans ((qai8 U).trans ?_)
     rw [qaa0,qaj7]
     cases outB U <;> rfl
    have g2:=qapd U
    refine .inr ?_
    cases ho:outB U with
    | false =>
     rw [ho] at g1 g2
     exact ⟨_,_,f1.trans (congrArg (Option.map Sum.inr) g1),f2.trans (congrArg (Option.map Sum.inr) g2),rfl,.inl rfl⟩
    | true =>
     rw [ho] at g1 g2
     refine ⟨_,_,f1.trans (congrArg (Option.map Sum.inr) g1),f2.trans (congrArg (Option.map Sum.inr) g2),rfl,.inr ⟨?_,U,ho,rfl⟩⟩
     cases hf:finT T with
     | true=>rfl
     | false =>
      have:=qamp (hs hf)
      rw [ho] at this
      cases this) ⟨rfl,0,T,rfl,by omega,qah3⟩
 exact ⟨a,h1,h2,h4⟩
theorem qua (r:Vec 6 Nat):qc8 r=some (((rowL r).all finB,()),()):=by
 simp only [qc8,qbo,Option.bind_some,qxm]
 rfl
theorem qco (s:DState):qgp s=some ((stateB s,()),()):=by
 simp only [qgp,qua,Option.bind_some,qxm,qage,Bool.not_not]
 rfl
abbrev zS:DState:=((0,0,0,0,0,0,()),((0,0,0,0,0,0,()),(0,0,0,0,0,0,()),(0,0,0,0,0,0,()),(0,0,0,0,0,0,()),(0,0,0,0,0,0,()),(0,0,0,0,0,0,()),()),())
abbrev DMade:=(DState×Int×Unit)×Unit
theorem qxb (x:Vec 6 Nat) (T:DTab) : ∃ (w:DState) (k:Int),qca x T=some ((w,k,()),())∧((qdx T).bind fun y=>(qdq ((x,y.1.1,()):DState) y.1.2.1).bind fun y=>some ((y.1.1,y.1.2.1,()),()))=some ((w,k,()),())∧((k=0∧stateB w=true)∨(k=4∧w=zS))∧(finT T=false→k=4):=by
 obtain ⟨a,h1,h2,h3⟩:=qaji T
 have hL:=qapu T
 rcases h3 with rfl | ⟨hf,U,hU,rfl⟩
 ·refine ⟨zS,4,?_,?_,.inr ⟨rfl,rfl⟩,fun _=>rfl⟩
  ·cases hf:finT T with
   | true =>
    rw [hf,cond_true,h1] at hL
    simp only [qca,hL,Option.bind_some]
    rfl
   | false =>
    rw [hf,cond_false] at hL
    simp only [qca,hL,Option.bind_some]
    rfl
  ·rw [h2]
   rfl
 ·rw [hf,cond_true,h1] at hL
  have hv:stateB ((x,outT U,()):DState)=(rowL x).all finB:=by
   show ((rowL x).all finB&&(restC (outT U)).all id)=_
   rw [qajy hU,Bool.and_true]
  cases hx:(rowL x).all finB with
  | true =>
   rw [hx] at hv
   refine ⟨(x,outT U,()),0,?_,?_,.inl ⟨rfl,hv⟩,fun q => ?_⟩
   ·simp only [qca,hL,Option.bind_some,qoy]
    show (bif !(rowL x).all finB then _ else _)=_
    rw [hx]
    rfl
   ·rw [h2]
    simp only [Option.bind_some,qdq,qco,hv]
    rfl
   ·rw [hf] at q;cases q
  | false =>
   rw [hx] at hv
   refine ⟨zS,4,?_,?_,.inr ⟨rfl,rfl⟩,fun _=>rfl⟩
   ·simp only [qca,hL,Option.bind_some,qoy]
    show (bif !(rowL x).all finB then _ else _)=_
    rw [hx]
    rfl
   ·rw [h2]
    simp only [Option.bind_some,qdq,qco,hv]
    rfl
end
section
def magB (x:Nat) (t:Int):Prop:=∃ s m p,FloatKind.f32.decode x = .number s m p∧(m≠0→topOf m p≤t)
theorem qan2 {x:Nat} {t:Int} (h:magB x t):finB x=true:=by
 obtain ⟨s,m,p,hd,_⟩:=h
 exact qen.2 ⟨s,m,p,hd⟩
theorem qwv (s:Bool) {m:Nat} {p t:Int} (h:m≠0→topOf m p≤t) (h1:t≤126) (h2 : -126≤t):magB (canon .f32 (FloatKind.f32.encode (.number s m p))) (t+1):=by
 obtain ⟨s',m',p',e1,_,_,e4⟩:=qajn s (m:=m) (p:=p) (fun q=>Int.le_trans (h q) h1)
 have hn:isNan .f32 (FloatKind.f32.encode (.number s m p))=false:=qss rfl
 rw [qak hn]
 refine ⟨s',m',p',e1,fun q => ?_⟩
 obtain ⟨a,b⟩:=e4 q
 have:=h a
 omega
theorem qaly {m n:Nat} (hm:m≠0) (hn:n≠0):(m*n).log2≤m.log2+n.log2+1:=by
 have h1:m<2^(m.log2+1):=Nat.lt_log2_self
 have h2:n<2^(n.log2+1):=Nat.lt_log2_self
 have h3:m*n<2^(m.log2+n.log2+2):=by
  have:2^(m.log2+n.log2+2)=2^(m.log2+1)*2^(n.log2+1):=by rw [← Nat.pow_add];congr 1;omega
  rw [this]
  exact Nat.mul_lt_mul'' h1 h2
 have:=(Nat.log2_lt (Nat.mul_ne_zero hm hn)).2 h3
 omega
theorem qan3 {a b:Nat} {t u:Int} (ha:magB a t) (hb:magB b u) (h1:t+u+1≤126) (h2 : -126≤t+u+1):magB (fMul .f32 a b) (t+u+2):=by
 obtain ⟨s,m,p,hd,hm⟩:=ha
 obtain ⟨s',m',p',hd',hm'⟩:=hb
 have e:fMul .f32 a b=canon .f32 (FloatKind.f32.encode (.number (s ^^ s') (m*m') (p+p'))):=by
  unfold fMul Ieee.Format.mul
  rw [show FloatKind.f32.format.read a = .number s m p from hd,show FloatKind.f32.format.read b = .number s' m' p' from hd']
  rfl
 rw [e,show t+u+2=(t+u+1)+1 by omega]
 refine qwv _ (fun q => ?_) h1 h2
 have q1:m≠0:=fun z=>q (by rw [z];simp)
 have q2:m'≠0:=fun z=>q (by rw [z];simp)
 have:=qaly q1 q2
 have a1:=hm q1
 have a2:=hm' q2
 unfold topOf at *
 omega
theorem qajj {n:Int} (h : -32768≤n) (h1:n≤32767):magB (fOfInt .f32 n) 17:=by
 have e:fOfInt .f32 n=canon .f32 (FloatKind.f32.encode (.number (n<0) n.natAbs 0)):=rfl
 rw [e]
 refine qwv _ (t:=16) (fun q => ?_) (by omega) (by omega)
 have : n.natAbs < 2 ^ 17 := by have : (2 : Nat) ^ 17 = 131072 := by decide
                                omega
 have:=(Nat.log2_lt q).2 this
 unfold topOf
 omega
theorem qal1 (t:Int):magB 0 t:=⟨false,0,-149,by decide,fun q=>absurd rfl q⟩
theorem qabe (s:Bool) (m k:Nat):(Ieee.signed s m k).natAbs=m*2^k:=by
 unfold Ieee.signed
 rw [Nat.shiftLeft_eq]
 cases s <;> simp [Int.natAbs_mul,Int.natAbs_pow]
theorem qagw {m:Nat} {i base t:Int} (hb:base≤i) (h:m≠0→topOf m i≤t):m*2^(i-base).toNat<2^(t+1-base).toNat:=by
 by_cases hm:m=0
 ·rw [hm,Nat.zero_mul];exact Nat.two_pow_pos _
 ·have ht:=h hm
  unfold topOf at ht
  have h1:m<2^(m.log2+1):=Nat.lt_log2_self
  have h2:m*2^(i-base).toNat<2^(m.log2+1)*2^(i-base).toNat:=Nat.mul_lt_mul_of_pos_right h1 (Nat.two_pow_pos _)
  rw [← Nat.pow_add] at h2
  exact Nat.lt_of_lt_of_le h2 (Nat.pow_le_pow_right (by decide) (by omega))
theorem qan1 {a b:Nat} {t:Int} (ha:magB a t) (hb:magB b t) (h1:t+1≤126) (h2 : -126≤t+1):magB (fAdd .f32 a b) (t+2):=by
 obtain ⟨s,m,i,hd,hm⟩:=ha
 obtain ⟨s',n,j,hd',hn⟩:=hb
 have e : ∃ g,fAdd .f32 a b=canon .f32 (FloatKind.f32.encode (.number g (Ieee.signed s m (i-min i j).toNat+Ieee.signed s' n (j-min i j).toNat).natAbs (min i j))):=by
  unfold fAdd Ieee.Format.add
  rw [show FloatKind.f32.format.read a = .number s m i from hd,show FloatKind.f32.format.read b = .number s' n j from hd']
  exact ⟨_,rfl⟩
 obtain ⟨g,e⟩:=e
 rw [e,show t+2=(t+1)+1 by omega]
 refine qwv _ (fun q => ?_) h1 h2
 have p1:=qagw (m:=m) (i:=i) (base:=min i j) (t:=t) (by omega) hm
 have p2:=qagw (m:=n) (i:=j) (base:=min i j) (t:=t) (by omega) hn
 have q1:=qabe s m (i-min i j).toNat
 have q2:=qabe s' n (j-min i j).toNat
 generalize hx:Ieee.signed s m (i-min i j).toNat=x at *
 generalize hy:Ieee.signed s' n (j-min i j).toNat=y at *
 have hs:(x+y).natAbs<2^((t+1-min i j).toNat+1):=by
  have:=Int.natAbs_add_le x y
  rw [Nat.pow_succ]
  omega
 have hl:=(Nat.log2_lt q).2 hs
 have hbase:min i j≤t:=by
  by_cases z:m=0
  ·by_cases z':n=0
   ·subst z z'
    rw [Nat.zero_mul] at q1 q2
    omega
   ·have:=hn z'
    unfold topOf at this
    omega
  ·have:=hm z
   unfold topOf at this
   omega
 unfold topOf
 omega
end
section
abbrev DClue:=Vec 6 Nat×(Nat×(Nat×Unit))
abbrev zC:DClue:=((0,0,0,0,0,0,()),0,0,())
def clueB (c:DClue):Bool:=(rowL c.1).all finB&&(finB c.2.1&&(finB c.2.2.1&&fLt .f32 0 c.2.2.1))
theorem qcw (c:DClue):qdd c=some ((clueB c,()),()):=by
 simp only [qdd,qoy,Option.bind_some]
 have h2:qaf [c.2.1,c.2.2.1]=some (((finB c.2.1&&finB c.2.2.1),()),()):=by rw [qb5 _ (by simp)];simp
 rw [h2]
 show (bif (rowL c.1).all finB then _ else _)=_
 unfold clueB
 cases (rowL c.1).all finB <;> cases finB c.2.1 <;> cases finB c.2.2.1 <;> rfl
theorem qgo (c:DClue):qhk c=some ((clueB c,()),()):=by
 simp only [qhk,qua,qbo,Option.bind_some]
 unfold clueB
 cases (rowL c.1).all finB <;> cases finB c.2.1 <;> cases finB c.2.2.1 <;> rfl
theorem qti (c:DClue):qkk c=some ((bif clueB c then c else zC,bif clueB c then 0 else 1,()),()):=by
 simp only [qkk,qcw,Option.bind_some]
 cases clueB c <;> rfl
theorem qlo (c:DClue):qik c=some ((bif clueB c then c else zC,bif clueB c then 0 else 1,()),()):=by
 simp only [qik,qgo,Option.bind_some]
 cases clueB c <;> rfl
def cl (i x d:Nat):DClue:=(Vec.set 6 r6 i (1065353216:Nat),x,d,())
theorem qabx {i:Nat} (hi:i<6) (x d:Nat):qn3 (i:Int) x d=some ((bif clueB (cl i x d) then cl i x d else zC,bif clueB (cl i x d) then 0 else 1,()),()):=by
 have e1:iLt (i:Int) 0=false:=qas (by omega)
 have e2:iLt 5 (i:Int)=false:=qas (by omega)
 have e3:inB (i:Int) 6=true:=qaj hi
 have e4:=qti (cl i x d)
 simp only [qn3,e1,e2,e3,Int.toNat_natCast,cond_true,cond_false]
 exact (congrArg (fun z=>Option.bind z _) e4).trans rfl
theorem qbt {i:Nat} (hi:i<6) (x d:Nat):qax (i:Int) x d=some ((bif clueB (cl i x d) then cl i x d else zC,bif clueB (cl i x d) then 0 else 1,()),()):=by
 have e1:iLe 0 (i:Int)=true:=qds (by omega)
 have e2:iLe (i:Int) 5=true:=qds (by omega)
 have e3:inB (i:Int) 6=true:=qaj hi
 have e4:=qlo (cl i x d)
 simp only [qax,qhz,e1,e2,e3,Option.bind_some,Bool.and_self,Bool.not_true,Int.toNat_natCast,cond_true,cond_false]
 exact (congrArg (fun z=>Option.bind z _) e4).trans rfl
theorem qeq {i:Nat} (hi:i<6) (x d:Nat):qaz (i:Int) x d=some ((bif clueB (cl i x d) then cl i x d else zC,()),()):=by
 simp only [qaz,qabx hi,Option.bind_some]
theorem qy5 (a b:Vec 3 Nat):qkj a b=qfh a b:=by kernel_rfl
def dot3 (a b:Vec 3 Nat):Nat:=fAdd .f32 (fAdd .f32 (fMul .f32 (Vec.getD 3 a 0 (0:Nat)) (Vec.getD 3 b 0 (0:Nat))) (fMul .f32 (Vec.getD 3 a 1 (0:Nat)) (Vec.getD 3 b 1 (0:Nat)))) (fMul .f32 (Vec.getD 3 a 2 (0:Nat)) (Vec.getD 3 b 2 (0:Nat)))
theorem qabz (a b:Vec 3 Nat):qio a b=some ((dot3 a b,()),()):=by
 simp only [qio,qafj,Option.bind_some]
 rfl
theorem qt6 (a b:Vec 3 Nat):qku a b=some ((dot3 a b,()),()):=rfl
theorem qqx (a:Vec 3 Nat):qdu a=some ((rootF (dot3 a a),()),()):=by simp only [qdu,qabz,qhc,Option.bind_some]
theorem qrd (a:Vec 3 Nat):qe3 a=some ((rootF (dot3 a a),()),()):=by simp only [qe3,qt6,qev,Option.bind_some]
theorem qac8 (x:Nat):qaf [x]=some ((finB x,()),()):=by rw [qb5 _ (by simp)];simp
theorem qafl (v:Vec 3 Nat) : ∃ (u:Vec 3 Nat) (k:Int),qn5 v=some ((u,k,()),())∧qn9 v=some ((u,k,()),()):=by
 simp only [qn5,qn9,qqx,qt6,qev,qbo,qac8,Option.bind_some]
 cases fEq .f32 (rootF (dot3 v v)) 0 with
 | true=>exact ⟨_,_,rfl,rfl⟩
 | false =>
  cases finB (rootF (dot3 v v)) with
  | true=>exact ⟨_,_,rfl,rfl⟩
  | false=>exact ⟨_,_,rfl,rfl⟩
theorem qagz (c:DClue) (v:Vec 6 Nat):qg3 c v=qkv c.1 v:=by
 simp only [qg3,qabq,Option.bind_some]
 rfl
theorem qt8 (u v:Vec 6 Nat) : ∃ x,qkv u v=some ((x,()),()):=⟨_,rfl⟩
theorem qaj2 (s:DState) (p:Vec 3 Nat) (x d:Nat) : ∃ (c:DClue) (k:Int),qj1 s p x d=some ((c,k,()),())∧qfm s p x d=some ((c,k,()),()):=by
 have h1 : ∃ q,ql6 s=some ((q,()),())∧qk4 s=some ((q,()),()):=⟨_,rfl,rfl⟩
 obtain ⟨q,p1,p2⟩:=h1
 have h2 : ∃ m,qfh q p=some ((m,()),()):=⟨_,rfl⟩
 obtain ⟨m,hm⟩:=h2
 obtain ⟨u,k,u1,u2⟩:=qafl m
 simp only [qj1,qfm,qau,qco,p1,p2,qy5,hm,u1,u2,qqx,qrd,Option.bind_some]
 cases stateB s with
 | false=>exact ⟨zC,1,rfl,rfl⟩
 | true =>
  simp only [Bool.not_true,cond_false]
  cases iEq k 0 with
  | false=>exact ⟨zC,k,rfl,rfl⟩
  | true =>
   simp only [Bool.not_true,cond_false]
   have e:=qagz ((Vec.getD 3 u 0 (0:Nat),Vec.getD 3 u 1 (0:Nat),Vec.getD 3 u 2 (0:Nat),0,0,0,()),0,d,()) s.1
   obtain ⟨z,hz⟩:=qt8 (Vec.getD 3 u 0 (0:Nat),Vec.getD 3 u 1 (0:Nat),Vec.getD 3 u 2 (0:Nat),0,0,0,()) s.1
   obtain ⟨C,hC⟩ : ∃ C:DClue,C=((Vec.getD 3 u 0 (0:Nat),Vec.getD 3 u 1 (0:Nat),Vec.getD 3 u 2 (0:Nat),0,0,0,()),fAdd .f32 (fSub .f32 x (rootF (dot3 m m))) z,d,()):=⟨_,rfl⟩
   refine ⟨bif clueB C then C else zC,bif clueB C then 0 else 1,(congrArg (fun w=>Option.bind w _) (e.trans hz)).trans ?_,(congrArg (fun w=>Option.bind w _) hz).trans ?_⟩
   ·subst hC
    exact (congrArg (fun w=>Option.bind w _) (qti _)).trans rfl
   ·subst hC
    exact (congrArg (fun w=>Option.bind w _) (qlo _)).trans rfl
theorem qqh (s:DState) (c:DClue) : ∃ (sh:Vec 6 Nat) (e v:Nat),qkl s c=some ((sh,e,v,()),())∧qhm s c=some ((sh,e,v,()),()):=by
 refine ⟨_,_,_,?_,rfl⟩
 simp only [qkl,qabq,qapj,qapi,qafj,qaph,qapg,qagz,Option.bind_some]
 kernel_rfl
def dt (L:DRoot) (sh:Vec 6 Nat) (i:Nat):Nat:=dotS ((rowL (rowS L i)).take (i+1)) (rowL sh)
def ug (L:DRoot) (sh:Vec 6 Nat) (f:Nat) (i j:Nat):Nat:=fSub .f32 (Vec.getD 6 (rowS L i) j (0:Nat)) (fMul .f32 (fMul .f32 (dt L sh i) f) (Vec.getD 6 sh j (0:Nat)))
def updT (L:DRoot) (sh:Vec 6 Nat) (f:Nat):DTab:=((ug L sh f 0 0,ug L sh f 0 1,ug L sh f 0 2,ug L sh f 0 3,ug L sh f 0 4,ug L sh f 0 5,0,0,0,()),(ug L sh f 1 0,ug L sh f 1 1,ug L sh f 1 2,ug L sh f 1 3,ug L sh f 1 4,ug L sh f 1 5,0,0,0,()),(ug L sh f 2 0,ug L sh f 2 1,ug L sh f 2 2,ug L sh f 2 3,ug L sh f 2 4,ug L sh f 2 5,0,0,0,()),(ug L sh f 3 0,ug L sh f 3 1,ug L sh f 3 2,ug L sh f 3 3,ug L sh f 3 4,ug L sh f 3 5,0,0,0,()),(ug L sh f 4 0,ug L sh f 4 1,ug L sh f 4 2,ug L sh f 4 3,ug L sh f 4 4,ug L sh f 4 5,0,0,0,()),(ug L sh f 5 0,ug L sh f 5 1,ug L sh f 5 2,ug L sh f 5 3,ug L sh f 5 4,ug L sh f 5 5,0,0,0,()),())
def updL (L:DRoot) (sh:Vec 6 Nat) (f:Nat):List Nat:=[ug L sh f 0 0,ug L sh f 0 1,ug L sh f 0 2,ug L sh f 0 3,ug L sh f 0 4,ug L sh f 0 5,ug L sh f 1 0,ug L sh f 1 1,ug L sh f 1 2,ug L sh f 1 3,ug L sh f 1 4,ug L sh f 1 5,ug L sh f 2 0,ug L sh f 2 1,ug L sh f 2 2,ug L sh f 2 3,ug L sh f 2 4,ug L sh f 2 5,ug L sh f 3 0,ug L sh f 3 1,ug L sh f 3 2,ug L sh f 3 3,ug L sh f 3 4,ug L sh f 3 5,ug L sh f 4 0,ug L sh f 4 1,ug L sh f 4 2,ug L sh f 4 3,ug L sh f 4 4,ug L sh f 4 5,ug L sh f 5 0,ug L sh f 5 1,ug L sh f 5 2,ug L sh f 5 3,ug L sh f 5 4,ug L sh f 5 5]
def updX (x:Vec 6 Nat) (L:DRoot) (sh:Vec 6 Nat) (g:Nat):Vec 6 Nat:=(fAdd .f32 (Vec.getD 6 x 0 (0:Nat)) (fMul .f32 (dt L sh 0) g),fAdd .f32 (Vec.getD 6 x 1 (0:Nat)) (fMul .f32 (dt L sh 1) g),fAdd .f32 (Vec.getD 6 x 2 (0:Nat)) (fMul .f32 (dt L sh 2) g),fAdd .f32 (Vec.getD 6 x 3 (0:Nat)) (fMul .f32 (dt L sh 3) g),fAdd .f32 (Vec.getD 6 x 4 (0:Nat)) (fMul .f32 (dt L sh 4) g),fAdd .f32 (Vec.getD 6 x 5 (0:Nat)) (fMul .f32 (dt L sh 5) g),())
noncomputable def chk {A:Type} : List Nat→Option A→Option A→Option A
 | [],_,R=>R
 | x :: l,Z,R=>(qaa x).bind fun y=>bif !y.1.1 then Z else chk l Z R
theorem qaim {A:Type} (Z R:Option A) : ∀ l:List Nat,chk l Z R=bif l.all finB then R else Z
 | []=>rfl
 | x :: l=>by
  simp only [chk,qbo,Option.bind_some,qaim Z R l,List.all_cons]
  cases finB x <;> rfl
noncomputable def madeOf (x:Vec 6 Nat) (T:DTab):Option DMade:=(qdx T).bind fun y=>(qdq ((x,y.1.1,()):DState) y.1.2.1).bind fun y=>some ((y.1.1,y.1.2.1,()),())
theorem qvx (s:DState) (c:DClue):qfr s c=(qhm s c).bind fun y=>(qdp (fDiv .f32 (fMul .f32 c.2.2.1 c.2.2.1) y.1.2.2.1)).bind fun z =>
  chk (updL s.2.1 y.1.1 (fDiv .f32 (fDiv .f32 1065353216 (fAdd .f32 1065353216 z.1.1)) y.1.2.2.1)) (some ((zS,(4:Int),()),())) (madeOf (updX s.1 s.2.1 y.1.1 (fDiv .f32 y.1.2.1 y.1.2.2.1)) (updT s.2.1 y.1.1 (fDiv .f32 (fDiv .f32 1065353216 (fAdd .f32 1065353216 z.1.1)) y.1.2.2.1))):=by kernel_rfl
theorem qamz {L:DRoot} {sh:Vec 6 Nat} {f:Nat} (h:finT (updT L sh f)=true):(updL L sh f).all finB=true:=by
 have h':([ug L sh f 0 0,ug L sh f 0 1,ug L sh f 0 2,ug L sh f 0 3,ug L sh f 0 4,ug L sh f 0 5,0,0,0].all finB&&([ug L sh f 1 0,ug L sh f 1 1,ug L sh f 1 2,ug L sh f 1 3,ug L sh f 1 4,ug L sh f 1 5,0,0,0].all finB&&([ug L sh f 2 0,ug L sh f 2 1,ug L sh f 2 2,ug L sh f 2 3,ug L sh f 2 4,ug L sh f 2 5,0,0,0].all finB&&([ug L sh f 3 0,ug L sh f 3 1,ug L sh f 3 2,ug L sh f 3 3,ug L sh f 3 4,ug L sh f 3 5,0,0,0].all finB&&([ug L sh f 4 0,ug L sh f 4 1,ug L sh f 4 2,ug L sh f 4 3,ug L sh f 4 4,ug L sh f 4 5,0,0,0].all finB&&([ug L sh f 5 0,ug L sh f 5 1,ug L sh f 5 2,ug L sh f 5 3,ug L sh f 5 4,ug L sh f 5 5,0,0,0].all finB&&true))))))=true:=h
 simp only [updL,List.all_cons,List.all_nil,Bool.and_eq_true,and_true,qqv,and_assoc] at h' ⊢
 exact h'
theorem qqk {s:DState} (hs:stateB s=true) {c:DClue} (hc:clueB c=true) : ∃ (w:DState) (k:Int),qc6 s c=some ((w,k,()),())∧qfr s c=some ((w,k,()),())∧((k=0∧stateB w=true)∨(k=4∧w=zS)):=by
 obtain ⟨sh,e,v,h1,h2⟩:=qqh s c
 obtain ⟨w,k,r1,r2,r3,r4⟩:=qxb (updX s.1 s.2.1 sh (fDiv .f32 e v)) (updT s.2.1 sh (fDiv .f32 (fDiv .f32 1065353216 (fAdd .f32 1065353216 (rootF (fDiv .f32 (fMul .f32 c.2.2.1 c.2.2.1) v)))) v))
 have e1:qc6 s c=some ((w,k,()),()):=by
  simp only [qc6,qau,hs,qcw,hc,h1,qhc,qakh,qaki,qakj,qakk,qakl,qabq,Option.bind_some,Bool.not_true,cond_false]
  refine Eq.trans (b:=(qca (updX s.1 s.2.1 sh (fDiv .f32 e v)) (updT s.2.1 sh (fDiv .f32 (fDiv .f32 1065353216 (fAdd .f32 1065353216 (rootF (fDiv .f32 (fMul .f32 c.2.2.1 c.2.2.1) v)))) v))).bind fun y=>some ((y.1.1,y.1.2.1,()),())) (by kernel_rfl) ?_
  rw [r1]
  rfl
 have e2:qfr s c=bif (updL s.2.1 sh (fDiv .f32 (fDiv .f32 1065353216 (fAdd .f32 1065353216 (rootF (fDiv .f32 (fMul .f32 c.2.2.1 c.2.2.1) v)))) v)).all finB then some ((w,k,()),()) else some ((zS,(4:Int),()),()):=by
  rw [qvx]
  simp only [h2,qev,Option.bind_some,qaim]
  rw [show madeOf (updX s.1 s.2.1 sh (fDiv .f32 e v)) (updT s.2.1 sh (fDiv .f32 (fDiv .f32 1065353216 (fAdd .f32 1065353216 (rootF (fDiv .f32 (fMul .f32 c.2.2.1 c.2.2.1) v)))) v))=some ((w,k,()),()) from r2]
 cases hf:(updL s.2.1 sh (fDiv .f32 (fDiv .f32 1065353216 (fAdd .f32 1065353216 (rootF (fDiv .f32 (fMul .f32 c.2.2.1 c.2.2.1) v)))) v)).all finB with
 | true =>
  rw [hf] at e2
  exact ⟨w,k,e1,e2,r3⟩
 | false =>
  rw [hf] at e2
  have hT:finT (updT s.2.1 sh (fDiv .f32 (fDiv .f32 1065353216 (fAdd .f32 1065353216 (rootF (fDiv .f32 (fMul .f32 c.2.2.1 c.2.2.1) v)))) v))=false:=by
   cases ht:finT (updT s.2.1 sh (fDiv .f32 (fDiv .f32 1065353216 (fAdd .f32 1065353216 (rootF (fDiv .f32 (fMul .f32 c.2.2.1 c.2.2.1) v)))) v)) with
   | false=>rfl
   | true=>rw [qamz ht] at hf;cases hf
  have hk:=r4 hT
  rcases r3 with ⟨q,_⟩ | ⟨_,rfl⟩
  ·omega
  ·exact ⟨zS,k,e1,by rw [hk];exact e2,.inr ⟨hk,rfl⟩⟩
theorem qalp {s:DState} (hs:stateB s=true) {c:DClue} (hc:clueB c=true) : ∃ (g:Nat) (k:Int),qn4 s c=some ((g,k,()),())∧qhl s c=some ((g,k,()),())∧finB g=true:=by
 obtain ⟨sh,e,v,h1,h2⟩:=qqh s c
 simp only [qn4,qhl,qau,hs,qcw,hc,h1,h2,qpc,qac8,qbo,Option.bind_some,Bool.not_true,cond_false]
 cases hf:finB (fDiv .f32 (fMul .f32 e e) v) with
 | true=>exact ⟨_,_,rfl,rfl,hf⟩
 | false=>exact ⟨_,_,rfl,rfl,qqv⟩
theorem qr1 (s:DState) (c:DClue) {f:Nat} (hf:finB f=true) : ∃ (w:DState) (b:Bool) (k:Int),qa3 s c f=some ((w,b,k,()),())∧qbw s c f=some ((w,b,k,()),())∧(k=0→stateB w=true):=by
 simp only [qa3,qbw,qmq,qau,qco,qcw,qgo,Option.bind_some]
 cases hs:stateB s with
 | false=>exact ⟨_,_,_,rfl,rfl,fun q=>absurd q (by decide)⟩
 | true =>
  cases hc:clueB c with
  | false=>exact ⟨_,_,_,rfl,rfl,fun q=>absurd q (by decide)⟩
  | true =>
   obtain ⟨g,k,g1,g2,g3⟩:=qalp hs hc
   obtain ⟨w,k',u1,u2,u3⟩:=qqk hs hc
   have i0:(!iEq (0:Int) 0)=false:=rfl
   simp only [Bool.not_true,cond_false,g1,g2,u1,u2,i0,Option.bind_some]
   cases fLe .f32 0 f with
   | false=>exact ⟨_,_,_,rfl,rfl,fun q=>absurd q (by decide)⟩
   | true =>
    simp only [Bool.not_true,cond_false]
    cases hk:iEq k 0 with
    | false=>exact ⟨_,_,_,rfl,rfl,fun q=>absurd q (qff.1 hk)⟩
    | true =>
     simp only [Bool.not_true,cond_false,qajr g3 hf]
     cases fLt .f32 f g with
     | true=>exact ⟨_,_,_,rfl,rfl,fun _=>hs⟩
     | false=>exact ⟨_,_,_,rfl,rfl,fun q=>by
       rcases u3 with ⟨_,h⟩ | ⟨h,_⟩
       ·exact h
       ·have q:k'=0:=q
        omega⟩
theorem qam7 {l:List DClue} (hl:l.length≤256) (hv:l.all clueB=true) {s:DState} (hs:stateB s=true) : ∃ (w:DState) (k:Int),run (qcv l) ((0:Int),s,())=some ((w,k,()),())∧run (qav l) ((0:Int),s,())=some ((w,k,()),())∧(k=0→stateB w=true):=by
 obtain ⟨a,b,h1,h2,w,k,rfl,rfl,h3⟩:=qxv (f:=qcv l) (g:=qav l) (fun s t=>s=t ∧ ∃ (i:Nat) (u:DState),s=((i:Int),u,())∧i≤l.length∧stateB u=true) (fun s=>(l.length-s.1).toNat)
  (fun a b:DMade => ∃ (w:DState) (k:Int),a=((w,k,()),())∧b=((w,k,()),())∧(k=0→stateB w=true)) (fun s t hR=>by
   obtain ⟨rfl,i,u,rfl,hi,hu⟩:=hR
   by_cases hlt:i<l.length
   ·have e1:iLt (i:Int) (lenI l)=true:=qan (by rw [qac];omega)
    have e2:inB (i:Int) l.length=true:=qaj hlt
    have e4:l.getD i zC=l[i]:=qbd hlt
    have e5:iAdd .i64 (i:Int) 1=((i+1:Nat):Int):=qaw hlt (by omega)
    have hc:clueB l[i]=true:=List.all_eq_true.1 hv _ (List.getElem_mem hlt)
    obtain ⟨w,k,u1,u2,u3⟩:=qqk hu hc
    have f1:qcv l ((i:Int),u,())=bif !iEq k 0 then some (.inr ((zS,k,()),())) else some (.inl (((i+1:Nat):Int),w,())):=by
     simp only [qcv,e1,e2,e4,e5,u1,Int.toNat_natCast,Option.bind_some,Option.map_some,cond_true]
    have f2:qav l ((i:Int),u,())=bif !iEq k 0 then some (.inr ((zS,k,()),())) else some (.inl (((i+1:Nat):Int),w,())):=by
     simp only [qav,e1,e2,e4,e5,u2,Int.toNat_natCast,Option.bind_some,Option.map_some,cond_true]
    rw [f1,f2]
    cases hk:iEq k 0 with
    | false=>exact .inr ⟨_,_,rfl,rfl,_,_,rfl,rfl,fun q=>absurd q (qff.1 hk)⟩
    | true =>
     have hk0:=qbq.1 hk
     refine .inl ⟨_,_,rfl,rfl,⟨rfl,i+1,w,rfl,by omega,?_⟩,by show ((l.length:Int)-((i+1:Nat):Int)).toNat<((l.length:Int)-(i:Int)).toNat;omega⟩
     rcases u3 with ⟨_,h⟩ | ⟨h,_⟩
     ·exact h
     ·omega
   ·have e1:iLt (i:Int) (lenI l)=false:=qas (by rw [qac];omega)
    exact .inr ⟨_,_,by simp only [qcv,e1,cond_false,Option.map_some],by simp only [qav,e1,cond_false,Option.map_some],u,0,rfl,rfl,fun _=>hu⟩) ⟨rfl,0,s,rfl,by omega,hs⟩
 exact ⟨w,k,h1,h2,h3⟩
theorem qam8 {s:DState} (hs:stateB s=true) {l:List DClue} (hl:l.length≤256) : ∃ (w:DState) (k:Int),qfk s l=some ((w,k,()),())∧qfo s l=some ((w,k,()),())∧(k=0→stateB w=true):=by
 have h1:=qli l (fun z614=>(qhw z614.1).map fun y=>y.1.1) (fun c => !clueB c) (by omega) (fun x _=>by simp only [qhw,qcw,Option.bind_some,Option.map_some])
 have e256:iLt 256 (lenI l)=false:=qas (by rw [qac];omega)
 have h2:run (qcx l s) ((0:Int),())=bif l.all clueB then run (qav l) ((0:Int),s,()) else some ((zS,(1:Int),()),()):=by
  refine qu4 (xs:=l) (fun i (_:Unit)=>((i:Int),())) clueB (fun u _=>u) ((zS,(1:Int),()),()) (fun _=>run (qav l) ((0:Int),s,())) (fun i hi u => ?_) (fun u => ?_) ()
  ·have e1:iLt (i:Int) (lenI l)=true:=qan (by rw [qac];omega)
   have e2:inB (i:Int) l.length=true:=qaj hi
   have e4:l.getD i zC=l[i]:=qbd hi
   have e5:iAdd .i64 (i:Int) 1=((i+1:Nat):Int):=qaw hi (by omega)
   simp only [qcx,e1,e2,e4,e5,Int.toNat_natCast,qgo,Option.bind_some,cond_true]
   cases clueB l[i] <;> rfl
  ·have e1:iLt (l.length:Int) (lenI l)=false:=qas (by rw [qac];omega)
   simp only [qcx,e1,e256,cond_false]
 have h3:l.any (fun c => !clueB c) = !l.all clueB:=by rw [List.any_eq_not_all_not];simp
 have hs0:(!stateB s)=false:=by rw [hs];rfl
 simp only [qfk,qfo,qau,qco,hs0,h1,h2,h3,e256,Option.bind_some,cond_false]
 cases hv:l.all clueB with
 | false=>exact ⟨_,_,rfl,rfl,fun q=>absurd q (by decide)⟩
 | true=>exact qam7 hl hv hs
theorem qalr (a b c:Nat):qfv [a,b,c]=some ((leastB a&&(leastB b&&leastB c),()),()):=by
 have h:=qgi [a,b,c] (fun z1059=>(qj4 z1059.1).map fun y=>y.1.1) (fun p=>fLt .f32 p 0) (by simp) (fun x _=>rfl)
 simp only [qfv,h,qb5 [a,b,c] (by simp),Option.bind_some,List.all_cons,List.all_nil,List.any_cons,List.any_nil,Bool.and_true,Bool.or_false,leastB]
 cases ha:finB a with
 | false=>rfl
 | true =>
  rw [← qxs a ha]
  cases hb:finB b with
  | false=>cases fLt .f32 a 0 <;> rfl
  | true =>
   rw [← qxs b hb]
   cases hc:finB c with
   | false=>cases fLt .f32 a 0 <;> cases fLt .f32 b 0 <;> rfl
   | true =>
    rw [← qxs c hc]
    cases fLt .f32 a 0 <;> cases fLt .f32 b 0 <;> cases fLt .f32 c 0 <;> rfl
theorem qaf4 (x:Vec 6 Nat) (T:DTab) {A B:Option DMade} (hA:A=(qca x T).bind fun y=>some ((y.1.1,y.1.2.1,()),())) (hB:B=(qdx T).bind fun y=>(qdq ((x,y.1.1,()):DState) y.1.2.1).bind fun y=>some ((y.1.1,y.1.2.1,()),())) :
  ∃ (w:DState) (k:Int),A=some ((w,k,()),())∧B=some ((w,k,()),())∧(k=0→stateB w=true):=by
 obtain ⟨w,k,h1,h2,h3,_⟩:=qxb x T
 refine ⟨w,k,by rw [hA,h1];rfl,by rw [hB,h2],fun q => ?_⟩
 rcases h3 with ⟨_,h⟩ | ⟨h,_⟩
 ·exact h
 ·omega
theorem qaf3 {s:DState} (hs:stateB s=true) (t:Nat) (a:Vec 3 Nat) : ∃ (w:DState) (k:Int),qg5 s t a=some ((w,k,()),())∧qhh s t a=some ((w,k,()),())∧(k=0→stateB w=true):=by
 have hs0:(!stateB s)=false:=by rw [hs];rfl
 simp only [qg5,qhh,qau,qco,hs0,qaat,qalr,qrh,qhc,qev,Option.bind_some,cond_false]
 cases leastB t with
 | false=>exact ⟨_,_,rfl,rfl,fun q=>absurd q (by decide)⟩
 | true =>
  cases leastB (Vec.getD 3 a 0 (0:Nat)) with
  | false=>exact ⟨_,_,rfl,rfl,fun q=>absurd q (by decide)⟩
  | true =>
   cases leastB (Vec.getD 3 a 1 (0:Nat)) with
   | false=>exact ⟨_,_,rfl,rfl,fun q=>absurd q (by decide)⟩
   | true =>
    cases leastB (Vec.getD 3 a 2 (0:Nat)) with
    | false=>exact ⟨_,_,rfl,rfl,fun q=>absurd q (by decide)⟩
    | true =>
     simp only [Bool.and_self,Bool.not_true,cond_false]
     exact qaf4 _ _ rfl rfl
end
end Go.Proofs.YtnndahnmlmgenaaGreatDoor
