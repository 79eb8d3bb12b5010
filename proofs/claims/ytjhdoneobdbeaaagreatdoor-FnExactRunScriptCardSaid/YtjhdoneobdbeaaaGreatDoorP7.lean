import Derived.Test.YtjhdoneobdbeaaaGreatDoorP6
/- Functions of the program and of the reference in plain terms. -/
set_option linter.unusedSectionVars false
set_option linter.unusedSimpArgs false
set_option linter.unusedVariables false
namespace Go.Proofs.YtjhdoneobdbeaaaGreatDoor
open Go Go.Tm
section
abbrev DMind:=DMap×(Int×Unit)
abbrev DPacket:=Int×(List UInt8×Unit)
abbrev DYard:=(List DMind)×((List DMind)×((List DPacket)×Unit))
abbrev DRun:=DFleet×(DYard×Unit)
structure SightOK (x:DSight):Prop where
 at':FitVec (fltFit .f32) 3 x.1
 wt:fltFit .f32 x.2.1
structure FleetOK (f:DFleet):Prop where
 side:sideB f.1=true
 fit:fltFit .f32 f.1
 few:f.2.2.1.length≤4
 some:1≤f.2.2.1.length
 short : ∀ l∈f.2.2.1,l.length≤16 ∧ ∀ x∈l,SightOK x
structure MindOK (f:DFleet) (i:Nat) (x:DMind):Prop where
 map:MapOK f.1 x.1
 low:0≤x.2.1
 up:x.2.1≤(f.2.2.1.getD i []).length
structure YardOK (f:DFleet) (y:DYard):Prop where
 nm:y.1.length=f.2.2.1.length
 ns:y.2.1.length=f.2.2.1.length
 minds : ∀ i (h:i<y.1.length),MindOK f i y.1[i]
 saved : ∀ i (h:i<y.2.1.length),MindOK f i y.2.1[i]
 nw:y.2.2.1.length≤10
 wire : ∀ p∈y.2.2.1,(0≤p.1∧p.1<f.2.2.1.length) ∧ ∃ m,MapOK f.1 m∧p.2.1=mapT m
theorem qvl {f:DFleet} {M:List DMind} (h : ∀ i (h:i<M.length),MindOK f i M[i]) {k:Nat} {x:DMind} (hx:MindOK f k x) : ∀ i (h:i<(M.set k x).length),MindOK f i (M.set k x)[i]:=by
 intro i hi
 rw [List.getElem_set]
 split
 ·rename_i e;subst e;exact hx
 ·exact h i (by simpa using hi)
theorem qac0 (f:DFleet) (M S:List DMind) (W:List DPacket) (hl:M.length≤100) (a:Nat):qa7 ((f,(M,S,W,()),()):DRun) (a:Int)=some ((decide (a<M.length),()),(((f,(M,S,W,()),()):DRun),())):=by
 have e:iSub .i64 (lenI M) 1=(M.length:Int)-1:=by rw [qaa];exact qfi (by omega) (by omega)
 have e2:(iLe 0 (a:Int)&&iLe (a:Int) ((M.length:Int)-1))=decide (a<M.length):=by
  rw [qay (by omega)]
  by_cases h:a<M.length
  ·rw [qay (by omega),decide_eq_true h];rfl
  ·rw [qb6 (by omega),decide_eq_false h];rfl
 unfold qa7
 simp only
 rw [e,qg1,qcb,e2]
 rfl
theorem qanc {f:DFleet} (hf:FleetOK f) {y:DYard} (hy:YardOK f y) {k:Nat} (hk:k<y.1.length) : ∃ (code:Int) (y':DYard),qgj ((f,y,()):DRun) (k:Int)=some ((code,()),(((f,y',()):DRun),())) ∧
  qgy ((f,y,()):DRun) (k:Int)=some ((code,()),(((f,y',()):DRun),()))∧YardOK f y':=by
 have hyy:=hy
 obtain ⟨M,S,W,⟨⟩⟩:=y
 obtain ⟨nm,ns,hm,hs,nw,hw⟩:=hy
 have nm:M.length=f.2.2.1.length:=nm
 have hk:k<M.length:=hk
 have hfew:=hf.few
 have hx:=hm k hk
 have hx:MindOK f k M[k]:=hx
 have hkf:k<f.2.2.1.length:=by omega
 have b1:inB (k:Int) M.length=true:=qae hk
 have b2:inB (k:Int) f.2.2.1.length=true:=qae hkf
 have gM:List.getD M k (((0,[],()),0,()):DMind)=M[k]:=qan hk
 have gS:List.getD f.2.2.1 k ([]:List DSight)=f.2.2.1[k]:=qan hkf
 obtain ⟨hs16,hsights⟩:=hf.short _ (List.getElem_mem hkf)
 have hlow:=hx.low
 have hup:=hx.up
 rw [gS] at hup
 unfold qgj qgy
 simp only
 rw [qac0 f M S W (by omega) k,decide_eq_true hk]
 simp only [Option.bind_some,Bool.not_true,cond_false,Int.toNat_natCast]
 rw [b1,b2,gM,gS]
 simp only [cond_true]
 by_cases he:M[k].2.1=((f.2.2.1[k]).length:Int)
 ·rw [qf7 (by rw [qaa];exact he)]
  exact ⟨_,_,rfl,rfl,hyy⟩
 ·rw [qat (by rw [qaa];exact he)]
  obtain ⟨t,ht⟩:=Int.eq_ofNat_of_zero_le hlow
  have ht':t<(f.2.2.1[k]).length:=by omega
  have b3:inB M[k].2.1 (f.2.2.1[k]).length=true:=by rw [ht];exact qae ht'
  have gX:List.getD f.2.2.1[k] (M[k].2.1).toNat (((0,0,0,()),0,0,()):DSight)=(f.2.2.1[k])[t]:=by rw [ht,Int.toNat_natCast];exact qan ht'
  have hsx:=hsights _ (List.getElem_mem ht')
  rw [b3,gX]
  simp only [cond_false,cond_true]
  generalize (f.2.2.1[k])[t]=x at hsx
  obtain ⟨m',c,code,h1,m2,c2,h2,h3⟩:=qakq hf.side hx.map hsx.at' hsx.wt x.2.2.1 f.2.1
  rw [h1,h2]
  simp only [Option.bind_some]
  by_cases hc:code=0
  ·subst hc
   obtain ⟨rfl,hm'⟩:=h3 rfl
   have i00:iEq (0:Int) 0=true:=by decide
   rw [i00]
   simp only [Bool.not_true,cond_false]
   rw [qae3 hk]
   have e1:iAdd .i64 M[k].2.1 1=M[k].2.1+1:=qdt (by omega) (by omega)
   refine ⟨0,(M.set k (m2,M[k].2.1+1,()),S,W,()),?_,?_,⟨by simpa using nm,ns,qvl hm ⟨hm',by show 0≤M[k].2.1+1;omega,by
    show M[k].2.1+1≤_
    rw [gS];omega⟩,hs,nw,hw⟩⟩
   ·show some (((0:Int),()),(((f,(((M.set k (m2,M[k].2)).set k (m2,iAdd .i64 M[k].2.1 1,M[k].2.2)),S,W,()),()):DRun),()))=_
    rw [e1,List.set_set]
   ·show some (((0:Int),()),(((f,(((M.set k (m2,M[k].2)).set k (m2,iAdd .i64 M[k].2.1 1,M[k].2.2)),S,W,()),()):DRun),()))=_
    rw [e1,List.set_set]
  ·rw [qat hc]
   exact ⟨_,_,rfl,rfl,hyy⟩
theorem qadx {f:DFleet} (hf:FleetOK f) {y:DYard} (hy:YardOK f y) {p:DPacket} (hp:(0≤p.1∧p.1<f.2.2.1.length) ∧ ∃ m,MapOK f.1 m∧p.2.1=mapT m) : ∃ y':DYard,qej ((f,y,()):DRun) p=some ((),(((f,y',()):DRun),())) ∧
  qf1 ((f,y,()):DRun) p=some ((),(((f,y',()):DRun),()))∧YardOK f y':=by
 have hyy:=hy
 obtain ⟨M,S,W,⟨⟩⟩:=y
 obtain ⟨nm,ns,hm,hs,nw,hw⟩:=hy
 have nm:M.length=f.2.2.1.length:=nm
 obtain ⟨⟨p0,p1⟩,n,hn,ht⟩:=hp
 obtain ⟨t,tx,⟨⟩⟩:=p
 have ht:tx=mapT n:=ht
 subst ht
 obtain ⟨k,rfl⟩:=Int.eq_ofNat_of_zero_le (show 0≤t from p0)
 have p1:(k:Int)<(f.2.2.1.length:Int):=p1
 have hk:k<M.length:=by omega
 have hx:MindOK f k M[k]:=hm k hk
 have b1:inB (k:Int) M.length=true:=qae hk
 have gM:List.getD M k (((0,[],()),0,()):DMind)=M[k]:=qan hk
 have i00:iEq (0:Int) 0=true:=by decide
 obtain ⟨r,code,h1,r2,h2,h3,h4⟩:=qajd hf.side hx.map hn
 unfold qej qf1
 simp only
 rw [qaaz hf.side hf.fit hn,qacd hf.side hf.fit hn]
 simp only [Option.bind_some,Int.toNat_natCast]
 rw [i00,b1,gM]
 simp only [Bool.not_true,cond_false,cond_true]
 rw [show qhs M[k].1 ((n.1,n.2.1,n.2.2):DMap)=_ from h1,show qhf M[k].1 ((n.1,n.2.1,n.2.2):DMap)=_ from h2]
 simp only [Option.bind_some]
 by_cases hc:code=0
 ·subst hc
  obtain ⟨rfl,hr,-⟩:=h3 rfl
  rw [i00]
  exact ⟨(M.set k (r2,M[k].2),S,W,()),rfl,rfl,⟨by simpa using nm,ns,qvl hm ⟨hr,hx.low,hx.up⟩,hs,nw,hw⟩⟩
 ·rw [qat hc]
  exact ⟨_,rfl,rfl,hyy⟩
theorem qant {α:Type} {W:List α} {a:Nat} {p:α} (h:p∈W.take a++W.drop (a+1)):p∈W:=(List.mem_append.1 h).elim List.mem_of_mem_take List.mem_of_mem_drop
theorem qalk {f:DFleet} (hf:FleetOK f) {y:DYard} (hy:YardOK f y) {k:Nat} (hk:k=3∨k=4∨k=5) (a b:Nat) : ∃ (code:Int) (y':DYard),qd6 ((f,y,()):DRun) (((k:Int),(a:Int),(b:Int),()):DDeed)=some ((code,()),(((f,y',()):DRun),())) ∧
  qc6 ((f,y,()):DRun) (((k:Int),(a:Int),(b:Int),()):DDeed)=some ((code,()),(((f,y',()):DRun),()))∧YardOK f y':=by
 have hyy:=hy
 obtain ⟨M,S,W,⟨⟩⟩:=y
 obtain ⟨nm,ns,hm,hs,nw,hw⟩:=hy
 have nw:W.length≤10:=nw
 have hw : ∀ p∈W,(0≤p.1∧p.1<f.2.2.1.length) ∧ ∃ m,MapOK f.1 m∧p.2.1=mapT m:=hw
 have e0:iSub .i64 (lenI W) 1=(W.length:Int)-1:=by rw [qaa];exact qfi (by omega) (by omega)
 unfold qd6 qc6
 simp only
 rw [e0,qg1,qcb,qay (by omega:(0:Int)≤(a:Int))]
 by_cases ha:a<W.length
 ·have b1:inB (a:Int) W.length=true:=qae ha
  have gW:List.getD W (a:Int).toNat ((0,[],()):DPacket)=W[a]:=by rw [Int.toNat_natCast];exact qan ha
  have e5:iAdd .i64 (a:Int) 1=((a+1:Nat):Int):=(qdt (by omega) (by omega)).trans (by omega)
  have hdel:qje W (a:Int) ((a+1:Nat):Int)=some ((W.take a++W.drop (a+1),()),()):=qaar (.pair (.int .i64) (.pair .str .unit)) W a ha
  have e6:inS ((a+1:Nat):Int) ((W.length:Nat):Int) W.length=true:=by unfold inS;simp;omega
  have e7:inS 0 (a:Int) W.length=true:=by unfold inS;simp;omega
  have t1:List.take (W.length-((a+1:Nat):Int).toNat) (List.drop ((a+1:Nat):Int).toNat W)=W.drop (a+1):=by
   rw [Int.toNat_natCast];exact List.take_of_length_le (by rw [List.length_drop];omega)
  have t2:List.take (a:Int).toNat (List.drop 0 W)=W.take a:=by rw [Int.toNat_natCast,List.drop_zero]
  have l1:(W.drop (a+1)).length≤10:=by rw [List.length_drop];omega
  have l2:(W.take a).length≤10:=by rw [List.length_take];omega
  have hp:=hw _ (List.getElem_mem ha)
  have i54:iEq (5:Int) 4=false:=by decide
  have i55:iEq (5:Int) 5=true:=by decide
  have i44:iEq (4:Int) 4=true:=by decide
  have i45:iEq (4:Int) 5=false:=by decide
  have i34:iEq (3:Int) 4=false:=by decide
  have i35:iEq (3:Int) 5=false:=by decide
  have hy2:YardOK f (M,S,W.take a++W.drop (a+1),()):=⟨nm,ns,hm,hs,by
   show (W.take a++W.drop (a+1)).length≤10
   rw [List.length_append,List.length_take,List.length_drop];omega,fun p hq=>hw p (qant hq)⟩
  rw [qay (by omega:(a:Int)≤(W.length:Int)-1),qb6 (by rw [qaa];omega),b1,gW,e5,e6,e7,t1,t2]
  simp only [Bool.not_true,Bool.and_self,cond_false,cond_true,List.nil_append]
  rw [qa2 (by omega),qa2 (by omega),qa2 (by omega),hdel]
  simp only [Option.bind_some,cond_true]
  rcases hk with rfl | rfl | rfl
  ·obtain ⟨y',h1,h2,h3⟩:=qadx hf hy2 hp
   rw [show ((3:Nat):Int)=3 from rfl,i34,i35]
   simp only [Bool.not_false,cond_true]
   rw [h1,h2]
   exact ⟨_,_,rfl,rfl,h3⟩
  ·obtain ⟨y',h1,h2,h3⟩:=qadx hf hyy hp
   rw [show ((4:Nat):Int)=4 from rfl,i44,i45]
   simp only [Bool.not_true,Bool.not_false,cond_true,cond_false]
   rw [h1,h2]
   exact ⟨_,_,rfl,rfl,h3⟩
  ·rw [show ((5:Nat):Int)=5 from rfl,i54,i55]
   simp only [Bool.not_true,Bool.not_false,cond_true,cond_false]
   exact ⟨_,_,rfl,rfl,hy2⟩
 ·rw [qb6 (by omega:¬ (a:Int)≤(W.length:Int)-1),qay (by rw [qaa];omega)]
  exact ⟨_,_,rfl,rfl,hyy⟩
theorem qagv {x:DMind} (h:x.1.2.1.length≤200):qfr x=some ((x,()),()):=by
 unfold qfr
 rw [qyd (by omega)]
 rfl
theorem qadz {x:DMind} (h:x.1.2.1.length≤200):qf0 x=some ((x,()),()):=by
 unfold qf0
 rw [qa2 (by omega)]
 rfl
theorem qanv {f:DFleet} (hf:FleetOK f) {y:DYard} (hy:YardOK f y) {d:DDeed} (hd:deedB d=true) : ∃ (code:Int) (y':DYard),qdf ((f,y,()):DRun) d=some ((code,()),(((f,y',()):DRun),())) ∧
  qbv ((f,y,()):DRun) d=some ((code,()),(((f,y',()):DRun),()))∧YardOK f y':=by
 obtain ⟨k,a,b,rfl,k1,k7,ha,hb,hk2⟩:=qqv hd
 have hyy:=hy
 by_cases hw:k=3∨k=4∨k=5
 ·obtain ⟨code,y',h1,h2,h3⟩:=qalk hf hy hw a b
  refine ⟨code,y',?_,?_,h3⟩
  ·unfold qdf
   simp only
   rw [qat (by omega:((k:Nat):Int)≠1),qat (by omega:((k:Nat):Int)≠2),qat (by omega:((k:Nat):Int)≠6),qat (by omega:((k:Nat):Int)≠7)]
   simp only [cond_false]
   rw [show qd6 ((f,(y.1,y.2.1,y.2.2.1,y.2.2.2),()):DRun) _=_ from h1]
   rfl
  ·unfold qbv
   simp only
   have hh:qc6 ((f,(y.1,y.2.1,y.2.2.1,y.2.2.2),()):DRun) (((k:Int),(a:Int),(b:Int),()):DDeed)=_:=h2
   rw [hh]
   rcases hw with rfl | rfl | rfl <;> rfl
 ·have hk:k=1∨k=2∨k=6∨k=7:=by omega
  obtain ⟨M,S,W,⟨⟩⟩:=y
  obtain ⟨nm,ns,hm,hs,nw,hwr⟩:=hy
  have nm:M.length=f.2.2.1.length:=nm
  have ns:S.length=f.2.2.1.length:=ns
  have nw:W.length≤10:=nw
  have hfew:=hf.few
  have spec0 : ∀ {X Y Z:Option ((Int×Unit)×(DRun×Unit))},((bif iEq ((k:Nat):Int) 3 then X else bif iEq ((k:Nat):Int) 4 then X else bif iEq ((k:Nat):Int) 5 then X else Z)=Z):=by
   intro X Y Z
   rw [qat (by omega:((k:Nat):Int)≠3),qat (by omega:((k:Nat):Int)≠4),qat (by omega:((k:Nat):Int)≠5)]
   rfl
  have hhas : ∀ c:Nat,qa7 ((f,(M,S,W,()),()):DRun) (c:Int)=_:=fun c=>qac0 f M S W (by omega) c
  by_cases hin:a<M.length
  ·have b1:inB (a:Int) M.length=true:=qae hin
   have b2:inB (a:Int) S.length=true:=qae (by omega)
   have gM:List.getD M (a:Int).toNat (((0,[],()),0,()):DMind)=M[a]:=by rw [Int.toNat_natCast];exact qan hin
   have gS:List.getD S (a:Int).toNat (((0,[],()),0,()):DMind)=S[a]'(by omega):=by rw [Int.toNat_natCast];exact qan (by omega)
   have xM:MindOK f a M[a]:=hm a hin
   have xS:MindOK f a (S[a]'(by omega)):=hs a (by show a<S.length;omega)
   have le1:iLe (lenI M) (a:Int)=false:=qb6 (by rw [qaa];omega)
   unfold qdf qbv
   simp only
   rw [spec0 (Y:=none),le1]
   rcases hk with rfl | rfl | rfl | rfl
   ·obtain ⟨code,y',h1,h2,h3⟩:=qanc hf hyy hin
    rw [h1,h2]
    exact ⟨code,y',rfl,rfl,h3⟩
   ·rw [hhas a,decide_eq_true hin]
    simp only [Option.bind_some,Bool.not_true]
    rw [hhas b]
    simp only [Option.bind_some]
    by_cases hbn:b<M.length
    ·rw [decide_eq_true hbn,qb6 (by rw [qaa];omega:¬ lenI M≤(b:Int))]
     by_cases hab:a=b
     ·rw [qf7 (by omega:((a:Nat):Int)=((b:Nat):Int))]
      exact ⟨_,_,rfl,rfl,hyy⟩
     ·rw [qat (by omega:((a:Nat):Int)≠((b:Nat):Int))]
      by_cases h10:W.length=10
      ·rw [qf7 (show lenI W=10 by rw [qaa];omega),qay (show (10:Int)≤lenI W by rw [qaa];omega)]
       exact ⟨_,_,rfl,rfl,hyy⟩
      ·rw [qat (show lenI W≠10 by rw [qaa];omega),qb6 (show ¬ (10:Int)≤lenI W by rw [qaa];omega),b1,gM,qabb hf.fit xM.map,qacb hf.side hf.fit xM.map]
       simp only [Option.bind_some]
       rw [qa2 (by omega)]
       refine ⟨0,(M,S,W++[((b:Int),mapT M[a].1,())],()),rfl,rfl,⟨nm,ns,hm,hs,by show (W++[((b:Int),mapT M[a].1,())]).length≤10;simp;omega,fun p hp => ?_⟩⟩
       rcases List.mem_append.1 hp with hp | hp
       ·exact hwr p hp
       ·rw [List.mem_singleton.1 hp]
        exact ⟨⟨by show (0:Int)≤(b:Int);omega,by show (b:Int)<_;omega⟩,_,xM.map,rfl⟩
    ·rw [decide_eq_false hbn,qay (by rw [qaa];omega:lenI M≤(b:Int))]
     exact ⟨_,_,rfl,rfl,hyy⟩
   ·rw [hhas a,decide_eq_true hin]
    simp only [Option.bind_some,Bool.not_true]
    rw [b1,b2,gM,qagv xM.map.len,qadz xM.map.len]
    refine ⟨0,(M,S.set a M[a],W,()),?_,?_,⟨nm,by simpa using ns,hm,qvl hs xM,nw,hwr⟩⟩
    ·show some (((0:Int),()),(((f,(M,S.set (a:Int).toNat M[a],W,()),()):DRun),()))=_
     rw [Int.toNat_natCast]
    ·show some (((0:Int),()),(((f,(M,S.set (a:Int).toNat M[a],W,()),()):DRun),()))=_
     rw [Int.toNat_natCast]
   ·rw [hhas a,decide_eq_true hin]
    simp only [Option.bind_some,Bool.not_true]
    rw [b1,b2,gS,qagv xS.map.len,qadz xS.map.len]
    refine ⟨0,(M.set a (S[a]'(by omega)),S,W,()),?_,?_,⟨by simpa using nm,ns,qvl hm xS,hs,nw,hwr⟩⟩
    ·show some (((0:Int),()),(((f,(M.set (a:Int).toNat (S[a]'(by omega)),S,W,()),()):DRun),()))=_
     rw [Int.toNat_natCast]
    ·show some (((0:Int),()),(((f,(M.set (a:Int).toNat (S[a]'(by omega)),S,W,()),()):DRun),()))=_
     rw [Int.toNat_natCast]
  ·have le1:iLe (lenI M) (a:Int)=true:=qay (by rw [qaa];omega)
   unfold qdf qbv qgj
   simp only
   rw [spec0 (Y:=none),le1]
   rcases hk with rfl | rfl | rfl | rfl <;> rw [hhas a,decide_eq_false hin] <;> exact ⟨_,_,rfl,rfl,hyy⟩
end
section
noncomputable def doF (f:DFleet) (y:DYard) (d:DDeed):Int×DYard :=
 match qbv ((f,y,()):DRun) d with
 | some r=>(r.1.1,r.2.1.2.1)
 | none=>(0,y)
theorem qai5 {f:DFleet} (hf:FleetOK f) {y:DYard} (hy:YardOK f y) {d:DDeed} (hd:deedB d=true) :
  qdf ((f,y,()):DRun) d=some (((doF f y d).1,()),(((f,(doF f y d).2,()):DRun),()))∧qbv ((f,y,()):DRun) d=some (((doF f y d).1,()),(((f,(doF f y d).2,()):DRun),()))∧YardOK f (doF f y d).2:=by
 obtain ⟨code,y',h1,h2,h3⟩:=qanv hf hy hd
 have e:doF f y d=(code,y'):=by unfold doF;rw [h2]
 rw [e]
 exact ⟨h1,h2,h3⟩
def mind0 (f:DFleet):DMind:=((f.1,[],()),0,())
def yard0 (f:DFleet):DYard:=(List.replicate f.2.2.1.length (mind0 f),List.replicate f.2.2.1.length (mind0 f),[],())
theorem qagi (f:DFleet) (i:Nat):MindOK f i (mind0 f):=⟨⟨rfl,Nat.zero_le _,⟨fun x hx=>(by cases hx),List.Pairwise.nil⟩,fun x hx=>(by cases hx)⟩,Int.le_refl _,Int.natCast_nonneg _⟩
theorem qvz (f:DFleet):YardOK f (yard0 f):=by
 refine ⟨List.length_replicate,List.length_replicate,fun i h => ?_,fun i h => ?_,Nat.zero_le _,fun p hp=>by cases hp⟩
 ·have:(yard0 f).1[i]=mind0 f:=List.getElem_replicate _
  rw [this];exact qagi f i
 ·have:(yard0 f).2.1[i]=mind0 f:=List.getElem_replicate _
  rw [this];exact qagi f i
theorem qaeq {α:Type} (a:α) (n:Nat):List.replicate n a++[a]=List.replicate (n+1) a:=by rw [← List.replicate_succ']
theorem qxq {f:DFleet} (hl:f.2.2.1.length≤100):qhl f=some (((((f,yard0 f,()):DRun),()),()) ):=by
 unfold qhl
 have key : ∀ (d i:Nat),i+d=f.2.2.1.length→run (qe3 f) ((i:Int),((f,(List.replicate i (mind0 f),List.replicate i (mind0 f),[],()),()):DRun),())=some (((((f,yard0 f,()):DRun),()),())):=by
  intro d
  induction d with
  | zero =>
   intro i hi
   have hi:i=f.2.2.1.length:=by omega
   subst hi
   refine qai ?_
   unfold qe3
   simp only
   rw [qag (by rw [qaa];omega)]
   rfl
  | succ d ih =>
   intro i hi
   have hstep:qe3 f ((i:Int),((f,(List.replicate i (mind0 f),List.replicate i (mind0 f),[],()),()):DRun),())=some (.inl (((i+1:Nat):Int),((f,(List.replicate (i+1) (mind0 f),List.replicate (i+1) (mind0 f),[],()),()):DRun),())):=by
    unfold qe3
    simp only
    rw [qah (by rw [qaa];omega),qa2 (by rw [List.length_replicate];omega),qaq (n:=f.2.2.1.length) (by omega) (by omega)]
    simp only [cond_true]
    rw [show List.replicate i (mind0 f)++([((f.1,[],()),0,())]:List DMind)=List.replicate (i+1) (mind0 f) from qaeq (mind0 f) i]
   rw [qaj hstep]
   exact ih (i+1) (by omega)
 exact key f.2.2.1.length 0 (by omega)
theorem qalt {f:DFleet} (hl:f.2.2.1.length≤100):qi0 f=some (((((f,yard0 f,()):DRun),()),())):=by
 unfold qi0
 have key : ∀ (d i:Nat),i+d=f.2.2.1.length→run (qfz f) ((i:Int),((f,(List.replicate i (mind0 f),List.replicate i (mind0 f),[],()),()):DRun),())=some (((((f,yard0 f,()):DRun),()),())):=by
  intro d
  induction d with
  | zero =>
   intro i hi
   have hi:i=f.2.2.1.length:=by omega
   subst hi
   refine qai ?_
   unfold qfz
   simp only
   rw [qag (by rw [qaa];omega)]
   rfl
  | succ d ih =>
   intro i hi
   have hstep:qfz f ((i:Int),((f,(List.replicate i (mind0 f),List.replicate i (mind0 f),[],()),()):DRun),())=some (.inl (((i+1:Nat):Int),((f,(List.replicate (i+1) (mind0 f),List.replicate (i+1) (mind0 f),[],()),()):DRun),())):=by
    unfold qfz
    simp only
    rw [qah (by rw [qaa];omega),qa2 (by rw [List.length_replicate];omega),qaq (n:=f.2.2.1.length) (by omega) (by omega)]
    simp only [cond_true]
    rw [show List.replicate i (mind0 f)++([((f.1,[],()),0,())]:List DMind)=List.replicate (i+1) (mind0 f) from qaeq (mind0 f) i]
   rw [qaj hstep]
   exact ih (i+1) (by omega)
 exact key f.2.2.1.length 0 (by omega)
theorem qvb {f:DFleet} (hf:Fit TyFleet f) (hb:fleetB f=true):FleetOK f:=by
 unfold fleetB at hb
 simp only [Bool.and_eq_true,List.all_eq_true,Bool.not_eq_true',qog] at hb
 obtain ⟨h1,h2,⟨h3,h4⟩,h5⟩:=hb
 obtain ⟨f1,f2,f3,f4⟩:=hf
 rw [qaa] at h3 h4
 refine ⟨h1,f1,by omega,by omega,fun l hl => ?_⟩
 obtain ⟨h6,h7⟩:=h5 l hl
 rw [qaa] at h6
 have h6:=of_decide_eq_false h6
 refine ⟨by omega,fun x hx => ?_⟩
 have hfx:=(f3.2 l hl).2 x hx
 exact ⟨hfx.1,hfx.2.1⟩
end
section
def sameK (a b:DMark):Bool:=(iEq (Vec.getD 3 a.1 0 (0:Int)) (Vec.getD 3 b.1 0 (0:Int))&&(iEq (Vec.getD 3 a.1 1 (0:Int)) (Vec.getD 3 b.1 1 (0:Int))&&(iEq (Vec.getD 3 a.1 2 (0:Int)) (Vec.getD 3 b.1 2 (0:Int))&&true)))&&(sameV a.2.1 b.2.1&&(sameN a.2.2.1 b.2.2.1&&(iEq a.2.2.2.1 b.2.2.2.1&&iEq a.2.2.2.2.1 b.2.2.2.2.1)))
theorem qz1 (a b:DMark):qit a b=some ((sameK a b,()),()):=by
 simp only [qit,qaa3,qef,Option.bind_some,sameK]
 cases (iEq (Vec.getD 3 a.1 0 (0:Int)) (Vec.getD 3 b.1 0 (0:Int))&&(iEq (Vec.getD 3 a.1 1 (0:Int)) (Vec.getD 3 b.1 1 (0:Int))&&(iEq (Vec.getD 3 a.1 2 (0:Int)) (Vec.getD 3 b.1 2 (0:Int))&&true))) <;> cases sameV a.2.1 b.2.1 <;> cases sameN a.2.2.1 b.2.2.1 <;> cases iEq a.2.2.2.1 b.2.2.2.1 <;> rfl
theorem qwq (a b:DMark):qip a b=some ((sameK a b,()),()):=by
 simp only [qip,qx4,qgs,Option.bind_some,sameK]
 cases (iEq (Vec.getD 3 a.1 0 (0:Int)) (Vec.getD 3 b.1 0 (0:Int))&&(iEq (Vec.getD 3 a.1 1 (0:Int)) (Vec.getD 3 b.1 1 (0:Int))&&(iEq (Vec.getD 3 a.1 2 (0:Int)) (Vec.getD 3 b.1 2 (0:Int))&&true))) <;> cases sameV a.2.1 b.2.1 <;> cases sameN a.2.2.1 b.2.2.1 <;> cases iEq a.2.2.2.1 b.2.2.2.1 <;> rfl
theorem qlt (a b:Int):iEq a b=iEq b a:=by
 rw [Bool.eq_iff_iff,qg3,qg3];exact eq_comm
theorem qm6 (a b:Nat):sameN a b=sameN b a:=by
 unfold sameN
 cases isNan .f32 a <;> cases isNan .f32 b <;> first | rfl | exact qlt _ _
theorem qajk (a b:Vec 3 Nat):sameV a b=sameV b a:=by
 unfold sameV
 rw [qm6 (Vec.getD 3 a 0 (0:Nat)),qm6 (Vec.getD 3 a 1 (0:Nat)),qm6 (Vec.getD 3 a 2 (0:Nat))]
theorem qaji (a b:DMark):sameK a b=sameK b a:=by
 unfold sameK
 rw [qajk a.2.1,qm6 a.2.2.1,qlt a.2.2.2.1,qlt a.2.2.2.2.1,qlt (Vec.getD 3 a.1 0 (0:Int)),qlt (Vec.getD 3 a.1 1 (0:Int)),qlt (Vec.getD 3 a.1 2 (0:Int))]
theorem qajj (a:DMark):sameK a a=true:=by
 unfold sameK
 simp [qajl,qm7,qbt]
theorem qadp {α:Type} {p:α→α→Bool} (h : ∀ a b,p a b=p b a) : ∀ a b:List α,all2 p a b=all2 p b a
 | [],b=>by cases b <;> rfl
 | x :: a,[]=>rfl
 | x :: a,y :: b=>by
  show (p x y&&all2 p a b)=(p y x&&all2 p b a)
  rw [h x y,qadp h a b]
theorem qadq {α:Type} {p:α→α→Bool} (h : ∀ a,p a a=true) : ∀ a:List α,all2 p a a=true
 | []=>rfl
 | x :: a=>by
  show (p x x&&all2 p a a)=true
  rw [h x,qadq h a];rfl
def sameMapB (a b:DMap):Bool:=sameN a.1 b.1&&(iEq (lenI a.2.1) (lenI b.2.1)&&all2 sameK a.2.1 b.2.1)
theorem qaff (a b:DMap):sameMapB a b=sameMapB b a:=by
 unfold sameMapB
 rw [qm6 a.1,qlt (lenI a.2.1),qadp qaji a.2.1]
theorem qafg (a:DMap):sameMapB a a=true:=by
 unfold sameMapB
 rw [qm7,qbt,qadq qajj];rfl
theorem qnv (a b:List DMark) (f:(DMark×DMark×Unit)→Option Bool) (p:DMark→DMark→Bool) (hl:a.length≤140737488355328) (hp : ∀ x y,f (x,y,())=some (p x y)) :
  qb4 a b f=some ((iEq (lenI a) (lenI b)&&all2 p a b,()),()):=by
 unfold qb4
 cases he:iEq (lenI a) (lenI b) with
 | false=>rfl
 | true =>
  have hab:=qakk he
  simp only [Bool.not_true,cond_false,Bool.true_and]
  refine qaat hab (fun i hi hj => ?_) ?_
  ·have e1:iLt (i:Int) (lenI a)=true:=qah (by rw [qaa];omega)
   have e2:inB (i:Int) a.length=true:=qae hi
   have e3:inB (i:Int) b.length=true:=qae hj
   have e4:a.getD i (((0,0,0,()),(0,0,0,()),0,0,0,()):DMark)=a[i]:=qan hi
   have e6:b.getD i (((0,0,0,()),(0,0,0,()),0,0,0,()):DMark)=b[i]:=qan hj
   have e5:iAdd .i64 (i:Int) 1=((i+1:Nat):Int):=qaq hi (by omega)
   simp only [qd0,e1,e2,e3,e4,e5,e6,Int.toNat_natCast,hp,Option.bind_some,cond_true]
   cases p a[i] b[i] <;> rfl
  ·have e1:iLt (a.length:Int) (lenI a)=false:=qag (by rw [qaa];omega)
   simp only [qd0,e1,cond_false]
   rfl
theorem qaa1 (a b:DMap) (h:a.2.1.length≤140737488355328):qmp a b=some ((sameMapB a b,()),()):=by
 have h1:=qnv a.2.1 b.2.1 (fun z=>(qit z.1 z.2.1).map fun y=>y.1.1) sameK h (fun x y=>by simp only [qz1,Option.map_some])
 unfold qmp sameMapB
 rw [qef]
 simp only [Option.bind_some]
 cases sameN a.1 b.1 with
 | false=>rfl
 | true =>
  simp only [cond_true]
  rw [show qb4 a.2.1 b.2.1 _=_ from h1]
  rfl
theorem qacq (a b:DMap) (h:a.2.1.length≤140737488355328):qnn a b=some ((sameMapB a b,()),()):=by
 unfold qnn sameMapB
 rw [qgs]
 simp only [Option.bind_some]
 cases sameN a.1 b.1 with
 | false=>rfl
 | true =>
  cases he:iEq (lenI a.2.1) (lenI b.2.1) with
  | false=>rfl
  | true =>
   have hab:=qakk he
   simp only [Bool.not_true,cond_false,Bool.true_and]
   refine qaat hab (fun i hi hj => ?_) ?_
   ·have e1:iLt (i:Int) (lenI a.2.1)=true:=qah (by rw [qaa];omega)
    have e2:inB (i:Int) a.2.1.length=true:=qae hi
    have e3:inB (i:Int) b.2.1.length=true:=qae hj
    have e4:a.2.1.getD i (((0,0,0,()),(0,0,0,()),0,0,0,()):DMark)=a.2.1[i]:=qan hi
    have e6:b.2.1.getD i (((0,0,0,()),(0,0,0,()),0,0,0,()):DMark)=b.2.1[i]:=qan hj
    have e5:iAdd .i64 (i:Int) 1=((i+1:Nat):Int):=qaq hi (by omega)
    simp only [qno,e1,e2,e3,e4,e5,e6,Int.toNat_natCast,qwq,Option.bind_some,cond_true]
    cases sameK a.2.1[i] b.2.1[i] <;> rfl
   ·have e1:iLt (a.2.1.length:Int) (lenI a.2.1)=false:=qag (by rw [qaa];omega)
    simp only [qno,e1,cond_false]
    rfl
def agreedB (y:DYard):Bool:=y.1.all fun x=>sameMapB (y.1.getD 0 (((0,[],()),0,()):DMind)).1 x.1
theorem qagj {f:DFleet} {y:DYard} (hy:YardOK f y) : ∀ x∈y.1,x.1.2.1.length≤200:=by
 intro x hx
 obtain ⟨i,hi,rfl⟩:=List.getElem_of_mem hx
 exact (hy.minds i hi).map.len
theorem qac3 {f:DFleet} (hf:FleetOK f) {y:DYard} (hy:YardOK f y):qei ((f,y,()):DRun)=some (((agreedB y,()),(((f,y,()):DRun),()))):=by
 have hlen:=qagj hy
 have hnm:=hy.nm
 have h4:=hf.few
 have h1:=hf.some
 unfold qei agreedB
 simp only
 rw [show inB 0 y.1.length=true from qae (i:=0) (by omega)]
 simp only [cond_true]
 have:=ql3 y.1 (fun z=>(qe9 z.1 ((y.1.getD 0 (((0,[],()),0,()):DMind)).1)).map fun y=>y.1.1) (fun x => !sameMapB (y.1.getD 0 (((0,[],()),0,()):DMind)).1 x.1) (by omega) (fun x hx=>by
  unfold qe9
  have:=hlen x hx
  rw [qaa1 _ _ (show x.1.2.1.length≤_ by omega),qaff]
  rfl)
 rw [show qbn y.1 _=_ from this]
 simp only [Option.bind_some]
 rw [List.not_any_eq_all_not]
 simp only [Bool.not_not]
theorem qadd {f:DFleet} (hf:FleetOK f) {y:DYard} (hy:YardOK f y):qgx ((f,y,()):DRun)=some (((agreedB y,()),(((f,y,()):DRun),()))):=by
 have hlen:=qagj hy
 have hnm:=hy.nm
 have h4:=hf.few
 have h1:=hf.some
 obtain ⟨M,S,W,⟨⟩⟩:=y
 have hnm:M.length=f.2.2.1.length:=hnm
 have hlen : ∀ x∈M,x.1.2.1.length≤200:=hlen
 obtain ⟨m0,rest,rfl⟩ : ∃ m0 rest,M=m0 :: rest:=by
  cases M with
  | nil=>simp at hnm;omega
  | cons a b=>exact ⟨a,b,rfl⟩
 have g0:List.getD (m0 :: rest) 0 (((0,[],()),0,()):DMind)=m0:=rfl
 have key : ∀ (r:List DMind) (i:Nat),(m0 :: rest).drop i=r→i≤(m0 :: rest).length→run (qdk ((f,(m0 :: rest,S,W,()),()):DRun)) ((i:Int),())=some (((r.all fun x=>sameMapB m0.1 x.1,()),(((f,(m0 :: rest,S,W,()),()):DRun),()))):=by
  intro r
  induction r with
  | nil =>
   intro i hi hle
   have hi:(m0 :: rest).length≤i:=List.drop_eq_nil_iff.1 hi
   refine qai ?_
   unfold qdk
   simp only
   rw [qag (by rw [qaa];omega)]
   rfl
  | cons x r ih =>
   intro i hi hle
   have hlt:i<(m0 :: rest).length:=by
    rcases Nat.lt_or_ge i (m0 :: rest).length with h | h
    ·exact h
    ·rw [List.drop_eq_nil_of_le h] at hi;cases hi
   have hcons:=List.getElem_cons_drop (h:=hlt)
   rw [hi] at hcons
   obtain ⟨e1,e2⟩:=List.cons.inj hcons
   have hm:=hlen m0 (by simp)
   have hstep:qdk ((f,(m0 :: rest,S,W,()),()):DRun) ((i:Int),())=bif sameMapB m0.1 x.1 then some (.inl (((i+1:Nat):Int),())) else some (.inr ((false,()),(((f,(m0 :: rest,S,W,()),()):DRun),()))):=by
    unfold qdk
    simp only
    rw [qah (by rw [qaa];omega),qae hlt,show inB 0 (m0 :: rest).length=true from qae (i:=0) (by omega),Int.toNat_natCast,qan hlt,e1,g0,qaq hlt (by omega)]
    simp only [cond_true]
    rw [qacq _ _ (by omega)]
    simp only [Option.bind_some]
    cases sameMapB m0.1 x.1 <;> rfl
   rw [List.all_cons]
   cases hc:sameMapB m0.1 x.1 with
   | true =>
    rw [hc] at hstep
    rw [qaj hstep,ih (i+1) e2 (by omega)]
    rfl
   | false =>
    rw [hc] at hstep
    exact qai hstep
 have hk:=key rest 1 rfl (by simp)
 have e:agreedB ((m0 :: rest,S,W,()):DYard)=rest.all fun x=>sameMapB m0.1 x.1:=by
  show (sameMapB m0.1 m0.1&&rest.all fun x=>sameMapB m0.1 x.1)=_
  rw [qafg];rfl
 rw [e]
 exact hk
end
end Go.Proofs.YtjhdoneobdbeaaaGreatDoor
