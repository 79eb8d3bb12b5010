import Derived.Test.YtjhdoneobdbeaaaGreatDoorP6
/- Functions of the program and of the reference in plain terms. -/
set_option linter.unusedSectionVars false
set_option linter.unusedSimpArgs false
set_option linter.unusedVariables false
namespace Go.Proofs.YtjhdoneobdbeaaaGreatDoor
open Go Go.Tm
section
def sameK (a b:DMark):Bool:=(iEq (Vec.getD 3 a.1 0 (0:Int)) (Vec.getD 3 b.1 0 (0:Int))&&(iEq (Vec.getD 3 a.1 1 (0:Int)) (Vec.getD 3 b.1 1 (0:Int))&&(iEq (Vec.getD 3 a.1 2 (0:Int)) (Vec.getD 3 b.1 2 (0:Int))&&true)))&&(sameV a.2.1 b.2.1&&(sameN a.2.2.1 b.2.2.1&&(iEq a.2.2.2.1 b.2.2.2.1&&iEq a.2.2.2.2.1 b.2.2.2.2.1)))
theorem qaa5 (a b:DMark):qjm a b=some ((sameK a b,()),()):=by
 simp only [qjm,qab6,qew,Option.bind_some,sameK]
 cases (iEq (Vec.getD 3 a.1 0 (0:Int)) (Vec.getD 3 b.1 0 (0:Int))&&(iEq (Vec.getD 3 a.1 1 (0:Int)) (Vec.getD 3 b.1 1 (0:Int))&&(iEq (Vec.getD 3 a.1 2 (0:Int)) (Vec.getD 3 b.1 2 (0:Int))&&true))) <;> cases sameV a.2.1 b.2.1 <;> cases sameN a.2.2.1 b.2.2.1 <;> cases iEq a.2.2.2.1 b.2.2.2.1 <;> rfl
theorem qxy (a b:DMark):qji a b=some ((sameK a b,()),()):=by
 simp only [qji,qzg,qhj,Option.bind_some,sameK]
 cases (iEq (Vec.getD 3 a.1 0 (0:Int)) (Vec.getD 3 b.1 0 (0:Int))&&(iEq (Vec.getD 3 a.1 1 (0:Int)) (Vec.getD 3 b.1 1 (0:Int))&&(iEq (Vec.getD 3 a.1 2 (0:Int)) (Vec.getD 3 b.1 2 (0:Int))&&true))) <;> cases sameV a.2.1 b.2.1 <;> cases sameN a.2.2.1 b.2.2.1 <;> cases iEq a.2.2.2.1 b.2.2.2.1 <;> rfl
theorem qmj (a b:Int):iEq a b=iEq b a:=by
 rw [Bool.eq_iff_iff,qhw,qhw];exact eq_comm
theorem qnz (a b:Nat):sameN a b=sameN b a:=by
 unfold sameN
 cases isNan .f32 a <;> cases isNan .f32 b <;> first | rfl | exact qmj _ _
theorem qak0 (a b:Vec 3 Nat):sameV a b=sameV b a:=by
 unfold sameV
 rw [qnz (Vec.getD 3 a 0 (0:Nat)),qnz (Vec.getD 3 a 1 (0:Nat)),qnz (Vec.getD 3 a 2 (0:Nat))]
theorem qaky (a b:DMark):sameK a b=sameK b a:=by
 unfold sameK
 rw [qak0 a.2.1,qnz a.2.2.1,qmj a.2.2.2.1,qmj a.2.2.2.2.1,qmj (Vec.getD 3 a.1 0 (0:Int)),qmj (Vec.getD 3 a.1 1 (0:Int)),qmj (Vec.getD 3 a.1 2 (0:Int))]
theorem qakz (a:DMark):sameK a a=true:=by
 unfold sameK
 simp [qak1,qn0,qbr]
theorem qael {α:Type} {p:α→α→Bool} (h : ∀ a b,p a b=p b a) : ∀ a b:List α,all2 p a b=all2 p b a
 | [],b=>by cases b <;> rfl
 | x :: a,[]=>rfl
 | x :: a,y :: b=>by
  show (p x y&&all2 p a b)=(p y x&&all2 p b a)
  rw [h x y,qael h a b]
theorem qaem {α:Type} {p:α→α→Bool} (h : ∀ a,p a a=true) : ∀ a:List α,all2 p a a=true
 | []=>rfl
 | x :: a=>by
  show (p x x&&all2 p a a)=true
  rw [h x,qaem h a];rfl
def sameMapB (a b:DMap):Bool:=sameN a.1 b.1&&(iEq (lenI a.2.1) (lenI b.2.1)&&all2 sameK a.2.1 b.2.1)
theorem qagd (a b:DMap):sameMapB a b=sameMapB b a:=by
 unfold sameMapB
 rw [qnz a.1,qmj (lenI a.2.1),qael qaky a.2.1]
theorem qage (a:DMap):sameMapB a a=true:=by
 unfold sameMapB
 rw [qn0,qbr,qaem qakz];rfl
theorem qou (a b:List DMark) (f:(DMark×DMark×Unit)→Option Bool) (p:DMark→DMark→Bool) (hl:a.length≤140737488355328) (hp : ∀ x y,f (x,y,())=some (p x y)) :
  qca a b f=some ((iEq (lenI a) (lenI b)&&all2 p a b,()),()):=by
 unfold qca
 cases he:iEq (lenI a) (lenI b) with
 | false=>rfl
 | true =>
  have hab:=qal2 he
  simp only [Bool.not_true,cond_false,Bool.true_and]
  refine qabw hab (fun i hi hj => ?_) ?_
  ·have e1:iLt (i:Int) (lenI a)=true:=qah (by rw [qaa];omega)
   have e2:inB (i:Int) a.length=true:=qae hi
   have e3:inB (i:Int) b.length=true:=qae hj
   have e4:a.getD i (((0,0,0,()),(0,0,0,()),0,0,0,()):DMark)=a[i]:=qal hi
   have e6:b.getD i (((0,0,0,()),(0,0,0,()),0,0,0,()):DMark)=b[i]:=qal hj
   have e5:iAdd .i64 (i:Int) 1=((i+1:Nat):Int):=qaq hi (by omega)
   simp only [qea,e1,e2,e3,e4,e5,e6,Int.toNat_natCast,hp,Option.bind_some,cond_true]
   cases p a[i] b[i] <;> rfl
  ·have e1:iLt (a.length:Int) (lenI a)=false:=qaf (by rw [qaa];omega)
   simp only [qea,e1,cond_false]
   rfl
theorem qab4 (a b:DMap) (h:a.2.1.length≤140737488355328):qnk a b=some ((sameMapB a b,()),()):=by
 have h1:=qou a.2.1 b.2.1 (fun z=>(qjm z.1 z.2.1).map fun y=>y.1.1) sameK h (fun x y=>by simp only [qaa5,Option.map_some])
 unfold qnk sameMapB
 rw [qew]
 simp only [Option.bind_some]
 cases sameN a.1 b.1 with
 | false=>rfl
 | true =>
  simp only [cond_true]
  rw [show qca a.2.1 b.2.1 _=_ from h1]
  rfl
theorem qadk (a b:DMap) (h:a.2.1.length≤140737488355328):qoj a b=some ((sameMapB a b,()),()):=by
 unfold qoj sameMapB
 rw [qhj]
 simp only [Option.bind_some]
 cases sameN a.1 b.1 with
 | false=>rfl
 | true =>
  cases he:iEq (lenI a.2.1) (lenI b.2.1) with
  | false=>rfl
  | true =>
   have hab:=qal2 he
   simp only [Bool.not_true,cond_false,Bool.true_and]
   refine qabw hab (fun i hi hj => ?_) ?_
   ·have e1:iLt (i:Int) (lenI a.2.1)=true:=qah (by rw [qaa];omega)
    have e2:inB (i:Int) a.2.1.length=true:=qae hi
    have e3:inB (i:Int) b.2.1.length=true:=qae hj
    have e4:a.2.1.getD i (((0,0,0,()),(0,0,0,()),0,0,0,()):DMark)=a.2.1[i]:=qal hi
    have e6:b.2.1.getD i (((0,0,0,()),(0,0,0,()),0,0,0,()):DMark)=b.2.1[i]:=qal hj
    have e5:iAdd .i64 (i:Int) 1=((i+1:Nat):Int):=qaq hi (by omega)
    simp only [qok,e1,e2,e3,e4,e5,e6,Int.toNat_natCast,qxy,Option.bind_some,cond_true]
    cases sameK a.2.1[i] b.2.1[i] <;> rfl
   ·have e1:iLt (a.2.1.length:Int) (lenI a.2.1)=false:=qaf (by rw [qaa];omega)
    simp only [qok,e1,cond_false]
    rfl
def agreedB (y:DYard):Bool:=y.1.all fun x=>sameMapB (y.1.getD 0 (((0,[],()),0,()):DMind)).1 x.1
theorem qahk {f:DFleet} {y:DYard} (hy:YardOK f y) : ∀ x∈y.1,x.1.2.1.length≤200:=by
 intro x hx
 obtain ⟨i,hi,rfl⟩:=List.getElem_of_mem hx
 exact (hy.minds i hi).map.len
theorem qady {f:DFleet} (hf:FleetOK f) {y:DYard} (hy:YardOK f y):qez ((f,y,()):DRun)=some (((agreedB y,()),(((f,y,()):DRun),()))):=by
 have hlen:=qahk hy
 have hnm:=hy.nm
 have h4:=hf.few
 have h1:=hf.some
 unfold qez agreedB
 simp only
 rw [show inB 0 y.1.length=true from qae (i:=0) (by omega)]
 simp only [cond_true]
 have:=qmw y.1 (fun z=>(qfo z.1 ((y.1.getD 0 (((0,[],()),0,()):DMind)).1)).map fun y=>y.1.1) (fun x => !sameMapB (y.1.getD 0 (((0,[],()),0,()):DMind)).1 x.1) (by omega) (fun x hx=>by
  unfold qfo
  have:=hlen x hx
  rw [qab4 _ _ (show x.1.2.1.length≤_ by omega),qagd]
  rfl)
 rw [show qbv y.1 _=_ from this]
 simp only [Option.bind_some]
 rw [List.not_any_eq_all_not]
 simp only [Bool.not_not]
theorem qaea {f:DFleet} (hf:FleetOK f) {y:DYard} (hy:YardOK f y):qhp ((f,y,()):DRun)=some (((agreedB y,()),(((f,y,()):DRun),()))):=by
 have hlen:=qahk hy
 have hnm:=hy.nm
 have h4:=hf.few
 have h1:=hf.some
 obtain ⟨M,S,W,⟨⟩⟩:=y
 have hnm:M.length=f.2.2.1.length:=hnm
 have hlen : ∀ x∈M,x.1.2.1.length≤200:=hlen
 obtain ⟨m0,rest,rfl⟩ : ∃ m0 rest,M=m0 :: rest:=by
  cases M with
  | nil=>simp at hnm;omega
  | cons a b=>exact ⟨a,b,rfl⟩
 have g0:List.getD (m0 :: rest) 0 (((0,[],()),0,()):DMind)=m0:=rfl
 have key : ∀ (r:List DMind) (i:Nat),(m0 :: rest).drop i=r→i≤(m0 :: rest).length→run (qdp ((f,(m0 :: rest,S,W,()),()):DRun)) ((i:Int),())=some (((r.all fun x=>sameMapB m0.1 x.1,()),(((f,(m0 :: rest,S,W,()),()):DRun),()))):=by
  intro r
  induction r with
  | nil =>
   intro i hi hle
   have hi:(m0 :: rest).length≤i:=List.drop_eq_nil_iff.1 hi
   refine qaj ?_
   unfold qdp
   simp only
   rw [qaf (by rw [qaa];omega)]
   rfl
  | cons x r ih =>
   intro i hi hle
   have hlt:i<(m0 :: rest).length:=by
    rcases Nat.lt_or_ge i (m0 :: rest).length with h | h
    ·exact h
    ·rw [List.drop_eq_nil_of_le h] at hi;cases hi
   have hcons:=List.getElem_cons_drop (h:=hlt)
   rw [hi] at hcons
   obtain ⟨e1,e2⟩:=List.cons.inj hcons
   have hm:=hlen m0 (by simp)
   have hstep:qdp ((f,(m0 :: rest,S,W,()),()):DRun) ((i:Int),())=bif sameMapB m0.1 x.1 then some (.inl (((i+1:Nat):Int),())) else some (.inr ((false,()),(((f,(m0 :: rest,S,W,()),()):DRun),()))):=by
    unfold qdp
    simp only
    rw [qah (by rw [qaa];omega),qae hlt,show inB 0 (m0 :: rest).length=true from qae (i:=0) (by omega),Int.toNat_natCast,qal hlt,e1,g0,qaq hlt (by omega)]
    simp only [cond_true]
    rw [qadk _ _ (by omega)]
    simp only [Option.bind_some]
    cases sameMapB m0.1 x.1 <;> rfl
   rw [List.all_cons]
   cases hc:sameMapB m0.1 x.1 with
   | true =>
    rw [hc] at hstep
    rw [qak hstep,ih (i+1) e2 (by omega)]
    rfl
   | false =>
    rw [hc] at hstep
    exact qaj hstep
 have hk:=key rest 1 rfl (by simp)
 have e:agreedB ((m0 :: rest,S,W,()):DYard)=rest.all fun x=>sameMapB m0.1 x.1:=by
  show (sameMapB m0.1 m0.1&&rest.all fun x=>sameMapB m0.1 x.1)=_
  rw [qage];rfl
 rw [e]
 exact hk
def zeroN:List Int→Nat
 | []=>0
 | c :: r=>(bif iEq c 0 then 1 else 0)+zeroN r
theorem qld (c:Int) (r:List Int):zeroN (c :: r)=(bif iEq c 0 then 1 else 0)+zeroN r:=rfl
theorem qabo : ∀ cs:List Int,zeroN cs≤cs.length
 | []=>Nat.le_refl _
 | c :: r=>by
  have:=qabo r
  rw [qld,List.length_cons]
  cases iEq c 0 <;> simp <;> omega
theorem qaf4 {f:DFleet} (hf:FleetOK f) {ds:List DDeed} (hl:ds.length≤200) (hd : ∀ d∈ds,deedB d=true):qr1 f ds=some (((((f,(playF f (yard0 f) ds).1,()):DRun),(zeroN (playF f (yard0 f) ds).2:Int),()),())):=by
 unfold qr1
 have hfew:=hf.few
 rw [qss (by omega)]
 simp only [Option.bind_some]
 have key : ∀ (r:List DDeed) (i:Nat),ds.drop i=r→i≤ds.length → ∀ (y:DYard) (c:Nat),YardOK f y→c≤i→run (qjl ds) ((c:Int),(i:Int),((f,y,()):DRun),())=some (((((f,(playF f y r).1,()):DRun),((c+zeroN (playF f y r).2:Nat):Int),()),())):=by
  intro r
  induction r with
  | nil =>
   intro i hi hle y c hy hc
   have hi:ds.length≤i:=List.drop_eq_nil_iff.1 hi
   refine qaj ?_
   unfold qjl
   simp only
   rw [qaf (by rw [qaa];omega)]
   rfl
  | cons d r ih =>
   intro i hi hle y c hy hc
   have hlt:i<ds.length:=by
    rcases Nat.lt_or_ge i ds.length with h | h
    ·exact h
    ·rw [List.drop_eq_nil_of_le h] at hi;cases hi
   have hcons:=List.getElem_cons_drop (h:=hlt)
   rw [hi] at hcons
   obtain ⟨e1,e2⟩:=List.cons.inj hcons
   obtain ⟨h1,-,h3⟩:=ql4 hf hy (d:=d) (by rw [← e1];exact hd _ (List.getElem_mem hlt))
   have hstep:qjl ds ((c:Int),(i:Int),((f,y,()):DRun),())=some (.inl (((c+(bif iEq (doF f y d).1 0 then 1 else 0):Nat):Int),((i+1:Nat):Int),((f,(doF f y d).2,()):DRun),())):=by
    unfold qjl
    simp only
    rw [qah (by rw [qaa];omega),qae hlt,Int.toNat_natCast,qal hlt,e1]
    simp only [cond_true]
    rw [show qbj ((f,(y.1,y.2.1,y.2.2.1,y.2.2.2),()):DRun) d=_ from h1]
    simp only [Option.bind_some]
    rw [qaq hlt (by omega),qaq (n:=300) (show c<300 by omega) (by omega)]
    cases iEq (doF f y d).1 0 <;> rfl
   rw [qak hstep,ih (i+1) e2 (by omega) (doF f y d).2 _ h3 (by cases iEq (doF f y d).1 0 <;> simp <;> omega)]
   show _=some (((((f,(playF f (doF f y d).2 r).1,()):DRun),((c+zeroN ((doF f y d).1 :: (playF f (doF f y d).2 r).2):Nat):Int),()),()))
   rw [qld,Nat.add_assoc]
 have:=key ds 0 rfl (Nat.zero_le _) (yard0 f) 0 (qgr f) (Nat.le_refl _)
 rw [Nat.zero_add] at this
 exact this
end
section
def namesL:List (List UInt8):=[[111,107],[105,110,118,97,108,105,100],[114,97,110,103,101],[108,105,109,105,116],[115,116,97,116,101],[115,121,110,116,97,120],[110,111,116,102,111,117,110,100],[98,117,100,103,101,116],[112,114,111,111,102]]
theorem qaiu:splitC 32 ([111,107,32,105,110,118,97,108,105,100,32,114,97,110,103,101,32,108,105,109,105,116,32,115,116,97,116,101,32,115,121,110,116,97,120,32,110,111,116,102,111,117,110,100,32,98,117,100,103,101,116,32,112,114,111,111,102]:List UInt8)=namesL:=by decide
theorem qall (c:Int) : ∃ nm,ql5 c=some ((nm,()),())∧qff c=some ((nm,()),())∧nm.length≤10∧(10:UInt8)∉nm:=by
 unfold ql5 qff
 rw [qde 32 (by decide),qcg,qaiu]
 simp only [Option.bind_some]
 by_cases h:0≤c∧c≤8
 ·obtain ⟨n,rfl⟩:=Int.eq_ofNat_of_zero_le h.1
  have hn:n=0∨n=1∨n=2∨n=3∨n=4∨n=5∨n=6∨n=7∨n=8:=by omega
  rcases hn with rfl | rfl | rfl | rfl | rfl | rfl | rfl | rfl | rfl <;> exact ⟨_,rfl,rfl,by decide,by decide⟩
 ·refine ⟨[],?_,?_,by decide,by simp⟩
  ·by_cases h0:c<0
   ·rw [qah h0];rfl
   ·rw [qaf h0,qat (show lenI namesL≤c by show (9:Int)≤c;omega)];rfl
  ·by_cases h0:0≤c
   ·rw [qat h0,qbt (show ¬ c≤8 by omega)];rfl
   ·rw [qbt h0];rfl
theorem qamm {s:List UInt8} (hs:s.length≤1048576):(∃ d:DDeed,deedB d=true∧deedT d=s∧qc3 s=some ((d,0,()),())∧qbl s=some ((d,0,()),()))∨(qc3 s=some badD∧qbl s=some badD):=by
 obtain ⟨E,d,h1,h2,h3⟩:=qsl hs
 rcases qs1 hs with ⟨d',hd,ht,hr⟩ | ⟨hno,hr⟩
 ·refine .inl ⟨d',hd,ht,?_,hr⟩
  obtain ⟨k,a,b,rfl,k1,k2,k3,k4,k5⟩:=qes hd
  obtain ⟨hE,rfl⟩:=h3 k a b k1 k2 k3 k4 k5 ht.symm
  rw [h1,hE,hd]
  simp only [cond_true,Bool.true_and,ht,qdy]
 ·refine .inr ⟨?_,hr⟩
  rw [h1]
  cases hE:E with
  | false=>rfl
  | true =>
   cases hd:deedB d with
   | true =>
    have:sEq (deedT d) s=false:=by simpa [sEq] using hno d hd
    simp only [cond_true,this,Bool.and_false,cond_false]
   | false =>
    have:sEq [] s=false:=by
     cases s with
     | nil=>rw [h2 rfl] at hE;cases hE
     | cons b x=>rfl
    simp only [cond_false,this,Bool.and_false]
abbrev wAgreed:List UInt8:=[97,103,114,101,101,100]
abbrev wMarks:List UInt8:=[109,97,114,107,115]
abbrev wWhat:List UInt8:=[119,104,97,116]
abbrev wOk:List UInt8:=[111,107]
abbrev wError:List UInt8:=[101,114,114,111,114,32]
theorem qakr {f:DFleet} (hf:FleetOK f) {y:DYard} (hy:YardOK f y) {s:List UInt8} (hs:s.length≤1048576) : ∃ t:List UInt8,t.length≤50∧(10:UInt8)∉t∧t≠wOk ∧
  ((qby s).bind fun y1850 => (qbe ((y1850.1.1.1, y1850.1.1.2) : DRd) wMarks).bind fun y1851 => (qac ((y1851.2.1.1, y1851.2.1.2) : DRd)).bind fun y1852 => (qam ((y1852.2.1.1, y1852.2.1.2) : DRd)).bind fun y1853 =>
    bif (! y1853.1.1) then some (((wWhat,()),(((f,y,()):DRun),()))) else
    (qa9 ((f,y,()):DRun) y1852.1.1).bind fun y1855 =>
    bif (! y1855.1.1) then some (((wWhat,()),(((y1855.2.1.1,(y1855.2.1.2.1.1,y1855.2.1.2.1.2.1,y1855.2.1.2.1.2.2.1,y1855.2.1.2.1.2.2.2),y1855.2.1.2.2):DRun),())))
    else
    bif inB y1852.1.1 (List.length y1855.2.1.2.1.1) then
      let x1857:=List.getD y1855.2.1.2.1.1 y1852.1.1.toNat (((0,[],()),0,()):DMind)
      (qa3 (lenI x1857.1.2.1)).bind fun y1858 =>
      bif strRoom y1858.1.1 ([32]) then
        let x1859:=strCat y1858.1.1 ([32])
        (qa3 x1857.2.1).bind fun y1860 =>
        bif strRoom x1859 y1860.1.1 then
          some (((strCat x1859 y1860.1.1),()),(((y1855.2.1.1,(y1855.2.1.2.1.1,y1855.2.1.2.1.2.1,y1855.2.1.2.1.2.2.1,y1855.2.1.2.1.2.2.2),y1855.2.1.2.2):DRun),()))
        else none
      else none
    else none)=some ((t,()),(((f,y,()):DRun),())) ∧
  ((qbz s (32 : Int)).bind fun y1986 =>
    bif (! (iEq (lenI y1986.1.1) 2)) then some (((wWhat,()),(((f,y,()):DRun),()))) else
    bif inB 0 (List.length y1986.1.1) then
      bif (! (sEq (List.getD y1986.1.1 0 ([]:List UInt8)) wMarks)) then some (((wWhat,()),(((f,y,()):DRun),()))) else
      bif inB 1 (List.length y1986.1.1) then
        (qbg (List.getD y1986.1.1 1 ([]:List UInt8))).bind fun y1991 =>
        bif (! y1991.1.2.1) then some (((wWhat,()),(((f,y,()):DRun),()))) else
        bif (iLe (lenI y.1) y1991.1.1) then some (((wWhat,()),(((f,y,()):DRun),()))) else
        bif inB y1991.1.1 (List.length y.1) then
          let x1994:=List.getD y.1 y1991.1.1.toNat (((0,[],()),0,()):DMind)
          (qb2 (lenI x1994.1.2.1)).bind fun y1995 =>
          bif strRoom y1995.1.1 ([32]) then
            let x1996:=strCat y1995.1.1 ([32])
            (qb2 x1994.2.1).bind fun y1997 =>
            bif strRoom x1996 y1997.1.1 then
              some (((strCat x1996 y1997.1.1),()),(((f,y,()):DRun),()))
            else none
          else none
        else none
      else none
    else none)=some ((t,()),(((f,y,()):DRun),())):=by
 have hyy:=hy
 obtain ⟨M,S,W,⟨⟩⟩:=y
 obtain ⟨nm,ns,hm,hsv,nw,hwr⟩:=hy
 have nm:M.length=f.2.2.1.length:=nm
 have hfew:=hf.few
 have what:wWhat.length≤50∧(10:UInt8)∉wWhat∧wWhat≠wOk:=by decide
 rw [qai1 hs,show (32:Int)=byteI 32 from rfl,qep 32 hs]
 simp only [Option.bind_some]
 have hwl : ∀ w∈splitC 32 s,w.length≤1048576:=fun w hw=>Nat.le_trans (qu9 hw) hs
 generalize splitC 32 s=ws at hwl
 obtain ⟨r1,e1,e2,e3,e4⟩:=qamb (r:=(ws,false,())) (by exact hwl) wMarks
 rw [show qbe ((ws,false,()):DRd) wMarks=_ from e1]
 simp only [Option.bind_some]
 have hw1:(wordOf r1).length≤1048576:=by
  unfold wordOf
  rw [e2]
  show ((ws.drop 1).getD 0 []).length≤_
  rw [List.getD_eq_getElem?_getD]
  cases hq:(ws.drop 1)[0]? with
  | none=>simp
  | some w=>exact hwl w (List.mem_of_mem_drop (List.mem_of_getElem? hq))
 rw [show qac ((r1.1,r1.2):DRd)=_ from qc6 hw1]
 simp only [Option.bind_some]
 rw [show qam (((intRest r1).1,(intRest r1).2):DRd)=_ from qck _]
 simp only [Option.bind_some]
 by_cases hform : ∃ w,ws=[wMarks,w]
 ·obtain ⟨w,rfl⟩:=hform
  have r2:r1.2.1=false:=e4 [w] rfl rfl
  have hr1:r1.1=[w]:=e2
  have hword:wordOf r1=w:=by unfold wordOf;rw [hr1];rfl
  have hend:(!(intRest r1).2.1&&(intRest r1).1.isEmpty)=((parseInt64 w).2&&sEq (Lib.itoa (parseInt64 w).1) w):=by
   unfold intRest intOf
   rw [hword,hr1,r2]
   cases (parseInt64 w).2 <;> cases sEq (Lib.itoa (parseInt64 w).1) w <;> rfl
  have hint:intOf r1=(parseInt64 w).1:=by unfold intOf;rw [hword]
  rw [hend,hint]
  have i2:iEq (lenI [wMarks,w]) 2=true:=rfl
  have b0:inB 0 [wMarks,w].length=true:=rfl
  have b1:inB 1 [wMarks,w].length=true:=rfl
  have g0:List.getD [wMarks,w] 0 ([]:List UInt8)=wMarks:=rfl
  have g1:List.getD [wMarks,w] 1 ([]:List UInt8)=w:=rfl
  rw [i2,b0,b1,g0,g1,qdy]
  simp only [Bool.not_true,cond_false,cond_true]
  obtain ⟨n,hn,hn2⟩:=qjo w
  rw [hn]
  simp only [Option.bind_some]
  cases hok:numOK 999999999 w with
  | true =>
   obtain ⟨p1,p2,p3⟩:=qp9 (by decide) hok
   have hnv:=hn2 hok
   subst hnv
   rw [p1]
   simp only
   rw [p2,qdy,qadv f M S W (by omega)]
   simp only [Option.bind_some,Bool.and_self,Bool.not_true,cond_false]
   by_cases hk:valD 0 w<M.length
   ·rw [decide_eq_true hk,qbt (by rw [qaa];omega),qae hk,Int.toNat_natCast,qal hk]
    simp only [Bool.not_true,cond_false,cond_true]
    have hx:MindOK f _ M[valD 0 w]:=hm _ hk
    have hl:=hx.map.len
    have hlo:=hx.low
    have hup:=hx.up
    have hsl:=(hf.short (f.2.2.1.getD (valD 0 w) []) (by rw [qal (by omega)];exact List.getElem_mem _)).1
    obtain ⟨t,ht⟩:=Int.eq_ofNat_of_zero_le hlo
    have d1:=(qbf M[valD 0 w].1.2.1.length).1
    obtain ⟨s1,l1⟩:=qbo (n:=M[valD 0 w].1.2.1.length) (by omega)
    obtain ⟨s2,l2⟩:=qbo (n:=t) (by omega)
    rw [qaa,s1,qb1 (by omega) (by omega),ht,s2,qb1 (by omega) (by omega),qe9,qe9]
    simp only [Option.bind_some]
    rw [qas (by simp;omega)]
    simp only [cond_true]
    rw [qas (by unfold strCat;simp;omega)]
    refine ⟨_,?_,?_,?_,rfl,rfl⟩
    ·unfold strCat;simp;omega
    ·unfold strCat
     have n1:=qfu (c:=10) (by decide) M[valD 0 w].1.2.1.length
     have n2:=qfu (c:=10) (by decide) t
     simp only [List.mem_append,List.mem_singleton,not_or]
     exact ⟨⟨n1,by decide⟩,n2⟩
    ·intro h
     have:=congrArg (fun l=>(32:UInt8)∈l) h
     simp [strCat,wOk] at this
   ·rw [decide_eq_false hk,qat (by rw [qaa];omega)]
    exact ⟨_,what.1,what.2.1,what.2.2,rfl,rfl⟩
  | false =>
   simp only [Bool.not_false,cond_true]
   refine ⟨wWhat,what.1,what.2.1,what.2.2,?_,rfl⟩
   cases hp:(parseInt64 w).2 with
   | false=>rfl
   | true =>
    cases hq:sEq (Lib.itoa (parseInt64 w).1) w with
    | false=>rfl
    | true =>
     have hq':Lib.itoa (parseInt64 w).1=w:=by simpa [sEq] using hq
     have hout:¬ (0≤(parseInt64 w).1∧(parseInt64 w).1≤999999999):=fun h=>qaiv hok h.1 h.2 hq'
     have hhas:qa9 ((f,(M,S,W,()),()):DRun) (parseInt64 w).1=some ((false,()),(((f,(M,S,W,()),()):DRun),())):=by
      unfold qa9
      simp only
      rw [qht,qcg,show iSub .i64 (lenI M) 1=(M.length:Int)-1 from by rw [qaa];exact qd3 (by omega) (by omega)]
      have:(iLe 0 (parseInt64 w).1&&iLe (parseInt64 w).1 ((M.length:Int)-1))=false:=by
       by_cases h0:0≤(parseInt64 w).1
       ·rw [qbt (show ¬ (parseInt64 w).1≤(M.length:Int)-1 by omega),Bool.and_false]
       ·rw [qbt h0];rfl
      rw [this];rfl
     rw [hhas];rfl
 ·refine ⟨wWhat,what.1,what.2.1,what.2.2,?_,?_⟩
  ·have hend:(!(intRest r1).2.1&&(intRest r1).1.isEmpty)=false:=by
    cases hq:(!(intRest r1).2.1&&(intRest r1).1.isEmpty) with
    | false=>rfl
    | true =>
     exfalso
     apply hform
     simp only [Bool.and_eq_true,Bool.not_eq_true',List.isEmpty_iff] at hq
     obtain ⟨q1,q2⟩:=hq
     unfold intRest at q1 q2
     simp only [Bool.or_eq_false_iff] at q1
     obtain ⟨⟨q3,q4⟩,-⟩:=q1
     obtain ⟨-,ws',h2⟩:=e3 q4
     have h2:ws=wMarks :: ws':=h2
     have q2:r1.1.drop 1=[]:=q2
     rw [e2,h2] at q2 q3
     cases ws' with
     | nil=>simp at q3
     | cons w r =>
      cases r with
      | nil=>exact ⟨w,h2⟩
      | cons a b=>simp at q2
   rw [hend];rfl
  ·cases h2:iEq (lenI ws) 2 with
   | false=>rfl
   | true =>
    have hl2:ws.length=2:=by
     rw [qhw,qaa] at h2;omega
    obtain ⟨u,v,rfl⟩ : ∃ u v,ws=[u,v]:=by
     match ws,hl2 with
     | [u,v],_=>exact ⟨u,v,rfl⟩
    have hne:u≠wMarks:=fun h=>hform ⟨v,by rw [h]⟩
    have b0:inB 0 [u,v].length=true:=rfl
    have g0:List.getD [u,v] 0 ([]:List UInt8)=u:=rfl
    rw [b0,g0,qad6 hne];rfl
noncomputable def ansF (f:DFleet) (y:DYard) (s:List UInt8):List UInt8×DYard :=
 match qcl ((f,y,()):DRun) s with
 | some r=>(r.1.1,r.2.1.2.1)
 | none=>([],y)
theorem qhu {f:DFleet} (hf:FleetOK f) {y:DYard} (hy:YardOK f y) {s:List UInt8} (hs:s.length≤1048576):qcl ((f,y,()):DRun) s=some (((ansF f y s).1,()),(((f,(ansF f y s).2,()):DRun),()))∧(ansF f y s).1.length≤50∧(10:UInt8)∉(ansF f y s).1∧YardOK f (ansF f y s).2 ∧
  ((∃ d : DDeed, deedB d = true ∧ deedT d = s ∧ qbl s = some ((d, 0, ()), ()) ∧ (ansF f y s).2 = (doF f y d).2 ∧ (((doF f y d).1 = 0 ∧ (ansF f y s).1 = wOk) ∨ ((doF f y d).1 ≠ 0 ∧ ∃ nm, qff (doF f y d).1 = some ((nm, ()), ()) ∧ nm.length ≤ 10 ∧ (ansF f y s).1 = wError ++ nm))) ∨
   (qbl s=some badD∧(∀ d:DDeed,deedB d=true→deedT d≠s)∧(ansF f y s).1≠wOk∧(ansF f y s).2=y∧qb5 ((f,y,()):DRun) s=some (((ansF f y s).1,()),(((f,y,()):DRun),())))):=by
 have key : ∃ t y',qcl ((f,y,()):DRun) s=some ((t,()),(((f,y',()):DRun),()))∧t.length≤50∧(10:UInt8)∉t∧YardOK f y' ∧
  ((∃ d : DDeed, deedB d = true ∧ deedT d = s ∧ qbl s = some ((d, 0, ()), ()) ∧ y' = (doF f y d).2 ∧ (((doF f y d).1 = 0 ∧ t = wOk) ∨ ((doF f y d).1 ≠ 0 ∧ ∃ nm, qff (doF f y d).1 = some ((nm, ()), ()) ∧ nm.length ≤ 10 ∧ t = wError ++ nm))) ∨
   (qbl s=some badD∧(∀ d:DDeed,deedB d=true→deedT d≠s)∧t≠wOk∧y'=y∧qb5 ((f,y,()):DRun) s=some ((t,()),(((f,y,()):DRun),())))):=by
  unfold qcl
  rcases qamm hs with ⟨d,hd,ht,h1,h2⟩ | ⟨h1,h2⟩
  ·obtain ⟨q1,q2,q3⟩:=ql4 hf hy hd
   rw [h1,h2]
   simp only [Option.bind_some,qbr,cond_true]
   rw [show qbj ((f,(y.1,y.2.1,y.2.2.1,y.2.2.2),()):DRun) d=_ from q1]
   simp only [Option.bind_some]
   cases hc:iEq (doF f y d).1 0 with
   | true=>exact ⟨wOk,(doF f y d).2,rfl,by decide,by decide,q3,.inl ⟨d,hd,ht,rfl,rfl,.inl ⟨qhw.1 hc,rfl⟩⟩⟩
   | false =>
    obtain ⟨nm,n1,n2,n3,n4⟩:=qall (doF f y d).1
    have hne:(doF f y d).1≠0:=fun h=>by rw [h] at hc;exact absurd hc (by decide)
    simp only [Bool.not_false,cond_true]
    rw [n1]
    simp only [Option.bind_some]
    rw [qas (by simp;omega)]
    refine ⟨wError++nm,(doF f y d).2,rfl,by simp;omega,?_,q3,.inl ⟨d,hd,ht,rfl,rfl,.inr ⟨hne,nm,n2,n3,rfl⟩⟩⟩
    rw [List.mem_append,not_or]
    exact ⟨by decide,n4⟩
  ·have hno : ∀ d:DDeed,deedB d=true→deedT d≠s:=fun d hd ht=>by
    rcases qs1 hs with ⟨d',hd',ht',hr⟩ | ⟨hno,hr⟩
    ·rw [h2] at hr
     have:=congrArg (fun o=>Option.map (fun r:RdD=>r.1.2.1) o) hr
     exact absurd this (by simp [badD])
    ·exact hno d hd ht
   rw [h1]
   have hb:iEq badD.1.2.1 0=false:=rfl
   simp only [Option.bind_some]
   rw [hb]
   simp only [cond_false]
   unfold qb5
   cases hag:sEq s ([97,103,114,101,101,100]) with
   | true =>
    simp only [cond_true]
    rw [show qez ((f,(y.1,y.2.1,y.2.2.1,y.2.2.2),()):DRun)=_ from qady hf hy,show qhp ((f,(y.1,y.2.1,y.2.2.1,y.2.2.2),()):DRun)=_ from qaea hf hy]
    simp only [Option.bind_some]
    cases agreedB y with
    | true=>exact ⟨[121,101,115],y,rfl,by decide,by decide,hy,.inr ⟨h2,hno,by decide,rfl,rfl⟩⟩
    | false=>exact ⟨[110,111],y,rfl,by decide,by decide,hy,.inr ⟨h2,hno,by decide,rfl,rfl⟩⟩
   | false =>
    simp only [cond_false]
    obtain ⟨t,m1,m2,m3,m4,m5⟩:=qakr hf hy hs
    exact ⟨t,y,m4,m1,m2,hy,.inr ⟨h2,hno,m3,rfl,m5⟩⟩
 obtain ⟨t,y',k1,k2,k3,k4,k5⟩:=key
 have e:ansF f y s=(t,y'):=by unfold ansF;rw [k1]
 rw [e]
 exact ⟨k1,k2,k3,k4,k5⟩
end
section
def lastL (L:List (List UInt8)):List UInt8:=L.getD (L.length-1) []
def scriptLines (s:List UInt8):List (List UInt8):=bif sEq (lastL (splitC 10 s)) [] then (splitC 10 s).take ((splitC 10 s).length-1) else splitC 10 s
noncomputable def scriptF (f:DFleet):DYard→List (List UInt8)→List (List UInt8)×DYard
 | y,[]=>([],y)
 | y,s :: r=>((ansF f y s).1 :: (scriptF f (ansF f y s).2 r).1,(scriptF f (ansF f y s).2 r).2)
theorem qhy (x:List UInt8) (r:List (List UInt8)):linesT (x :: r)=x++[10]++linesT r:=rfl
theorem qagg {s:List UInt8} (hs:s.length≤1048576):qlb s=some ((scriptLines s,()),()):=by
 have hne:=qix 10 s
 have hlen:(splitC 10 s).length≤1048577:=by rw [qre];have:=List.count_le_length (a:=(10:UInt8)) (l:=s);omega
 unfold qlb scriptLines lastL
 rw [qde 10 (by omega)]
 simp only [Option.bind_some]
 generalize splitC 10 s=L at *
 have hpos:0<L.length:=List.length_pos_iff.2 hne
 have e1:iSub .i64 (lenI L) 1=((L.length-1:Nat):Int):=by rw [qaa,qd3 (by omega) (by omega)];omega
 rw [e1,qae (show L.length-1<L.length by omega),Int.toNat_natCast]
 have e5:inS 0 ((L.length-1:Nat):Int) L.length=true:=by simp [inS]
 rw [e5]
 simp only [cond_true,List.drop_zero]
 cases sEq (L.getD (L.length-1) []) [] <;> rfl
theorem qacy {s:List UInt8} : ∀ w∈scriptLines s,w.length≤s.length:=by
 intro w hw
 have:w∈splitC 10 s:=by
  unfold scriptLines at hw
  cases h:sEq (lastL (splitC 10 s)) [] with
  | true=>rw [h] at hw;exact List.mem_of_mem_take hw
  | false=>rw [h] at hw;exact hw
 exact qu9 this
theorem qagp {t s:List UInt8} (h:t.length+s.length≤1000000000):qav ((),bytesOf t,()) s=some ((lenI s,true,()),(((),bytesOf (t++s),()),())):=qx8 h
theorem qacj {f:DFleet} (hf:FleetOK f) {Ls:List (List UInt8)} (hl:Ls.length≤200) (hw : ∀ w∈Ls,w.length≤1048576) : ∀ (r:List (List UInt8)) (i:Nat),Ls.drop i=r→i≤Ls.length → ∀ (y:DYard) (t:List UInt8),YardOK f y→t.length≤60*i →
  run (qd4 ((Ls,()),())) ((i:Int),((f,y,()):DRun),((),bytesOf t,()),())=(bldStr ((),bytesOf (t++linesT (scriptF f y r).1),())).bind fun z=>some ((z,(0:Int),()),()):=by
 intro r
 induction r with
 | nil =>
  intro i hi hle y t hy ht
  have hi:Ls.length≤i:=List.drop_eq_nil_iff.1 hi
  have hst:qd4 ((Ls,()),()) ((i:Int),((f,y,()):DRun),((),bytesOf t,()),())=Option.map Sum.inr ((bldStr ((),bytesOf t,())).bind fun z=>some ((z,(0:Int),()),())):=by
   unfold qd4
   simp only
   rw [qaf (by rw [qaa];omega)]
   rfl
  have e:t++linesT (scriptF f y []).1=t:=List.append_nil t
  rw [e]
  cases hb:(bldStr ((),bytesOf t,())).bind fun z=>some ((z,(0:Int),()),()) with
  | none =>
   rw [hb] at hst
   exact qah3 hst
  | some z =>
   rw [hb] at hst
   exact qaj hst
 | cons s r ih =>
  intro i hi hle y t hy ht
  have hlt:i<Ls.length:=by
   rcases Nat.lt_or_ge i Ls.length with h | h
   ·exact h
   ·rw [List.drop_eq_nil_of_le h] at hi;cases hi
  have hcons:=List.getElem_cons_drop (h:=hlt)
  rw [hi] at hcons
  obtain ⟨e1,e2⟩:=List.cons.inj hcons
  obtain ⟨h1,h2,-,h3,-⟩:=qhu hf hy (s:=s) (by rw [← e1];exact hw _ (List.getElem_mem hlt))
  have hstep:qd4 ((Ls,()),()) ((i:Int),((f,y,()):DRun),((),bytesOf t,()),())=some (.inl (((i+1:Nat):Int),((f,(ansF f y s).2,()):DRun),((),bytesOf (t++((ansF f y s).1++[10])),()),())):=by
   unfold qd4
   simp only
   rw [qah (by rw [qaa];omega),qae hlt,Int.toNat_natCast,qal hlt,e1]
   simp only [cond_true]
   rw [show qcl ((f,(y.1,y.2.1,y.2.2.1,y.2.2.2),()):DRun) s=_ from h1]
   simp only [Option.bind_some]
   rw [qas (by simp;omega)]
   simp only [cond_true]
   rw [show qav ((),bytesOf t,()) (strCat (ansF f y s).1 [10])=_ from qagp (by unfold strCat;simp;omega)]
   simp only [Option.bind_some]
   rw [qaq hlt (by omega)]
   rfl
  rw [qak hstep,ih (i+1) e2 (by omega) _ _ h3 (by simp;omega)]
  show _=(bldStr ((),bytesOf (t++linesT ((ansF f y s).1 :: (scriptF f (ansF f y s).2 r).1)),())).bind _
  rw [qhy]
  simp only [List.append_assoc]
abbrev SSt:=List UInt8×Int×DRun×Unit
theorem quv {f:DFleet} (hf:FleetOK f) {Ls:List (List UInt8)} (hl:Ls.length≤200) (hw : ∀ w∈Ls,w.length≤1048576) {l:SSt→Option (SSt⊕((List UInt8×Int×Unit)×Unit))}
  (hstep : ∀ (i:Nat) (h:i<Ls.length) (t:List UInt8) (y:DYard),YardOK f y→t.length≤60*i→l (t,(i:Int),((f,y,()):DRun),())=some (.inl (t++((ansF f y Ls[i]).1++[10]),((i+1:Nat):Int),((f,(ansF f y Ls[i]).2,()):DRun),())))
  (hend : ∀ (t:List UInt8) (y:DYard),l (t,(Ls.length:Int),((f,y,()):DRun),())=some (.inr ((t,0,()),()))) : ∀ (r:List (List UInt8)) (i:Nat),Ls.drop i=r→i≤Ls.length → ∀ (y:DYard) (t:List UInt8),YardOK f y→t.length≤60*i →
  run l (t,(i:Int),((f,y,()):DRun),())=some ((t++linesT (scriptF f y r).1,(0:Int),()),()):=by
 intro r
 induction r with
 | nil =>
  intro i hi hle y t hy ht
  have hi:Ls.length≤i:=List.drop_eq_nil_iff.1 hi
  have e:t++linesT (scriptF f y []).1=t:=List.append_nil t
  rw [e]
  have:i=Ls.length:=by omega
  subst this
  exact qaj (hend t y)
 | cons s r ih =>
  intro i hi hle y t hy ht
  have hlt:i<Ls.length:=by
   rcases Nat.lt_or_ge i Ls.length with h | h
   ·exact h
   ·rw [List.drop_eq_nil_of_le h] at hi;cases hi
  have hcons:=List.getElem_cons_drop (h:=hlt)
  rw [hi] at hcons
  obtain ⟨e1,e2⟩:=List.cons.inj hcons
  obtain ⟨-,h2,-,h3,-⟩:=qhu hf hy (s:=s) (by rw [← e1];exact hw _ (List.getElem_mem hlt))
  have hs:=hstep i hlt t y hy ht
  rw [e1] at hs
  rw [qak hs,ih (i+1) e2 (by omega) _ _ h3 (by simp;omega)]
  show _=some ((t++linesT ((ansF f y s).1 :: (scriptF f (ansF f y s).2 r).1),(0:Int),()),())
  rw [qhy]
  simp only [List.append_assoc]
theorem qak2 {f:DFleet} (hf:FleetOK f) {L:List (List UInt8)} {m:Nat} (hm:m≤L.length) (hl:m≤200) (hw : ∀ w∈L,w.length≤1048576) (i:Nat) (h:i<m) (t:List UInt8) (y:DYard) (hy:YardOK f y) (ht:t.length≤60*i) :
  qe3 (m:Int) ((L,()),()) (t,(i:Int),((f,y,()):DRun),())=some (.inl (t++((ansF f y (L[i]'(by omega))).1++[10]),((i+1:Nat):Int),((f,(ansF f y (L[i]'(by omega))).2,()):DRun),())):=by
 have hlt:i<L.length:=by omega
 obtain ⟨h1,h2,-,h3,h4⟩:=qhu hf hy (s:=L[i]) (hw _ (List.getElem_mem hlt))
 unfold qe3
 simp only
 rw [Int.toNat_natCast,qah (by omega:((i:Nat):Int)<(m:Int)),qae h,Int.toNat_natCast,Nat.zero_add,qal hlt,qaq h (by omega)]
 simp only [cond_true]
 rcases h4 with ⟨d,hd,hdt,hr,hy2,hh⟩ | ⟨hr,-,-,hy2,hans⟩
 ·obtain ⟨-,q2,-⟩:=ql4 hf hy hd
  rw [hr]
  simp only [Option.bind_some,qbr,Bool.not_true,cond_false]
  rw [show qap ((f,(y.1,y.2.1,y.2.2.1,y.2.2.2),()):DRun) d=_ from q2]
  simp only [Option.bind_some]
  rcases hh with ⟨hc,ha⟩ | ⟨hc,nm,hn,hnl,ha⟩
  ·rw [qek hc,qas (show ([111,107]:List UInt8).length+([10]:List UInt8).length≤_ by decide),qas (show t.length+(strCat ([111,107]:List UInt8) [10]).length≤_ by simp [strCat];omega),ha,hy2]
   rfl
  ·rw [qau hc,hn]
   simp only [Option.bind_some]
   rw [qas (show wError.length+nm.length≤_ by simp;omega),qas (show (strCat wError nm).length+([10]:List UInt8).length≤_ by simp [strCat];omega),
    qas (show t.length+(strCat (strCat wError nm) [10]).length≤_ by simp [strCat];omega),ha,hy2]
   rfl
 ·rw [hr]
  have hb:iEq badD.1.2.1 0=false:=rfl
  simp only [Option.bind_some]
  rw [hb]
  simp only [Bool.not_false,cond_true]
  rw [show qb5 ((f,(y.1,y.2.1,y.2.2.1,y.2.2.2),()):DRun) L[i]=_ from hans]
  simp only [Option.bind_some]
  rw [qas (by simp;omega)]
  simp only [cond_true]
  rw [qas (by simp [strCat];omega),hy2]
  rfl
theorem qah6 {f:DFleet} (hf:FleetOK f) {L:List (List UInt8)} (hl:L.length≤200) (hw : ∀ w∈L,w.length≤1048576) (i:Nat) (hlt:i<L.length) (t:List UInt8) (y:DYard) (hy:YardOK f y) (ht:t.length≤60*i) :
  qd0 ((L,()),()) (t,(i:Int),((f,y,()):DRun),())=some (.inl (t++((ansF f y L[i]).1++[10]),((i+1:Nat):Int),((f,(ansF f y L[i]).2,()):DRun),())):=by
 obtain ⟨h1,h2,-,h3,h4⟩:=qhu hf hy (s:=L[i]) (hw _ (List.getElem_mem hlt))
 unfold qd0
 simp only
 rw [qah (show ((i:Nat):Int)<lenI L by rw [qaa];omega),qae hlt,Int.toNat_natCast,qal hlt,qaq hlt (by omega)]
 simp only [cond_true]
 rcases h4 with ⟨d,hd,hdt,hr,hy2,hh⟩ | ⟨hr,-,-,hy2,hans⟩
 ·obtain ⟨-,q2,-⟩:=ql4 hf hy hd
  rw [hr]
  simp only [Option.bind_some,qbr,Bool.not_true,cond_false]
  rw [show qap ((f,(y.1,y.2.1,y.2.2.1,y.2.2.2),()):DRun) d=_ from q2]
  simp only [Option.bind_some]
  rcases hh with ⟨hc,ha⟩ | ⟨hc,nm,hn,hnl,ha⟩
  ·rw [qek hc,qas (show ([111,107]:List UInt8).length+([10]:List UInt8).length≤_ by decide),qas (show t.length+(strCat ([111,107]:List UInt8) [10]).length≤_ by simp [strCat];omega),ha,hy2]
   rfl
  ·rw [qau hc,hn]
   simp only [Option.bind_some]
   rw [qas (show wError.length+nm.length≤_ by simp;omega),qas (show (strCat wError nm).length+([10]:List UInt8).length≤_ by simp [strCat];omega),
    qas (show t.length+(strCat (strCat wError nm) [10]).length≤_ by simp [strCat];omega),ha,hy2]
   rfl
 ·rw [hr]
  have hb:iEq badD.1.2.1 0=false:=rfl
  simp only [Option.bind_some]
  rw [hb]
  simp only [Bool.not_false,cond_true]
  rw [show qb5 ((f,(y.1,y.2.1,y.2.2.1,y.2.2.2),()):DRun) L[i]=_ from hans]
  simp only [Option.bind_some]
  rw [qas (by simp;omega)]
  simp only [cond_true]
  rw [qas (by simp [strCat];omega),hy2]
  rfl
def scriptC (f:DFleet) (s:List UInt8):Int:=bif fleetB f then (bif iLt 10000 (lenI s) then 2 else bif iLt 120 (lenI (scriptLines s)) then 2 else 0) else 1
noncomputable def scriptT (f:DFleet) (s:List UInt8):List UInt8:=linesT (scriptF f (yard0 f) (scriptLines s)).1
theorem qzd {f:DFleet} {s:List UInt8} (h:scriptC f s=0):fleetB f=true∧s.length≤10000∧(scriptLines s).length≤120:=by
 unfold scriptC at h
 cases h1:fleetB f with
 | false=>rw [h1] at h;exact absurd (show (1:Int)=0 from h) (by decide)
 | true =>
  cases h2:iLt 10000 (lenI s) with
  | true=>rw [h1,h2] at h;exact absurd (show (2:Int)=0 from h) (by decide)
  | false =>
   cases h3:iLt 120 (lenI (scriptLines s)) with
   | true=>rw [h1,h2,h3] at h;exact absurd (show (2:Int)=0 from h) (by decide)
   | false =>
    have a2:=of_decide_eq_false h2
    have a3:=of_decide_eq_false h3
    rw [qaa] at a2 a3
    exact ⟨rfl,by omega,by omega⟩
theorem qz5 {f:DFleet} (hf:Fit TyFleet f) {s:List UInt8} (hs:s.length≤1048576):qim f s=some (bif iEq (scriptC f s) 0 then (scriptT f s,0,()) else ([],scriptC f s,()),()):=by
 have sf:Sized TyFleet f:=qc2 rfl hf
 have hne:=qix 10 s
 have hwl : ∀ w∈splitC 10 s,w.length≤1048576:=fun w hw=>Nat.le_trans (qu9 hw) hs
 have hlen:(splitC 10 s).length≤1048577:=by rw [qre];have:=List.count_le_length (a:=(10:UInt8)) (l:=s);omega
 cases hc:iEq (scriptC f s) 0 with
 | true =>
  obtain ⟨h1,h2,h3⟩:=qzd (qhw.1 hc)
  have F:=qsg hf h1
  have hfew:=F.few
  unfold qim scriptT
  rw [qrd f sf,h1,show (10:Int)=byteI 10 from rfl,qep 10 hs]
  simp only [Option.bind_some,Bool.not_true,cond_false,cond_true]
  rw [qaav (by omega),qaf (show ¬ (10000:Int)<lenI s by rw [qaa];omega)]
  unfold scriptLines lastL at *
  generalize splitC 10 s=L at *
  have hpos:0<L.length:=List.length_pos_iff.2 hne
  have e1:iSub .i64 (lenI L) 1=((L.length-1:Nat):Int):=by rw [qaa,qd3 (by omega) (by omega)];omega
  have e5:inS 0 ((L.length-1:Nat):Int) L.length=true:=by simp [inS]
  rw [e1,qae (show L.length-1<L.length by omega),Int.toNat_natCast,e5]
  cases he:sEq (L.getD (L.length-1) []) [] with
  | true =>
   rw [he] at h3
   have h3:(L.take (L.length-1)).length≤120:=h3
   have h3':L.length-1≤120:=by rw [List.length_take] at h3;omega
   simp only [Option.bind_some,cond_true,cond_false]
   rw [qaf (by omega:¬ (120:Int)<((L.length-1:Nat):Int))]
   simp only [cond_false]
   have htl:(L.take (L.length-1)).length=L.length-1:=by rw [List.length_take];omega
   have:=quv F (Ls:=L.take (L.length-1)) (by omega) (fun w hw=>hwl w (List.mem_of_mem_take hw)) (l:=qe3 ((L.length-1:Nat):Int) ((L,()),())) (fun i h t y hy ht=>by
    rw [htl] at h
    rw [qak2 F (m:=L.length-1) (by omega) (by omega) hwl i h t y hy ht]
    rw [List.getElem_take]) (fun t y=>by
    rw [htl]
    unfold qe3
    simp only
    rw [Int.toNat_natCast,qaf (by omega:¬ ((L.length-1:Nat):Int)<((L.length-1:Nat):Int))]
    rfl) _ 0 rfl (by omega) (yard0 f) [] (qgr f) (by simp)
   exact this
  | false =>
   rw [he] at h3
   have h3:L.length≤120:=h3
   simp only [Option.bind_some,cond_true,cond_false]
   rw [qaf (show ¬ (120:Int)<lenI L by rw [qaa];omega)]
   simp only [cond_false]
   exact quv F (Ls:=L) (by omega) hwl (l:=qd0 ((L,()),())) (fun i h t y hy ht=>qah6 F (by omega) hwl i h t y hy ht) (fun t y=>by
    unfold qd0
    simp only
    rw [qaf (show ¬ (L.length:Int)<lenI L by rw [qaa];omega)]
    rfl) _ 0 rfl (by omega) (yard0 f) [] (qgr f) (by simp)
 | false =>
  unfold qim
  unfold scriptC at *
  rw [qrd f sf,show (10:Int)=byteI 10 from rfl,qep 10 hs]
  simp only [Option.bind_some]
  cases h1:fleetB f with
  | false=>rfl
  | true =>
   rw [h1] at hc
   simp only [Bool.not_true,cond_false,cond_true] at hc ⊢
   unfold scriptLines lastL at *
   generalize splitC 10 s=L at *
   have hpos:0<L.length:=List.length_pos_iff.2 hne
   have e1:iSub .i64 (lenI L) 1=((L.length-1:Nat):Int):=by rw [qaa,qd3 (by omega) (by omega)];omega
   have e5:inS 0 ((L.length-1:Nat):Int) L.length=true:=by simp [inS]
   rw [e1,qae (show L.length-1<L.length by omega),Int.toNat_natCast,e5]
   have htl:(L.take (L.length-1)).length=L.length-1:=by rw [List.length_take];omega
   cases h2:iLt 10000 (lenI s) with
   | true=>cases sEq (L.getD (L.length-1) []) [] <;> rfl
   | false =>
    rw [h2] at hc
    simp only [cond_false] at hc ⊢
    cases he:sEq (L.getD (L.length-1) []) [] with
    | true =>
     rw [he] at hc
     simp only [cond_true] at hc ⊢
     have hlt:lenI (L.take (L.length-1))=((L.length-1:Nat):Int):=by rw [qaa,htl]
     rw [hlt] at hc ⊢
     cases h3:iLt 120 ((L.length-1:Nat):Int) with
     | true=>rfl
     | false=>rw [h3] at hc;exact absurd hc (by decide)
    | false =>
     rw [he] at hc
     simp only [cond_false,cond_true] at hc ⊢
     cases h3:iLt 120 (lenI L) with
     | true=>rfl
     | false=>rw [h3] at hc;exact absurd hc (by decide)
theorem qzv {f:DFleet} (hf:Fit TyFleet f) {s:List UInt8} (hs:s.length≤1048576):qk6 f s=(bif iEq (scriptC f s) 0 then ((bldStr ((),bytesOf (scriptT f s),())).bind fun z=>some ((z,(0:Int),()),())) else some (([],scriptC f s,()),())):=by
 have sf:Sized TyFleet f:=qc2 rfl hf
 unfold qk6
 rw [qagg hs,qqm f sf]
 simp only [Option.bind_some]
 cases hc:iEq (scriptC f s) 0 with
 | true =>
  obtain ⟨h1,h2,h3⟩:=qzd (qhw.1 hc)
  have F:=qsg hf h1
  have hfew:=F.few
  rw [h1,qaf (show ¬ (10000:Int)<lenI s by rw [qaa];omega),qaf (show ¬ (120:Int)<lenI (scriptLines s) by rw [qaa];omega),qss (by omega)]
  simp only [Option.bind_some,Bool.not_true,cond_false,cond_true]
  exact qacj F (Ls:=scriptLines s) (by omega) (fun w hw=>by have:=qacy w hw;omega) _ 0 rfl (by omega) (yard0 f) [] (qgr f) (by simp)
 | false =>
  unfold scriptC at *
  cases h1:fleetB f with
  | false=>rfl
  | true =>
   rw [h1] at hc
   simp only [Bool.not_true,cond_false,cond_true] at hc ⊢
   cases h2:iLt 10000 (lenI s) with
   | true=>rfl
   | false =>
    rw [h2] at hc
    simp only [cond_false] at hc ⊢
    cases h3:iLt 120 (lenI (scriptLines s)) with
    | true=>rfl
    | false=>rw [h3] at hc;exact absurd hc (by decide)
end
end Go.Proofs.YtjhdoneobdbeaaaGreatDoor
