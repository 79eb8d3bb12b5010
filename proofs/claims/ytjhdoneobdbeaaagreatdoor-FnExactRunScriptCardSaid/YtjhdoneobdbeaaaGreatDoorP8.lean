import Derived.Test.YtjhdoneobdbeaaaGreatDoorP7
/- Functions of the program and of the reference in plain terms. -/
set_option linter.unusedSectionVars false
set_option linter.unusedSimpArgs false
set_option linter.unusedVariables false
namespace Go.Proofs.YtjhdoneobdbeaaaGreatDoor
open Go Go.Tm
section
def namesL:List (List UInt8):=[[111,107],[105,110,118,97,108,105,100],[114,97,110,103,101],[108,105,109,105,116],[115,116,97,116,101],[115,121,110,116,97,120],[110,111,116,102,111,117,110,100],[98,117,100,103,101,116],[112,114,111,111,102]]
theorem qahn:splitC 32 ([111,107,32,105,110,118,97,108,105,100,32,114,97,110,103,101,32,108,105,109,105,116,32,115,116,97,116,101,32,115,121,110,116,97,120,32,110,111,116,102,111,117,110,100,32,98,117,100,103,101,116,32,112,114,111,111,102]:List UInt8)=namesL:=by decide
theorem qaj5 (c:Int) : ∃ nm,qle c=some ((nm,()),())∧qe0 c=some ((nm,()),())∧nm.length≤10∧(10:UInt8)∉nm:=by
 unfold qle qe0
 rw [qc9 32 (by decide),qcb,qahn]
 simp only [Option.bind_some]
 by_cases h:0≤c∧c≤8
 ·obtain ⟨n,rfl⟩:=Int.eq_ofNat_of_zero_le h.1
  have hn:n=0∨n=1∨n=2∨n=3∨n=4∨n=5∨n=6∨n=7∨n=8:=by omega
  rcases hn with rfl | rfl | rfl | rfl | rfl | rfl | rfl | rfl | rfl <;> exact ⟨_,rfl,rfl,by decide,by decide⟩
 ·refine ⟨[],?_,?_,by decide,by simp⟩
  ·by_cases h0:c<0
   ·rw [qah h0];rfl
   ·rw [qag h0,qay (show lenI namesL≤c by show (9:Int)≤c;omega)];rfl
  ·by_cases h0:0≤c
   ·rw [qay h0,qb6 (show ¬ c≤8 by omega)];rfl
   ·rw [qb6 h0];rfl
theorem qak4 {s:List UInt8} (hs:s.length≤1048576):(∃ d:DDeed,deedB d=true∧deedT d=s∧qer s=some ((d,0,()),())∧qbh s=some ((d,0,()),()))∨(qer s=some badD∧qbh s=some badD):=by
 obtain ⟨E,d,h1,h2,h3⟩:=qzz hs
 rcases qrw hs with ⟨d',hd,ht,hr⟩ | ⟨hno,hr⟩
 ·refine .inl ⟨d',hd,ht,?_,hr⟩
  obtain ⟨k,a,b,rfl,k1,k2,k3,k4,k5⟩:=qqv hd
  obtain ⟨hE,rfl⟩:=h3 k a b k1 k2 k3 k4 k5 ht.symm
  rw [h1,hE,hd]
  simp only [cond_true,Bool.true_and,ht,qct]
 ·refine .inr ⟨?_,hr⟩
  rw [h1]
  cases hE:E with
  | false=>rfl
  | true =>
   cases hd:deedB d with
   | true =>
    have:sEq (deedT d) s=false:=by simpa [sEq] using hno d hd
    simp only [cond_true,this,Bool.and_false,cond_false]
   | false =>
    have:sEq [] s=false:=by
     cases s with
     | nil=>rw [h2 rfl] at hE;cases hE
     | cons b x=>rfl
    simp only [cond_false,this,Bool.and_false]
abbrev wMarks:List UInt8:=[109,97,114,107,115]
abbrev wWhat:List UInt8:=[119,104,97,116]
abbrev wOk:List UInt8:=[111,107]
abbrev wError:List UInt8:=[101,114,114,111,114,32]
theorem qajc {f:DFleet} (hf:FleetOK f) {y:DYard} (hy:YardOK f y) {s:List UInt8} (hs:s.length≤1048576) : ∃ t:List UInt8,t.length≤50∧(10:UInt8)∉t∧t≠wOk ∧
  ((qbq s).bind fun y1850 => (qbb ((y1850.1.1.1, y1850.1.1.2) : DRd) wMarks).bind fun y1851 => (qac ((y1851.2.1.1, y1851.2.1.2) : DRd)).bind fun y1852 => (qak ((y1852.2.1.1, y1852.2.1.2) : DRd)).bind fun y1853 =>
    bif (! y1853.1.1) then some (((wWhat,()),(((f,y,()):DRun),()))) else
    (qa7 ((f,y,()):DRun) y1852.1.1).bind fun y1855 =>
    bif (! y1855.1.1) then some (((wWhat,()),(((y1855.2.1.1,(y1855.2.1.2.1.1,y1855.2.1.2.1.2.1,y1855.2.1.2.1.2.2.1,y1855.2.1.2.1.2.2.2),y1855.2.1.2.2):DRun),())))
    else
    bif inB y1852.1.1 (List.length y1855.2.1.2.1.1) then
      let x1857:=List.getD y1855.2.1.2.1.1 y1852.1.1.toNat (((0,[],()),0,()):DMind)
      (qa0 (lenI x1857.1.2.1)).bind fun y1858 =>
      bif strRoom y1858.1.1 ([32]) then
        let x1859:=strCat y1858.1.1 ([32])
        (qa0 x1857.2.1).bind fun y1860 =>
        bif strRoom x1859 y1860.1.1 then
          some (((strCat x1859 y1860.1.1),()),(((y1855.2.1.1,(y1855.2.1.2.1.1,y1855.2.1.2.1.2.1,y1855.2.1.2.1.2.2.1,y1855.2.1.2.1.2.2.2),y1855.2.1.2.2):DRun),()))
        else none
      else none
    else none)=some ((t,()),(((f,y,()):DRun),())) ∧
  ((qbr s (32 : Int)).bind fun y1986 =>
    bif (! (iEq (lenI y1986.1.1) 2)) then some (((wWhat,()),(((f,y,()):DRun),()))) else
    bif inB 0 (List.length y1986.1.1) then
      bif (! (sEq (List.getD y1986.1.1 0 ([]:List UInt8)) wMarks)) then some (((wWhat,()),(((f,y,()):DRun),()))) else
      bif inB 1 (List.length y1986.1.1) then
        (qbd (List.getD y1986.1.1 1 ([]:List UInt8))).bind fun y1991 =>
        bif (! y1991.1.2.1) then some (((wWhat,()),(((f,y,()):DRun),()))) else
        bif (iLe (lenI y.1) y1991.1.1) then some (((wWhat,()),(((f,y,()):DRun),()))) else
        bif inB y1991.1.1 (List.length y.1) then
          let x1994:=List.getD y.1 y1991.1.1.toNat (((0,[],()),0,()):DMind)
          (qch (lenI x1994.1.2.1)).bind fun y1995 =>
          bif strRoom y1995.1.1 ([32]) then
            let x1996:=strCat y1995.1.1 ([32])
            (qch x1994.2.1).bind fun y1997 =>
            bif strRoom x1996 y1997.1.1 then
              some (((strCat x1996 y1997.1.1),()),(((f,y,()):DRun),()))
            else none
          else none
        else none
      else none
    else none)=some ((t,()),(((f,y,()):DRun),())):=by
 have hyy:=hy
 obtain ⟨M,S,W,⟨⟩⟩:=y
 obtain ⟨nm,ns,hm,hsv,nw,hwr⟩:=hy
 have nm:M.length=f.2.2.1.length:=nm
 have hfew:=hf.few
 have what:wWhat.length≤50∧(10:UInt8)∉wWhat∧wWhat≠wOk:=by decide
 rw [qahu hs,show (32:Int)=byteI 32 from rfl,qd9 32 hs]
 simp only [Option.bind_some]
 have hwl : ∀ w∈splitC 32 s,w.length≤1048576:=fun w hw=>Nat.le_trans (qtz hw) hs
 generalize splitC 32 s=ws at hwl
 obtain ⟨r1,e1,e2,e3,e4⟩:=qakt (r:=(ws,false,())) (by exact hwl) wMarks
 rw [show qbb ((ws,false,()):DRd) wMarks=_ from e1]
 simp only [Option.bind_some]
 have hw1:(wordOf r1).length≤1048576:=by
  unfold wordOf
  rw [e2]
  show ((ws.drop 1).getD 0 []).length≤_
  rw [List.getD_eq_getElem?_getD]
  cases hq:(ws.drop 1)[0]? with
  | none=>simp
  | some w=>exact hwl w (List.mem_of_mem_drop (List.mem_of_getElem? hq))
 rw [show qac ((r1.1,r1.2):DRd)=_ from qc1 hw1]
 simp only [Option.bind_some]
 rw [show qak (((intRest r1).1,(intRest r1).2):DRd)=_ from qcg _]
 simp only [Option.bind_some]
 by_cases hform : ∃ w,ws=[wMarks,w]
 ·obtain ⟨w,rfl⟩:=hform
  have r2:r1.2.1=false:=e4 [w] rfl rfl
  have hr1:r1.1=[w]:=e2
  have hword:wordOf r1=w:=by unfold wordOf;rw [hr1];rfl
  have hend:(!(intRest r1).2.1&&(intRest r1).1.isEmpty)=((parseInt64 w).2&&sEq (Lib.itoa (parseInt64 w).1) w):=by
   unfold intRest intOf
   rw [hword,hr1,r2]
   cases (parseInt64 w).2 <;> cases sEq (Lib.itoa (parseInt64 w).1) w <;> rfl
  have hint:intOf r1=(parseInt64 w).1:=by unfold intOf;rw [hword]
  rw [hend,hint]
  have i2:iEq (lenI [wMarks,w]) 2=true:=rfl
  have b0:inB 0 [wMarks,w].length=true:=rfl
  have b1:inB 1 [wMarks,w].length=true:=rfl
  have g0:List.getD [wMarks,w] 0 ([]:List UInt8)=wMarks:=rfl
  have g1:List.getD [wMarks,w] 1 ([]:List UInt8)=w:=rfl
  rw [i2,b0,b1,g0,g1,qct]
  simp only [Bool.not_true,cond_false,cond_true]
  obtain ⟨n,hn,hn2⟩:=qiv w
  rw [hn]
  simp only [Option.bind_some]
  cases hok:numOK 999999999 w with
  | true =>
   obtain ⟨p1,p2,p3⟩:=qo6 (by decide) hok
   have hnv:=hn2 hok
   subst hnv
   rw [p1]
   simp only
   rw [p2,qct,qac0 f M S W (by omega)]
   simp only [Option.bind_some,Bool.and_self,Bool.not_true,cond_false]
   by_cases hk:valD 0 w<M.length
   ·rw [decide_eq_true hk,qb6 (by rw [qaa];omega),qae hk,Int.toNat_natCast,qan hk]
    simp only [Bool.not_true,cond_false,cond_true]
    have hx:MindOK f _ M[valD 0 w]:=hm _ hk
    have hl:=hx.map.len
    have hlo:=hx.low
    have hup:=hx.up
    have hsl:=(hf.short (f.2.2.1.getD (valD 0 w) []) (by rw [qan (by omega)];exact List.getElem_mem _)).1
    obtain ⟨t,ht⟩:=Int.eq_ofNat_of_zero_le hlo
    have d1:=(qbc M[valD 0 w].1.2.1.length).1
    obtain ⟨s1,l1⟩:=qgq (n:=M[valD 0 w].1.2.1.length) (by omega)
    obtain ⟨s2,l2⟩:=qgq (n:=t) (by omega)
    rw [qaa,s1,qbu (by omega) (by omega),ht,s2,qbu (by omega) (by omega),qeu,qeu]
    simp only [Option.bind_some]
    rw [qax (by simp;omega)]
    simp only [cond_true]
    rw [qax (by unfold strCat;simp;omega)]
    refine ⟨_,?_,?_,?_,rfl,rfl⟩
    ·unfold strCat;simp;omega
    ·unfold strCat
     have n1:=qi2 (c:=10) (by decide) M[valD 0 w].1.2.1.length
     have n2:=qi2 (c:=10) (by decide) t
     simp only [List.mem_append,List.mem_singleton,not_or]
     exact ⟨⟨n1,by decide⟩,n2⟩
    ·intro h
     have:=congrArg (fun l=>(32:UInt8)∈l) h
     simp [strCat,wOk] at this
   ·rw [decide_eq_false hk,qay (by rw [qaa];omega)]
    exact ⟨_,what.1,what.2.1,what.2.2,rfl,rfl⟩
  | false =>
   simp only [Bool.not_false,cond_true]
   refine ⟨wWhat,what.1,what.2.1,what.2.2,?_,rfl⟩
   cases hp:(parseInt64 w).2 with
   | false=>rfl
   | true =>
    cases hq:sEq (Lib.itoa (parseInt64 w).1) w with
    | false=>rfl
    | true =>
     have hq':Lib.itoa (parseInt64 w).1=w:=by simpa [sEq] using hq
     have hout:¬ (0≤(parseInt64 w).1∧(parseInt64 w).1≤999999999):=fun h=>qaho hok h.1 h.2 hq'
     have hhas:qa7 ((f,(M,S,W,()),()):DRun) (parseInt64 w).1=some ((false,()),(((f,(M,S,W,()),()):DRun),())):=by
      unfold qa7
      simp only
      rw [qg1,qcb,show iSub .i64 (lenI M) 1=(M.length:Int)-1 from by rw [qaa];exact qfi (by omega) (by omega)]
      have:(iLe 0 (parseInt64 w).1&&iLe (parseInt64 w).1 ((M.length:Int)-1))=false:=by
       by_cases h0:0≤(parseInt64 w).1
       ·rw [qb6 (show ¬ (parseInt64 w).1≤(M.length:Int)-1 by omega),Bool.and_false]
       ·rw [qb6 h0];rfl
      rw [this];rfl
     rw [hhas];rfl
 ·refine ⟨wWhat,what.1,what.2.1,what.2.2,?_,?_⟩
  ·have hend:(!(intRest r1).2.1&&(intRest r1).1.isEmpty)=false:=by
    cases hq:(!(intRest r1).2.1&&(intRest r1).1.isEmpty) with
    | false=>rfl
    | true =>
     exfalso
     apply hform
     simp only [Bool.and_eq_true,Bool.not_eq_true',List.isEmpty_iff] at hq
     obtain ⟨q1,q2⟩:=hq
     unfold intRest at q1 q2
     simp only [Bool.or_eq_false_iff] at q1
     obtain ⟨⟨q3,q4⟩,-⟩:=q1
     obtain ⟨-,ws',h2⟩:=e3 q4
     have h2:ws=wMarks :: ws':=h2
     have q2:r1.1.drop 1=[]:=q2
     rw [e2,h2] at q2 q3
     cases ws' with
     | nil=>simp at q3
     | cons w r =>
      cases r with
      | nil=>exact ⟨w,h2⟩
      | cons a b=>simp at q2
   rw [hend];rfl
  ·cases h2:iEq (lenI ws) 2 with
   | false=>rfl
   | true =>
    have hl2:ws.length=2:=by
     rw [qg3,qaa] at h2;omega
    obtain ⟨u,v,rfl⟩ : ∃ u v,ws=[u,v]:=by
     match ws,hl2 with
     | [u,v],_=>exact ⟨u,v,rfl⟩
    have hne:u≠wMarks:=fun h=>hform ⟨v,by rw [h]⟩
    have b0:inB 0 [u,v].length=true:=rfl
    have g0:List.getD [u,v] 0 ([]:List UInt8)=u:=rfl
    rw [b0,g0,qaot hne];rfl
noncomputable def ansF (f:DFleet) (y:DYard) (s:List UInt8):List UInt8×DYard :=
 match qbz ((f,y,()):DRun) s with
 | some r=>(r.1.1,r.2.1.2.1)
 | none=>([],y)
theorem qk1 {f:DFleet} (hf:FleetOK f) {y:DYard} (hy:YardOK f y) {s:List UInt8} (hs:s.length≤1048576):qbz ((f,y,()):DRun) s=some (((ansF f y s).1,()),(((f,(ansF f y s).2,()):DRun),()))∧(ansF f y s).1.length≤50∧(10:UInt8)∉(ansF f y s).1∧YardOK f (ansF f y s).2 ∧
  ((∃ d : DDeed, deedB d = true ∧ deedT d = s ∧ qbh s = some ((d, 0, ()), ()) ∧ (ansF f y s).2 = (doF f y d).2 ∧ (((doF f y d).1 = 0 ∧ (ansF f y s).1 = wOk) ∨ ((doF f y d).1 ≠ 0 ∧ ∃ nm, qe0 (doF f y d).1 = some ((nm, ()), ()) ∧ nm.length ≤ 10 ∧ (ansF f y s).1 = wError ++ nm))) ∨
   (qbh s=some badD∧(∀ d:DDeed,deedB d=true→deedT d≠s)∧(ansF f y s).1≠wOk∧(ansF f y s).2=y∧qb0 ((f,y,()):DRun) s=some (((ansF f y s).1,()),(((f,y,()):DRun),())))):=by
 have key : ∃ t y',qbz ((f,y,()):DRun) s=some ((t,()),(((f,y',()):DRun),()))∧t.length≤50∧(10:UInt8)∉t∧YardOK f y' ∧
  ((∃ d : DDeed, deedB d = true ∧ deedT d = s ∧ qbh s = some ((d, 0, ()), ()) ∧ y' = (doF f y d).2 ∧ (((doF f y d).1 = 0 ∧ t = wOk) ∨ ((doF f y d).1 ≠ 0 ∧ ∃ nm, qe0 (doF f y d).1 = some ((nm, ()), ()) ∧ nm.length ≤ 10 ∧ t = wError ++ nm))) ∨
   (qbh s=some badD∧(∀ d:DDeed,deedB d=true→deedT d≠s)∧t≠wOk∧y'=y∧qb0 ((f,y,()):DRun) s=some ((t,()),(((f,y,()):DRun),())))):=by
  unfold qbz
  rcases qak4 hs with ⟨d,hd,ht,h1,h2⟩ | ⟨h1,h2⟩
  ·obtain ⟨q1,q2,q3⟩:=qai5 hf hy hd
   rw [h1,h2]
   simp only [Option.bind_some,qbt,cond_true]
   rw [show qdf ((f,(y.1,y.2.1,y.2.2.1,y.2.2.2),()):DRun) d=_ from q1]
   simp only [Option.bind_some]
   cases hc:iEq (doF f y d).1 0 with
   | true=>exact ⟨wOk,(doF f y d).2,rfl,by decide,by decide,q3,.inl ⟨d,hd,ht,rfl,rfl,.inl ⟨qg3.1 hc,rfl⟩⟩⟩
   | false =>
    obtain ⟨nm,n1,n2,n3,n4⟩:=qaj5 (doF f y d).1
    have hne:(doF f y d).1≠0:=fun h=>by rw [h] at hc;exact absurd hc (by decide)
    simp only [Bool.not_false,cond_true]
    rw [n1]
    simp only [Option.bind_some]
    rw [qax (by simp;omega)]
    refine ⟨wError++nm,(doF f y d).2,rfl,by simp;omega,?_,q3,.inl ⟨d,hd,ht,rfl,rfl,.inr ⟨hne,nm,n2,n3,rfl⟩⟩⟩
    rw [List.mem_append,not_or]
    exact ⟨by decide,n4⟩
  ·have hno : ∀ d:DDeed,deedB d=true→deedT d≠s:=fun d hd ht=>by
    rcases qrw hs with ⟨d',hd',ht',hr⟩ | ⟨hno,hr⟩
    ·rw [h2] at hr
     have:=congrArg (fun o=>Option.map (fun r:RdD=>r.1.2.1) o) hr
     exact absurd this (by simp [badD])
    ·exact hno d hd ht
   rw [h1]
   have hb:iEq badD.1.2.1 0=false:=rfl
   simp only [Option.bind_some]
   rw [hb]
   simp only [cond_false]
   unfold qb0
   cases hag:sEq s ([97,103,114,101,101,100]) with
   | true =>
    simp only [cond_true]
    rw [show qei ((f,(y.1,y.2.1,y.2.2.1,y.2.2.2),()):DRun)=_ from qac3 hf hy,show qgx ((f,(y.1,y.2.1,y.2.2.1,y.2.2.2),()):DRun)=_ from qadd hf hy]
    simp only [Option.bind_some]
    cases agreedB y with
    | true=>exact ⟨[121,101,115],y,rfl,by decide,by decide,hy,.inr ⟨h2,hno,by decide,rfl,rfl⟩⟩
    | false=>exact ⟨[110,111],y,rfl,by decide,by decide,hy,.inr ⟨h2,hno,by decide,rfl,rfl⟩⟩
   | false =>
    simp only [cond_false]
    obtain ⟨t,m1,m2,m3,m4,m5⟩:=qajc hf hy hs
    exact ⟨t,y,m4,m1,m2,hy,.inr ⟨h2,hno,m3,rfl,m5⟩⟩
 obtain ⟨t,y',k1,k2,k3,k4,k5⟩:=key
 have e:ansF f y s=(t,y'):=by unfold ansF;rw [k1]
 rw [e]
 exact ⟨k1,k2,k3,k4,k5⟩
end
section
def lastL (L:List (List UInt8)):List UInt8:=L.getD (L.length-1) []
def scriptLines (s:List UInt8):List (List UInt8):=bif sEq (lastL (splitC 10 s)) [] then (splitC 10 s).take ((splitC 10 s).length-1) else splitC 10 s
noncomputable def scriptF (f:DFleet):DYard→List (List UInt8)→List (List UInt8)×DYard
 | y,[]=>([],y)
 | y,s :: r=>((ansF f y s).1 :: (scriptF f (ansF f y s).2 r).1,(scriptF f (ansF f y s).2 r).2)
theorem qo4 (x:List UInt8) (r:List (List UInt8)):linesT (x :: r)=x++[10]++linesT r:=rfl
theorem qwf {s:List UInt8} (hs:s.length≤1048576):qho s=some ((scriptLines s,()),()):=by
 have hne:=qh3 10 s
 have hlen:(splitC 10 s).length≤1048577:=by rw [qp6];have:=List.count_le_length (a:=(10:UInt8)) (l:=s);omega
 unfold qho scriptLines lastL
 rw [qc9 10 (by omega)]
 simp only [Option.bind_some]
 generalize splitC 10 s=L at *
 have hpos:0<L.length:=List.length_pos_iff.2 hne
 have e1:iSub .i64 (lenI L) 1=((L.length-1:Nat):Int):=by rw [qaa,qfi (by omega) (by omega)];omega
 rw [e1,qae (show L.length-1<L.length by omega),Int.toNat_natCast]
 have e5:inS 0 ((L.length-1:Nat):Int) L.length=true:=by simp [inS]
 rw [e5]
 simp only [cond_true,List.drop_zero]
 cases sEq (L.getD (L.length-1) []) [] <;> rfl
theorem qs2 {s:List UInt8} : ∀ w∈scriptLines s,w.length≤s.length:=by
 intro w hw
 have:w∈splitC 10 s:=by
  unfold scriptLines at hw
  cases h:sEq (lastL (splitC 10 s)) [] with
  | true=>rw [h] at hw;exact List.mem_of_mem_take hw
  | false=>rw [h] at hw;exact hw
 exact qtz this
theorem qafr {t s:List UInt8} (h:t.length+s.length≤1000000000):qap ((),bytesOf t,()) s=some ((lenI s,true,()),(((),bytesOf (t++s),()),())):=qwz h
theorem qabg {f:DFleet} (hf:FleetOK f) {Ls:List (List UInt8)} (hl:Ls.length≤200) (hw : ∀ w∈Ls,w.length≤1048576) : ∀ (r:List (List UInt8)) (i:Nat),Ls.drop i=r→i≤Ls.length → ∀ (y:DYard) (t:List UInt8),YardOK f y→t.length≤60*i →
  run (qdu ((Ls,()),())) ((i:Int),((f,y,()):DRun),((),bytesOf t,()),())=(bldStr ((),bytesOf (t++linesT (scriptF f y r).1),())).bind fun z=>some ((z,(0:Int),()),()):=by
 intro r
 induction r with
 | nil =>
  intro i hi hle y t hy ht
  have hi:Ls.length≤i:=List.drop_eq_nil_iff.1 hi
  have hst:qdu ((Ls,()),()) ((i:Int),((f,y,()):DRun),((),bytesOf t,()),())=Option.map Sum.inr ((bldStr ((),bytesOf t,())).bind fun z=>some ((z,(0:Int),()),())):=by
   unfold qdu
   simp only
   rw [qag (by rw [qaa];omega)]
   rfl
  have e:t++linesT (scriptF f y []).1=t:=List.append_nil t
  rw [e]
  cases hb:(bldStr ((),bytesOf t,())).bind fun z=>some ((z,(0:Int),()),()) with
  | none =>
   rw [hb] at hst
   exact qag2 hst
  | some z =>
   rw [hb] at hst
   exact qai hst
 | cons s r ih =>
  intro i hi hle y t hy ht
  have hlt:i<Ls.length:=by
   rcases Nat.lt_or_ge i Ls.length with h | h
   ·exact h
   ·rw [List.drop_eq_nil_of_le h] at hi;cases hi
  have hcons:=List.getElem_cons_drop (h:=hlt)
  rw [hi] at hcons
  obtain ⟨e1,e2⟩:=List.cons.inj hcons
  obtain ⟨h1,h2,-,h3,-⟩:=qk1 hf hy (s:=s) (by rw [← e1];exact hw _ (List.getElem_mem hlt))
  have hstep:qdu ((Ls,()),()) ((i:Int),((f,y,()):DRun),((),bytesOf t,()),())=some (.inl (((i+1:Nat):Int),((f,(ansF f y s).2,()):DRun),((),bytesOf (t++((ansF f y s).1++[10])),()),())):=by
   unfold qdu
   simp only
   rw [qah (by rw [qaa];omega),qae hlt,Int.toNat_natCast,qan hlt,e1]
   simp only [cond_true]
   rw [show qbz ((f,(y.1,y.2.1,y.2.2.1,y.2.2.2),()):DRun) s=_ from h1]
   simp only [Option.bind_some]
   rw [qax (by simp;omega)]
   simp only [cond_true]
   rw [show qap ((),bytesOf t,()) (strCat (ansF f y s).1 [10])=_ from qafr (by unfold strCat;simp;omega)]
   simp only [Option.bind_some]
   rw [qaq hlt (by omega)]
   rfl
  rw [qaj hstep,ih (i+1) e2 (by omega) _ _ h3 (by simp;omega)]
  show _=(bldStr ((),bytesOf (t++linesT ((ansF f y s).1 :: (scriptF f (ansF f y s).2 r).1)),())).bind _
  rw [qo4]
  simp only [List.append_assoc]
abbrev SSt:=List UInt8×Int×DRun×Unit
theorem qtl {f:DFleet} (hf:FleetOK f) {Ls:List (List UInt8)} (hl:Ls.length≤200) (hw : ∀ w∈Ls,w.length≤1048576) {l:SSt→Option (SSt⊕((List UInt8×Int×Unit)×Unit))}
  (hstep : ∀ (i:Nat) (h:i<Ls.length) (t:List UInt8) (y:DYard),YardOK f y→t.length≤60*i→l (t,(i:Int),((f,y,()):DRun),())=some (.inl (t++((ansF f y Ls[i]).1++[10]),((i+1:Nat):Int),((f,(ansF f y Ls[i]).2,()):DRun),())))
  (hend : ∀ (t:List UInt8) (y:DYard),l (t,(Ls.length:Int),((f,y,()):DRun),())=some (.inr ((t,0,()),()))) : ∀ (r:List (List UInt8)) (i:Nat),Ls.drop i=r→i≤Ls.length → ∀ (y:DYard) (t:List UInt8),YardOK f y→t.length≤60*i →
  run l (t,(i:Int),((f,y,()):DRun),())=some ((t++linesT (scriptF f y r).1,(0:Int),()),()):=by
 intro r
 induction r with
 | nil =>
  intro i hi hle y t hy ht
  have hi:Ls.length≤i:=List.drop_eq_nil_iff.1 hi
  have e:t++linesT (scriptF f y []).1=t:=List.append_nil t
  rw [e]
  have:i=Ls.length:=by omega
  subst this
  exact qai (hend t y)
 | cons s r ih =>
  intro i hi hle y t hy ht
  have hlt:i<Ls.length:=by
   rcases Nat.lt_or_ge i Ls.length with h | h
   ·exact h
   ·rw [List.drop_eq_nil_of_le h] at hi;cases hi
  have hcons:=List.getElem_cons_drop (h:=hlt)
  rw [hi] at hcons
  obtain ⟨e1,e2⟩:=List.cons.inj hcons
  obtain ⟨-,h2,-,h3,-⟩:=qk1 hf hy (s:=s) (by rw [← e1];exact hw _ (List.getElem_mem hlt))
  have hs:=hstep i hlt t y hy ht
  rw [e1] at hs
  rw [qaj hs,ih (i+1) e2 (by omega) _ _ h3 (by simp;omega)]
  show _=some ((t++linesT ((ansF f y s).1 :: (scriptF f (ansF f y s).2 r).1),(0:Int),()),())
  rw [qo4]
  simp only [List.append_assoc]
theorem qajm {f:DFleet} (hf:FleetOK f) {L:List (List UInt8)} {m:Nat} (hm:m≤L.length) (hl:m≤200) (hw : ∀ w∈L,w.length≤1048576) (i:Nat) (h:i<m) (t:List UInt8) (y:DYard) (hy:YardOK f y) (ht:t.length≤60*i) :
  qen (m:Int) ((L,()),()) (t,(i:Int),((f,y,()):DRun),())=some (.inl (t++((ansF f y (L[i]'(by omega))).1++[10]),((i+1:Nat):Int),((f,(ansF f y (L[i]'(by omega))).2,()):DRun),())):=by
 have hlt:i<L.length:=by omega
 obtain ⟨h1,h2,-,h3,h4⟩:=qk1 hf hy (s:=L[i]) (hw _ (List.getElem_mem hlt))
 unfold qen
 simp only
 rw [Int.toNat_natCast,qah (by omega:((i:Nat):Int)<(m:Int)),qae h,Int.toNat_natCast,Nat.zero_add,qan hlt,qaq h (by omega)]
 simp only [cond_true]
 rcases h4 with ⟨d,hd,hdt,hr,hy2,hh⟩ | ⟨hr,-,-,hy2,hans⟩
 ·obtain ⟨-,q2,-⟩:=qai5 hf hy hd
  rw [hr]
  simp only [Option.bind_some,qbt,Bool.not_true,cond_false]
  rw [show qbv ((f,(y.1,y.2.1,y.2.2.1,y.2.2.2),()):DRun) d=_ from q2]
  simp only [Option.bind_some]
  rcases hh with ⟨hc,ha⟩ | ⟨hc,nm,hn,hnl,ha⟩
  ·rw [qf7 hc,qax (show ([111,107]:List UInt8).length+([10]:List UInt8).length≤_ by decide),qax (show t.length+(strCat ([111,107]:List UInt8) [10]).length≤_ by simp [strCat];omega),ha,hy2]
   rfl
  ·rw [qat hc,hn]
   simp only [Option.bind_some]
   rw [qax (show wError.length+nm.length≤_ by simp;omega),qax (show (strCat wError nm).length+([10]:List UInt8).length≤_ by simp [strCat];omega),
    qax (show t.length+(strCat (strCat wError nm) [10]).length≤_ by simp [strCat];omega),ha,hy2]
   rfl
 ·rw [hr]
  have hb:iEq badD.1.2.1 0=false:=rfl
  simp only [Option.bind_some]
  rw [hb]
  simp only [Bool.not_false,cond_true]
  rw [show qb0 ((f,(y.1,y.2.1,y.2.2.1,y.2.2.2),()):DRun) L[i]=_ from hans]
  simp only [Option.bind_some]
  rw [qax (by simp;omega)]
  simp only [cond_true]
  rw [qax (by simp [strCat];omega),hy2]
  rfl
theorem qag4 {f:DFleet} (hf:FleetOK f) {L:List (List UInt8)} (hl:L.length≤200) (hw : ∀ w∈L,w.length≤1048576) (i:Nat) (hlt:i<L.length) (t:List UInt8) (y:DYard) (hy:YardOK f y) (ht:t.length≤60*i) :
  qdq ((L,()),()) (t,(i:Int),((f,y,()):DRun),())=some (.inl (t++((ansF f y L[i]).1++[10]),((i+1:Nat):Int),((f,(ansF f y L[i]).2,()):DRun),())):=by
 obtain ⟨h1,h2,-,h3,h4⟩:=qk1 hf hy (s:=L[i]) (hw _ (List.getElem_mem hlt))
 unfold qdq
 simp only
 rw [qah (show ((i:Nat):Int)<lenI L by rw [qaa];omega),qae hlt,Int.toNat_natCast,qan hlt,qaq hlt (by omega)]
 simp only [cond_true]
 rcases h4 with ⟨d,hd,hdt,hr,hy2,hh⟩ | ⟨hr,-,-,hy2,hans⟩
 ·obtain ⟨-,q2,-⟩:=qai5 hf hy hd
  rw [hr]
  simp only [Option.bind_some,qbt,Bool.not_true,cond_false]
  rw [show qbv ((f,(y.1,y.2.1,y.2.2.1,y.2.2.2),()):DRun) d=_ from q2]
  simp only [Option.bind_some]
  rcases hh with ⟨hc,ha⟩ | ⟨hc,nm,hn,hnl,ha⟩
  ·rw [qf7 hc,qax (show ([111,107]:List UInt8).length+([10]:List UInt8).length≤_ by decide),qax (show t.length+(strCat ([111,107]:List UInt8) [10]).length≤_ by simp [strCat];omega),ha,hy2]
   rfl
  ·rw [qat hc,hn]
   simp only [Option.bind_some]
   rw [qax (show wError.length+nm.length≤_ by simp;omega),qax (show (strCat wError nm).length+([10]:List UInt8).length≤_ by simp [strCat];omega),
    qax (show t.length+(strCat (strCat wError nm) [10]).length≤_ by simp [strCat];omega),ha,hy2]
   rfl
 ·rw [hr]
  have hb:iEq badD.1.2.1 0=false:=rfl
  simp only [Option.bind_some]
  rw [hb]
  simp only [Bool.not_false,cond_true]
  rw [show qb0 ((f,(y.1,y.2.1,y.2.2.1,y.2.2.2),()):DRun) L[i]=_ from hans]
  simp only [Option.bind_some]
  rw [qax (by simp;omega)]
  simp only [cond_true]
  rw [qax (by simp [strCat];omega),hy2]
  rfl
def scriptC (f:DFleet) (s:List UInt8):Int:=bif fleetB f then (bif iLt 10000 (lenI s) then 2 else bif iLt 120 (lenI (scriptLines s)) then 2 else 0) else 1
noncomputable def scriptT (f:DFleet) (s:List UInt8):List UInt8:=linesT (scriptF f (yard0 f) (scriptLines s)).1
theorem qm8 {f:DFleet} {s:List UInt8} (h:scriptC f s=0):fleetB f=true∧s.length≤10000∧(scriptLines s).length≤120:=by
 unfold scriptC at h
 cases h1:fleetB f with
 | false=>rw [h1] at h;exact absurd (show (1:Int)=0 from h) (by decide)
 | true =>
  cases h2:iLt 10000 (lenI s) with
  | true=>rw [h1,h2] at h;exact absurd (show (2:Int)=0 from h) (by decide)
  | false =>
   cases h3:iLt 120 (lenI (scriptLines s)) with
   | true=>rw [h1,h2,h3] at h;exact absurd (show (2:Int)=0 from h) (by decide)
   | false =>
    have a2:=of_decide_eq_false h2
    have a3:=of_decide_eq_false h3
    rw [qaa] at a2 a3
    exact ⟨rfl,by omega,by omega⟩
theorem qyz {f:DFleet} (hf:Fit TyFleet f) {s:List UInt8} (hs:s.length≤1048576):qht f s=some (bif iEq (scriptC f s) 0 then (scriptT f s,0,()) else ([],scriptC f s,()),()):=by
 have sf:Sized TyFleet f:=qel rfl hf
 have hne:=qh3 10 s
 have hwl : ∀ w∈splitC 10 s,w.length≤1048576:=fun w hw=>Nat.le_trans (qtz hw) hs
 have hlen:(splitC 10 s).length≤1048577:=by rw [qp6];have:=List.count_le_length (a:=(10:UInt8)) (l:=s);omega
 cases hc:iEq (scriptC f s) 0 with
 | true =>
  obtain ⟨h1,h2,h3⟩:=qm8 (qg3.1 hc)
  have F:=qvb hf h1
  have hfew:=F.few
  unfold qht scriptT
  rw [qwc f sf,h1,show (10:Int)=byteI 10 from rfl,qd9 10 hs]
  simp only [Option.bind_some,Bool.not_true,cond_false,cond_true]
  rw [qalt (by omega),qag (show ¬ (10000:Int)<lenI s by rw [qaa];omega)]
  unfold scriptLines lastL at *
  generalize splitC 10 s=L at *
  have hpos:0<L.length:=List.length_pos_iff.2 hne
  have e1:iSub .i64 (lenI L) 1=((L.length-1:Nat):Int):=by rw [qaa,qfi (by omega) (by omega)];omega
  have e5:inS 0 ((L.length-1:Nat):Int) L.length=true:=by simp [inS]
  rw [e1,qae (show L.length-1<L.length by omega),Int.toNat_natCast,e5]
  cases he:sEq (L.getD (L.length-1) []) [] with
  | true =>
   rw [he] at h3
   have h3:(L.take (L.length-1)).length≤120:=h3
   have h3':L.length-1≤120:=by rw [List.length_take] at h3;omega
   simp only [Option.bind_some,cond_true,cond_false]
   rw [qag (by omega:¬ (120:Int)<((L.length-1:Nat):Int))]
   simp only [cond_false]
   have htl:(L.take (L.length-1)).length=L.length-1:=by rw [List.length_take];omega
   have:=qtl F (Ls:=L.take (L.length-1)) (by omega) (fun w hw=>hwl w (List.mem_of_mem_take hw)) (l:=qen ((L.length-1:Nat):Int) ((L,()),())) (fun i h t y hy ht=>by
    rw [htl] at h
    rw [qajm F (m:=L.length-1) (by omega) (by omega) hwl i h t y hy ht]
    rw [List.getElem_take]) (fun t y=>by
    rw [htl]
    unfold qen
    simp only
    rw [Int.toNat_natCast,qag (by omega:¬ ((L.length-1:Nat):Int)<((L.length-1:Nat):Int))]
    rfl) _ 0 rfl (by omega) (yard0 f) [] (qvz f) (by simp)
   exact this
  | false =>
   rw [he] at h3
   have h3:L.length≤120:=h3
   simp only [Option.bind_some,cond_true,cond_false]
   rw [qag (show ¬ (120:Int)<lenI L by rw [qaa];omega)]
   simp only [cond_false]
   exact qtl F (Ls:=L) (by omega) hwl (l:=qdq ((L,()),())) (fun i h t y hy ht=>qag4 F (by omega) hwl i h t y hy ht) (fun t y=>by
    unfold qdq
    simp only
    rw [qag (show ¬ (L.length:Int)<lenI L by rw [qaa];omega)]
    rfl) _ 0 rfl (by omega) (yard0 f) [] (qvz f) (by simp)
 | false =>
  unfold qht
  unfold scriptC at *
  rw [qwc f sf,show (10:Int)=byteI 10 from rfl,qd9 10 hs]
  simp only [Option.bind_some]
  cases h1:fleetB f with
  | false=>rfl
  | true =>
   rw [h1] at hc
   simp only [Bool.not_true,cond_false,cond_true] at hc ⊢
   unfold scriptLines lastL at *
   generalize splitC 10 s=L at *
   have hpos:0<L.length:=List.length_pos_iff.2 hne
   have e1:iSub .i64 (lenI L) 1=((L.length-1:Nat):Int):=by rw [qaa,qfi (by omega) (by omega)];omega
   have e5:inS 0 ((L.length-1:Nat):Int) L.length=true:=by simp [inS]
   rw [e1,qae (show L.length-1<L.length by omega),Int.toNat_natCast,e5]
   have htl:(L.take (L.length-1)).length=L.length-1:=by rw [List.length_take];omega
   cases h2:iLt 10000 (lenI s) with
   | true=>cases sEq (L.getD (L.length-1) []) [] <;> rfl
   | false =>
    rw [h2] at hc
    simp only [cond_false] at hc ⊢
    cases he:sEq (L.getD (L.length-1) []) [] with
    | true =>
     rw [he] at hc
     simp only [cond_true] at hc ⊢
     have hlt:lenI (L.take (L.length-1))=((L.length-1:Nat):Int):=by rw [qaa,htl]
     rw [hlt] at hc ⊢
     cases h3:iLt 120 ((L.length-1:Nat):Int) with
     | true=>rfl
     | false=>rw [h3] at hc;exact absurd hc (by decide)
    | false =>
     rw [he] at hc
     simp only [cond_false,cond_true] at hc ⊢
     cases h3:iLt 120 (lenI L) with
     | true=>rfl
     | false=>rw [h3] at hc;exact absurd hc (by decide)
theorem qyi {f:DFleet} (hf:Fit TyFleet f) {s:List UInt8} (hs:s.length≤1048576):qke f s=(bif iEq (scriptC f s) 0 then ((bldStr ((),bytesOf (scriptT f s),())).bind fun z=>some ((z,(0:Int),()),())) else some (([],scriptC f s,()),())):=by
 have sf:Sized TyFleet f:=qel rfl hf
 unfold qke
 rw [qwf hs,qpi f sf]
 simp only [Option.bind_some]
 cases hc:iEq (scriptC f s) 0 with
 | true =>
  obtain ⟨h1,h2,h3⟩:=qm8 (qg3.1 hc)
  have F:=qvb hf h1
  have hfew:=F.few
  rw [h1,qag (show ¬ (10000:Int)<lenI s by rw [qaa];omega),qag (show ¬ (120:Int)<lenI (scriptLines s) by rw [qaa];omega),qxq (by omega)]
  simp only [Option.bind_some,Bool.not_true,cond_false,cond_true]
  exact qabg F (Ls:=scriptLines s) (by omega) (fun w hw=>by have:=qs2 w hw;omega) _ 0 rfl (by omega) (yard0 f) [] (qvz f) (by simp)
 | false =>
  unfold scriptC at *
  cases h1:fleetB f with
  | false=>rfl
  | true =>
   rw [h1] at hc
   simp only [Bool.not_true,cond_false,cond_true] at hc ⊢
   cases h2:iLt 10000 (lenI s) with
   | true=>rfl
   | false =>
    rw [h2] at hc
    simp only [cond_false] at hc ⊢
    cases h3:iLt 120 (lenI (scriptLines s)) with
    | true=>rfl
    | false=>rw [h3] at hc;exact absurd hc (by decide)
end
section
theorem qab6 (f:DFleet) : ∀ (Ls:List (List UInt8)) (y:DYard),(scriptF f y Ls).1.length=Ls.length
 | [],_=>rfl
 | s :: r,y=>by
  show ((ansF f y s).1 :: (scriptF f (ansF f y s).2 r).1).length=_
  rw [List.length_cons,qab6 f r,List.length_cons]
end
section
theorem qanb {f:DFleet} (hf:Fit TyFleet f) {s:List UInt8} (hs:s.length≤1048576) (hc:scriptC f s=0) (hT:scriptT f s=[]):qia f s=some (([],0,()),()):=by
 have sf:Sized TyFleet f:=qel rfl hf
 obtain ⟨h1,h2,h3⟩:=qm8 hc
 have F:=qvb hf h1
 have hfew:=F.few
 have hL:scriptLines s=[]:=by
  unfold scriptT at hT
  cases hL:scriptLines s with
  | nil=>rfl
  | cons x r =>
   rw [hL] at hT
   have:linesT ((ansF f (yard0 f) x).1 :: (scriptF f (ansF f (yard0 f) x).2 r).1)=[]:=hT
   rw [qo4] at this
   simp at this
 unfold qia
 rw [qwf hs,qpi f sf,h1,hL]
 simp only [Option.bind_some,Bool.not_true,cond_false]
 rw [qag (show ¬ (10000:Int)<lenI s by rw [qaa];omega),qxq (by omega)]
 rfl
theorem qwi {f:DFleet} (hf:Fit TyFleet f) {s:List UInt8} (hs:s.length≤1048576):qh9 f s=some (bif iEq (scriptC f s) 0 then (scriptT f s,0,()) else ([],scriptC f s,()),()):=by
 unfold qh9
 rw [qyi hf hs]
 cases hc:iEq (scriptC f s) 0 with
 | false=>rfl
 | true =>
  have hc0:=qg3.1 hc
  obtain ⟨h1,h2,h3⟩:=qm8 hc0
  have F:=qvb hf h1
  simp only [cond_true]
  by_cases hT:scriptT f s=[]
  ·rw [hT,qanb hf hs hc0 hT]
   rfl
  ·have hTl:(scriptT f s).length≤1000000000:=by
    unfold scriptT
    have e1:=qab6 f (scriptLines s) (yard0 f)
    have hall : ∀ (Ls:List (List UInt8)) (y:DYard),YardOK f y→(∀ x∈Ls,x.length≤1048576)→(linesT (scriptF f y Ls).1).length≤51*Ls.length:=by
     intro Ls
     induction Ls with
     | nil=>intro y _ _;exact Nat.le_refl _
     | cons x r ih =>
      intro y hy hx
      obtain ⟨-,g2,-,g3,-⟩:=qk1 F hy (s:=x) (hx x (by simp))
      have:=ih (ansF f y x).2 g3 (fun z hz=>hx z (by simp [hz]))
      show (linesT ((ansF f y x).1 :: (scriptF f (ansF f y x).2 r).1)).length≤51*(r.length+1)
      rw [qo4,List.length_append,List.length_append,show ([10]:List UInt8).length=1 from rfl]
      omega
    have:=hall (scriptLines s) (yard0 f) (qvz f) (fun x hx=>by have:=qs2 x hx;omega)
    omega
   rw [qah4 hT hTl]
   rfl
theorem qpl (f:DFleet) (hf:Fit TyFleet f) (s:List UInt8) (hs:Fit .str s) : ∃ o,qhp f s=some ((true,()),o):=by
 unfold qhp
 by_cases hl:1048576<s.length
 ·rw [qah (show (1048576:Int)<lenI s by rw [qaa];omega)]
  exact ⟨_,rfl⟩
 rw [qag (show ¬ (1048576:Int)<lenI s by rw [qaa];omega)]
 have sf:Sized TyFleet f:=qel rfl hf
 obtain ⟨r,hr⟩:=qabo f 1048576 sf
 have k1:=qabq f hf
 have k3:=qabk f sf
 have k5:=qwi hf (s:=s) (by omega)
 have k6:=qyz hf (s:=s) (by omega)
 obtain ⟨a1,a2,a3,⟨⟩⟩:=f
 simp only [cond_false]
 rw [hr]
 simp only [Option.bind_some]
 cases iLt r 0 with
 | true=>exact ⟨_,rfl⟩
 | false =>
  simp only [cond_false]
  rw [k1]
  simp only [Option.bind_some]
  rw [k6,k5]
  simp only [Option.bind_some,qct,qbt,Bool.not_true,cond_false]
  rw [k3]
  exact ⟨_,rfl⟩
end
end Go.Proofs.YtjhdoneobdbeaaaGreatDoor
