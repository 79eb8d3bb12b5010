import Derived.Test.YtjhdoneobdbeaaaGreatDoorP5
/- Functions of the program and of the reference in plain terms. -/
set_option linter.unusedSectionVars false
set_option linter.unusedSimpArgs false
set_option linter.unusedVariables false
namespace Go.Proofs.YtjhdoneobdbeaaaGreatDoor
open Go Go.Tm
section
theorem qaep {v:Vec 3 Nat} {a b c:Nat} (ha:cF a) (hb:cF b) (hc:cF c):FitVec (fltFit .f32) 3 (Vec.set 3 (Vec.set 3 (Vec.set 3 v 0 a) 1 b) 2 c):=⟨ha,hb,hc,trivial⟩
theorem qad9 {side:Nat} (hs:sideB side=true) {m:DMap} (hm:MapOK side m) {v:Vec 3 Nat} (hv:FitVec (fltFit .f32) 3 v) {w:Nat} (hwc:fltFit .f32 w) (t:Int) (g:Nat) :
  ∃ (m':DMap) (c:Vec 3 Int) (o:Bool) (code:Int),qhj m v w t g=some (((m',c,o,code,()):DSeen),(m,())) ∧
  ∃ (m2:DMap) (c2:Vec 3 Int) (o2:Bool),qf6 m v w t g=some (((m2,c2,o2,code,()):DSeen),())∧(code=0→m2=m'∧MapOK side m'):=by
 obtain ⟨hsd,hl,hM,hk⟩:=hm
 subst hsd
 obtain ⟨b,code,hn,hb,h6,hn2⟩:=qad6 (m:=m) (by omega) v g
 have hsw:sideB w=(finB w&&fLt .f32 0 w):=rfl
 have i66:iEq (6:Int) 6=true:=by decide
 have i60:iEq (6:Int) 0=false:=by decide
 have i00:iEq (0:Int) 0=true:=by decide
 have early : ∀ {q:Int},q≠0→(q=0 → ∀ {P:Prop},P):=fun h h0=>absurd h0 h
 by_cases hc:code=0
 ·subst hc
  have r0:room (0+m.2.1.length) 48=true:=qav (by omega)
  rcases hb with rfl | ⟨b0,b1⟩
  ·have hn2:qcg m v g=some ((0,6,()),()):=hn2
   have e0:iLe 0 (-1:Int)=false:=by decide
   unfold qhj qf6
   simp only [qb8,qfh,hn,qco,qf5,hn2,qv7 (m:=m) (by omega),Option.bind_some,i66,i60,i00,hsw]
   cases hw:finB w with
   | false=>exact ⟨_,_,_,_,rfl,_,_,_,rfl,fun h=>absurd h (by decide)⟩
   | true =>
    cases hw0:fLt .f32 0 w with
    | false=>exact ⟨_,_,_,_,rfl,_,_,_,rfl,fun h=>absurd h (by decide)⟩
    | true =>
     cases ht:timeB t with
     | false=>exact ⟨_,_,_,_,rfl,_,_,_,rfl,fun h=>absurd h (by decide)⟩
     | true =>
      have hsw':sideB w=true:=by rw [hsw,hw,hw0];rfl
      rw [r0,e0]
      simp only [Bool.not_true,Bool.not_false,Bool.and_self,cond_false,cond_true,List.nil_append]
      exact qv3 hs hM hl hk hv hsw' hwc (by omega) (by omega) ht _ _ m ()
  ·obtain ⟨k,rfl⟩:=Int.eq_ofNat_of_zero_le b0
   have hn2:qcg m v g=some (((k:Int),0,()),()):=by
    rw [hn2,i00,qah (by omega:¬ (k:Int)<0)]
    rfl
   have hkl:k<m.2.1.length:=by omega
   have e0:iLe 0 (k:Int)=true:=qaz (by omega)
   have e1:inB (k:Int) m.2.1.length=true:=qaf hkl
   have e2:inS 0 (k:Int) m.2.1.length=true:=by unfold inS;simp;omega
   have e5:iAdd .i64 (k:Int) 1=((k+1:Nat):Int):=(qc1 (by omega) (by omega)).trans (by omega)
   have e6:inS ((k+1:Nat):Int) (lenI m.2.1) m.2.1.length=true:=by unfold inS;rw [qaa];simp;omega
   have t1:takeL m.2.1 (k:Int)=m.2.1.take k:=by unfold takeL;rw [Int.toNat_natCast]
   have t2:dropL m.2.1 ((k+1:Nat):Int)=m.2.1.drop (k+1):=by unfold dropL;rw [Int.toNat_natCast]
   have l1:(m.2.1.take k).length=k:=by rw [List.length_take];omega
   have l2:(m.2.1.drop (k+1)).length=m.2.1.length-(k+1):=List.length_drop
   have r1:room (0+(m.2.1.take k).length) 48=true:=qav (by omega)
   have r2:room ((m.2.1.take k).length+(m.2.1.drop (k+1)).length) 48=true:=qav (by omega)
   have hsub:(m.2.1.take k++m.2.1.drop (k+1)).Sublist m.2.1:=by
    have h1:(m.2.1.take k++m.2.1.drop (k+1)).Sublist (m.2.1.take k++m.2.1.drop k):=List.Sublist.append (List.Sublist.refl _) (by
     rw [← List.getElem_cons_drop (h:=hkl)]
     exact List.sublist_cons_self _ _)
    rwa [List.take_append_drop] at h1
   have hM':Marks (m.2.1.take k++m.2.1.drop (k+1)):=⟨fun x hx=>hM.1 x (hsub.mem hx),hM.2.sublist hsub⟩
   have hl':(m.2.1.take k++m.2.1.drop (k+1)).length≤200:=Nat.le_trans hsub.length_le hl
   have hk' : ∀ y∈m.2.1.take k++m.2.1.drop (k+1),MarkOK y:=fun y hy=>hk y (hsub.mem hy)
   have hold:=hk _ (List.getElem_mem hkl)
   have hdel:qe0 m.2.1 (k:Int) ((k+1:Nat):Int)=some ((m.2.1.take k++m.2.1.drop (k+1),()),()):=qyg TyMark m.2.1 k hkl
   have hgd:List.getD m.2.1 (Int.toNat (k:Int)) (((0,0,0,()),(0,0,0,()),0,0,0,()):DMark)=m.2.1[k]:=by
    rw [Int.toNat_natCast];exact qal hkl
   unfold qhj qf6
   simp only [qb8,qfh,hn,qco,qf5,hn2,qv7 (m:=m) (by omega),Option.bind_some,i00,hsw]
   cases hw:finB w with
   | false=>exact ⟨_,_,_,_,rfl,_,_,_,rfl,fun h=>absurd h (by decide)⟩
   | true =>
    cases hw0:fLt .f32 0 w with
    | false=>exact ⟨_,_,_,_,rfl,_,_,_,rfl,fun h=>absurd h (by decide)⟩
    | true =>
     cases ht:timeB t with
     | false=>exact ⟨_,_,_,_,rfl,_,_,_,rfl,fun h=>absurd h (by decide)⟩
     | true =>
      rw [r0,e0,e1,e2,t1,r1,e5,e6,t2]
      simp only [Bool.not_true,Bool.not_false,Bool.and_self,cond_false,cond_true,List.nil_append]
      rw [r2,hdel,hgd]
      simp only [cond_true,Option.bind_some]
      generalize m.2.1[k]=x at hold
      obtain ⟨x1,x2,⟨x3,x4⟩,x5⟩:=qnf hold.ok
      have hseen:iAdd .i64 x.2.2.2.1 1=x.2.2.2.1+1:=qc1 (by omega) (by omega)
      have hmn:1≤min (x.2.2.2.1+1) 1000000∧min (x.2.2.2.1+1) 1000000≤1000000:=by omega
      have hmx:timeB (max x.2.2.2.2.1 t)=true:=by
       unfold timeB at ht x5 ⊢
       simp only [Bool.and_eq_true,qmq] at ht x5 ⊢
       omega
      have hfin:qce [fAdd .f32 x.2.2.1 w]=some ((finB (fAdd .f32 x.2.2.1 w),()),()):=by
       rw [qgu _ (by simp)]
       simp
      simp only [qaa5,qahr,Option.bind_some,hseen,hfin,qalc,qalb]
      cases hf:finB (fAdd .f32 x.2.2.1 w) with
      | false=>exact qv3 hs hM' hl' hk' (qaep (qv5 _ _) (qv5 _ _) (qv5 _ _)) x2 hold.wt hmn.1 hmn.2 hmx _ _ m ()
      | true =>
       have hx2:=x2
       unfold sideB at hx2
       rw [Bool.and_eq_true] at hx2
       have hsum:sideB (fAdd .f32 x.2.2.1 w)=true:=by
        unfold sideB
        rw [hf,qac7 hx2.1 hx2.2 hw hw0 hf]
        rfl
       exact qv3 hs hM' hl' hk' (qaep (qv5 _ _) (qv5 _ _) (qv5 _ _)) hsum (qamk _ _) hmn.1 hmn.2 hmx _ _ m ()
 ·have ic:iEq code 0=false:=qa4 hc
  have ic6:iEq code 6=false:=qa4 h6
  rw [ic] at hn2
  have hn2:qcg m v g=some ((0,code,()),()):=hn2
  unfold qhj qf6
  simp only [qb8,qfh,hn,qco,qf5,hn2,Option.bind_some,ic,ic6,hsw]
  cases hw:finB w with
  | false=>exact ⟨_,_,_,_,rfl,_,_,_,rfl,fun h=>absurd h (by decide)⟩
  | true =>
   cases hw0:fLt .f32 0 w with
   | false=>exact ⟨_,_,_,_,rfl,_,_,_,rfl,fun h=>absurd h (by decide)⟩
   | true =>
    cases ht:timeB t with
    | false=>exact ⟨_,_,_,_,rfl,_,_,_,rfl,fun h=>absurd h (by decide)⟩
    | true=>exact ⟨_,_,_,_,rfl,_,_,_,rfl,fun h=>absurd h hc⟩
theorem qahx {side:Nat} (hs:sideB side=true) {m:DMap} (hm:MapOK side m) {v:Vec 3 Nat} (hv:FitVec (fltFit .f32) 3 v) {w:Nat} (hwc:fltFit .f32 w) (t:Int) (g:Nat) :
  ∃ (m':DMap) (c:Vec 3 Int) (code:Int),qg3 m v w t g=some ((m',c,code,()),()) ∧
  ∃ (m2:DMap) (c2:Vec 3 Int),qgp m v w t g=some ((m2,c2,code,()),())∧(code=0→m2=m'∧MapOK side m'):=by
 obtain ⟨m',c,o,code,h1,m2,c2,o2,h2,h3⟩:=qad9 hs hm hv hwc t g
 have hv1:=qgt m hm.sized
 have hv2:=qhf m hm.sized
 rw [hm.valid hs] at hv1 hv2
 unfold qg3 qgp
 rw [hv1,hv2,Option.bind_some,Option.bind_some]
 simp only [Bool.not_true,cond_false]
 rw [h1,h2]
 simp only [Option.bind_some]
 by_cases hc:code=0
 ·subst hc
  exact ⟨_,_,_,rfl,_,_,rfl,fun _=>h3 rfl⟩
 ·rw [qa4 hc]
  exact ⟨_,_,_,rfl,_,_,rfl,fun h=>absurd h hc⟩
theorem qaj5 (l:List DMark) (x:DMark):l.length≤(putL l x).length:=by
 rw [qaaz]
 cases foundB l x.1 <;> simp
theorem qab0 : ∀ (xs:List DMark) (l:List DMark),l.length≤(xs.foldl putL l).length
 | [],_=>Nat.le_refl _
 | x :: xs,l=>Nat.le_trans (qaj5 l x) (qab0 xs (putL l x))
theorem qagr {side:Nat} (hs:sideB side=true) {m n:DMap} (hm:MapOK side m) (hn:MapOK side n) :
  ∃ (r:DMap) (code:Int),qga m n=some ((r,code,()),()) ∧ ∃ r2:DMap,qfz m n=some ((r2,code,()),())∧(code=0→r2=r∧MapOK side r∧r.2.1=n.2.1.foldl putL m.2.1)∧(code≠0→200<(n.2.1.foldl putL m.2.1).length):=by
 have k1:=qgt m hm.sized
 have k2:=qhf m hm.sized
 have k3:=qgt n hn.sized
 have k4:=qhf n hn.sized
 rw [hm.valid hs] at k1 k2
 rw [hn.valid hs] at k3 k4
 have hfs:isNan .f32 side=false:=qaao (by unfold sideB at hs;simp only [Bool.and_eq_true] at hs;exact hs.1)
 have e1:qiu m n=some ((0,()),()):=by
  unfold qiu
  rw [k1,k3]
  simp only [Option.bind_some,Bool.not_true,cond_false,qnr]
  rw [hm.side,hn.side,qzv]
  rfl
 have e2:qni m n=some ((0,()),()):=by
  unfold qni
  rw [k2,k4]
  simp only [Option.bind_some,Bool.not_true,cond_false]
  rw [hm.side,hn.side,qh5,hfs]
  rfl
 have hl:=hm.len
 have hnl:=hn.len
 have r0:room (0+m.2.1.length) 48=true:=qav (by omega)
 have hspec : ∀ (d i:Nat),i+d=n.2.1.length → ∀ l:List DMark,l.length≤200+i→run (qc3 n m) (l,(i:Int),()) =
   (qbx m.1 ((n.2.1.drop i).foldl putL l)).bind fun y=>some ((y.1.1,y.1.2.1,()),()):=by
  intro d
  induction d with
  | zero =>
   intro i hi l _
   have hi:i=n.2.1.length:=by omega
   subst hi
   obtain ⟨q,hq⟩ : ∃ q,(qbx m.1 l).bind (fun y=>some ((y.1.1,y.1.2.1,()),()))=some q:=by
    unfold qbx
    cases iLt 200 (lenI l) <;> exact ⟨_,rfl⟩
   rw [List.drop_length,List.foldl_nil,hq]
   refine qak ?_
   unfold qc3
   simp only
   rw [qah (by rw [qaa];omega),cond_false,hq]
   rfl
  | succ d ih =>
   intro i hi l hll
   have hlt:i<n.2.1.length:=by omega
   have hstep:qc3 n m (l,(i:Int),())=some (.inl (putL l n.2.1[i],((i+1:Nat):Int),())):=by
    unfold qc3
    simp only
    rw [qag (by rw [qaa];omega),qaf hlt,Int.toNat_natCast,qal hlt,qx8 (by omega),qap hlt (by omega)]
    rfl
   rw [qan hstep,ih (i+1) (by omega) _ (by
    have:(putL l n.2.1[i]).length≤l.length+1:=by rw [qaaz];cases foundB l (n.2.1[i]).1 <;> simp
    omega),← List.getElem_cons_drop (h:=hlt),List.foldl_cons]
 have himpl : ∀ (d i:Nat),i+d=n.2.1.length → ∀ l:List DMark,l.length≤200→Marks l→(∀ y∈l,MarkOK y) →
   (((n.2.1.drop i).foldl putL l).length≤200→run (qb6 n) ((i:Int),((m.1,l,()):DMap),())=some ((((m.1,(n.2.1.drop i).foldl putL l,()):DMap),0,()),())∧Marks ((n.2.1.drop i).foldl putL l) ∧ ∀ y∈(n.2.1.drop i).foldl putL l,MarkOK y) ∧
   (200<((n.2.1.drop i).foldl putL l).length→run (qb6 n) ((i:Int),((m.1,l,()):DMap),())=some ((((0,[],()):DMap),3,()),())):=by
  intro d
  induction d with
  | zero =>
   intro i hi l hl hM hk
   have hi:i=n.2.1.length:=by omega
   subst hi
   rw [List.drop_length,List.foldl_nil]
   refine ⟨fun _=>⟨qak ?_,hM,hk⟩,fun h=>by omega⟩
   unfold qb6
   simp only
   rw [qah (by rw [qaa];omega)]
   rfl
  | succ d ih =>
   intro i hi l hl hM hk
   have hlt:i<n.2.1.length:=by omega
   have hx:MarkOK n.2.1[i]:=hn.all _ (List.getElem_mem hlt)
   have hput:=qadu (m:=((m.1,l,()):DMap)) hl hM hk hx
   rw [← List.getElem_cons_drop (h:=hlt),List.foldl_cons]
   cases hf:fullB l n.2.1[i] with
   | true =>
    have h200:200<(putL l n.2.1[i]).length:=by
     have:=qtc hl (x:=n.2.1[i])
     rw [hf,qaa] at this
     have:=of_decide_eq_true this
     omega
    have h3:=qab0 (n.2.1.drop (i+1)) (putL l n.2.1[i])
    refine ⟨fun h=>by omega,fun _=>qak ?_⟩
    rw [hf] at hput
    unfold qb6
    simp only
    rw [qag (by rw [qaa];omega),qaf hlt,Int.toNat_natCast,qal hlt]
    rw [show qay ((m.1,l,()):DMap) n.2.1[i]=_ from hput]
    rfl
   | false =>
    have h200:(putL l n.2.1[i]).length≤200:=by
     have:=qtc hl (x:=n.2.1[i])
     rw [hf,qaa] at this
     have:=of_decide_eq_false this
     omega
    have hstep:qb6 n ((i:Int),((m.1,l,()):DMap),())=some (.inl (((i+1:Nat):Int),((m.1,putL l n.2.1[i],()):DMap),())):=by
     rw [hf] at hput
     unfold qb6
     simp only
     rw [qag (by rw [qaa];omega),qaf hlt,Int.toNat_natCast,qal hlt]
     rw [show qay ((m.1,l,()):DMap) n.2.1[i]=_ from hput,qap hlt (by omega)]
     rfl
    rw [qan hstep]
    exact ih (i+1) (by omega) _ h200 (qacd (by omega) hM hx.ok).1 (fun y hy=>(qafz hy).elim (hk y) (fun h=>h▸hx))
 have q1:=hspec n.2.1.length 0 (by omega) m.2.1 (by omega)
 have q2:=himpl n.2.1.length 0 (by omega) m.2.1 hl hm.marks hm.all
 rw [List.drop_zero] at q1 q2
 unfold qga qfz
 rw [e1,e2,qv7 (m:=m) (by omega)]
 simp only [Option.bind_some]
 rw [r0]
 have i00:iEq (0:Int) 0=true:=by decide
 rw [i00]
 simp only [Bool.not_true,cond_false,cond_true,List.nil_append]
 rw [show run (qc3 n m) (m.2.1,(0:Int),())=_ from q1]
 unfold qbx
 by_cases h:200<(n.2.1.foldl putL m.2.1).length
 ·rw [qag (by rw [qaa];omega)]
  exact ⟨_,_,rfl,_,q2.2 h,fun h0=>absurd h0 (by decide),fun _=>h⟩
 ·rw [qah (by rw [qaa];omega)]
  obtain ⟨a1,a2,a3⟩:=q2.1 (by omega)
  exact ⟨_,_,rfl,_,a1,fun _=>⟨rfl,⟨hm.side,by show (n.2.1.foldl putL m.2.1).length≤200;omega,a2,a3⟩,rfl⟩,fun h0=>absurd rfl h0⟩
end
section
def wMap:List UInt8:=[109,97,112]
def markW (x:DMark):List (List UInt8):=[Lib.itoa (Vec.getD 3 x.1 0 (0:Int)),Lib.itoa (Vec.getD 3 x.1 1 (0:Int)),Lib.itoa (Vec.getD 3 x.1 2 (0:Int)),hex8 (Vec.getD 3 x.2.1 0 (0:Nat)),hex8 (Vec.getD 3 x.2.1 1 (0:Nat)),hex8 (Vec.getD 3 x.2.1 2 (0:Nat)),hex8 x.2.2.1,Lib.itoa x.2.2.2.1,Lib.itoa x.2.2.2.2.1]
def markL (x:DMark):List UInt8:=joinC 32 (markW x)
def mapH (side:Nat):List UInt8:=joinC 32 [wMap,hex8 side]
def mapL (m:DMap):List (List UInt8):=mapH m.1 :: m.2.1.map markL
def mapT (m:DMap):List UInt8:=linesT (mapL m)
theorem MarkOK.good {x:DMark} (h:MarkOK x):goodV x.2.1∧goodN x.2.2.1:=⟨qahl h.at',qgh h.wt⟩
theorem MarkOK.nums {x:DMark} (h:MarkOK x):(1≤x.2.2.2.1∧x.2.2.2.1≤1000000)∧0≤x.2.2.2.2.1∧x.2.2.2.2.1≤1000000000:=by
 obtain ⟨-,-,a,b⟩:=qnf h.ok
 refine ⟨a,?_⟩
 unfold timeB at b
 simp only [Bool.and_eq_true,qmq] at b
 exact b
theorem qkt {k u:Nat} (h:u<10^(k+1)):(Lib.decDigits u).length≤k+1:=(qg7 k u h).2.2.1
theorem qc5 {n:Int} (h : -1000000≤n) (h1:n≤1000000):(Lib.itoa n).length≤8:=by
 by_cases h0:0≤n
 ·rw [qtj h0]
  have:=qkt (k:=6) (u:=n.toNat) (by omega)
  omega
 ·obtain ⟨u,rfl⟩ : ∃ u:Nat,n = -(u:Int):=⟨n.natAbs,by omega⟩
  rw [Lib.itoa_neg u (by omega)]
  have:=qkt (k:=6) (u:=u) (by omega)
  simp
  omega
theorem qti {n:Int} (h:0≤n) (h1:n≤1000000000):(Lib.itoa n).length≤10:=by
 rw [qtj h]
 have:=qkt (k:=9) (u:=n.toNat) (by omega)
 omega
theorem markL_length {x:DMark} (h:MarkOK x):(markL x).length≤82:=by
 have l0:=qc5 h.c0.1 h.c0.2
 have l1:=qc5 h.c1.1 h.c1.2
 have l2:=qc5 h.c2.1 h.c2.2
 obtain ⟨⟨n1,n2⟩,n3,n4⟩:=h.nums
 have l3:=qc5 (n:=x.2.2.2.1) (by omega) n2
 have l4:=qti n3 n4
 unfold markL markW
 simp only [joinC,List.length_append,List.length_cons,List.length_nil,qcd]
 omega
theorem qd9 (s:Nat):(mapH s).length=12:=by
 unfold mapH wMap
 simp [joinC,qcd]
theorem qvi {B:Nat} : ∀ Ls:List (List UInt8),(∀ x∈Ls,x.length+1≤B)→(linesT Ls).length≤Ls.length*B
 | [],_=>Nat.zero_le _
 | x :: r,h=>by
  have h1:=h x (by simp)
  have h2:=qvi r (fun y hy=>h y (by simp [hy]))
  unfold linesT at h2 ⊢
  rw [List.flatMap_cons,List.length_append,List.length_append]
  simp only [List.length_cons,List.length_nil]
  rw [Nat.add_mul]
  omega
theorem qw5 {side:Nat} {m:DMap} (h:MapOK side m):(mapT m).length≤20000:=by
 have h1:=qvi (B:=83) (mapL m) (fun x hx=>by
  rcases List.mem_cons.1 hx with rfl | hx
  ·rw [qd9];omega
  ·obtain ⟨y,hy,rfl⟩:=List.mem_map.1 hx
   have:=markL_length (h.all y hy)
   omega)
 have h2:(mapL m).length=m.2.1.length+1:=by simp [mapL]
 have:=h.len
 unfold mapT
 omega
theorem qzm {c:UInt8} (hc:c=32∨c=10) (x:DMark) : ∀ w∈markW x,c∉w:=by
 intro w hw
 unfold markW at hw
 simp only [List.mem_cons,List.mem_nil_iff,or_false] at hw
 rcases hw with rfl | rfl | rfl | rfl | rfl | rfl | rfl | rfl | rfl <;> first | exact qahp hc _ | exact qu5 hc 8 _
theorem qaim {c:UInt8} (hc:c=32∨c=10):c∉wMap:=by rcases hc with rfl | rfl <;> decide
theorem qym {c:UInt8} (hc:c=32∨c=10) (s:Nat) : ∀ w∈[wMap,hex8 s],c∉w:=by
 intro w hw
 simp only [List.mem_cons,List.mem_nil_iff,or_false] at hw
 rcases hw with rfl | rfl
 ·exact qaim hc
 ·exact qu5 hc 8 _
theorem qahw (m:DMap) : ∀ x∈mapL m,(10:UInt8)∉x:=by
 intro x hx
 rcases List.mem_cons.1 hx with rfl | hx
 ·exact qvg (by decide) _ (qym (.inr rfl) _)
 ·obtain ⟨y,_,rfl⟩:=List.mem_map.1 hx
  exact qvg (by decide) _ (qzm (.inr rfl) y)
theorem qzk (m:DMap):splitC 10 (mapT m)=mapL m++[[]]:=qxg _ (qahw m)
theorem qw6 (x:DMark):splitC 32 (markL x)=markW x:=qtu 32 _ (by simp [markW]) (qzm (.inl rfl) x)
theorem qagq (s:Nat):splitC 32 (mapH s)=[wMap,hex8 s]:=qtu 32 _ (by simp) (qym (.inl rfl) s)
theorem qm8 {n:Int} (h : -1000000≤n) (h1:n≤1000000):iWrap .i32 n=n:=by simp [iWrap,IntKind.wrap,IntKind.signed,IntKind.bits];omega
theorem qf1 {n:Int} (h : -1000000≤n) (h1:n≤1000000):qcm n=some ((Lib.itoa n,()),()):=by
 have w0:iWrap .i64 n=n:=wrap_i64 (by omega) (by omega)
 unfold qcm qbe
 have e:(iEq 10 10&&(iLe (-9223372036854775808) (iWrap .i64 n)&&iLe (iWrap .i64 n) 9223372036854775807))=true:=by
  rw [w0,qaz (by omega),qaz (by omega)];rfl
 rw [e,w0]
 rfl
theorem qhv {n:Int} (h:0≤n) (h1:n≤1000000000000):qep n=some ((Lib.itoa n,()),()):=by
 obtain ⟨u,rfl⟩:=Int.eq_ofNat_of_zero_le h
 rw [(qz0 (n:=u) (by omega)).1,qxs]
theorem qm0 {n:Int} (h : -1000000≤n) (h1:n≤1000000):qef (iWrap .i64 n)=some ((Lib.itoa n,()),()):=by
 rw [wrap_i64 (by omega) (by omega)]
 unfold qef
 by_cases h0:n<0
 ·obtain ⟨u,rfl⟩ : ∃ u:Nat,n = -(u:Int):=⟨n.natAbs,by omega⟩
  have e:iSub .i64 0 (-(u:Int))=(u:Int):=(qir (by omega) (by omega)).trans (by omega)
  rw [qag h0,e,qhv (by omega) (by omega),Lib.itoa_neg u (by omega),qxs]
  simp only [cond_true,Option.bind_some]
  have hl:=qkt (k:=6) (u:=u) (by omega)
  rw [qb1 (by simp;omega)]
  rfl
 ·rw [qah h0,cond_false,qhv (by omega) (by omega)]
  rfl
theorem qamp (a b c d e f g:List UInt8):Lib.join [a,b,c,d,e,f,g] [32]=a++[32]++b++[32]++c++[32]++d++[32]++e++[32]++f++[32]++g:=by
 simp [Lib.join,List.intercalate,List.intersperse]
theorem qzl (x:DMark):markL x=Lib.itoa (Vec.getD 3 x.1 0 (0:Int))++[32]++Lib.itoa (Vec.getD 3 x.1 1 (0:Int))++[32]++Lib.itoa (Vec.getD 3 x.1 2 (0:Int))++[32]++vecT x.2.1++[32]++hex8 x.2.2.1++[32]++Lib.itoa x.2.2.2.1++[32]++Lib.itoa x.2.2.2.2.1:=by
 unfold markL markW vecT
 simp [joinC]
 rfl
theorem qaar {a:Nat} {l:List DMark} {u:Unit} {i:Nat} (hi:i<l.length) (hl:l.length≤200) (hx:MarkOK l[i]) {out:List UInt8} (ho:out.length≤1000000) :
  qe9 ((a,l,u):DMap) ((i:Int),((),bytesOf out,()),())=some (.inl (((i+1:Nat):Int),((),bytesOf (out++(markL l[i]++[10])),()),())):=by
 have e1:iLt (i:Int) (lenI l)=true:=qag (by rw [qaa];omega)
 have e2:inB (i:Int) l.length=true:=qaf hi
 have e5:iAdd .i64 (i:Int) 1=((i+1:Nat):Int):=qap hi (by omega)
 have hgd:List.getD l (i:Int).toNat (((0,0,0,()),(0,0,0,()),0,0,0,()):DMark)=l[i]:=by rw [Int.toNat_natCast];exact qal hi
 unfold qe9
 simp only
 rw [e1,e2,hgd,e5]
 generalize l[i]=x at hx
 obtain ⟨g1,g2⟩:=hx.good
 obtain ⟨⟨n1,n2⟩,n3,n4⟩:=hx.nums
 have hlen:=markL_length hx
 rw [qf1 hx.c0.1 hx.c0.2,qf1 hx.c1.1 hx.c1.2,qf1 hx.c2.1 hx.c2.2,qyp g1,qcl (qmn g2),qf3 (by omega) (by omega),qf3 (by omega) (by omega)]
 simp only [cond_true,Option.bind_some]
 have hj:strings_Join [Lib.itoa (Vec.getD 3 x.1 0 (0:Int)),Lib.itoa (Vec.getD 3 x.1 1 (0:Int)),Lib.itoa (Vec.getD 3 x.1 2 (0:Int)),vecT x.2.1,hexP 8 (bitsOf x.2.2.1),Lib.itoa x.2.2.2.1,Lib.itoa x.2.2.2.2.1] [32]=some ((markL x,()),()):=by
  have:Lib.join [Lib.itoa (Vec.getD 3 x.1 0 (0:Int)),Lib.itoa (Vec.getD 3 x.1 1 (0:Int)),Lib.itoa (Vec.getD 3 x.1 2 (0:Int)),vecT x.2.1,hexP 8 (bitsOf x.2.2.1),Lib.itoa x.2.2.2.1,Lib.itoa x.2.2.2.2.1] [32]=markL x:=by
   rw [qamp,qzl];rfl
  unfold strings_Join
  rw [this,show Nat.ble (markL x).length 140737488355328=true from by rw [Nat.ble_eq];omega]
  rfl
 rw [hj]
 simp only [Option.bind_some]
 rw [qb1 (by simp;omega)]
 simp only [cond_true]
 rw [show strCat (markL x) [10]=markL x++[10] from rfl,qabk (by simp;omega)]
 rfl
theorem qabc {a:Nat} {l:List DMark} {u:Unit} {i:Nat} (hi:i<l.length) (hl:l.length≤200) (hx:MarkOK l[i]) {out:List UInt8} (ho:out.length≤1000000) :
  qfk ((a,l,u):DMap) (out,(i:Int),())=some (.inl (out++(markL l[i]++[10]),((i+1:Nat):Int),())):=by
 have e1:iLt (i:Int) (lenI l)=true:=qag (by rw [qaa];omega)
 have e2:inB (i:Int) l.length=true:=qaf hi
 have e5:iAdd .i64 (i:Int) 1=((i+1:Nat):Int):=qap hi (by omega)
 have hgd:List.getD l (i:Int).toNat (((0,0,0,()),(0,0,0,()),0,0,0,()):DMark)=l[i]:=by rw [Int.toNat_natCast];exact qal hi
 unfold qfk
 simp only
 rw [e1,e2,hgd,e5]
 generalize l[i]=x at hx
 obtain ⟨g1,g2⟩:=hx.good
 obtain ⟨⟨n1,n2⟩,n3,n4⟩:=hx.nums
 have l0:=qc5 hx.c0.1 hx.c0.2
 have l1:=qc5 hx.c1.1 hx.c1.2
 have l2:=qc5 hx.c2.1 hx.c2.2
 have l3:=qc5 (n:=x.2.2.2.1) (by omega) n2
 have l4:=qti n3 n4
 have l5:=qafi x.2.1
 have l6:=qcd x.2.2.1
 rw [qm0 hx.c0.1 hx.c0.2,qm0 hx.c1.1 hx.c1.2,qm0 hx.c2.1 hx.c2.2,qz5 g1,qsa g2,qhv (by omega) (by omega),qhv (by omega) (by omega)]
 simp only [cond_true,Option.bind_some,strCat]
 iterate 14 (rw [qb1 (by simp only [List.length_append,List.length_cons,List.length_nil];omega)];simp only [cond_true])
 rw [qzl]
 simp only [List.append_assoc]
end
end Go.Proofs.YtjhdoneobdbeaaaGreatDoor
