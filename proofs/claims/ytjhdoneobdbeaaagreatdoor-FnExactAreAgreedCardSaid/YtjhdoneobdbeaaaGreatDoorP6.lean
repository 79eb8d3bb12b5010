import Derived.Test.YtjhdoneobdbeaaaGreatDoorP5
/- Functions of the program and of the reference in plain terms. -/
set_option linter.unusedSectionVars false
set_option linter.unusedSimpArgs false
set_option linter.unusedVariables false
namespace Go.Proofs.YtjhdoneobdbeaaaGreatDoor
open Go Go.Tm
section
theorem qagj {v:Vec 3 Nat} {a b c:Nat} (ha:cF a) (hb:cF b) (hc:cF c):FitVec (fltFit .f32) 3 (Vec.set 3 (Vec.set 3 (Vec.set 3 v 0 a) 1 b) 2 c):=⟨ha,hb,hc,trivial⟩
theorem qaf4 {side:Nat} (hs:sideB side=true) {m:DMap} (hm:MapOK side m) {v:Vec 3 Nat} (hv:FitVec (fltFit .f32) 3 v) {w:Nat} (hwc:fltFit .f32 w) (t:Int) (g:Nat) :
  ∃ (m':DMap) (c:Vec 3 Int) (o:Bool) (code:Int),qhy m v w t g=some (((m',c,o,code,()):DSeen),(m,())) ∧
  ∃ (m2:DMap) (c2:Vec 3 Int) (o2:Bool),qgk m v w t g=some (((m2,c2,o2,code,()):DSeen),())∧(code=0→m2=m'∧MapOK side m'):=by
 obtain ⟨hsd,hl,hM,hk⟩:=hm
 subst hsd
 obtain ⟨b,code,hn,hb,h6,hn2⟩:=qaf1 (m:=m) (by omega) v g
 have hsw:sideB w=(finB w&&fLt .f32 0 w):=rfl
 have i66:iEq (6:Int) 6=true:=by decide
 have i60:iEq (6:Int) 0=false:=by decide
 have i00:iEq (0:Int) 0=true:=by decide
 have early : ∀ {q:Int},q≠0→(q=0 → ∀ {P:Prop},P):=fun h h0=>absurd h0 h
 by_cases hc:code=0
 ·subst hc
  have r0:room (0+m.2.1.length) 48=true:=qav (by omega)
  rcases hb with rfl | ⟨b0,b1⟩
  ·have hn2:qcl m v g=some ((0,6,()),()):=hn2
   have e0:iLe 0 (-1:Int)=false:=by decide
   unfold qhy qgk
   simp only [qcc,qfs,hn,qcu,qgj,hn2,qxi (m:=m) (by omega),Option.bind_some,i66,i60,i00,hsw]
   cases hw:finB w with
   | false=>exact ⟨_,_,_,_,rfl,_,_,_,rfl,fun h=>absurd h (by decide)⟩
   | true =>
    cases hw0:fLt .f32 0 w with
    | false=>exact ⟨_,_,_,_,rfl,_,_,_,rfl,fun h=>absurd h (by decide)⟩
    | true =>
     cases ht:timeB t with
     | false=>exact ⟨_,_,_,_,rfl,_,_,_,rfl,fun h=>absurd h (by decide)⟩
     | true =>
      have hsw':sideB w=true:=by rw [hsw,hw,hw0];rfl
      rw [r0,e0]
      simp only [Bool.not_true,Bool.not_false,Bool.and_self,cond_false,cond_true,List.nil_append]
      exact qxe hs hM hl hk hv hsw' hwc (by omega) (by omega) ht _ _ m ()
  ·obtain ⟨k,rfl⟩:=Int.eq_ofNat_of_zero_le b0
   have hn2:qcl m v g=some (((k:Int),0,()),()):=by
    rw [hn2,i00,qah (by omega:¬ (k:Int)<0)]
    rfl
   have hkl:k<m.2.1.length:=by omega
   have e0:iLe 0 (k:Int)=true:=qaz (by omega)
   have e1:inB (k:Int) m.2.1.length=true:=qae hkl
   have e2:inS 0 (k:Int) m.2.1.length=true:=by unfold inS;simp;omega
   have e5:iAdd .i64 (k:Int) 1=((k+1:Nat):Int):=(qc7 (by omega) (by omega)).trans (by omega)
   have e6:inS ((k+1:Nat):Int) (lenI m.2.1) m.2.1.length=true:=by unfold inS;rw [qaa];simp;omega
   have t1:takeL m.2.1 (k:Int)=m.2.1.take k:=by unfold takeL;rw [Int.toNat_natCast]
   have t2:dropL m.2.1 ((k+1:Nat):Int)=m.2.1.drop (k+1):=by unfold dropL;rw [Int.toNat_natCast]
   have l1:(m.2.1.take k).length=k:=by rw [List.length_take];omega
   have l2:(m.2.1.drop (k+1)).length=m.2.1.length-(k+1):=List.length_drop
   have r1:room (0+(m.2.1.take k).length) 48=true:=qav (by omega)
   have r2:room ((m.2.1.take k).length+(m.2.1.drop (k+1)).length) 48=true:=qav (by omega)
   have hsub:(m.2.1.take k++m.2.1.drop (k+1)).Sublist m.2.1:=by
    have h1:(m.2.1.take k++m.2.1.drop (k+1)).Sublist (m.2.1.take k++m.2.1.drop k):=List.Sublist.append (List.Sublist.refl _) (by
     rw [← List.getElem_cons_drop (h:=hkl)]
     exact List.sublist_cons_self _ _)
    rwa [List.take_append_drop] at h1
   have hM':Marks (m.2.1.take k++m.2.1.drop (k+1)):=⟨fun x hx=>hM.1 x (hsub.mem hx),hM.2.sublist hsub⟩
   have hl':(m.2.1.take k++m.2.1.drop (k+1)).length≤200:=Nat.le_trans hsub.length_le hl
   have hk' : ∀ y∈m.2.1.take k++m.2.1.drop (k+1),MarkOK y:=fun y hy=>hk y (hsub.mem hy)
   have hold:=hk _ (List.getElem_mem hkl)
   have hdel:qe9 m.2.1 (k:Int) ((k+1:Nat):Int)=some ((m.2.1.take k++m.2.1.drop (k+1),()),()):=qzw TyMark m.2.1 k hkl
   have hgd:List.getD m.2.1 (Int.toNat (k:Int)) (((0,0,0,()),(0,0,0,()),0,0,0,()):DMark)=m.2.1[k]:=by
    rw [Int.toNat_natCast];exact qaj hkl
   unfold qhy qgk
   simp only [qcc,qfs,hn,qcu,qgj,hn2,qxi (m:=m) (by omega),Option.bind_some,i00,hsw]
   cases hw:finB w with
   | false=>exact ⟨_,_,_,_,rfl,_,_,_,rfl,fun h=>absurd h (by decide)⟩
   | true =>
    cases hw0:fLt .f32 0 w with
    | false=>exact ⟨_,_,_,_,rfl,_,_,_,rfl,fun h=>absurd h (by decide)⟩
    | true =>
     cases ht:timeB t with
     | false=>exact ⟨_,_,_,_,rfl,_,_,_,rfl,fun h=>absurd h (by decide)⟩
     | true =>
      rw [r0,e0,e1,e2,t1,r1,e5,e6,t2]
      simp only [Bool.not_true,Bool.not_false,Bool.and_self,cond_false,cond_true,List.nil_append]
      rw [r2,hdel,hgd]
      simp only [cond_true,Option.bind_some]
      generalize m.2.1[k]=x at hold
      obtain ⟨x1,x2,⟨x3,x4⟩,x5⟩:=qof hold.ok
      have hseen:iAdd .i64 x.2.2.2.1 1=x.2.2.2.1+1:=qc7 (by omega) (by omega)
      have hmn:1≤min (x.2.2.2.1+1) 1000000∧min (x.2.2.2.1+1) 1000000≤1000000:=by omega
      have hmx:timeB (max x.2.2.2.2.1 t)=true:=by
       unfold timeB at ht x5 ⊢
       simp only [Bool.and_eq_true,qnp] at ht x5 ⊢
       omega
      have hfin:qci [fAdd .f32 x.2.2.1 w]=some ((finB (fAdd .f32 x.2.2.1 w),()),()):=by
       rw [qg8 _ (by simp)]
       simp
      simp only [qact,qajn,Option.bind_some,hseen,hfin,qam7,qam6]
      cases hf:finB (fAdd .f32 x.2.2.1 w) with
      | false=>exact qxe hs hM' hl' hk' (qagj (qxg _ _) (qxg _ _) (qxg _ _)) x2 hold.wt hmn.1 hmn.2 hmx _ _ m ()
      | true =>
       have hx2:=x2
       unfold sideB at hx2
       rw [Bool.and_eq_true] at hx2
       have hsum:sideB (fAdd .f32 x.2.2.1 w)=true:=by
        unfold sideB
        rw [hf,qae1 hx2.1 hx2.2 hw hw0 hf]
        rfl
       exact qxe hs hM' hl' hk' (qagj (qxg _ _) (qxg _ _) (qxg _ _)) hsum (qaof _ _) hmn.1 hmn.2 hmx _ _ m ()
 ·have ic:iEq code 0=false:=qa5 hc
  have ic6:iEq code 6=false:=qa5 h6
  rw [ic] at hn2
  have hn2:qcl m v g=some ((0,code,()),()):=hn2
  unfold qhy qgk
  simp only [qcc,qfs,hn,qcu,qgj,hn2,Option.bind_some,ic,ic6,hsw]
  cases hw:finB w with
  | false=>exact ⟨_,_,_,_,rfl,_,_,_,rfl,fun h=>absurd h (by decide)⟩
  | true =>
   cases hw0:fLt .f32 0 w with
   | false=>exact ⟨_,_,_,_,rfl,_,_,_,rfl,fun h=>absurd h (by decide)⟩
   | true =>
    cases ht:timeB t with
    | false=>exact ⟨_,_,_,_,rfl,_,_,_,rfl,fun h=>absurd h (by decide)⟩
    | true=>exact ⟨_,_,_,_,rfl,_,_,_,rfl,fun h=>absurd h hc⟩
theorem qaju {side:Nat} (hs:sideB side=true) {m:DMap} (hm:MapOK side m) {v:Vec 3 Nat} (hv:FitVec (fltFit .f32) 3 v) {w:Nat} (hwc:fltFit .f32 w) (t:Int) (g:Nat) :
  ∃ (m':DMap) (c:Vec 3 Int) (code:Int),qhh m v w t g=some ((m',c,code,()),()) ∧
  ∃ (m2:DMap) (c2:Vec 3 Int),qg4 m v w t g=some ((m2,c2,code,()),())∧(code=0→m2=m'∧MapOK side m'):=by
 obtain ⟨m',c,o,code,h1,m2,c2,o2,h2,h3⟩:=qaf4 hs hm hv hwc t g
 have hv1:=qg7 m hm.sized
 have hv2:=qhu m hm.sized
 rw [hm.valid hs] at hv1 hv2
 unfold qhh qg4
 rw [hv1,hv2,Option.bind_some,Option.bind_some]
 simp only [Bool.not_true,cond_false]
 rw [h1,h2]
 simp only [Option.bind_some]
 by_cases hc:code=0
 ·subst hc
  exact ⟨_,_,_,rfl,_,_,rfl,fun _=>h3 rfl⟩
 ·rw [qa5 hc]
  exact ⟨_,_,_,rfl,_,_,rfl,fun h=>absurd h hc⟩
theorem qal1 (l:List DMark) (x:DMark):l.length≤(putL l x).length:=by
 rw [qacm]
 cases foundB l x.1 <;> simp
theorem qadq : ∀ (xs:List DMark) (l:List DMark),l.length≤(xs.foldl putL l).length
 | [],_=>Nat.le_refl _
 | x :: xs,l=>Nat.le_trans (qal1 l x) (qadq xs (putL l x))
theorem qaij {side:Nat} (hs:sideB side=true) {m n:DMap} (hm:MapOK side m) (hn:MapOK side n) :
  ∃ (r:DMap) (code:Int),qgp m n=some ((r,code,()),()) ∧ ∃ r2:DMap,qgd m n=some ((r2,code,()),())∧(code=0→r2=r∧MapOK side r∧r.2.1=n.2.1.foldl putL m.2.1)∧(code≠0→200<(n.2.1.foldl putL m.2.1).length):=by
 have k1:=qg7 m hm.sized
 have k2:=qhu m hm.sized
 have k3:=qg7 n hn.sized
 have k4:=qhu n hn.sized
 rw [hm.valid hs] at k1 k2
 rw [hn.valid hs] at k3 k4
 have hfs:isNan .f32 side=false:=qab9 (by unfold sideB at hs;simp only [Bool.and_eq_true] at hs;exact hs.1)
 have e1:qjd m n=some ((0,()),()):=by
  unfold qjd
  rw [k1,k3]
  simp only [Option.bind_some,Bool.not_true,cond_false,qdq]
  rw [hm.side,hn.side,qmb]
  rfl
 have e2:qoi m n=some ((0,()),()):=by
  unfold qoi
  rw [k2,k4]
  simp only [Option.bind_some,Bool.not_true,cond_false]
  rw [hm.side,hn.side,qim,hfs]
  rfl
 have hl:=hm.len
 have hnl:=hn.len
 have r0:room (0+m.2.1.length) 48=true:=qav (by omega)
 have hspec : ∀ (d i:Nat),i+d=n.2.1.length → ∀ l:List DMark,l.length≤200+i→run (qc9 n m) (l,(i:Int),()) =
   (qb1 m.1 ((n.2.1.drop i).foldl putL l)).bind fun y=>some ((y.1.1,y.1.2.1,()),()):=by
  intro d
  induction d with
  | zero =>
   intro i hi l _
   have hi:i=n.2.1.length:=by omega
   subst hi
   obtain ⟨q,hq⟩ : ∃ q,(qb1 m.1 l).bind (fun y=>some ((y.1.1,y.1.2.1,()),()))=some q:=by
    unfold qb1
    cases iLt 200 (lenI l) <;> exact ⟨_,rfl⟩
   rw [List.drop_length,List.foldl_nil,hq]
   refine qal ?_
   unfold qc9
   simp only
   rw [qah (by rw [qaa];omega),cond_false,hq]
   rfl
  | succ d ih =>
   intro i hi l hll
   have hlt:i<n.2.1.length:=by omega
   have hstep:qc9 n m (l,(i:Int),())=some (.inl (putL l n.2.1[i],((i+1:Nat):Int),())):=by
    unfold qc9
    simp only
    rw [qag (by rw [qaa];omega),qae hlt,Int.toNat_natCast,qaj hlt,qzo (by omega),qao hlt (by omega)]
    rfl
   rw [qan hstep,ih (i+1) (by omega) _ (by
    have:(putL l n.2.1[i]).length≤l.length+1:=by rw [qacm];cases foundB l (n.2.1[i]).1 <;> simp
    omega),← List.getElem_cons_drop (h:=hlt),List.foldl_cons]
 have himpl : ∀ (d i:Nat),i+d=n.2.1.length → ∀ l:List DMark,l.length≤200→Marks l→(∀ y∈l,MarkOK y) →
   (((n.2.1.drop i).foldl putL l).length≤200→run (qca n) ((i:Int),((m.1,l,()):DMap),())=some ((((m.1,(n.2.1.drop i).foldl putL l,()):DMap),0,()),())∧Marks ((n.2.1.drop i).foldl putL l) ∧ ∀ y∈(n.2.1.drop i).foldl putL l,MarkOK y) ∧
   (200<((n.2.1.drop i).foldl putL l).length→run (qca n) ((i:Int),((m.1,l,()):DMap),())=some ((((0,[],()):DMap),3,()),())):=by
  intro d
  induction d with
  | zero =>
   intro i hi l hl hM hk
   have hi:i=n.2.1.length:=by omega
   subst hi
   rw [List.drop_length,List.foldl_nil]
   refine ⟨fun _=>⟨qal ?_,hM,hk⟩,fun h=>by omega⟩
   unfold qca
   simp only
   rw [qah (by rw [qaa];omega)]
   rfl
  | succ d ih =>
   intro i hi l hl hM hk
   have hlt:i<n.2.1.length:=by omega
   have hx:MarkOK n.2.1[i]:=hn.all _ (List.getElem_mem hlt)
   have hput:=qafp (m:=((m.1,l,()):DMap)) hl hM hk hx
   rw [← List.getElem_cons_drop (h:=hlt),List.foldl_cons]
   cases hf:fullB l n.2.1[i] with
   | true =>
    have h200:200<(putL l n.2.1[i]).length:=by
     have:=qui hl (x:=n.2.1[i])
     rw [hf,qaa] at this
     have:=of_decide_eq_true this
     omega
    have h3:=qadq (n.2.1.drop (i+1)) (putL l n.2.1[i])
    refine ⟨fun h=>by omega,fun _=>qal ?_⟩
    rw [hf] at hput
    unfold qca
    simp only
    rw [qag (by rw [qaa];omega),qae hlt,Int.toNat_natCast,qaj hlt]
    rw [show qay ((m.1,l,()):DMap) n.2.1[i]=_ from hput]
    rfl
   | false =>
    have h200:(putL l n.2.1[i]).length≤200:=by
     have:=qui hl (x:=n.2.1[i])
     rw [hf,qaa] at this
     have:=of_decide_eq_false this
     omega
    have hstep:qca n ((i:Int),((m.1,l,()):DMap),())=some (.inl (((i+1:Nat):Int),((m.1,putL l n.2.1[i],()):DMap),())):=by
     rw [hf] at hput
     unfold qca
     simp only
     rw [qag (by rw [qaa];omega),qae hlt,Int.toNat_natCast,qaj hlt]
     rw [show qay ((m.1,l,()):DMap) n.2.1[i]=_ from hput,qao hlt (by omega)]
     rfl
    rw [qan hstep]
    exact ih (i+1) (by omega) _ h200 (qad3 (by omega) hM hx.ok).1 (fun y hy=>(qahr hy).elim (hk y) (fun h=>h▸hx))
 have q1:=hspec n.2.1.length 0 (by omega) m.2.1 (by omega)
 have q2:=himpl n.2.1.length 0 (by omega) m.2.1 hl hm.marks hm.all
 rw [List.drop_zero] at q1 q2
 unfold qgp qgd
 rw [e1,e2,qxi (m:=m) (by omega)]
 simp only [Option.bind_some]
 rw [r0]
 have i00:iEq (0:Int) 0=true:=by decide
 rw [i00]
 simp only [Bool.not_true,cond_false,cond_true,List.nil_append]
 rw [show run (qc9 n m) (m.2.1,(0:Int),())=_ from q1]
 unfold qb1
 by_cases h:200<(n.2.1.foldl putL m.2.1).length
 ·rw [qag (by rw [qaa];omega)]
  exact ⟨_,_,rfl,_,q2.2 h,fun h0=>absurd h0 (by decide),fun _=>h⟩
 ·rw [qah (by rw [qaa];omega)]
  obtain ⟨a1,a2,a3⟩:=q2.1 (by omega)
  exact ⟨_,_,rfl,_,a1,fun _=>⟨rfl,⟨hm.side,by show (n.2.1.foldl putL m.2.1).length≤200;omega,a2,a3⟩,rfl⟩,fun h0=>absurd rfl h0⟩
end
section
def wMap:List UInt8:=[109,97,112]
def markW (x:DMark):List (List UInt8):=[Lib.itoa (Vec.getD 3 x.1 0 (0:Int)),Lib.itoa (Vec.getD 3 x.1 1 (0:Int)),Lib.itoa (Vec.getD 3 x.1 2 (0:Int)),hex8 (Vec.getD 3 x.2.1 0 (0:Nat)),hex8 (Vec.getD 3 x.2.1 1 (0:Nat)),hex8 (Vec.getD 3 x.2.1 2 (0:Nat)),hex8 x.2.2.1,Lib.itoa x.2.2.2.1,Lib.itoa x.2.2.2.2.1]
def markL (x:DMark):List UInt8:=joinC 32 (markW x)
def mapH (side:Nat):List UInt8:=joinC 32 [wMap,hex8 side]
def mapL (m:DMap):List (List UInt8):=mapH m.1 :: m.2.1.map markL
def mapT (m:DMap):List UInt8:=linesT (mapL m)
theorem MarkOK.good {x:DMark} (h:MarkOK x):goodV x.2.1∧goodN x.2.2.1:=⟨qajh h.at',qgw h.wt⟩
theorem MarkOK.nums {x:DMark} (h:MarkOK x):(1≤x.2.2.2.1∧x.2.2.2.1≤1000000)∧0≤x.2.2.2.2.1∧x.2.2.2.2.1≤1000000000:=by
 obtain ⟨-,-,a,b⟩:=qof h.ok
 refine ⟨a,?_⟩
 unfold timeB at b
 simp only [Bool.and_eq_true,qnp] at b
 exact b
theorem qlk {k u:Nat} (h:u<10^(k+1)):(Lib.decDigits u).length≤k+1:=(qhl k u h).2.2.1
theorem qdb {n:Int} (h : -1000000≤n) (h1:n≤1000000):(Lib.itoa n).length≤8:=by
 by_cases h0:0≤n
 ·rw [qur h0]
  have:=qlk (k:=6) (u:=n.toNat) (by omega)
  omega
 ·obtain ⟨u,rfl⟩ : ∃ u:Nat,n = -(u:Int):=⟨n.natAbs,by omega⟩
  rw [Lib.itoa_neg u (by omega)]
  have:=qlk (k:=6) (u:=u) (by omega)
  simp
  omega
theorem quq {n:Int} (h:0≤n) (h1:n≤1000000000):(Lib.itoa n).length≤10:=by
 rw [qur h]
 have:=qlk (k:=9) (u:=n.toNat) (by omega)
 omega
theorem markL_length {x:DMark} (h:MarkOK x):(markL x).length≤82:=by
 have l0:=qdb h.c0.1 h.c0.2
 have l1:=qdb h.c1.1 h.c1.2
 have l2:=qdb h.c2.1 h.c2.2
 obtain ⟨⟨n1,n2⟩,n3,n4⟩:=h.nums
 have l3:=qdb (n:=x.2.2.2.1) (by omega) n2
 have l4:=quq n3 n4
 unfold markL markW
 simp only [joinC,List.length_append,List.length_cons,List.length_nil,qcg]
 omega
theorem qei (s:Nat):(mapH s).length=12:=by
 unfold mapH wMap
 simp [joinC,qcg]
theorem qwr {B:Nat} : ∀ Ls:List (List UInt8),(∀ x∈Ls,x.length+1≤B)→(linesT Ls).length≤Ls.length*B
 | [],_=>Nat.zero_le _
 | x :: r,h=>by
  have h1:=h x (by simp)
  have h2:=qwr r (fun y hy=>h y (by simp [hy]))
  unfold linesT at h2 ⊢
  rw [List.flatMap_cons,List.length_append,List.length_append]
  simp only [List.length_cons,List.length_nil]
  rw [Nat.add_mul]
  omega
theorem qyk {side:Nat} {m:DMap} (h:MapOK side m):(mapT m).length≤20000:=by
 have h1:=qwr (B:=83) (mapL m) (fun x hx=>by
  rcases List.mem_cons.1 hx with rfl | hx
  ·rw [qei];omega
  ·obtain ⟨y,hy,rfl⟩:=List.mem_map.1 hx
   have:=markL_length (h.all y hy)
   omega)
 have h2:(mapL m).length=m.2.1.length+1:=by simp [mapL]
 have:=h.len
 unfold mapT
 omega
theorem qaa7 {c:UInt8} (hc:c=32∨c=10) (x:DMark) : ∀ w∈markW x,c∉w:=by
 intro w hw
 unfold markW at hw
 simp only [List.mem_cons,List.mem_nil_iff,or_false] at hw
 rcases hw with rfl | rfl | rfl | rfl | rfl | rfl | rfl | rfl | rfl <;> first | exact qajl hc _ | exact qwe hc 8 _
theorem qakj {c:UInt8} (hc:c=32∨c=10):c∉wMap:=by rcases hc with rfl | rfl <;> decide
theorem qz4 {c:UInt8} (hc:c=32∨c=10) (s:Nat) : ∀ w∈[wMap,hex8 s],c∉w:=by
 intro w hw
 simp only [List.mem_cons,List.mem_nil_iff,or_false] at hw
 rcases hw with rfl | rfl
 ·exact qakj hc
 ·exact qwe hc 8 _
theorem qajt (m:DMap) : ∀ x∈mapL m,(10:UInt8)∉x:=by
 intro x hx
 rcases List.mem_cons.1 hx with rfl | hx
 ·exact qwp (by decide) _ (qz4 (.inr rfl) _)
 ·obtain ⟨y,_,rfl⟩:=List.mem_map.1 hx
  exact qwp (by decide) _ (qaa7 (.inr rfl) y)
theorem qaa5 (m:DMap):splitC 10 (mapT m)=mapL m++[[]]:=qyv _ (qajt m)
theorem qyl (x:DMark):splitC 32 (markL x)=markW x:=qu2 32 _ (by simp [markW]) (qaa7 (.inl rfl) x)
theorem qaii (s:Nat):splitC 32 (mapH s)=[wMap,hex8 s]:=qu2 32 _ (by simp) (qz4 (.inl rfl) s)
theorem qn7 {n:Int} (h : -1000000≤n) (h1:n≤1000000):iWrap .i32 n=n:=by simp [iWrap,IntKind.wrap,IntKind.signed,IntKind.bits];omega
theorem qgf {n:Int} (h : -1000000≤n) (h1:n≤1000000):qcs n=some ((Lib.itoa n,()),()):=by
 have w0:iWrap .i64 n=n:=wrap_i64 (by omega) (by omega)
 unfold qcs qbh
 have e:(iEq 10 10&&(iLe (-9223372036854775808) (iWrap .i64 n)&&iLe (iWrap .i64 n) 9223372036854775807))=true:=by
  rw [w0,qaz (by omega),qaz (by omega)];rfl
 rw [e,w0]
 rfl
theorem qia {n:Int} (h:0≤n) (h1:n≤1000000000000):qez n=some ((Lib.itoa n,()),()):=by
 obtain ⟨u,rfl⟩:=Int.eq_ofNat_of_zero_le h
 rw [(qabk (n:=u) (by omega)).1,qy8]
theorem qnz {n:Int} (h : -1000000≤n) (h1:n≤1000000):qeo (iWrap .i64 n)=some ((Lib.itoa n,()),()):=by
 rw [wrap_i64 (by omega) (by omega)]
 unfold qeo
 by_cases h0:n<0
 ·obtain ⟨u,rfl⟩ : ∃ u:Nat,n = -(u:Int):=⟨n.natAbs,by omega⟩
  have e:iSub .i64 0 (-(u:Int))=(u:Int):=(qi9 (by omega) (by omega)).trans (by omega)
  rw [qag h0,e,qia (by omega) (by omega),Lib.itoa_neg u (by omega),qy8]
  simp only [cond_true,Option.bind_some]
  have hl:=qlk (k:=6) (u:=u) (by omega)
  rw [qb5 (by simp;omega)]
  rfl
 ·rw [qah h0,cond_false,qia (by omega) (by omega)]
  rfl
theorem qaok (a b c d e f g:List UInt8):Lib.join [a,b,c,d,e,f,g] [32]=a++[32]++b++[32]++c++[32]++d++[32]++e++[32]++f++[32]++g:=by
 simp [Lib.join,List.intercalate,List.intersperse]
theorem qaa6 (x:DMark):markL x=Lib.itoa (Vec.getD 3 x.1 0 (0:Int))++[32]++Lib.itoa (Vec.getD 3 x.1 1 (0:Int))++[32]++Lib.itoa (Vec.getD 3 x.1 2 (0:Int))++[32]++vecT x.2.1++[32]++hex8 x.2.2.1++[32]++Lib.itoa x.2.2.2.1++[32]++Lib.itoa x.2.2.2.2.1:=by
 unfold markL markW vecT
 simp [joinC]
 rfl
theorem qacd {a:Nat} {l:List DMark} {u:Unit} {i:Nat} (hi:i<l.length) (hl:l.length≤200) (hx:MarkOK l[i]) {out:List UInt8} (ho:out.length≤1000000) :
  qfi ((a,l,u):DMap) ((i:Int),((),bytesOf out,()),())=some (.inl (((i+1:Nat):Int),((),bytesOf (out++(markL l[i]++[10])),()),())):=by
 have e1:iLt (i:Int) (lenI l)=true:=qag (by rw [qaa];omega)
 have e2:inB (i:Int) l.length=true:=qae hi
 have e5:iAdd .i64 (i:Int) 1=((i+1:Nat):Int):=qao hi (by omega)
 have hgd:List.getD l (i:Int).toNat (((0,0,0,()),(0,0,0,()),0,0,0,()):DMark)=l[i]:=by rw [Int.toNat_natCast];exact qaj hi
 unfold qfi
 simp only
 rw [e1,e2,hgd,e5]
 generalize l[i]=x at hx
 obtain ⟨g1,g2⟩:=hx.good
 obtain ⟨⟨n1,n2⟩,n3,n4⟩:=hx.nums
 have hlen:=markL_length hx
 rw [qgf hx.c0.1 hx.c0.2,qgf hx.c1.1 hx.c1.2,qgf hx.c2.1 hx.c2.2,qaab g1,qcq (qnm g2),qgh (by omega) (by omega),qgh (by omega) (by omega)]
 simp only [cond_true,Option.bind_some]
 have hj:strings_Join [Lib.itoa (Vec.getD 3 x.1 0 (0:Int)),Lib.itoa (Vec.getD 3 x.1 1 (0:Int)),Lib.itoa (Vec.getD 3 x.1 2 (0:Int)),vecT x.2.1,hexP 8 (bitsOf x.2.2.1),Lib.itoa x.2.2.2.1,Lib.itoa x.2.2.2.2.1] [32]=some ((markL x,()),()):=by
  have:Lib.join [Lib.itoa (Vec.getD 3 x.1 0 (0:Int)),Lib.itoa (Vec.getD 3 x.1 1 (0:Int)),Lib.itoa (Vec.getD 3 x.1 2 (0:Int)),vecT x.2.1,hexP 8 (bitsOf x.2.2.1),Lib.itoa x.2.2.2.1,Lib.itoa x.2.2.2.2.1] [32]=markL x:=by
   rw [qaok,qaa6];rfl
  unfold strings_Join
  rw [this,show Nat.ble (markL x).length 140737488355328=true from by rw [Nat.ble_eq];omega]
  rfl
 rw [hj]
 simp only [Option.bind_some]
 rw [qb5 (by simp;omega)]
 simp only [cond_true]
 rw [show strCat (markL x) [10]=markL x++[10] from rfl,qada (by simp;omega)]
 rfl
theorem qac0 {a:Nat} {l:List DMark} {u:Unit} {i:Nat} (hi:i<l.length) (hl:l.length≤200) (hx:MarkOK l[i]) {out:List UInt8} (ho:out.length≤1000000) :
  qfv ((a,l,u):DMap) (out,(i:Int),())=some (.inl (out++(markL l[i]++[10]),((i+1:Nat):Int),())):=by
 have e1:iLt (i:Int) (lenI l)=true:=qag (by rw [qaa];omega)
 have e2:inB (i:Int) l.length=true:=qae hi
 have e5:iAdd .i64 (i:Int) 1=((i+1:Nat):Int):=qao hi (by omega)
 have hgd:List.getD l (i:Int).toNat (((0,0,0,()),(0,0,0,()),0,0,0,()):DMark)=l[i]:=by rw [Int.toNat_natCast];exact qaj hi
 unfold qfv
 simp only
 rw [e1,e2,hgd,e5]
 generalize l[i]=x at hx
 obtain ⟨g1,g2⟩:=hx.good
 obtain ⟨⟨n1,n2⟩,n3,n4⟩:=hx.nums
 have l0:=qdb hx.c0.1 hx.c0.2
 have l1:=qdb hx.c1.1 hx.c1.2
 have l2:=qdb hx.c2.1 hx.c2.2
 have l3:=qdb (n:=x.2.2.2.1) (by omega) n2
 have l4:=quq n3 n4
 have l5:=qaha x.2.1
 have l6:=qcg x.2.2.1
 rw [qnz hx.c0.1 hx.c0.2,qnz hx.c1.1 hx.c1.2,qnz hx.c2.1 hx.c2.2,qabp g1,qte g2,qia (by omega) (by omega),qia (by omega) (by omega)]
 simp only [cond_true,Option.bind_some,strCat]
 iterate 14 (rw [qb5 (by simp only [List.length_append,List.length_cons,List.length_nil];omega)];simp only [cond_true])
 rw [qaa6]
 simp only [List.append_assoc]
end
section
theorem qady (m:DMap):mapT m=mapH m.1++[10]++(m.2.1.map markL).flatMap (fun x=>x++[10]):=by
 unfold mapT linesT mapL
 rw [List.flatMap_cons]
theorem qr5 (s:Nat):mapH s=[109,97,112,32]++hex8 s:=by
 unfold mapH wMap
 simp [joinC]
theorem qaah {side:Nat} (hg:fltFit .f32 side) {m:DMap} (h:MapOK side m):qlu m=some ((mapT m,()),()):=by
 obtain ⟨a,l,⟨⟩⟩:=m
 obtain ⟨hsd,hl,-,hk⟩:=h
 have hsd:a=side:=hsd
 subst hsd
 have hl:l.length≤200:=hl
 have hk : ∀ x∈l,MarkOK x:=hk
 have g:=qgw hg
 unfold qlu
 simp only
 rw [qcq (qnm g)]
 simp only [Option.bind_some]
 have l8:(hexP 8 (bitsOf a)).length=8:=qhw 8 _
 rw [qb5 (by simp [l8]),qb5 (by unfold strCat;simp [l8])]
 simp only [cond_true]
 have e0:strCat (strCat [109,97,112,32] (hexP 8 (bitsOf a))) [10]=mapH a++[10]:=by rw [qr5];rfl
 rw [e0,qah5 (by rw [List.length_append,qei];decide)]
 simp only [Option.bind_some]
 have hrun : ∀ (d i:Nat),i+d=l.length → ∀ out:List UInt8,out.length≤100+i*83→out≠[]→run (qfi ((a,l,()):DMap)) ((i:Int),((),bytesOf out,()),())=some ((out++((l.drop i).map markL).flatMap (fun x=>x++[10]),()),()):=by
  intro d
  induction d with
  | zero =>
   intro i hi out ho hne
   have hi:i=l.length:=by omega
   subst hi
   rw [List.drop_length]
   refine qal ?_
   unfold qfi
   simp only
   rw [qah (by rw [qaa];omega)]
   simp only [cond_false]
   rw [show bldStr ((),bytesOf out,())=some out from qamq hne (by omega)]
   simp
  | succ d ih =>
   intro i hi out ho hne
   have hlt:i<l.length:=by omega
   have hx:=hk _ (List.getElem_mem hlt)
   have hlen:=markL_length hx
   rw [qan (qacd hlt hl hx (by omega)),ih (i+1) (by omega) _ (by simp;omega) (by simp),← List.getElem_cons_drop (h:=hlt),List.map_cons,List.flatMap_cons]
   simp only [List.append_assoc]
 have:=hrun l.length 0 (by omega) (mapH a++[10]) (by rw [List.length_append,qei];simp) (by simp)
 rw [List.drop_zero] at this
 rw [qady]
 exact this
theorem qsr {side:Nat} (hg:fltFit .f32 side) {m:DMap} (h:MapOK side m):qgt m=some ((mapT m,()),()):=by
 obtain ⟨a,l,⟨⟩⟩:=m
 obtain ⟨hsd,hl,-,hk⟩:=h
 have hsd:a=side:=hsd
 subst hsd
 have hl:l.length≤200:=hl
 have hk : ∀ x∈l,MarkOK x:=hk
 have g:=qgw hg
 unfold qgt
 simp only
 rw [qte g]
 simp only [Option.bind_some]
 have l8:=qcg a
 rw [qb5 (by simp [l8]),qb5 (by unfold strCat;simp [l8])]
 simp only [cond_true]
 have e0:strCat (strCat [109,97,112,32] (hex8 a)) [10]=mapH a++[10]:=by rw [qr5];rfl
 rw [e0]
 have hrun : ∀ (d i:Nat),i+d=l.length → ∀ out:List UInt8,out.length≤100+i*83→run (qfv ((a,l,()):DMap)) (out,(i:Int),())=some ((out++((l.drop i).map markL).flatMap (fun x=>x++[10]),()),()):=by
  intro d
  induction d with
  | zero =>
   intro i hi out ho
   have hi:i=l.length:=by omega
   subst hi
   rw [List.drop_length]
   refine qal ?_
   unfold qfv
   simp only
   rw [qah (by rw [qaa];omega)]
   simp
  | succ d ih =>
   intro i hi out ho
   have hlt:i<l.length:=by omega
   have hx:=hk _ (List.getElem_mem hlt)
   have hlen:=markL_length hx
   rw [qan (qac0 hlt hl hx (by omega)),ih (i+1) (by omega) _ (by simp;omega),← List.getElem_cons_drop (h:=hlt),List.map_cons,List.flatMap_cons]
   simp only [List.append_assoc]
 have:=hrun l.length 0 (by omega) (mapH a++[10]) (by rw [List.length_append,qei];simp)
 rw [List.drop_zero] at this
 rw [qady]
 exact this
theorem qabl {side:Nat} (hs:sideB side=true) (hg:fltFit .f32 side) {m:DMap} (h:MapOK side m):qix m=some ((mapT m,()),()):=by
 have k:=qhu m h.sized
 rw [h.valid hs] at k
 unfold qix
 rw [k,qsr hg h]
 rfl
theorem qwx {n:Nat} (h:n≤999999999):qbu (Lib.decDigits n)=some (((n:Int),true,()),()):=by
 obtain ⟨k,h1,h2⟩:=qaeo (Lib.decDigits n)
 have hv:=(qcp n).2.1
 have ho:numOK 999999999 (Lib.decDigits n)=true:=qld.2 ⟨n,h,rfl⟩
 rw [ho] at h1
 rw [h1,h2 ho,hv]
theorem qadi {n:Nat} (h:n≤1000000000):qdk (Lib.decDigits n)=some (((n:Int),true,()),()):=by
 by_cases h9:n≤999999999
 ·have hl:(Lib.decDigits n).length≤9:=qlk (k:=8) (by omega)
  unfold qdk
  rw [qa5 (by rw [qaa];omega),qwx h9]
  rfl
 ·have:n=1000000000:=by omega
  subst this
  have v1:valD 0 [49,48,48,48,48,48,48,48,48,48]=1000000000:=by decide
  have v2:valD 0 [49,48,48,48,48,48,48,48,48]=100000000:=by decide
  have e1:Lib.decDigits 1000000000=[49,48,48,48,48,48,48,48,48,48]:=by rw [← v1];exact qrf 9 _ rfl (by decide) (.inr ⟨_,_,rfl,by decide⟩)
  have e2:[49,48,48,48,48,48,48,48,48]=Lib.decDigits 100000000:=by rw [← v2];exact (qrf 8 _ rfl (by decide) (.inr ⟨_,_,rfl,by decide⟩)).symm
  have e3:takeL ([49,48,48,48,48,48,48,48,48,48]:List UInt8) 9=[49,48,48,48,48,48,48,48,48]:=rfl
  have n1:=qwx (n:=100000000) (by omega)
  rw [← e2] at n1
  unfold qdk
  rw [e1,e3,n1]
  simp only [Option.bind_some,qcb]
  rfl
theorem qu6 {n:Int} (h : -1000000≤n) (h1:n≤1000000000):qbr (Lib.itoa n)=some ((n,true,()),()):=by
 unfold qbr
 by_cases h0:n<0
 ·obtain ⟨u,rfl⟩ : ∃ u:Nat,n = -(u:Int):=⟨n.natAbs,by omega⟩
  rw [Lib.itoa_neg u (by omega)]
  have hp:=qj8 u
  have e1:iLt 1 (lenI ((45:UInt8) :: Lib.decDigits u))=true:=qag (by rw [qaa,List.length_cons];omega)
  have e2:inB 0 ((45:UInt8) :: Lib.decDigits u).length=true:=qae (i:=0) (by simp)
  have e3:iEq (strAt ((45:UInt8) :: Lib.decDigits u) 0) 45=true:=by rfl
  have e4:inS 1 (lenI ((45:UInt8) :: Lib.decDigits u)) ((45:UInt8) :: Lib.decDigits u).length=true:=by unfold inS;rw [qaa];simp;omega
  have e5:dropL ((45:UInt8) :: Lib.decDigits u) 1=Lib.decDigits u:=rfl
  have e6:iSub .i64 0 (u:Int) = -(u:Int):=(qi9 (by omega) (by omega)).trans (by omega)
  rw [e1,e2,e3,e4,e5,qadi (by omega)]
  simp only [cond_true,Option.bind_some]
  rw [e6,qag (by omega)]
 ·obtain ⟨u,rfl⟩:=Int.eq_ofNat_of_zero_le (by omega:0≤n)
  rw [qy8,qadi (by omega)]
  by_cases hl:1<(Lib.decDigits u).length
  ·have e1:iLt 1 (lenI (Lib.decDigits u))=true:=qag (by rw [qaa];omega)
   have e2:inB 0 (Lib.decDigits u).length=true:=qae (i:=0) (by omega)
   have e3:iEq (strAt (Lib.decDigits u) 0) 45=false:=by
    obtain ⟨hd,-⟩:=qcp u
    cases hq:Lib.decDigits u with
    | nil=>rw [hq] at hl;simp at hl
    | cons c r =>
     rw [hq] at hd
     simp only [List.all_cons,Bool.and_eq_true,digB,decide_eq_true_eq] at hd
     apply qa5
     show (c.toNat:Int)≠45
     omega
   rw [e1,e2,e3]
   rfl
  ·rw [qah (by rw [qaa];omega)]
   rfl
theorem qqx {a:Nat} (h:goodN a):qa4 (hex8 a)=some ((a,true,()),()):=by
 obtain ⟨y,h1,h2⟩:=qabr (hex8 a)
 rw [h1,h2 a h,show numR (hex8 a)=some a from h]
 rfl
theorem qaby {x:DMark} (h:MarkOK x):qmp (markL x)=some ((x,true,()),()):=by
 have hlen:=markL_length h
 obtain ⟨g1,g2⟩:=h.good
 obtain ⟨⟨n1,n2⟩,n3,n4⟩:=h.nums
 have hs:=qq1 32 (s:=markL x) (by omega)
 rw [qyl] at hs
 have w0:=qu6 (n:=Vec.getD 3 x.1 0 (0:Int)) h.c0.1 (by have:=h.c0.2;omega)
 have w1:=qu6 (n:=Vec.getD 3 x.1 1 (0:Int)) h.c1.1 (by have:=h.c1.2;omega)
 have w2:=qu6 (n:=Vec.getD 3 x.1 2 (0:Int)) h.c2.1 (by have:=h.c2.2;omega)
 have w3:=qu6 (n:=x.2.2.2.2.1) (by omega) n4
 have r0:qa4 (hex8 (Vec.getD 3 x.2.1 0 (0:Nat)))=_:=qqx g1.1
 have r1:qa4 (hex8 (Vec.getD 3 x.2.1 1 (0:Nat)))=_:=qqx g1.2.1
 have r2:qa4 (hex8 (Vec.getD 3 x.2.1 2 (0:Nat)))=_:=qqx g1.2.2
 have r3:=qqx g2
 have q:=qwx (n:=x.2.2.2.1.toNat) (by omega)
 rw [← qur (by omega:0≤x.2.2.2.1),Int.toNat_of_nonneg (by omega)] at q
 have i0 : ∀ c:Int,-1000000≤c→c≤1000000→(iLe (-2147483648) c&&iLe c 2147483647)=true:=fun c a b=>by rw [qaz (by omega),qaz (by omega)];rfl
 unfold qmp
 rw [show qd6 (markL x) (32:Int)=_ from hs]
 simp only [Option.bind_some]
 have hl:iEq (lenI (markW x)) 9=true:=rfl
 have b : ∀ k:Nat,k<9→inB (k:Int) (markW x).length=true:=fun k hk=>qae (show k<9 from hk)
 rw [hl,show inB 0 (markW x).length=true from b 0 (by omega),show inB 1 (markW x).length=true from b 1 (by omega),show inB 2 (markW x).length=true from b 2 (by omega),show inB 3 (markW x).length=true from b 3 (by omega),show inB 4 (markW x).length=true from b 4 (by omega),show inB 5 (markW x).length=true from b 5 (by omega),show inB 6 (markW x).length=true from b 6 (by omega),show inB 7 (markW x).length=true from b 7 (by omega),show inB 8 (markW x).length=true from b 8 (by omega)]
 simp only [Bool.not_true,cond_false,cond_true]
 rw [show List.getD (markW x) 0 ([]:List UInt8)=_ from rfl,show List.getD (markW x) 1 ([]:List UInt8)=_ from rfl,show List.getD (markW x) 2 ([]:List UInt8)=_ from rfl]
 rw [show qbr (List.getD (markW x) 0 ([]:List UInt8))=_ from w0,show qbr (List.getD (markW x) 1 ([]:List UInt8))=_ from w1,show qbr (List.getD (markW x) 2 ([]:List UInt8))=_ from w2,show qbr (List.getD (markW x) 8 ([]:List UInt8))=_ from w3,
  show qa4 (List.getD (markW x) 3 ([]:List UInt8))=_ from r0,show qa4 (List.getD (markW x) 4 ([]:List UInt8))=_ from r1,show qa4 (List.getD (markW x) 5 ([]:List UInt8))=_ from r2,show qa4 (List.getD (markW x) 6 ([]:List UInt8))=_ from r3,show qbu (List.getD (markW x) 7 ([]:List UInt8))=_ from q]
 simp only [Option.bind_some,qcb,i0 _ h.c0.1 h.c0.2,i0 _ h.c1.1 h.c1.2,i0 _ h.c2.1 h.c2.2,Bool.not_true,cond_false,cond_true,qn7 h.c0.1 h.c0.2,qn7 h.c1.1 h.c1.2,qn7 h.c2.1 h.c2.2]
 rfl
end
end Go.Proofs.YtjhdoneobdbeaaaGreatDoor
