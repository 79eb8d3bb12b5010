import Derived.Test.YtjhdoneobdbeaaaGreatDoorP5
/- Functions of the program and of the reference in plain terms. -/
set_option linter.unusedSectionVars false
set_option linter.unusedSimpArgs false
set_option linter.unusedVariables false
namespace Go.Proofs.YtjhdoneobdbeaaaGreatDoor
open Go Go.Tm
section
theorem qag5 {v:Vec 3 Nat} {a b c:Nat} (ha:cF a) (hb:cF b) (hc:cF c):FitVec (fltFit .f32) 3 (Vec.set 3 (Vec.set 3 (Vec.set 3 v 0 a) 1 b) 2 c):=⟨ha,hb,hc,trivial⟩
theorem qagn {side:Nat} (hs:sideB side=true) {m:DMap} (hm:MapOK side m) {v:Vec 3 Nat} (hv:FitVec (fltFit .f32) 3 v) {w:Nat} (hwc:fltFit .f32 w) (t:Int) (g:Nat) :
  ∃ (m':DMap) (c:Vec 3 Int) (o:Bool) (code:Int),qi5 m v w t g=some (((m',c,o,code,()):DSeen),(m,())) ∧
  ∃ (m2:DMap) (c2:Vec 3 Int) (o2:Bool),qhm m v w t g=some (((m2,c2,o2,code,()):DSeen),())∧(code=0→m2=m'∧MapOK side m'):=by
 obtain ⟨hsd,hl,hM,hk⟩:=hm
 subst hsd
 obtain ⟨b,code,hn,hb,h6,hn2⟩:=qagl (m:=m) (by omega) v g
 have hsw:sideB w=(finB w&&fLt .f32 0 w):=rfl
 have i66:iEq (6:Int) 6=true:=by decide
 have i60:iEq (6:Int) 0=false:=by decide
 have i00:iEq (0:Int) 0=true:=by decide
 have early : ∀ {q:Int},q≠0→(q=0 → ∀ {P:Prop},P):=fun h h0=>absurd h0 h
 by_cases hc:code=0
 ·subst hc
  have r0:room (0+m.2.1.length) 48=true:=qa2 (by omega)
  rcases hb with rfl | ⟨b0,b1⟩
  ·have hn2:qc3 m v g=some ((0,6,()),()):=hn2
   have e0:iLe 0 (-1:Int)=false:=by decide
   unfold qi5 qhm
   simp only [qcu,qgt,hn,qde,qhk,hn2,qyd (m:=m) (by omega),Option.bind_some,i66,i60,i00,hsw]
   cases hw:finB w with
   | false=>exact ⟨_,_,_,_,rfl,_,_,_,rfl,fun h=>absurd h (by decide)⟩
   | true =>
    cases hw0:fLt .f32 0 w with
    | false=>exact ⟨_,_,_,_,rfl,_,_,_,rfl,fun h=>absurd h (by decide)⟩
    | true =>
     cases ht:timeB t with
     | false=>exact ⟨_,_,_,_,rfl,_,_,_,rfl,fun h=>absurd h (by decide)⟩
     | true =>
      have hsw':sideB w=true:=by rw [hsw,hw,hw0];rfl
      rw [r0,e0]
      simp only [Bool.not_true,Bool.not_false,Bool.and_self,cond_false,cond_true,List.nil_append]
      exact qx9 hs hM hl hk hv hsw' hwc (by omega) (by omega) ht _ _ m ()
  ·obtain ⟨k,rfl⟩:=Int.eq_ofNat_of_zero_le b0
   have hn2:qc3 m v g=some (((k:Int),0,()),()):=by
    rw [hn2,i00,qag (by omega:¬ (k:Int)<0)]
    rfl
   have hkl:k<m.2.1.length:=by omega
   have e0:iLe 0 (k:Int)=true:=qay (by omega)
   have e1:inB (k:Int) m.2.1.length=true:=qae hkl
   have e2:inS 0 (k:Int) m.2.1.length=true:=by unfold inS;simp;omega
   have e5:iAdd .i64 (k:Int) 1=((k+1:Nat):Int):=(qdt (by omega) (by omega)).trans (by omega)
   have e6:inS ((k+1:Nat):Int) (lenI m.2.1) m.2.1.length=true:=by unfold inS;rw [qaa];simp;omega
   have t1:takeL m.2.1 (k:Int)=m.2.1.take k:=by unfold takeL;rw [Int.toNat_natCast]
   have t2:dropL m.2.1 ((k+1:Nat):Int)=m.2.1.drop (k+1):=by unfold dropL;rw [Int.toNat_natCast]
   have l1:(m.2.1.take k).length=k:=by rw [List.length_take];omega
   have l2:(m.2.1.drop (k+1)).length=m.2.1.length-(k+1):=List.length_drop
   have r1:room (0+(m.2.1.take k).length) 48=true:=qa2 (by omega)
   have r2:room ((m.2.1.take k).length+(m.2.1.drop (k+1)).length) 48=true:=qa2 (by omega)
   have hsub:(m.2.1.take k++m.2.1.drop (k+1)).Sublist m.2.1:=by
    have h1:(m.2.1.take k++m.2.1.drop (k+1)).Sublist (m.2.1.take k++m.2.1.drop k):=List.Sublist.append (List.Sublist.refl _) (by
     rw [← List.getElem_cons_drop (h:=hkl)]
     exact List.sublist_cons_self _ _)
    rwa [List.take_append_drop] at h1
   have hM':Marks (m.2.1.take k++m.2.1.drop (k+1)):=⟨fun x hx=>hM.1 x (hsub.mem hx),hM.2.sublist hsub⟩
   have hl':(m.2.1.take k++m.2.1.drop (k+1)).length≤200:=Nat.le_trans hsub.length_le hl
   have hk' : ∀ y∈m.2.1.take k++m.2.1.drop (k+1),MarkOK y:=fun y hy=>hk y (hsub.mem hy)
   have hold:=hk _ (List.getElem_mem hkl)
   have hdel:qf6 m.2.1 (k:Int) ((k+1:Nat):Int)=some ((m.2.1.take k++m.2.1.drop (k+1),()),()):=qaar TyMark m.2.1 k hkl
   have hgd:List.getD m.2.1 (Int.toNat (k:Int)) (((0,0,0,()),(0,0,0,()),0,0,0,()):DMark)=m.2.1[k]:=by
    rw [Int.toNat_natCast];exact qan hkl
   unfold qi5 qhm
   simp only [qcu,qgt,hn,qde,qhk,hn2,qyd (m:=m) (by omega),Option.bind_some,i00,hsw]
   cases hw:finB w with
   | false=>exact ⟨_,_,_,_,rfl,_,_,_,rfl,fun h=>absurd h (by decide)⟩
   | true =>
    cases hw0:fLt .f32 0 w with
    | false=>exact ⟨_,_,_,_,rfl,_,_,_,rfl,fun h=>absurd h (by decide)⟩
    | true =>
     cases ht:timeB t with
     | false=>exact ⟨_,_,_,_,rfl,_,_,_,rfl,fun h=>absurd h (by decide)⟩
     | true =>
      rw [r0,e0,e1,e2,t1,r1,e5,e6,t2]
      simp only [Bool.not_true,Bool.not_false,Bool.and_self,cond_false,cond_true,List.nil_append]
      rw [r2,hdel,hgd]
      simp only [cond_true,Option.bind_some]
      generalize m.2.1[k]=x at hold
      obtain ⟨x1,x2,⟨x3,x4⟩,x5⟩:=qo5 hold.ok
      have hseen:iAdd .i64 x.2.2.2.1 1=x.2.2.2.1+1:=qdt (by omega) (by omega)
      have hmn:1≤min (x.2.2.2.1+1) 1000000∧min (x.2.2.2.1+1) 1000000≤1000000:=by omega
      have hmx:timeB (max x.2.2.2.2.1 t)=true:=by
       unfold timeB at ht x5 ⊢
       simp only [Bool.and_eq_true,qog] at ht x5 ⊢
       omega
      have hfin:qcz [fAdd .f32 x.2.2.1 w]=some ((finB (fAdd .f32 x.2.2.1 w),()),()):=by
       rw [qie _ (by simp)]
       simp
      simp only [qadf,qakj,Option.bind_some,hseen,hfin,qan8,qan7]
      cases hf:finB (fAdd .f32 x.2.2.1 w) with
      | false=>exact qx9 hs hM' hl' hk' (qag5 (qyb _ _) (qyb _ _) (qyb _ _)) x2 hold.wt hmn.1 hmn.2 hmx _ _ m ()
      | true =>
       have hx2:=x2
       unfold sideB at hx2
       rw [Bool.and_eq_true] at hx2
       have hsum:sideB (fAdd .f32 x.2.2.1 w)=true:=by
        unfold sideB
        rw [hf,qafj hx2.1 hx2.2 hw hw0 hf]
        rfl
       exact qx9 hs hM' hl' hk' (qag5 (qyb _ _) (qyb _ _) (qyb _ _)) hsum (qaph _ _) hmn.1 hmn.2 hmx _ _ m ()
 ·have ic:iEq code 0=false:=qat hc
  have ic6:iEq code 6=false:=qat h6
  rw [ic] at hn2
  have hn2:qc3 m v g=some ((0,code,()),()):=hn2
  unfold qi5 qhm
  simp only [qcu,qgt,hn,qde,qhk,hn2,Option.bind_some,ic,ic6,hsw]
  cases hw:finB w with
  | false=>exact ⟨_,_,_,_,rfl,_,_,_,rfl,fun h=>absurd h (by decide)⟩
  | true =>
   cases hw0:fLt .f32 0 w with
   | false=>exact ⟨_,_,_,_,rfl,_,_,_,rfl,fun h=>absurd h (by decide)⟩
   | true =>
    cases ht:timeB t with
    | false=>exact ⟨_,_,_,_,rfl,_,_,_,rfl,fun h=>absurd h (by decide)⟩
    | true=>exact ⟨_,_,_,_,rfl,_,_,_,rfl,fun h=>absurd h hc⟩
theorem qakq {side:Nat} (hs:sideB side=true) {m:DMap} (hm:MapOK side m) {v:Vec 3 Nat} (hv:FitVec (fltFit .f32) 3 v) {w:Nat} (hwc:fltFit .f32 w) (t:Int) (g:Nat) :
  ∃ (m':DMap) (c:Vec 3 Int) (code:Int),qio m v w t g=some ((m',c,code,()),()) ∧
  ∃ (m2:DMap) (c2:Vec 3 Int),qh8 m v w t g=some ((m2,c2,code,()),())∧(code=0→m2=m'∧MapOK side m'):=by
 obtain ⟨m',c,o,code,h1,m2,c2,o2,h2,h3⟩:=qagn hs hm hv hwc t g
 have hv1:=qid m hm.sized
 have hv2:=qiz m hm.sized
 rw [hm.valid hs] at hv1 hv2
 unfold qio qh8
 rw [hv1,hv2,Option.bind_some,Option.bind_some]
 simp only [Bool.not_true,cond_false]
 rw [h1,h2]
 simp only [Option.bind_some]
 by_cases hc:code=0
 ·subst hc
  exact ⟨_,_,_,rfl,_,_,rfl,fun _=>h3 rfl⟩
 ·rw [qat hc]
  exact ⟨_,_,_,rfl,_,_,rfl,fun h=>absurd h hc⟩
theorem qam1 (l:List DMark) (x:DMark):l.length≤(putL l x).length:=by
 rw [qac8]
 cases foundB l x.1 <;> simp
theorem qaeb : ∀ (xs:List DMark) (l:List DMark),l.length≤(xs.foldl putL l).length
 | [],_=>Nat.le_refl _
 | x :: xs,l=>Nat.le_trans (qam1 l x) (qaeb xs (putL l x))
theorem qajd {side:Nat} (hs:sideB side=true) {m n:DMap} (hm:MapOK side m) (hn:MapOK side n) :
  ∃ (r:DMap) (code:Int),qhs m n=some ((r,code,()),()) ∧ ∃ r2:DMap,qhf m n=some ((r2,code,()),())∧(code=0→r2=r∧MapOK side r∧r.2.1=n.2.1.foldl putL m.2.1)∧(code≠0→200<(n.2.1.foldl putL m.2.1).length):=by
 have k1:=qid m hm.sized
 have k2:=qiz m hm.sized
 have k3:=qid n hn.sized
 have k4:=qiz n hn.sized
 rw [hm.valid hs] at k1 k2
 rw [hn.valid hs] at k3 k4
 have hfs:isNan .f32 side=false:=qacz (by unfold sideB at hs;simp only [Bool.and_eq_true] at hs;exact hs.1)
 have e1:qkg m n=some ((0,()),()):=by
  unfold qkg
  rw [k1,k3]
  simp only [Option.bind_some,Bool.not_true,cond_false,qef]
  rw [hm.side,hn.side,qm7]
  rfl
 have e2:qo9 m n=some ((0,()),()):=by
  unfold qo9
  rw [k2,k4]
  simp only [Option.bind_some,Bool.not_true,cond_false]
  rw [hm.side,hn.side,qjs,hfs]
  rfl
 have hl:=hm.len
 have hnl:=hn.len
 have r0:room (0+m.2.1.length) 48=true:=qa2 (by omega)
 have hspec : ∀ (d i:Nat),i+d=n.2.1.length → ∀ l:List DMark,l.length≤200+i→run (qdv n m) (l,(i:Int),()) =
   (qci m.1 ((n.2.1.drop i).foldl putL l)).bind fun y=>some ((y.1.1,y.1.2.1,()),()):=by
  intro d
  induction d with
  | zero =>
   intro i hi l _
   have hi:i=n.2.1.length:=by omega
   subst hi
   obtain ⟨q,hq⟩ : ∃ q,(qci m.1 l).bind (fun y=>some ((y.1.1,y.1.2.1,()),()))=some q:=by
    unfold qci
    cases iLt 200 (lenI l) <;> exact ⟨_,rfl⟩
   rw [List.drop_length,List.foldl_nil,hq]
   refine qai ?_
   unfold qdv
   simp only
   rw [qag (by rw [qaa];omega),cond_false,hq]
   rfl
  | succ d ih =>
   intro i hi l hll
   have hlt:i<n.2.1.length:=by omega
   have hstep:qdv n m (l,(i:Int),())=some (.inl (putL l n.2.1[i],((i+1:Nat):Int),())):=by
    unfold qdv
    simp only
    rw [qah (by rw [qaa];omega),qae hlt,Int.toNat_natCast,qan hlt,qaaj (by omega),qaq hlt (by omega)]
    rfl
   rw [qaj hstep,ih (i+1) (by omega) _ (by
    have:(putL l n.2.1[i]).length≤l.length+1:=by rw [qac8];cases foundB l (n.2.1[i]).1 <;> simp
    omega),← List.getElem_cons_drop (h:=hlt),List.foldl_cons]
 have himpl : ∀ (d i:Nat),i+d=n.2.1.length → ∀ l:List DMark,l.length≤200→Marks l→(∀ y∈l,MarkOK y) →
   (((n.2.1.drop i).foldl putL l).length≤200→run (qcs n) ((i:Int),((m.1,l,()):DMap),())=some ((((m.1,(n.2.1.drop i).foldl putL l,()):DMap),0,()),())∧Marks ((n.2.1.drop i).foldl putL l) ∧ ∀ y∈(n.2.1.drop i).foldl putL l,MarkOK y) ∧
   (200<((n.2.1.drop i).foldl putL l).length→run (qcs n) ((i:Int),((m.1,l,()):DMap),())=some ((((0,[],()):DMap),3,()),())):=by
  intro d
  induction d with
  | zero =>
   intro i hi l hl hM hk
   have hi:i=n.2.1.length:=by omega
   subst hi
   rw [List.drop_length,List.foldl_nil]
   refine ⟨fun _=>⟨qai ?_,hM,hk⟩,fun h=>by omega⟩
   unfold qcs
   simp only
   rw [qag (by rw [qaa];omega)]
   rfl
  | succ d ih =>
   intro i hi l hl hM hk
   have hlt:i<n.2.1.length:=by omega
   have hx:MarkOK n.2.1[i]:=hn.all _ (List.getElem_mem hlt)
   have hput:=qaf8 (m:=((m.1,l,()):DMap)) hl hM hk hx
   rw [← List.getElem_cons_drop (h:=hlt),List.foldl_cons]
   cases hf:fullB l n.2.1[i] with
   | true =>
    have h200:200<(putL l n.2.1[i]).length:=by
     have:=qve hl (x:=n.2.1[i])
     rw [hf,qaa] at this
     have:=of_decide_eq_true this
     omega
    have h3:=qaeb (n.2.1.drop (i+1)) (putL l n.2.1[i])
    refine ⟨fun h=>by omega,fun _=>qai ?_⟩
    rw [hf] at hput
    unfold qcs
    simp only
    rw [qah (by rw [qaa];omega),qae hlt,Int.toNat_natCast,qan hlt]
    rw [show qa4 ((m.1,l,()):DMap) n.2.1[i]=_ from hput]
    rfl
   | false =>
    have h200:(putL l n.2.1[i]).length≤200:=by
     have:=qve hl (x:=n.2.1[i])
     rw [hf,qaa] at this
     have:=of_decide_eq_false this
     omega
    have hstep:qcs n ((i:Int),((m.1,l,()):DMap),())=some (.inl (((i+1:Nat):Int),((m.1,putL l n.2.1[i],()):DMap),())):=by
     rw [hf] at hput
     unfold qcs
     simp only
     rw [qah (by rw [qaa];omega),qae hlt,Int.toNat_natCast,qan hlt]
     rw [show qa4 ((m.1,l,()):DMap) n.2.1[i]=_ from hput,qaq hlt (by omega)]
     rfl
    rw [qaj hstep]
    exact ih (i+1) (by omega) _ h200 (qaeo (by omega) hM hx.ok).1 (fun y hy=>(qaij hy).elim (hk y) (fun h=>h▸hx))
 have q1:=hspec n.2.1.length 0 (by omega) m.2.1 (by omega)
 have q2:=himpl n.2.1.length 0 (by omega) m.2.1 hl hm.marks hm.all
 rw [List.drop_zero] at q1 q2
 unfold qhs qhf
 rw [e1,e2,qyd (m:=m) (by omega)]
 simp only [Option.bind_some]
 rw [r0]
 have i00:iEq (0:Int) 0=true:=by decide
 rw [i00]
 simp only [Bool.not_true,cond_false,cond_true,List.nil_append]
 rw [show run (qdv n m) (m.2.1,(0:Int),())=_ from q1]
 unfold qci
 by_cases h:200<(n.2.1.foldl putL m.2.1).length
 ·rw [qah (by rw [qaa];omega)]
  exact ⟨_,_,rfl,_,q2.2 h,fun h0=>absurd h0 (by decide),fun _=>h⟩
 ·rw [qag (by rw [qaa];omega)]
  obtain ⟨a1,a2,a3⟩:=q2.1 (by omega)
  exact ⟨_,_,rfl,_,a1,fun _=>⟨rfl,⟨hm.side,by show (n.2.1.foldl putL m.2.1).length≤200;omega,a2,a3⟩,rfl⟩,fun h0=>absurd rfl h0⟩
end
section
def wMap:List UInt8:=[109,97,112]
def markW (x:DMark):List (List UInt8):=[Lib.itoa (Vec.getD 3 x.1 0 (0:Int)),Lib.itoa (Vec.getD 3 x.1 1 (0:Int)),Lib.itoa (Vec.getD 3 x.1 2 (0:Int)),hex8 (Vec.getD 3 x.2.1 0 (0:Nat)),hex8 (Vec.getD 3 x.2.1 1 (0:Nat)),hex8 (Vec.getD 3 x.2.1 2 (0:Nat)),hex8 x.2.2.1,Lib.itoa x.2.2.2.1,Lib.itoa x.2.2.2.2.1]
def markL (x:DMark):List UInt8:=joinC 32 (markW x)
def mapH (side:Nat):List UInt8:=joinC 32 [wMap,hex8 side]
def mapL (m:DMap):List (List UInt8):=mapH m.1 :: m.2.1.map markL
def mapT (m:DMap):List UInt8:=linesT (mapL m)
theorem MarkOK.good {x:DMark} (h:MarkOK x):goodV x.2.1∧goodN x.2.2.1:=⟨qakd h.at',qh0 h.wt⟩
theorem MarkOK.nums {x:DMark} (h:MarkOK x):(1≤x.2.2.2.1∧x.2.2.2.1≤1000000)∧0≤x.2.2.2.2.1∧x.2.2.2.2.1≤1000000000:=by
 obtain ⟨-,-,a,b⟩:=qo5 h.ok
 refine ⟨a,?_⟩
 unfold timeB at b
 simp only [Bool.and_eq_true,qog] at b
 exact b
theorem qml {k u:Nat} (h:u<10^(k+1)):(Lib.decDigits u).length≤k+1:=(qir k u h).2.2.1
theorem qdx {n:Int} (h : -1000000≤n) (h1:n≤1000000):(Lib.itoa n).length≤8:=by
 by_cases h0:0≤n
 ·rw [qrj h0]
  have:=qml (k:=6) (u:=n.toNat) (by omega)
  omega
 ·obtain ⟨u,rfl⟩ : ∃ u:Nat,n = -(u:Int):=⟨n.natAbs,by omega⟩
  rw [Lib.itoa_neg u (by omega)]
  have:=qml (k:=6) (u:=u) (by omega)
  simp
  omega
theorem qvj {n:Int} (h:0≤n) (h1:n≤1000000000):(Lib.itoa n).length≤10:=by
 rw [qrj h]
 have:=qml (k:=9) (u:=n.toNat) (by omega)
 omega
theorem markL_length {x:DMark} (h:MarkOK x):(markL x).length≤82:=by
 have l0:=qdx h.c0.1 h.c0.2
 have l1:=qdx h.c1.1 h.c1.2
 have l2:=qdx h.c2.1 h.c2.2
 obtain ⟨⟨n1,n2⟩,n3,n4⟩:=h.nums
 have l3:=qdx (n:=x.2.2.2.1) (by omega) n2
 have l4:=qvj n3 n4
 unfold markL markW
 simp only [joinC,List.length_append,List.length_cons,List.length_nil,qcy]
 omega
theorem qff (s:Nat):(mapH s).length=12:=by
 unfold mapH wMap
 simp [joinC,qcy]
theorem qxl {B:Nat} : ∀ Ls:List (List UInt8),(∀ x∈Ls,x.length+1≤B)→(linesT Ls).length≤Ls.length*B
 | [],_=>Nat.zero_le _
 | x :: r,h=>by
  have h1:=h x (by simp)
  have h2:=qxl r (fun y hy=>h y (by simp [hy]))
  unfold linesT at h2 ⊢
  rw [List.flatMap_cons,List.length_append,List.length_append]
  simp only [List.length_cons,List.length_nil]
  rw [Nat.add_mul]
  omega
theorem qzd {side:Nat} {m:DMap} (h:MapOK side m):(mapT m).length≤20000:=by
 have h1:=qxl (B:=83) (mapL m) (fun x hx=>by
  rcases List.mem_cons.1 hx with rfl | hx
  ·rw [qff];omega
  ·obtain ⟨y,hy,rfl⟩:=List.mem_map.1 hx
   have:=markL_length (h.all y hy)
   omega)
 have h2:(mapL m).length=m.2.1.length+1:=by simp [mapL]
 have:=h.len
 unfold mapT
 omega
theorem qabx {c:UInt8} (hc:c=32∨c=10) (x:DMark) : ∀ w∈markW x,c∉w:=by
 intro w hw
 unfold markW at hw
 simp only [List.mem_cons,List.mem_nil_iff,or_false] at hw
 rcases hw with rfl | rfl | rfl | rfl | rfl | rfl | rfl | rfl | rfl <;> first | exact qakh hc _ | exact qxb hc 8 _
theorem qali {c:UInt8} (hc:c=32∨c=10):c∉wMap:=by rcases hc with rfl | rfl <;> decide
theorem qaay {c:UInt8} (hc:c=32∨c=10) (s:Nat) : ∀ w∈[wMap,hex8 s],c∉w:=by
 intro w hw
 simp only [List.mem_cons,List.mem_nil_iff,or_false] at hw
 rcases hw with rfl | rfl
 ·exact qali hc
 ·exact qxb hc 8 _
theorem qakp (m:DMap) : ∀ x∈mapL m,(10:UInt8)∉x:=by
 intro x hx
 rcases List.mem_cons.1 hx with rfl | hx
 ·exact qxj (by decide) _ (qaay (.inr rfl) _)
 ·obtain ⟨y,_,rfl⟩:=List.mem_map.1 hx
  exact qxj (by decide) _ (qabx (.inr rfl) y)
theorem qabv (m:DMap):splitC 10 (mapT m)=mapL m++[[]]:=qzo _ (qakp m)
theorem qze (x:DMark):splitC 32 (markL x)=markW x:=qvu 32 _ (by simp [markW]) (qabx (.inl rfl) x)
theorem qajb (s:Nat):splitC 32 (mapH s)=[wMap,hex8 s]:=qvu 32 _ (by simp) (qaay (.inl rfl) s)
theorem qoy {n:Int} (h : -1000000≤n) (h1:n≤1000000):iWrap .i32 n=n:=by simp [iWrap,IntKind.wrap,IntKind.signed,IntKind.bits];omega
theorem qhh {n:Int} (h : -1000000≤n) (h1:n≤1000000):qdc n=some ((Lib.itoa n,()),()):=by
 have w0:iWrap .i64 n=n:=wrap_i64 (by omega) (by omega)
 unfold qdc qbp
 have e:(iEq 10 10&&(iLe (-9223372036854775808) (iWrap .i64 n)&&iLe (iWrap .i64 n) 9223372036854775807))=true:=by
  rw [w0,qay (by omega),qay (by omega)];rfl
 rw [e,w0]
 rfl
theorem qjg {n:Int} (h:0≤n) (h1:n≤1000000000000):qch n=some ((Lib.itoa n,()),()):=by
 obtain ⟨u,rfl⟩:=Int.eq_ofNat_of_zero_le h
 rw [(qgq (n:=u) (by omega)).1,qeu]
theorem qoq {n:Int} (h : -1000000≤n) (h1:n≤1000000):qfm (iWrap .i64 n)=some ((Lib.itoa n,()),()):=by
 rw [wrap_i64 (by omega) (by omega)]
 unfold qfm
 by_cases h0:n<0
 ·obtain ⟨u,rfl⟩ : ∃ u:Nat,n = -(u:Int):=⟨n.natAbs,by omega⟩
  have e:iSub .i64 0 (-(u:Int))=(u:Int):=(qfi (by omega) (by omega)).trans (by omega)
  rw [qah h0,e,qjg (by omega) (by omega),Lib.itoa_neg u (by omega),qeu]
  simp only [cond_true,Option.bind_some]
  have hl:=qml (k:=6) (u:=u) (by omega)
  rw [qcm (by simp;omega)]
  rfl
 ·rw [qag h0,cond_false,qjg (by omega) (by omega)]
  rfl
theorem qapm (a b c d e f g:List UInt8):Lib.join [a,b,c,d,e,f,g] [32]=a++[32]++b++[32]++c++[32]++d++[32]++e++[32]++f++[32]++g:=by
 simp [Lib.join,List.intercalate,List.intersperse]
theorem qabw (x:DMark):markL x=Lib.itoa (Vec.getD 3 x.1 0 (0:Int))++[32]++Lib.itoa (Vec.getD 3 x.1 1 (0:Int))++[32]++Lib.itoa (Vec.getD 3 x.1 2 (0:Int))++[32]++vecT x.2.1++[32]++hex8 x.2.2.1++[32]++Lib.itoa x.2.2.2.1++[32]++Lib.itoa x.2.2.2.2.1:=by
 unfold markL markW vecT
 simp [joinC]
 rfl
theorem qac4 {a:Nat} {l:List DMark} {u:Unit} {i:Nat} (hi:i<l.length) (hl:l.length≤200) (hx:MarkOK l[i]) {out:List UInt8} (ho:out.length≤1000000) :
  qgg ((a,l,u):DMap) ((i:Int),((),bytesOf out,()),())=some (.inl (((i+1:Nat):Int),((),bytesOf (out++(markL l[i]++[10])),()),())):=by
 have e1:iLt (i:Int) (lenI l)=true:=qah (by rw [qaa];omega)
 have e2:inB (i:Int) l.length=true:=qae hi
 have e5:iAdd .i64 (i:Int) 1=((i+1:Nat):Int):=qaq hi (by omega)
 have hgd:List.getD l (i:Int).toNat (((0,0,0,()),(0,0,0,()),0,0,0,()):DMark)=l[i]:=by rw [Int.toNat_natCast];exact qan hi
 unfold qgg
 simp only
 rw [e1,e2,hgd,e5]
 generalize l[i]=x at hx
 obtain ⟨g1,g2⟩:=hx.good
 obtain ⟨⟨n1,n2⟩,n3,n4⟩:=hx.nums
 have hlen:=markL_length hx
 rw [qhh hx.c0.1 hx.c0.2,qhh hx.c1.1 hx.c1.2,qhh hx.c2.1 hx.c2.2,qaa5 g1,qda (qoe g2),qbu (by omega) (by omega),qbu (by omega) (by omega)]
 simp only [cond_true,Option.bind_some]
 have hj:strings_Join [Lib.itoa (Vec.getD 3 x.1 0 (0:Int)),Lib.itoa (Vec.getD 3 x.1 1 (0:Int)),Lib.itoa (Vec.getD 3 x.1 2 (0:Int)),vecT x.2.1,hexP 8 (bitsOf x.2.2.1),Lib.itoa x.2.2.2.1,Lib.itoa x.2.2.2.2.1] [32]=some ((markL x,()),()):=by
  have:Lib.join [Lib.itoa (Vec.getD 3 x.1 0 (0:Int)),Lib.itoa (Vec.getD 3 x.1 1 (0:Int)),Lib.itoa (Vec.getD 3 x.1 2 (0:Int)),vecT x.2.1,hexP 8 (bitsOf x.2.2.1),Lib.itoa x.2.2.2.1,Lib.itoa x.2.2.2.2.1] [32]=markL x:=by
   rw [qapm,qabw];rfl
  unfold strings_Join
  rw [this,show Nat.ble (markL x).length 140737488355328=true from by rw [Nat.ble_eq];omega]
  rfl
 rw [hj]
 simp only [Option.bind_some]
 rw [qcm (by simp;omega)]
 simp only [cond_true]
 rw [show strCat (markL x) [10]=markL x++[10] from rfl,qwz (by simp;omega)]
 rfl
theorem qadm {a:Nat} {l:List DMark} {u:Unit} {i:Nat} (hi:i<l.length) (hl:l.length≤200) (hx:MarkOK l[i]) {out:List UInt8} (ho:out.length≤1000000) :
  qgw ((a,l,u):DMap) (out,(i:Int),())=some (.inl (out++(markL l[i]++[10]),((i+1:Nat):Int),())):=by
 have e1:iLt (i:Int) (lenI l)=true:=qah (by rw [qaa];omega)
 have e2:inB (i:Int) l.length=true:=qae hi
 have e5:iAdd .i64 (i:Int) 1=((i+1:Nat):Int):=qaq hi (by omega)
 have hgd:List.getD l (i:Int).toNat (((0,0,0,()),(0,0,0,()),0,0,0,()):DMark)=l[i]:=by rw [Int.toNat_natCast];exact qan hi
 unfold qgw
 simp only
 rw [e1,e2,hgd,e5]
 generalize l[i]=x at hx
 obtain ⟨g1,g2⟩:=hx.good
 obtain ⟨⟨n1,n2⟩,n3,n4⟩:=hx.nums
 have l0:=qdx hx.c0.1 hx.c0.2
 have l1:=qdx hx.c1.1 hx.c1.2
 have l2:=qdx hx.c2.1 hx.c2.2
 have l3:=qdx (n:=x.2.2.2.1) (by omega) n2
 have l4:=qvj n3 n4
 have l5:=qah1 x.2.1
 have l6:=qcy x.2.2.1
 rw [qoq hx.c0.1 hx.c0.2,qoq hx.c1.1 hx.c1.2,qoq hx.c2.1 hx.c2.2,qacf g1,qt6 g2,qjg (by omega) (by omega),qjg (by omega) (by omega)]
 simp only [cond_true,Option.bind_some,strCat]
 iterate 14 (rw [qcm (by simp only [List.length_append,List.length_cons,List.length_nil];omega)];simp only [cond_true])
 rw [qabw]
 simp only [List.append_assoc]
end
section
theorem qaej (m:DMap):mapT m=mapH m.1++[10]++(m.2.1.map markL).flatMap (fun x=>x++[10]):=by
 unfold mapT linesT mapL
 rw [List.flatMap_cons]
theorem qsu (s:Nat):mapH s=[109,97,112,32]++hex8 s:=by
 unfold mapH wMap
 simp [joinC]
theorem qabb {side:Nat} (hg:fltFit .f32 side) {m:DMap} (h:MapOK side m):qmu m=some ((mapT m,()),()):=by
 obtain ⟨a,l,⟨⟩⟩:=m
 obtain ⟨hsd,hl,-,hk⟩:=h
 have hsd:a=side:=hsd
 subst hsd
 have hl:l.length≤200:=hl
 have hk : ∀ x∈l,MarkOK x:=hk
 have g:=qh0 hg
 unfold qmu
 simp only
 rw [qda (qoe g)]
 simp only [Option.bind_some]
 have l8:(hexP 8 (bitsOf a)).length=8:=qi3 8 _
 rw [qcm (by simp [l8]),qcm (by unfold strCat;simp [l8])]
 simp only [cond_true]
 have e0:strCat (strCat [109,97,112,32] (hexP 8 (bitsOf a))) [10]=mapH a++[10]:=by rw [qsu];rfl
 rw [e0,qaiy (by rw [List.length_append,qff];decide)]
 simp only [Option.bind_some]
 have hrun : ∀ (d i:Nat),i+d=l.length → ∀ out:List UInt8,out.length≤100+i*83→out≠[]→run (qgg ((a,l,()):DMap)) ((i:Int),((),bytesOf out,()),())=some ((out++((l.drop i).map markL).flatMap (fun x=>x++[10]),()),()):=by
  intro d
  induction d with
  | zero =>
   intro i hi out ho hne
   have hi:i=l.length:=by omega
   subst hi
   rw [List.drop_length]
   refine qai ?_
   unfold qgg
   simp only
   rw [qag (by rw [qaa];omega)]
   simp only [cond_false]
   rw [show bldStr ((),bytesOf out,())=some out from qah4 hne (by omega)]
   simp
  | succ d ih =>
   intro i hi out ho hne
   have hlt:i<l.length:=by omega
   have hx:=hk _ (List.getElem_mem hlt)
   have hlen:=markL_length hx
   rw [qaj (qac4 hlt hl hx (by omega)),ih (i+1) (by omega) _ (by simp;omega) (by simp),← List.getElem_cons_drop (h:=hlt),List.map_cons,List.flatMap_cons]
   simp only [List.append_assoc]
 have:=hrun l.length 0 (by omega) (mapH a++[10]) (by rw [List.length_append,qff];simp) (by simp)
 rw [List.drop_zero] at this
 rw [qaej]
 exact this
theorem qtg {side:Nat} (hg:fltFit .f32 side) {m:DMap} (h:MapOK side m):qhx m=some ((mapT m,()),()):=by
 obtain ⟨a,l,⟨⟩⟩:=m
 obtain ⟨hsd,hl,-,hk⟩:=h
 have hsd:a=side:=hsd
 subst hsd
 have hl:l.length≤200:=hl
 have hk : ∀ x∈l,MarkOK x:=hk
 have g:=qh0 hg
 unfold qhx
 simp only
 rw [qt6 g]
 simp only [Option.bind_some]
 have l8:=qcy a
 rw [qcm (by simp [l8]),qcm (by unfold strCat;simp [l8])]
 simp only [cond_true]
 have e0:strCat (strCat [109,97,112,32] (hex8 a)) [10]=mapH a++[10]:=by rw [qsu];rfl
 rw [e0]
 have hrun : ∀ (d i:Nat),i+d=l.length → ∀ out:List UInt8,out.length≤100+i*83→run (qgw ((a,l,()):DMap)) (out,(i:Int),())=some ((out++((l.drop i).map markL).flatMap (fun x=>x++[10]),()),()):=by
  intro d
  induction d with
  | zero =>
   intro i hi out ho
   have hi:i=l.length:=by omega
   subst hi
   rw [List.drop_length]
   refine qai ?_
   unfold qgw
   simp only
   rw [qag (by rw [qaa];omega)]
   simp
  | succ d ih =>
   intro i hi out ho
   have hlt:i<l.length:=by omega
   have hx:=hk _ (List.getElem_mem hlt)
   have hlen:=markL_length hx
   rw [qaj (qadm hlt hl hx (by omega)),ih (i+1) (by omega) _ (by simp;omega),← List.getElem_cons_drop (h:=hlt),List.map_cons,List.flatMap_cons]
   simp only [List.append_assoc]
 have:=hrun l.length 0 (by omega) (mapH a++[10]) (by rw [List.length_append,qff];simp)
 rw [List.drop_zero] at this
 rw [qaej]
 exact this
theorem qacb {side:Nat} (hs:sideB side=true) (hg:fltFit .f32 side) {m:DMap} (h:MapOK side m):qj1 m=some ((mapT m,()),()):=by
 have k:=qiz m h.sized
 rw [h.valid hs] at k
 unfold qj1
 rw [k,qtg hg h]
 rfl
theorem qxs {n:Nat} (h:n≤999999999):qbd (Lib.decDigits n)=some (((n:Int),true,()),()):=by
 obtain ⟨k,h1,h2⟩:=qiv (Lib.decDigits n)
 have hv:=(qbc n).2.1
 have ho:numOK 999999999 (Lib.decDigits n)=true:=qgo.2 ⟨n,h,rfl⟩
 rw [ho] at h1
 rw [h1,h2 ho,hv]
theorem qad3 {n:Nat} (h:n≤1000000000):qea (Lib.decDigits n)=some (((n:Int),true,()),()):=by
 by_cases h9:n≤999999999
 ·have hl:(Lib.decDigits n).length≤9:=qml (k:=8) (by omega)
  unfold qea
  rw [qat (by rw [qaa];omega),qxs h9]
  rfl
 ·have:n=1000000000:=by omega
  subst this
  have v1:valD 0 [49,48,48,48,48,48,48,48,48,48]=1000000000:=by decide
  have v2:valD 0 [49,48,48,48,48,48,48,48,48]=100000000:=by decide
  have e1:Lib.decDigits 1000000000=[49,48,48,48,48,48,48,48,48,48]:=by rw [← v1];exact qr7 9 _ rfl (by decide) (.inr ⟨_,_,rfl,by decide⟩)
  have e2:[49,48,48,48,48,48,48,48,48]=Lib.decDigits 100000000:=by rw [← v2];exact (qr7 8 _ rfl (by decide) (.inr ⟨_,_,rfl,by decide⟩)).symm
  have e3:takeL ([49,48,48,48,48,48,48,48,48,48]:List UInt8) 9=[49,48,48,48,48,48,48,48,48]:=rfl
  have n1:=qxs (n:=100000000) (by omega)
  rw [← e2] at n1
  unfold qea
  rw [e1,e3,n1]
  simp only [Option.bind_some,qcb]
  rfl
theorem qvy {n:Int} (h : -1000000≤n) (h1:n≤1000000000):qb5 (Lib.itoa n)=some ((n,true,()),()):=by
 unfold qb5
 by_cases h0:n<0
 ·obtain ⟨u,rfl⟩ : ∃ u:Nat,n = -(u:Int):=⟨n.natAbs,by omega⟩
  rw [Lib.itoa_neg u (by omega)]
  have hp:=qld u
  have e1:iLt 1 (lenI ((45:UInt8) :: Lib.decDigits u))=true:=qah (by rw [qaa,List.length_cons];omega)
  have e2:inB 0 ((45:UInt8) :: Lib.decDigits u).length=true:=qae (i:=0) (by simp)
  have e3:iEq (strAt ((45:UInt8) :: Lib.decDigits u) 0) 45=true:=by rfl
  have e4:inS 1 (lenI ((45:UInt8) :: Lib.decDigits u)) ((45:UInt8) :: Lib.decDigits u).length=true:=by unfold inS;rw [qaa];simp;omega
  have e5:dropL ((45:UInt8) :: Lib.decDigits u) 1=Lib.decDigits u:=rfl
  have e6:iSub .i64 0 (u:Int) = -(u:Int):=(qfi (by omega) (by omega)).trans (by omega)
  rw [e1,e2,e3,e4,e5,qad3 (by omega)]
  simp only [cond_true,Option.bind_some]
  rw [e6,qah (by omega)]
 ·obtain ⟨u,rfl⟩:=Int.eq_ofNat_of_zero_le (by omega:0≤n)
  rw [qeu,qad3 (by omega)]
  by_cases hl:1<(Lib.decDigits u).length
  ·have e1:iLt 1 (lenI (Lib.decDigits u))=true:=qah (by rw [qaa];omega)
   have e2:inB 0 (Lib.decDigits u).length=true:=qae (i:=0) (by omega)
   have e3:iEq (strAt (Lib.decDigits u) 0) 45=false:=by
    obtain ⟨hd,-⟩:=qbc u
    cases hq:Lib.decDigits u with
    | nil=>rw [hq] at hl;simp at hl
    | cons c r =>
     rw [hq] at hd
     simp only [List.all_cons,Bool.and_eq_true,digB,decide_eq_true_eq] at hd
     apply qat
     show (c.toNat:Int)≠45
     omega
   rw [e1,e2,e3]
   rfl
  ·rw [qag (by rw [qaa];omega)]
   rfl
theorem qrq {a:Nat} (h:goodN a):qba (hex8 a)=some ((a,true,()),()):=by
 obtain ⟨y,h1,h2⟩:=qach (hex8 a)
 rw [h1,h2 a h,show numR (hex8 a)=some a from h]
 rfl
theorem qaco {x:DMark} (h:MarkOK x):qnm (markL x)=some ((x,true,()),()):=by
 have hlen:=markL_length h
 obtain ⟨g1,g2⟩:=h.good
 obtain ⟨⟨n1,n2⟩,n3,n4⟩:=h.nums
 have hs:=qd9 32 (s:=markL x) (by omega)
 rw [qze] at hs
 have w0:=qvy (n:=Vec.getD 3 x.1 0 (0:Int)) h.c0.1 (by have:=h.c0.2;omega)
 have w1:=qvy (n:=Vec.getD 3 x.1 1 (0:Int)) h.c1.1 (by have:=h.c1.2;omega)
 have w2:=qvy (n:=Vec.getD 3 x.1 2 (0:Int)) h.c2.1 (by have:=h.c2.2;omega)
 have w3:=qvy (n:=x.2.2.2.2.1) (by omega) n4
 have r0:qba (hex8 (Vec.getD 3 x.2.1 0 (0:Nat)))=_:=qrq g1.1
 have r1:qba (hex8 (Vec.getD 3 x.2.1 1 (0:Nat)))=_:=qrq g1.2.1
 have r2:qba (hex8 (Vec.getD 3 x.2.1 2 (0:Nat)))=_:=qrq g1.2.2
 have r3:=qrq g2
 have q:=qxs (n:=x.2.2.2.1.toNat) (by omega)
 rw [← qrj (by omega:0≤x.2.2.2.1),Int.toNat_of_nonneg (by omega)] at q
 have i0 : ∀ c:Int,-1000000≤c→c≤1000000→(iLe (-2147483648) c&&iLe c 2147483647)=true:=fun c a b=>by rw [qay (by omega),qay (by omega)];rfl
 unfold qnm
 rw [show qbr (markL x) (32:Int)=_ from hs]
 simp only [Option.bind_some]
 have hl:iEq (lenI (markW x)) 9=true:=rfl
 have b : ∀ k:Nat,k<9→inB (k:Int) (markW x).length=true:=fun k hk=>qae (show k<9 from hk)
 rw [hl,show inB 0 (markW x).length=true from b 0 (by omega),show inB 1 (markW x).length=true from b 1 (by omega),show inB 2 (markW x).length=true from b 2 (by omega),show inB 3 (markW x).length=true from b 3 (by omega),show inB 4 (markW x).length=true from b 4 (by omega),show inB 5 (markW x).length=true from b 5 (by omega),show inB 6 (markW x).length=true from b 6 (by omega),show inB 7 (markW x).length=true from b 7 (by omega),show inB 8 (markW x).length=true from b 8 (by omega)]
 simp only [Bool.not_true,cond_false,cond_true]
 rw [show List.getD (markW x) 0 ([]:List UInt8)=_ from rfl,show List.getD (markW x) 1 ([]:List UInt8)=_ from rfl,show List.getD (markW x) 2 ([]:List UInt8)=_ from rfl]
 rw [show qb5 (List.getD (markW x) 0 ([]:List UInt8))=_ from w0,show qb5 (List.getD (markW x) 1 ([]:List UInt8))=_ from w1,show qb5 (List.getD (markW x) 2 ([]:List UInt8))=_ from w2,show qb5 (List.getD (markW x) 8 ([]:List UInt8))=_ from w3,
  show qba (List.getD (markW x) 3 ([]:List UInt8))=_ from r0,show qba (List.getD (markW x) 4 ([]:List UInt8))=_ from r1,show qba (List.getD (markW x) 5 ([]:List UInt8))=_ from r2,show qba (List.getD (markW x) 6 ([]:List UInt8))=_ from r3,show qbd (List.getD (markW x) 7 ([]:List UInt8))=_ from q]
 simp only [Option.bind_some,qcb,i0 _ h.c0.1 h.c0.2,i0 _ h.c1.1 h.c1.2,i0 _ h.c2.1 h.c2.2,Bool.not_true,cond_false,cond_true,qoy h.c0.1 h.c0.2,qoy h.c1.1 h.c1.2,qoy h.c2.1 h.c2.2]
 rfl
end
section
theorem qacd {side:Nat} (hs:sideB side=true) (hg:fltFit .f32 side) {m:DMap} (h:MapOK side m):qnc (mapT m)=some ((m,0,()),()):=by
 have hlen:=qzd h
 have htext:=qtg hg h
 have hval:=qiz m h.sized
 rw [h.valid hs] at hval
 have hsplit:=qd9 10 (s:=mapT m) (by omega)
 rw [qabv] at hsplit
 obtain ⟨a,l,⟨⟩⟩:=m
 obtain ⟨hsd,hl,-,hk⟩:=h
 have hsd:a=side:=hsd
 subst hsd
 have hl:l.length≤200:=hl
 have hk : ∀ x∈l,MarkOK x:=hk
 have g:=qh0 hg
 generalize hT:mapT ((a,l,()):DMap)=T at *
 have hLs:(mapL ((a,l,()):DMap)++[[]]).length=l.length+2:=by simp [mapL]
 have hget : ∀ i (hi:i<l.length),List.getD (mapL ((a,l,()):DMap)++[[]]) (i+1) ([]:List UInt8)=markL l[i]:=by
  intro i hi
  rw [List.getD_eq_getElem?_getD,List.getElem?_append_left (by simp [mapL];omega)]
  simp [mapL,hi]
 have hlast:List.getD (mapL ((a,l,()):DMap)++[[]]) (l.length+1) ([]:List UInt8)=[]:=by
  rw [List.getD_eq_getElem?_getD,List.getElem?_append_right (by simp [mapL])]
  simp [mapL]
 have h0:List.getD (mapL ((a,l,()):DMap)++[[]]) 0 ([]:List UInt8)=mapH a:=rfl
 generalize mapL ((a,l,()):DMap)++[[]]=Ls at *
 have hsub:iSub .i64 (lenI Ls) 1=((l.length+1:Nat):Int):=by rw [qaa,hLs,qfi (by omega) (by omega)];omega
 have hrun : ∀ (d i:Nat),i+d=l.length→run (qfx ((Ls,()),()) T) (true,((i+1:Nat):Int),((a,l.take i,()):DMap),())=some ((((a,l,()):DMap),0,()),()):=by
  intro d
  induction d with
  | zero =>
   intro i hi
   have hi:i=l.length:=by omega
   subst hi
   rw [List.take_length]
   refine qai ?_
   unfold qfx
   simp only
   rw [hsub,qag (by omega)]
   simp only [Bool.not_true,cond_false]
   rw [hval]
   simp only [Option.bind_some,Bool.not_true,cond_false]
   rw [htext]
   simp only [Option.bind_some]
   rw [qct]
   rfl
  | succ d ih =>
   intro i hi
   have hlt:i<l.length:=by omega
   have hx:=hk _ (List.getElem_mem hlt)
   have hstep:qfx ((Ls,()),()) T (true,((i+1:Nat):Int),((a,l.take i,()):DMap),())=some (.inl (true,((i+1+1:Nat):Int),((a,l.take (i+1),()):DMap),())):=by
    unfold qfx
    simp only
    rw [hsub,qah (by omega),qae (by rw [hLs];omega),Int.toNat_natCast,hget i hlt,qaco hx,qaq (n:=l.length+2) (by omega) (by omega)]
    simp only [cond_true,Option.bind_some]
    rw [qa2 (by rw [List.length_take];omega)]
    simp only [cond_true]
    rw [List.take_append_getElem hlt]
   rw [qaj hstep]
   exact ih (i+1) (by omega)
 have hd:dropL (mapH a) 4=hex8 a:=by rw [qsu];rfl
 have ht:takeL (mapH a) 4=[109,97,112,32]:=by rw [qsu];rfl
 have hH:iEq (lenI (mapH a)) 12=true:=qf7 (by rw [qaa,qff];rfl)
 have hi4:inS 0 4 (mapH a).length=true:=by rw [qff];rfl
 have hi5:inS 4 (lenI (mapH a)) (mapH a).length=true:=by rw [qaa,qff];rfl
 have hb0:inB 0 Ls.length=true:=by rw [hLs];exact qae (i:=0) (by omega)
 unfold qnc
 rw [qag (by rw [qaa];omega),show qbr T (10:Int)=_ from hsplit]
 simp only [cond_false,Option.bind_some]
 rw [hsub,qag (by rw [qaa,hLs];omega),qae (by rw [hLs];omega),Int.toNat_natCast,hlast,hb0,h0,hH,hi4,ht,hi5,hd,qrq g]
 simp only [cond_false,cond_true,Option.bind_some,qct,Bool.not_true]
 have:=hrun l.length 0 (by omega)
 rw [List.take_zero] at this
 exact this
theorem qamy {n:Int} (h : -999999999999≤n) (h1:n≤999999999999):parseInt64 (Lib.itoa n)=(n,true):=by
 by_cases h0:0≤n
 ·rw [qrj h0,qe4 (by omega),Int.toNat_of_nonneg h0]
 ·obtain ⟨u,rfl⟩ : ∃ u:Nat,n = -(u:Int):=⟨n.natAbs,by omega⟩
  have hu:1≤u:=by omega
  obtain ⟨h1,h2,_⟩:=qbc u
  have hp:=qp1 (Lib.decDigits u) 0 h1 (by rw [h2];omega)
  rw [h2] at hp
  have hne:=qld u
  rw [Lib.itoa_neg u hu]
  unfold parseInt64
  have:Lib.parseIntB 64 (45 :: Lib.decDigits u) = .ok (-(u:Int)):=by
   unfold Lib.parseIntB
   have hd:¬ (Lib.decDigits u=[]):=by intro h;rw [h] at hne;simp at hne
   simp only [if_pos (show ((45:UInt8).toNat=43∨(45:UInt8).toNat=45) by decide),Lib.parseUintB,if_neg hd,hp]
   rw [if_neg (by intro h;exact h.1 rfl),if_neg (by omega),if_pos (by decide)]
  rw [this]
theorem qxi {n:Int} (h : -1000000000≤n) (h1:n≤1000000000) (hl:(Lib.itoa n).length≤1048576) (ws:List (List UInt8)):qac ((Lib.itoa n :: ws,false,()):DRd)=some ((n,()),((ws,false,()),())):=by
 have hw:wordOf ((Lib.itoa n :: ws,false,()):DRd)=Lib.itoa n:=rfl
 have hp:=qamy (n:=n) (by omega) (by omega)
 have hi:intOf ((Lib.itoa n :: ws,false,()):DRd)=n:=by unfold intOf;rw [hw,hp]
 rw [qc1 (by rw [hw];exact hl),hi]
 unfold intRest
 simp only
 rw [hw,hi,hp,qct]
 rfl
theorem qxr {a:Nat} (h:goodN a) (ws:List (List UInt8)):qal ((hex8 a :: ws,false,()):DRd)=some ((a,()),((ws,false,()),())):=by
 have hw:wordOf ((hex8 a :: ws,false,()):DRd)=hex8 a:=rfl
 obtain ⟨y,h1,h2⟩:=qakx ((hex8 a :: ws,false,()):DRd) (by rw [hw,qcy];decide)
 have hn:numR (hex8 a)=some a:=h
 rw [hw] at h1 h2
 rw [h1,h2 a hn,hn]
 rfl
theorem qani {v:Vec 3 Nat} (h:goodV v) (ws:List (List UInt8)):qau ((hex8 (Vec.getD 3 v 0 (0:Nat)) :: hex8 (Vec.getD 3 v 1 (0:Nat)) :: hex8 (Vec.getD 3 v 2 (0:Nat)) :: ws,false,()):DRd)=some ((v,()),((ws,false,()),())):=by
 have n0:=qxr (a:=Vec.getD 3 v 0 (0:Nat)) h.1 (hex8 (Vec.getD 3 v 1 (0:Nat)) :: hex8 (Vec.getD 3 v 2 (0:Nat)) :: ws)
 have n1:=qxr (a:=Vec.getD 3 v 1 (0:Nat)) h.2.1 (hex8 (Vec.getD 3 v 2 (0:Nat)) :: ws)
 have n2:=qxr (a:=Vec.getD 3 v 2 (0:Nat)) h.2.2 ws
 unfold qau
 simp only
 rw [n0]
 simp only [Option.bind_some]
 rw [n1]
 simp only [Option.bind_some]
 rw [n2]
 rfl
theorem qaid {s:List UInt8} (h:s.length≤1000000):qbq s=some (((splitC 32 s,false,()),()),()):=by
 unfold qbq
 rw [qc9 32 (by omega)]
 rfl
theorem qac5 {a:Nat} {xs:List (List UInt8)} {i:Nat} (hi:i<xs.length) (hl:xs.length≤200) {x:DMark} (hx:MarkOK x) (he:xs[i]=markL x) {out:List DMark} (ho:out.length≤200) :
  qgh xs ((i:Int),((a,out,()):DMap),())=some (.inl (((i+1:Nat):Int),((a,out++[x],()):DMap),())):=by
 have hlen:=markL_length hx
 obtain ⟨g1,g2⟩:=hx.good
 obtain ⟨⟨n1,n2⟩,n3,n4⟩:=hx.nums
 have l0:=qdx hx.c0.1 hx.c0.2
 have l1:=qdx hx.c1.1 hx.c1.2
 have l2:=qdx hx.c2.1 hx.c2.2
 have l3:=qdx (n:=x.2.2.2.1) (by omega) n2
 have l4:=qvj n3 n4
 have h0:=hx.c0
 have h1:=hx.c1
 have h2:=hx.c2
 have i0 : ∀ c:Int,-1000000≤c→c≤1000000→(iLe (-2147483648) c&&iLe c 2147483647)=true:=fun c a b=>by rw [qay (by omega),qay (by omega)];rfl
 unfold qgh
 simp only
 rw [qah (by rw [qaa];omega),qae hi,Int.toNat_natCast,qan hi,he,qaid (by omega),qze]
 simp only [cond_true,Option.bind_some]
 unfold markW
 rw [qxi (by omega) (by omega) (by omega)]
 simp only [Option.bind_some,cond_false,qg1,qcb,i0 _ h0.1 h0.2,Bool.not_true]
 rw [qxi (by omega) (by omega) (by omega)]
 simp only [Option.bind_some,cond_false,qcb,i0 _ h1.1 h1.2,Bool.not_true]
 rw [qxi (by omega) (by omega) (by omega)]
 simp only [Option.bind_some,cond_false,qcb,i0 _ h2.1 h2.2,Bool.not_true]
 rw [qani g1]
 simp only [Option.bind_some]
 rw [qxr g2]
 simp only [Option.bind_some]
 rw [qxi (by omega) (by omega) (by omega)]
 simp only [Option.bind_some]
 rw [qxi (by omega) (by omega) (by omega)]
 simp only [Option.bind_some]
 rw [qcg]
 simp only [Option.bind_some]
 rw [qa2 (by omega),qaq hi (by omega),qoy h0.1 h0.2,qoy h1.1 h1.2,qoy h2.1 h2.2]
 rfl
theorem qaaz {side:Nat} (hs:sideB side=true) (hg:fltFit .f32 side) {m:DMap} (h:MapOK side m):qmo (mapT m)=some ((m,0,()),()):=by
 have hlen:=qzd h
 have hval:=qid m h.sized
 rw [h.valid hs] at hval
 have hsplit:=qc9 10 (s:=mapT m) (by omega)
 rw [qabv] at hsplit
 obtain ⟨a,l,⟨⟩⟩:=m
 obtain ⟨hsd,hl,-,hk⟩:=h
 have hsd:a=side:=hsd
 subst hsd
 have hl:l.length≤200:=hl
 have hk : ∀ x∈l,MarkOK x:=hk
 have g:=qh0 hg
 have hlines:qmt (mapT ((a,l,()):DMap))=some ((mapL ((a,l,()):DMap),true,()),()):=by
  unfold qmt
  rw [hsplit]
  simp only [Option.bind_some]
  have hLs:(mapL ((a,l,()):DMap)++[[]]).length=l.length+2:=by simp [mapL]
  have hsub:iSub .i64 (lenI (mapL ((a,l,()):DMap)++[[]])) 1=((l.length+1:Nat):Int):=by rw [qaa,hLs,qfi (by omega) (by omega)];omega
  have hlast:List.getD (mapL ((a,l,()):DMap)++[[]]) (l.length+1) ([]:List UInt8)=[]:=by
   rw [List.getD_eq_getElem?_getD,List.getElem?_append_right (by simp [mapL])]
   simp [mapL]
  have hin:inS 0 ((l.length+1:Nat):Int) (mapL ((a,l,()):DMap)++[[]]).length=true:=by unfold inS;rw [hLs];simp;omega
  rw [hsub,hin,qah (by omega),qae (by rw [hLs];omega),Int.toNat_natCast,hlast,List.drop_zero,List.take_left' (by simp [mapL])]
  rfl
 have hrun : ∀ (d i:Nat),i+d=l.length→run (qgh (l.map markL)) ((i:Int),((a,l.take i,()):DMap),())=some ((((a,l,()):DMap),true,()),()):=by
  intro d
  induction d with
  | zero =>
   intro i hi
   have hi:i=l.length:=by omega
   subst hi
   rw [List.take_length]
   refine qai ?_
   unfold qgh
   simp only
   rw [qag (by rw [qaa,List.length_map];omega)]
   simp only [cond_false]
   rw [hval]
   rfl
  | succ d ih =>
   intro i hi
   have hlt:i<l.length:=by omega
   have hx:=hk _ (List.getElem_mem hlt)
   rw [qaj (qac5 (by rw [List.length_map];exact hlt) (by rw [List.length_map];exact hl) hx (by rw [List.getElem_map]) (by rw [List.length_take];omega)),List.take_append_getElem hlt]
   exact ih (i+1) (by omega)
 have hread:qmv (mapL ((a,l,()):DMap))=some ((((a,l,()):DMap),true,()),()):=by
  have hb0:inB 0 (mapL ((a,l,()):DMap)).length=true:=qae (i:=0) (by simp [mapL])
  have hin:inS 1 (lenI (mapL ((a,l,()):DMap))) (mapL ((a,l,()):DMap)).length=true:=by unfold inS;rw [qaa];simp [mapL];omega
  have hneed:qbb (([wMap,hex8 a],false,()):DRd) [109,97,112]=some ((),(([hex8 a],false,()),())):=by
   unfold qbb
   rw [show qbi ((([wMap,hex8 a],false,()):DRd).1,(([wMap,hex8 a],false,()):DRd).2)=_ from qcr _]
   rfl
  unfold qmv
  rw [hb0,show List.getD (mapL ((a,l,()):DMap)) 0 ([]:List UInt8)=mapH a from rfl,qaid (by rw [qff];decide),qajb,hin]
  simp only [cond_true,Option.bind_some]
  rw [hneed]
  simp only [Option.bind_some]
  rw [qxr g]
  simp only [Option.bind_some]
  rw [qcg]
  simp only [Option.bind_some]
  rw [show dropL (mapL ((a,l,()):DMap)) 1=l.map markL from rfl]
  have:=hrun l.length 0 (by omega)
  rw [List.take_zero] at this
  exact this
 unfold qmo
 rw [qag (by rw [qaa];omega),hlines]
 simp only [cond_false,Option.bind_some,Bool.not_true]
 rw [hread]
 rfl
end
end Go.Proofs.YtjhdoneobdbeaaaGreatDoor
