import Derived.Test.YtjhdoneobdbeaaaGreatDoorP6
/- Functions of the program and of the reference in plain terms. -/
set_option linter.unusedSectionVars false
set_option linter.unusedSimpArgs false
set_option linter.unusedVariables false
namespace Go.Proofs.YtjhdoneobdbeaaaGreatDoor
open Go Go.Tm
section
theorem qab8 (m:DMap):mapT m=mapH m.1++[10]++(m.2.1.map markL).flatMap (fun x=>x++[10]):=by
 unfold mapT linesT mapL
 rw [List.flatMap_cons]
theorem qqz (s:Nat):mapH s=[109,97,112,32]++hex8 s:=by
 unfold mapH wMap
 simp [joinC]
theorem qyv {side:Nat} (hg:fltFit .f32 side) {m:DMap} (h:MapOK side m):qk2 m=some ((mapT m,()),()):=by
 obtain ⟨a,l,⟨⟩⟩:=m
 obtain ⟨hsd,hl,-,hk⟩:=h
 have hsd:a=side:=hsd
 subst hsd
 have hl:l.length≤200:=hl
 have hk : ∀ x∈l,MarkOK x:=hk
 have g:=qgh hg
 unfold qk2
 simp only
 rw [qcl (qmn g)]
 simp only [Option.bind_some]
 have l8:(hexP 8 (bitsOf a)).length=8:=qhh 8 _
 rw [qb1 (by simp [l8]),qb1 (by unfold strCat;simp [l8])]
 simp only [cond_true]
 have e0:strCat (strCat [109,97,112,32] (hexP 8 (bitsOf a))) [10]=mapH a++[10]:=by rw [qqz];rfl
 rw [e0,qagd (by rw [List.length_append,qd9];decide)]
 simp only [Option.bind_some]
 have hrun : ∀ (d i:Nat),i+d=l.length → ∀ out:List UInt8,out.length≤100+i*83→out≠[]→run (qe9 ((a,l,()):DMap)) ((i:Int),((),bytesOf out,()),())=some ((out++((l.drop i).map markL).flatMap (fun x=>x++[10]),()),()):=by
  intro d
  induction d with
  | zero =>
   intro i hi out ho hne
   have hi:i=l.length:=by omega
   subst hi
   rw [List.drop_length]
   refine qak ?_
   unfold qe9
   simp only
   rw [qah (by rw [qaa];omega)]
   simp only [cond_false]
   rw [show bldStr ((),bytesOf out,())=some out from qakv hne (by omega)]
   simp
  | succ d ih =>
   intro i hi out ho hne
   have hlt:i<l.length:=by omega
   have hx:=hk _ (List.getElem_mem hlt)
   have hlen:=markL_length hx
   rw [qan (qaar hlt hl hx (by omega)),ih (i+1) (by omega) _ (by simp;omega) (by simp),← List.getElem_cons_drop (h:=hlt),List.map_cons,List.flatMap_cons]
   simp only [List.append_assoc]
 have:=hrun l.length 0 (by omega) (mapH a++[10]) (by rw [List.length_append,qd9];simp) (by simp)
 rw [List.drop_zero] at this
 rw [qab8]
 exact this
theorem qrm {side:Nat} (hg:fltFit .f32 side) {m:DMap} (h:MapOK side m):qge m=some ((mapT m,()),()):=by
 obtain ⟨a,l,⟨⟩⟩:=m
 obtain ⟨hsd,hl,-,hk⟩:=h
 have hsd:a=side:=hsd
 subst hsd
 have hl:l.length≤200:=hl
 have hk : ∀ x∈l,MarkOK x:=hk
 have g:=qgh hg
 unfold qge
 simp only
 rw [qsa g]
 simp only [Option.bind_some]
 have l8:=qcd a
 rw [qb1 (by simp [l8]),qb1 (by unfold strCat;simp [l8])]
 simp only [cond_true]
 have e0:strCat (strCat [109,97,112,32] (hex8 a)) [10]=mapH a++[10]:=by rw [qqz];rfl
 rw [e0]
 have hrun : ∀ (d i:Nat),i+d=l.length → ∀ out:List UInt8,out.length≤100+i*83→run (qfk ((a,l,()):DMap)) (out,(i:Int),())=some ((out++((l.drop i).map markL).flatMap (fun x=>x++[10]),()),()):=by
  intro d
  induction d with
  | zero =>
   intro i hi out ho
   have hi:i=l.length:=by omega
   subst hi
   rw [List.drop_length]
   refine qak ?_
   unfold qfk
   simp only
   rw [qah (by rw [qaa];omega)]
   simp
  | succ d ih =>
   intro i hi out ho
   have hlt:i<l.length:=by omega
   have hx:=hk _ (List.getElem_mem hlt)
   have hlen:=markL_length hx
   rw [qan (qabc hlt hl hx (by omega)),ih (i+1) (by omega) _ (by simp;omega),← List.getElem_cons_drop (h:=hlt),List.map_cons,List.flatMap_cons]
   simp only [List.append_assoc]
 have:=hrun l.length 0 (by omega) (mapH a++[10]) (by rw [List.length_append,qd9];simp)
 rw [List.drop_zero] at this
 rw [qab8]
 exact this
theorem qz1 {side:Nat} (hs:sideB side=true) (hg:fltFit .f32 side) {m:DMap} (h:MapOK side m):qig m=some ((mapT m,()),()):=by
 have k:=qhf m h.sized
 rw [h.valid hs] at k
 unfold qig
 rw [k,qrm hg h]
 rfl
theorem qvo {n:Nat} (h:n≤999999999):qbp (Lib.decDigits n)=some (((n:Int),true,()),()):=by
 obtain ⟨k,h1,h2⟩:=qacw (Lib.decDigits n)
 have hv:=(qck n).2.1
 have ho:numOK 999999999 (Lib.decDigits n)=true:=qkn.2 ⟨n,h,rfl⟩
 rw [ho] at h1
 rw [h1,h2 ho,hv]
theorem qabs {n:Nat} (h:n≤1000000000):qde (Lib.decDigits n)=some (((n:Int),true,()),()):=by
 by_cases h9:n≤999999999
 ·have hl:(Lib.decDigits n).length≤9:=qkt (k:=8) (by omega)
  unfold qde
  rw [qa4 (by rw [qaa];omega),qvo h9]
  rfl
 ·have:n=1000000000:=by omega
  subst this
  have v1:valD 0 [49,48,48,48,48,48,48,48,48,48]=1000000000:=by decide
  have v2:valD 0 [49,48,48,48,48,48,48,48,48]=100000000:=by decide
  have e1:Lib.decDigits 1000000000=[49,48,48,48,48,48,48,48,48,48]:=by rw [← v1];exact qqb 9 _ rfl (by decide) (.inr ⟨_,_,rfl,by decide⟩)
  have e2:[49,48,48,48,48,48,48,48,48]=Lib.decDigits 100000000:=by rw [← v2];exact (qqb 8 _ rfl (by decide) (.inr ⟨_,_,rfl,by decide⟩)).symm
  have e3:takeL ([49,48,48,48,48,48,48,48,48,48]:List UInt8) 9=[49,48,48,48,48,48,48,48,48]:=rfl
  have n1:=qvo (n:=100000000) (by omega)
  rw [← e2] at n1
  unfold qde
  rw [e1,e3,n1]
  simp only [Option.bind_some,qb7]
  rfl
theorem qty {n:Int} (h : -1000000≤n) (h1:n≤1000000000):qbm (Lib.itoa n)=some ((n,true,()),()):=by
 unfold qbm
 by_cases h0:n<0
 ·obtain ⟨u,rfl⟩ : ∃ u:Nat,n = -(u:Int):=⟨n.natAbs,by omega⟩
  rw [Lib.itoa_neg u (by omega)]
  have hp:=qjn u
  have e1:iLt 1 (lenI ((45:UInt8) :: Lib.decDigits u))=true:=qag (by rw [qaa,List.length_cons];omega)
  have e2:inB 0 ((45:UInt8) :: Lib.decDigits u).length=true:=qaf (i:=0) (by simp)
  have e3:iEq (strAt ((45:UInt8) :: Lib.decDigits u) 0) 45=true:=by rfl
  have e4:inS 1 (lenI ((45:UInt8) :: Lib.decDigits u)) ((45:UInt8) :: Lib.decDigits u).length=true:=by unfold inS;rw [qaa];simp;omega
  have e5:dropL ((45:UInt8) :: Lib.decDigits u) 1=Lib.decDigits u:=rfl
  have e6:iSub .i64 0 (u:Int) = -(u:Int):=(qir (by omega) (by omega)).trans (by omega)
  rw [e1,e2,e3,e4,e5,qabs (by omega)]
  simp only [cond_true,Option.bind_some]
  rw [e6,qag (by omega)]
 ·obtain ⟨u,rfl⟩:=Int.eq_ofNat_of_zero_le (by omega:0≤n)
  rw [qxs,qabs (by omega)]
  by_cases hl:1<(Lib.decDigits u).length
  ·have e1:iLt 1 (lenI (Lib.decDigits u))=true:=qag (by rw [qaa];omega)
   have e2:inB 0 (Lib.decDigits u).length=true:=qaf (i:=0) (by omega)
   have e3:iEq (strAt (Lib.decDigits u) 0) 45=false:=by
    obtain ⟨hd,-⟩:=qck u
    cases hq:Lib.decDigits u with
    | nil=>rw [hq] at hl;simp at hl
    | cons c r =>
     rw [hq] at hd
     simp only [List.all_cons,Bool.and_eq_true,digB,decide_eq_true_eq] at hd
     apply qa4
     show (c.toNat:Int)≠45
     omega
   rw [e1,e2,e3]
   rfl
  ·rw [qah (by rw [qaa];omega)]
   rfl
theorem qpu {a:Nat} (h:goodN a):qa3 (hex8 a)=some ((a,true,()),()):=by
 obtain ⟨y,h1,h2⟩:=qz7 (hex8 a)
 rw [h1,h2 a h,show numR (hex8 a)=some a from h]
 rfl
theorem qaaf {x:DMark} (h:MarkOK x):qlv (markL x)=some ((x,true,()),()):=by
 have hlen:=markL_length h
 obtain ⟨g1,g2⟩:=h.good
 obtain ⟨⟨n1,n2⟩,n3,n4⟩:=h.nums
 have hs:=qpy 32 (s:=markL x) (by omega)
 rw [qw6] at hs
 have w0:=qty (n:=Vec.getD 3 x.1 0 (0:Int)) h.c0.1 (by have:=h.c0.2;omega)
 have w1:=qty (n:=Vec.getD 3 x.1 1 (0:Int)) h.c1.1 (by have:=h.c1.2;omega)
 have w2:=qty (n:=Vec.getD 3 x.1 2 (0:Int)) h.c2.1 (by have:=h.c2.2;omega)
 have w3:=qty (n:=x.2.2.2.2.1) (by omega) n4
 have r0:qa3 (hex8 (Vec.getD 3 x.2.1 0 (0:Nat)))=_:=qpu g1.1
 have r1:qa3 (hex8 (Vec.getD 3 x.2.1 1 (0:Nat)))=_:=qpu g1.2.1
 have r2:qa3 (hex8 (Vec.getD 3 x.2.1 2 (0:Nat)))=_:=qpu g1.2.2
 have r3:=qpu g2
 have q:=qvo (n:=x.2.2.2.1.toNat) (by omega)
 rw [← qtj (by omega:0≤x.2.2.2.1),Int.toNat_of_nonneg (by omega)] at q
 have i0 : ∀ c:Int,-1000000≤c→c≤1000000→(iLe (-2147483648) c&&iLe c 2147483647)=true:=fun c a b=>by rw [qaz (by omega),qaz (by omega)];rfl
 unfold qlv
 rw [show qdy (markL x) (32:Int)=_ from hs]
 simp only [Option.bind_some]
 have hl:iEq (lenI (markW x)) 9=true:=rfl
 have b : ∀ k:Nat,k<9→inB (k:Int) (markW x).length=true:=fun k hk=>qaf (show k<9 from hk)
 rw [hl,show inB 0 (markW x).length=true from b 0 (by omega),show inB 1 (markW x).length=true from b 1 (by omega),show inB 2 (markW x).length=true from b 2 (by omega),show inB 3 (markW x).length=true from b 3 (by omega),show inB 4 (markW x).length=true from b 4 (by omega),show inB 5 (markW x).length=true from b 5 (by omega),show inB 6 (markW x).length=true from b 6 (by omega),show inB 7 (markW x).length=true from b 7 (by omega),show inB 8 (markW x).length=true from b 8 (by omega)]
 simp only [Bool.not_true,cond_false,cond_true]
 rw [show List.getD (markW x) 0 ([]:List UInt8)=_ from rfl,show List.getD (markW x) 1 ([]:List UInt8)=_ from rfl,show List.getD (markW x) 2 ([]:List UInt8)=_ from rfl]
 rw [show qbm (List.getD (markW x) 0 ([]:List UInt8))=_ from w0,show qbm (List.getD (markW x) 1 ([]:List UInt8))=_ from w1,show qbm (List.getD (markW x) 2 ([]:List UInt8))=_ from w2,show qbm (List.getD (markW x) 8 ([]:List UInt8))=_ from w3,
  show qa3 (List.getD (markW x) 3 ([]:List UInt8))=_ from r0,show qa3 (List.getD (markW x) 4 ([]:List UInt8))=_ from r1,show qa3 (List.getD (markW x) 5 ([]:List UInt8))=_ from r2,show qa3 (List.getD (markW x) 6 ([]:List UInt8))=_ from r3,show qbp (List.getD (markW x) 7 ([]:List UInt8))=_ from q]
 simp only [Option.bind_some,qb7,i0 _ h.c0.1 h.c0.2,i0 _ h.c1.1 h.c1.2,i0 _ h.c2.1 h.c2.2,Bool.not_true,cond_false,cond_true,qm8 h.c0.1 h.c0.2,qm8 h.c1.1 h.c1.2,qm8 h.c2.1 h.c2.2]
 rfl
end
section
theorem qz3 {side:Nat} (hs:sideB side=true) (hg:fltFit .f32 side) {m:DMap} (h:MapOK side m):qll (mapT m)=some ((m,0,()),()):=by
 have hlen:=qw5 h
 have htext:=qrm hg h
 have hval:=qhf m h.sized
 rw [h.valid hs] at hval
 have hsplit:=qpy 10 (s:=mapT m) (by omega)
 rw [qzk] at hsplit
 obtain ⟨a,l,⟨⟩⟩:=m
 obtain ⟨hsd,hl,-,hk⟩:=h
 have hsd:a=side:=hsd
 subst hsd
 have hl:l.length≤200:=hl
 have hk : ∀ x∈l,MarkOK x:=hk
 have g:=qgh hg
 generalize hT:mapT ((a,l,()):DMap)=T at *
 have hLs:(mapL ((a,l,()):DMap)++[[]]).length=l.length+2:=by simp [mapL]
 have hget : ∀ i (hi:i<l.length),List.getD (mapL ((a,l,()):DMap)++[[]]) (i+1) ([]:List UInt8)=markL l[i]:=by
  intro i hi
  rw [List.getD_eq_getElem?_getD,List.getElem?_append_left (by simp [mapL];omega)]
  simp [mapL,hi]
 have hlast:List.getD (mapL ((a,l,()):DMap)++[[]]) (l.length+1) ([]:List UInt8)=[]:=by
  rw [List.getD_eq_getElem?_getD,List.getElem?_append_right (by simp [mapL])]
  simp [mapL]
 have h0:List.getD (mapL ((a,l,()):DMap)++[[]]) 0 ([]:List UInt8)=mapH a:=rfl
 generalize mapL ((a,l,()):DMap)++[[]]=Ls at *
 have hsub:iSub .i64 (lenI Ls) 1=((l.length+1:Nat):Int):=by rw [qaa,hLs,qir (by omega) (by omega)];omega
 have hrun : ∀ (d i:Nat),i+d=l.length→run (qeq ((Ls,()),()) T) (true,((i+1:Nat):Int),((a,l.take i,()):DMap),())=some ((((a,l,()):DMap),0,()),()):=by
  intro d
  induction d with
  | zero =>
   intro i hi
   have hi:i=l.length:=by omega
   subst hi
   rw [List.take_length]
   refine qak ?_
   unfold qeq
   simp only
   rw [hsub,qah (by omega)]
   simp only [Bool.not_true,cond_false]
   rw [hval]
   simp only [Option.bind_some,Bool.not_true,cond_false]
   rw [htext]
   simp only [Option.bind_some]
   rw [qif]
   rfl
  | succ d ih =>
   intro i hi
   have hlt:i<l.length:=by omega
   have hx:=hk _ (List.getElem_mem hlt)
   have hstep:qeq ((Ls,()),()) T (true,((i+1:Nat):Int),((a,l.take i,()):DMap),())=some (.inl (true,((i+1+1:Nat):Int),((a,l.take (i+1),()):DMap),())):=by
    unfold qeq
    simp only
    rw [hsub,qag (by omega),qaf (by rw [hLs];omega),Int.toNat_natCast,hget i hlt,qaaf hx,qap (n:=l.length+2) (by omega) (by omega)]
    simp only [cond_true,Option.bind_some]
    rw [qav (by rw [List.length_take];omega)]
    simp only [cond_true]
    rw [List.take_append_getElem hlt]
   rw [qan hstep]
   exact ih (i+1) (by omega)
 have hd:dropL (mapH a) 4=hex8 a:=by rw [qqz];rfl
 have ht:takeL (mapH a) 4=[109,97,112,32]:=by rw [qqz];rfl
 have hH:iEq (lenI (mapH a)) 12=true:=qmp (by rw [qaa,qd9];rfl)
 have hi4:inS 0 4 (mapH a).length=true:=by rw [qd9];rfl
 have hi5:inS 4 (lenI (mapH a)) (mapH a).length=true:=by rw [qaa,qd9];rfl
 have hb0:inB 0 Ls.length=true:=by rw [hLs];exact qaf (i:=0) (by omega)
 unfold qll
 rw [qah (by rw [qaa];omega),show qdy T (10:Int)=_ from hsplit]
 simp only [cond_false,Option.bind_some]
 rw [hsub,qah (by rw [qaa,hLs];omega),qaf (by rw [hLs];omega),Int.toNat_natCast,hlast,hb0,h0,hH,hi4,ht,hi5,hd,qpu g]
 simp only [cond_false,cond_true,Option.bind_some,qif,Bool.not_true]
 have:=hrun l.length 0 (by omega)
 rw [List.take_zero] at this
 exact this
theorem qaj1 {n:Int} (h : -999999999999≤n) (h1:n≤999999999999):parseInt64 (Lib.itoa n)=(n,true):=by
 by_cases h0:0≤n
 ·rw [qtj h0,qwp (by omega),Int.toNat_of_nonneg h0]
 ·obtain ⟨u,rfl⟩ : ∃ u:Nat,n = -(u:Int):=⟨n.natAbs,by omega⟩
  have hu:1≤u:=by omega
  obtain ⟨h1,h2,_⟩:=qck u
  have hp:=qoe (Lib.decDigits u) 0 h1 (by rw [h2];omega)
  rw [h2] at hp
  have hne:=qjn u
  rw [Lib.itoa_neg u hu]
  unfold parseInt64
  have:Lib.parseIntB 64 (45 :: Lib.decDigits u) = .ok (-(u:Int)):=by
   unfold Lib.parseIntB
   have hd:¬ (Lib.decDigits u=[]):=by intro h;rw [h] at hne;simp at hne
   simp only [if_pos (show ((45:UInt8).toNat=43∨(45:UInt8).toNat=45) by decide),Lib.parseUintB,if_neg hd,hp]
   rw [if_neg (by intro h;exact h.1 rfl),if_neg (by omega),if_pos (by decide)]
  rw [this]
theorem qvf {n:Int} (h : -1000000000≤n) (h1:n≤1000000000) (hl:(Lib.itoa n).length≤1048576) (ws:List (List UInt8)):qad ((Lib.itoa n :: ws,false,()):DRd)=some ((n,()),((ws,false,()),())):=by
 have hw:wordOf ((Lib.itoa n :: ws,false,()):DRd)=Lib.itoa n:=rfl
 have hp:=qaj1 (n:=n) (by omega) (by omega)
 have hi:intOf ((Lib.itoa n :: ws,false,()):DRd)=n:=by unfold intOf;rw [hw,hp]
 rw [qn7 (by rw [hw];exact hl),hi]
 unfold intRest
 simp only
 rw [hw,hi,hp,qif]
 rfl
theorem qvn {a:Nat} (h:goodN a) (ws:List (List UInt8)):qai ((hex8 a :: ws,false,()):DRd)=some ((a,()),((ws,false,()),())):=by
 have hw:wordOf ((hex8 a :: ws,false,()):DRd)=hex8 a:=rfl
 obtain ⟨y,h1,h2⟩:=qah3 ((hex8 a :: ws,false,()):DRd) (by rw [hw,qcd];decide)
 have hn:numR (hex8 a)=some a:=h
 rw [hw] at h1 h2
 rw [h1,h2 a hn,hn]
 rfl
theorem qakl {v:Vec 3 Nat} (h:goodV v) (ws:List (List UInt8)):qas ((hex8 (Vec.getD 3 v 0 (0:Nat)) :: hex8 (Vec.getD 3 v 1 (0:Nat)) :: hex8 (Vec.getD 3 v 2 (0:Nat)) :: ws,false,()):DRd)=some ((v,()),((ws,false,()),())):=by
 have n0:=qvn (a:=Vec.getD 3 v 0 (0:Nat)) h.1 (hex8 (Vec.getD 3 v 1 (0:Nat)) :: hex8 (Vec.getD 3 v 2 (0:Nat)) :: ws)
 have n1:=qvn (a:=Vec.getD 3 v 1 (0:Nat)) h.2.1 (hex8 (Vec.getD 3 v 2 (0:Nat)) :: ws)
 have n2:=qvn (a:=Vec.getD 3 v 2 (0:Nat)) h.2.2 ws
 unfold qas
 simp only
 rw [n0]
 simp only [Option.bind_some]
 rw [n1]
 simp only [Option.bind_some]
 rw [n2]
 rfl
theorem qaft {s:List UInt8} (h:s.length≤1000000):qg9 s=some (((splitC 32 s,false,()),()),()):=by
 unfold qg9
 rw [qp4 32 (by omega)]
 rfl
theorem qaas {a:Nat} {xs:List (List UInt8)} {i:Nat} (hi:i<xs.length) (hl:xs.length≤200) {x:DMark} (hx:MarkOK x) (he:xs[i]=markL x) {out:List DMark} (ho:out.length≤200) :
  qfa xs ((i:Int),((a,out,()):DMap),())=some (.inl (((i+1:Nat):Int),((a,out++[x],()):DMap),())):=by
 have hlen:=markL_length hx
 obtain ⟨g1,g2⟩:=hx.good
 obtain ⟨⟨n1,n2⟩,n3,n4⟩:=hx.nums
 have l0:=qc5 hx.c0.1 hx.c0.2
 have l1:=qc5 hx.c1.1 hx.c1.2
 have l2:=qc5 hx.c2.1 hx.c2.2
 have l3:=qc5 (n:=x.2.2.2.1) (by omega) n2
 have l4:=qti n3 n4
 have h0:=hx.c0
 have h1:=hx.c1
 have h2:=hx.c2
 have i0 : ∀ c:Int,-1000000≤c→c≤1000000→(iLe (-2147483648) c&&iLe c 2147483647)=true:=fun c a b=>by rw [qaz (by omega),qaz (by omega)];rfl
 unfold qfa
 simp only
 rw [qag (by rw [qaa];omega),qaf hi,Int.toNat_natCast,qal hi,he,qaft (by omega),qw6]
 simp only [cond_true,Option.bind_some]
 unfold markW
 rw [qvf (by omega) (by omega) (by omega)]
 simp only [Option.bind_some,cond_false,qgk,qb7,i0 _ h0.1 h0.2,Bool.not_true]
 rw [qvf (by omega) (by omega) (by omega)]
 simp only [Option.bind_some,cond_false,qb7,i0 _ h1.1 h1.2,Bool.not_true]
 rw [qvf (by omega) (by omega) (by omega)]
 simp only [Option.bind_some,cond_false,qb7,i0 _ h2.1 h2.2,Bool.not_true]
 rw [qakl g1]
 simp only [Option.bind_some]
 rw [qvn g2]
 simp only [Option.bind_some]
 rw [qvf (by omega) (by omega) (by omega)]
 simp only [Option.bind_some]
 rw [qvf (by omega) (by omega) (by omega)]
 simp only [Option.bind_some]
 rw [qia]
 simp only [Option.bind_some]
 rw [qav (by omega),qap hi (by omega),qm8 h0.1 h0.2,qm8 h1.1 h1.2,qm8 h2.1 h2.2]
 rfl
theorem qyn {side:Nat} (hs:sideB side=true) (hg:fltFit .f32 side) {m:DMap} (h:MapOK side m):qkx (mapT m)=some ((m,0,()),()):=by
 have hlen:=qw5 h
 have hval:=qgt m h.sized
 rw [h.valid hs] at hval
 have hsplit:=qp4 10 (s:=mapT m) (by omega)
 rw [qzk] at hsplit
 obtain ⟨a,l,⟨⟩⟩:=m
 obtain ⟨hsd,hl,-,hk⟩:=h
 have hsd:a=side:=hsd
 subst hsd
 have hl:l.length≤200:=hl
 have hk : ∀ x∈l,MarkOK x:=hk
 have g:=qgh hg
 have hlines:qk1 (mapT ((a,l,()):DMap))=some ((mapL ((a,l,()):DMap),true,()),()):=by
  unfold qk1
  rw [hsplit]
  simp only [Option.bind_some]
  have hLs:(mapL ((a,l,()):DMap)++[[]]).length=l.length+2:=by simp [mapL]
  have hsub:iSub .i64 (lenI (mapL ((a,l,()):DMap)++[[]])) 1=((l.length+1:Nat):Int):=by rw [qaa,hLs,qir (by omega) (by omega)];omega
  have hlast:List.getD (mapL ((a,l,()):DMap)++[[]]) (l.length+1) ([]:List UInt8)=[]:=by
   rw [List.getD_eq_getElem?_getD,List.getElem?_append_right (by simp [mapL])]
   simp [mapL]
  have hin:inS 0 ((l.length+1:Nat):Int) (mapL ((a,l,()):DMap)++[[]]).length=true:=by unfold inS;rw [hLs];simp;omega
  rw [hsub,hin,qag (by omega),qaf (by rw [hLs];omega),Int.toNat_natCast,hlast,List.drop_zero,List.take_left' (by simp [mapL])]
  rfl
 have hrun : ∀ (d i:Nat),i+d=l.length→run (qfa (l.map markL)) ((i:Int),((a,l.take i,()):DMap),())=some ((((a,l,()):DMap),true,()),()):=by
  intro d
  induction d with
  | zero =>
   intro i hi
   have hi:i=l.length:=by omega
   subst hi
   rw [List.take_length]
   refine qak ?_
   unfold qfa
   simp only
   rw [qah (by rw [qaa,List.length_map];omega)]
   simp only [cond_false]
   rw [hval]
   rfl
  | succ d ih =>
   intro i hi
   have hlt:i<l.length:=by omega
   have hx:=hk _ (List.getElem_mem hlt)
   rw [qan (qaas (by rw [List.length_map];exact hlt) (by rw [List.length_map];exact hl) hx (by rw [List.getElem_map]) (by rw [List.length_take];omega)),List.take_append_getElem hlt]
   exact ih (i+1) (by omega)
 have hread:qk3 (mapL ((a,l,()):DMap))=some ((((a,l,()):DMap),true,()),()):=by
  have hb0:inB 0 (mapL ((a,l,()):DMap)).length=true:=qaf (i:=0) (by simp [mapL])
  have hin:inS 1 (lenI (mapL ((a,l,()):DMap))) (mapL ((a,l,()):DMap)).length=true:=by unfold inS;rw [qaa];simp [mapL];omega
  have hneed:qd2 (([wMap,hex8 a],false,()):DRd) [109,97,112]=some ((),(([hex8 a],false,()),())):=by
   unfold qd2
   rw [show qbj ((([wMap,hex8 a],false,()):DRd).1,(([wMap,hex8 a],false,()):DRd).2)=_ from qew _]
   rfl
  unfold qk3
  rw [hb0,show List.getD (mapL ((a,l,()):DMap)) 0 ([]:List UInt8)=mapH a from rfl,qaft (by rw [qd9];decide),qagq,hin]
  simp only [cond_true,Option.bind_some]
  rw [hneed]
  simp only [Option.bind_some]
  rw [qvn g]
  simp only [Option.bind_some]
  rw [qia]
  simp only [Option.bind_some]
  rw [show dropL (mapL ((a,l,()):DMap)) 1=l.map markL from rfl]
  have:=hrun l.length 0 (by omega)
  rw [List.take_zero] at this
  exact this
 unfold qkx
 rw [qah (by rw [qaa];omega),hlines]
 simp only [cond_false,Option.bind_some,Bool.not_true]
 rw [hread]
 rfl
end
section
abbrev DMind:=DMap×(Int×Unit)
abbrev DPacket:=Int×(List UInt8×Unit)
abbrev DYard:=(List DMind)×((List DMind)×((List DPacket)×Unit))
abbrev DRun:=DFleet×(DYard×Unit)
structure SightOK (x:DSight):Prop where
 at':FitVec (fltFit .f32) 3 x.1
 wt:fltFit .f32 x.2.1
structure FleetOK (f:DFleet):Prop where
 side:sideB f.1=true
 fit:fltFit .f32 f.1
 few:f.2.2.1.length≤4
 some:1≤f.2.2.1.length
 short : ∀ l∈f.2.2.1,l.length≤16 ∧ ∀ x∈l,SightOK x
structure MindOK (f:DFleet) (i:Nat) (x:DMind):Prop where
 map:MapOK f.1 x.1
 low:0≤x.2.1
 up:x.2.1≤(f.2.2.1.getD i []).length
structure YardOK (f:DFleet) (y:DYard):Prop where
 nm:y.1.length=f.2.2.1.length
 ns:y.2.1.length=f.2.2.1.length
 minds : ∀ i (h:i<y.1.length),MindOK f i y.1[i]
 saved : ∀ i (h:i<y.2.1.length),MindOK f i y.2.1[i]
 nw:y.2.2.1.length≤10
 wire : ∀ p∈y.2.2.1,(0≤p.1∧p.1<f.2.2.1.length) ∧ ∃ m,MapOK f.1 m∧p.2.1=mapT m
theorem qtl {f:DFleet} {M:List DMind} (h : ∀ i (h:i<M.length),MindOK f i M[i]) {k:Nat} {x:DMind} (hx:MindOK f k x) : ∀ i (h:i<(M.set k x).length),MindOK f i (M.set k x)[i]:=by
 intro i hi
 rw [List.getElem_set]
 split
 ·rename_i e;subst e;exact hx
 ·exact h i (by simpa using hi)
theorem qafp (f:DFleet) (M S:List DMind) (W:List DPacket) (hl:M.length≤100) (a:Nat):qbr ((f,(M,S,W,()),()):DRun) (a:Int)=some ((decide (a<M.length),()),(((f,(M,S,W,()),()):DRun),())):=by
 have e:iSub .i64 (lenI M) 1=(M.length:Int)-1:=by rw [qaa];exact qir (by omega) (by omega)
 have e2:(iLe 0 (a:Int)&&iLe (a:Int) ((M.length:Int)-1))=decide (a<M.length):=by
  rw [qaz (by omega)]
  by_cases h:a<M.length
  ·rw [qaz (by omega),decide_eq_true h];rfl
  ·rw [qc2 (by omega),decide_eq_false h];rfl
 unfold qbr
 simp only
 rw [e,qgk,qb7,e2]
 rfl
theorem qakg {f:DFleet} (hf:FleetOK f) {y:DYard} (hy:YardOK f y) {k:Nat} (hk:k<y.1.length) : ∃ (code:Int) (y':DYard),qfb ((f,y,()):DRun) (k:Int)=some ((code,()),(((f,y',()):DRun),())) ∧
  qfm ((f,y,()):DRun) (k:Int)=some ((code,()),(((f,y',()):DRun),()))∧YardOK f y':=by
 have hyy:=hy
 obtain ⟨M,S,W,⟨⟩⟩:=y
 obtain ⟨nm,ns,hm,hs,nw,hw⟩:=hy
 have nm:M.length=f.2.2.1.length:=nm
 have hk:k<M.length:=hk
 have hfew:=hf.few
 have hx:=hm k hk
 have hx:MindOK f k M[k]:=hx
 have hkf:k<f.2.2.1.length:=by omega
 have b1:inB (k:Int) M.length=true:=qaf hk
 have b2:inB (k:Int) f.2.2.1.length=true:=qaf hkf
 have gM:List.getD M k (((0,[],()),0,()):DMind)=M[k]:=qal hk
 have gS:List.getD f.2.2.1 k ([]:List DSight)=f.2.2.1[k]:=qal hkf
 obtain ⟨hs16,hsights⟩:=hf.short _ (List.getElem_mem hkf)
 have hlow:=hx.low
 have hup:=hx.up
 rw [gS] at hup
 unfold qfb qfm
 simp only
 rw [qafp f M S W (by omega) k,decide_eq_true hk]
 simp only [Option.bind_some,Bool.not_true,cond_false,Int.toNat_natCast]
 rw [b1,b2,gM,gS]
 simp only [cond_true]
 by_cases he:M[k].2.1=((f.2.2.1[k]).length:Int)
 ·rw [qmp (by rw [qaa];exact he)]
  exact ⟨_,_,rfl,rfl,hyy⟩
 ·rw [qa4 (by rw [qaa];exact he)]
  obtain ⟨t,ht⟩:=Int.eq_ofNat_of_zero_le hlow
  have ht':t<(f.2.2.1[k]).length:=by omega
  have b3:inB M[k].2.1 (f.2.2.1[k]).length=true:=by rw [ht];exact qaf ht'
  have gX:List.getD f.2.2.1[k] (M[k].2.1).toNat (((0,0,0,()),0,0,()):DSight)=(f.2.2.1[k])[t]:=by rw [ht,Int.toNat_natCast];exact qal ht'
  have hsx:=hsights _ (List.getElem_mem ht')
  rw [b3,gX]
  simp only [cond_false,cond_true]
  generalize (f.2.2.1[k])[t]=x at hsx
  obtain ⟨m',c,code,h1,m2,c2,h2,h3⟩:=qahx hf.side hx.map hsx.at' hsx.wt x.2.2.1 f.2.1
  rw [h1,h2]
  simp only [Option.bind_some]
  by_cases hc:code=0
  ·subst hc
   obtain ⟨rfl,hm'⟩:=h3 rfl
   have i00:iEq (0:Int) 0=true:=by decide
   rw [i00]
   simp only [Bool.not_true,cond_false]
   rw [qacr hk]
   have e1:iAdd .i64 M[k].2.1 1=M[k].2.1+1:=qc1 (by omega) (by omega)
   refine ⟨0,(M.set k (m2,M[k].2.1+1,()),S,W,()),?_,?_,⟨by simpa using nm,ns,qtl hm ⟨hm',by show 0≤M[k].2.1+1;omega,by
    show M[k].2.1+1≤_
    rw [gS];omega⟩,hs,nw,hw⟩⟩
   ·show some (((0:Int),()),(((f,(((M.set k (m2,M[k].2)).set k (m2,iAdd .i64 M[k].2.1 1,M[k].2.2)),S,W,()),()):DRun),()))=_
    rw [e1,List.set_set]
   ·show some (((0:Int),()),(((f,(((M.set k (m2,M[k].2)).set k (m2,iAdd .i64 M[k].2.1 1,M[k].2.2)),S,W,()),()):DRun),()))=_
    rw [e1,List.set_set]
  ·rw [qa4 hc]
   exact ⟨_,_,rfl,rfl,hyy⟩
theorem qabn {f:DFleet} (hf:FleetOK f) {y:DYard} (hy:YardOK f y) {p:DPacket} (hp:(0≤p.1∧p.1<f.2.2.1.length) ∧ ∃ m,MapOK f.1 m∧p.2.1=mapT m) : ∃ y':DYard,qdl ((f,y,()):DRun) p=some ((),(((f,y',()):DRun),())) ∧
  qeu ((f,y,()):DRun) p=some ((),(((f,y',()):DRun),()))∧YardOK f y':=by
 have hyy:=hy
 obtain ⟨M,S,W,⟨⟩⟩:=y
 obtain ⟨nm,ns,hm,hs,nw,hw⟩:=hy
 have nm:M.length=f.2.2.1.length:=nm
 obtain ⟨⟨p0,p1⟩,n,hn,ht⟩:=hp
 obtain ⟨t,tx,⟨⟩⟩:=p
 have ht:tx=mapT n:=ht
 subst ht
 obtain ⟨k,rfl⟩:=Int.eq_ofNat_of_zero_le (show 0≤t from p0)
 have p1:(k:Int)<(f.2.2.1.length:Int):=p1
 have hk:k<M.length:=by omega
 have hx:MindOK f k M[k]:=hm k hk
 have b1:inB (k:Int) M.length=true:=qaf hk
 have gM:List.getD M k (((0,[],()),0,()):DMind)=M[k]:=qal hk
 have i00:iEq (0:Int) 0=true:=by decide
 obtain ⟨r,code,h1,r2,h2,h3,h4⟩:=qagr hf.side hx.map hn
 unfold qdl qeu
 simp only
 rw [qyn hf.side hf.fit hn,qz3 hf.side hf.fit hn]
 simp only [Option.bind_some,Int.toNat_natCast]
 rw [i00,b1,gM]
 simp only [Bool.not_true,cond_false,cond_true]
 rw [show qga M[k].1 ((n.1,n.2.1,n.2.2):DMap)=_ from h1,show qfz M[k].1 ((n.1,n.2.1,n.2.2):DMap)=_ from h2]
 simp only [Option.bind_some]
 by_cases hc:code=0
 ·subst hc
  obtain ⟨rfl,hr,-⟩:=h3 rfl
  rw [i00]
  exact ⟨(M.set k (r2,M[k].2),S,W,()),rfl,rfl,⟨by simpa using nm,ns,qtl hm ⟨hr,hx.low,hx.up⟩,hs,nw,hw⟩⟩
 ·rw [qa4 hc]
  exact ⟨_,rfl,rfl,hyy⟩
theorem qaky {α:Type} {W:List α} {a:Nat} {p:α} (h:p∈W.take a++W.drop (a+1)):p∈W:=(List.mem_append.1 h).elim List.mem_of_mem_take List.mem_of_mem_drop
theorem qaio {f:DFleet} (hf:FleetOK f) {y:DYard} (hy:YardOK f y) {k:Nat} (hk:k=3∨k=4∨k=5) (a b:Nat) : ∃ (code:Int) (y':DYard),qdd ((f,y,()):DRun) (((k:Int),(a:Int),(b:Int),()):DDeed)=some ((code,()),(((f,y',()):DRun),())) ∧
  qci ((f,y,()):DRun) (((k:Int),(a:Int),(b:Int),()):DDeed)=some ((code,()),(((f,y',()):DRun),()))∧YardOK f y':=by
 have hyy:=hy
 obtain ⟨M,S,W,⟨⟩⟩:=y
 obtain ⟨nm,ns,hm,hs,nw,hw⟩:=hy
 have nw:W.length≤10:=nw
 have hw : ∀ p∈W,(0≤p.1∧p.1<f.2.2.1.length) ∧ ∃ m,MapOK f.1 m∧p.2.1=mapT m:=hw
 have e0:iSub .i64 (lenI W) 1=(W.length:Int)-1:=by rw [qaa];exact qir (by omega) (by omega)
 unfold qdd qci
 simp only
 rw [e0,qgk,qb7,qaz (by omega:(0:Int)≤(a:Int))]
 by_cases ha:a<W.length
 ·have b1:inB (a:Int) W.length=true:=qaf ha
  have gW:List.getD W (a:Int).toNat ((0,[],()):DPacket)=W[a]:=by rw [Int.toNat_natCast];exact qal ha
  have e5:iAdd .i64 (a:Int) 1=((a+1:Nat):Int):=(qc1 (by omega) (by omega)).trans (by omega)
  have hdel:qhu W (a:Int) ((a+1:Nat):Int)=some ((W.take a++W.drop (a+1),()),()):=qyg (.pair (.int .i64) (.pair .str .unit)) W a ha
  have e6:inS ((a+1:Nat):Int) ((W.length:Nat):Int) W.length=true:=by unfold inS;simp;omega
  have e7:inS 0 (a:Int) W.length=true:=by unfold inS;simp;omega
  have t1:List.take (W.length-((a+1:Nat):Int).toNat) (List.drop ((a+1:Nat):Int).toNat W)=W.drop (a+1):=by
   rw [Int.toNat_natCast];exact List.take_of_length_le (by rw [List.length_drop];omega)
  have t2:List.take (a:Int).toNat (List.drop 0 W)=W.take a:=by rw [Int.toNat_natCast,List.drop_zero]
  have l1:(W.drop (a+1)).length≤10:=by rw [List.length_drop];omega
  have l2:(W.take a).length≤10:=by rw [List.length_take];omega
  have hp:=hw _ (List.getElem_mem ha)
  have i54:iEq (5:Int) 4=false:=by decide
  have i55:iEq (5:Int) 5=true:=by decide
  have i44:iEq (4:Int) 4=true:=by decide
  have i45:iEq (4:Int) 5=false:=by decide
  have i34:iEq (3:Int) 4=false:=by decide
  have i35:iEq (3:Int) 5=false:=by decide
  have hy2:YardOK f (M,S,W.take a++W.drop (a+1),()):=⟨nm,ns,hm,hs,by
   show (W.take a++W.drop (a+1)).length≤10
   rw [List.length_append,List.length_take,List.length_drop];omega,fun p hq=>hw p (qaky hq)⟩
  rw [qaz (by omega:(a:Int)≤(W.length:Int)-1),qc2 (by rw [qaa];omega),b1,gW,e5,e6,e7,t1,t2]
  simp only [Bool.not_true,Bool.and_self,cond_false,cond_true,List.nil_append]
  rw [qav (by omega),qav (by omega),qav (by omega),hdel]
  simp only [Option.bind_some,cond_true]
  rcases hk with rfl | rfl | rfl
  ·obtain ⟨y',h1,h2,h3⟩:=qabn hf hy2 hp
   rw [show ((3:Nat):Int)=3 from rfl,i34,i35]
   simp only [Bool.not_false,cond_true]
   rw [h1,h2]
   exact ⟨_,_,rfl,rfl,h3⟩
  ·obtain ⟨y',h1,h2,h3⟩:=qabn hf hyy hp
   rw [show ((4:Nat):Int)=4 from rfl,i44,i45]
   simp only [Bool.not_true,Bool.not_false,cond_true,cond_false]
   rw [h1,h2]
   exact ⟨_,_,rfl,rfl,h3⟩
  ·rw [show ((5:Nat):Int)=5 from rfl,i54,i55]
   simp only [Bool.not_true,Bool.not_false,cond_true,cond_false]
   exact ⟨_,_,rfl,rfl,hy2⟩
 ·rw [qc2 (by omega:¬ (a:Int)≤(W.length:Int)-1),qaz (by rw [qaa];omega)]
  exact ⟨_,_,rfl,rfl,hyy⟩
theorem qaeh {x:DMind} (h:x.1.2.1.length≤200):qej x=some ((x,()),()):=by
 unfold qej
 rw [qv7 (by omega)]
 rfl
theorem qabo {x:DMind} (h:x.1.2.1.length≤200):qes x=some ((x,()),()):=by
 unfold qes
 rw [qav (by omega)]
 rfl
theorem qak0 {f:DFleet} (hf:FleetOK f) {y:DYard} (hy:YardOK f y) {d:DDeed} (hd:deedB d=true) : ∃ (code:Int) (y':DYard),qcp ((f,y,()):DRun) d=some ((code,()),(((f,y',()):DRun),())) ∧
  qb5 ((f,y,()):DRun) d=some ((code,()),(((f,y',()):DRun),()))∧YardOK f y':=by
 obtain ⟨k,a,b,rfl,k1,k7,ha,hb,hk2⟩:=qagk hd
 have hyy:=hy
 by_cases hw:k=3∨k=4∨k=5
 ·obtain ⟨code,y',h1,h2,h3⟩:=qaio hf hy hw a b
  refine ⟨code,y',?_,?_,h3⟩
  ·unfold qcp
   simp only
   rw [qa4 (by omega:((k:Nat):Int)≠1),qa4 (by omega:((k:Nat):Int)≠2),qa4 (by omega:((k:Nat):Int)≠6),qa4 (by omega:((k:Nat):Int)≠7)]
   simp only [cond_false]
   rw [show qdd ((f,(y.1,y.2.1,y.2.2.1,y.2.2.2),()):DRun) _=_ from h1]
   rfl
  ·unfold qb5
   simp only
   have hh:qci ((f,(y.1,y.2.1,y.2.2.1,y.2.2.2),()):DRun) (((k:Int),(a:Int),(b:Int),()):DDeed)=_:=h2
   rw [hh]
   rcases hw with rfl | rfl | rfl <;> rfl
 ·have hk:k=1∨k=2∨k=6∨k=7:=by omega
  obtain ⟨M,S,W,⟨⟩⟩:=y
  obtain ⟨nm,ns,hm,hs,nw,hwr⟩:=hy
  have nm:M.length=f.2.2.1.length:=nm
  have ns:S.length=f.2.2.1.length:=ns
  have nw:W.length≤10:=nw
  have hfew:=hf.few
  have spec0 : ∀ {X Y Z:Option ((Int×Unit)×(DRun×Unit))},((bif iEq ((k:Nat):Int) 3 then X else bif iEq ((k:Nat):Int) 4 then X else bif iEq ((k:Nat):Int) 5 then X else Z)=Z):=by
   intro X Y Z
   rw [qa4 (by omega:((k:Nat):Int)≠3),qa4 (by omega:((k:Nat):Int)≠4),qa4 (by omega:((k:Nat):Int)≠5)]
   rfl
  have hhas : ∀ c:Nat,qbr ((f,(M,S,W,()),()):DRun) (c:Int)=_:=fun c=>qafp f M S W (by omega) c
  by_cases hin:a<M.length
  ·have b1:inB (a:Int) M.length=true:=qaf hin
   have b2:inB (a:Int) S.length=true:=qaf (by omega)
   have gM:List.getD M (a:Int).toNat (((0,[],()),0,()):DMind)=M[a]:=by rw [Int.toNat_natCast];exact qal hin
   have gS:List.getD S (a:Int).toNat (((0,[],()),0,()):DMind)=S[a]'(by omega):=by rw [Int.toNat_natCast];exact qal (by omega)
   have xM:MindOK f a M[a]:=hm a hin
   have xS:MindOK f a (S[a]'(by omega)):=hs a (by show a<S.length;omega)
   have le1:iLe (lenI M) (a:Int)=false:=qc2 (by rw [qaa];omega)
   unfold qcp qb5
   simp only
   rw [spec0 (Y:=none),le1]
   rcases hk with rfl | rfl | rfl | rfl
   ·obtain ⟨code,y',h1,h2,h3⟩:=qakg hf hyy hin
    rw [h1,h2]
    exact ⟨code,y',rfl,rfl,h3⟩
   ·rw [hhas a,decide_eq_true hin]
    simp only [Option.bind_some,Bool.not_true]
    rw [hhas b]
    simp only [Option.bind_some]
    by_cases hbn:b<M.length
    ·rw [decide_eq_true hbn,qc2 (by rw [qaa];omega:¬ lenI M≤(b:Int))]
     by_cases hab:a=b
     ·rw [qmp (by omega:((a:Nat):Int)=((b:Nat):Int))]
      exact ⟨_,_,rfl,rfl,hyy⟩
     ·rw [qa4 (by omega:((a:Nat):Int)≠((b:Nat):Int))]
      by_cases h10:W.length=10
      ·rw [qmp (show lenI W=10 by rw [qaa];omega),qaz (show (10:Int)≤lenI W by rw [qaa];omega)]
       exact ⟨_,_,rfl,rfl,hyy⟩
      ·rw [qa4 (show lenI W≠10 by rw [qaa];omega),qc2 (show ¬ (10:Int)≤lenI W by rw [qaa];omega),b1,gM,qyv hf.fit xM.map,qz1 hf.side hf.fit xM.map]
       simp only [Option.bind_some]
       rw [qav (by omega)]
       refine ⟨0,(M,S,W++[((b:Int),mapT M[a].1,())],()),rfl,rfl,⟨nm,ns,hm,hs,by show (W++[((b:Int),mapT M[a].1,())]).length≤10;simp;omega,fun p hp => ?_⟩⟩
       rcases List.mem_append.1 hp with hp | hp
       ·exact hwr p hp
       ·rw [List.mem_singleton.1 hp]
        exact ⟨⟨by show (0:Int)≤(b:Int);omega,by show (b:Int)<_;omega⟩,_,xM.map,rfl⟩
    ·rw [decide_eq_false hbn,qaz (by rw [qaa];omega:lenI M≤(b:Int))]
     exact ⟨_,_,rfl,rfl,hyy⟩
   ·rw [hhas a,decide_eq_true hin]
    simp only [Option.bind_some,Bool.not_true]
    rw [b1,b2,gM,qaeh xM.map.len,qabo xM.map.len]
    refine ⟨0,(M,S.set a M[a],W,()),?_,?_,⟨nm,by simpa using ns,hm,qtl hs xM,nw,hwr⟩⟩
    ·show some (((0:Int),()),(((f,(M,S.set (a:Int).toNat M[a],W,()),()):DRun),()))=_
     rw [Int.toNat_natCast]
    ·show some (((0:Int),()),(((f,(M,S.set (a:Int).toNat M[a],W,()),()):DRun),()))=_
     rw [Int.toNat_natCast]
   ·rw [hhas a,decide_eq_true hin]
    simp only [Option.bind_some,Bool.not_true]
    rw [b1,b2,gS,qaeh xS.map.len,qabo xS.map.len]
    refine ⟨0,(M.set a (S[a]'(by omega)),S,W,()),?_,?_,⟨by simpa using nm,ns,qtl hm xS,hs,nw,hwr⟩⟩
    ·show some (((0:Int),()),(((f,(M.set (a:Int).toNat (S[a]'(by omega)),S,W,()),()):DRun),()))=_
     rw [Int.toNat_natCast]
    ·show some (((0:Int),()),(((f,(M.set (a:Int).toNat (S[a]'(by omega)),S,W,()),()):DRun),()))=_
     rw [Int.toNat_natCast]
  ·have le1:iLe (lenI M) (a:Int)=true:=qaz (by rw [qaa];omega)
   unfold qcp qb5 qfb
   simp only
   rw [spec0 (Y:=none),le1]
   rcases hk with rfl | rfl | rfl | rfl <;> rw [hhas a,decide_eq_false hin] <;> exact ⟨_,_,rfl,rfl,hyy⟩
end
end Go.Proofs.YtjhdoneobdbeaaaGreatDoor
