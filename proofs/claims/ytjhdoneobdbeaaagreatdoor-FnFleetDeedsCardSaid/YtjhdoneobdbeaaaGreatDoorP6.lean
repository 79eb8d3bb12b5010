import Derived.Test.YtjhdoneobdbeaaaGreatDoorP5
/- Functions of the program and of the reference in plain terms. -/
set_option linter.unusedSectionVars false
set_option linter.unusedSimpArgs false
set_option linter.unusedVariables false
namespace Go.Proofs.YtjhdoneobdbeaaaGreatDoor
open Go Go.Tm
section
theorem qac7 {side:Nat} (hs:sideB side=true) (hg:fltFit .f32 side) {m:DMap} (h:MapOK side m):qn5 (mapT m)=some ((m,0,()),()):=by
 have hlen:=qaai h
 have htext:=quq hg h
 have hval:=qjs m h.sized
 rw [h.valid hs] at hval
 have hsplit:=qep 10 (s:=mapT m) (by omega)
 rw [qacn] at hsplit
 obtain ⟨a,l,⟨⟩⟩:=m
 obtain ⟨hsd,hl,-,hk⟩:=h
 have hsd:a=side:=hsd
 subst hsd
 have hl:l.length≤200:=hl
 have hk : ∀ x∈l,MarkOK x:=hk
 have g:=qiu hg
 generalize hT:mapT ((a,l,()):DMap)=T at *
 have hLs:(mapL ((a,l,()):DMap)++[[]]).length=l.length+2:=by simp [mapL]
 have hget : ∀ i (hi:i<l.length),List.getD (mapL ((a,l,()):DMap)++[[]]) (i+1) ([]:List UInt8)=markL l[i]:=by
  intro i hi
  rw [List.getD_eq_getElem?_getD,List.getElem?_append_left (by simp [mapL];omega)]
  simp [mapL,hi]
 have hlast:List.getD (mapL ((a,l,()):DMap)++[[]]) (l.length+1) ([]:List UInt8)=[]:=by
  rw [List.getD_eq_getElem?_getD,List.getElem?_append_right (by simp [mapL])]
  simp [mapL]
 have h0:List.getD (mapL ((a,l,()):DMap)++[[]]) 0 ([]:List UInt8)=mapH a:=rfl
 generalize mapL ((a,l,()):DMap)++[[]]=Ls at *
 have hsub:iSub .i64 (lenI Ls) 1=((l.length+1:Nat):Int):=by rw [qaa,hLs,qd3 (by omega) (by omega)];omega
 have hrun : ∀ (d i:Nat),i+d=l.length→run (qgh ((Ls,()),()) T) (true,((i+1:Nat):Int),((a,l.take i,()):DMap),())=some ((((a,l,()):DMap),0,()),()):=by
  intro d
  induction d with
  | zero =>
   intro i hi
   have hi:i=l.length:=by omega
   subst hi
   rw [List.take_length]
   refine qaj ?_
   unfold qgh
   simp only
   rw [hsub,qaf (by omega)]
   simp only [Bool.not_true,cond_false]
   rw [hval]
   simp only [Option.bind_some,Bool.not_true,cond_false]
   rw [htext]
   simp only [Option.bind_some]
   rw [qdy]
   rfl
  | succ d ih =>
   intro i hi
   have hlt:i<l.length:=by omega
   have hx:=hk _ (List.getElem_mem hlt)
   have hstep:qgh ((Ls,()),()) T (true,((i+1:Nat):Int),((a,l.take i,()):DMap),())=some (.inl (true,((i+1+1:Nat):Int),((a,l.take (i+1),()):DMap),())):=by
    unfold qgh
    simp only
    rw [hsub,qah (by omega),qae (by rw [hLs];omega),Int.toNat_natCast,hget i hlt,qadi hx,qaq (n:=l.length+2) (by omega) (by omega)]
    simp only [cond_true,Option.bind_some]
    rw [qaw (by rw [List.length_take];omega)]
    simp only [cond_true]
    rw [List.take_append_getElem hlt]
   rw [qak hstep]
   exact ih (i+1) (by omega)
 have hd:dropL (mapH a) 4=hex8 a:=by rw [qt0];rfl
 have ht:takeL (mapH a) 4=[109,97,112,32]:=by rw [qt0];rfl
 have hH:iEq (lenI (mapH a)) 12=true:=qek (by rw [qaa,qfw];rfl)
 have hi4:inS 0 4 (mapH a).length=true:=by rw [qfw];rfl
 have hi5:inS 4 (lenI (mapH a)) (mapH a).length=true:=by rw [qaa,qfw];rfl
 have hb0:inB 0 Ls.length=true:=by rw [hLs];exact qae (i:=0) (by omega)
 unfold qn5
 rw [qaf (by rw [qaa];omega),show qbz T (10:Int)=_ from hsplit]
 simp only [cond_false,Option.bind_some]
 rw [hsub,qaf (by rw [qaa,hLs];omega),qae (by rw [hLs];omega),Int.toNat_natCast,hlast,hb0,h0,hH,hi4,ht,hi5,hd,qsu g]
 simp only [cond_false,cond_true,Option.bind_some,qdy,Bool.not_true]
 have:=hrun l.length 0 (by omega)
 rw [List.take_zero] at this
 exact this
theorem qaoi {n:Int} (h : -999999999999≤n) (h1:n≤999999999999):parseInt64 (Lib.itoa n)=(n,true):=by
 by_cases h0:0≤n
 ·rw [qsp h0,qfk (by omega),Int.toNat_of_nonneg h0]
 ·obtain ⟨u,rfl⟩ : ∃ u:Nat,n = -(u:Int):=⟨n.natAbs,by omega⟩
  have hu:1≤u:=by omega
  obtain ⟨h1,h2,_⟩:=qbf u
  have hp:=qq6 (Lib.decDigits u) 0 h1 (by rw [h2];omega)
  rw [h2] at hp
  have hne:=ql2 u
  rw [Lib.itoa_neg u hu]
  unfold parseInt64
  have:Lib.parseIntB 64 (45 :: Lib.decDigits u) = .ok (-(u:Int)):=by
   unfold Lib.parseIntB
   have hd:¬ (Lib.decDigits u=[]):=by intro h;rw [h] at hne;simp at hne
   simp only [if_pos (show ((45:UInt8).toNat=43∨(45:UInt8).toNat=45) by decide),Lib.parseUintB,if_neg hd,hp]
   rw [if_neg (by intro h;exact h.1 rfl),if_neg (by omega),if_pos (by decide)]
  rw [this]
theorem qys {n:Int} (h : -1000000000≤n) (h1:n≤1000000000) (hl:(Lib.itoa n).length≤1048576) (ws:List (List UInt8)):qac ((Lib.itoa n :: ws,false,()):DRd)=some ((n,()),((ws,false,()),())):=by
 have hw:wordOf ((Lib.itoa n :: ws,false,()):DRd)=Lib.itoa n:=rfl
 have hp:=qaoi (n:=n) (by omega) (by omega)
 have hi:intOf ((Lib.itoa n :: ws,false,()):DRd)=n:=by unfold intOf;rw [hw,hp]
 rw [qc6 (by rw [hw];exact hl),hi]
 unfold intRest
 simp only
 rw [hw,hi,hp,qdy]
 rfl
theorem qy0 {a:Nat} (h:goodN a) (ws:List (List UInt8)):qan ((hex8 a :: ws,false,()):DRd)=some ((a,()),((ws,false,()),())):=by
 have hw:wordOf ((hex8 a :: ws,false,()):DRd)=hex8 a:=rfl
 obtain ⟨y,h1,h2⟩:=qamf ((hex8 a :: ws,false,()):DRd) (by rw [hw,qc1];decide)
 have hn:numR (hex8 a)=some a:=h
 rw [hw] at h1 h2
 rw [h1,h2 a hn,hn]
 rfl
theorem qao1 {v:Vec 3 Nat} (h:goodV v) (ws:List (List UInt8)):qaz ((hex8 (Vec.getD 3 v 0 (0:Nat)) :: hex8 (Vec.getD 3 v 1 (0:Nat)) :: hex8 (Vec.getD 3 v 2 (0:Nat)) :: ws,false,()):DRd)=some ((v,()),((ws,false,()),())):=by
 have n0:=qy0 (a:=Vec.getD 3 v 0 (0:Nat)) h.1 (hex8 (Vec.getD 3 v 1 (0:Nat)) :: hex8 (Vec.getD 3 v 2 (0:Nat)) :: ws)
 have n1:=qy0 (a:=Vec.getD 3 v 1 (0:Nat)) h.2.1 (hex8 (Vec.getD 3 v 2 (0:Nat)) :: ws)
 have n2:=qy0 (a:=Vec.getD 3 v 2 (0:Nat)) h.2.2 ws
 unfold qaz
 simp only
 rw [n0]
 simp only [Option.bind_some]
 rw [n1]
 simp only [Option.bind_some]
 rw [n2]
 rfl
theorem qajn {s:List UInt8} (h:s.length≤1000000):qby s=some (((splitC 32 s,false,()),()),()):=by
 unfold qby
 rw [qde 32 (by omega)]
 rfl
theorem qad0 {a:Nat} {xs:List (List UInt8)} {i:Nat} (hi:i<xs.length) (hl:xs.length≤200) {x:DMark} (hx:MarkOK x) (he:xs[i]=markL x) {out:List DMark} (ho:out.length≤200) :
  qg8 xs ((i:Int),((a,out,()):DMap),())=some (.inl (((i+1:Nat):Int),((a,out++[x],()):DMap),())):=by
 have hlen:=markL_length hx
 obtain ⟨g1,g2⟩:=hx.good
 obtain ⟨⟨n1,n2⟩,n3,n4⟩:=hx.nums
 have l0:=qd7 hx.c0.1 hx.c0.2
 have l1:=qd7 hx.c1.1 hx.c1.2
 have l2:=qd7 hx.c2.1 hx.c2.2
 have l3:=qd7 (n:=x.2.2.2.1) (by omega) n2
 have l4:=qwv n3 n4
 have h0:=hx.c0
 have h1:=hx.c1
 have h2:=hx.c2
 have i0 : ∀ c:Int,-1000000≤c→c≤1000000→(iLe (-2147483648) c&&iLe c 2147483647)=true:=fun c a b=>by rw [qat (by omega),qat (by omega)];rfl
 unfold qg8
 simp only
 rw [qah (by rw [qaa];omega),qae hi,Int.toNat_natCast,qal hi,he,qajn (by omega),qaaj]
 simp only [cond_true,Option.bind_some]
 unfold markW
 rw [qys (by omega) (by omega) (by omega)]
 simp only [Option.bind_some,cond_false,qht,qcg,i0 _ h0.1 h0.2,Bool.not_true]
 rw [qys (by omega) (by omega) (by omega)]
 simp only [Option.bind_some,cond_false,qcg,i0 _ h1.1 h1.2,Bool.not_true]
 rw [qys (by omega) (by omega) (by omega)]
 simp only [Option.bind_some,cond_false,qcg,i0 _ h2.1 h2.2,Bool.not_true]
 rw [qao1 g1]
 simp only [Option.bind_some]
 rw [qy0 g2]
 simp only [Option.bind_some]
 rw [qys (by omega) (by omega) (by omega)]
 simp only [Option.bind_some]
 rw [qys (by omega) (by omega) (by omega)]
 simp only [Option.bind_some]
 rw [qck]
 simp only [Option.bind_some]
 rw [qaw (by omega),qaq hi (by omega),qp1 h0.1 h0.2,qp1 h1.1 h1.2,qp1 h2.1 h2.2]
 rfl
theorem qab2 {side:Nat} (hs:sideB side=true) (hg:fltFit .f32 side) {m:DMap} (h:MapOK side m):qnj (mapT m)=some ((m,0,()),()):=by
 have hlen:=qaai h
 have hval:=qi6 m h.sized
 rw [h.valid hs] at hval
 have hsplit:=qde 10 (s:=mapT m) (by omega)
 rw [qacn] at hsplit
 obtain ⟨a,l,⟨⟩⟩:=m
 obtain ⟨hsd,hl,-,hk⟩:=h
 have hsd:a=side:=hsd
 subst hsd
 have hl:l.length≤200:=hl
 have hk : ∀ x∈l,MarkOK x:=hk
 have g:=qiu hg
 have hlines:qnp (mapT ((a,l,()):DMap))=some ((mapL ((a,l,()):DMap),true,()),()):=by
  unfold qnp
  rw [hsplit]
  simp only [Option.bind_some]
  have hLs:(mapL ((a,l,()):DMap)++[[]]).length=l.length+2:=by simp [mapL]
  have hsub:iSub .i64 (lenI (mapL ((a,l,()):DMap)++[[]])) 1=((l.length+1:Nat):Int):=by rw [qaa,hLs,qd3 (by omega) (by omega)];omega
  have hlast:List.getD (mapL ((a,l,()):DMap)++[[]]) (l.length+1) ([]:List UInt8)=[]:=by
   rw [List.getD_eq_getElem?_getD,List.getElem?_append_right (by simp [mapL])]
   simp [mapL]
  have hin:inS 0 ((l.length+1:Nat):Int) (mapL ((a,l,()):DMap)++[[]]).length=true:=by unfold inS;rw [hLs];simp;omega
  rw [hsub,hin,qah (by omega),qae (by rw [hLs];omega),Int.toNat_natCast,hlast,List.drop_zero,List.take_left' (by simp [mapL])]
  rfl
 have hrun : ∀ (d i:Nat),i+d=l.length→run (qg8 (l.map markL)) ((i:Int),((a,l.take i,()):DMap),())=some ((((a,l,()):DMap),true,()),()):=by
  intro d
  induction d with
  | zero =>
   intro i hi
   have hi:i=l.length:=by omega
   subst hi
   rw [List.take_length]
   refine qaj ?_
   unfold qg8
   simp only
   rw [qaf (by rw [qaa,List.length_map];omega)]
   simp only [cond_false]
   rw [hval]
   rfl
  | succ d ih =>
   intro i hi
   have hlt:i<l.length:=by omega
   have hx:=hk _ (List.getElem_mem hlt)
   rw [qak (qad0 (by rw [List.length_map];exact hlt) (by rw [List.length_map];exact hl) hx (by rw [List.getElem_map]) (by rw [List.length_take];omega)),List.take_append_getElem hlt]
   exact ih (i+1) (by omega)
 have hread:qnr (mapL ((a,l,()):DMap))=some ((((a,l,()):DMap),true,()),()):=by
  have hb0:inB 0 (mapL ((a,l,()):DMap)).length=true:=qae (i:=0) (by simp [mapL])
  have hin:inS 1 (lenI (mapL ((a,l,()):DMap))) (mapL ((a,l,()):DMap)).length=true:=by unfold inS;rw [qaa];simp [mapL];omega
  have hneed:qbe (([wMap,hex8 a],false,()):DRd) [109,97,112]=some ((),(([hex8 a],false,()),())):=by
   unfold qbe
   rw [show qbm ((([wMap,hex8 a],false,()):DRd).1,(([wMap,hex8 a],false,()):DRd).2)=_ from qcv _]
   rfl
  unfold qnr
  rw [hb0,show List.getD (mapL ((a,l,()):DMap)) 0 ([]:List UInt8)=mapH a from rfl,qajn (by rw [qfw];decide),qakq,hin]
  simp only [cond_true,Option.bind_some]
  rw [hneed]
  simp only [Option.bind_some]
  rw [qy0 g]
  simp only [Option.bind_some]
  rw [qck]
  simp only [Option.bind_some]
  rw [show dropL (mapL ((a,l,()):DMap)) 1=l.map markL from rfl]
  have:=hrun l.length 0 (by omega)
  rw [List.take_zero] at this
  exact this
 unfold qnj
 rw [qaf (by rw [qaa];omega),hlines]
 simp only [cond_false,Option.bind_some,Bool.not_true]
 rw [hread]
 rfl
end
section
abbrev DMind:=DMap×(Int×Unit)
abbrev DPacket:=Int×(List UInt8×Unit)
abbrev DYard:=(List DMind)×((List DMind)×((List DPacket)×Unit))
abbrev DRun:=DFleet×(DYard×Unit)
structure SightOK (x:DSight):Prop where
 at':FitVec (fltFit .f32) 3 x.1
 wt:fltFit .f32 x.2.1
structure FleetOK (f:DFleet):Prop where
 side:sideB f.1=true
 fit:fltFit .f32 f.1
 few:f.2.2.1.length≤4
 some:1≤f.2.2.1.length
 short : ∀ l∈f.2.2.1,l.length≤16 ∧ ∀ x∈l,SightOK x
structure MindOK (f:DFleet) (i:Nat) (x:DMind):Prop where
 map:MapOK f.1 x.1
 low:0≤x.2.1
 up:x.2.1≤(f.2.2.1.getD i []).length
structure YardOK (f:DFleet) (y:DYard):Prop where
 nm:y.1.length=f.2.2.1.length
 ns:y.2.1.length=f.2.2.1.length
 minds : ∀ i (h:i<y.1.length),MindOK f i y.1[i]
 saved : ∀ i (h:i<y.2.1.length),MindOK f i y.2.1[i]
 nw:y.2.2.1.length≤10
 wire : ∀ p∈y.2.2.1,(0≤p.1∧p.1<f.2.2.1.length) ∧ ∃ m,MapOK f.1 m∧p.2.1=mapT m
theorem qwx {f:DFleet} {M:List DMind} (h : ∀ i (h:i<M.length),MindOK f i M[i]) {k:Nat} {x:DMind} (hx:MindOK f k x) : ∀ i (h:i<(M.set k x).length),MindOK f i (M.set k x)[i]:=by
 intro i hi
 rw [List.getElem_set]
 split
 ·rename_i e;subst e;exact hx
 ·exact h i (by simpa using hi)
theorem qadv (f:DFleet) (M S:List DMind) (W:List DPacket) (hl:M.length≤100) (a:Nat):qa9 ((f,(M,S,W,()),()):DRun) (a:Int)=some ((decide (a<M.length),()),(((f,(M,S,W,()),()):DRun),())):=by
 have e:iSub .i64 (lenI M) 1=(M.length:Int)-1:=by rw [qaa];exact qd3 (by omega) (by omega)
 have e2:(iLe 0 (a:Int)&&iLe (a:Int) ((M.length:Int)-1))=decide (a<M.length):=by
  rw [qat (by omega)]
  by_cases h:a<M.length
  ·rw [qat (by omega),decide_eq_true h];rfl
  ·rw [qbt (by omega),decide_eq_false h];rfl
 unfold qa9
 simp only
 rw [e,qht,qcg,e2]
 rfl
theorem qaow {f:DFleet} (hf:FleetOK f) {y:DYard} (hy:YardOK f y) {k:Nat} (hk:k<y.1.length) : ∃ (code:Int) (y':DYard),qha ((f,y,()):DRun) (k:Int)=some ((code,()),(((f,y',()):DRun),())) ∧
  qhq ((f,y,()):DRun) (k:Int)=some ((code,()),(((f,y',()):DRun),()))∧YardOK f y':=by
 have hyy:=hy
 obtain ⟨M,S,W,⟨⟩⟩:=y
 obtain ⟨nm,ns,hm,hs,nw,hw⟩:=hy
 have nm:M.length=f.2.2.1.length:=nm
 have hk:k<M.length:=hk
 have hfew:=hf.few
 have hx:=hm k hk
 have hx:MindOK f k M[k]:=hx
 have hkf:k<f.2.2.1.length:=by omega
 have b1:inB (k:Int) M.length=true:=qae hk
 have b2:inB (k:Int) f.2.2.1.length=true:=qae hkf
 have gM:List.getD M k (((0,[],()),0,()):DMind)=M[k]:=qal hk
 have gS:List.getD f.2.2.1 k ([]:List DSight)=f.2.2.1[k]:=qal hkf
 obtain ⟨hs16,hsights⟩:=hf.short _ (List.getElem_mem hkf)
 have hlow:=hx.low
 have hup:=hx.up
 rw [gS] at hup
 unfold qha qhq
 simp only
 rw [qadv f M S W (by omega) k,decide_eq_true hk]
 simp only [Option.bind_some,Bool.not_true,cond_false,Int.toNat_natCast]
 rw [b1,b2,gM,gS]
 simp only [cond_true]
 by_cases he:M[k].2.1=((f.2.2.1[k]).length:Int)
 ·rw [qek (by rw [qaa];exact he)]
  exact ⟨_,_,rfl,rfl,hyy⟩
 ·rw [qau (by rw [qaa];exact he)]
  obtain ⟨t,ht⟩:=Int.eq_ofNat_of_zero_le hlow
  have ht':t<(f.2.2.1[k]).length:=by omega
  have b3:inB M[k].2.1 (f.2.2.1[k]).length=true:=by rw [ht];exact qae ht'
  have gX:List.getD f.2.2.1[k] (M[k].2.1).toNat (((0,0,0,()),0,0,()):DSight)=(f.2.2.1[k])[t]:=by rw [ht,Int.toNat_natCast];exact qal ht'
  have hsx:=hsights _ (List.getElem_mem ht')
  rw [b3,gX]
  simp only [cond_false,cond_true]
  generalize (f.2.2.1[k])[t]=x at hsx
  obtain ⟨m',c,code,h1,m2,c2,h2,h3⟩:=qal8 hf.side hx.map hsx.at' hsx.wt x.2.2.1 f.2.1
  rw [h1,h2]
  simp only [Option.bind_some]
  by_cases hc:code=0
  ·subst hc
   obtain ⟨rfl,hm'⟩:=h3 rfl
   have i00:iEq (0:Int) 0=true:=by decide
   rw [i00]
   simp only [Bool.not_true,cond_false]
   rw [qaf3 hk]
   have e1:iAdd .i64 M[k].2.1 1=M[k].2.1+1:=qcr (by omega) (by omega)
   refine ⟨0,(M.set k (m2,M[k].2.1+1,()),S,W,()),?_,?_,⟨by simpa using nm,ns,qwx hm ⟨hm',by show 0≤M[k].2.1+1;omega,by
    show M[k].2.1+1≤_
    rw [gS];omega⟩,hs,nw,hw⟩⟩
   ·show some (((0:Int),()),(((f,(((M.set k (m2,M[k].2)).set k (m2,iAdd .i64 M[k].2.1 1,M[k].2.2)),S,W,()),()):DRun),()))=_
    rw [e1,List.set_set]
   ·show some (((0:Int),()),(((f,(((M.set k (m2,M[k].2)).set k (m2,iAdd .i64 M[k].2.1 1,M[k].2.2)),S,W,()),()):DRun),()))=_
    rw [e1,List.set_set]
  ·rw [qau hc]
   exact ⟨_,_,rfl,rfl,hyy⟩
theorem qaeu {f:DFleet} (hf:FleetOK f) {y:DYard} (hy:YardOK f y) {p:DPacket} (hp:(0≤p.1∧p.1<f.2.2.1.length) ∧ ∃ m,MapOK f.1 m∧p.2.1=mapT m) : ∃ y':DYard,qe0 ((f,y,()):DRun) p=some ((),(((f,y',()):DRun),())) ∧
  qgp ((f,y,()):DRun) p=some ((),(((f,y',()):DRun),()))∧YardOK f y':=by
 have hyy:=hy
 obtain ⟨M,S,W,⟨⟩⟩:=y
 obtain ⟨nm,ns,hm,hs,nw,hw⟩:=hy
 have nm:M.length=f.2.2.1.length:=nm
 obtain ⟨⟨p0,p1⟩,n,hn,ht⟩:=hp
 obtain ⟨t,tx,⟨⟩⟩:=p
 have ht:tx=mapT n:=ht
 subst ht
 obtain ⟨k,rfl⟩:=Int.eq_ofNat_of_zero_le (show 0≤t from p0)
 have p1:(k:Int)<(f.2.2.1.length:Int):=p1
 have hk:k<M.length:=by omega
 have hx:MindOK f k M[k]:=hm k hk
 have b1:inB (k:Int) M.length=true:=qae hk
 have gM:List.getD M k (((0,[],()),0,()):DMind)=M[k]:=qal hk
 have i00:iEq (0:Int) 0=true:=by decide
 obtain ⟨r,code,h1,r2,h2,h3,h4⟩:=qaks hf.side hx.map hn
 unfold qe0 qgp
 simp only
 rw [qab2 hf.side hf.fit hn,qac7 hf.side hf.fit hn]
 simp only [Option.bind_some,Int.toNat_natCast]
 rw [i00,b1,gM]
 simp only [Bool.not_true,cond_false,cond_true]
 rw [show qil M[k].1 ((n.1,n.2.1,n.2.2):DMap)=_ from h1,show qic M[k].1 ((n.1,n.2.1,n.2.2):DMap)=_ from h2]
 simp only [Option.bind_some]
 by_cases hc:code=0
 ·subst hc
  obtain ⟨rfl,hr,-⟩:=h3 rfl
  rw [i00]
  exact ⟨(M.set k (r2,M[k].2),S,W,()),rfl,rfl,⟨by simpa using nm,ns,qwx hm ⟨hr,hx.low,hx.up⟩,hs,nw,hw⟩⟩
 ·rw [qau hc]
  exact ⟨_,rfl,rfl,hyy⟩
theorem qapc {α:Type} {W:List α} {a:Nat} {p:α} (h:p∈W.take a++W.drop (a+1)):p∈W:=(List.mem_append.1 h).elim List.mem_of_mem_take List.mem_of_mem_drop
theorem qam2 {f:DFleet} (hf:FleetOK f) {y:DYard} (hy:YardOK f y) {k:Nat} (hk:k=3∨k=4∨k=5) (a b:Nat) : ∃ (code:Int) (y':DYard),qel ((f,y,()):DRun) (((k:Int),(a:Int),(b:Int),()):DDeed)=some ((code,()),(((f,y',()):DRun),())) ∧
  qdb ((f,y,()):DRun) (((k:Int),(a:Int),(b:Int),()):DDeed)=some ((code,()),(((f,y',()):DRun),()))∧YardOK f y':=by
 have hyy:=hy
 obtain ⟨M,S,W,⟨⟩⟩:=y
 obtain ⟨nm,ns,hm,hs,nw,hw⟩:=hy
 have nw:W.length≤10:=nw
 have hw : ∀ p∈W,(0≤p.1∧p.1<f.2.2.1.length) ∧ ∃ m,MapOK f.1 m∧p.2.1=mapT m:=hw
 have e0:iSub .i64 (lenI W) 1=(W.length:Int)-1:=by rw [qaa];exact qd3 (by omega) (by omega)
 unfold qel qdb
 simp only
 rw [e0,qht,qcg,qat (by omega:(0:Int)≤(a:Int))]
 by_cases ha:a<W.length
 ·have b1:inB (a:Int) W.length=true:=qae ha
  have gW:List.getD W (a:Int).toNat ((0,[],()):DPacket)=W[a]:=by rw [Int.toNat_natCast];exact qal ha
  have e5:iAdd .i64 (a:Int) 1=((a+1:Nat):Int):=(qcr (by omega) (by omega)).trans (by omega)
  have hdel:qj6 W (a:Int) ((a+1:Nat):Int)=some ((W.take a++W.drop (a+1),()),()):=qabu (.pair (.int .i64) (.pair .str .unit)) W a ha
  have e6:inS ((a+1:Nat):Int) ((W.length:Nat):Int) W.length=true:=by unfold inS;simp;omega
  have e7:inS 0 (a:Int) W.length=true:=by unfold inS;simp;omega
  have t1:List.take (W.length-((a+1:Nat):Int).toNat) (List.drop ((a+1:Nat):Int).toNat W)=W.drop (a+1):=by
   rw [Int.toNat_natCast];exact List.take_of_length_le (by rw [List.length_drop];omega)
  have t2:List.take (a:Int).toNat (List.drop 0 W)=W.take a:=by rw [Int.toNat_natCast,List.drop_zero]
  have l1:(W.drop (a+1)).length≤10:=by rw [List.length_drop];omega
  have l2:(W.take a).length≤10:=by rw [List.length_take];omega
  have hp:=hw _ (List.getElem_mem ha)
  have i54:iEq (5:Int) 4=false:=by decide
  have i55:iEq (5:Int) 5=true:=by decide
  have i44:iEq (4:Int) 4=true:=by decide
  have i45:iEq (4:Int) 5=false:=by decide
  have i34:iEq (3:Int) 4=false:=by decide
  have i35:iEq (3:Int) 5=false:=by decide
  have hy2:YardOK f (M,S,W.take a++W.drop (a+1),()):=⟨nm,ns,hm,hs,by
   show (W.take a++W.drop (a+1)).length≤10
   rw [List.length_append,List.length_take,List.length_drop];omega,fun p hq=>hw p (qapc hq)⟩
  rw [qat (by omega:(a:Int)≤(W.length:Int)-1),qbt (by rw [qaa];omega),b1,gW,e5,e6,e7,t1,t2]
  simp only [Bool.not_true,Bool.and_self,cond_false,cond_true,List.nil_append]
  rw [qaw (by omega),qaw (by omega),qaw (by omega),hdel]
  simp only [Option.bind_some,cond_true]
  rcases hk with rfl | rfl | rfl
  ·obtain ⟨y',h1,h2,h3⟩:=qaeu hf hy2 hp
   rw [show ((3:Nat):Int)=3 from rfl,i34,i35]
   simp only [Bool.not_false,cond_true]
   rw [h1,h2]
   exact ⟨_,_,rfl,rfl,h3⟩
  ·obtain ⟨y',h1,h2,h3⟩:=qaeu hf hyy hp
   rw [show ((4:Nat):Int)=4 from rfl,i44,i45]
   simp only [Bool.not_true,Bool.not_false,cond_true,cond_false]
   rw [h1,h2]
   exact ⟨_,_,rfl,rfl,h3⟩
  ·rw [show ((5:Nat):Int)=5 from rfl,i54,i55]
   simp only [Bool.not_true,Bool.not_false,cond_true,cond_false]
   exact ⟨_,_,rfl,rfl,hy2⟩
 ·rw [qbt (by omega:¬ (a:Int)≤(W.length:Int)-1),qat (by rw [qaa];omega)]
  exact ⟨_,_,rfl,rfl,hyy⟩
theorem qahw {x:DMind} (h:x.1.2.1.length≤200):qga x=some ((x,()),()):=by
 unfold qga
 rw [qzr (by omega)]
 rfl
theorem qaev {x:DMind} (h:x.1.2.1.length≤200):qgk x=some ((x,()),()):=by
 unfold qgk
 rw [qaw (by omega)]
 rfl
theorem qape {f:DFleet} (hf:FleetOK f) {y:DYard} (hy:YardOK f y) {d:DDeed} (hd:deedB d=true) : ∃ (code:Int) (y':DYard),qbj ((f,y,()):DRun) d=some ((code,()),(((f,y',()):DRun),())) ∧
  qap ((f,y,()):DRun) d=some ((code,()),(((f,y',()):DRun),()))∧YardOK f y':=by
 obtain ⟨k,a,b,rfl,k1,k7,ha,hb,hk2⟩:=qes hd
 have hyy:=hy
 by_cases hw:k=3∨k=4∨k=5
 ·obtain ⟨code,y',h1,h2,h3⟩:=qam2 hf hy hw a b
  refine ⟨code,y',?_,?_,h3⟩
  ·unfold qbj
   simp only
   rw [qau (by omega:((k:Nat):Int)≠1),qau (by omega:((k:Nat):Int)≠2),qau (by omega:((k:Nat):Int)≠6),qau (by omega:((k:Nat):Int)≠7)]
   simp only [cond_false]
   rw [show qel ((f,(y.1,y.2.1,y.2.2.1,y.2.2.2),()):DRun) _=_ from h1]
   rfl
  ·unfold qap
   simp only
   have hh:qdb ((f,(y.1,y.2.1,y.2.2.1,y.2.2.2),()):DRun) (((k:Int),(a:Int),(b:Int),()):DDeed)=_:=h2
   rw [hh]
   rcases hw with rfl | rfl | rfl <;> rfl
 ·have hk:k=1∨k=2∨k=6∨k=7:=by omega
  obtain ⟨M,S,W,⟨⟩⟩:=y
  obtain ⟨nm,ns,hm,hs,nw,hwr⟩:=hy
  have nm:M.length=f.2.2.1.length:=nm
  have ns:S.length=f.2.2.1.length:=ns
  have nw:W.length≤10:=nw
  have hfew:=hf.few
  have spec0 : ∀ {X Y Z:Option ((Int×Unit)×(DRun×Unit))},((bif iEq ((k:Nat):Int) 3 then X else bif iEq ((k:Nat):Int) 4 then X else bif iEq ((k:Nat):Int) 5 then X else Z)=Z):=by
   intro X Y Z
   rw [qau (by omega:((k:Nat):Int)≠3),qau (by omega:((k:Nat):Int)≠4),qau (by omega:((k:Nat):Int)≠5)]
   rfl
  have hhas : ∀ c:Nat,qa9 ((f,(M,S,W,()),()):DRun) (c:Int)=_:=fun c=>qadv f M S W (by omega) c
  by_cases hin:a<M.length
  ·have b1:inB (a:Int) M.length=true:=qae hin
   have b2:inB (a:Int) S.length=true:=qae (by omega)
   have gM:List.getD M (a:Int).toNat (((0,[],()),0,()):DMind)=M[a]:=by rw [Int.toNat_natCast];exact qal hin
   have gS:List.getD S (a:Int).toNat (((0,[],()),0,()):DMind)=S[a]'(by omega):=by rw [Int.toNat_natCast];exact qal (by omega)
   have xM:MindOK f a M[a]:=hm a hin
   have xS:MindOK f a (S[a]'(by omega)):=hs a (by show a<S.length;omega)
   have le1:iLe (lenI M) (a:Int)=false:=qbt (by rw [qaa];omega)
   unfold qbj qap
   simp only
   rw [spec0 (Y:=none),le1]
   rcases hk with rfl | rfl | rfl | rfl
   ·obtain ⟨code,y',h1,h2,h3⟩:=qaow hf hyy hin
    rw [h1,h2]
    exact ⟨code,y',rfl,rfl,h3⟩
   ·rw [hhas a,decide_eq_true hin]
    simp only [Option.bind_some,Bool.not_true]
    rw [hhas b]
    simp only [Option.bind_some]
    by_cases hbn:b<M.length
    ·rw [decide_eq_true hbn,qbt (by rw [qaa];omega:¬ lenI M≤(b:Int))]
     by_cases hab:a=b
     ·rw [qek (by omega:((a:Nat):Int)=((b:Nat):Int))]
      exact ⟨_,_,rfl,rfl,hyy⟩
     ·rw [qau (by omega:((a:Nat):Int)≠((b:Nat):Int))]
      by_cases h10:W.length=10
      ·rw [qek (show lenI W=10 by rw [qaa];omega),qat (show (10:Int)≤lenI W by rw [qaa];omega)]
       exact ⟨_,_,rfl,rfl,hyy⟩
      ·rw [qau (show lenI W≠10 by rw [qaa];omega),qbt (show ¬ (10:Int)≤lenI W by rw [qaa];omega),b1,gM,qace hf.fit xM.map,qac5 hf.side hf.fit xM.map]
       simp only [Option.bind_some]
       rw [qaw (by omega)]
       refine ⟨0,(M,S,W++[((b:Int),mapT M[a].1,())],()),rfl,rfl,⟨nm,ns,hm,hs,by show (W++[((b:Int),mapT M[a].1,())]).length≤10;simp;omega,fun p hp => ?_⟩⟩
       rcases List.mem_append.1 hp with hp | hp
       ·exact hwr p hp
       ·rw [List.mem_singleton.1 hp]
        exact ⟨⟨by show (0:Int)≤(b:Int);omega,by show (b:Int)<_;omega⟩,_,xM.map,rfl⟩
    ·rw [decide_eq_false hbn,qat (by rw [qaa];omega:lenI M≤(b:Int))]
     exact ⟨_,_,rfl,rfl,hyy⟩
   ·rw [hhas a,decide_eq_true hin]
    simp only [Option.bind_some,Bool.not_true]
    rw [b1,b2,gM,qahw xM.map.len,qaev xM.map.len]
    refine ⟨0,(M,S.set a M[a],W,()),?_,?_,⟨nm,by simpa using ns,hm,qwx hs xM,nw,hwr⟩⟩
    ·show some (((0:Int),()),(((f,(M,S.set (a:Int).toNat M[a],W,()),()):DRun),()))=_
     rw [Int.toNat_natCast]
    ·show some (((0:Int),()),(((f,(M,S.set (a:Int).toNat M[a],W,()),()):DRun),()))=_
     rw [Int.toNat_natCast]
   ·rw [hhas a,decide_eq_true hin]
    simp only [Option.bind_some,Bool.not_true]
    rw [b1,b2,gS,qahw xS.map.len,qaev xS.map.len]
    refine ⟨0,(M.set a (S[a]'(by omega)),S,W,()),?_,?_,⟨by simpa using nm,ns,qwx hm xS,hs,nw,hwr⟩⟩
    ·show some (((0:Int),()),(((f,(M.set (a:Int).toNat (S[a]'(by omega)),S,W,()),()):DRun),()))=_
     rw [Int.toNat_natCast]
    ·show some (((0:Int),()),(((f,(M.set (a:Int).toNat (S[a]'(by omega)),S,W,()),()):DRun),()))=_
     rw [Int.toNat_natCast]
  ·have le1:iLe (lenI M) (a:Int)=true:=qat (by rw [qaa];omega)
   unfold qbj qap qha
   simp only
   rw [spec0 (Y:=none),le1]
   rcases hk with rfl | rfl | rfl | rfl <;> rw [hhas a,decide_eq_false hin] <;> exact ⟨_,_,rfl,rfl,hyy⟩
end
section
noncomputable def doF (f:DFleet) (y:DYard) (d:DDeed):Int×DYard :=
 match qap ((f,y,()):DRun) d with
 | some r=>(r.1.1,r.2.1.2.1)
 | none=>(0,y)
theorem ql4 {f:DFleet} (hf:FleetOK f) {y:DYard} (hy:YardOK f y) {d:DDeed} (hd:deedB d=true) :
  qbj ((f,y,()):DRun) d=some (((doF f y d).1,()),(((f,(doF f y d).2,()):DRun),()))∧qap ((f,y,()):DRun) d=some (((doF f y d).1,()),(((f,(doF f y d).2,()):DRun),()))∧YardOK f (doF f y d).2:=by
 obtain ⟨code,y',h1,h2,h3⟩:=qape hf hy hd
 have e:doF f y d=(code,y'):=by unfold doF;rw [h2]
 rw [e]
 exact ⟨h1,h2,h3⟩
noncomputable def playF (f:DFleet):DYard→List DDeed→DYard×List Int
 | y,[]=>(y,[])
 | y,d :: r=>((playF f (doF f y d).2 r).1,(doF f y d).1 :: (playF f (doF f y d).2 r).2)
theorem qaa9 (f:DFleet) : ∀ (ds:List DDeed) (y:DYard),(playF f y ds).2.length=ds.length
 | [],_=>rfl
 | d :: r,y=>by
  show ((doF f y d).1 :: (playF f (doF f y d).2 r).2).length=_
  rw [List.length_cons,qaa9 f r,List.length_cons]
theorem qajt {f:DFleet} (hf:FleetOK f) : ∀ (ds:List DDeed) {y:DYard},YardOK f y→(∀ d∈ds,deedB d=true)→YardOK f (playF f y ds).1
 | [],_,hy,_=>hy
 | d :: r,y,hy,hd=>qajt hf r (ql4 hf hy (hd d (by simp))).2.2 (fun e he=>hd e (by simp [he]))
def mind0 (f:DFleet):DMind:=((f.1,[],()),0,())
def yard0 (f:DFleet):DYard:=(List.replicate f.2.2.1.length (mind0 f),List.replicate f.2.2.1.length (mind0 f),[],())
theorem qahj (f:DFleet) (i:Nat):MindOK f i (mind0 f):=⟨⟨rfl,Nat.zero_le _,⟨fun x hx=>(by cases hx),List.Pairwise.nil⟩,fun x hx=>(by cases hx)⟩,Int.le_refl _,Int.natCast_nonneg _⟩
theorem qgr (f:DFleet):YardOK f (yard0 f):=by
 refine ⟨List.length_replicate,List.length_replicate,fun i h => ?_,fun i h => ?_,Nat.zero_le _,fun p hp=>by cases hp⟩
 ·have:(yard0 f).1[i]=mind0 f:=List.getElem_replicate _
  rw [this];exact qahj f i
 ·have:(yard0 f).2.1[i]=mind0 f:=List.getElem_replicate _
  rw [this];exact qahj f i
theorem qafo {α:Type} (a:α) (n:Nat):List.replicate n a++[a]=List.replicate (n+1) a:=by rw [← List.replicate_succ']
theorem qss {f:DFleet} (hl:f.2.2.1.length≤100):qf2 f=some (((((f,yard0 f,()):DRun),()),()) ):=by
 unfold qf2
 have key : ∀ (d i:Nat),i+d=f.2.2.1.length→run (qfj f) ((i:Int),((f,(List.replicate i (mind0 f),List.replicate i (mind0 f),[],()),()):DRun),())=some (((((f,yard0 f,()):DRun),()),())):=by
  intro d
  induction d with
  | zero =>
   intro i hi
   have hi:i=f.2.2.1.length:=by omega
   subst hi
   refine qaj ?_
   unfold qfj
   simp only
   rw [qaf (by rw [qaa];omega)]
   rfl
  | succ d ih =>
   intro i hi
   have hstep:qfj f ((i:Int),((f,(List.replicate i (mind0 f),List.replicate i (mind0 f),[],()),()):DRun),())=some (.inl (((i+1:Nat):Int),((f,(List.replicate (i+1) (mind0 f),List.replicate (i+1) (mind0 f),[],()),()):DRun),())):=by
    unfold qfj
    simp only
    rw [qah (by rw [qaa];omega),qaw (by rw [List.length_replicate];omega),qaq (n:=f.2.2.1.length) (by omega) (by omega)]
    simp only [cond_true]
    rw [show List.replicate i (mind0 f)++([((f.1,[],()),0,())]:List DMind)=List.replicate (i+1) (mind0 f) from qafo (mind0 f) i]
   rw [qak hstep]
   exact ih (i+1) (by omega)
 exact key f.2.2.1.length 0 (by omega)
theorem qaav {f:DFleet} (hl:f.2.2.1.length≤100):qfh f=some (((((f,yard0 f,()):DRun),()),())):=by
 unfold qfh
 have key : ∀ (d i:Nat),i+d=f.2.2.1.length→run (qgj f) ((i:Int),((f,(List.replicate i (mind0 f),List.replicate i (mind0 f),[],()),()):DRun),())=some (((((f,yard0 f,()):DRun),()),())):=by
  intro d
  induction d with
  | zero =>
   intro i hi
   have hi:i=f.2.2.1.length:=by omega
   subst hi
   refine qaj ?_
   unfold qgj
   simp only
   rw [qaf (by rw [qaa];omega)]
   rfl
  | succ d ih =>
   intro i hi
   have hstep:qgj f ((i:Int),((f,(List.replicate i (mind0 f),List.replicate i (mind0 f),[],()),()):DRun),())=some (.inl (((i+1:Nat):Int),((f,(List.replicate (i+1) (mind0 f),List.replicate (i+1) (mind0 f),[],()),()):DRun),())):=by
    unfold qgj
    simp only
    rw [qah (by rw [qaa];omega),qaw (by rw [List.length_replicate];omega),qaq (n:=f.2.2.1.length) (by omega) (by omega)]
    simp only [cond_true]
    rw [show List.replicate i (mind0 f)++([((f.1,[],()),0,())]:List DMind)=List.replicate (i+1) (mind0 f) from qafo (mind0 f) i]
   rw [qak hstep]
   exact ih (i+1) (by omega)
 exact key f.2.2.1.length 0 (by omega)
theorem qsg {f:DFleet} (hf:Fit TyFleet f) (hb:fleetB f=true):FleetOK f:=by
 unfold fleetB at hb
 simp only [Bool.and_eq_true,List.all_eq_true,Bool.not_eq_true',qpi] at hb
 obtain ⟨h1,h2,⟨h3,h4⟩,h5⟩:=hb
 obtain ⟨f1,f2,f3,f4⟩:=hf
 rw [qaa] at h3 h4
 refine ⟨h1,f1,by omega,by omega,fun l hl => ?_⟩
 obtain ⟨h6,h7⟩:=h5 l hl
 rw [qaa] at h6
 have h6:=of_decide_eq_false h6
 refine ⟨by omega,fun x hx => ?_⟩
 have hfx:=(f3.2 l hl).2 x hx
 exact ⟨hfx.1,hfx.2.1⟩
def givenC (f:DFleet) (ds:List DDeed):Int:=bif fleetB f then (bif ds.all deedB then (bif iLt 200 (lenI ds) then 2 else 0) else 1) else 1
theorem qagv {f:DFleet} (sf:Sized TyFleet f) {ds:List DDeed} (hl:ds.length≤140737488355328):qg6 f ds=some ((givenC f ds,()),()):=by
 unfold qg6 givenC
 rw [qqm f sf]
 simp only [Option.bind_some]
 cases fleetB f with
 | false=>rfl
 | true =>
  have:=qmu ds (fun z790=>(qh7 z790.1).map fun y=>y.1.1) (fun d => !deedB d) hl (fun d _=>by
   unfold qh7
   rw [qli]
   rfl)
  simp only [Bool.not_true,cond_false,cond_true]
  rw [show qbu ds _=_ from this]
  simp only [Option.bind_some]
  have e:(ds.any fun d => !deedB d) = !ds.all deedB:=by rw [List.not_all_eq_any_not]
  rw [e]
  cases ds.all deedB with
  | false=>rfl
  | true=>cases iLt 200 (lenI ds) <;> rfl
theorem qany {f:DFleet} (sf:Sized TyFleet f) {ds:List DDeed} (hl:ds.length≤140737488355328):qrc f ds=some ((givenC f ds,()),()):=by
 unfold qrc givenC
 rw [qrd f sf]
 simp only [Option.bind_some]
 cases fleetB f with
 | false=>rfl
 | true =>
  simp only [Bool.not_true,cond_false,cond_true]
  have:=qaa7 (f:=qgo ds) (xs:=ds) (fun i (s:Unit)=>((i:Int),())) deedB (fun s _=>s) (((1:Int),()),()) (fun s=>some (bif iLt 200 (lenI ds) then (((2:Int),()),()) else (((0:Int),()),()))) (fun i hi s => ?_) (fun s => ?_) ()
  ·rw [show run (qgo ds) ((0:Int),())=_ from this]
   cases ds.all deedB with
   | false=>rfl
   | true=>cases iLt 200 (lenI ds) <;> rfl
  ·have e1:iLt (i:Int) (lenI ds)=true:=qah (by rw [qaa];omega)
   have e2:inB (i:Int) ds.length=true:=qae hi
   have e4:ds.getD i ((0,0,0,()):DDeed)=ds[i]:=qal hi
   have e5:iAdd .i64 (i:Int) 1=((i+1:Nat):Int):=qaq hi (by omega)
   simp only [qgo,e1,e2,e4,e5,Int.toNat_natCast,qor,Option.bind_some,cond_true]
   cases deedB ds[i] <;> rfl
  ·have e1:iLt (ds.length:Int) (lenI ds)=false:=qaf (by rw [qaa];omega)
   simp only [qgo,e1,cond_false]
   cases iLt 200 (lenI ds) <;> rfl
theorem qakm {f:DFleet} {ds:List DDeed} (h:givenC f ds=0):fleetB f=true∧(∀ d∈ds,deedB d=true)∧ds.length≤200:=by
 unfold givenC at h
 cases h1:fleetB f with
 | false=>rw [h1] at h;exact absurd (show (1:Int)=0 from h) (by decide)
 | true =>
  cases h2:ds.all deedB with
  | false=>rw [h1,h2] at h;exact absurd (show (1:Int)=0 from h) (by decide)
  | true =>
   cases h3:iLt 200 (lenI ds) with
   | true=>rw [h1,h2,h3] at h;exact absurd (show (2:Int)=0 from h) (by decide)
   | false =>
    have:=of_decide_eq_false h3
    rw [qaa] at this
    exact ⟨rfl,List.all_eq_true.1 h2,by omega⟩
theorem qaok {f:DFleet} (hf:FleetOK f) {ds:List DDeed} (hl:ds.length≤200) (hd : ∀ d∈ds,deedB d=true):qs8 f ds=some (((((f,(playF f (yard0 f) ds).1,()):DRun),(playF f (yard0 f) ds).2,()),())):=by
 unfold qs8
 have hfew:=hf.few
 rw [qaav (by omega)]
 simp only [Option.bind_some]
 have key : ∀ (r:List DDeed) (i:Nat),ds.drop i=r→i≤ds.length → ∀ (y:DYard) (c:List Int),YardOK f y→c.length=i→run (qho ds) (c,(i:Int),((f,y,()):DRun),())=some (((((f,(playF f y r).1,()):DRun),c++(playF f y r).2,()),())):=by
  intro r
  induction r with
  | nil =>
   intro i hi hle y c hy hc
   have hi:ds.length≤i:=List.drop_eq_nil_iff.1 hi
   refine qaj ?_
   unfold qho
   simp only
   rw [qaf (by rw [qaa];omega)]
   simp only [cond_false,playF,List.append_nil]
   rfl
  | cons d r ih =>
   intro i hi hle y c hy hc
   have hlt:i<ds.length:=by
    rcases Nat.lt_or_ge i ds.length with h | h
    ·exact h
    ·rw [List.drop_eq_nil_of_le h] at hi;cases hi
   have hcons:=List.getElem_cons_drop (h:=hlt)
   rw [hi] at hcons
   obtain ⟨e1,e2⟩:=List.cons.inj hcons
   obtain ⟨-,h2,h3⟩:=ql4 hf hy (d:=d) (by rw [← e1];exact hd _ (List.getElem_mem hlt))
   have hstep:qho ds (c,(i:Int),((f,y,()):DRun),())=some (.inl (c++[(doF f y d).1],((i+1:Nat):Int),((f,(doF f y d).2,()):DRun),())):=by
    unfold qho
    simp only
    rw [qah (by rw [qaa];omega),qae hlt,Int.toNat_natCast,qal hlt,e1]
    simp only [cond_true]
    rw [show qap ((f,(y.1,y.2.1,y.2.2.1,y.2.2.2),()):DRun) d=_ from h2]
    simp only [Option.bind_some]
    rw [qaw (by omega),qaq hlt (by omega)]
    rfl
   rw [qak hstep,ih (i+1) e2 (by omega) _ _ h3 (by rw [List.length_append,hc];rfl)]
   simp only [playF,List.append_assoc,List.singleton_append]
 have:=key ds 0 rfl (Nat.zero_le _) (yard0 f) [] (qgr f) rfl
 exact this
def refF:Nat→List Int→Int×Int×Int×Unit
 | _,[]=>(0,0,6,())
 | i,c :: r=>bif iEq c 0 then refF (i+1) r else ((i:Int),c,0,())
theorem qaha {f:DFleet} (hf:FleetOK f) {ds:List DDeed} (hl:ds.length≤200) (hd : ∀ d∈ds,deedB d=true) : ∀ (r:List DDeed) (i:Nat),ds.drop i=r→i≤ds.length → ∀ (y:DYard),YardOK f y →
  run (qeg ds) ((i:Int),((f,y,()):DRun),())=some (refF i (playF f y r).2,()):=by
 intro r
 induction r with
 | nil =>
  intro i hi hle y hy
  have hi:ds.length≤i:=List.drop_eq_nil_iff.1 hi
  refine qaj ?_
  unfold qeg
  simp only
  rw [qaf (by rw [qaa];omega)]
  rfl
 | cons d r ih =>
  intro i hi hle y hy
  have hlt:i<ds.length:=by
   rcases Nat.lt_or_ge i ds.length with h | h
   ·exact h
   ·rw [List.drop_eq_nil_of_le h] at hi;cases hi
  have hcons:=List.getElem_cons_drop (h:=hlt)
  rw [hi] at hcons
  obtain ⟨e1,e2⟩:=List.cons.inj hcons
  obtain ⟨h1,-,h3⟩:=ql4 hf hy (d:=d) (by rw [← e1];exact hd _ (List.getElem_mem hlt))
  have hstep:qeg ds ((i:Int),((f,y,()):DRun),())=bif iEq (doF f y d).1 0 then some (.inl (((i+1:Nat):Int),((f,(doF f y d).2,()):DRun),())) else some (.inr (((i:Int),(doF f y d).1,0,()),())):=by
   unfold qeg
   simp only
   rw [qah (by rw [qaa];omega),qae hlt,Int.toNat_natCast,qal hlt,e1]
   simp only [cond_true]
   rw [show qbj ((f,(y.1,y.2.1,y.2.2.1,y.2.2.2),()):DRun) d=_ from h1]
   simp only [Option.bind_some]
   rw [qaq hlt (by omega)]
   cases iEq (doF f y d).1 0 <;> rfl
  show _=some (bif iEq (doF f y d).1 0 then refF (i+1) (playF f (doF f y d).2 r).2 else ((i:Int),(doF f y d).1,0,()),())
  cases hc:iEq (doF f y d).1 0 with
  | true =>
   rw [hc] at hstep
   rw [qak hstep,ih (i+1) e2 (by omega) _ h3]
   rfl
  | false =>
   rw [hc] at hstep
   exact qaj hstep
theorem qah9 {z:DRun} {cs:List Int} (hl:cs.length≤200) : ∀ (r:List Int) (i:Nat),cs.drop i=r→i≤cs.length→run (qei ((z,cs,()),())) ((i:Int),())=some (refF i r,()):=by
 intro r
 induction r with
 | nil =>
  intro i hi hle
  have hi:cs.length≤i:=List.drop_eq_nil_iff.1 hi
  refine qaj ?_
  unfold qei
  simp only
  rw [qaf (by rw [qaa];omega)]
  rfl
 | cons c r ih =>
  intro i hi hle
  have hlt:i<cs.length:=by
   rcases Nat.lt_or_ge i cs.length with h | h
   ·exact h
   ·rw [List.drop_eq_nil_of_le h] at hi;cases hi
  have hcons:=List.getElem_cons_drop (h:=hlt)
  rw [hi] at hcons
  obtain ⟨e1,e2⟩:=List.cons.inj hcons
  have hstep:qei ((z,cs,()),()) ((i:Int),())=bif iEq c 0 then some (.inl (((i+1:Nat):Int),())) else some (.inr (((i:Int),c,0,()),())):=by
   unfold qei
   simp only
   rw [qah (by rw [qaa];omega),qae hlt,Int.toNat_natCast,qal hlt,e1,qaq hlt (by omega)]
   cases iEq c 0 <;> rfl
  show _=some (bif iEq c 0 then refF (i+1) r else ((i:Int),c,0,()),())
  cases hc:iEq c 0 with
  | true =>
   rw [hc] at hstep
   rw [qak hstep,ih (i+1) e2 (by omega)]
   rfl
  | false =>
   rw [hc] at hstep
   exact qaj hstep
abbrev TyDeed:Ty:=.pair (.int .i64) (.pair (.int .i64) (.pair (.int .i64) .unit))
noncomputable def refusedF (f:DFleet) (ds:List DDeed):Int×Int×Int×Unit:=bif iEq (givenC f ds) 0 then refF 0 (playF f (yard0 f) ds).2 else (0,0,givenC f ds,())
theorem qakx {f:DFleet} (hf:Fit TyFleet f) {ds:List DDeed} (hd:Fit (.list TyDeed) ds):qi3 f ds=some (refusedF f ds,())∧qs2 f ds=some (refusedF f ds,()):=by
 have sf:Sized TyFleet f:=qc2 rfl hf
 have sd:Sized (.list TyDeed) ds:=qc2 rfl hd
 have hl:ds.length≤140737488355328:=sd.1
 unfold qi3 qs2 refusedF
 rw [qagv sf hl,qany sf hl]
 simp only [Option.bind_some]
 cases hc:iEq (givenC f ds) 0 with
 | false=>exact ⟨rfl,rfl⟩
 | true =>
  obtain ⟨h1,h2,h3⟩:=qakm (qhw.1 hc)
  have F:=qsg hf h1
  have hfew:=F.few
  simp only [Bool.not_true,cond_false,cond_true]
  rw [qss (by omega),qaok F h3 h2]
  simp only [Option.bind_some]
  exact ⟨qaha F h3 h2 ds 0 rfl (Nat.zero_le _) (yard0 f) (qgr f),qah9 (by rw [qaa9];exact h3) _ 0 rfl (Nat.zero_le _)⟩
end
end Go.Proofs.YtjhdoneobdbeaaaGreatDoor
