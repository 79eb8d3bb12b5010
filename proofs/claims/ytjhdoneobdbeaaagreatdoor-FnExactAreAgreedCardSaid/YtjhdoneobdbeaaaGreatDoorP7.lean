import Derived.Test.YtjhdoneobdbeaaaGreatDoorP6
/- Functions of the program and of the reference in plain terms. -/
set_option linter.unusedSectionVars false
set_option linter.unusedSimpArgs false
set_option linter.unusedVariables false
namespace Go.Proofs.YtjhdoneobdbeaaaGreatDoor
open Go Go.Tm
section
theorem qabn {side:Nat} (hs:sideB side=true) (hg:fltFit .f32 side) {m:DMap} (h:MapOK side m):qmf (mapT m)=some ((m,0,()),()):=by
 have hlen:=qyk h
 have htext:=qsr hg h
 have hval:=qhu m h.sized
 rw [h.valid hs] at hval
 have hsplit:=qq1 10 (s:=mapT m) (by omega)
 rw [qaa5] at hsplit
 obtain ⟨a,l,⟨⟩⟩:=m
 obtain ⟨hsd,hl,-,hk⟩:=h
 have hsd:a=side:=hsd
 subst hsd
 have hl:l.length≤200:=hl
 have hk : ∀ x∈l,MarkOK x:=hk
 have g:=qgw hg
 generalize hT:mapT ((a,l,()):DMap)=T at *
 have hLs:(mapL ((a,l,()):DMap)++[[]]).length=l.length+2:=by simp [mapL]
 have hget : ∀ i (hi:i<l.length),List.getD (mapL ((a,l,()):DMap)++[[]]) (i+1) ([]:List UInt8)=markL l[i]:=by
  intro i hi
  rw [List.getD_eq_getElem?_getD,List.getElem?_append_left (by simp [mapL];omega)]
  simp [mapL,hi]
 have hlast:List.getD (mapL ((a,l,()):DMap)++[[]]) (l.length+1) ([]:List UInt8)=[]:=by
  rw [List.getD_eq_getElem?_getD,List.getElem?_append_right (by simp [mapL])]
  simp [mapL]
 have h0:List.getD (mapL ((a,l,()):DMap)++[[]]) 0 ([]:List UInt8)=mapH a:=rfl
 generalize mapL ((a,l,()):DMap)++[[]]=Ls at *
 have hsub:iSub .i64 (lenI Ls) 1=((l.length+1:Nat):Int):=by rw [qaa,hLs,qi9 (by omega) (by omega)];omega
 have hrun : ∀ (d i:Nat),i+d=l.length→run (qe0 ((Ls,()),()) T) (true,((i+1:Nat):Int),((a,l.take i,()):DMap),())=some ((((a,l,()):DMap),0,()),()):=by
  intro d
  induction d with
  | zero =>
   intro i hi
   have hi:i=l.length:=by omega
   subst hi
   rw [List.take_length]
   refine qal ?_
   unfold qe0
   simp only
   rw [hsub,qah (by omega)]
   simp only [Bool.not_true,cond_false]
   rw [hval]
   simp only [Option.bind_some,Bool.not_true,cond_false]
   rw [htext]
   simp only [Option.bind_some]
   rw [qiw]
   rfl
  | succ d ih =>
   intro i hi
   have hlt:i<l.length:=by omega
   have hx:=hk _ (List.getElem_mem hlt)
   have hstep:qe0 ((Ls,()),()) T (true,((i+1:Nat):Int),((a,l.take i,()):DMap),())=some (.inl (true,((i+1+1:Nat):Int),((a,l.take (i+1),()):DMap),())):=by
    unfold qe0
    simp only
    rw [hsub,qag (by omega),qae (by rw [hLs];omega),Int.toNat_natCast,hget i hlt,qaby hx,qao (n:=l.length+2) (by omega) (by omega)]
    simp only [cond_true,Option.bind_some]
    rw [qav (by rw [List.length_take];omega)]
    simp only [cond_true]
    rw [List.take_append_getElem hlt]
   rw [qan hstep]
   exact ih (i+1) (by omega)
 have hd:dropL (mapH a) 4=hex8 a:=by rw [qr5];rfl
 have ht:takeL (mapH a) 4=[109,97,112,32]:=by rw [qr5];rfl
 have hH:iEq (lenI (mapH a)) 12=true:=qno (by rw [qaa,qei];rfl)
 have hi4:inS 0 4 (mapH a).length=true:=by rw [qei];rfl
 have hi5:inS 4 (lenI (mapH a)) (mapH a).length=true:=by rw [qaa,qei];rfl
 have hb0:inB 0 Ls.length=true:=by rw [hLs];exact qae (i:=0) (by omega)
 unfold qmf
 rw [qah (by rw [qaa];omega),show qd6 T (10:Int)=_ from hsplit]
 simp only [cond_false,Option.bind_some]
 rw [hsub,qah (by rw [qaa,hLs];omega),qae (by rw [hLs];omega),Int.toNat_natCast,hlast,hb0,h0,hH,hi4,ht,hi5,hd,qqx g]
 simp only [cond_false,cond_true,Option.bind_some,qiw,Bool.not_true]
 have:=hrun l.length 0 (by omega)
 rw [List.take_zero] at this
 exact this
theorem qalx {n:Int} (h : -999999999999≤n) (h1:n≤999999999999):parseInt64 (Lib.itoa n)=(n,true):=by
 by_cases h0:0≤n
 ·rw [qur h0,qx2 (by omega),Int.toNat_of_nonneg h0]
 ·obtain ⟨u,rfl⟩ : ∃ u:Nat,n = -(u:Int):=⟨n.natAbs,by omega⟩
  have hu:1≤u:=by omega
  obtain ⟨h1,h2,_⟩:=qcp u
  have hp:=qpd (Lib.decDigits u) 0 h1 (by rw [h2];omega)
  rw [h2] at hp
  have hne:=qj8 u
  rw [Lib.itoa_neg u hu]
  unfold parseInt64
  have:Lib.parseIntB 64 (45 :: Lib.decDigits u) = .ok (-(u:Int)):=by
   unfold Lib.parseIntB
   have hd:¬ (Lib.decDigits u=[]):=by intro h;rw [h] at hne;simp at hne
   simp only [if_pos (show ((45:UInt8).toNat=43∨(45:UInt8).toNat=45) by decide),Lib.parseUintB,if_neg hd,hp]
   rw [if_neg (by intro h;exact h.1 rfl),if_neg (by omega),if_pos (by decide)]
  rw [this]
theorem qwo {n:Int} (h : -1000000000≤n) (h1:n≤1000000000) (hl:(Lib.itoa n).length≤1048576) (ws:List (List UInt8)):qad ((Lib.itoa n :: ws,false,()):DRd)=some ((n,()),((ws,false,()),())):=by
 have hw:wordOf ((Lib.itoa n :: ws,false,()):DRd)=Lib.itoa n:=rfl
 have hp:=qalx (n:=n) (by omega) (by omega)
 have hi:intOf ((Lib.itoa n :: ws,false,()):DRd)=n:=by unfold intOf;rw [hw,hp]
 rw [qo7 (by rw [hw];exact hl),hi]
 unfold intRest
 simp only
 rw [hw,hi,hp,qiw]
 rfl
theorem qww {a:Nat} (h:goodN a) (ws:List (List UInt8)):qai ((hex8 a :: ws,false,()):DRd)=some ((a,()),((ws,false,()),())):=by
 have hw:wordOf ((hex8 a :: ws,false,()):DRd)=hex8 a:=rfl
 obtain ⟨y,h1,h2⟩:=qaj0 ((hex8 a :: ws,false,()):DRd) (by rw [hw,qcg];decide)
 have hn:numR (hex8 a)=some a:=h
 rw [hw] at h1 h2
 rw [h1,h2 a hn,hn]
 rfl
theorem qamh {v:Vec 3 Nat} (h:goodV v) (ws:List (List UInt8)):qas ((hex8 (Vec.getD 3 v 0 (0:Nat)) :: hex8 (Vec.getD 3 v 1 (0:Nat)) :: hex8 (Vec.getD 3 v 2 (0:Nat)) :: ws,false,()):DRd)=some ((v,()),((ws,false,()),())):=by
 have n0:=qww (a:=Vec.getD 3 v 0 (0:Nat)) h.1 (hex8 (Vec.getD 3 v 1 (0:Nat)) :: hex8 (Vec.getD 3 v 2 (0:Nat)) :: ws)
 have n1:=qww (a:=Vec.getD 3 v 1 (0:Nat)) h.2.1 (hex8 (Vec.getD 3 v 2 (0:Nat)) :: ws)
 have n2:=qww (a:=Vec.getD 3 v 2 (0:Nat)) h.2.2 ws
 unfold qas
 simp only
 rw [n0]
 simp only [Option.bind_some]
 rw [n1]
 simp only [Option.bind_some]
 rw [n2]
 rfl
theorem qahl {s:List UInt8} (h:s.length≤1000000):qho s=some (((splitC 32 s,false,()),()),()):=by
 unfold qho
 rw [qq7 32 (by omega)]
 rfl
theorem qace {a:Nat} {xs:List (List UInt8)} {i:Nat} (hi:i<xs.length) (hl:xs.length≤200) {x:DMark} (hx:MarkOK x) (he:xs[i]=markL x) {out:List DMark} (ho:out.length≤200) :
  qfj xs ((i:Int),((a,out,()):DMap),())=some (.inl (((i+1:Nat):Int),((a,out++[x],()):DMap),())):=by
 have hlen:=markL_length hx
 obtain ⟨g1,g2⟩:=hx.good
 obtain ⟨⟨n1,n2⟩,n3,n4⟩:=hx.nums
 have l0:=qdb hx.c0.1 hx.c0.2
 have l1:=qdb hx.c1.1 hx.c1.2
 have l2:=qdb hx.c2.1 hx.c2.2
 have l3:=qdb (n:=x.2.2.2.1) (by omega) n2
 have l4:=quq n3 n4
 have h0:=hx.c0
 have h1:=hx.c1
 have h2:=hx.c2
 have i0 : ∀ c:Int,-1000000≤c→c≤1000000→(iLe (-2147483648) c&&iLe c 2147483647)=true:=fun c a b=>by rw [qaz (by omega),qaz (by omega)];rfl
 unfold qfj
 simp only
 rw [qag (by rw [qaa];omega),qae hi,Int.toNat_natCast,qaj hi,he,qahl (by omega),qyl]
 simp only [cond_true,Option.bind_some]
 unfold markW
 rw [qwo (by omega) (by omega) (by omega)]
 simp only [Option.bind_some,cond_false,qgz,qcb,i0 _ h0.1 h0.2,Bool.not_true]
 rw [qwo (by omega) (by omega) (by omega)]
 simp only [Option.bind_some,cond_false,qcb,i0 _ h1.1 h1.2,Bool.not_true]
 rw [qwo (by omega) (by omega) (by omega)]
 simp only [Option.bind_some,cond_false,qcb,i0 _ h2.1 h2.2,Bool.not_true]
 rw [qamh g1]
 simp only [Option.bind_some]
 rw [qww g2]
 simp only [Option.bind_some]
 rw [qwo (by omega) (by omega) (by omega)]
 simp only [Option.bind_some]
 rw [qwo (by omega) (by omega) (by omega)]
 simp only [Option.bind_some]
 rw [qiq]
 simp only [Option.bind_some]
 rw [qav (by omega),qao hi (by omega),qn7 h0.1 h0.2,qn7 h1.1 h1.2,qn7 h2.1 h2.2]
 rfl
theorem qz5 {side:Nat} (hs:sideB side=true) (hg:fltFit .f32 side) {m:DMap} (h:MapOK side m):qln (mapT m)=some ((m,0,()),()):=by
 have hlen:=qyk h
 have hval:=qg7 m h.sized
 rw [h.valid hs] at hval
 have hsplit:=qq7 10 (s:=mapT m) (by omega)
 rw [qaa5] at hsplit
 obtain ⟨a,l,⟨⟩⟩:=m
 obtain ⟨hsd,hl,-,hk⟩:=h
 have hsd:a=side:=hsd
 subst hsd
 have hl:l.length≤200:=hl
 have hk : ∀ x∈l,MarkOK x:=hk
 have g:=qgw hg
 have hlines:qlt (mapT ((a,l,()):DMap))=some ((mapL ((a,l,()):DMap),true,()),()):=by
  unfold qlt
  rw [hsplit]
  simp only [Option.bind_some]
  have hLs:(mapL ((a,l,()):DMap)++[[]]).length=l.length+2:=by simp [mapL]
  have hsub:iSub .i64 (lenI (mapL ((a,l,()):DMap)++[[]])) 1=((l.length+1:Nat):Int):=by rw [qaa,hLs,qi9 (by omega) (by omega)];omega
  have hlast:List.getD (mapL ((a,l,()):DMap)++[[]]) (l.length+1) ([]:List UInt8)=[]:=by
   rw [List.getD_eq_getElem?_getD,List.getElem?_append_right (by simp [mapL])]
   simp [mapL]
  have hin:inS 0 ((l.length+1:Nat):Int) (mapL ((a,l,()):DMap)++[[]]).length=true:=by unfold inS;rw [hLs];simp;omega
  rw [hsub,hin,qag (by omega),qae (by rw [hLs];omega),Int.toNat_natCast,hlast,List.drop_zero,List.take_left' (by simp [mapL])]
  rfl
 have hrun : ∀ (d i:Nat),i+d=l.length→run (qfj (l.map markL)) ((i:Int),((a,l.take i,()):DMap),())=some ((((a,l,()):DMap),true,()),()):=by
  intro d
  induction d with
  | zero =>
   intro i hi
   have hi:i=l.length:=by omega
   subst hi
   rw [List.take_length]
   refine qal ?_
   unfold qfj
   simp only
   rw [qah (by rw [qaa,List.length_map];omega)]
   simp only [cond_false]
   rw [hval]
   rfl
  | succ d ih =>
   intro i hi
   have hlt:i<l.length:=by omega
   have hx:=hk _ (List.getElem_mem hlt)
   rw [qan (qace (by rw [List.length_map];exact hlt) (by rw [List.length_map];exact hl) hx (by rw [List.getElem_map]) (by rw [List.length_take];omega)),List.take_append_getElem hlt]
   exact ih (i+1) (by omega)
 have hread:qlv (mapL ((a,l,()):DMap))=some ((((a,l,()):DMap),true,()),()):=by
  have hb0:inB 0 (mapL ((a,l,()):DMap)).length=true:=qae (i:=0) (by simp [mapL])
  have hin:inS 1 (lenI (mapL ((a,l,()):DMap))) (mapL ((a,l,()):DMap)).length=true:=by unfold inS;rw [qaa];simp [mapL];omega
  have hneed:qea (([wMap,hex8 a],false,()):DRd) [109,97,112]=some ((),(([hex8 a],false,()),())):=by
   unfold qea
   rw [show qbn ((([wMap,hex8 a],false,()):DRd).1,(([wMap,hex8 a],false,()):DRd).2)=_ from qe6 _]
   rfl
  unfold qlv
  rw [hb0,show List.getD (mapL ((a,l,()):DMap)) 0 ([]:List UInt8)=mapH a from rfl,qahl (by rw [qei];decide),qaii,hin]
  simp only [cond_true,Option.bind_some]
  rw [hneed]
  simp only [Option.bind_some]
  rw [qww g]
  simp only [Option.bind_some]
  rw [qiq]
  simp only [Option.bind_some]
  rw [show dropL (mapL ((a,l,()):DMap)) 1=l.map markL from rfl]
  have:=hrun l.length 0 (by omega)
  rw [List.take_zero] at this
  exact this
 unfold qln
 rw [qah (by rw [qaa];omega),hlines]
 simp only [cond_false,Option.bind_some,Bool.not_true]
 rw [hread]
 rfl
end
section
abbrev DMind:=DMap×(Int×Unit)
abbrev DPacket:=Int×(List UInt8×Unit)
abbrev DYard:=(List DMind)×((List DMind)×((List DPacket)×Unit))
abbrev DRun:=DFleet×(DYard×Unit)
structure SightOK (x:DSight):Prop where
 at':FitVec (fltFit .f32) 3 x.1
 wt:fltFit .f32 x.2.1
structure FleetOK (f:DFleet):Prop where
 side:sideB f.1=true
 fit:fltFit .f32 f.1
 few:f.2.2.1.length≤4
 some:1≤f.2.2.1.length
 short : ∀ l∈f.2.2.1,l.length≤16 ∧ ∀ x∈l,SightOK x
structure MindOK (f:DFleet) (i:Nat) (x:DMind):Prop where
 map:MapOK f.1 x.1
 low:0≤x.2.1
 up:x.2.1≤(f.2.2.1.getD i []).length
structure YardOK (f:DFleet) (y:DYard):Prop where
 nm:y.1.length=f.2.2.1.length
 ns:y.2.1.length=f.2.2.1.length
 minds : ∀ i (h:i<y.1.length),MindOK f i y.1[i]
 saved : ∀ i (h:i<y.2.1.length),MindOK f i y.2.1[i]
 nw:y.2.2.1.length≤10
 wire : ∀ p∈y.2.2.1,(0≤p.1∧p.1<f.2.2.1.length) ∧ ∃ m,MapOK f.1 m∧p.2.1=mapT m
theorem qut {f:DFleet} {M:List DMind} (h : ∀ i (h:i<M.length),MindOK f i M[i]) {k:Nat} {x:DMind} (hx:MindOK f k x) : ∀ i (h:i<(M.set k x).length),MindOK f i (M.set k x)[i]:=by
 intro i hi
 rw [List.getElem_set]
 split
 ·rename_i e;subst e;exact hx
 ·exact h i (by simpa using hi)
theorem qahh (f:DFleet) (M S:List DMind) (W:List DPacket) (hl:M.length≤100) (a:Nat):qbw ((f,(M,S,W,()),()):DRun) (a:Int)=some ((decide (a<M.length),()),(((f,(M,S,W,()),()):DRun),())):=by
 have e:iSub .i64 (lenI M) 1=(M.length:Int)-1:=by rw [qaa];exact qi9 (by omega) (by omega)
 have e2:(iLe 0 (a:Int)&&iLe (a:Int) ((M.length:Int)-1))=decide (a<M.length):=by
  rw [qaz (by omega)]
  by_cases h:a<M.length
  ·rw [qaz (by omega),decide_eq_true h];rfl
  ·rw [qc8 (by omega),decide_eq_false h];rfl
 unfold qbw
 simp only
 rw [e,qgz,qcb,e2]
 rfl
theorem qamc {f:DFleet} (hf:FleetOK f) {y:DYard} (hy:YardOK f y) {k:Nat} (hk:k<y.1.length) : ∃ (code:Int) (y':DYard),qfk ((f,y,()):DRun) (k:Int)=some ((code,()),(((f,y',()):DRun),())) ∧
  qfy ((f,y,()):DRun) (k:Int)=some ((code,()),(((f,y',()):DRun),()))∧YardOK f y':=by
 have hyy:=hy
 obtain ⟨M,S,W,⟨⟩⟩:=y
 obtain ⟨nm,ns,hm,hs,nw,hw⟩:=hy
 have nm:M.length=f.2.2.1.length:=nm
 have hk:k<M.length:=hk
 have hfew:=hf.few
 have hx:=hm k hk
 have hx:MindOK f k M[k]:=hx
 have hkf:k<f.2.2.1.length:=by omega
 have b1:inB (k:Int) M.length=true:=qae hk
 have b2:inB (k:Int) f.2.2.1.length=true:=qae hkf
 have gM:List.getD M k (((0,[],()),0,()):DMind)=M[k]:=qaj hk
 have gS:List.getD f.2.2.1 k ([]:List DSight)=f.2.2.1[k]:=qaj hkf
 obtain ⟨hs16,hsights⟩:=hf.short _ (List.getElem_mem hkf)
 have hlow:=hx.low
 have hup:=hx.up
 rw [gS] at hup
 unfold qfk qfy
 simp only
 rw [qahh f M S W (by omega) k,decide_eq_true hk]
 simp only [Option.bind_some,Bool.not_true,cond_false,Int.toNat_natCast]
 rw [b1,b2,gM,gS]
 simp only [cond_true]
 by_cases he:M[k].2.1=((f.2.2.1[k]).length:Int)
 ·rw [qno (by rw [qaa];exact he)]
  exact ⟨_,_,rfl,rfl,hyy⟩
 ·rw [qa5 (by rw [qaa];exact he)]
  obtain ⟨t,ht⟩:=Int.eq_ofNat_of_zero_le hlow
  have ht':t<(f.2.2.1[k]).length:=by omega
  have b3:inB M[k].2.1 (f.2.2.1[k]).length=true:=by rw [ht];exact qae ht'
  have gX:List.getD f.2.2.1[k] (M[k].2.1).toNat (((0,0,0,()),0,0,()):DSight)=(f.2.2.1[k])[t]:=by rw [ht,Int.toNat_natCast];exact qaj ht'
  have hsx:=hsights _ (List.getElem_mem ht')
  rw [b3,gX]
  simp only [cond_false,cond_true]
  generalize (f.2.2.1[k])[t]=x at hsx
  obtain ⟨m',c,code,h1,m2,c2,h2,h3⟩:=qaju hf.side hx.map hsx.at' hsx.wt x.2.2.1 f.2.1
  rw [h1,h2]
  simp only [Option.bind_some]
  by_cases hc:code=0
  ·subst hc
   obtain ⟨rfl,hm'⟩:=h3 rfl
   have i00:iEq (0:Int) 0=true:=by decide
   rw [i00]
   simp only [Bool.not_true,cond_false]
   rw [qaeh hk]
   have e1:iAdd .i64 M[k].2.1 1=M[k].2.1+1:=qc7 (by omega) (by omega)
   refine ⟨0,(M.set k (m2,M[k].2.1+1,()),S,W,()),?_,?_,⟨by simpa using nm,ns,qut hm ⟨hm',by show 0≤M[k].2.1+1;omega,by
    show M[k].2.1+1≤_
    rw [gS];omega⟩,hs,nw,hw⟩⟩
   ·show some (((0:Int),()),(((f,(((M.set k (m2,M[k].2)).set k (m2,iAdd .i64 M[k].2.1 1,M[k].2.2)),S,W,()),()):DRun),()))=_
    rw [e1,List.set_set]
   ·show some (((0:Int),()),(((f,(((M.set k (m2,M[k].2)).set k (m2,iAdd .i64 M[k].2.1 1,M[k].2.2)),S,W,()),()):DRun),()))=_
    rw [e1,List.set_set]
  ·rw [qa5 hc]
   exact ⟨_,_,rfl,rfl,hyy⟩
theorem qadd {f:DFleet} (hf:FleetOK f) {y:DYard} (hy:YardOK f y) {p:DPacket} (hp:(0≤p.1∧p.1<f.2.2.1.length) ∧ ∃ m,MapOK f.1 m∧p.2.1=mapT m) : ∃ y':DYard,qdu ((f,y,()):DRun) p=some ((),(((f,y',()):DRun),())) ∧
  qe4 ((f,y,()):DRun) p=some ((),(((f,y',()):DRun),()))∧YardOK f y':=by
 have hyy:=hy
 obtain ⟨M,S,W,⟨⟩⟩:=y
 obtain ⟨nm,ns,hm,hs,nw,hw⟩:=hy
 have nm:M.length=f.2.2.1.length:=nm
 obtain ⟨⟨p0,p1⟩,n,hn,ht⟩:=hp
 obtain ⟨t,tx,⟨⟩⟩:=p
 have ht:tx=mapT n:=ht
 subst ht
 obtain ⟨k,rfl⟩:=Int.eq_ofNat_of_zero_le (show 0≤t from p0)
 have p1:(k:Int)<(f.2.2.1.length:Int):=p1
 have hk:k<M.length:=by omega
 have hx:MindOK f k M[k]:=hm k hk
 have b1:inB (k:Int) M.length=true:=qae hk
 have gM:List.getD M k (((0,[],()),0,()):DMind)=M[k]:=qaj hk
 have i00:iEq (0:Int) 0=true:=by decide
 obtain ⟨r,code,h1,r2,h2,h3,h4⟩:=qaij hf.side hx.map hn
 unfold qdu qe4
 simp only
 rw [qz5 hf.side hf.fit hn,qabn hf.side hf.fit hn]
 simp only [Option.bind_some,Int.toNat_natCast]
 rw [i00,b1,gM]
 simp only [Bool.not_true,cond_false,cond_true]
 rw [show qgp M[k].1 ((n.1,n.2.1,n.2.2):DMap)=_ from h1,show qgd M[k].1 ((n.1,n.2.1,n.2.2):DMap)=_ from h2]
 simp only [Option.bind_some]
 by_cases hc:code=0
 ·subst hc
  obtain ⟨rfl,hr,-⟩:=h3 rfl
  rw [i00]
  exact ⟨(M.set k (r2,M[k].2),S,W,()),rfl,rfl,⟨by simpa using nm,ns,qut hm ⟨hr,hx.low,hx.up⟩,hs,nw,hw⟩⟩
 ·rw [qa5 hc]
  exact ⟨_,rfl,rfl,hyy⟩
theorem qamt {α:Type} {W:List α} {a:Nat} {p:α} (h:p∈W.take a++W.drop (a+1)):p∈W:=(List.mem_append.1 h).elim List.mem_of_mem_take List.mem_of_mem_drop
theorem qakl {f:DFleet} (hf:FleetOK f) {y:DYard} (hy:YardOK f y) {k:Nat} (hk:k=3∨k=4∨k=5) (a b:Nat) : ∃ (code:Int) (y':DYard),qdj ((f,y,()):DRun) (((k:Int),(a:Int),(b:Int),()):DDeed)=some ((code,()),(((f,y',()):DRun),())) ∧
  qcn ((f,y,()):DRun) (((k:Int),(a:Int),(b:Int),()):DDeed)=some ((code,()),(((f,y',()):DRun),()))∧YardOK f y':=by
 have hyy:=hy
 obtain ⟨M,S,W,⟨⟩⟩:=y
 obtain ⟨nm,ns,hm,hs,nw,hw⟩:=hy
 have nw:W.length≤10:=nw
 have hw : ∀ p∈W,(0≤p.1∧p.1<f.2.2.1.length) ∧ ∃ m,MapOK f.1 m∧p.2.1=mapT m:=hw
 have e0:iSub .i64 (lenI W) 1=(W.length:Int)-1:=by rw [qaa];exact qi9 (by omega) (by omega)
 unfold qdj qcn
 simp only
 rw [e0,qgz,qcb,qaz (by omega:(0:Int)≤(a:Int))]
 by_cases ha:a<W.length
 ·have b1:inB (a:Int) W.length=true:=qae ha
  have gW:List.getD W (a:Int).toNat ((0,[],()):DPacket)=W[a]:=by rw [Int.toNat_natCast];exact qaj ha
  have e5:iAdd .i64 (a:Int) 1=((a+1:Nat):Int):=(qc7 (by omega) (by omega)).trans (by omega)
  have hdel:qh9 W (a:Int) ((a+1:Nat):Int)=some ((W.take a++W.drop (a+1),()),()):=qzw (.pair (.int .i64) (.pair .str .unit)) W a ha
  have e6:inS ((a+1:Nat):Int) ((W.length:Nat):Int) W.length=true:=by unfold inS;simp;omega
  have e7:inS 0 (a:Int) W.length=true:=by unfold inS;simp;omega
  have t1:List.take (W.length-((a+1:Nat):Int).toNat) (List.drop ((a+1:Nat):Int).toNat W)=W.drop (a+1):=by
   rw [Int.toNat_natCast];exact List.take_of_length_le (by rw [List.length_drop];omega)
  have t2:List.take (a:Int).toNat (List.drop 0 W)=W.take a:=by rw [Int.toNat_natCast,List.drop_zero]
  have l1:(W.drop (a+1)).length≤10:=by rw [List.length_drop];omega
  have l2:(W.take a).length≤10:=by rw [List.length_take];omega
  have hp:=hw _ (List.getElem_mem ha)
  have i54:iEq (5:Int) 4=false:=by decide
  have i55:iEq (5:Int) 5=true:=by decide
  have i44:iEq (4:Int) 4=true:=by decide
  have i45:iEq (4:Int) 5=false:=by decide
  have i34:iEq (3:Int) 4=false:=by decide
  have i35:iEq (3:Int) 5=false:=by decide
  have hy2:YardOK f (M,S,W.take a++W.drop (a+1),()):=⟨nm,ns,hm,hs,by
   show (W.take a++W.drop (a+1)).length≤10
   rw [List.length_append,List.length_take,List.length_drop];omega,fun p hq=>hw p (qamt hq)⟩
  rw [qaz (by omega:(a:Int)≤(W.length:Int)-1),qc8 (by rw [qaa];omega),b1,gW,e5,e6,e7,t1,t2]
  simp only [Bool.not_true,Bool.and_self,cond_false,cond_true,List.nil_append]
  rw [qav (by omega),qav (by omega),qav (by omega),hdel]
  simp only [Option.bind_some,cond_true]
  rcases hk with rfl | rfl | rfl
  ·obtain ⟨y',h1,h2,h3⟩:=qadd hf hy2 hp
   rw [show ((3:Nat):Int)=3 from rfl,i34,i35]
   simp only [Bool.not_false,cond_true]
   rw [h1,h2]
   exact ⟨_,_,rfl,rfl,h3⟩
  ·obtain ⟨y',h1,h2,h3⟩:=qadd hf hyy hp
   rw [show ((4:Nat):Int)=4 from rfl,i44,i45]
   simp only [Bool.not_true,Bool.not_false,cond_true,cond_false]
   rw [h1,h2]
   exact ⟨_,_,rfl,rfl,h3⟩
  ·rw [show ((5:Nat):Int)=5 from rfl,i54,i55]
   simp only [Bool.not_true,Bool.not_false,cond_true,cond_false]
   exact ⟨_,_,rfl,rfl,hy2⟩
 ·rw [qc8 (by omega:¬ (a:Int)≤(W.length:Int)-1),qaz (by rw [qaa];omega)]
  exact ⟨_,_,rfl,rfl,hyy⟩
theorem qagc {x:DMind} (h:x.1.2.1.length≤200):qes x=some ((x,()),()):=by
 unfold qes
 rw [qxi (by omega)]
 rfl
theorem qade {x:DMind} (h:x.1.2.1.length≤200):qe2 x=some ((x,()),()):=by
 unfold qe2
 rw [qav (by omega)]
 rfl
theorem qamv {f:DFleet} (hf:FleetOK f) {y:DYard} (hy:YardOK f y) {d:DDeed} (hd:deedB d=true) : ∃ (code:Int) (y':DYard),qcv ((f,y,()):DRun) d=some ((code,()),(((f,y',()):DRun),())) ∧
  qb9 ((f,y,()):DRun) d=some ((code,()),(((f,y',()):DRun),()))∧YardOK f y':=by
 obtain ⟨k,a,b,rfl,k1,k7,ha,hb,hk2⟩:=qaic hd
 have hyy:=hy
 by_cases hw:k=3∨k=4∨k=5
 ·obtain ⟨code,y',h1,h2,h3⟩:=qakl hf hy hw a b
  refine ⟨code,y',?_,?_,h3⟩
  ·unfold qcv
   simp only
   rw [qa5 (by omega:((k:Nat):Int)≠1),qa5 (by omega:((k:Nat):Int)≠2),qa5 (by omega:((k:Nat):Int)≠6),qa5 (by omega:((k:Nat):Int)≠7)]
   simp only [cond_false]
   rw [show qdj ((f,(y.1,y.2.1,y.2.2.1,y.2.2.2),()):DRun) _=_ from h1]
   rfl
  ·unfold qb9
   simp only
   have hh:qcn ((f,(y.1,y.2.1,y.2.2.1,y.2.2.2),()):DRun) (((k:Int),(a:Int),(b:Int),()):DDeed)=_:=h2
   rw [hh]
   rcases hw with rfl | rfl | rfl <;> rfl
 ·have hk:k=1∨k=2∨k=6∨k=7:=by omega
  obtain ⟨M,S,W,⟨⟩⟩:=y
  obtain ⟨nm,ns,hm,hs,nw,hwr⟩:=hy
  have nm:M.length=f.2.2.1.length:=nm
  have ns:S.length=f.2.2.1.length:=ns
  have nw:W.length≤10:=nw
  have hfew:=hf.few
  have spec0 : ∀ {X Y Z:Option ((Int×Unit)×(DRun×Unit))},((bif iEq ((k:Nat):Int) 3 then X else bif iEq ((k:Nat):Int) 4 then X else bif iEq ((k:Nat):Int) 5 then X else Z)=Z):=by
   intro X Y Z
   rw [qa5 (by omega:((k:Nat):Int)≠3),qa5 (by omega:((k:Nat):Int)≠4),qa5 (by omega:((k:Nat):Int)≠5)]
   rfl
  have hhas : ∀ c:Nat,qbw ((f,(M,S,W,()),()):DRun) (c:Int)=_:=fun c=>qahh f M S W (by omega) c
  by_cases hin:a<M.length
  ·have b1:inB (a:Int) M.length=true:=qae hin
   have b2:inB (a:Int) S.length=true:=qae (by omega)
   have gM:List.getD M (a:Int).toNat (((0,[],()),0,()):DMind)=M[a]:=by rw [Int.toNat_natCast];exact qaj hin
   have gS:List.getD S (a:Int).toNat (((0,[],()),0,()):DMind)=S[a]'(by omega):=by rw [Int.toNat_natCast];exact qaj (by omega)
   have xM:MindOK f a M[a]:=hm a hin
   have xS:MindOK f a (S[a]'(by omega)):=hs a (by show a<S.length;omega)
   have le1:iLe (lenI M) (a:Int)=false:=qc8 (by rw [qaa];omega)
   unfold qcv qb9
   simp only
   rw [spec0 (Y:=none),le1]
   rcases hk with rfl | rfl | rfl | rfl
   ·obtain ⟨code,y',h1,h2,h3⟩:=qamc hf hyy hin
    rw [h1,h2]
    exact ⟨code,y',rfl,rfl,h3⟩
   ·rw [hhas a,decide_eq_true hin]
    simp only [Option.bind_some,Bool.not_true]
    rw [hhas b]
    simp only [Option.bind_some]
    by_cases hbn:b<M.length
    ·rw [decide_eq_true hbn,qc8 (by rw [qaa];omega:¬ lenI M≤(b:Int))]
     by_cases hab:a=b
     ·rw [qno (by omega:((a:Nat):Int)=((b:Nat):Int))]
      exact ⟨_,_,rfl,rfl,hyy⟩
     ·rw [qa5 (by omega:((a:Nat):Int)≠((b:Nat):Int))]
      by_cases h10:W.length=10
      ·rw [qno (show lenI W=10 by rw [qaa];omega),qaz (show (10:Int)≤lenI W by rw [qaa];omega)]
       exact ⟨_,_,rfl,rfl,hyy⟩
      ·rw [qa5 (show lenI W≠10 by rw [qaa];omega),qc8 (show ¬ (10:Int)≤lenI W by rw [qaa];omega),b1,gM,qaah hf.fit xM.map,qabl hf.side hf.fit xM.map]
       simp only [Option.bind_some]
       rw [qav (by omega)]
       refine ⟨0,(M,S,W++[((b:Int),mapT M[a].1,())],()),rfl,rfl,⟨nm,ns,hm,hs,by show (W++[((b:Int),mapT M[a].1,())]).length≤10;simp;omega,fun p hp => ?_⟩⟩
       rcases List.mem_append.1 hp with hp | hp
       ·exact hwr p hp
       ·rw [List.mem_singleton.1 hp]
        exact ⟨⟨by show (0:Int)≤(b:Int);omega,by show (b:Int)<_;omega⟩,_,xM.map,rfl⟩
    ·rw [decide_eq_false hbn,qaz (by rw [qaa];omega:lenI M≤(b:Int))]
     exact ⟨_,_,rfl,rfl,hyy⟩
   ·rw [hhas a,decide_eq_true hin]
    simp only [Option.bind_some,Bool.not_true]
    rw [b1,b2,gM,qagc xM.map.len,qade xM.map.len]
    refine ⟨0,(M,S.set a M[a],W,()),?_,?_,⟨nm,by simpa using ns,hm,qut hs xM,nw,hwr⟩⟩
    ·show some (((0:Int),()),(((f,(M,S.set (a:Int).toNat M[a],W,()),()):DRun),()))=_
     rw [Int.toNat_natCast]
    ·show some (((0:Int),()),(((f,(M,S.set (a:Int).toNat M[a],W,()),()):DRun),()))=_
     rw [Int.toNat_natCast]
   ·rw [hhas a,decide_eq_true hin]
    simp only [Option.bind_some,Bool.not_true]
    rw [b1,b2,gS,qagc xS.map.len,qade xS.map.len]
    refine ⟨0,(M.set a (S[a]'(by omega)),S,W,()),?_,?_,⟨by simpa using nm,ns,qut hm xS,hs,nw,hwr⟩⟩
    ·show some (((0:Int),()),(((f,(M.set (a:Int).toNat (S[a]'(by omega)),S,W,()),()):DRun),()))=_
     rw [Int.toNat_natCast]
    ·show some (((0:Int),()),(((f,(M.set (a:Int).toNat (S[a]'(by omega)),S,W,()),()):DRun),()))=_
     rw [Int.toNat_natCast]
  ·have le1:iLe (lenI M) (a:Int)=true:=qaz (by rw [qaa];omega)
   unfold qcv qb9 qfk
   simp only
   rw [spec0 (Y:=none),le1]
   rcases hk with rfl | rfl | rfl | rfl <;> rw [hhas a,decide_eq_false hin] <;> exact ⟨_,_,rfl,rfl,hyy⟩
end
end Go.Proofs.YtjhdoneobdbeaaaGreatDoor
