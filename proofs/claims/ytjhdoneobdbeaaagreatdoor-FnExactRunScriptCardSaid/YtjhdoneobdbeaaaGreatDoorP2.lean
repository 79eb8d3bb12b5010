import Derived.Test.YtjhdoneobdbeaaaGreatDoorP1
/- Functions of the program and of the reference in plain terms. -/
set_option linter.unusedSectionVars false
set_option linter.unusedSimpArgs false
set_option linter.unusedVariables false
namespace Go.Proofs.YtjhdoneobdbeaaaGreatDoor
open Go Go.Tm
section
abbrev TySpot:Ty:=.arr 2 (.int .i16)
abbrev DGrid:=Int×(Int×((List Int)×Unit))
def gridB (g:DGrid):Bool:=(iLe 1 g.1&&iLe g.1 24)&&((iLe 1 g.2.1&&iLe g.2.1 24)&&iEq (lenI g.2.2.1) (iMul .i64 g.1 g.2.1))
def hasB (g:DGrid) (s:Vec 2 Int):Bool:=(iLe 0 (iWrap .i64 (Vec.getD 2 s 0 (0:Int)))&&iLe (iWrap .i64 (Vec.getD 2 s 0 (0:Int))) (iSub .i64 g.1 1))&&(iLe 0 (iWrap .i64 (Vec.getD 2 s 1 (0:Int)))&&iLe (iWrap .i64 (Vec.getD 2 s 1 (0:Int))) (iSub .i64 g.2.1 1))
section
variable {g : DGrid} (hg : gridB g = true) {a b : Vec 2 Int} (ha : Fit TySpot a) (hb : Fit TySpot b) (hha : hasB g a = true) (hhb : hasB g b = true)
include hg ha hb hha hhb
end
end
section
theorem qux (c:UInt8) : ∀ s:List UInt8,(splitC c s).flatten=s.filter (fun b => !decide (b=c))
 | []=>rfl
 | b :: s=>by
  have ih:=qux c s
  unfold splitC
  by_cases h:b=c
  ·rw [if_pos h,List.flatten_cons,ih,List.filter_cons_of_neg (by simp [h])];rfl
  ·rw [if_neg h,List.filter_cons_of_pos (by simp [h])]
   cases hs:splitC c s with
   | nil=>exact absurd hs (qh3 c s)
   | cons l ls=>rw [hs] at ih;rw [← ih];rfl
end
section
theorem qty (c:UInt8) : ∀ s:List UInt8,List.intercalate [c] (splitC c s)=s
 | []=>rfl
 | b :: s=>by
  have ih:=qty c s
  unfold splitC
  by_cases h:b=c
  ·rw [if_pos h]
   cases hs:splitC c s with
   | nil=>exact absurd hs (qh3 c s)
   | cons l ls =>
    rw [hs] at ih
    rw [h]
    show List.flatten (List.intersperse [c] ([] :: l :: ls))=c :: s
    rw [show List.intersperse [c] ([] :: l :: ls)=[] :: [c] :: List.intersperse [c] (l :: ls) from rfl,List.flatten_cons,List.flatten_cons,List.nil_append]
    show [c]++List.flatten (List.intersperse [c] (l :: ls))=c :: s
    rw [show List.flatten (List.intersperse [c] (l :: ls))=s from ih]
    rfl
  ·rw [if_neg h]
   cases hs:splitC c s with
   | nil=>exact absurd hs (qh3 c s)
   | cons l ls =>
    rw [hs] at ih
    have ih:List.flatten (List.intersperse [c] (l :: ls))=s:=ih
    show List.flatten (List.intersperse [c] ((b :: l) :: ls))=b :: s
    cases ls with
    | nil =>
     have:l++[]=s:=ih
     show (b :: l)++[]=b :: s
     rw [← this];rfl
    | cons m ms =>
     have:l++([c]++List.flatten (List.intersperse [c] (m :: ms)))=s:=ih
     show (b :: l)++([c]++List.flatten (List.intersperse [c] (m :: ms)))=b :: s
     rw [← this];rfl
theorem qald {c:UInt8} {s a b:List UInt8} (h:splitC c s=[a,b]):s=a++c :: b:=by
 have:=qty c s
 rw [h] at this
 rw [← this]
 show a++([c]++(b++[]))=_
 simp
theorem qah0 {c:UInt8} {s a b d:List UInt8} (h:splitC c s=[a,b,d]):s=a++c :: (b++c :: d):=by
 have:=qty c s
 rw [h] at this
 rw [← this]
 show a++([c]++(b++([c]++(d++[]))))=_
 simp
theorem qi2 {c:UInt8} (hc:digB c=false) (k:Nat):c∉Lib.decDigits k:=by
 intro h
 have:=List.all_eq_true.1 (qbc k).1 c h
 rw [hc] at this
 cases this
theorem qalm {k:Nat} (h1:1≤k) (h2:k≤7):(32:UInt8)∉deedWordsL.getD k []:=by
 rcases k with _ | _ | _ | _ | _ | _ | _ | _ | k <;> first | omega | decide
theorem qu8 {k a b:Nat} (h1:1≤k) (h2:k≤7) (h3:k=2∨b=0):splitC 32 (deedT ((k:Int),(a:Int),(b:Int),()))=deedWordsL.getD k [] :: Lib.decDigits a :: (if k=2 then [Lib.decDigits b] else []):=by
 have hw:=qalm h1 h2
 have ha:=qi2 (c:=32) rfl a
 have hb:=qi2 (c:=32) rfl b
 unfold deedT
 simp only [Int.toNat_natCast]
 by_cases h:k=2
 ·rw [qf7 (by omega),if_pos h]
  simp only [cond_true]
  rw [show deedWordsL.getD k []++[32]++Lib.decDigits a++([32]++Lib.decDigits b)=deedWordsL.getD k []++32 :: (Lib.decDigits a++32 :: Lib.decDigits b) by simp]
  rw [qgz _ hw,qgz _ ha,qg7 hb]
 ·rw [qat (by omega),if_neg h]
  simp only [cond_false]
  rw [show deedWordsL.getD k []++[32]++Lib.decDigits a++[]=deedWordsL.getD k []++32 :: Lib.decDigits a by simp]
  rw [qgz _ hw,qg7 ha]
abbrev DRd:=List (List UInt8)×(Bool×Unit)
def wordOf (r:DRd):List UInt8:=r.1.getD 0 []
def restOf (r:DRd):DRd:=(r.1.drop 1,(r.1.isEmpty||r.2.1,()))
theorem qcr (r:DRd):qbi r=some ((wordOf r,()),(restOf r,())):=by
 obtain ⟨ws,f,⟨⟩⟩:=r
 cases ws with
 | nil=>rfl
 | cons w ws =>
  have e1:iEq (lenI (w :: ws)) 0=false:=qat (by rw [qaa,List.length_cons];omega)
  have e2:inB 0 (w :: ws).length=true:=qae (i:=0) (by simp)
  have e3:inS 1 (((w :: ws).length:Nat):Int) (w :: ws).length=true:=by unfold inS;simp;omega
  simp only [qbi,e1,e2,e3,cond_false,cond_true,restOf,wordOf]
  simp
def intOf (r:DRd):Int:=(parseInt64 (wordOf r)).1
def intRest (r:DRd):DRd:=(r.1.drop 1,((r.1.isEmpty||r.2.1)||(!(parseInt64 (wordOf r)).2 || !(sEq (Lib.itoa (intOf r)) (wordOf r))),()))
theorem qc1 {r:DRd} (h:(wordOf r).length≤1048576):qac r=some ((intOf r,()),(intRest r,())):=by
 obtain ⟨hb1,hb2⟩:=qyw (wordOf r)
 obtain ⟨ws,f,⟨⟩⟩:=r
 simp only [qac,qcr,qwu h,qbu hb1 hb2,Option.bind_some,restOf,intRest,intOf]
 cases (ws.isEmpty||f) <;> cases (parseInt64 (wordOf (ws,f,()))).2 <;> rfl
theorem qcg (r:DRd):qak r=some ((!r.2.1&&r.1.isEmpty,()),()):=by
 obtain ⟨ws,f,⟨⟩⟩:=r
 unfold qak
 cases f
 ·cases ws with
  | nil=>rfl
  | cons w ws =>
   have e1:iEq (lenI (w :: ws)) 0=false:=qat (by rw [qaa,List.length_cons];omega)
   simp only [e1]
   rfl
 ·rfl
theorem qr6 (w:List UInt8) (l:List (List UInt8)) (hl:l.length≤1000) : ∀ (r q:List (List UInt8)),l=q++r → ∃ i:Int,run (qb7 l w) ((q.length:Int),())=some ((i,()),())∧(∀ p t,r=p++w :: t→w∉p→i=(q.length+p.length:Nat)):=by
 intro r
 induction r with
 | nil =>
  intro q e
  refine ⟨-1,qai ?_,fun p t h=>by simp at h⟩
  have e1:iLt (q.length:Int) (lenI l)=false:=qag (by rw [qaa,e];simp)
  simp only [qb7,e1,cond_false]
  rfl
 | cons b r ih =>
  intro q e
  have hlen:l.length=q.length+(r.length+1):=by rw [e];simp
  have e1:iLt (q.length:Int) (lenI l)=true:=qah (by rw [qaa];omega)
  have e2:inB (q.length:Int) l.length=true:=qae (by omega)
  have e3:l.getD q.length []=b:=by rw [e];simp [List.getD_eq_getElem?_getD]
  have e5:iAdd .i64 (q.length:Int) 1=((q.length+1:Nat):Int):=qaq (n:=l.length) (by omega) (by omega)
  by_cases h:w=b
  ·have e4:sEq w b=true:=by rw [h];exact qct b
   refine ⟨(q.length:Int),qai ?_,fun p t h1 h2 => ?_⟩
   ·simp only [qb7,e1,e2,e3,e4,Int.toNat_natCast,cond_true]
    rfl
   ·cases p with
    | nil=>simp
    | cons x p =>
     have:b=x:=(List.cons.inj h1).1
     exact absurd (by rw [h,this];simp) h2
  ·have e4:sEq w b=false:=by simpa [sEq] using h
   obtain ⟨i,hi1,hi2⟩:=ih (q++[b]) (by rw [e];simp)
   have st:qb7 l w ((q.length:Int),())=some (.inl (((q.length+1:Nat):Int),())):=by
    simp only [qb7,e1,e2,e3,e4,e5,Int.toNat_natCast,cond_true,cond_false]
   rw [show (q++[b]).length=q.length+1 by simp] at hi1 hi2
   refine ⟨i,by rw [qaj st];exact hi1,fun p t h1 h2 => ?_⟩
   cases p with
   | nil=>exact absurd (List.cons.inj h1).1.symm h
   | cons x p =>
    have:=hi2 p t (List.cons.inj h1).2 (fun hm=>h2 (List.mem_cons_of_mem _ hm))
    rw [this]
    simp
    omega
theorem qall (w:List UInt8) : ∃ i:Int,qd5 deedWordsL w=some ((i,()),()) ∧ ∀ k,1≤k→k≤7→w=deedWordsL.getD k []→i=(k:Int):=by
 obtain ⟨i,h1,h2⟩:=qr6 w deedWordsL (by decide) deedWordsL [] rfl
 refine ⟨i,h1,fun k hk1 hk2 e => ?_⟩
 have:=h2 (deedWordsL.take k) (deedWordsL.drop (k+1)) (by
  rw [e]
  rcases k with _ | _ | _ | _ | _ | _ | _ | _ | k <;> first | omega | rfl) (by
  rw [e]
  rcases k with _ | _ | _ | _ | _ | _ | _ | _ | k <;> first | omega | decide)
 rw [this]
 rcases k with _ | _ | _ | _ | _ | _ | _ | _ | k <;> first | omega | rfl
abbrev RdD:=(DDeed×Int×Unit)×Unit
def badD:RdD:=(((0,0,0,()),5,()),())
theorem qajp (c:UInt8) {s:List UInt8} : ∀ w∈splitC c s,w.length≤s.length:=by
 induction s with
 | nil=>intro w hw;simp [splitC] at hw;simp [hw]
 | cons b s ih =>
  intro w hw
  unfold splitC at hw
  by_cases h:b=c
  ·rw [if_pos h] at hw
   rcases List.mem_cons.1 hw with rfl | hw
   ·simp
   ·have:=ih w hw;simp;omega
  ·rw [if_neg h] at hw
   cases hs:splitC c s with
   | nil=>exact absurd hs (qh3 c s)
   | cons l ls =>
    rw [hs] at hw ih
    rcases List.mem_cons.1 hw with rfl | hw
    ·have:=ih l (by simp);simp;omega
    ·have:=ih w (by simp [hw]);simp;omega
theorem qacw {ws:List (List UInt8)} {n:Nat} (h : ∀ w∈ws,w.length≤n) (k:Nat) (f:Bool):(wordOf (ws.drop k,f,())).length≤n:=by
 unfold wordOf
 rw [List.getD_eq_getElem?_getD]
 cases hg:(ws.drop k)[0]? with
 | none=>simp
 | some w=>exact h w (List.mem_of_mem_drop (List.mem_of_getElem? hg))
theorem qzz {s:List UInt8} (hs:s.length≤1048576) : ∃ (E:Bool) (d:DDeed),qer s=some (bif E&&sEq (bif deedB d then deedT d else []) s then ((d,0,()),()) else badD)∧(s=[]→E=false) ∧
  ∀ k a b:Nat,1≤k→k≤7→a≤999→b≤999→(k=2∨b=0)→s=deedT ((k:Int),(a:Int),(b:Int),())→E=true∧d=((k:Int),(a:Int),(b:Int),()):=by
 have hlen:=qajp 32 (s:=s)
 obtain ⟨i,hi,hik⟩:=qall (wordOf (splitC 32 s,false,()))
 have l1:=Nat.le_trans (qacw hlen 1 ((splitC 32 s).isEmpty||false)) hs
 have l2:=Nat.le_trans (qacw hlen 2 (intRest ((splitC 32 s).drop 1,(splitC 32 s).isEmpty||false,())).2.1) hs
 have hr:qbq s=some (((splitC 32 s,false,()),()),()):=by
  simp only [qbq,qc9 32 (s:=s) (by omega),Option.bind_some]
 have e1:=qcr (splitC 32 s,false,())
 have e2:=qc1 (r:=restOf (splitC 32 s,false,())) l1
 have dd : ∀ {α:Type} (l:List α),(l.drop 1).drop 1=l.drop 2:=fun l=>by rw [List.drop_drop]
 have e3:=qc1 (r:=intRest (restOf (splitC 32 s,false,()))) (by
  have:intRest (restOf (splitC 32 s,false,()))=((splitC 32 s).drop 2,(intRest ((splitC 32 s).drop 1,(splitC 32 s).isEmpty||false,())).2.1,()):=by
   unfold restOf intRest
   simp only [dd]
  rw [this];exact l2)
 have hnil:s=[]→(intRest (restOf (splitC 32 s,false,()))).2.1=true∧i≠2:=by
  rintro rfl
  refine ⟨rfl,fun h => ?_⟩
  rw [h] at hi
  have h0:qd5 deedWordsL []=some ((0,()),()):=qai rfl
  have:qd5 deedWordsL []=some (((2:Int),()),()):=hi
  rw [h0] at this
  cases this
 by_cases h2:i=2
 ·refine ⟨!(intRest (intRest (restOf (splitC 32 s,false,())))).2.1&&(intRest (intRest (restOf (splitC 32 s,false,())))).1.isEmpty,(i,intOf (restOf (splitC 32 s,false,())),intOf (intRest (restOf (splitC 32 s,false,()))),()),?_,fun h=>absurd h2 (hnil h).2,?_⟩
  ·simp only [qer,hr,qkt,e1,hi,e2,qf7 h2,e3,qcg,qre,Option.bind_some,cond_true]
   cases (!(intRest (intRest (restOf (splitC 32 s,false,())))).2.1&&(intRest (intRest (restOf (splitC 32 s,false,())))).1.isEmpty) with
   | false=>rfl
   | true =>
    simp only [Bool.not_true,cond_false,Bool.true_and]
    cases sEq (bif deedB (i,intOf (restOf (splitC 32 s,false,())),intOf (intRest (restOf (splitC 32 s,false,()))),()) then deedT (i,intOf (restOf (splitC 32 s,false,())),intOf (intRest (restOf (splitC 32 s,false,()))),()) else []) s <;> rfl
  ·intro k a b k1 k2 ha hb hkb hst
   have hsp:=qu8 (a:=a) k1 k2 hkb
   rw [← hst] at hsp
   have hw:wordOf (splitC 32 s,false,())=deedWordsL.getD k []:=by rw [hsp];rfl
   have hk:=hik k k1 k2 hw
   have hk2:k=2:=by omega
   rw [if_pos hk2] at hsp
   have pa:=qe4 (k:=a) (by omega)
   have pb:=qe4 (k:=b) (by omega)
   have ia:=qeu a
   have ib:=qeu b
   rw [hsp]
   simp only [restOf,intRest,intOf,wordOf,List.drop_succ_cons,List.drop_zero,List.getD_cons_zero,List.isEmpty_cons,pa,pb,ia,ib,qct]
   exact ⟨rfl,by rw [hk]⟩
 ·refine ⟨!(intRest (restOf (splitC 32 s,false,()))).2.1&&(intRest (restOf (splitC 32 s,false,()))).1.isEmpty,(i,intOf (restOf (splitC 32 s,false,())),0,()),?_,fun h=>by rw [(hnil h).1];rfl,?_⟩
  ·simp only [qer,hr,qkt,e1,hi,e2,qat h2,qcg,qre,Option.bind_some,cond_false]
   cases (!(intRest (restOf (splitC 32 s,false,()))).2.1&&(intRest (restOf (splitC 32 s,false,()))).1.isEmpty) with
   | false=>rfl
   | true =>
    simp only [Bool.not_true,cond_false,Bool.true_and]
    cases sEq (bif deedB (i,intOf (restOf (splitC 32 s,false,())),0,()) then deedT (i,intOf (restOf (splitC 32 s,false,())),0,()) else []) s <;> rfl
  ·intro k a b k1 k2 ha hb hkb hst
   have hsp:=qu8 (a:=a) k1 k2 hkb
   rw [← hst] at hsp
   have hw:wordOf (splitC 32 s,false,())=deedWordsL.getD k []:=by rw [hsp];rfl
   have hk:=hik k k1 k2 hw
   have hk2:k≠2:=by omega
   have hb0:b=0:=by omega
   rw [if_neg hk2] at hsp
   have pa:=qe4 (k:=a) (by omega)
   have ia:=qeu a
   rw [hsp]
   simp only [restOf,intRest,intOf,wordOf,List.drop_succ_cons,List.drop_zero,List.getD_cons_zero,List.isEmpty_cons,pa,ia,qct]
   exact ⟨rfl,by rw [hk,hb0];rfl⟩
def kindS (w:List UInt8):Nat:=if deedWordsL.getD 7 []=w then 7 else if deedWordsL.getD 6 []=w then 6 else if deedWordsL.getD 5 []=w then 5 else if deedWordsL.getD 4 []=w then 4 else if deedWordsL.getD 3 []=w then 3 else if deedWordsL.getD 2 []=w then 2 else if deedWordsL.getD 1 []=w then 1 else 0
theorem qaja {w:List UInt8} (h:kindS w≠0):1≤kindS w∧kindS w≤7∧deedWordsL.getD (kindS w) []=w:=by
 unfold kindS at h ⊢
 repeat' split
 all_goals first | (rename_i e;exact ⟨by decide,by decide,e⟩) | skip
 rename_i h1 h2 h3 h4 h5 h6 h7
 rw [if_neg h1,if_neg h2,if_neg h3,if_neg h4,if_neg h5,if_neg h6,if_neg h7] at h
 exact absurd rfl h
theorem qamf {k:Nat} (h1:1≤k) (h2:k≤7):kindS (deedWordsL.getD k [])=k:=by
 rcases k with _ | _ | _ | _ | _ | _ | _ | _ | k <;> first | omega | decide
def toldL:List Int:=[0,1,2,1,1,1,1,1]
noncomputable def endW (l:List (List UInt8)) (d:DDeed):Option RdD :=
 bif (iEq d.1 0) then some badD else
 bif inB d.1 toldL.length then
  bif (! (iEq (lenI l) (iAdd .i64 (List.getD toldL d.1.toNat (0:Int)) 1))) then some badD else run (qaz ((l,()),())) ((1:Int),d,())
 else none
theorem qaht {l:List (List UInt8)} {w:List UInt8} {r:List (List UInt8)} (e:l=w :: r):run (qd7 ((deedWordsL,toldL,()),()) ((l,()),())) (1,(0,0,0,()),())=endW l ((kindS w:Nat),0,0,()):=by
 have i0:inB 0 l.length=true:=qae (i:=0) (by rw [e];simp)
 have g0:l.getD 0 []=w:=by rw [e];rfl
 have st : ∀ (k:Nat) (K:Int),k<8→qd7 ((deedWordsL,toldL,()),()) ((l,()),()) ((k:Int),(K,0,0,()),())=some (.inl (((k+1:Nat):Int),((if deedWordsL.getD k []=w then (k:Int) else K),0,0,()),())):=by
  intro k K hk
  have e1:iLt (k:Int) (lenI deedWordsL)=true:=qah (by show (k:Int)<8;omega)
  have e2:inB (k:Int) deedWordsL.length=true:=qae (by show k<8;omega)
  have e5:iAdd .i64 (k:Int) 1=((k+1:Nat):Int):=qaq (n:=8) hk (by omega)
  by_cases h:deedWordsL.getD k []=w
  ·have e4:sEq w w=true:=qct w
   simp only [qd7,e1,e2,i0,g0,e5,h,e4,Int.toNat_natCast,cond_true,if_true]
  ·have e4:sEq (deedWordsL.getD k []) w=false:=by simpa [sEq] using h
   simp only [qd7,e1,e2,i0,g0,e5,e4,Int.toNat_natCast,cond_true,cond_false,if_neg h]
 have s1:=st 1 0 (by decide)
 rw [show (1:Int)=((1:Nat):Int) from rfl,qaj s1,qaj (st 2 _ (by decide)),qaj (st 3 _ (by decide)),qaj (st 4 _ (by decide)),qaj (st 5 _ (by decide)),qaj (st 6 _ (by decide)),qaj (st 7 _ (by decide))]
 have hk:(if deedWordsL.getD 7 []=w then ((7:Nat):Int) else if deedWordsL.getD 6 []=w then ((6:Nat):Int) else if deedWordsL.getD 5 []=w then ((5:Nat):Int) else if deedWordsL.getD 4 []=w then ((4:Nat):Int) else if deedWordsL.getD 3 []=w then ((3:Nat):Int) else if deedWordsL.getD 2 []=w then ((2:Nat):Int) else if deedWordsL.getD 1 []=w then ((1:Nat):Int) else 0)=((kindS w:Nat):Int):=by
  unfold kindS
  repeat' split
  all_goals rfl
 rw [hk]
 rw [qag0]
 have e1:iLt ((7+1:Nat):Int) (lenI deedWordsL)=false:=qag (by show ¬ ((8:Nat):Int)<((8:Nat):Int);omega)
 simp only [qd7,e1,cond_false]
 unfold endW
 simp only []
 cases iEq ((kindS w:Nat):Int) 0 with
 | true=>rfl
 | false =>
  simp only [cond_false]
  cases inB ((kindS w:Nat):Int) toldL.length with
  | false=>rfl
  | true =>
   simp only [cond_true]
   cases iEq (lenI l) (iAdd .i64 (List.getD toldL ((kindS w:Nat):Int).toNat (0:Int)) 1) with
   | false=>rfl
   | true =>
    simp only [Bool.not_true,cond_false]
    cases run (qaz ((l,()),())) (1,((kindS w:Nat),0,0,()),()) <;> rfl
theorem qaic {l:List (List UInt8)} {d:DDeed} : run (qaz ((l,()),())) ((l.length:Int),d,())=some (bif deedB d then ((d,0,()),()) else badD):=by
 refine qai ?_
 have e1:iLt (l.length:Int) (lenI l)=false:=qag (by rw [qaa];omega)
 simp only [qaz,e1,cond_false,qact,Option.bind_some]
 cases deedB d <;> rfl
theorem qalf {k:Nat} (h1:1≤k) (h2:k≤7) (h:k≠2):toldL.getD k (0:Int)=1:=by
 rcases k with _ | _ | _ | _ | _ | _ | _ | _ | k <;> first | omega | rfl
theorem qrw {s:List UInt8} (hs:s.length≤1048576):(∃ d:DDeed,deedB d=true∧deedT d=s∧qbh s=some ((d,0,()),()))∨((∀ d:DDeed,deedB d=true→deedT d≠s)∧qbh s=some badD):=by
 have hsp:qbr s 32=some ((splitC 32 s,()),()):=qd9 32 hs
 have ew:qp5=some ((deedWordsL,toldL,()),()):=rfl
 obtain ⟨w,r,hl⟩ : ∃ w r,splitC 32 s=w :: r:=by
  cases h:splitC 32 s with
  | nil=>exact absurd h (qh3 32 s)
  | cons w r=>exact ⟨w,r,rfl⟩
 have hrun:qbh s=endW (splitC 32 s) ((kindS w:Nat),0,0,()):=by
  simp only [qbh,hsp,ew,Option.bind_some]
  exact qaht hl
 rw [hrun]
 have back : ∀ d:DDeed,deedB d=true→deedT d=s → ∃ k a b:Nat,d=((k:Int),(a:Int),(b:Int),())∧k=kindS w∧1≤k∧k≤7∧a≤999∧b≤999∧(k=2∨b=0)∧r=Lib.decDigits a :: (if k=2 then [Lib.decDigits b] else []):=by
  intro d hd ht
  obtain ⟨k,a,b,rfl,h1,h2,h3,h4,h5⟩:=qqv hd
  have:=qu8 (a:=a) h1 h2 h5
  rw [ht,hl] at this
  refine ⟨k,a,b,rfl,?_,h1,h2,h3,h4,h5,(List.cons.inj this).2⟩
  rw [(List.cons.inj this).1,qamf h1 h2]
 have n9 : ∀ k:Nat,k≤999→numOK 999999999 (Lib.decDigits k)=true:=fun k hk=>qgo.2 ⟨k,by omega,rfl⟩
 by_cases h0:kindS w=0
 ·refine .inr ⟨fun d hd ht => ?_,?_⟩
  ·obtain ⟨k,a,b,_,hk,h1,_⟩:=back d hd ht
   omega
  ·unfold endW
   rw [h0]
   rfl
 obtain ⟨k1,k2,kw⟩:=qaja h0
 have e0:iEq ((kindS w:Nat):Int) 0=false:=qat (by omega)
 have ib:inB ((kindS w:Nat):Int) toldL.length=true:=qae (by show kindS w<8;omega)
 by_cases hk2:kindS w=2
 ·have et:iAdd .i64 (toldL.getD (kindS w) (0:Int)) 1=3:=by rw [hk2];rfl
  have hE:endW (splitC 32 s) ((kindS w:Nat),0,0,())=bif !(iEq (lenI (splitC 32 s)) 3) then some badD else run (qaz ((splitC 32 s,()),())) (1,((kindS w:Nat),0,0,()),()):=by
   unfold endW
   simp only [e0,ib,et,Int.toNat_natCast,cond_true,cond_false]
  rw [hE]
  by_cases hlen:r.length=2
  ·obtain ⟨x,y,rfl⟩ : ∃ x y,r=[x,y]:=by
    match r,hlen with
    | [x,y],_=>exact ⟨x,y,rfl⟩
   rw [hl]
   have e3:iEq (lenI [w,x,y]) 3=true:=rfl
   rw [e3]
   simp only [Bool.not_true,cond_false]
   obtain ⟨n,hn,hv⟩:=qiv x
   obtain ⟨m,hm,hu⟩:=qiv y
   have st1:qaz (([w,x,y],()),()) (1,((kindS w:Nat),0,0,()),())=bif numOK 999999999 x then some (.inl (2,((kindS w:Nat),n,0,()),())) else some (.inr badD):=by
    have a1:iLt 1 (lenI [w,x,y])=true:=rfl
    have a2:inB 1 [w,x,y].length=true:=rfl
    have a3:[w,x,y].getD (1:Int).toNat []=x:=rfl
    simp only [qaz,a1,a2,a3,hn,Option.bind_some,cond_true]
    cases numOK 999999999 x <;> rfl
   have st2:qaz (([w,x,y],()),()) (2,((kindS w:Nat),n,0,()),())=bif numOK 999999999 y then some (.inl (3,((kindS w:Nat),n,m,()),())) else some (.inr badD):=by
    have a1:iLt 2 (lenI [w,x,y])=true:=rfl
    have a2:inB 2 [w,x,y].length=true:=rfl
    have a3:[w,x,y].getD (2:Int).toNat []=y:=rfl
    have a4:iEq 2 1=false:=rfl
    simp only [qaz,a1,a2,a3,a4,hm,Option.bind_some,cond_true,cond_false]
    cases numOK 999999999 y <;> rfl
   cases hx:numOK 999999999 x with
   | false =>
    rw [hx] at st1
    refine .inr ⟨fun d hd ht => ?_,qai st1⟩
    obtain ⟨k,a,b,_,hk,_,_,h3,h4,_,hr⟩:=back d hd ht
    rw [if_pos (by omega)] at hr
    rw [(List.cons.inj hr).1,n9 a h3] at hx
    cases hx
   | true =>
    rw [hx,cond_true] at st1
    rw [qaj st1]
    cases hy:numOK 999999999 y with
    | false =>
     rw [hy] at st2
     refine .inr ⟨fun d hd ht => ?_,qai st2⟩
     obtain ⟨k,a,b,_,hk,_,_,h3,h4,_,hr⟩:=back d hd ht
     rw [if_pos (by omega)] at hr
     rw [(List.cons.inj (List.cons.inj hr).2).1,n9 b h4] at hy
     cases hy
    | true =>
     rw [hy,cond_true] at st2
     rw [qaj st2,show (3:Int)=(([w,x,y].length:Nat):Int) from rfl,qaic]
     obtain ⟨_,ix,_⟩:=qo6 (by decide) hx
     obtain ⟨_,iy,_⟩:=qo6 (by decide) hy
     rw [hv hx,hu hy]
     cases hd:deedB ((kindS w:Nat),(valD 0 x:Int),(valD 0 y:Int),()) with
     | false =>
      refine .inr ⟨fun d hd' ht => ?_,rfl⟩
      obtain ⟨k,a,b,rfl,hk,_,_,h3,h4,_,hr⟩:=back d hd' ht
      rw [if_pos (by omega)] at hr
      have hxa:=(List.cons.inj hr).1
      have hyb:=(List.cons.inj (List.cons.inj hr).2).1
      rw [hxa,hyb,(qbc a).2.1,(qbc b).2.1,← hk,hd'] at hd
      cases hd
     | true =>
      refine .inl ⟨_,hd,?_,rfl⟩
      rw [qah0 hl]
      unfold deedT
      simp only [Int.toNat_natCast,kw]
      rw [qf7 (show ((kindS w:Nat):Int)=2 by omega)]
      rw [qeu] at ix iy
      rw [ix,iy]
      simp
  ·have e3:iEq (lenI (splitC 32 s)) 3=false:=qat (by rw [qaa,hl,List.length_cons];omega)
   rw [e3]
   refine .inr ⟨fun d hd ht => ?_,rfl⟩
   obtain ⟨k,a,b,_,hk,_,_,h3,h4,_,hr⟩:=back d hd ht
   rw [if_pos (by omega)] at hr
   rw [hr] at hlen
   exact hlen rfl
 ·have et:iAdd .i64 (toldL.getD (kindS w) (0:Int)) 1=2:=by rw [qalf k1 k2 hk2];rfl
  have hE:endW (splitC 32 s) ((kindS w:Nat),0,0,())=bif !(iEq (lenI (splitC 32 s)) 2) then some badD else run (qaz ((splitC 32 s,()),())) (1,((kindS w:Nat),0,0,()),()):=by
   unfold endW
   simp only [e0,ib,et,Int.toNat_natCast,cond_true,cond_false]
  rw [hE]
  by_cases hlen:r.length=1
  ·obtain ⟨x,rfl⟩ : ∃ x,r=[x]:=by
    match r,hlen with
    | [x],_=>exact ⟨x,rfl⟩
   rw [hl]
   have e3:iEq (lenI [w,x]) 2=true:=rfl
   rw [e3]
   simp only [Bool.not_true,cond_false]
   obtain ⟨n,hn,hv⟩:=qiv x
   have st1:qaz (([w,x],()),()) (1,((kindS w:Nat),0,0,()),())=bif numOK 999999999 x then some (.inl (2,((kindS w:Nat),n,0,()),())) else some (.inr badD):=by
    have a1:iLt 1 (lenI [w,x])=true:=rfl
    have a2:inB 1 [w,x].length=true:=rfl
    have a3:[w,x].getD (1:Int).toNat []=x:=rfl
    simp only [qaz,a1,a2,a3,hn,Option.bind_some,cond_true]
    cases numOK 999999999 x <;> rfl
   cases hx:numOK 999999999 x with
   | false =>
    rw [hx] at st1
    refine .inr ⟨fun d hd ht => ?_,qai st1⟩
    obtain ⟨k,a,b,_,hk,_,_,h3,h4,_,hr⟩:=back d hd ht
    rw [if_neg (by omega)] at hr
    rw [(List.cons.inj hr).1,n9 a h3] at hx
    cases hx
   | true =>
    rw [hx,cond_true] at st1
    rw [qaj st1,show (2:Int)=(([w,x].length:Nat):Int) from rfl,qaic]
    obtain ⟨_,ix,_⟩:=qo6 (by decide) hx
    rw [hv hx]
    cases hd:deedB ((kindS w:Nat),(valD 0 x:Int),0,()) with
    | false =>
     refine .inr ⟨fun d hd' ht => ?_,rfl⟩
     obtain ⟨k,a,b,rfl,hk,_,_,h3,h4,hkb,hr⟩:=back d hd' ht
     rw [if_neg (by omega)] at hr
     have hxa:=(List.cons.inj hr).1
     have hb0:b=0:=by omega
     rw [hb0] at hd'
     rw [hxa,(qbc a).2.1,← hk] at hd
     have hd':deedB ((k:Int),(a:Int),0,())=true:=hd'
     rw [hd'] at hd
     cases hd
    | true =>
     refine .inl ⟨_,hd,?_,rfl⟩
     rw [qald hl]
     unfold deedT
     simp only [Int.toNat_natCast,kw]
     rw [qat (show ((kindS w:Nat):Int)≠2 by omega)]
     rw [qeu] at ix
     rw [ix]
     simp
  ·have e3:iEq (lenI (splitC 32 s)) 2=false:=qat (by rw [qaa,hl,List.length_cons];omega)
   rw [e3]
   refine .inr ⟨fun d hd ht => ?_,rfl⟩
   obtain ⟨k,a,b,_,hk,_,_,h3,h4,_,hr⟩:=back d hd ht
   rw [if_neg (by omega)] at hr
   rw [hr] at hlen
   exact hlen rfl
end
end Go.Proofs.YtjhdoneobdbeaaaGreatDoor
