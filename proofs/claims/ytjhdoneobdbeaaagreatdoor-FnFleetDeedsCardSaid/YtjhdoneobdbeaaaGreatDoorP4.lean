import Derived.Test.YtjhdoneobdbeaaaGreatDoorP3
/- Functions of the program and of the reference in plain terms. -/
set_option linter.unusedSectionVars false
set_option linter.unusedSimpArgs false
set_option linter.unusedVariables false
namespace Go.Proofs.YtjhdoneobdbeaaaGreatDoor
open Go Go.Tm
section
theorem qzf (a b:Ordering):((some a:Option Ordering)==some b)=(a==b):=by cases a <;> cases b <;> rfl
theorem qaan:FloatKind.f32.format.read 0 = .number false 0 (-149):=by decide
theorem qafl {x:Nat} (hf:finB x=true) (h:fLt .f32 0 x=true) : ∃ m p,FloatKind.f32.format.read x = .number false m p∧m≠0:=by
 obtain ⟨s,m,p,hd⟩:=qg1 (k:=.f32) hf
 have hd':FloatKind.f32.format.read x = .number s m p:=hd
 unfold fLt Ieee.Format.order at h
 rw [qaan,hd'] at h
 simp only [Ieee.Datum.order,qzf] at h
 rw [qnf] at h
 have h:=of_decide_eq_true h
 cases s with
 | false =>
  refine ⟨m,p,hd',?_⟩
  rintro rfl
  simp [Ieee.signed] at h
 | true =>
  exfalso
  have h0:Ieee.signed false 0 (-149-min (-149) p).toNat=0:=by simp [Ieee.signed]
  have h1:Ieee.signed true m (p-min (-149) p).toNat≤0:=by
   unfold Ieee.signed
   rw [Nat.shiftLeft_eq]
   exact Int.neg_nonpos_of_nonneg (Int.natCast_nonneg _)
  omega
theorem qal6 {x m:Nat} {p:Int} (h:FloatKind.f32.format.read x = .number false m p) (hm:m≠0):fLt .f32 0 x=true:=by
 unfold fLt Ieee.Format.order
 rw [qaan,h]
 simp only [Ieee.Datum.order,qzf]
 rw [qnf]
 apply decide_eq_true
 have:0<m*2^(p-min (-149) p).toNat:=Nat.mul_pos (Nat.pos_of_ne_zero hm) (Nat.two_pow_pos _)
 have h0:Ieee.signed false 0 (-149-min (-149) p).toNat=0:=by simp [Ieee.signed]
 have h1:Ieee.signed false m (p-min (-149) p).toNat=((m*2^(p-min (-149) p).toNat:Nat):Int):=by
  unfold Ieee.signed
  rw [Nat.shiftLeft_eq]
  rfl
 rw [h0,h1]
 exact Int.ofNat_lt.2 this
theorem qaou {m:Nat} {p:Int} (hm:m≠0) (hp : -149≤p):1≤rungOf FloatKind.f32.format m p:=by
 unfold rungOf
 rw [if_neg hm]
 simp only
 have hinf:1≤FloatKind.f32.format.infRung:=by decide
 have hbin:1≤FloatKind.f32.format.binade:=by decide
 have hL:FloatKind.f32.format.leastPlace = -149:=rfl
 rw [hL]
 refine Nat.le_min.2 ⟨?_,hinf⟩
 by_cases hl:max (p+(m.log2:Int)-FloatKind.f32.format.fractionBits) (-149) = -149
 ·rw [hl]
  rw [show (-149-p).toNat=0 by omega,qaaz,Nat.shiftLeft_eq]
  have:0<m*2^(p - -149).toNat:=Nat.mul_pos (Nat.pos_of_ne_zero hm) (Nat.two_pow_pos _)
  omega
 ·have h1:1≤(max (p+(m.log2:Int)-FloatKind.f32.format.fractionBits) (-149) - -149).toNat:=by omega
  have:=Nat.mul_le_mul h1 hbin
  omega
theorem qac0 {x:Nat} {s:Bool} {m:Nat} {p:Int} (h:FloatKind.f32.format.read x = .number s m p) : -149≤p:=by
 have h:Ieee.single.read x = .number s m p:=h
 unfold Ieee.Format.read at h
 simp only at h
 have e3:Ieee.single.leastPlace = -149:=by decide
 rw [e3] at h
 split at h
 ·cases h
  omega
 ·split at h
  ·cases h
   omega
  ·split at h <;> cases h
theorem qagi {a b:Nat} (ha:finB a=true) (ha0:fLt .f32 0 a=true) (hb:finB b=true) (hb0:fLt .f32 0 b=true) (hs:finB (fAdd .f32 a b)=true):fLt .f32 0 (fAdd .f32 a b)=true:=by
 obtain ⟨m,p,hda,hm⟩:=qafl ha ha0
 obtain ⟨n,q,hdb,hn⟩:=qafl hb hb0
 have lp:=qac0 hda
 have lq:=qac0 hdb
 generalize hM:m*2^(p-min p q).toNat+n*2^(q-min p q).toNat=M
 have hM0:M≠0:=by
  have:0<m*2^(p-min p q).toNat:=Nat.mul_pos (Nat.pos_of_ne_zero hm) (Nat.two_pow_pos _)
  omega
 have e:fAdd .f32 a b=canon .f32 (FloatKind.f32.encode (.number false M (min p q))):=by
  unfold fAdd Ieee.Format.add
  rw [hda,hdb]
  have e:Ieee.signed false m (p-min p q).toNat+Ieee.signed false n (q-min p q).toNat=(M:Int):=by
   unfold Ieee.signed
   rw [Nat.shiftLeft_eq,Nat.shiftLeft_eq,← hM]
   simp
  simp only [Ieee.Datum.sum,Option.map_some,orNan,e,Int.natAbs_natCast]
  have hg:(if (M:Int)=0 then false&&false else decide ((M:Int)<0))=false:=by
   split
   ·rfl
   ·exact decide_eq_false (by omega)
  rw [hg]
  rfl
 have hn':isNan .f32 (FloatKind.f32.encode (.number false M (min p q)))=false:=qq0 rfl
 rw [qar hn'] at e
 have e2:fAdd .f32 a b=FloatKind.f32.format.word false (rungOf FloatKind.f32.format M (min p q)):=e.trans (qlc _ _ _ _)
 have hr1:=qaou hM0 (show -149≤min p q by omega)
 have hle:rungOf FloatKind.f32.format M (min p q)≤FloatKind.f32.format.infRung:=by
  unfold rungOf
  rw [if_neg hM0]
  exact Nat.min_le_right _ _
 generalize rungOf FloatKind.f32.format M (min p q)=r at e2 hr1 hle
 have hr:r<FloatKind.f32.format.infRung:=by
  rcases Nat.lt_or_ge r FloatKind.f32.format.infRung with h | h
  ·exact h
  ·exfalso
   have:r=FloatKind.f32.format.infRung:=by omega
   subst this
   rw [e2] at hs
   have hinf:finB (FloatKind.f32.format.word false FloatKind.f32.format.infRung)=false:=by kernel_rfl
   rw [hinf] at hs
   exact absurd hs (by decide)
 have hbin:FloatKind.f32.format.binade=8388608:=by decide
 obtain ⟨e',K,hK,hek,hK0⟩ : ∃ e' K,((e'=0∧K<FloatKind.f32.format.binade)∨(FloatKind.f32.format.binade≤K∧K<2*FloatKind.f32.format.binade))∧e'*FloatKind.f32.format.binade+K=r∧K≠0:=by
  rw [hbin]
  by_cases h:r<8388608
  ·exact ⟨0,r,.inl ⟨rfl,h⟩,by rw [Nat.zero_mul,Nat.zero_add],Nat.pos_iff_ne_zero.1 hr1⟩
  ·have hex : ∃ e':Nat,e'+1=r/8388608:=⟨r/8388608-1,Nat.sub_add_cancel (by omega)⟩
   obtain ⟨e',he'⟩:=hex
   have hex : ∃ K:Nat,K+e'*8388608=r:=⟨r-e'*8388608,Nat.sub_add_cancel (by omega)⟩
   obtain ⟨K,hK⟩:=hex
   exact ⟨e',K,Or.inr ⟨by omega,by omega⟩,by omega,by omega⟩
 have hread:=qamn (f:=FloatKind.f32.format) (s:=false) hK (by rw [hek];exact hr)
 rw [hek,← e2] at hread
 exact qal6 hread hK0
def ltC (a b:Vec 3 Int):Prop:=a.1<b.1∨(a.1=b.1∧(a.2.1<b.2.1∨(a.2.1=b.2.1∧a.2.2.1<b.2.2.1)))
theorem ltC.trans {a b c:Vec 3 Int} (h:ltC a b) (h':ltC b c):ltC a c:=by
 unfold ltC at *
 omega
theorem qse {a b:Vec 3 Int} : iLt (cmpI a b) 0=true↔ltC a b:=by
 obtain ⟨a0,a1,a2,⟨⟩⟩:=a
 obtain ⟨b0,b1,b2,⟨⟩⟩:=b
 show iLt (bif iLt a0 b0 then -1 else bif iLt b0 a0 then 1 else bif iLt a1 b1 then -1 else bif iLt b1 a1 then 1 else bif iLt a2 b2 then -1 else bif iLt b2 a2 then 1 else 0) 0=true↔(a0<b0∨(a0=b0∧(a1<b1∨(a1=b1∧a2<b2))))
 have k : ∀ x y:Int,iLt x y=decide (x<y):=fun _ _=>rfl
 by_cases h0:a0<b0
 ·simp [k,h0]
 ·by_cases h0':b0<a0
  ·simp [k,h0,h0'];omega
  ·have e0:a0=b0:=by omega
   subst e0
   by_cases h1:a1<b1
   ·simp [k,h1]
   ·by_cases h1':b1<a1
    ·simp [k,h1,h1'];omega
    ·have e1:a1=b1:=by omega
     subst e1
     by_cases h2:a2<b2
     ·simp [k,h2]
     ·by_cases h2':b2<a2
      ·simp [k,h2,h2']
      ·simp [k,h2,h2']
theorem qajd (a b:Vec 3 Int):ltC a b∨a=b∨ltC b a:=by
 obtain ⟨a0,a1,a2,⟨⟩⟩:=a
 obtain ⟨b0,b1,b2,⟨⟩⟩:=b
 show (a0<b0∨(a0=b0∧(a1<b1∨(a1=b1∧a2<b2))))∨((a0,a1,a2,()):Int×Int×Int×Unit)=(b0,b1,b2,())∨(b0<a0∨(b0=a0∧(b1<a1∨(b1=a1∧b2<a2))))
 simp only [Prod.mk.injEq,and_true]
 omega
theorem qajo {a b:Vec 3 Int} : (!iLe (cmpI b a) 0)=true↔ltC a b:=by
 rw [qaay]
 rw [← qse]
 simp [iLe,iLt]
def Marks (l:List DMark):Prop:=(∀ x∈l,markB x=true)∧l.Pairwise fun a b=>ltC a.1 b.1
theorem qan3 {m:DMap} : mapB m=true↔sideB m.1=true∧m.2.1.length≤200∧Marks m.2.1:=by
 unfold mapB
 simp only [Bool.and_eq_true,Bool.not_eq_true',List.all_eq_true,List.mem_range]
 have hlen:iLt 200 (lenI m.2.1)=false↔m.2.1.length≤200:=by
  rw [qaa];simp [iLt];omega
 rw [hlen]
 refine and_congr_right fun _=>and_congr_right fun _ => ?_
 generalize m.2.1=l
 constructor
 ·intro h
  have hm : ∀ i (hi:i<l.length),markB l[i]=true∧(0<i→ltC (l.getD (i-1) zMark).1 l[i].1):=by
   intro i hi
   have:=h i hi
   unfold markAt at this
   rw [Bool.and_eq_true,qal hi] at this
   refine ⟨this.1,fun h0 => ?_⟩
   have h2:=this.2
   have:Nat.beq i 0=false:=by
    cases i with
    | zero=>omega
    | succ n=>rfl
   rw [this] at h2
   exact qajo.1 h2
  refine ⟨fun x hx => ?_,?_⟩
  ·obtain ⟨i,hi,rfl⟩:=List.getElem_of_mem hx
   exact (hm i hi).1
  ·rw [List.pairwise_iff_getElem]
   have key : ∀ (d i:Nat) (h1:i+d+1<l.length),ltC (l[i]'(by omega)).1 l[i+d+1].1:=by
    intro d
    induction d with
    | zero =>
     intro i h1
     have:=(hm (i+0+1) h1).2 (by omega)
     rw [show i+0+1-1=i by omega,qal (by omega)] at this
     exact this
    | succ d ih =>
     intro i h1
     have h2:=(hm (i+(d+1)+1) h1).2 (by omega)
     rw [qal (by omega)] at h2
     have h3:=ih i (by omega)
     exact h3.trans (by simpa [show i+(d+1)+1-1=i+d+1 by omega] using h2)
   intro i j hi hj hij
   have:=key (j-i-1) i (by omega)
   have e:i+(j-i-1)+1=j:=by omega
   simpa [e] using this
 ·rintro ⟨h1,h2⟩ i hi
  unfold markAt
  rw [Bool.and_eq_true,qal hi]
  refine ⟨h1 _ (List.getElem_mem hi),?_⟩
  cases i with
  | zero=>rfl
  | succ n =>
   show (!iLe (cmpI l[n+1].1 (l.getD (n+1-1) zMark).1) 0)=true
   rw [show n+1-1=n by omega,qal (by omega)]
   exact qajo.2 (List.pairwise_iff_getElem.1 h2 n (n+1) (by omega) hi (by omega))
def placeN (l:List DMark) (c:Vec 3 Int):Nat:=(l.takeWhile fun y=>iLt (cmpI y.1 c) 0).length
def eqC (a c:Vec 3 Int):Bool:=iEq (Vec.getD 3 a 0 (0:Int)) (Vec.getD 3 c 0 (0:Int))&&(iEq (Vec.getD 3 a 1 (0:Int)) (Vec.getD 3 c 1 (0:Int))&&(iEq (Vec.getD 3 a 2 (0:Int)) (Vec.getD 3 c 2 (0:Int))&&true))
def foundB (l:List DMark) (c:Vec 3 Int):Bool:=bif iLt (placeN l c:Int) (l.length:Int) then eqC (l.getD (placeN l c) zMark).1 c else false
theorem qvd {a c:Vec 3 Int} : eqC a c=true↔a=c:=by
 obtain ⟨a0,a1,a2,⟨⟩⟩:=a
 obtain ⟨b0,b1,b2,⟨⟩⟩:=c
 show (iEq a0 b0&&(iEq a1 b1&&(iEq a2 b2&&true)))=true↔((a0,a1,a2,()):Int×Int×Int×Unit)=(b0,b1,b2,())
 simp only [Bool.and_eq_true,Bool.and_true,qhw,Prod.mk.injEq,and_true]
theorem qxp {α:Type} (p:α→Bool) : ∀ l:List α,(l.takeWhile p).length≤l.length
 | []=>Nat.le_refl _
 | a :: l=>by
  rw [List.takeWhile_cons]
  split
  ·have:=qxp p l
   simp;omega
  ·simp
theorem qiv (l:List DMark) (c:Vec 3 Int):placeN l c≤l.length:=qxp _ l
theorem qr4 : ∀ (l:List DMark) (c:Vec 3 Int) (i:Nat) (hi:i<placeN l c),iLt (cmpI (l[i]'(Nat.lt_of_lt_of_le hi (qiv l c))).1 c) 0=true
 | [],_,_,hi=>by cases hi
 | a :: l,c,i,hi=>by
  cases h:iLt (cmpI a.1 c) 0 with
  | false =>
   exfalso
   unfold placeN at hi
   rw [List.takeWhile_cons,h] at hi
   exact absurd hi (by simp)
  | true =>
   cases i with
   | zero=>exact h
   | succ i =>
    have hi':i<placeN l c:=by
     unfold placeN at hi
     rw [List.takeWhile_cons,h] at hi
     simp at hi
     exact hi
    exact qr4 l c i hi'
theorem qqa : ∀ (l:List DMark) (c:Vec 3 Int) (hi:placeN l c<l.length),iLt (cmpI (l[placeN l c]'hi).1 c) 0=false
 | [],_,hi=>by cases hi
 | a :: l,c,hi=>by
  cases h:iLt (cmpI a.1 c) 0 with
  | false =>
   have e:placeN (a :: l) c=0:=by
    unfold placeN
    rw [List.takeWhile_cons,h]
    rfl
   simp only [e]
   exact h
  | true =>
   have e:placeN (a :: l) c=placeN l c+1:=by
    unfold placeN
    rw [List.takeWhile_cons,h]
    rfl
   have hi':placeN l c<l.length:=by rw [e] at hi;simpa using hi
   simp only [e]
   exact qqa l c hi'
theorem qul {l:List DMark} (hl:l.length≤1000000) (c:Vec 3 Int):qog l c=some (((placeN l c:Int),foundB l c,()),()):=by
 have hp:=qiv l c
 unfold qog
 have hend:qe6 l c ((placeN l c:Int),())=some (.inr (((placeN l c:Int),foundB l c,()),())):=by
  unfold qe6 foundB
  simp only [qaa,Int.toNat_natCast,qkw,Option.bind_some]
  by_cases h:placeN l c<l.length
  ·have e1:iLt (placeN l c:Int) (l.length:Int)=true:=qah (by omega)
   have e2:inB (placeN l c:Int) l.length=true:=qae h
   have e3:=qqa l c h
   rw [← qal (d:=zMark) h] at e3
   rw [e1,e2,e3]
   rfl
  ·have e1:iLt (placeN l c:Int) (l.length:Int)=false:=qaf (by omega)
   rw [e1]
   rfl
 have step : ∀ i:Nat,i<placeN l c→qe6 l c ((i:Int),())=some (.inl (((i+1:Nat):Int),())):=by
  intro i hi
  have e1:iLt (i:Int) (lenI l)=true:=qah (by rw [qaa];omega)
  have e2:inB (i:Int) l.length=true:=qae (by omega)
  have e3:=qr4 l c i hi
  rw [← qal (d:=zMark) (by omega)] at e3
  have e5:iAdd .i64 (i:Int) 1=((i+1:Nat):Int):=(qcr (by omega) (by omega)).trans (by omega)
  unfold qe6
  simp only [Int.toNat_natCast,qkw,Option.bind_some]
  rw [e1,e2,e3,e5]
  rfl
 have key : ∀ (d i:Nat),i+d=placeN l c→run (qe6 l c) ((i:Int),())=some (((placeN l c:Int),foundB l c,()),()):=by
  intro d
  induction d with
  | zero=>intro i e;rw [show i=placeN l c by omega];exact qaj hend
  | succ d ih=>intro i e;rw [qak (step i (by omega))];exact ih (i+1) (by omega)
 exact key (placeN l c) 0 (by omega)
theorem qz9 (a b:DMark) : ∃ v,qf4 a b=some ((v,()),()):=by
 unfold qf4
 simp only [qhj,Option.bind_some]
 generalize iEq a.2.2.2.2.1 b.2.2.2.2.1=c1
 generalize fEq .f32 a.2.2.1 b.2.2.1=c2
 generalize iEq a.2.2.2.1 b.2.2.2.1=c3
 generalize fEq .f32 (Vec.getD 3 a.2.1 0 (0:Nat)) (Vec.getD 3 b.2.1 0 (0:Nat))=c4
 generalize fEq .f32 (Vec.getD 3 a.2.1 1 (0:Nat)) (Vec.getD 3 b.2.1 1 (0:Nat))=c5
 generalize fEq .f32 (Vec.getD 3 a.2.1 2 (0:Nat)) (Vec.getD 3 b.2.1 2 (0:Nat))=c6
 generalize sameN (Vec.getD 3 a.2.1 0 (0:Nat)) (Vec.getD 3 b.2.1 0 (0:Nat))=c7
 generalize sameN (Vec.getD 3 a.2.1 1 (0:Nat)) (Vec.getD 3 b.2.1 1 (0:Nat))=c8
 generalize sameN (Vec.getD 3 a.2.1 2 (0:Nat)) (Vec.getD 3 b.2.1 2 (0:Nat))=c9
 cases c1 <;> cases c2 <;> cases c3 <;> cases c4 <;> cases c5 <;> cases c6 <;> cases c7 <;> cases c8 <;> cases c9 <;> exact ⟨_,rfl⟩
theorem qaqw {l:List DMark} (hl:l.length≤1000) (x:DMark) : ∃ l',qdr l x=some ((l',()),())∧l'.length≤l.length+1∧(Marks l→markB x=true→Marks l'):=by
 have hp:=qiv l x.1
 obtain ⟨b,hb⟩:=qz9 x (l.getD (placeN l x.1) zMark)
 have e1:inS 0 (placeN l x.1:Int) l.length=true:=by unfold inS;simp;omega
 have et:takeL l (placeN l x.1:Int)=l.take (placeN l x.1):=by unfold takeL;rw [Int.toNat_natCast]
 have hlt:(l.take (placeN l x.1)).length=placeN l x.1:=by rw [List.length_take];omega
 have r1:room (0+(l.take (placeN l x.1)).length) 48=true:=qaw (by omega)
 have r2:room ((l.take (placeN l x.1)).length+1) 48=true:=qaw (by omega)
 have e2:inS (placeN l x.1:Int) (lenI l) l.length=true:=by unfold inS;rw [qaa];simp;omega
 have ed:dropL l (placeN l x.1:Int)=l.drop (placeN l x.1):=by unfold dropL;rw [Int.toNat_natCast]
 have hld:(l.drop (placeN l x.1)).length=l.length-placeN l x.1:=List.length_drop
 have hlow : ∀ y∈l.take (placeN l x.1),ltC y.1 x.1:=by
  intro y hy
  obtain ⟨i,hi,rfl⟩:=List.getElem_of_mem hy
  rw [List.getElem_take]
  exact qse.1 (qr4 l x.1 i (by omega))
 unfold qdr
 rw [qul (by omega)]
 simp only [Option.bind_some]
 rw [e1,et,r1]
 simp only [cond_true,List.nil_append]
 cases hf:foundB l x.1 with
 | true =>
  have hi:placeN l x.1<l.length:=by
   rcases Nat.lt_or_ge (placeN l x.1) l.length with h | h
   ·exact h
   ·unfold foundB at hf
    rw [qaf (by omega)] at hf
    cases hf
  have hc:(l[placeN l x.1]).1=x.1:=by
   unfold foundB at hf
   rw [qah (by omega),qal hi] at hf
   exact qvd.1 hf
  have e3:inB (placeN l x.1:Int) l.length=true:=qae hi
  have e5:iAdd .i64 (placeN l x.1:Int) 1=((placeN l x.1+1:Nat):Int):=(qcr (by omega) (by omega)).trans (by omega)
  have e6:inS ((placeN l x.1+1:Nat):Int) (lenI l) l.length=true:=by unfold inS;rw [qaa];simp;omega
  have ed1:dropL l ((placeN l x.1+1:Nat):Int)=l.drop (placeN l x.1+1):=by unfold dropL;rw [Int.toNat_natCast]
  have hld1:(l.drop (placeN l x.1+1)).length=l.length-(placeN l x.1+1):=List.length_drop
  have hsplit:l=l.take (placeN l x.1)++l[placeN l x.1] :: l.drop (placeN l x.1+1):=by
   rw [List.getElem_cons_drop,List.take_append_drop]
  simp only [cond_true,Int.toNat_natCast]
  rw [e3,hb,e2,ed,e5,e6,ed1]
  have r3:room ((l.take (placeN l x.1)++[x]).length+(l.drop (placeN l x.1+1)).length) 48=true:=qaw (by rw [List.length_append,hlt,hld1];simp;omega)
  have r4:room ((l.take (placeN l x.1)).length+(l.drop (placeN l x.1)).length) 48=true:=qaw (by omega)
  rw [r2,r3,r4]
  simp only [cond_true,Option.bind_some]
  cases b with
  | true =>
   refine ⟨_,rfl,by rw [List.length_append,List.length_append,hlt,hld1];simp;omega,fun hm hx => ?_⟩
   obtain ⟨m1,m2⟩:=hm
   have m2':=m2
   rw [hsplit] at m2'
   refine ⟨fun y hy => ?_,?_⟩
   ·rw [List.append_assoc] at hy
    rcases List.mem_append.1 hy with h | h
    ·exact m1 y (List.mem_of_mem_take h)
    ·rcases List.mem_cons.1 h with h | h
     ·rw [h];exact hx
     ·exact m1 y (List.mem_of_mem_drop h)
   ·rw [List.append_assoc]
    rw [List.pairwise_append] at m2' ⊢
    obtain ⟨p1,p2,p3⟩:=m2'
    rw [List.pairwise_cons] at p2
    refine ⟨p1,List.pairwise_cons.2 ⟨fun y hy=>hc▸p2.1 y hy,p2.2⟩,fun a ha y hy => ?_⟩
    rcases List.mem_cons.1 hy with h | h
    ·rw [h];exact hlow a ha
    ·exact p3 a ha y (List.mem_cons_of_mem _ h)
  | false =>
   refine ⟨_,rfl,by rw [List.take_append_drop];omega,fun hm hx => ?_⟩
   rw [List.take_append_drop]
   exact hm
 | false =>
  simp only [cond_false]
  have r3:room ((l.take (placeN l x.1)++[x]).length+(l.drop (placeN l x.1)).length) 48=true:=qaw (by rw [List.length_append,hlt,hld];simp;omega)
  rw [r2,e2,ed,r3]
  simp only [cond_true]
  refine ⟨_,rfl,by rw [List.length_append,List.length_append,hlt,hld];simp;omega,fun hm hx => ?_⟩
  obtain ⟨m1,m2⟩:=hm
  have m2':=m2
  rw [← List.take_append_drop (placeN l x.1) l] at m2'
  have hup : ∀ y∈l.drop (placeN l x.1),ltC x.1 y.1:=by
   intro y hy
   have hi:placeN l x.1<l.length:=by
    have:=List.length_pos_of_mem hy
    omega
   have h0:ltC x.1 (l[placeN l x.1]).1:=by
    have e3:=qqa l x.1 hi
    rcases qajd (l[placeN l x.1]).1 x.1 with h | h | h
    ·rw [qse.2 h] at e3;cases e3
    ·exfalso
     unfold foundB at hf
     rw [qah (by omega),qal hi] at hf
     simp only [cond_true] at hf
     rw [qvd.2 h] at hf
     cases hf
    ·exact h
   obtain ⟨i,hi',rfl⟩:=List.getElem_of_mem hy
   rw [List.getElem_drop]
   cases i with
   | zero=>simpa using h0
   | succ i =>
    refine h0.trans (List.pairwise_iff_getElem.1 m2 _ _ hi (by omega) (by omega))
  refine ⟨fun y hy => ?_,?_⟩
  ·rw [List.append_assoc] at hy
   rcases List.mem_append.1 hy with h | h
   ·exact m1 y (List.mem_of_mem_take h)
   ·rcases List.mem_cons.1 h with h | h
    ·rw [h];exact hx
    ·exact m1 y (List.mem_of_mem_drop h)
  ·rw [List.append_assoc]
   rw [List.pairwise_append] at m2' ⊢
   obtain ⟨p1,p2,p3⟩:=m2'
   refine ⟨p1,List.pairwise_cons.2 ⟨hup,p2⟩,fun a ha y hy => ?_⟩
   rcases List.mem_cons.1 hy with h | h
   ·rw [h];exact hlow a ha
   ·exact p3 a ha y h
theorem qani {side:Nat} {v:Vec 3 Nat} (h:iEq (cellF side v).2.1 0=true):finV v=true:=by
 unfold cellF at h
 cases hv:finV v with
 | true=>rfl
 | false =>
  rw [hv,Bool.and_false] at h
  have h':iEq (2:Int) 0=true:=h
  exact absurd h' (by decide)
abbrev DSeen:=DMap×(Vec 3 Int)×Bool×Int×Unit
theorem qaeb (a b:Int):qlz a b=some ((min a b,()),()):=by
 unfold qlz
 by_cases h:a<b
 ·rw [qah h];simp only [cond_true];rw [Int.min_def,if_pos (by omega)]
 ·rw [qaf h];simp only [cond_false];rw [Int.min_def];split
  ·rename_i h1;have:a=b:=by omega
   rw [this]
  ·rfl
end
section
theorem write_lt (d:Ieee.Datum):FloatKind.f32.format.write d<4294967296:=by
 have h2:FloatKind.f32.format.signWeight=2147483648:=by decide
 have hi:FloatKind.f32.format.infRung=2139095040:=by decide
 have hb:FloatKind.f32.format.binade=8388608:=by decide
 have hw : ∀ s r,r<2147483648→FloatKind.f32.format.word s r<4294967296:=by
  intro s r hr
  unfold Ieee.Format.word
  rw [h2]
  split <;> omega
 cases d with
 | number g m p =>
  show FloatKind.f32.format.nearest g m p<_
  rw [qlc]
  have:=qafr FloatKind.f32.format m p
  exact hw _ _ (by omega)
 | infinity g=>exact hw g _ (by rw [hi];decide)
 | nan g f =>
  refine hw g _ ?_
  have:=Nat.mod_lt f (show 0<FloatKind.f32.format.binade by rw [hb];decide)
  omega
def cF (x:Nat):Prop:=fltFit .f32 x
theorem qanf (d:Ieee.Datum):cF (canon .f32 (FloatKind.f32.format.write d)):=⟨qaaf _ _,qags (write_lt d)⟩
theorem qao5 (r:Option Ieee.Datum):cF (orNan .f32 (r.map FloatKind.f32.format.write)):=by
 cases r with
 | none=>exact ⟨by decide,by decide⟩
 | some d=>exact qanf d
theorem qaq0 (a b:Nat):cF (fAdd .f32 a b):=qao5 _
theorem qzp (a b:Nat):cF (fDiv .f32 a b):=qao5 _
end
section
theorem qlu (x:DMark) (c:Vec 3 Int):qcf x c=some ((cmpI x.1 c,()),()):=by
 simp only [qcf,qm2,Option.bind_some]
theorem qaqj (a b:Vec 3 Int):iEq (cmpI a b) 0=eqC a b:=by
 cases he:eqC a b with
 | true =>
  obtain rfl:=qvd.1 he
  have n : ∀ x:Int,iLt x x=false:=fun x=>qaf (Int.lt_irrefl x)
  unfold cmpI
  simp only [n,cond_false]
  rfl
 | false =>
  apply qau
  intro h0
  rcases qajd a b with h | h | h
  ·have:=qaa2.1 (qse.2 h);omega
  ·rw [qvd.2 h] at he;cases he
  ·have h1:=qaa2.1 (qse.2 h)
   have h2:=qaay a b
   rw [h0,qat (by omega),qbt (by omega)] at h2
   cases h2
theorem qapm {i j:Nat} (h:i+j≤2000000):iWrap .i64 (iShr .u64 (iWrap .u64 (iAdd .i64 (i:Int) (j:Int))) 1)=(((i+j)/2:Nat):Int):=by
 rw [qcr (by omega) (by omega)]
 have e1:iWrap .u64 ((i:Int)+(j:Int))=(i:Int)+(j:Int):=by simp [iWrap,IntKind.wrap,IntKind.signed,IntKind.bits];omega
 have e2:iShr .u64 ((i:Int)+(j:Int)) 1=(((i+j)/2:Nat):Int):=by
  have e3:(2:Int)^(min (1:Int).toNat IntKind.u64.bits)=2:=by decide
  unfold iShr
  rw [e3,Int.fdiv_eq_ediv_of_nonneg _ (by omega)]
  omega
 rw [e1,e2]
 exact wrap_i64 (by omega) (by omega)
theorem qami {l:List DMark} (hs:l.Pairwise fun a b=>ltC a.1 b.1) (c:Vec 3 Int) (i:Nat) (h:i<l.length):iLt (cmpI (l[i]).1 c) 0=decide (i<placeN l c):=by
 by_cases hi:i<placeN l c
 ·rw [qr4 l c i hi,decide_eq_true hi]
 ·rw [decide_eq_false hi]
  cases hc:iLt (cmpI (l[i]).1 c) 0 with
  | false=>rfl
  | true =>
   exfalso
   have h1:=qqa l c (by omega)
   have h2:=qse.1 hc
   rcases Nat.lt_or_ge (placeN l c) i with h3 | h3
   ·have h4:=List.pairwise_iff_getElem.1 hs (placeN l c) i (by omega) h h3
    rw [qse.2 (h4.trans h2)] at h1
    cases h1
   ·have:i=placeN l c:=by omega
    subst this
    rw [hc] at h1
    cases h1
theorem qams {l:List DMark} (hl:l.length≤1000000) (hs:l.Pairwise fun a b=>ltC a.1 b.1) (c:Vec 3 Int) :
  qbc l c (fun z=>(qcf z.1 z.2.1).map fun y=>y.1.1)=some (((placeN l c:Int),foundB l c,()),()):=by
 have hp:=qiv l c
 unfold qbc
 obtain ⟨a,ha,hq⟩:=qap9 (f:=qch l (fun z=>(qcf z.1 z.2.1).map fun y=>y.1.1) c) (fun s => ∃ i j:Nat,s=((i:Int),(j:Int),())∧i≤placeN l c∧placeN l c≤j∧j≤l.length) (fun s=>(s.2.1-s.1).toNat) (fun a=>a=(((placeN l c:Int),foundB l c,()),())) (fun s hI=>by
  obtain ⟨i,j,rfl,h1,h2,h3⟩:=hI
  unfold qch
  simp only
  rw [qapm (by omega)]
  by_cases hlt:i<j
  ·left
   have hm:(i+j)/2<l.length:=by omega
   rw [qah (by omega:(i:Int)<(j:Int)),qae hm]
   simp only [cond_true,Int.toNat_natCast,qlu,Option.map_some,Option.bind_some]
   rw [qal hm,qami hs c _ hm]
   by_cases hq:(i+j)/2<placeN l c
   ·rw [decide_eq_true hq,qcr (by omega) (by omega)]
    exact ⟨_,rfl,⟨(i+j)/2+1,j,by simp,by omega,h2,h3⟩,by simp;omega⟩
   ·rw [decide_eq_false hq]
    exact ⟨_,rfl,⟨i,(i+j)/2,rfl,h1,by omega,by omega⟩,by simp;omega⟩
  ·right
   have hi:i=placeN l c:=by omega
   subst hi
   refine ⟨_,?_,rfl⟩
   rw [qaf (by omega:¬ ((placeN l c:Nat):Int)<(j:Int))]
   simp only [cond_false,qaa,Int.toNat_natCast,qlu,Option.map_some,Option.bind_some,qaqj]
   unfold foundB
   by_cases hh:placeN l c<l.length
   ·rw [qah (by omega:((placeN l c:Nat):Int)<(l.length:Int)),qae hh]
    rfl
   ·rw [qaf (by omega:¬ ((placeN l c:Nat):Int)<(l.length:Int))]
    rfl) (s:=((0:Int),lenI l,())) ⟨0,l.length,rfl,Nat.zero_le _,hp,Nat.le_refl _⟩
 rw [ha,hq]
theorem qwq {m:DMap} (hl:m.2.1.length≤1000000) (hs:m.2.1.Pairwise fun a b=>ltC a.1 b.1) (c:Vec 3 Int):qfi m c=some (((placeN m.2.1 c:Int),foundB m.2.1 c,()),()):=by
 unfold qfi
 have:=qams hl hs c
 rw [show qbc m.2.1 c (fun z240=>(qcf z240.1 z240.2.1).map fun y=>y.1.1)=_ from this]
 rfl
theorem qaml {x:Nat} (hx:x<4294967296) {s:Bool} {m:Nat} {p:Int} (h:FloatKind.f32.format.read x = .number s m p) : ∃ e:Nat,p = -149+(e:Int)∧((e=0∧m<8388608)∨(8388608≤m∧m<16777216))∧x=(bif s then 2147483648 else 0)+(e*8388608+m):=by
 have h:Ieee.single.read x = .number s m p:=h
 unfold Ieee.Format.read at h
 have c1:Ieee.single.leastPlace = -149:=by decide
 have c2:Ieee.single.signWeight=2147483648:=by decide
 have c3:Ieee.single.binade=8388608:=by decide
 have c4:Ieee.single.infRung=2139095040:=by decide
 simp only [c1,c2,c3,c4] at h
 have hs:x=(bif x/2147483648%2==1 then 2147483648 else 0)+x%2147483648:=by
  have:x/2147483648=0∨x/2147483648=1:=by omega
  rcases this with h1 | h1 <;> rw [h1] <;> simp <;> omega
 generalize x%2147483648=r at h hs
 generalize (x/2147483648%2==1)=g at h hs
 split at h
 ·rename_i h1
  cases h
  exact ⟨0,by omega,.inl ⟨rfl,h1⟩,by rw [hs];omega⟩
 ·rename_i h1
  split at h
  ·rename_i h2
   cases h
   refine ⟨r/8388608-1,rfl,.inr ⟨by omega,by omega⟩,?_⟩
   rw [hs]
   have:1≤r/8388608:=by omega
   have:(r/8388608-1)*8388608+8388608=r/8388608*8388608:=by omega
   omega
  ·split at h <;> cases h
theorem qamu {e f K L:Nat} (hK:(e=0∧K<8388608)∨(8388608≤K∧K<16777216)) (hL:(f=0∧L<8388608)∨(8388608≤L∧L<16777216)) (h:K*2^e=L*2^f):e=f∧K=L:=by
 have key : ∀ {e f K L:Nat},((e=0∧K<8388608)∨(8388608≤K∧K<16777216))→((f=0∧L<8388608)∨(8388608≤L∧L<16777216))→K*2^e=L*2^f→¬ e<f:=by
  intro e f K L hK hL h hlt
  obtain ⟨d,rfl⟩ : ∃ d,f=e+1+d:=⟨f-(e+1),by omega⟩
  have hL2:8388608≤L:=by omega
  have hK2:K<16777216:=by omega
  have h1:L*2^(e+1+d)=L*2^d*2*2^e:=by
   rw [Nat.pow_add,Nat.pow_succ]
   generalize 2^e=A
   generalize 2^d=B
   ac_rfl
  rw [h1] at h
  have h2:=Nat.eq_of_mul_eq_mul_right (Nat.two_pow_pos e) h
  have h3:1≤2^d:=Nat.one_le_two_pow
  have h4:L*1≤L*2^d:=Nat.mul_le_mul_left _ h3
  omega
 have h1:=key hK hL h
 have h2:=key hL hK h.symm
 have h3:e=f:=by omega
 subst h3
 exact ⟨rfl,Nat.eq_of_mul_eq_mul_right (Nat.two_pow_pos e) h⟩
theorem qaf1 {x y:Nat} (hx:finB x=true) (hy:finB y=true) (gx:x<4294967296) (gy:y<4294967296) (he:fEq .f32 x y=true) (hn:x≠y):(x=0∧y=2147483648)∨(x=2147483648∧y=0):=by
 obtain ⟨s,m,p,h1⟩:=qg1 (k:=.f32) hx
 obtain ⟨t,n,q,h2⟩:=qg1 (k:=.f32) hy
 have h1:FloatKind.f32.format.read x = .number s m p:=h1
 have h2:FloatKind.f32.format.read y = .number t n q:=h2
 obtain ⟨e,rfl,hK,ex⟩:=qaml gx h1
 obtain ⟨f,rfl,hL,ey⟩:=qaml gy h2
 unfold fEq Ieee.Format.order at he
 rw [h1,h2] at he
 simp only [Ieee.Datum.order,qzf] at he
 have hc : ∀ a b:Int,(compare a b == .eq)=true→a=b:=by
  intro a b h
  have:compare a b = .eq:=by simpa using h
  simpa using this
 have hv:=hc _ _ he
 clear he
 have g1:(-149+(e:Int)-min (-149+(e:Int)) (-149+(f:Int))).toNat=e-min e f:=by omega
 have g2:(-149+(f:Int)-min (-149+(e:Int)) (-149+(f:Int))).toNat=f-min e f:=by omega
 rw [g1,g2] at hv
 have hs : ∀ (s:Bool) (m u:Nat),Ieee.signed s m u=bif s then -((m*2^u:Nat):Int) else ((m*2^u:Nat):Int):=by
  intro s m u
  unfold Ieee.signed
  rw [Nat.shiftLeft_eq]
  cases s <;> rfl
 rw [hs,hs] at hv
 have hp : ∀ a d:Nat,a*2^d=0→a=0:=fun a d h=>by
  rcases Nat.mul_eq_zero.1 h with h | h
  ·exact h
  ·have:=Nat.two_pow_pos d;omega
 have hsame:m*2^(e-min e f)=n*2^(f-min e f)→e=f∧m=n:=fun h=>by
  refine qamu hK hL ?_
  have h3:e=(e-min e f)+min e f:=by omega
  have h4:f=(f-min e f)+min e f:=by omega
  rw [h3,Nat.pow_add,← Nat.mul_assoc,h,Nat.mul_assoc,← Nat.pow_add,← h4]
 generalize hA:m*2^(e-min e f)=A at hv hsame
 generalize hB:n*2^(f-min e f)=B at hv hsame
 cases s <;> cases t <;> simp only [cond_true,cond_false] at hv ex ey
 ·obtain ⟨rfl,rfl⟩:=hsame (by omega)
  exact absurd (ex.trans ey.symm) hn
 ·have m0:=hp m _ (hA.trans (by omega))
  have n0:=hp n _ (hB.trans (by omega))
  subst m0;subst n0
  left;constructor <;> omega
 ·have m0:=hp m _ (hA.trans (by omega))
  have n0:=hp n _ (hB.trans (by omega))
  subst m0;subst n0
  right;constructor <;> omega
 ·obtain ⟨rfl,rfl⟩:=hsame (by omega)
  exact absurd (ex.trans ey.symm) hn
def betB (x y:Nat) (r:Bool):Bool:=bif !fEq .f32 x y then fLt .f32 y x else bif !sameN x y then sameN x 0 else r
def betterB (a b:DMark):Bool :=
 bif !iEq a.2.2.2.2.1 b.2.2.2.2.1 then iLt b.2.2.2.2.1 a.2.2.2.2.1 else
 bif !fEq .f32 a.2.2.1 b.2.2.1 then fLt .f32 b.2.2.1 a.2.2.1 else
 bif !iEq a.2.2.2.1 b.2.2.2.1 then iLt b.2.2.2.1 a.2.2.2.1 else
 betB (Vec.getD 3 a.2.1 0 (0:Nat)) (Vec.getD 3 b.2.1 0 (0:Nat)) (betB (Vec.getD 3 a.2.1 1 (0:Nat)) (Vec.getD 3 b.2.1 1 (0:Nat)) (betB (Vec.getD 3 a.2.1 2 (0:Nat)) (Vec.getD 3 b.2.1 2 (0:Nat)) false))
theorem qai6 (a b:DMark):qf4 a b=some ((betterB a b,()),()):=by
 unfold qf4 betterB betB
 simp only [qhj,Option.bind_some]
 generalize iEq a.2.2.2.2.1 b.2.2.2.2.1=c1
 generalize fEq .f32 a.2.2.1 b.2.2.1=c2
 generalize iEq a.2.2.2.1 b.2.2.2.1=c3
 generalize fEq .f32 (Vec.getD 3 a.2.1 0 (0:Nat)) (Vec.getD 3 b.2.1 0 (0:Nat))=c4
 generalize fEq .f32 (Vec.getD 3 a.2.1 1 (0:Nat)) (Vec.getD 3 b.2.1 1 (0:Nat))=c5
 generalize fEq .f32 (Vec.getD 3 a.2.1 2 (0:Nat)) (Vec.getD 3 b.2.1 2 (0:Nat))=c6
 generalize sameN (Vec.getD 3 a.2.1 0 (0:Nat)) (Vec.getD 3 b.2.1 0 (0:Nat))=c7
 generalize sameN (Vec.getD 3 a.2.1 1 (0:Nat)) (Vec.getD 3 b.2.1 1 (0:Nat))=c8
 generalize sameN (Vec.getD 3 a.2.1 2 (0:Nat)) (Vec.getD 3 b.2.1 2 (0:Nat))=c9
 cases c1 <;> cases c2 <;> cases c3 <;> cases c4 <;> cases c5 <;> cases c6 <;> cases c7 <;> cases c8 <;> cases c9 <;> rfl
theorem qadu {x:Nat} (h:finB x=true):isNan .f32 x=false:=by
 obtain ⟨s,m,p,h1⟩:=qg1 (k:=.f32) h
 rw [qmr]
 have h1:FloatKind.f32.format.read x = .number s m p:=h1
 rw [h1]
 rfl
theorem qaar {y:Nat} (h:isNan .f64 y=false):qgc y=some ((iLt (iWrap .i64 (y:Int)) 0,()),()):=by
 unfold qgc
 exact qiy fun q=>by rw [qpe h]
theorem qsb {x y:Nat} (hx:finB x=true) (hy:finB y=true) (gx:x<4294967296) (gy:y<4294967296) (k:Option ((Bool×Unit)×Unit)) :
  ((qa8 x y).bind fun s=>bif (! s.1.1) then (bif fLt .f32 y x then some ((true,()),()) else bif fEq .f32 x y then (fConv .f32 .f64 x).bind fun z=>(qgc z).bind fun t=>some ((! t.1.1,()),()) else some ((false,()),())) else k) =
  bif !fEq .f32 x y then some ((fLt .f32 y x,()),()) else bif !sameN x y then some ((sameN x 0,()),()) else k:=by
 rw [qew]
 simp only [Option.bind_some]
 have nx:=qadu hx
 have ny:=qadu hy
 cases he:fEq .f32 x y with
 | false =>
  have hs:sameN x y=false:=by
   unfold sameN
   rw [nx,ny]
   simp only [cond_false]
   apply qau
   intro h
   have:x=y:=by omega
   subst this
   rw [qmh,nx] at he
   cases he
  rw [hs]
  simp only [Bool.not_false,cond_true,cond_false]
  cases fLt .f32 y x <;> rfl
 | true =>
  cases hs:sameN x y with
  | true=>rfl
  | false =>
   have hn:x≠y:=fun h=>by rw [h,qn0] at hs;cases hs
   have hlt:fLt .f32 y x=false:=by
    unfold fEq at he
    unfold fLt
    have h1:FloatKind.f32.format.order x y=some .eq:=by simpa using he
    have h2:FloatKind.f32.format.order y x=some .eq:=by
     rcases qaf1 hx hy gx gy (by unfold fEq;rw [h1];rfl) hn with ⟨rfl,rfl⟩ | ⟨rfl,rfl⟩ <;> decide
    rw [h2]
    rfl
   rw [hlt]
   rcases qaf1 hx hy gx gy he hn with ⟨rfl,rfl⟩ | ⟨rfl,rfl⟩
   ·have e1:fConv .f32 .f64 0=some 0:=by kernel_rfl
    have e2:isNan .f64 0=false:=by decide
    simp only [Bool.not_false,Bool.not_true,cond_true,cond_false,e1,Option.bind_some,qaar e2]
    decide
   ·have e1:fConv .f32 .f64 2147483648=some 9223372036854775808:=by kernel_rfl
    have e2:isNan .f64 9223372036854775808=false:=by decide
    simp only [Bool.not_false,Bool.not_true,cond_true,cond_false,e1,Option.bind_some,qaar e2]
    decide
structure MarkOK (x:DMark):Prop where
 ok:markB x=true
 c0 : -1000000≤Vec.getD 3 x.1 0 (0:Int)∧Vec.getD 3 x.1 0 (0:Int)≤1000000
 c1 : -1000000≤Vec.getD 3 x.1 1 (0:Int)∧Vec.getD 3 x.1 1 (0:Int)≤1000000
 c2 : -1000000≤Vec.getD 3 x.1 2 (0:Int)∧Vec.getD 3 x.1 2 (0:Int)≤1000000
 at':FitVec (fltFit .f32) 3 x.2.1
 wt:fltFit .f32 x.2.2.1
theorem qp8 {x:DMark} (h:markB x=true):finV x.2.1=true∧sideB x.2.2.1=true∧(1≤x.2.2.2.1∧x.2.2.2.1≤1000000)∧timeB x.2.2.2.2.1=true:=by
 unfold markB at h
 simp only [Bool.and_eq_true,qpi] at h
 exact h
theorem qaiq {a b:DMark} (ha:MarkOK a) (hb:MarkOK b):qj1 a b=some ((betterB a b,()),()):=by
 obtain ⟨a1,a2,a3,a4⟩:=qp8 ha.ok
 obtain ⟨b1,b2,b3,b4⟩:=qp8 hb.ok
 unfold finV at a1 b1
 simp only [Bool.and_eq_true] at a1 b1
 obtain ⟨p0,p1,p2,_⟩:=ha.at'
 obtain ⟨q0,q1,q2,_⟩:=hb.at'
 unfold qj1
 simp only [qrn,ha.ok,hb.ok,Option.bind_some,Bool.not_true,cond_false]
 rw [qsb a1.2.2 b1.2.2 p2.2 q2.2,qsb a1.2.1 b1.2.1 p1.2 q1.2,qsb a1.1 b1.1 p0.2 q0.2]
 unfold betterB betB
 generalize iEq a.2.2.2.2.1 b.2.2.2.2.1=c1
 generalize fEq .f32 a.2.2.1 b.2.2.1=c2
 generalize iEq a.2.2.2.1 b.2.2.2.1=c3
 generalize fEq .f32 (Vec.getD 3 a.2.1 0 (0:Nat)) (Vec.getD 3 b.2.1 0 (0:Nat))=c4
 generalize fEq .f32 (Vec.getD 3 a.2.1 1 (0:Nat)) (Vec.getD 3 b.2.1 1 (0:Nat))=c5
 generalize fEq .f32 (Vec.getD 3 a.2.1 2 (0:Nat)) (Vec.getD 3 b.2.1 2 (0:Nat))=c6
 generalize sameN (Vec.getD 3 a.2.1 0 (0:Nat)) (Vec.getD 3 b.2.1 0 (0:Nat))=c7
 generalize sameN (Vec.getD 3 a.2.1 1 (0:Nat)) (Vec.getD 3 b.2.1 1 (0:Nat))=c8
 generalize sameN (Vec.getD 3 a.2.1 2 (0:Nat)) (Vec.getD 3 b.2.1 2 (0:Nat))=c9
 cases c1 <;> cases c2 <;> cases c3 <;> cases c4 <;> cases c5 <;> cases c6 <;> cases c7 <;> cases c8 <;> cases c9 <;> rfl
def putL (l:List DMark) (x:DMark):List DMark :=
 bif foundB l x.1 then (bif betterB x (l.getD (placeN l x.1) zMark) then l.take (placeN l x.1)++[x]++l.drop (placeN l x.1+1) else l)
 else l.take (placeN l x.1)++[x]++l.drop (placeN l x.1)
theorem qaa1 {l:List DMark} {c:Vec 3 Int} (hf:foundB l c=true) : ∃ hi:placeN l c<l.length,(l[placeN l c]).1=c:=by
 have hp:=qiv l c
 have hi:placeN l c<l.length:=by
  rcases Nat.lt_or_ge (placeN l c) l.length with h | h
  ·exact h
  ·unfold foundB at hf
   rw [qaf (by omega)] at hf
   cases hf
 refine ⟨hi,?_⟩
 unfold foundB at hf
 rw [qah (by omega),qal hi] at hf
 exact qvd.1 hf
theorem qabl {l:List DMark} (hl:l.length≤1000) (x:DMark):qdr l x=some ((putL l x,()),()):=by
 have hp:=qiv l x.1
 have e1:inS 0 (placeN l x.1:Int) l.length=true:=by unfold inS;simp;omega
 have et:takeL l (placeN l x.1:Int)=l.take (placeN l x.1):=by unfold takeL;rw [Int.toNat_natCast]
 have hlt:(l.take (placeN l x.1)).length=placeN l x.1:=by rw [List.length_take];omega
 have r1:room (0+(l.take (placeN l x.1)).length) 48=true:=qaw (by omega)
 have r2:room ((l.take (placeN l x.1)).length+1) 48=true:=qaw (by omega)
 have e2:inS (placeN l x.1:Int) (lenI l) l.length=true:=by unfold inS;rw [qaa];simp;omega
 have ed:dropL l (placeN l x.1:Int)=l.drop (placeN l x.1):=by unfold dropL;rw [Int.toNat_natCast]
 have hld:(l.drop (placeN l x.1)).length=l.length-placeN l x.1:=List.length_drop
 unfold qdr putL
 rw [qul (by omega)]
 simp only [Option.bind_some]
 rw [e1,et,r1]
 simp only [cond_true,List.nil_append]
 cases hf:foundB l x.1 with
 | true =>
  obtain ⟨hi,hc⟩:=qaa1 hf
  have e3:inB (placeN l x.1:Int) l.length=true:=qae hi
  have e5:iAdd .i64 (placeN l x.1:Int) 1=((placeN l x.1+1:Nat):Int):=(qcr (by omega) (by omega)).trans (by omega)
  have e6:inS ((placeN l x.1+1:Nat):Int) (lenI l) l.length=true:=by unfold inS;rw [qaa];simp;omega
  have ed1:dropL l ((placeN l x.1+1:Nat):Int)=l.drop (placeN l x.1+1):=by unfold dropL;rw [Int.toNat_natCast]
  have hld1:(l.drop (placeN l x.1+1)).length=l.length-(placeN l x.1+1):=List.length_drop
  simp only [cond_true,Int.toNat_natCast]
  rw [e3,qai6,e2,ed,e5,e6,ed1]
  have r3:room ((l.take (placeN l x.1)++[x]).length+(l.drop (placeN l x.1+1)).length) 48=true:=qaw (by rw [List.length_append,hlt,hld1];simp;omega)
  have r4:room ((l.take (placeN l x.1)).length+(l.drop (placeN l x.1)).length) 48=true:=qaw (by omega)
  rw [r2,r3,r4]
  simp only [cond_true,Option.bind_some]
  rw [List.take_append_drop]
  cases betterB x (l.getD (placeN l x.1) zMark) <;> rfl
 | false =>
  simp only [cond_false]
  have r3:room ((l.take (placeN l x.1)++[x]).length+(l.drop (placeN l x.1)).length) 48=true:=qaw (by rw [List.length_append,hlt,hld];simp;omega)
  rw [r2,e2,ed,r3]
  rfl
theorem qafm {l:List DMark} (hl:l.length≤1000) {x:DMark} (hm:Marks l) (hx:markB x=true):Marks (putL l x)∧(putL l x).length≤l.length+1:=by
 obtain ⟨l',h1,h2,h3⟩:=qaqw hl x
 rw [qabl hl] at h1
 cases h1
 exact ⟨h3 hm hx,h2⟩
theorem qaju {l:List DMark} {x y:DMark} (h:y∈putL l x):y∈l∨y=x:=by
 have key : ∀ k k',y∈l.take k++[x]++l.drop k'→y∈l∨y=x:=by
  intro k k' h
  rcases List.mem_append.1 h with h | h
  ·rcases List.mem_append.1 h with h | h
   ·exact .inl (List.mem_of_mem_take h)
   ·exact .inr (List.mem_singleton.1 h)
  ·exact .inl (List.mem_of_mem_drop h)
 unfold putL at h
 cases hf:foundB l x.1 with
 | true =>
  rw [hf] at h
  simp only [cond_true] at h
  cases hb:betterB x (l.getD (placeN l x.1) zMark) with
  | true=>rw [hb] at h;exact key _ _ h
  | false=>rw [hb] at h;exact .inl h
 | false=>rw [hf] at h;exact key _ _ h
theorem qakn (t:Ty) (xs:List t.den) (k:Nat) (v:List t.den) (bytes:Nat) (hk:k≤xs.length) (hv:v.length=1) (hr:room (xs.length+1) bytes=true):insertF t xs (k:Int) v bytes=some ((xs.take k++v++xs.drop k,()),(v,())):=by
 unfold insertF
 rw [qat (by omega:(0:Int)≤(k:Int)),qaa,qat (by omega:(k:Int)≤(xs.length:Int)),hr,hv,Int.toNat_natCast]
 rfl
theorem qabu (t:Ty) (xs:List t.den) (k:Nat) (hk:k<xs.length):deleteF t xs (k:Int) ((k+1:Nat):Int)=some ((xs.take k++xs.drop (k+1),()),()):=by
 unfold deleteF
 rw [qat (by omega:(0:Int)≤(k:Int)),qaa,qah (by omega:(k:Int)<(xs.length:Int)),qek (by omega),Int.toNat_natCast]
 rfl
def fullB (l:List DMark) (x:DMark):Bool:=!foundB l x.1&&iEq (lenI l) 200
theorem qag9 {m:DMap} (hl:m.2.1.length≤200) (hm:Marks m.2.1) (hk : ∀ y∈m.2.1,MarkOK y) {x:DMark} (hx:MarkOK x) :
  qa6 m x=some ((!fullB m.2.1 x,()),((m.1,(bif fullB m.2.1 x then m.2.1 else putL m.2.1 x),m.2.2),())):=by
 obtain ⟨sd,l,u⟩:=m
 have hl:l.length≤200:=hl
 have hm:Marks l:=hm
 have hk : ∀ y∈l,MarkOK y:=hk
 have hp:=qiv l x.1
 unfold qa6 fullB putL
 rw [show qfi (sd,l,u) x.1=_ from qwq (m:=(sd,l,u)) (by show l.length≤1000000;omega) hm.2 x.1]
 simp only [Option.bind_some]
 have hins:qef l ((placeN l x.1:Nat):Int) [x]=some ((l.take (placeN l x.1)++[x]++l.drop (placeN l x.1),()),([x],())):=by
  exact qakn TyMark l (placeN l x.1) [x] 48 hp rfl (qaw (by show (l.length+1)*48≤_;omega))
 cases hf:foundB l x.1 with
 | true =>
  obtain ⟨hi,hc⟩:=qaa1 hf
  simp only [cond_true,Int.toNat_natCast,Bool.not_true,Bool.false_and,cond_false,Bool.not_false]
  rw [qae hi]
  simp only [cond_true]
  have hg:(l.getD (placeN l x.1) (((0,0,0,()),(0,0,0,()),0,0,0,()):DMark))=l.getD (placeN l x.1) zMark:=rfl
  rw [hg,qaiq hx (hk _ (by rw [qal hi];exact List.getElem_mem hi))]
  simp only [Option.bind_some]
  cases betterB x (l.getD (placeN l x.1) zMark) with
  | true =>
   simp only [cond_true]
   rw [List.set_eq_take_append_cons_drop,if_pos hi,List.append_assoc]
   rfl
  | false=>rfl
 | false =>
  simp only [cond_false,Bool.not_false,Bool.true_and]
  cases h2:iEq (lenI l) 200 with
  | true=>rfl
  | false =>
   simp only [cond_false]
   rw [show qef l ((placeN l x.1:Nat):Int) ([x]:List DMark)=_ from hins]
   rfl
end
end Go.Proofs.YtjhdoneobdbeaaaGreatDoor
