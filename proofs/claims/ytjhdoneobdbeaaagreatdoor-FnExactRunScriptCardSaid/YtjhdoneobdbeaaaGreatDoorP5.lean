import Derived.Test.YtjhdoneobdbeaaaGreatDoorP4
/- Functions of the program and of the reference in plain terms. -/
set_option linter.unusedSectionVars false
set_option linter.unusedSimpArgs false
set_option linter.unusedVariables false
namespace Go.Proofs.YtjhdoneobdbeaaaGreatDoor
open Go Go.Tm
section
theorem write_lt (d:Ieee.Datum):FloatKind.f32.format.write d<4294967296:=by
 have h2:FloatKind.f32.format.signWeight=2147483648:=by decide
 have hi:FloatKind.f32.format.infRung=2139095040:=by decide
 have hb:FloatKind.f32.format.binade=8388608:=by decide
 have hw : ∀ s r,r<2147483648→FloatKind.f32.format.word s r<4294967296:=by
  intro s r hr
  unfold Ieee.Format.word
  rw [h2]
  split <;> omega
 cases d with
 | number g m p =>
  show FloatKind.f32.format.nearest g m p<_
  rw [qkn]
  have:=qaet FloatKind.f32.format m p
  exact hw _ _ (by omega)
 | infinity g=>exact hw g _ (by rw [hi];decide)
 | nan g f =>
  refine hw g _ ?_
  have:=Nat.mod_lt f (show 0<FloatKind.f32.format.binade by rw [hb];decide)
  omega
def cF (x:Nat):Prop:=fltFit .f32 x
theorem qalw (d:Ieee.Datum):cF (canon .f32 (FloatKind.f32.format.write d)):=⟨qza _ _,qafv (write_lt d)⟩
theorem qanm (r:Option Ieee.Datum):cF (orNan .f32 (r.map FloatKind.f32.format.write)):=by
 cases r with
 | none=>exact ⟨by decide,by decide⟩
 | some d=>exact qalw d
theorem qaph (a b:Nat):cF (fAdd .f32 a b):=qanm _
theorem qyb (a b:Nat):cF (fDiv .f32 a b):=qanm _
end
section
theorem qk4 (x:DMark) (c:Vec 3 Int):qca x c=some ((cmpI x.1 c,()),()):=by
 simp only [qca,ql7,Option.bind_some]
theorem qao2 (a b:Vec 3 Int):iEq (cmpI a b) 0=eqC a b:=by
 cases he:eqC a b with
 | true =>
  obtain rfl:=qt3.1 he
  have n : ∀ x:Int,iLt x x=false:=fun x=>qag (Int.lt_irrefl x)
  unfold cmpI
  simp only [n,cond_false]
  rfl
 | false =>
  apply qat
  intro h0
  rcases qah5 a b with h | h | h
  ·have:=qzv.1 (qq9.2 h);omega
  ·rw [qt3.2 h] at he;cases he
  ·have h1:=qzv.1 (qq9.2 h)
   have h2:=qzr a b
   rw [h0,qay (by omega),qb6 (by omega)] at h2
   cases h2
theorem qan4 {i j:Nat} (h:i+j≤2000000):iWrap .i64 (iShr .u64 (iWrap .u64 (iAdd .i64 (i:Int) (j:Int))) 1)=(((i+j)/2:Nat):Int):=by
 rw [qdt (by omega) (by omega)]
 have e1:iWrap .u64 ((i:Int)+(j:Int))=(i:Int)+(j:Int):=by simp [iWrap,IntKind.wrap,IntKind.signed,IntKind.bits];omega
 have e2:iShr .u64 ((i:Int)+(j:Int)) 1=(((i+j)/2:Nat):Int):=by
  have e3:(2:Int)^(min (1:Int).toNat IntKind.u64.bits)=2:=by decide
  unfold iShr
  rw [e3,Int.fdiv_eq_ediv_of_nonneg _ (by omega)]
  omega
 rw [e1,e2]
 exact wrap_i64 (by omega) (by omega)
theorem qak0 {l:List DMark} (hs:l.Pairwise fun a b=>ltC a.1 b.1) (c:Vec 3 Int) (i:Nat) (h:i<l.length):iLt (cmpI (l[i]).1 c) 0=decide (i<placeN l c):=by
 by_cases hi:i<placeN l c
 ·rw [qq0 l c i hi,decide_eq_true hi]
 ·rw [decide_eq_false hi]
  cases hc:iLt (cmpI (l[i]).1 c) 0 with
  | false=>rfl
  | true =>
   exfalso
   have h1:=qo7 l c (by omega)
   have h2:=qq9.1 hc
   rcases Nat.lt_or_ge (placeN l c) i with h3 | h3
   ·have h4:=List.pairwise_iff_getElem.1 hs (placeN l c) i (by omega) h h3
    rw [qq9.2 (h4.trans h2)] at h1
    cases h1
   ·have:i=placeN l c:=by omega
    subst this
    rw [hc] at h1
    cases h1
theorem qala {l:List DMark} (hl:l.length≤1000000) (hs:l.Pairwise fun a b=>ltC a.1 b.1) (c:Vec 3 Int) :
  qa9 l c (fun z=>(qca z.1 z.2.1).map fun y=>y.1.1)=some (((placeN l c:Int),foundB l c,()),()):=by
 have hp:=qh1 l c
 unfold qa9
 obtain ⟨a,ha,hq⟩:=qail (f:=qcd l (fun z=>(qca z.1 z.2.1).map fun y=>y.1.1) c) (fun s => ∃ i j:Nat,s=((i:Int),(j:Int),())∧i≤placeN l c∧placeN l c≤j∧j≤l.length) (fun s=>(s.2.1-s.1).toNat) (fun a=>a=(((placeN l c:Int),foundB l c,()),())) (fun s hI=>by
  obtain ⟨i,j,rfl,h1,h2,h3⟩:=hI
  unfold qcd
  simp only
  rw [qan4 (by omega)]
  by_cases hlt:i<j
  ·left
   have hm:(i+j)/2<l.length:=by omega
   rw [qah (by omega:(i:Int)<(j:Int)),qae hm]
   simp only [cond_true,Int.toNat_natCast,qk4,Option.map_some,Option.bind_some]
   rw [qan hm,qak0 hs c _ hm]
   by_cases hq:(i+j)/2<placeN l c
   ·rw [decide_eq_true hq,qdt (by omega) (by omega)]
    exact ⟨_,rfl,⟨(i+j)/2+1,j,by simp,by omega,h2,h3⟩,by simp;omega⟩
   ·rw [decide_eq_false hq]
    exact ⟨_,rfl,⟨i,(i+j)/2,rfl,h1,by omega,by omega⟩,by simp;omega⟩
  ·right
   have hi:i=placeN l c:=by omega
   subst hi
   refine ⟨_,?_,rfl⟩
   rw [qag (by omega:¬ ((placeN l c:Nat):Int)<(j:Int))]
   simp only [cond_false,qaa,Int.toNat_natCast,qk4,Option.map_some,Option.bind_some,qao2]
   unfold foundB
   by_cases hh:placeN l c<l.length
   ·rw [qah (by omega:((placeN l c:Nat):Int)<(l.length:Int)),qae hh]
    rfl
   ·rw [qag (by omega:¬ ((placeN l c:Nat):Int)<(l.length:Int))]
    rfl) (s:=((0:Int),lenI l,())) ⟨0,l.length,rfl,Nat.zero_le _,hp,Nat.le_refl _⟩
 rw [ha,hq]
theorem qvg {m:DMap} (hl:m.2.1.length≤1000000) (hs:m.2.1.Pairwise fun a b=>ltC a.1 b.1) (c:Vec 3 Int):qe2 m c=some (((placeN m.2.1 c:Int),foundB m.2.1 c,()),()):=by
 unfold qe2
 have:=qala hl hs c
 rw [show qa9 m.2.1 c (fun z240=>(qca z240.1 z240.2.1).map fun y=>y.1.1)=_ from this]
 rfl
theorem qak3 {x:Nat} (hx:x<4294967296) {s:Bool} {m:Nat} {p:Int} (h:FloatKind.f32.format.read x = .number s m p) : ∃ e:Nat,p = -149+(e:Int)∧((e=0∧m<8388608)∨(8388608≤m∧m<16777216))∧x=(bif s then 2147483648 else 0)+(e*8388608+m):=by
 have h:Ieee.single.read x = .number s m p:=h
 unfold Ieee.Format.read at h
 have c1:Ieee.single.leastPlace = -149:=by decide
 have c2:Ieee.single.signWeight=2147483648:=by decide
 have c3:Ieee.single.binade=8388608:=by decide
 have c4:Ieee.single.infRung=2139095040:=by decide
 simp only [c1,c2,c3,c4] at h
 have hs:x=(bif x/2147483648%2==1 then 2147483648 else 0)+x%2147483648:=by
  have:x/2147483648=0∨x/2147483648=1:=by omega
  rcases this with h1 | h1 <;> rw [h1] <;> simp <;> omega
 generalize x%2147483648=r at h hs
 generalize (x/2147483648%2==1)=g at h hs
 split at h
 ·rename_i h1
  cases h
  exact ⟨0,by omega,.inl ⟨rfl,h1⟩,by rw [hs];omega⟩
 ·rename_i h1
  split at h
  ·rename_i h2
   cases h
   refine ⟨r/8388608-1,rfl,.inr ⟨by omega,by omega⟩,?_⟩
   rw [hs]
   have:1≤r/8388608:=by omega
   have:(r/8388608-1)*8388608+8388608=r/8388608*8388608:=by omega
   omega
  ·split at h <;> cases h
theorem qalc {e f K L:Nat} (hK:(e=0∧K<8388608)∨(8388608≤K∧K<16777216)) (hL:(f=0∧L<8388608)∨(8388608≤L∧L<16777216)) (h:K*2^e=L*2^f):e=f∧K=L:=by
 have key : ∀ {e f K L:Nat},((e=0∧K<8388608)∨(8388608≤K∧K<16777216))→((f=0∧L<8388608)∨(8388608≤L∧L<16777216))→K*2^e=L*2^f→¬ e<f:=by
  intro e f K L hK hL h hlt
  obtain ⟨d,rfl⟩ : ∃ d,f=e+1+d:=⟨f-(e+1),by omega⟩
  have hL2:8388608≤L:=by omega
  have hK2:K<16777216:=by omega
  have h1:L*2^(e+1+d)=L*2^d*2*2^e:=by
   rw [Nat.pow_add,Nat.pow_succ]
   generalize 2^e=A
   generalize 2^d=B
   ac_rfl
  rw [h1] at h
  have h2:=Nat.eq_of_mul_eq_mul_right (Nat.two_pow_pos e) h
  have h3:1≤2^d:=Nat.one_le_two_pow
  have h4:L*1≤L*2^d:=Nat.mul_le_mul_left _ h3
  omega
 have h1:=key hK hL h
 have h2:=key hL hK h.symm
 have h3:e=f:=by omega
 subst h3
 exact ⟨rfl,Nat.eq_of_mul_eq_mul_right (Nat.two_pow_pos e) h⟩
theorem qae0 {x y:Nat} (hx:finB x=true) (hy:finB y=true) (gx:x<4294967296) (gy:y<4294967296) (he:fEq .f32 x y=true) (hn:x≠y):(x=0∧y=2147483648)∨(x=2147483648∧y=0):=by
 obtain ⟨s,m,p,h1⟩:=qgb (k:=.f32) hx
 obtain ⟨t,n,q,h2⟩:=qgb (k:=.f32) hy
 have h1:FloatKind.f32.format.read x = .number s m p:=h1
 have h2:FloatKind.f32.format.read y = .number t n q:=h2
 obtain ⟨e,rfl,hK,ex⟩:=qak3 gx h1
 obtain ⟨f,rfl,hL,ey⟩:=qak3 gy h2
 unfold fEq Ieee.Format.order at he
 rw [h1,h2] at he
 simp only [Ieee.Datum.order,qx3] at he
 have hc : ∀ a b:Int,(compare a b == .eq)=true→a=b:=by
  intro a b h
  have:compare a b = .eq:=by simpa using h
  simpa using this
 have hv:=hc _ _ he
 clear he
 have g1:(-149+(e:Int)-min (-149+(e:Int)) (-149+(f:Int))).toNat=e-min e f:=by omega
 have g2:(-149+(f:Int)-min (-149+(e:Int)) (-149+(f:Int))).toNat=f-min e f:=by omega
 rw [g1,g2] at hv
 have hs : ∀ (s:Bool) (m u:Nat),Ieee.signed s m u=bif s then -((m*2^u:Nat):Int) else ((m*2^u:Nat):Int):=by
  intro s m u
  unfold Ieee.signed
  rw [Nat.shiftLeft_eq]
  cases s <;> rfl
 rw [hs,hs] at hv
 have hp : ∀ a d:Nat,a*2^d=0→a=0:=fun a d h=>by
  rcases Nat.mul_eq_zero.1 h with h | h
  ·exact h
  ·have:=Nat.two_pow_pos d;omega
 have hsame:m*2^(e-min e f)=n*2^(f-min e f)→e=f∧m=n:=fun h=>by
  refine qalc hK hL ?_
  have h3:e=(e-min e f)+min e f:=by omega
  have h4:f=(f-min e f)+min e f:=by omega
  rw [h3,Nat.pow_add,← Nat.mul_assoc,h,Nat.mul_assoc,← Nat.pow_add,← h4]
 generalize hA:m*2^(e-min e f)=A at hv hsame
 generalize hB:n*2^(f-min e f)=B at hv hsame
 cases s <;> cases t <;> simp only [cond_true,cond_false] at hv ex ey
 ·obtain ⟨rfl,rfl⟩:=hsame (by omega)
  exact absurd (ex.trans ey.symm) hn
 ·have m0:=hp m _ (hA.trans (by omega))
  have n0:=hp n _ (hB.trans (by omega))
  subst m0;subst n0
  left;constructor <;> omega
 ·have m0:=hp m _ (hA.trans (by omega))
  have n0:=hp n _ (hB.trans (by omega))
  subst m0;subst n0
  right;constructor <;> omega
 ·obtain ⟨rfl,rfl⟩:=hsame (by omega)
  exact absurd (ex.trans ey.symm) hn
def betB (x y:Nat) (r:Bool):Bool:=bif !fEq .f32 x y then fLt .f32 y x else bif !sameN x y then sameN x 0 else r
def betterB (a b:DMark):Bool :=
 bif !iEq a.2.2.2.2.1 b.2.2.2.2.1 then iLt b.2.2.2.2.1 a.2.2.2.2.1 else
 bif !fEq .f32 a.2.2.1 b.2.2.1 then fLt .f32 b.2.2.1 a.2.2.1 else
 bif !iEq a.2.2.2.1 b.2.2.2.1 then iLt b.2.2.2.1 a.2.2.2.1 else
 betB (Vec.getD 3 a.2.1 0 (0:Nat)) (Vec.getD 3 b.2.1 0 (0:Nat)) (betB (Vec.getD 3 a.2.1 1 (0:Nat)) (Vec.getD 3 b.2.1 1 (0:Nat)) (betB (Vec.getD 3 a.2.1 2 (0:Nat)) (Vec.getD 3 b.2.1 2 (0:Nat)) false))
theorem qahy (a b:DMark):qfl a b=some ((betterB a b,()),()):=by
 unfold qfl betterB betB
 simp only [qgs,Option.bind_some]
 generalize iEq a.2.2.2.2.1 b.2.2.2.2.1=c1
 generalize fEq .f32 a.2.2.1 b.2.2.1=c2
 generalize iEq a.2.2.2.1 b.2.2.2.1=c3
 generalize fEq .f32 (Vec.getD 3 a.2.1 0 (0:Nat)) (Vec.getD 3 b.2.1 0 (0:Nat))=c4
 generalize fEq .f32 (Vec.getD 3 a.2.1 1 (0:Nat)) (Vec.getD 3 b.2.1 1 (0:Nat))=c5
 generalize fEq .f32 (Vec.getD 3 a.2.1 2 (0:Nat)) (Vec.getD 3 b.2.1 2 (0:Nat))=c6
 generalize sameN (Vec.getD 3 a.2.1 0 (0:Nat)) (Vec.getD 3 b.2.1 0 (0:Nat))=c7
 generalize sameN (Vec.getD 3 a.2.1 1 (0:Nat)) (Vec.getD 3 b.2.1 1 (0:Nat))=c8
 generalize sameN (Vec.getD 3 a.2.1 2 (0:Nat)) (Vec.getD 3 b.2.1 2 (0:Nat))=c9
 cases c1 <;> cases c2 <;> cases c3 <;> cases c4 <;> cases c5 <;> cases c6 <;> cases c7 <;> cases c8 <;> cases c9 <;> rfl
theorem qacz {x:Nat} (h:finB x=true):isNan .f32 x=false:=by
 obtain ⟨s,m,p,h1⟩:=qgb (k:=.f32) h
 rw [qly]
 have h1:FloatKind.f32.format.read x = .number s m p:=h1
 rw [h1]
 rfl
theorem qzm {y:Nat} (h:isNan .f64 y=false):qft y=some ((iLt (iWrap .i64 (y:Int)) 0,()),()):=by
 unfold qft
 exact qh4 fun q=>by rw [qoc h]
theorem qq6 {x y:Nat} (hx:finB x=true) (hy:finB y=true) (gx:x<4294967296) (gy:y<4294967296) (k:Option ((Bool×Unit)×Unit)) :
  ((qa6 x y).bind fun s=>bif (! s.1.1) then (bif fLt .f32 y x then some ((true,()),()) else bif fEq .f32 x y then (fConv .f32 .f64 x).bind fun z=>(qft z).bind fun t=>some ((! t.1.1,()),()) else some ((false,()),())) else k) =
  bif !fEq .f32 x y then some ((fLt .f32 y x,()),()) else bif !sameN x y then some ((sameN x 0,()),()) else k:=by
 rw [qef]
 simp only [Option.bind_some]
 have nx:=qacz hx
 have ny:=qacz hy
 cases he:fEq .f32 x y with
 | false =>
  have hs:sameN x y=false:=by
   unfold sameN
   rw [nx,ny]
   simp only [cond_false]
   apply qat
   intro h
   have:x=y:=by omega
   subst this
   rw [qjs,nx] at he
   cases he
  rw [hs]
  simp only [Bool.not_false,cond_true,cond_false]
  cases fLt .f32 y x <;> rfl
 | true =>
  cases hs:sameN x y with
  | true=>rfl
  | false =>
   have hn:x≠y:=fun h=>by rw [h,qm7] at hs;cases hs
   have hlt:fLt .f32 y x=false:=by
    unfold fEq at he
    unfold fLt
    have h1:FloatKind.f32.format.order x y=some .eq:=by simpa using he
    have h2:FloatKind.f32.format.order y x=some .eq:=by
     rcases qae0 hx hy gx gy (by unfold fEq;rw [h1];rfl) hn with ⟨rfl,rfl⟩ | ⟨rfl,rfl⟩ <;> decide
    rw [h2]
    rfl
   rw [hlt]
   rcases qae0 hx hy gx gy he hn with ⟨rfl,rfl⟩ | ⟨rfl,rfl⟩
   ·have e1:fConv .f32 .f64 0=some 0:=by kernel_rfl
    have e2:isNan .f64 0=false:=by decide
    simp only [Bool.not_false,Bool.not_true,cond_true,cond_false,e1,Option.bind_some,qzm e2]
    decide
   ·have e1:fConv .f32 .f64 2147483648=some 9223372036854775808:=by kernel_rfl
    have e2:isNan .f64 9223372036854775808=false:=by decide
    simp only [Bool.not_false,Bool.not_true,cond_true,cond_false,e1,Option.bind_some,qzm e2]
    decide
structure MarkOK (x:DMark):Prop where
 ok:markB x=true
 c0 : -1000000≤Vec.getD 3 x.1 0 (0:Int)∧Vec.getD 3 x.1 0 (0:Int)≤1000000
 c1 : -1000000≤Vec.getD 3 x.1 1 (0:Int)∧Vec.getD 3 x.1 1 (0:Int)≤1000000
 c2 : -1000000≤Vec.getD 3 x.1 2 (0:Int)∧Vec.getD 3 x.1 2 (0:Int)≤1000000
 at':FitVec (fltFit .f32) 3 x.2.1
 wt:fltFit .f32 x.2.2.1
theorem qo5 {x:DMark} (h:markB x=true):finV x.2.1=true∧sideB x.2.2.1=true∧(1≤x.2.2.2.1∧x.2.2.2.1≤1000000)∧timeB x.2.2.2.2.1=true:=by
 unfold markB at h
 simp only [Bool.and_eq_true,qog] at h
 exact h
theorem qahj {a b:DMark} (ha:MarkOK a) (hb:MarkOK b):qi9 a b=some ((betterB a b,()),()):=by
 obtain ⟨a1,a2,a3,a4⟩:=qo5 ha.ok
 obtain ⟨b1,b2,b3,b4⟩:=qo5 hb.ok
 unfold finV at a1 b1
 simp only [Bool.and_eq_true] at a1 b1
 obtain ⟨p0,p1,p2,_⟩:=ha.at'
 obtain ⟨q0,q1,q2,_⟩:=hb.at'
 unfold qi9
 simp only [qqg,ha.ok,hb.ok,Option.bind_some,Bool.not_true,cond_false]
 rw [qq6 a1.2.2 b1.2.2 p2.2 q2.2,qq6 a1.2.1 b1.2.1 p1.2 q1.2,qq6 a1.1 b1.1 p0.2 q0.2]
 unfold betterB betB
 generalize iEq a.2.2.2.2.1 b.2.2.2.2.1=c1
 generalize fEq .f32 a.2.2.1 b.2.2.1=c2
 generalize iEq a.2.2.2.1 b.2.2.2.1=c3
 generalize fEq .f32 (Vec.getD 3 a.2.1 0 (0:Nat)) (Vec.getD 3 b.2.1 0 (0:Nat))=c4
 generalize fEq .f32 (Vec.getD 3 a.2.1 1 (0:Nat)) (Vec.getD 3 b.2.1 1 (0:Nat))=c5
 generalize fEq .f32 (Vec.getD 3 a.2.1 2 (0:Nat)) (Vec.getD 3 b.2.1 2 (0:Nat))=c6
 generalize sameN (Vec.getD 3 a.2.1 0 (0:Nat)) (Vec.getD 3 b.2.1 0 (0:Nat))=c7
 generalize sameN (Vec.getD 3 a.2.1 1 (0:Nat)) (Vec.getD 3 b.2.1 1 (0:Nat))=c8
 generalize sameN (Vec.getD 3 a.2.1 2 (0:Nat)) (Vec.getD 3 b.2.1 2 (0:Nat))=c9
 cases c1 <;> cases c2 <;> cases c3 <;> cases c4 <;> cases c5 <;> cases c6 <;> cases c7 <;> cases c8 <;> cases c9 <;> rfl
def putL (l:List DMark) (x:DMark):List DMark :=
 bif foundB l x.1 then (bif betterB x (l.getD (placeN l x.1) zMark) then l.take (placeN l x.1)++[x]++l.drop (placeN l x.1+1) else l)
 else l.take (placeN l x.1)++[x]++l.drop (placeN l x.1)
theorem qzu {l:List DMark} {c:Vec 3 Int} (hf:foundB l c=true) : ∃ hi:placeN l c<l.length,(l[placeN l c]).1=c:=by
 have hp:=qh1 l c
 have hi:placeN l c<l.length:=by
  rcases Nat.lt_or_ge (placeN l c) l.length with h | h
  ·exact h
  ·unfold foundB at hf
   rw [qag (by omega)] at hf
   cases hf
 refine ⟨hi,?_⟩
 unfold foundB at hf
 rw [qah (by omega),qan hi] at hf
 exact qt3.1 hf
theorem qaaj {l:List DMark} (hl:l.length≤1000) (x:DMark):qdl l x=some ((putL l x,()),()):=by
 have hp:=qh1 l x.1
 have e1:inS 0 (placeN l x.1:Int) l.length=true:=by unfold inS;simp;omega
 have et:takeL l (placeN l x.1:Int)=l.take (placeN l x.1):=by unfold takeL;rw [Int.toNat_natCast]
 have hlt:(l.take (placeN l x.1)).length=placeN l x.1:=by rw [List.length_take];omega
 have r1:room (0+(l.take (placeN l x.1)).length) 48=true:=qa2 (by omega)
 have r2:room ((l.take (placeN l x.1)).length+1) 48=true:=qa2 (by omega)
 have e2:inS (placeN l x.1:Int) (lenI l) l.length=true:=by unfold inS;rw [qaa];simp;omega
 have ed:dropL l (placeN l x.1:Int)=l.drop (placeN l x.1):=by unfold dropL;rw [Int.toNat_natCast]
 have hld:(l.drop (placeN l x.1)).length=l.length-placeN l x.1:=List.length_drop
 unfold qdl putL
 rw [qtc (by omega)]
 simp only [Option.bind_some]
 rw [e1,et,r1]
 simp only [cond_true,List.nil_append]
 cases hf:foundB l x.1 with
 | true =>
  obtain ⟨hi,hc⟩:=qzu hf
  have e3:inB (placeN l x.1:Int) l.length=true:=qae hi
  have e5:iAdd .i64 (placeN l x.1:Int) 1=((placeN l x.1+1:Nat):Int):=(qdt (by omega) (by omega)).trans (by omega)
  have e6:inS ((placeN l x.1+1:Nat):Int) (lenI l) l.length=true:=by unfold inS;rw [qaa];simp;omega
  have ed1:dropL l ((placeN l x.1+1:Nat):Int)=l.drop (placeN l x.1+1):=by unfold dropL;rw [Int.toNat_natCast]
  have hld1:(l.drop (placeN l x.1+1)).length=l.length-(placeN l x.1+1):=List.length_drop
  simp only [cond_true,Int.toNat_natCast]
  rw [e3,qahy,e2,ed,e5,e6,ed1]
  have r3:room ((l.take (placeN l x.1)++[x]).length+(l.drop (placeN l x.1+1)).length) 48=true:=qa2 (by rw [List.length_append,hlt,hld1];simp;omega)
  have r4:room ((l.take (placeN l x.1)).length+(l.drop (placeN l x.1)).length) 48=true:=qa2 (by omega)
  rw [r2,r3,r4]
  simp only [cond_true,Option.bind_some]
  rw [List.take_append_drop]
  cases betterB x (l.getD (placeN l x.1) zMark) <;> rfl
 | false =>
  simp only [cond_false]
  have r3:room ((l.take (placeN l x.1)++[x]).length+(l.drop (placeN l x.1)).length) 48=true:=qa2 (by rw [List.length_append,hlt,hld];simp;omega)
  rw [r2,e2,ed,r3]
  rfl
theorem qaeo {l:List DMark} (hl:l.length≤1000) {x:DMark} (hm:Marks l) (hx:markB x=true):Marks (putL l x)∧(putL l x).length≤l.length+1:=by
 obtain ⟨l',h1,h2,h3⟩:=qapd hl x
 rw [qaaj hl] at h1
 cases h1
 exact ⟨h3 hm hx,h2⟩
theorem qaij {l:List DMark} {x y:DMark} (h:y∈putL l x):y∈l∨y=x:=by
 have key : ∀ k k',y∈l.take k++[x]++l.drop k'→y∈l∨y=x:=by
  intro k k' h
  rcases List.mem_append.1 h with h | h
  ·rcases List.mem_append.1 h with h | h
   ·exact .inl (List.mem_of_mem_take h)
   ·exact .inr (List.mem_singleton.1 h)
  ·exact .inl (List.mem_of_mem_drop h)
 unfold putL at h
 cases hf:foundB l x.1 with
 | true =>
  rw [hf] at h
  simp only [cond_true] at h
  cases hb:betterB x (l.getD (placeN l x.1) zMark) with
  | true=>rw [hb] at h;exact key _ _ h
  | false=>rw [hb] at h;exact .inl h
 | false=>rw [hf] at h;exact key _ _ h
theorem qai8 (t:Ty) (xs:List t.den) (k:Nat) (v:List t.den) (bytes:Nat) (hk:k≤xs.length) (hv:v.length=1) (hr:room (xs.length+1) bytes=true):insertF t xs (k:Int) v bytes=some ((xs.take k++v++xs.drop k,()),(v,())):=by
 unfold insertF
 rw [qay (by omega:(0:Int)≤(k:Int)),qaa,qay (by omega:(k:Int)≤(xs.length:Int)),hr,hv,Int.toNat_natCast]
 rfl
theorem qaar (t:Ty) (xs:List t.den) (k:Nat) (hk:k<xs.length):deleteF t xs (k:Int) ((k+1:Nat):Int)=some ((xs.take k++xs.drop (k+1),()),()):=by
 unfold deleteF
 rw [qay (by omega:(0:Int)≤(k:Int)),qaa,qah (by omega:(k:Int)<(xs.length:Int)),qf7 (by omega),Int.toNat_natCast]
 rfl
def fullB (l:List DMark) (x:DMark):Bool:=!foundB l x.1&&iEq (lenI l) 200
theorem qaf8 {m:DMap} (hl:m.2.1.length≤200) (hm:Marks m.2.1) (hk : ∀ y∈m.2.1,MarkOK y) {x:DMark} (hx:MarkOK x) :
  qa4 m x=some ((!fullB m.2.1 x,()),((m.1,(bif fullB m.2.1 x then m.2.1 else putL m.2.1 x),m.2.2),())):=by
 obtain ⟨sd,l,u⟩:=m
 have hl:l.length≤200:=hl
 have hm:Marks l:=hm
 have hk : ∀ y∈l,MarkOK y:=hk
 have hp:=qh1 l x.1
 unfold qa4 fullB putL
 rw [show qe2 (sd,l,u) x.1=_ from qvg (m:=(sd,l,u)) (by show l.length≤1000000;omega) hm.2 x.1]
 simp only [Option.bind_some]
 have hins:qd4 l ((placeN l x.1:Nat):Int) [x]=some ((l.take (placeN l x.1)++[x]++l.drop (placeN l x.1),()),([x],())):=by
  exact qai8 TyMark l (placeN l x.1) [x] 48 hp rfl (qa2 (by show (l.length+1)*48≤_;omega))
 cases hf:foundB l x.1 with
 | true =>
  obtain ⟨hi,hc⟩:=qzu hf
  simp only [cond_true,Int.toNat_natCast,Bool.not_true,Bool.false_and,cond_false,Bool.not_false]
  rw [qae hi]
  simp only [cond_true]
  have hg:(l.getD (placeN l x.1) (((0,0,0,()),(0,0,0,()),0,0,0,()):DMark))=l.getD (placeN l x.1) zMark:=rfl
  rw [hg,qahj hx (hk _ (by rw [qan hi];exact List.getElem_mem hi))]
  simp only [Option.bind_some]
  cases betterB x (l.getD (placeN l x.1) zMark) with
  | true =>
   simp only [cond_true]
   rw [List.set_eq_take_append_cons_drop,if_pos hi,List.append_assoc]
   rfl
  | false=>rfl
 | false =>
  simp only [cond_false,Bool.not_false,Bool.true_and]
  cases h2:iEq (lenI l) 200 with
  | true=>rfl
  | false =>
   simp only [cond_false]
   rw [show qd4 l ((placeN l x.1:Nat):Int) ([x]:List DMark)=_ from hins]
   rfl
end
section
structure MapOK (side:Nat) (m:DMap):Prop where
 side:m.1=side
 len:m.2.1.length≤200
 marks:Marks m.2.1
 all : ∀ x∈m.2.1,MarkOK x
theorem MapOK.sized {side:Nat} {m:DMap} (h:MapOK side m):Sized TyMap m:=⟨trivial,qajo (by rfl) (Nat.le_trans h.len (by decide)),trivial⟩
theorem MapOK.valid {side:Nat} {m:DMap} (hs:sideB side=true) (h:MapOK side m):mapB m=true:=qamj.2 ⟨by rw [h.side];exact hs,h.len,h.marks⟩
theorem qtp {v side:Nat} (hv:finB v=true) (hs:sideB side=true) (h:cellB v side=true) : -1000000≤cellN v side∧cellN v side≤1000000:=by
 obtain ⟨n,hn,hb⟩:=qwg (qqx hv hs) h
 unfold cellN
 rw [hn]
 exact hb
theorem qai0 {side:Nat} {v:Vec 3 Nat} (h:iEq (cellF side v).2.1 0=true) :
  (-1000000≤Vec.getD 3 (cellF side v).1 0 (0:Int)∧Vec.getD 3 (cellF side v).1 0 (0:Int)≤1000000)∧(-1000000≤Vec.getD 3 (cellF side v).1 1 (0:Int)∧Vec.getD 3 (cellF side v).1 1 (0:Int)≤1000000)∧(-1000000≤Vec.getD 3 (cellF side v).1 2 (0:Int)∧Vec.getD 3 (cellF side v).1 2 (0:Int)≤1000000):=by
 unfold cellF at h ⊢
 cases hs:sideB side with
 | false=>rw [hs] at h;exact absurd h (by simp [iEq])
 | true =>
  cases hv:finV v with
  | false=>rw [hs,hv] at h;exact absurd h (by simp [iEq])
  | true =>
   rw [hs,hv] at h
   have hv':=hv
   unfold finV at hv'
   simp only [Bool.and_eq_true] at hv'
   cases c0:cellB (Vec.getD 3 v 0 (0:Nat)) side with
   | false=>rw [c0] at h;exact absurd h (by simp [iEq])
   | true =>
    cases c1:cellB (Vec.getD 3 v 1 (0:Nat)) side with
    | false=>rw [c0,c1] at h;exact absurd h (by simp [iEq])
    | true =>
     cases c2:cellB (Vec.getD 3 v 2 (0:Nat)) side with
     | false=>rw [c0,c1,c2] at h;exact absurd h (by simp [iEq])
     | true=>exact ⟨qtp hv'.1 hs c0,qtp hv'.2.1 hs c1,qtp hv'.2.2 hs c2⟩
theorem qafq (a b:Vec 3 Int) : ∃ v,qhv a b=some ((v,()),())∧qjv a b=some ((v,()),()):=by
 have k1 : ∀ c:Int,iLt 1 c = !iLe c 1:=fun c=>by unfold iLt iLe;by_cases h:c≤1 <;> simp [h];omega
 have k2 : ∀ c:Int,iLt c (-1) = !iLe (-1) c:=fun c=>by unfold iLt iLe;by_cases h : -1≤c <;> simp [h];omega
 unfold qhv qjv
 simp only [qg1,qcb,Option.bind_some,k1,k2]
 generalize iSub .i64 (iWrap .i64 (Vec.getD 3 a 0 (0:Int))) (iWrap .i64 (Vec.getD 3 b 0 (0:Int)))=c0
 generalize iSub .i64 (iWrap .i64 (Vec.getD 3 a 1 (0:Int))) (iWrap .i64 (Vec.getD 3 b 1 (0:Int)))=c1
 generalize iSub .i64 (iWrap .i64 (Vec.getD 3 a 2 (0:Int))) (iWrap .i64 (Vec.getD 3 b 2 (0:Int)))=c2
 cases iLe c0 1 <;> cases iLe (-1) c0 <;> cases iLe c1 1 <;> cases iLe (-1) c1 <;> cases iLe c2 1 <;> cases iLe (-1) c2 <;> exact ⟨_,rfl,rfl⟩
theorem qaj1 (x:DMark) (v:Vec 3 Nat) : ∃ d:Nat,qj3 x v=some ((d,()),())∧qhb x v=some ((d,()),()):=by
 obtain ⟨c,⟨x0,x1,x2,⟨⟩⟩,y⟩:=x
 obtain ⟨v0,v1,v2,⟨⟩⟩:=v
 have hd : ∀ a b c:Nat,qo1 ((a,b,c,()):Vec 3 Nat) ((a,b,c,()):Vec 3 Nat)=some ((fAdd .f32 (fAdd .f32 (fMul .f32 a a) (fMul .f32 b b)) (fMul .f32 c c),()),()):=fun a b c=>by
  unfold qo1
  rw [show qmw [Vec.getD 3 ((a,b,c,()):Vec 3 Nat) 0 (0:Nat),Vec.getD 3 ((a,b,c,()):Vec 3 Nat) 1 (0:Nat),Vec.getD 3 ((a,b,c,()):Vec 3 Nat) 2 (0:Nat)] [Vec.getD 3 ((a,b,c,()):Vec 3 Nat) 0 (0:Nat),Vec.getD 3 ((a,b,c,()):Vec 3 Nat) 1 (0:Nat),Vec.getD 3 ((a,b,c,()):Vec 3 Nat) 2 (0:Nat)]=_ from qape a b c a b c]
  rfl
 refine ⟨rootF (fAdd .f32 (fAdd .f32 (fMul .f32 (fSub .f32 x0 v0) (fSub .f32 x0 v0)) (fMul .f32 (fSub .f32 x1 v1) (fSub .f32 x1 v1))) (fMul .f32 (fSub .f32 x2 v2) (fSub .f32 x2 v2))),?_,?_⟩
 ·simp only [qj3,qtx,qaci,Option.bind_some]
  rfl
 ·have e1:qo2 ((x0,x1,x2,()):Vec 3 Nat) ((v0,v1,v2,()):Vec 3 Nat)=some ((((fSub .f32 x0 v0,fSub .f32 x1 v1,fSub .f32 x2 v2,()):Vec 3 Nat),()),()):=rfl
  have e2:qf8 ((fSub .f32 x0 v0,fSub .f32 x1 v1,fSub .f32 x2 v2,()):Vec 3 Nat)=some ((rootF (fAdd .f32 (fAdd .f32 (fMul .f32 (fSub .f32 x0 v0) (fSub .f32 x0 v0)) (fMul .f32 (fSub .f32 x1 v1) (fSub .f32 x1 v1))) (fMul .f32 (fSub .f32 x2 v2) (fSub .f32 x2 v2))),()),()):=by
   unfold qf8
   rw [hd]
   simp only [Option.bind_some,qaf9]
  show ((qo2 ((x0,x1,x2,()):Vec 3 Nat) ((v0,v1,v2,()):Vec 3 Nat)).bind fun y374=>(qf8 y374.1.1).bind fun y375=>some ((y375.1.1,()),()))=_
  rw [e1]
  show ((qf8 ((fSub .f32 x0 v0,fSub .f32 x1 v1,fSub .f32 x2 v2,()):Vec 3 Nat)).bind fun y375=>some ((y375.1.1,()),()))=_
  rw [e2]
  rfl
theorem qagl {m:DMap} (hl:m.2.1.length≤1000) (v:Vec 3 Nat) (g:Nat) : ∃ b code:Int,qjl m v g=some ((b,code,()),())∧(b = -1∨(0≤b∧b<m.2.1.length))∧code≠6 ∧
  qc3 m v g=some ((bif iEq code 0 then (bif iLt b 0 then (0,6,()) else (b,0,())) else (0,code,())),()):=by
 unfold qjl qc3
 rw [qni,qoh]
 simp only [Option.bind_some]
 have hcode:(cellF m.1 v).2.1=0∨(cellF m.1 v).2.1=2∨(cellF m.1 v).2.1=3:=by
  unfold cellF
  cases sideB m.1&&finV v
  ·exact .inr (.inl rfl)
  ·cases cellB (Vec.getD 3 v 0 (0:Nat)) m.1&&(cellB (Vec.getD 3 v 1 (0:Nat)) m.1&&cellB (Vec.getD 3 v 2 (0:Nat)) m.1)
   ·exact .inr (.inr rfl)
   ·exact .inl rfl
 have i20:iEq (2:Int) 0=false:=by decide
 have i22:iEq (2:Int) 2=true:=by decide
 have i02:iEq (0:Int) 2=false:=by decide
 have i00:iEq (0:Int) 0=true:=by decide
 have i32:iEq (3:Int) 2=false:=by decide
 have i30:iEq (3:Int) 0=false:=by decide
 cases hg:fLe .f32 0 g with
 | false =>
  rcases hcode with h | h | h <;> rw [h] <;> simp only [i20,i22,i02,i00,i32,i30,Bool.not_false,Bool.not_true,cond_true,cond_false]
  all_goals exact ⟨_,_,rfl,.inl rfl,by decide,rfl⟩
 | true =>
  rcases hcode with h | h | h
  ·rw [h]
   simp only [i02,i00,Bool.not_true,cond_false]
   have r:=qaos (f:=qgv m (cellF m.1 v,()) v g) (g:=qf3 m v (cellF m.1 v,()) g) (fun s t=>s=t ∧ ∃ (b:Int) (d:Nat) (i:Nat),s=(b,d,(i:Int),())∧i≤m.2.1.length∧(b = -1∨(0≤b∧b<m.2.1.length))) (fun s=>(m.2.1.length-s.2.2.1).toNat)
    (fun a a' => ∃ b:Int,a=((b,0,()),())∧(b = -1∨(0≤b∧b<m.2.1.length))∧a'=((bif iLt b 0 then (0,6,()) else (b,0,())),())) (fun s t hI=>by
    obtain ⟨rfl,b,d,i,rfl,hi,hb⟩:=hI
    by_cases hlt:i<m.2.1.length
    ·left
     have e1:iLt (i:Int) (lenI m.2.1)=true:=qah (by rw [qaa];omega)
     have e2:inB (i:Int) m.2.1.length=true:=qae hlt
     have e5:iAdd .i64 (i:Int) 1=((i+1:Nat):Int):=qaq hlt (by omega)
     have hm:((m.2.1.length:Int)-((i+1:Nat):Int)).toNat<((m.2.1.length:Int)-(i:Int)).toNat:=by omega
     obtain ⟨q,hq,hq2⟩:=qafq (m.2.1.getD i zMark).1 (cellF m.1 v).1
     obtain ⟨x,hx,hx2⟩:=qaj1 (m.2.1.getD i zMark) v
     have hq:qhv ((List.getD m.2.1 i (((0,0,0,()),(0,0,0,()),0,0,0,()):DMark)).1) (cellF m.1 v).1=some ((q,()),()):=hq
     have hq2:qjv ((List.getD m.2.1 i (((0,0,0,()),(0,0,0,()),0,0,0,()):DMark)).1) (cellF m.1 v).1=some ((q,()),()):=hq2
     have hx:qj3 (List.getD m.2.1 i (((0,0,0,()),(0,0,0,()),0,0,0,()):DMark)) v=some ((x,()),()):=hx
     have hx2:qhb (List.getD m.2.1 i (((0,0,0,()),(0,0,0,()),0,0,0,()):DMark)) v=some ((x,()),()):=hx2
     unfold qgv qf3
     simp only [Int.toNat_natCast]
     rw [e1,e2,hq,e5,hx,hq2,hx2]
     simp only [cond_true,Option.bind_some]
     cases q with
     | false=>exact ⟨_,_,rfl,rfl,⟨rfl,b,d,i+1,rfl,by omega,hb⟩,hm⟩
     | true =>
      simp only [Bool.not_true,cond_false,cond_true]
      cases fLe .f32 x g with
      | false=>exact ⟨_,_,rfl,rfl,⟨rfl,b,d,i+1,rfl,by omega,hb⟩,hm⟩
      | true =>
       cases iLt b 0 with
       | true=>exact ⟨_,_,rfl,rfl,⟨rfl,(i:Int),x,i+1,rfl,by omega,.inr ⟨by omega,by omega⟩⟩,hm⟩
       | false =>
        cases fLt .f32 x d with
        | true=>exact ⟨_,_,rfl,rfl,⟨rfl,(i:Int),x,i+1,rfl,by omega,.inr ⟨by omega,by omega⟩⟩,hm⟩
        | false=>exact ⟨_,_,rfl,rfl,⟨rfl,b,d,i+1,rfl,by omega,hb⟩,hm⟩
    ·right
     have e1:iLt (i:Int) (lenI m.2.1)=false:=qag (by rw [qaa];omega)
     refine ⟨((b,0,()),()),_,?_,?_,b,rfl,hb,rfl⟩
     ·unfold qgv
      simp only
      rw [e1]
      rfl
     ·unfold qf3
      simp only
      rw [e1]
      cases iLt b 0 <;> rfl) (s:=((-1:Int),(0:Nat),(0:Int),())) (t:=((-1:Int),(0:Nat),(0:Int),())) ⟨rfl,-1,0,0,rfl,Nat.zero_le _,.inl rfl⟩
   obtain ⟨a,a',ha,ha',b,rfl,hb,rfl⟩:=r
   exact ⟨b,0,ha,hb,by decide,ha'⟩
  ·rw [h]
   simp only [i20,i22,Bool.not_false,Bool.not_true,cond_true,cond_false]
   exact ⟨_,_,rfl,.inl rfl,by decide,rfl⟩
  ·rw [h]
   simp only [i32,i30,Bool.not_false,Bool.not_true,cond_true,cond_false]
   exact ⟨_,_,rfl,.inl rfl,by decide,rfl⟩
theorem qahf {l:List DMark} (hl:l.length≤1000000):qed l=some ((l,()),()):=by
 have r:room (0+l.length) 48=true:=qa2 (by omega)
 unfold qed
 rw [r]
 cases l with
 | nil=>exact qh4 fun q=>by cases q <;> rfl
 | cons a l=>rfl
theorem qyd {m:DMap} (hl:m.2.1.length≤1000000):qg4 m=some (((m.1,m.2.1,()),()),()):=by
 unfold qg4
 rw [qahf hl]
 rfl
theorem qac8 {l:List DMark} {x:DMark} : (putL l x).length=bif foundB l x.1 then l.length else l.length+1:=by
 have hp:=qh1 l x.1
 unfold putL
 cases hf:foundB l x.1 with
 | true =>
  obtain ⟨hi,hc⟩:=qzu hf
  simp only [cond_true]
  cases betterB x (l.getD (placeN l x.1) zMark) with
  | true=>simp [List.length_take];omega
  | false=>rfl
 | false=>simp [List.length_take];omega
theorem qve {l:List DMark} (hl:l.length≤200) {x:DMark} : iLt 200 (lenI (putL l x))=fullB l x:=by
 unfold fullB
 rw [qaa,qac8,qaa]
 cases foundB l x.1 with
 | true=>exact qag (by simp;omega)
 | false =>
  simp only [cond_false,Bool.not_false,Bool.true_and]
  by_cases h:l.length=200
  ·rw [h];rfl
  ·rw [qag (by omega),qat (by omega)]
theorem qx9 {side:Nat} (hs:sideB side=true) {L:List DMark} (hL:Marks L) (hl:L.length≤200) (hk : ∀ y∈L,MarkOK y) {v:Vec 3 Nat} (hv:FitVec (fltFit .f32) 3 v) {w:Nat} (hw:sideB w=true) (hwc:fltFit .f32 w) {n t:Int} (hn:1≤n) (hn1:n≤1000000) (ht:timeB t=true) (fl fl':Bool) (a0:DMap) (u:Unit) :
  ∃ (m':DMap) (c:Vec 3 Int) (o:Bool) (code:Int),((qdr side v).bind fun y=>bif (! (iEq y.1.2.1 0)) then some ((((0,[],()):DMap),((0,0,0,()):Vec 3 Int),false,(3:Int),()),(a0,())) else
   (qdl L ((y.1.1,v,w,n,t,()):DMark)).bind fun z=>(qci side z.1.1).bind fun u=>some ((u.1.1,y.1.1,fl,u.1.2.1,()),(a0,())))=some (((m',c,o,code,()):DSeen),(a0,())) ∧
  ∃ (m2:DMap) (c2:Vec 3 Int) (o2:Bool),((qck side v).bind fun y=>bif (! (iEq y.1.2.1 0)) then some ((((0,[],()):DMap),((0,0,0,()):Vec 3 Int),false,(3:Int),()),()) else
   (qa4 ((side,L,u):DMap) ((y.1.1,v,w,n,t,()):DMark)).bind fun z=>bif (! z.1.1) then some ((((0,[],()):DMap),((0,0,0,()):Vec 3 Int),false,(3:Int),()),()) else
    some ((((z.2.1.1,z.2.1.2.1,z.2.1.2.2):DMap),y.1.1,fl',(0:Int),()),()))=some (((m2,c2,o2,code,()):DSeen),())∧(code=0→m2=m'∧MapOK side m'):=by
 rw [qni,qoh]
 simp only [Option.bind_some]
 cases hc:iEq (cellF side v).2.1 0 with
 | false=>exact ⟨_,_,_,_,rfl,_,_,_,rfl,fun h=>absurd h (by decide)⟩
 | true =>
  simp only [Bool.not_true,cond_false]
  obtain ⟨b0,b1,b2⟩:=qai0 hc
  have hx:MarkOK (((cellF side v).1,v,w,n,t,()):DMark):=by
   refine ⟨?_,b0,b1,b2,hv,hwc⟩
   unfold markB
   simp only [Bool.and_eq_true,qog]
   exact ⟨qalz hc,hw,⟨hn,hn1⟩,ht⟩
  rw [qaaj (by omega),qaf8 (m:=((side,L,u):DMap)) hl hL hk hx]
  simp only [Option.bind_some]
  unfold qci
  rw [qve hl]
  cases hf:fullB L (((cellF side v).1,v,w,n,t,()):DMark) with
  | true=>exact ⟨_,_,_,_,rfl,_,_,_,rfl,fun h=>absurd h (by decide)⟩
  | false =>
   have hpm:=qaeo (x:=(((cellF side v).1,v,w,n,t,()):DMark)) (by omega) hL hx.ok
   have h200:(putL L (((cellF side v).1,v,w,n,t,()):DMark)).length≤200:=by
    have:=qve hl (x:=(((cellF side v).1,v,w,n,t,()):DMark))
    rw [hf,qaa] at this
    have:=of_decide_eq_false this
    omega
   exact ⟨_,_,_,_,rfl,_,_,_,rfl,fun _=>⟨rfl,rfl,h200,hpm.1,fun y hy=>(qaij hy).elim (hk y) (fun h=>h▸hx)⟩⟩
end
end Go.Proofs.YtjhdoneobdbeaaaGreatDoor
