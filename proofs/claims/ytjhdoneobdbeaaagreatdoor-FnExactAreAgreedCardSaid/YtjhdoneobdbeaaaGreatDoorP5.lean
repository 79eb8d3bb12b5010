import Derived.Test.YtjhdoneobdbeaaaGreatDoorP4
/- Functions of the program and of the reference in plain terms. -/
set_option linter.unusedSectionVars false
set_option linter.unusedSimpArgs false
set_option linter.unusedVariables false
namespace Go.Proofs.YtjhdoneobdbeaaaGreatDoor
open Go Go.Tm
section
theorem write_lt (d:Ieee.Datum):FloatKind.f32.format.write d<4294967296:=by
 have h2:FloatKind.f32.format.signWeight=2147483648:=by decide
 have hi:FloatKind.f32.format.infRung=2139095040:=by decide
 have hb:FloatKind.f32.format.binade=8388608:=by decide
 have hw : ∀ s r,r<2147483648→FloatKind.f32.format.word s r<4294967296:=by
  intro s r hr
  unfold Ieee.Format.word
  rw [h2]
  split <;> omega
 cases d with
 | number g m p =>
  show FloatKind.f32.format.nearest g m p<_
  rw [qjl]
  have:=qad8 FloatKind.f32.format m p
  exact hw _ _ (by omega)
 | infinity g=>exact hw g _ (by rw [hi];decide)
 | nan g f =>
  refine hw g _ ?_
  have:=Nat.mod_lt f (show 0<FloatKind.f32.format.binade by rw [hb];decide)
  omega
def cF (x:Nat):Prop:=fltFit .f32 x
theorem qakv (d:Ieee.Datum):cF (canon .f32 (FloatKind.f32.format.write d)):=⟨qyg _ _,qafb (write_lt d)⟩
theorem qaml (r:Option Ieee.Datum):cF (orNan .f32 (r.map FloatKind.f32.format.write)):=by
 cases r with
 | none=>exact ⟨by decide,by decide⟩
 | some d=>exact qakv d
theorem qaof (a b:Nat):cF (fAdd .f32 a b):=qaml _
theorem qxg (a b:Nat):cF (fDiv .f32 a b):=qaml _
end
section
theorem qjz (x:DMark) (c:Vec 3 Int):qbv x c=some ((cmpI x.1 c,()),()):=by
 simp only [qbv,qk6,Option.bind_some]
theorem qan0 (a b:Vec 3 Int):iEq (cmpI a b) 0=eqC a b:=by
 cases he:eqC a b with
 | true =>
  obtain rfl:=qtb.1 he
  have n : ∀ x:Int,iLt x x=false:=fun x=>qah (Int.lt_irrefl x)
  unfold cmpI
  simp only [n,cond_false]
  rfl
 | false =>
  apply qa5
  intro h0
  rcases qahd a b with h | h | h
  ·have:=qy3.1 (qqj.2 h);omega
  ·rw [qtb.2 h] at he;cases he
  ·have h1:=qy3.1 (qqj.2 h)
   have h2:=qyz a b
   rw [h0,qaz (by omega),qc8 (by omega)] at h2
   cases h2
theorem qam3 {i j:Nat} (h:i+j≤2000000):iWrap .i64 (iShr .u64 (iWrap .u64 (iAdd .i64 (i:Int) (j:Int))) 1)=(((i+j)/2:Nat):Int):=by
 rw [qc7 (by omega) (by omega)]
 have e1:iWrap .u64 ((i:Int)+(j:Int))=(i:Int)+(j:Int):=by simp [iWrap,IntKind.wrap,IntKind.signed,IntKind.bits];omega
 have e2:iShr .u64 ((i:Int)+(j:Int)) 1=(((i+j)/2:Nat):Int):=by
  have e3:(2:Int)^(min (1:Int).toNat IntKind.u64.bits)=2:=by decide
  unfold iShr
  rw [e3,Int.fdiv_eq_ediv_of_nonneg _ (by omega)]
  omega
 rw [e1,e2]
 exact wrap_i64 (by omega) (by omega)
theorem qaj3 {l:List DMark} (hs:l.Pairwise fun a b=>ltC a.1 b.1) (c:Vec 3 Int) (i:Nat) (h:i<l.length):iLt (cmpI (l[i]).1 c) 0=decide (i<placeN l c):=by
 by_cases hi:i<placeN l c
 ·rw [qqa l c i hi,decide_eq_true hi]
 ·rw [decide_eq_false hi]
  cases hc:iLt (cmpI (l[i]).1 c) 0 with
  | false=>rfl
  | true =>
   exfalso
   have h1:=qog l c (by omega)
   have h2:=qqj.1 hc
   rcases Nat.lt_or_ge (placeN l c) i with h3 | h3
   ·have h4:=List.pairwise_iff_getElem.1 hs (placeN l c) i (by omega) h h3
    rw [qqj.2 (h4.trans h2)] at h1
    cases h1
   ·have:i=placeN l c:=by omega
    subst this
    rw [hc] at h1
    cases h1
theorem qakd {l:List DMark} (hl:l.length≤1000000) (hs:l.Pairwise fun a b=>ltC a.1 b.1) (c:Vec 3 Int) :
  qa3 l c (fun z=>(qbv z.1 z.2.1).map fun y=>y.1.1)=some (((placeN l c:Int),foundB l c,()),()):=by
 have hp:=qgx l c
 unfold qa3
 obtain ⟨a,ha,hq⟩:=qaht (f:=qby l (fun z=>(qbv z.1 z.2.1).map fun y=>y.1.1) c) (fun s => ∃ i j:Nat,s=((i:Int),(j:Int),())∧i≤placeN l c∧placeN l c≤j∧j≤l.length) (fun s=>(s.2.1-s.1).toNat) (fun a=>a=(((placeN l c:Int),foundB l c,()),())) (fun s hI=>by
  obtain ⟨i,j,rfl,h1,h2,h3⟩:=hI
  unfold qby
  simp only
  rw [qam3 (by omega)]
  by_cases hlt:i<j
  ·left
   have hm:(i+j)/2<l.length:=by omega
   rw [qag (by omega:(i:Int)<(j:Int)),qae hm]
   simp only [cond_true,Int.toNat_natCast,qjz,Option.map_some,Option.bind_some]
   rw [qaj hm,qaj3 hs c _ hm]
   by_cases hq:(i+j)/2<placeN l c
   ·rw [decide_eq_true hq,qc7 (by omega) (by omega)]
    exact ⟨_,rfl,⟨(i+j)/2+1,j,by simp,by omega,h2,h3⟩,by simp;omega⟩
   ·rw [decide_eq_false hq]
    exact ⟨_,rfl,⟨i,(i+j)/2,rfl,h1,by omega,by omega⟩,by simp;omega⟩
  ·right
   have hi:i=placeN l c:=by omega
   subst hi
   refine ⟨_,?_,rfl⟩
   rw [qah (by omega:¬ ((placeN l c:Nat):Int)<(j:Int))]
   simp only [cond_false,qaa,Int.toNat_natCast,qjz,Option.map_some,Option.bind_some,qan0]
   unfold foundB
   by_cases hh:placeN l c<l.length
   ·rw [qag (by omega:((placeN l c:Nat):Int)<(l.length:Int)),qae hh]
    rfl
   ·rw [qah (by omega:¬ ((placeN l c:Nat):Int)<(l.length:Int))]
    rfl) (s:=((0:Int),lenI l,())) ⟨0,l.length,rfl,Nat.zero_le _,hp,Nat.le_refl _⟩
 rw [ha,hq]
theorem quk {m:DMap} (hl:m.2.1.length≤1000000) (hs:m.2.1.Pairwise fun a b=>ltC a.1 b.1) (c:Vec 3 Int):qd7 m c=some (((placeN m.2.1 c:Int),foundB m.2.1 c,()),()):=by
 unfold qd7
 have:=qakd hl hs c
 rw [show qa3 m.2.1 c (fun z240=>(qbv z240.1 z240.2.1).map fun y=>y.1.1)=_ from this]
 rfl
theorem qaj6 {x:Nat} (hx:x<4294967296) {s:Bool} {m:Nat} {p:Int} (h:FloatKind.f32.format.read x = .number s m p) : ∃ e:Nat,p = -149+(e:Int)∧((e=0∧m<8388608)∨(8388608≤m∧m<16777216))∧x=(bif s then 2147483648 else 0)+(e*8388608+m):=by
 have h:Ieee.single.read x = .number s m p:=h
 unfold Ieee.Format.read at h
 have c1:Ieee.single.leastPlace = -149:=by decide
 have c2:Ieee.single.signWeight=2147483648:=by decide
 have c3:Ieee.single.binade=8388608:=by decide
 have c4:Ieee.single.infRung=2139095040:=by decide
 simp only [c1,c2,c3,c4] at h
 have hs:x=(bif x/2147483648%2==1 then 2147483648 else 0)+x%2147483648:=by
  have:x/2147483648=0∨x/2147483648=1:=by omega
  rcases this with h1 | h1 <;> rw [h1] <;> simp <;> omega
 generalize x%2147483648=r at h hs
 generalize (x/2147483648%2==1)=g at h hs
 split at h
 ·rename_i h1
  cases h
  exact ⟨0,by omega,.inl ⟨rfl,h1⟩,by rw [hs];omega⟩
 ·rename_i h1
  split at h
  ·rename_i h2
   cases h
   refine ⟨r/8388608-1,rfl,.inr ⟨by omega,by omega⟩,?_⟩
   rw [hs]
   have:1≤r/8388608:=by omega
   have:(r/8388608-1)*8388608+8388608=r/8388608*8388608:=by omega
   omega
  ·split at h <;> cases h
theorem qakf {e f K L:Nat} (hK:(e=0∧K<8388608)∨(8388608≤K∧K<16777216)) (hL:(f=0∧L<8388608)∨(8388608≤L∧L<16777216)) (h:K*2^e=L*2^f):e=f∧K=L:=by
 have key : ∀ {e f K L:Nat},((e=0∧K<8388608)∨(8388608≤K∧K<16777216))→((f=0∧L<8388608)∨(8388608≤L∧L<16777216))→K*2^e=L*2^f→¬ e<f:=by
  intro e f K L hK hL h hlt
  obtain ⟨d,rfl⟩ : ∃ d,f=e+1+d:=⟨f-(e+1),by omega⟩
  have hL2:8388608≤L:=by omega
  have hK2:K<16777216:=by omega
  have h1:L*2^(e+1+d)=L*2^d*2*2^e:=by
   rw [Nat.pow_add,Nat.pow_succ]
   generalize 2^e=A
   generalize 2^d=B
   ac_rfl
  rw [h1] at h
  have h2:=Nat.eq_of_mul_eq_mul_right (Nat.two_pow_pos e) h
  have h3:1≤2^d:=Nat.one_le_two_pow
  have h4:L*1≤L*2^d:=Nat.mul_le_mul_left _ h3
  omega
 have h1:=key hK hL h
 have h2:=key hL hK h.symm
 have h3:e=f:=by omega
 subst h3
 exact ⟨rfl,Nat.eq_of_mul_eq_mul_right (Nat.two_pow_pos e) h⟩
theorem qaef {x y:Nat} (hx:finB x=true) (hy:finB y=true) (gx:x<4294967296) (gy:y<4294967296) (he:fEq .f32 x y=true) (hn:x≠y):(x=0∧y=2147483648)∨(x=2147483648∧y=0):=by
 obtain ⟨s,m,p,h1⟩:=qfe (k:=.f32) hx
 obtain ⟨t,n,q,h2⟩:=qfe (k:=.f32) hy
 have h1:FloatKind.f32.format.read x = .number s m p:=h1
 have h2:FloatKind.f32.format.read y = .number t n q:=h2
 obtain ⟨e,rfl,hK,ex⟩:=qaj6 gx h1
 obtain ⟨f,rfl,hL,ey⟩:=qaj6 gy h2
 unfold fEq Ieee.Format.order at he
 rw [h1,h2] at he
 simp only [Ieee.Datum.order,qw8] at he
 have hc : ∀ a b:Int,(compare a b == .eq)=true→a=b:=by
  intro a b h
  have:compare a b = .eq:=by simpa using h
  simpa using this
 have hv:=hc _ _ he
 clear he
 have g1:(-149+(e:Int)-min (-149+(e:Int)) (-149+(f:Int))).toNat=e-min e f:=by omega
 have g2:(-149+(f:Int)-min (-149+(e:Int)) (-149+(f:Int))).toNat=f-min e f:=by omega
 rw [g1,g2] at hv
 have hs : ∀ (s:Bool) (m u:Nat),Ieee.signed s m u=bif s then -((m*2^u:Nat):Int) else ((m*2^u:Nat):Int):=by
  intro s m u
  unfold Ieee.signed
  rw [Nat.shiftLeft_eq]
  cases s <;> rfl
 rw [hs,hs] at hv
 have hp : ∀ a d:Nat,a*2^d=0→a=0:=fun a d h=>by
  rcases Nat.mul_eq_zero.1 h with h | h
  ·exact h
  ·have:=Nat.two_pow_pos d;omega
 have hsame:m*2^(e-min e f)=n*2^(f-min e f)→e=f∧m=n:=fun h=>by
  refine qakf hK hL ?_
  have h3:e=(e-min e f)+min e f:=by omega
  have h4:f=(f-min e f)+min e f:=by omega
  rw [h3,Nat.pow_add,← Nat.mul_assoc,h,Nat.mul_assoc,← Nat.pow_add,← h4]
 generalize hA:m*2^(e-min e f)=A at hv hsame
 generalize hB:n*2^(f-min e f)=B at hv hsame
 cases s <;> cases t <;> simp only [cond_true,cond_false] at hv ex ey
 ·obtain ⟨rfl,rfl⟩:=hsame (by omega)
  exact absurd (ex.trans ey.symm) hn
 ·have m0:=hp m _ (hA.trans (by omega))
  have n0:=hp n _ (hB.trans (by omega))
  subst m0;subst n0
  left;constructor <;> omega
 ·have m0:=hp m _ (hA.trans (by omega))
  have n0:=hp n _ (hB.trans (by omega))
  subst m0;subst n0
  right;constructor <;> omega
 ·obtain ⟨rfl,rfl⟩:=hsame (by omega)
  exact absurd (ex.trans ey.symm) hn
def betB (x y:Nat) (r:Bool):Bool:=bif !fEq .f32 x y then fLt .f32 y x else bif !sameN x y then sameN x 0 else r
def betterB (a b:DMark):Bool :=
 bif !iEq a.2.2.2.2.1 b.2.2.2.2.1 then iLt b.2.2.2.2.1 a.2.2.2.2.1 else
 bif !fEq .f32 a.2.2.1 b.2.2.1 then fLt .f32 b.2.2.1 a.2.2.1 else
 bif !iEq a.2.2.2.1 b.2.2.2.1 then iLt b.2.2.2.1 a.2.2.2.1 else
 betB (Vec.getD 3 a.2.1 0 (0:Nat)) (Vec.getD 3 b.2.1 0 (0:Nat)) (betB (Vec.getD 3 a.2.1 1 (0:Nat)) (Vec.getD 3 b.2.1 1 (0:Nat)) (betB (Vec.getD 3 a.2.1 2 (0:Nat)) (Vec.getD 3 b.2.1 2 (0:Nat)) false))
theorem qag8 (a b:DMark):qen a b=some ((betterB a b,()),()):=by
 unfold qen betterB betB
 simp only [qfr,Option.bind_some]
 generalize iEq a.2.2.2.2.1 b.2.2.2.2.1=c1
 generalize fEq .f32 a.2.2.1 b.2.2.1=c2
 generalize iEq a.2.2.2.1 b.2.2.2.1=c3
 generalize fEq .f32 (Vec.getD 3 a.2.1 0 (0:Nat)) (Vec.getD 3 b.2.1 0 (0:Nat))=c4
 generalize fEq .f32 (Vec.getD 3 a.2.1 1 (0:Nat)) (Vec.getD 3 b.2.1 1 (0:Nat))=c5
 generalize fEq .f32 (Vec.getD 3 a.2.1 2 (0:Nat)) (Vec.getD 3 b.2.1 2 (0:Nat))=c6
 generalize sameN (Vec.getD 3 a.2.1 0 (0:Nat)) (Vec.getD 3 b.2.1 0 (0:Nat))=c7
 generalize sameN (Vec.getD 3 a.2.1 1 (0:Nat)) (Vec.getD 3 b.2.1 1 (0:Nat))=c8
 generalize sameN (Vec.getD 3 a.2.1 2 (0:Nat)) (Vec.getD 3 b.2.1 2 (0:Nat))=c9
 cases c1 <;> cases c2 <;> cases c3 <;> cases c4 <;> cases c5 <;> cases c6 <;> cases c7 <;> cases c8 <;> cases c9 <;> rfl
theorem qab9 {x:Nat} (h:finB x=true):isNan .f32 x=false:=by
 obtain ⟨s,m,p,h1⟩:=qfe (k:=.f32) h
 rw [qku]
 have h1:FloatKind.f32.format.read x = .number s m p:=h1
 rw [h1]
 rfl
theorem qyt {y:Nat} (h:isNan .f64 y=false):qeu y=some ((iLt (iWrap .i64 (y:Int)) 0,()),()):=by
 unfold qeu
 exact qg0 fun q=>by rw [qnk h]
theorem qqg {x y:Nat} (hx:finB x=true) (hy:finB y=true) (gx:x<4294967296) (gy:y<4294967296) (k:Option ((Bool×Unit)×Unit)) :
  ((qa1 x y).bind fun s=>bif (! s.1.1) then (bif fLt .f32 y x then some ((true,()),()) else bif fEq .f32 x y then (fConv .f32 .f64 x).bind fun z=>(qeu z).bind fun t=>some ((! t.1.1,()),()) else some ((false,()),())) else k) =
  bif !fEq .f32 x y then some ((fLt .f32 y x,()),()) else bif !sameN x y then some ((sameN x 0,()),()) else k:=by
 rw [qdq]
 simp only [Option.bind_some]
 have nx:=qab9 hx
 have ny:=qab9 hy
 cases he:fEq .f32 x y with
 | false =>
  have hs:sameN x y=false:=by
   unfold sameN
   rw [nx,ny]
   simp only [cond_false]
   apply qa5
   intro h
   have:x=y:=by omega
   subst this
   rw [qim,nx] at he
   cases he
  rw [hs]
  simp only [Bool.not_false,cond_true,cond_false]
  cases fLt .f32 y x <;> rfl
 | true =>
  cases hs:sameN x y with
  | true=>rfl
  | false =>
   have hn:x≠y:=fun h=>by rw [h,qmb] at hs;cases hs
   have hlt:fLt .f32 y x=false:=by
    unfold fEq at he
    unfold fLt
    have h1:FloatKind.f32.format.order x y=some .eq:=by simpa using he
    have h2:FloatKind.f32.format.order y x=some .eq:=by
     rcases qaef hx hy gx gy (by unfold fEq;rw [h1];rfl) hn with ⟨rfl,rfl⟩ | ⟨rfl,rfl⟩ <;> decide
    rw [h2]
    rfl
   rw [hlt]
   rcases qaef hx hy gx gy he hn with ⟨rfl,rfl⟩ | ⟨rfl,rfl⟩
   ·have e1:fConv .f32 .f64 0=some 0:=by kernel_rfl
    have e2:isNan .f64 0=false:=by decide
    simp only [Bool.not_false,Bool.not_true,cond_true,cond_false,e1,Option.bind_some,qyt e2]
    decide
   ·have e1:fConv .f32 .f64 2147483648=some 9223372036854775808:=by kernel_rfl
    have e2:isNan .f64 9223372036854775808=false:=by decide
    simp only [Bool.not_false,Bool.not_true,cond_true,cond_false,e1,Option.bind_some,qyt e2]
    decide
structure MarkOK (x:DMark):Prop where
 ok:markB x=true
 c0 : -1000000≤Vec.getD 3 x.1 0 (0:Int)∧Vec.getD 3 x.1 0 (0:Int)≤1000000
 c1 : -1000000≤Vec.getD 3 x.1 1 (0:Int)∧Vec.getD 3 x.1 1 (0:Int)≤1000000
 c2 : -1000000≤Vec.getD 3 x.1 2 (0:Int)∧Vec.getD 3 x.1 2 (0:Int)≤1000000
 at':FitVec (fltFit .f32) 3 x.2.1
 wt:fltFit .f32 x.2.2.1
theorem qof {x:DMark} (h:markB x=true):finV x.2.1=true∧sideB x.2.2.1=true∧(1≤x.2.2.2.1∧x.2.2.2.1≤1000000)∧timeB x.2.2.2.2.1=true:=by
 unfold markB at h
 simp only [Bool.and_eq_true,qnp] at h
 exact h
theorem qagx {a b:DMark} (ha:MarkOK a) (hb:MarkOK b):qh2 a b=some ((betterB a b,()),()):=by
 obtain ⟨a1,a2,a3,a4⟩:=qof ha.ok
 obtain ⟨b1,b2,b3,b4⟩:=qof hb.ok
 unfold finV at a1 b1
 simp only [Bool.and_eq_true] at a1 b1
 obtain ⟨p0,p1,p2,_⟩:=ha.at'
 obtain ⟨q0,q1,q2,_⟩:=hb.at'
 unfold qh2
 simp only [qpp,ha.ok,hb.ok,Option.bind_some,Bool.not_true,cond_false]
 rw [qqg a1.2.2 b1.2.2 p2.2 q2.2,qqg a1.2.1 b1.2.1 p1.2 q1.2,qqg a1.1 b1.1 p0.2 q0.2]
 unfold betterB betB
 generalize iEq a.2.2.2.2.1 b.2.2.2.2.1=c1
 generalize fEq .f32 a.2.2.1 b.2.2.1=c2
 generalize iEq a.2.2.2.1 b.2.2.2.1=c3
 generalize fEq .f32 (Vec.getD 3 a.2.1 0 (0:Nat)) (Vec.getD 3 b.2.1 0 (0:Nat))=c4
 generalize fEq .f32 (Vec.getD 3 a.2.1 1 (0:Nat)) (Vec.getD 3 b.2.1 1 (0:Nat))=c5
 generalize fEq .f32 (Vec.getD 3 a.2.1 2 (0:Nat)) (Vec.getD 3 b.2.1 2 (0:Nat))=c6
 generalize sameN (Vec.getD 3 a.2.1 0 (0:Nat)) (Vec.getD 3 b.2.1 0 (0:Nat))=c7
 generalize sameN (Vec.getD 3 a.2.1 1 (0:Nat)) (Vec.getD 3 b.2.1 1 (0:Nat))=c8
 generalize sameN (Vec.getD 3 a.2.1 2 (0:Nat)) (Vec.getD 3 b.2.1 2 (0:Nat))=c9
 cases c1 <;> cases c2 <;> cases c3 <;> cases c4 <;> cases c5 <;> cases c6 <;> cases c7 <;> cases c8 <;> cases c9 <;> rfl
def putL (l:List DMark) (x:DMark):List DMark :=
 bif foundB l x.1 then (bif betterB x (l.getD (placeN l x.1) zMark) then l.take (placeN l x.1)++[x]++l.drop (placeN l x.1+1) else l)
 else l.take (placeN l x.1)++[x]++l.drop (placeN l x.1)
theorem qy2 {l:List DMark} {c:Vec 3 Int} (hf:foundB l c=true) : ∃ hi:placeN l c<l.length,(l[placeN l c]).1=c:=by
 have hp:=qgx l c
 have hi:placeN l c<l.length:=by
  rcases Nat.lt_or_ge (placeN l c) l.length with h | h
  ·exact h
  ·unfold foundB at hf
   rw [qah (by omega)] at hf
   cases hf
 refine ⟨hi,?_⟩
 unfold foundB at hf
 rw [qag (by omega),qaj hi] at hf
 exact qtb.1 hf
theorem qzo {l:List DMark} (hl:l.length≤1000) (x:DMark):qc1 l x=some ((putL l x,()),()):=by
 have hp:=qgx l x.1
 have e1:inS 0 (placeN l x.1:Int) l.length=true:=by unfold inS;simp;omega
 have et:takeL l (placeN l x.1:Int)=l.take (placeN l x.1):=by unfold takeL;rw [Int.toNat_natCast]
 have hlt:(l.take (placeN l x.1)).length=placeN l x.1:=by rw [List.length_take];omega
 have r1:room (0+(l.take (placeN l x.1)).length) 48=true:=qav (by omega)
 have r2:room ((l.take (placeN l x.1)).length+1) 48=true:=qav (by omega)
 have e2:inS (placeN l x.1:Int) (lenI l) l.length=true:=by unfold inS;rw [qaa];simp;omega
 have ed:dropL l (placeN l x.1:Int)=l.drop (placeN l x.1):=by unfold dropL;rw [Int.toNat_natCast]
 have hld:(l.drop (placeN l x.1)).length=l.length-placeN l x.1:=List.length_drop
 unfold qc1 putL
 rw [qsn (by omega)]
 simp only [Option.bind_some]
 rw [e1,et,r1]
 simp only [cond_true,List.nil_append]
 cases hf:foundB l x.1 with
 | true =>
  obtain ⟨hi,hc⟩:=qy2 hf
  have e3:inB (placeN l x.1:Int) l.length=true:=qae hi
  have e5:iAdd .i64 (placeN l x.1:Int) 1=((placeN l x.1+1:Nat):Int):=(qc7 (by omega) (by omega)).trans (by omega)
  have e6:inS ((placeN l x.1+1:Nat):Int) (lenI l) l.length=true:=by unfold inS;rw [qaa];simp;omega
  have ed1:dropL l ((placeN l x.1+1:Nat):Int)=l.drop (placeN l x.1+1):=by unfold dropL;rw [Int.toNat_natCast]
  have hld1:(l.drop (placeN l x.1+1)).length=l.length-(placeN l x.1+1):=List.length_drop
  simp only [cond_true,Int.toNat_natCast]
  rw [e3,qag8,e2,ed,e5,e6,ed1]
  have r3:room ((l.take (placeN l x.1)++[x]).length+(l.drop (placeN l x.1+1)).length) 48=true:=qav (by rw [List.length_append,hlt,hld1];simp;omega)
  have r4:room ((l.take (placeN l x.1)).length+(l.drop (placeN l x.1)).length) 48=true:=qav (by omega)
  rw [r2,r3,r4]
  simp only [cond_true,Option.bind_some]
  rw [List.take_append_drop]
  cases betterB x (l.getD (placeN l x.1) zMark) <;> rfl
 | false =>
  simp only [cond_false]
  have r3:room ((l.take (placeN l x.1)++[x]).length+(l.drop (placeN l x.1)).length) 48=true:=qav (by rw [List.length_append,hlt,hld];simp;omega)
  rw [r2,e2,ed,r3]
  rfl
theorem qad3 {l:List DMark} (hl:l.length≤1000) {x:DMark} (hm:Marks l) (hx:markB x=true):Marks (putL l x)∧(putL l x).length≤l.length+1:=by
 obtain ⟨l',h1,h2,h3⟩:=qaob hl x
 rw [qzo hl] at h1
 cases h1
 exact ⟨h3 hm hx,h2⟩
theorem qahr {l:List DMark} {x y:DMark} (h:y∈putL l x):y∈l∨y=x:=by
 have key : ∀ k k',y∈l.take k++[x]++l.drop k'→y∈l∨y=x:=by
  intro k k' h
  rcases List.mem_append.1 h with h | h
  ·rcases List.mem_append.1 h with h | h
   ·exact .inl (List.mem_of_mem_take h)
   ·exact .inr (List.mem_singleton.1 h)
  ·exact .inl (List.mem_of_mem_drop h)
 unfold putL at h
 cases hf:foundB l x.1 with
 | true =>
  rw [hf] at h
  simp only [cond_true] at h
  cases hb:betterB x (l.getD (placeN l x.1) zMark) with
  | true=>rw [hb] at h;exact key _ _ h
  | false=>rw [hb] at h;exact .inl h
 | false=>rw [hf] at h;exact key _ _ h
theorem qaig (t:Ty) (xs:List t.den) (k:Nat) (v:List t.den) (bytes:Nat) (hk:k≤xs.length) (hv:v.length=1) (hr:room (xs.length+1) bytes=true):insertF t xs (k:Int) v bytes=some ((xs.take k++v++xs.drop k,()),(v,())):=by
 unfold insertF
 rw [qaz (by omega:(0:Int)≤(k:Int)),qaa,qaz (by omega:(k:Int)≤(xs.length:Int)),hr,hv,Int.toNat_natCast]
 rfl
theorem qzw (t:Ty) (xs:List t.den) (k:Nat) (hk:k<xs.length):deleteF t xs (k:Int) ((k+1:Nat):Int)=some ((xs.take k++xs.drop (k+1),()),()):=by
 unfold deleteF
 rw [qaz (by omega:(0:Int)≤(k:Int)),qaa,qag (by omega:(k:Int)<(xs.length:Int)),qno (by omega),Int.toNat_natCast]
 rfl
def fullB (l:List DMark) (x:DMark):Bool:=!foundB l x.1&&iEq (lenI l) 200
theorem qafp {m:DMap} (hl:m.2.1.length≤200) (hm:Marks m.2.1) (hk : ∀ y∈m.2.1,MarkOK y) {x:DMark} (hx:MarkOK x) :
  qay m x=some ((!fullB m.2.1 x,()),((m.1,(bif fullB m.2.1 x then m.2.1 else putL m.2.1 x),m.2.2),())):=by
 obtain ⟨sd,l,u⟩:=m
 have hl:l.length≤200:=hl
 have hm:Marks l:=hm
 have hk : ∀ y∈l,MarkOK y:=hk
 have hp:=qgx l x.1
 unfold qay fullB putL
 rw [show qd7 (sd,l,u) x.1=_ from quk (m:=(sd,l,u)) (by show l.length≤1000000;omega) hm.2 x.1]
 simp only [Option.bind_some]
 have hins:qdi l ((placeN l x.1:Nat):Int) [x]=some ((l.take (placeN l x.1)++[x]++l.drop (placeN l x.1),()),([x],())):=by
  exact qaig TyMark l (placeN l x.1) [x] 48 hp rfl (qav (by show (l.length+1)*48≤_;omega))
 cases hf:foundB l x.1 with
 | true =>
  obtain ⟨hi,hc⟩:=qy2 hf
  simp only [cond_true,Int.toNat_natCast,Bool.not_true,Bool.false_and,cond_false,Bool.not_false]
  rw [qae hi]
  simp only [cond_true]
  have hg:(l.getD (placeN l x.1) (((0,0,0,()),(0,0,0,()),0,0,0,()):DMark))=l.getD (placeN l x.1) zMark:=rfl
  rw [hg,qagx hx (hk _ (by rw [qaj hi];exact List.getElem_mem hi))]
  simp only [Option.bind_some]
  cases betterB x (l.getD (placeN l x.1) zMark) with
  | true =>
   simp only [cond_true]
   rw [List.set_eq_take_append_cons_drop,if_pos hi,List.append_assoc]
   rfl
  | false=>rfl
 | false =>
  simp only [cond_false,Bool.not_false,Bool.true_and]
  cases h2:iEq (lenI l) 200 with
  | true=>rfl
  | false =>
   simp only [cond_false]
   rw [show qdi l ((placeN l x.1:Nat):Int) ([x]:List DMark)=_ from hins]
   rfl
end
section
structure MapOK (side:Nat) (m:DMap):Prop where
 side:m.1=side
 len:m.2.1.length≤200
 marks:Marks m.2.1
 all : ∀ x∈m.2.1,MarkOK x
theorem MapOK.sized {side:Nat} {m:DMap} (h:MapOK side m):Sized TyMap m:=⟨trivial,qait (by rfl) (Nat.le_trans h.len (by decide)),trivial⟩
theorem MapOK.valid {side:Nat} {m:DMap} (hs:sideB side=true) (h:MapOK side m):mapB m=true:=qali.2 ⟨by rw [h.side];exact hs,h.len,h.marks⟩
theorem qs0 {v side:Nat} (hv:finB v=true) (hs:sideB side=true) (h:cellB v side=true) : -1000000≤cellN v side∧cellN v side≤1000000:=by
 obtain ⟨n,hn,hb⟩:=qvn (qp6 hv hs) h
 unfold cellN
 rw [hn]
 exact hb
theorem qah7 {side:Nat} {v:Vec 3 Nat} (h:iEq (cellF side v).2.1 0=true) :
  (-1000000≤Vec.getD 3 (cellF side v).1 0 (0:Int)∧Vec.getD 3 (cellF side v).1 0 (0:Int)≤1000000)∧(-1000000≤Vec.getD 3 (cellF side v).1 1 (0:Int)∧Vec.getD 3 (cellF side v).1 1 (0:Int)≤1000000)∧(-1000000≤Vec.getD 3 (cellF side v).1 2 (0:Int)∧Vec.getD 3 (cellF side v).1 2 (0:Int)≤1000000):=by
 unfold cellF at h ⊢
 cases hs:sideB side with
 | false=>rw [hs] at h;exact absurd h (by simp [iEq])
 | true =>
  cases hv:finV v with
  | false=>rw [hs,hv] at h;exact absurd h (by simp [iEq])
  | true =>
   rw [hs,hv] at h
   have hv':=hv
   unfold finV at hv'
   simp only [Bool.and_eq_true] at hv'
   cases c0:cellB (Vec.getD 3 v 0 (0:Nat)) side with
   | false=>rw [c0] at h;exact absurd h (by simp [iEq])
   | true =>
    cases c1:cellB (Vec.getD 3 v 1 (0:Nat)) side with
    | false=>rw [c0,c1] at h;exact absurd h (by simp [iEq])
    | true =>
     cases c2:cellB (Vec.getD 3 v 2 (0:Nat)) side with
     | false=>rw [c0,c1,c2] at h;exact absurd h (by simp [iEq])
     | true=>exact ⟨qs0 hv'.1 hs c0,qs0 hv'.2.1 hs c1,qs0 hv'.2.2 hs c2⟩
theorem qae7 (a b:Vec 3 Int) : ∃ v,qgr a b=some ((v,()),())∧qio a b=some ((v,()),()):=by
 have k1 : ∀ c:Int,iLt 1 c = !iLe c 1:=fun c=>by unfold iLt iLe;by_cases h:c≤1 <;> simp [h];omega
 have k2 : ∀ c:Int,iLt c (-1) = !iLe (-1) c:=fun c=>by unfold iLt iLe;by_cases h : -1≤c <;> simp [h];omega
 unfold qgr qio
 simp only [qgz,qcb,Option.bind_some,k1,k2]
 generalize iSub .i64 (iWrap .i64 (Vec.getD 3 a 0 (0:Int))) (iWrap .i64 (Vec.getD 3 b 0 (0:Int)))=c0
 generalize iSub .i64 (iWrap .i64 (Vec.getD 3 a 1 (0:Int))) (iWrap .i64 (Vec.getD 3 b 1 (0:Int)))=c1
 generalize iSub .i64 (iWrap .i64 (Vec.getD 3 a 2 (0:Int))) (iWrap .i64 (Vec.getD 3 b 2 (0:Int)))=c2
 cases iLe c0 1 <;> cases iLe (-1) c0 <;> cases iLe c1 1 <;> cases iLe (-1) c1 <;> cases iLe c2 1 <;> cases iLe (-1) c2 <;> exact ⟨_,rfl,rfl⟩
theorem qai6 (x:DMark) (v:Vec 3 Nat) : ∃ d:Nat,qiz x v=some ((d,()),())∧qf9 x v=some ((d,()),()):=by
 obtain ⟨c,⟨x0,x1,x2,⟨⟩⟩,y⟩:=x
 obtain ⟨v0,v1,v2,⟨⟩⟩:=v
 have hd : ∀ a b c:Nat,qoa ((a,b,c,()):Vec 3 Nat) ((a,b,c,()):Vec 3 Nat)=some ((fAdd .f32 (fAdd .f32 (fMul .f32 a a) (fMul .f32 b b)) (fMul .f32 c c),()),()):=fun a b c=>by
  unfold qoa
  rw [show qlw [Vec.getD 3 ((a,b,c,()):Vec 3 Nat) 0 (0:Nat),Vec.getD 3 ((a,b,c,()):Vec 3 Nat) 1 (0:Nat),Vec.getD 3 ((a,b,c,()):Vec 3 Nat) 2 (0:Nat)] [Vec.getD 3 ((a,b,c,()):Vec 3 Nat) 0 (0:Nat),Vec.getD 3 ((a,b,c,()):Vec 3 Nat) 1 (0:Nat),Vec.getD 3 ((a,b,c,()):Vec 3 Nat) 2 (0:Nat)]=_ from qaoc a b c a b c]
  rfl
 refine ⟨rootF (fAdd .f32 (fAdd .f32 (fMul .f32 (fSub .f32 x0 v0) (fSub .f32 x0 v0)) (fMul .f32 (fSub .f32 x1 v1) (fSub .f32 x1 v1))) (fMul .f32 (fSub .f32 x2 v2) (fSub .f32 x2 v2))),?_,?_⟩
 ·simp only [qiz,qs7,qabs,Option.bind_some]
  rfl
 ·have e1:qob ((x0,x1,x2,()):Vec 3 Nat) ((v0,v1,v2,()):Vec 3 Nat)=some ((((fSub .f32 x0 v0,fSub .f32 x1 v1,fSub .f32 x2 v2,()):Vec 3 Nat),()),()):=rfl
  have e2:qfa ((fSub .f32 x0 v0,fSub .f32 x1 v1,fSub .f32 x2 v2,()):Vec 3 Nat)=some ((rootF (fAdd .f32 (fAdd .f32 (fMul .f32 (fSub .f32 x0 v0) (fSub .f32 x0 v0)) (fMul .f32 (fSub .f32 x1 v1) (fSub .f32 x1 v1))) (fMul .f32 (fSub .f32 x2 v2) (fSub .f32 x2 v2))),()),()):=by
   unfold qfa
   rw [hd]
   simp only [Option.bind_some,qafq]
  show ((qob ((x0,x1,x2,()):Vec 3 Nat) ((v0,v1,v2,()):Vec 3 Nat)).bind fun y374=>(qfa y374.1.1).bind fun y375=>some ((y375.1.1,()),()))=_
  rw [e1]
  show ((qfa ((fSub .f32 x0 v0,fSub .f32 x1 v1,fSub .f32 x2 v2,()):Vec 3 Nat)).bind fun y375=>some ((y375.1.1,()),()))=_
  rw [e2]
  rfl
theorem qaf1 {m:DMap} (hl:m.2.1.length≤1000) (v:Vec 3 Nat) (g:Nat) : ∃ b code:Int,qif m v g=some ((b,code,()),())∧(b = -1∨(0≤b∧b<m.2.1.length))∧code≠6 ∧
  qcl m v g=some ((bif iEq code 0 then (bif iLt b 0 then (0,6,()) else (b,0,())) else (0,code,())),()):=by
 unfold qif qcl
 rw [qml,qnq]
 simp only [Option.bind_some]
 have hcode:(cellF m.1 v).2.1=0∨(cellF m.1 v).2.1=2∨(cellF m.1 v).2.1=3:=by
  unfold cellF
  cases sideB m.1&&finV v
  ·exact .inr (.inl rfl)
  ·cases cellB (Vec.getD 3 v 0 (0:Nat)) m.1&&(cellB (Vec.getD 3 v 1 (0:Nat)) m.1&&cellB (Vec.getD 3 v 2 (0:Nat)) m.1)
   ·exact .inr (.inr rfl)
   ·exact .inl rfl
 have i20:iEq (2:Int) 0=false:=by decide
 have i22:iEq (2:Int) 2=true:=by decide
 have i02:iEq (0:Int) 2=false:=by decide
 have i00:iEq (0:Int) 0=true:=by decide
 have i32:iEq (3:Int) 2=false:=by decide
 have i30:iEq (3:Int) 0=false:=by decide
 cases hg:fLe .f32 0 g with
 | false =>
  rcases hcode with h | h | h <;> rw [h] <;> simp only [i20,i22,i02,i00,i32,i30,Bool.not_false,Bool.not_true,cond_true,cond_false]
  all_goals exact ⟨_,_,rfl,.inl rfl,by decide,rfl⟩
 | true =>
  rcases hcode with h | h | h
  ·rw [h]
   simp only [i02,i00,Bool.not_true,cond_false]
   have r:=qanr (f:=qfu m (cellF m.1 v,()) v g) (g:=qe5 m v (cellF m.1 v,()) g) (fun s t=>s=t ∧ ∃ (b:Int) (d:Nat) (i:Nat),s=(b,d,(i:Int),())∧i≤m.2.1.length∧(b = -1∨(0≤b∧b<m.2.1.length))) (fun s=>(m.2.1.length-s.2.2.1).toNat)
    (fun a a' => ∃ b:Int,a=((b,0,()),())∧(b = -1∨(0≤b∧b<m.2.1.length))∧a'=((bif iLt b 0 then (0,6,()) else (b,0,())),())) (fun s t hI=>by
    obtain ⟨rfl,b,d,i,rfl,hi,hb⟩:=hI
    by_cases hlt:i<m.2.1.length
    ·left
     have e1:iLt (i:Int) (lenI m.2.1)=true:=qag (by rw [qaa];omega)
     have e2:inB (i:Int) m.2.1.length=true:=qae hlt
     have e5:iAdd .i64 (i:Int) 1=((i+1:Nat):Int):=qao hlt (by omega)
     have hm:((m.2.1.length:Int)-((i+1:Nat):Int)).toNat<((m.2.1.length:Int)-(i:Int)).toNat:=by omega
     obtain ⟨q,hq,hq2⟩:=qae7 (m.2.1.getD i zMark).1 (cellF m.1 v).1
     obtain ⟨x,hx,hx2⟩:=qai6 (m.2.1.getD i zMark) v
     have hq:qgr ((List.getD m.2.1 i (((0,0,0,()),(0,0,0,()),0,0,0,()):DMark)).1) (cellF m.1 v).1=some ((q,()),()):=hq
     have hq2:qio ((List.getD m.2.1 i (((0,0,0,()),(0,0,0,()),0,0,0,()):DMark)).1) (cellF m.1 v).1=some ((q,()),()):=hq2
     have hx:qiz (List.getD m.2.1 i (((0,0,0,()),(0,0,0,()),0,0,0,()):DMark)) v=some ((x,()),()):=hx
     have hx2:qf9 (List.getD m.2.1 i (((0,0,0,()),(0,0,0,()),0,0,0,()):DMark)) v=some ((x,()),()):=hx2
     unfold qfu qe5
     simp only [Int.toNat_natCast]
     rw [e1,e2,hq,e5,hx,hq2,hx2]
     simp only [cond_true,Option.bind_some]
     cases q with
     | false=>exact ⟨_,_,rfl,rfl,⟨rfl,b,d,i+1,rfl,by omega,hb⟩,hm⟩
     | true =>
      simp only [Bool.not_true,cond_false,cond_true]
      cases fLe .f32 x g with
      | false=>exact ⟨_,_,rfl,rfl,⟨rfl,b,d,i+1,rfl,by omega,hb⟩,hm⟩
      | true =>
       cases iLt b 0 with
       | true=>exact ⟨_,_,rfl,rfl,⟨rfl,(i:Int),x,i+1,rfl,by omega,.inr ⟨by omega,by omega⟩⟩,hm⟩
       | false =>
        cases fLt .f32 x d with
        | true=>exact ⟨_,_,rfl,rfl,⟨rfl,(i:Int),x,i+1,rfl,by omega,.inr ⟨by omega,by omega⟩⟩,hm⟩
        | false=>exact ⟨_,_,rfl,rfl,⟨rfl,b,d,i+1,rfl,by omega,hb⟩,hm⟩
    ·right
     have e1:iLt (i:Int) (lenI m.2.1)=false:=qah (by rw [qaa];omega)
     refine ⟨((b,0,()),()),_,?_,?_,b,rfl,hb,rfl⟩
     ·unfold qfu
      simp only
      rw [e1]
      rfl
     ·unfold qe5
      simp only
      rw [e1]
      cases iLt b 0 <;> rfl) (s:=((-1:Int),(0:Nat),(0:Int),())) (t:=((-1:Int),(0:Nat),(0:Int),())) ⟨rfl,-1,0,0,rfl,Nat.zero_le _,.inl rfl⟩
   obtain ⟨a,a',ha,ha',b,rfl,hb,rfl⟩:=r
   exact ⟨b,0,ha,hb,by decide,ha'⟩
  ·rw [h]
   simp only [i20,i22,Bool.not_false,Bool.not_true,cond_true,cond_false]
   exact ⟨_,_,rfl,.inl rfl,by decide,rfl⟩
  ·rw [h]
   simp only [i32,i30,Bool.not_false,Bool.not_true,cond_true,cond_false]
   exact ⟨_,_,rfl,.inl rfl,by decide,rfl⟩
theorem qagt {l:List DMark} (hl:l.length≤1000000):qdo l=some ((l,()),()):=by
 have r:room (0+l.length) 48=true:=qav (by omega)
 unfold qdo
 rw [r]
 cases l with
 | nil=>exact qg0 fun q=>by cases q <;> rfl
 | cons a l=>rfl
theorem qxi {m:DMap} (hl:m.2.1.length≤1000000):qf2 m=some (((m.1,m.2.1,()),()),()):=by
 unfold qf2
 rw [qagt hl]
 rfl
theorem qacm {l:List DMark} {x:DMark} : (putL l x).length=bif foundB l x.1 then l.length else l.length+1:=by
 have hp:=qgx l x.1
 unfold putL
 cases hf:foundB l x.1 with
 | true =>
  obtain ⟨hi,hc⟩:=qy2 hf
  simp only [cond_true]
  cases betterB x (l.getD (placeN l x.1) zMark) with
  | true=>simp [List.length_take];omega
  | false=>rfl
 | false=>simp [List.length_take];omega
theorem qui {l:List DMark} (hl:l.length≤200) {x:DMark} : iLt 200 (lenI (putL l x))=fullB l x:=by
 unfold fullB
 rw [qaa,qacm,qaa]
 cases foundB l x.1 with
 | true=>exact qah (by simp;omega)
 | false =>
  simp only [cond_false,Bool.not_false,Bool.true_and]
  by_cases h:l.length=200
  ·rw [h];rfl
  ·rw [qah (by omega),qa5 (by omega)]
theorem qxe {side:Nat} (hs:sideB side=true) {L:List DMark} (hL:Marks L) (hl:L.length≤200) (hk : ∀ y∈L,MarkOK y) {v:Vec 3 Nat} (hv:FitVec (fltFit .f32) 3 v) {w:Nat} (hw:sideB w=true) (hwc:fltFit .f32 w) {n t:Int} (hn:1≤n) (hn1:n≤1000000) (ht:timeB t=true) (fl fl':Bool) (a0:DMap) (u:Unit) :
  ∃ (m':DMap) (c:Vec 3 Int) (o:Bool) (code:Int),((qc6 side v).bind fun y=>bif (! (iEq y.1.2.1 0)) then some ((((0,[],()):DMap),((0,0,0,()):Vec 3 Int),false,(3:Int),()),(a0,())) else
   (qc1 L ((y.1.1,v,w,n,t,()):DMark)).bind fun z=>(qb1 side z.1.1).bind fun u=>some ((u.1.1,y.1.1,fl,u.1.2.1,()),(a0,())))=some (((m',c,o,code,()):DSeen),(a0,())) ∧
  ∃ (m2:DMap) (c2:Vec 3 Int) (o2:Bool),((qb3 side v).bind fun y=>bif (! (iEq y.1.2.1 0)) then some ((((0,[],()):DMap),((0,0,0,()):Vec 3 Int),false,(3:Int),()),()) else
   (qay ((side,L,u):DMap) ((y.1.1,v,w,n,t,()):DMark)).bind fun z=>bif (! z.1.1) then some ((((0,[],()):DMap),((0,0,0,()):Vec 3 Int),false,(3:Int),()),()) else
    some ((((z.2.1.1,z.2.1.2.1,z.2.1.2.2):DMap),y.1.1,fl',(0:Int),()),()))=some (((m2,c2,o2,code,()):DSeen),())∧(code=0→m2=m'∧MapOK side m'):=by
 rw [qml,qnq]
 simp only [Option.bind_some]
 cases hc:iEq (cellF side v).2.1 0 with
 | false=>exact ⟨_,_,_,_,rfl,_,_,_,rfl,fun h=>absurd h (by decide)⟩
 | true =>
  simp only [Bool.not_true,cond_false]
  obtain ⟨b0,b1,b2⟩:=qah7 hc
  have hx:MarkOK (((cellF side v).1,v,w,n,t,()):DMark):=by
   refine ⟨?_,b0,b1,b2,hv,hwc⟩
   unfold markB
   simp only [Bool.and_eq_true,qnp]
   exact ⟨qaky hc,hw,⟨hn,hn1⟩,ht⟩
  rw [qzo (by omega),qafp (m:=((side,L,u):DMap)) hl hL hk hx]
  simp only [Option.bind_some]
  unfold qb1
  rw [qui hl]
  cases hf:fullB L (((cellF side v).1,v,w,n,t,()):DMark) with
  | true=>exact ⟨_,_,_,_,rfl,_,_,_,rfl,fun h=>absurd h (by decide)⟩
  | false =>
   have hpm:=qad3 (x:=(((cellF side v).1,v,w,n,t,()):DMark)) (by omega) hL hx.ok
   have h200:(putL L (((cellF side v).1,v,w,n,t,()):DMark)).length≤200:=by
    have:=qui hl (x:=(((cellF side v).1,v,w,n,t,()):DMark))
    rw [hf,qaa] at this
    have:=of_decide_eq_false this
    omega
   exact ⟨_,_,_,_,rfl,_,_,_,rfl,fun _=>⟨rfl,rfl,h200,hpm.1,fun y hy=>(qahr hy).elim (hk y) (fun h=>h▸hx)⟩⟩
end
end Go.Proofs.YtjhdoneobdbeaaaGreatDoor
