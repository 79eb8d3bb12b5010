import Derived.Test.YtnndahnmlmgenaaGreatDoorP1
/- Functions of the program and of the reference in plain terms. -/
set_option linter.unusedSectionVars false
set_option linter.unusedSimpArgs false
set_option linter.unusedVariables false
namespace Go.Proofs.YtnndahnmlmgenaaGreatDoor
open Go Go.Tm
section
def le2 (m:Nat) (p t:Int):Prop:=∀ b,b≤p→b≤t→m*2^(p-b).toNat≤2^(t-b).toNat
theorem qiv {a b:Int} (h:b≤a) (c:Int) (h2:c≤b):(2:Nat)^(a-c).toNat=2^(a-b).toNat*2^(b-c).toNat:=by
 rw [← Nat.pow_add];congr 1;omega
theorem qla {m:Nat} {p t:Int} (b:Int) (h1:b≤p) (h2:b≤t) (h:m*2^(p-b).toNat≤2^(t-b).toNat):le2 m p t:=fun c c1 c2=>by
 by_cases hc:c≤b
 ·rw [qiv h1 c hc,qiv h2 c hc,← Nat.mul_assoc]
  exact Nat.mul_le_mul_right _ h
 ·have hb:b≤c:=by omega
  rw [qiv c1 b hb,qiv c2 b hb,← Nat.mul_assoc] at h
  exact Nat.le_of_mul_le_mul_right h (Nat.two_pow_pos _)
theorem qaco (p t:Int):le2 0 p t:=fun _ _ _=>by rw [Nat.zero_mul];exact Nat.zero_le _
theorem qan9 {m:Nat} {p t u:Int} (h:le2 m p t) (hu:t≤u):le2 m p u:=by
 have h1:=h (min p t) (by omega) (by omega)
 exact qla (min p t) (by omega) (by omega) (Nat.le_trans h1 (Nat.pow_le_pow_right (by decide) (by omega)))
theorem qale {m:Nat} {p t:Int} (hm:m≠0) (h:le2 m p t):p+m.log2≤t:=by
 have h1:=h (min p t) (by omega) (by omega)
 have h2:2^m.log2≤m:=Nat.log2_self_le hm
 have h3:2^(m.log2+(p-min p t).toNat)≤2^(t-min p t).toNat:=by
  rw [Nat.pow_add]
  exact Nat.le_trans (Nat.mul_le_mul_right _ h2) h1
 have:=(Nat.pow_le_pow_iff_right (a:=2) (by decide)).1 h3
 omega
theorem qaui {m:Nat} {p t:Int} (hm:m≠0) (h:le2 m p t) (ht:p+m.log2=t):m=2^m.log2:=by
 have h1:=h p (Int.le_refl _) (by omega)
 rw [show (p-p).toNat=0 by omega,Nat.pow_zero,Nat.mul_one,show (t-p).toNat=m.log2 by omega] at h1
 exact Nat.le_antisymm h1 (Nat.log2_self_le hm)
theorem qarl {f:Ieee.Format} {m:Nat} {p t:Int} (hm:m≠0) (h:le2 m p t) (ht:f.leastPlace+f.fractionBits+1≤t):(rungOf f m p:Int)≤(t-f.fractionBits-f.leastPlace+1)*2^f.fractionBits:=by
 have htop:=qale hm h
 by_cases he:p+m.log2=t
 ·have hpow:=qaui hm h he
  unfold rungOf
  rw [if_neg hm]
  simp only
  rw [show max (p+(m.log2:Int)-f.fractionBits) f.leastPlace=t-f.fractionBits by omega]
  have hk:Ieee.Toward.even.cut false (m <<< (p-(t-f.fractionBits)).toNat) (t-f.fractionBits-p).toNat=2^f.fractionBits:=by
   by_cases hp:t-f.fractionBits≤p
   ·rw [show (t-f.fractionBits-p).toNat=0 by omega,qp2,Nat.shiftLeft_eq]
    rw [hpow,← Nat.pow_add]
    congr 1
    omega
   ·rw [show (p-(t-f.fractionBits)).toNat=0 by omega,Nat.shiftLeft_eq,Nat.pow_zero,Nat.mul_one]
    generalize hd:(t-f.fractionBits-p).toNat=d
    have hd':d+f.fractionBits=m.log2:=by omega
    have e1:m=2^f.fractionBits*2^d:=by rw [← Nat.pow_add,Nat.add_comm,hd'];exact hpow
    unfold Ieee.Toward.cut
    simp only [Nat.shiftLeft_eq,Nat.one_mul]
    rw [Nat.min_eq_left (by omega:d≤m.log2+2)]
    have e2:m/2^d=2^f.fractionBits:=by rw [e1,Nat.mul_div_cancel _ (Nat.two_pow_pos _)]
    have e3:m%2^d=0:=by rw [e1,Nat.mul_mod_left]
    rw [e2,e3]
    simp
  rw [hk]
  have h0:0≤t-f.fractionBits-f.leastPlace:=by omega
  refine Int.le_trans (Int.ofNat_le.2 (Nat.min_le_left _ _)) (Int.le_of_eq ?_)
  have hbin:f.binade=2^f.fractionBits:=rfl
  rw [hbin,Int.natCast_add,Int.natCast_mul,Int.toNat_of_nonneg h0,Int.add_mul]
  simp
 ·obtain ⟨r,e1,e2,e3⟩:=qaak f false m p hm
  have e4:=qij f false m p
  rw [e4] at e1
  have e5:rungOf f m p=r:=e1
  rw [e5]
  refine Int.le_trans e3 (Int.mul_le_mul_of_nonneg_right (by omega) ?_)
  exact Int.le_of_lt (Int.pow_pos (by decide))
theorem qacu {f:Ieee.Format} {s:Bool} {r:Nat} {t:Int} (hr:r<f.infRung) (h:(r:Int)≤(t-f.fractionBits-f.leastPlace+1)*2^f.fractionBits) (ht:f.leastPlace+f.fractionBits+1≤t) : ∃ m p,f.read (f.word s r) = .number s m p∧le2 m p t:=by
 have h1:f.infRung<f.signWeight:=Ieee.Format.infRung_lt f
 have hm:f.word s r%f.signWeight=r:=qqw s (by omega)
 have hs:(f.word s r/f.signWeight%2==1)=s:=by
  have hw:f.signWeight≠0:=by omega
  cases s
  ·show (r/f.signWeight%2==1)=false
   rw [Nat.div_eq_of_lt (by omega)];rfl
  ·show ((f.signWeight+r)/f.signWeight%2==1)=true
   rw [Nat.add_div_left _ (by omega),Nat.div_eq_of_lt (by omega)];rfl
 have hbin:f.binade=2^f.fractionBits:=rfl
 unfold Ieee.Format.read
 simp only [hm,hs]
 by_cases hb:r<f.binade
 ·rw [if_pos hb]
  refine ⟨_,_,rfl,qla f.leastPlace (Int.le_refl _) (by omega) ?_⟩
  rw [show (f.leastPlace-f.leastPlace).toNat=0 by omega,Nat.pow_zero,Nat.mul_one]
  rw [hbin] at hb
  exact Nat.le_trans (Nat.le_of_lt hb) (Nat.pow_le_pow_right (by decide) (by omega))
 ·rw [if_neg hb,if_pos hr]
  refine ⟨_,_,rfl,qla f.leastPlace (by omega) (by omega) ?_⟩
  have hpos:0<f.binade:=by rw [hbin];exact Nat.two_pow_pos _
  have hdm:=Nat.div_add_mod r f.binade
  have hmod:=Nat.mod_lt r hpos
  have he1:1≤r/f.binade:=(Nat.one_le_div_iff hpos).2 (by omega)
  generalize hE:r/f.binade=e at *
  generalize hG:r%f.binade=g at *
  rw [show (f.leastPlace+((e-1:Nat):Int)-f.leastPlace).toNat=e-1 by omega]
  obtain ⟨R,hR⟩ : ∃ R:Nat,(R:Int)=t-f.fractionBits-f.leastPlace+1:=⟨(t-f.fractionBits-f.leastPlace+1).toNat,Int.toNat_of_nonneg (by omega)⟩
  have hle:r≤R*f.binade:=by
   rw [← hR] at h
   have:((R*f.binade:Nat):Int)=(R:Int)*2^f.fractionBits:=by rw [hbin,Int.natCast_mul];simp
   rw [← this] at h
   exact Int.ofNat_le.1 h
  rw [show (t-f.leastPlace).toNat=f.fractionBits+(R-1) by omega,Nat.pow_add,← hbin]
  have heR:e≤R:=by
   apply Classical.byContradiction
   intro q
   have:(R+1)*f.binade≤e*f.binade:=Nat.mul_le_mul_right _ (by omega)
   rw [Nat.succ_mul] at this
   rw [Nat.mul_comm] at hdm
   omega
  by_cases heq:e=R
  ·subst heq
   have:g=0:=by rw [Nat.mul_comm] at hdm;omega
   rw [this,Nat.add_zero]
   exact Nat.le_refl _
  ·have h2:f.binade+g≤f.binade*2:=by omega
   refine Nat.le_trans (Nat.mul_le_mul_right _ h2) ?_
   rw [Nat.mul_assoc]
   refine Nat.mul_le_mul_left _ ?_
   rw [show (2:Nat)*2^(e-1)=2^(e-1+1) by rw [Nat.pow_succ,Nat.mul_comm]]
   exact Nat.pow_le_pow_right (by decide) (by omega)
def pw (k:FloatKind) (x:Nat) (t:Int):Prop:=∃ s m p,k.decode x = .number s m p∧le2 m p t
def pwLo:FloatKind→Int
 | .f32 => -125
 | .f64 => -1021
def pwHi:FloatKind→Int
 | .f32=>127
 | .f64=>1023
theorem qq3 {k:FloatKind} {x:Nat} {t u:Int} (h:pw k x t) (hu:t≤u):pw k x u:=by
 obtain ⟨s,m,p,h1,h2⟩:=h
 exact ⟨s,m,p,h1,qan9 h2 hu⟩
theorem qgz {k:FloatKind} (s:Bool) {m:Nat} {p t:Int} (h:le2 m p t) (h1:pwLo k≤t) (h2:t≤pwHi k) : ∃ m' p',k.decode (canon k (k.encode (.number s m p))) = .number s m' p'∧le2 m' p' t:=by
 have hn:isNan k (k.encode (.number s m p))=false:=qix rfl
 rw [qan hn]
 show ∃ m' p',k.format.read (k.format.nearest s m p) = .number s m' p'∧le2 m' p' t
 rw [qij]
 have hlo:k.format.leastPlace+k.format.fractionBits+1≤t:=by cases k <;> exact h1
 have hR:(t-k.format.fractionBits-k.format.leastPlace+1)*2^k.format.fractionBits<(k.format.infRung:Int):=by
  cases k
  ·show (t-23 - -149+1)*2^23<((2^8-1)*2^23:Nat)
   have h2:t≤127:=h2
   omega
  ·show (t-52 - -1074+1)*2^52<((2^11-1)*2^52:Nat)
   have h2:t≤1023:=h2
   omega
 by_cases hm:m=0
 ·have e:rungOf k.format m p=0:=by unfold rungOf;rw [if_pos hm]
  rw [e]
  refine qacu (by cases k <;> decide) ?_ hlo
  exact Int.mul_nonneg (by omega) (Int.le_of_lt (Int.pow_pos (by decide)))
 ·have e:=qarl (f:=k.format) hm h hlo
  exact qacu (by omega) e hlo
theorem qajo {k:FloatKind} {a b:Nat} {t u:Int} (ha:pw k a t) (hb:pw k b u) (h1:pwLo k≤t+u) (h2:t+u≤pwHi k):pw k (fMul k a b) (t+u):=by
 obtain ⟨s,m,p,hd,hm⟩:=ha
 obtain ⟨s',n,q,hd',hn⟩:=hb
 have e:fMul k a b=canon k (k.encode (.number (s ^^ s') (m*n) (p+q))):=by
  unfold fMul Ieee.Format.mul
  rw [show k.format.read a = .number s m p from hd,show k.format.read b = .number s' n q from hd']
  rfl
 have hl:le2 (m*n) (p+q) (t+u):=by
  have g1:=hm (min p t) (by omega) (by omega)
  have g2:=hn (min q u) (by omega) (by omega)
  refine qla (min p t+min q u) (by omega) (by omega) ?_
  have x1:(2:Nat)^(p+q-(min p t+min q u)).toNat=2^(p-min p t).toNat*2^(q-min q u).toNat:=by rw [← Nat.pow_add];congr 1;omega
  have x2:(2:Nat)^(t+u-(min p t+min q u)).toNat=2^(t-min p t).toNat*2^(u-min q u).toNat:=by rw [← Nat.pow_add];congr 1;omega
  rw [x1,x2]
  have:=Nat.mul_le_mul g1 g2
  rw [Nat.mul_mul_mul_comm] at this
  exact this
 obtain ⟨m',p',e1,e2⟩:=qgz (k:=k) (s ^^ s') hl h1 h2
 rw [e]
 exact ⟨_,m',p',e1,e2⟩
theorem qs2 (s:Bool) (m k:Nat):(Ieee.signed s m k).natAbs=m*2^k:=by
 unfold Ieee.signed
 rw [Nat.shiftLeft_eq]
 cases s <;> simp [Int.natAbs_mul,Int.natAbs_pow]
theorem qafu {m n:Nat} {p q t:Int} (hm:le2 m p t) (hn:le2 n q t) (s s':Bool):le2 (Ieee.signed s m (p-min p q).toNat+Ieee.signed s' n (q-min p q).toNat).natAbs (min p q) (t+1):=by
 have g1:=hm (min (min p q) t) (by omega) (by omega)
 have g2:=hn (min (min p q) t) (by omega) (by omega)
 refine qla (min (min p q) t) (by omega) (by omega) ?_
 have h1:=Int.natAbs_add_le (Ieee.signed s m (p-min p q).toNat) (Ieee.signed s' n (q-min p q).toNat)
 rw [qs2,qs2] at h1
 have h2:=Nat.mul_le_mul_right (2^(min p q-min (min p q) t).toNat) h1
 rw [Nat.add_mul,Nat.mul_assoc,Nat.mul_assoc,← qiv (by omega:min p q≤p) _ (by omega),← qiv (by omega:min p q≤q) _ (by omega)] at h2
 refine Nat.le_trans h2 ?_
 rw [show (t+1-min (min p q) t).toNat=(t-min (min p q) t).toNat+1 by omega,Nat.pow_succ]
 omega
theorem qauo {k:FloatKind} {a b:Nat} {t:Int} (ha:pw k a t) (hb:pw k b t) (h1:pwLo k≤t+1) (h2:t+1≤pwHi k):pw k (fAdd k a b) (t+1):=by
 obtain ⟨s,m,p,hd,hm⟩:=ha
 obtain ⟨s',n,q,hd',hn⟩:=hb
 have e : ∃ g,fAdd k a b=canon k (k.encode (.number g (Ieee.signed s m (p-min p q).toNat+Ieee.signed s' n (q-min p q).toNat).natAbs (min p q))):=by
  unfold fAdd Ieee.Format.add
  rw [show k.format.read a = .number s m p from hd,show k.format.read b = .number s' n q from hd']
  exact ⟨_,rfl⟩
 obtain ⟨g,e⟩:=e
 obtain ⟨m',p',e1,e2⟩:=qgz (k:=k) g (qafu hm hn s s') h1 h2
 rw [e]
 exact ⟨_,m',p',e1,e2⟩
theorem qajq {k:FloatKind} {a b:Nat} {t:Int} (ha:pw k a t) (hb:pw k b t) (h1:pwLo k≤t+1) (h2:t+1≤pwHi k):pw k (fSub k a b) (t+1):=by
 obtain ⟨s,m,p,hd,hm⟩:=ha
 obtain ⟨s',n,q,hd',hn⟩:=hb
 have e : ∃ g,fSub k a b=canon k (k.encode (.number g (Ieee.signed s m (p-min p q).toNat+Ieee.signed (!s') n (q-min p q).toNat).natAbs (min p q))):=by
  unfold fSub Ieee.Format.sub
  rw [show k.format.read a = .number s m p from hd,show k.format.read b = .number s' n q from hd']
  exact ⟨_,rfl⟩
 obtain ⟨g,e⟩:=e
 obtain ⟨m',p',e1,e2⟩:=qgz (k:=k) g (qafu hm hn s (!s')) h1 h2
 rw [e]
 exact ⟨_,m',p',e1,e2⟩
theorem qatl {k:FloatKind} {a b:Nat} {v:Int} {s s':Bool} {m n:Nat} {i j:Int} (ha:k.decode a = .number s m i) (hb:k.decode b = .number s' n j) (hn:n≠0)
  (h : ∀ c,c≤i→c≤j+v→m*2^(i-c).toNat≤n*2^(j+v-c).toNat) (h1:pwLo k≤v) (h2:v≤pwHi k) : ∃ m' p',k.decode (fDiv k a b) = .number (s ^^ s') m' p'∧le2 m' p' v:=by
 have e:fDiv k a b=canon k (k.encode (.number (s ^^ s') (2*((m <<< (k.format.fractionBits+2+n.log2-m.log2))/n)+((m <<< (k.format.fractionBits+2+n.log2-m.log2))%n != 0).toNat) (i-j-(k.format.fractionBits+2+n.log2-m.log2:Nat)-1))):=by
  unfold fDiv Ieee.Format.div
  rw [show k.format.read a = .number s m i from ha,show k.format.read b = .number s' n j from hb]
  simp only [Ieee.Datum.quotient,if_neg hn,Option.map_some,orNan]
  rfl
 generalize hmore:k.format.fractionBits+2+n.log2-m.log2=more at e
 have hl:le2 (2*((m <<< more)/n)+((m <<< more)%n != 0).toNat) (i-j-(more:Nat)-1) v:=by
  by_cases hm0:m=0
  ·subst hm0
   simp only [Nat.zero_shiftLeft,Nat.zero_div,Nat.zero_mod]
   exact qaco _ _
  ·
   have hnl:=Nat.log2_self_le hn
   have hnl2:n<2^(n.log2+1):=Nat.lt_log2_self
   have hml:=Nat.log2_self_le hm0
   have htop:i+m.log2≤j+n.log2+v:=by
    have g1:=h (min i (j+v)) (by omega) (by omega)
    have g2:2^(m.log2+(i-min i (j+v)).toNat)<2^(n.log2+1+(j+v-min i (j+v)).toNat):=by
     rw [Nat.pow_add,Nat.pow_add]
     exact Nat.lt_of_le_of_lt (Nat.le_trans (Nat.mul_le_mul_right _ hml) g1) (Nat.mul_lt_mul_of_pos_right hnl2 (Nat.two_pow_pos _))
    have:=(Nat.pow_lt_pow_iff_right (a:=2) (by decide)).1 g2
    omega
   have hplace:i-j-(more:Nat)≤v:=by omega
   refine qla (i-j-(more:Nat)-1) (Int.le_refl _) (by omega) ?_
   rw [show (i-j-(more:Nat)-1-(i-j-(more:Nat)-1)).toNat=0 by omega,Nat.pow_zero,Nat.mul_one]
   obtain ⟨T,hT⟩ : ∃ T:Nat,(v-(i-j-(more:Nat)-1)).toNat=T+1:=⟨(v-(i-j-(more:Nat))).toNat,by omega⟩
   rw [hT,Nat.pow_succ,Nat.shiftLeft_eq]
   have hq:m*2^more≤n*2^T:=by
    have g1:=h (min i (j+v)-more) (by omega) (by omega)
    have g2:m*2^more*2^(i-min i (j+v)).toNat≤n*2^T*2^(i-min i (j+v)).toNat:=by
     rw [Nat.mul_assoc,Nat.mul_assoc,← Nat.pow_add,← Nat.pow_add]
     rw [show more+(i-min i (j+v)).toNat=(i-(min i (j+v)-(more:Int))).toNat by omega,show T+(i-min i (j+v)).toNat=(j+v-(min i (j+v)-(more:Int))).toNat by omega]
     exact g1
    exact Nat.le_of_mul_le_mul_right g2 (Nat.two_pow_pos _)
   have hdm:=Nat.div_add_mod (m*2^more) n
   have hw:m*2^more/n≤2^T:=Nat.div_le_of_le_mul (by exact hq)
   by_cases hr:m*2^more%n=0
   ·rw [hr]
    simp only [bne_self_eq_false,Bool.toNat_false]
    omega
   ·have hlt:m*2^more/n<2^T:=by
     apply Classical.byContradiction
     intro q
     have e1:m*2^more/n=2^T:=by omega
     rw [e1] at hdm
     omega
    have:=Bool.toNat_le (m*2^more%n != 0)
    omega
 obtain ⟨m',p',e1,e2⟩:=qgz (k:=k) (s ^^ s') hl h1 h2
 rw [e]
 exact ⟨m',p',e1,e2⟩
theorem qaup {k:FloatKind} {a b:Nat} {v:Int} {s s':Bool} {m n:Nat} {i j:Int} (ha:k.decode a = .number s m i) (hb:k.decode b = .number s' n j) (hn:n≠0)
  (h : ∀ c,c≤i→c≤j+v→m*2^(i-c).toNat≤n*2^(j+v-c).toNat) (h1:pwLo k≤v) (h2:v≤pwHi k):pw k (fDiv k a b) v:=by
 obtain ⟨m',p',e1,e2⟩:=qatl ha hb hn h h1 h2
 exact ⟨_,m',p',e1,e2⟩
theorem qatk {x:Nat} {t:Int} (h:pw .f64 x t) (h1 : -125≤t) (h2:t≤127) : ∃ y,fConv .f64 .f32 x=some y∧pw .f32 y t:=by
 obtain ⟨s,m,p,hd,hm⟩:=h
 obtain ⟨m',p',e1,e2⟩:=qgz (k:=.f32) s hm h1 h2
 have hn:isNan .f32 (FloatKind.f32.encode (.number s m p))=false:=qix rfl
 have e1':=e1
 rw [qan hn] at e1'
 refine ⟨canon .f32 (FloatKind.f32.encode (.number s m p)),?_,s,m',p',e1,e2⟩
 unfold fConv
 rw [hd]
 simp only [e1']
 rfl
end
section
theorem qasb {M d q r:Nat} (hM:M=q*2^(d+3)+r) (hr:r≤2^d) (hd:d+3≤M.log2+2):Ieee.Toward.even.cut false M (d+3)=q:=by
 have h8:2^(d+3)=8*2^d:=by rw [Nat.pow_add];omega
 have hp:0<2^d:=Nat.two_pow_pos d
 have e2:M/2^(d+3)=q:=by
  rw [hM,Nat.mul_comm,Nat.mul_add_div (Nat.two_pow_pos _),Nat.div_eq_of_lt (by omega)];omega
 have e3:M%2^(d+3)=r:=by
  rw [hM,Nat.mul_comm,Nat.mul_add_mod,Nat.mod_eq_of_lt (by omega)]
 unfold Ieee.Toward.cut
 simp only [Nat.shiftLeft_eq,Nat.one_mul]
 rw [Nat.min_eq_left hd,e2,e3]
 have h1:¬ (2^(d+3)<2*r):=by omega
 have h2:¬ (2^(d+3)=2*r):=by omega
 have h3:¬ (2*r>2^(d+3)):=by omega
 have h4:¬ (2*r=2^(d+3)):=by omega
 simp [h1,h2,h3,h4]
theorem qarm {M u:Nat} {P:Int} (hP:P+u=20) (h1:2^(u+26)<M) (h2:M≤2^(u+26)+2^u) :
  (rungOf FloatKind.f32.format M P:Int)≤(46-23 - -149+1)*2^23:=by
 have h26:2^(u+26)=67108864*2^u:=by rw [Nat.pow_add];omega
 have hp:0<2^u:=Nat.two_pow_pos u
 have hm:M≠0:=by omega
 have hl:M.log2=u+26:=by
  have a:u+26≤M.log2:=(Nat.le_log2 hm).2 (Nat.le_of_lt h1)
  have b:M.log2<u+27:=(Nat.log2_lt hm).2 (by rw [Nat.pow_succ];omega)
  omega
 unfold rungOf
 rw [if_neg hm]
 simp only
 have hf:(FloatKind.f32.format.fractionBits:Int)=23:=rfl
 have hL:FloatKind.f32.format.leastPlace = -149:=rfl
 rw [hf,hL,hl,show max (P+((u+26:Nat):Int)-23) (-149)=23 by omega]
 rw [show (P-23).toNat=0 by omega,show (23-P).toNat=u+3 by omega,Nat.shiftLeft_eq,Nat.pow_zero,Nat.mul_one]
 have h83:8388608*2^(u+3)=2^(u+26):=by rw [h26,Nat.pow_add];omega
 rw [qasb (M:=M) (d:=u) (q:=8388608) (r:=M-2^(u+26)) (by omega) (by omega) (by omega)]
 have hb:FloatKind.f32.format.binade=8388608:=rfl
 rw [hb]
 refine Int.le_trans (Int.ofNat_le.2 (Nat.min_le_left _ _)) ?_
 decide
theorem qajr (s:Bool) {M:Nat} {P:Int} (h : ∀ b,b≤P→b≤20→M*2^(P-b).toNat≤2^(46-b).toNat+2^(20-b).toNat) :
  ∃ m' p',FloatKind.f32.decode (canon .f32 (FloatKind.f32.encode (.number s M P))) = .number s m' p'∧le2 m' p' 46:=by
 by_cases h46:le2 M P 46
 ·exact qgz (k:=.f32) s h46 (by decide) (by decide)
 ·have hg:¬ M*2^(P-min P 20).toNat≤2^(46-min P 20).toNat:=fun q=>h46 (qla (min P 20) (by omega) (by omega) q)
  have hh:=h (min P 20) (by omega) (by omega)
  have hP:P≤20:=by
   rcases Int.lt_or_le 20 P with hlt | hle
   ·exfalso
    rw [show min P 20=20 by omega,show (46-20:Int).toNat=26 by omega] at hh hg
    rw [show (20-20:Int).toNat=0 by omega] at hh
    obtain ⟨k,hk⟩ : ∃ k:Nat,(P-20).toNat=k+1:=⟨(P-20).toNat-1,by omega⟩
    rw [hk,Nat.pow_succ] at hh hg
    have e:M*(2^k*2)=2*(M*2^k):=by rw [← Nat.mul_assoc,Nat.mul_comm]
    rw [e] at hh hg
    omega
   ·exact hle
  rw [show min P 20=P by omega,show (P-P).toNat=0 by omega,Nat.pow_zero,Nat.mul_one] at hh hg
  obtain ⟨u,hu⟩ : ∃ u:Nat,P+u=20:=⟨(20-P).toNat,by omega⟩
  rw [show (46-P).toNat=u+26 by omega] at hh hg
  rw [show (20-P).toNat=u by omega] at hh
  have hn:isNan .f32 (FloatKind.f32.encode (.number s M P))=false:=qix rfl
  rw [qan hn]
  show ∃ m' p',FloatKind.f32.format.read (FloatKind.f32.format.nearest s M P) = .number s m' p'∧le2 m' p' 46
  rw [qij]
  have e:=qarm (M:=M) (u:=u) (P:=P) hu (by omega) hh
  have hR:((46-23 - -149+1)*2^23:Int)<(FloatKind.f32.format.infRung:Int):=by decide
  exact qacu (f:=FloatKind.f32.format) (t:=46) (by omega) e (by decide)
theorem qatv {m n:Nat} {p q:Int} (hm:le2 m p 46) (hn:le2 n q 20) (s s':Bool) : ∀ b,b≤min p q→b≤20 →
  (Ieee.signed s m (p-min p q).toNat+Ieee.signed s' n (q-min p q).toNat).natAbs*2^(min p q-b).toNat≤2^(46-b).toNat+2^(20-b).toNat:=by
 intro b h1 h2
 have g1:=hm b (by omega) (by omega)
 have g2:=hn b (by omega) (by omega)
 have h3:=Int.natAbs_add_le (Ieee.signed s m (p-min p q).toNat) (Ieee.signed s' n (q-min p q).toNat)
 rw [qs2,qs2] at h3
 have h4:=Nat.mul_le_mul_right (2^(min p q-b).toNat) h3
 rw [Nat.add_mul,Nat.mul_assoc,Nat.mul_assoc,← qiv (by omega:min p q≤p) _ (by omega),← qiv (by omega:min p q≤q) _ (by omega)] at h4
 omega
theorem qajp {a b:Nat} (ha:pw .f32 a 46) (hb:pw .f32 b 20):pw .f32 (fAdd .f32 a b) 46:=by
 obtain ⟨s,m,p,hd,hm⟩:=ha
 obtain ⟨s',n,q,hd',hn⟩:=hb
 have e : ∃ g,fAdd .f32 a b=canon .f32 (FloatKind.f32.encode (.number g (Ieee.signed s m (p-min p q).toNat+Ieee.signed s' n (q-min p q).toNat).natAbs (min p q))):=by
  unfold fAdd Ieee.Format.add
  rw [show FloatKind.f32.format.read a = .number s m p from hd,show FloatKind.f32.format.read b = .number s' n q from hd']
  exact ⟨_,rfl⟩
 obtain ⟨g,e⟩:=e
 obtain ⟨m',p',e1,e2⟩:=qajr g (qatv hm hn s s')
 rw [e]
 exact ⟨_,m',p',e1,e2⟩
theorem qaet {x:Nat} {t:Int} (h:pw .f32 x t):finB x=true:=by
 obtain ⟨s,m,p,hd,-⟩:=h
 exact qex.2 ⟨s,m,p,hd⟩
end
section
def joinC (c:UInt8):List (List UInt8)→List UInt8
 | []=>[]
 | [w]=>w
 | w :: v :: r=>w++c :: joinC c (v :: r)
theorem qtb (c:UInt8) : ∀ (n:Nat) (s:List UInt8),s.length≤n→joinC c (splitC c s)=s:=by
 intro n
 induction n with
 | zero =>
  intro s h
  have:s=[]:=List.length_eq_zero_iff.1 (by omega)
  subst this;rfl
 | succ n ih =>
  intro s h
  rcases qku c s with hf | ⟨p,r,rfl,hf⟩
  ·rw [qfa hf];rfl
  ·rw [qf8 r hf]
   have hl:r.length≤n:=by simp at h;omega
   cases hr:splitC c r with
   | nil=>exact absurd hr (qli c r)
   | cons x y =>
    show p++c :: joinC c (x :: y)=_
    rw [← hr,ih r hl]
theorem qly (c:UInt8) : ∀ ws:List (List UInt8),ws≠[]→(∀ w∈ws,c∉w)→splitC c (joinC c ws)=ws
 | [],h,_=>absurd rfl h
 | [w],_,h=>qfa (h w (by simp))
 | w :: v :: r,_,h=>by
  show splitC c (w++c :: joinC c (v :: r))=_
  rw [qf8 _ (h w (by simp)),qly c (v :: r) (by simp) (fun x hx=>h x (List.mem_cons_of_mem _ hx))]
theorem qvm {c d:UInt8} (hcd:d≠c) : ∀ ws:List (List UInt8),(∀ w∈ws,d∉w)→d∉joinC c ws
 | [],_=>by simp [joinC]
 | [w],h=>h w (by simp)
 | w :: v :: r,h=>by
  show d∉w++c :: joinC c (v :: r)
  intro hd
  rcases List.mem_append.1 hd with hd | hd
  ·exact h w (by simp) hd
  ·rcases List.mem_cons.1 hd with hd | hd
   ·exact hcd hd
   ·exact qvm hcd (v :: r) (fun x hx=>h x (List.mem_cons_of_mem _ hx)) hd
def linesT (Ls:List (List UInt8)):List UInt8:=Ls.flatMap fun x=>x++[10]
theorem qace : ∀ Ls:List (List UInt8),(∀ x∈Ls,(10:UInt8)∉x)→splitC 10 (linesT Ls)=Ls++[[]]
 | [],_=>rfl
 | x :: Ls,h=>by
  have e:linesT (x :: Ls)=x++10 :: linesT Ls:=by
   unfold linesT;rw [List.flatMap_cons];simp
  rw [e,qf8 _ (h x (by simp)),qace Ls (fun y hy=>h y (List.mem_cons_of_mem _ hy))]
  rfl
theorem qael : ∀ Ls:List (List UInt8),joinC 10 (Ls++[[]])=linesT Ls
 | []=>rfl
 | x :: Ls=>by
  have e:linesT (x :: Ls)=x++10 :: linesT Ls:=by
   unfold linesT;rw [List.flatMap_cons];simp
  rw [e,← qael Ls]
  cases Ls <;> rfl
theorem qaqt {s:List UInt8} {Ls:List (List UInt8)} (h:splitC 10 s=Ls++[[]]):s=linesT Ls:=by
 rw [← qael,← h,qtb 10 s.length s (Nat.le_refl _)]
end
section
def hex8 (a:Nat):List UInt8:=hexP 8 (bitsOf a)
def vecW (v:Vec 3 Nat):List (List UInt8):=[hex8 v.1,hex8 v.2.1,hex8 v.2.2.1]
def wLog:List UInt8:=[108,111,103]
def wBea:List UInt8:=[98,101,97,99,111,110]
def wTick:List UInt8:=[116,105,99,107]
def wMov:List UInt8:=[109,111,118,101]
def wFi:List UInt8:=[102,105,120]
def wRan:List UInt8:=[114,97,110,103,101]
def entW (e:DEntry):List (List UInt8) :=
 bif iEq e.1 1 then [wTick] else bif iEq e.1 2 then wMov :: vecW e.2.1 else bif iEq e.1 3 then [wFi,Lib.itoa e.2.2.1.1,Lib.itoa e.2.2.1.2.1,Lib.itoa e.2.2.1.2.2.1] else [wRan,Lib.itoa e.2.2.2.1,hex8 e.2.2.2.2.1]
def headL (a:Int) (v:Vec 3 Nat):List UInt8:=joinC 32 (wLog :: Lib.itoa a :: vecW v)
def beaL (v:Vec 3 Nat):List UInt8:=joinC 32 (wBea :: vecW v)
def entL (e:DEntry):List UInt8:=joinC 32 (entW e)
def logL (l:DLog):List (List UInt8):=headL l.1 l.2.1 :: (l.2.2.1.map beaL++l.2.2.2.1.map entL)
def logT (l:DLog):List UInt8:=linesT (logL l)
theorem qan2 {c:UInt8} (hc:c=32∨c=10) {d:Nat} (h:d<16):hexC d≠c:=by
 have key : ∀ d:Fin 16,hexC d.val≠32∧hexC d.val≠10:=by decide
 rcases hc with rfl | rfl
 ·exact (key ⟨d,h⟩).1
 ·exact (key ⟨d,h⟩).2
theorem qz4 {c:UInt8} (hc:c=32∨c=10) : ∀ k n,c∉hexP k n
 | 0,_=>by simp [hexP]
 | k+1,n=>by
  rw [hexP]
  intro h
  rcases List.mem_append.1 h with h | h
  ·exact qz4 hc k _ h
  ·rw [List.mem_singleton] at h
   exact qan2 hc (Nat.mod_lt n (by decide)) h.symm
theorem qrs {c:UInt8} (hc:c=32∨c=10) (n:Int):c∉Lib.itoa n:=by
 have hd : ∀ u,c∉Lib.decDigits u:=fun u=>by
  rcases hc with rfl | rfl
  ·exact qv7 rfl u
  ·exact qv7 rfl u
 unfold Lib.itoa
 split
 ·intro h
  rcases List.mem_cons.1 h with h | h
  ·rcases hc with rfl | rfl <;> exact absurd h (by decide)
  ·exact hd _ h
 ·exact hd _
theorem qaa5 {c:UInt8} (hc:c=32∨c=10) (v:Vec 3 Nat) : ∀ w∈vecW v,c∉w:=by
 intro w hw
 unfold vecW at hw
 simp only [List.mem_cons,List.mem_nil_iff,or_false] at hw
 rcases hw with rfl | rfl | rfl <;> exact qz4 hc 8 _
theorem qlz {c:UInt8} (hc:c=32∨c=10) {w:List UInt8} (h:w=wLog∨w=wBea∨w=wTick∨w=wMov∨w=wFi∨w=wRan):c∉w:=by
 rcases hc with rfl | rfl <;> rcases h with rfl | rfl | rfl | rfl | rfl | rfl <;> decide
theorem qady {c:UInt8} (hc:c=32∨c=10) (a:Int) (v:Vec 3 Nat) : ∀ w∈wLog :: Lib.itoa a :: vecW v,c∉w:=by
 intro w hw
 rcases List.mem_cons.1 hw with rfl | hw
 ·exact qlz hc (.inl rfl)
 ·rcases List.mem_cons.1 hw with rfl | hw
  ·exact qrs hc a
  ·exact qaa5 hc v w hw
theorem qzp {c:UInt8} (hc:c=32∨c=10) (v:Vec 3 Nat) : ∀ w∈wBea :: vecW v,c∉w:=by
 intro w hw
 rcases List.mem_cons.1 hw with rfl | hw
 ·exact qlz hc (.inr (.inl rfl))
 ·exact qaa5 hc v w hw
theorem qzu {c:UInt8} (hc:c=32∨c=10) (e:DEntry) : ∀ w∈entW e,c∉w:=by
 intro w hw
 unfold entW at hw
 generalize iEq e.1 1=b1 at hw
 generalize iEq e.1 2=b2 at hw
 generalize iEq e.1 3=b3 at hw
 cases b1 with
 | true =>
  simp only [cond_true,List.mem_singleton] at hw
  subst hw
  exact qlz hc (.inr (.inr (.inl rfl)))
 | false =>
  cases b2 with
  | true =>
   rcases List.mem_cons.1 hw with rfl | hw
   ·exact qlz hc (.inr (.inr (.inr (.inl rfl))))
   ·exact qaa5 hc _ w hw
  | false =>
   cases b3 with
   | true =>
    simp only [cond_true,cond_false,List.mem_cons,List.mem_nil_iff,or_false] at hw
    rcases hw with rfl | rfl | rfl | rfl
    ·exact qlz hc (.inr (.inr (.inr (.inr (.inl rfl)))))
    ·exact qrs hc _
    ·exact qrs hc _
    ·exact qrs hc _
   | false =>
    simp only [cond_false,List.mem_cons,List.mem_nil_iff,or_false] at hw
    rcases hw with rfl | rfl | rfl
    ·exact qlz hc (.inr (.inr (.inr (.inr (.inr rfl)))))
    ·exact qrs hc _
    ·exact qz4 hc 8 _
theorem qak6 (e:DEntry):entW e≠[]:=by
 unfold entW
 cases iEq e.1 1 <;> cases iEq e.1 2 <;> cases iEq e.1 3 <;> simp
theorem qaod (l:DLog) : ∀ x∈logL l,(10:UInt8)∉x:=by
 intro x hx
 rcases List.mem_cons.1 hx with rfl | hx
 ·exact qvm (by decide) _ (qady (.inr rfl) _ _)
 ·rcases List.mem_append.1 hx with hx | hx
  ·obtain ⟨v,_,rfl⟩:=List.mem_map.1 hx
   exact qvm (by decide) _ (qzp (.inr rfl) _)
  ·obtain ⟨e,_,rfl⟩:=List.mem_map.1 hx
   exact qvm (by decide) _ (qzu (.inr rfl) _)
theorem qyj (l:DLog):splitC 10 (logT l)=logL l++[[]]:=qace _ (qaod l)
def goodN (a:Nat):Prop:=numR (hex8 a)=some a
theorem qaot {s:List UInt8} {a:Nat} (h:numR s=some a):hex8 a=s∧goodN a:=by
 have e:hex8 a=s:=(qahj h).2
 exact ⟨e,by unfold goodN;rw [e];exact h⟩
def goodV (v:Vec 3 Nat):Prop:=goodN v.1∧goodN v.2.1∧goodN v.2.2.1
theorem qaou (r:DRd) (h:(wordOf r).length≤1048576) : ∃ a:Nat,qa0 r=some ((a,()),((r.1.drop 1,((r.1.isEmpty||r.2.1)||(numR (wordOf r)).isNone,())),())) ∧ ∀ x,numR (wordOf r)=some x→a=x:=by
 obtain ⟨ws,f,⟨⟩⟩:=r
 have hw:=qce (ws,f,())
 have hn:=qz5 h
 unfold qa0
 rw [hw]
 simp only [Option.bind_some]
 rw [hn]
 cases hr:numR (wordOf (ws,f,())) with
 | none =>
  refine ⟨0,?_,fun x hx=>by cases hx⟩
  simp only [Option.bind_some,restOf]
  cases (ws.isEmpty||f) <;> rfl
 | some a =>
  refine ⟨a,?_,fun x hx=>Option.some.inj hx⟩
  simp only [Option.bind_some,restOf]
  cases (ws.isEmpty||f) <;> rfl
theorem qaa6 {r:DRd} (h : ∀ w∈r.1,w.length≤1048576):(wordOf r).length≤1048576:=by
 obtain ⟨ws,f⟩:=r
 cases ws with
 | nil=>exact Nat.zero_le _
 | cons w ws=>exact h w (by simp)
theorem qq2 {r:DRd} (h : ∀ w∈r.1,w.length≤1048576) : ∃ (a:Nat) (r':DRd),qa0 r=some ((a,()),(r',()))∧r'.1=r.1.drop 1 ∧
  (r'.2.1=false→r.2.1=false ∧ ∃ ws,r.1=hex8 a :: ws∧goodN a)∧(∀ x ws,r.2.1=false→r.1=hex8 x :: ws→goodN x→a=x∧r'.2.1=false):=by
 obtain ⟨a,h1,h2⟩:=qaou r (qaa6 h)
 refine ⟨a,_,h1,rfl,fun hf => ?_,fun x ws h3 h4 h5 => ?_⟩
 ·simp only [Bool.or_eq_false_iff] at hf
  obtain ⟨⟨f1,f2⟩,f3⟩:=hf
  refine ⟨f2,?_⟩
  obtain ⟨ws,f,⟨⟩⟩:=r
  cases ws with
  | nil=>cases f1
  | cons w ws =>
   cases hn:numR (wordOf (w :: ws,f,())) with
   | none=>rw [hn] at f3;cases f3
   | some x =>
    have:=h2 x hn
    subst this
    obtain ⟨e1,e2⟩:=qaot hn
    exact ⟨ws,by rw [e1];rfl,e2⟩
 ·have hw:wordOf r=hex8 x:=by unfold wordOf;rw [h4];rfl
  have hn:numR (wordOf r)=some x:=by rw [hw];exact h5
  refine ⟨h2 x hn,?_⟩
  rw [hn,h3,h4]
  rfl
theorem qyy {r:DRd} (h : ∀ w∈r.1,w.length≤1048576) : ∃ (v:Vec 3 Nat) (r':DRd),qbb r=some ((v,()),(r',()))∧r'.1=r.1.drop 3 ∧
  (r'.2.1=false→r.2.1=false ∧ ∃ ws,r.1=vecW v++ws∧goodV v)∧(∀ x ws,r.2.1=false→r.1=vecW x++ws→goodV x→v=x∧r'.2.1=false):=by
 obtain ⟨a,r1,e1,p1,q1,s1⟩:=qq2 h
 obtain ⟨b,r2,e2,p2,q2,s2⟩:=qq2 (r:=r1) (fun w hw=>h w (by rw [p1] at hw;exact List.mem_of_mem_drop hw))
 obtain ⟨c,r3,e3,p3,q3,s3⟩:=qq2 (r:=r2) (fun w hw=>h w (by rw [p2,p1] at hw;exact List.mem_of_mem_drop (List.mem_of_mem_drop hw)))
 refine ⟨(a,b,c,()),r3,?_,?_,fun hf => ?_,fun x ws h1 h2 h3 => ?_⟩
 ·unfold qbb
  show (qa0 r).bind _=_
  rw [e1]
  simp only [Option.bind_some]
  show (qa0 r1).bind _=_
  rw [e2]
  simp only [Option.bind_some]
  show (qa0 r2).bind _=_
  rw [e3]
  rfl
 ·rw [p3,p2,p1,List.drop_drop,List.drop_drop]
 ·obtain ⟨f2,ws3,w3,g3⟩:=q3 hf
  obtain ⟨f1,ws2,w2,g2⟩:=q2 f2
  obtain ⟨f0,ws1,w1,g1⟩:=q1 f1
  refine ⟨f0,ws3,?_,g1,g2,g3⟩
  rw [p1,w1] at w2
  rw [p2,p1,w1] at w3
  simp only [List.drop_succ_cons,List.drop_zero] at w2 w3
  rw [w1,w2]
  rw [w2] at w3
  simp only [List.drop_succ_cons,List.drop_zero] at w3
  rw [w3]
  rfl
 ·obtain ⟨x0,x1,x2,⟨⟩⟩:=x
  obtain ⟨g1,g2,g3⟩:=h3
  have h2':r.1=hex8 x0 :: hex8 x1 :: hex8 x2 :: ws:=h2
  obtain ⟨rfl,f1⟩:=s1 x0 _ h1 h2' g1
  obtain ⟨rfl,f2⟩:=s2 x1 _ f1 (by rw [p1,h2'];rfl) g2
  obtain ⟨rfl,f3⟩:=s3 x2 _ f2 (by rw [p2,p1,h2'];rfl) g3
  exact ⟨rfl,f3⟩
theorem qamt {n:Int} (h : -999999999≤n) (h1:n≤999999999):parseInt64 (Lib.itoa n)=(n,true):=by
 by_cases h0:0≤n
 ·rw [qai1 h0,qsp (by omega),Int.toNat_of_nonneg h0]
 ·obtain ⟨u,rfl⟩ : ∃ u:Nat,n = -(u:Int):=⟨n.natAbs,by omega⟩
  have hu:1≤u:=by omega
  obtain ⟨h1,h2,_⟩:=qdv u
  have hp:=qr7 (Lib.decDigits u) 0 h1 (by rw [h2];omega)
  rw [h2] at hp
  have hne:=qr1 u
  rw [Lib.itoa_neg u hu]
  unfold parseInt64
  have:Lib.parseIntB 64 (45 :: Lib.decDigits u) = .ok (-(u:Int)):=by
   unfold Lib.parseIntB
   have hd:¬ (Lib.decDigits u=[]):=by intro h;rw [h] at hne;simp at hne
   simp only [if_pos (show ((45:UInt8).toNat=43∨(45:UInt8).toNat=45) by decide),Lib.parseUintB,if_neg hd,hp]
   rw [if_neg (by intro h;exact h.1 rfl),if_neg (by omega),if_pos (by decide)]
  rw [this]
theorem qt3 {r:DRd} (h : ∀ w∈r.1,w.length≤1048576) : ∃ (n:Int) (r':DRd),qak r=some ((n,()),(r',()))∧r'.1=r.1.drop 1 ∧
  (r'.2.1=false→r.2.1=false ∧ ∃ ws,r.1=Lib.itoa n :: ws)∧(∀ x ws,r.2.1=false→r.1=Lib.itoa x :: ws → -999999999≤x→x≤999999999→n=x∧r'.2.1=false):=by
 refine ⟨intOf r,intRest r,qr4 (qaa6 h),rfl,fun hf => ?_,fun x ws h1 h2 h3 h4 => ?_⟩
 ·unfold intRest at hf
  simp only [Bool.or_eq_false_iff,Bool.not_eq_false'] at hf
  obtain ⟨⟨f1,f2⟩,f3,f4⟩:=hf
  refine ⟨f2,?_⟩
  obtain ⟨ws,f,⟨⟩⟩:=r
  cases ws with
  | nil=>cases f1
  | cons w ws =>
   refine ⟨ws,?_⟩
   have:Lib.itoa (intOf (w :: ws,f,()))=w:=by simpa [sEq,wordOf] using f4
   rw [this]
 ·have hw:wordOf r=Lib.itoa x:=by unfold wordOf;rw [h2];rfl
  have hp:=qamt h3 h4
  have hi:intOf r=x:=by unfold intOf;rw [hw,hp]
  refine ⟨hi,?_⟩
  unfold intRest
  simp only
  rw [hw,hi,hp,qac0,h1,h2]
  rfl
def goodE (e:DEntry):Prop:=(e.1=2→goodV e.2.1)∧(e.1=3→(-32768≤e.2.2.1.1∧e.2.2.1.1≤32767)∧(-32768≤e.2.2.1.2.1∧e.2.2.1.2.1≤32767)∧(-32768≤e.2.2.1.2.2.1∧e.2.2.1.2.2.1≤32767))∧(e.1=4→goodN e.2.2.2.2.1)
def endedB (r:DRd):Bool:=!r.2.1&&r.1.isEmpty
theorem qadf {c:Vec 3 Int} (h:zeroC c=true):c=(0,0,0,()):=by
 obtain ⟨a,b,d,⟨⟩⟩:=c
 have h':(iEq a 0&&(iEq b 0&&iEq d 0))=true:=h
 simp only [Bool.and_eq_true,qas] at h'
 obtain ⟨rfl,rfl,rfl⟩:=h'
 rfl
theorem qac1 {v:Vec 3 Nat} (h:sameV v (0,0,0,())=true):v=(0,0,0,()):=by
 obtain ⟨a,b,d,⟨⟩⟩:=v
 have h':(sameN a 0&&(sameN b 0&&sameN d 0))=true:=h
 simp only [Bool.and_eq_true] at h'
 rw [qe9 h'.1,qe9 h'.2.1,qe9 h'.2.2]
 rfl
theorem qxf {a b:List UInt8} (h:a≠b):sEq a b=false:=by
 cases e:sEq a b with
 | false=>rfl
 | true=>exact absurd (by simpa [sEq] using e) h
theorem qf4 {n:Int} {e:DEntry} (h:entryB n e=true):(e=(1,(0,0,0,()),(0,0,0,()),0,0,()))∨(∃ v:Vec 3 Nat,e=(2,v,(0,0,0,()),0,0,())∧finV v=true)∨(∃ c:Vec 3 Int,e=(3,(0,0,0,()),c,0,0,())) ∨
  (∃ (k:Int) (a:Nat),e=(4,(0,0,0,()),(0,0,0,()),k,a,())∧0≤k∧k≤iSub .i64 n 1∧finB a=true):=by
 obtain ⟨q,v,c,k,a,⟨⟩⟩:=e
 unfold entryB at h
 simp only at h
 by_cases h1:q=1
 ·subst h1
  have e1:iEq (1:Int) 1=true:=by decide
  rw [e1] at h
  simp only [cond_true,Bool.and_eq_true,qas] at h
  obtain ⟨ha,hb,hc,hd⟩:=h
  rw [qac1 ha,qadf hb,hc,qe9 hd]
  exact .inl rfl
 ·rw [qaz h1] at h
  by_cases h2:q=2
  ·subst h2
   have e1:iEq (2:Int) 2=true:=by decide
   rw [e1] at h
   simp only [cond_true,cond_false,Bool.and_eq_true,qas] at h
   obtain ⟨⟨hb,hc,hd⟩,ha⟩:=h
   rw [qadf hb,hc,qe9 hd]
   exact .inr (.inl ⟨v,rfl,ha⟩)
  ·rw [qaz h2] at h
   by_cases h3:q=3
   ·subst h3
    have e1:iEq (3:Int) 3=true:=by decide
    rw [e1] at h
    simp only [cond_true,cond_false,Bool.and_eq_true,qas] at h
    obtain ⟨ha,hc,hd⟩:=h
    rw [qac1 ha,hc,qe9 hd]
    exact .inr (.inr (.inl ⟨c,rfl⟩))
   ·rw [qaz h3] at h
    by_cases h4:q=4
    ·subst h4
     have e1:iEq (4:Int) 4=true:=by decide
     rw [e1] at h
     simp only [cond_true,cond_false,Bool.and_eq_true,qb8] at h
     obtain ⟨⟨h0,h1⟩,ha,hb,hd⟩:=h
     rw [qac1 ha,qadf hb]
     exact .inr (.inr (.inr ⟨k,a,rfl,h0,h1,hd⟩))
    ·rw [qaz h4] at h
     cases h
theorem qtm {x:Int} (h : -32768≤x) (h1:x≤32767):iWrap .i16 x=x:=by simp [iWrap,IntKind.wrap,IntKind.signed,IntKind.bits];omega
theorem qagv {ws:List (List UInt8)} {a:List UInt8} {r:List (List UInt8)} (h:ws=a :: r) (h':(ws.drop 1).isEmpty=true):r=[]:=by
 rw [h] at h'
 simpa using h'
noncomputable def countK {A:Type} (r:DRd) (K:Int→DRd→Option A):Option A :=
 (qak r).bind fun y=>bif y.2.1.2.1 then K y.1.1 (y.2.1.1,true,y.2.1.2.2) else (qb0 y.1.1 (-32768) 32767).bind fun z=>K y.1.1 (y.2.1.1,!z.1.1,y.2.1.2.2)
theorem qat8 (r:DRd):qb9 r wFi=countK r fun n1 ra=>countK ra fun n2 rb=>countK rb fun n3 rc=>some (((3,(0,0,0,()),(iWrap .i16 n1,iWrap .i16 n2,iWrap .i16 n3,()),0,0,()),()),(rc,())):=by kernel_rfl
theorem qx8 {r:DRd} (h : ∀ w∈r.1,w.length≤1048576) : ∃ (n:Int) (r':DRd),(∀ {A:Type} (K:Int→DRd→Option A),countK r K=K n r')∧r'.1=r.1.drop 1 ∧
  (r'.2.1=false→r.2.1=false∧(-32768≤n∧n≤32767) ∧ ∃ ws,r.1=Lib.itoa n :: ws)∧(∀ x ws,r.2.1=false→r.1=Lib.itoa x :: ws → -32768≤x→x≤32767→n=x∧r'.2.1=false):=by
 obtain ⟨n,r1,e1,p1,q1,b1⟩:=qt3 h
 obtain ⟨ws,f,⟨⟩⟩:=r1
 cases f with
 | true =>
  refine ⟨n,(ws,true,()),fun K => ?_,p1,fun hf=>absurd (show true=false from hf) (by decide),fun x w h1 h2 h3 h4 => ?_⟩
  ·unfold countK
   rw [e1]
   rfl
  ·exact absurd (show true=false from (b1 x w h1 h2 (by omega) (by omega)).2) (by decide)
 | false =>
  refine ⟨n,(ws,!(iLe (-32768) n&&iLe n 32767),()),fun K => ?_,p1,fun hf => ?_,fun x w h1 h2 h3 h4 => ?_⟩
  ·unfold countK
   rw [e1]
   simp only [Option.bind_some,cond_false]
   rw [qv4,qgv]
   rfl
  ·obtain ⟨f0,w,w1⟩:=q1 rfl
   simp only [Bool.not_eq_false',Bool.and_eq_true,qb8] at hf
   exact ⟨f0,hf,w,w1⟩
  ·obtain ⟨rfl,-⟩:=b1 x w h1 h2 (by omega) (by omega)
   refine ⟨rfl,?_⟩
   show (!(iLe (-32768) n&&iLe n 32767))=false
   rw [qa3 h3,qa3 h4]
   rfl
theorem qal6 (word:List UInt8) {r:DRd} (hall : ∀ w∈r.1,w.length≤1048576) (hf:r.2.1=false) : ∃ (e:DEntry) (r':DRd),qb9 r word=some ((e,()),(r',())) ∧
  (endedB r'=true→e.1=0∨(word :: r.1=entW e∧goodE e))∧(∀ e0 n,0≤n→n≤1000→entryB n e0=true→goodE e0→word :: r.1=entW e0→e=e0∧endedB r'=true):=by
 have hws : ∀ (e0:DEntry) (n:Int),entryB n e0=true→word :: r.1=entW e0→(e0.1=1∧word=wTick)∨(e0.1=2∧word=wMov)∨(e0.1=3∧word=wFi)∨(e0.1=4∧word=wRan):=by
  intro e0 n hv hw
  rcases qf4 hv with rfl | ⟨v,rfl,-⟩ | ⟨c,rfl⟩ | ⟨k,a,rfl,-⟩
  ·exact .inl ⟨rfl,(List.cons.inj hw).1⟩
  ·exact .inr (.inl ⟨rfl,(List.cons.inj hw).1⟩)
  ·exact .inr (.inr (.inl ⟨rfl,(List.cons.inj hw).1⟩))
  ·exact .inr (.inr (.inr ⟨rfl,(List.cons.inj hw).1⟩))
 by_cases h1:word=wTick
 ·subst h1
  refine ⟨(1,(0,0,0,()),(0,0,0,()),0,0,()),r,?_,fun he => .inr ⟨?_,?_⟩,fun e0 n hn0 hn hv hg hw => ?_⟩
  ·unfold qb9
   rw [show sEq wTick [116,105,99,107]=true from rfl]
   rfl
  ·have hem:r.1=[]:=by
    unfold endedB at he
    rw [hf] at he
    simpa using he
   rw [hem];rfl
  ·exact ⟨fun h=>absurd h (by decide),fun h=>absurd h (by decide),fun h=>absurd h (by decide)⟩
  ·rcases qf4 hv with rfl | ⟨v,rfl,-⟩ | ⟨c,rfl⟩ | ⟨k,a,rfl,-⟩
   ·refine ⟨rfl,?_⟩
    have hem:r.1=[]:=(List.cons.inj hw).2
    unfold endedB
    rw [hf,hem];rfl
   ·exact absurd (List.cons.inj hw).1 (by decide)
   ·exact absurd (List.cons.inj hw).1 (by decide)
   ·exact absurd (List.cons.inj hw).1 (by decide)
 ·have s1:sEq word [116,105,99,107]=false:=qxf h1
  by_cases h2:word=wMov
  ·subst h2
   obtain ⟨v,r',e1,p1,q1,b1⟩:=qyy hall
   refine ⟨(2,v,(0,0,0,()),0,0,()),r',?_,fun he => .inr ?_,fun e0 n hn0 hn hv hg hw => ?_⟩
   ·unfold qb9
    rw [s1,show sEq wMov [109,111,118,101]=true from rfl]
    simp only [cond_true,cond_false]
    show (qbb r).bind _=_
    rw [e1]
    rfl
   ·unfold endedB at he
    simp only [Bool.and_eq_true,Bool.not_eq_true'] at he
    obtain ⟨-,ws,w1,g⟩:=q1 he.1
    have hem:ws=[]:=by
     have:=he.2
     rw [p1,w1] at this
     simpa [vecW] using this
    rw [w1,hem]
    exact ⟨by rw [List.append_nil];rfl,fun _=>g,fun h=>absurd h (by show ¬ ((2:Int)=3);decide),fun h=>absurd h (by show ¬ ((2:Int)=4);decide)⟩
   ·rcases qf4 hv with rfl | ⟨v0,rfl,-⟩ | ⟨c,rfl⟩ | ⟨k,a,rfl,-⟩
    ·exact absurd (List.cons.inj hw).1 (by decide)
    ·have hr:r.1=vecW v0++[]:=by rw [List.append_nil];exact (List.cons.inj hw).2
     obtain ⟨rfl,f1⟩:=b1 v0 [] hf hr (hg.1 rfl)
     refine ⟨rfl,?_⟩
     unfold endedB
     rw [f1,p1,hr];rfl
    ·exact absurd (List.cons.inj hw).1 (by decide)
    ·exact absurd (List.cons.inj hw).1 (by decide)
  ·have s2:sEq word [109,111,118,101]=false:=qxf h2
   by_cases h3:word=wFi
   ·subst h3
    obtain ⟨n1,r1,e1,p1,q1,b1⟩:=qx8 hall
    obtain ⟨n2,r2,e2,p2,q2,b2⟩:=qx8 (r:=r1) (fun w hw=>hall w (by rw [p1] at hw;exact List.mem_of_mem_drop hw))
    obtain ⟨n3,r3,e3,p3,q3,b3⟩:=qx8 (r:=r2) (fun w hw=>hall w (by rw [p2,p1] at hw;exact List.mem_of_mem_drop (List.mem_of_mem_drop hw)))
    refine ⟨(3,(0,0,0,()),(iWrap .i16 n1,iWrap .i16 n2,iWrap .i16 n3,()),0,0,()),r3,?_,fun he => .inr ?_,fun e0 n hn0 hn hv hg hw => ?_⟩
    ·rw [qat8,e1,e2,e3];rfl
    ·unfold endedB at he
     simp only [Bool.and_eq_true,Bool.not_eq_true'] at he
     obtain ⟨f2,g3,ws3,w3⟩:=q3 he.1
     obtain ⟨f1,g2,ws2,w2⟩:=q2 f2
     obtain ⟨-,g1,ws1,w1⟩:=q1 f1
     have hem:ws3=[]:=by
      have:=he.2
      rw [p3] at this
      exact qagv w3 this
     rw [p1,w1] at w2
     simp only [List.drop_succ_cons,List.drop_zero] at w2
     rw [p2,p1,w1,w2] at w3
     simp only [List.drop_succ_cons,List.drop_zero] at w3
     rw [qtm g1.1 g1.2,qtm g2.1 g2.2,qtm g3.1 g3.2,w1,w2,w3,hem]
     exact ⟨rfl,fun h=>absurd h (by show ¬ ((3:Int)=2);decide),fun _=>⟨g1,g2,g3⟩,fun h=>absurd h (by show ¬ ((3:Int)=4);decide)⟩
    ·rcases qf4 hv with rfl | ⟨v0,rfl,-⟩ | ⟨c,rfl⟩ | ⟨k,a0,rfl,k0,k1,-⟩
     ·exact absurd (List.cons.inj hw).1 (by decide)
     ·exact absurd (List.cons.inj hw).1 (by decide)
     ·obtain ⟨c0,c1,c2,⟨⟩⟩:=c
      obtain ⟨g0,g1,g2⟩:=hg.2.1 rfl
      have hr:r.1=[Lib.itoa c0,Lib.itoa c1,Lib.itoa c2]:=(List.cons.inj hw).2
      obtain ⟨rfl,f1⟩:=b1 c0 _ hf hr g0.1 g0.2
      obtain ⟨rfl,f2⟩:=b2 c1 _ f1 (by rw [p1,hr];rfl) g1.1 g1.2
      obtain ⟨rfl,f3⟩:=b3 c2 _ f2 (by rw [p2,p1,hr];rfl) g2.1 g2.2
      rw [qtm g0.1 g0.2,qtm g1.1 g1.2,qtm g2.1 g2.2]
      refine ⟨rfl,?_⟩
      unfold endedB
      rw [f3,p3,p2,p1,hr];rfl
     ·exact absurd (List.cons.inj hw).1 (by decide)
   ·have s3:sEq word [102,105,120]=false:=qxf h3
    by_cases h4:word=wRan
    ·subst h4
     obtain ⟨n,r1,e1,p1,q1,b1⟩:=qt3 hall
     obtain ⟨a,r2,e2,p2,q2,b2⟩:=qq2 (r:=r1) (fun w hw=>hall w (by rw [p1] at hw;exact List.mem_of_mem_drop hw))
     refine ⟨(4,(0,0,0,()),(0,0,0,()),n,a,()),r2,?_,fun he => .inr ?_,fun e0 m hm0 hm hv hg hw => ?_⟩
     ·unfold qb9
      rw [s1,s2,s3,show sEq wRan [114,97,110,103,101]=true from rfl]
      simp only [cond_true,cond_false]
      show (qak r).bind _=_
      rw [e1]
      simp only [Option.bind_some]
      show (qa0 r1).bind _=_
      rw [e2]
      rfl
     ·unfold endedB at he
      simp only [Bool.and_eq_true,Bool.not_eq_true'] at he
      obtain ⟨f1,ws2,w2,g2⟩:=q2 he.1
      obtain ⟨-,ws1,w1⟩:=q1 f1
      have hem:ws2=[]:=by
       have:=he.2
       rw [p2] at this
       exact qagv w2 this
      rw [p1,w1] at w2
      simp only [List.drop_succ_cons,List.drop_zero] at w2
      rw [w1,w2,hem]
      exact ⟨rfl,fun h=>absurd h (by show ¬ ((4:Int)=2);decide),fun h=>absurd h (by show ¬ ((4:Int)=3);decide),fun _=>g2⟩
     ·rcases qf4 hv with rfl | ⟨v0,rfl,-⟩ | ⟨c,rfl⟩ | ⟨k,a0,rfl,k0,k1,-⟩
      ·exact absurd (List.cons.inj hw).1 (by decide)
      ·exact absurd (List.cons.inj hw).1 (by decide)
      ·exact absurd (List.cons.inj hw).1 (by decide)
      ·have hr:r.1=[Lib.itoa k,hex8 a0]:=(List.cons.inj hw).2
       have hk:k≤999:=by
        rw [qcm (by omega) (by omega)] at k1;omega
       obtain ⟨rfl,f1⟩:=b1 k _ hf hr (by omega) (by omega)
       obtain ⟨rfl,f2⟩:=b2 a0 [] f1 (by rw [p1,hr];rfl) (hg.2.2 rfl)
       refine ⟨rfl,?_⟩
       unfold endedB
       rw [f2,p2,p1,hr];rfl
    ·refine ⟨(0,(0,0,0,()),(0,0,0,()),0,0,()),r,?_,fun _ => .inl rfl,fun e0 n hn0 hn hv hg hw => ?_⟩
     ·have s4:sEq word [114,97,110,103,101]=false:=qxf h4
      unfold qb9
      rw [s1,s2,s3,s4]
      rfl
     ·rcases hws e0 n hv hw with ⟨-,h⟩ | ⟨-,h⟩ | ⟨-,h⟩ | ⟨-,h⟩
      ·exact absurd h h1
      ·exact absurd h h2
      ·exact absurd h h3
      ·exact absurd h h4
def goodL (l:DLog):Prop:=goodV l.2.1∧(∀ v∈l.2.2.1,goodV v) ∧ ∀ e∈l.2.2.2.1,goodE e
abbrev DRL:=(DLog×Int×Unit)×Unit
def badL:DRL:=(((0,(0,0,0,()),[],[],()),5,()),())
theorem qaon {r:DRd} (hall : ∀ w∈r.1,w.length≤1048576) (k:List UInt8) : ∃ r':DRd,qc2 r k=some ((),(r',()))∧r'.1=r.1.drop 1 ∧
  (r'.2.1=false→r.2.1=false ∧ ∃ ws,r.1=k :: ws)∧(∀ ws,r.2.1=false→r.1=k :: ws→r'.2.1=false):=by
 obtain ⟨ws,f,⟨⟩⟩:=r
 unfold qc2
 rw [qce]
 simp only [Option.bind_some,restOf,wordOf]
 cases ws with
 | nil =>
  cases hq:sEq ([]:List UInt8) k with
  | false =>
   refine ⟨([],true,()),?_,rfl,fun h=>absurd (show true=false from h) (by decide),fun ws h1 h2=>by cases h2⟩
   have:(([]:List (List UInt8)).getD 0 [])=([]:List UInt8):=rfl
   rw [this,hq];rfl
  | true =>
   refine ⟨([],true,()),?_,rfl,fun h=>absurd (show true=false from h) (by decide),fun ws h1 h2=>by cases h2⟩
   have:(([]:List (List UInt8)).getD 0 [])=([]:List UInt8):=rfl
   rw [this,hq];rfl
 | cons w ws =>
  have hg:((w :: ws).getD 0 [])=w:=rfl
  rw [hg]
  cases hq:sEq w k with
  | false =>
   refine ⟨(ws,true,()),rfl,rfl,fun h=>absurd (show true=false from h) (by decide),fun z h1 h2 => ?_⟩
   have:w=k:=(List.cons.inj h2).1
   rw [this,qac0] at hq
   cases hq
  | true =>
   have hwk:w=k:=by simpa [sEq] using hq
   refine ⟨(ws,f,()),rfl,rfl,fun h=>⟨h,ws,by rw [hwk]⟩,fun z h1 h2=>h1⟩
theorem qq4 {s:List UInt8} (hs:s.length≤1048576):qjv s=some (((splitC 32 s,(false,())),()),()):=by
 unfold qjv
 rw [quu 32 (by omega)]
 rfl
theorem qwi {c:UInt8} {s f:List UInt8} (h:f∈splitC c s):f.length≤s.length:=by
 have h1:=(List.sublist_flatten_of_mem h).length_le
 rw [qqr] at h1
 exact Nat.le_trans h1 (List.length_filter_le _ _)
theorem qan1 {x:List UInt8} (hx:x.length≤1048576) : ∃ (r1:DRd) (a:Int) (r2:DRd) (v:Vec 3 Nat) (r3:DRd),qc2 (splitC 32 x,(false,())) wLog=some ((),(r1,()))∧qak r1=some ((a,()),(r2,()))∧qbb r2=some ((v,()),(r3,())) ∧
  (endedB r3=true→x=headL a v∧goodV v)∧(∀ a0 v0,x=headL a0 v0 → -999999999≤a0→a0≤999999999→goodV v0→a=a0∧v=v0∧endedB r3=true):=by
 have hall : ∀ w∈splitC 32 x,w.length≤1048576:=fun w hw=>Nat.le_trans (qwi hw) hx
 obtain ⟨r1,e1,p1,q1,b1⟩:=qaon (r:=(splitC 32 x,(false,()))) hall wLog
 have p1:r1.1=(splitC 32 x).drop 1:=p1
 obtain ⟨a,r2,e2,p2,q2,b2⟩:=qt3 (r:=r1) (fun w hw=>hall w (by rw [p1] at hw;exact List.mem_of_mem_drop hw))
 obtain ⟨v,r3,e3,p3,q3,b3⟩:=qyy (r:=r2) (fun w hw=>hall w (by rw [p2,p1] at hw;exact List.mem_of_mem_drop (List.mem_of_mem_drop hw)))
 refine ⟨r1,a,r2,v,r3,e1,e2,e3,fun he => ?_,fun a0 v0 h0 h1 h2 h3 => ?_⟩
 ·unfold endedB at he
  simp only [Bool.and_eq_true,Bool.not_eq_true'] at he
  obtain ⟨f2,ws3,w3,g⟩:=q3 he.1
  obtain ⟨f1,ws2,w2⟩:=q2 f2
  obtain ⟨-,ws1,w1⟩:=q1 f1
  have w1:splitC 32 x=wLog :: ws1:=w1
  have hem:ws3=[]:=by
   have:=he.2
   rw [p3,w3] at this
   simpa [vecW] using this
  rw [p1,w1] at w2
  simp only [List.drop_succ_cons,List.drop_zero] at w2
  rw [p2,p1,w1,w2,hem] at w3
  simp only [List.drop_succ_cons,List.drop_zero,List.append_nil] at w3
  refine ⟨?_,g⟩
  have:=qtb 32 x.length x (Nat.le_refl _)
  rw [w1,w2,w3] at this
  exact this.symm
 ·have hs:splitC 32 x=wLog :: Lib.itoa a0 :: vecW v0:=by
   rw [h0]
   exact qly 32 _ (by simp) (qady (.inl rfl) a0 v0)
  have f1:=b1 _ rfl hs
  obtain ⟨rfl,f2⟩:=b2 a0 (vecW v0) f1 (by rw [p1,hs];rfl) h1 h2
  obtain ⟨rfl,f3⟩:=b3 v0 [] f2 (by rw [p2,p1,hs,List.append_nil];rfl) h3
  refine ⟨rfl,rfl,?_⟩
  unfold endedB
  rw [f3,p3,p2,p1,hs];rfl
theorem qaov {s:List UInt8} (h:okG s=true) : ∃ x Ls,splitC 10 s=(x :: Ls)++[[]]∧(splitC 10 s).take (s.count 10)=x :: Ls:=by
 unfold okG at h
 simp only [Bool.and_eq_true,qyg] at h
 have hl:=qeq 10 s
 generalize s.count 10=n at h hl ⊢
 have hlast:(splitC 10 s).getD n []=[]:=by simpa [sEq] using h.2
 rw [qao (by omega)] at hlast
 have e:splitC 10 s=(splitC 10 s).take n++[[]]:=by
  conv=>lhs;rw [← List.take_append_drop n (splitC 10 s)]
  congr 1
  rw [← List.getElem_cons_drop (h:=by omega),hlast,List.drop_eq_nil_of_le (by omega)]
 cases ht:(splitC 10 s).take n with
 | nil =>
  have:=congrArg List.length ht
  rw [List.length_take,List.length_nil] at this
  omega
 | cons x Ls=>exact ⟨x,Ls,by rw [e,ht],rfl⟩
theorem qaay {line:List UInt8} (hx:line.length≤1048576) {r:List (List UInt8)} (hs:splitC 32 line=wBea :: r) : ∃ (v:Vec 3 Nat) (r':DRd),qbb (r,(false,()))=some ((v,()),(r',()))∧(endedB r'=true→line=beaL v∧goodV v)∧(∀ v0,line=beaL v0→goodV v0→v=v0∧endedB r'=true):=by
 have hall : ∀ w∈splitC 32 line,w.length≤1048576:=fun w hw=>Nat.le_trans (qwi hw) hx
 obtain ⟨v,r',e1,p1,q1,b1⟩:=qyy (r:=(r,(false,()))) (fun w hw=>hall w (by rw [hs];exact List.mem_cons_of_mem _ hw))
 have p1:r'.1=r.drop 3:=p1
 refine ⟨v,r',e1,fun he => ?_,fun v0 h0 hg => ?_⟩
 ·unfold endedB at he
  simp only [Bool.and_eq_true,Bool.not_eq_true'] at he
  obtain ⟨-,ws,w1,g⟩:=q1 he.1
  have w1:r=vecW v++ws:=w1
  have hem:ws=[]:=by
   have:=he.2
   rw [p1,w1] at this
   simpa [vecW] using this
  refine ⟨?_,g⟩
  have:=qtb 32 line.length line (Nat.le_refl _)
  rw [hs,w1,hem,List.append_nil] at this
  exact this.symm
 ·have hs':splitC 32 line=wBea :: vecW v0:=by
   rw [h0]
   exact qly 32 _ (by simp) (qzp (.inl rfl) v0)
  have hr:r=vecW v0++[]:=by
   rw [hs] at hs'
   rw [List.append_nil]
   exact (List.cons.inj hs').2
  obtain ⟨rfl,f1⟩:=b1 v0 [] rfl hr hg
  refine ⟨rfl,?_⟩
  unfold endedB
  rw [f1,p1,hr];rfl
theorem qaca {line:List UInt8} (hx:line.length≤1048576) {w:List UInt8} {r:List (List UInt8)} (hs:splitC 32 line=w :: r) : ∃ (e:DEntry) (r':DRd),qb9 (r,(false,())) w=some ((e,()),(r',()))∧(endedB r'=true→e.1=0∨(line=entL e∧goodE e)) ∧
  (∀ e0 n,0≤n→n≤1000→entryB n e0=true→goodE e0→line=entL e0→e=e0∧endedB r'=true):=by
 have hall : ∀ w∈splitC 32 line,w.length≤1048576:=fun w hw=>Nat.le_trans (qwi hw) hx
 obtain ⟨e,r',e1,q1,b1⟩:=qal6 w (r:=(r,(false,()))) (fun z hw=>hall z (by rw [hs];exact List.mem_cons_of_mem _ hw)) rfl
 refine ⟨e,r',e1,fun he => ?_,fun e0 n hn0 hn hv hg h0 => ?_⟩
 ·rcases q1 he with h | ⟨h,g⟩
  ·exact .inl h
  ·refine .inr ⟨?_,g⟩
   have:=qtb 32 line.length line (Nat.le_refl _)
   rw [hs,show w :: r=entW e from h] at this
   exact this.symm
 ·have hs':splitC 32 line=entW e0:=by
   rw [h0]
   exact qly 32 _ (qak6 e0) (qzu (.inl rfl) e0)
  exact b1 e0 n hn0 hn hv hg (by rw [← hs',hs])
theorem qal7 {n:Int} {e:DEntry} (h:entryB n e=true):e.1≠0:=by
 rcases qf4 h with rfl | ⟨v,rfl,-⟩ | ⟨c,rfl⟩ | ⟨k,a,rfl,-⟩
 ·show (1:Int)≠0;decide
 ·show (2:Int)≠0;decide
 ·show (3:Int)≠0;decide
 ·show (4:Int)≠0;decide
theorem qahs {a:Int} {v:Vec 3 Nat} {B:List (Vec 3 Nat)} {E:List DEntry} (hB:B.length≤1048577) (hE:E.length≤1048577):Sized TyLog ((a,v,B,E,()):DLog):=by
 obtain ⟨v0,v1,v2,⟨⟩⟩:=v
 refine ⟨trivial,⟨trivial,trivial,trivial,trivial⟩,⟨?_,fun _ _=>⟨trivial,trivial,trivial,trivial⟩⟩,⟨?_,fun _ _=>⟨trivial,⟨trivial,trivial,trivial,trivial⟩,⟨trivial,trivial,trivial,trivial⟩,trivial,trivial,trivial⟩⟩,trivial⟩
 ·show B.length≤_;omega
 ·show E.length≤_;omega
theorem qf3 {α:Type} {l:List α} {i:Nat} (h:i<l.length):l.take (i+1)=l.take i++[l[i]]:=by
 rw [List.take_add_one]
 simp [h]
theorem qan5 {x:List UInt8} {Ls:List (List UInt8)} {ok:Bool} (hl:Ls.length≤1048576) (hall : ∀ f∈Ls,f.length≤1048576) (a:Int) (v:Vec 3 Nat) :
  ∃ w:DRL,run (qbc ((x :: Ls,ok,()),())) ((0:Int),((a,v,[],[],()):DLog),())=some w ∧
   (w=badL ∨ ∃ B E,w=(((a,v,B,E,()),0,()),())∧logB (a,v,B,E,())=true∧(∀ u∈B,goodV u)∧(∀ e∈E,goodE e)∧Ls=B.map beaL++E.map entL):=by
 have r:=qik (f:=qbc ((x :: Ls,ok,()),())) (fun s => ∃ (i:Nat) (B:List (Vec 3 Nat)) (E:List DEntry) (EL:List (List UInt8)),s=((i:Int),((a,v,B,E,()):DLog),())∧i≤Ls.length∧Ls.take i=B.map beaL++EL∧EL.length=E.length∧(∀ u∈B,goodV u) ∧
   (∀ j (h1:j<E.length) (h2:j<EL.length),E[j].1=0∨(EL[j]=entL E[j]∧goodE E[j]))) (fun s=>(Ls.length-s.1).toNat)
  (fun w=>w=badL ∨ ∃ B E,w=(((a,v,B,E,()),0,()),())∧logB (a,v,B,E,())=true∧(∀ u∈B,goodV u)∧(∀ e∈E,goodE e)∧Ls=B.map beaL++E.map entL) (fun s hI=>by
  obtain ⟨i,B,E,EL,rfl,hi,hT,hEL,hB,hE⟩:=hI
  have hlen:B.length+E.length=i:=by
   have:=congrArg List.length hT
   rw [List.length_take,List.length_append,List.length_map] at this
   omega
  have hlx:((List.length (x :: Ls))-1:Nat)=Ls.length:=by simp
  by_cases hlt:i<Ls.length
  ·have e1:iLt (i:Int) (((List.length (x :: Ls))-1:Nat):Int)=true:=qaf (by rw [hlx];omega)
   have e2:inB (i:Int) ((List.length (x :: Ls))-1)=true:=by rw [hlx];exact qad hlt
   have e5:iAdd .i64 (i:Int) 1=((i+1:Nat):Int):=qat hlt (by omega)
   have hm:((Ls.length:Int)-((i+1:Nat):Int)).toNat<((Ls.length:Int)-(i:Int)).toNat:=by omega
   have hg:List.getD (x :: Ls) (1+(i:Int).toNat) []=Ls[i]:=by
    rw [Int.toNat_natCast,Nat.add_comm]
    show Ls.getD i []=Ls[i]
    exact qao hlt
   have hline:(Ls[i]).length≤1048576:=hall _ (List.getElem_mem hlt)
   have hrl:=qq4 hline
   obtain ⟨w0,r0,hs⟩ : ∃ w0 r0,splitC 32 Ls[i]=w0 :: r0:=by
    cases h:splitC 32 Ls[i] with
    | nil=>exact absurd h (qli 32 _)
    | cons w0 r0=>exact ⟨w0,r0,rfl⟩
   have hwd:qbh (w0 :: r0,(false,()))=some ((w0,()),((r0,(false,())),())):=qce _
   have hr1:room (B.length+1) 12=true:=qbi (by omega)
   have hr2:room (E.length+1) 48=true:=qbi (by omega)
   have entry:(∃ y,(qb9 (r0,(false,())) w0).bind (fun y49=>bif room (E.length+1) 48 then (qaw (y49.2.1.1,y49.2.1.2)).bind fun y51=>bif (! y51.1.1) then Option.map Sum.inr (some badL) else some (Sum.inl (iAdd .i64 (i:Int) 1,((a,v,B,E++[y49.1.1],()):DLog),())) else none)=some y ∧
     ((∃ s',y = .inl s'∧(∃ (i:Nat) (B:List (Vec 3 Nat)) (E:List DEntry) (EL:List (List UInt8)),s'=((i:Int),((a,v,B,E,()):DLog),())∧i≤Ls.length∧Ls.take i=B.map beaL++EL∧EL.length=E.length∧(∀ u∈B,goodV u) ∧
   (∀ j (h1:j<E.length) (h2:j<EL.length),E[j].1=0∨(EL[j]=entL E[j]∧goodE E[j])))∧((Ls.length:Int)-s'.1).toNat<((Ls.length:Int)-(i:Int)).toNat)∨y = .inr badL)):=by
    obtain ⟨e,r',k1,k2,-⟩:=qaca hline hs
    rw [k1]
    simp only [Option.bind_some,hr2,cond_true]
    have hen:qaw (r'.1,r'.2)=some ((endedB r',()),()):=qcw r'
    rw [hen]
    simp only [Option.bind_some]
    cases hend:endedB r' with
    | false=>exact ⟨_,rfl,.inr rfl⟩
    | true =>
     refine ⟨_,rfl,.inl ⟨_,rfl,⟨i+1,B,E++[e],EL++[Ls[i]],by rw [e5],by omega,?_,by simp [hEL],hB,fun j h1 h2 => ?_⟩,?_⟩⟩
     ·rw [qf3 hlt,hT,List.append_assoc]
     ·by_cases hj:j<E.length
      ·rw [List.getElem_append_left hj,List.getElem_append_left (by omega)]
       exact hE j hj (by omega)
      ·have hje:j=E.length:=by simp at h1;omega
       subst hje
       rw [List.getElem_append_right (Nat.le_refl _),List.getElem_append_right (by omega)]
       simp only [Nat.sub_self,List.getElem_singleton]
       exact k2 hend
     ·rw [e5];exact hm
   unfold qbc
   simp only
   rw [e1,e2,hg,hrl]
   simp only [cond_true,Option.bind_some]
   rw [hs,hwd]
   simp only [Option.bind_some]
   cases hbw:sEq w0 [98,101,97,99,111,110] with
   | false =>
    simp only [cond_false]
    obtain ⟨y,hy,h⟩:=entry
    rcases h with ⟨s',rfl,h1,h2⟩ | rfl
    ·exact .inl ⟨s',hy,h1,h2⟩
    ·exact .inr ⟨badL,hy,.inl rfl⟩
   | true =>
    simp only [cond_true]
    cases hz:iEq (lenI E) 0 with
    | false =>
     simp only [cond_false]
     obtain ⟨y,hy,h⟩:=entry
     rcases h with ⟨s',rfl,h1,h2⟩ | rfl
     ·exact .inl ⟨s',hy,h1,h2⟩
     ·exact .inr ⟨badL,hy,.inl rfl⟩
    | true =>
     have hE0:E=[]:=by
      have:(E.length:Int)=0:=by simpa [iEq,lenI] using hz
      exact List.length_eq_zero_iff.1 (by omega)
     have hEL0:EL=[]:=List.length_eq_zero_iff.1 (by rw [hEL,hE0];rfl)
     have hw0:w0=wBea:=by
      have:w0=[98,101,97,99,111,110]:=by simpa [sEq] using hbw
      exact this
     obtain ⟨u,r',k1,k2,-⟩:=qaay hline (r:=r0) (by rw [hs,hw0])
     simp only [cond_true]
     rw [k1]
     simp only [Option.bind_some,hr1,cond_true]
     have hen:qaw (r'.1,r'.2)=some ((endedB r',()),()):=qcw r'
     rw [hen]
     simp only [Option.bind_some]
     cases hend:endedB r' with
     | false=>exact .inr ⟨badL,rfl,.inl rfl⟩
     | true =>
      obtain ⟨k3,k4⟩:=k2 hend
      refine .inl ⟨_,rfl,⟨i+1,B++[u],E,EL,by rw [e5],by omega,?_,hEL,fun z hz => ?_,hE⟩,?_⟩
      ·rw [qf3 hlt,hT,hEL0,List.append_nil,List.append_nil,List.map_append,k3];rfl
      ·rcases List.mem_append.1 hz with h | h
       ·exact hB z h
       ·rw [List.mem_singleton] at h;rw [h];exact k4
      ·show ((Ls.length:Int)-iAdd .i64 (i:Int) 1).toNat<_
       rw [e5];exact hm
  ·right
   have hil:i=Ls.length:=by omega
   have e1:iLt (i:Int) (((List.length (x :: Ls))-1:Nat):Int)=false:=qag (by rw [hlx];omega)
   have hv:=qe1 ((a,v,B,E,()):DLog) (qahs (by omega) (by omega))
   unfold qbc
   simp only
   rw [e1]
   simp only [cond_false,hv,Option.bind_some]
   cases hb:logB ((a,v,B,E,()):DLog) with
   | false=>exact ⟨badL,rfl,.inl rfl⟩
   | true =>
    have hb':=hb
    unfold logB at hb'
    simp only [Bool.and_eq_true,List.all_eq_true] at hb'
    have hE' : ∀ j (h1:j<E.length) (h2:j<EL.length),EL[j]=entL E[j]∧goodE E[j]:=fun j h1 h2=>(hE j h1 h2).resolve_left (qal7 (hb'.2.2 _ (List.getElem_mem h1)))
    refine ⟨_,rfl,.inr ⟨B,E,rfl,hb,hB,fun e he => ?_,?_⟩⟩
    ·obtain ⟨j,hj,rfl⟩:=List.getElem_of_mem he
     exact (hE' j hj (by omega)).2
    ·have:Ls=Ls.take i:=by rw [hil,List.take_length]
     rw [this,hT]
     congr 1
     apply List.ext_getElem
     ·rw [List.length_map];exact hEL
     ·intro j h1 h2
      rw [List.getElem_map]
      exact (hE' j (by rw [List.length_map] at h2;exact h2) h1).1) (s:=((0:Int),((a,v,[],[],()):DLog),())) ⟨0,[],[],[],rfl,Nat.zero_le _,rfl,rfl,(fun u hu=>absurd hu (by simp)),(fun j h1 _=>absurd h1 (by simp))⟩
 exact r
theorem qan4 {x:List UInt8} {ok:Bool} {a:Int} {v:Vec 3 Nat} {B0:List (Vec 3 Nat)} {E0:List DEntry} (hv:logB (a,v,B0,E0,())=true) (hB : ∀ u∈B0,goodV u) (hE : ∀ e∈E0,goodE e) (hall : ∀ f∈B0.map beaL++E0.map entL,f.length≤1048576) :
  run (qbc ((x :: (B0.map beaL++E0.map entL),ok,()),())) ((0:Int),((a,v,[],[],()):DLog),())=some (((a,v,B0,E0,()),0,()),()):=by
 have hv':=hv
 unfold logB frameB at hv'
 simp only [Bool.and_eq_true,List.all_eq_true,qb8,qaa] at hv'
 obtain ⟨⟨-,-,hb6,-⟩,he1200,heach⟩:=hv'
 have hlx:((List.length (x :: (B0.map beaL++E0.map entL)))-1:Nat)=B0.length+E0.length:=by simp
 have common : ∀ (i:Nat),i<B0.length+E0.length → ∃ line w0 r0,(B0.map beaL++E0.map entL)[i]? = some line∧iLt (i:Int) (((List.length (x :: (B0.map beaL++E0.map entL)))-1:Nat):Int)=true∧inB (i:Int) ((List.length (x :: (B0.map beaL++E0.map entL)))-1)=true∧iAdd .i64 (i:Int) 1=((i+1:Nat):Int) ∧
   List.getD (x :: (B0.map beaL++E0.map entL)) (1+(i:Int).toNat) []=line∧line.length≤1048576∧splitC 32 line=w0 :: r0:=by
  intro i hi
  have hi':i<(B0.map beaL++E0.map entL).length:=by simp;omega
  have hline:((B0.map beaL++E0.map entL)[i]).length≤1048576:=hall _ (List.getElem_mem hi')
  cases h:splitC 32 (B0.map beaL++E0.map entL)[i] with
  | nil=>exact absurd h (qli 32 _)
  | cons w0 r0 =>
   refine ⟨_,w0,r0,List.getElem?_eq_getElem hi',qaf (by rw [hlx];omega),by rw [hlx];exact qad hi,(qba (by omega) (by omega)).trans (by omega),?_,hline,h⟩
   rw [Int.toNat_natCast,Nat.add_comm]
   show (B0.map beaL++E0.map entL).getD i []=_
   exact qao hi'
 have phase2 : ∀ (d j:Nat),j+d=E0.length→run (qbc ((x :: (B0.map beaL++E0.map entL),ok,()),())) (((B0.length+j:Nat):Int),((a,v,B0,E0.take j,()):DLog),())=some (((a,v,B0,E0,()),0,()),()):=by
  intro d
  induction d with
  | zero =>
   intro j hj
   have e1:iLt ((B0.length+j:Nat):Int) (((List.length (x :: (B0.map beaL++E0.map entL)))-1:Nat):Int)=false:=qag (by rw [hlx];omega)
   have ht:E0.take j=E0:=by rw [show j=E0.length by omega,List.take_length]
   have hvl:=qe1 ((a,v,B0,E0,()):DLog) (qahs (by omega) (by omega))
   refine qay ?_
   unfold qbc
   simp only
   rw [e1,ht]
   simp only [cond_false,hvl,Option.bind_some,hv]
   rfl
  | succ d ih =>
   intro j hj
   have hjE:j<E0.length:=by omega
   obtain ⟨line,w0,r0,hl,e1,e2,e5,hg,hlen,hs⟩:=common (B0.length+j) (by omega)
   have hline:line=entL E0[j]:=by
    rw [List.getElem?_append_right (by simp)] at hl
    simp [hjE] at hl
    exact hl.symm
   obtain ⟨e,r',k1,-,k3⟩:=qaca hlen hs
   obtain ⟨rfl,hend⟩:=k3 E0[j] (lenI B0) (by rw [qaa];omega) (by rw [qaa];omega) (heach _ (List.getElem_mem hjE)) (hE _ (List.getElem_mem hjE)) hline
   have hr2:room ((E0.take j).length+1) 48=true:=qbi (by rw [List.length_take];omega)
   have hrl:=qq4 hlen
   have hwd:qbh (w0 :: r0,(false,()))=some ((w0,()),((r0,(false,())),())):=qce _
   have hen:qaw (r'.1,r'.2)=some ((endedB r',()),()):=qcw r'
   have hw:sEq w0 [98,101,97,99,111,110]=false:=by
    refine qxf ?_
    rintro rfl
    have hs':splitC 32 line=entW E0[j]:=by
     rw [hline]
     exact qly 32 _ (qak6 _) (qzu (.inl rfl) _)
    rw [hs] at hs'
    rcases qf4 (heach _ (List.getElem_mem hjE)) with h | ⟨u,h,-⟩ | ⟨c,h⟩ | ⟨k,q,h,-⟩ <;> rw [h] at hs' <;> exact absurd (List.cons.inj hs').1 (by decide)
   have st:qbc ((x :: (B0.map beaL++E0.map entL),ok,()),()) (((B0.length+j:Nat):Int),((a,v,B0,E0.take j,()):DLog),())=some (.inl (((B0.length+(j+1):Nat):Int),((a,v,B0,E0.take (j+1),()):DLog),())):=by
    unfold qbc
    simp only
    rw [e1,e2,hg,hrl]
    simp only [cond_true,Option.bind_some]
    rw [hs,hwd]
    simp only [Option.bind_some,hw,cond_false]
    rw [k1]
    simp only [Option.bind_some,hr2,cond_true]
    rw [hen]
    simp only [Option.bind_some,hend,Bool.not_true,cond_false]
    rw [e5,qf3 hjE]
    rfl
   rw [qar st]
   exact ih (j+1) (by omega)
 have phase1 : ∀ (d i:Nat),i+d=B0.length→run (qbc ((x :: (B0.map beaL++E0.map entL),ok,()),())) ((i:Int),((a,v,B0.take i,[],()):DLog),())=some (((a,v,B0,E0,()),0,()),()):=by
  intro d
  induction d with
  | zero =>
   intro i hi
   have:=phase2 E0.length 0 (by omega)
   rw [Nat.add_zero,List.take_zero] at this
   rw [show i=B0.length by omega,List.take_length]
   exact this
  | succ d ih =>
   intro i hi
   have hiB:i<B0.length:=by omega
   obtain ⟨line,w0,r0,hl,e1,e2,e5,hg,hlen,hs⟩:=common i (by omega)
   have hline:line=beaL B0[i]:=by
    rw [List.getElem?_append_left (by simp;omega)] at hl
    simp [hiB] at hl
    exact hl.symm
   have hs':splitC 32 line=wBea :: vecW B0[i]:=by
    rw [hline]
    exact qly 32 _ (by simp) (qzp (.inl rfl) _)
   have hw0:w0=wBea:=by rw [hs] at hs';exact (List.cons.inj hs').1
   subst hw0
   obtain ⟨u,r',k1,-,k3⟩:=qaay hlen hs
   obtain ⟨rfl,hend⟩:=k3 B0[i] hline (hB _ (List.getElem_mem hiB))
   have hr1:room ((B0.take i).length+1) 12=true:=qbi (by rw [List.length_take];omega)
   have hrl:=qq4 hlen
   have hwd:qbh (wBea :: r0,(false,()))=some ((wBea,()),((r0,(false,())),())):=qce _
   have hen:qaw (r'.1,r'.2)=some ((endedB r',()),()):=qcw r'
   have hw:sEq wBea [98,101,97,99,111,110]=true:=rfl
   have hz:iEq (lenI ([]:List DEntry)) 0=true:=rfl
   have st:qbc ((x :: (B0.map beaL++E0.map entL),ok,()),()) ((i:Int),((a,v,B0.take i,[],()):DLog),())=some (.inl (((i+1:Nat):Int),((a,v,B0.take (i+1),[],()):DLog),())):=by
    unfold qbc
    simp only
    rw [e1,e2,hg,hrl]
    simp only [cond_true,Option.bind_some]
    rw [hs,hwd]
    simp only [Option.bind_some,hw,cond_true,hz]
    rw [k1]
    simp only [Option.bind_some,hr1,cond_true]
    rw [hen]
    simp only [Option.bind_some,hend,Bool.not_true,cond_false]
    rw [e5,qf3 hiB]
   rw [qar st]
   exact ih (i+1) (by omega)
 exact phase1 B0.length 0 (by omega)
theorem qamg {Ls:List (List UInt8)} {f:List UInt8} (h:f∈Ls):f.length≤(linesT Ls).length:=by
 unfold linesT
 have h1:(f++[10]).Sublist (Ls.flatMap fun x=>x++[10]):=by
  rw [List.flatMap_def]
  exact List.sublist_flatten_of_mem (List.mem_map.2 ⟨f,h,rfl⟩)
 have:=h1.length_le
 rw [List.length_append] at this
 exact Nat.le_trans (Nat.le_add_right _ _) this
theorem qad3 {s:List UInt8} (hs:s.length≤1048576) : ∃ w:DRL,qkx s=some w∧(w=badL ∨ ∃ l:DLog,w=((l,0,()),())∧logB l=true∧goodL l∧s=logT l)∧(∀ l:DLog,s=logT l→logB l=true→goodL l→w=((l,0,()),())):=by
 have hlo:=qaeg hs
 have hlen:(splitC 10 s).length≤1048577:=by
  rw [qeq]
  have:=List.count_le_length (a:=(10:UInt8)) (l:=s)
  omega
 unfold qkx
 rw [hlo]
 simp only [Option.bind_some]
 cases hok:okG s with
 | false =>
  refine ⟨badL,rfl,.inl rfl,fun l hl _ _ => ?_⟩
  exfalso
  have h1:=qyj l
  rw [← hl] at h1
  have h2:=qeq 10 s
  rw [h1] at h2
  have h3:okG s=true:=by
   unfold okG
   have hc:s.count 10=(logL l).length:=by rw [List.length_append] at h2;simp at h2;omega
   have hpos:0<(logL l).length:=by unfold logL;simp
   rw [qaf (by omega),h1,hc]
   simp [List.getD_eq_getElem?_getD,sEq]
  rw [h3] at hok
  cases hok
 | true =>
  obtain ⟨x,Ls,h1,h2⟩:=qaov hok
  have hsL:s=linesT (x :: Ls):=qaqt h1
  have hmem : ∀ f∈x :: Ls,f.length≤1048576:=fun f hf=>Nat.le_trans (qamg hf) (by rw [← hsL];exact hs)
  have hLs:Ls.length≤1048576:=by
   have:=congrArg List.length h1
   simp at this
   omega
  rw [h2]
  have i0:inB 0 (x :: Ls).length=true:=qad (i:=0) (by simp)
  have g0:List.getD (x :: Ls) 0 []=x:=rfl
  have s1:inS 1 (((x :: Ls).length:Nat):Int) (x :: Ls).length=true:=by unfold inS;simp;omega
  have hrl:=qq4 (hmem x (by simp))
  obtain ⟨r1,a,r2,v,r3,e1,e2,e3,k1,k2⟩:=qan1 (hmem x (by simp))
  have hen:qaw (r3.1,r3.2)=some ((endedB r3,()),()):=qcw r3
  simp only [Bool.not_true,cond_false]
  rw [i0,g0,s1,hrl]
  simp only [cond_true,Option.bind_some]
  rw [show qc2 (splitC 32 x,(false,())) [108,111,103]=some ((),(r1,())) from e1]
  simp only [Option.bind_some]
  rw [show qak (r1.1,r1.2)=some ((a,()),(r2,())) from e2]
  simp only [Option.bind_some]
  rw [show qbb (r2.1,r2.2)=some ((v,()),(r3,())) from e3]
  simp only [Option.bind_some]
  rw [hen]
  simp only [Option.bind_some]
  cases hend:endedB r3 with
  | false =>
   refine ⟨badL,rfl,.inl rfl,fun l hl hb hg => ?_⟩
   exfalso
   have h3:=qyj l
   rw [← hl,h1] at h3
   have h4:=List.append_cancel_right h3
   have h5:x=headL l.1 l.2.1:=(List.cons.inj h4).1
   have hb':=hb
   unfold logB frameB at hb'
   simp only [Bool.and_eq_true,qb8] at hb'
   have:=(k2 _ _ h5 (by omega) (by omega) hg.1).2.2
   rw [this] at hend
   cases hend
  | true =>
   obtain ⟨hx,hgv⟩:=k1 hend
   simp only [Bool.not_true,cond_false]
   obtain ⟨w,hw,hcase⟩:=qan5 (x:=x) (ok:=true) hLs (fun f hf=>hmem f (List.mem_cons_of_mem _ hf)) a v
   refine ⟨w,hw,?_,fun l hl hb hg => ?_⟩
   ·rcases hcase with h | ⟨B,E,rfl,hb,hB,hE,hL⟩
    ·exact .inl h
    ·refine .inr ⟨(a,v,B,E,()),rfl,hb,⟨hgv,hB,hE⟩,?_⟩
     rw [hsL]
     unfold logT logL
     rw [hx,hL]
   ·have h3:=qyj l
    rw [← hl,h1] at h3
    have h4:=List.append_cancel_right h3
    obtain ⟨h5,h6⟩:=List.cons.inj h4
    have hb':=hb
    unfold logB frameB at hb'
    simp only [Bool.and_eq_true,qb8] at hb'
    obtain ⟨ha,hvv,-⟩:=k2 _ _ h5 (by omega) (by omega) hg.1
    obtain ⟨la,lv,lB,lE,⟨⟩⟩:=l
    simp only at ha hvv h6
    subst ha;subst hvv
    have h6':Ls=lB.map beaL++lE.map entL:=h6
    subst h6'
    have:=qan4 (x:=x) (ok:=true) hb hg.2.1 hg.2.2 (fun f hf=>hmem f (List.mem_cons_of_mem _ hf))
    rw [hw] at this
    exact Option.some.inj this
end
section
theorem qtt {a:Nat} (h:goodN a):a<4294967296:=(qahj h).1
theorem qabd {a:Nat} (h:goodN a):qkc a=some ((hex8 a,()),()):=qaga (qtt h)
theorem qgb (a:Nat):(hex8 a).length=8:=qgc 8 _
def vecT (v:Vec 3 Nat):List UInt8:=hex8 v.1++[32]++hex8 v.2.1++[32]++hex8 v.2.2.1
theorem qaa4 (v:Vec 3 Nat):vecT v=joinC 32 (vecW v):=by
 unfold vecT vecW
 simp [joinC]
theorem qra (v:Vec 3 Nat):(vecT v).length=26:=by
 unfold vecT
 simp [qgb]
theorem qal {a b:List UInt8} (h:a.length+b.length≤1000000000):strRoom a b=true:=qa2 (by omega)
theorem qae8 {v:Vec 3 Nat} (h:goodV v):que v=some ((vecT v,()),()):=by
 obtain ⟨a,b,c,⟨⟩⟩:=v
 obtain ⟨ha,hb,hc⟩:=h
 have l0:lenI ([a,b,c]:List Nat)=3:=rfl
 have step0:qc5 [a,b,c] (([]:List UInt8),(0:Int),())=some (.inl (hex8 a,(1:Int),())):=by
  unfold qc5
  simp only
  rw [l0,show iLt (0:Int) 3=true from rfl,show iLt 0 (0:Int)=false from rfl,show inB 0 ([a,b,c]:List Nat).length=true from rfl]
  simp only [cond_true,cond_false]
  rw [show List.getD [a,b,c] (0:Int).toNat (0:Nat)=a from rfl,qabd ha]
  simp only [Option.bind_some]
  rw [qal (by rw [qgb];simp),show iAdd .i64 (0:Int) 1=1 from by decide]
  rfl
 have step1:qc5 [a,b,c] (hex8 a,(1:Int),())=some (.inl (hex8 a++[32]++hex8 b,(2:Int),())):=by
  unfold qc5
  simp only
  rw [l0,show iLt (1:Int) 3=true from rfl,show iLt 0 (1:Int)=true from rfl,show inB 1 ([a,b,c]:List Nat).length=true from rfl,qal (a:=hex8 a) (b:=[32]) (by rw [qgb];simp)]
  simp only [cond_true,cond_false]
  rw [show List.getD [a,b,c] (1:Int).toNat (0:Nat)=b from rfl,qabd hb]
  simp only [Option.bind_some]
  rw [qal (by unfold strCat;simp [qgb]),show iAdd .i64 (1:Int) 1=2 from by decide]
  rfl
 have step2:qc5 [a,b,c] (hex8 a++[32]++hex8 b,(2:Int),())=some (.inl (hex8 a++[32]++hex8 b++[32]++hex8 c,(3:Int),())):=by
  unfold qc5
  simp only
  rw [l0,show iLt (2:Int) 3=true from rfl,show iLt 0 (2:Int)=true from rfl,show inB 2 ([a,b,c]:List Nat).length=true from rfl,qal (a:=hex8 a++[32]++hex8 b) (b:=[32]) (by simp [qgb])]
  simp only [cond_true,cond_false]
  rw [show List.getD [a,b,c] (2:Int).toNat (0:Nat)=c from rfl,qabd hc]
  simp only [Option.bind_some]
  rw [qal (by unfold strCat;simp [qgb]),show iAdd .i64 (2:Int) 1=3 from by decide]
  rfl
 have step3:qc5 [a,b,c] (hex8 a++[32]++hex8 b++[32]++hex8 c,(3:Int),())=some (.inr ((hex8 a++[32]++hex8 b++[32]++hex8 c,()),())):=by
  unfold qc5
  simp only
  rw [l0]
  rfl
 have hr:qq8 [a,b,c]=some ((vecT (a,b,c,()),()),()):=by
  unfold qq8
  rw [qar step0,qar step1,qar step2,qay step3]
  rfl
 unfold que
 show (qq8 [a,b,c]).bind _=_
 rw [hr]
 rfl
theorem qi9 {n:Int} (h : -999999999≤n) (h1:n≤999999999):(Lib.itoa n).length≤20:=by
 by_cases h0:0≤n
 ·rw [qai1 h0]
  have:=(qhs (n:=n.toNat) (by omega)).2
  omega
 ·obtain ⟨u,rfl⟩ : ∃ u:Nat,n = -(u:Int):=⟨n.natAbs,by omega⟩
  rw [Lib.itoa_neg u (by omega)]
  have:=(qhs (n:=u) (by omega)).2
  simp
  omega
theorem qsr {n:Int} (h:0≤n) (h1:n≤999999999):qcl n=some ((Lib.itoa n,()),()):=by
 obtain ⟨u,rfl⟩:=Int.eq_ofNat_of_zero_le h
 rw [(qhs (n:=u) (by omega)).1,qai0]
theorem ql8 {n:Int} (h : -32768≤n) (h1:n≤32767):qis n=some ((Lib.itoa n,()),()):=by
 unfold qis
 by_cases h0:0≤n
 ·rw [qag (by omega),qsr h0 (by omega)]
  rfl
 ·obtain ⟨u,rfl⟩ : ∃ u:Nat,n = -(u:Int):=⟨n.natAbs,by omega⟩
  have e:iSub .i64 0 (-(u:Int))=(u:Int):=(qcm (by omega) (by omega)).trans (by omega)
  have hd:=qhs (n:=u) (by omega)
  rw [qaf (by omega),e,hd.1]
  simp only [cond_true,Option.bind_some]
  rw [qal (by simp;omega),Lib.itoa_neg u (by omega)]
  rfl
theorem qaiq {e:DEntry} (h:e.1=2):entL e=wMov++[32]++vecT e.2.1:=by
 unfold entL entW
 rw [qaz (a:=e.1) (b:=1) (by omega),qfh (a:=e.1) (b:=2) h]
 simp only [cond_true,cond_false]
 rw [qaa4]
 unfold vecW
 simp [joinC]
theorem qado {e:DEntry} (h:e.1=3):entL e=wFi++[32]++Lib.itoa e.2.2.1.1++[32]++Lib.itoa e.2.2.1.2.1++[32]++Lib.itoa e.2.2.1.2.2.1:=by
 unfold entL entW
 rw [qaz (a:=e.1) (b:=1) (by omega),qaz (a:=e.1) (b:=2) (by omega),qfh (a:=e.1) (b:=3) h]
 simp only [cond_true,cond_false]
 simp [joinC]
theorem qagx {e:DEntry} (h:e.1=4):entL e=wRan++[32]++Lib.itoa e.2.2.2.1++[32]++hex8 e.2.2.2.2.1:=by
 unfold entL entW
 rw [qaz (a:=e.1) (b:=1) (by omega),qaz (a:=e.1) (b:=2) (by omega),qaz (a:=e.1) (b:=3) (by omega)]
 simp only [cond_false]
 simp [joinC]
theorem qaip {e:DEntry} (h:e.1=1):entL e=wTick:=by
 unfold entL entW
 rw [qfh (a:=e.1) (b:=1) h]
 rfl
theorem qafc {n:Int} {e:DEntry} (hn:0≤n) (hn1:n≤1000) (hv:entryB n e=true) (hg:goodE e):qlh e=some ((entL e++[10],()),())∧(entL e).length≤100:=by
 rcases qf4 hv with h | ⟨v,h,-⟩ | ⟨c,h⟩ | ⟨k,a,h,k0,k1,-⟩
 ·have q:e.1=1:=congrArg (fun z:DEntry=>z.1) h
  have he:=qaip q
  refine ⟨?_,by rw [he];decide⟩
  unfold qlh
  rw [qfh (a:=e.1) (b:=1) q,he]
  rfl
 ·have q:e.1=2:=congrArg (fun z:DEntry=>z.1) h
  have e1:=qae8 (hg.1 q)
  have hl:=qra e.2.1
  have he:=qaiq q
  refine ⟨?_,by rw [he];simp [hl,wMov]⟩
  unfold qlh
  rw [qaz (a:=e.1) (b:=1) (by omega),qfh (a:=e.1) (b:=2) q,e1]
  simp only [cond_true,cond_false,Option.bind_some]
  rw [qal (by rw [hl];simp),qal (by unfold strCat;simp [hl])]
  rw [he]
  rfl
 ·have q:e.1=3:=congrArg (fun z:DEntry=>z.1) h
  obtain ⟨g0,g1,g2⟩:=hg.2.1 q
  have he:=qado q
  have v0:Vec.getD 3 e.2.2.1 0 (0:Int)=e.2.2.1.1:=rfl
  have v1:Vec.getD 3 e.2.2.1 1 (0:Int)=e.2.2.1.2.1:=rfl
  have v2:Vec.getD 3 e.2.2.1 2 (0:Int)=e.2.2.1.2.2.1:=rfl
  have q1:iEq e.1 1=false:=qaz (by omega)
  have q2:iEq e.1 2=false:=qaz (by omega)
  have q3:iEq e.1 3=true:=qfh q
  unfold qlh
  rw [he,v0,v1,v2,q1,q2,q3]
  generalize e.2.2.1.1=c0 at g0
  generalize e.2.2.1.2.1=c1 at g1
  generalize e.2.2.1.2.2.1=c2 at g2
  have w0:iWrap .i64 c0=c0:=qfy (by omega) (by omega)
  have w1:iWrap .i64 c1=c1:=qfy (by omega) (by omega)
  have w2:iWrap .i64 c2=c2:=qfy (by omega) (by omega)
  have s0:=ql8 g0.1 g0.2
  have s1:=ql8 g1.1 g1.2
  have s2:=ql8 g2.1 g2.2
  have m0:=qi9 (n:=c0) (by omega) (by omega)
  have m1:=qi9 (n:=c1) (by omega) (by omega)
  have m2:=qi9 (n:=c2) (by omega) (by omega)
  refine ⟨?_,by simp [wFi];omega⟩
  simp only [cond_true,cond_false]
  rw [w0,w1,w2,s0]
  simp only [Option.bind_some]
  rw [qal (by simp;omega),qal (by unfold strCat;simp;omega),s1]
  simp only [Option.bind_some,cond_true]
  rw [qal (by unfold strCat;simp;omega),qal (by unfold strCat;simp;omega),s2]
  simp only [Option.bind_some,cond_true]
  rw [qal (by unfold strCat;simp;omega),qal (by unfold strCat;simp;omega)]
  rfl
 ·have q:e.1=4:=congrArg (fun z:DEntry=>z.1) h
  have qk:e.2.2.2.1=k:=congrArg (fun z:DEntry=>z.2.2.2.1) h
  have hk:k≤999:=by rw [qcm (by omega) (by omega)] at k1;omega
  have g:=hg.2.2 q
  have e1:=qabd g
  have hl:=qgb e.2.2.2.2.1
  have he:=qagx q
  have hd:=qsr (n:=e.2.2.2.1) (by omega) (by omega)
  have m0:=qi9 (n:=e.2.2.2.1) (by omega) (by omega)
  refine ⟨?_,by rw [he];simp [wRan,hl];omega⟩
  unfold qlh
  rw [qaz (a:=e.1) (b:=1) (by omega),qaz (a:=e.1) (b:=2) (by omega),qaz (a:=e.1) (b:=3) (by omega),hd]
  simp only [cond_false,Option.bind_some]
  rw [qal (by simp;omega),qal (by unfold strCat;simp;omega),e1]
  simp only [Option.bind_some,cond_true]
  rw [qal (by unfold strCat;simp;omega),qal (by unfold strCat;simp;omega),he]
  rfl
theorem qaiz (a:Int) (v:Vec 3 Nat):headL a v=wLog++[32]++Lib.itoa a++[32]++vecT v:=by
 unfold headL
 rw [qaa4]
 unfold vecW
 simp [joinC]
theorem qak3 (v:Vec 3 Nat):beaL v=wBea++[32]++vecT v:=by
 unfold beaL
 rw [qaa4]
 unfold vecW
 simp [joinC]
theorem qy1 (A B:List (List UInt8)):linesT (A++B)=linesT A++linesT B:=by unfold linesT;rw [List.flatMap_append]
theorem qamh (x:List UInt8):linesT [x]=x++[10]:=by unfold linesT;simp
end
section
theorem qakf (a b:List UInt8):bytesOf (a++b)=bytesOf a++bytesOf b:=List.map_append
theorem qaje (t:List UInt8):ofBytes (bytesOf t)=t:=by
 unfold ofBytes bytesOf
 rw [List.map_map]
 exact (List.map_congr_left fun b _=>quw b).trans (List.map_id _)
theorem qnr {t s:List UInt8} (h:t.length+s.length≤1000000000):qav ((),bytesOf t,()) s=some ((lenI s,true,()),(((),bytesOf (t++s),()),())):=by
 unfold qav qga
 simp only [Option.bind_some]
 have:room (List.length (bytesOf t)+List.length (bytesOf s)) 1=true:=by unfold room bytesOf;simp;omega
 rw [this,qakf]
 rfl
theorem qal0 {s:List UInt8} (h:s.length≤1000000000):qav ((),[],()) s=some ((lenI s,true,()),(((),bytesOf s,()),())):=qnr (t:=[]) (by simpa using h)
theorem qar9 {t:List UInt8} (h:t≠[]) (h1:t.length≤1000000000):bldStr ((),bytesOf t,())=some t:=by
 have e1:Nat.ble 1 (List.length (bytesOf t))=true:=by
  rw [Nat.ble_eq];unfold bytesOf;rw [List.length_map]
  exact List.length_pos_iff.2 h
 have e2:Nat.ble (List.length (bytesOf t)) 140737488355328=true:=by rw [Nat.ble_eq];unfold bytesOf;rw [List.length_map];omega
 unfold bldStr
 simp only
 rw [e1,e2,qaje]
 rfl
theorem qu4 {a:Nat} (h:fltFit .f32 a):goodN a:=by
 obtain ⟨hc,hl⟩:=h
 have hl:a<4294967296:=hl
 have hb:bitsOf a=a:=by
  unfold bitsOf
  split
  ·rfl
  ·rename_i hn
   rw [qm6] at hn
   have hn:isNan .f32 a=true:=by simpa using hn
   unfold canon at hc
   rw [hn] at hc
   exact hc
 unfold goodN hex8
 rw [hb,qaos hl,hc,if_pos hb]
theorem qz3 {v:Vec 3 Nat} (h:FitVec (fltFit .f32) 3 v):goodV v:=⟨qu4 h.1,qu4 h.2.1,qu4 h.2.2.1⟩
theorem qah0 (a b c:Nat) (ha:a<4294967296) (hb:b<4294967296) (hc:c<4294967296):qi8 [a,b,c]=some ((hex8 a++[32]++hex8 b++[32]++hex8 c,()),()):=by
 have l1 : ∀ x,(hex8 x).length=8:=fun x=>qgc 8 _
 have s0:qb4 [a,b,c] ([],0,())=some (.inl ([hex8 a],1,())):=by
  unfold qb4
  have e:=qfc ha
  have g:List.getD [a,b,c] (Int.toNat 0) 0=a:=rfl
  simp only
  rw [g,e]
  rfl
 have s1:qb4 [a,b,c] ([hex8 a],1,())=some (.inl ([hex8 a,hex8 b],2,())):=by
  unfold qb4
  have e:=qfc hb
  have g:List.getD [a,b,c] (Int.toNat 1) 0=b:=rfl
  simp only
  rw [g,e]
  rfl
 have s2:qb4 [a,b,c] ([hex8 a,hex8 b],2,())=some (.inl ([hex8 a,hex8 b,hex8 c],3,())):=by
  unfold qb4
  have e:=qfc hc
  have g:List.getD [a,b,c] (Int.toNat 2) 0=c:=rfl
  simp only
  rw [g,e]
  rfl
 have hj:Lib.join [hex8 a,hex8 b,hex8 c] [32]=hex8 a++[32]++hex8 b++[32]++hex8 c:=by
  simp [Lib.join_cons,Lib.joinTail]
 have e:strings_Join [hex8 a,hex8 b,hex8 c] [32]=some ((hex8 a++[32]++hex8 b++[32]++hex8 c,()),()):=by
  unfold strings_Join
  rw [hj]
  have:Nat.ble (hex8 a++[32]++hex8 b++[32]++hex8 c).length 140737488355328=true:=by rw [Nat.ble_eq];simp [l1]
  rw [this]
  rfl
 unfold qi8
 rw [qar s0,qar s1,qar s2]
 refine qay ?_
 unfold qb4
 simp only
 rw [e]
 rfl
theorem qoj {v:Vec 3 Nat} (h:goodV v):qid v=some ((vecT v,()),()):=by
 unfold qid
 have v0:Vec.getD 3 v 0 (0:Nat)=v.1:=rfl
 have v1:Vec.getD 3 v 1 (0:Nat)=v.2.1:=rfl
 have v2:Vec.getD 3 v 2 (0:Nat)=v.2.2.1:=rfl
 rw [v0,v1,v2,qah0 _ _ _ (qtt h.1) (qtt h.2.1) (qtt h.2.2)]
 rfl
theorem qie {n:Int} (h : -32768≤n) (h1:n≤32767):qdx n=some ((Lib.itoa n,()),()):=by
 have w0:iWrap .i64 n=n:=qfy (by omega) (by omega)
 unfold qdx qb6
 have e:(iEq 10 10&&(iLe (-9223372036854775808) (iWrap .i64 n)&&iLe (iWrap .i64 n) 9223372036854775807))=true:=by
  rw [w0,qa3 (by omega),qa3 (by omega)];rfl
 rw [e,w0]
 rfl
theorem qaed {a:Int} {v:Vec 3 Nat} {B:List (Vec 3 Nat)} {E:List DEntry} (hb6:B.length≤6) {j:Nat} (hjE:j<E.length) (hl:E.length≤1200) (hv:entryB (lenI B) E[j]=true) (hg:goodE E[j]) {out:List UInt8} (ho:out.length≤1000000) :
  qdq (a,v,B,E,()) ((j:Int),((),bytesOf out,()),())=some (.inl (((j+1:Nat):Int),((),bytesOf (out++(entL E[j]++[10])),()),())):=by
 have e1:iLt (j:Int) (lenI E)=true:=qaf (by rw [qaa];omega)
 have e2:inB (j:Int) E.length=true:=qad hjE
 have e5:iAdd .i64 (j:Int) 1=((j+1:Nat):Int):=qat hjE (by omega)
 have hgd:List.getD E (j:Int).toNat ((0,(0,0,0,()),(0,0,0,()),0,0,()):DEntry)=E[j]:=by rw [Int.toNat_natCast];exact qao hjE
 unfold qdq
 simp only
 rw [e1,e2,hgd,e5]
 generalize E[j]=e at hv hg
 simp only [cond_true]
 rcases qf4 hv with h | ⟨u,h,-⟩ | ⟨c,h⟩ | ⟨k,x,h,k0,k1,-⟩
 ·have q:e.1=1:=congrArg (fun z:DEntry=>z.1) h
  rw [qfh (a:=e.1) (b:=1) q,qaip q]
  simp only [cond_true]
  rw [qnr (by simp;omega)]
  rfl
 ·have q:e.1=2:=congrArg (fun z:DEntry=>z.1) h
  have g:=qoj (hg.1 q)
  have hlv:=qra e.2.1
  rw [qaz (a:=e.1) (b:=1) (by omega),qfh (a:=e.1) (b:=2) q,g,qaiq q]
  simp only [cond_true,cond_false,Option.bind_some]
  rw [qal (by rw [hlv];simp),qal (by unfold strCat;simp [hlv])]
  simp only [cond_true]
  rw [qnr (by unfold strCat;simp [hlv];omega)]
  rfl
 ·have q:e.1=3:=congrArg (fun z:DEntry=>z.1) h
  obtain ⟨g0,g1,g2⟩:=hg.2.1 q
  have v0:Vec.getD 3 e.2.2.1 0 (0:Int)=e.2.2.1.1:=rfl
  have v1:Vec.getD 3 e.2.2.1 1 (0:Int)=e.2.2.1.2.1:=rfl
  have v2:Vec.getD 3 e.2.2.1 2 (0:Int)=e.2.2.1.2.2.1:=rfl
  have q1:iEq e.1 1=false:=qaz (by omega)
  have q2:iEq e.1 2=false:=qaz (by omega)
  have q3:iEq e.1 3=true:=qfh q
  rw [qado q,v0,v1,v2,q1,q2,q3]
  generalize e.2.2.1.1=c0 at g0
  generalize e.2.2.1.2.1=c1 at g1
  generalize e.2.2.1.2.2.1=c2 at g2
  have m0:=qi9 (n:=c0) (by omega) (by omega)
  have m1:=qi9 (n:=c1) (by omega) (by omega)
  have m2:=qi9 (n:=c2) (by omega) (by omega)
  rw [qie g0.1 g0.2,qie g1.1 g1.2,qie g2.1 g2.2]
  simp only [cond_true,cond_false,Option.bind_some]
  rw [qal (by simp;omega),qal (by unfold strCat;simp;omega)]
  simp only [cond_true]
  rw [qal (by unfold strCat;simp;omega),qal (by unfold strCat;simp;omega)]
  simp only [cond_true]
  rw [qal (by unfold strCat;simp;omega),qal (by unfold strCat;simp;omega)]
  simp only [cond_true]
  rw [qnr (by unfold strCat;simp;omega)]
  rfl
 ·have q:e.1=4:=congrArg (fun z:DEntry=>z.1) h
  have qk:e.2.2.2.1=k:=congrArg (fun z:DEntry=>z.2.2.2.1) h
  have hk:k≤999:=by rw [qaa,qcm (by omega) (by omega)] at k1;omega
  have g:=hg.2.2 q
  have e1:qd8 e.2.2.2.2.1=some ((hex8 e.2.2.2.2.1,()),()):=qfc (qtt g)
  have hl:=qgb e.2.2.2.2.1
  have hd:=qig (n:=e.2.2.2.1) (by omega) (by omega)
  have m0:=qi9 (n:=e.2.2.2.1) (by omega) (by omega)
  rw [qaz (a:=e.1) (b:=1) (by omega),qaz (a:=e.1) (b:=2) (by omega),qaz (a:=e.1) (b:=3) (by omega),qfh (a:=e.1) (b:=4) q,hd,e1,qagx q]
  simp only [cond_true,cond_false,Option.bind_some]
  rw [qal (by simp;omega),qal (by unfold strCat;simp;omega)]
  simp only [cond_true]
  rw [qal (by unfold strCat;simp;omega),qal (by unfold strCat;simp;omega)]
  simp only [cond_true]
  rw [qnr (by unfold strCat;simp;omega)]
  rfl
theorem qak5 {n:Int} {e:DEntry} (hn:0≤n) (hn1:n≤1000) (hv:entryB n e=true) (hg:goodE e):(entL e).length≤100:=(qafc hn hn1 hv hg).2
theorem qadz {l:DLog} (hs:Sized TyLog l) (hg:goodL l):qh9 l=some ((bif logB l then logT l else [],()),()):=by
 have hval:=qe1 l hs
 cases hv:logB l with
 | false =>
  unfold qh9
  rw [hval,hv]
  rfl
 | true =>
 obtain ⟨a,v,B,E,⟨⟩⟩:=l
 have hv':=hv
 unfold logB frameB at hv'
 simp only [Bool.and_eq_true,List.all_eq_true,qb8,qaa] at hv'
 obtain ⟨⟨⟨ha0,ha1⟩,-,hb6,-⟩,he1200,heach⟩:=hv'
 obtain ⟨gv,gB,gE⟩:=hg
 simp only at gv gB gE heach he1200 hb6 ha0 ha1
 have hd:=qig (n:=a) (by omega) (by omega)
 have m0:=qi9 (n:=a) (by omega) (by omega)
 have e1:=qoj gv
 have hl:=qra v
 have hnl : ∀ x:List UInt8,x++[10]≠[]:=fun x=>by simp
 have phase2 : ∀ (d j:Nat) (out:List UInt8),j+d=E.length→out≠[]→out.length≤10000+200*j→run (qdq (a,v,B,E,())) ((j:Int),((),bytesOf out,()),())=some ((out++linesT ((E.drop j).map entL),()),()):=by
  intro d
  induction d with
  | zero =>
   intro j out hj hne ho
   have e1:iLt (j:Int) (lenI E)=false:=qag (by rw [qaa];omega)
   rw [List.drop_eq_nil_of_le (by omega)]
   refine qay ?_
   unfold qdq
   simp only
   rw [e1]
   simp only [cond_false]
   rw [qar9 hne (by omega)]
   simp [linesT]
  | succ d ih =>
   intro j out hj hne ho
   have hjE:j<E.length:=by omega
   have k2:=qak5 (n:=lenI B) (by rw [qaa];omega) (by rw [qaa];omega) (by rw [qaa];exact heach _ (List.getElem_mem hjE)) (gE _ (List.getElem_mem hjE))
   have st:=qaed (a:=a) (v:=v) (B:=B) (E:=E) (by omega) hjE (by omega) (by rw [qaa];exact heach _ (List.getElem_mem hjE)) (gE _ (List.getElem_mem hjE)) (out:=out) (by omega)
   rw [qar st,ih (j+1) _ (by omega) (by simp) (by simp;omega)]
   have hd:E.drop j=E[j] :: E.drop (j+1):=List.drop_eq_getElem_cons hjE
   rw [hd,List.map_cons]
   have e:linesT (entL E[j] :: (E.drop (j+1)).map entL)=(entL E[j]++[10])++linesT ((E.drop (j+1)).map entL):=by unfold linesT;rw [List.flatMap_cons]
   rw [e]
   simp
 have phase1 : ∀ (d i:Nat) (out:List UInt8),i+d=B.length→out≠[]→out.length≤1000+200*i→run (qfi (a,v,B,E,())) ((i:Int),((),bytesOf out,()),())=some ((out++linesT ((B.drop i).map beaL)++linesT (E.map entL),()),()):=by
  intro d
  induction d with
  | zero =>
   intro i out hi hne ho
   have e1:iLt (i:Int) (lenI B)=false:=qag (by rw [qaa];omega)
   have:=phase2 E.length 0 out (by omega) hne (by omega)
   rw [List.drop_zero] at this
   rw [List.drop_eq_nil_of_le (by omega)]
   have hz:linesT (List.map beaL [])=[]:=rfl
   rw [hz,List.append_nil,← this]
   rw [qaex]
   have:qfi (a,v,B,E,()) ((i:Int),((),bytesOf out,()),())=Option.map Sum.inr (run (qdq (a,v,B,E,())) ((0:Int),((),bytesOf out,()),())):=by
    unfold qfi
    simp only
    rw [e1]
    rfl
   rw [this]
   have c0:((0:Nat):Int)=0:=rfl
   rw [c0]
   cases run (qdq (a,v,B,E,())) ((0:Int),((),bytesOf out,()),()) <;> rfl
  | succ d ih =>
   intro i out hi hne ho
   have hiB:i<B.length:=by omega
   have e1:iLt (i:Int) (lenI B)=true:=qaf (by rw [qaa];omega)
   have e2:inB (i:Int) B.length=true:=qad hiB
   have e5:iAdd .i64 (i:Int) 1=((i+1:Nat):Int):=qat hiB (by omega)
   have k1:=qoj (gB _ (List.getElem_mem hiB))
   have hvl:=qra B[i]
   have hgd:List.getD B (i:Int).toNat ((0,0,0,()):Vec 3 Nat)=B[i]:=by rw [Int.toNat_natCast];exact qao hiB
   have st:qfi (a,v,B,E,()) ((i:Int),((),bytesOf out,()),())=some (.inl (((i+1:Nat):Int),((),bytesOf (out++(beaL B[i]++[10])),()),())):=by
    unfold qfi
    simp only
    rw [e1,e2,hgd,k1,e5]
    simp only [cond_true,Option.bind_some]
    rw [qal (by simp [hvl]),qal (by unfold strCat;simp [hvl]),qak3]
    simp only [cond_true]
    rw [qnr (by unfold strCat;simp [hvl];omega)]
    rfl
   rw [qar st,ih (i+1) _ (by omega) (by simp) (by rw [qak3];simp [wBea,hvl];omega)]
   have hd:B.drop i=B[i] :: B.drop (i+1):=List.drop_eq_getElem_cons hiB
   rw [hd,List.map_cons]
   have e:linesT (beaL B[i] :: (B.drop (i+1)).map beaL)=(beaL B[i]++[10])++linesT ((B.drop (i+1)).map beaL):=by unfold linesT;rw [List.flatMap_cons]
   rw [e]
   simp
 have:=phase1 B.length 0 (headL a v++[10]) (by omega) (by simp) (by rw [qaiz];simp [wLog,hl];omega)
 rw [List.drop_zero] at this
 have hlog:logT (a,v,B,E,())=headL a v++[10]++linesT (B.map beaL)++linesT (E.map entL):=by
  unfold logT logL
  show linesT ([headL a v]++(B.map beaL++E.map entL))=_
  rw [qy1,qy1,qamh]
  simp
 rw [cond_true,hlog,← this]
 unfold qh9
 rw [hval,hv]
 simp only [Option.bind_some,Bool.not_true,cond_false]
 rw [hd]
 simp only [Option.bind_some]
 rw [qal (by simp;omega),qal (by unfold strCat;simp;omega),e1]
 simp only [Option.bind_some,cond_true]
 rw [qal (by unfold strCat;simp [hl];omega),qal (by unfold strCat;simp [hl];omega),qaiz]
 simp only [cond_true]
 rw [qal0 (by unfold strCat;simp [hl];omega)]
 rfl
end
section
theorem qrr (a b c d e f:Nat):qaj [a,b,c,d,e,f]=some ((([a,b,c,d,e,f]:List Nat).all finB,()),()):=qcf _ (by simp)
theorem qaa7 (c b:Bool):(bif !c then some (((false,()),()):(Bool×Unit)×Unit) else some ((b,()),()))=some ((c&&b,()),()):=by cases c <;> rfl
theorem qak4 (c b:Bool):(bif c then some (((false,()),()):(Bool×Unit)×Unit) else some ((b,()),()))=some ((!c&&b,()),()):=by cases c <;> rfl
def rowL (r:Vec 6 Nat):List Nat:=[Vec.getD 6 r 0 (0:Nat),Vec.getD 6 r 1 (0:Nat),Vec.getD 6 r 2 (0:Nat),Vec.getD 6 r 3 (0:Nat),Vec.getD 6 r 4 (0:Nat),Vec.getD 6 r 5 (0:Nat)]
def rowC (i:Nat) (r:Vec 6 Nat):List Bool:=(rowL r).all finB :: (!fLt .f32 ((rowL r).getD i 0) 0) :: ((rowL r).drop (i+1)).map fun x=>fEq .f32 x 0
abbrev DState:=Vec 6 Nat×(Vec 6 (Vec 6 Nat)×Unit)
def rowS (S:Vec 6 (Vec 6 Nat)) (i:Nat):Vec 6 Nat:=Vec.getD 6 S i ((0,0,0,0,0,0,()):(Vec 6 Nat))
def restC (S:Vec 6 (Vec 6 Nat)):List Bool:=rowC 0 (rowS S 0)++(rowC 1 (rowS S 1)++(rowC 2 (rowS S 2)++(rowC 3 (rowS S 3)++(rowC 4 (rowS S 4)++rowC 5 (rowS S 5)))))
def stateB (s:DState):Bool:=(rowL s.1).all finB&&(restC s.2.1).all id
theorem qcd (s:DState):qbo s=some ((stateB s,()),()):=by
 simp only [qbo,qrr,Option.bind_some,qaa7,qak4,Bool.not_not]
 rfl
def firstR:Vec 6 (Vec 6 Nat):=((1056964608,0,0,0,0,0,()),(0,1056964608,0,0,0,0,()),(0,0,1056964608,0,0,0,()),(0,0,0,1065353216,0,0,()),(0,0,0,0,1065353216,0,()),(0,0,0,0,0,1065353216,()),())
def firstS (v:Vec 3 Nat):DState:=((Vec.getD 3 v 0 (0:Nat),Vec.getD 3 v 1 (0:Nat),Vec.getD 3 v 2 (0:Nat),0,0,0,()),firstR,())
theorem qaiv:(restC firstR).all id=true:=by kernel_rfl
theorem qtr {v:Vec 3 Nat} (h:finV v=true):stateB (firstS v)=true:=by
 simp only [finV,Bool.and_eq_true] at h
 have e:(rowL (firstS v).1).all finB=true:=by
  show (([Vec.getD 3 v 0 (0:Nat),Vec.getD 3 v 1 (0:Nat),Vec.getD 3 v 2 (0:Nat),0,0,0]:List Nat).all finB)=true
  simp [h.1,h.2.1,h.2.2,qzw]
 show ((rowL (firstS v).1).all finB&&(restC firstR).all id)=true
 rw [e,qaiv]
 rfl
theorem qrm (a:DLog) (hv:finV a.2.1=true):qfl a=some ((firstS a.2.1,()),()):=by
 have e:qfl a=(qbo (firstS a.2.1)).bind fun y=>bif !y.1.1 then some ((((0,0,0,0,0,0,()),((0,0,0,0,0,0,()),(0,0,0,0,0,0,()),(0,0,0,0,0,0,()),(0,0,0,0,0,0,()),(0,0,0,0,0,0,()),(0,0,0,0,0,0,()),()),()),()),()) else some ((firstS a.2.1,()),()):=by
  have e1:qfl a=(qoe (firstS a.2.1).1 ((1056964608,1056964608,1056964608,1065353216,1065353216,1065353216,()):(Vec 6 Nat))).bind fun y=>some ((y.1.1,()),()):=rfl
  have e2:qoe (firstS a.2.1).1 ((1056964608,1056964608,1056964608,1065353216,1065353216,1065353216,()):(Vec 6 Nat))=(qbo (firstS a.2.1)).bind fun y=>bif !y.1.1 then some ((((0,0,0,0,0,0,()),((0,0,0,0,0,0,()),(0,0,0,0,0,0,()),(0,0,0,0,0,0,()),(0,0,0,0,0,0,()),(0,0,0,0,0,0,()),(0,0,0,0,0,0,()),()),()),1,()),()) else some ((firstS a.2.1,0,()),()):=rfl
  rw [e1,e2,qcd]
  cases stateB (firstS a.2.1) <;> rfl
 rw [e,qcd,qtr hv]
 rfl
theorem qup (a:DLog):qj1 a=some ((firstS a.2.1,()),()):=rfl
theorem qag9 {a:DLog} (h:logB a=true):finV a.2.1=true:=by
 simp only [logB,frameB,Bool.and_eq_true] at h
 exact h.1.2.1
end
section
theorem qadd {α:Type} {z:α} : ∀ (n:Nat) (v:Vec n α) (i j:Nat) (x:α),i<n→Vec.getD n (Vec.set n v i x) j z=if j=i then x else Vec.getD n v j z
 | 0,_,_,_,_,h=>absurd h (Nat.not_lt_zero _)
 | _+1,_,0,0,_,_=>rfl
 | _+1,_,0,_+1,_,_=>rfl
 | _+1,_,_+1,0,_,_=>rfl
 | n+1,v,i+1,j+1,x,h=>by
  have:=qadd (z:=z) n v.2 i j x (Nat.lt_of_succ_lt_succ h)
  show Vec.getD n (Vec.set n v.2 i x) j z=_
  rw [this]
  by_cases e:j=i
  ·rw [if_pos e,if_pos (congrArg (· + 1) e)]
  ·rw [if_neg e,if_neg (fun q=>e (Nat.succ.inj q))];rfl
abbrev DTab:=Vec 6 (Vec 9 Nat)
abbrev DRoot:=Vec 6 (Vec 6 Nat)
abbrev r9:Vec 9 Nat:=(0,0,0,0,0,0,0,0,0,())
abbrev r6:Vec 6 Nat:=(0,0,0,0,0,0,())
abbrev z6:DRoot:=((0,0,0,0,0,0,()),(0,0,0,0,0,0,()),(0,0,0,0,0,0,()),(0,0,0,0,0,0,()),(0,0,0,0,0,0,()),(0,0,0,0,0,0,()),())
def tg (T:DTab) (r k:Nat):Nat:=Vec.getD 9 (Vec.getD 6 T r r9) k (0:Nat)
theorem qau5 {T:DTab} {r:Nat} (hr:r<6) (row:Vec 9 Nat) (r' k:Nat):tg (Vec.set 6 T r row) r' k=if r'=r then Vec.getD 9 row k (0:Nat) else tg T r' k:=by
 unfold tg
 rw [qadd 6 T r r' row hr]
 by_cases h:r'=r
 ·rw [if_pos h,if_pos h]
 ·rw [if_neg h,if_neg h]
theorem qx3 {T:DTab} {r c:Nat} (hr:r<6) (hc:c<9) (x:Nat) (r' k:Nat):tg (Vec.set 6 T r (Vec.set 9 (Vec.getD 6 T r r9) c x)) r' k=if r'=r∧k=c then x else tg T r' k:=by
 rw [qau5 hr,qadd 9 _ c k x hc]
 by_cases h:r'=r
 ·by_cases h1:k=c
  ·rw [if_pos h,if_pos h1,if_pos ⟨h,h1⟩]
  ·rw [if_pos h,if_neg h1,if_neg (fun q=>h1 q.2),h];rfl
 ·rw [if_neg h,if_neg (fun q=>h q.1)]
def Seen (i:Nat) (T:DTab) (P:Nat→Nat→Prop):Prop:=∃ r k,r<6∧k<9∧finB (tg T r k)=false∧((k<i∧k≤r)∨(i≤r∧i≤k))∧P r k
theorem qapg {i c r:Nat} {T:DTab} {x y:Nat} (hi:i<c) (hc:c<9) (hr:r<6) (hir:i≤r) {a b:Nat} (ha:a=fAdd .f32 (fMul .f32 x (tg T r i)) (fMul .f32 y (tg T r c)))
  (h:Seen i T fun r' k=>¬ (k=c∧r'<r)):Seen i (Vec.set 6 (Vec.set 6 T r (Vec.set 9 (Vec.getD 6 T r r9) i a)) r (Vec.set 9 (Vec.getD 6 (Vec.set 6 T r (Vec.set 9 (Vec.getD 6 T r r9) i a)) r r9) c b)) fun r' k=>¬ (k=c∧r'<r+1):=by
 obtain ⟨r',k,h1,h2,h3,h4,h5⟩:=h
 have key : ∀ (r' k:Nat),tg (Vec.set 6 (Vec.set 6 T r (Vec.set 9 (Vec.getD 6 T r r9) i a)) r (Vec.set 9 (Vec.getD 6 (Vec.set 6 T r (Vec.set 9 (Vec.getD 6 T r r9) i a)) r r9) c b)) r' k=if r'=r∧k=c then b else if r'=r∧k=i then a else tg T r' k:=fun r' k=>by
  rw [qx3 hr hc,qx3 hr (by omega)]
 by_cases hm:r'=r∧(k=i∨k=c)
 ·refine ⟨r,i,hr,by omega,?_,.inr ⟨hir,Nat.le_refl _⟩,fun q=>by omega⟩
  rw [key,if_neg (by omega),if_pos ⟨rfl,rfl⟩,ha]
  obtain ⟨rfl,hk⟩:=hm
  cases hf:finB (fAdd .f32 (fMul .f32 x (tg T r' i)) (fMul .f32 y (tg T r' c))) with
  | false=>rfl
  | true =>
   obtain ⟨f1,f2⟩:=qasf hf
   rcases hk with rfl | rfl
   ·exact absurd (qak8 f1).2 (by rw [h3];decide)
   ·exact absurd (qak8 f2).2 (by rw [h3];decide)
 ·refine ⟨r',k,h1,h2,?_,h4,fun q => ?_⟩
  ·rw [key,if_neg (fun q=>hm ⟨q.1,.inr q.2⟩),if_neg (fun q=>hm ⟨q.1,.inl q.2⟩)];exact h3
  ·by_cases e:r'=r
   ·exact hm ⟨e,.inr q.1⟩
   ·exact h5 ⟨q.1,by omega⟩
theorem qatx {i c:Nat} (hi:i<c) (hi6:i<6) (hc:c<9) (x y:Nat) (B:Prop) (T0:DTab) {T:DTab} (h:B→Seen i T fun _ _=>True) (hz : ∀ k,i<k→k<c→finB (tg T i k)=true) :
  ∃ T':DTab,run (qey ((i:Int),T0,()) ((c:Int),T,()) x y) ((i:Int),T,())=some (.inl (((c+1:Nat):Int),T',()))∧(B→Seen i T' fun _ _=>True) ∧ ∀ k,i<k→k<c+1→finB (tg T' i k)=true:=by
 have he : ∃ o,run (qey ((i:Int),T0,()) ((c:Int),T,()) x y) ((i:Int),T,())=some o ∧ ∃ T':DTab,o = .inl (((c+1:Nat):Int),T',())∧(B→Seen i T' fun _ _=>True) ∧ ∀ k,i<k→k<c+1→finB (tg T' i k)=true:=by
  refine qik (fun s => ∃ (r:Nat) (U:DTab),s=((r:Int),U,())∧i≤r∧r≤6∧(B→Seen i U fun r' k=>¬ (k=c∧r'<r)) ∧ ∀ k,i<k→k<c→finB (tg U i k)=true) (fun s=>(6-s.1).toNat) _ (fun s hs => ?_) ⟨i,T,rfl,Nat.le_refl _,by omega,fun b => ?_,hz⟩
  ·obtain ⟨r,U,rfl,hir,hr,hb,hU⟩:=hs
   by_cases h6:r<6
   ·have e1:iLt (r:Int) 6=true:=qaf (by omega)
    have e2:inB (r:Int) 6=true:=qad h6
    have e3:inB (i:Int) 9=true:=qad (by omega)
    have e4:inB (c:Int) 9=true:=qad hc
    have e5:iAdd .i64 (r:Int) 1=((r+1:Nat):Int):=qat h6 (by omega)
    refine .inl ⟨_,by simp only [qey,e1,e2,e3,e4,e5,cond_true,Int.toNat_natCast];rfl,⟨r+1,_,rfl,by omega,by omega,fun b => ?_,fun k k1 k2 => ?_⟩,by show (6-((r+1:Nat):Int)).toNat<(6-(r:Int)).toNat;omega⟩
    ·exact qapg hi hc h6 hir rfl (hb b)
    ·rw [qx3 h6 hc,qx3 h6 (by omega),if_neg (by omega),if_neg (by omega)]
     exact hU k k1 k2
   ·have e1:iLt (r:Int) 6=false:=qag (by omega)
    have e2:inB (i:Int) 6=true:=qad hi6
    have e4:inB (c:Int) 9=true:=qad hc
    have e5:iAdd .i64 (c:Int) 1=((c+1:Nat):Int):=qat hc (by omega)
    refine .inr ⟨_,by simp only [qey,e1,e2,e4,e5,cond_true,cond_false,Int.toNat_natCast,Option.map_some];rfl,_,rfl,fun b => ?_,fun k k1 k2 => ?_⟩
    ·obtain ⟨r',k,h1,h2,h3,h4,h5⟩:=hb b
     refine ⟨r',k,h1,h2,?_,h4,trivial⟩
     rw [qx3 hi6 hc,if_neg (by omega)]
     exact h3
    ·rw [qx3 hi6 hc]
     by_cases e:k=c
     ·rw [if_pos ⟨rfl,e⟩];exact qtq
     ·rw [if_neg (fun q=>e q.2)];exact hU k k1 (by omega)
  ·obtain ⟨r',k,h1,h2,h3,h4,_⟩:=h b
   exact ⟨r',k,h1,h2,h3,h4,by omega⟩
 obtain ⟨o,ho,T',rfl,h2,h3⟩:=he
 exact ⟨T',ho,h2,h3⟩
theorem qaur {i:Nat} (hi:i<6) (B:Prop) {T:DTab} (h:B→Seen i T fun _ _=>True) :
  ∃ o,run (qdr ((i:Int),T,())) (((i+1:Nat):Int),T,())=some o∧((∃ T':DTab,o = .inl (((i+1:Nat):Int),T',())∧(B→Seen (i+1) T' fun _ _=>True))∨o = .inr ((z6,4,()),())):=by
 refine qik (fun s => ∃ (c:Nat) (U:DTab),s=((c:Int),U,())∧i<c∧c≤9∧(B→Seen i U fun _ _=>True) ∧ ∀ k,i<k→k<c→finB (tg U i k)=true) (fun s=>(9-s.1).toNat) _ (fun s hs => ?_) ⟨i+1,T,rfl,by omega,by omega,h,fun k k1 k2=>by omega⟩
 obtain ⟨c,U,rfl,hic,hc,hb,hU⟩:=hs
 by_cases h9:c<9
 ·have e1:iLt (c:Int) 9=true:=qaf (by omega)
  have e2:inB (i:Int) 6=true:=qad hi
  have e3:inB (i:Int) 9=true:=qad (by omega)
  have e4:inB (c:Int) 9=true:=qad h9
  have e5:iAdd .i64 (c:Int) 1=((c+1:Nat):Int):=qat h9 (by omega)
  have e0:qdr ((i:Int),T,()) ((c:Int),U,())=bif fEq .f32 (tg U i c) 0 then some (.inl (((c+1:Nat):Int),U,())) else
    bif fEq .f32 (rootF (fAdd .f32 (fMul .f32 (tg U i i) (tg U i i)) (fMul .f32 (tg U i c) (tg U i c)))) 0 then some (.inr (.inr ((z6,4,()),()))) else
    run (qey ((i:Int),T,()) ((c:Int),U,()) (fDiv .f32 (tg U i i) (rootF (fAdd .f32 (fMul .f32 (tg U i i) (tg U i i)) (fMul .f32 (tg U i c) (tg U i c))))) (fDiv .f32 (tg U i c) (rootF (fAdd .f32 (fMul .f32 (tg U i i) (tg U i i)) (fMul .f32 (tg U i c) (tg U i c)))))) ((i:Int),U,()):=by
   simp only [qdr,e1,e2,e3,e4,e5,cond_true,Int.toNat_natCast,qk5,Option.bind_some,Option.map_some]
   rfl
  rw [e0]
  cases hz:fEq .f32 (tg U i c) 0 with
  | true =>
   refine .inl ⟨_,rfl,⟨c+1,U,rfl,by omega,by omega,hb,fun k k1 k2 => ?_⟩,by show (9-((c+1:Nat):Int)).toNat<(9-(c:Int)).toNat;omega⟩
   by_cases e:k=c
   ·rw [e];exact qash hz
   ·exact hU k k1 (by omega)
  | false =>
   simp only [cond_false]
   cases hr:fEq .f32 (rootF (fAdd .f32 (fMul .f32 (tg U i i) (tg U i i)) (fMul .f32 (tg U i c) (tg U i c)))) 0 with
   | true=>exact .inr ⟨_,rfl,.inr rfl⟩
   | false =>
    simp only [cond_false]
    obtain ⟨U',h1,h2,h3⟩:=qatx hic hi h9 (fDiv .f32 (tg U i i) (rootF (fAdd .f32 (fMul .f32 (tg U i i) (tg U i i)) (fMul .f32 (tg U i c) (tg U i c))))) (fDiv .f32 (tg U i c) (rootF (fAdd .f32 (fMul .f32 (tg U i i) (tg U i i)) (fMul .f32 (tg U i c) (tg U i c))))) B T hb hU
    exact .inl ⟨_,h1,⟨c+1,U',rfl,by omega,by omega,h2,h3⟩,by show (9-((c+1:Nat):Int)).toNat<(9-(c:Int)).toNat;omega⟩
 ·have e1:iLt (c:Int) 9=false:=qag (by omega)
  have e5:iAdd .i64 (i:Int) 1=((i+1:Nat):Int):=qat (n:=6) hi (by omega)
  refine .inr ⟨_,by simp only [qdr,e1,e5,cond_false,Option.map_some],.inl ⟨U,rfl,fun b => ?_⟩⟩
  obtain ⟨r,k,h1,h2,h3,h4,_⟩:=hb b
  refine ⟨r,k,h1,h2,h3,?_,trivial⟩
  by_cases e:i<k∧r=i
  ·exact absurd (hU k e.1 (by omega)) (by rw [← e.2,h3];exact Bool.false_ne_true)
  ·omega
end
section
def osg (T:DTab) (k i:Nat):Nat:=bif fLt .f32 (tg T i i) 0 then fNeg .f32 (tg T k i) else tg T k i
def mk6 (f:Nat→Nat→Nat):DRoot:=((f 0 0,0,0,0,0,0,()),(f 1 0,f 1 1,0,0,0,0,()),(f 2 0,f 2 1,f 2 2,0,0,0,()),(f 3 0,f 3 1,f 3 2,f 3 3,0,0,()),(f 4 0,f 4 1,f 4 2,f 4 3,f 4 4,0,()),(f 5 0,f 5 1,f 5 2,f 5 3,f 5 4,f 5 5,()),())
def outT (T:DTab):DRoot:=mk6 (osg T)
def outB (T:DTab):Bool:=(List.range 6).all fun i=>(List.range 6).all fun k=>decide (k<i)||finB (osg T k i)
theorem qaf1 {σ A:Type} {f:σ→Option (σ⊕A)} {s:σ} {X:Option A} (h:f s=Option.map Sum.inr X):run f s=X:=by
 rw [qaex,h];cases X <;> rfl
theorem qap4 {σ A:Type} {f:σ→Option (σ⊕A)} {s s':σ} {a x:A} {b c:Bool} (h:f s=bif !b then some (.inr a) else some (.inl s')) (hr:run f s'=bif c then some x else some a):run f s=bif (b&&c) then some x else some a:=by
 cases b with
 | false=>exact qay h
 | true=>exact (qar h).trans hr
theorem qato {σ A:Type} {f:σ→Option (σ⊕A)} {s s':σ} {a:A} {b:Bool} (h:f s=bif b then some (.inl s') else some (.inr a)):run f s=bif b then run f s' else some a:=by
 cases b with
 | false=>exact qay h
 | true=>exact qar h
theorem qp1 {A:Type} {b:Bool} {x x' y:A} (h:x=x'):(bif b then x else y)=bif b then x' else y:=by rw [h]
theorem qap1 {A:Type} {b c:Bool} {x y:A} : (bif b then (bif c then x else y) else y)=bif (b&&c) then x else y:=by cases b <;> rfl
theorem qar7 {A B:Type} (F:A→B) {b:Bool} {x y:A} : (bif b then F x else F y)=F (bif b then x else y):=by cases b <;> rfl
theorem qms {P:Nat→Prop} (h0:P 0) (h1:P 1) (h2:P 2) (h3:P 3) (h4:P 4) (h5:P 5) : ∀ i:Nat,i<6→P i
 | 0,_=>h0
 | 1,_=>h1
 | 2,_=>h2
 | 3,_=>h3
 | 4,_=>h4
 | 5,_=>h5
 | n+6,h=>absurd h (by omega)
theorem qacy {σ A:Type} {f:σ→Option (σ⊕A)} (S:Nat→σ) {n i:Nat} (h : ∀ k,k<n→i≤k→f (S k)=some (.inl (S (k+1)))) : ∀ d k,k+d=n→i≤k→run f (S k)=run f (S n)
 | 0,k,e,_=>by rw [show k=n from e]
 | d+1,k,e,g=>(qar (h k (by omega) g)).trans (qacy S h d (k+1) (by omega) (by omega))
def up0 (g:Nat→Nat→Nat) (k r j:Nat):Nat:=bif Nat.blt r k then g r j else 0
theorem qaud (s:Int×DTab×Unit):run (qgo s) ((0:Int),z6,())=run qez ((0:Int),mk6 (tg s.2.1),()):=by
 have h : ∀ k:Nat,k<6→0≤k→qgo s ((k:Int),mk6 (up0 (tg s.2.1) k),())=some (.inl (((k+1:Nat):Int),mk6 (up0 (tg s.2.1) (k+1)),())):=by
  refine qms ?_ ?_ ?_ ?_ ?_ ?_ <;> intro _ <;> kernel_rfl
 have e:=qacy (fun k:Nat=>((k:Int),mk6 (up0 (tg s.2.1) k),())) h 6 0 rfl (Nat.zero_le 0)
 exact Eq.trans (by kernel_rfl) (e.trans (qaf1 (by kernel_rfl)))
def upI (T:DTab) (i r j:Nat):Nat:=bif Nat.blt j i then osg T r j else tg T r j
def upV (T:DTab) (i k r j:Nat):Nat:=bif Nat.blt j i then osg T r j else bif Nat.beq j i&&Nat.blt r k then fNeg .f32 (tg T r i) else tg T r j
def upW (T:DTab) (i r j:Nat):Nat:=bif Nat.blt j i then osg T r j else bif Nat.beq j i then fNeg .f32 (tg T r i) else tg T r j
theorem qaa9 {j i:Nat} (h:j<i):Nat.blt j i=true:=Nat.ble_eq_true_of_le h
theorem qaa8 {j i:Nat} (h:i≤j):Nat.blt j i=false:=by
 cases e:Nat.blt j i with
 | false=>rfl
 | true=>exact absurd (Nat.le_of_ble_eq_true e) (by omega)
theorem qaty {T:DTab} {i:Nat} (h:fLt .f32 (tg T i i) 0=false):upI T i=upI T (i+1):=by
 funext r j;unfold upI
 rcases Nat.lt_trichotomy j i with a | a | a
 ·rw [qaa9 a,qaa9 (Nat.lt_succ_of_lt a)]
 ·subst a;rw [qaa8 (Nat.le_refl j),qaa9 (Nat.lt_succ_self j)];unfold osg;rw [h];rfl
 ·rw [qaa8 (Nat.le_of_lt a),qaa8 a]
theorem qatz {T:DTab} {i:Nat} (h:fLt .f32 (tg T i i) 0=true):upW T i=upI T (i+1):=by
 funext r j;unfold upI upW
 rcases Nat.lt_trichotomy j i with a | a | a
 ·rw [qaa9 a,qaa9 (Nat.lt_succ_of_lt a)];rfl
 ·subst a;rw [qaa8 (Nat.le_refl j),qaa9 (Nat.lt_succ_self j),Nat.beq_refl];unfold osg;rw [h];rfl
 ·rw [qaa8 (Nat.le_of_lt a),qaa8 a,qaif (by omega)];rfl
theorem qaug (T:DTab) : ∀ i:Nat,i<6 → ∀ k:Nat,k<6→i≤k→qi3 ((i:Int),mk6 (upI T i),()) ((k:Int),mk6 (upV T i k),())=some (.inl (((k+1:Nat):Int),mk6 (upV T i (k+1)),())):=by
 refine qms ?_ ?_ ?_ ?_ ?_ ?_ <;> refine qms ?_ ?_ ?_ ?_ ?_ ?_ <;> intro h <;> first | exact absurd h (by decide) | kernel_rfl
theorem qauf (T:DTab) : ∀ i:Nat,i<6→run (qi3 ((i:Int),mk6 (upI T i),())) ((i:Int),mk6 (upI T i),())=some (.inl (((i+1:Nat):Int),mk6 (upW T i),())):=by
 intro i hi
 have e:=qacy (fun k:Nat=>((k:Int),mk6 (upV T i k),())) (qaug T i hi) (6-i) i (by omega) (Nat.le_refl i)
 revert e;revert i hi
 refine qms ?_ ?_ ?_ ?_ ?_ ?_ <;> intro e <;> exact Eq.trans (by kernel_rfl) (e.trans (qay (by kernel_rfl)))
theorem qw5 (T:DTab) (i:Nat) (hi:i<6):run qez ((i:Int),mk6 (upI T i),())=run qez (((i+1:Nat):Int),mk6 (upI T (i+1)),()):=by
 have e:qez ((i:Int),mk6 (upI T i),())=(bif !fLt .f32 (tg T i i) 0 then some (.inl (((i+1:Nat):Int),mk6 (upI T i),())) else run (qi3 ((i:Int),mk6 (upI T i),())) ((i:Int),mk6 (upI T i),())):=by
  revert i hi;refine qms ?_ ?_ ?_ ?_ ?_ ?_ <;> kernel_rfl
 refine qar (e.trans ?_)
 rw [qauf T i hi]
 cases h:fLt .f32 (tg T i i) 0 with
 | false=>rw [qaty h];rfl
 | true=>rw [qatz h];rfl
theorem qaue (T:DTab):run qez ((0:Int),mk6 (tg T),())=(qf2 (outT T)).bind fun y=>bif !y.1.1 then some ((z6,(4:Int),()),()) else some ((outT T,(0:Int),()),()) :=
 ((qw5 T 0 (by decide)).trans <| (qw5 T 1 (by decide)).trans <| (qw5 T 2 (by decide)).trans <| (qw5 T 3 (by decide)).trans <| (qw5 T 4 (by decide)).trans <| (qw5 T 5 (by decide)).trans <| qaf1 (by kernel_rfl))
def upS (T:DTab) (i k x r j:Nat):Nat:=bif Nat.blt j i then osg T r j else bif Nat.beq j i then (bif Nat.blt r k then osg T r i else bif Nat.beq r k then x else 0) else 0
def seG (T:DTab) (i k x:Nat):Option ((Int×DRoot×Unit)⊕((Int×DRoot×Unit)⊕((DRoot×Int×Unit)×Unit))):=bif !finB x then some (.inr (.inr ((z6,(4:Int),()),()))) else some (.inl (((k+1:Nat):Int),mk6 (upS T i k x),()))
theorem qaut (T:DTab) : ∀ i:Nat,i<6 → ∀ k:Nat,k<6→i≤k→qh6 ((i:Int),mk6 (upS T i i 0),()) ((6:Int),T,()) ((k:Int),mk6 (upS T i k 0),())=bif !finB (osg T k i) then some (.inr (.inr ((z6,(4:Int),()),()))) else some (.inl (((k+1:Nat):Int),mk6 (upS T i (k+1) 0),())):=by
 intro i hi k hk h
 have e:qh6 ((i:Int),mk6 (upS T i i 0),()) ((6:Int),T,()) ((k:Int),mk6 (upS T i k 0),())=bif fLt .f32 (tg T i i) 0 then seG T i k (fNeg .f32 (tg T k i)) else seG T i k (tg T k i):=by
  revert i hi k hk h
  refine qms ?_ ?_ ?_ ?_ ?_ ?_ <;> refine qms ?_ ?_ ?_ ?_ ?_ ?_ <;> intro h <;> first | exact absurd h (by decide) | kernel_rfl
 refine (e.trans (qar7 (seG T i k))).trans ?_
 clear e
 revert i hi k hk h
 refine qms ?_ ?_ ?_ ?_ ?_ ?_ <;> refine qms ?_ ?_ ?_ ?_ ?_ ?_ <;> intro h <;> first | exact absurd h (by decide) | kernel_rfl
def alF (T:DTab) (i k:Nat):Bool:=(List.range 6).all fun r=>decide (r<k)||finB (osg T r i)
theorem qapw (T:DTab) (i:Nat) : ∀ k:Nat,k<6→(finB (osg T k i)&&alF T i (k+1))=alF T i k:=by
 refine qms ?_ ?_ ?_ ?_ ?_ ?_ <;> rfl
theorem qapf (T:DTab) (i:Nat) (hi:i<6) : ∀ d k:Nat,k+d=6→i≤k→run (qh6 ((i:Int),mk6 (upS T i i 0),()) ((6:Int),T,())) ((k:Int),mk6 (upS T i k 0),())=bif alF T i k then some (.inl (((i+1:Nat):Int),mk6 (upS T (i+1) (i+1) 0),())) else some (.inr ((z6,(4:Int),()),()))
 | 0,k,e,_=>by
  obtain rfl:k=6:=e
  refine qay ?_
  revert i hi;refine qms ?_ ?_ ?_ ?_ ?_ ?_ <;> intros <;> kernel_rfl
 | d+1,k,e,g=>(qap4 (qaut T i hi k (by omega) g) (qapf T i hi d (k+1) (by omega) (by omega))).trans (by rw [qapw T i k (by omega)])
theorem qxe (T:DTab) (i:Nat) (hi:i<6):run (qc8 ((6:Int),T,())) ((i:Int),mk6 (upS T i i 0),())=bif alF T i i then run (qc8 ((6:Int),T,())) (((i+1:Nat):Int),mk6 (upS T (i+1) (i+1) 0),()) else some ((z6,(4:Int),()),()) :=
 qato (Eq.trans (by revert i hi;refine qms ?_ ?_ ?_ ?_ ?_ ?_ <;> kernel_rfl) (qapf T i hi (6-i) i (by omega) (Nat.le_refl i)))
theorem qaus (T:DTab):run (qc8 ((6:Int),T,())) ((0:Int),z6,())=bif outB T then some ((outT T,(0:Int),()),()) else some ((z6,(4:Int),()),()):=by
 have e:run (qc8 ((6:Int),T,())) ((6:Int),mk6 (upS T 6 6 0),())=bif true then some ((outT T,(0:Int),()),()) else some ((z6,(4:Int),()),()):=qay (by kernel_rfl)
 refine Eq.trans (b:=run (qc8 ((6:Int),T,())) (((0:Nat):Int),mk6 (upS T 0 0 0),())) (by kernel_rfl) ?_
 refine ((qxe T 0 (by decide)).trans (qp1 ((qxe T 1 (by decide)).trans (qp1 ((qxe T 2 (by decide)).trans (qp1 ((qxe T 3 (by decide)).trans (qp1 ((qxe T 4 (by decide)).trans (qp1 ((qxe T 5 (by decide)).trans (qp1 e)))))))))))).trans ?_
 simp only [qap1]
 rfl
end
section
def dotA:Nat→List Nat→List Nat→Nat
 | acc,a :: l,b :: m=>dotA (fAdd .f32 acc (fMul .f32 a b)) l m
 | acc,_,_=>acc
def dotS (l m:List Nat):Nat:=match l,m with
 | a :: l,b :: m=>dotA (fMul .f32 a b) l m
 | _,_=>0
theorem qals {L M:List Nat} (hLM:L.length≤M.length) (hL:L.length≤100) : ∀ (k i acc:Nat),1≤i→i+k=L.length→run (qjx L M) (acc,(i:Int),())=some ((dotA acc (L.drop i) (M.drop i),()),())
 | 0,i,acc,h1,h=>by
  have e1:iLt (i:Int) (lenI L)=false:=qag (by rw [qaa];omega)
  rw [List.drop_of_length_le (by omega:L.length≤i)]
  exact qay (by simp only [qjx,e1,cond_false,Option.map_some];rfl)
 | k+1,i,acc,h1,h=>by
  have e1:iLt (i:Int) (lenI L)=true:=qaf (by rw [qaa];omega)
  have e2:inB (i:Int) L.length=true:=qad (by omega)
  have e3:inB (i:Int) M.length=true:=qad (by omega)
  have e4:iEq (i:Int) 0=false:=qaz (by omega)
  have e5:iAdd .i64 (i:Int) 1=((i+1:Nat):Int):=qat (n:=L.length) (by omega) (by omega)
  have g1:L.getD i (0:Nat)=L[i]'(by omega):=qao (by omega)
  have g2:M.getD i (0:Nat)=M[i]'(by omega):=qao (by omega)
  rw [List.drop_eq_getElem_cons (by omega:i<L.length),List.drop_eq_getElem_cons (by omega:i<M.length)]
  refine (qar (s':=(fAdd .f32 acc (fMul .f32 (L[i]'(by omega)) (M[i]'(by omega))),((i+1:Nat):Int),())) ?_).trans (qals hLM hL k (i+1) _ (by omega) (by omega))
  simp only [qjx,e1,e2,e3,e4,e5,Int.toNat_natCast,g1,g2,cond_true,cond_false]
theorem qck (a b:Nat) (l m:List Nat) (h:l.length≤m.length) (h1:l.length≤90):qax (a :: l) (b :: m)=some ((dotA (fMul .f32 a b) l m,()),()):=by
 have e:=qals (L:=a :: l) (M:=b :: m) (by rw [List.length_cons,List.length_cons];omega) (by rw [List.length_cons];omega) l.length 1 (fMul .f32 a b) (by omega) (by rw [List.length_cons];omega)
 refine (qar (s':=(fMul .f32 a b,((1:Nat):Int),())) ?_).trans (e.trans (by simp))
 have e1:iLt 0 (lenI (a :: l))=true:=qaf (by rw [qaa,List.length_cons];omega)
 have e2:inB 0 (a :: l).length=true:=qad (i:=0) (by simp)
 have e3:inB 0 (b :: m).length=true:=qad (i:=0) (by simp)
 simp only [qjx,e1,e2,e3,cond_true]
 rfl
theorem qauv (a0 b0:Nat):qax [a0] [b0]=some ((dotA (fMul .f32 a0 b0) [] [],()),()):=qck _ _ _ _ (by simp) (by simp)
theorem qaux (a0 a1 b0 b1:Nat):qax [a0,a1] [b0,b1]=some ((dotA (fMul .f32 a0 b0) [a1] [b1],()),()):=qck _ _ _ _ (by simp) (by simp)
theorem qaj3 (a0 a1 a2 b0 b1 b2:Nat):qax [a0,a1,a2] [b0,b1,b2]=some ((dotA (fMul .f32 a0 b0) [a1,a2] [b1,b2],()),()):=qck _ _ _ _ (by simp) (by simp)
theorem qau0 (a0 a1 a2 a3 b0 b1 b2 b3:Nat):qax [a0,a1,a2,a3] [b0,b1,b2,b3]=some ((dotA (fMul .f32 a0 b0) [a1,a2,a3] [b1,b2,b3],()),()):=qck _ _ _ _ (by simp) (by simp)
theorem qau2 (a0 a1 a2 a3 a4 b0 b1 b2 b3 b4:Nat):qax [a0,a1,a2,a3,a4] [b0,b1,b2,b3,b4]=some ((dotA (fMul .f32 a0 b0) [a1,a2,a3,a4] [b1,b2,b3,b4],()),()):=qck _ _ _ _ (by simp) (by simp)
theorem qaj4 (a0 a1 a2 a3 a4 a5 b0 b1 b2 b3 b4 b5:Nat):qax [a0,a1,a2,a3,a4,a5] [b0,b1,b2,b3,b4,b5]=some ((dotA (fMul .f32 a0 b0) [a1,a2,a3,a4,a5] [b1,b2,b3,b4,b5],()),()):=qck _ _ _ _ (by simp) (by simp)
theorem qauw (a0 b0 b1 b2 b3 b4 b5:Nat):qax [a0] [b0,b1,b2,b3,b4,b5]=some ((dotA (fMul .f32 a0 b0) [] [b1,b2,b3,b4,b5],()),()):=qck _ _ _ _ (by simp) (by simp)
theorem qauy (a0 a1 b0 b1 b2 b3 b4 b5:Nat):qax [a0,a1] [b0,b1,b2,b3,b4,b5]=some ((dotA (fMul .f32 a0 b0) [a1] [b1,b2,b3,b4,b5],()),()):=qck _ _ _ _ (by simp) (by simp)
theorem qauz (a0 a1 a2 b0 b1 b2 b3 b4 b5:Nat):qax [a0,a1,a2] [b0,b1,b2,b3,b4,b5]=some ((dotA (fMul .f32 a0 b0) [a1,a2] [b1,b2,b3,b4,b5],()),()):=qck _ _ _ _ (by simp) (by simp)
theorem qau1 (a0 a1 a2 a3 b0 b1 b2 b3 b4 b5:Nat):qax [a0,a1,a2,a3] [b0,b1,b2,b3,b4,b5]=some ((dotA (fMul .f32 a0 b0) [a1,a2,a3] [b1,b2,b3,b4,b5],()),()):=qck _ _ _ _ (by simp) (by simp)
theorem qau3 (a0 a1 a2 a3 a4 b0 b1 b2 b3 b4 b5:Nat):qax [a0,a1,a2,a3,a4] [b0,b1,b2,b3,b4,b5]=some ((dotA (fMul .f32 a0 b0) [a1,a2,a3,a4] [b1,b2,b3,b4,b5],()),()):=qck _ _ _ _ (by simp) (by simp)
end
end Go.Proofs.YtnndahnmlmgenaaGreatDoor
