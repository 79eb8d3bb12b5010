import Derived.Test.YtjhdoneobdbeaaaGreatDoorA3
import Derived.Laws.FloatBits
/- Loops, numbers, floats and lists in plain terms. -/
set_option linter.unusedSectionVars false
set_option linter.unusedSimpArgs false
set_option linter.unusedVariables false
namespace Go.Tm
open Go
inductive Like {σ τ A:Type} (R:σ→τ→Prop):Option (σ⊕A)→Option (τ⊕A)→Prop
 | none:Like R none none
 | inl {s:σ} {t:τ} : R s t→Like R (some (.inl s)) (some (.inl t))
 | inr (a:A):Like R (some (.inr a)) (some (.inr a))
theorem Like.symm {σ τ A:Type} {R:σ→τ→Prop} {x:Option (σ⊕A)} {y:Option (τ⊕A)} (h:Like R x y):Like (fun t s=>R s t) y x:=by
 cases h with
 | none=>exact .none
 | inl h=>exact .inl h
 | inr a=>exact .inr a
section
variable {σ A : Type} {f : σ → Option (σ ⊕ A)}
theorem qaee : ∀ {n:Nat} {s:σ} {a:A},iter f n s=some a→iter f (n+1) s=some a
 | 0,_,_,h=>by simp [iter] at h
 | n+1,s,a,h=>by
  rw [iter] at h ⊢
  cases hf:f s with
  | none=>rw [hf] at h;simp at h
  | some r =>
   rw [hf] at h
   cases r with
   | inl s'=>exact qaee (n:=n) h
   | inr b=>exact h
theorem qaib {n m:Nat} {s:σ} {a:A} (hnm:n≤m) (h:iter f n s=some a):iter f m s=some a:=by
 induction hnm with
 | refl=>exact h
 | step _ ih=>exact qaee ih
theorem qtv {n:Nat} {s:σ} {a:A} (h:iter f n s=some a):run f s=some a:=by
 have hx : ∃ a n,iter f n s=some a:=⟨a,n,h⟩
 unfold run
 rw [dif_pos hx]
 obtain ⟨m,hm⟩:=Classical.choose_spec hx
 have h1:=qaib (Nat.le_max_left n m) h
 have h2:=qaib (Nat.le_max_right n m) hm
 rw [h1] at h2
 exact h2.symm
theorem qai {s:σ} {a:A} (h:f s=some (.inr a)):run f s=some a:=qtv (n:=1) (by simp [iter,h])
theorem qaj {s s':σ} (h:f s=some (.inl s')):run f s=run f s':=by
 cases hr:run f s' with
 | some a =>
  obtain ⟨n,hn⟩:=qo3 hr
  exact qtv (n:=n+1) (by simp [iter,h,hn])
 | none =>
  cases hs:run f s with
  | none=>rfl
  | some a =>
   obtain ⟨n,hn⟩:=qo3 hs
   cases n with
   | zero=>simp [iter] at hn
   | succ n =>
    simp only [iter,h] at hn
    rw [qtv hn] at hr
    exact absurd hr (by simp)
theorem qag2 {s:σ} (h:f s=none):run f s=none:=by
 cases hs:run f s with
 | none=>rfl
 | some a =>
  obtain ⟨n,hn⟩:=qo3 hs
  cases n with
  | zero=>simp [iter] at hn
  | succ n=>simp [iter,h] at hn
theorem qag0 (s:σ):run f s=match f s with | none=>none | some (.inl s')=>run f s' | some (.inr a)=>some a:=by
 cases h:f s with
 | none=>exact qag2 h
 | some r =>
  cases r with
  | inl s'=>exact qaj h
  | inr a=>exact qai h
theorem qail (I:σ→Prop) (μ:σ→Nat) (Q:A→Prop) (h : ∀ s,I s→(∃ s',f s=some (.inl s')∧I s'∧μ s'<μ s) ∨ ∃ a,f s=some (.inr a)∧Q a) : ∀ {s:σ},I s → ∃ a,run f s=some a∧Q a:=by
 intro s hI
 generalize hn:μ s=n
 induction n using Nat.strongRecOn generalizing s with
 | _ n ih =>
  rcases h s hI with ⟨s',hf,hI',hlt⟩ | ⟨a,hf,hQ⟩
  ·obtain ⟨a,ha,hq⟩:=ih (μ s') (hn▸hlt) hI' rfl
   exact ⟨a,(qaj hf).trans ha,hq⟩
  ·exact ⟨a,qai hf,hQ⟩
end
def forL {α σ A:Type} (step:σ→α→Option (σ⊕A)) (fin:σ→Option A):List α→σ→Option A
 | [],s=>fin s
 | x :: r,s=>match step s x with
  | none=>none
  | some (.inl s')=>forL step fin r s'
  | some (.inr a)=>some a
theorem qzk {α S σ A:Type} {f:S→Option (S⊕A)} {xs:List α} {emb:Nat→σ→S} {step:σ→α→Option (σ⊕A)} {fin:σ→Option A}
  (h1 : ∀ (i:Nat) (hi:i<xs.length) s,f (emb i s)=(step s xs[i]).map (Sum.map (emb (i+1)) id)) (h2 : ∀ s,f (emb xs.length s)=(fin s).map .inr) :
  ∀ (k i:Nat),i+k=xs.length → ∀ s,run f (emb i s)=forL step fin (xs.drop i) s
 | 0,i,hi,s=>by
  have hi:i=xs.length:=by omega
  subst hi
  rw [qag0,h2,List.drop_length]
  show _=fin s
  cases fin s <;> rfl
 | k+1,i,hi,s=>by
  have hlt:i<xs.length:=by omega
  rw [qag0,h1 i hlt,List.drop_eq_getElem_cons hlt,forL]
  cases step s xs[i] with
  | none=>rfl
  | some r =>
   cases r with
   | inl s'=>exact qzk h1 h2 k (i+1) (by omega) s'
   | inr a=>rfl
theorem qam7 {α S σ A:Type} {f:S→Option (S⊕A)} {xs:List α} {emb:Nat→σ→S} {step:σ→α→Option (σ⊕A)} {fin:σ→Option A}
  (h1 : ∀ (i:Nat) (hi:i<xs.length) s,f (emb i s)=(step s xs[i]).map (Sum.map (emb (i+1)) id)) (h2 : ∀ s,f (emb xs.length s)=(fin s).map .inr) (s:σ):run f (emb 0 s)=forL step fin xs s :=
 qzk h1 h2 xs.length 0 (by omega) s
theorem qah {a b:Int} (h:a<b):iLt a b=true:=decide_eq_true h
theorem qag {a b:Int} (h:¬ a<b):iLt a b=false:=decide_eq_false h
theorem qay {a b:Int} (h:a≤b):iLe a b=true:=decide_eq_true h
theorem qb6 {a b:Int} (h:¬ a≤b):iLe a b=false:=decide_eq_false h
theorem qf7 {a b:Int} (h:a=b):iEq a b=true:=by simp [iEq,h]
theorem qat {a b:Int} (h:a≠b):iEq a b=false:=by simp [iEq,h]
theorem qbt (a:Int):iEq a a=true:=by simp [iEq]
theorem qu4 (a:Bool):bEq a a=true:=by simp [bEq]
theorem qct (a:List UInt8):sEq a a=true:=by simp [sEq]
theorem qae {i n:Nat} (h:i<n):inB (i:Int) n=true:=by simp [inB];omega
theorem qaoa {i:Int} {n:Nat} (h:0≤i) (h1:i<n):inB i n=true:=by simp [inB,h,h1]
theorem qaa {α:Type} (l:List α):lenI l=(l.length:Int):=rfl
theorem qpu {a:Int} (h : -9223372036854775808≤a) (h1:a≤9223372036854775807):IntKind.i64.wrap a=a:=by
 simp [IntKind.wrap,IntKind.signed,IntKind.bits];omega
theorem qdt {a b:Int} (h : -9223372036854775808≤a+b) (h1:a+b≤9223372036854775807):iAdd .i64 a b=a+b:=qpu h h1
theorem qfi {a b:Int} (h : -9223372036854775808≤a-b) (h1:a-b≤9223372036854775807):iSub .i64 a b=a-b:=qpu h h1
theorem qan9 {a b:Int} (h : -9223372036854775808≤a*b) (h1:a*b≤9223372036854775807):iMul .i64 a b=a*b:=qpu h h1
theorem qaq {i n:Nat} (h:i<n) (hn:n≤9223372036854775807):iAdd .i64 (i:Int) 1=((i+1:Nat):Int):=by
 rw [qdt (by omega) (by omega)];omega
theorem qa2 {n b:Nat} (h:n*b≤140737488355328) (hb:1≤b:=by decide):room n b=true:=decide_eq_true (by rw [Nat.max_eq_left hb];exact h)
theorem qan {α:Type} {l:List α} {i:Nat} {d:α} (h:i<l.length):l.getD i d=l[i]:=by simp [List.getD_eq_getElem?_getD,h]
theorem qae3 {α:Type} {l:List α} {i:Nat} {v d:α} (h:i<l.length):(l.set i v).getD i d=v:=by
 rw [qan (by simpa using h)];simp
theorem qafy (a:Int):compare a a = .eq:=by simp [compare,compareOfLessAndEq]
theorem qra (d:Ieee.Datum):d.order d=if d.isNaN then none else some .eq:=by
 cases d with
 | number s m e=>simp [Ieee.Datum.order,Ieee.Datum.isNaN]
 | infinity s=>cases s <;> rfl
 | nan _ _=>rfl
theorem qjs (k:FloatKind) (b:Nat):fEq k b b = !isNan k b:=by
 simp only [fEq,isNan,Ieee.Format.order,qra]
 cases (k.format.read b).isNaN <;> rfl
theorem qzs (w:Ieee.Toward) (neg:Bool) (n:Nat):w.cut neg n 0=n:=by
 cases w <;> simp [Ieee.Toward.cut,Nat.mod_one]
theorem qr2 {f:Ieee.Format} (neg:Bool) {r:Nat} (h:r<f.signWeight):f.word neg r%f.signWeight=r:=by
 cases neg
 ·exact Nat.mod_eq_of_lt h
 ·show (f.signWeight+r)%f.signWeight=r
  rw [Nat.add_mod_left,Nat.mod_eq_of_lt h]
theorem qaep {f:Ieee.Format} (neg:Bool) {r:Nat} (h:r<f.infRung):(f.read (f.word neg r)).isInfinity=false:=by
 have h0:f.infRung<f.signWeight:=Ieee.Format.infRung_lt f
 have hm:f.word neg r%f.signWeight=r:=qr2 neg (by omega)
 unfold Ieee.Format.read
 simp only [hm]
 split
 ·rfl
 ·rfl
theorem qzn (b:Nat):(∃ s t,Ieee.single.read b = .nan s t)∨(∃ s,Ieee.single.read b = .infinity s) ∨ ∃ s m e,Ieee.single.read b = .number s m e∧m<2^24 ∧ -149≤e∧e≤104:=by
 unfold Ieee.Format.read
 have h1:Ieee.single.binade=8388608:=by decide
 have h2:Ieee.single.infRung=2139095040:=by decide
 have h3:Ieee.single.leastPlace = -149:=by decide
 simp only [h1,h2,h3]
 split
 ·rename_i h
  exact .inr (.inr ⟨_,_,_,rfl,by omega,by omega,by omega⟩)
 ·split
  ·rename_i h
   exact .inr (.inr ⟨_,_,_,rfl,by omega,by omega,by omega⟩)
  ·split
   ·exact .inr (.inl ⟨_,rfl⟩)
   ·exact .inl ⟨_,_,rfl⟩
theorem qalj {s:Bool} {m:Nat} {e:Int} (hm:m<2^24) (h1 : -149≤e) (h2:e≤104):(Ieee.double.read (Ieee.double.nearest s m e)).isInfinity=false:=by
 have hb:Ieee.double.binade=4503599627370496:=by decide
 have hr:Ieee.double.infRung=9218868437227405312:=by decide
 have hp:Ieee.double.leastPlace = -1074:=by decide
 have hf:Ieee.double.fractionBits=52:=rfl
 unfold Ieee.Format.nearest
 split
 ·exact qaep _ (by rw [hr];omega)
 ·rename_i h0
  have hlog:m.log2≤23:=by
   have:m.log2<24:=(Nat.log2_lt h0).2 hm
   omega
  have hlt:m<2^(m.log2+1):=Nat.lt_log2_self
  simp only [hp,hf]
  generalize hl:max (e+(m.log2:Int)-(52:Nat)) (-1074)=last
  have hle:last≤e:=by omega
  have hge : -1074≤last:=by omega
  have hup:last≤75:=by omega
  have hd:(last-e).toNat=0:=by omega
  rw [hd,qzs]
  have hsh:m <<< (e-last).toNat<9007199254740992:=by
   rw [Nat.shiftLeft_eq]
   have hq:(e-last).toNat≤52-m.log2:=by omega
   calc m*2^(e-last).toNat<2^(m.log2+1)*2^(e-last).toNat:=Nat.mul_lt_mul_of_pos_right hlt (Nat.two_pow_pos _)
    _≤2^(m.log2+1)*2^(52-m.log2):=Nat.mul_le_mul_left _ (Nat.pow_le_pow_right (by omega) hq)
    _=2^53:=by rw [← Nat.pow_add];congr 1;omega
  refine qaep _ ?_
  rw [hb,hr]
  have h3:(last - -1074).toNat≤1149:=by omega
  generalize m <<< (e-last).toNat=q at hsh
  generalize (last - -1074).toNat=p at h3
  refine Nat.lt_of_le_of_lt (Nat.min_le_left _ _) ?_
  refine Nat.lt_of_lt_of_le (Nat.add_lt_add_of_le_of_lt (Nat.mul_le_mul_right _ h3) hsh) ?_
  decide
theorem qaf2 {a c:FloatKind} {b:Nat} {g:Bool} {m:Nat} {e:Int} (h:a.decode b = .number g m e) (h1:(c.decode (c.encode (.number g m e))).isInfinity=false) : ∃ y,fConv a c b=some y:=by
 unfold fConv
 rw [h]
 simp only [h1,cond_false]
 exact ⟨_,rfl⟩
theorem qad6 {a c:FloatKind} {b:Nat} {g:Bool} (h:a.decode b = .infinity g) : ∃ y,fConv a c b=some y:=by
 unfold fConv;rw [h];exact ⟨_,rfl⟩
theorem qad7 {a c:FloatKind} {b:Nat} {g:Bool} {t:Nat} (h:a.decode b = .nan g t) : ∃ y,fConv a c b=some y:=by
 unfold fConv;rw [h];exact ⟨_,rfl⟩
theorem qajs {s:Bool} {m:Nat} {e:Int} (hm:m<2^24) (h1 : -149≤e) (h2:e≤104):(FloatKind.f64.decode (FloatKind.f64.encode (.number s m e))).isInfinity=false:=by
 unfold FloatKind.decode FloatKind.encode Ieee.Format.write
 exact qalj hm h1 h2
theorem qany (b:Nat) : ∃ y,fConv .f32 .f64 b=some y:=by
 rcases qzn b with ⟨s,t,h⟩ | ⟨s,h⟩ | ⟨s,m,e,h,h1,h2,h3⟩
 ·exact qad7 h
 ·exact qad6 h
 ·exact qaf2 h (qajs h1 h2 h3)
theorem qv7 {f:Ieee.Format} (neg:Bool) {r:Nat} (h:r≤f.infRung):(f.read (f.word neg r)).isNaN=false:=by
 have h0:f.infRung<f.signWeight:=Ieee.Format.infRung_lt f
 have hm:f.word neg r%f.signWeight=r:=qr2 neg (by omega)
 unfold Ieee.Format.read
 simp only [hm]
 split
 ·rfl
 ·split
  ·rfl
  ·rw [if_pos (by omega)];rfl
theorem qly (k:FloatKind) (b:Nat):isNan k b=(k.format.read b).isNaN:=by
 simp only [isNan,Ieee.Format.order,qra]
 cases (k.format.read b).isNaN <;> rfl
theorem qady {α:Type} {a:List α} {d:α} {f:Int×List α×Unit→Option ((Int×List α×Unit)⊕((List α×Unit)×Unit))}
  (h1 : ∀ (i:Nat) (hi:i<a.length) (l:List α),l.length=a.length→f ((i:Int),l,())=some (.inl (((i+1:Nat):Int),l.set i a[i],()))) (h2 : ∀ l:List α,l.length=a.length→f ((a.length:Int),l,())=some (.inr ((l,()),()))) :
  run f ((0:Int),List.replicate a.length d,())=some ((a,()),()):=by
 have key : ∀ (k i:Nat),i+k=a.length→run f ((i:Int),a.take i++List.replicate k d,())=some ((a,()),()):=by
  intro k
  induction k with
  | zero =>
   intro i hi
   have hi:i=a.length:=by omega
   subst hi
   rw [List.take_length,List.replicate_zero,List.append_nil]
   exact qai (h2 a rfl)
  | succ k ih =>
   intro i hi
   have hlt:i<a.length:=by omega
   rw [qaj (h1 i hlt _ (by simp;omega))]
   have e:(a.take i++List.replicate (k+1) d).set i a[i]=a.take (i+1)++List.replicate k d:=by
    rw [List.set_append_right _ _ (by simp;omega)]
    have:(a.take i).length=i:=by simp;omega
    rw [this,Nat.sub_self,List.replicate_succ,List.set_cons_zero,List.take_succ_eq_append_getElem hlt,List.append_assoc]
    rfl
   rw [e]
   exact ih (i+1) (by omega)
 have:=key a.length 0 (by omega)
 simpa using this
theorem qafm {n:Nat} {f:Int×Unit→Option ((Int×Unit)⊕((Bool×Unit)×Unit))} (h1 : ∀ i:Nat,i<n→f ((i:Int),())=some (.inl (((i+1:Nat):Int),()))) (h2:f ((n:Int),())=some (.inr ((true,()),()))) :
  run f ((0:Int),())=some ((true,()),()):=by
 have key : ∀ (k i:Nat),i+k=n→run f ((i:Int),())=some ((true,()),()):=by
  intro k
  induction k with
  | zero => intro i hi; have hi : i = n := by omega
            subst hi;exact qai h2
  | succ k ih=>intro i hi;rw [qaj (h1 i (by omega))];exact ih (i+1) (by omega)
 simpa using key n 0 (by omega)
def markL {α:Type} (mk:Int→α→Int×α):Int→List α→Int×List α
 | n,[]=>(n,[])
 | n,x :: r=>((markL mk (mk n x).1 r).1,(mk n x).2 :: (markL mk (mk n x).1 r).2)
theorem markL_length {α:Type} (mk:Int→α→Int×α) : ∀ (n:Int) (l:List α),(markL mk n l).2.length=l.length
 | _,[]=>rfl
 | n,x :: r=>by simp [markL,markL_length mk _ r]
theorem qh4 {β A:Type} [Nonempty β] {g:β→Option A} {a:A} (h : ∀ b,g b=some a):allSame g=some a:=by
 have hx : ∃ a,∀ b,g b=some a:=⟨a,h⟩
 unfold allSame
 rw [dif_pos hx]
 obtain ⟨b⟩:=‹Nonempty β›
 exact (Classical.choose_spec hx b).symm.trans (h b)
def indexOf {α:Type} (p:α→Bool):List α→Int
 | [] => -1
 | x :: r=>bif p x then 0 else (bif decide (indexOf p r<0) then -1 else indexOf p r+1)
theorem qqy {α:Type} (p:α→Bool) : ∀ l:List α,-1≤indexOf p l
 | []=>by simp [indexOf]
 | x :: r=>by
  have:=qqy p r
  simp only [indexOf]
  cases p x <;> simp only [cond_true,cond_false]
  ·by_cases h:indexOf p r<0
   ·simp [h]
   ·simp only [h,decide_false,cond_false];omega
  ·omega
theorem qtr {α:Type} (p:α→Bool) : ∀ l:List α,iLe 0 (indexOf p l)=l.any p
 | []=>rfl
 | x :: r=>by
  have h1:=qtr p r
  have h2:=qqy p r
  simp only [indexOf,List.any_cons]
  cases p x <;> simp only [cond_true,cond_false,Bool.true_or,Bool.false_or]
  ·rw [← h1]
   by_cases h:indexOf p r<0
   ·simp only [h,decide_true,cond_true,iLe]
    simp;omega
   ·simp only [h,decide_false,cond_false,iLe]
    simp;omega
  ·rfl
theorem qabi {α:Type} {a:List α} {p:α→Bool} {f:Int×Unit→Option ((Int×Unit)⊕((Int×Unit)×Unit))}
  (h1 : ∀ (i:Nat) (hi:i<a.length),f ((i:Int),())=bif p a[i] then some (.inr (((i:Int),()),())) else some (.inl (((i+1:Nat):Int),()))) (h2:f ((a.length:Int),())=some (.inr (((-1:Int),()),()))) :
  run f ((0:Int),())=some ((indexOf p a,()),()):=by
 have key : ∀ (r q:List α),q++r=a→run f ((q.length:Int),())=some ((bif decide (indexOf p r<0) then -1 else (q.length:Int)+indexOf p r,()),()):=by
  intro r
  induction r with
  | nil =>
   intro q hq
   rw [List.append_nil] at hq
   subst hq
   exact (qai h2).trans (by simp [indexOf])
  | cons x r ih =>
   intro q hq
   have hlt:q.length<a.length:=by rw [← hq];simp
   have hx:a[q.length]=x:=by simp [← hq]
   have h:=h1 q.length hlt
   rw [hx] at h
   cases hp:p x with
   | true =>
    rw [hp] at h
    refine (qai h).trans ?_
    simp [indexOf,hp]
   | false =>
    rw [hp] at h
    have e2:((q.length+1:Nat):Int)=((q++[x]).length:Int):=by simp
    rw [qaj h,e2,ih (q++[x]) (by rw [← hq];simp)]
    have:=qqy p r
    by_cases hn:indexOf p r<0
    ·simp [indexOf,hp,hn]
    ·have h3:¬ indexOf p r+1<0:=by omega
     simp [indexOf,hp,hn,h3]
     omega
 have:=key a [] rfl
 have h0:=qqy p a
 have e:(bif decide (indexOf p a<0) then -1 else (([]:List α).length:Int)+indexOf p a)=indexOf p a:=by
  by_cases hn:indexOf p a<0
  ·simp only [hn,decide_true,cond_true];omega
  ·simp [hn]
 rw [e] at this
 simpa using this
theorem qka {α:Type} {a:List α} {p:α→Bool} {f:Int×Unit→Option ((Int×Unit)⊕((Bool×Unit)×Unit))}
  (h1 : ∀ (i:Nat) (hi:i<a.length),f ((i:Int),())=bif p a[i] then some (.inl (((i+1:Nat):Int),())) else some (.inr ((false,()),()))) (h2:f ((a.length:Int),())=some (.inr ((true,()),()))) :
  run f ((0:Int),())=some ((a.all p,()),()):=by
 have key : ∀ (r q:List α),q++r=a→run f ((q.length:Int),())=some ((r.all p,()),()):=by
  intro r
  induction r with
  | nil =>
   intro q hq
   rw [List.append_nil] at hq
   subst hq
   exact (qai h2).trans (by simp)
  | cons x r ih =>
   intro q hq
   have hlt:q.length<a.length:=by rw [← hq];simp
   have hx:a[q.length]=x:=by simp [← hq]
   have h:=h1 q.length hlt
   rw [hx] at h
   cases hp:p x with
   | false =>
    rw [hp] at h
    exact (qai h).trans (by simp [hp])
   | true =>
    rw [hp] at h
    have e2:((q.length+1:Nat):Int)=((q++[x]).length:Int):=by simp
    rw [qaj h,e2,ih (q++[x]) (by rw [← hq];simp)]
    simp [hp]
 simpa using key a [] rfl
theorem qaio {α:Type} (a:List α) (b:Nat) (h:a.length*b≤140737488351232) (hb:1≤b):(iLe 0 (lenI a)&&iLe (lenI a) (lenI a)&&room (lenI a).toNat b)=true:=by
 have e1:iLe 0 (lenI a)=true:=qay (by rw [qaa];omega)
 have e2:iLe (lenI a) (lenI a)=true:=qay (Int.le_refl _)
 have e3:room (lenI a).toNat b=true:=qa2 (Nat.le_trans h (by decide)) hb
 rw [e1,e2,e3];rfl
def conv64 (b:Nat):Nat:=(fConv .f32 .f64 b).getD 0
theorem qe7 (b:Nat):fConv .f32 .f64 b=some (conv64 b):=by
 obtain ⟨y,h⟩:=qany b
 rw [conv64,h];rfl
def sizedL {α:Type} (F:α→Prop) (l:List α):Prop:=l.length≤140737488355328 ∧ ∀ x∈l,F x
def Sized:(t:Ty)→t.den→Prop
 | .pair a b,x=>Sized a x.1∧Sized b x.2
 | .list t,xs=>sizedL (Sized t) xs
 | .int _,_=>True
 | .flt _,_=>True
 | .bool,_=>True
 | .str,_=>True
 | .unit,_=>True
 | .err,_=>True
 | .ref _,_=>True
 | .arr n t,x=>FitVec (Sized t) n x
theorem qaau {α:Type} {F:α→Prop} (h : ∀ x,F x) : ∀ (n:Nat) (x:Vec n α),FitVec F n x
 | 0,_=>trivial
 | n+1,x=>⟨h x.1,qaau h n x.2⟩
theorem qzb {α:Type} {F G:α→Prop} (h : ∀ x,F x→G x) : ∀ (n:Nat) (x:Vec n α),FitVec F n x→FitVec G n x
 | 0,_,_=>trivial
 | n+1,x,hx=>⟨h _ hx.1,qzb h n x.2 hx.2⟩
theorem qq1 : ∀ {t:Ty},t.bears=false → ∀ x:t.den,Sized t x
 | .int _,_,_=>trivial
 | .flt _,_,_=>trivial
 | .bool,_,_=>trivial
 | .str,_,_=>trivial
 | .unit,_,_=>trivial
 | .err,_,_=>trivial
 | .ref _,_,_=>trivial
 | .pair a b,h,x=>by
  simp only [Ty.bears,Bool.or_eq_false_iff] at h
  exact ⟨qq1 h.1 x.1,qq1 h.2 x.2⟩
 | .arr n t,h,x=>qaau (qq1 (t:=t) (by simpa [Ty.bears] using h)) n x
 | .list t,h,_=>by simp [Ty.bears] at h
theorem qajo {t:Ty} (ht:t.bears=false) {l:List t.den} (h:l.length≤140737488355328):Sized (.list t) l:=⟨h,fun x _=>qq1 ht x⟩
def Ty.lumps:Ty→Bool
 | .pair a b=>a.lumps&&b.lumps
 | .arr _ t=>t.lumps
 | .list t=>t.lumps&&Nat.ble 1 t.bytes
 | _=>true
theorem qel : ∀ {t:Ty},t.lumps=true → ∀ {x:t.den},Fit t x→Sized t x
 | .int _,_,_,_=>trivial
 | .flt _,_,_,_=>trivial
 | .bool,_,_,_=>trivial
 | .str,_,_,_=>trivial
 | .unit,_,_,_=>trivial
 | .err,_,_,_=>trivial
 | .ref _,_,_,_=>trivial
 | .pair a b,h,x,hx=>by
  simp only [Ty.lumps,Bool.and_eq_true] at h
  exact ⟨qel h.1 hx.1,qel h.2 hx.2⟩
 | .arr n t,h,x,hx=>qzb (fun y hy=>qel (t:=t) h hy) n x hx
 | .list t,h,x,hx=>by
  simp only [Ty.lumps,Bool.and_eq_true,Nat.ble_eq] at h
  refine ⟨?_,fun y hy=>qel h.1 (hx.2 y hy)⟩
  have h1:=hx.1
  have h2:=Nat.mul_le_mul_left (List.length (α:=t.den) x) h.2
  rw [Nat.mul_one] at h2
  exact Nat.le_trans h2 (Nat.le_trans h1 (by decide))
theorem qan8 (a b:Int):iMin a b=min a b:=by
 unfold iMin
 rw [Int.min_def]
 split <;> split <;> omega
theorem qan7 (a b:Int):iMax a b=max a b:=by
 unfold iMax
 rw [Int.max_def]
 split <;> split <;> omega
end Go.Tm
namespace Go.Tm
open Go
theorem qaos {σ τ A B:Type} {f:σ→Option (σ⊕A)} {g:τ→Option (τ⊕B)} (R:σ→τ→Prop) (μ:σ→Nat) (Q:A→B→Prop)
  (h : ∀ s t,R s t→(∃ s' t',f s=some (.inl s')∧g t=some (.inl t')∧R s' t'∧μ s'<μ s) ∨ ∃ a b,f s=some (.inr a)∧g t=some (.inr b)∧Q a b) : ∀ {s:σ} {t:τ},R s t → ∃ a b,run f s=some a∧run g t=some b∧Q a b:=by
 intro s t hR
 generalize hn:μ s=n
 induction n using Nat.strongRecOn generalizing s t with
 | _ n ih =>
  rcases h s t hR with ⟨s',t',hf,hg,hR',hlt⟩ | ⟨a,b,hf,hg,hQ⟩
  ·obtain ⟨a,b,ha,hb,hq⟩:=ih (μ s') (hn▸hlt) hR' rfl
   exact ⟨a,b,(qaj hf).trans ha,(qaj hg).trans hb,hq⟩
  ·exact ⟨a,b,qai hf,qai hg,hQ⟩
def all2 {α β:Type} (p:α→β→Bool) (a:List α) (b:List β):Bool:=(a.zip b).all fun x=>p x.1 x.2
theorem qaat {α β:Type} {a:List α} {b:List β} {p:α→β→Bool} {f:Int×Unit→Option ((Int×Unit)⊕((Bool×Unit)×Unit))} (hl:a.length=b.length)
  (h1 : ∀ (i:Nat) (hi:i<a.length) (hj:i<b.length),f ((i:Int),())=bif p a[i] b[i] then some (.inl (((i+1:Nat):Int),())) else some (.inr ((false,()),()))) (h2:f ((a.length:Int),())=some (.inr ((true,()),()))) :
  run f ((0:Int),())=some ((all2 p a b,()),()):=by
 have e:(a.zip b).length=a.length:=by rw [List.length_zip];omega
 refine qka (a:=a.zip b) (p:=fun x=>p x.1 x.2) (fun i hi => ?_) (by rw [e];exact h2)
 have:=h1 i (by omega) (by omega)
 simpa using this
theorem qaf5 {α σ A:Type} {step:σ→α→Option (σ⊕A)} {fin:σ→Option A} (p:α→Bool) (g:σ→α→σ) (bad:A) : ∀ (xs:List α),(∀ s,∀ x∈xs,step s x=bif p x then some (.inl (g s x)) else some (.inr bad)) → ∀ s,forL step fin xs s=bif xs.all p then fin (xs.foldl g s) else some bad
 | [],_,s=>rfl
 | x :: r,h,s=>by
  simp only [forL,h s x List.mem_cons_self,List.all_cons,List.foldl_cons]
  cases p x with
  | false=>rfl
  | true=>exact qaf5 p g bad r (fun s y hy=>h s y (List.mem_cons_of_mem _ hy)) _
theorem qagf {α S σ A:Type} {f:S→Option (S⊕A)} {xs:List α} (emb:Nat→σ→S) (p:α→Bool) (g:σ→α→σ) (bad:A) (fin:σ→Option A)
  (h1 : ∀ (i:Nat) (hi:i<xs.length) s,f (emb i s)=bif p xs[i] then some (.inl (emb (i+1) (g s xs[i]))) else some (.inr bad)) (h2 : ∀ s,f (emb xs.length s)=(fin s).map .inr) (s:σ) :
  run f (emb 0 s)=bif xs.all p then fin (xs.foldl g s) else some bad:=by
 rw [qam7 (f:=f) (xs:=xs) (emb:=emb) (step:=fun s x=>bif p x then some (.inl (g s x)) else some (.inr bad)) (fin:=fin) (fun i hi s => ?_) h2 s]
 ·exact qaf5 p g bad xs (fun _ _ _=>rfl) s
 ·rw [h1 i hi s]
  cases p xs[i] <;> rfl
theorem qabj {k:FloatKind} {x q:Nat} : ∃ b:Nat,bitsF k x q=(b:Int)∧isNan k b=isNan k x∧(isNan k x=false→b=x):=by
 unfold bitsF
 cases h:isNan k x with
 | false=>exact ⟨x,rfl,h,fun _=>rfl⟩
 | true =>
  cases hq:isNan k q with
  | true=>exact ⟨q,rfl,hq,fun h=>by simp at h⟩
  | false=>exact ⟨nan k,rfl,qfe k,fun h=>by simp at h⟩
theorem qoc {k:FloatKind} {x q:Nat} (h:isNan k x=false):bitsF k x q=(x:Int):=by simp [bitsF,h]
theorem qadt {k:FloatKind} {x y q r:Nat} (h:isNan k x≠isNan k y):iEq (bitsF k x q) (bitsF k y r)=false:=by
 obtain ⟨b,e,h1,_⟩:=qabj (k:=k) (x:=x) (q:=q)
 obtain ⟨c,e',h2,_⟩:=qabj (k:=k) (x:=y) (q:=r)
 rw [e,e']
 refine qat fun hb=>h ?_
 have:b=c:=by omega
 rw [← h1,← h2,this]
theorem qao3 (w:Ieee.Toward) (neg:Bool) (n drop:Nat):w.cut neg n drop≤n/2^min drop (n.log2+2)+1:=by
 unfold Ieee.Toward.cut
 simp only [Nat.shiftLeft_eq,Nat.one_mul]
 exact Nat.add_le_add_left (Bool.toNat_le _) _
theorem qagm (f:Ieee.Format) (s:Bool) (m:Nat) (p:Int) (hm:m≠0) : ∃ r,f.nearest s m p=f.word s r∧r≤f.infRung∧(r:Int)≤(max (p+m.log2-f.fractionBits) f.leastPlace-f.leastPlace+2)*2^f.fractionBits:=by
 unfold Ieee.Format.nearest
 rw [if_neg hm]
 simp only
 generalize hl:max (p+(m.log2:Int)-f.fractionBits) f.leastPlace=last
 refine ⟨_,rfl,Nat.min_le_right _ _,?_⟩
 have h0:0≤last-f.leastPlace:=by omega
 have hk:Ieee.Toward.even.cut s (m <<< (p-last).toNat) (last-p).toNat≤2^(f.fractionBits+1):=by
  have hlt:m<2^(m.log2+1):=Nat.lt_log2_self
  by_cases hp:last≤p
  ·have hd:(last-p).toNat=0:=by omega
   rw [hd,qzs,Nat.shiftLeft_eq]
   refine Nat.le_of_lt (Nat.lt_of_lt_of_le (Nat.mul_lt_mul_of_pos_right hlt (Nat.two_pow_pos _)) ?_)
   rw [← Nat.pow_add]
   exact Nat.pow_le_pow_right (by omega) (by omega)
  ·have hd:(p-last).toNat=0:=by omega
   rw [hd,Nat.shiftLeft_eq,Nat.pow_zero,Nat.mul_one]
   refine Nat.le_trans (qao3 _ _ _ _) ?_
   by_cases hb:(last-p).toNat≤m.log2+2
   ·rw [Nat.min_eq_left hb]
    have:m/2^(last-p).toNat<2^(f.fractionBits+1):=by
     rw [Nat.div_lt_iff_lt_mul (Nat.two_pow_pos _),← Nat.pow_add]
     exact Nat.lt_of_lt_of_le hlt (Nat.pow_le_pow_right (by omega) (by omega))
    omega
   ·rw [Nat.min_eq_right (by omega)]
    have:m/2^(m.log2+2)=0:=Nat.div_eq_of_lt (Nat.lt_of_lt_of_le hlt (Nat.pow_le_pow_right (by omega) (by omega)))
    have:=Nat.two_pow_pos (f.fractionBits+1)
    omega
 have hr:min ((last-f.leastPlace).toNat*f.binade+Ieee.Toward.even.cut s (m <<< (p-last).toNat) (last-p).toNat) f.infRung≤(last-f.leastPlace).toNat*2^f.fractionBits+2*2^f.fractionBits:=by
  refine Nat.le_trans (Nat.min_le_left _ _) (Nat.add_le_add_left ?_ _)
  rw [Nat.pow_succ,Nat.mul_comm] at hk
  exact hk
 have e1:((last-f.leastPlace).toNat:Int)=last-f.leastPlace:=Int.toNat_of_nonneg h0
 refine Int.le_trans (Int.ofNat_le.2 hr) (Int.le_of_eq ?_)
 rw [Int.add_mul,Int.natCast_add,Int.natCast_mul,Int.natCast_mul,e1]
 simp
def topOf (m:Nat) (p:Int):Int:=p+m.log2
theorem qafe {f:Ieee.Format} {s:Bool} {r:Nat} (hr:r<f.infRung) (hf:1≤f.fractionBits) {t:Int} (h:(r:Int)≤(t-f.leastPlace+2)*2^f.fractionBits) (h0:f.leastPlace≤t) : ∃ s' m p,f.read (f.word s r) = .number s' m p∧m<2^(f.fractionBits+1)∧f.leastPlace≤p∧(m≠0→topOf m p≤t+f.fractionBits+1):=by
 have h1:f.infRung<f.signWeight:=Ieee.Format.infRung_lt f
 have hm:f.word s r%f.signWeight=r:=qr2 s (by omega)
 have hb:f.binade=2^f.fractionBits:=rfl
 have hpos:0<2^f.fractionBits:=Nat.two_pow_pos _
 unfold Ieee.Format.read
 simp only [hm,hb]
 split
 ·rename_i hlt
  refine ⟨_,_,_,rfl,by rw [Nat.pow_succ];omega,Int.le_refl _,fun hr0 => ?_⟩
  have:r.log2<f.fractionBits:=(Nat.log2_lt hr0).2 hlt
  unfold topOf
  omega
 ·rename_i hge
  first | rw [if_pos hr] | skip
  have hmod:r%2^f.fractionBits<2^f.fractionBits:=Nat.mod_lt _ hpos
  refine ⟨_,_,_,rfl,by rw [Nat.pow_succ];omega,by omega,fun hr0 => ?_⟩
  have hlog:(2^f.fractionBits+r%2^f.fractionBits).log2<f.fractionBits+1:=(Nat.log2_lt hr0).2 (by rw [Nat.pow_succ];omega)
  have hd:(r/2^f.fractionBits:Nat)≤(t-f.leastPlace+2):=by
   have e:((r/2^f.fractionBits*2^f.fractionBits:Nat):Int)≤r:=Int.ofNat_le.2 (Nat.div_mul_le_self r _)
   rw [Int.natCast_mul] at e
   have e2:((2^f.fractionBits:Nat):Int)=2^f.fractionBits:=by simp
   rw [e2] at e
   have hpos':(0:Int)<2^f.fractionBits:=by rw [← e2];omega
   exact Int.le_of_mul_le_mul_right (Int.le_trans e h) hpos'
  have hq:1≤r/2^f.fractionBits:=(Nat.one_le_div_iff hpos).2 (by omega)
  unfold topOf
  omega
theorem que (f:Ieee.Format) (hf:1≤f.fractionBits) (s:Bool) (m:Nat) (p:Int) (h:m≠0→(max (p+m.log2-f.fractionBits) f.leastPlace-f.leastPlace+2)*2^f.fractionBits<(f.infRung:Int)) (h0:0<f.infRung) :
  ∃ s' m' p',f.read (f.nearest s m p) = .number s' m' p'∧m'<2^(f.fractionBits+1)∧f.leastPlace≤p'∧(m'≠0→m≠0∧topOf m' p'≤max (topOf m p) (f.leastPlace+f.fractionBits)+1):=by
 by_cases hm:m=0
 ·subst hm
  have e:f.nearest s 0 p=f.word s 0:=by unfold Ieee.Format.nearest;rw [if_pos rfl]
  rw [e]
  have hm:f.word s 0%f.signWeight=0:=qr2 s (by have:=Ieee.Format.infRung_lt f;omega)
  unfold Ieee.Format.read
  simp only [hm]
  rw [if_pos (show 0<f.binade from Nat.two_pow_pos _)]
  exact ⟨_,_,_,rfl,Nat.two_pow_pos _,Int.le_refl _,fun h=>absurd rfl h⟩
 ·obtain ⟨r,e,h1,h2⟩:=qagm f s m p hm
  have hr:r<f.infRung:=by have:=h hm;omega
  rw [e]
  obtain ⟨s',m',p',h3,h4,h5,h6⟩:=qafe (s:=s) hr hf h2 (by omega)
  refine ⟨s',m',p',h3,h4,h5,fun hm'=>⟨hm,?_⟩⟩
  have:=h6 hm'
  unfold topOf at this ⊢
  omega
theorem qapa (s:Bool) {m:Nat} {p:Int} (h:m≠0→topOf m p≤126) : ∃ s' m' p',FloatKind.f32.decode (FloatKind.f32.encode (.number s m p)) = .number s' m' p'∧m'<2^24 ∧ -149≤p'∧(m'≠0→m≠0∧topOf m' p'≤max (topOf m p) (-126)+1):=by
 refine que Ieee.single (by decide) s m p (fun hm => ?_) (by decide)
 have:=h hm
 unfold topOf at this
 have h1:Ieee.single.fractionBits=23:=rfl
 have h2:Ieee.single.leastPlace = -149:=by decide
 have h3:Ieee.single.infRung=2139095040:=by decide
 rw [h1,h2,h3]
 have:max (p+(m.log2:Int)-(23:Nat)) (-149) - -149+2≤254:=by omega
 refine Int.lt_of_le_of_lt (Int.mul_le_mul_of_nonneg_right this (by decide)) (by decide)
theorem qagk (s:Bool) {m:Nat} {p:Int} (h:m≠0→topOf m p≤1022) : ∃ s' m' p',FloatKind.f64.decode (FloatKind.f64.encode (.number s m p)) = .number s' m' p'∧m'<2^53 ∧ -1074≤p'∧(m'≠0→m≠0∧topOf m' p'≤max (topOf m p) (-1022)+1):=by
 refine que Ieee.double (by decide) s m p (fun hm => ?_) (by decide)
 have:=h hm
 unfold topOf at this
 have h1:Ieee.double.fractionBits=52:=rfl
 have h2:Ieee.double.leastPlace = -1074:=by decide
 have h3:Ieee.double.infRung=9218868437227405312:=by decide
 rw [h1,h2,h3]
 have:max (p+(m.log2:Int)-(52:Nat)) (-1074) - -1074+2≤2046:=by omega
 refine Int.lt_of_le_of_lt (Int.mul_le_mul_of_nonneg_right this (by decide)) (by decide)
theorem qanz {b:Nat} (h : ∀ s m p,FloatKind.f64.decode b = .number s m p→m≠0→topOf m p≤126) : ∃ y,fConv .f64 .f32 b=some y:=by
 cases hd:FloatKind.f64.decode b with
 | nan s t=>exact qad7 hd
 | infinity s=>exact qad6 hd
 | number s m p =>
  obtain ⟨s',m',p',h1,_⟩:=qapa s (h s m p hd)
  exact qaf2 hd (by rw [h1];rfl)
theorem qab9 (b:Nat) {s:Bool} {m:Nat} {p:Int} (h:FloatKind.f32.decode b = .number s m p) (hm:m≠0):topOf m p≤127:=by
 rcases qzn b with ⟨s',t,h'⟩ | ⟨s',h'⟩ | ⟨s',m',e,h',h1,h2,h3⟩
 ·exact absurd (h.symm.trans h') (by simp)
 ·exact absurd (h.symm.trans h') (by simp)
 ·have:=h.symm.trans h'
  simp only [Ieee.Datum.number.injEq] at this
  obtain ⟨_,rfl,rfl⟩:=this
  have:m.log2<24:=(Nat.log2_lt hm).2 h1
  unfold topOf;omega
theorem qh7 {k:FloatKind} {b:Nat} {s:Bool} {m:Nat} {p:Int} (h:k.decode (canon k b) = .number s m p):k.decode b = .number s m p:=by
 cases hn:isNan k b with
 | false=>rwa [qao hn] at h
 | true =>
  rw [qdm hn] at h
  obtain ⟨a,c,e⟩:=qav.1 (qfe k)
  exact absurd (e.symm.trans h) (by simp)
theorem qai2 (b:Nat) {s:Bool} {m:Nat} {p:Int} (h:FloatKind.f64.decode (conv64 b) = .number s m p) (hm:m≠0):topOf m p≤128:=by
 have hc:=qe7 b
 unfold fConv at hc
 cases hd:FloatKind.f32.decode b with
 | nan s' t =>
  rw [hd] at hc
  have hc:nan .f64=conv64 b:=by simpa using hc
  rw [← hc] at h
  obtain ⟨a,c,e⟩:=qav.1 (qfe .f64)
  exact absurd (e.symm.trans h) (by simp)
 | infinity g =>
  rw [hd] at hc
  have hc:canon .f64 (FloatKind.f64.encode (.infinity g))=conv64 b:=by simpa using hc
  rw [← hc] at h
  have h:=qh7 h
  have hi:FloatKind.f64.decode (FloatKind.f64.encode (.infinity g)) = .infinity g:=by cases g <;> decide
  exact absurd (hi.symm.trans h) (by simp)
 | number g m0 p0 =>
  rw [hd] at hc
  simp only at hc
  have ht:m0≠0→topOf m0 p0≤127:=qab9 b hd
  obtain ⟨s',m',p',h1,h2,h3,h4⟩:=qagk g (m:=m0) (p:=p0) (fun h=>by have:=ht h;omega)
  rw [h1] at hc
  have hc:canon .f64 (FloatKind.f64.encode (.number g m0 p0))=conv64 b:=by simpa [Ieee.Datum.isInfinity] using hc
  rw [← hc] at h
  have h:=(h1.symm.trans (qh7 h))
  simp only [Ieee.Datum.number.injEq] at h
  obtain ⟨_,rfl,rfl⟩:=h
  obtain ⟨h5,h6⟩:=h4 hm
  have:=ht h5
  omega
theorem qtu (n:Nat) : ∀ (t r:Nat),r*r≤n→Ieee.Datum.rootFrom n t r*Ieee.Datum.rootFrom n t r≤n
 | 0,r,h=>h
 | t+1,r,h=>by
  unfold Ieee.Datum.rootFrom
  simp only
  split
  ·rename_i h1;exact qtu n t _ h1
  ·exact qtu n t r h
theorem qam6 {d:Nat} {s:Bool} {m:Nat} {i:Int} {s':Bool} {m':Nat} {i':Int} (h:Ieee.Datum.root d (.number s m i)=some (.number s' m' i')) (hm:m'≠0):m≠0∧2*topOf m' i'≤topOf m i:=by
 unfold Ieee.Datum.root at h
 simp only at h
 split at h
 ·rename_i h0
  simp only [Option.some.injEq,Ieee.Datum.number.injEq] at h
  exact absurd (h.2.1▸h0) hm
 ·rename_i h0
  refine ⟨h0,?_⟩
  split at h
  ·simp at h
  ·simp only [Option.some.injEq,Ieee.Datum.number.injEq] at h
   obtain ⟨_,h1,h2⟩:=h
   generalize hmore:2*d-m.log2+((i-((2*d-m.log2:Nat):Int))%2).toNat=more at h1 h2
   generalize hw:Ieee.Datum.rootFrom (m <<< more) ((m <<< more).log2/2+1) 0=w at h1
   have hsq:w*w≤m <<< more:=by rw [← hw];exact qtu _ _ _ (Nat.zero_le _)
   have hpar:(i-(more:Int))%2=0:=by
    have:(more:Int)=((2*d-m.log2:Nat):Int)+(i-((2*d-m.log2:Nat):Int))%2:=by
     rw [← hmore,Int.natCast_add,Int.toNat_of_nonneg (Int.emod_nonneg _ (by decide))]
    omega
   have hlt:m<2^(m.log2+1):=Nat.lt_log2_self
   have hn:m <<< more<2^(m.log2+1+more):=by
    rw [Nat.shiftLeft_eq,Nat.pow_add]
    exact Nat.mul_lt_mul_of_pos_right hlt (Nat.two_pow_pos _)
   have hb:m'≤2*w+1:=by
    rw [← h1]
    refine Nat.add_le_add_left ?_ _
    generalize (w*w != m <<< more)=b
    cases b <;> simp
   have hw2:2*w.log2≤m.log2+more:=by
    by_cases hw0:w=0
    ·subst hw0;simp
    ·have e1:2^w.log2≤w:=Nat.log2_self_le hw0
     have e2:2^(2*w.log2)≤w*w:=by rw [Nat.two_mul,Nat.pow_add];exact Nat.mul_le_mul e1 e1
     have e3:2^(2*w.log2)<2^(m.log2+1+more):=Nat.lt_of_le_of_lt (Nat.le_trans e2 hsq) hn
     have:=(Nat.pow_lt_pow_iff_right (a:=2) (by omega)).1 e3
     omega
   have hm2:m'.log2≤w.log2+1:=by
    have:m'<2^(w.log2+2):=by
     have:w<2^(w.log2+1):=Nat.lt_log2_self
     rw [Nat.pow_succ]
     omega
    have:=(Nat.log2_lt hm).2 this
    omega
   unfold topOf
   omega
theorem qak8 (b:Nat) : ∃ y,fConv .f64 .f32 (orNan .f64 (FloatKind.f64.format.sqrt (conv64 b)))=some y:=by
 refine qanz fun s m p h hm => ?_
 have e:FloatKind.f64.format.sqrt (conv64 b)=((FloatKind.f64.decode (conv64 b)).root 54).map FloatKind.f64.encode:=rfl
 rw [e] at h
 cases hd:FloatKind.f64.decode (conv64 b) with
 | nan g t =>
  rw [hd] at h
  obtain ⟨a,c,e⟩:=qav.1 (qfe .f64)
  exact absurd (e.symm.trans h) (by simp)
 | infinity g =>
  rw [hd] at h
  cases g with
  | true =>
   obtain ⟨a,c,e⟩:=qav.1 (qfe .f64)
   exact absurd (e.symm.trans h) (by simp)
  | false =>
   have h:=qh7 (k:=.f64) (b:=FloatKind.f64.encode (.infinity false)) h
   have hi:FloatKind.f64.decode (FloatKind.f64.encode (.infinity false)) = .infinity false:=by decide
   exact absurd (hi.symm.trans h) (by simp)
 | number g m0 p0 =>
  rw [hd] at h
  cases hr:Ieee.Datum.root 54 (.number g m0 p0) with
  | none =>
   rw [hr] at h
   obtain ⟨a,c,e⟩:=qav.1 (qfe .f64)
   exact absurd (e.symm.trans h) (by simp)
  | some d =>
   rw [hr] at h
   have h:=qh7 (k:=.f64) (b:=FloatKind.f64.encode d) h
   obtain ⟨s1,m1,p1,rfl⟩ : ∃ s1 m1 p1,d = .number s1 m1 p1:=by
    unfold Ieee.Datum.root at hr
    simp only at hr
    split at hr
    ·exact ⟨_,_,_,(Option.some.inj hr).symm⟩
    ·split at hr
     ·simp at hr
     ·exact ⟨_,_,_,(Option.some.inj hr).symm⟩
   have h1:m1≠0→topOf m1 p1≤64:=fun h1=>by
    obtain ⟨h2,h3⟩:=qam6 hr h1
    have:=qai2 b hd h2
    omega
   obtain ⟨s',m',p',e1,_,_,e4⟩:=qagk s1 (m:=m1) (p:=p1) (fun h=>by have:=h1 h;omega)
   have h:=e1.symm.trans h
   simp only [Ieee.Datum.number.injEq] at h
   obtain ⟨_,rfl,rfl⟩:=h
   obtain ⟨e5,e6⟩:=e4 hm
   have:=h1 e5
   omega
def rootF (b:Nat):Nat:=(fConv .f64 .f32 (orNan .f64 (FloatKind.f64.format.sqrt (conv64 b)))).getD 0
theorem qagy (b:Nat):fConv .f64 .f32 (orNan .f64 (FloatKind.f64.format.sqrt (conv64 b)))=some (rootF b):=by
 obtain ⟨y,h⟩:=qak8 b
 rw [rootF,h];rfl
end Go.Tm
namespace Go.Tm
open Go
def absd:Ieee.Datum→Ieee.Datum
 | .number _ m p => .number false m p
 | .infinity _ => .infinity false
 | .nan s t => .nan s t
def rungOf (f:Ieee.Format) (m:Nat) (p:Int):Nat :=
 if m=0 then 0 else
 let last:=max (p+m.log2-f.fractionBits) f.leastPlace
 min ((last-f.leastPlace).toNat*f.binade+Ieee.Toward.even.cut false (m <<< (p-last).toNat) (last-p).toNat) f.infRung
theorem qkn (f:Ieee.Format) (s:Bool) (m:Nat) (p:Int):f.nearest s m p=f.word s (rungOf f m p):=by
 unfold Ieee.Format.nearest rungOf
 split
 ·rfl
 ·rfl
theorem qaet (f:Ieee.Format) (m:Nat) (p:Int):rungOf f m p≤f.infRung:=by
 unfold rungOf
 split
 ·exact Nat.zero_le _
 ·exact Nat.min_le_right _ _
theorem qpv {k:FloatKind} {d:Ieee.Datum} (h:d.isNaN=false):isNan k (k.encode d)=false:=by
 rw [qly]
 cases d with
 | nan _ _=>simp [Ieee.Datum.isNaN] at h
 | number s m p =>
  show (k.format.read (k.format.nearest s m p)).isNaN=false
  rw [qkn]
  exact qv7 _ (qaet _ _ _)
 | infinity s=>exact qv7 _ (Nat.le_refl _)
theorem qajn (s:Bool) (m u:Nat):Ieee.signed (!s) m u = -Ieee.signed s m u:=by
 cases s <;> simp [Ieee.signed]
theorem qgb {k:FloatKind} {x:Nat} (h:fEq k (fSub k x x) 0=true) : ∃ s m p,k.decode x = .number s m p:=by
 have hz:isNan k (nan k)=true:=qfe k
 have hne:fEq k (nan k) 0=false:=by
  unfold fEq
  rw [qvm _ _ hz];rfl
 cases hd:k.format.read x with
 | number s m p=>exact ⟨s,m,p,hd⟩
 | infinity s =>
  have e:fSub k x x=nan k:=by
   unfold fSub Ieee.Format.sub
   rw [hd]
   cases s <;> rfl
  rw [e,hne] at h
  simp at h
 | nan s t =>
  have e:fSub k x x=nan k:=by
   unfold fSub Ieee.Format.sub
   rw [hd];rfl
  rw [e,hne] at h
  simp at h
theorem qamb {k:FloatKind} {x:Nat} {s:Bool} {m:Nat} {p:Int} (hd:k.decode x = .number s m p) (h:fLt k 0 x=true):m≠0:=by
 intro hm
 subst hm
 have h0:k.format.read 0 = .number false 0 k.format.leastPlace:=by cases k <;> decide
 have hd':k.format.read x = .number s 0 p:=hd
 unfold fLt Ieee.Format.order at h
 rw [h0,hd'] at h
 simp [Ieee.Datum.order,Ieee.signed,qafy] at h
theorem qanu {k:FloatKind} {x y:Nat} {s t:Bool} {m n:Nat} {i j:Int} (hx:k.decode x = .number s m i) (hy:k.decode y = .number t n j) (hn:n≠0):isNan k (fDiv k x y)=false:=by
 have hx':k.format.read x = .number s m i:=hx
 have hy':k.format.read y = .number t n j:=hy
 unfold fDiv Ieee.Format.div
 rw [hx',hy']
 simp only [Ieee.Datum.quotient,if_neg hn,Option.map_some,orNan]
 rw [qcl]
 exact qpv (k:=k) rfl
theorem qai1 {b:Nat} (h:isNan .f32 b=false):isNan .f64 (conv64 b)=false:=by
 have hc:=qe7 b
 unfold fConv at hc
 cases hd:FloatKind.f32.decode b with
 | nan s t=>rw [qav.2 ⟨s,t,hd⟩] at h;simp at h
 | infinity g =>
  rw [hd] at hc
  have hc:canon .f64 (FloatKind.f64.encode (.infinity g))=conv64 b:=by simpa using hc
  rw [← hc,qcl]
  exact qpv rfl
 | number g m p =>
  rw [hd] at hc
  have ht:m≠0→topOf m p≤127:=qab9 b hd
  obtain ⟨s',m',p',h1,_⟩:=qagk g (m:=m) (p:=p) (fun h=>by have:=ht h;omega)
  simp only at hc
  rw [h1] at hc
  have hc:canon .f64 (FloatKind.f64.encode (.number g m p))=conv64 b:=by simpa [Ieee.Datum.isInfinity] using hc
  rw [← hc,qcl]
  exact qpv rfl
theorem qai7 {w:Ieee.Toward} {x:Nat} (h:isNan .f64 x=false):isNan .f64 (fRound w x)=false:=by
 unfold fRound
 rw [h,cond_false,qcl]
 apply qpv
 rw [qly] at h
 have h:(FloatKind.f64.decode x).isNaN=false:=h
 cases hd:FloatKind.f64.decode x with
 | nan s t=>rw [hd] at h;simp [Ieee.Datum.isNaN] at h
 | infinity s=>rfl
 | number s m p=>rfl
theorem qaj9 {w:Ieee.Toward} (x:Nat):fRound w x<2^64:=by
 unfold fRound
 have hnan:nan .f64<2^64:=by decide
 cases isNan .f64 x with
 | true=>exact hnan
 | false =>
  simp only [cond_false]
  unfold canon
  cases isNan .f64 _ with
  | true=>exact hnan
  | false=>exact Ieee.Format.write_lt Ieee.double _
def absW (y:Nat):Nat:=canon .f64 (iAndNot .u64 (y:Int) 9223372036854775808).toNat
theorem qais {y:Nat} (h:y<2^64):(iAndNot .u64 (y:Int) 9223372036854775808).toNat=y%2^63:=by
 have e:(BitVec.ofInt 64 (y:Int) &&& ~~~(BitVec.ofInt 64 9223372036854775808)).toNat=y%2^63:=by
  apply Nat.eq_of_testBit_eq
  intro i
  rw [BitVec.testBit_toNat,BitVec.getLsbD_and,BitVec.getLsbD_not,Nat.testBit_mod_two_pow,← BitVec.testBit_toNat,← BitVec.testBit_toNat]
  have e1:(BitVec.ofInt 64 (y:Int)).toNat=y:=by
   rw [BitVec.toNat_ofInt]
   omega
  have e2:(BitVec.ofInt 64 9223372036854775808).toNat=2^63:=by decide
  rw [e1,e2,Nat.testBit_two_pow]
  by_cases hi:i<63
  ·have:¬ 63=i:=by omega
   have h64:i<64:=by omega
   simp [hi,this,h64]
  ·by_cases h3:i=63
   ·subst h3;simp
   ·have:y.testBit i=false:=Nat.testBit_lt_two_pow (Nat.lt_of_lt_of_le h (Nat.pow_le_pow_right (by omega) (by omega)))
    simp [hi,this]
 unfold iAndNot
 show (IntKind.u64.wrap ((BitVec.ofInt 64 (y:Int) &&& ~~~(BitVec.ofInt 64 9223372036854775808)).toNat:Int)).toNat=y%2^63
 rw [e]
 have hlt:y%2^63<2^63:=Nat.mod_lt _ (by decide)
 simp [IntKind.wrap,IntKind.signed,IntKind.bits]
 omega
theorem qam4 {y:Nat} : FloatKind.f64.decode (y%2^63)=absd (FloatKind.f64.decode y)∨isNan .f64 y=true:=by
 by_cases hn:isNan .f64 y=true
 ·exact .inr hn
 ·refine .inl ?_
  have e1:FloatKind.f64.format.signWeight=2^63:=rfl
  have hm:y%2^63%2^63=y%2^63:=Nat.mod_mod _ _
  have hd:y%2^63/2^63=0:=Nat.div_eq_of_lt (Nat.mod_lt _ (by decide))
  rw [qly] at hn
  show FloatKind.f64.format.read (y%2^63)=absd (FloatKind.f64.format.read y)
  unfold Ieee.Format.read at hn ⊢
  simp only [e1,hm,hd] at hn ⊢
  split
  ·rfl
  ·split
   ·rfl
   ·split
    ·rfl
    ·rename_i a b c
     rw [if_neg a,if_neg b,if_neg c] at hn
     simp [Ieee.Datum.isNaN] at hn
theorem qag9 {y:Nat} (h:y<2^64) (hn:isNan .f64 y=false):FloatKind.f64.decode (absW y)=absd (FloatKind.f64.decode y):=by
 have e:=(qam4 (y:=y)).resolve_right (by rw [hn];simp)
 unfold absW
 rw [qais h]
 have:isNan .f64 (y%2^63)=false:=by
  rw [qly] at hn ⊢
  show (FloatKind.f64.decode (y%2^63)).isNaN=false
  rw [e]
  have hn:(FloatKind.f64.decode y).isNaN=false:=hn
  cases hd:FloatKind.f64.decode y <;> rw [hd] at hn <;> first | rfl | simp [Ieee.Datum.isNaN] at hn
 rw [qao this]
 exact e
theorem qmk (a b:Int):(compare a b == .lt)=decide (a<b):=by
 rw [Int.compare_eq_ite_lt]
 split
 ·rename_i h;simp [h]
 ·rename_i h
  split <;> simp [h]
theorem qqt (a b:Int):((compare a b == .lt)||(compare a b == .eq))=decide (a≤b):=by
 rw [Int.compare_eq_ite_lt]
 split
 ·rename_i h;simp;omega
 ·rename_i h
  split
  ·rename_i h2;simp;omega
  ·rename_i h2;simp;omega
def million:Nat:=4696837146684686336
def milliom:Nat:=13920209183539462144
theorem qxz:FloatKind.f64.decode million = .number false 8589934592000000 (-33):=by decide
theorem qxy:FloatKind.f64.decode milliom = .number true 8589934592000000 (-33):=by decide
theorem qaha {y:Nat} (h:y<2^64) (hn:isNan .f64 y=false):fLt .f64 million (absW y) = !(fLe .f64 milliom y&&fLe .f64 y million):=by
 have ha:=qag9 h hn
 have r1:=qxz
 have r2:=qxy
 unfold fLt fLe Ieee.Format.order
 rw [show FloatKind.f64.format.read (absW y)=absd (FloatKind.f64.decode y) from ha,show FloatKind.f64.format.read million=_ from r1,show FloatKind.f64.format.read milliom=_ from r2,show FloatKind.f64.format.read y=FloatKind.f64.decode y from rfl]
 rw [qly] at hn
 have hn:(FloatKind.f64.decode y).isNaN=false:=hn
 cases hd:FloatKind.f64.decode y with
 | nan s t=>rw [hd] at hn;simp [Ieee.Datum.isNaN] at hn
 | infinity s=>cases s <;> rfl
 | number s M B =>
  simp only [absd,Ieee.Datum.order]
  have some_beq : ∀ (a b:Ordering),((some a:Option Ordering)==some b)=(a==b):=fun a b=>by cases a <;> cases b <;> rfl
  simp only [some_beq]
  simp only [qqt]
  simp only [qmk]
  rw [Int.min_comm B (-33)]
  generalize min (-33) B=base
  have e1 : ∀ (m:Nat) (u:Nat),Ieee.signed false m u=((m <<< u:Nat):Int):=fun _ _=>rfl
  have e2 : ∀ (m:Nat) (u:Nat),Ieee.signed true m u = -((m <<< u:Nat):Int):=fun _ _=>rfl
  rw [e1,e1,e2]
  generalize 8589934592000000 <<< ((-33)-base).toNat=a
  cases s
  ·rw [e1]
   generalize M <<< (B-base).toNat=b
   by_cases h:a<b
   ·have h1:(a:Int)<b:=by omega
    have h2:¬ (b:Int)≤a:=by omega
    simp [h1,h2]
   ·have h1:¬ (a:Int)<b:=by omega
    have h2:(b:Int)≤a:=by omega
    have h3 : -(a:Int)≤b:=by omega
    simp [h1,h2,h3]
  ·rw [e2]
   generalize M <<< (B-base).toNat=b
   by_cases h:a<b
   ·have h1:(a:Int)<b:=by omega
    have h2:¬ (-(a:Int) ≤ -(b:Int)):=by omega
    simp [h1,h2]
   ·have h1:¬ (a:Int)<b:=by omega
    have h2 : -(a:Int) ≤ -(b:Int):=by omega
    have h3 : -(b:Int)≤a:=by omega
    simp [h1,h2,h3]
theorem qwg {y:Nat} (hn:isNan .f64 y=false) (h:(fLe .f64 milliom y&&fLe .f64 y million)=true) : ∃ n,fToInt .f64 y .i32=some n ∧ -1000000≤n∧n≤1000000:=by
 have r1:=qxz
 have r2:=qxy
 unfold fLe Ieee.Format.order at h
 rw [show FloatKind.f64.format.read million=_ from r1,show FloatKind.f64.format.read milliom=_ from r2,show FloatKind.f64.format.read y=FloatKind.f64.decode y from rfl] at h
 rw [qly] at hn
 have hn:(FloatKind.f64.decode y).isNaN=false:=hn
 unfold fToInt
 cases hd:FloatKind.f64.decode y with
 | nan s t=>rw [hd] at hn;simp [Ieee.Datum.isNaN] at hn
 | infinity s=>rw [hd] at h;cases s <;> simp [Ieee.Datum.order] at h
 | number s M B =>
  rw [hd] at h
  have some_beq : ∀ (a b:Ordering),((some a:Option Ordering)==some b)=(a==b):=fun a b=>by cases a <;> cases b <;> rfl
  simp only [Ieee.Datum.order,some_beq] at h
  simp only [qqt,Bool.and_eq_true,decide_eq_true_eq] at h
  rw [Int.min_comm B (-33)] at h
  have hM:M <<< (B-min (-33) B).toNat≤8589934592000000 <<< ((-33)-min (-33) B).toNat:=by
   have e1 : ∀ (m:Nat) (u:Nat),Ieee.signed false m u=((m <<< u:Nat):Int):=fun _ _=>rfl
   have e2 : ∀ (m:Nat) (u:Nat),Ieee.signed true m u = -((m <<< u:Nat):Int):=fun _ _=>rfl
   rw [e1,e2] at h
   cases s
   ·rw [e1] at h;omega
   ·rw [e2] at h;omega
  have key:Ieee.Toward.zero.cut s (M <<< B.toNat) (-B).toNat≤1000000:=by
   unfold Ieee.Toward.cut
   simp only [Nat.shiftLeft_eq,Nat.one_mul,Bool.toNat_false,Nat.add_zero]
   simp only [Nat.shiftLeft_eq] at hM
   by_cases hB:0≤B
   ·have e1:(-B).toNat=0:=by omega
    rw [e1,Nat.zero_min,Nat.pow_zero,Nat.div_one]
    have e2:min (-33) B = -33:=by omega
    rw [e2] at hM
    have e3:(B - -33).toNat=B.toNat+33:=by omega
    have e4:((-33:Int) - -33).toNat=0:=by decide
    rw [e3,e4,Nat.pow_zero,Nat.mul_one,Nat.pow_add,← Nat.mul_assoc] at hM
    have:8589934592000000=1000000*2^33:=by decide
    rw [this] at hM
    exact Nat.le_of_mul_le_mul_right hM (by decide)
   ·have e1:B.toNat=0:=by omega
    rw [e1,Nat.pow_zero,Nat.mul_one]
    have hM2:M≤1000000*2^(-B).toNat:=by
     have e33:8589934592000000=1000000*2^33:=by decide
     rw [e33] at hM
     by_cases h33 : -33≤B
     ·have e2:min (-33) B = -33:=by omega
      rw [e2] at hM
      have e4:((-33:Int) - -33).toNat=0:=by decide
      rw [e4,Nat.pow_zero,Nat.mul_one] at hM
      have e5:33=(B - -33).toNat+(-B).toNat:=by omega
      have e6:1000000*2^33=1000000*2^(-B).toNat*2^(B - -33).toNat:=by
       rw [Nat.mul_assoc,← Nat.pow_add]
       congr 2
       omega
      rw [e6] at hM
      exact Nat.le_of_mul_le_mul_right hM (Nat.two_pow_pos _)
     ·have e2:min (-33) B=B:=by omega
      rw [e2] at hM
      have e4:(B-B).toNat=0:=by omega
      rw [e4,Nat.pow_zero,Nat.mul_one,Nat.mul_assoc,← Nat.pow_add] at hM
      have e5:33+(-33-B).toNat=(-B).toNat:=by omega
      rw [e5] at hM
      exact hM
    by_cases hg:(-B).toNat≤M.log2+2
    ·rw [Nat.min_eq_left hg]
     exact Nat.div_le_of_le_mul (by rw [Nat.mul_comm];exact hM2)
    ·rw [Nat.min_eq_right (by omega)]
     have hlt:M<2^(M.log2+1):=Nat.lt_log2_self
     rw [Nat.div_eq_of_lt (Nat.lt_of_lt_of_le hlt (Nat.pow_le_pow_right (by omega) (by omega)))]
     omega
  simp only [Ieee.Datum.toInt,Ieee.Datum.integral]
  generalize Ieee.Toward.zero.cut s (M <<< B.toNat) (-B).toNat=c at key
  have hs : -1000000≤Ieee.signed s c 0∧Ieee.signed s c 0≤1000000:=by
   cases s <;> simp [Ieee.signed] <;> omega
  have h1:IntKind.i32.min = -2147483648:=by decide
  have h2:IntKind.i32.max=2147483647:=by decide
  rw [h1,h2]
  have d1:decide (-2147483648≤Ieee.signed s c 0)=true:=decide_eq_true (by omega)
  have d2:decide (Ieee.signed s c 0≤2147483647)=true:=decide_eq_true (by omega)
  rw [d1,d2]
  exact ⟨_,rfl,hs⟩
end Go.Tm
