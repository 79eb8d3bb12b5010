import Derived.Test.YtjhdoneobdbeaaaGreatDoorA2
import Derived.LoopN
import Derived.Laws.Externs
import Derived.ChangeArms
import Derived.ChangeOld
import Derived.OpenShut
import Derived.WideShapes
import Derived.SizedLaws
import Derived.WideKeyArgs
import Derived.ProofKit
import Derived.Below
import Derived.Sort.Grow
import Derived.Lib.SplitLaws
import Derived.Lib.Join
import Derived.Lib.IndexMore
import Derived.Lib.ItoaNum
import Derived.Lib.ParseIntB
import Derived.Lib.ConvBytes
import Derived.Lib.AtoiErrMem
import Derived.Deep.Draws
import Derived.Lib.LaidTab
import Derived.Lib.Overlaps
import Derived.Lib.AppendZerosOnto
import Derived.Handed
import Derived.Shelf.Vars
import Derived.Stop.LaidErr
import Derived.LaidLaws
/- The typed machine and its soundness: what an evaluation on typed data says of the model's run. -/
set_option linter.unusedSectionVars false
set_option linter.unusedSimpArgs false
set_option linter.unusedVariables false
namespace Go.Tm
open Go
theorem qaog {P:Program} {F:Fr} {ι:Nat→Inf} {K:Nat→Prop} {s s':St} {a:Act} {w:World} (h:On P F ι K s a w) (hl : ∀ b,look s'.heap b=look s.heap b) (ht : ∀ t,getT s'.tmps t=getT s.tmps t) (hn:s'.tmps.length=s.tmps.length) :
  On P F ι K s' a w∧Stp F ι ι K K s.heap s'.heap w w:=by
 obtain ⟨h1,h2⟩:=h.inv.look hl
 exact ⟨⟨h1,⟨hn.trans h.slots.1,fun t=>by rw [ht];exact h2.avr (h.slots.2 t)⟩,h.none⟩,h2⟩
section
variable {E : Env} {F : Fr} {ι : Nat → Inf} {K : Nat → Prop} {s : St} {a : Act} {w : World} {o : Oper}
theorem qamo {all:List Oper} (h:On E.P F ι K s a w) {i:Nat} {e:Eff} (hv:opVal E all o i s=some e) :
  (e=none∧Region.wanted o (yielded all.toArray a.tmps)=false) ∨ ∃ p,e=some p∧Region.wanted o (yielded all.toArray a.tmps)=true∧(exec E o.op (rd s.tmps) (s.next+wide*i)).val s.heap []=some p:=by
 have hval:((exec E o.op (rd s.tmps) (s.next+wide*i)).val s.heap []).map some=some e → ∃ p,e=some p∧(exec E o.op (rd s.tmps) (s.next+wide*i)).val s.heap []=some p:=by
  intro hv
  cases hm:(exec E o.op (rd s.tmps) (s.next+wide*i)).val s.heap [] with
  | none=>rw [hm] at hv;simp at hv
  | some p=>rw [hm] at hv;exact ⟨p,(Option.some.inj hv).symm,rfl⟩
 unfold opVal at hv
 split at hv
 ·rename_i hg
  obtain ⟨p,h1,h2⟩:=hval hv
  exact .inr ⟨p,h1,by unfold Region.wanted;rw [hg],h2⟩
 ·rename_i j want hg
  split at hv
  ·simp at hv
  ·rename_i d hd
   split at hv
   ·rename_i b hb
    obtain ⟨b,rfl⟩ : ∃ b':Bool,b'=b:=⟨b,rfl⟩
    have hw:=qaec h hg hd hb
    cases b <;> cases want
    ·obtain ⟨p,h1,h2⟩:=hval hv
     exact .inr ⟨p,h1,hw,h2⟩
    ·exact .inl ⟨(Option.some.inj hv).symm,hw⟩
    ·exact .inl ⟨(Option.some.inj hv).symm,hw⟩
    ·obtain ⟨p,h1,h2⟩:=hval hv
     exact .inr ⟨p,h1,hw,h2⟩
   ·rename_i hb
    exact .inl ⟨(Option.some.inj hv).symm,qaax h hg hd hb⟩
   ·simp at hv
end
theorem qvf {o:Oper} {l:List Nat} {t:Nat} (h:o.dst=some t):hasDst o l=memN l t:=by unfold hasDst;rw [h]
section
variable {E : Env} {F : Fr} {all : List Oper} {es : List Eff} {s0 : St} {a0 : Act} {w0 : World} {ι0 : Nat → Inf} {K0 : Nat → Prop}
structure At (E:Env) (F:Fr) (all:List Oper) (es:List Eff) (s0:St) (a0:Act) (w0:World) (ι0:Nat→Inf) (K0:Nat→Prop) (D:Nat→Bool) (a:Act) (w:World) (ι:Nat→Inf) (K:Nat→Prop):Prop where
 on:On E.P F ι K (foldD D (all.zip es) 0 s0) a w
 stp:Stp F ι0 ι K0 K s0.heap (foldD D (all.zip es) 0 s0).heap w0 w
 vals : ∀ d,d∉all.filterMap (·.dst)→a.tmps.getD d undef=a0.tmps.getD d undef
 known : ∀ b,K b→K0 b ∨ ∃ i,D i=true∧i<all.length∧s0.next+wide*i≤b∧b<s0.next+wide*i+wide
theorem qaap {D:Nat→Bool} (hD:Closed all D) {i:Nat} {o:Oper} (ho:all[i]? = some o) (hr : ∀ e∈o.after.toList,Region.binds .any e=true→D e.on=true):Closed all (fun j=>D j||decide (j=i)):=by
 intro j o' ho' hj e he hb
 simp only [Bool.or_eq_true,decide_eq_true_eq] at hj ⊢
 rcases hj with hj | rfl
 ·exact .inl (hD j o' ho' hj e he hb)
 ·rw [ho] at ho'
  simp only [Option.some.injEq] at ho'
  subst ho'
  exact .inl (hr e he hb)
theorem apart (hlen:es.length=all.length) (hdraw:drawOk all ((all.zip es).map fun p=>(p.1,recOf p.2)) [] 0=true) {D:Nat→Bool} (hD:Closed all D) {i:Nat} {o:Oper} {e:Eff} (hi:(all.zip es)[i]? = some (o,e)) (hn:D i=false)
  (hr : ∀ e∈o.after.toList,Region.binds .any e=true→D e.on=true) {n:Nat} {o':Oper} {e':Eff} (hn':(all.zip es)[n]? = some (o',e')) (hd:D n≠decide (n<i)) :
  (∀ t,o'.dst=some t→t∉looks all o) ∧ ∀ b∈(recOf e').writes,b∉(recOf e).reads:=by
 have hrec : ∀ (m:Nat) (p:Oper×Eff),(all.zip es)[m]? = some p→((all.zip es).map fun p=>(p.1,recOf p.2))[m]? = some (p.1,recOf p.2):=by intro m p hp;rw [List.getElem?_map,hp];rfl
 have hgo:all[i]? = some o:=by
  have:=List.getElem?_zip_eq_some.1 hi
  exact this.1
 have hgo':all[n]? = some o':=(List.getElem?_zip_eq_some.1 hn').1
 have hcl:=qaap hD hgo hr
 have fin:indep all o' o (recOf e') (recOf e)=true∨indep all o o' (recOf e) (recOf e')=true→(∀ t,o'.dst=some t→t∉looks all o) ∧ ∀ b∈(recOf e').writes,b∉(recOf e).reads:=by
  rintro (h | h)
  ·simp only [indep,Bool.and_eq_true,Bool.not_eq_true'] at h
   obtain ⟨⟨⟨⟨h1,h2⟩,h3⟩,h4⟩,h5⟩:=h
   refine ⟨fun t ht hm => ?_,fun b hb hm=>(qpb.1 h4) b hb (List.mem_append_left _ hm)⟩
   rw [qvf ht,qew.2 hm] at h1;simp at h1
  ·simp only [indep,Bool.and_eq_true,Bool.not_eq_true'] at h
   obtain ⟨⟨⟨⟨h1,h2⟩,h3⟩,h4⟩,h5⟩:=h
   refine ⟨fun t ht hm => ?_,fun b hb hm=>(qpb.1 h5) b hb hm⟩
   rw [qvf ht,qew.2 hm] at h3;simp at h3
 rcases Nat.lt_trichotomy n i with h | h | h
 ·have hdn:D n=false:=by cases hx:D n with | false=>rfl | true=>rw [hx] at hd;simp [h] at hd
  have:=(qpc hdraw rfl i _ _ (hrec i _ hi)).2 n _ _ (by omega) (by simpa using hrec n _ hn')
  rw [Nat.zero_add] at this
  rcases this with h1 | h1 | h1
  ·exfalso
   simp only [edgeTo,List.any_eq_true,Bool.and_eq_true] at h1
   obtain ⟨x,hx,h2,h3⟩:=h1
   have:=hr x hx h3
   rw [Nat.eq_of_beq_eq_true h2,hdn] at this;simp at this
  ·exact fin (.inl h1)
  ·exfalso
   have:=qww hcl h1 (by simp)
   simp only [Bool.or_eq_true,decide_eq_true_eq,hdn] at this
   rcases this with h2 | h2
   ·simp at h2
   ·omega
 ·subst h;rw [hn] at hd;simp at hd
 ·have hdn:D n=true:=by cases hx:D n with | true=>rfl | false=>rw [hx] at hd;exact absurd (by simp;omega) hd
  have:=(qpc hdraw rfl n _ _ (hrec n _ hn')).2 i _ _ (by omega) (by simpa using hrec i _ hi)
  rw [Nat.zero_add] at this
  rcases this with h1 | h1 | h1
  ·exfalso
   simp only [edgeTo,List.any_eq_true,Bool.and_eq_true] at h1
   obtain ⟨x,hx,h2,h3⟩:=h1
   have:=hD n o' hgo' hdn x hx h3
   rw [Nat.eq_of_beq_eq_true h2,hn] at this;simp at this
  ·exact fin (.inr h1)
  ·exfalso
   have:=qww hD h1 hdn
   rw [hn] at this;simp at this
theorem qao0 (hdraw:drawOk all ((all.zip es).map fun p=>(p.1,recOf p.2)) [] 0=true) {D:Nat→Bool} (hD:Closed all D) {i:Nat} {o:Oper} {e:Eff} (hi:(all.zip es)[i]? = some (o,e)) (hn:D i=false)
  {n:Nat} {o':Oper} {e':Eff} (hn':(all.zip es)[n]? = some (o',e')) (hlt:i<n) (hd:D n=true):(∀ t,o'.dst=some t→o.dst≠some t) ∧ ∀ b∈(recOf e').writes,b∉(recOf e).writes:=by
 have hrec : ∀ (m:Nat) (p:Oper×Eff),(all.zip es)[m]? = some p→((all.zip es).map fun p=>(p.1,recOf p.2))[m]? = some (p.1,recOf p.2):=by intro m p hp;rw [List.getElem?_map,hp];rfl
 have hgo':all[n]? = some o':=(List.getElem?_zip_eq_some.1 hn').1
 have:=(qpc hdraw rfl n _ _ (hrec n _ hn')).2 i _ _ (by omega) (by simpa using hrec i _ hi)
 rw [Nat.zero_add] at this
 rcases this with h1 | h1 | h1
 ·exfalso
  simp only [edgeTo,List.any_eq_true,Bool.and_eq_true] at h1
  obtain ⟨x,hx,h2,h3⟩:=h1
  have:=hD n o' hgo' hd x hx h3
  rw [Nat.eq_of_beq_eq_true h2,hn] at this;simp at this
 ·simp only [indep,Bool.and_eq_true,Bool.not_eq_true'] at h1
  obtain ⟨⟨⟨⟨h1,h2⟩,h3⟩,h4⟩,h5⟩:=h1
  refine ⟨fun t ht ho => ?_,fun b hb hm=>(qpb.1 h4) b hm (List.mem_append_right _ hb)⟩
  rw [qvf ho,ht] at h2
  simp [memN] at h2
 ·exfalso
  have:=qww hD h1 hd
  rw [hn] at this;simp at this
end
end Go.Tm
namespace Go.Tm
open Go
theorem qal5 {s:St} {o o':Oper} {e e':Eff} (h1 : ∀ t,o'.dst=some t→o.dst≠some t) (h2 : ∀ b∈(recOf e').writes,b∉(recOf e).writes) :
  (∀ t,getT ((s.eff o e).eff o' e').tmps t=getT ((s.eff o' e').eff o e).tmps t) ∧ ∀ b,look ((s.eff o e).eff o' e').heap b=look ((s.eff o' e').eff o e).heap b:=by
 refine ⟨fun t => ?_,fun b => ?_⟩
 ·by_cases ht:o'.dst=some t
  ·have hn:=h1 t ht
   rw [qlr (s.eff o' e') o e t hn]
   exact qu9 _ _ o' e' t (qlr s o e t hn) (qj9 _ _ _)
  ·rw [qlr (s.eff o e) o' e' t ht]
   exact qu9 _ _ o e t (qlr s o' e' t ht).symm (qj9 _ _ _).symm
 ·by_cases hb:b∈(recOf e').writes
  ·have hn:=h2 b hb
   rw [qlq (s.eff o' e') o e b hn]
   exact qr8 _ _ o' e' b (qlq s o e b hn)
  ·rw [qlq (s.eff o e) o' e' b hb]
   exact qr8 _ _ o e b (qlq s o' e' b hb).symm
theorem qw7 {D:Nat→Bool} {o:Oper} {e:Eff} : ∀ {B:List (Oper×Eff)} {j:Nat} {s:St},(∀ n o' e',B[n]? = some (o',e')→D (j+n)=true→(∀ t,o'.dst=some t→o.dst≠some t) ∧ ∀ b∈(recOf e').writes,b∉(recOf e).writes) →
  (∀ t,getT (foldD D B j (s.eff o e)).tmps t=getT ((foldD D B j s).eff o e).tmps t) ∧ ∀ b,look (foldD D B j (s.eff o e)).heap b=look ((foldD D B j s).eff o e).heap b
 | [],_,_,_=>⟨fun _=>rfl,fun _=>rfl⟩
 | (o',e') :: B,j,s,h=>by
  have hrest : ∀ n o' e',B[n]? = some (o',e')→D (j+1+n)=true→(∀ t,o'.dst=some t→o.dst≠some t) ∧ ∀ b∈(recOf e').writes,b∉(recOf e).writes:=fun n o'' e'' hn hd=>h (n+1) o'' e'' (by simpa using hn) (by rw [show j+(n+1)=j+1+n by omega];exact hd)
  simp only [foldD]
  cases hd:D j with
  | false=>exact qw7 hrest
  | true =>
   obtain ⟨g1,g2⟩:=h 0 o' e' rfl hd
   obtain ⟨c1,c2⟩:=qal5 (s:=s) g1 g2
   obtain ⟨i1,i2⟩:=qw7 (s:=s.eff o' e') hrest
   simp only [cond_true]
   refine ⟨fun t => ?_,fun b => ?_⟩
   ·rw [← i1 t]
    exact qw9 (fun _ _ _ _ _=>rfl) (c1 t) (by simp only [qj9])
   ·rw [← i2 b]
    exact qw8 (fun _ _ _ _ _=>rfl) (c2 b)
theorem qvc {D D':Nat→Bool} : ∀ {L:List (Oper×Eff)} {j:Nat} {s:St},(∀ n,j≤n→n<j+L.length→D n=D' n)→foldD D L j s=foldD D' L j s
 | [],_,_,_=>rfl
 | (o,e) :: L,j,s,h=>by
  simp only [foldD]
  rw [h j (Nat.le_refl _) (by simp)]
  exact qvc fun n h1 h2=>h n (by omega) (by simp;omega)
section
variable {E : Env} {F : Fr} {all : List Oper} {es : List Eff} {s0 : St} {a0 : Act} {w0 : World} {ι0 : Nat → Inf} {K0 : Nat → Prop}
theorem qamd (hdraw:drawOk all ((all.zip es).map fun p=>(p.1,recOf p.2)) [] 0=true) {D:Nat→Bool} (hD:Closed all D) {i:Nat} {o:Oper} {e:Eff} (hi:(all.zip es)[i]? = some (o,e)) (hn:D i=false) :
  (∀ t,getT (foldD (fun j=>D j||decide (j=i)) (all.zip es) 0 s0).tmps t=getT ((foldD D (all.zip es) 0 s0).eff o e).tmps t) ∧
  (∀ b,look (foldD (fun j=>D j||decide (j=i)) (all.zip es) 0 s0).heap b=look ((foldD D (all.zip es) 0 s0).eff o e).heap b):=by
 have hap:=fun n o' e' (h1:(all.zip es)[n]? = some (o',e')) h2 h3=>qao0 hdraw hD hi hn (n:=n) (o':=o') (e':=e') h1 h2 h3
 have hlt:i<(all.zip es).length:=(List.getElem?_eq_some_iff.1 hi).1
 obtain ⟨A,B,hL,hA⟩ : ∃ A B,all.zip es=A++(o,e) :: B∧A.length=i:=by
  refine ⟨(all.zip es).take i,(all.zip es).drop (i+1),?_,by rw [List.length_take];omega⟩
  rw [← (List.getElem?_eq_some_iff.1 hi).2,← List.drop_eq_getElem_cons hlt,List.take_append_drop]
 rw [hL] at hap ⊢
 rw [qvd,qvd,hA,Nat.zero_add]
 simp only [foldD,hn,Bool.false_or,decide_true,cond_true,cond_false]
 rw [qvc (D:=fun j=>D j||decide (j=i)) (D':=D) (L:=A) (fun n _ h2=>by
  have:decide (n=i)=false:=by simp;omega
  rw [this,Bool.or_false])]
 rw [qvc (D:=fun j=>D j||decide (j=i)) (D':=D) (L:=B) (fun n h1 _=>by
  have:decide (n=i)=false:=by simp;omega
  rw [this,Bool.or_false])]
 refine qw7 fun n o' e' hb hd=>hap (i+1+n) o' e' ?_ (by omega) hd
 rw [List.getElem?_append_right (by omega),hA,show i+1+n-i=n+1 by omega]
 simpa using hb
end
end Go.Tm
namespace Go.Tm
open Go
section
variable {E : Env} {F : Fr} {all : List Oper} {es : List Eff} {s0 : St} {a0 : Act} {w0 : World} {ι0 : Nat → Inf} {K0 : Nat → Prop}
theorem qxp {ops:Array Oper} {listed:Array Bool} {i:Nat} : i∈Region.ready .any ops listed↔i<ops.size∧listed.getD i true=false ∧ ∃ o,ops[i]? = some o ∧ ∀ e∈o.after.toList,Region.binds .any e=true→listed.getD e.on false=true:=by
 unfold Region.ready
 rw [List.mem_filter,List.mem_range,Bool.and_eq_true,Bool.not_eq_true']
 constructor
 ·rintro ⟨h1,h2,h3⟩
  refine ⟨h1,h2,ops[i],by simp [h1],fun e he hb => ?_⟩
  have:ops[i]? = some ops[i]:=by simp [h1]
  rw [this] at h3
  simp only [Option.map_some,Option.getD_some,Array.all_eq_true_iff_forall_mem,Bool.or_eq_true,Bool.not_eq_true'] at h3
  rcases h3 e (Array.mem_toList_iff.1 he) with h | h
  ·rw [hb] at h;simp at h
  ·exact h
 ·rintro ⟨h1,h2,o,ho,h3⟩
  refine ⟨h1,h2,?_⟩
  rw [ho]
  simp only [Option.map_some,Option.getD_some,Array.all_eq_true_iff_forall_mem,Bool.or_eq_true,Bool.not_eq_true']
  intro e he
  cases hb:Region.binds .any e with
  | false=>exact .inl rfl
  | true=>exact .inr (h3 e (Array.mem_toList_iff.2 he) hb)
theorem qaow {listed:Array Bool} {i:Nat} (hi:i<listed.size):(fun j=>(listed.setIfInBounds i true).getD j false)=fun j=>listed.getD j false||decide (j=i):=by
 funext j
 simp only [Array.getD_eq_getD_getElem?,Array.getElem?_setIfInBounds]
 by_cases h:i=j
 ·subst h;simp [hi]
 ·have:¬ j=i:=fun e=>h e.symm
  simp [h,this]
theorem qad0 {l:List Bool} {i:Nat} (h:l[i]? = some false):(l.set i true).count false+1=l.count false:=by
 induction l generalizing i with
 | nil=>simp at h
 | cons b l ih =>
  cases i with
  | zero=>simp at h;subst h;simp
  | succ i =>
   have:=ih (i:=i) (by simpa using h)
   simp only [List.set_cons_succ,List.count_cons]
   omega
theorem qal4 (hE:EnvS E F) {Q:Exit→Act→World→Prop} (hlen:es.length=all.length) (hdraw:drawOk all ((all.zip es).map fun p=>(p.1,recOf p.2)) [] 0=true) (hK0 : ∀ b,K0 b→b<s0.next)
  (hat : ∀ n o e,(all.zip es)[n]? = some (o,e)→opVal E all o n (foldD (fun m=>decide (m<n)) (all.zip es) 0 s0)=some e)
  (hQ : ∀ a w ι K,At E F all es s0 a0 w0 ι0 K0 (fun _=>true) a w ι K→Q .normal a w) :
  ∀ (fuel:Nat) (listed:Array Bool) (a:Act) (w:World) (ι:Nat→Inf) (K:Nat→Prop),listed.size=all.length→listed.toList.count false≤fuel→Closed all (fun i=>listed.getD i false)→At E F all es s0 a0 w0 ι0 K0 (fun i=>listed.getD i false) a w ι K →
   wpAny E.P .any all.toArray Q fuel listed a w:=by
 have hzl:(all.zip es).length=all.length:=by simp [hlen]
 have hdone : ∀ (listed:Array Bool) (a:Act) (w:World) (ι:Nat→Inf) (K:Nat→Prop),listed.size=all.length→At E F all es s0 a0 w0 ι0 K0 (fun i=>listed.getD i false) a w ι K→Region.ready .any all.toArray listed=[]→Q .normal a w:=by
  intro listed a w ι K hsz hA hr
  have hall : ∀ n i,i<n→i<all.length→listed.getD i false=true:=by
   intro n
   induction n with
   | zero=>intro i hi;omega
   | succ n ih =>
    intro i hi hil
    cases hx:listed.getD i false with
    | true=>rfl
    | false =>
     exfalso
     have hm:i∈Region.ready .any all.toArray listed:=by
      refine qxp.2 ⟨by simpa using hil,?_,all[i],by simp [hil],fun e he hb => ?_⟩
      ·rw [Array.getD_eq_getD_getElem?] at hx ⊢
       have:listed[i]? = some listed[i]:=by simp [hsz,hil]
       rw [this] at hx ⊢
       simpa using hx
      ·have hz:(all.zip es)[i]? = some (all[i],es[i]'(by omega)):=by rw [List.getElem?_zip_eq_some];exact ⟨by simp [hil],by simp [hlen,hil]⟩
       have:=(qpc hdraw rfl i all[i] (recOf (es[i]'(by omega))) (by rw [List.getElem?_map,hz];rfl)).1 e he hb
       exact ih e.on (by omega) (by omega)
     rw [hr] at hm;simp at hm
  have hfe:foldD (fun i=>listed.getD i false) (all.zip es) 0 s0=foldD (fun _=>true) (all.zip es) 0 s0:=qvc fun n _ h2=>hall (n+1) n (by omega) (by omega)
  refine hQ a w ι K ⟨by rw [← hfe];exact hA.on,by rw [← hfe];exact hA.stp,hA.vals,fun b hb => ?_⟩
  rcases hA.known b hb with h | ⟨i,_,h⟩
  ·exact .inl h
  ·exact .inr ⟨i,rfl,h⟩
 intro fuel
 induction fuel with
 | zero =>
  intro listed a w ι K hsz hcnt hcl hA
  have hr:Region.ready .any all.toArray listed=[]:=by
   cases hx:Region.ready .any all.toArray listed with
   | nil=>rfl
   | cons i r =>
    exfalso
    have hi:i∈Region.ready .any all.toArray listed:=by rw [hx];simp
    obtain ⟨h1,h2,_⟩:=qxp.1 hi
    have hget:listed.toList[i]? = some false:=by
     rw [Array.getElem?_toList]
     rw [Array.getD_eq_getD_getElem?] at h2
     cases hy:listed[i]? with
     | none=>rw [hy] at h2;simp at h2
     | some b=>rw [hy] at h2;simp at h2;rw [h2]
    have:=qad0 hget
    omega
  exact ⟨hr,hdone listed a w ι K hsz hA hr⟩
 | succ fuel ih =>
  intro listed a w ι K hsz hcnt hcl hA
  refine ⟨hdone listed a w ι K hsz hA,fun i hi => ?_⟩
  obtain ⟨h1,h2,o,ho,hedges⟩:=qxp.1 hi
  have hil:i<all.length:=by simpa using h1
  have hget:listed.toList[i]? = some false:=by
   rw [Array.getElem?_toList]
   rw [Array.getD_eq_getD_getElem?] at h2
   cases hy:listed[i]? with
   | none=>rw [hy] at h2;simp at h2
   | some b=>rw [hy] at h2;simp at h2;rw [h2]
  have hfalse:listed.getD i false=false:=by
   rw [Array.getElem?_toList] at hget
   rw [Array.getD_eq_getD_getElem?,hget];rfl
  have hoa:all[i]? = some o:=by simpa using ho
  obtain ⟨e,hz⟩ : ∃ e,(all.zip es)[i]? = some (o,e):=⟨es[i]'(by omega),List.getElem?_zip_eq_some.2 ⟨hoa,by simp [hlen,hil]⟩⟩
  have hmem:o∈all:=List.mem_of_getElem? hoa
  have hval:opVal E all o i (foldD (fun i=>listed.getD i false) (all.zip es) 0 s0)=some e:=by
   refine qahp (hat i o e hz) (fun t ht => ?_) (by rw [qpf,qpf]) (fun b hb => ?_)
   ·refine qw9 (fun n o' e' hn hd => ?_) rfl rfl
    simp only [Nat.zero_add]
    by_cases hx:listed.getD n false=decide (n<i)
    ·exact hx
    ·exact absurd ht ((apart hlen hdraw hcl hz hfalse hedges hn hx).1 t hd)
   ·refine qw8 (fun n o' e' hn hd => ?_) rfl
    simp only [Nat.zero_add]
    by_cases hx:listed.getD n false=decide (n<i)
    ·exact hx
    ·exact absurd hb ((apart hlen hdraw hcl hz hfalse hedges hn hx).2 b hd)
  obtain ⟨fa,fb⟩:=qamd (s0:=s0) hdraw hcl hz hfalse
  have hsetD:=qaow (listed:=listed) (i:=i) (by omega)
  have hcl':Closed all (fun j=>(listed.setIfInBounds i true).getD j false):=by rw [hsetD];exact qaap hcl hoa hedges
  have hcnt':(listed.setIfInBounds i true).toList.count false≤fuel:=by
   rw [Array.toList_setIfInBounds]
   have:=qad0 hget
   omega
  have hnext:(foldD (fun i=>listed.getD i false) (all.zip es) 0 s0).next=s0.next:=qpf _ _ _ _
  have hgo : ∀ a' w' ι' K',On E.P F ι' K' ((foldD (fun i=>listed.getD i false) (all.zip es) 0 s0).eff o e) a' w'→Stp F ι ι' K K' (foldD (fun i=>listed.getD i false) (all.zip es) 0 s0).heap ((foldD (fun i=>listed.getD i false) (all.zip es) 0 s0).eff o e).heap w w' →
    (∀ d,d∉all.filterMap (·.dst)→a'.tmps.getD d undef=a.tmps.getD d undef)→(∀ b,K' b→K b∨(s0.next+wide*i≤b∧b<s0.next+wide*i+wide)) →
    wpAny E.P .any all.toArray Q fuel (listed.setIfInBounds i true) a' w':=by
   intro a' w' ι' K' hon hst hvals hkn
   refine ih _ a' w' ι' K' (by simp [hsz]) hcnt' hcl' ?_
   rw [hsetD]
   obtain ⟨g1,g2⟩:=qaog hon fb fa (by rw [qo0,qj9,qo0])
   refine ⟨g1,(hA.stp.trans hst).trans g2,fun d hd=>(hvals d hd).trans (hA.vals d hd),fun b hb => ?_⟩
   rcases hkn b hb with h | h
   ·rcases hA.known b h with h | ⟨j,hj,hjl,h⟩
    ·exact .inl h
    ·exact .inr ⟨j,by rw [hj];rfl,hjl,h⟩
   ·exact .inr ⟨i,by simp,hil,h⟩
  have hvalsput : ∀ x d,d∉all.filterMap (·.dst)→(a.put o.dst x).tmps.getD d undef=a.tmps.getD d undef:=fun x d hd=>(qxx (s:=s0) (a:=a) o.dst .undef [] x (qye hmem)).vals d hd
  simp only [wpOp,ho]
  rcases qamo hA.on hval with ⟨rfl,hw⟩ | ⟨p,rfl,hw,hx⟩
  ·rw [hw,if_neg (by simp)]
   exact hgo _ w ι K (qaim hA.on o.dst) (by
    have e1:((foldD (fun i=>listed.getD i false) (all.zip es) 0 s0).eff o none).heap=(foldD (fun i=>listed.getD i false) (all.zip es) 0 s0).heap:=by unfold St.eff;cases o.dst <;> rfl
    rw [e1];exact Stp.refl ..) (hvalsput undef) (fun b hb => .inl hb)
  ·rw [hw,if_pos rfl]
   refine .inl (qaig hE hA.on (fun b hb1 hb2 hk => ?_) (RM.val_wp hx) ?_)
   ·rw [hnext] at hb1 hb2
    rcases hA.known b hk with h | ⟨j,hj,hjl,h3,h4⟩
    ·have:=hK0 b h;omega
    ·have hne:j≠i:=fun e=>by rw [e,hfalse] at hj;simp at hj
     have h5:wide*j+wide≤wide*i∨wide*i+wide≤wide*j:=by
      rcases Nat.lt_or_gt_of_ne hne with hlt | hlt
      ·left;rw [← Nat.mul_succ];exact Nat.mul_le_mul_left _ hlt
      ·right;rw [← Nat.mul_succ];exact Nat.mul_le_mul_left _ hlt
     omega
   ·intro v u rs ι' K' x w' hΨ hon hst hkn
    obtain ⟨he,_⟩:=hΨ
    have hp:p.1=(v,u):=he.symm
    obtain ⟨⟨v',u'⟩,rs'⟩:=p
    simp only [Prod.mk.injEq] at hp
    obtain ⟨rfl,rfl⟩:=hp
    exact hgo _ w' ι' K' hon hst (hvalsput x) (fun b hb=>by rw [← hnext];exact hkn b hb)
end
end Go.Tm
namespace Go.Tm
open Go
section
variable {E : Env} {F : Fr} {s : St} {a : Act} {w : World} {ι : Nat → Inf} {K : Nat → Prop}
theorem qaav (D:Nat→Bool) : ∀ (L:List (Oper×Eff)) (i:Nat) (s:St) (ds:List Nat),(∀ p∈L,∀ t,p.1.dst=some t→t∈ds) →
  (∀ d,d∉ds→getT (foldD D L i s).tmps d=getT s.tmps d)∧(∀ b∈s.dirty,b∈(foldD D L i s).dirty) ∧ ∀ b,b∉(foldD D L i s).dirty→look (foldD D L i s).heap b=look s.heap b
 | [],_,_,_,_=>⟨fun _ _=>rfl,fun _ h=>h,fun _ _=>rfl⟩
 | (o,e) :: L,i,s,ds,h=>by
  simp only [foldD]
  obtain ⟨h1,h2,h3⟩:=qaav D L (i+1) (bif D i then s.eff o e else s) ds fun p hp=>h p (List.mem_cons_of_mem _ hp)
  have hs : ∀ d,d∉ds→getT (bif D i then s.eff o e else s).tmps d=getT s.tmps d:=by
   intro d hd
   cases D i with
   | false=>rfl
   | true=>exact qlr s o e d fun ht=>hd (h (o,e) List.mem_cons_self d ht)
  have hdirty:(s.eff o e).dirty=(recOf e).writes++s.dirty:=by
   cases e with
   | none=>unfold St.eff St.put;cases o.dst <;> rfl
   | some p=>unfold St.eff St.put;cases o.dst <;> rfl
  refine ⟨fun d hd=>(h1 d hd).trans (hs d hd),fun b hb=>h2 b ?_,fun b hb=>(h3 b hb).trans ?_⟩
  ·cases D i with
   | false=>exact hb
   | true=>show b∈(s.eff o e).dirty;rw [hdirty];exact List.mem_append_right _ hb
  ·have hb':b∉(bif D i then s.eff o e else s).dirty:=fun hm=>hb (h2 b hm)
   cases hd:D i with
   | false=>rfl
   | true =>
    rw [hd] at hb'
    have hb':b∉(s.eff o e).dirty:=hb'
    rw [hdirty] at hb'
    exact qlq s o e b fun hm=>hb' (List.mem_append_left _ hm)
theorem qaf7 {A:Type} {r:A} {k:St→Option A} : ∀ {ts:List Nat} {s:St},frz ts s k=some r→On E.P F ι K s a w → ∃ s',k s'=some r∧On E.P F ι K s' a w∧Stp F ι ι K K s.heap s'.heap w w∧Agree ts s s' a a∧s'.next=s.next
 | [],s,h,hon=>⟨s,h,hon,Stp.refl ..,Agree.refl ..,rfl⟩
 | t :: ts,s,h,hon=>by
  have skip:frz ts s k=some r → ∃ s',k s'=some r∧On E.P F ι K s' a w∧Stp F ι ι K K s.heap s'.heap w w∧Agree (t :: ts) s s' a a∧s'.next=s.next:=fun h =>
   let ⟨s',h1,h2,h3,h4,h5⟩:=qaf7 h hon
   ⟨s',h1,h2,h3,h4.mono fun d hd=>List.mem_cons_of_mem _ hd,h5⟩
  simp only [frz] at h
  have hv:=hon.slots.2 t
  cases hg:getT s.tmps t with
  | ptr b p u =>
   cases p with
   | cons _ _=>rw [hg] at h;exact skip h
   | nil =>
    rw [hg] at h hv
    simp only at h
    cases hb:look s.heap b with
    | none=>rw [hb] at h;simp at h
    | some x =>
     cases x with
     | row _ _=>rw [hb] at h;simp at h
     | box bt v =>
      rw [hb] at h
      simp only at h
      obtain ⟨cs0,hc,hval⟩:=hv
      simp only [AVC] at hc
      obtain ⟨hKb,o,hko,rfl⟩:=hc
      have hp:=qad (show ValOf false _ _ from hval)
      obtain ⟨hk,hd,cells,e,hbb,hvv,hlen,hone,hf⟩:=hon.inv.blks b _ hb
      rw [hk] at hko
      have ho:o=0:=by cases hko with | box hto=>cases hto;rfl
      subst ho
      rw [hd] at hp
      have hreal:(ι b).kind.real=true:=by rw [hk];rfl
      obtain ⟨y,bs,rs',h1,hrep,hlive,_⟩:=qh5 hon.inv (RM.run_wp h) hvv
      simp only [RM.wp] at h1
      obtain ⟨hI,hS⟩:=hon.inv.kill (b :: bs)
      have hsub : ∀ c,RegX F ι s.heap w bs c→Reg F ι (kills (b :: bs)++s.heap) w c:=fun c hc=>qsy hon.inv (bs:=bs) (fun d hd=>List.mem_cons_of_mem _ hd) hc
      have hown:Reg F ι (kills (b :: bs)++s.heap) w (ι b).c:=qsy hon.inv (bs:=[b]) (fun d hd=>by rw [List.mem_singleton.1 hd];exact List.mem_cons_self) (.inr ⟨b,by simp,_,hb,hreal,rfl⟩)
      have hav:AVR E.P ι K w (Reg F ι (kills (b :: bs)++s.heap) w) (.iptr bt y) (a.tmps.getD t undef):=by
       refine ⟨[.pointer (some ⟨(ι b).c,0,none⟩)],?_,?_⟩
       ·unfold AVC
        refine ⟨(ι b).c,0,cells.toList,rfl,hown,fun j v hj => ?_,hrep.mono fun c hc=>⟨hsub c hc,rfl⟩⟩
        simp [World.cell?,hbb]
        simpa using hj
       ·rw [hp];rfl
      have hon2:On E.P F ι K { s with tmps:=setT s.tmps t (.iptr bt y),heap:=kills (b :: bs)++s.heap,dirty:=b :: bs++s.dirty } a w:=by
       refine ⟨hI,⟨?_,fun d => ?_⟩,hon.none⟩
       ·rw [qfg];exact hon.slots.1
       ·show AVR E.P ι K w _ (getT (setT s.tmps t (.iptr bt y)) d) _
        rw [qbs]
        split
        ·rename_i hd;rw [hd.1];exact hav
        ·exact hS.avr (hon.slots.2 d)
      obtain ⟨s',g1,g2,g3,g4,g5⟩:=qaf7 h1 hon2
      refine ⟨s',g1,g2,hS.trans g3,?_,g5⟩
      refine Agree.trans (s':={ s with tmps:=setT s.tmps t (.iptr bt y),heap:=kills (b :: bs)++s.heap,dirty:=b :: bs++s.dirty }) ?_ (g4.mono fun d hd=>List.mem_cons_of_mem _ hd)
      refine ⟨fun d hd => ?_,fun _ _=>rfl,by simp [qfg],Nat.le_refl _,fun c hc=>List.mem_append_right _ hc,fun c _ hn => ?_⟩
      ·show getT (setT s.tmps t (.iptr bt y)) d=_
       rw [qbs,if_neg (fun hh=>hd (by rw [hh.1];exact List.mem_cons_self))]
      ·show look (kills (b :: bs)++s.heap) c=_
       rw [qa8,if_neg (fun hm=>hn (List.mem_append_left _ hm))]
  | _=>rw [hg] at h;exact skip h
theorem qak6 (hE:EnvS E F) {A:Type} {r:A} {id:Nat} {ops:Array Oper} {draw:Bool} {k:St→Option A} {Q:Exit→Act→World→Prop} (h:region E ops.toList draw s k=some r) (hon:On E.P F ι K s a w) (hK : ∀ b,K b→b<s.next)
  (hQ : ∀ s' ι' K' a' w',k s'=some r→On E.P F ι' K' s' a' w'→Stp F ι ι' K K' s.heap s'.heap w w'→Agree (ops.toList.filterMap (·.dst)) s s' a a'→(∀ b,K' b→b<s'.next)→Q .normal a' w') :
  (Code.region id ops draw).wp E.P Q a w:=by
 unfold region at h
 cases draw with
 | false =>
  refine wp_region ?_
  have:=qac6 hE (Q:=Q) (ι0:=ι) (K0:=K) (s0:=s) (a0:=a) (w0:=w) (all:=ops.toList) (r:=r) (fun s' rc ι' K' a' w' hk hon' hst hag hnx hK'=>by
   simp only [Bool.not_false,Bool.true_or,cond_true] at hk
   refine hQ _ ι' K' a' w' hk ⟨hon'.inv,hon'.slots,hon'.none⟩ hst ⟨hag.slots,hag.vals,hag.length,?_,hag.dirty,hag.heap⟩ (fun b hb => ?_)
   ·show s.next≤s'.next+_;omega
   ·show b<s'.next+_;rw [hnx];exact hK' b hb) ops.toList [] s [] a w ι K rfl h hon (Stp.refl ..) (Agree.refl ..) rfl (by simpa using hK)
  rw [List.range_eq_range']
  simpa using this
 | true =>
  refine wp_region_any hE.mixed ?_
  obtain ⟨es,s',hch,hlen,hk⟩:=qxt E ops.toList ops.toList 0 s [] h
  obtain ⟨hfin,hat⟩:=qafx hch
  simp only [Bool.not_true,Bool.false_or,List.append_nil,List.reverse_reverse] at hk
  cases hd:drawOk ops.toList (List.zipWith (fun o e=>(o,recOf e)) ops.toList es) [] 0 with
  | false=>rw [hd] at hk;simp at hk
  | true =>
   rw [hd] at hk
   simp only [cond_true] at hk
   have hdraw:drawOk ops.toList ((ops.toList.zip es).map fun p=>(p.1,recOf p.2)) [] 0=true:=by
    rw [← hd];congr 1;rw [List.zip,List.map_zipWith]
   obtain ⟨hw1,hw2⟩:=hon.inv.world (w':={ w with drawn:=w.drawn+1 }) rfl rfl rfl
   have hon1:On E.P F ι K s a { w with drawn:=w.drawn+1 }:=⟨hw1,hw2.slots hon.slots,hon.none⟩
   have hno : ∀ (L:List (Oper×Eff)) (j:Nat),foldD (fun i=>(Array.replicate ops.size false).getD i false) L j s=s:=by
    intro L
    induction L with
    | nil=>intros;rfl
    | cons p L ih =>
     intro j
     obtain ⟨o,e⟩:=p
     simp only [foldD]
     rw [show (Array.replicate ops.size false).getD j false=false by simp [Array.getD_eq_getD_getElem?,Array.getElem?_replicate];split <;> rfl]
     exact ih (j+1)
   refine qal4 hE (all:=ops.toList) (es:=es) (s0:=s) (a0:=a) (w0:=w) (ι0:=ι) (K0:=K) hlen hdraw hK (fun n o e hn=>by have:=hat n o e hn;rw [Nat.zero_add] at this;exact this) (fun a' w' ι' K' hA => ?_) ops.size (Array.replicate ops.size false) a _ ι K (by simp) (by simp) (fun j o ho hj => ?_) ⟨by rw [hno];exact hon1,by rw [hno];exact hw2,fun _ _=>rfl,fun b hb => .inl hb⟩
   ·obtain ⟨hAon,hAstp,hAvals,hAknown⟩:=hA
    rw [hfin] at hAon hAstp
    have hag:=qaav (fun _=>true) (ops.toList.zip es) 0 s (ops.toList.filterMap (·.dst)) (fun p hp t ht=>qye (List.of_mem_zip (a:=p.1) (b:=p.2) hp).1 t ht)
    have hnx:=qpf (fun _=>true) (ops.toList.zip es) 0 s
    have hl:=qo0 (fun _=>true) (ops.toList.zip es) 0 s
    rw [hfin] at hag hnx hl
    refine hQ _ ι' K' a' w' hk ⟨hAon.inv,hAon.slots,hAon.none⟩ hAstp ⟨hag.1,hAvals,hl,?_,hag.2.1,fun b _ hb=>hag.2.2 b hb⟩ (fun b hb => ?_)
    ·show s.next≤s'.next+_;omega
    ·show b<s'.next+wide*ops.toList.length
     rw [hnx]
     rcases hAknown b hb with h1 | ⟨i,_,hi,h1,h2⟩
     ·have:=hK b h1;omega
     ·have:wide*i+wide≤wide*ops.toList.length:=by rw [← Nat.mul_succ];exact Nat.mul_le_mul_left _ hi
      omega
   ·have:(Array.replicate ops.size false).getD j false=false:=by simp [Array.getD_eq_getD_getElem?,Array.getElem?_replicate];split <;> rfl
    exact absurd (this.symm.trans hj) (by simp)
end
end Go.Tm
namespace Go.Tm
open Go
def TL (P:Program) (F:Fr) (ι:Nat→Inf) (K:Nat→Prop) (H:Heap) (w:World):(l:Ann)→lden l→Tmps→(Nat→Value)→List Nat→List Nat→List Nat→List Nat→Prop
 | [],_,_,_,ks,xs,O,fz=>ks=[]∧xs=[]∧O=[]∧fz=[]
 | (d,.sc t) :: r,σ,tm,av,ks,xs,O,fz=>VRep w (Reg F ι H w) t σ.1 (av d)∧TL P F ι K H w r σ.2 tm av ks xs O fz
 | (d,.rows t) :: r,σ,tm,av,ks,xs,O,fz => ∃ cs ts O1 ks' O',ValOf false cs (av d)∧ShR P w (Reg F ι H w) (FW F) (.rows t) σ.1 cs O1∧Pls (Pl ι H) ts O1 []∧ks=ts++ks'∧O=O1++O'∧TL P F ι K H w r σ.2 tm av ks' xs O' fz
 | (d,.mrows t) :: r,σ,tm,av,ks,xs,O,fz => ∃ b xs',getT tm d = .rows b t∧AVR P ι K w (Reg F ι H w) (.rows b t) (av d)∧look H b=some (.row t σ.1)∧xs=b :: xs'∧TL P F ι K H w r σ.2 tm av ks xs' O fz
 | (d,.box sh) :: r,σ,tm,av,ks,xs,O,fz => ∃ b cells e ts O1 fz1 ks' xs' O' fz',getT tm d = .ptr b [] sh.ty∧AVR P ι K w (Reg F ι H w) (.ptr b [] sh.ty) (av d)∧(∃ c,look H b=some (.box sh.ty c)) ∧
   (ι b).kind = .box sh.ty∧(ι b).d=0∧w.heap[(ι b).c]? = some (.cells cells e (0,0))∧cells.toList.length=sh.ty.size∧SelfC (ι b).c e sh.ty sh.ref cells.toList∧ShR P w (RegX F ι H w fz1) (FW F) sh σ.1 cells.toList O1∧Pls (Pl ι H) ts O1 fz1 ∧
   ks=ts++ks'∧xs=b :: xs'∧O=O1++O'∧fz=fz1++fz'∧TL P F ι K H w r σ.2 tm av ks' xs' O' fz'
theorem qanj {t u:Ty} {p:List PS} {o:Nat} (h:TyOff t p o u) (hp:p=[]):u=t:=by cases h <;> first | rfl | simp at hp
theorem qagd {t u:Ty} {o:Nat} (h:KOff (.box t) [] o u):u=t:=by cases h with | box h=>exact qanj h rfl
section
variable {E : Env} {F : Fr} {ι : Nat → Inf} {K : Nat → Prop} {s : St} {a : Act} {w : World} {A : Type} {z : A}
theorem qg8 (h:On E.P F ι K s a w) : ∀ {l:Ann} {k:lden l→List Nat→List Nat→Option A},takeLoop s l k=some z →
  ∃ σ ks xs O fz,k σ ks xs=some z∧TL E.P F ι K s.heap w l σ s.tmps (fun d=>a.tmps.getD d undef) ks xs O fz
 | [],k,h0=>⟨(),[],[],[],[],h0,rfl,rfl,rfl,rfl⟩
 | (d,.sc t) :: r,k,h0=>by
  simp only [takeLoop] at h0
  have hw:=RM.run_wp h0
  obtain ⟨cs,hc,hval⟩:=h.slots.2 d
  obtain ⟨x,bs,rs',h1,hx,hlive,_⟩:=qh5 h.inv hw hc
  have ha:=qjr hw
  simp only [RM.wp] at h1
  cases bs with
  | cons _ _=>simp at h1
  | nil =>
   simp only at h1
   obtain ⟨σ,ks,xs,O,fz,h2,h3⟩:=qg8 h h1
   exact ⟨(x,σ),ks,xs,O,fz,h2,⟨(qvw hx hval ha).mono fun c hc=>⟨hc.nil,rfl⟩,h3⟩⟩
 | (d,.rows t) :: r,k,h0=>by
  obtain ⟨cs,hc,hval⟩:=h.slots.2 d
  have hn : ∀ u x,getT s.tmps d ≠ .val u x:=by
   intro u x e
   simp only [takeLoop,e] at h0
   simp at h0
  have h1:(bif vwU8 t (getT s.tmps d) then none else (castR (.list t) (getT s.tmps d) fun x bs => .ret (x,bs)).run s.heap [] (fun x _=>takeLoop s r fun y ks xs=>k (x.1,y) (x.2++ks) xs))=some z:=by
   simp only [takeLoop] at h0
   generalize getT s.tmps d=v at h0 hn
   cases v <;> first | exact absurd rfl (hn _ _) | exact h0
  cases h8:vwU8 t (getT s.tmps d) with
  | true=>rw [h8] at h1;simp at h1
  | false =>
  rw [h8] at h1
  have hw:=RM.run_wp (show _=some z from h1)
  obtain ⟨xs,ts,rs',O1,h1,h2,h3,h4,_⟩:=qaex h.inv hw hc hn h8
  have ha:=qjr hw
  simp only [RM.wp] at h1
  obtain ⟨σ,ks,xs',O,fz,h5,h6⟩:=qg8 h h1
  exact ⟨(xs,σ),ts++ks,xs',O1++O,fz,h5,⟨cs,ts,O1,ks,O,by rw [ha] at hval;exact hval,h3,h2,rfl,rfl,h6⟩⟩
 | (d,.mrows t) :: r,k,h0=>by
  simp only [takeLoop] at h0
  have hv:=h.slots.2 d
  split at h0
  ·rename_i b u hb
   split at h0
   ·rename_i u' xs hlk
    split at h0
    ·rename_i q _;obtain rfl:=q
     obtain ⟨σ,ks,xs',O,fz,h1,h2⟩:=qg8 h h0
     have hu:u=u':=by
      rw [hb] at hv
      obtain ⟨cs,hc,_⟩:=hv
      simp only [AVC] at hc
      obtain ⟨_,hc⟩:=hc
      have hblk:=h.inv.blks b _ hlk
      rcases hc with ⟨hk,_⟩ | ⟨n,room,cap,hk,_⟩ <;> rcases hblk with ⟨hk',_⟩ | ⟨room',_,_,_,hk',_⟩ <;> rw [hk] at hk' <;> simp at hk'
      ·exact hk'
      ·exact hk'.1
     subst hu
     exact ⟨(xs,σ),ks,b :: xs',O,fz,h1,⟨b,xs',hb,by rw [← hb];exact hv,hlk,rfl,h2⟩⟩
    ·simp at h0
   ·simp at h0
  ·simp at h0
 | (d,.box sh) :: r,k,h0=>by
  simp only [takeLoop] at h0
  have hv:=h.slots.2 d
  split at h0
  ·rename_i b u hb
   split at h0
   ·rename_i t c hlk
    cases hsm:sh.ty.same t with
    | false=>rw [hsm] at h0;simp at h0
    | true =>
     rw [hsm] at h0
     have hty:=qbe hsm
     subst hty
     simp only [cond_true] at h0
     obtain ⟨hk,hd,cells,e,hbb,hvv,hlen,h1',hf⟩:=h.inv.blks b _ hlk
     obtain ⟨y,ts,rs',O1,fz1,h1,p1,s1,_,l1,_⟩:=qdz h.inv (RM.run_wp h0) hvv
     simp only [RM.wp] at h1
     obtain ⟨σ,ks,xs',O,fz,h2,h3⟩:=qg8 h h1
     have hu:u=sh.ty:=by
      rw [hb] at hv
      obtain ⟨cs,hc,_⟩:=hv
      simp only [AVC] at hc
      obtain ⟨_,o,hko,_⟩:=hc
      rw [hk] at hko
      exact qagd hko
     subst hu
     exact ⟨(y,σ),ts++ks,b :: xs',O1++O,fz1++fz,h2,⟨b,cells,e,ts,O1,fz1,ks,xs',O,fz,hb,by rw [← hb];exact hv,⟨c,hlk⟩,hk,hd,hbb,hlen,⟨h1'.1,fun hr=>h1'.2.1 (qq4 (RM.run_wp h0) hr),h1'.2.2⟩,s1,p1,rfl,rfl,rfl,rfl,h3⟩⟩
   ·simp at h0
  ·simp at h0
end
end Go.Tm
namespace Go.Tm
open Go
def LK.stays:LK→Bool
 | .mrows _ | .box _=>true
 | _=>false
section
variable {P : Program} {F : Fr} {ι' : Nat → Inf} {K' : Nat → Prop} {H' : Heap} {w : World} {tm : Tmps} {av : Nat → Value}
theorem qk7 : ∀ {l:Ann} {σ:lden l} {ks xs O fz:List Nat} {s1 s2:St},TL P F ι' K' H' w l σ tm av ks xs O fz→(l.map (·.1)).Nodup→(∀ p∈l,p.2.stays=true→getT s1.tmps p.1=getT tm p.1)→s1.tmps=s2.tmps→s1.next=s2.next →
  (putLoop l σ s1).tmps=(putLoop l σ s2).tmps∧(putLoop l σ s1).next=(putLoop l σ s2).next∧(s1.dirty=s2.dirty→(putLoop l σ s1).dirty=(putLoop l σ s2).dirty) ∧
  ∀ b,(b∈xs∨look s1.heap b=look s2.heap b)→look (putLoop l σ s1).heap b=look (putLoop l σ s2).heap b
 | [],σ,ks,xs,O,fz,s1,s2,⟨_,hx,_⟩,_,_,ht,hn=>⟨ht,hn,fun h=>h,fun b hb=>by subst hx;rcases hb with h | h;simp at h;exact h⟩
 | (d,.sc t) :: r,σ,ks,xs,O,fz,s1,s2,⟨_,hr⟩,hnd,hst,ht,hn=>by
  obtain ⟨hd,hnd⟩:=List.nodup_cons.1 hnd
  refine qk7 (s1:={ s1 with tmps:=setT s1.tmps d (.val t σ.1) }) (s2:={ s2 with tmps:=setT s2.tmps d (.val t σ.1) }) hr hnd (fun p hp hs => ?_) (by rw [ht]) hn
  rw [← hst p (List.mem_cons_of_mem _ hp) hs]
  show getT (setT s1.tmps d _) p.1=_
  rw [qbs,if_neg (fun h:p.1=d∧_=>hd (List.mem_map.2 ⟨p,hp,h.1⟩))]
 | (d,.rows t) :: r,σ,ks,xs,O,fz,s1,s2,⟨_,_,_,_,_,_,_,_,_,_,hr⟩,hnd,hst,ht,hn=>by
  obtain ⟨hd,hnd⟩:=List.nodup_cons.1 hnd
  obtain ⟨h1,h2,h3,h4⟩:=qk7 (s1:={ s1 with tmps:=setT s1.tmps d (.rows s1.next t),heap:=(s1.next,some (.row t σ.1)) :: s1.heap,next:=s1.next+1 }) (s2:={ s2 with tmps:=setT s2.tmps d (.rows s2.next t),heap:=(s2.next,some (.row t σ.1)) :: s2.heap,next:=s2.next+1 }) hr hnd (fun p hp hs=>by
   rw [← hst p (List.mem_cons_of_mem _ hp) hs]
   show getT (setT s1.tmps d _) p.1=_
   rw [qbs,if_neg (fun h:p.1=d∧_=>hd (List.mem_map.2 ⟨p,hp,h.1⟩))]) (by rw [ht,hn]) (by rw [hn])
  refine ⟨h1,h2,h3,fun b hb=>h4 b ?_⟩
  rcases hb with hb | hb
  ·exact .inl hb
  ·refine .inr ?_
   show look ((s1.next,_) :: s1.heap) b=look ((s2.next,_) :: s2.heap) b
   rw [qa1,qa1,hn,hb]
 | (d,.mrows t) :: r,σ,ks,xs,O,fz,s1,s2,⟨b0,xs',hb0,_,_,hxs,hr⟩,hnd,hst,ht,hn=>by
  obtain ⟨hd,hnd⟩:=List.nodup_cons.1 hnd
  have g1:getT s1.tmps d = .rows b0 t:=(hst (d,.mrows t) List.mem_cons_self rfl).trans hb0
  have g2:getT s2.tmps d = .rows b0 t:=by rw [← ht];exact g1
  simp only [putLoop,g1,g2]
  obtain ⟨h1,h2,h3,h4⟩:=qk7 (s1:={ s1 with heap:=(b0,some (.row t σ.1)) :: s1.heap }) (s2:={ s2 with heap:=(b0,some (.row t σ.1)) :: s2.heap }) hr hnd (fun p hp hs=>hst p (List.mem_cons_of_mem _ hp) hs) ht hn
  refine ⟨h1,h2,h3,fun b hb=>h4 b ?_⟩
  subst hxs
  by_cases he:b=b0
  ·exact .inr (by show look ((b0,_) :: s1.heap) b=look ((b0,_) :: s2.heap) b;rw [qa1,qa1,if_pos he,if_pos he])
  ·rcases hb with hb | hb
   ·rcases List.mem_cons.1 hb with h | h
    ·exact absurd h he
    ·exact .inl h
   ·exact .inr (by show look ((b0,_) :: s1.heap) b=look ((b0,_) :: s2.heap) b;rw [qa1,qa1,hb])
 | (d,.box sh) :: r,σ,ks,xs,O,fz,s1,s2,⟨b0,cells,e,ts,O1,fz1,ks',xs',O',fz',hb0,_,_,_,_,_,_,_,_,_,_,hxs,_,_,hr⟩,hnd,hst,ht,hn=>by
  obtain ⟨hd,hnd⟩:=List.nodup_cons.1 hnd
  have g1:getT s1.tmps d = .ptr b0 [] sh.ty:=(hst (d,.box sh) List.mem_cons_self rfl).trans hb0
  have g2:getT s2.tmps d = .ptr b0 [] sh.ty:=by rw [← ht];exact g1
  simp only [putLoop,g1,g2]
  obtain ⟨h1,h2,h3,h4⟩:=qk7 (s1:={ s1 with heap:=(b0,some (.box sh.ty (putSh sh σ.1 s1.next).1)) :: (putSh sh σ.1 s1.next).2.1++s1.heap,next:=(putSh sh σ.1 s1.next).2.2 }) (s2:={ s2 with heap:=(b0,some (.box sh.ty (putSh sh σ.1 s2.next).1)) :: (putSh sh σ.1 s2.next).2.1++s2.heap,next:=(putSh sh σ.1 s2.next).2.2 }) hr hnd (fun p hp hs=>hst p (List.mem_cons_of_mem _ hp) hs) ht (by rw [hn])
  refine ⟨h1,h2,h3,fun b hb=>h4 b ?_⟩
  subst hxs
  by_cases he:b=b0
  ·exact .inr (by show look ((b0,_) :: ((putSh sh σ.1 s1.next).2.1++s1.heap)) b=look ((b0,_) :: ((putSh sh σ.1 s2.next).2.1++s2.heap)) b;rw [qa1,qa1,if_pos he,if_pos he,hn])
  ·rcases hb with hb | hb
   ·rcases List.mem_cons.1 hb with h | h
    ·exact absurd h he
    ·exact .inl h
   ·exact .inr (by show look ((b0,_) :: ((putSh sh σ.1 s1.next).2.1++s1.heap)) b=look ((b0,_) :: ((putSh sh σ.1 s2.next).2.1++s2.heap)) b;rw [qa1,qa1,hn,qk6,qk6,hb])
end
end Go.Tm
namespace Go.Tm
open Go
section
variable {P : Program} {F : Fr} {ι' : Nat → Inf} {K' : Nat → Prop} {H' : Heap} {w : World} {T : Nat → Prop} {tm : Tmps} {av : Nat → Value}
theorem qfu : ∀ (l:Ann) (σ:lden l) (s:St),s.next≤(putLoop l σ s).next
 | [],_,_=>Nat.le_refl _
 | (d,.sc t) :: r,σ,s=>qfu r σ.2 { s with tmps:=setT s.tmps d (.val t σ.1) }
 | (d,.rows t) :: r,σ,s=>Nat.le_trans (Nat.le_succ _) (qfu r σ.2 { s with tmps:=setT s.tmps d (.rows s.next t),heap:=(s.next,some (.row t σ.1)) :: s.heap,next:=s.next+1 })
 | (d,.mrows t) :: r,σ,s=>by
  simp only [putLoop]
  split
  ·rename_i b _ _
   exact qfu r σ.2 { s with heap:=(b,some (.row t σ.1)) :: s.heap }
  ·exact qfu r σ.2 s
 | (d,.box sh) :: r,σ,s=>by
  simp only [putLoop]
  split
  ·rename_i b _ _
   exact Nat.le_trans (qbm sh σ.1 s.next) (qfu r σ.2 { s with heap:=(b,some (.box sh.ty (putSh sh σ.1 s.next).1)) :: (putSh sh σ.1 s.next).2.1++s.heap,next:=(putSh sh σ.1 s.next).2.2 })
  ·exact qfu r σ.2 s
theorem qdh : ∀ (l:Ann) (σ:lden l) (s:St),(putLoop l σ s).tmps.length=s.tmps.length
 | [],_,_=>rfl
 | (d,.sc t) :: r,σ,s=>(qdh r σ.2 { s with tmps:=setT s.tmps d (.val t σ.1) }).trans (qfg _ _ _)
 | (d,.rows t) :: r,σ,s=>(qdh r σ.2 { s with tmps:=setT s.tmps d (.rows s.next t),heap:=(s.next,some (.row t σ.1)) :: s.heap,next:=s.next+1 }).trans (qfg _ _ _)
 | (d,.mrows t) :: r,σ,s=>by
  simp only [putLoop]
  split
  ·rename_i b _ _
   exact qdh r σ.2 { s with heap:=(b,some (.row t σ.1)) :: s.heap }
  ·exact qdh r σ.2 s
 | (d,.box sh) :: r,σ,s=>by
  simp only [putLoop]
  split
  ·rename_i b _ _
   exact qdh r σ.2 { s with heap:=(b,some (.box sh.ty (putSh sh σ.1 s.next).1)) :: (putSh sh σ.1 s.next).2.1++s.heap,next:=(putSh sh σ.1 s.next).2.2 }
  ·exact qdh r σ.2 s
theorem qez : ∀ (l:Ann) (σ:lden l) (s:St),(putLoop l σ s).dirty=s.dirty
 | [],_,_=>rfl
 | (d,.sc t) :: r,σ,s=>qez r σ.2 { s with tmps:=setT s.tmps d (.val t σ.1) }
 | (d,.rows t) :: r,σ,s=>qez r σ.2 { s with tmps:=setT s.tmps d (.rows s.next t),heap:=(s.next,some (.row t σ.1)) :: s.heap,next:=s.next+1 }
 | (d,.mrows t) :: r,σ,s=>by
  simp only [putLoop]
  split
  ·rename_i b _ _
   exact qez r σ.2 { s with heap:=(b,some (.row t σ.1)) :: s.heap }
  ·exact qez r σ.2 s
 | (d,.box sh) :: r,σ,s=>by
  simp only [putLoop]
  split
  ·rename_i b _ _
   exact qez r σ.2 { s with heap:=(b,some (.box sh.ty (putSh sh σ.1 s.next).1)) :: (putSh sh σ.1 s.next).2.1++s.heap,next:=(putSh sh σ.1 s.next).2.2 }
  ·exact qez r σ.2 s
theorem qxa {l:Tmps} {d:Nat} (h:¬ d<l.length):getT l d = .undef:=by
 unfold getT
 rw [qq7,show decide (d<l.n)=false from by simpa [Tmps.length] using h]
 rfl
theorem qi6 : ∀ {l:Ann} {σ:lden l} {ks xs O fz:List Nat} {ι:Nat→Inf} {K:Nat→Prop} {H:Heap},TL P F ι K H w l σ tm av ks xs O fz → ∀ b∈xs,∃ x,look H b=some x
 | [],_,_,_,_,_,_,_,_,⟨_,hx,_⟩,b,hb=>by subst hx;simp at hb
 | (_,.sc _) :: _,_,_,_,_,_,_,_,_,⟨_,hr⟩,b,hb=>qi6 hr b hb
 | (_,.rows _) :: _,_,_,_,_,_,_,_,_,⟨_,_,_,_,_,_,_,_,_,_,hr⟩,b,hb=>qi6 hr b hb
 | (_,.mrows _) :: _,_,_,_,_,_,_,_,_,⟨b0,xs',_,_,hl,hx,hr⟩,b,hb=>by
  subst hx
  rcases List.mem_cons.1 hb with h | h
  ·exact ⟨_,h▸hl⟩
  ·exact qi6 hr b h
 | (_,.box _) :: _,_,_,_,_,_,_,_,_,⟨b0,_,_,_,_,_,_,_,_,_,_,_,⟨_,hl⟩,_,_,_,_,_,_,_,_,hx,_,_,hr⟩,b,hb=>by
  subst hx
  rcases List.mem_cons.1 hb with h | h
  ·exact ⟨_,h▸hl⟩
  ·exact qi6 hr b h
theorem BlkR.row_of {ι ι2:Nat→Inf} {K K2:Nat→Prop} {S:Nat→Prop} {i:Inf} {t:Ty} {xs:List t.den} (h:BlkR P ι K w S i (.row t xs)) (hT : ∀ c,S c→T c):BlkR P ι2 K2 w T i (.row t xs) :=
 h.imp id fun ⟨room,cs,e,vs,hk,hb,h1,h2,h3,h4⟩=>⟨room,cs,e,vs,hk,hb,h1,h2,RepList.mono (fun _ _=>Rep.mono fun c hc=>⟨hT c hc,rfl⟩) h3,h4⟩
theorem qals {ι ι2:Nat→Inf} {K K2:Nat→Prop} {S S2:Nat→Prop} {b:Nat} {t:Ty} {x:Value} (h:AVR P ι K w S (.rows b t) x) (hK:K2 b) (hi:ι2 b=ι b):AVR P ι2 K2 w S2 (.rows b t) x:=by
 obtain ⟨cs,hc,hv⟩:=h
 refine ⟨cs,?_,hv⟩
 simp only [AVC] at hc ⊢
 rw [hi]
 exact ⟨hK,hc.2⟩
theorem qanp {ι ι2:Nat→Inf} {K K2:Nat→Prop} {S S2:Nat→Prop} {b:Nat} {p:List PS} {t:Ty} {x:Value} (h:AVR P ι K w S (.ptr b p t) x) (hK:K2 b) (hi:ι2 b=ι b):AVR P ι2 K2 w S2 (.ptr b p t) x:=by
 obtain ⟨cs,hc,hv⟩:=h
 refine ⟨cs,?_,hv⟩
 simp only [AVC] at hc ⊢
 rw [hi]
 exact ⟨hK,hc.2⟩
structure Put (P:Program) (F:Fr) (ι ι':Nat→Inf) (K K':Nat→Prop) (s s':St) (w:World) (T:Nat→Prop) (O:List Nat) (X:Nat→Prop):Prop where
 inv:InvR P F ι' K' s'.heap w T
 known : ∀ b,K b→K' b∧ι' b=ι b
 news : ∀ b,K' b→K b∨s.next≤b
 under : ∀ b,K' b→b<s'.next
 own : ∀ c,Own ι' s'.heap c→Own ι s.heap c∨c∈O∨X c
def XP (ι':Nat→Inf) (xs:List Nat) (c:Nat):Prop:=∃ b∈xs,(ι' b).kind.real=true∧(ι' b).c=c
theorem qm4 (hI':Inv P F ι' K' H' w) : ∀ {l:Ann} {σ:lden l} {ks xs O fz:List Nat} {s:St} {ι:Nat→Inf} {K:Nat→Prop},TL P F ι' K' H' w l σ tm av ks xs O fz→InvR P F ι K s.heap w T→(∀ c,RegX F ι' H' w fz c→T c) →
  (∀ c∈O,¬ Own ι s.heap c∧(F.O0 c∨F.w0.heap.size≤c))→O.Nodup→(∀ b∈xs,K b∧ι b=ι' b∧look s.heap b=none∧((ι' b).kind.real=true→¬ Own ι s.heap (ι' b).c∧(ι' b).c∉O))→xs.Nodup →
  (∀ b,K b→b<s.next)→(l.map (·.1)).Nodup→(∀ p∈l,p.2.stays=true→getT s.tmps p.1=getT tm p.1)→(∀ d,d∉l.map (·.1)→AVR P ι K w T (getT s.tmps d) (av d)) →
  ∃ ι2 K2,Put P F ι ι2 K K2 s (putLoop l σ s) w T O (XP ι' xs) ∧ ∀ d,AVR P ι2 K2 w T (getT (putLoop l σ s).tmps d) (av d)
 | [],σ,ks,xs,O,fz,s,ι,K,⟨_,hx,_⟩,hI,hT,hO,hOn,hX,hxn,hK,hnd,hst,hsl =>
  ⟨ι,K,⟨hI,fun b hb=>⟨hb,rfl⟩,fun b hb => .inl hb,hK,fun c hc => .inl hc⟩,fun d=>hsl d (by simp)⟩
 | (d,.sc t) :: r,σ,ks,xs,O,fz,s,ι,K,⟨hv,hr⟩,hI,hT,hO,hOn,hX,hxn,hK,hnd,hst,hsl=>by
  obtain ⟨hd,hnd⟩:=List.nodup_cons.1 hnd
  refine Exists.elim (qm4 hI' (s:={ s with tmps:=setT s.tmps d (.val t σ.1) }) hr hI hT hO hOn hX hxn hK hnd (fun p hp hs => ?_) (fun e he => ?_)) fun ι2 hmain => ?main
  case main =>
   obtain ⟨K2,hp,hs2⟩:=hmain
   exact ⟨ι2,K2,⟨hp.inv,hp.known,hp.news,hp.under,hp.own⟩,hs2⟩
  ·rw [← hst p (List.mem_cons_of_mem _ hp) hs]
   show getT (setT s.tmps d _) p.1=_
   rw [qbs,if_neg (fun h:p.1=d∧_=>hd (List.mem_map.2 ⟨p,hp,h.1⟩))]
  ·show AVR P ι K w T (getT (setT s.tmps d _) e) (av e)
   rw [qbs]
   split
   ·rename_i h;obtain ⟨rfl,_⟩:=h
    exact qaf.2 (hv.mono fun c hc=>⟨hT c (.inl hc),rfl⟩)
   ·rename_i h
    by_cases hde:e=d
    ·subst hde
     have:getT s.tmps e = .undef:=by
      have hge:¬ e<s.tmps.length:=fun hlt=>h ⟨rfl,hlt⟩
      exact qxa hge
     rw [this]
     exact ⟨[av e],by unfold AVC;exact ⟨_,rfl⟩,rfl⟩
    ·exact hsl e (by simp [hde,he])
 | (d,.rows t) :: r,σ,ks,xs,O,fz,s,ι,K,⟨cs,ts,O1,ks',O',hval,hsh,hpl,hks,hOe,hr⟩,hI,hT,hO,hOn,hX,hxn,hK,hnd,hst,hsl=>by
  subst hOe
  obtain ⟨hd,hnd⟩:=List.nodup_cons.1 hnd
  obtain ⟨hO1n,hO2n,hdis⟩:=List.nodup_append.1 hOn
  have hmn:(putSh (.rows t) σ.1 s.next).2.2=s.next+1:=rfl
  obtain ⟨ι1,K1,L1,hv1,_⟩:=qg5 (s:=.rows t) (y:=σ.1) (n:=s.next) hI (hsh.mono (fun c hc=>⟨hT c (.inl hc),rfl⟩) (fun _ _=>rfl)) (fun c hc=>hO c (by simp [hc])) hO1n (fun b h1 _ hk=>by have:=hK b hk;omega)
  have hks1 : ∀ b,K1 b→b<s.next+1:=fun b hb=>by
   rcases L1.news b hb with h | h
   ·have:=hK b h;omega
   ·omega
  refine Exists.elim (qm4 hI' (s:={ s with tmps:=setT s.tmps d (.rows s.next t),heap:=(s.next,some (.row t σ.1)) :: s.heap,next:=s.next+1 }) (ι:=ι1) (K:=K1) hr L1.inv hT (fun c hc=>⟨fun ho => ?_,(hO c (by simp [hc])).2⟩) hO2n
   (fun b hb => ?_) hxn hks1 hnd (fun p hp hs => ?_) (fun e he => ?_)) fun ι2 hmain => ?main
  case main =>
   obtain ⟨K2,hp,hs2⟩:=hmain
   refine ⟨ι2,K2,⟨hp.inv,fun b hb=>⟨(hp.known b (L1.known b hb).1).1,(hp.known b (L1.known b hb).1).2.trans (L1.known b hb).2⟩,fun b hb => ?_,hp.under,fun c hc => ?_⟩,hs2⟩
   ·rcases hp.news b hb with h | h
    ·rcases L1.news b h with h | h
     ·exact .inl h
     ·exact .inr h.1
    ·have h:s.next+1≤b:=h
     exact .inr (by omega)
   ·rcases hp.own c hc with h | h | h
    ·rcases L1.own c h with h | h
     ·exact .inl h
     ·exact .inr (.inl (by simp [h]))
    ·exact .inr (.inl (by simp [h]))
    ·exact .inr (.inr h)
  ·rcases L1.own c ho with h | h
   ·exact (hO c (by simp [hc])).1 h
   ·exact hdis c h c hc rfl
  ·obtain ⟨h1,h2,h3,h4⟩:=hX b hb
   refine ⟨(L1.known b h1).1,(L1.known b h1).2.trans h2,?_,fun hr=>⟨fun ho => ?_,fun hc=>(h4 hr).2 (by simp [hc])⟩⟩
   ·show look ((s.next,_) :: s.heap) b=none
    rw [qa1,if_neg (by have:=hK b h1;omega)]
    exact h3
   ·rcases L1.own _ ho with h | h
    ·exact (h4 hr).1 h
    ·exact (h4 hr).2 (by simp [h])
  ·rw [← hst p (List.mem_cons_of_mem _ hp) hs]
   show getT (setT s.tmps d _) p.1=_
   rw [qbs,if_neg (fun h:p.1=d∧_=>hd (List.mem_map.2 ⟨p,hp,h.1⟩))]
  ·show AVR P ι1 K1 w T (getT (setT s.tmps d _) e) (av e)
   rw [qbs]
   split
   ·rename_i h;obtain ⟨rfl,_⟩:=h
    exact ⟨cs,hv1,hval⟩
   ·rename_i h
    by_cases hde:e=d
    ·subst hde
     have:getT s.tmps e = .undef:=qxa fun hlt=>h ⟨rfl,hlt⟩
     rw [this]
     exact ⟨[av e],by unfold AVC;exact ⟨_,rfl⟩,rfl⟩
    ·exact (hsl e (by simp [hde,he])).mono L1.known (fun c hc=>⟨hc,rfl⟩) (Nat.le_refl _)
 | (d,.mrows t) :: r,σ,ks,xs,O,fz,s,ι,K,⟨b0,xs',hb0,hav,hlk,hxs,hr⟩,hI,hT,hO,hOn,hX,hxn,hK,hnd,hst,hsl=>by
  subst hxs
  obtain ⟨hd,hnd⟩:=List.nodup_cons.1 hnd
  obtain ⟨hx0,hxn⟩:=List.nodup_cons.1 hxn
  have g1:getT s.tmps d = .rows b0 t:=(hst (d,.mrows t) List.mem_cons_self rfl).trans hb0
  obtain ⟨hk0,hi0,hl0,hr0⟩:=hX b0 List.mem_cons_self
  obtain ⟨i1,i2,i3⟩:=hI.add hl0 (ι' b0) (.inr hi0) (.row t σ.1) ((hI'.blks b0 _ hlk).row_of fun c hc=>hT c (.inl hc)) (fun hr=>⟨(hr0 hr).1,hI'.mine b0 _ hlk hr⟩) (fun hr j hj hl=>hI'.cover b0 _ hlk hr hl j hj)
  simp only [putLoop,g1]
  have hsame:upd ι b0 (ι' b0) b0=ι' b0:=by simp [upd]
  refine Exists.elim (qm4 hI' (s:={ s with heap:=(b0,some (.row t σ.1)) :: s.heap }) hr i1 hT (fun c hc=>⟨fun ho => ?_,(hO c hc).2⟩) hOn
   (fun b hb => ?_) hxn (fun b hb => ?_) hnd (fun p hp hs=>hst p (List.mem_cons_of_mem _ hp) hs) (fun e he => ?_)) fun ι2 hmain => ?main
  case main =>
   obtain ⟨K2,hp,hs2⟩:=hmain
   refine ⟨ι2,K2,⟨hp.inv,fun b hb=>⟨(hp.known b (i2 b hb).1).1,(hp.known b (i2 b hb).1).2.trans (i2 b hb).2⟩,fun b hb => ?_,hp.under,fun c hc => ?_⟩,hs2⟩
   ·rcases hp.news b hb with (h | h) | h
    ·exact .inl h
    ·exact .inl (h▸hk0)
    ·exact .inr h
   ·rcases hp.own c hc with h | h | ⟨b,hb,h⟩
    ·rcases i3 c h with h | ⟨h1,h2⟩
     ·exact .inl h
     ·exact .inr (.inr ⟨b0,List.mem_cons_self,h1,h2.symm⟩)
    ·exact .inr (.inl h)
    ·exact .inr (.inr ⟨b,List.mem_cons_of_mem _ hb,h⟩)
  ·rcases i3 c ho with h | ⟨h1,h2⟩
   ·exact (hO c hc).1 h
   ·exact (hr0 h1).2 (h2▸hc)
  ·obtain ⟨h1,h2,h3,h4⟩:=hX b (List.mem_cons_of_mem _ hb)
   have hne:b≠b0:=fun e=>hx0 (e▸hb)
   refine ⟨.inl h1,(i2 b h1).2.trans h2,?_,fun hre=>⟨fun ho => ?_,(h4 hre).2⟩⟩
   ·show look ((b0,_) :: s.heap) b=none
    rw [qa1,if_neg hne]
    exact h3
   ·rcases i3 _ ho with h | ⟨h5,h6⟩
    ·exact (h4 hre).1 h
    ·obtain ⟨y,hy⟩:=qi6 hr b hb
     exact hne (hI'.inj b b0 _ _ hy hlk hre h5 h6)
  ·rcases hb with h | h
   ·exact hK b h
   ·exact h▸hK b0 hk0
  ·by_cases hde:e=d
   ·subst hde
    rw [g1]
    exact qals hav (.inr rfl) hsame
   ·exact (hsl e (by simp [hde,he])).mono i2 (fun c hc=>⟨hc,rfl⟩) (Nat.le_refl _)
 | (d,.box sh) :: r,σ,ks,xs,O,fz,s,ι,K,⟨b0,cells,e0,ts,O1,fz1,ks',xs',O',fz',hb0,hav,⟨c0,hlk⟩,hkind,hd0,hcl,hlen,hone,hsh,hpl,hks,hxs,hOe,hfe,hr⟩,hI,hT,hO,hOn,hX,hxn,hK,hnd,hst,hsl=>by
  subst hxs hOe hfe
  obtain ⟨hd,hnd⟩:=List.nodup_cons.1 hnd
  obtain ⟨hx0,hxn⟩:=List.nodup_cons.1 hxn
  obtain ⟨hO1n,hO2n,hdis⟩:=List.nodup_append.1 hOn
  have g1:getT s.tmps d = .ptr b0 [] sh.ty:=(hst (d,.box sh) List.mem_cons_self rfl).trans hb0
  obtain ⟨hk0,hi0,hl0,hr0⟩:=hX b0 List.mem_cons_self
  have hreal:(ι' b0).kind.real=true:=by rw [hkind];rfl
  have hle:=qbm sh σ.1 s.next
  obtain ⟨ι1,K1,L1,hv1,hf1⟩:=qg5 (n:=s.next) hI (hsh.mono (fun c hc=>⟨hT c (hc.sub fun b hb=>List.mem_append_left _ hb),rfl⟩) (fun _ _=>rfl)) (fun c hc=>hO c (by simp [hc])) hO1n (fun b h1 _ hk=>by have:=hK b hk;omega)
  have hlk1:look ((putSh sh σ.1 s.next).2.1++s.heap) b0=none:=by
   rw [qgm (fun hm => ?_)]
   ·exact hl0
   ·have:=qik sh σ.1 s.next b0 hm
    have:=hK b0 hk0
    omega
  have hi1:ι1 b0=ι' b0:=(L1.known b0 hk0).2.trans hi0
  have hown1:¬ Own ι1 ((putSh sh σ.1 s.next).2.1++s.heap) (ι' b0).c:=fun ho=>by
   rcases L1.own _ ho with h | h
   ·exact (hr0 hreal).1 h
   ·exact (hr0 hreal).2 (by simp [h])
  obtain ⟨i1,i2,i3⟩:=L1.inv.add hlk1 (ι' b0) (.inr hi1) (.box sh.ty (putSh sh σ.1 s.next).1) ⟨hkind,hd0,cells,e0,hcl,hv1.known (fun d hd=>⟨.inl hd,by unfold upd;split <;> simp_all⟩),hlen,hone.put _ _,hf1⟩ (fun hre=>⟨hown1,hI'.mine b0 _ hlk hre⟩) (fun hr j hj hl=>hI'.cover b0 _ hlk hr hl j hj)
  simp only [putLoop,g1]
  have hsame:upd ι1 b0 (ι' b0) b0=ι' b0:=by simp [upd]
  refine Exists.elim (qm4 hI' (s:={ s with heap:=(b0,some (.box sh.ty (putSh sh σ.1 s.next).1)) :: ((putSh sh σ.1 s.next).2.1++s.heap),next:=(putSh sh σ.1 s.next).2.2 }) hr i1 (fun c hc=>hT c (hc.sub fun b hb=>List.mem_append_right _ hb)) (fun c hc=>⟨fun ho => ?_,(hO c (by simp [hc])).2⟩) hO2n
   (fun b hb => ?_) hxn (fun b hb => ?_) hnd (fun p hp hs=>hst p (List.mem_cons_of_mem _ hp) hs) (fun e he => ?_)) fun ι2 hmain => ?main
  case main =>
   obtain ⟨K2,hp,hs2⟩:=hmain
   refine ⟨ι2,K2,⟨hp.inv,fun b hb=>⟨(hp.known b (i2 b (L1.known b hb).1).1).1,(hp.known b (i2 b (L1.known b hb).1).1).2.trans ((i2 b (L1.known b hb).1).2.trans (L1.known b hb).2)⟩,fun b hb => ?_,hp.under,fun c hc => ?_⟩,hs2⟩
   ·rcases hp.news b hb with (h | h) | h
    ·rcases L1.news b h with h | h
     ·exact .inl h
     ·exact .inr h.1
    ·exact .inl (h▸hk0)
    ·have h:(putSh sh σ.1 s.next).2.2≤b:=h
     exact .inr (by omega)
   ·rcases hp.own c hc with h | h | ⟨b,hb,h⟩
    ·rcases i3 c h with h | ⟨h1,h2⟩
     ·rcases L1.own c h with h | h
      ·exact .inl h
      ·exact .inr (.inl (by simp [h]))
     ·exact .inr (.inr ⟨b0,List.mem_cons_self,h1,h2.symm⟩)
    ·exact .inr (.inl (by simp [h]))
    ·exact .inr (.inr ⟨b,List.mem_cons_of_mem _ hb,h⟩)
  ·rcases i3 c ho with h | ⟨h1,h2⟩
   ·rcases L1.own c h with h | h
    ·exact (hO c (by simp [hc])).1 h
    ·exact hdis c h c hc rfl
   ·exact (hr0 h1).2 (h2▸by simp [hc])
  ·obtain ⟨h1,h2,h3,h4⟩:=hX b (List.mem_cons_of_mem _ hb)
   have hne:b≠b0:=fun e=>hx0 (e▸hb)
   refine ⟨.inl (L1.known b h1).1,(i2 b (L1.known b h1).1).2.trans ((L1.known b h1).2.trans h2),?_,fun hre=>⟨fun ho => ?_,fun hc=>(h4 hre).2 (by simp [hc])⟩⟩
   ·show look ((b0,_) :: ((putSh sh σ.1 s.next).2.1++s.heap)) b=none
    rw [qa1,if_neg hne,qgm (fun hm => ?_)]
    ·exact h3
    ·have:=qik sh σ.1 s.next b hm
     have:=hK b h1
     omega
   ·rcases i3 _ ho with h | ⟨h5,h6⟩
    ·rcases L1.own _ h with h | h
     ·exact (h4 hre).1 h
     ·exact (h4 hre).2 (by simp [h])
    ·obtain ⟨y,hy⟩:=qi6 hr b hb
     exact hne (hI'.inj b b0 _ _ hy hlk hre h5 h6)
  ·show b<(putSh sh σ.1 s.next).2.2
   rcases hb with h | h
   ·rcases L1.news b h with h | h
    ·have:=hK b h;omega
    ·exact h.2
   ·subst h;have:=hK b hk0;omega
  ·by_cases hde:e=d
   ·subst hde
    rw [g1]
    exact qanp hav (.inr rfl) hsame
   ·exact ((hsl e (by simp [hde,he])).mono L1.known (fun c hc=>⟨hc,rfl⟩) (Nat.le_refl _)).mono i2 (fun c hc=>⟨hc,rfl⟩) (Nat.le_refl _)
end
end Go.Tm
namespace Go.Tm
open Go
theorem qk2 : ∀ (ds:List Nat) (l:Tmps) (keep:List Nat) (d:Nat),(d∈ds→d∈keep)→getT (undefs l keep ds) d=getT l d
 | [],_,_,_,_=>rfl
 | e :: ds,l,keep,d,h=>by
  unfold undefs
  rw [qk2 ds _ keep d fun hd=>h (List.mem_cons_of_mem _ hd)]
  cases hm:memN keep e with
  | true=>rfl
  | false =>
   show getT (setT l e .undef) d=_
   rw [qbs,if_neg (fun hc:d=e∧_ => ?_)]
   have:=qew.2 (h (hc.1▸List.mem_cons_self))
   rw [hc.1,hm] at this
   exact Bool.noConfusion this
theorem qrb : ∀ (ds:List Nat) (l:Tmps) (keep:List Nat) (d:Nat),d∉keep→(d∈ds∨getT l d = .undef)→getT (undefs l keep ds) d = .undef
 | [],_,_,_,_,h=>h.elim (fun h=>by simp at h) id
 | e :: ds,l,keep,d,hk,h=>by
  unfold undefs
  refine qrb ds _ keep d hk ?_
  by_cases hd:d∈ds
  ·exact .inl hd
  ·refine .inr ?_
   by_cases he:d=e
   ·subst he
    have:memN keep d=false:=by cases hm:memN keep d with | false=>rfl | true=>exact absurd (qew.1 hm) hk
    rw [this]
    show getT (setT l d .undef) d=_
    rw [qbs]
    split
    ·rfl
    ·rename_i hc
     exact qxa fun hlt=>hc ⟨rfl,hlt⟩
   ·have h0:getT l d = .undef:=by
     rcases h with h | h
     ·rcases List.mem_cons.1 h with h | h
      ·exact absurd h he
      ·exact absurd h hd
     ·exact h
    cases memN keep e with
    | true=>exact h0
    | false =>
     show getT (setT l e .undef) d=_
     rw [qbs,if_neg (fun hc:d=e∧_=>he hc.1)]
     exact h0
theorem qp7 : ∀ (ds:List Nat) (l:Tmps) (keep:List Nat),(undefs l keep ds).length=l.length
 | [],_,_=>rfl
 | e :: ds,l,keep=>by
  unfold undefs
  rw [qp7 ds]
  cases memN keep e with
  | true=>rfl
  | false=>exact qfg _ _ _
section
variable {P : Program} {F : Fr} {ι ι0 ι' : Nat → Inf} {K K0 K' : Nat → Prop} {H H' : Heap} {w w0 w' : World} {tm : Tmps} {av : Nat → Value} {S S0 S' : Nat → Prop}
theorem qya : ∀ {l:Ann} {σ:lden l} {ks xs O fz:List Nat},TL P F ι K H w l σ tm av ks xs O fz→Pls (Pl ι H) ks O fz
 | [],_,_,_,_,_,⟨h1,_,h2,h3⟩=>by subst h1 h2 h3;exact .nil
 | (_,.sc _) :: _,_,_,_,_,_,⟨_,hr⟩=>qya hr
 | (_,.rows _) :: _,_,_,_,_,_,⟨_,_,_,_,_,_,_,hp,hk,hO,hr⟩=>by
  subst hk hO
  exact hp.append (qya hr)
 | (_,.mrows _) :: _,_,_,_,_,_,⟨_,_,_,_,_,_,hr⟩=>qya hr
 | (_,.box _) :: _,_,_,_,_,_,⟨_,_,_,_,_,_,_,_,_,_,_,_,_,_,_,_,_,_,_,hp,hk,_,hO,hf,hr⟩=>by
  subst hk hO hf
  exact hp.append (qya hr)
theorem qow {tm':Tmps} {av':Nat→Value} : ∀ {l:Ann} {σ σ':lden l} {ks ks' xs O fz O' fz':List Nat},TL P F ι K H w l σ tm av ks xs O fz→TL P F ι' K' H' w' l σ' tm' av' ks' xs O' fz' → ∀ p∈l,p.2.stays=true→getT tm p.1=getT tm' p.1
 | [],_,_,_,_,_,_,_,_,_,_,_,p,hp,_=>by simp at hp
 | (_,.sc _) :: _,_,_,_,_,_,_,_,_,_,⟨_,hr⟩,⟨_,hr'⟩,p,hp,hs=>by
  rcases List.mem_cons.1 hp with e | hp
  ·subst e;simp [LK.stays] at hs
  ·exact qow hr hr' p hp hs
 | (_,.rows _) :: _,_,_,_,_,_,_,_,_,_,⟨_,_,_,_,_,_,_,_,_,_,hr⟩,⟨_,_,_,_,_,_,_,_,_,_,hr'⟩,p,hp,hs=>by
  rcases List.mem_cons.1 hp with e | hp
  ·subst e;simp [LK.stays] at hs
  ·exact qow hr hr' p hp hs
 | (_,.mrows _) :: _,_,_,_,_,_,_,_,_,_,⟨b,xs1,h1,_,_,h2,hr⟩,⟨b',xs1',h1',_,_,h2',hr'⟩,p,hp,hs=>by
  rw [h2] at h2'
  obtain ⟨e1,e2⟩:=List.cons.inj h2'
  subst e1 e2
  rcases List.mem_cons.1 hp with e | hp
  ·subst e;exact h1.trans h1'.symm
  ·exact qow hr hr' p hp hs
 | (_,.box _) :: _,_,_,_,_,_,_,_,_,_,⟨b,_,_,_,_,_,_,xs1,_,_,h1,_,_,_,_,_,_,_,_,_,_,h2,_,_,hr⟩,⟨b',_,_,_,_,_,_,xs1',_,_,h1',_,_,_,_,_,_,_,_,_,_,h2',_,_,hr'⟩,p,hp,hs=>by
  rw [h2] at h2'
  obtain ⟨e1,e2⟩:=List.cons.inj h2'
  subst e1 e2
  rcases List.mem_cons.1 hp with e | hp
  ·subst e;exact h1.trans h1'.symm
  ·exact qow hr hr' p hp hs
theorem qfv : ∀ (l:Ann) (σ:lden l) (s:St) (d:Nat),(∀ p∈l,p.2.stays=false→p.1≠d)→getT (putLoop l σ s).tmps d=getT s.tmps d
 | [],_,_,_,_=>rfl
 | (e,.sc t) :: r,σ,s,d,h=>by
  refine (qfv r σ.2 { s with tmps:=setT s.tmps e (.val t σ.1) } d fun p hp=>h p (List.mem_cons_of_mem _ hp)).trans ?_
  show getT (setT s.tmps e _) d=_
  rw [qbs,if_neg (fun hc:d=e∧_=>h (e,.sc t) List.mem_cons_self rfl hc.1.symm)]
 | (e,.rows t) :: r,σ,s,d,h=>by
  refine (qfv r σ.2 { s with tmps:=setT s.tmps e (.rows s.next t),heap:=(s.next,some (.row t σ.1)) :: s.heap,next:=s.next+1 } d fun p hp=>h p (List.mem_cons_of_mem _ hp)).trans ?_
  show getT (setT s.tmps e _) d=_
  rw [qbs,if_neg (fun hc:d=e∧_=>h (e,.rows t) List.mem_cons_self rfl hc.1.symm)]
 | (e,.mrows t) :: r,σ,s,d,h=>by
  simp only [putLoop]
  split
  ·exact qfv r σ.2 { s with heap:=_ } d fun p hp=>h p (List.mem_cons_of_mem _ hp)
  ·exact qfv r σ.2 s d fun p hp=>h p (List.mem_cons_of_mem _ hp)
 | (e,.box sh) :: r,σ,s,d,h=>by
  simp only [putLoop]
  split
  ·exact qfv r σ.2 { s with heap:=_,next:=(putSh sh σ.1 s.next).2.2 } d fun p hp=>h p (List.mem_cons_of_mem _ hp)
  ·exact qfv r σ.2 s d fun p hp=>h p (List.mem_cons_of_mem _ hp)
theorem qjz : ∀ {l:Ann} {σ σ':lden l} {ks xs O fz:List Nat} {s:St} {b:Nat},TL P F ι' K' H' w l σ' tm av ks xs O fz→(l.map (·.1)).Nodup→(∀ p∈l,p.2.stays=true→getT s.tmps p.1=getT tm p.1)→b<s.next→b∉xs→look (putLoop l σ s).heap b=look s.heap b
 | [],_,_,_,_,_,_,_,_,_,_,_,_,_=>rfl
 | (d,.sc t) :: r,σ,σ',ks,xs,O,fz,s,b,⟨_,hr⟩,hnd,hst,hb,hx=>by
  obtain ⟨hd,hnd⟩:=List.nodup_cons.1 hnd
  refine qjz (s:={ s with tmps:=setT s.tmps d (.val t σ.1) }) hr hnd (fun p hp hs => ?_) hb hx
  rw [← hst p (List.mem_cons_of_mem _ hp) hs]
  show getT (setT s.tmps d _) p.1=_
  rw [qbs,if_neg (fun h:p.1=d∧_=>hd (List.mem_map.2 ⟨p,hp,h.1⟩))]
 | (d,.rows t) :: r,σ,σ',ks,xs,O,fz,s,b,⟨_,_,_,_,_,_,_,_,_,_,hr⟩,hnd,hst,hb,hx=>by
  obtain ⟨hd,hnd⟩:=List.nodup_cons.1 hnd
  refine (qjz (s:={ s with tmps:=setT s.tmps d (.rows s.next t),heap:=(s.next,some (.row t σ.1)) :: s.heap,next:=s.next+1 }) hr hnd (fun p hp hs => ?_) (Nat.lt_succ_of_lt hb) hx).trans ?_
  ·rw [← hst p (List.mem_cons_of_mem _ hp) hs]
   show getT (setT s.tmps d _) p.1=_
   rw [qbs,if_neg (fun h:p.1=d∧_=>hd (List.mem_map.2 ⟨p,hp,h.1⟩))]
  ·show look ((s.next,_) :: s.heap) b=_
   rw [qa1,if_neg (by omega)]
 | (d,.mrows t) :: r,σ,σ',ks,xs,O,fz,s,b,⟨b0,xs',hb0,_,_,hxs,hr⟩,hnd,hst,hb,hx=>by
  subst hxs
  obtain ⟨hd,hnd⟩:=List.nodup_cons.1 hnd
  have g1:getT s.tmps d = .rows b0 t:=(hst (d,.mrows t) List.mem_cons_self rfl).trans hb0
  simp only [putLoop,g1]
  refine (qjz (s:={ s with heap:=(b0,some (.row t σ.1)) :: s.heap }) hr hnd (fun p hp hs=>hst p (List.mem_cons_of_mem _ hp) hs) hb (fun h=>hx (List.mem_cons_of_mem _ h))).trans ?_
  show look ((b0,_) :: s.heap) b=_
  rw [qa1,if_neg (fun h:b=b0=>hx (h▸List.mem_cons_self))]
 | (d,.box sh) :: r,σ,σ',ks,xs,O,fz,s,b,⟨b0,_,_,_,_,_,_,xs',_,_,hb0,_,_,_,_,_,_,_,_,_,_,hxs,_,_,hr⟩,hnd,hst,hb,hx=>by
  subst hxs
  obtain ⟨hd,hnd⟩:=List.nodup_cons.1 hnd
  have g1:getT s.tmps d = .ptr b0 [] sh.ty:=(hst (d,.box sh) List.mem_cons_self rfl).trans hb0
  have hle:=qbm sh σ.1 s.next
  simp only [putLoop,g1]
  refine (qjz (s:={ s with heap:=(b0,some (.box sh.ty (putSh sh σ.1 s.next).1)) :: ((putSh sh σ.1 s.next).2.1++s.heap),next:=(putSh sh σ.1 s.next).2.2 }) hr hnd (fun p hp hs=>hst p (List.mem_cons_of_mem _ hp) hs) (Nat.lt_of_lt_of_le hb hle) (fun h=>hx (List.mem_cons_of_mem _ h))).trans ?_
  show look ((b0,_) :: ((putSh sh σ.1 s.next).2.1++s.heap)) b=_
  have hkey:b∉keys (putSh sh σ.1 s.next).2.1:=fun hm=>by
   have:=qik sh σ.1 s.next b hm
   omega
  rw [qa1,if_neg (fun h:b=b0=>hx (h▸List.mem_cons_self)),qgm hkey]
mutual
theorem AVC.back (hk : ∀ b,K0 b→ι' b=ι0 b) : ∀ {v:AV} {cs0 cs:List Value},AVC P ι0 K0 w0 S0 v cs0→AVC P ι' K' w' S' v cs→AVC P ι0 K0 w' S' v cs
 | .undef,_,_,_,h=>by simp only [AVC] at h ⊢;exact h
 | .val _ _,_,_,_,h=>by simp only [AVC] at h ⊢;exact h
 | .nilS,_,_,_,h=>by simp only [AVC] at h ⊢;exact h
 | .rows b _,_,_,h0,h=>by simp only [AVC] at h0 h ⊢;rw [hk b h0.1] at h;exact ⟨h0.1,h.2⟩
 | .view b _ _ _ _,_,_,h0,h=>by simp only [AVC] at h0 h ⊢;rw [hk b h0.1] at h;exact ⟨h0.1,h.2⟩
 | .ptr b _ _,_,_,h0,h=>by simp only [AVC] at h0 h ⊢;rw [hk b h0.1] at h;exact ⟨h0.1,h.2⟩
 | .aptr b _ _ _ _,_,_,h0,h=>by simp only [AVC] at h0 h ⊢;rw [hk b h0.1] at h;exact ⟨h0.1,h.2⟩
 | .iptr _ _,_,_,_,h=>by simp only [AVC] at h ⊢;exact h
 | .unit,_,_,_,h=>by simp only [AVC] at h ⊢;exact h
 | .pair a b,_,_,h0,h=>by
  simp only [AVC] at h0 h ⊢
  obtain ⟨_,_,_,ha0,hb0⟩:=h0
  obtain ⟨c,d,e,ha,hb⟩:=h
  exact ⟨c,d,e,AVC.back hk ha0 ha,AVC.back hk hb0 hb⟩
 | .tuple vs,_,_,h0,h=>by
  simp only [AVC] at h0 h ⊢
  obtain ⟨_,_,hv0⟩:=h0
  obtain ⟨xs,e,hv⟩:=h
  exact ⟨xs,e,AVCs.back hk hv0 hv⟩
 | .fn f first caps,_,_,h0,h=>by
  simp only [AVC] at h0 h ⊢
  obtain ⟨_,_,_,h1,h2⟩:=h0
  obtain ⟨xs,ys,e,h3,h4⟩:=h
  exact ⟨xs,ys,e,AVCs.back hk h1 h3,AVCs.back hk h2 h4⟩
 | .fun s g,_,_,_,h=>by simp only [AVC] at h ⊢;exact h
theorem AVCs.back (hk : ∀ b,K0 b→ι' b=ι0 b) : ∀ {vs:List AV} {xs0 xs:List Value},AVCs P ι0 K0 w0 S0 vs xs0→AVCs P ι' K' w' S' vs xs→AVCs P ι0 K0 w' S' vs xs
 | [],_,_,_,h=>by simp only [AVCs] at h ⊢;exact h
 | v :: r,_,_,h0,h=>by
  simp only [AVCs] at h0 h ⊢
  obtain ⟨_,_,_,_,hc0,_,hr0⟩:=h0
  obtain ⟨x,ys,cs,e,hc,hv,hr⟩:=h
  exact ⟨x,ys,cs,e,AVC.back hk hc0 hc,hv,AVCs.back hk hr0 hr⟩
end
theorem BlkR.back {T:Nat→Prop} (hk : ∀ b,K0 b→ι' b=ι0 b) {i:Inf} : ∀ {x:Blk},BlkR P ι0 K0 w0 S0 i x→BlkR P ι' K' w' S' i x→(∀ c,S' c→T c)→BlkR P ι0 K0 w' T i x
 | .box t v,⟨_,_,_,_,_,hv0,_⟩,⟨hk',hd,cs,e,hb,hv,hl,h1,hf⟩,hT=>⟨hk',hd,cs,e,hb,(hv0.back hk hv).mono (fun _ h=>⟨h,rfl⟩) (fun c hc=>⟨hT c hc,rfl⟩) (Nat.le_refl _),hl,h1,hf⟩
 | .row t xs,_,h,hT=>h.row_of hT
theorem qamx {ι:Nat→Inf} {H G:Heap} (h : ∀ b,look H b=look G b) {c:Nat} : Own ι H c↔Own ι G c:=by
 constructor <;> rintro ⟨b,x,h1,h2⟩
 ·exact ⟨b,x,(h b).symm.trans h1,h2⟩
 ·exact ⟨b,x,(h b).trans h1,h2⟩
theorem qaaa {ι:Nat→Inf} {H G:Heap} (h : ∀ b,look H b=look G b) {c:Nat} : Reg F ι H w c↔Reg F ι G w c:=by
 unfold Reg;rw [qamx h]
end
def headSt (s:St) (l:Ann) (ds ks:List Nat):St:={ s with tmps:=undefs s.tmps (l.map (·.1)) ds,heap:=kills ks++s.heap,dirty:=[] }
section
variable {P : Program} {F : Fr} {ι ι' : Nat → Inf} {K K' : Nat → Prop} {s s' : St} {a a' : Act} {w w' : World} {l : Ann} {σ σ' : lden l} {ks ks' xs O O' fz fz' ds : List Nat}
theorem qan5 (hon:On P F ι K s a w) (hK : ∀ b,K b→b<s.next) (htl:TL P F ι K s.heap w l σ s.tmps (fun d=>a.tmps.getD d undef) ks xs O fz) (hnd:(l.map (·.1)).Nodup) (hon':On P F ι' K' s' a' w') (hst:Stp F ι ι' K K' s.heap s'.heap w w')
  (htl':TL P F ι' K' s'.heap w' l σ' s'.tmps (fun d=>a'.tmps.getD d undef) ks' xs O' fz') (hn':(ks'++xs).Nodup) (hlive : ∀ b x,look (kills xs++(kills ks++s.heap)) b=some x→look s'.heap b=some x∧b∉ks')
  (hlen:s'.tmps.length=s.tmps.length) (hvals : ∀ d,d∉l.map (·.1)→d∉ds→a'.tmps.getD d undef=a.tmps.getD d undef) :
  ∃ ι2 K2,On P F ι2 K2 (putLoop l σ' (headSt s l ds ks)) a' w'∧Stp F ι ι2 K K2 s.heap (putLoop l σ' (headSt s l ds ks)).heap w w' ∧ ∀ b,K2 b→b<(putLoop l σ' (headSt s l ds ks)).next:=by
 have hI':=hon'.inv
 obtain ⟨hkn,hxn,hkx⟩:=List.nodup_append.1 hn'
 have hpls:=qya htl'
 have hOn:=hpls.nodup hI'.pl hkn
 have hkeep : ∀ p∈l,getT (headSt s l ds ks).tmps p.1=getT s.tmps p.1:=fun p hp=>qk2 _ _ _ _ fun _=>List.mem_map.2 ⟨p,hp,rfl⟩
 have hstay : ∀ p∈l,p.2.stays=true→getT (headSt s l ds ks).tmps p.1=getT s'.tmps p.1:=fun p hp hs=>(hkeep p hp).trans (qow htl htl' p hp hs)
 have hlk0 : ∀ b x,look (kills xs++(kills ks++s.heap)) b=some x→look s.heap b=some x∧b∉xs∧b∉ks:=by
  intro b x hb
  rw [qa8] at hb
  split at hb
  ·simp at hb
  ·rw [qa8] at hb
   split at hb
   ·simp at hb
   ·exact ⟨hb,by assumption,by assumption⟩
 have hk' : ∀ b,K b→ι' b=ι b:=fun b hb=>(hst.known b hb).2
 let T:Nat→Prop:=RegX F ι' s'.heap w' fz'
 have hT0 : ∀ c,Reg F ι s.heap w c→T c:=fun c hc => .inl (hst.reg c hc).1
 let s2:St:={ headSt s l ds ks with heap:=kills xs++(kills ks++s.heap) }
 have hown0 : ∀ c,Own ι s2.heap c → ∃ b,b∉ks'∧b∉xs∧Pl ι' s'.heap b c:=by
  rintro c ⟨b,x,hb,hr,hc⟩
  obtain ⟨h1,h2,h3⟩:=hlk0 b x hb
  obtain ⟨h4,h5⟩:=hlive b x hb
  have hi:=hk' b (hon.inv.known b x h1)
  exact ⟨b,h5,h2,⟨x,h4⟩,by rw [hi];exact hr,by rw [hi];exact hc⟩
 have hI2:InvR P F ι K s2.heap w' T:=by
  refine ⟨hI'.same,hI'.lent,hI'.keep,fun b x hb=>hon.inv.known b x (hlk0 b x hb).1,fun b x hb => ?_,fun b x hb=>hon.inv.mine b x (hlk0 b x hb).1,fun b b' x x' hb hb'=>hon.inv.inj b b' x x' (hlk0 b x hb).1 (hlk0 b' x' hb').1,hI'.stay,fun b x hb=>hon.inv.cover b x (hlk0 b x hb).1⟩
  obtain ⟨h1,h2,h3⟩:=hlk0 b x hb
  obtain ⟨h4,h5⟩:=hlive b x hb
  have hblk:=hI'.blks b x h4
  rw [hk' b (hon.inv.known b x h1)] at hblk
  exact (hon.inv.blks b x h1).back hk' hblk fun c hc => .inl hc
 refine Exists.elim (qm4 hI' (s:=s2) htl' hI2 (fun c hc=>hc) (fun c hc => ?_) hOn (fun b hb => ?_) hxn hK hnd hstay (fun d hd => ?_)) fun ι2 hmain => ?main
 case main =>
  obtain ⟨K2,hp,hsl⟩:=hmain
  have htwo:=qk7 (s1:=headSt s l ds ks) (s2:=s2) htl' hnd hstay rfl rfl
  obtain ⟨h1,h2,_,h4⟩:=htwo
  have hlook : ∀ b,look (putLoop l σ' (headSt s l ds ks)).heap b=look (putLoop l σ' s2).heap b:=fun b=>h4 b (by
   by_cases hb:b∈xs
   ·exact .inl hb
   ·refine .inr ?_
    show look (kills ks++s.heap) b=look (kills xs++(kills ks++s.heap)) b
    rw [qa8 xs,if_neg hb])
  have hreg : ∀ c,T c→Reg F ι2 (putLoop l σ' s2).heap w' c:=by
   intro c hc
   have hno : ∀ b0,(b0∈fz'∨(∀ x,look s'.heap b0≠some x))→True:=fun _ _=>trivial
   rcases hc with hc | ⟨b,hb,x,hx,hr,e⟩
   ·refine ⟨hc.1,hc.2.1,fun ho=>hc.2.2 ?_⟩
    rcases hp.own c ho with h | h | ⟨b,hb,hr,e⟩
    ·obtain ⟨b,_,_,⟨x,hx⟩,hr,e⟩:=hown0 c h
     exact ⟨b,x,hx,hr,e⟩
    ·obtain ⟨b,_,⟨x,hx⟩,hr,e⟩:=hpls.of c h
     exact ⟨b,x,hx,hr,e⟩
    ·obtain ⟨x,hx⟩:=qi6 htl' b hb
     exact ⟨b,x,hx,hr,e⟩
   ·have hm:=hI'.mine b x hx hr
    have hlt:=hI'.exists hx hr
    rw [e] at hm hlt
    refine ⟨.inr hm,hlt,fun ho => ?_⟩
    have hpl:Pl ι' s'.heap b c:=⟨⟨x,hx⟩,hr,e⟩
    rcases hp.own c ho with h | h | ⟨b2,hb2,hr2,e2⟩
    ·obtain ⟨b2,hn2,_,hpl2⟩:=hown0 c h
     exact hn2 (hI'.pl _ _ c hpl hpl2▸hpls.sub b hb)
    ·obtain ⟨b2,_,hn2,hpl2⟩:=hpls.apart hkn c h
     exact hn2 (hI'.pl _ _ c hpl hpl2▸hb)
    ·obtain ⟨x2,hx2⟩:=qi6 htl' b2 hb2
     have:=hI'.pl _ _ c hpl ⟨⟨x2,hx2⟩,hr2,e2⟩
     exact hkx b (hpls.sub b hb) b2 hb2 this
  have hinv:Inv P F ι2 K2 (putLoop l σ' s2).heap w':=hp.inv.inv hreg
  refine ⟨ι2,K2,⟨(hinv.invR.look hlook).inv fun c hc=>(qaaa hlook).2 hc,⟨?_,fun t => ?_⟩,hon'.none⟩,⟨hp.known,fun c hc => ?_,hst.size⟩,fun b hb => ?_⟩
  ·rw [qdh]
   show (undefs s.tmps _ ds).length=_
   rw [qp7,← hlen]
   exact hon'.slots.1
  ·rw [h1]
   exact (hsl t).mono (fun _ h=>⟨h,rfl⟩) (fun c hc=>⟨(qaaa hlook).2 (hreg c hc),rfl⟩) (Nat.le_refl _)
  ·exact ⟨(qaaa hlook).2 (hreg c (hT0 c hc)),(hst.reg c hc).2⟩
  ·rw [h2];exact hp.under b hb
 ·obtain ⟨b,hb,hpl⟩:=hpls.of c hc
  obtain ⟨⟨x,hx⟩,hr,e⟩:=hpl
  refine ⟨fun ho => ?_,e▸hI'.mine b x hx hr⟩
  obtain ⟨b2,hn2,_,hpl2⟩:=hown0 c ho
  exact hn2 (hI'.pl _ _ c ⟨⟨x,hx⟩,hr,e⟩ hpl2▸hb)
 ·obtain ⟨x,hx⟩:=qi6 htl b hb
  obtain ⟨x',hx'⟩:=qi6 htl' b hb
  have hKb:=hon.inv.known b x hx
  refine ⟨hKb,(hk' b hKb).symm,?_,fun hr=>⟨fun ho => ?_,fun hc => ?_⟩⟩
  ·show look (kills xs++_) b=none
   rw [qa8,if_pos hb]
  ·obtain ⟨b2,_,hn2,hpl2⟩:=hown0 _ ho
   exact hn2 (hI'.pl _ _ _ ⟨⟨x',hx'⟩,hr,rfl⟩ hpl2▸hb)
  ·obtain ⟨b2,hb2,hpl2⟩:=hpls.of _ hc
   exact hkx b2 hb2 b hb (hI'.pl _ _ _ hpl2 ⟨⟨x',hx'⟩,hr,rfl⟩)
 ·show AVR P ι K w' T (getT (undefs s.tmps (l.map (·.1)) ds) d) (a'.tmps.getD d undef)
  by_cases hds:d∈ds
  ·rw [qrb ds s.tmps _ d hd (.inl hds)]
   exact ⟨[_],by unfold AVC;exact ⟨_,rfl⟩,rfl⟩
  ·rw [qk2 ds s.tmps _ d (fun h=>absurd h hds),hvals d hd hds]
   exact (hon.slots.2 d).mono (fun _ h=>⟨h,rfl⟩) (fun c hc=>⟨hT0 c hc,(hst.reg c hc).2⟩) hst.size
end
end Go.Tm
namespace Go.Tm
open Go
section
variable {E : Env} {F : Fr}
def Goes (E:Env) (F:Fr) {A:Type} (z:A) (ds:List Nat) (s:St) (ι:Nat→Inf) (K:Nat→Prop) (a:Act) (w:World) (k:St→Option A) (R:Act→World→Prop):Prop :=
 ∀ s' ι' K' a' w',k s'=some z→On E.P F ι' K' s' a' w'→Stp F ι ι' K K' s.heap s'.heap w w'→Agree ds s s' a a'→(∀ b,K' b→b<s'.next)→R a' w'
theorem Goes.after {A:Type} {z:A} {ds ds':List Nat} {s s1:St} {ι ι1:Nat→Inf} {K K1:Nat→Prop} {a a1:Act} {w w1:World} {k:St→Option A} {R:Act→World→Prop} (h:Goes E F z ds s ι K a w k R)
  (hs:Stp F ι ι1 K K1 s.heap s1.heap w w1) (ha:Agree ds s s1 a a1) (hd : ∀ d∈ds',d∈ds):Goes E F z ds' s1 ι1 K1 a1 w1 k R :=
 fun s' ι' K' a' w' hk ho hs' ha' hK=>h s' ι' K' a' w' hk ho (hs.trans hs') (ha.trans (ha'.mono hd)) hK
theorem Goes.mono {A:Type} {z:A} {ds ds':List Nat} {s:St} {ι:Nat→Inf} {K:Nat→Prop} {a:Act} {w:World} {k:St→Option A} {R:Act→World→Prop} (h:Goes E F z ds s ι K a w k R)
  (hd : ∀ d∈ds',d∈ds):Goes E F z ds' s ι K a w k R:=h.after (Stp.refl ..) (Agree.refl ..) hd
theorem qo3 {σ A:Type} {f:σ→Option (σ⊕A)} {s:σ} {r:A} (h:run f s=some r) : ∃ n,iter f n s=some r:=by
 unfold run at h
 split at h
 ·rename_i hx
  simp only [Option.some.injEq] at h
  obtain ⟨n,hn⟩:=Classical.choose_spec hx
  exact ⟨n,h▸hn⟩
 ·simp at h
theorem qalu {A:Type} {c:Bool} {x:Option A} {z:A} (h:(bif c then x else none)=some z):c=true∧x=some z:=by
 cases c with
 | false=>simp at h
 | true=>exact ⟨rfl,h⟩
theorem qag3 : ∀ {a b:List Nat},sameN a b=true→a=b
 | [],[],_=>rfl
 | a :: r,b :: s,h=>by
  simp only [sameN,Bool.and_eq_true] at h
  rw [Nat.eq_of_beq_eq_true h.1,qag3 h.2]
 | [],_ :: _,h=>by simp [sameN] at h
 | _ :: _,[],h=>by simp [sameN] at h
def EvOK (E:Env) (F:Fr) (anns:List (Nat×LA)) (c:Code):Prop :=
 ∀ {A:Type} {z:A} {s:St} {ι:Nat→Inf} {K:Nat→Prop} {a:Act} {w:World} {kn:St→Option A} {ke:Nat→St→Option A} {kr:St→Option A} {Q:Exit→Act→World→Prop},
  ev E anns c s kn ke kr=some z→On E.P F ι K s a w→(∀ b,K b→b<s.next)→Goes E F z (dsts anns c) s ι K a w kn (Q .normal)→(∀ i,Goes E F z (dsts anns c) s ι K a w (ke i) (Q (.exit i)))→Goes E F z (dsts anns c) s ι K a w kr (Q .ret)→c.wp E.P Q a w
theorem qad5 {anns:List (Nat×LA)} {b:Code} (ih:EvOK E F anns b) {A:Type} {z:A} {ke:Nat→St→Option A} {kr:St→Option A} {Q:Exit→Act→World→Prop} : ∀ {n:Nat} {s:St} {ι:Nat→Inf} {K:Nat→Prop} {a:Act} {w:World},
  unr (fun s' kn'=>ev E anns b s' kn' ke kr) n s=some z→On E.P F ι K s a w→(∀ b,K b→b<s.next)→(∀ i,Goes E F z (dsts anns b) s ι K a w (ke i) (Q (.exit i)))→Goes E F z (dsts anns b) s ι K a w kr (Q .ret)→Code.rounds E.P b Q n a w
 | 0,_,_,_,_,_,h,_,_,_,_=>by simp [unr] at h
 | n+1,s,ι,K,a,w,h,hon,hK,he,hr=>by
  rw [rounds_succ]
  unfold unr at h
  refine ih h hon hK ?_ (fun i=>he i) hr
  intro s' ι' K' a' w' hk ho hs ha hK'
  exact qad5 ih hk ho hK' (fun i=>(he i).after hs ha fun _ h=>h) (hr.after hs ha fun _ h=>h)
theorem qah6 {anns:List (Nat×LA)} {b:Code} (ih:EvOK E F anns b) {A:Type} {z:A} {ke:Nat→St→Option A} {kr:St→Option A} {Q:Exit→Act→World→Prop} {l:Ann} {s:St} {ι:Nat→Inf} {K:Nat→Prop} {a:Act} {w:World} {σ0:lden l} {ks xs O fz:List Nat}
  (hon:On E.P F ι K s a w) (hK : ∀ b,K b→b<s.next) (htl:TL E.P F ι K s.heap w l σ0 s.tmps (fun d=>a.tmps.getD d undef) ks xs O fz) (hnx:(ks++xs).Nodup) (hnd:(l.map (·.1)).Nodup) (hin : ∀ p∈l,p.2.stays=false→p.1∈dsts anns b)
  (he : ∀ i,Goes E F z (dsts anns b) s ι K a w (ke i) (Q (.exit i))) (hr:Goes E F z (dsts anns b) s ι K a w kr (Q .ret))
  {f:lden l→Option (lden l⊕A)} (hf : ∀ σ,f σ=ev E anns b (putLoop l σ (headSt s l (dsts anns b) ks))
   (fun s'=>takeLoop s' l fun σ' ks' xs'=>bif sameN xs xs'&&nodupN (ks'++xs')&&(ks'.all fun d=>Nat.ble s.next d)&&(s'.dirty.all fun d=>memN xs d||Nat.ble s.next d) then some (.inl σ') else none)
   (fun i s'=>(ke i { s' with dirty:=s'.dirty++(ks++xs)++s.dirty }).map .inr)
   (fun s'=>(kr { s' with dirty:=s'.dirty++(ks++xs)++s.dirty }).map .inr)) :
  ∀ (n:Nat) (σ:lden l) (s':St) (ι':Nat→Inf) (K':Nat→Prop) (a':Act) (w':World) (ks' O' fz':List Nat),iter f n σ=some z→On E.P F ι' K' s' a' w'→Stp F ι ι' K K' s.heap s'.heap w w' →
   TL E.P F ι' K' s'.heap w' l σ s'.tmps (fun d=>a'.tmps.getD d undef) ks' xs O' fz'→(ks'++xs).Nodup→(∀ b x,look (kills xs++(kills ks++s.heap)) b=some x→look s'.heap b=some x∧b∉ks')→s'.tmps.length=s.tmps.length →
   (∀ d,d∉dsts anns b→a'.tmps.getD d undef=a.tmps.getD d undef)→Code.rounds E.P b Q n a' w'
 | 0,_,_,_,_,_,_,_,_,_,h,_,_,_,_,_,_,_=>by simp [iter] at h
 | n+1,σ,s1,ι1,K1,a1,w1,ks1,O1,fz1,h,hon1,hst1,htl1,hn1,hlive1,hlen1,hvals1=>by
  rw [rounds_succ]
  have hstay1 : ∀ p∈l,p.2.stays=true→getT (headSt s l (dsts anns b) ks).tmps p.1=getT s1.tmps p.1:=fun p hp hs =>
   (qk2 _ _ _ _ fun _=>List.mem_map.2 ⟨p,hp,rfl⟩).trans (qow htl htl1 p hp hs)
  obtain ⟨ι2,K2,hon2,hst2,hK2⟩:=qan5 (ds:=dsts anns b) hon hK htl hnd hon1 hst1 htl1 hn1 hlive1 hlen1 fun d _ hd=>hvals1 d hd
  have hnext:=qfu l σ (headSt s l (dsts anns b) ks)
  have hnext:s.next≤(putLoop l σ (headSt s l (dsts anns b) ks)).next:=hnext
  have hdirty2:(putLoop l σ (headSt s l (dsts anns b) ks)).dirty=[]:=qez l σ _
  have hlen2:(putLoop l σ (headSt s l (dsts anns b) ks)).tmps.length=s.tmps.length:=by
   rw [qdh];exact qp7 _ _ _
  have hheap2 : ∀ b0,b0<s.next→b0∉xs→b0∉ks→look (putLoop l σ (headSt s l (dsts anns b) ks)).heap b0=look s.heap b0:=by
   intro b0 h1 h2 h3
   refine (qjz htl1 hnd hstay1 h1 h2).trans ?_
   show look (kills ks++s.heap) b0=_
   rw [qa8,if_neg h3]
  have hag : ∀ {s':St} {a':Act},Agree (dsts anns b) (putLoop l σ (headSt s l (dsts anns b) ks)) s' a1 a'→Agree (dsts anns b) s { s' with dirty:=s'.dirty++(ks++xs)++s.dirty } a a':=by
   intro s' a' ha
   refine ⟨fun d hd => ?_,fun d hd=>(ha.vals d hd).trans (hvals1 d hd),ha.length.trans hlen2,Nat.le_trans hnext ha.next,fun b0 hb=>List.mem_append_right _ hb,fun b0 hb hn => ?_⟩
   ·refine (ha.slots d hd).trans ((qfv l σ _ d fun p hp hs e=>hd (e▸hin p hp hs)).trans ?_)
    exact qk2 _ _ _ _ fun h=>absurd h hd
   ·have hn1:b0∉s'.dirty:=fun h=>hn (List.mem_append_left _ (List.mem_append_left _ h))
    have hn2:b0∉ks:=fun h=>hn (List.mem_append_left _ (List.mem_append_right _ (List.mem_append_left _ h)))
    have hn3:b0∉xs:=fun h=>hn (List.mem_append_left _ (List.mem_append_right _ (List.mem_append_right _ h)))
    exact (ha.heap b0 (Nat.lt_of_lt_of_le hb hnext) hn1).trans (hheap2 b0 hb hn3 hn2)
  have hon' : ∀ {s':St} {ι':Nat→Inf} {K':Nat→Prop} {a':Act} {w':World} {ds:List Nat},On E.P F ι' K' s' a' w'→On E.P F ι' K' { s' with dirty:=ds } a' w':=fun h=>⟨h.inv,h.slots,h.none⟩
  simp only [iter] at h
  cases hfs:f σ with
  | none=>rw [hfs] at h;simp at h
  | some r =>
   rw [hfs] at h
   rw [hf] at hfs
   cases r with
   | inr r =>
    simp only [Option.some.injEq] at h
    subst h
    refine ih hfs hon2 hK2 ?_ (fun i => ?_) ?_
    ·intro s' ι' K' a' w' hk ho hs ha hK'
     obtain ⟨σ',ks',xs',O',fz',h1,_⟩:=qg8 ho hk
     cases hc:(sameN xs xs'&&nodupN (ks'++xs')&&(ks'.all fun d=>Nat.ble s.next d)&&(s'.dirty.all fun d=>memN xs d||Nat.ble s.next d)) <;> rw [hc] at h1 <;> simp at h1
    ·intro s' ι' K' a' w' hk ho hs ha hK'
     simp only [Option.map_eq_some_iff,Sum.inr.injEq,exists_eq_right] at hk
     exact he i _ ι' K' a' w' hk (hon' ho) (hst2.trans hs) (hag ha) hK'
    ·intro s' ι' K' a' w' hk ho hs ha hK'
     simp only [Option.map_eq_some_iff,Sum.inr.injEq,exists_eq_right] at hk
     exact hr _ ι' K' a' w' hk (hon' ho) (hst2.trans hs) (hag ha) hK'
   | inl σ1 =>
    simp only at h
    refine ih hfs hon2 hK2 ?_ (fun i => ?_) ?_
    ·intro s' ι' K' a' w' hk ho hs ha hK'
     obtain ⟨σ',ks',xs',O',fz',h1,htl'⟩:=qg8 ho hk
     cases hc:(sameN xs xs'&&nodupN (ks'++xs')&&(ks'.all fun d=>Nat.ble s.next d)&&(s'.dirty.all fun d=>memN xs d||Nat.ble s.next d)) with
     | false=>rw [hc] at h1;simp at h1
     | true =>
      rw [hc] at h1
      simp only [cond_true,Option.some.injEq,Sum.inl.injEq] at h1
      subst h1
      simp only [Bool.and_eq_true,List.all_eq_true,Bool.or_eq_true,Nat.ble_eq] at hc
      obtain ⟨⟨⟨c1,c2⟩,c3⟩,c4⟩:=hc
      obtain rfl:=qag3 c1
      refine qah6 ih hon hK htl hnx hnd hin he hr hf n σ' s' ι' K' a' w' ks' O' fz' h ho (hst2.trans hs) htl' (qii.1 c2) (fun b0 x hb => ?_) (ha.length.trans hlen2) (fun d hd=>(ha.vals d hd).trans (hvals1 d hd))
      rw [qa8] at hb
      split at hb
      ·simp at hb
      ·rename_i hx
       rw [qa8] at hb
       split at hb
       ·simp at hb
       ·rename_i hk0
        have hlt:=hK b0 (hon.inv.known b0 x hb)
        refine ⟨?_,fun hm => ?_⟩
        ·rw [ha.heap b0 (Nat.lt_of_lt_of_le hlt hnext) (fun hm => ?_),hheap2 b0 hlt hx hk0]
         ·exact hb
         ·rcases c4 b0 hm with h5 | h5
          ·exact hx (qew.1 h5)
          ·omega
        ·have:=c3 b0 hm
         omega
    ·intro s' ι' K' a' w' hk ho hs ha hK'
     simp at hk
    ·intro s' ι' K' a' w' hk ho hs ha hK'
     simp at hk
theorem qama (hE:EnvS E F) (anns:List (Nat×LA)) : ∀ c:Code,EvOK E F anns c:=by
 intro c
 induction c with
 | skip =>
  intro A z s ι K a w kn ke kr Q h hon hK hn he hr
  exact wp_skip (hn s ι K a w h hon (Stp.refl ..) (Agree.refl ..) hK)
 | label _ =>
  intro A z s ι K a w kn ke kr Q h hon hK hn he hr
  exact wp_label (hn s ι K a w h hon (Stp.refl ..) (Agree.refl ..) hK)
 | region id ops d =>
  intro A z s ι K a w kn ke kr Q h hon hK hn he hr
  simp only [ev] at h
  obtain ⟨s0,h0,hon0,hst0,hag0,hnx0⟩:=qaf7 h hon
  refine qak6 hE h0 hon0 (fun b hb=>by rw [hnx0];exact hK b hb) fun s' ι' K' a' w' hk ho hs ha hK'=>hn s' ι' K' a' w' hk ho (hst0.trans hs) ((hag0.mono fun d hd => ?_).trans (ha.mono fun d hd => ?_)) hK'
  ·simp only [dsts];exact List.mem_append_right _ hd
  ·simp only [dsts];exact List.mem_append_left _ hd
 | seq x y ihx ihy =>
  intro A z s ι K a w kn ke kr Q h hon hK hn he hr
  have hx : ∀ d∈dsts anns x,d∈dsts anns (.seq x y):=fun d hd=>List.mem_append_left _ hd
  have hy : ∀ d∈dsts anns y,d∈dsts anns (.seq x y):=fun d hd=>List.mem_append_right _ hd
  refine wp_seq (ihx (Q:=Exit.then (y.wp E.P Q) Q) h hon hK ?_ (fun i=>(he i).mono hx) (hr.mono hx))
  intro s' ι' K' a' w' hk ho hs ha hK'
  exact ihy hk ho hK' (hn.after hs (ha.mono hx) hy) (fun i=>(he i).after hs (ha.mono hx) hy) (hr.after hs (ha.mono hx) hy)
 | cond o x y ihx ihy =>
  intro A z s ι K a w kn ke kr Q h hon hK hn he hr
  have hx : ∀ d∈dsts anns x,d∈dsts anns (.cond o x y):=fun d hd=>List.mem_append_left _ hd
  have hy : ∀ d∈dsts anns y,d∈dsts anns (.cond o x y):=fun d hd=>List.mem_append_right _ hd
  simp only [ev] at h
  split at h
  ·rename_i b hb
   have hv:=qano hon.slots o
   rw [hb] at hv
   have hv:a.eval o = .bool b:=qa5.1 (qaf.1 hv)
   cases b with
   | true=>exact wp_cond_true hv (ihx h hon hK (hn.mono hx) (fun i=>(he i).mono hx) (hr.mono hx))
   | false=>exact wp_cond_false hv (ihy h hon hK (hn.mono hy) (fun i=>(he i).mono hy) (hr.mono hy))
  ·simp at h
 | block id b ih =>
  intro A z s ι K a w kn ke kr Q h hon hK hn he hr
  refine wp_block (ih (Q:=Exit.inBlock id Q) h hon hK hn (fun i => ?_) hr)
  intro s' ι' K' a' w' hk ho hs ha hK'
  show if i=id then Q .normal a' w' else Q (.exit i) a' w'
  split
  ·rename_i e
   subst e
   rw [Nat.beq_refl] at hk
   exact hn s' ι' K' a' w' hk ho hs ha hK'
  ·rename_i e
   rw [qaj2 e] at hk
   exact he i s' ι' K' a' w' hk ho hs ha hK'
 | exit id =>
  intro A z s ι K a w kn ke kr Q h hon hK hn he hr
  exact wp_exit (he id s ι K a w h hon (Stp.refl ..) (Agree.refl ..) hK)
 | ret =>
  intro A z s ι K a w kn ke kr Q h hon hK hn he hr
  exact wp_ret (hr s ι K a w h hon (Stp.refl ..) (Agree.refl ..) hK)
 | loop b ih =>
  intro A z s ι K a w kn ke kr Q h hon hK hn he hr
  simp only [ev] at h
  split at h
  ·simp at h
  ·simp at h
  ·rename_i n _
   exact wp_loop_rounds n (qad5 ih h hon hK he hr)
  ·rename_i l _
   obtain ⟨σ0,ks,xs,O,fz,h1,htl⟩:=qg8 hon h
   obtain ⟨hc,h1⟩:=qalu h1
   simp only [Bool.and_eq_true,List.all_eq_true] at hc
   obtain ⟨⟨c1,c2⟩,c3⟩:=hc
   obtain ⟨n,hit⟩:=qo3 h1
   refine wp_loop_rounds n (qah6 ih hon hK htl (qii.1 c1) (qii.1 c2) (fun p hp hs => ?_) he hr (fun _=>rfl) n σ0 s ι K a w ks O fz hit hon (Stp.refl ..) htl (qii.1 c1) (fun b0 x hb => ?_) rfl (fun _ _=>rfl))
   ·have:=c3 p hp
    obtain ⟨d,k⟩:=p
    cases k <;> first | exact qew.1 this | simp [LK.stays] at hs
   ·rw [qa8] at hb
    split at hb
    ·simp at hb
    ·rw [qa8] at hb
     split at hb
     ·simp at hb
     ·exact ⟨hb,by assumption⟩
 | _ =>
  intro A z s ι K a w kn ke kr Q h
  simp [ev] at h
end
end Go.Tm
namespace Go.Tm
open Go
section
variable {P : Program} {F : Fr} {w : World} {T : Nat → Prop}
theorem qga : ∀ (ps:List PK) (x:domOf ps) (n:Nat),n≤(argsIn ps x n).2.2
 | [],_,n=>Nat.le_refl n
 | .v _ :: ps,x,n=>qga ps x.2 n
 | .ro _ :: ps,x,n=>qga ps x.2 n
 | .fn _ :: ps,x,n=>qga ps x.2 n
 | .io s :: ps,x,n=>Nat.le_trans (Nat.le_trans (Nat.le_succ n) (qbm s x.1 (n+1))) (qga ps x.2 _)
 | .mv s :: ps,x,n=>Nat.le_trans (qbm s x.1 n) (qga ps x.2 _)
 | .tk s :: ps,x,n=>Nat.le_trans (qbm s x.1 n) (qga ps x.2 _)
theorem qjo : ∀ {ps:List PK} {x:domOf ps} {n:Nat} {args:List Value} {O:List Nat} {ι:Nat→Inf} {K:Nat→Prop} {H:Heap},InvR P F ι K H w T→ArgsRep P w T (FW F) ps x args O→(∀ c∈O,¬ Own ι H c∧(F.O0 c∨F.w0.heap.size≤c))→O.Nodup →
  (∀ b,n≤b→b<(argsIn ps x n).2.2→¬ K b) → ∃ ι' K',Laid P F ι ι' K K' H ((argsIn ps x n).2.1++H) w T O n (argsIn ps x n).2.2∧AVCs P ι' K' w T (argsIn ps x n).1 args
 | [],x,n,args,O,ι,K,H,hI,⟨h1,h2⟩,_,_,_=>by
  subst h1 h2
  exact ⟨ι,K,⟨hI,fun b hb=>⟨hb,rfl⟩,fun b hb => .inl hb,fun c hc => .inl hc⟩,by simp [argsIn,AVCs]⟩
 | .v t :: ps,x,n,args,O,ι,K,H,hI,⟨v,us,e,⟨cs,hr,hv⟩,ha⟩,hO,hnd,hn=>by
  subst e
  obtain ⟨ι',K',L,hs⟩:=qjo (x:=x.2) (n:=n) hI ha hO hnd hn
  refine ⟨ι',K',L,?_⟩
  show AVCs P ι' K' w T (.val t x.1 :: _) _
  simp only [AVCs,AVC]
  exact ⟨v,us,cs,rfl,hr,hv,hs⟩
 | .ro t :: ps,x,n,args,O,ι,K,H,hI,⟨c,o,cs,us,e,hc,hat,hr,ha⟩,hO,hnd,hn=>by
  subst e
  obtain ⟨ι',K',L,hs⟩:=qjo (x:=x.2) (n:=n) hI ha hO hnd hn
  refine ⟨ι',K',L,?_⟩
  show AVCs P ι' K' w T (.iptr t x.1 :: _) _
  simp only [AVCs,AVC]
  exact ⟨_,us,_,rfl,⟨c,o,cs,rfl,hc,hat,hr⟩,rfl,hs⟩
 | .fn s :: ps,x,n,args,O,ι,K,H,hI,⟨v,us,e,hf,ha⟩,hO,hnd,hn=>by
  subst e
  obtain ⟨ι',K',L,hs⟩:=qjo (x:=x.2) (n:=n) hI ha hO hnd hn
  refine ⟨ι',K',L,?_⟩
  show AVCs P ι' K' w T (.fun s x.1 :: _) _
  simp only [AVCs,AVC]
  exact ⟨v,us,_,rfl,⟨v,rfl,hf⟩,rfl,hs⟩
 | .mv s :: ps,x,n,args,O,ι,K,H,hI,⟨v,us,cs,O1,O2,e,hval,hsh,hOe,ha⟩,hO,hnd,hn=>by
  subst e hOe
  obtain ⟨hnd1,hnd2,hdis⟩:=List.nodup_append.1 hnd
  have hle1:=qbm s x.1 n
  have hle2:=qga ps x.2 (putSh s x.1 n).2.2
  have hn : ∀ b,n≤b→b<(argsIn ps x.2 (putSh s x.1 n).2.2).2.2→¬ K b:=hn
  obtain ⟨ι1,K1,L1,hs1⟩:=qjo (x:=x.2) (n:=(putSh s x.1 n).2.2) hI ha (fun c hc=>hO c (by simp [hc])) hnd2 (fun b h1 h2=>hn b (by omega) h2)
  obtain ⟨ι2,K2,L2,hv2,hf2⟩:=qg5 (n:=n) L1.inv hsh (fun c hc=>⟨fun ho=>by
    rcases L1.own c ho with ho | ho
    ·exact (hO c (by simp [hc])).1 ho
    ·exact hdis c hc c ho rfl,(hO c (by simp [hc])).2⟩) hnd1 (fun b h1 h2 hk=>by
    rcases L1.news b hk with h | h
    ·exact hn b h1 (by omega) h
    ·omega)
  refine ⟨ι2,K2,?_,?_⟩
  ·have:=L1.trans L2 (Nat.le_refl n) hle1 hle2
   rw [← List.append_assoc] at this
   exact this
  ·show AVCs P ι2 K2 w T ((putSh s x.1 n).1 :: _) _
   simp only [AVCs]
   exact ⟨v,us,cs,rfl,hv2,by rw [qfn hf2];exact hval,hs1.mono L2.known (fun c hc=>⟨hc,rfl⟩) (Nat.le_refl _)⟩
 | .tk s :: ps,x,n,args,O,ι,K,H,hI,⟨v,us,cs,O1,O2,e,hval,hsh,hOe,ha⟩,hO,hnd,hn=>by
  subst e hOe
  obtain ⟨hnd1,hnd2,hdis⟩:=List.nodup_append.1 hnd
  have hle1:=qbm s x.1 n
  have hle2:=qga ps x.2 (putSh s x.1 n).2.2
  have hn : ∀ b,n≤b→b<(argsIn ps x.2 (putSh s x.1 n).2.2).2.2→¬ K b:=hn
  obtain ⟨ι1,K1,L1,hs1⟩:=qjo (x:=x.2) (n:=(putSh s x.1 n).2.2) hI ha (fun c hc=>hO c (by simp [hc])) hnd2 (fun b h1 h2=>hn b (by omega) h2)
  obtain ⟨ι2,K2,L2,hv2,hf2⟩:=qg5 (n:=n) L1.inv hsh (fun c hc=>⟨fun ho=>by
    rcases L1.own c ho with ho | ho
    ·exact (hO c (by simp [hc])).1 ho
    ·exact hdis c hc c ho rfl,(hO c (by simp [hc])).2⟩) hnd1 (fun b h1 h2 hk=>by
    rcases L1.news b hk with h | h
    ·exact hn b h1 (by omega) h
    ·omega)
  refine ⟨ι2,K2,?_,?_⟩
  ·have:=L1.trans L2 (Nat.le_refl n) hle1 hle2
   rw [← List.append_assoc] at this
   exact this
  ·show AVCs P ι2 K2 w T ((putSh s x.1 n).1 :: _) _
   simp only [AVCs]
   exact ⟨v,us,cs,rfl,hv2,by rw [qfn hf2];exact hval,hs1.mono L2.known (fun c hc=>⟨hc,rfl⟩) (Nat.le_refl _)⟩
 | .io s :: ps,x,n,args,O,ι,K,H,hI,⟨c,us,cells,e0,O1,O2,e,hbl,hlen,hone,hsh,hOe,ha⟩,hO,hnd,hn=>by
  subst e hOe
  obtain ⟨hcn,hnd⟩:=List.nodup_cons.1 hnd
  obtain ⟨hnd1,hnd2,hdis⟩:=List.nodup_append.1 hnd
  have hle1:=qbm s x.1 (n+1)
  have hle2:=qga ps x.2 (putSh s x.1 (n+1)).2.2
  have hn : ∀ b,n≤b→b<(argsIn ps x.2 (putSh s x.1 (n+1)).2.2).2.2→¬ K b:=hn
  obtain ⟨ι1,K1,L1,hs1⟩:=qjo (x:=x.2) (n:=(putSh s x.1 (n+1)).2.2) hI ha (fun c hc=>hO c (by simp [hc])) hnd2 (fun b h1 h2=>hn b (by omega) h2)
  obtain ⟨ι2,K2,L2,hv2,hf2⟩:=qg5 (n:=n+1) L1.inv hsh (fun c hc=>⟨fun ho=>by
    rcases L1.own c ho with ho | ho
    ·exact (hO c (by simp [hc])).1 ho
    ·exact hdis c hc c ho rfl,(hO c (by simp [hc])).2⟩) hnd1 (fun b h1 h2 hk=>by
    rcases L1.news b hk with h | h
    ·exact hn b (by omega) (by omega) h
    ·omega)
  have hnK:¬ K2 n:=fun hk=>by
   rcases L2.news n hk with h | h
   ·rcases L1.news n h with h | h
    ·exact hn n (Nat.le_refl _) (by omega) h
    ·omega
   ·omega
  have hlk:look ((putSh s x.1 (n+1)).2.1++((argsIn ps x.2 (putSh s x.1 (n+1)).2.2).2.1++H)) n=none:=by
   cases hx:look ((putSh s x.1 (n+1)).2.1++((argsIn ps x.2 (putSh s x.1 (n+1)).2.2).2.1++H)) n with
   | none=>rfl
   | some y=>exact absurd (L2.inv.known n y hx) hnK
  have hoc:¬ Own ι2 ((putSh s x.1 (n+1)).2.1++((argsIn ps x.2 (putSh s x.1 (n+1)).2.2).2.1++H)) c:=fun ho=>by
   rcases L2.own c ho with ho | ho
   ·rcases L1.own c ho with ho | ho
    ·exact (hO c (by simp)).1 ho
    ·exact hcn (by simp [ho])
   ·exact hcn (by simp [ho])
  obtain ⟨g1,g2,g3⟩:=L2.inv.add hlk ⟨c,0,.box s.ty⟩ (.inl hnK) (.box s.ty (putSh s x.1 (n+1)).1) ⟨rfl,rfl,cells,e0,hbl,hv2.known (fun d hd=>⟨.inl hd,by
    have:d≠n:=fun e=>hnK (e▸hd)
    simp [upd,this]⟩),hlen,hone.1.put _ _,hf2⟩ (fun _=>⟨hoc,(hO c (by simp)).2⟩) (fun _ j _=>hone.2 j)
  refine ⟨_,_,⟨?_,fun d hd=>⟨(g2 d (L2.known d (L1.known d hd).1).1).1,(g2 d (L2.known d (L1.known d hd).1).1).2.trans ((L2.known d (L1.known d hd).1).2.trans (L1.known d hd).2)⟩,fun d hd => ?_,fun c' hc => ?_⟩,?_⟩
  ·have:=g1
   rw [← List.append_assoc] at this
   exact this
  ·show K d∨(n≤d∧d<(argsIn ps x.2 (putSh s x.1 (n+1)).2.2).2.2)
   rcases hd with hd | hd
   ·rcases L2.news d hd with h | h
    ·rcases L1.news d h with h | h
     ·exact .inl h
     ·exact .inr ⟨by omega,by omega⟩
    ·exact .inr ⟨by omega,by omega⟩
   ·exact .inr ⟨by omega,by omega⟩
  ·have hc:Own (upd ι2 n ⟨c,0,.box s.ty⟩) ((n,some (.box s.ty (putSh s x.1 (n+1)).1)) :: ((putSh s x.1 (n+1)).2.1++((argsIn ps x.2 (putSh s x.1 (n+1)).2.2).2.1++H))) c':=by
    have:=hc
    rw [← List.append_assoc]
    exact this
   rcases g3 c' hc with h | ⟨_,h⟩
   ·rcases L2.own c' h with h | h
    ·rcases L1.own c' h with h | h
     ·exact .inl h
     ·exact .inr (by simp [h])
    ·exact .inr (by simp [h])
   ·exact .inr (by simp [h])
  ·show AVCs P _ _ w T (.ptr n [] s.ty :: _) _
   simp only [AVCs,AVC]
   refine ⟨.pointer (some ⟨c,0,none⟩),us,_,rfl,⟨?_,0,?_,rfl⟩,?_,?_⟩
   ·first | exact .inr rfl | exact .inr trivial | simp
   ·have:upd ι2 n ⟨c,0,.box s.ty⟩ n=⟨c,0,.box s.ty⟩:=by simp [upd]
    rw [this];exact .box (.here _)
   ·have:upd ι2 n ⟨c,0,.box s.ty⟩ n=⟨c,0,.box s.ty⟩:=by simp [upd]
    rw [this];rfl
   ·exact (hs1.mono L2.known (fun c hc=>⟨hc,rfl⟩) (Nat.le_refl _)).mono g2 (fun c hc=>⟨hc,rfl⟩) (Nat.le_refl _)
theorem qaan {ι:Nat→Inf} {K:Nat→Prop} {S:Nat→Prop} (k:Nat) : ∀ {vs:List AV} {xs:List Value},AVCs P ι K w S vs xs→vs.length=xs.length ∧ ∀ t,AVR P ι K w S (getL vs t) ((xs++List.replicate k undef).getD t undef)
 | [],xs,h=>by
  simp only [AVCs] at h
  subst h
  refine ⟨rfl,fun t => ?_⟩
  exact ⟨[_],by unfold getL AVC;exact ⟨_,rfl⟩,rfl⟩
 | v :: r,xs,h=>by
  simp only [AVCs] at h
  obtain ⟨x,ys,cs,rfl,hc,hv,hr⟩:=h
  obtain ⟨h1,h2⟩:=qaan k hr
  refine ⟨by simp [h1],fun t => ?_⟩
  cases t with
  | zero=>exact ⟨cs,hc,hv⟩
  | succ t=>exact h2 t
theorem qxk {t u:Ty} {o:Nat} (h:KOff (.box t) [] o u):o=0:=by cases h with | box h=>cases h;rfl
end
section
variable {E : Env} {F : Fr} {ι : Nat → Inf} {K : Nat → Prop} {s : St} {a : Act} {w : World} {A : Type} {z : A}
theorem qami (h:Inv E.P F ι K s.heap w) {u:Ty} {x:AV} {y:Value} (hx:AVR E.P ι K w (Reg F ι s.heap w) x y) {rs:List Nat} {Ψ:AV×Heap→List Nat→Prop} (hwp:(loadR u x).wp s.heap rs Ψ) :
  ∃ c o cs v' rs',y = .pointer (some ⟨c,o,none⟩)∧CellsAt w c o cs∧AVC E.P ι K w (Reg F ι s.heap w) v' cs∧fitsB u v'=true∧Ψ (v',[]) rs':=by
 unfold loadR at hwp
 split at hwp
 ·rename_i b p u'
  obtain ⟨cs0,hc,hv⟩:=hx
  simp only [AVC] at hc
  obtain ⟨hK,of,hko,rfl⟩:=hc
  have hp:=qad (show ValOf false _ y from hv)
  simp only [RM.wp] at hwp
  obtain ⟨blk,hb,hwp⟩:=hwp
  have hblk:=h.blks b _ hb
  cases blk with
  | box t' v' =>
   obtain ⟨hk,hd,cells,e,hbb,hvv,hlen,hat,hf⟩:=qhz hblk
   rw [hk] at hko
   cases hko with
   | box hto =>
   simp only at hwp
   obtain ⟨v2,h2,hf2,hv2⟩:=qls hto hwp hf hvv
   cases hf3:fitsB u v2 with
   | false=>rw [hf3] at h2;exact h2.elim
   | true =>
    rw [hf3] at h2
    rw [hd] at hp
    exact ⟨_,_,_,v2,_,hp,hat.seg of u'.size,hv2,hf3,h2⟩
  | row t' xs =>
   rcases hblk with ⟨hk',_⟩ | hblk'
   ·rw [hk'] at hko;cases hko
   ·obtain ⟨room',_,_,_,hk',_⟩:=id hblk'
    rw [hk'] at hko
    cases hko with
    | @row _ _ _ i p' o' _ hi hto =>
    obtain ⟨_,cells,e,vs,hbb,h1,h2,h3,hvl,h4,hat⟩:=qdi (h.blks b _ hb) hk'
    simp only [getPath] at hwp
    have hg:=RepList.getD (R:=Rep w (Reg F ι s.heap w) t') (fun _ _ h=>h.length) t'.zero h3 hi
    obtain ⟨y',hy,hr⟩:=qkb hto hwp hg
    cases hsm:u'.same u with
    | false=>rw [hsm] at hy;exact hy.elim
    | true =>
     rw [hsm] at hy
     obtain rfl:=qbe hsm
     rw [qui hto.inside] at hr
     have hat':=hat.seg (i*t'.size+o') u'.size
     exact ⟨_,_,_,_,_,hp,hat',by simp only [AVC];exact hr,qcf _ _,hy⟩
 ·rename_i u' y'
  obtain ⟨cs0,hc,hv⟩:=hx
  simp only [AVC] at hc
  obtain ⟨c,of,vs,rfl,hreg,hat,hr⟩:=hc
  have hp:=qad (show ValOf false _ y from hv)
  cases hsm:u'.same u with
  | false=>rw [hsm] at hwp;exact hwp.elim
  | true =>
   rw [hsm] at hwp
   obtain rfl:=qbe hsm
   exact ⟨_,_,_,_,_,hp,hat,by simp only [AVC];exact hr,qcf _ _,hwp⟩
 ·rename_i b p t' off n
  split at hwp
  ·rename_i m w'
   cases hmn:Nat.beq m n with
   | false=>rw [hmn] at hwp;exact hwp.elim
   | true =>
    obtain rfl:=Nat.eq_of_beq_eq_true hmn
    rw [hmn] at hwp
    simp only [cond_true] at hwp
    obtain ⟨cs0,hc,hv⟩:=hx
    simp only [AVC] at hc
    obtain ⟨hK,a,rfl,hpos⟩:=hc
    have hp:=qad (show ValOf false _ y from hv)
    obtain ⟨xs,vs,rfl,hq,hxl,hrep,hat,ha,_⟩:=qfd h hwp hpos
    rw [ha] at hp
    have hat':CellsAt w (ι b).c a.off vs:=by have e:a.block=(ι b).c:=congrArg Addr.block ha;rw [e] at hat;exact hat
    exact ⟨_,_,_,_,_,hp,hat',by simp only [AVC];exact RepList.ofList _ hrep hxl,qcf _ _,hq⟩
  ·exact hwp.elim
 ·exact hwp.elim
def resSem (a:Act):ResultVar→Sem Value
 | .tmp t=>pure (a.tmps.getD t undef)
 | .cell c t=>do loadVar t (← asAddr (a.tmps.getD c undef))
theorem qaer (hE:EnvS E F) (hon:On E.P F ι K s a w) {v:ResultVar} {x:AV} (h:resVal E s v=some x) : ∃ y,(resSem a v).run E.P w = .ok y w∧AVR E.P ι K w (Reg F ι s.heap w) x y:=by
 cases v with
 | tmp t =>
  simp only [resVal,Option.some.injEq] at h
  subst h
  exact ⟨_,rfl,hon.slots.2 t⟩
 | cell c ty =>
  simp only [resVal] at h
  split at h
  ·rename_i u hu
   have hw:=RM.run_wp h
   obtain ⟨cb,o,cs,v',rs',hp,hat,hv,hf,hΨ⟩:=qami hon.inv (hon.slots.2 c) hw
   simp only [Option.some.injEq] at hΨ
   subst hΨ
   obtain ⟨y,hy,hval⟩:=quh (hE.ok.tys ty u hu) w hat (qby hf hv)
   refine ⟨y,?_,cs,hv,by rw [qfn hf];exact hval⟩
   simp only [resSem,Sem.run_bind,hp]
   simpa [asAddr] using hy
  ·simp at h
theorem qx2 (hE:EnvS E F) (hon:On E.P F ι K s a w) : ∀ {rs:List RK} {vs:List ResultVar} {k:resOf rs→List Nat→Option A},resOut E s rs vs k=some z →
  ∃ y ks O fz ys,k y ks=some z∧Pls (Pl ι s.heap) ks O fz∧ResRep E.P w (RegX F ι s.heap w fz) (FW F) rs y ys O∧(vs.mapM (resSem a)).run E.P w = .ok ys w
 | [],[],k,h=>⟨(),[],[],[],[],h,.nil,⟨rfl,rfl⟩,rfl⟩
 | .v sh :: rs,v :: vs,k,h=>by
  simp only [resOut] at h
  split at h
  ·rename_i x hx
   obtain ⟨y0,hy0,cs,hc,hval⟩:=qaer hE hon hx
   obtain ⟨y1,ts,rs',O1,fz1,h1,p1,s1,a1,_,_⟩:=qdz hon.inv (RM.run_wp h) hc
   simp only [RM.wp] at h1
   obtain ⟨y,ks,O,fz,ys,h2,p2,r2,hm⟩:=qx2 hE hon h1
   refine ⟨(y1,y),ts++ks,O1++O,fz1++fz,y0 :: ys,h2,p1.append p2,⟨y0,ys,cs,O1,O,rfl,by rw [← a1];exact hval,s1.regx (by simp +contextual),rfl,r2.imp (fun _ _ h=>h) fun _ _ _ _ _ hs=>hs.regx (by simp +contextual)⟩,?_⟩
   rw [List.mapM_cons,Sem.run_bind,hy0,Result.andThen_ok,Sem.run_bind,hm,Result.andThen_ok,Sem.run_pure]
  ·simp at h
 | .p sh :: rs,v :: vs,k,h=>by
  simp only [resOut] at h
  split at h
  ·rename_i b u hx
   obtain ⟨y0,hy0,cs,hc,hval⟩:=qaer hE hon hx
   simp only [AVC] at hc
   obtain ⟨hKb,o,hko,rfl⟩:=hc
   have hp0:=qad (show ValOf false _ y0 from hval)
   split at h
   ·rename_i t c hlk
    cases hsm:sh.ty.same t with
    | false=>rw [hsm] at h;simp at h
    | true =>
     rw [hsm] at h
     have hty:=qbe hsm
     subst hty
     simp only [cond_true] at h
     obtain ⟨hk,hd,cells,e,hbb,hvv,hlen,hone,hf⟩:=hon.inv.blks b _ hlk
     obtain ⟨y1,ts,rs',O1,fz1,h1,p1,s1,_,l1,_⟩:=qdz hon.inv (RM.run_wp h) hvv
     simp only [RM.wp] at h1
     obtain ⟨y,ks,O,fz,ys,h2,p2,r2,hm⟩:=qx2 hE hon h1
     rw [hk] at hko
     have ho:=qxk hko
     rw [ho,hd] at hp0
     refine ⟨(y1,y),b :: ts++ks,(ι b).c :: O1++O,fz1++fz,y0 :: ys,h2,.keep ⟨⟨_,hlk⟩,by rw [hk];rfl,rfl⟩ (p1.append p2),⟨(ι b).c,ys,cells,e,O1,O,by rw [hp0],hbb,hlen,⟨⟨hone.1,fun hq=>hone.2.1 (qq4 (RM.run_wp h) hq),hone.2.2⟩,fun j hl=>hon.inv.cover b _ hlk (by rw [hk];rfl) hl j (Inf.has_box hk j)⟩,s1.regx (by simp +contextual),rfl,r2.imp (fun _ _ h=>h) fun _ _ _ _ _ hs=>hs.regx (by simp +contextual)⟩,?_⟩
     rw [List.mapM_cons,Sem.run_bind,hy0,Result.andThen_ok,Sem.run_bind,hm,Result.andThen_ok,Sem.run_pure]
   ·simp at h
  ·simp at h
 | .v _ :: _,[],_,h=>by simp [resOut] at h
 | .p _ :: _,[],_,h=>by simp [resOut] at h
 | [],_ :: _,_,h=>by simp [resOut] at h
theorem qij (hI:Inv E.P F ι K s.heap w) : ∀ {ps:List PK} {vs:List AV} {xs:List Value} {k:outOf ps→List Nat→Option A},outsOut s ps vs k=some z→AVCs E.P ι K w (Reg F ι s.heap w) vs xs →
  ∃ y ks O fz,k y ks=some z∧Pls (Pl ι s.heap) ks O fz∧OutRep E.P w (RegX F ι s.heap w fz) (FW F) ps y xs O
 | [],[],xs,k,h,hv=>by
  simp only [AVCs] at hv
  subst hv
  exact ⟨(),[],[],[],h,.nil,rfl,rfl⟩
 | .v _ :: ps,v :: vs,xs,k,h,hv=>by
  simp only [AVCs] at hv
  obtain ⟨x,us,cs,rfl,hc,hval,hr⟩:=hv
  obtain ⟨y,ks,O,fz,h1,p1,r1⟩:=qij (ps:=ps) hI h hr
  exact ⟨y,ks,O,fz,h1,p1,x,us,rfl,r1⟩
 | .ro _ :: ps,v :: vs,xs,k,h,hv=>by
  simp only [AVCs] at hv
  obtain ⟨x,us,cs,rfl,hc,hval,hr⟩:=hv
  obtain ⟨y,ks,O,fz,h1,p1,r1⟩:=qij (ps:=ps) hI h hr
  exact ⟨y,ks,O,fz,h1,p1,x,us,rfl,r1⟩
 | .tk _ :: ps,v :: vs,xs,k,h,hv=>by
  simp only [AVCs] at hv
  obtain ⟨x,us,cs,rfl,hc,hval,hr⟩:=hv
  obtain ⟨y,ks,O,fz,h1,p1,r1⟩:=qij (ps:=ps) hI h hr
  exact ⟨y,ks,O,fz,h1,p1,x,us,rfl,r1⟩
 | .fn _ :: ps,v :: vs,xs,k,h,hv=>by
  simp only [AVCs] at hv
  obtain ⟨x,us,cs,rfl,hc,hval,hr⟩:=hv
  obtain ⟨y,ks,O,fz,h1,p1,r1⟩:=qij (ps:=ps) hI h hr
  exact ⟨y,ks,O,fz,h1,p1,x,us,rfl,r1⟩
 | .mv sh :: ps,v :: vs,xs,k,h,hv=>by
  simp only [AVCs] at hv
  obtain ⟨x,us,cs,rfl,hc,hval,hr⟩:=hv
  simp only [outsOut] at h
  obtain ⟨y1,ts,rs',O1,fz1,h1,p1,s1,a1,_,_⟩:=qdz hI (RM.run_wp h) hc
  simp only [RM.wp] at h1
  obtain ⟨y,ks,O,fz,h2,p2,r2⟩:=qij hI h1 hr
  exact ⟨(y1,y),ts++ks,O1++O,fz1++fz,h2,p1.append p2,x,us,cs,O1,O,rfl,by rw [← a1];exact hval,s1.regx (by simp +contextual),rfl,r2.imp (fun _ _ h=>h) fun _ _ _ _ _ _ _ hs=>hs.regx (by simp +contextual)⟩
 | .io sh :: ps,v :: vs,xs,k,h,hv=>by
  cases v with
  | ptr b p u =>
   cases p with
   | cons _ _=>simp [outsOut] at h
   | nil =>
   simp only [AVCs] at hv
   obtain ⟨x,us,cs,rfl,hc,hval,hr⟩:=hv
   simp only [AVC] at hc
   obtain ⟨hKb,o,hko,rfl⟩:=hc
   have hp0:=qad (show ValOf false _ x from hval)
   simp only [outsOut] at h
   split at h
   ·rename_i t c hlk
    cases hsm:sh.ty.same t with
    | false=>rw [hsm] at h;simp at h
    | true =>
     rw [hsm] at h
     have hty:=qbe hsm
     subst hty
     simp only [cond_true] at h
     obtain ⟨hk,hd,cells,e,hbb,hvv,hlen,hone,hf⟩:=hI.blks b _ hlk
     obtain ⟨y1,ts,rs',O1,fz1,h1,p1,s1,_,l1,_⟩:=qdz hI (RM.run_wp h) hvv
     simp only [RM.wp] at h1
     obtain ⟨y,ks,O,fz,h2,p2,r2⟩:=qij hI h1 hr
     rw [hk] at hko
     have ho:=qxk hko
     rw [ho,hd] at hp0
     exact ⟨(y1,y),b :: ts++ks,(ι b).c :: O1++O,fz1++fz,h2,.keep ⟨⟨_,hlk⟩,by rw [hk];rfl,rfl⟩ (p1.append p2),(ι b).c,us,cells,e,O1,O,by rw [hp0],hbb,hlen,⟨⟨hone.1,fun hq=>hone.2.1 (qq4 (RM.run_wp h) hq),hone.2.2⟩,fun j hl=>hI.cover b _ hlk (by rw [hk];rfl) hl j (Inf.has_box hk j)⟩,s1.regx (by simp +contextual),rfl,r2.imp (fun _ _ h=>h) fun _ _ _ _ _ _ _ hs=>hs.regx (by simp +contextual)⟩
   ·simp at h
  | _=>simp [outsOut] at h
 | .io _ :: _,[],_,_,h,_=>by simp [outsOut] at h
 | .mv _ :: _,[],_,_,h,_=>by simp [outsOut] at h
 | .tk _ :: _,[],_,_,h,_=>by simp [outsOut] at h
 | .v _ :: _,[],_,_,h,_=>by simp [outsOut] at h
 | .ro _ :: _,[],_,_,h,_=>by simp [outsOut] at h
 | .fn _ :: _,[],_,_,h,_=>by simp [outsOut] at h
 | [],_ :: _,_,_,h,_=>by simp [outsOut] at h
end
end Go.Tm
namespace Go.Tm
open Go
theorem qaob {P:Program} {w:World} {S:Nat→Prop} {W:Nat→Nat→Prop} {O:List Nat} (hS : ∀ c,S c→c<w.heap.size∧c∉O):InvR P ⟨w,S,(· ∈ O),W⟩ (fun _=>⟨0,0,.nilrow .unit⟩) (fun _=>False) [] w S :=
 ⟨⟨rfl,rfl,Nat.le_refl _⟩,hS,fun _ _ _=>rfl,fun b x h=>by simp [look] at h,fun b x h=>by simp [look] at h,fun b x h=>by simp [look] at h,fun b b' x x' h=>by simp [look] at h,.refl _ _,fun b x h=>by simp [look] at h⟩
theorem qada {vs:List Value} : (if h:vs.toArray.size=1 then vs.toArray[0] else Value.tuple vs.toArray)=singleV vs:=by
 match vs with
 | []=>rfl
 | [v]=>rfl
 | u :: v :: r=>rfl
theorem qahw {P:Program} {fn:Func} {a:Act} {w:World} {ys:List Value} (h:(fn.results.toList.mapM (resSem a)).run P w = .ok ys w):(results fn a.tmps).run P w = .ok (singleV ys) w:=by
 have e:results fn a.tmps=(do let vs ← fn.results.mapM (resSem a);pure (if h:vs.size=1 then vs[0] else .tuple vs)):=by
  unfold results
  congr 1
 rw [e,Array.mapM_eq_mapM_toList,Sem.run_bind,Sem.run_map,h]
 simp only [Result.andThen_ok,Sem.run_pure]
 rw [qada]
theorem qahx {P:Program} {F:Fr} {ι:Nat→Inf} {K:Nat→Prop} {H:Heap} {w:World} {vs:List AV} {xs:List Value} (n:Nat) (h:AVCs P ι K w (Reg F ι H w) vs xs) :
  Slots P F ι K H w ⟨vs.length+(n-vs.length),fun i=>getL vs i⟩ (xs.toArray++Array.replicate (n-xs.toArray.size) undef):=by
 obtain ⟨h1,h2⟩:=qaan (n-vs.length) h
 refine ⟨by simp [h1,Tmps.length],fun t => ?_⟩
 have:=h2 t
 have e:(xs.toArray++Array.replicate (n-xs.toArray.size) undef).getD t undef=(xs++List.replicate (n-vs.length) undef).getD t undef:=by
  have hs:xs.toArray.size=vs.length:=by simp [h1]
  rw [hs,← List.toArray_replicate,List.append_toArray]
  simp [Array.getD_eq_getD_getElem?,List.getD_eq_getElem?_getD]
 rw [e]
 unfold getT
 rw [qq7]
 by_cases ht:t<vs.length+(n-vs.length)
 ·simp only [ht,decide_true,cond_true]
  exact this
 ·simp only [ht,decide_false,cond_false]
  rw [show (xs++List.replicate (n-vs.length) undef).getD t undef=undef from ?_]
  ·exact ⟨[_],by unfold AVC;exact ⟨_,rfl⟩,rfl⟩
  ·rw [List.getD_eq_getElem?_getD,List.getElem?_eq_none (by simp;omega)];rfl
theorem qwa {E:Env} (hE:EnvT E) {f:FuncId} {fn:Func} {anns:List (Nat×LA)} {e:Entry} (hf:E.P.funcs[f]? = some fn) (hname:(fn.name == "runtime.NumGoroutine")=false) (hflat:e.sig.flat=true) (heq : ∀ x y,e.F x=some y→body E anns fn e.sig x=some y):Sound E.P E.G f e:=by
 refine ⟨hflat,fun w S W O args x y hgs hargs hOn hS hO hF => ?_⟩
 have hb:=heq x y hF
 unfold body at hb
 split at hb
 ·simp at hb
 ·rename_i c hc
  have hrun:(callFunc f args.toArray).run E.P w = .ok (.enter f args.toArray) w:=by
   unfold callFunc
   rw [Sem.run_bind,run_program,Result.andThen_ok,hf]
   simp only [hname,hc,Option.isNone_some,Bool.false_eq_true,if_false]
   rfl
  unfold Runs
  rw [hrun]
  show Calls E.P f args.toArray w _
  generalize hin:argsIn e.sig.params x 0=r at hb
  obtain ⟨vs,h,n⟩:=r
  rw [hflat] at hb
  simp only [cond_true] at hb
  let F:Fr:=⟨w,S,(· ∈ O),W⟩
  have hE:EnvS E F:=⟨hE,hgs⟩
  obtain ⟨ι,K,L,hvs⟩:=qjo (F:=F) (n:=0) (H:=[]) (qaob hS) (hargs.wide (W':=FW F) fun _ _ h _=>h) (fun c hc=>⟨fun ⟨b,x,hx,_⟩=>by simp [look] at hx,.inl hc⟩) hOn (fun b _ _ h=>h)
  rw [hin] at L hvs
  simp only [List.append_nil] at L hvs
  have hreg : ∀ c,S c→Reg F ι h w c:=fun c hc=>⟨.inl hc,(hS c hc).1,fun ho=>by
   rcases L.own c ho with ⟨b,x,hx,_⟩ | ho
   ·simp [look] at hx
   ·exact (hS c hc).2 ho⟩
  have hI:=L.inv.inv hreg
  have hvs':AVCs E.P ι K w (Reg F ι h w) vs args:=hvs.mono (fun _ h=>⟨h,rfl⟩) (fun c hc=>⟨hreg c hc,rfl⟩) (Nat.le_refl _)
  have hKn : ∀ b,K b→b<n:=fun b hb=>by
   rcases L.news b hb with h | h
   ·exact h.elim
   ·exact h.2
  refine calls_of_wp hf hc ?_
  have hon:On E.P F ι K ⟨⟨vs.length+(fn.ntmps-vs.length),fun i=>getL vs i⟩,h,n,[]⟩ { tmps:=args.toArray++Array.replicate (fn.ntmps-args.toArray.size) undef,defers:=[] } w:=⟨hI,qahx fn.ntmps hvs',rfl⟩
  have hend : ∀ ds,Goes E F y ds ⟨⟨vs.length+(fn.ntmps-vs.length),fun i=>getL vs i⟩,h,n,[]⟩ ι K { tmps:=args.toArray++Array.replicate (fn.ntmps-args.toArray.size) undef,defers:=[] } w
    (fun s'=>resOut E s' e.sig.res fn.results.toList fun r ks=>outsOut s' e.sig.params vs fun o js=>bif nodupN (ks++js) then some (r,o) else none)
    (fun a w'=>a.defers=[] ∧ ∃ v,(results fn a.tmps).run E.P w' = .ok v w' ∧ ∃ x,Ending.returned v = .returned x∧Outcome E.P w S W O e.sig args y x w'):=by
   intro ds s' ι' K' a' w' hk ho hs ha hK'
   obtain ⟨r,ks,O1,fz1,ys,h1,p1,r1,hm⟩:=qx2 hE ho hk
   obtain ⟨o,js,O2,fz2,h2,p2,r2⟩:=qij ho.inv h1 (hvs'.mono hs.known hs.reg hs.size)
   cases hnd:nodupN (ks++js) with
   | false=>rw [hnd] at h2;simp at h2
   | true =>
    rw [hnd] at h2
    have h2:=Option.some.inj h2
    subst h2
    have hn:=qii.1 hnd
    have hp:=p1.append p2
    refine ⟨ho.none,singleV ys,qahw hm,singleV ys,rfl,⟨ho.inv.same,ho.inv.stay⟩,fun c hc hco=>ho.inv.keep c hc hco,ys,O1,O2,rfl,hp.nodup ho.inv.pl hn,fun c hc => ?_,?_,?_⟩
    ·obtain ⟨b,_,⟨z,hz⟩,hr,e⟩:=hp.of c hc
     exact ⟨e▸ho.inv.mine b z hz hr,e▸ho.inv.exists hz hr⟩
    all_goals
     have hT : ∀ c,RegX F ι' s'.heap w' (fz1++fz2) c→(S c∨c∈O∨w.heap.size≤c)∧c<w'.heap.size∧c∉O1++O2:=by
      intro c hc
      rcases hc with hc | ⟨b,hb,z,hz,hr,e⟩
      ·refine ⟨hc.1,hc.2.1,fun hm=>hc.2.2 ?_⟩
       obtain ⟨b,_,⟨z,hz⟩,hr,e⟩:=hp.of c hm
       exact ⟨b,z,hz,hr,e⟩
      ·refine ⟨.inr (e▸ho.inv.mine b z hz hr),e▸ho.inv.exists hz hr,fun hm => ?_⟩
       obtain ⟨b2,_,hn2,hpl2⟩:=hp.apart hn c hm
       exact hn2 (ho.inv.pl _ _ c ⟨⟨z,hz⟩,hr,e⟩ hpl2▸hb)
    ·exact r1.imp (fun _ _ h=>h) fun _ _ _ _ _ hs=>(hs.regx (bs':=fz1++fz2) (by simp +contextual)).mono (fun c hc=>⟨hT c hc,rfl⟩) (fun _ _=>rfl)
    ·exact r2.imp (fun _ _ h=>h) fun _ _ _ _ _ _ _ hs=>(hs.regx (bs':=fz1++fz2) (by simp +contextual)).mono (fun c hc=>⟨hT c hc,rfl⟩) (fun _ _=>rfl)
  refine qama hE anns c hb hon hKn (hend _) (fun i => ?_) (hend _)
  intro s' ι' K' a' w' hk
  simp at hk
theorem qab {E:Env} (hE:EnvT E) {f:FuncId} {fn:Func} (anns:List (Nat×LA)) {e:Entry} (hf:E.P.funcs[f]? = some fn) (hname:(fn.name == "runtime.NumGoroutine")=false) (hflat:e.sig.flat=true) (heq : ∀ x,body E anns fn e.sig x=e.F x):Sound E.P E.G f e :=
 qwa hE hf hname hflat fun x _ h=>(heq x).trans h
end Go.Tm
namespace Go.Tm
open Go
def bitsF (k:FloatKind) (x q:Nat):Int:=bif isNan k x then (bif isNan k q then Int.ofNat q else Int.ofNat (nan k)) else Int.ofNat x
def bits32P:PrimD:=⟨[.flt .f32],.int .u32,fun x q=>bitsF .f32 x.1 q⟩
def bits64P:PrimD:=⟨[.flt .f64],.int .u64,fun x q=>bitsF .f64 x.1 q⟩
theorem qy9 {k:FloatKind} {b x:Nat} (h:canon k b=x):bitsF k x b=(b:Int):=by
 unfold bitsF
 subst h
 cases hn:isNan k b with
 | true=>rw [qcl,hn];rfl
 | false=>rw [qcl,hn,qao hn];rfl
section
variable {P : Program} {G : List (Nat × Obj)} {f : FuncId} {fn : Func}
theorem qahb (hf:P.funcs[f]? = some fn) (hname:(fn.name == "runtime.NumGoroutine")=false) (hb:fn.body.isNone=true) (hn:Extern.findNext fn=none) (he:Extern.find fn=some Extern.MathFloatBits.float32bits):PrimS P f bits32P:=by
 rintro w S x args ⟨v,us,rfl,⟨cs,⟨c,rfl,hc⟩,hv⟩,rfl⟩
 have hv:=qad (show ValOf false _ v from hv)
 subst hv
 refine ⟨c,.int .u32 c,by rw [run_callFunc_extern hf hname hb hn he];rfl,_,?_,rfl⟩
 show [Value.int .u32 c]=[Value.int .u32 (bitsF .f32 x.1 c)]
 rw [qy9 hc]
theorem qahc (hf:P.funcs[f]? = some fn) (hname:(fn.name == "runtime.NumGoroutine")=false) (hb:fn.body.isNone=true) (hn:Extern.findNext fn=none) (he:Extern.find fn=some Extern.MathFloatBits.float64bits):PrimS P f bits64P:=by
 rintro w S x args ⟨v,us,rfl,⟨cs,⟨c,rfl,hc⟩,hv⟩,rfl⟩
 have hv:=qad (show ValOf false _ v from hv)
 subst hv
 refine ⟨c,.int .u64 c,by rw [run_callFunc_extern hf hname hb hn he];rfl,_,?_,rfl⟩
 show [Value.int .u64 c]=[Value.int .u64 (bitsF .f64 x.1 c)]
 rw [qy9 hc]
def unSig (a b:Ty):Sig:=⟨[.v a],[.v (.val b)],false⟩
theorem qvx {a b:Ty} (ha:a.bears=false) (hb:b.bears=false) (hga:a.isAgg=false) (hgb:b.isAgg=false) {F:a.den→b.den}
  (h : ∀ (w:World) (x:a.den) (v:Value),Rep w (fun _=>False) a x [v] → ∃ u w',(callFunc f #[v]).run P w = .ok (.value u) w'∧w'.heap=w.heap∧w'.os=w.os∧w'.output=w.output∧Rep w (fun _=>False) b (F x) [u]) :
  Sound P G f ⟨unSig a b,fun x=>some ((F x.1,()),())⟩:=by
 refine ⟨?_,?_⟩
 ·simp [unSig,Sig.flat,PK.flat,RK.sh,Sh.flat,hb]
 ·intro w S W O args x y _ hargs hnd hS hO hy
  obtain ⟨v,us,rfl,⟨cs,hr,hv⟩,rfl,rfl⟩:=hargs
  have hy:some ((F x.1,()),())=some y:=hy
  cases hy
  rw [hga] at hv
  have hl : ∃ u,cs=[u]:=by
   have hl:=hr.length
   cases a <;> simp_all [Ty.isAgg,Ty.size] <;> (match cs,hl with | [u],_=>exact ⟨u,rfl⟩)
  obtain ⟨u,rfl⟩:=hl
  have hvu:v=u:=qad hv
  subst hvu
  obtain ⟨u,w',hrun,h1,h2,h3,h4⟩:=h w x.1 v (hr.flat ha)
  show Comes' P _ ((callFunc f #[v]).run P w)
  rw [hrun]
  refine ⟨⟨⟨h2,h3,by rw [h1];exact Nat.le_refl _⟩,.keep fun c _=>by rw [h1]⟩,fun c _ _=>by rw [h1],[u],[],[],rfl,by simp,by simp,?_,?_⟩
  ·refine ⟨u,[],[u],[],[],rfl,?_,⟨?_,rfl⟩,rfl,rfl,rfl⟩
   ·show ValOf b.isAgg [u] u
    rw [hgb];rfl
   ·exact (h4.flat hb)
  ·exact ⟨v,[],rfl,rfl,rfl⟩
def qbj (n:Int):Option ((Nat×Unit)×Unit):=some ((canon .f32 n.toNat,()),())
def qd3:Entry:=⟨unSig (.int .u32) (.flt .f32),fun x=>qbj x.1⟩
def qm3 (n:Int):Option ((Nat×Unit)×Unit):=some ((canon .f64 n.toNat,()),())
def qf5:Entry:=⟨unSig (.int .u64) (.flt .f64),fun x=>qm3 x.1⟩
def qael (x:Nat):Option ((Nat×Unit)×Unit):=some ((orNan .f64 (FloatKind.f64.format.sqrt x),()),())
def qrp:Entry:=⟨unSig (.flt .f64) (.flt .f64),fun x=>qael x.1⟩
def fRound (way:Ieee.Toward) (x:Nat):Nat:=bif isNan .f64 x then nan .f64 else canon .f64 (FloatKind.f64.encode ((FloatKind.f64.decode x).integral way))
def qud (x:Nat):Option ((Nat×Unit)×Unit):=some ((fRound .down x,()),())
def qql:Entry:=⟨unSig (.flt .f64) (.flt .f64),fun x=>qud x.1⟩
theorem qpx (hf:P.funcs[f]? = some fn) (hname:(fn.name == "runtime.NumGoroutine")=false) (hb:fn.body.isNone=true) (hn:Extern.findNext fn=none) (he:Extern.find fn=some Extern.MathFloatBits.float32frombits):Sound P G f qd3:=by
 refine qvx (a:=.int .u32) (b:=.flt .f32) rfl rfl rfl rfl (F:=fun n:Int=>canon .f32 n.toNat) ?_
 intro w x v hr
 have:v = .int .u32 x:=by simpa [Rep] using hr
 subst this
 exact ⟨.float .f32 (Int.toNat x),w,by rw [run_callFunc_extern hf hname hb hn he];rfl,rfl,rfl,rfl,_,rfl,rfl⟩
theorem qpy (hf:P.funcs[f]? = some fn) (hname:(fn.name == "runtime.NumGoroutine")=false) (hb:fn.body.isNone=true) (hn:Extern.findNext fn=none) (he:Extern.find fn=some Extern.MathFloatBits.float64frombits):Sound P G f qf5:=by
 refine qvx (a:=.int .u64) (b:=.flt .f64) rfl rfl rfl rfl (F:=fun n:Int=>canon .f64 n.toNat) ?_
 intro w x v hr
 have:v = .int .u64 x:=by simpa [Rep] using hr
 subst this
 exact ⟨.float .f64 (Int.toNat x),w,by rw [run_callFunc_extern hf hname hb hn he];rfl,rfl,rfl,rfl,_,rfl,rfl⟩
theorem qag6 {x:Nat} (h:isNan .f64 x=true):FloatKind.f64.format.sqrt x=none:=by
 obtain ⟨s,f,e⟩:=qav.1 h
 simp [Ieee.Format.sqrt,e,Ieee.Datum.root]
theorem qajq (x:Nat):FloatKind.f64.format.sqrt (canon .f64 x)=FloatKind.f64.format.sqrt x:=by
 cases h:isNan .f64 x with
 | true=>rw [qag6 h,qag6 (by rw [qcl];exact h)]
 | false=>rw [qao h]
theorem qam8 (c:Nat) (w:World) : ∃ u w',(Extern.MathSqrt.sqrt #[.float .f64 c]).run P w = .ok (.float .f64 u) w'∧w'.heap=w.heap∧w'.os=w.os∧w'.output=w.output∧canon .f64 u=orNan .f64 (FloatKind.f64.format.sqrt c):=by
 have e:Extern.MathSqrt.sqrt #[.float .f64 c]=(match FloatKind.f64.format.sqrt c with
  | some r=>pure (Value.float .f64 r)
  | none=>do pure (Value.float .f64 (← choose (.nanBits .f64 c c))):Sem Value):=rfl
 rw [e]
 cases hs:FloatKind.f64.format.sqrt c with
 | some r=>exact ⟨r,w,rfl,rfl,rfl,rfl,rfl⟩
 | none =>
  simp only [Sem.run_bind,run_choose]
  rw [if_neg (by simp [Question.forced])]
  simp only [Result.andThen_ok,Sem.run_pure]
  exact ⟨_,_,rfl,rfl,rfl,rfl,qpd .f64 _ _ (.inr (.inl ⟨_,_,rfl⟩))⟩
theorem qabz (hf:P.funcs[f]? = some fn) (hname:(fn.name == "runtime.NumGoroutine")=false) (hb:fn.body.isNone=true) (hn:Extern.findNext fn=none) (he:Extern.find fn=some Extern.MathSqrt.sqrt):Sound P G f qrp:=by
 refine qvx (a:=.flt .f64) (b:=.flt .f64) rfl rfl rfl rfl (F:=fun x:Nat=>orNan .f64 (FloatKind.f64.format.sqrt x)) ?_
 intro w x v hr
 obtain ⟨c,hc,rfl⟩:=hr
 have:v = .float .f64 c:=by simpa using hc
 subst this
 obtain ⟨u,w',h1,h2,h3,h4,h5⟩:=qam8 (P:=P) c w
 rw [run_callFunc_extern hf hname hb hn he,h1]
 refine ⟨.float .f64 u,w',rfl,h2,h3,h4,u,rfl,?_⟩
 show canon .f64 u=orNan .f64 (FloatKind.f64.format.sqrt (canon .f64 c))
 rw [h5,qajq]
theorem qak2 (s:Bool) (t:Nat):isNan .f64 (FloatKind.f64.encode (.nan s (FloatKind.f64.format.quiet t)))=true:=by
 refine qav.2 ?_
 have key : ∀ r:Nat,r≠0→r<4503599627370496 → ∃ a b,FloatKind.f64.format.read (FloatKind.f64.format.word s (9218868437227405312+r)) = .nan a b:=by
  intro r h0 h1
  have e1:FloatKind.f64.format.binade=4503599627370496:=rfl
  have e2:FloatKind.f64.format.infRung=9218868437227405312:=rfl
  have e3:FloatKind.f64.format.signWeight=9223372036854775808:=rfl
  have hm:FloatKind.f64.format.word s (9218868437227405312+r)%9223372036854775808=9218868437227405312+r:=by
   unfold Ieee.Format.word
   rw [e3]
   cases s <;> simp <;> omega
  unfold Ieee.Format.read
  simp only [e1,e2,e3,hm]
  rw [if_neg (by omega),if_neg (by omega),if_neg (by omega)]
  exact ⟨_,_,rfl⟩
 have e1:FloatKind.f64.format.binade=2^52:=rfl
 show ∃ a b,FloatKind.f64.format.read (FloatKind.f64.format.word s (9218868437227405312+(t ||| 2^51)%2^52)) = .nan a b
 refine key _ (fun h => ?_) (Nat.mod_lt _ (by decide))
 have:((t ||| 2^51)%2^52).testBit 51=true:=by
  rw [Nat.testBit_mod_two_pow,Nat.testBit_or,Nat.testBit_two_pow_self];simp
 rw [h] at this
 simp at this
theorem qag1 {way:Ieee.Toward} {name:String} (c:Nat) (w:World) : ∃ u w',(Extern.MathFloor.toIntegral name way #[.float .f64 c]).run P w = .ok (.float .f64 u) w'∧w'.heap=w.heap∧w'.os=w.os∧w'.output=w.output∧canon .f64 u=fRound way (canon .f64 c):=by
 unfold fRound
 rw [qcl]
 have e:Extern.MathFloor.toIntegral name way #[.float .f64 c]=(match FloatKind.f64.decode c with
  | .nan s t=>if FloatKind.f64.format.quiet t=t then pure (Value.float .f64 c) else do
   let kept ← choose (.extern "math.Floor,Ceil,Trunc,RoundToEven.signallingNaN kept" 2)
   pure (Value.float .f64 (if kept==1 then c else FloatKind.f64.encode (.nan s (FloatKind.f64.format.quiet t))))
  | d=>pure (Value.float .f64 (FloatKind.f64.encode (d.integral way))):Sem Value):=rfl
 rw [e]
 cases hN:isNan .f64 c with
 | true =>
  obtain ⟨s,t,e⟩:=qav.1 hN
  have e':FloatKind.f64.decode c = .nan s t:=e
  have hcn:canon .f64 c=nan .f64:=qdm hN
  rw [e']
  simp only [cond_true]
  split
  ·exact ⟨c,w,rfl,rfl,rfl,rfl,hcn⟩
  ·simp only [Sem.run_bind,run_choose]
   rw [if_neg (by simp [Question.forced])]
   simp only [Result.andThen_ok,Sem.run_pure]
   refine ⟨_,_,rfl,rfl,rfl,rfl,?_⟩
   split
   ·exact hcn
   ·exact qdm (qak2 s t)
 | false =>
  have hd : ∀ s t,FloatKind.f64.decode c ≠ .nan s t:=fun s t e=>by
   have:=qav.2 ⟨s,t,e⟩
   rw [hN] at this;simp at this
  rw [qao hN]
  simp only [cond_false]
  cases hdc:FloatKind.f64.decode c with
  | nan s t=>exact absurd hdc (hd s t)
  | infinity s=>exact ⟨_,w,rfl,rfl,rfl,rfl,rfl⟩
  | number s m e=>exact ⟨_,w,rfl,rfl,rfl,rfl,rfl⟩
theorem qahv {way:Ieee.Toward} {name:String} (hf:P.funcs[f]? = some fn) (hname:(fn.name == "runtime.NumGoroutine")=false) (hb:fn.body.isNone=true) (hn:Extern.findNext fn=none) (he:Extern.find fn=some (Extern.MathFloor.toIntegral name way)) :
  Sound P G f ⟨unSig (.flt .f64) (.flt .f64),fun x=>some ((fRound way x.1,()),())⟩:=by
 refine qvx (a:=.flt .f64) (b:=.flt .f64) rfl rfl rfl rfl (F:=fun x:Nat=>fRound way x) ?_
 intro w x v hr
 obtain ⟨c,hc,rfl⟩:=hr
 have:v = .float .f64 c:=by simpa using hc
 subst this
 obtain ⟨u,w',h1,h2,h3,h4,h5⟩:=qag1 (P:=P) (way:=way) (name:=name) c w
 rw [run_callFunc_extern hf hname hb hn he,h1]
 exact ⟨.float .f64 u,w',rfl,h2,h3,h4,u,rfl,h5⟩
end
end Go.Tm
namespace Go.Tm
open Go
def roundUp (n a:Nat):Nat:=(n+(a-1))/a*a
def Ty.al:Ty→Nat
 | .int k=>k.bits/8
 | .flt .f32=>4
 | .pair a b=>max a.al b.al
 | .arr _ t=>t.al
 | .bool=>1
 | .unit=>1
 | _=>8
def Ty.ends:Ty→Nat→Nat
 | .int k,o=>o+k.bits/8
 | .flt .f32,o=>o+4
 | .flt .f64,o=>o+8
 | .bool,o=>o+1
 | .unit,o=>o
 | .str,o=>o+16
 | .err,o=>o+16
 | .ref _,o=>o+8
 | .list _,o=>o+24
 | .arr n t,o=>o+n*roundUp (t.ends 0) t.al
 | .pair a b,o=>b.ends (roundUp o a.al+roundUp (a.ends 0) a.al)
def Ty.bytes (t:Ty):Nat:=roundUp (t.ends 0) t.al
def FitVec {α:Type} (F:α→Prop):(n:Nat)→Vec n α→Prop
 | 0,_=>True
 | n+1,x=>F x.1∧FitVec F n x.2
def intFit (k:IntKind) (n:Int):Prop:=k.min≤n∧n≤k.max
def fltTop:FloatKind→Nat
 | .f32=>4294967296
 | .f64=>18446744073709551616
def fltFit (k:FloatKind) (b:Nat):Prop:=canon k b=b∧b<fltTop k
def strFit (s:List UInt8):Prop:=s.length≤140737488351232
def listFit {α:Type} (F:α→Prop) (bytes:Nat) (l:List α):Prop:=l.length*bytes≤140737488351232 ∧ ∀ x∈l,F x
def Fit:(t:Ty)→t.den→Prop
 | .int k,n=>intFit k n
 | .flt k,b=>fltFit k b
 | .bool,_=>True
 | .str,s=>strFit s
 | .unit,_=>True
 | .pair a b,x=>Fit a x.1∧Fit b x.2
 | .arr n t,x=>FitVec (Fit t) n x
 | .list t,xs=>listFit (Fit t) t.bytes xs
 | .err,_=>False
 | .ref _,_=>False
mutual
def fitB (P:Program):Ty→TypeId→Bool
 | .int _,_=>true
 | .flt _,_=>true
 | .bool,_=>true
 | .str,_=>true
 | .unit,_=>true
 | .pair a b,i=>(match P.underlying i with
  | some (.struct fs)=>(match fs.toList with | f :: r=>fitB P a f.type&&fitR P b r | []=>false)
  | _=>false)
 | .arr _ t,i=>(match P.underlying i with | some (.array _ e)=>fitB P t e | _=>false)
 | .list t,i=>(match P.underlying i with | some (.slice e)=>fitB P t e&&Nat.beq (P.bytesOf e) t.bytes&&Nat.ble 1 t.size | _=>false)
 | _,_=>false
def fitR (P:Program):Ty→List Field→Bool
 | .unit,[]=>true
 | .pair a b,f :: r=>fitB P a f.type&&fitR P b r
 | _,_=>false
end
section
variable {H : Type} {enc : TypeId × Value → H} {P : Program} {w : World} {spare : Nat → Bool} {held : Bool}
theorem qajr {k:FloatKind} {fuel:Nat} {t:TypeId} {cs:List Value} {x:DataW H×List MemPlace} (ht:P.underlying t=some (.float k)) (h:DataW.trod enc P w 0 spare held fuel t cs=some x) : ∃ n,cs=[.float k n]∧x=(.lit (.float k n),[])∧(Lit.float k n).wf=true:=by
 cases fuel with
 | zero=>simp [DataW.trod] at h
 | succ n =>
  unfold DataW.trod at h
  rw [ht] at h
  split at h <;> simp_all
theorem qao9 (k:FloatKind):nan k<fltTop k:=by cases k <;> decide
theorem qafv {k:FloatKind} {b:Nat} (h:b<fltTop k):canon k b<fltTop k:=by
 unfold canon
 cases isNan k b with
 | false=>exact h
 | true=>exact qao9 k
def FitA (P:Program) (t:Ty):Prop:=∀ {H:Type} {enc:TypeId×Value→H} {w:World} {spare:Nat→Bool} {held:Bool} {i:TypeId} {fuel:Nat} {cs:List Value} {x:DataW H×List MemPlace},okTy P t i=true→fitB P t i=true →
 DataW.trod enc P w 0 spare held fuel i cs=some x→(x.1.weights P i).all (· ≤ reachBytes)=true → ∃ y,Rep w (fun c=>c<w.heap.size) t y cs∧Fit t y
def FitBo (P:Program) (b:Ty):Prop:=∀ {H:Type} {enc:TypeId×Value→H} {w:World} {spare:Nat→Bool} {held:Bool} {r:List Field} {o n:Nat} {cs:List Value} {xs:List (DataW H×List MemPlace)},okRest P b r o=true→fitR P b r=true→cs.length=o+b.size→xs.length=r.length →
 (∀ (j:Nat) (f:Field),r[j]? = some f→DataW.trod enc P w 0 spare held n f.type ((cs.drop f.offset).take (P.cellsOf f.type))=xs[j]?)→(DataW.weightsEach P (r.map (·.type)) (xs.map (·.1))).all (· ≤ reachBytes)=true →
 ∃ y,Rep w (fun c=>c<w.heap.size) b y (cs.drop o)∧Fit b y
theorem qj8 {t:Ty} {i:TypeId} (h:okTy P t i=true):P.cellsOf i=t.size:=by
 obtain ⟨f,hf,hs⟩:=info_of h
 simp [Program.cellsOf,hf,hs]
theorem qadr {t:Ty} {w:World} {S:Nat→Prop} {k:Nat} {cs:List Value} : ∀ (n j0:Nat),(∀ j,j<n → ∃ y,Rep w S t y ((cs.drop ((j0+j)*k)).take k)∧Fit t y)→cs.length=(j0+n)*k →
  ∃ v:Vec n t.den,RepVec (Rep w S t) n v (cs.drop (j0*k))∧FitVec (Fit t) n v
 | 0,j0,_,hl=>⟨(),by simp [RepVec,hl],trivial⟩
 | n+1,j0,h,hl=>by
  obtain ⟨y,hy,fy⟩:=h 0 (by omega)
  obtain ⟨v,hv,fv⟩:=qadr (t:=t) n (j0+1) (fun j hj=>by have:=h (j+1) (by omega);rw [show j0+1+j=j0+(j+1) by omega];exact this) (by rw [hl];congr 1;omega)
  refine ⟨(y,v),⟨_,_,?_,hy,hv⟩,fy,fv⟩
  rw [Nat.add_zero,Nat.add_mul,Nat.one_mul,← List.drop_drop,List.take_append_drop]
theorem qabu {t:Ty} {w:World} {S:Nat→Prop} {k c o:Nat} : ∀ (n i0:Nat),(∀ j,j<n → ∃ cs y,cs.length=k∧CellsAt w c (o+(i0+j)*k) cs∧Rep w S t y cs∧Fit t y) →
  ∃ (xs:List t.den) (vs:List Value),xs.length=n∧RepList (Rep w S t) xs vs∧CellsAt w c (o+i0*k) vs ∧ ∀ y∈xs,Fit t y
 | 0,_,_=>⟨[],[],rfl,rfl,fun j v h=>by simp at h,by simp⟩
 | n+1,i0,h=>by
  obtain ⟨cs,y,hl,hat,hy,fy⟩:=h 0 (by omega)
  obtain ⟨xs,vs,h1,h2,h3,h4⟩:=qabu (t:=t) n (i0+1) (fun j hj=>by have:=h (j+1) (by omega);rw [show i0+1+j=i0+(j+1) by omega];exact this)
  refine ⟨y :: xs,cs++vs,by simp [h1],⟨cs,vs,rfl,hy,h2⟩,fun j v hj => ?_,fun z hz => ?_⟩
  ·by_cases hjk:j<cs.length
   ·rw [List.getElem?_append_left hjk] at hj
    have:=hat j v hj
    rw [Nat.add_zero] at this
    exact this
   ·rw [List.getElem?_append_right (by omega)] at hj
    have:=h3 _ v hj
    rw [hl] at this hjk
    rw [show o+i0*k+j=o+(i0+1)*k+(j-k) by rw [Nat.add_mul,Nat.one_mul];omega]
    exact this
  ·rcases List.mem_cons.1 hz with e | hz
   ·subst e;exact fy
   ·exact h4 z hz
theorem qox {e:TypeId} : ∀ {l:List (DataW H)},(DataW.weightsAll P e l).all (· ≤ reachBytes)=true → ∀ d∈l,(d.weights P e).all (· ≤ reachBytes)=true
 | [],_,d,hd=>by simp at hd
 | a :: r,h,d,hd=>by
  simp only [DataW.weightsAll,List.all_append,Bool.and_eq_true] at h
  rcases List.mem_cons.1 hd with e | hd
  ·subst e;exact h.1
  ·exact qox h.2 d hd
theorem qah7 {α:Type} (F:α→Prop) (k:Nat):listFit F k []:=⟨by simp,by simp⟩
theorem qao6 : ∀ t:Ty,FitA P t∧FitBo P t:=by
 intro t
 have noB : ∀ t:Ty,(∀ a b,t ≠ .pair a b)→t ≠ .unit→FitBo P t:=by
  intro t h1 h2 H enc w spare held r o n cs xs h
  cases t <;> first | exact absurd rfl (h1 _ _) | exact absurd rfl h2 | (cases r <;> simp [okRest] at h)
 induction t with
 | int k =>
  refine ⟨?_,noB _ (by simp) (by simp)⟩
  intro H enc w spare held i fuel cs x hok _ h _
  simp only [okTy,Bool.and_eq_true] at hok
  obtain ⟨_,hu⟩:=hok
  split at hu
  ·rename_i l hl
   obtain rfl:l=k:=by simpa using hu
   obtain ⟨n,rfl,_,hw⟩:=DataW.trod_int hl h
   simp only [Lit.wf,Bool.and_eq_true,decide_eq_true_eq] at hw
   exact ⟨n,rfl,hw⟩
  ·simp at hu
 | flt k =>
  refine ⟨?_,noB _ (by simp) (by simp)⟩
  intro H enc w spare held i fuel cs x hok _ h _
  simp only [okTy,Bool.and_eq_true] at hok
  obtain ⟨_,hu⟩:=hok
  split at hu
  ·rename_i l hl
   obtain rfl:l=k:=by simpa using hu
   obtain ⟨n,rfl,_,hw⟩:=qajr hl h
   refine ⟨canon l n,⟨n,rfl,rfl⟩,qza l n,qafv ?_⟩
   cases l <;> simpa [Lit.wf,fltTop] using hw
  ·simp at hu
 | bool =>
  refine ⟨?_,noB _ (by simp) (by simp)⟩
  intro H enc w spare held i fuel cs x hok _ h _
  simp only [okTy,Bool.and_eq_true] at hok
  obtain ⟨_,hu⟩:=hok
  split at hu
  ·rename_i hl
   obtain ⟨n,rfl,_⟩:=DataW.trod_bool hl h
   exact ⟨n,rfl,trivial⟩
  ·simp at hu
 | str =>
  refine ⟨?_,noB _ (by simp) (by simp)⟩
  intro H enc w spare held i fuel cs x hok _ h hwt
  simp only [okTy,Bool.and_eq_true] at hok
  obtain ⟨_,hu⟩:=hok
  split at hu
  ·rename_i hl
   obtain ⟨s,rfl,rfl,_⟩:=DataW.trod_string hl h
   refine ⟨s.data.toList,by cases s;rfl,?_⟩
   simp only [DataW.weights,reachBytes,List.all_cons,List.all_nil,Bool.and_true,Array.length_toList] at hwt
   have h2:=of_decide_eq_true hwt
   show s.data.toList.length≤140737488351232
   simpa only [Array.length_toList] using h2
  ·simp at hu
 | unit =>
  have hB:FitBo P .unit:=by
   intro H enc w spare held r o n cs xs hok _ hl _ _ _
   refine ⟨(),?_,trivial⟩
   simp only [Ty.size] at hl
   simp [Rep,hl]
  refine ⟨?_,hB⟩
  intro H enc w spare held i fuel cs x hok _ h _
  have hsz:=qj8 hok
  simp only [okTy,Bool.and_eq_true] at hok
  obtain ⟨_,hu⟩:=hok
  split at hu
  ·rename_i fs hl
   obtain ⟨xs,n,_,_,hlen,_⟩:=DataW.trod_struct hl h
   rw [hsz] at hlen
   exact ⟨(),List.eq_nil_of_length_eq_zero hlen,trivial⟩
  ·simp at hu
 | err=>exact ⟨fun _ h=>by simp [fitB] at h,noB _ (by simp) (by simp)⟩
 | ref=>exact ⟨fun _ h=>by simp [fitB] at h,noB _ (by simp) (by simp)⟩
 | pair a b iha ihb =>
  have hB:FitBo P (.pair a b):=by
   intro H enc w spare held r o n cs xs hok hf hl hxl hx hwt
   cases r with
   | nil=>simp [okRest] at hok
   | cons f r =>
    cases xs with
    | nil=>simp at hxl
    | cons x xs =>
     simp only [okRest,Bool.and_eq_true] at hok
     obtain ⟨⟨ho,hoa⟩,hor⟩:=hok
     simp only [fitR,Bool.and_eq_true] at hf
     have ho:=Nat.eq_of_beq_eq_true ho
     simp only [List.map_cons,DataW.weightsEach,List.all_append,Bool.and_eq_true] at hwt
     have h0:=hx 0 f rfl
     simp only [List.getElem?_cons_zero] at h0
     obtain ⟨y,hy,fy⟩:=iha.1 hoa hf.1 h0 hwt.1
     simp only [Ty.size] at hl
     obtain ⟨z,hz,fz⟩:=ihb.2 (o:=o+a.size) (cs:=cs) (xs:=xs) hor hf.2 (by omega) (by simpa using hxl) (fun j g hj=>by simpa using hx (j+1) g (by simpa using hj)) hwt.2
     rw [ho,qj8 hoa] at hy
     refine ⟨(y,z),⟨_,_,?_,hy,hz⟩,fy,fz⟩
     rw [← List.drop_drop,List.take_append_drop]
  refine ⟨?_,hB⟩
  intro H enc w spare held i fuel cs x hok hf h hwt
  have hsz:=qj8 hok
  simp only [okTy,Bool.and_eq_true] at hok
  obtain ⟨_,hok⟩:=hok
  simp only [fitB] at hf
  split at hok
  ·rename_i fs hl
   rw [hl] at hf
   obtain ⟨xs,n,_,rfl,hlen,hxl,hx⟩:=DataW.trod_struct hl h
   simp only [DataW.weights,hl] at hwt
   cases hfl:fs.toList with
   | nil=>rw [hfl] at hok;simp at hok
   | cons f r =>
    rw [hfl] at hok
    simp only [hfl] at hf
    simp only [Bool.and_eq_true] at hok
    obtain ⟨⟨h0,h1⟩,h2⟩:=hok
    obtain ⟨y,hy,fy⟩:=hB (r:=f :: r) (o:=0) (cs:=cs) (xs:=xs) (by
     simp only [okRest,Bool.and_eq_true]
     exact ⟨⟨h0,h1⟩,by rw [Nat.zero_add];exact h2⟩) (by simp only [fitR];exact hf) (by rw [hlen,hsz,Nat.zero_add]) (by rw [hxl,← hfl];simp) (fun j g hj=>hx j g (by rw [← hfl] at hj;simpa using hj)) (by rw [← hfl];exact hwt)
    exact ⟨y,hy,fy⟩
  ·simp at hok
 | arr n t ih =>
  refine ⟨?_,noB _ (by simp) (by simp)⟩
  intro H enc w spare held i fuel cs x hok hf h hwt
  have hsz:=qj8 hok
  simp only [okTy,Bool.and_eq_true] at hok
  obtain ⟨_,hok⟩:=hok
  simp only [fitB] at hf
  split at hok
  ·rename_i m e hl
   rw [hl] at hf
   simp only [Bool.and_eq_true] at hok
   obtain ⟨hm,hoe⟩:=hok
   obtain rfl:=Nat.eq_of_beq_eq_true hm
   obtain ⟨xs,n,_,rfl,hlen,hxl,hx⟩:=DataW.trod_array hl h
   simp only [DataW.weights,hl] at hwt
   have hse:=qj8 hoe
   rw [hse] at hx
   obtain ⟨v,hv,fv⟩:=qadr (t:=t) (w:=w) (S:=fun c=>c<w.heap.size) (k:=t.size) (cs:=cs) m 0 (fun j hj=>by
    have hxj:=hx j hj
    rw [Nat.zero_add]
    cases hq:xs[j]? with
    | none=>rw [List.getElem?_eq_none_iff] at hq;omega
    | some q =>
     rw [hq] at hxj
     exact ih.1 hoe hf hxj (qox hwt q.1 (List.mem_map.2 ⟨q,List.mem_of_getElem? hq,rfl⟩))) (by rw [hlen,hsz,Nat.zero_add];rfl)
   rw [Nat.zero_mul,List.drop_zero] at hv
   exact ⟨v,hv,fv⟩
  ·simp at hok
 | list t ih =>
  refine ⟨?_,noB _ (by simp) (by simp)⟩
  intro H enc w spare held i fuel cs x hok hf h hwt
  simp only [okTy,Bool.and_eq_true] at hok
  obtain ⟨_,hok⟩:=hok
  simp only [fitB] at hf
  split at hok
  ·rename_i e hl
   rw [hl] at hf
   simp only [Bool.and_eq_true,Nat.ble_eq] at hf
   obtain ⟨⟨hfe,hbe⟩,hs1⟩:=hf
   have hbe:=Nat.eq_of_beq_eq_true hbe
   have hse:=qj8 hok
   rcases DataW.trod_slice hl h with ⟨rfl,rfl⟩ | ⟨a,len,cap,elems,rest,n,_,rfl,rfl,hb,hlc,hcm,hel,hx,_⟩
   ·exact ⟨[],⟨none,0,rfl,Nat.le_refl _,.inl rfl⟩,qah7 _ _⟩
   ·simp only [DataW.weights,hl,List.all_cons,List.all_append,Bool.and_eq_true,decide_eq_true_eq] at hwt
    obtain ⟨hw1,hw2,_⟩:=hwt
    rw [hse] at hx
    have hel2 : ∀ j,j<len → ∃ cs q,w.cells? 0 (a.add (j*t.size)) t.size=some cs∧elems[j]? = some q∧DataW.trod enc P w 0 spare held n e cs=some q:=by
     intro j hj
     have hxj:=hx j hj
     cases hq:elems[j]? with
     | none=>rw [List.getElem?_eq_none_iff] at hq;omega
     | some q =>
      rw [hq,Option.bind_eq_some_iff] at hxj
      obtain ⟨cs,h1,h2⟩:=hxj
      exact ⟨cs,q,h1,rfl,h2⟩
    have hsmall : ∀ len':Nat,len'=len→(len':Nat)*t.bytes≤140737488351232:=by
     intro len' e1
     rw [e1,← hbe]
     refine Nat.le_trans (Nat.mul_le_mul_right _ ?_) hw1
     simp [hel]
    by_cases h0:len=0
    ·subst h0
     exact ⟨[],⟨some a,cap,rfl,Nat.zero_le _,.inl rfl⟩,qah7 _ _⟩
    ·obtain ⟨b,off,spot⟩:=a
     have hspot:spot=none:=by
      obtain ⟨cs,q,h1,_⟩:=hel2 0 (by omega)
      obtain ⟨_,h2,h3⟩:=World.cells?_some h1
      have:=h3 0 (by omega)
      have hc0 : ∃ v,cs[0]? = some v:=by
       cases hh:cs[0]? with
       | none=>rw [List.getElem?_eq_none_iff] at hh;omega
       | some v=>exact ⟨v,rfl⟩
      obtain ⟨v,hv⟩:=hc0
      rw [hv] at this
      simpa [Addr.add] using World.cell?_spot this
     subst hspot
     have hadd : ∀ k,(⟨b,off,none⟩:Addr).add k=⟨b,off+k,none⟩:=fun k=>Go.WideShapes.add_plain ..
     have hblk:b<w.heap.size:=by
      obtain ⟨cs,q,h1,_⟩:=hel2 0 (by omega)
      rw [hadd] at h1
      exact World.cells?_block h1 hs1
     obtain ⟨xs,vs,h1,h2,h3,h4⟩:=qabu (t:=t) (w:=w) (S:=fun c=>c<w.heap.size) (k:=t.size) (c:=b) (o:=off) len 0 (fun j hj=>by
      obtain ⟨cs,q,g1,g2,g3⟩:=hel2 j hj
      obtain ⟨_,g4,g5⟩:=World.cells?_some g1
      obtain ⟨y,hy,fy⟩:=ih.1 hok hfe g3 (qox hw2 q.1 (List.mem_map.2 ⟨q,List.mem_of_getElem? g2,rfl⟩))
      refine ⟨cs,y,g4,fun p v hp => ?_,hy,fy⟩
      have hpl:p<t.size:=by
       have:=(List.getElem?_eq_some_iff.1 hp).1
       omega
      have:=g5 p hpl
      rw [hadd] at this
      have e1:(⟨b,off+j*t.size,none⟩:Addr).add p=⟨b,off+j*t.size+p,none⟩:=Go.WideShapes.add_plain ..
      rw [e1,hp] at this
      rw [Nat.zero_add];exact this)
     refine ⟨xs,⟨some ⟨b,off,none⟩,cap,?_,?_,.inr ⟨b,off,vs,rfl,hblk,?_,h2⟩⟩,⟨hsmall _ h1,h4⟩⟩
     ·show _=[Value.slice _ (List.length (α:=t.den) xs) cap]
      rw [h1]
     ·show List.length (α:=t.den) xs≤cap
      rw [h1];exact hlc
     ·have:=h3
      rw [Nat.zero_mul,Nat.add_zero] at this
      exact this
  ·simp at hok
end
end Go.Tm
namespace Go.Tm
open Go
def okPs (P:Program):List Ty→List TypeId→Bool
 | [],[]=>true
 | t :: ts,i :: is=>okTy P t i&&fitB P t i&&okPs P ts is
 | _,_=>false
def FitAll:(ts:List Ty)→domOf (ts.map PK.v)→Prop
 | [],_=>True
 | t :: ts,x=>Fit t x.1∧FitAll ts x.2
section
variable {H : Type} {enc : TypeId × Value → H} {P : Program} {w : World} {spare : Nat → Bool} {held : Bool}
theorem qaje {t:Ty} {i:TypeId} {v:Value} {r:Reach} {b:Nat} (hok:okTy P t i=true) (hf:fitB P t i=true) (hv:Value.okWide P w r b i v):ValOf t.isAgg v.cells.toList v:=by
 have one : ∀ {k:TypeDesc},P.underlying i=some k→t.isAgg=false→(match k with | .int _ | .float _ | .bool | .string | .slice _=>True | _=>False)→ValOf t.isAgg v.cells.toList v:=by
  intro k hk ha hkk
  rw [ha]
  simp only [Value.okWide,hk,Cell.okWide] at hv
  cases k <;> first | exact hkk.elim | skip
  all_goals cases v <;> first | rfl | simp_all [Cell.ok]
 cases t <;> simp only [okTy,Bool.and_eq_true] at hok <;> obtain ⟨_,hu⟩:=hok <;> split at hu <;> first
  | (simp at hu;done)
  | (rename_i hl;exact one hl rfl trivial)
  | (simp [fitB] at hf;done)
  | skip
 all_goals
  rename_i hl
  simp only [Value.okWide,hl] at hv
  obtain ⟨cs,rfl,_⟩:=hv
  simp [ValOf,Ty.isAgg,Value.cells]
theorem qafp {r:Reach} {b:Nat} : ∀ {ts:List Ty} {is:List TypeId} {vs:List Value} {ds:List (DataW H)} {ps:List MemPlace},okPs P ts is=true→DataW.TrodAll enc P w 0 spare held is vs ds ps →
  (∀ (j:Nat) i v,is[j]? = some i→vs[j]? = some v→Value.okWide P w r b i v)→(DataW.weightsEach P is ds).all (· ≤ reachBytes)=true → ∃ x,ArgsRep P w (fun c=>c<w.heap.size) (fun _ _=>True) (ts.map PK.v) x vs []∧FitAll ts x
 | [],[],[],[],_,_,_,_,_=>⟨(),⟨rfl,rfl⟩,trivial⟩
 | t :: ts,i :: is,v :: vs,d :: ds,_,ho,⟨p,q,hd,hr,_⟩,hv,hw=>by
  simp only [okPs,Bool.and_eq_true] at ho
  simp only [DataW.weightsEach,List.all_append,Bool.and_eq_true] at hw
  obtain ⟨fuel,hf⟩:=hd
  obtain ⟨y,hy,fy⟩:=(qao6 t).1 ho.1.1 ho.1.2 hf hw.1
  obtain ⟨x,hx,fx⟩:=qafp ho.2 hr (fun j i v hi hv'=>hv (j+1) i v (by simpa using hi) (by simpa using hv')) hw.2
  exact ⟨(y,x),⟨v,vs,rfl,⟨_,hy,qaje ho.1.1 ho.1.2 (hv 0 i v rfl rfl)⟩,hx⟩,fy,fx⟩
 | [],_ :: _,_,_,_,h,_,_,_=>by simp [okPs] at h
 | _ :: _,[],_,_,_,h,_,_,_=>by simp [okPs] at h
 | [],[],_ :: _,_,_,_,h,_,_=>by cases ‹List (DataW H)› <;> exact h.elim
 | [],[],[],_ :: _,_,_,h,_,_=>h.elim
 | _ :: _,_ :: _,[],_,_,_,h,_,_=>by cases ‹List (DataW H)› <;> exact h.elim
 | _ :: _,_ :: _,_ :: _,[],_,_,h,_,_=>h.elim
theorem qajz {w':World} {is:List TypeId} (hl:laidOutB P=true) (hr:(is.all fun t=>P.readableRec t&&Nat.blt t P.types.size)=true) (hb : ∀ k,k<w.heap.size→w'.heap[k]? = w.heap[k]?) :
  ∀ {vs:List Value} {ds:List (DataW H)} {ps:List MemPlace},DataW.TrodAll enc P w 0 (fun _=>true) true is vs ds ps→DataW.TrodAll enc P w' 0 (fun b=>decide (b<w.heap.size)) true is vs ds ps:=by
 induction is with
 | nil=>intro vs ds ps h;cases vs <;> cases ds <;> exact h
 | cons i is ih =>
  intro vs ds ps h
  simp only [List.all_cons,Bool.and_eq_true] at hr
  cases vs with
  | nil=>cases ds <;> exact h.elim
  | cons v vs =>
   cases ds with
   | nil=>exact h.elim
   | cons d ds =>
    obtain ⟨p,q,hd,hrest,e⟩:=h
    have hlt : ∀ x∈p,x.block<w.heap.size:=by obtain ⟨m,hm⟩:=hd;exact DataW.trod_lt m _ _ _ hm
    refine ⟨p,q,?_,ih hr.2 hrest,e⟩
    refine WideElems.Trod_stays hl hr.1.1 (by have:=hr.1.2;simp only [Nat.blt,Nat.ble_eq] at this;exact this) hd (fun x hx => ?_) (fun x hx=>by simpa using hlt x hx)
    cases x with
    | cell b o=>exact World.cell?_of_block (w:=w) (hb b (hlt _ hx))
    | map b=>exact hb b (hlt _ hx)
end
theorem Runs.calls {P:Program} {f:FuncId} {fn:Func} {c:Code} {args:Array Value} {w:World} {R:Value→World→Prop} (h:Runs P f args w R) (hf:P.funcs[f]? = some fn) (hname:(fn.name == "runtime.NumGoroutine")=false) (hc:fn.body=some c) :
  Calls P f args w fun e w' => ∃ x,e = .returned x∧R x w':=by
 unfold Runs at h
 have hrun:(callFunc f args).run P w = .ok (.enter f args) w:=by
  unfold callFunc
  rw [Sem.run_bind,run_program,Result.andThen_ok,hf]
  simp only [hname,hc,Option.isNone_some,Bool.false_eq_true,if_false]
  rfl
 rw [hrun] at h
 exact h
theorem qae8 {P:Program} {X:World→Prop} {f:FuncId} {fn:Func} {c:Code} {s:ChangeSpec} {H:Type} {enc:TypeId×Value→H} {ts:List Ty} {lk:Bool} {F:domOf (ts.map PK.v)→Option (resOf [RK.v (.val .bool)]×outOf (ts.map PK.v))} {rt:TypeId} {conds:List PathCond} {a:Assume}
  (hl:laidOutB P=true) (hr:(fn.params.toList.all fun t=>P.readableRec t&&Nat.blt t P.types.size)=true) (hvars:s.vars=[]) (hok:okPs P ts fn.params.toList=true) (hfn:P.funcs[f]? = some fn) (hname:(fn.name == "runtime.NumGoroutine")=false) (hc:fn.body=some c)
  (hs : ∀ W,X W → ∃ G,GS G W (fun c=>c<W.heap.size)∧Sound P G f ⟨⟨ts.map PK.v,[.v (.val .bool)],lk⟩,F⟩) (hF : ∀ x,FitAll ts x → ∃ o,F x=some ((true,()),o)) (hspec : ∀ ds:List (DataW H),ds.length=ts.length→s.fn H ds = { results:=[.lit (.bool true)],args:=ds }) (hrt:fn.resultTypes = #[rt]) (hrb:P.underlying rt=some .bool) :
  ∀ (W:World) (base:Nat) (args:Array Value) (ds gs:List (DataW H)) (before:List MemPlace),
   (∀ (j:Nat) t v,fn.params[j]? = some t→args[j]? = some v→Value.okWide P W .any base t v) →
   DataW.Whole enc P fn.params.toList s.vars false W args.toList ds gs before →
   conds.all (PathCond.test P ⟨fn.params.toList,ds,s.plain.varTypes P,gs⟩)=true →
   (DataW.weightsEach P (fn.params.toList++s.plain.varTypes P) (ds++gs)).all (· ≤ reachBytes)=true→X W →
   a.holds P (lone (Frame.enter P f args .normal) [] W) →
   Calls P f args W fun e W' => ∃ v,e = .returned v∧s.post enc P fn false true false false W args v W':=by
 intro W base args ds gs before hval hW _ hsz hX _
 obtain ⟨G,hG,hs⟩:=hs W hX
 have hW':=hW
 obtain ⟨p,q,hA,hV,rfl,hfz,hnd⟩:=hW
 rw [hvars] at hV
 obtain ⟨rfl,rfl⟩:=ChangeShapes.trodVars_none hV
 have hvt:s.plain.varTypes P=[]:=by
  simp [ChangeSpec.plain,DataSpec.varTypes,hvars]
 rw [hvt,List.append_nil,List.append_nil] at hsz
 obtain ⟨x,hx,fx⟩:=qafp hok hA (fun j i v hi hv=>hval j i v (by simpa using hi) (by simpa using hv)) hsz
 obtain ⟨o,ho⟩:=hF x fx
 have hlen:ds.length=ts.length:=by
  have h1 : ∀ {is:List TypeId} {vs:List Value} {ds:List (DataW H)} {ps:List MemPlace},DataW.TrodAll enc P W 0 (fun _=>true) true is vs ds ps→ds.length=is.length:=by
   intro is
   induction is with
   | nil=>intro vs ds ps h;cases vs <;> cases ds <;> first | rfl | exact h.elim
   | cons i is ih =>
    intro vs ds ps h
    cases vs with
    | nil=>cases ds <;> exact h.elim
    | cons v vs =>
     cases ds with
     | nil=>exact h.elim
     | cons d ds=>obtain ⟨p,q,_,hr,_⟩:=h;simp [ih hr]
  have h2 : ∀ {ts:List Ty} {is:List TypeId},okPs P ts is=true→is.length=ts.length:=by
   intro ts
   induction ts with
   | nil=>intro is h;cases is <;> simp_all [okPs]
   | cons t ts ih =>
    intro is h
    cases is with
    | nil=>simp [okPs] at h
    | cons i is=>simp only [okPs,Bool.and_eq_true] at h;simp [ih h.2]
  rw [h1 hA,h2 hok]
 have hrun:=hs.2 W (fun c=>c<W.heap.size) (fun _ _=>True) [] args.toList x _ hG hx List.nodup_nil (fun c hc=>⟨hc,by simp⟩) (by simp) ho
 rw [Array.toArray_toList] at hrun
 refine (hrun.calls hfn hname hc).mono fun e W' hh => ?_
 obtain ⟨v,rfl,⟨hsame,_⟩,hkeep,vs,O1,O2,rfl,hnd2,hOO,hres,hout⟩:=hh
 obtain ⟨v1,us,cs,O3,O4,rfl,hval1,⟨hrep,_⟩,_,hus,_⟩:=hres
 subst hus
 have hcs:cs=[.bool true]:=hrep
 subst hcs
 obtain rfl:v1 = .bool true:=by
  have:ValOf false [Value.bool true] v1:=hval1
  simpa [ValOf] using this.symm
 have hblk : ∀ k,k<W.heap.size→W'.heap[k]? = W.heap[k]?:=fun k hk=>hkeep k hk (by simp)
 have e:s.fn H (ds++[]) = { results:=[.lit (.bool true)],args:=ds }:=by rw [List.append_nil];exact hspec ds hlen
 refine ⟨_,rfl,ds,[],p++[],[],p,[],hW',?_,?_,?_,?_,fun h=>by cases h⟩
 ·rw [e,hrt]
  exact ChangeShapes.trodAll_mk1 (RowKit.shut_bool hrb true)
 ·rw [e]
  exact qajz hl hr hblk hA
 ·rw [e,hvars]
  rfl
 ·refine ⟨hsame.1,hsame.2.1,fun i hi => ?_⟩
  rw [hblk i hi]
  split <;> simp_all
end Go.Tm
namespace Go.Tm
open Go
theorem qaei {P:Program} : ∀ {l:List (Nat×Ty)},(l.all fun p=>okTy P p.2 p.1)=true → ∀ i t,lookT l i=some t→okTy P t i=true
 | [],_,i,t,h=>by simp [lookT] at h
 | (j,u) :: r,hl,i,t,h=>by
  simp only [List.all_cons,Bool.and_eq_true] at hl
  simp only [lookT] at h
  cases hb:Nat.beq j i with
  | true =>
   rw [hb] at h
   simp only [cond_true,Option.some.injEq] at h
   rw [← Nat.eq_of_beq_eq_true hb,← h]
   exact hl.1
  | false =>
   rw [hb] at h
   exact qaei hl.2 i t h
def eqsB (P:Program) (l:List (Nat×Ty)) (es:List Nat):Bool:=es.all fun i=>match lookT l i with
 | some t=>eqTy P t i && !(P.eqGuardType P.depth i)&&Nat.ble t.deep 10000
 | none=>true
def AllS (P:Program) (G:List (Nat×Obj)):List (Nat×Entry)→Prop
 | []=>True
 | (i,e) :: r=>Sound P G i e∧AllS P G r
theorem qaeg {P:Program} {G:List (Nat×Obj)} : ∀ {l:List (Nat×Entry)},AllS P G l → ∀ f e,lookF l f=some e→Sound P G f e
 | [],_,f,e,h=>by simp [lookF] at h
 | (j,u) :: r,hl,i,t,h=>by
  simp only [lookF] at h
  cases hb:Nat.beq j i with
  | true =>
   rw [hb] at h
   simp only [cond_true,Option.some.injEq] at h
   rw [← Nat.eq_of_beq_eq_true hb,← h]
   exact hl.1
  | false =>
   rw [hb] at h
   exact qaeg hl.2 i t h
def AllP (P:Program):List (Nat×PrimD)→Prop
 | []=>True
 | (i,e) :: r=>PrimS P i e∧AllP P r
theorem qaeh {P:Program} : ∀ {l:List (Nat×PrimD)},AllP P l → ∀ f e,lookP l f=some e→PrimS P f e
 | [],_,f,e,h=>by simp [lookP] at h
 | (j,u) :: r,hl,i,t,h=>by
  simp only [lookP] at h
  cases hb:Nat.beq j i with
  | true =>
   rw [hb] at h
   simp only [cond_true,Option.some.injEq] at h
   rw [← Nat.eq_of_beq_eq_true hb,← h]
   exact hl.1
  | false =>
   rw [hb] at h
   exact qaeh hl.2 i t h
theorem qapj {P:Program} {l:List (Nat×Ty)} {es:List Nat} {fs:List (Nat×Entry)} {ps:List (Nat×PrimD)} {G:List (Nat×Obj)} (h1:(l.all fun p=>okTy P p.2 p.1)=true) (h2:eqsB P l es=true) (h3:P.follows .mixedOrders=true) (h4:AllS P G fs) (h5:AllP P ps) :
  EnvT { P:=P,tys:=lookT l,fns:=lookF fs,eqs:=es,prims:=lookP ps,G:=G }:=by
 refine ⟨⟨qaei h1,fun i hi t ht => ?_⟩,h3,qaeg h4,qaeh h5,fun f e h=>by cases h⟩
 have h:=List.all_eq_true.1 h2 i (qew.1 hi)
 have ht:lookT l i=some t:=ht
 rw [ht] at h
 simp only [Bool.and_eq_true,Bool.not_eq_true',Nat.ble_eq] at h
 exact ⟨h.1.1,h.1.2,h.2⟩
def AllE (P:Program):List (Nat×EatD)→Prop
 | []=>True
 | (i,e) :: r=>EatS P i e∧AllE P r
theorem qaef {P:Program} : ∀ {l:List (Nat×EatD)},AllE P l → ∀ f e,lookE l f=some e→EatS P f e
 | [],_,f,e,h=>by simp [lookE] at h
 | (j,u) :: r,hl,i,t,h=>by
  simp only [lookE] at h
  cases hb:Nat.beq j i with
  | true =>
   rw [hb] at h
   simp only [cond_true,Option.some.injEq] at h
   rw [← Nat.eq_of_beq_eq_true hb,← h]
   exact hl.1
  | false =>
   rw [hb] at h
   exact qaef hl.2 i t h
theorem qapi {P:Program} {l:List (Nat×Ty)} {es:List Nat} {fs:List (Nat×Entry)} {ps:List (Nat×PrimD)} {G:List (Nat×Obj)} {ts:List (Nat×EatD)} (h1:(l.all fun p=>okTy P p.2 p.1)=true) (h2:eqsB P l es=true) (h3:P.follows .mixedOrders=true) (h4:AllS P G fs) (h5:AllP P ps) (h6:AllE P ts) :
  EnvT { P:=P,tys:=lookT l,fns:=lookF fs,eqs:=es,prims:=lookP ps,G:=G,eats:=lookE ts }:=by
 have h:=qapj (G:=G) h1 h2 h3 h4 h5
 exact ⟨⟨h.ok.tys,h.ok.eqs⟩,h.mixed,h.fns,h.prims,qaef h6⟩
end Go.Tm
namespace Go.Tm
open Go Go.RowKit
def strings_Split (s sep:List UInt8):Option ((List (List UInt8)×Unit)×Unit):=bif Nat.ble 1 sep.length&&Nat.ble s.length 4294967280 then some ((Lib.split s sep,()),()) else none
def qc8:Entry:=⟨⟨[.v .str,.v .str],[.v (.rows .str)],false⟩,fun x=>strings_Split x.1 x.2.1⟩
def strings_Join (xs:List (List UInt8)) (sep:List UInt8):Option ((List UInt8×Unit)×Unit):=bif Nat.ble xs.length 140737488355328&&Nat.ble (Lib.join xs sep).length 140737488355328 then some ((Lib.join xs sep,()),()) else none
def strings_Join_en:Entry:=⟨⟨[.v (.list .str),.v .str],[.v (.val .str)],false⟩,fun x=>strings_Join x.1 x.2.1⟩
def qbp (n b:Int):Option ((List UInt8×Unit)×Unit):=bif iEq b 10&&(iLe (-9223372036854775808) n&&iLe n 9223372036854775807) then some ((Lib.itoa n,()),()) else none
def qfb:Entry:=⟨⟨[.v (.int .i64),.v (.int .i64)],[.v (.val .str)],false⟩,fun x=>qbp x.1 x.2.1⟩
def parseInt64 (s:List UInt8):Int×Bool:=match Lib.parseIntB 64 s with | .ok v=>(v,true) | .range=>(Lib.intSat 64 s,false) | _=>(0,false)
def qc7 (s:List UInt8) (b z:Int):Option ((Int×(Bool×Unit))×Unit):=bif iEq b 10&&(iEq z 64&&Nat.ble s.length 281474976710656) then some (((parseInt64 s).1,(parseInt64 s).2,()),()) else none
def strconv_ParseInt_en:Entry:=⟨⟨[.v .str,.v (.int .i64),.v (.int .i64)],[.v (.val (.int .i64)),.v (.val .err)],false⟩,fun x=>qc7 x.1 x.2.1 x.2.2.1⟩
theorem qx8 {s sep:List UInt8} {y} (h:strings_Split s sep=some y):1≤sep.length∧s.length≤4294967280∧((Lib.split s sep,()),())=y:=by
 unfold strings_Split at h
 cases hc:(Nat.ble 1 sep.length&&Nat.ble s.length 4294967280) with
 | false=>rw [hc] at h;simp at h
 | true =>
  rw [hc] at h
  simp only [Bool.and_eq_true,Nat.ble_eq] at hc
  exact ⟨hc.1,hc.2,Option.some.inj h⟩
theorem qy8 {xs:List (List UInt8)} {sep:List UInt8} {y} (h:strings_Join xs sep=some y):xs.length≤140737488355328∧(Lib.join xs sep).length≤140737488355328∧((Lib.join xs sep,()),())=y:=by
 unfold strings_Join at h
 cases hc:(Nat.ble xs.length 140737488355328&&Nat.ble (Lib.join xs sep).length 140737488355328) with
 | false=>rw [hc] at h;simp at h
 | true =>
  rw [hc] at h
  simp only [Bool.and_eq_true,Nat.ble_eq] at hc
  exact ⟨hc.1,hc.2,Option.some.inj h⟩
theorem qt0 {n b:Int} {y} (h:qbp n b=some y):b=10 ∧ -9223372036854775808≤n∧n≤9223372036854775807∧((Lib.itoa n,()),())=y:=by
 unfold qbp at h
 cases hc:(iEq b 10&&(iLe (-9223372036854775808) n&&iLe n 9223372036854775807)) with
 | false=>rw [hc] at h;simp at h
 | true =>
  rw [hc] at h
  simp only [Bool.and_eq_true,iEq,iLe,beq_iff_eq,decide_eq_true_eq] at hc
  exact ⟨hc.1,hc.2.1,hc.2.2,Option.some.inj h⟩
theorem qu1 {s:List UInt8} {b z:Int} {y} (h:qc7 s b z=some y):b=10∧z=64∧s.length≤281474976710656∧(((parseInt64 s).1,(parseInt64 s).2,()),())=y:=by
 unfold qc7 at h
 cases hc:(iEq b 10&&(iEq z 64&&Nat.ble s.length 281474976710656)) with
 | false=>rw [hc] at h;simp at h
 | true =>
  rw [hc] at h
  simp only [Bool.and_eq_true,iEq,beq_iff_eq,Nat.ble_eq] at hc
  exact ⟨hc.1,hc.2.1,hc.2.2,Option.some.inj h⟩
section
variable {P : Program} {G : List (Nat × Obj)} {f : FuncId} {fn : Func}
theorem qc4 {args:Array Value} {w:World} {R:Value→World→Prop} (hf:P.funcs[f]? = some fn) (hname:(fn.name == "runtime.NumGoroutine")=false) (hb:fn.body.isNone=false) (h:Calls P f args w fun e w' => ∃ x,e = .returned x∧R x w'):Runs P f args w R:=by
 have hrun:(callFunc f args).run P w = .ok (.enter f args) w:=by
  unfold callFunc
  rw [Sem.run_bind,run_program,Result.andThen_ok,hf]
  simp only [hname,hb,Bool.false_eq_true,if_false]
  rfl
 unfold Runs
 rw [hrun]
 exact h
theorem qafo (w:World) (o:Obj):w.heap.size<(w.alloc o).heap.size:=by
 show w.heap.size<(w.heap.push o).size
 simp
theorem qalr (w:World) (o:Obj):w.heap.size≤(w.alloc o).heap.size:=Nat.le_of_lt (qafo w o)
theorem qajx (w:World) (o:Obj):(w.alloc o).heap[w.heap.size]? = some o:=by
 show (w.heap.push o)[w.heap.size]? = _
 simp
theorem Lib.toL (s:ByteArray):(⟨s.data.toList.toArray⟩:ByteArray)=s:=by cases s;simp
theorem qv8 {w:World} {S:Nat→Prop} : ∀ l:List ByteArray,RepList (Rep w S .str) (l.map (·.data.toList)) (l.map Value.string)
 | []=>rfl
 | s :: l=>⟨[.string s],l.map Value.string,rfl,by show [Value.string s]=[.string ⟨s.data.toList.toArray⟩];rw [Lib.toL],qv8 l⟩
theorem qzj {w:World} {S:Nat→Prop} : ∀ {xs:List (List UInt8)} {cs:List Value},RepList (Rep w S .str) xs cs→cs=(xs.map fun x=>(⟨x.toArray⟩:ByteArray)).map Value.string
 | [],_,h=>h
 | x :: xs,_,⟨a,b,e,h1,h2⟩=>by rw [e,qzj h2,show a=[.string ⟨x.toArray⟩] from h1];rfl
theorem qahz {g:Nat} {ty:TypeId} (hf:P.funcs[f]? = some fn) (hname:(fn.name == "runtime.NumGoroutine")=false) (hb:fn.body.isNone=false)
  (hg : ∀ w S,GS G w S → ∃ m,w.cell? ⟨g,0,none⟩=some (.int .i64 m))
  (hc : ∀ (s sep:ByteArray) (m:Int) (w:World),s.size<4294967281→w.cell? ⟨g,0,none⟩=some (.int .i64 m)→1≤sep.size →
   Calls P f #[.string s,.string sep] w fun e w'=>e = .returned (.slice (some ⟨w.heap.size,0,none⟩) (Lib.countB s sep+1) (Lib.countB s sep+1))∧w'=w.alloc (.cells ((Lib.splitB sep 0 (Lib.countB s sep) s).map Value.string).toArray ty)) :
  Sound P G f qc8:=by
 refine ⟨rfl,fun w S W O args x y hgs hargs hnd hS hO hy => ?_⟩
 obtain ⟨v1,us,rfl,hv1,v2,us2,rfl,hv2,rfl,rfl⟩:=hargs
 obtain ⟨s,sep,_⟩:=x
 have hv1:=qbw.1 hv1
 have hv2:=qbw.1 hv2
 subst hv1;subst hv2
 obtain ⟨hc1,hc2,rfl⟩:=qx8 (show strings_Split s sep=some y from hy)
 have hcond:1≤List.length sep∧List.length s≤4294967280:=⟨hc1,hc2⟩
 ·skip
  obtain ⟨m,hm⟩:=hg w S hgs
  refine qc4 hf hname hb ((hc ⟨s.toArray⟩ ⟨sep.toArray⟩ m w (by rw [Lib.size_eq];simpa using Nat.lt_succ_of_le hcond.2) hm (by rw [Lib.size_eq];simpa using hcond.1)).mono ?_)
  rintro e w' ⟨rfl,rfl⟩
  have hsplit:Lib.split s sep=(Lib.splitB ⟨sep.toArray⟩ 0 (Lib.countB ⟨s.toArray⟩ ⟨sep.toArray⟩) ⟨s.toArray⟩).map (·.data.toList):=by
   rw [Lib.splitB_data];simp [Lib.split,Lib.countB]
  have hlen:=Lib.splitB_all ⟨sep.toArray⟩ (by rw [Lib.size_eq];simpa using hcond.1) 0 _ ⟨s.toArray⟩ rfl
  have hll:(Lib.split s sep).length=Lib.countB ⟨s.toArray⟩ ⟨sep.toArray⟩+1:=by rw [hsplit,List.length_map];exact hlen
  refine ⟨_,rfl,⟨⟨rfl,rfl,qalr w _⟩,.keep fun c hc=>Below.heap_alloc w _ c hc⟩,fun c hc _ => ?_,[_],[w.heap.size],[],rfl,by simp,?_,?_,?_⟩
  ·exact Below.heap_alloc w _ c hc
  ·intro c hc
   have:c=w.heap.size:=by simpa using hc
   subst this
   exact ⟨.inr (Nat.le_refl _),qafo w _⟩
  ·refine ⟨_,[],[.slice (some ⟨w.heap.size,0,none⟩) (List.length (Lib.split s sep)) (Lib.countB ⟨List.toArray s⟩ ⟨List.toArray sep⟩+1)],[w.heap.size],[],rfl,?_,?_,rfl,rfl,rfl⟩
   ·show [Value.slice _ (List.length (Lib.split s sep)) _]=_
    rw [hll]
   ·refine .inr ⟨w.heap.size,0,Lib.countB ⟨s.toArray⟩ ⟨sep.toArray⟩+1,_,_,(Lib.splitB ⟨sep.toArray⟩ 0 (Lib.countB ⟨s.toArray⟩ ⟨sep.toArray⟩) ⟨s.toArray⟩).map Value.string,rfl,Nat.le_of_eq hll,⟨Nat.succ_pos _,fun q=>(by cases q),fun j _ _ hl=>absurd hl (Nat.lt_irrefl _)⟩,rfl,qajx w _,?_,?_,?_⟩
    ·simp [Ty.size,hlen]
    ·show RepList _ (Lib.split s sep) _
     rw [hsplit]
     exact qv8 _
    ·intro j v hj
     simpa using hj
  ·exact ⟨_,_,rfl,_,_,rfl,rfl,rfl⟩
theorem qaek (xs:List (List UInt8)):(xs.map fun x=>(⟨x.toArray⟩:ByteArray)).map (·.data.toList)=xs:=by
 rw [List.map_map]
 conv=>rhs;rw [← List.map_id xs]
 congr 1
theorem qaki {xs:List (List UInt8)} {sep:List UInt8} {w:World} {c o cap:Nat}
  (hc : ∀ (bk o c:Nat) (xs:List ByteArray) (sep:ByteArray) (w:World),(∀ (j:Nat) x,xs[j]? = some x→w.cell? ⟨bk,o+j,none⟩=some (.string x))→bk<w.heap.size→xs.length≤140737488355328→xs.length≤c →
   (Lib.join (xs.map (·.data.toList)) sep.data.toList).length≤140737488355328 →
   Calls P f #[.slice (some ⟨bk,o,none⟩) xs.length c,.string sep] w fun e w'=>e = .returned (.string ⟨(Lib.join (xs.map (·.data.toList)) sep.data.toList).toArray⟩)∧Below w.heap.size w w')
  (hat:CellsAt w c o ((xs.map fun x=>(⟨x.toArray⟩:ByteArray)).map Value.string)) (hlt:c<w.heap.size) (h1:xs.length≤140737488355328) (h2:xs.length≤cap) (h3:(Lib.join xs sep).length≤140737488355328) :
  Calls P f #[.slice (some ⟨c,o,none⟩) xs.length cap,.string ⟨sep.toArray⟩] w fun e w'=>e = .returned (.string ⟨(Lib.join xs sep).toArray⟩)∧Below w.heap.size w w':=by
 have:=hc c o cap (xs.map fun x=>(⟨x.toArray⟩:ByteArray)) ⟨sep.toArray⟩ w (fun j x hj=>hat j _ (by rw [List.getElem?_map,hj];rfl)) hlt (by simpa using h1) (by simpa using h2) (by rw [qaek];simpa using h3)
 rw [List.length_map,qaek] at this
 simpa using this
theorem qai9 (hf:P.funcs[f]? = some fn) (hname:(fn.name == "runtime.NumGoroutine")=false) (hb:fn.body.isNone=false)
  (h0 : ∀ (a:Option Addr) (c:Nat) (sep:ByteArray) (w:World),Calls P f #[.slice a 0 c,.string sep] w fun e w'=>e = .returned (.string ⟨#[]⟩)∧w'=w)
  (hc : ∀ (bk o c:Nat) (xs:List ByteArray) (sep:ByteArray) (w:World),(∀ (j:Nat) x,xs[j]? = some x→w.cell? ⟨bk,o+j,none⟩=some (.string x))→bk<w.heap.size→xs.length≤140737488355328→xs.length≤c →
   (Lib.join (xs.map (·.data.toList)) sep.data.toList).length≤140737488355328 →
   Calls P f #[.slice (some ⟨bk,o,none⟩) xs.length c,.string sep] w fun e w'=>e = .returned (.string ⟨(Lib.join (xs.map (·.data.toList)) sep.data.toList).toArray⟩)∧Below w.heap.size w w') :
  Sound P G f strings_Join_en:=by
 refine ⟨rfl,fun w S W O args x y hgs hargs hnd hS hO hy => ?_⟩
 obtain ⟨v1,us,rfl,hv1,v2,us2,rfl,hv2,rfl,rfl⟩:=hargs
 obtain ⟨xs,sep,_⟩:=x
 have hv2:=qbw.1 hv2
 subst hv2
 obtain ⟨a,cap,rfl,hcap,hrep⟩:=qi1 hv1
 obtain ⟨hc1,hc2,rfl⟩:=qy8 (show strings_Join xs sep=some y from hy)
 have hcond:List.length xs≤140737488355328∧(Lib.join xs sep).length≤140737488355328:=⟨hc1,hc2⟩
 ·skip
  have fin : ∀ w',Below w.heap.size w w'→Outcome P w S W [] strings_Join_en.sig [.slice a (List.length xs) cap,.string ⟨List.toArray sep⟩] ((Lib.join xs sep,()),()) (.string ⟨(Lib.join xs sep).toArray⟩) w':=by
   intro w' hw
   refine ⟨⟨⟨hw.os,hw.output,hw.size⟩,.keep fun c hc=>hw.block c hc⟩,fun c hc _=>hw.block c hc,[_],[],[],rfl,by simp,by simp,?_,?_⟩
   ·exact ⟨_,[],[_],[],[],rfl,rfl,⟨rfl,rfl⟩,rfl,rfl,rfl⟩
   ·exact ⟨_,_,rfl,_,_,rfl,rfl,rfl⟩
  rcases hrep with h | ⟨c,o,cs,rfl,hSc,hat,hl⟩
  ·have hx:xs=[]:=List.length_eq_zero_iff.1 h
   subst hx
   refine qc4 hf hname hb ((h0 a cap ⟨sep.toArray⟩ w).mono ?_)
   rintro e w' ⟨rfl,rfl⟩
   exact ⟨_,rfl,fin _ (Below.refl _ _)⟩
  ·have hcs:=qzj hl
   refine qc4 hf hname hb ((qaki hc (hcs▸hat) (hS c hSc).1 hcond.1 hcap hcond.2).mono ?_)
   rintro e w' ⟨rfl,hw⟩
   exact ⟨_,rfl,fin w' hw⟩
theorem qaaw (hf:P.funcs[f]? = some fn) (hname:(fn.name == "runtime.NumGoroutine")=false) (hb:fn.body.isNone=false)
  (hg : ∀ w S,GS G w S→Lib.TabIs P w "internal/strconv.uint64pow10" .u64 Lib.pow10Tab)
  (hc : ∀ (n:Int),-9223372036854775808≤n→n≤9223372036854775807 → ∀ (w:World),Lib.TabIs P w "internal/strconv.uint64pow10" .u64 Lib.pow10Tab →
   Calls P f #[.int .i64 n,.int .i64 10] w fun e w'=>e = .returned (.string ⟨(Lib.itoa n).toArray⟩) ∧ ∃ k os,w'=Go.Sort.grow (w.drewN k) os) :
  Sound P G f qfb:=by
 refine ⟨rfl,fun w S W O args x y hgs hargs hnd hS hO hy => ?_⟩
 obtain ⟨v1,us,rfl,hv1,v2,us2,rfl,hv2,rfl,rfl⟩:=hargs
 obtain ⟨n,b,_⟩:=x
 have hv1:=qam.1 hv1
 have hv2:=qam.1 hv2
 subst hv1;subst hv2
 obtain ⟨hb10,h1,h2,rfl⟩:=qt0 (show qbp n b=some y from hy)
 ·have hb10:b=(10:Int):=hb10
  subst hb10
  refine qc4 hf hname hb ((hc n h1 h2 w (hg w S hgs)).mono ?_)
  rintro e w' ⟨rfl,k,os,rfl⟩
  have hkp : ∀ c,c<w.heap.size→(Go.Sort.grow (w.drewN k) os).heap[c]? = w.heap[c]?:=fun c hc=>by
   show (w.heap++os)[c]? = _
   rw [Array.getElem?_append_left hc]
  refine ⟨_,rfl,⟨⟨rfl,rfl,by simp [Go.Sort.grow,World.drewN]⟩,.keep hkp⟩,fun c hc _=>hkp c hc,[_],[],[],rfl,by simp,by simp,?_,?_⟩
  ·exact ⟨_,_,[_],[],[],rfl,rfl,⟨rfl,rfl⟩,rfl,rfl,rfl⟩
  ·exact ⟨_,_,rfl,_,_,rfl,rfl,rfl⟩
theorem qadv (s:List UInt8):(⟨s.toArray⟩:ByteArray).data.toList=s:=rfl
theorem qac7 {g1 g2:Nat} {ty T:TypeId} (hf:P.funcs[f]? = some fn) (hname:(fn.name == "runtime.NumGoroutine")=false) (hb:fn.body.isNone=false)
  (hg1 : ∀ w S,GS G w S → ∃ ev,w.cell? ⟨g1,0,none⟩=some ev∧(ev = .nilIface ∨ ∃ te pe,ev = .iface te pe))
  (hg2 : ∀ w S,GS G w S → ∃ ev,w.cell? ⟨g2,0,none⟩=some ev∧(ev = .nilIface ∨ ∃ te pe,ev = .iface te pe))
  (hok : ∀ (s:ByteArray),s.size≤9223372036854775806 → ∀ (v:Int),Lib.parseIntB 64 s.data.toList = .ok v → ∀ (w:World),
   Calls P f #[.string s,.int .i64 10,.int .i64 64] w fun e w'=>e = .returned (.tuple #[.int .i64 v,.nilIface])∧(w'=w ∨ ∃ t,w'=Lib.bytesWorld w ty t))
  (hsy : ∀ (s:ByteArray),s.size≤281474976710656→(∀ v,Lib.parseIntB 64 s.data.toList ≠ .ok v)→Lib.parseIntB 64 s.data.toList ≠ .range → ∀ (ev:Value) (w:World),w.cell? ⟨g1,0,none⟩=some ev→(ev = .nilIface ∨ ∃ te pe,ev = .iface te pe) →
   Calls P f #[.string s,.int .i64 10,.int .i64 64] w fun e w' => ∃ N,e = .returned (.tuple #[.int .i64 0,.iface T (.pointer (some ⟨N,0,none⟩))])∧Below w.heap.size w w')
  (hra : ∀ (s:ByteArray),s.size≤281474976710656→Lib.parseIntB 64 s.data.toList = .range → ∀ (ev:Value) (w:World),w.cell? ⟨g2,0,none⟩=some ev→(ev = .nilIface ∨ ∃ te pe,ev = .iface te pe) →
   Calls P f #[.string s,.int .i64 10,.int .i64 64] w fun e w' => ∃ N,e = .returned (.tuple #[.int .i64 (Lib.intSat 64 s.data.toList),.iface T (.pointer (some ⟨N,0,none⟩))])∧Below w.heap.size w w') :
  Sound P G f strconv_ParseInt_en:=by
 refine ⟨rfl,fun w S W O args x y hgs hargs hnd hS hO hy => ?_⟩
 obtain ⟨v1,us,rfl,hv1,v2,us2,rfl,hv2,v3,us3,rfl,hv3,rfl,rfl⟩:=hargs
 obtain ⟨s,b,z,_⟩:=x
 have hv1:=qbw.1 hv1
 have hv2:=qam.1 hv2
 have hv3:=qam.1 hv3
 subst hv1;subst hv2;subst hv3
 obtain ⟨hb10,hz,hl,rfl⟩:=qu1 (show qc7 s b z=some y from hy)
 ·have hb10:b=(10:Int):=hb10
  have hz:z=(64:Int):=hz
  subst hb10;subst hz
  have hl':(⟨List.toArray s⟩:ByteArray).size≤281474976710656:=by rw [Lib.size_eq];simpa using hl
  have fin : ∀ w' (v:Value),Below w.heap.size w w'→Rep w' (fun _=>False) .err (parseInt64 s).2 [v]→Outcome P w S W [] strconv_ParseInt_en.sig [.string ⟨List.toArray s⟩,.int .i64 10,.int .i64 64] (((parseInt64 s).1,(parseInt64 s).2,()),()) (.tuple #[.int .i64 (parseInt64 s).1,v]) w':=by
   intro w' v hw hv
   refine ⟨⟨⟨hw.os,hw.output,hw.size⟩,.keep fun c hc=>hw.block c hc⟩,fun c hc _=>hw.block c hc,[_,_],[],[],rfl,by simp,by simp,?_,?_⟩
   ·exact ⟨_,_,[_],[],[],rfl,rfl,⟨rfl,rfl⟩,rfl,_,_,[_],[],[],rfl,rfl,⟨hv.flat rfl,rfl⟩,rfl,rfl,rfl⟩
   ·exact ⟨_,_,rfl,_,_,rfl,_,_,rfl,rfl,rfl⟩
  unfold parseInt64 at fin ⊢
  cases h:Lib.parseIntB 64 s with
  | ok v =>
   rw [h] at fin
   refine qc4 hf hname hb ((hok ⟨s.toArray⟩ (Nat.le_trans hl' (by decide)) v (by simpa using h) w).mono ?_)
   rintro e w' ⟨rfl,hw⟩
   refine ⟨_,rfl,fin w' _ ?_ (.inl ⟨rfl,rfl⟩)⟩
   rcases hw with rfl | ⟨t,rfl⟩
   ·exact Below.refl _ _
   ·exact Lib.bytesWorld_below w ty t
  | range =>
   rw [h] at fin
   obtain ⟨ev,he,hev⟩:=hg2 w S hgs
   refine qc4 hf hname hb ((hra ⟨s.toArray⟩ hl' (by simpa using h) ev w he hev).mono ?_)
   rintro e w' ⟨N,rfl,hw⟩
   simp only [] at fin ⊢
   exact ⟨_,rfl,fin w' _ hw (.inr ⟨rfl,_,_,rfl⟩)⟩
  | _ =>
   rw [h] at fin
   obtain ⟨ev,he,hev⟩:=hg1 w S hgs
   refine qc4 hf hname hb ((hsy ⟨s.toArray⟩ hl' (fun v e=>nomatch h.symm.trans ((congrArg (Lib.parseIntB 64) (qadv s)).symm.trans e)) (fun e=>nomatch h.symm.trans ((congrArg (Lib.parseIntB 64) (qadv s)).symm.trans e)) ev w he hev).mono ?_)
   rintro e w' ⟨N,rfl,hw⟩
   exact ⟨_,rfl,fin w' _ hw (.inr ⟨rfl,_,_,rfl⟩)⟩
end
end Go.Tm
namespace Go.Tm
open Go Go.RowKit
def hexD (c:UInt8):Option Nat:=if 48≤c.toNat∧c.toNat≤57 then some (c.toNat-48) else if 97≤c.toNat∧c.toNat≤102 then some (c.toNat-87) else if 65≤c.toNat∧c.toNat≤70 then some (c.toNat-55) else none
def hexM:Nat→List UInt8→Option (Option Nat)
 | acc,[]=>some (some acc)
 | acc,c :: r =>
  match hexD c with
  | none=>none
  | some d=>if 4294967295<acc*16+d then some none else hexM (acc*16+d) r
def hexN:List UInt8→Option (Option Nat)
 | []=>none
 | c :: r=>hexM 0 (c :: r)
def parseHex (s:List UInt8):Int×Bool:=match hexN s with | none=>(0,false) | some none=>(4294967295,false) | some (some n)=>((n:Int),true)
def qcv (s:List UInt8) (b z:Int):Option ((Int×(Bool×Unit))×Unit):=bif iEq b 16&&(iEq z 32&&Nat.ble s.length 281474976710656) then some (((parseHex s).1,(parseHex s).2,()),()) else none
def qiq:Entry:=⟨⟨[.v .str,.v (.int .i64),.v (.int .i64)],[.v (.val (.int .u64)),.v (.val .err)],false⟩,fun x=>qcv x.1 x.2.1 x.2.2.1⟩
def qbg (x:Int):Option ((Int×Unit)×Unit):=bif iEq x 16 then some ((4,()),()) else none
def qev:Entry:=⟨⟨[.v (.int .u64)],[.v (.val (.int .i64))],false⟩,fun x=>qbg x.1⟩
def deb64:List Int:=[0,1,56,2,57,49,28,3,61,58,42,50,38,29,17,4,62,47,59,36,45,43,51,22,53,39,33,30,24,18,12,5,63,55,48,27,60,41,37,16,46,35,44,21,52,32,23,11,54,26,40,15,34,20,31,10,25,14,19,9,13,8,7,6]
theorem qt1 {s:List UInt8} {b z:Int} {y} (h:qcv s b z=some y):b=16∧z=32∧s.length≤281474976710656∧(((parseHex s).1,(parseHex s).2,()),())=y:=by
 unfold qcv at h
 cases hc:(iEq b 16&&(iEq z 32&&Nat.ble s.length 281474976710656)) with
 | false=>rw [hc] at h;simp at h
 | true =>
  rw [hc] at h
  simp only [Bool.and_eq_true,Nat.ble_eq,iEq,beq_iff_eq] at hc
  exact ⟨by simpa using hc.1,by simpa using hc.2.1,hc.2.2,Option.some.inj h⟩
theorem qafi {x:Int} {y} (h:qbg x=some y):x=16∧((4,()),())=y:=by
 unfold qbg at h
 cases hc:iEq x 16 with
 | false=>rw [hc] at h;simp at h
 | true =>
  rw [hc] at h
  exact ⟨by simpa [iEq] using hc,Option.some.inj h⟩
section
variable {P : Program} {G : List (Nat × Obj)} {f : FuncId} {fn : Func}
theorem qab1 {g1 g2:Nat} (hf:P.funcs[f]? = some fn) (hname:(fn.name == "runtime.NumGoroutine")=false) (hb:fn.body.isNone=false)
  (hg1 : ∀ w S,GS G w S → ∃ ev,w.cell? ⟨g1,0,none⟩=some ev∧(ev = .nilIface ∨ ∃ te pe,ev = .iface te pe))
  (hg2 : ∀ w S,GS G w S → ∃ ev,w.cell? ⟨g2,0,none⟩=some ev∧(ev = .nilIface ∨ ∃ te pe,ev = .iface te pe))
  (hc : ∀ (s:ByteArray),s.size≤281474976710656 → ∀ (w:World),(∃ ev,w.cell? ⟨g1,0,none⟩=some ev∧(ev = .nilIface ∨ ∃ te pe,ev = .iface te pe))→(∃ ev,w.cell? ⟨g2,0,none⟩=some ev∧(ev = .nilIface ∨ ∃ te pe,ev = .iface te pe)) →
   Calls P f #[.string s,.int .i64 16,.int .i64 32] w fun e w' => ∃ v,e = .returned (.tuple #[.int .u64 (parseHex s.data.toList).1,v])∧Below w.heap.size w w'∧(((parseHex s.data.toList).2=true∧v = .nilIface)∨((parseHex s.data.toList).2=false ∧ ∃ t p,v = .iface t p))) :
  Sound P G f qiq:=by
 refine ⟨rfl,fun w S W O args x y hgs hargs hnd hS hO hy => ?_⟩
 obtain ⟨v1,us,rfl,hv1,v2,us2,rfl,hv2,v3,us3,rfl,hv3,rfl,rfl⟩:=hargs
 obtain ⟨s,b,z,_⟩:=x
 have hv1:=qbw.1 hv1
 have hv2:=qam.1 hv2
 have hv3:=qam.1 hv3
 subst hv1;subst hv2;subst hv3
 obtain ⟨hb10,hz,hl,rfl⟩:=qt1 (show qcv s b z=some y from hy)
 have hb10:b=(16:Int):=hb10
 have hz:z=(32:Int):=hz
 subst hb10;subst hz
 have hl':(⟨List.toArray s⟩:ByteArray).size≤281474976710656:=by rw [Lib.size_eq];simpa using hl
 refine qc4 hf hname hb ((hc ⟨s.toArray⟩ hl' w (hg1 w S hgs) (hg2 w S hgs)).mono ?_)
 rintro e w' ⟨v,rfl,hw,hv⟩
 refine ⟨_,rfl,⟨⟨hw.os,hw.output,hw.size⟩,.keep fun c hc=>hw.block c hc⟩,fun c hc _=>hw.block c hc,[_,_],[],[],rfl,by simp,by simp,?_,?_⟩
 ·exact ⟨_,_,[_],[],[],rfl,rfl,⟨rfl,rfl⟩,rfl,_,_,[_],[],[],rfl,rfl,⟨by
   rcases hv with ⟨h1,h2⟩ | ⟨h1,t,p,h2⟩
   ·exact .inl ⟨h1,by rw [h2]⟩
   ·exact .inr ⟨h1,t,p,by rw [h2]⟩,rfl⟩,rfl,rfl,rfl⟩
 ·exact ⟨_,_,rfl,_,_,rfl,_,_,rfl,rfl,rfl⟩
theorem qadn (hf:P.funcs[f]? = some fn) (hname:(fn.name == "runtime.NumGoroutine")=false) (hb:fn.body.isNone=false)
  (hg : ∀ w S,GS G w S→Lib.TabIs P w "math/bits.deBruijn64tab" .u8 deb64)
  (hc : ∀ (w:World),Lib.TabIs P w "math/bits.deBruijn64tab" .u8 deb64→Calls P f #[.int .u64 16] w fun e w'=>e = .returned (.int .i64 4)∧w'=w) :
  Sound P G f qev:=by
 refine ⟨rfl,fun w S W O args x y hgs hargs hnd hS hO hy => ?_⟩
 obtain ⟨v1,us,rfl,hv1,rfl,rfl⟩:=hargs
 obtain ⟨n,_⟩:=x
 have hv1:=qam.1 hv1
 subst hv1
 obtain ⟨h16,rfl⟩:=qafi (show qbg n=some y from hy)
 have h16:n=(16:Int):=h16
 subst h16
 refine qc4 hf hname hb ((hc w (hg w S hgs)).mono ?_)
 rintro e w' ⟨rfl,rfl⟩
 refine ⟨_,rfl,⟨⟨rfl,rfl,Nat.le_refl _⟩,.keep fun c _=>rfl⟩,fun c _ _=>rfl,[_],[],[],rfl,by simp,by simp,?_,?_⟩
 ·exact ⟨_,_,[_],[],[],rfl,rfl,⟨rfl,rfl⟩,rfl,rfl,rfl⟩
 ·exact ⟨_,_,rfl,rfl,rfl⟩
end
end Go.Tm
namespace Go.Tm
open Go Go.RowKit
abbrev Bld:Type:=Unit×(List Int×Unit)
def bsh (T:Nat):Sh:=.pair (.val (.ref T)) (.pair (.rows (.int .u8)) (.val .unit))
def qfc (b:Bld):Option (Unit×(Bld×Unit)):=some ((),(b,()))
def bccEn (T:Nat):Entry:=⟨⟨[.io (bsh T)],[],true⟩,fun x=>qfc x.1⟩
def bldStr (b:Bld):Option (List UInt8):=bif !Nat.ble 1 b.2.1.length || !Nat.ble b.2.1.length 140737488355328 then none else some (ofBytes b.2.1)
theorem qahd {b:Bld} {s} (h:bldStr b=some s):b.2.1≠[]∧b.2.1.length≤140737488355328∧s=ofBytes b.2.1:=by
 unfold bldStr at h
 cases h1:Nat.ble 1 b.2.1.length <;> cases h2:Nat.ble b.2.1.length 140737488355328 <;> simp [h1,h2] at h
 rw [Nat.ble_eq] at h1 h2
 exact ⟨fun q=>by rw [q] at h1;simp at h1,h2,h.symm⟩
def bldEat (T:Nat):EatD:=⟨bsh T,.str,fun x=>bldStr x,some []⟩
theorem qao5 {cells:Array Value} {p v:Value} (h:cells.toList=[p]++[v]):cells = #[p,v]:=by apply Array.ext';simpa using h
theorem qagp {cs:List Value} (h:cs.length=1) : ∃ v,cs=[v]:=List.length_eq_one_iff.1 h
section
variable {P : Program} {G : List (Nat × Obj)} {f : FuncId} {fn : Func}
theorem qaaq {T:Nat} (hT:T≠0) (hf:P.funcs[f]? = some fn) (hname:(fn.name == "runtime.NumGoroutine")=false) (hb:fn.body.isNone=false)
  (hfr : ∀ (b:Nat) (w:World),w.cell? ⟨b,0,none⟩=some (.pointer none)→w.shape? b=some (T,2)→w.frozen? ⟨b,0,none⟩=false →
   Calls P f #[.pointer (some ⟨b,0,none⟩)] w fun e w'=>e = .returned (.tuple #[])∧w'=w.setCell ⟨b,0,none⟩ (.pointer (some ⟨b,0,none⟩)))
  (hus : ∀ (b:Nat) (w:World),w.cell? ⟨b,0,none⟩=some (.pointer (some ⟨b,0,none⟩)) →
   Calls P f #[.pointer (some ⟨b,0,none⟩)] w fun e w'=>e = .returned (.tuple #[])∧w'=w):Sound P G f (bccEn T):=by
 refine ⟨rfl,fun w S W O args x y hgs hargs hnd hS hO hy => ?_⟩
 obtain ⟨c,us,cells,e,O1,O2,rfl,hbl,hlen,hself,hsh,rfl,rfl,rfl⟩:=hargs
 have hy:((),(x.1,()))=y:=Option.some.inj hy
 subst hy
 obtain ⟨c1,d1,P1,P2,hcs,rfl,⟨hc1,rfl⟩,hd1⟩:=hsh
 obtain ⟨p,rfl⟩:=qagp hc1.length
 obtain ⟨v,rfl⟩:=qagp hd1.length
 have he:e=T:=hself.1.2.2 hT
 subst he
 have hcell:=qao5 hcs
 subst hcell
 have hp:p = .pointer none∨p = .pointer (some ⟨c,0,none⟩):=by have:=hself.1.2.1 rfl;simpa using this
 simp only [List.nil_append,List.append_nil] at hnd hS hO
 have hcP:c∉P2:=(List.nodup_cons.1 hnd).1
 have hone:v.oneCell'=true:=hd1.one v (by simp)
 have fin : ∀ w':World,w'.heap[c]? = some (.cells #[.pointer (some ⟨c,0,none⟩),v] e (0,0))→(∀ d,d≠c→w'.heap[d]? = w.heap[d]?)→Same w w'→c<w'.heap.size →
   Outcome P w S W (c :: ([]++P2)++[]) (bccEn e).sig [.pointer (some ⟨c,0,none⟩)] ((),(x.1,())) (.tuple #[]) w':=by
  intro w' h1 h2 h3 h4
  have hst:Stay W w w':=fun d cs e' z hd=>by
   by_cases hdc:d=c
   ·subst hdc
    rw [hbl] at hd;simp only [Option.some.injEq,Obj.cells.injEq] at hd
    obtain ⟨rfl,rfl,rfl⟩:=hd
    exact ⟨_,_,h1,rfl,fun j hj=>absurd (hself.2 j) hj⟩
   ·exact ⟨cs,_,(h2 d hdc).trans hd,rfl,fun _ _=>rfl⟩
  refine ⟨⟨h3,hst⟩,fun d _ hd=>h2 d (fun q=>hd (by simp [q])),[],[],c :: P2,rfl,hnd,?_,⟨rfl,rfl⟩,c,[],#[.pointer (some ⟨c,0,none⟩),v],e,P2,[],rfl,h1,rfl,⟨⟨?_,?_,fun _=>rfl⟩,fun j _=>hself.2 j⟩,?_,by simp,rfl,rfl⟩
  ·intro d hd
   refine ⟨.inl (by simpa using hd),Nat.lt_of_lt_of_le (hO d hd) h3.2.2⟩
  ·intro z hz
   simp only [List.mem_cons,List.mem_nil_iff,or_false] at hz
   rcases hz with rfl | rfl
   ·rfl
   ·exact hone
  ·intro _
   exact .inr rfl
  ·refine ⟨[.pointer (some ⟨c,0,none⟩)],[v],[],P2,rfl,rfl,⟨.inl ⟨_,rfl⟩,rfl⟩,(hd1.wide (W':=fun c j=>c<w.heap.size→W c j) fun _ _ h _=>h).mono (fun d hd => ?_) (fun d hd=>h2 d (fun q=>hcP (q▸hd)))⟩
   have hd':=hS d hd
   exact ⟨⟨.inl hd,Nat.lt_of_lt_of_le hd'.1 h3.2.2,by simpa using hd'.2⟩,h2 d (fun q=>hd'.2 (by simp [q]))⟩
 have hlt:c<w.heap.size:=hO c (by simp)
 rcases hp with rfl | rfl
 ·refine qc4 hf hname hb ((hfr c w (by simp [World.cell?,hbl]) (by simp [World.shape?,hbl]) (by simp [World.frozen?,hbl])).mono ?_)
  rintro ev w' ⟨rfl,rfl⟩
  refine ⟨_,rfl,fin _ ?_ ?_ ⟨rfl,rfl,by simp [World.setCell]⟩ (by simpa [World.setCell] using hlt)⟩
  ·simp [World.setCell,Array.getElem?_modify,hbl]
  ·intro d hd
   have hne:¬ c=d:=fun q=>hd q.symm
   simp [World.setCell,Array.getElem?_modify,hne]
 ·refine qc4 hf hname hb ((hus c w (by simp [World.cell?,hbl])).mono ?_)
  rintro ev w' ⟨rfl,rfl⟩
  exact ⟨_,rfl,fin _ hbl (fun _ _=>rfl) ⟨rfl,rfl,Nat.le_refl _⟩ hlt⟩
theorem qab3 {w:World} {S:Nat→Prop} : ∀ {xs:List Int} {vs:List Value},RepList (Rep w S (.int .u8)) xs vs→vs=xs.map (Value.int .u8)
 | [],_,h=>h
 | x :: xs,_,⟨a,b,e,h1,h2⟩=>by rw [e,qab3 h2,show a=[.int .u8 x] from h1];rfl
theorem qahh (W:World) (a:Addr) (n:Nat):(W.freeze a n).heap.size=W.heap.size:=by
 unfold World.freeze
 split
 ·rfl
 ·exact Array.size_modify
theorem qaf6 (W:World) (a:Addr) (n k:Nat) (h:¬ a.block=k):(W.freeze a n).heap[k]? = W.heap[k]?:=by
 unfold World.freeze
 split
 ·rfl
 ·show (W.heap.modify a.block _)[k]? = _
  rw [Array.getElem?_modify,if_neg h]
theorem qahi {V:Nat→Nat→Prop} (W:World) (a:Addr) (n:Nat) {k:Nat} {cs:Array Value} {e:TypeId} {z:Nat×Nat} (h:W.heap[k]? = some (.cells cs e z)) :
  ∃ (cs':Array Value) (z':Nat×Nat),(W.freeze a n).heap[k]? = some (.cells cs' e z')∧cs'.size=cs.size ∧ ∀ j:Nat,¬ V k j→cs'[j]? = cs[j]?:=by
 unfold World.freeze
 split
 ·exact ⟨cs,z,h,rfl,fun _ _=>rfl⟩
 ·show ∃ (cs':Array Value) (z':Nat×Nat),(W.heap.modify a.block _)[k]? = _∧_
  rw [Array.getElem?_modify]
  split
  ·rw [h];exact ⟨cs,_,rfl,rfl,fun _ _=>rfl⟩
  ·exact ⟨cs,z,h,rfl,fun _ _=>rfl⟩
theorem qahg (W:World) (a:Addr) (n:Nat):(W.freeze a n).os=W.os∧(W.freeze a n).output=W.output:=by
 unfold World.freeze
 split <;> exact ⟨rfl,rfl⟩
theorem qaiw {T:Nat} (hT:T≠0) (hf:P.funcs[f]? = some fn) (hname:(fn.name == "runtime.NumGoroutine")=false) (hb:fn.body.isNone=false)
  (hc : ∀ (b g d cap:Nat) (p:Value) (e:TypeId) (cur:Array Value) (l:List Int) (w:World),l≠[]→w.heap[b]? = some (.cells #[p,.slice (some ⟨g,d,none⟩) l.length cap] T (0,0))→w.heap[g]? = some (.cells cur e (0,0)) →
   okTy P (.int .u8) e=true→(∀ (j:Nat) (x:Int),l[j]? = some x→cur[d+j]? = some (.int .u8 x))→d+l.length≤cur.size→l.length≤cap→l.length≤140737488355328 →
   Calls P f #[.pointer (some ⟨b,0,none⟩)] w fun e w'=>e = .returned (.string ⟨(ofBytes l).toArray⟩)∧w'=w.drew.freeze ⟨g,d,none⟩ l.length)
  (hz : ∀ (b:Nat) (p:Value) (w:World),w.heap[b]? = some (.cells #[p,.slice none 0 0] T (0,0))→Calls P f #[.pointer (some ⟨b,0,none⟩)] w fun e w'=>e = .returned (.string .empty)∧w'=w.drew):EatS P f (bldEat T):=by
 refine ⟨?_,fun y hy w c cs t p hw hcs ht => ?_⟩
 rotate_left
 ·have hy:y=[]:=(Option.some.inj (show some []=some y from hy)).symm
  subst hy
  have ht:t=T:=ht hT
  subst ht
  have hcell:cs = #[p,.slice none 0 0]:=by apply Array.ext';exact hcs
  subst hcell
  refine qc4 hf hname hb ((hz c p w hw).mono ?_)
  rintro ev w' ⟨rfl,rfl⟩
  exact ⟨_,rfl,rfl,rfl,rfl,fun S=>qbw.2 rfl⟩
 intro w S W O args x y hargs hnd hS hO hy
 obtain ⟨⟨u0,l,u1⟩,u2⟩:=x
 obtain ⟨l,rfl⟩ : ∃ l':List Int,l'=l:=⟨l,rfl⟩
 obtain ⟨c,us,cells,e,O1,O2,rfl,hbl,hlen,hself,hsh,rfl,rfl,rfl⟩:=hargs
 obtain ⟨c1,d1,P1,P2,hcs0,rfl,⟨hc1,rfl⟩,d2,d3,Q2,Q3,rfl,rfl,hrows,hu,rfl⟩:=hsh
 obtain ⟨p,rfl⟩:=qagp hc1.length
 have hd3:d3=[]:=hu
 subst hd3
 have he:e=T:=hself.1.2.2 hT
 subst he
 obtain ⟨hne,hmax,rfl⟩:=qahd (show bldStr (u0,l,u1)=some y from hy)
 have hne:l≠[]:=hne
 have hmax:l.length≤140737488355328:=hmax
 rcases hrows with ⟨_,h0,_⟩ | ⟨g,d,cap,cur,e2,vs,rfl,hcap,⟨_,hpin,_⟩,rfl,hg,hsz,hrep,hcs⟩
 ·exact absurd (List.eq_nil_of_length_eq_zero h0) hne
 have hcap:l.length≤cap:=hcap
 have hcell:cells = #[p,.slice (some ⟨g,d,none⟩) l.length cap]:=by apply Array.ext';exact hcs0
 subst hcell
 have hvs:=qab3 (xs:=l) hrep
 subst hvs
 have hsz:d+cap≤cur.size:=by
  have:cap*Ty.size (.int .u8)=cap:=Nat.mul_one cap
  rw [this] at hsz
  exact hsz
 refine qc4 hf hname hb ((hc c g d cap p e2 cur l w hne hbl hg (hpin rfl) (fun j z hj=>hcs j _ (by rw [List.getElem?_map,hj];rfl)) (by omega) hcap hmax).mono ?_)
 rintro ev w' ⟨rfl,rfl⟩
 have hs:=qahg w.drew ⟨g,d,none⟩ l.length
 refine ⟨_,rfl,⟨⟨hs.1,hs.2,Nat.le_of_eq (qahh w.drew _ _).symm⟩,fun k cs ek z hk=>qahi w.drew ⟨g,d,none⟩ l.length hk⟩,fun k hk hkO => ?_,qbw.2 rfl⟩
 exact qaf6 w.drew ⟨g,d,none⟩ l.length k fun q=>hkO (by have q:g=k:=q;simp [q])
end
end Go.Tm
namespace Go.Tm
open Go Go.RowKit
section
variable {P : Program} {w : World}
theorem qaln (u:Ty) {z:Value} (hz:z.cells=(zc u).toArray) (n:Nat):(Builtin.zeroCells z.cells n).toList=(List.replicate n (zc u)).flatten:=by
 have hrow:=qaam (zc u) n u.size (qj6 u)
 have hzl:(zc u).toArray.size=u.size:=by rw [List.size_toArray,qj6]
 unfold Builtin.zeroCells
 rw [hz,hzl] 
 rw [hzl] at hrow
 rw [hrow]
theorem qv9 {t e ty:TypeId} {u:Ty} (he:P.underlying t=some (.slice e)) (hk:okTy P u e=true) {c o n cap:Nat} {cur:Array Value} {e':TypeId} (hn:0<n) (hb:w.heap[c]? = some (.cells cur e' (0,0))) (hl:o+n*u.size≤cur.size) :
  (Builtin.clear_ #[t] ty #[.slice (some ⟨c,o,none⟩) n cap]).run P w = .ok (.tuple #[]) (w.setRow c (over cur.toList o (List.replicate n (zc u)).flatten).toArray):=by
 obtain ⟨it,z,hit,hsz,hz,hzc⟩:=qj7 hk
 have hzl:=qaln u hzc n
 have hlen:(List.replicate n (zc u)).flatten.length=n*u.size:=by simp [qj6]
 have hone : ∀ v∈(List.replicate n (zc u)).flatten,v.oneCell'=true:=by
  intro v hv
  obtain ⟨l,hl,hv⟩:=List.mem_flatten.1 hv
  rw [List.eq_of_mem_replicate hl] at hv
  exact qacx u v hv
 have hst:=run_storeCells_at P c o e' _ 0 cur w hb (by rw [hlen];omega) hone
 simp only [Nat.add_zero] at hst
 obtain ⟨m,rfl⟩ : ∃ m,n=m+1:=⟨n-1,by omega⟩
 simp [Builtin.clear_,run_underlying he,zeroValue,typeInfo,hit,hz,hzl,hst,over]
theorem run_copy_row {dT sT ty e:TypeId} {u:Ty} (he:P.underlying dT=some (.slice e)) (hk:okTy P u e=true) {c o dLen dCap:Nat} {cur:Array Value} {e':TypeId} (hb:w.heap[c]? = some (.cells cur e' (0,0))) {a:Addr} {sLen sCap:Nat} {news:List Value}
  (hn:news.length=Nat.min sLen dLen*u.size) (hsrc : ∀ j v,news[j]? = some v→w.cell? (a.add j)=some v) (h1 : ∀ v∈news,v.oneCell'=true) (hl:o+news.length≤cur.size) :
  (Builtin.copy_ #[dT,sT] ty #[.slice (some ⟨c,o,none⟩) dLen dCap,.slice (some a) sLen sCap]).run P w = .ok (goInt (Nat.min sLen dLen)) (w.setRow c (over cur.toList o news).toArray):=by
 have hst:=run_storeCells_at P c o e' news 0 cur w hb (by omega) h1
 simp only [Nat.add_zero] at hst
 exact qg6 he hk rfl (run_firstCells_some w u.size _ a sLen sCap news hn hsrc) (by simpa [over] using hst)
theorem qoo {t t1 ty e e1:TypeId} {u:Ty} (he:P.underlying t=some (.slice e)) (hk:okTy P u e=true) (he1:P.underlying t1=some (.slice e1)) {c o n cap:Nat} {cur:Array Value} {e':TypeId} (hb:w.heap[c]? = some (.cells cur e' (0,0))) {a:Addr} {m mc:Nat} {news:List Value}
  (hn:news.length=m*u.size) (hsrc : ∀ j v,news[j]? = some v→w.cell? (a.add j)=some v) (h1 : ∀ v∈news,v.oneCell'=true) (hfit:n+m≤cap) (hl:o+n*u.size+news.length≤cur.size) :
  (Builtin.append_ #[t,t1] ty #[.slice (some ⟨c,o,none⟩) n cap,.slice (some a) m mc]).run P w = .ok (.slice (some ⟨c,o,none⟩) (n+m) cap) (w.setRow c (over cur.toList (o+n*u.size) news).toArray):=by
 have hst:=run_storeCells_at P c (o+n*u.size) e' news 0 cur w hb (by omega) h1
 simp only [Nat.add_zero] at hst
 have h2:=run_firstCells_some (P:=P) w u.size m a m mc news hn hsrc
 have h3:(Builtin.lenOf (.slice (some a) m mc)).run P w = .ok m w:=rfl
 simp [Builtin.append_,run_underlying he,run_underlying he1,qaw hk,h3,hfit,h2,addr_add,hst,over]
end
theorem quf {cur:List Value} {o:Nat} {vs:List Value} (h:o+vs.length≤cur.length) {j:Nat} {v:Value} (hv:vs[j]? = some v):(over cur o vs)[o+j]? = some v:=by
 have hj:=(List.getElem?_eq_some_iff.1 hv).1
 rw [qex h,if_neg (by omega),if_pos (by omega),show o+j-o=j by omega];exact hv
theorem qep {cur:List Value} {o:Nat} {vs:List Value} (h:o+vs.length≤cur.length) {j:Nat} (hj:j<o∨o+vs.length≤j):(over cur o vs)[j]? = cur[j]?:=by
 rw [qex h]
 rcases hj with hj | hj
 ·rw [if_pos hj]
 ·rw [if_neg (by omega),if_neg (by omega)]
def deleteF (t:Ty) (xs:List t.den) (i j:Int):Option ((List t.den×Unit)×Unit):=bif iLe 0 i&&(iLt i (lenI xs)&&iEq j (i+1)) then some ((xs.take i.toNat++xs.drop (i.toNat+1),()),()) else none
def deleteEn (t:Ty):Entry:=⟨⟨[.tk (.rows t),.v (.int .i64),.v (.int .i64)],[.v (.rows t)],false⟩,fun x=>deleteF t x.1 x.2.1 x.2.2.1⟩
theorem qafz {t:Ty} {xs:List t.den} {i j:Int} {y} (h:deleteF t xs i j=some y) : ∃ k:Nat,i=k∧k<xs.length∧j=((k+1:Nat):Int)∧y=((xs.take k++xs.drop (k+1),()),()):=by
 unfold deleteF at h
 cases hc:(iLe 0 i&&(iLt i (lenI xs)&&iEq j (i+1))) with
 | false=>rw [hc] at h;simp at h
 | true =>
  rw [hc] at h
  simp only [Bool.and_eq_true,iLe,iLt,iEq,beq_iff_eq,decide_eq_true_eq,lenI] at hc
  obtain ⟨k,rfl⟩:=Int.eq_ofNat_of_zero_le hc.1
  have hc1:(k:Int)<(xs.length:Int):=of_decide_eq_true hc.2.1
  refine ⟨k,rfl,by omega,by omega,?_⟩
  simpa using h.symm
def insertF (t:Ty) (xs:List t.den) (i:Int) (v:List t.den) (bytes:Nat):Option ((List t.den×Unit)×(List t.den×Unit)):=bif iLe 0 i&&(iLe i (lenI xs)&&(Nat.beq v.length 1&&room (xs.length+1) bytes)) then some ((xs.take i.toNat++v++xs.drop i.toNat,()),(v,())) else none
def insertEn (t:Ty) (bytes:Nat):Entry:=⟨⟨[.tk (.rows t),.v (.int .i64),.mv (.rows t)],[.v (.rows t)],false⟩,fun x=>insertF t x.1 x.2.1 x.2.2.1 bytes⟩
theorem qagb {t:Ty} {xs:List t.den} {i:Int} {v:List t.den} {bytes:Nat} {y} (h:insertF t xs i v bytes=some y) : ∃ k:Nat,i=k∧k≤xs.length∧v.length=1∧room (xs.length+1) bytes=true∧y=((xs.take k++v++xs.drop k,()),(v,())):=by
 unfold insertF at h
 cases hc:(iLe 0 i&&(iLe i (lenI xs)&&(Nat.beq v.length 1&&room (xs.length+1) bytes))) with
 | false=>rw [hc] at h;simp at h
 | true =>
  rw [hc] at h
  simp only [Bool.and_eq_true,iLe,decide_eq_true_eq,lenI] at hc
  obtain ⟨k,rfl⟩:=Int.eq_ofNat_of_zero_le hc.1
  have hc1:(k:Int)≤(xs.length:Int):=of_decide_eq_true hc.2.1
  refine ⟨k,rfl,by omega,Nat.eq_of_beq_eq_true hc.2.2.1,hc.2.2.2,?_⟩
  simpa using h.symm
section
variable {P : Program} {G : List (Nat × Obj)} {f : FuncId} {fn : Func}
theorem qag7 {w w':World} {W:Nat→Nat→Prop} {c d m:Nat} {cur X:Array Value} {e:TypeId} (hb:w.heap[c]? = some (.cells cur e (0,0))) (hX:X.size=cur.size) (hw:w'.heap=(w.setRow c X).heap)
  (hout : ∀ j,j<d∨d+m≤j→X[j]? = cur[j]?) (hW : ∀ j,d≤j→j<d+m→W c j):Stay W w w':=by
 intro k cs e' z hk
 by_cases hkc:k=c
 ·subst hkc
  rw [hb] at hk;simp only [Option.some.injEq,Obj.cells.injEq] at hk
  obtain ⟨rfl,rfl,rfl⟩:=hk
  refine ⟨X,(0,0),by rw [hw];exact setRow_same hb X,hX,fun j hj => ?_⟩
  by_cases h:d≤j∧j<d+m
  ·exact absurd (hW j h.1 h.2) hj
  ·exact hout j (by omega)
 ·exact ⟨cs,z,by rw [hw,setRow_other X hkc];exact hk,rfl,fun _ _=>rfl⟩
theorem qw4 {t:Ty} (hbr:t.bears=false) (hf:P.funcs[f]? = some fn) (hname:(fn.name == "runtime.NumGoroutine")=false) (hb:fn.body.isNone=false)
  (hc : ∀ (c d cap n i:Nat) (cur:Array Value) (e:TypeId) (moved:List Value) (w:World),w.heap[c]? = some (.cells cur e (0,0))→n≤cap→i<n→d+cap*t.size≤cur.size→moved.length=(n-(i+1))*t.size→(∀ j v,moved[j]? = some v→cur[d+(i+1)*t.size+j]? = some v)→(∀ v∈moved,v.oneCell'=true) →
   Calls P f #[.slice (some ⟨c,d,none⟩) n cap,.int .i64 i,.int .i64 ((i+1:Nat):Int)] w fun ev w'=>ev = .returned (.slice (some ⟨c,d,none⟩) (n-1) cap)∧w'.os=w.os∧w'.output=w.output∧w'.heap=(w.setRow c (over (over cur.toList (d+i*t.size) moved) (d+(n-1)*t.size) (zc t)).toArray).heap) :
  Sound P G f (deleteEn t):=by
 refine ⟨?_,fun w S W O args x y hgs hargs hnd hS hO hy => ?_⟩
 ·simp [Sig.flat,deleteEn,PK.flat,RK.sh,Sh.flat,hbr]
 obtain ⟨xs,iv,jv,u0⟩:=x
 obtain ⟨xs,rfl⟩ : ∃ xs':List t.den,xs'=xs:=⟨xs,rfl⟩
 obtain ⟨v1,us1,cs1,O1,O2,rfl,hval1,hsh1,rfl,v2,us2,rfl,hv2,v3,us3,rfl,hv3,rfl,rfl⟩:=hargs
 have hv2:=qam.1 hv2
 have hv3:=qam.1 hv3
 subst hv2;subst hv3
 obtain ⟨k,hik,hlt,hjk,rfl⟩:=qafz (show deleteF t xs iv jv=some y from hy)
 have hik:iv=(k:Int):=hik
 have hjk:jv=((k+1:Nat):Int):=hjk
 subst hik;subst hjk
 have hlt:k<List.length xs:=hlt
 rcases hsh1 with ⟨_,h0,_⟩ | ⟨c,d,cap,cells,e,vs,rfl,hcap,⟨hpos,hE,hW⟩,rfl,hbl,hsz,hrep,hat⟩
 ·exact absurd hlt (by rw [show List.length xs=0 from h0];omega)
 have hv1:v1 = .slice (some ⟨c,d,none⟩) (List.length xs) cap:=(qad (show ValOf false _ v1 from hval1))
 subst hv1
 have hcap:List.length xs≤cap:=hcap
 have hrep:RepList (Rep w S t) xs vs:=hrep
 have hvl:vs.length=List.length xs*t.size:=RepList.length (fun _ _ h=>h.length) hrep
 have hone : ∀ v∈vs,v.oneCell'=true:=RepList.all (fun _ _ h=>h.one) hrep
 generalize hn:List.length xs=n at *
 have hml:(vs.drop ((k+1)*t.size)).length=(n-(k+1))*t.size:=by
  rw [List.length_drop,hvl,← Nat.sub_mul]
 have hns:n*t.size≤cap*t.size:=Nat.mul_le_mul_right _ hcap
 have hks:(k+1)*t.size≤n*t.size:=Nat.mul_le_mul_right _ (by omega)
 have hks0:(k+1)*t.size=k*t.size+t.size:=by rw [Nat.add_mul,Nat.one_mul]
 have hn1:(n-1)*t.size=n*t.size-t.size:=by rw [Nat.sub_mul,Nat.one_mul]
 have hnk:(n-(k+1))*t.size=n*t.size-(k+1)*t.size:=Nat.sub_mul _ _ _
 refine qc4 hf hname hb ((hc c d cap n k cells e (vs.drop ((k+1)*t.size)) w hbl hcap hlt hsz hml (fun j v hj => ?_) (fun v hv=>hone v (List.mem_of_mem_drop hv))).mono ?_)
 ·rw [List.getElem?_drop] at hj
  have:=hat _ v hj
  rwa [show d+(k+1)*t.size+j=d+((k+1)*t.size+j) by omega]
 rintro ev w' ⟨rfl,hos,hout,hheap⟩
 have hl1:d+k*t.size+(vs.drop ((k+1)*t.size)).length≤cells.toList.length:=by rw [hml,Array.length_toList];omega
 have hL1:=qar hl1
 have hl2:d+(n-1)*t.size+(zc t).length≤(over cells.toList (d+k*t.size) (vs.drop ((k+1)*t.size))).length:=by rw [hL1,qj6,Array.length_toList];omega
 generalize hX:(over (over cells.toList (d+k*t.size) (vs.drop ((k+1)*t.size))) (d+(n-1)*t.size) (zc t)).toArray=X at hheap
 have hXs:X.size=cells.size:=by rw [← hX,List.size_toArray,qar hl2,hL1,Array.length_toList]
 have hXo : ∀ j,j<d∨d+cap*t.size≤j→X[j]? = cells[j]?:=by
  intro j hj
  rw [← hX,List.getElem?_toArray,qep hl2 (by rw [qj6];omega),qep hl1 (by rw [hml];omega),Array.getElem?_toList]
 have hXn : ∀ j v,(vs.take (k*t.size)++vs.drop ((k+1)*t.size))[j]? = some v→X[d+j]? = some v:=by
  intro j v hj
  have hkl:(vs.take (k*t.size)).length=k*t.size:=by rw [List.length_take,hvl];omega
  have hjl:j<k*t.size+(n-(k+1))*t.size:=by
   have:=(List.getElem?_eq_some_iff.1 hj).1
   rwa [List.length_append,hkl,hml] at this
  rw [← hX,List.getElem?_toArray,qep hl2 (.inl (by omega))]
  by_cases h:j<k*t.size
  ·rw [List.getElem?_append_left (by rw [hkl];exact h),List.getElem?_take_of_lt h] at hj
   rw [qep hl1 (.inl (by omega)),Array.getElem?_toList]
   exact hat j v hj
  ·rw [List.getElem?_append_right (by rw [hkl];omega),hkl] at hj
   have:=quf hl1 hj
   rwa [show d+k*t.size+(j-k*t.size)=d+j by omega] at this
 have hnew:w'.heap[c]? = some (.cells X e (0,0)):=by rw [hheap];exact setRow_same hbl X
 have hother : ∀ b,b≠c→w'.heap[b]? = w.heap[b]?:=fun b hbc=>by rw [hheap];exact setRow_other X hbc
 have hsize:w'.heap.size=w.heap.size:=by rw [hheap];exact setRow_size X
 have hclt:c<w.heap.size:=hO c (by simp)
 refine ⟨_,rfl,⟨⟨hos,hout,Nat.le_of_eq hsize.symm⟩,qag7 hbl hXs hheap hXo hW⟩,fun b _ hbO=>hother b (fun q=>hbO (by simp [q])),[.slice (some ⟨c,d,none⟩) (n-1) cap],[c],[],rfl,by simp,?_,?_,?_⟩
 ·intro b hbm
  simp only [List.append_nil,List.mem_singleton] at hbm
  subst hbm
  exact ⟨.inl (by simp),by rw [hsize];exact hclt⟩
 ·have hlen:List.length (xs.take k++xs.drop (k+1))=n-1:=by
   rw [List.length_append,List.length_take,List.length_drop,hn];omega
  refine ⟨_,[],[.slice (some ⟨c,d,none⟩) (n-1) cap],[c],[],rfl,rfl,.inr ⟨c,d,cap,X,e,vs.take (k*t.size)++vs.drop ((k+1)*t.size),by rw [← hlen],by rw [hlen];omega,⟨hpos,hE,fun j h1 h2 _=>hW j h1 h2⟩,rfl,hnew,by rw [hXs];exact hsz,?_,hXn⟩,by simp,rfl,rfl⟩
  refine RepList.mono (fun _ _ hx=>hx.mono fun b hbS => ?_) ((RepList.take (fun _ _ h=>h.length) k hrep).append (RepList.drop (fun _ _ h=>h.length) (k+1) hrep))
  have hb':=hS b hbS
  have hbc:b≠c:=fun q=>hb'.2 (by simp [q])
  exact ⟨⟨.inl hbS,by rw [hsize];exact hb'.1,by simpa using hbc⟩,hother b hbc⟩
 ·exact ⟨_,_,rfl,_,_,rfl,_,_,rfl,rfl,rfl⟩
def InsOut (P:Program) (t:Ty) (w:World) (a:Option Addr) (n cap:Nat) (all:List Value) (ev:Ending) (w':World):Prop :=
 w'.os=w.os∧w'.output=w.output ∧
 ((∃ (c d:Nat) (cur X:Array Value) (e:TypeId),a=some ⟨c,d,none⟩∧ev = .returned (.slice (some ⟨c,d,none⟩) (n+1) cap)∧n+1≤cap∧w.heap[c]? = some (.cells cur e (0,0))∧X.size=cur.size∧w'.heap=(w.setRow c X).heap ∧
   (∀ j:Nat,j<d∨d+cap*t.size≤j→X[j]? = cur[j]?) ∧ ∀ (j:Nat) (v:Value),all[j]? = some v→X[d+j]? = some v) ∨
  ∃ (cap':Nat) (cs:Array Value) (e:TypeId),ev = .returned (.slice (some ⟨w.heap.size,0,none⟩) (n+1) cap')∧n+1≤cap'∧w'.heap=w.heap.push (.cells cs e (0,0))∧okTy P t e=true∧cap'*t.size≤cs.size ∧ ∀ (j:Nat) (v:Value),all[j]? = some v→cs[j]? = some v)
theorem qagc {t:Ty} {bytes:Nat} (hbr:t.bears=false) (hf:P.funcs[f]? = some fn) (hname:(fn.name == "runtime.NumGoroutine")=false) (hb:fn.body.isNone=false)
  (hc : ∀ (a:Option Addr) (n cap i vb voff vcap:Nat) (vcur:Array Value) (ve:TypeId) (olds us:List Value) (w:World),i≤n→n≤cap→room (n+1) bytes=true →
   ((n=0∧cap=0) ∨ ∃ c d cur e,a=some ⟨c,d,none⟩∧c≠vb∧0<cap∧w.heap[c]? = some (.cells cur e (0,0))∧d+cap*t.size≤cur.size ∧ ∀ j v,olds[j]? = some v→cur[d+j]? = some v) →
   olds.length=n*t.size→us.length=t.size→(∀ v∈olds,v.oneCell'=true)→(∀ v∈us,v.oneCell'=true) →
   w.heap[vb]? = some (.cells vcur ve (0,0))→(∀ j v,us[j]? = some v→vcur[voff+j]? = some v) →
   Calls P f #[.slice a n cap,.int .i64 i,.slice (some ⟨vb,voff,none⟩) 1 vcap] w fun ev w'=>InsOut P t w a n cap (olds.take (i*t.size)++us++olds.drop (i*t.size)) ev w') :
  Sound P G f (insertEn t bytes):=by
 refine ⟨?_,fun w S W O args x y hgs hargs hnd hS hO hy => ?_⟩
 ·simp [Sig.flat,insertEn,PK.flat,RK.sh,Sh.flat,hbr]
 obtain ⟨xs,iv,vx,u0⟩:=x
 obtain ⟨xs,rfl⟩ : ∃ xs':List t.den,xs'=xs:=⟨xs,rfl⟩
 obtain ⟨vx,rfl⟩ : ∃ xs':List t.den,xs'=vx:=⟨vx,rfl⟩
 obtain ⟨v1,us1,cs1,O1,O2,rfl,hval1,hsh1,rfl,v2,us2,rfl,hv2,v3,us3,cs3,O3,O4,rfl,hval3,hsh3,rfl,rfl,rfl⟩:=hargs
 have hv2:=qam.1 hv2
 subst hv2
 obtain ⟨k,hik,hle,hvx,hroom,rfl⟩:=qagb (show insertF t xs iv vx bytes=some y from hy)
 have hik:iv=(k:Int):=hik
 subst hik
 rcases hsh3 with ⟨_,h0,_⟩ | ⟨vb,voff,vcap,vcur,ve,us,rfl,hvcap,⟨hvpos,hvE,hvW⟩,rfl,hvbl,hvsz,hvrep,hvat⟩
 ·have h0:List.length vx=0:=h0
  omega
 have hv3:v3 = .slice (some ⟨vb,voff,none⟩) (List.length vx) vcap:=qad (show ValOf false _ v3 from hval3)
 subst hv3
 have hvrep:RepList (Rep w S t) vx us:=hvrep
 have hvcap:List.length vx≤vcap:=hvcap
 have hul:us.length=t.size:=by rw [RepList.length (fun _ _ h=>h.length) hvrep,hvx,Nat.one_mul]
 have huone : ∀ v∈us,v.oneCell'=true:=RepList.all (fun _ _ h=>h.one) hvrep
 simp only [List.append_nil] at hnd hS hO ⊢
 obtain ⟨a,cap,vs,hv1,hcap,hvl,hrep,hone,hplace⟩ : ∃ (a:Option Addr) (cap:Nat) (vs:List Value),v1 = .slice a (List.length xs) cap∧List.length xs≤cap∧vs.length=List.length xs*t.size∧RepList (Rep w S t) xs vs∧(∀ v∈vs,v.oneCell'=true) ∧
   ((List.length xs=0∧cap=0∧O1=[]) ∨ ∃ c d cur e,a=some ⟨c,d,none⟩∧0<cap∧O1=[c]∧(RowE P t e ∧ ∀ j,d≤j→j<d+cap*t.size→W c j)∧w.heap[c]? = some (.cells cur e (0,0))∧d+cap*t.size≤cur.size ∧ ∀ j v,vs[j]? = some v→cur[d+j]? = some v):=by
  rcases hsh1 with ⟨⟨a,rfl⟩,h0,rfl⟩ | ⟨c,d,cap,cells,e,vs,rfl,hcap,⟨hpos,hE,hW⟩,rfl,hbl,hsz,hrep,hat⟩
  ·have h0:List.length xs=0:=h0
   have:xs=[]:=List.eq_nil_of_length_eq_zero h0
   subst this
   exact ⟨a,0,[],qad (show ValOf false _ v1 from hval1),Nat.le_refl _,by simp,rfl,by simp,.inl ⟨rfl,rfl,rfl⟩⟩
  ·have hrep:RepList (Rep w S t) xs vs:=hrep
   exact ⟨_,cap,vs,qad (show ValOf false _ v1 from hval1),hcap,RepList.length (fun _ _ h=>h.length) hrep,hrep,RepList.all (fun _ _ h=>h.one) hrep,.inr ⟨c,d,cells,e,rfl,hpos,rfl,⟨hE,hW⟩,hbl,hsz,hat⟩⟩
 subst hv1
 have hrepN:RepList (Rep w S t) (xs.take k++vx++xs.drop k) (vs.take (k*t.size)++us++vs.drop (k*t.size)) :=
  ((RepList.take (fun _ _ h=>h.length) k hrep).append hvrep).append (RepList.drop (fun _ _ h=>h.length) k hrep)
 have hlenN:List.length (xs.take k++vx++xs.drop k)=List.length xs+1:=by
  rw [List.length_append,List.length_append,List.length_take,List.length_drop,hvx];omega
 have hvO:vb∉O1:=fun q=>(List.nodup_append.1 hnd).2.2 vb q vb (by simp) rfl
 rw [hvx]
 refine qc4 hf hname hb ((hc a (List.length xs) cap k vb voff vcap vcur ve vs us w hle hcap hroom ?_ hvl hul hone huone hvbl hvat).mono ?_)
 ·rcases hplace with ⟨h0,h1,_⟩ | ⟨c,d,cur,e,rfl,hpos,rfl,_,hbl,hsz,hat⟩
  ·exact .inl ⟨h0,h1⟩
  ·exact .inr ⟨c,d,cur,e,rfl,fun q=>hvO (by simp [q]),hpos,hbl,hsz,hat⟩
 rintro ev w' ⟨hos,hout,hh⟩
 generalize hall:vs.take (k*t.size)++us++vs.drop (k*t.size)=all at *
 have hvlt:vb<w.heap.size:=hO vb (by simp)
 have fin : ∀ (O':List Nat) (r:Value),ev = .returned r→w.heap.size≤w'.heap.size→Stay W w w'→(∀ b,b<w.heap.size→b∉O1→w'.heap[b]? = w.heap[b]?)→(O'++[vb]).Nodup→(∀ b∈O',(b∈O1∨w.heap.size≤b)∧b<w'.heap.size) →
   ((∀ b,S b→b∉O')→ShR P w' (fun b=>(S b∨b∈O1++[vb]∨w.heap.size≤b)∧b<w'.heap.size∧b∉O'++[vb]) (fun b j=>b<w.heap.size→W b j) (.rows t) (xs.take k++vx++xs.drop k) [r] O') → ∃ x,ev = .returned x∧Outcome P w S W (O1++[vb]) (insertEn t bytes).sig [.slice a (List.length xs) cap,.int .i64 k,.slice (some ⟨vb,voff,none⟩) 1 vcap] ((xs.take k++vx++xs.drop k,()),(vx,())) x w':=by
  intro O' r hev hsz hst hkeep hnd' hO' hres
  have hSO' : ∀ b,S b→b∉O':=fun b hb hm=>by
   rcases (hO' b hm).1 with h | h
   ·exact (hS b hb).2 (by simp [h])
   ·have:=(hS b hb).1;omega
  refine ⟨r,hev,⟨⟨hos,hout,hsz⟩,hst⟩,fun b hb hbO=>hkeep b hb (fun q=>hbO (by simp [q])),[r],O',[vb],rfl,hnd',?_,?_,?_⟩
  ·intro b hbm
   rcases List.mem_append.1 hbm with h | h
   ·exact ⟨(hO' b h).1.imp (fun q=>by simp [q]) id,(hO' b h).2⟩
   ·simp only [List.mem_singleton] at h
    subst h
    exact ⟨.inl (by simp),Nat.lt_of_lt_of_le hvlt hsz⟩
  ·exact ⟨_,[],[r],O',[],rfl,rfl,hres hSO',by simp,rfl,rfl⟩
  ·refine ⟨_,_,rfl,_,_,rfl,_,[],[_],[vb],[],rfl,rfl,.inr ⟨vb,voff,vcap,vcur,ve,us,by rw [show List.length vx=1 from hvx],hvcap,⟨hvpos,hvE,fun j h1 h2 _=>hvW j h1 h2⟩,rfl,?_,hvsz,?_,hvat⟩,by simp,rfl,rfl⟩
   ·rw [hkeep vb hvlt hvO];exact hvbl
   ·refine RepList.mono (fun _ _ hx=>hx.mono fun b hbS => ?_) hvrep
    have hb':=hS b hbS
    have hbv:b≠vb:=fun q=>hb'.2 (by simp [q])
    exact ⟨⟨.inl hbS,Nat.lt_of_lt_of_le hb'.1 hsz,by simp [hbv,hSO' b hbS]⟩,hkeep b hb'.1 (fun q=>hb'.2 (by simp [q]))⟩
 rcases hh with ⟨c,d,cur,X,e,ha,hev,hfit,hbl',hXs,hheap,hXo,hXn⟩ | ⟨cap',cs,e,hev,hfit,hheap,hok,hcs,hcn⟩
 ·rcases hplace with ⟨_,h1,_⟩ | ⟨c2,d2,cur2,e2,ha2,hpos,rfl,⟨hE,hW⟩,hbl,hsz,hat⟩
  ·omega
  rw [ha2] at ha
  simp only [Option.some.injEq,Addr.mk.injEq,and_true] at ha
  obtain ⟨rfl,rfl⟩:=ha
  rw [hbl] at hbl'
  simp only [Option.some.injEq,Obj.cells.injEq,and_true] at hbl'
  obtain ⟨rfl,rfl⟩:=hbl'
  have hnew:w'.heap[c2]? = some (.cells X e2 (0,0)):=by rw [hheap];exact setRow_same hbl X
  have hother : ∀ b,b≠c2→w'.heap[b]? = w.heap[b]?:=fun b hbc=>by rw [hheap];exact setRow_other X hbc
  have hsize:w'.heap.size=w.heap.size:=by rw [hheap];exact setRow_size X
  refine fin [c2] _ hev (Nat.le_of_eq hsize.symm) (qag7 hbl hXs hheap hXo hW) (fun b _ hbO=>hother b (fun q=>hbO (by simp [q]))) hnd (fun b hbm => ?_) fun hSO => ?_
  ·simp only [List.mem_singleton] at hbm
   subst hbm
   exact ⟨.inl (by simp),by rw [hsize];exact hO b (by simp)⟩
  ·refine .inr ⟨c2,d2,cap,X,e2,all,by rw [hlenN],by rw [hlenN];exact hfit,⟨hpos,hE,fun j h1 h2 _=>hW j h1 h2⟩,rfl,hnew,by rw [hXs];exact hsz,?_,hXn⟩
   refine RepList.mono (fun _ _ hx=>hx.mono fun b hbS => ?_) hrepN
   have hb':=hS b hbS
   have hbc:b≠c2:=fun q=>hSO b hbS (by simp [q])
   have hbv:b≠vb:=fun q=>hb'.2 (by simp [q])
   exact ⟨⟨.inl hbS,by rw [hsize];exact hb'.1,by simp [hbc,hbv]⟩,hother b hbc⟩
 ·have hold : ∀ b,b<w.heap.size→w'.heap[b]? = w.heap[b]?:=fun b hb=>by rw [hheap,Array.getElem?_push,if_neg (by omega)]
  have hnew:w'.heap[w.heap.size]? = some (.cells cs e (0,0)):=by rw [hheap];simp
  have hsize:w'.heap.size=w.heap.size+1:=by rw [hheap];simp
  refine fin [w.heap.size] _ hev (by omega) (.keep hold) (fun b hb _=>hold b hb) (by simp;omega) (fun b hbm => ?_) fun hSO => ?_
  ·simp only [List.mem_singleton] at hbm
   subst hbm
   exact ⟨.inr (Nat.le_refl _),by omega⟩
  ·refine .inr ⟨w.heap.size,0,cap',cs,e,all,by rw [hlenN],by rw [hlenN];exact hfit,⟨by omega,fun _=>hok,fun j _ _ h=>absurd h (by omega)⟩,rfl,hnew,by omega,?_,fun j v hj=>by rw [Nat.zero_add];exact hcn j v hj⟩
   refine RepList.mono (fun _ _ hx=>hx.mono fun b hbS => ?_) hrepN
   have hb':=hS b hbS
   have hbv:b≠vb:=fun q=>hb'.2 (by simp [q])
   exact ⟨⟨.inl hbS,by omega,by simp [hbv];omega⟩,hold b hb'.1⟩
end
theorem qand {P:Program} {G:List (Nat×Obj)} {f:FuncId} {sg:Sig} {F1 F2:sg.dom→Option sg.cod} (h1:Sound P G f ⟨sg,F1⟩) (h2:Sound P G f ⟨sg,F2⟩):Sound P G f ⟨sg,fun x=>(F1 x).orElse fun _=>F2 x⟩:=by
 refine ⟨h1.1,fun w S W O args x y hgs hargs hnd hS hO hy => ?_⟩
 have hy:(F1 x).orElse (fun _=>F2 x)=some y:=hy
 cases hc:F1 x with
 | some z =>
  rw [hc] at hy
  exact h1.2 w S W O args x y hgs hargs hnd hS hO (hc.trans hy)
 | none =>
  rw [hc] at hy
  exact h2.2 w S W O args x y hgs hargs hnd hS hO hy
end Go.Tm
namespace Go.Tm
open Go Go.RowKit
def GMax (g:Nat) (G:List (Nat×Obj)):Prop:=∀ w S,GS G w S → ∃ m,w.cell? ⟨g,0,none⟩=some (.int .i64 m)
def GTab (P:Program) (G:List (Nat×Obj)):Prop:=∀ w S,GS G w S→Lib.TabIs P w "internal/strconv.uint64pow10" .u64 Lib.pow10Tab
def GErr (g:Nat) (G:List (Nat×Obj)):Prop:=∀ w S,GS G w S → ∃ ev,w.cell? ⟨g,0,none⟩=some ev∧(ev = .nilIface ∨ ∃ te pe,ev = .iface te pe)
theorem qzq {w:World} {a:Addr} {v:Value} (h:w.cell? a=some v) : ∃ o,w.heap[a.block]? = some o:=by
 unfold World.cell? at h
 cases ho:w.heap[a.block]? with
 | none=>rw [ho] at h;simp at h
 | some o=>exact ⟨o,rfl⟩
theorem qan2 {W:World} {g:Nat} {m:Int} {o:Obj} (ho:W.heap[g]? = some o) (h:W.cell? ⟨g,0,none⟩=some (.int .i64 m)) {G:List (Nat×Obj)} (hm:(g,o)∈G):GMax g G:=by
 intro w S hg
 refine ⟨m,?_⟩
 rw [← h]
 exact World.cell?_of_block ((hg _ hm).2.trans ho.symm)
theorem qah8 {W:World} {g:Nat} {t:TypeId} {p:Value} {o:Obj} (ho:W.heap[g]? = some o) (h:W.cell? ⟨g,0,none⟩=some (.iface t p)) {G:List (Nat×Obj)} (hm:(g,o)∈G):GErr g G:=by
 intro w S hg
 refine ⟨.iface t p,?_,.inr ⟨t,p,rfl⟩⟩
 rw [← h]
 exact World.cell?_of_block ((hg _ hm).2.trans ho.symm)
theorem qalh {P:Program} {W w:World} {n:String} {g:Nat} {cs:Array Value} (hn:P.globalNamed n=some g) (h:W.var? P n=some cs) (e:w.heap[g]? = W.heap[g]?):w.var? P n=some cs:=by
 unfold World.var? at *
 rw [hn] at *
 simp only [Option.bind_some] at *
 rw [e];exact h
theorem qan3 {P:Program} {W:World} {g:Nat} {o:Obj} (hn:P.globalNamed "internal/strconv.uint64pow10" = some g) (ho:W.heap[g]? = some o) (h:Lib.TabIs P W "internal/strconv.uint64pow10" .u64 Lib.pow10Tab) {G:List (Nat×Obj)} (hm:(g,o)∈G):GTab P G:=by
 intro w S hg
 exact qalh hn h ((hg _ hm).2.trans ho.symm)
theorem qair {P:Program} {W:World} {n:String} {g:Nat} {cs:Array Value} (hn:P.globalNamed n=some g) (h:W.var? P n=some cs) : ∃ o,W.heap[g]? = some o:=by
 unfold World.var? at h
 rw [hn] at h
 simp only [Option.bind_some] at h
 cases ho:W.heap[g]? with
 | none=>rw [ho] at h;simp at h
 | some o=>exact ⟨o,rfl⟩
def GDeb (P:Program) (G:List (Nat×Obj)):Prop:=∀ w S,GS G w S→Lib.TabIs P w "math/bits.deBruijn64tab" .u8 deb64
theorem qan1 {P:Program} {W:World} {g:Nat} {o:Obj} (hn:P.globalNamed "math/bits.deBruijn64tab" = some g) (ho:W.heap[g]? = some o) (h:Lib.TabIs P W "math/bits.deBruijn64tab" .u8 deb64) {G:List (Nat×Obj)} (hm:(g,o)∈G):GDeb P G:=by
 intro w S hg
 exact qalh hn h ((hg _ hm).2.trans ho.symm)
theorem qao8 (W:World):GS [] W (fun c=>c<W.heap.size):=fun p hp=>by simp at hp
theorem qt5 {W:World} {g:Nat} {o:Obj} {G:List (Nat×Obj)} (ho:W.heap[g]? = some o) (h:GS G W (fun c=>c<W.heap.size)):GS ((g,o) :: G) W (fun c=>c<W.heap.size):=by
 intro p hp
 rcases List.mem_cons.1 hp with rfl | hp
 ·exact ⟨(Array.getElem?_eq_some_iff.1 ho).1,ho⟩
 ·exact h p hp
section
variable {H : Type} {enc : TypeId × Value → H}
theorem qagx {a:Assume} {C:Checked} {os:Os} {f:FuncId} {fn:Func} {s:ChangeSpec} {conds:List PathCond} {apart fresh handsOn again:Bool} {X:World→Array Value→Prop}
  (hX : ∀ (w w':World) (args:Array Value),w.heap=w'.heap→X w args→X w' args)
  (own:ownKnob C.prog.godebug=none) (started:os.Started) (noInit:C.prog.inits.idxOf? f=none) (hfn:C.prog.funcs[f]? = some fn)
  (witness : ∃ (w:World) (tape:Tape) (i:Input),w.os=os∧(w.forCall tape i).Shaped C.prog∧i.vars=[]∧Input.okWide C.prog (w.forCall tape i) .any w.heap.size f i ∧
   ((s.pre enc C.prog fn conds apart (w.forCall tape i).memory i.args∧X (w.forCall tape i).memory i.args)∧sizedMet enc C.prog fn (OpenSpec.ofChange s) apart (w.forCall tape i).memory i.args)∧a.holds C.prog (lone (Frame.enter C.prog f i.args .normal) [] (w.forCall tape i)))
  (contract : ∀ (W:World) (base:Nat) (args:Array Value) (ds gs:List (DataW H)) (before:List MemPlace),
   (∀ (j:Nat) t v,fn.params[j]? = some t→args[j]? = some v→Value.okWide C.prog W .any base t v) →
   DataW.Whole enc C.prog fn.params.toList s.vars apart W args.toList ds gs before →
   conds.all (PathCond.test C.prog ⟨fn.params.toList,ds,s.plain.varTypes C.prog,gs⟩)=true →
   (DataW.weightsEach C.prog (fn.params.toList++s.plain.varTypes C.prog) (ds++gs)).all (· ≤ reachBytes)=true→(W.ShapedOpen C.prog∧X W args) →
   a.holds C.prog (lone (Frame.enter C.prog f args .normal) [] W) →
   Calls C.prog f args W fun e W' => ∃ v,e = .returned v∧s.post enc C.prog fn apart fresh handsOn again W args v W') :
  ReturnsInHanded a C os f .any (fun w args=>(s.pre enc C.prog fn conds apart w args∧X w args)∧sizedMet enc C.prog fn (OpenSpec.ofChange s) apart w args) (s.post enc C.prog fn apart fresh handsOn again):=by
 refine returnsInHanded_of_calls own started noInit witness ?_
 intro w tape i _ hsh _ hok hpre hholds
 obtain ⟨_,_,_,fn',hfn',_,_,_,_,hval⟩:=hok
 have e:fn'=fn:=Option.some.inj (hfn'.symm.trans hfn)
 subst e
 obtain ⟨⟨⟨ds,gs,before,hw,hc⟩,hx⟩,hz⟩:=hpre
 have hw':=DataW.Whole.of_heap (w':=w.forCall tape i) (by rfl) hw
 refine (contract (w.forCall tape i) w.heap.size i.args ds gs before hval hw' hc (hz.weights hw) ⟨hsh,hX _ _ _ (by rfl) hx⟩ hholds).mono fun e W' ⟨v,he,hp⟩ => ?_
 subst he
 exact ChangeSpec.post_blind hp
end
end Go.Tm
