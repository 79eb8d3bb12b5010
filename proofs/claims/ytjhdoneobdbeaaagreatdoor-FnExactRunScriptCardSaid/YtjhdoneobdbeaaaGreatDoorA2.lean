import Derived.Test.YtjhdoneobdbeaaaGreatDoorA1
import Derived.Great.FillDense
import Derived.Laws.MakeOwn
import Derived.Laws.Tables
import Derived.Laws.AppendOwn
import Derived.Deep.AppendSrc
import Derived.Laws.BytesArg
import Derived.Lib.ConvBytes
import Derived.Orders
/- The typed machine and its soundness: what an evaluation on typed data says of the model's run. -/
set_option linter.unusedSectionVars false
set_option linter.unusedSimpArgs false
set_option linter.unusedVariables false
namespace Go.Tm
open Go
section
variable {P : Program} {F : Fr} {ι : Nat → Inf} {K : Nat → Prop} {H : Heap} {w w' : World}
theorem qab2 {c b:Nat} {x:Blk} (h:Reg F ι H w c) (hb:look H b=some x) (hr:(ι b).kind.real=true):c≠(ι b).c:=fun e=>h.2.2 ⟨b,x,hb,hr,e.symm⟩
def Over (ι:Nat→Inf) (w w':World) (b:Nat) (i:Inf):Prop:=(∀ j,i.has j→(ι b).has j) ∧
 ∀ (old:Array Value) (e:TypeId),w.heap[i.c]? = some (.cells old e (0,0)) → ∃ cs':Array Value,w'.heap[i.c]? = some (.cells cs' e (0,0))∧cs'.size=old.size ∧ ∀ j:Nat,¬ i.has j→cs'[j]? = old[j]?
theorem Inv.add (h:Inv P F ι K H w) {base:Nat} (hbase:¬ K base) (ks:List Nat) (i:Inf) (y:Blk) (hsz:w.heap.size≤w'.heap.size) (hos:w'.os=w.os) (hout:w'.output=w.output)
  (hw : ∀ c,c<w.heap.size→(i.kind.real=true→c≠i.c)→w'.heap[c]? = w.heap[c]?)
  (hp:i.kind.real=true→w.heap.size≤i.c ∨ ∃ b∈ks,∃ x,look H b=some x∧(ι b).kind.real=true∧(ι b).c=i.c∧Over ι w w' b i)
  (hy : ∀ S:Nat→Prop,(∀ c,Reg F ι (kills ks++H) w c→(i.kind.real=true→c≠i.c)→S c∧w'.heap[c]? = w.heap[c]?)→BlkR P (upd ι base i) (fun c=>K c∨c=base) w' S i y) :
  Inv P F (upd ι base i) (fun c=>K c∨c=base) ((base,some y) :: (kills ks++H)) w'∧Stp F ι (upd ι base i) K (fun c=>K c∨c=base) H ((base,some y) :: (kills ks++H)) w w':=by
 have hne : ∀ c,K c→upd ι base i c=ι c:=fun c hc=>by
  have:c≠base:=fun e=>hbase (by rw [← e];exact hc)
  simp [upd,this]
 have hsame:upd ι base i base=i:=by simp [upd]
 have hlk : ∀ c z,look ((base,some y) :: (kills ks++H)) c=some z→(c=base∧z=y)∨(c≠base∧c∉ks∧look H c=some z):=by
  intro c z hc
  rw [qa1] at hc
  split at hc
  ·rename_i e;exact .inl ⟨e,by simpa using hc.symm⟩
  ·rename_i e
   rw [qa8] at hc
   split at hc
   ·simp at hc
   ·rename_i hk;exact .inr ⟨e,hk,hc⟩
 have hoth : ∀ c z,look H c=some z→c∉ks→(ι c).kind.real=true→i.kind.real=true→(ι c).c≠i.c:=by
  intro c z hc hks hr hri e
  rcases hp hri with hn | ⟨b,hb,x,hx,hrb,hbc,_⟩
  ·have:=h.exists hc hr;omega
  ·have:=h.inj c b z x hc hx hr hrb (e.trans hbc.symm)
   subst this;exact hks hb
 have hown : ∀ c,Own (upd ι base i) ((base,some y) :: (kills ks++H)) c→Own ι H c∨w.heap.size≤c:=by
  rintro c ⟨b',z,hb',hr,hc⟩
  rcases hlk b' z hb' with ⟨e,_⟩ | ⟨e,_,hb''⟩
  ·subst e;rw [hsame] at hc hr
   rcases hp hr with hn | ⟨b,hb,x,hx,hrb,hbc,_⟩
   ·exact .inr (by omega)
   ·exact .inl ⟨b,x,hx,hrb,hbc.trans hc⟩
  ·rw [hne b' (h.known b' z hb'')] at hr hc
   exact .inl ⟨b',z,hb'',hr,hc⟩
 have hstay : ∀ c,c<w.heap.size→¬ Own ι H c→w'.heap[c]? = w.heap[c]?:=by
  intro c hc hno
  refine hw c hc fun hri e => ?_
  rcases hp hri with hn | ⟨b,hb,x,hx,hrb,hbc,_⟩
  ·omega
  ·exact hno ⟨b,x,hx,hrb,hbc.trans e.symm⟩
 have hs:Stp F ι (upd ι base i) K (fun c=>K c∨c=base) H ((base,some y) :: (kills ks++H)) w w' :=
  ⟨fun c hc=>⟨.inl hc,hne c hc⟩,qrr hsz hstay hown,hsz⟩
 refine ⟨⟨⟨hos.trans h.same.1,hout.trans h.same.2.1,Nat.le_trans h.same.2.2 hsz⟩,h.lent,?_,?_,?_,?_,?_,?_,?_⟩,hs⟩
 ·intro c h1 h2
  rw [hw c (Nat.lt_of_lt_of_le h1 h.same.2.2) fun hri e => ?_]
  ·exact h.keep c h1 h2
  ·have hsz0:=h.same.2.2
   rcases hp hri with hn | ⟨b,hb,x,hx,hrb,hbc,_⟩
   ·omega
   ·rcases h.mine b x hx hrb with h3 | h3
    ·exact h2 (by rw [e,← hbc];exact h3)
    ·omega
 ·intro c z hc
  rcases hlk c z hc with ⟨e,_⟩ | ⟨_,_,hc'⟩
  ·exact .inr e
  ·exact .inl (h.known c z hc')
 ·intro c z hc
  rcases hlk c z hc with ⟨e,ez⟩ | ⟨_,hks,hc'⟩
  ·subst e;subst ez;rw [hsame]
   refine hy _ fun c hc hci => ?_
   refine ⟨⟨hc.1,Nat.lt_of_lt_of_le hc.2.1 hsz,?_⟩,hw c hc.2.1 hci⟩
   rintro ⟨b',z',hb',hr,hcc⟩
   rcases hlk b' z' hb' with ⟨e,_⟩ | ⟨e,hnk,hb''⟩
   ·subst e;rw [hsame] at hcc hr;exact hci hr hcc.symm
   ·rw [hne b' (h.known b' z' hb'')] at hr hcc
    exact hc.2.2 ⟨b',z',by rw [qa8,if_neg hnk];exact hb'',hr,hcc⟩
  ·rw [hne c (h.known c z hc')]
   exact (h.blks c z hc').mono hs.known hs.reg hs.size (fun hr=>hw _ (h.exists hc' hr) fun hri=>hoth c z hc' hks hr hri)
 ·intro c z hc hr
  rcases hlk c z hc with ⟨e,_⟩ | ⟨_,_,hc'⟩
  ·subst e;rw [hsame] at hr ⊢
   have hsz0:=h.same.2.2
   rcases hp hr with hn | ⟨b,hb,x,hx,hrb,hbc,_⟩
   ·exact .inr (by omega)
   ·rw [← hbc];exact h.mine b x hx hrb
  ·rw [hne c (h.known c z hc')] at hr ⊢;exact h.mine c z hc' hr
 ·intro c c' z z' hc hc' hr hr' e
  rcases hlk c z hc with ⟨e1,_⟩ | ⟨_,hk1,h1⟩ <;> rcases hlk c' z' hc' with ⟨e2,_⟩ | ⟨_,hk2,h2⟩
  ·exact e1.trans e2.symm
  ·subst e1;rw [hsame] at hr;rw [hsame,hne c' (h.known c' z' h2)] at e
   rw [hne c' (h.known c' z' h2)] at hr'
   exact absurd e.symm (hoth c' z' h2 hk2 hr' hr)
  ·subst e2;rw [hsame] at hr';rw [hsame,hne c (h.known c z h1)] at e
   rw [hne c (h.known c z h1)] at hr
   exact absurd e (hoth c z h1 hk1 hr hr')
  ·rw [hne c (h.known c z h1)] at hr e;rw [hne c' (h.known c' z' h2)] at hr' e
   exact h.inj c c' z z' h1 h2 hr hr' e
 ·by_cases hri:i.kind.real=true∧i.c<w.heap.size
  ·obtain ⟨hri,hlt⟩:=hri
   rcases hp hri with hn | ⟨b,hb,x,hx,hrb,hbc,hov⟩
   ·omega
   refine h.stay.trans (V:=fun c j=>c=i.c∧i.has j) (fun c old e z hc => ?_) fun c j hl ⟨e,hj⟩ => ?_
   ·by_cases hci:c=i.c
    ·subst hci
     obtain ⟨old',e',hz⟩:=h.cells hx hrb
     rw [hbc,hc] at hz;simp only [Option.some.injEq,Obj.cells.injEq] at hz
     obtain ⟨rfl,rfl,rfl⟩:=hz
     obtain ⟨cs',g1,g2,g3⟩:=hov.2 _ _ hc
     exact ⟨cs',_,g1,g2,fun j hj=>g3 j fun hh=>hj ⟨rfl,hh⟩⟩
    ·exact ⟨old,_,(hw c (Array.getElem?_eq_some_iff.1 hc).1 fun _=>hci).trans hc,rfl,fun _ _=>rfl⟩
   ·have:=h.cover b x hx hrb (by omega) j (hov.1 j hj)
    rw [hbc,← e] at this;exact this
  ·exact h.stay.on fun c hc=>hw c hc fun hr e=>hri ⟨hr,e▸hc⟩
 ·intro c z hc hr hlt j hj
  rcases hlk c z hc with ⟨e,_⟩ | ⟨_,_,hc'⟩
  ·subst e;rw [hsame] at hr hlt hj ⊢
   have hsz0:=h.same.2.2
   rcases hp hr with hn | ⟨b,hb,x,hx,hrb,hbc,hov⟩
   ·omega
   ·rw [← hbc] at hlt ⊢;exact h.cover b x hx hrb hlt j (hov.1 j hj)
  ·rw [hne c (h.known c z hc')] at hr hlt hj ⊢;exact h.cover c z hc' hr hlt j hj
theorem qz9 {cells:Array Value} {us:List Value} {o d room j:Nat} (ho:d≤o) (hr:o+us.length≤d+room) (hin:o+us.length≤cells.toList.length) (hj:¬ (d≤j∧j<d+room)):(over cells.toList o us)[j]? = cells[j]?:=by
 rw [qex hin]
 by_cases h1:j<o
 ·rw [if_pos h1,Array.getElem?_toList]
 ·rw [if_neg h1,if_neg (by omega),Array.getElem?_toList]
theorem qvq {vs cells us:List Value} {d q:Nat} (h : ∀ (j:Nat) (v:Value),vs[j]? = some v→cells[d+j]? = some v) (hq:q+us.length≤vs.length) (hd:d+vs.length≤cells.length) :
  ∀ (j:Nat) (v:Value),(over vs q us)[j]? = some v→(over cells (d+q) us)[d+j]? = some v:=by
 intro j v hj
 rw [qex hq] at hj
 rw [qex (by omega)]
 split at hj
 ·rw [if_pos (by omega)];exact h j v hj
 ·rw [if_neg (by omega)]
  split at hj
  ·rw [if_pos (by omega)];rw [show d+j-(d+q)=j-q by omega];exact hj
  ·rw [if_neg (by omega)];exact h j v hj
theorem Inv.writeRow (h:Inv P F ι K H w) {b:Nat} {t:Ty} {xs zs:List t.den} (hb:look H b=some (.row t xs)) {n room:Nat} (hk:(ι b).kind = .row t n room) (hl:zs.length=xs.length) {vs:List Value} {cells:Array Value}
  (hr:RepList (Rep w (Reg F ι H w) t) zs vs) (hc : ∀ cs e,w.heap[(ι b).c]? = some (.cells cs e (0,0))→cells.size=cs.size) (hv : ∀ (j:Nat) (v:Value),vs[j]? = some v→cells[(ι b).d+j]? = some v)
  (ho : ∀ cs e,w.heap[(ι b).c]? = some (.cells cs e (0,0)) → ∀ j:Nat,¬ (ι b).has j→cells[j]? = cs[j]?) :
  Inv P F ι K ((b,some (.row t zs)) :: H) (w.setRow (ι b).c cells)∧Stp F ι ι K K H ((b,some (.row t zs)) :: H) w (w.setRow (ι b).c cells):=by
 have hreal:(ι b).kind.real=true:=by rw [hk];rfl
 refine h.write hb hreal (.row t zs) cells (fun cs e hcs=>⟨hc cs e hcs,ho cs e hcs⟩) (.inr ?_)
 obtain ⟨rfl,cs,e,vs0,hblk,h1,h2,h3,hvl,h4,hat⟩:=qdi (h.blks b _ hb) hk
 refine ⟨room,cells,e,vs,by rw [hk,hl],setRow_same hblk _,⟨by rw [hc cs e hblk];exact h1,qac9 (h.blks b _ hb) hk hblk⟩,by rw [hl];exact h2,?_,hv⟩
 exact RepList.mono (fun _ _ hx=>hx.mono fun c hc=>⟨hc,setRow_other _ (qab2 hc hb hreal)⟩) hr
theorem qamw {cur vs:List Value} {o:Nat} (h1 : ∀ v∈cur,v.oneCell'=true) (h2 : ∀ v∈vs,v.oneCell'=true) : ∀ v∈over cur o vs,v.oneCell'=true:=by
 intro v hv
 unfold over at hv
 rcases List.mem_append.1 hv with hv | hv
 ·rcases List.mem_append.1 hv with hv | hv
  ·exact h1 v (List.mem_of_mem_take hv)
  ·exact h2 v hv
 ·exact h1 v (List.mem_of_mem_drop hv)
end
theorem SelfC.over {c:Nat} {e:TypeId} {t u:Ty} {p:List PS} {o o':Nat} {v z:AV} {cs us:List Value} (h:SelfC c e t (refFst v) cs) (hto:TyOff t p o u) (hf:fitsB t v=true) (h1 : ∀ x∈us,x.oneCell'=true)
  (hg:(!refFst z||(sndP p&&refFst v))=true) (ho:o≤o') (hin:o'+us.length≤cs.length):SelfC c e t (refFst z) (Tm.over cs o' us):=by
 refine ⟨qamw h.1 h1,fun hz => ?_,h.2.2⟩
 rw [hz] at hg
 simp only [Bool.not_true,Bool.false_or,Bool.and_eq_true] at hg
 have h0:1≤o:=by
  cases hto with
  | here=>simp [sndP] at hg
  | fst _=>simp [sndP] at hg
  | idx _ _=>simp [sndP] at hg
  | @snd a b p o u ht =>
   have : ∃ T,a = .ref T:=by
    cases v with
    | val q x =>
     obtain rfl:=qg2 hf
     cases a <;> simp [refFst] at hg <;> exact ⟨_,rfl⟩
    | pair v w =>
     simp only [fitsB,Bool.and_eq_true] at hf
     cases v with
     | val q x =>
      cases q <;> simp [refFst] at hg
      have:=qg2 hf.1
      exact ⟨_,this.symm⟩
     | _=>simp [refFst] at hg
    | _=>simp [refFst] at hg
   obtain ⟨_,rfl⟩:=this
   show 1≤1+o
   omega
 have hq:(Tm.over cs o' us)[0]? = cs[0]?:=by
  unfold Tm.over
  rw [List.append_assoc,List.getElem?_append_left (by rw [List.length_take];omega),List.getElem?_take]
  simp;omega
 rw [hq]
 exact h.2.1 hg.2
section
variable {E : Env} {F : Fr} {ι : Nat → Inf} {K : Nat → Prop} {H : Heap} {w : World} {base : Nat} {Ψ : AV × Heap → List Nat → Prop} {l : Tmps} {ρ : Operand → Value} {o : Oper}
theorem qamv (hE:EnvOK E) (h:Now E.P F ι K H w base) (hs : ∀ x,AVR E.P ι K w (Reg F ι H w) (rd l x) (ρ x)) {t:TypeId} {a x:Operand} (ho:o.op = .store t a x) (hwp:(exec E (.store t a x) (rd l) base).wp H [] Ψ) :
  Comes' E.P (Fin E.P F ι K H w base Ψ) ((execOp ρ o).run E.P w):=by
 obtain ⟨dst,op,ty,pos,af,g⟩:=o
 subst ho
 simp only [exec] at hwp
 split at hwp
 ·rename_i tt ht
  have hok:=hE.tys t _ ht
  have ha:=hs a
  have hx:=hs x
  generalize rd l a=va at hwp ha
  generalize rd l x=vx at hwp hx
  unfold storeR at hwp
  cases hf:fitsB tt vx with
  | false=>rw [hf] at hwp;exact hwp.elim
  | true =>
   rw [hf] at hwp
   simp only [cond_true] at hwp
   obtain ⟨us,hxc,hxv⟩:=hx
   rw [qfn hf] at hxv
   have hul:=qby hf hxc
   have hu1:=qt2 hf hxc
   split at hwp
   ·rename_i b p u
    cases hsm:u.same tt with
    | false=>rw [hsm] at hwp;exact hwp.elim
    | true =>
     rw [hsm] at hwp
     obtain rfl:=qbe hsm
     simp only [cond_true,RM.wp] at hwp
     obtain ⟨blk,hb,hwp⟩:=hwp
     obtain ⟨cs0,hc,hv⟩:=ha
     simp only [AVC] at hc
     obtain ⟨hK,of,hko,rfl⟩:=hc
     have hp:=qad (show ValOf false _ (ρ a) from hv)
     have hblk:=h.inv.blks b _ hb
     have hrun : ∀ w',(storeVar t ⟨(ι b).c,(ι b).d+of,none⟩ (ρ x)).run E.P w = .ok () w'→(execOp ρ { dst:=dst,op:=.store t a x,type:=ty,pos:=pos,after:=af,guard:=g }).run E.P w = .ok .skip w':=by
      intro w' hr
      simp only [execOp,Instr.storeAt,Instr.sureAddr,hp,Sem.run_bind,Sem.run_pure,Result.andThen_ok,hr]
     cases blk with
     | box t' v =>
      obtain ⟨hk,hd,cells,e,hbb,hvv,hlen,h1,hfv⟩:=hblk
      rw [hk] at hko
      cases hko with
      | box hto =>
      simp only at hwp
      obtain ⟨z,hq,hfz,hz⟩:=qvt hto hf hxc hwp hfv hvv
      cases hgd:(!refFst z||(sndP p&&refFst v)) with
      | false=>rw [hgd] at hq;exact hq.elim
      | true =>
      rw [hgd] at hq
      have hin:=hto.inside
      have hcl:cells.size=t'.size:=by rw [← Array.length_toList];exact hlen
      rw [hrun _ (qs1 hok hbb (by rw [hd,hcl];simpa using hin) hul hu1 hxv)]
      have hreal:(ι b).kind.real=true:=by rw [hk];rfl
      have hol:(over cells.toList of us).length=t'.size:=by rw [qar (by rw [hul,hlen];exact hin),hlen]
      obtain ⟨hI,hS⟩:=h.inv.write hb hreal (.box t' z) (over cells.toList of us).toArray (fun old e' ho=>by
       rw [hbb] at ho;simp only [Option.some.injEq,Obj.cells.injEq] at ho
       rw [← ho.1];exact ⟨by rw [List.size_toArray,hol,hcl],fun j hj=>absurd (Inf.has_box hk j) hj⟩)
       ⟨hk,hd,(over cells.toList of us).toArray,e,setRow_same hbb _,hz.mono (fun _ hk=>⟨hk,rfl⟩) (fun c hc=>⟨hc,setRow_other _ (qab2 hc hb hreal)⟩) (by rw [setRow_size];exact Nat.le_refl _),hol,h1.over hto hfv hu1 hgd (Nat.le_refl _) (by rw [hul,hlen];exact hin),hfz⟩
      rw [hd,Nat.zero_add]
      exact ⟨.undef,_,_,ι,K,hq,hI,hS,⟨[undef],by unfold AVC;exact ⟨_,rfl⟩,rfl⟩,fun _ hb => .inl hb⟩
     | row t' xs =>
      simp only at hwp
      obtain ⟨y,ks,rs',hq,hrep,hlive,_⟩:=qh5 h.inv hwp hxc
      cases hmem:memN ks b with
      | true=>rw [hmem] at hq;exact hq.elim
      | false =>
       rw [hmem] at hq
       simp only [cond_false] at hq
       rcases hblk with ⟨hk',_⟩ | hblk'
       ·rw [hk'] at hko;cases hko
       ·obtain ⟨room,_,_,_,hk,_⟩:=id hblk'
        rw [hk] at hko
        cases hko with
        | @row _ _ _ i p' o' _ hi hto =>
        obtain ⟨hI1,hS1⟩:=h.inv.kill ks
        have hb1:look (kills ks++H) b=some (.row t' xs):=by
         rw [qa8,if_neg]
         ·exact hb
         ·intro hm
          have:memN ks b=true:=by
           clear hq hrep hlive hI1 hS1
           induction ks with
           | nil=>simp at hm
           | cons c r ih =>
            simp only [memN,Bool.or_eq_false_iff] at hmem
            rcases List.mem_cons.1 hm with e | e
            ·subst e;simp at hmem
            ·exact absurd (ih hmem.2 e) (by simp [hmem.2])
          rw [this] at hmem;simp at hmem
        obtain ⟨_,cells,e,vs,hbb,h1,h2,h3,hvl,h4,hat⟩:=qdi (hI1.blks b _ hb1) hk
        have hrep1:=hrep.mono (w':=w) (S':=Reg F ι (kills ks++H) w) fun c hc=>⟨qsy h.inv (fun _ h=>h) hc,rfl⟩
        simp only [setPath] at hq
        have hg:=RepList.getD (R:=Rep w (Reg F ι (kills ks++H) w) t') (fun _ _ h=>h.length) t'.zero h3 hi
        obtain ⟨z,hq,hz⟩:=qab7 hto hrep1 hq hg
        have hin:=hto.inside
        have hn:i*t'.size+t'.size≤vs.length:=by
         rw [hvl]
         calc i*t'.size+t'.size=(i+1)*t'.size:=by rw [Nat.add_mul,Nat.one_mul]
          _≤xs.length*t'.size:=Nat.mul_le_mul_right _ hi
        have hset:=RepList.set (fun _ _ h=>h.length) hz h3 hi
        rw [← qvp (by rw [hul];exact hin) hn] at hset
        have hcs:cells.toList.length=cells.size:=Array.length_toList
        have hdl:(ι b).d+vs.length≤cells.toList.length:=by omega
        obtain ⟨hI2,hS2⟩:=hI1.writeRow hb1 hk (zs:=xs.set i z) (by simp) (cells:=(over cells.toList ((ι b).d+(i*t'.size+o')) us).toArray) hset
         (fun cs' e' he=>by
          rw [hbb] at he;simp only [Option.some.injEq,Obj.cells.injEq] at he
          rw [← he.1];rw [List.size_toArray,qar (by rw [hul];omega),Array.length_toList])
         (fun j v hj=>by simpa using qvq (fun j v hv=>by simpa using h4 j v hv) (by rw [hul];omega) hdl j v hj)
         (fun cs' e' he j hj=>by
          rw [hbb] at he;simp only [Option.some.injEq,Obj.cells.injEq] at he
          rw [Inf.has_row hk] at hj
          rw [← he.1,List.getElem?_toArray]
          exact qz9 (room:=room) (by omega) (by rw [hul];omega) (by rw [hul];omega) hj)
        rw [hrun _ (qs1 hok hbb (by omega) hul hu1 hxv)]
        exact ⟨.undef,_,_,ι,K,hq,hI2,hS1.trans hS2,⟨[undef],by unfold AVC;exact ⟨_,rfl⟩,rfl⟩,fun _ hb => .inl hb⟩
   ·exact hwp.elim
 ·exact hwp.elim
end
end Go.Tm
namespace Go.Tm
open Go
theorem qakc (us:List Value) (off:Nat) (cs:List Value) (h:off+us.length≤cs.length) :
  (us.zipIdx 0).foldl (fun cs (x:Value×Nat)=>cs.setIfInBounds (off+x.2) x.1) cs.toArray=(over cs off us).toArray:=by
 obtain ⟨h1,h2⟩:=Great.foldl_set off us 0 cs.toArray
 apply Array.ext_getElem?
 intro k
 rw [h2 k,List.getElem?_toArray,List.getElem?_toArray,qex h,List.size_toArray]
 by_cases h3:k<off
 ·rw [if_neg (by omega),if_pos h3]
 ·rw [if_neg h3]
  by_cases h4:k<off+us.length
  ·rw [if_pos (by omega),if_pos h4];simp
  ·rw [if_neg (by omega),if_neg h4]
theorem qad9 {pl:Nat→Option (Nat×Nat)} {cs:List Value} {i off sz:Nat} {v:Value} {us:List Value} {r:List (Nat×Value)} (hp:pl i=some (off,sz)) (hc:v.cells.toList=us) (hl:us.length=sz) (hin:off+sz≤cs.length) :
  Instr.fill pl cs.toArray ((i,v) :: r)=Instr.fill pl (over cs off us).toArray r:=by
 have hsz:v.cells.size=sz:=by rw [← Array.length_toList,hc,hl]
 rw [Instr.fill,hp]
 simp only [hsz,ne_eq,not_true_eq_false,List.size_toArray,decide_false,Bool.false_or,decide_eq_true_eq]
 rw [if_neg (by omega)]
 congr 1
 rw [← qakc us off cs (by omega),← Array.foldl_toList,Array.toList_zipIdx,hc]
theorem qanl (z:List Value) (n j:Nat) (hj:j<n*z.length):((List.replicate n z).flatten)[j]? = z[j%z.length]?:=by
 induction n generalizing j with
 | zero=>simp at hj
 | succ n ih =>
  rw [List.replicate_succ,List.flatten_cons]
  by_cases h1:j<z.length
  ·rw [List.getElem?_append_left h1,Nat.mod_eq_of_lt h1]
  ·have hj':j-z.length<n*z.length:=by rw [Nat.add_mul,Nat.one_mul] at hj;omega
   rw [List.getElem?_append_right (by omega),ih (j-z.length) hj',← Nat.mod_eq_sub_mod (by omega)]
theorem qaam (z:List Value) (n k:Nat) (hk:z.length=k):((Array.range (n*k)).map (z.toArray[· % z.toArray.size]!))=(List.replicate n z).flatten.toArray:=by
 subst hk
 apply Array.ext'
 apply List.ext_getElem?
 intro j
 have hlen:(List.replicate n z).flatten.length=n*z.length:=by simp
 by_cases hj:j<n*z.length
 ·have hz:0<z.length:=Nat.pos_of_ne_zero fun e=>by rw [e] at hj;simp at hj
  have hm:j%z.length<z.length:=Nat.mod_lt _ hz
  rw [show ((List.replicate n z).flatten.toArray.toList)[j]? = _ from qanl z n j hj]
  simp [hj,hm]
 ·rw [List.getElem?_eq_none (by simp;omega),List.getElem?_eq_none (by simp;omega)]
inductive All2 {α β:Type} (R:α→β→Prop):List α→List β→Prop
 | nil:All2 R [] []
 | cons {a:α} {b:β} {l:List α} {m:List β} : R a b→All2 R l m→All2 R (a :: l) (b :: m)
section
variable {P : Program} {F : Fr} {ι : Nat → Inf} {K : Nat → Prop} {H : Heap} {w : World} {α : Type}
theorem qamz {t u:Ty} {i:Nat} (h:partTy t i=some u) : ∃ d,TyOff t (partPath t i) d u:=by
 induction t generalizing i with
 | pair a b _ ihb =>
  cases i with
  | zero=>simp only [partTy,Option.some.injEq] at h;subst h;exact ⟨0,.fst (.here _)⟩
  | succ n =>
   obtain ⟨d,hd⟩:=ihb h
   exact ⟨_,.snd hd⟩
 | arr n t _ =>
  simp only [partTy] at h
  cases hb:Nat.ble (i+1) n with
  | false=>rw [hb] at h;simp at h
  | true =>
   rw [hb] at h
   simp only [cond_true,Option.some.injEq] at h
   subst h
   exact ⟨_,.idx (Nat.le_of_ble_eq_true hb) (.here _)⟩
 | _=>simp [partTy] at h
theorem qw6 {t:Ty} {pl:Nat→Option (Nat×Nat)} (hpl : ∀ i u d,partTy t i=some u→TyOff t (partPath t i) d u→pl i=some (d,u.size)) {S:Nat→Prop} :
  ∀ {ps:List (Nat×AV)} {qs:List (Nat×Value)} {v:AV} {cs:List Value} {rs:List Nat} {Q:α→List Nat→Prop} {k:AV→RM α},(foldParts t v ps k).wp H rs Q→fitsB t v=true→AVC P ι K w S v cs →
  All2 (fun p q=>p.1=q.1∧AVR P ι K w S p.2 q.2) ps qs →
  ∃ z cs',(k z).wp H rs Q∧fitsB t z=true∧AVC P ι K w S z cs'∧Instr.fill pl cs.toArray qs=some cs'.toArray
 | [],[],v,cs,rs,Q,k,h,hf,hv,_=>⟨v,cs,h,hf,hv,rfl⟩
 | (i,x) :: ps,(j,y) :: qs,v,cs,rs,Q,k,h,hf,hv,.cons ⟨e,us,hx,hval⟩ hr=>by
  simp only at e;subst e
  simp only [foldParts] at h
  split at h
  ·rename_i u hu
   cases hfx:fitsB u x with
   | false=>rw [hfx] at h;exact h.elim
   | true =>
    rw [hfx] at h
    obtain ⟨d,hd⟩:=qamz hu
    obtain ⟨z,hz,hfz,hvz⟩:=qvt hd hfx hx h hf hv
    obtain ⟨z',cs',h1,h2,h3,h4⟩:=qw6 hpl hz hfz hvz hr
    refine ⟨z',cs',h1,h2,h3,?_⟩
    have hcl:y.cells.toList=us:=by rw [qfn hfx] at hval;exact hval.cells (qt2 hfx hx)
    rw [qad9 (hpl i u d hu hd) hcl (qby hfx hx) (by rw [qby hf hv];exact hd.inside)]
    exact h4
  ·exact h.elim
theorem qahs {P:Program} : ∀ {b:Ty} {r:List Field} {o:Nat},okRest P b r o=true → ∃ places,r.mapM (fun f=>(P.info? f.type).map fun i=>(f.offset,i.size))=some places ∧
  ∀ i u d,partTy b i=some u→TyOff b (partPath b i) d u→places[i]? = some (o+d,u.size):=by
 intro b
 induction b with
 | pair a b iha ihb =>
  intro r o h
  cases r with
  | nil=>simp [okRest] at h
  | cons f r =>
   simp only [okRest,Bool.and_eq_true] at h
   obtain ⟨⟨h1,h2⟩,h3⟩:=h
   obtain ⟨ps,hps,hall⟩:=ihb h3
   obtain ⟨i0,hi0,hs0⟩:=info_of h2
   refine ⟨(f.offset,a.size) :: ps,by simp [List.mapM_cons,hi0,hs0,hps],?_⟩
   intro i u d hu hd
   cases i with
   | zero =>
    simp only [partTy,Option.some.injEq] at hu;subst hu
    cases hd with
    | fst hd=>cases hd;simp [Nat.eq_of_beq_eq_true h1]
   | succ i =>
    cases hd with
    | snd hd=>have:=hall i u _ hu hd;simpa [Nat.add_assoc] using this
 | unit=>intro r o h;cases r with
  | nil=>exact ⟨[],rfl,fun i u d hu=>by cases i <;> simp [partTy] at hu⟩
  | cons f r=>simp [okRest] at h
 | _=>intro r o h;cases r <;> simp [okRest] at h
theorem qagz {t:Ty} {i:TypeId} (h:okTy P t i=true) (ha:t.isAgg=true) : ∃ pl:Nat→Option (Nat×Nat),(∀ i u d,partTy t i=some u→TyOff t (partPath t i) d u→pl i=some (d,u.size)) ∧
  ∀ (qs:Array (Nat×Value)) (cs:List Value) (w:World),Instr.fill pl (zc t).toArray qs.toList=some cs.toArray→(Instr.build i qs).run P w = .ok (.agg cs.toArray) w:=by
 obtain ⟨it,z,hit,hz,hzv⟩:=qado h
 have hzc:z.cells=(zc t).toArray:=by rw [ha] at hzv;simp only [ValOf,if_true] at hzv;rw [hzv];rfl
 cases t with
 | pair a b =>
  simp only [okTy,Bool.and_eq_true] at h
  obtain ⟨_,h⟩:=h
  split at h
  ·rename_i fs hfs
   split at h
   ·rename_i f r hfr
    simp only [Bool.and_eq_true] at h
    obtain ⟨⟨h1,h2⟩,h3⟩:=h
    have hr:okRest P (.pair a b) (f :: r) 0=true:=by simp only [okRest,Bool.and_eq_true];exact ⟨⟨h1,h2⟩,by simpa using h3⟩
    obtain ⟨ps,hps,hall⟩:=qahs hr
    refine ⟨(ps.toArray[·]?),fun i u d hu hd=>by have:=hall i u d hu hd;simpa using this,fun qs cs w hf=>run_build w i qs _ ?_⟩
    unfold Program.built
    rw [hit,hfs]
    simp only [hz,hfr,hps,hzc]
    exact hf
   ·simp at h
  ·simp at h
 | unit =>
  simp only [okTy,Bool.and_eq_true] at h
  obtain ⟨_,h⟩:=h
  split at h
  ·rename_i fs hfs
   have hnil:fs.toList=[]:=by simpa using h
   refine ⟨(([]:List (Nat×Nat)).toArray[·]?),fun i u d hu=>by cases i <;> simp [partTy] at hu,fun qs cs w hf=>run_build w i qs _ ?_⟩
   unfold Program.built
   rw [hit,hfs]
   simp only [hz,hnil,List.mapM_nil,hzc,Option.pure_def]
   exact hf
  ·simp at h
 | arr n u =>
  obtain ⟨e,he,hk⟩:=qwx h
  obtain ⟨ie,hie,hs⟩:=info_of hk
  refine ⟨fun i=>some (i*u.size,u.size),fun i v d hu hd => ?_,fun qs cs w hf=>run_build w i qs _ ?_⟩
  ·simp only [partTy] at hu
   cases hb:Nat.ble (i+1) n with
   | false=>rw [hb] at hu;simp at hu
   | true =>
    rw [hb] at hu
    simp only [cond_true,Option.some.injEq] at hu
    subst hu
    cases hd with
    | idx _ hd=>cases hd;simp
  ·unfold Program.built
   rw [hit,he]
   simp only [hz,hie,hzc,hs]
   exact hf
 | _=>simp [Ty.isAgg] at ha
end
section
variable {E : Env} {F : Fr} {ι : Nat → Inf} {K : Nat → Prop} {H : Heap} {w : World} {base : Nat} {Ψ : AV × Heap → List Nat → Prop} {l : Tmps} {ρ : Operand → Value} {o : Oper}
theorem qxv (hs : ∀ x,AVR E.P ι K w (Reg F ι H w) (rd l x) (ρ x)) : ∀ ps:List (Nat×Operand),All2 (fun p q=>p.1=q.1∧AVR E.P ι K w (Reg F ι H w) p.2 q.2) (ps.map fun (i,x)=>(i,rd l x)) (ps.map fun (i,x)=>(i,ρ x))
 | [] => .nil
 | (i,x) :: r => .cons ⟨rfl,hs x⟩ (qxv hs r)
theorem qamr (hE:EnvOK E) (h:Now E.P F ι K H w base) (hs : ∀ x,AVR E.P ι K w (Reg F ι H w) (rd l x) (ρ x)) {t:TypeId} {ps:Array (Nat×Operand)} (ho:o.op = .build t ps) (hwp:(exec E (.build t ps) (rd l) base).wp H [] Ψ) :
  Comes' E.P (Fin E.P F ι K H w base Ψ) ((execOp ρ o).run E.P w):=by
 obtain ⟨dst,op,ty,pos,af,g⟩:=o
 subst ho
 simp only [exec] at hwp
 split at hwp
 ·rename_i u hu
  have hok:=hE.tys t _ hu
  cases ha:u.isAgg with
  | false=>rw [ha] at hwp;exact hwp.elim
  | true =>
   rw [ha] at hwp
   simp only [Bool.not_true,cond_false] at hwp
   obtain ⟨pl,hpl,hb⟩:=qagz hok ha
   have hz:=qzp (P:=E.P) (ι:=ι) (K:=K) (w:=w) (S:=Reg F ι H w) u
   obtain ⟨z,cs,hq,hf,hv,hfill⟩:=qw6 hpl hwp hz.2 hz.1 (qxv hs ps.toList)
   have hrun:(execOp ρ { dst:=dst,op:=.build t ps,type:=ty,pos:=pos,after:=af,guard:=g }).run E.P w = .ok (.value (.agg cs.toArray)) w:=by
    simp only [execOp,Sem.run_bind,hb (ps.map fun (i,x)=>(i,ρ x)) cs w (by rw [Array.toList_map];exact hfill),Result.andThen_ok,Sem.run_pure]
   rw [hrun]
   exact Fin.pure h hq ⟨cs,hv,by rw [qfn hf,ha];rfl⟩
 ·exact hwp.elim
end
end Go.Tm
namespace Go.Tm
open Go
section
variable {P : Program} {F : Fr} {ι : Nat → Inf} {K : Nat → Prop} {H : Heap} {w w' : World} {base : Nat} {Ψ : AV × Heap → List Nat → Prop} {α : Type}
theorem Fin.add (h:Now P F ι K H w base) (ks:List Nat) (i:Inf) (y:Blk) (hsz:w.heap.size≤w'.heap.size) (hos:w'.os=w.os) (hout:w'.output=w.output)
  (hw : ∀ c,c<w.heap.size→(i.kind.real=true→c≠i.c)→w'.heap[c]? = w.heap[c]?)
  (hp:i.kind.real=true→w.heap.size≤i.c ∨ ∃ b∈ks,∃ x,look H b=some x∧(ι b).kind.real=true∧(ι b).c=i.c∧Over ι w w' b i)
  (hy : ∀ S:Nat→Prop,(∀ c,Reg F ι (kills ks++H) w c→(i.kind.real=true→c≠i.c)→S c∧w'.heap[c]? = w.heap[c]?)→BlkR P (upd ι base i) (fun c=>K c∨c=base) w' S i y)
  {v:AV} {rs:List Nat} {x:Value} (hΨ:Ψ (v,(base,some y) :: kills ks) rs) (hv : ∀ S,AVR P (upd ι base i) (fun c=>K c∨c=base) w' S v x):Fin P F ι K H w base Ψ x w':=by
 have hb:¬ K base:=h.fresh base (Nat.le_refl _) (by unfold wide;omega)
 obtain ⟨h2,s2⟩:=h.inv.add hb ks i y hsz hos hout hw hp hy
 exact ⟨v,(base,some y) :: kills ks,rs,_,_,hΨ,h2,s2,hv _,fun b hb=>hb.imp id fun e=>⟨by omega,by unfold wide;omega⟩⟩
theorem Fin.row (h:Now P F ι K H w base) (ks:List Nat) {t:Ty} {xs:List t.den} {vs:List Value} {cells:Array Value} {e:TypeId} {cap:Nat} (hheap:w'.heap=w.heap.push (.cells cells e)) (hos:w'.os=w.os) (hout:w'.output=w.output)
  (hr:RepList (Rep w (Reg F ι (kills ks++H) w) t) xs vs) (hc : ∀ (j:Nat) (v:Value),vs[j]? = some v→cells[j]? = some v) (hcap:xs.length≤cap) (hsz:cap*t.size≤cells.size) (hE:okTy P t e=true)
  {rs:List Nat} (hΨ:Ψ (.rows base t,(base,some (.row t xs)) :: kills ks) rs):Fin P F ι K H w base Ψ (.slice (some ⟨w.heap.size,0,none⟩) xs.length cap) w':=by
 have hold : ∀ c,c<w.heap.size→w'.heap[c]? = w.heap[c]?:=fun c hc=>by rw [hheap,Array.getElem?_push,if_neg (by omega)]
 by_cases h0:cap=0
 ·have hx0:xs.length=0:=by omega
  refine Fin.add h ks ⟨0,0,.nilrow t⟩ (.row t xs) (by rw [hheap];simp) hos hout (fun c hc _=>hold c hc) (fun hr=>by simp [Kind.real] at hr) (fun S _ => .inl ⟨rfl,hx0⟩) hΨ fun S=>⟨[_],?_,rfl⟩
  unfold AVC
  rw [hx0,h0]
  exact ⟨.inr rfl,.inl ⟨by simp [upd],_,rfl⟩⟩
 refine Fin.add h ks ⟨w.heap.size,0,.row t xs.length (cap*t.size)⟩ (.row t xs) (by rw [hheap];simp) hos hout (fun c hc _=>hold c hc) (fun _ => .inl (Nat.le_refl _)) ?_ hΨ ?_
 ·intro S hS
  refine .inr ⟨cap*t.size,cells,e,vs,rfl,by rw [hheap];simp,⟨by simpa using hsz,fun _=>hE⟩,Nat.mul_le_mul_right _ hcap,?_,fun j v hj=>by rw [Nat.zero_add];exact hc j v hj⟩
  exact RepList.mono (fun _ _ hx=>hx.mono fun c hc=>hS c hc (fun _=>by have:=hc.2.1;show c≠w.heap.size;omega)) hr
 ·intro S
  refine ⟨[_],?_,rfl⟩
  unfold AVC
  refine ⟨.inr rfl,.inr ⟨xs.length,cap*t.size,cap,?_,?_,hcap,rfl,by omega⟩⟩ <;> simp [upd]
theorem qw5 (hI:Inv P F ι K H w) {t:Ty} {n:Nat} : ∀ {ps:List (Nat×AV)} {qs:List (Nat×Value)} {l:List t.den} {vs:List Value} {B:List Nat} {rs:List Nat} {Q:α→List Nat→Prop} {k:List t.den→List Nat→RM α},
  (foldElems t n l ps k).wp H rs Q→l.length=n→RepList (Rep w (RegX F ι H w B) t) l vs→All2 (fun p q=>p.1=q.1∧AVR P ι K w (Reg F ι H w) p.2 q.2) ps qs →
  ∃ m bs vs' rs',(k m bs).wp H rs' Q∧m.length=n∧RepList (Rep w (RegX F ι H w (B++bs)) t) m vs'∧Instr.fill (fun i=>some (i*t.size,t.size)) vs.toArray qs=some vs'.toArray
 | [],[],l,vs,B,rs,Q,k,h,hl,hr,_=>⟨l,[],vs,rs,h,hl,by simpa using hr,rfl⟩
 | (i,x) :: ps,(j,y) :: qs,l,vs,B,rs,Q,k,h,hl,hr,.cons ⟨e,us,hx,hval⟩ hrest=>by
  simp only at e;subst e
  simp only [foldElems] at h
  cases hb:Nat.ble (i+1) n with
  | false=>rw [hb] at h;exact h.elim
  | true =>
   rw [hb] at h
   have hi:i<n:=Nat.le_of_ble_eq_true hb
   simp only [cond_true] at h
   obtain ⟨z,bs,rs',h1,hz,hlive,hlen⟩:=qh5 hI h hx
   have hz':Rep w (RegX F ι H w (B++bs)) t z us:=hz.mono fun c hc=>⟨hc.sub (by simp +contextual),rfl⟩
   have hr':RepList (Rep w (RegX F ι H w (B++bs)) t) l vs:=RepList.mono (fun _ _ hx=>hx.mono fun c hc=>⟨hc.sub (by simp +contextual),rfl⟩) hr
   have hset:=RepList.set (fun _ _ h=>h.length) hz' hr' (i:=i) (by omega)
   obtain ⟨m,bs2,vs',rs2,h2,h3,h4,h5⟩:=qw5 hI h1 (by simpa using hl) hset hrest
   refine ⟨m,bs++bs2,vs',rs2,h2,h3,by rw [← List.append_assoc];exact h4,?_⟩
   have hvl:vs.length=n*t.size:=by rw [RepList.length (fun _ _ h=>h.length) hr,hl]
   have hcl:y.cells.toList=us:=by
    have ho : ∀ v∈us,v.oneCell'=true:=hz.one
    cases hag:x.agg with
    | true=>rw [hag] at hval;exact hval.cells ho
    | false=>rw [hag] at hval;exact hval.cells ho
   rw [qad9 (pl:=fun i=>some (i*t.size,t.size)) rfl hcl hlen (by
    rw [hvl]
    calc i*t.size+t.size=(i+1)*t.size:=by rw [Nat.add_mul,Nat.one_mul]
     _≤n*t.size:=Nat.mul_le_mul_right _ hi)]
   exact h5
theorem qx1 {S:Nat→Prop} (t:Ty) : ∀ n,RepList (Rep w S t) (List.replicate n t.zero) (List.replicate n (zc t)).flatten
 | 0=>rfl
 | n+1=>⟨zc t,_,by rw [List.replicate_succ];rfl,qj0 t,qx1 t n⟩
end
section
variable {E : Env} {F : Fr} {ι : Nat → Inf} {K : Nat → Prop} {H : Heap} {w : World} {base : Nat} {Ψ : AV × Heap → List Nat → Prop} {l : Tmps} {ρ : Operand → Value} {o : Oper}
theorem qj7 {P:Program} {t:Ty} {i:TypeId} (h:okTy P t i=true) : ∃ it z,P.info? i=some it∧it.size=t.size∧it.zero=some z∧z.cells=(zc t).toArray:=by
 obtain ⟨it,z,hit,hz,hzv⟩:=qado h
 obtain ⟨it',hit',hs⟩:=info_of h
 rw [hit] at hit'
 simp only [Option.some.injEq] at hit'
 subst hit'
 exact ⟨it,z,hit,hs,hz,by rw [← hzv.cells (qacx t)]⟩
theorem qyx {P:Program} {u:Ty} {t e:TypeId} {n:Nat} (he:P.underlying t=some (.slice e)) (hk:okTy P u e=true) (hsmall:n*u.size≤16777216) {qs:Array (Nat×Value)} {cs:List Value}
  (hfill:Instr.fill (fun i=>some (i*u.size,u.size)) ((List.replicate n (zc u)).flatten).toArray qs.toList=some cs.toArray) (w:World) :
  (Instr.buildSlice t n qs).run P w = .ok (.slice (some ⟨w.heap.size,0,none⟩) n n) { w with heap:=w.heap.push (.cells cs.toArray e) }:=by
 obtain ⟨it,z,hit,hsz,hz,hzc⟩:=qj7 hk
 have hnot:¬ (16777216<n*u.size):=by omega
 by_cases h0:n*u.size=0
 ·have hz0:(List.replicate n (zc u)).flatten=[]:=List.eq_nil_of_length_eq_zero (by simp [qj6,h0])
  rw [hz0] at hfill
  simp [Instr.buildSlice,run_underlying he,qaw hk,h0,newRow,Array.range_zero',hfill]
 ·have hrow:=qaam (zc u) n u.size (qj6 u)
  rw [← hrow,← hzc] at hfill
  simp [Instr.buildSlice,run_underlying he,qaw hk,h0,hnot,zeroValue,typeInfo,hit,hz,newRow,hfill]
theorem qafd (hE:EnvOK E) (h:Now E.P F ι K H w base) (hs : ∀ x,AVR E.P ι K w (Reg F ι H w) (rd l x) (ρ x)) {t:TypeId} {n:Nat} {ps:Array (Nat×Operand)} (ho:o.op = .buildSlice t n ps) (hwp:(exec E (.buildSlice t n ps) (rd l) base).wp H [] Ψ) :
  Comes' E.P (Fin E.P F ι K H w base Ψ) ((execOp ρ o).run E.P w):=by
 obtain ⟨dst,op,ty,pos,af,g⟩:=o
 subst ho
 simp only [exec] at hwp
 split at hwp
 ·rename_i u hu
  obtain ⟨e,he,hk⟩:=qf9 (hE.tys t _ hu)
  cases hsm:Nat.ble (n*u.size) 16777216 with
  | false=>rw [hsm] at hwp;exact hwp.elim
  | true =>
   rw [hsm] at hwp
   have hsmall:=Nat.le_of_ble_eq_true hsm
   simp only [Bool.not_true,cond_false] at hwp
   obtain ⟨m,ks,vs',rs',hq,hml,hrep,hfill⟩:=qw5 h.inv hwp (by simp) (RepList.mono (fun _ _ hx=>hx) (qx1 u n)) (qxv hs ps.toList) (B:=[])
   obtain ⟨it,z,hit,hsz,hz,hzc⟩:=qj7 hk
   have hcl:vs'.length=n*u.size:=by rw [RepList.length (fun _ _ h=>h.length) hrep,hml]
   have hrun:(execOp ρ { dst:=dst,op:=.buildSlice t n ps,type:=ty,pos:=pos,after:=af,guard:=g }).run E.P w = .ok (.value (.slice (some ⟨w.heap.size,0,none⟩) n n)) { w with heap:=w.heap.push (.cells vs'.toArray e) }:=by
    have hr:=qyx (P:=E.P) he hk hsmall (qs:=ps.map fun (i,x)=>(i,ρ x)) (cs:=vs') (by rw [Array.toList_map];exact hfill) w
    simp only [execOp,Sem.run_bind,hr,Result.andThen_ok,Sem.run_pure]
   rw [hrun]
   have:=Fin.row (w':={ w with heap:=w.heap.push (.cells vs'.toArray e) }) h ks (t:=u) (xs:=m) (vs:=vs') (cells:=vs'.toArray) (e:=e) (cap:=n) rfl rfl rfl
    (RepList.mono (fun _ _ hx=>hx.mono fun c hc=>⟨qsy h.inv (fun b hb=>by simpa using hb) hc,rfl⟩) hrep) (fun j v hj=>by simpa using hj) (by omega) (by simp [hcl]) hk hq
   rw [hml] at this
   exact this
 ·exact hwp.elim
theorem qags (hE:EnvOK E) (h:Now E.P F ι K H w base) (hs : ∀ x,AVR E.P ι K w (Reg F ι H w) (rd l x) (ρ x)) {t:TypeId} {a c:Operand} (ho:o.op = .makeSlice t a c) (hwp:(exec E (.makeSlice t a c) (rd l) base).wp H [] Ψ) :
  Comes' E.P (Fin E.P F ι K H w base Ψ) ((execOp ρ o).run E.P w):=by
 obtain ⟨dst,op,ty,pos,af,g⟩:=o
 subst ho
 have ha:=hs a
 have hc:=hs c
 simp only [exec] at hwp
 split at hwp
 ·rename_i u e k1 n k2 m hu he' hn hm
  obtain ⟨n,rfl⟩ : ∃ n':Int,n'=n:=⟨n,rfl⟩
  obtain ⟨m,rfl⟩ : ∃ n':Int,n'=m:=⟨m,rfl⟩
  rw [hn] at ha;rw [hm] at hc
  have ha:ρ a = .int k1 n:=qam.1 (qaf.1 ha)
  have hc:ρ c = .int k2 m:=qam.1 (qaf.1 hc)
  obtain ⟨e2,he,hk⟩:=qf9 (hE.tys t _ hu)
  have:e2=e:=by unfold elemOf at he';rw [he] at he';simpa using he'
  subst this
  simp only [RM.wp] at hwp
  rcases hwp with ⟨hg,hwp⟩ | ⟨_,hwp⟩
  ·simp only [iLe,room,Bool.and_eq_true,decide_eq_true_eq] at hg
   obtain ⟨⟨h0,hnm⟩,hroom⟩:=hg
   obtain ⟨it,z,hit,hsz,hz,hzc⟩:=qj7 hk
   have hby:E.bytes e2=it.bytes:=by simp [Env.bytes,Program.bytesOf,hit]
   have h1:m.toNat≤m.toNat*max (E.bytes e2) 1:=Nat.le_mul_of_pos_right _ (by omega)
   have h2:m.toNat*E.bytes e2≤m.toNat*max (E.bytes e2) 1:=Nat.mul_le_mul_left _ (Nat.le_max_left _ _)
   have hm':(m.toNat:Int)=m:=Int.toNat_of_nonneg (by omega)
   have hbm:(it.bytes:Int)*m≤281474976710656:=by
    rw [← hm',← hby]
    have:(((E.bytes e2*m.toNat:Nat)):Int)≤281474976710656:=by rw [Nat.mul_comm];omega
    rwa [Int.natCast_mul] at this
   have hr:=run_make (P:=E.P) w t e2 it z he hit hz k1 k2 n m h0 hnm hbm (by omega)
   have hrun:(execOp ρ { dst:=dst,op:=.makeSlice t a c,type:=ty,pos:=pos,after:=af,guard:=g }).run E.P w = .ok (.value (.slice (some ⟨w.heap.size,0,none⟩) n.toNat m.toNat)) (w.alloc (.cells (madeCells z.cells (m.toNat*it.size)) e2)):=by
    simp only [execOp,Sem.run_bind,ha,hc,hr,Result.andThen_ok,Sem.run_pure]
   rw [hrun]
   have hcells:madeCells z.cells (m.toNat*it.size)=(List.replicate m.toNat (zc u)).flatten.toArray:=by
    rw [hzc,hsz];exact qaam (zc u) m.toNat u.size (qj6 u)
   have:=Fin.row (w':=w.alloc (.cells (madeCells z.cells (m.toNat*it.size)) e2)) h [] (t:=u) (xs:=List.replicate n.toNat u.zero) (vs:=(List.replicate n.toNat (zc u)).flatten) (cells:=madeCells z.cells (m.toNat*it.size)) (e:=e2) (cap:=m.toNat) rfl rfl rfl
    (qx1 u n.toNat) (fun j v hj=>by
     rw [hcells,List.getElem?_toArray]
     have hle:n.toNat≤m.toNat:=by omega
     have:List.replicate m.toNat (zc u)=List.replicate n.toNat (zc u)++List.replicate (m.toNat-n.toNat) (zc u):=by rw [List.replicate_append_replicate];congr 1;omega
     rw [this,List.flatten_append,List.getElem?_append_left]
     ·exact hj
     ·exact (List.getElem?_eq_some_iff.1 hj).1) (by simp;omega) (by rw [size_madeCells,hsz];exact Nat.le_refl _) hk hwp
   simp only [List.length_replicate] at this
   exact this
  ·exact hwp.elim
 ·exact hwp.elim
end
end Go.Tm
namespace Go.Tm
open Go
theorem qoz {w:World} {c o:Nat} {vs:List Value} {cells:Array Value} {e:TypeId} {fz:Nat×Nat} (h:CellsAt w c o vs) (hb:w.heap[c]? = some (.cells cells e fz)) : ∀ (j:Nat) (v:Value),vs[j]? = some v→cells[o+j]? = some v:=by
 intro j v hj
 have:=h j v hj
 simpa [World.cell?,hb] using this
section
variable {P : Program} {F : Fr} {ι : Nat → Inf} {K : Nat → Prop} {H : Heap} {w w' : World} {base : Nat} {Ψ : AV × Heap → List Nat → Prop}
theorem qajy (h:Now P F ι K H w base) {et:Ty} {t t1 ty e:TypeId} (he:P.underlying t=some (.slice e)) (hk:okTy P et e=true) {ks:List Nat} {xs ys:List et.den} {a:Option Addr} {cap:Nat} {x:Value} {news:List Value}
  (hcap:xs.length≤cap) (hold:xs.length=0 ∨ ∃ c q vs,a=some ⟨c,q,none⟩∧CellsAt w c q vs∧RepList (Rep w (Reg F ι H w) et) xs vs)
  (hplace:cap=0 ∨ ∃ b∈ks,∃ z,look H b=some z∧(ι b).kind.real=true ∧ ∃ d cells e',a=some ⟨(ι b).c,d,none⟩∧w.heap[(ι b).c]? = some (.cells cells e' (0,0))∧d+cap*et.size≤cells.size∧RowE P et e' ∧ ∀ j,d≤j→j<d+cap*et.size→(ι b).has j)
  (hsrc:Src P et.size t1 x ys.length news w) (hnews:RepList (Rep w (Reg F ι H w) et) ys news)
  (hroom:(xs.length+ys.length)*max (P.bytesOf e) 1≤140737488355328) {rs:List Nat} (hΨ:Ψ (.rows base et,(base,some (.row et (xs++ys))) :: kills ks) rs) :
  ∃ r w',(Builtin.append_ #[t,t1] ty #[.slice a xs.length cap,x]).run P w = .ok r w'∧Fin P F ι K H w base Ψ r w':=by
 obtain ⟨it,z,hit,hsz,hz,hzc⟩:=qj7 hk
 have hkill : ∀ c,Reg F ι H w c→Reg F ι (kills ks++H) w c:=fun c hc=>((h.inv.kill ks).2.reg c hc).1
 obtain ⟨olds,holdl,holdr,holda⟩ : ∃ olds:List Value,olds.length=xs.length*et.size∧RepList (Rep w (Reg F ι H w) et) xs olds∧((xs.length=0∧olds=[]) ∨ ∃ c q,a=some ⟨c,q,none⟩∧CellsAt w c q olds):=by
  rcases hold with h0 | ⟨c,q,vs,ha,hat,hr⟩
  ·have:xs=[]:=List.eq_nil_of_length_eq_zero h0
   subst this
   exact ⟨[],by simp,rfl,.inl ⟨rfl,rfl⟩⟩
  ·exact ⟨vs,RepList.length (fun _ _ h=>h.length) hr,hr,.inr ⟨c,q,ha,hat⟩⟩
 have hbytes:P.bytesOf e=it.bytes:=by simp [Program.bytesOf,hit]
 by_cases hfit:xs.length+ys.length≤cap
 ·
  by_cases hcz:cap=0
  ·have h0:=hcz
   have hx:xs.length=0:=by omega
   have hy:ys.length=0:=by omega
   have hx':xs=[]:=List.eq_nil_of_length_eq_zero hx
   have hy':ys=[]:=List.eq_nil_of_length_eq_zero hy
   subst hx' hy' h0
   simp only [RepList] at hnews
   subst hnews
   have hrun:(Builtin.append_ #[t,t1] ty #[.slice a 0 0,x]).run P w = .ok (.slice a 0 0) w:=by
    have h1:=hsrc.len w
    have h2:=hsrc.cells
    rcases hsrc.kind with ⟨e',hk'⟩ | hk' <;> cases a <;> simp [Builtin.append_,run_underlying he,run_underlying hk',qaw hk,hsrc.len,h2,storeCells] at h1 h2 ⊢ <;> simp [h2,storeCells]
   refine ⟨_,_,hrun,Fin.add (w':=w) h ks ⟨0,0,.nilrow et⟩ (.row et []) (Nat.le_refl _) rfl rfl (fun _ _ _=>rfl) (fun hr=>by simp [Kind.real] at hr) (fun S _ => .inl ⟨rfl,rfl⟩) hΨ fun S=>⟨[_],?_,rfl⟩⟩
   unfold AVC
   exact ⟨.inr rfl,.inl ⟨by simp [upd],a,rfl⟩⟩
  ·rcases hplace with h0 | ⟨b,hb,zb,hlk,hreal,d,cells,e',rfl,hblk,hin⟩
   ·exact absurd h0 hcz
   have hone : ∀ u∈news,u.oneCell'=true:=hsrc.one
   have hnl:=hsrc.newsLen
   have hat:CellsAt w (ι b).c d olds:=by
    rcases holda with ⟨_,rfl⟩ | ⟨c,q,hc,hat⟩
    ·intro j v hj;simp at hj
    ·simp only [Option.some.injEq,Addr.mk.injEq,and_true] at hc
     rw [hc.1,hc.2];exact hat
   have hle:(xs.length+ys.length)*et.size≤cap*et.size:=Nat.mul_le_mul_right _ hfit
   rw [Nat.add_mul] at hle
   have hw1:d+xs.length*et.size+news.length≤cells.size:=by have:=hin.1;omega
   have hrun:(Builtin.append_ #[t,t1] ty #[.slice (some ⟨(ι b).c,d,none⟩) xs.length cap,x]).run P w = .ok (.slice (some ⟨(ι b).c,d,none⟩) (xs.length+ys.length) cap) (w.setRow (ι b).c (over cells.toList (d+xs.length*et.size) news).toArray):=by
    have hst:=run_storeCells_at P (ι b).c (d+xs.length*et.size) e' news 0 cells w hblk (by simpa using hw1) hone
    simp only [Nat.add_zero] at hst
    have h2:=hsrc.cells
    rcases hsrc.kind with ⟨e'',hk'⟩ | hk' <;> simp [Builtin.append_,run_underlying he,run_underlying hk',qaw hk,hsrc.len,hfit,h2,addr_add,hst,over]
   refine ⟨_,_,hrun,Fin.add (w':=w.setRow (ι b).c (over cells.toList (d+xs.length*et.size) news).toArray) h ks ⟨(ι b).c,d,.row et (xs.length+ys.length) (cap*et.size)⟩ (.row et (xs++ys)) (by rw [setRow_size];exact Nat.le_refl _) rfl rfl (fun c hc hne=>setRow_other _ (hne rfl)) (fun _ => .inr ⟨b,hb,zb,hlk,hreal,rfl,fun j hj=>hin.2.2 j hj.1 hj.2,fun old e2 ho=>by
    rw [hblk] at ho;simp only [Option.some.injEq,Obj.cells.injEq] at ho
    obtain ⟨rfl,rfl,_⟩:=ho
    refine ⟨_,setRow_same hblk _,by rw [List.size_toArray,qar (by rw [Array.length_toList];exact hw1),Array.length_toList],fun j hj => ?_⟩
    have hj':¬ (d≤j∧j<d+cap*et.size):=hj
    rw [List.getElem?_toArray,qex (by rw [Array.length_toList];exact hw1)]
    by_cases h1:j<d+xs.length*et.size
    ·rw [if_pos h1,Array.getElem?_toList]
    ·rw [if_neg h1,if_neg (by omega),Array.getElem?_toList]⟩) ?_ hΨ fun S=>⟨[_],?_,rfl⟩⟩
   ·intro S hS
    refine .inr ⟨cap*et.size,(over cells.toList (d+xs.length*et.size) news).toArray,e',olds++news,by rw [List.length_append],setRow_same hblk _,?_,by rw [List.length_append,Nat.add_mul];exact hle,?_,?_⟩
    ·refine ⟨?_,hin.2.1⟩
     rw [List.size_toArray,qar (by rw [Array.length_toList];exact hw1),Array.length_toList];exact hin.1
    ·refine RepList.mono (fun _ _ hx=>hx.mono fun c hc=>hS c (hkill c hc) (fun _ => ?_)) (holdr.append hnews)
     exact qab2 hc hlk hreal
    ·intro j v hj
     show (over cells.toList (d+xs.length*et.size) news).toArray[d+j]? = some v
     rw [List.getElem?_toArray,qex (by rw [Array.length_toList];exact hw1)]
     by_cases h1:j<olds.length
     ·rw [List.getElem?_append_left h1] at hj
      rw [if_pos (by omega)]
      simpa using qoz hat hblk j v hj
     ·rw [List.getElem?_append_right (by omega)] at hj
      have hjl:=(List.getElem?_eq_some_iff.1 hj).1
      rw [if_neg (by omega),if_pos (by omega)]
      rw [show d+j-(d+xs.length*et.size)=j-olds.length by omega]
      exact hj
   ·unfold AVC
    refine ⟨.inr rfl,.inr ⟨xs.length+ys.length,cap*et.size,cap,?_,?_,hfit,rfl,by omega⟩⟩ <;> simp [upd]
 ·
  have hfo:(Builtin.firstCells it.size xs.length (.slice a xs.length cap)).run P w.drew = .ok olds.toArray w.drew:=by
   rcases holda with ⟨h0,rfl⟩ | ⟨c,q,rfl,hat⟩
   ·rw [h0]
    cases a with
    | none=>exact run_firstCells_none _ _ _ _ _
    | some a=>exact run_firstCells_some w.drew it.size 0 a 0 cap [] (by simp) (fun j v hj=>by simp at hj)
   ·exact run_firstCells_some w.drew it.size xs.length ⟨c,q,none⟩ xs.length cap olds (by rw [hsz];exact holdl) (fun j v hj=>by rw [addr_add];simpa using hat j v hj)
  have hn1:(xs.length+ys.length)≤(xs.length+ys.length)*max (P.bytesOf e) 1:=Nat.le_mul_of_pos_right _ (by omega)
  have hn2:(xs.length+ys.length)*P.bytesOf e≤(xs.length+ys.length)*max (P.bytesOf e) 1:=Nat.mul_le_mul_left _ (Nat.le_max_left _ _)
  have hrun:=run_append_grow_src (P:=P) w t t1 ty e it z he hit hz a xs.length cap olds hfo x ys.length news (by rw [hsz];exact hsrc) (by omega) (by omega) (growslice_fits (by omega) (by rw [← hbytes];omega))
  refine ⟨_,_,hrun,?_⟩
  have hg:=grownCap_ge w (xs.length+ys.length) cap e
  have hzl:z.cells.size=et.size:=by rw [hzc,List.size_toArray,qj6]
  have hnl:=hsrc.newsLen
  have:=Fin.row (w':=w.drew.alloc (.cells ((olds++news).toArray++Builtin.zeroCells z.cells (grownCap w (xs.length+ys.length) cap e-(xs.length+ys.length))) e)) h ks (t:=et) (xs:=xs++ys) (vs:=olds++news)
   (cells:=(olds++news).toArray++Builtin.zeroCells z.cells (grownCap w (xs.length+ys.length) cap e-(xs.length+ys.length))) (e:=e) (cap:=grownCap w (xs.length+ys.length) cap e) rfl rfl rfl
   (RepList.mono (fun _ _ hx=>hx.mono fun c hc=>⟨hkill c hc,rfl⟩) (holdr.append hnews))
   (fun j v hj=>by
    have hjl:=(List.getElem?_eq_some_iff.1 hj).1
    rw [Array.getElem?_append_left (by simpa using hjl)]
    simpa using hj) (by rw [List.length_append];exact hg)
   (by
    have h1:(Builtin.zeroCells z.cells (grownCap w (xs.length+ys.length) cap e-(xs.length+ys.length))).size=(grownCap w (xs.length+ys.length) cap e-(xs.length+ys.length))*et.size:=by simp [Builtin.zeroCells,hzl]
    rw [Array.size_append,List.size_toArray,List.length_append,h1,holdl,hnl,← Nat.add_mul,← Nat.add_mul]
    exact Nat.mul_le_mul_right _ (by omega)) hk hΨ
  rw [List.length_append] at this
  exact this
end
end Go.Tm
namespace Go.Tm
open Go
section
variable {E : Env} {F : Fr} {ι : Nat → Inf} {K : Nat → Prop} {H : Heap} {w : World} {base : Nat} {Ψ : AV × Heap → List Nat → Prop} {l : Tmps} {ρ : Operand → Value} {o : Oper} {α : Type}
theorem qx0 {S:Nat→Prop} : ∀ s:List UInt8,RepList (Rep w S (.int .u8)) (bytesOf s) (s.map fun b=>Value.int .u8 b.toNat)
 | []=>rfl
 | b :: s=>⟨[.int .u8 b.toNat],_,rfl,rfl,qx0 s⟩
theorem qpa {et:Ty} {x:AV} {rs:List Nat} {Q:α→List Nat→Prop} {k:(Ty.list et).den→List Nat→RM α} (h:(castR (.list et) x k).wp H rs Q):x.agg=false ∧ ∀ st,elemOK st x=true → ∃ u,st=some (.list u):=by
 cases x with
 | val u y =>
  cases he:u.eq? (.list et) with
  | none=>simp only [castR,he] at h;exact h.elim
  | some p =>
   obtain ⟨rfl⟩:=p
   exact ⟨rfl,fun st hst=>⟨_,qr9 hst⟩⟩
 | nilS=>exact ⟨rfl,fun st hst=>qzt hst⟩
 | rows b u=>exact ⟨rfl,fun st hst=>⟨_,qpe hst⟩⟩
 | view b p u off len=>exact ⟨rfl,fun st hst=>⟨_,ql5 hst⟩⟩
 | _=>exact h.elim
theorem qanf (a:Option Addr) {n cap:Nat} {t1 e':TypeId} (hk:E.P.underlying t1=some (.slice e')) {et:Ty} {xs:List et.den} {bs:List Nat} (hn:xs.length=n)
  (hx:n=0 ∨ ∃ c q vs,a=some ⟨c,q,none⟩∧RegX F ι H w bs c∧CellsAt w c q vs∧RepList (Rep w (Reg F ι H w) et) xs vs) :
  ∃ news,Src E.P et.size t1 (.slice a n cap) n news w∧RepList (Rep w (Reg F ι H w) et) xs news:=by
 rcases hx with h0 | ⟨c,q,vs,rfl,_,hat,hr⟩
 ·subst h0
  have:xs=[]:=List.eq_nil_of_length_eq_zero hn
  subst this
  refine ⟨[],?_,rfl⟩
  cases a with
  | none=>exact Src.ofNil w hk cap
  | some a=>exact Src.ofSlice w hk a 0 cap [] (by simp) (fun j u hj=>by simp at hj) (fun _ h=>by cases h)
 ·subst hn
  exact ⟨vs,Src.ofSlice w hk ⟨c,q,none⟩ _ cap vs (RepList.length (fun _ _ h=>h.length) hr) (fun j u hj=>by rw [addr_add];exact hat j u hj) (RepList.all (fun _ _ h=>h.one) hr),hr⟩
theorem qaox (hE:EnvOK E) (hI:Inv E.P F ι K H w) {et:Ty} {x:AV} {xv:Value} {t1:TypeId} (hx:AVR E.P ι K w (Reg F ι H w) x xv) (hel:elemOK (E.tys t1) x=true) {rs:List Nat} {Q:α→List Nat→Prop} {k:List et.den→List Nat→RM α}
  (h:(srcR et x k).wp H rs Q) : ∃ (ys:List et.den) (bs rs':List Nat) (news:List Value),(k ys bs).wp H rs' Q∧Src E.P et.size t1 xv ys.length news w∧RepList (Rep w (Reg F ι H w) et) ys news:=by
 unfold srcR at h
 split at h
 ·rename_i b _
  obtain ⟨b,rfl⟩ : ∃ b':List UInt8,b'=b:=⟨b,rfl⟩
  have hv:xv = .string ⟨b.toArray⟩:=qbw.1 (qaf.1 hx)
  have hd:=quy (hE.tys t1 _ (qva hel))
  subst hv
  refine ⟨_,_,_,byteCells ⟨b.toArray⟩,h,?_,?_⟩
  ·have:=Src.ofString (P:=E.P) w hd ⟨b.toArray⟩
   have hl:(bytesOf b:List Int).length=(⟨b.toArray⟩:ByteArray).size:=by simp [bytesOf,ByteArray.size]
   show Src E.P 1 t1 _ (List.length (bytesOf b)) _ w
   rw [hl];exact this
  ·exact qx0 b
 ·obtain ⟨hag,hst⟩:=qpa h
  obtain ⟨cs,hc,hv⟩:=hx
  rw [hag] at hv
  obtain ⟨u,hu⟩:=hst _ hel
  obtain ⟨e',he',_⟩:=qf9 (hE.tys t1 _ hu)
  obtain ⟨xs,bs,rs',hq,hlive,a,cap,rfl,hcap,hx⟩:=qlp hI h hc
  have hp:=qad hv
  subst hp
  obtain ⟨news,h1,h2⟩:=qanf a he' rfl hx
  exact ⟨xs,bs,rs',news,hq,h1,h2⟩
theorem qaky (hE:EnvOK E) (h:Now E.P F ι K H w base) (hs : ∀ x,AVR E.P ι K w (Reg F ι H w) (rd l x) (ρ x)) {as:Array Operand} {ts:Array TypeId} (ho:o.op = .call { callee:=.builtin .append,args:=as,argTypes:=ts })
  (hwp:(exec E (.call { callee:=.builtin .append,args:=as,argTypes:=ts }) (rd l) base).wp H [] Ψ) :
  Comes' E.P (Fin E.P F ι K H w base Ψ) ((execOp ρ o).run E.P w):=by
 obtain ⟨dst,op,ty,pos,af,g⟩:=o
 subst ho
 simp only [exec] at hwp
 split at hwp
 ·rename_i s x t t1 hxs hts
  obtain rfl:as = #[s,x]:=by cases as;simpa using hxs
  obtain rfl:ts = #[t,t1]:=by cases ts;simpa using hts
  have hsv:=hs s
  have hx:=hs x
  generalize rd l s=vs at hwp hsv
  generalize rd l x=vx at hwp hx
  split at hwp
  ·rename_i et e hu he'
   obtain ⟨e2,he,hk⟩:=qf9 (hE.tys t _ hu)
   have:e2=e:=by unfold elemOf at he';rw [he] at he';simpa using he'
   subst this
   cases hel:(elemOK (some (.list et)) vs&&elemOK (E.tys t1) vx) with
   | false=>rw [hel] at hwp;exact hwp.elim
   | true =>
    rw [hel] at hwp
    simp only [Bool.and_eq_true] at hel
    simp only [cond_true] at hwp
    have fin : ∀ {r w'},(Builtin.append_ #[t,t1] ty #[ρ s,ρ x]).run E.P w = .ok r w'→Fin E.P F ι K H w base Ψ r w' →
      Comes' E.P (Fin E.P F ι K H w base Ψ) ((execOp ρ { dst:=dst,op:=.call { callee:=.builtin .append,args:=#[s,x],argTypes:=#[t,t1] },type:=ty,pos:=pos,after:=af,guard:=g }).run E.P w):=by
     intro r w' hr hf
     have hrun:(execOp ρ { dst:=dst,op:=.call { callee:=.builtin .append,args:=#[s,x],argTypes:=#[t,t1] },type:=ty,pos:=pos,after:=af,guard:=g }).run E.P w = .ok (.value r) w':=by
      simp [execOp,resolve,invoke,builtin,hr]
     rw [hrun];exact hf
    have more : ∀ {xs:List et.den} {ks:List Nat} {rs:List Nat} {a:Option Addr} {cap:Nat},ρ s = .slice a xs.length cap→xs.length≤cap →
      (xs.length=0 ∨ ∃ c q vs,a=some ⟨c,q,none⟩∧CellsAt w c q vs∧RepList (Rep w (Reg F ι H w) et) xs vs) →
      (cap=0 ∨ ∃ b∈ks,∃ z,look H b=some z∧(ι b).kind.real=true ∧ ∃ d cells e',a=some ⟨(ι b).c,d,none⟩∧w.heap[(ι b).c]? = some (.cells cells e' (0,0))∧d+cap*et.size≤cells.size∧RowE E.P et e' ∧ ∀ j,d≤j→j<d+cap*et.size→(ι b).has j) →
      (RM.wp H (srcR et vx fun ys bs=>bif disjN ks bs then .br (room (xs.length+ys.length) (E.bytes e2)) (.ret (.rows base et,(base,some (.row et (xs++ys))) :: kills ks)) .fail else .fail) rs Ψ) →
      Comes' E.P (Fin E.P F ι K H w base Ψ) ((execOp ρ { dst:=dst,op:=.call { callee:=.builtin .append,args:=#[s,x],argTypes:=#[t,t1] },type:=ty,pos:=pos,after:=af,guard:=g }).run E.P w):=by
     intro xs ks rs a cap hsl hcap hold hplace hw
     obtain ⟨ys,bs,rs',news,hq,hsrc,hnews⟩:=qaox hE h.inv hx hel.2 hw
     cases hd:disjN ks bs with
     | false=>rw [hd] at hq;exact hq.elim
     | true =>
      rw [hd] at hq
      simp only [cond_true,RM.wp] at hq
      rcases hq with ⟨hr,hq⟩ | ⟨_,hq⟩
      ·simp only [room,decide_eq_true_eq] at hr
       obtain ⟨r,w',hrun,hf⟩:=qajy (ty:=ty) h he hk hcap hold hplace hsrc hnews hr hq
       rw [hsl] at fin
       exact fin hrun hf
      ·exact hq.elim
    unfold appendR at hwp
    simp only at hwp
    obtain ⟨cs,hc,hv⟩:=hsv
    split at hwp
    ·simp only [AVC] at hc
     subst hc
     have hp:=qad (show ValOf false _ (ρ s) from hv)
     exact more (xs:=[]) (ks:=[]) hp (Nat.le_refl _) (.inl rfl) (.inl rfl) hwp
    ·rename_i b u
     simp only [castR,RM.wp] at hwp
     obtain ⟨z,hz,hwp⟩:=hwp
     cases z with
     | box _ _=>exact hwp.elim
     | row u' xs =>
      simp only at hwp
      split at hwp
      ·rename_i q hq;obtain rfl:=q
       simp only [AVC] at hc
       obtain ⟨hK,hc⟩:=hc
       have hblk:=h.inv.blks b _ hz
       rcases hc with ⟨hk',a,rfl⟩ | ⟨n,room,cap,hk',rfl,hn,hr⟩
       ·rcases hblk with ⟨_,h0⟩ | ⟨room,_,_,_,hk'',_⟩
        ·have hp:=qad (show ValOf false _ (ρ s) from hv)
         exact more (xs:=xs) (ks:=[b]) (by rw [h0];exact hp) (by rw [h0];exact Nat.le_refl _) (.inl h0) (.inl rfl) hwp
        ·rw [hk'] at hk'';simp at hk''
       ·rcases hblk with ⟨hk'',_⟩ | ⟨room',_,_,_,hk'',_⟩
        ·rw [hk'] at hk'';simp at hk''
        ·have hk2:=hk'
         rw [hk''] at hk2
         simp only [Kind.row.injEq] at hk2
         obtain ⟨rfl,hlen,rfl⟩:=hk2
         obtain ⟨_,cells,e3,vs',hb3,h1,h2,h3,hvl,h4,hat⟩:=qdi (h.inv.blks b _ hz) hk'
         have hp:=qad (show ValOf false _ (ρ s) from hv)
         exact more (xs:=xs) (ks:=[b]) (by rw [hlen];exact hp) (by rw [hlen];exact hn) (.inr ⟨_,_,vs',rfl,hat,h3⟩) (.inr ⟨b,by simp,_,hz,by rw [hk'];rfl,_,cells,e3,rfl,hb3,by omega,qac9 (h.inv.blks b _ hz) hk' hb3,fun j g1 g2=>(Inf.has_row hk' j).2 (by omega)⟩) hwp
      ·exact hwp.elim
    ·rename_i b u off len
     have hc0:=hc
     simp only [AVC] at hc
     obtain ⟨hK,hc⟩:=hc
     have aft : ∀ {xs:List et.den} {ks rs:List Nat} {a:Option Addr} {cap:Nat},ρ s = .slice a xs.length cap→xs.length≤cap →
      (xs.length=0 ∨ ∃ c q vs,a=some ⟨c,q,none⟩∧CellsAt w c q vs∧RepList (Rep w (Reg F ι H w) et) xs vs) →
      (cap=0 ∨ ∃ b∈ks,∃ z,look H b=some z∧(ι b).kind.real=true ∧ ∃ d cells e',a=some ⟨(ι b).c,d,none⟩∧w.heap[(ι b).c]? = some (.cells cells e' (0,0))∧d+cap*et.size≤cells.size∧RowE E.P et e' ∧ ∀ j,d≤j→j<d+cap*et.size→(ι b).has j) →
      (∃ z,look H b=some z∧RM.wp H (match z with
       | .row _ ys => .br (Nat.beq (off+len) (List.length ys)) (srcR et vx fun ys bs=>bif disjN ks bs then .br (room (xs.length+ys.length) (E.bytes e2)) (.ret (.rows base et,(base,some (.row et (xs++ys))) :: kills ks)) .fail else .fail) .fail
       | _ => .fail) rs Ψ) →
      Comes' E.P (Fin E.P F ι K H w base Ψ) ((execOp ρ { dst:=dst,op:=.call { callee:=.builtin .append,args:=#[s,x],argTypes:=#[t,t1] },type:=ty,pos:=pos,after:=af,guard:=g }).run E.P w):=by
      intro xs ks rs a cap h1 h2 h3 h4 ⟨z,hz,hw⟩
      cases z with
      | box _ _=>exact hw.elim
      | row u' ys =>
       simp only [RM.wp] at hw
       rcases hw with ⟨_,hw⟩ | ⟨_,hw⟩
       ·exact more h1 h2 h3 h4 hw
       ·exact hw.elim
     rcases hc with ⟨rfl,⟨a,rfl⟩,hvalid⟩ | ⟨n,room,cap,_,hkk,rfl,hlc,hln,hroom⟩ | ⟨q,n,cap,hko,rfl,hlc,hln,hcn⟩
     ·obtain ⟨xs,bs,rs',hq,hlive,a',cap,heq,hcap,hx'⟩:=qlp h.inv hwp hc0
      have hp:=qad (show ValOf false _ (ρ s) from hv)
      simp only [List.cons.injEq,Value.slice.injEq,and_true] at heq
      obtain ⟨rfl,e1,rfl⟩:=heq
      exact aft (by rw [← e1];exact hp) (by omega) (.inl e1.symm) (.inl rfl) hq
     ·obtain ⟨xs,vs',rfl,hq,hxl,hrep,hat,_,hlk,hreal⟩:=qfd h.inv hwp (.inl ⟨rfl,rfl,n,room,hkk,hln⟩)
      have hp:=qad (show ValOf false _ (ρ s) from hv)
      obtain ⟨z,hz⟩:=hlk
      have hcells : ∃ cells e3,w.heap[(ι b).c]? = some (.cells cells e3 (0,0))∧(ι b).d+room≤cells.size∧RowE E.P u e3:=by
       have hblk:=h.inv.blks b _ hz
       cases z with
       | box _ _=>obtain ⟨hk',_⟩:=qhz hblk;rw [hkk] at hk';simp at hk'
       | row u' zs =>
        rcases hblk with ⟨hk',_⟩ | ⟨room',cs',e3,_,hk',hb3,h1,_⟩
        ·rw [hkk] at hk';simp at hk'
        ·rw [hkk] at hk'
         simp only [Kind.row.injEq] at hk'
         obtain ⟨rfl,_,rfl⟩:=hk'
         exact ⟨cs',e3,hb3,h1⟩
      obtain ⟨cells,e3,hb3,h1,hpin⟩:=hcells
      refine aft (ks:=[b]) (by rw [hxl];exact hp) (by rw [hxl];exact hlc) (.inr ⟨_,_,vs',rfl,hat,hrep⟩) (.inr ⟨b,by simp,z,hz,hreal,_,cells,e3,rfl,hb3,?_,hpin,fun j g1 g2=>(Inf.has_row hkk j).2 (by
       have g1:(ι b).d+off*u.size≤j:=g1
       have g2:j<(ι b).d+off*u.size+cap*u.size:=g2
       rw [Nat.add_mul] at hroom;omega)⟩) hq
      rw [Nat.add_mul] at hroom
      show (ι b).d+off*u.size+cap*u.size≤cells.size
      omega
     ·exfalso
      obtain ⟨y,ws,z,rfl,hq,hz,_⟩:=qyf h.inv hwp hko
      have hblk:=h.inv.blks b _ hz
      simp only [RM.wp] at hq
      obtain ⟨z',hz',hq⟩:=hq
      rw [hz] at hz';simp only [Option.some.injEq] at hz';subst hz'
      cases z with
      | box _ _=>exact hq.elim
      | row u' zs =>
       rcases hblk with ⟨hk',_⟩ | ⟨room',cs',e3,_,hk',hb3,h1,_⟩ <;> rw [hk'] at hko <;> cases hko
    ·exact hwp.elim
  ·exact hwp.elim
 ·exact hwp.elim
end
end Go.Tm
namespace Go.Tm
open Go
theorem qu7 {k:FloatKind} {b:Nat} (h:isNan k b=true) : ∃ s f,k.decode b = .nan s f:=qav.1 h
theorem qai4 {k:FloatKind} {b:Nat} (h:isNan k b=false) : ∀ s f,k.decode b ≠ .nan s f:=by
 intro s f e
 have:isNan k b=true:=qav.2 ⟨s,f,e⟩
 rw [this] at h;simp at h
section
variable {P : Program} {F : Fr} {ι : Nat → Inf} {K : Nat → Prop} {H : Heap} {w w' : World} {base : Nat} {Ψ : AV × Heap → List Nat → Prop}
theorem Inv.grow (h:Inv P F ι K H w) (hsz:w.heap.size≤w'.heap.size) (hw : ∀ c,c<w.heap.size→w'.heap[c]? = w.heap[c]?) (ho:w'.os=w.os) (hp:w'.output=w.output) :
  Inv P F ι K H w'∧Stp F ι ι K K H H w w':=by
 have hs:Stp F ι ι K K H H w w':=⟨fun _ h=>⟨h,rfl⟩,qrr hsz (fun c hc _=>hw c hc) (fun c hc => .inl hc),hsz⟩
 refine ⟨⟨⟨ho.trans h.same.1,hp.trans h.same.2.1,Nat.le_trans h.same.2.2 hsz⟩,h.lent,fun c h1 h2=>(hw c (Nat.lt_of_lt_of_le h1 h.same.2.2)).trans (h.keep c h1 h2),h.known,fun b x hb => ?_,h.mine,h.inj,h.stay.on hw,h.cover⟩,hs⟩
 exact (h.blks b x hb).mono hs.known hs.reg hs.size (fun hr=>hw _ (h.exists hb hr))
theorem qaao {S:Nat→Prop} : ∀ {l:List Int} {vs:List Value},RepList (Rep w S (.int .u8)) l vs→vs=l.map (Value.int .u8)
 | [],_,h=>h
 | n :: l,_,⟨a,b,e,hx,hy⟩=>by
  have:a=[.int .u8 n]:=hx
  subst e this
  rw [qaao hy];rfl
end
section
variable {E : Env} {F : Fr} {ι : Nat → Inf} {K : Nat → Prop} {H : Heap} {w : World} {base : Nat} {Ψ : AV × Heap → List Nat → Prop} {l : Tmps} {ρ : Operand → Value} {o : Oper} {α : Type}
theorem qajf (hE:EnvOK E) (h:Now E.P F ι K H w base) (hs : ∀ x,AVR E.P ι K w (Reg F ι H w) (rd l x) (ρ x)) {s d:TypeId} {x:Operand} (ho:o.op = .convert s d x) (hwp:(exec E (.convert s d x) (rd l) base).wp H [] Ψ) :
  Comes' E.P (Fin E.P F ι K H w base Ψ) ((execOp ρ o).run E.P w):=by
 obtain ⟨dst,op,ty,pos,af,g⟩:=o
 subst ho
 have hx:=hs x
 simp only [exec] at hwp
 generalize rd l x=v at hwp hx
 split at hwp
 ·rename_i st u hst hu
  have hsok:=hE.tys s _ hst
  have hok:=hE.tys d _ hu
  obtain ⟨sd,hsd,_⟩:=qajw hsok
  rw [hst] at hwp
  have fin : ∀ {r w'},(convert s d (ρ x)).run E.P w = .ok r w'→Fin E.P F ι K H w base Ψ r w'→Comes' E.P (Fin E.P F ι K H w base Ψ) ((execOp ρ { dst:=dst,op:=.convert s d x,type:=ty,pos:=pos,after:=af,guard:=g }).run E.P w):=by
   intro r w' hr hf
   have hrun:(execOp ρ { dst:=dst,op:=.convert s d x,type:=ty,pos:=pos,after:=af,guard:=g }).run E.P w = .ok (.value r) w':=by simp [execOp,hr]
   rw [hrun];exact hf
  unfold convV at hwp
  split at hwp
  ·
   rename_i k k2 n
   obtain ⟨n,rfl⟩ : ∃ n':Int,n'=n:=⟨n,rfl⟩
   have hd:=int_of hok
   have hv:ρ x = .int k2 n:=qam.1 (qaf.1 hx)
   refine fin (r:=.int k (k.wrap n)) (w':=w) ?_ (Fin.pure h hwp (qaf.2 (qam.2 rfl)))
   simp [convert,run_underlying hsd,run_underlying hd,hv,Conv.intToInt]
  ·rename_i k k2 n
   obtain ⟨n,rfl⟩ : ∃ n':Int,n'=n:=⟨n,rfl⟩
   have hd:=qakb hok
   have hv:ρ x = .int k2 n:=qam.1 (qaf.1 hx)
   refine fin (r:=.float k (k.nearest n)) (w':=w) ?_ (Fin.pure h hwp (qaf.2 (qcj.2 ⟨_,rfl,rfl⟩)))
   simp [convert,run_underlying hsd,run_underlying hd,hv,Conv.intToFloat]
  ·rename_i k s' b
   have hd:=int_of hok
   obtain ⟨c,hv,hc⟩:=qcj.1 (qaf.1 hx)
   simp only [RM.wp] at hwp
   obtain ⟨n,hn,hwp⟩:=hwp
   unfold fToInt at hn
   cases hnan:isNan s' c with
   | true =>
    have hb:isNan s' b=true:=by rw [← hc,qcl];exact hnan
    obtain ⟨p,q,hdec⟩:=qu7 hb
    rw [hdec] at hn
    simp [Ieee.Datum.toInt,Ieee.Datum.integral] at hn
   | false =>
    have hb:b=c:=by rw [← hc,qao hnan]
    subst hb
    split at hn
    ·rename_i m hm
     cases hin:(decide (k.min≤m)&&decide (m≤k.max)) with
     | false=>rw [hin] at hn;simp at hn
     | true =>
      rw [hin] at hn
      simp only [cond_true,Option.some.injEq] at hn
      subst hn
      simp only [Bool.and_eq_true,decide_eq_true_eq] at hin
      refine fin (r:=.int k m) (w':=w) ?_ (Fin.pure h hwp (qaf.2 (qam.2 rfl)))
      simp [convert,run_underlying hsd,run_underlying hd,hv,Conv.floatToInt,hm,hin]
    ·simp at hn
  ·
   rename_i k s' b
   have hd:=qakb hok
   obtain ⟨c,hv,hc⟩:=qcj.1 (qaf.1 hx)
   split at hwp
   ·rename_i e _
    obtain rfl:=e.down
    refine fin (r:=.float s' c) (w':=w) ?_ (Fin.pure h hwp (qaf.2 (qcj.2 ⟨c,rfl,hc⟩)))
    simp [convert,run_underlying hsd,run_underlying hd,hv,Conv.floatToFloat]
   ·rename_i hne
    have hne':s'≠k:=by intro e;subst e;have:=qzc s';rw [hne] at this;simp at this
    simp only [RM.wp] at hwp
    obtain ⟨n,hn,hwp⟩:=hwp
    unfold fConv at hn
    cases hnan:isNan s' c with
    | true =>
     have hb:isNan s' b=true:=by rw [← hc,qcl];exact hnan
     obtain ⟨p,q,hdec⟩:=qu7 hb
     obtain ⟨p',q',hdec'⟩:=qu7 hnan
     rw [hdec] at hn
     simp only [Option.some.injEq] at hn
     subst hn
     refine fin (r:=.float k ((Question.nanConv k c).cut (w.tape w.drawn (.nanConv k c)))) (w':=w.drew) ?_ (Fin.draw h rfl rfl rfl hwp (qaf.2 (qcj.2 ⟨_,rfl,qpd k _ _ (.inr (.inr (.inl ⟨_,rfl⟩)))⟩)))
     simp [convert,run_underlying hsd,run_underlying hd,hv,Conv.floatToFloat,hne',hdec',Question.forced]
    | false =>
     have hb:b=c:=by rw [← hc,qao hnan]
     subst hb
     split at hn
     ·rename_i p q hdec;exact absurd hdec (qai4 hnan _ _)
     ·rename_i p hdec
      simp only [Option.some.injEq] at hn
      subst hn
      refine fin (r:=.float k (k.encode (.infinity p))) (w':=w) ?_ (Fin.pure h hwp (qaf.2 (qcj.2 ⟨_,rfl,rfl⟩)))
      simp [convert,run_underlying hsd,run_underlying hd,hv,Conv.floatToFloat,hne',hdec]
     ·rename_i p m e hdec
      cases hinf:(k.decode (k.encode (.number p m e))).isInfinity with
      | true=>rw [hinf] at hn;simp at hn
      | false =>
       rw [hinf] at hn
       simp only [cond_false,Option.some.injEq] at hn
       subst hn
       refine fin (r:=.float k (k.encode (.number p m e))) (w':=w) ?_ (Fin.pure h hwp (qaf.2 (qcj.2 ⟨_,rfl,rfl⟩)))
       simp [convert,run_underlying hsd,run_underlying hd,hv,Conv.floatToFloat,hne',hdec,hinf]
  ·
   rename_i b
   obtain ⟨b,rfl⟩ : ∃ b':List UInt8,b'=b:=⟨b,rfl⟩
   have hd:=quy hok
   have hv:ρ x = .string ⟨b.toArray⟩:=qbw.1 (qaf.1 hx)
   refine fin (r:=.string ⟨b.toArray⟩) (w':=w) ?_ (Fin.pure h hwp (qaf.2 (qbw.2 rfl)))
   simp [convert,run_underlying hsd,run_underlying hd,hv]
  ·
   rename_i hns
   have hd:=quy hok
   split at hwp
   ·rename_i heq
    simp only [Option.some.injEq] at heq
    subst heq
    obtain ⟨e,he,hk⟩:=qf9 hsok
    have he8:=int_of hk
    obtain ⟨hag,_⟩:=qpa hwp
    obtain ⟨cs,hc,hv⟩:=hx
    rw [hag] at hv
    obtain ⟨xs,bs,rs',hq,hlive,a,cap,rfl,hcap,hx⟩:=qlp h.inv hwp hc
    obtain ⟨xs,rfl⟩ : ∃ xs':List Int,xs'=xs:=⟨xs,rfl⟩
    have hp:=qad hv
    refine fin (r:=.string ⟨(ofBytes xs).toArray⟩) (w':=w) ?_ (Fin.pure h hq (qaf.2 (qbw.2 rfl)))
    rw [hp]
    have hload : ∀ a',a=some a'→(loadCells a' (List.length (α:=(Ty.int IntKind.u8).den) xs)).run E.P w = .ok (xs.map (Value.int .u8)).toArray w:=by
     rintro a' rfl
     rcases hx with h0 | ⟨c,q,vs,ha,_,hat,hr⟩
     ·have:xs=[]:=List.eq_nil_of_length_eq_zero h0
      subst this
      exact run_loadCells_list (P:=E.P) w a' [] (fun j v hj=>by simp at hj)
     ·simp only [Option.some.injEq] at ha
      subst ha
      rw [qaao hr] at hat
      have:=run_loadCells_list (P:=E.P) w ⟨c,q,none⟩ (xs.map (Value.int .u8)) (fun j v hj=>by rw [addr_add];exact hat j v hj)
      rw [List.length_map] at this
      exact this
    cases a with
    | none =>
     have h0:xs.length=0:=by
      rcases hx with h0 | ⟨c,q,vs,ha,_⟩
      ·exact h0
      ·simp at ha
     have:xs=[]:=List.eq_nil_of_length_eq_zero h0
     subst this
     exact run_convert_bytes_nil w s e he he8 _ _ d hd
    | some a' =>
     rw [run_convert_bytes_string w s d e _ _ cap he he8 hd,run_bytesToString w _ _ cap xs (hload a' rfl),foldl_push_bytes]
     simp [ofBytes,ByteArray.empty,ByteArray.emptyWithCapacity,toByte]
     rfl
   ·exact hwp.elim
  ·
   rename_i b
   obtain ⟨b,rfl⟩ : ∃ b':List UInt8,b'=b:=⟨b,rfl⟩
   obtain ⟨e,he,hk⟩:=qf9 hok
   have he8:=int_of hk
   have hv:ρ x = .string ⟨b.toArray⟩:=qbw.1 (qaf.1 hx)
   have hr:=Lib.run_convert_string_bytes (P:=E.P) w s d e ⟨b.toArray⟩ hsd he he8
   rw [← hv] at hr
   refine fin hr ?_
   obtain ⟨hI,hS⟩:=h.inv.grow (w':=Lib.bytesWorld w e ⟨b.toArray⟩) (by rw [Lib.bytesWorld_size];omega) (fun c hc=>Lib.bytesWorld_at_old w e _ c hc) rfl rfl
   have hsz:(⟨b.toArray⟩:ByteArray).size=b.length:=by simp [ByteArray.size]
   have hbl:(bytesOf b:List Int).length=b.length:=by simp [bytesOf]
   refine ⟨_,[],_,ι,K,hwp,hI,hS,qaf.2 ⟨[_],?_,rfl⟩,fun _ hb => .inl hb⟩
   refine ⟨some ⟨w.heap.size,0,none⟩,_,by rw [hsz];exact congrArg (fun n=>[Value.slice (some ⟨w.heap.size,0,none⟩) n _]) hbl.symm,?_,.inr ⟨w.heap.size,0,b.map fun b=>Value.int .u8 b.toNat,rfl,⟨.inr (.inr h.inv.same.2.2),by rw [Lib.bytesWorld_size];omega,?_⟩,?_,qx0 b⟩⟩
   ·show (bytesOf b:List Int).length≤_
    rw [hbl];exact grownCap_ge w b.length 0 e
   ·rintro ⟨b',z,hb',hr',hcc⟩
    have:=h.inv.exists hb' hr'
    omega
   ·intro j v hj
    have hjl:=(List.getElem?_eq_some_iff.1 hj).1
    rw [List.length_map] at hjl
    have:=Lib.bytesWorld_cell w e ⟨b.toArray⟩ j (by rw [hsz];exact hjl)
    rw [Nat.zero_add,this]
    rw [List.getElem?_map] at hj
    simp only [List.getElem?_eq_getElem hjl,Option.map_some,Option.some.injEq] at hj
    rw [← hj]
    simp [List.getD,hjl]
  ·exact hwp.elim
 ·exact hwp.elim
end
end Go.Tm
namespace Go.Tm
open Go
theorem RepList.splice {α:Type} {R:α→List Value→Prop} {k:Nat} (hR : ∀ x vs,R x vs→vs.length=k) {xs ys:List α} {vs us:List Value} (hx:RepList R xs vs) (hy:RepList R ys us) {off:Nat} (hl:off+ys.length≤xs.length) :
  RepList R (spliceL xs off ys) (over vs (off*k) us):=by
 unfold spliceL over
 have hu:us.length=ys.length*k:=RepList.length hR hy
 rw [hu,← Nat.add_mul]
 exact ((RepList.take hR off hx).append hy).append (RepList.drop hR (off+ys.length) hx)
theorem qln {α:Type} {xs ys:List α} {off:Nat} (hl:off+ys.length≤xs.length):(spliceL xs off ys).length=xs.length:=by
 simp [spliceL];omega
theorem Vec.toList_length {β:Type} : ∀ (n:Nat) (z:Vec n β),(Vec.toList n z).length=n
 | 0,_=>rfl
 | n+1,z=>by simp [Vec.toList,Vec.toList_length n z.2]
section
variable {P : Program} {F : Fr} {ι : Nat → Inf} {K : Nat → Prop} {H H' : Heap} {w : World}
theorem Inv.look (h:Inv P F ι K H w) (hl : ∀ b,Tm.look H' b=Tm.look H b):Inv P F ι K H' w∧Stp F ι ι K K H H' w w:=by
 have hown : ∀ c,Own ι H' c↔Own ι H c:=by intro c;unfold Own;simp only [hl]
 have hreg : ∀ c,Reg F ι H' w c↔Reg F ι H w c:=by intro c;unfold Reg;rw [hown]
 have hs:Stp F ι ι K K H H' w w:=⟨fun _ h=>⟨h,rfl⟩,fun c hc=>⟨(hreg c).2 hc,rfl⟩,Nat.le_refl _⟩
 refine ⟨⟨h.same,h.lent,h.keep,fun b x hb=>h.known b x (by rw [← hl];exact hb),fun b x hb => ?_,fun b x hb=>h.mine b x (by rw [← hl];exact hb),fun b b' x x' hb hb'=>h.inj b b' x x' (by rw [← hl];exact hb) (by rw [← hl];exact hb'),h.stay,fun b x hb=>h.cover b x (by rw [← hl];exact hb)⟩,hs⟩
 exact (h.blks b x (by rw [← hl];exact hb)).mono hs.known hs.reg hs.size (fun _=>rfl)
end
section
variable {E : Env} {F : Fr} {ι : Nat → Inf} {K : Nat → Prop} {H : Heap} {w : World} {base : Nat} {Ψ : AV × Heap → List Nat → Prop} {l : Tmps} {ρ : Operand → Value} {o : Oper} {α : Type}
theorem qalb {w:World} {c:Nat} {cur:Array Value} {e:TypeId} {fz:Nat×Nat} (hb:w.heap[c]? = some (.cells cur e fz)):w.setRow c cur.toList.toArray=w:=by
 have hlt:c<w.heap.size:=(Array.getElem?_eq_some_iff.1 hb).1
 have hv:w.heap[c] = .cells cur e fz:=(Array.getElem?_eq_some_iff.1 hb).2
 have e1:(w.setRow c cur.toList.toArray).heap=w.heap:=by
  unfold World.setRow
  apply Array.ext
  ·simp
  ·intro i h1 h2
   simp only [Array.getElem_modify]
   split
   ·rename_i e;subst e;rw [hv]
   ·rfl
 exact congrArg (fun h=>({ w with heap:=h } : World)) e1
theorem ql6 (hI:Inv E.P F ι K H w) {w':World} {u:Heap} {v:AV} {rs:List Nat} {x:Value} (hΨ:Ψ (v,u) rs) (h:Inv E.P F ι K (u++H) w'∧Stp F ι ι K K H (u++H) w w') (hv : ∀ S w',AVR E.P ι K w' S v x):Fin E.P F ι K H w base Ψ x w' :=
 ⟨v,u,rs,ι,K,hΨ,h.1,h.2,hv _ _,fun _ hb => .inl hb⟩
theorem qg6 {P:Program} {dT sT ty e:TypeId} {u:Ty} (he:P.underlying dT=some (.slice e)) (hk:okTy P u e=true) {a:Addr} {dLen dCap:Nat} {s:Value} {n:Nat} {news:List Value} {w w':World}
  (hl:(Builtin.lenOf s).run P w = .ok n w) (hc:(Builtin.firstCells u.size (Nat.min n dLen) s).run P w = .ok news.toArray w) (hst:(storeCells a news).run P w = .ok () w') :
  (Builtin.copy_ #[dT,sT] ty #[.slice (some a) dLen dCap,s]).run P w = .ok (goInt (Nat.min n dLen)) w':=by
 simp [Builtin.copy_,run_underlying he,qaw hk,hl,hc,hst]
theorem ql2 {P:Program} {dT sT ty e:TypeId} {u:Ty} (he:P.underlying dT=some (.slice e)) (hk:okTy P u e=true) {dLen dCap:Nat} {s:Value} {n:Nat} {news:Array Value} {w:World}
  (hl:(Builtin.lenOf s).run P w = .ok n w) (hc:(Builtin.firstCells u.size (Nat.min n dLen) s).run P w = .ok news w) :
  (Builtin.copy_ #[dT,sT] ty #[.slice none dLen dCap,s]).run P w = .ok (goInt (Nat.min n dLen)) w:=by
 simp [Builtin.copy_,run_underlying he,qaw hk,hl,hc]
theorem qt4 {P:Program} {et:Ty} {S:Nat→Prop} {a:Option Addr} {cap:Nat} {xs:List et.den} (hx:xs.length=0 ∨ ∃ c q vs,a=some ⟨c,q,none⟩∧CellsAt w c q vs∧RepList (Rep w S et) xs vs) {n:Nat} (hn:n≤xs.length) :
  ∃ news,(Builtin.firstCells et.size n (.slice a xs.length cap)).run P w = .ok news.toArray w∧RepList (Rep w S et) (xs.take n) news ∧ ∀ v∈news,v.oneCell'=true:=by
 rcases hx with h0 | ⟨c,q,vs,rfl,hat,hr⟩
 ·have:xs=[]:=List.eq_nil_of_length_eq_zero h0
  subst this
  obtain rfl:n=0:=by simpa using hn
  refine ⟨[],?_,rfl,fun _ h=>by cases h⟩
  cases a with
  | none=>exact run_firstCells_none _ _ _ _ _
  | some a=>exact run_firstCells_some w et.size 0 a 0 cap [] (by simp) (fun j v hj=>by simp at hj)
 ·have hvl:vs.length=xs.length*et.size:=RepList.length (fun _ _ h=>h.length) hr
  have hr':=RepList.take (fun _ _ h=>h.length) n hr
  refine ⟨vs.take (n*et.size),?_,hr',RepList.all (fun _ _ h=>h.one) hr'⟩
  refine run_firstCells_some w et.size n ⟨c,q,none⟩ _ cap _ (by rw [List.length_take,hvl];exact Nat.min_eq_left (Nat.mul_le_mul_right _ hn)) (fun j v hj => ?_)
  rw [addr_add]
  rw [List.getElem?_take] at hj
  split at hj
  ·exact hat j v hj
  ·simp at hj
theorem qaol (hE:EnvOK E) (h:Now E.P F ι K H w base) (hs : ∀ x,AVR E.P ι K w (Reg F ι H w) (rd l x) (ρ x)) {as:Array Operand} {ts:Array TypeId} (ho:o.op = .call { callee:=.builtin .copy,args:=as,argTypes:=ts })
  (hwp:(exec E (.call { callee:=.builtin .copy,args:=as,argTypes:=ts }) (rd l) base).wp H [] Ψ) :
  Comes' E.P (Fin E.P F ι K H w base Ψ) ((execOp ρ o).run E.P w):=by
 obtain ⟨dst,op,ty,pos,af,g⟩:=o
 subst ho
 simp only [exec] at hwp
 split at hwp
 ·rename_i d s t tr hxs hts
  obtain rfl:as = #[d,s]:=by cases as;simpa using hxs
  obtain ⟨ts⟩:=ts
  simp only at hts
  subst hts
  have hd:=hs d
  have hsv:=hs s
  generalize rd l d=vd at hwp hd
  generalize rd l s=vs at hwp hsv
  cases hel:elemOK (E.tys t) vd with
  | false=>rw [hel] at hwp;exact hwp.elim
  | true =>
   rw [hel] at hwp
   simp only [Bool.not_true,cond_false] at hwp
   have fin : ∀ {r w'},(∀ sT,(Builtin.copy_ #[t,sT] ty #[ρ d,ρ s]).run E.P w = .ok r w')→Fin E.P F ι K H w base Ψ r w' →
     Comes' E.P (Fin E.P F ι K H w base Ψ) ((execOp ρ { dst:=dst,op:=.call { callee:=.builtin .copy,args:=#[d,s],argTypes:=⟨t :: tr⟩ },type:=ty,pos:=pos,after:=af,guard:=g }).run E.P w):=by
    intro r w' hr hf
    have h2:(Builtin.copy_ ⟨t :: tr⟩ ty #[ρ d,ρ s]).run E.P w = .ok r w':=by
     have:=hr 0
     simp only [Builtin.copy_] at this ⊢
     simpa using this
    have hrun:(execOp ρ { dst:=dst,op:=.call { callee:=.builtin .copy,args:=#[d,s],argTypes:=⟨t :: tr⟩ },type:=ty,pos:=pos,after:=af,guard:=g }).run E.P w = .ok (.value r) w':=by
     simp [execOp,resolve,invoke,builtin,h2]
    rw [hrun];exact hf
   split at hwp
   ·
    rename_i b et
    obtain ⟨e,he,hk⟩:=qf9 (hE.tys t _ (qpe hel))
    obtain ⟨hag,_⟩:=qpa hwp
    obtain ⟨cs,hc,hv⟩:=hsv
    rw [hag] at hv
    obtain ⟨ys,bs,rs',hq,hlive,a,cap,rfl,hcap,hy⟩:=qlp h.inv hwp hc
    have hps:=qad hv
    simp only [RM.wp] at hq
    obtain ⟨z,hz,hq⟩:=hq
    cases z with
    | box _ _=>exact hq.elim
    | row u xs =>
     simp only at hq
     split at hq
     ·rename_i q _;obtain rfl:=q
      have hq:Ψ (.val (.int .i64) (Int.ofNat (min ys.length xs.length)),[(b,some (.row et (spliceL xs 0 (ys.take xs.length))))]) (b :: rs'):=hq
      obtain ⟨cd,hcd,hvd⟩:=hd
      simp only [AVC] at hcd
      obtain ⟨hK,hcd⟩:=hcd
      have hblk:=h.inv.blks b _ hz
      rcases hcd with ⟨hk',ad,rfl⟩ | ⟨n,room,capd,hk',rfl,hn,hr⟩
      ·rcases hblk with ⟨_,h0⟩ | ⟨room,_,_,_,hk'',_⟩
       ·have hxnil:xs=[]:=List.eq_nil_of_length_eq_zero h0
        subst hxnil
        have hpd:=qad (show ValOf false _ (ρ d) from hvd)
        obtain ⟨news,hfc,hrn,hone⟩:=qt4 (P:=E.P) (S:=Reg F ι H w) (a:=a) (cap:=cap) (hy.imp id fun ⟨c,q,vs,h1,_,h2,h3⟩=>⟨c,q,vs,h1,h2,h3⟩) (n:=0) (Nat.zero_le _)
        have hm:Nat.min ys.length 0=0:=Nat.min_zero _
        have hnn:news=[]:=by simpa [RepList] using hrn
        subst hnn
        refine fin (r:=goInt 0) (w':=w) (fun sT => ?_) ?_
        ·rw [hps,hpd]
         cases ad with
         | none=>have:=ql2 (sT:=sT) (ty:=ty) (dLen:=0) (dCap:=0) (w:=w) he hk (s:=.slice a ys.length cap) rfl (by rw [hm];exact hfc);rw [hm] at this;exact this
         | some ad=>have:=qg6 (sT:=sT) (ty:=ty) (a:=ad) (dLen:=0) (dCap:=0) (w:=w) (w':=w) he hk (s:=.slice a ys.length cap) rfl (by rw [hm];exact hfc) rfl;rw [hm] at this;exact this
        ·refine ql6 h.inv hq (h.inv.look fun b' => ?_) (fun S w'=>qaf.2 (qam.2 ?_))
         ·show look ((b,_) :: H) b'=_
          rw [qa1]
          split
          ·rename_i e;subst e;rw [hz];simp [spliceL]
          ·rfl
         ·simp [goInt]
       ·rw [hk'] at hk'';simp at hk''
      ·rcases hblk with ⟨hk'',_⟩ | ⟨room',_,_,_,hk'',_⟩
       ·rw [hk'] at hk'';simp at hk''
       ·have hk2:=hk'
        rw [hk''] at hk2
        simp only [Kind.row.injEq] at hk2
        obtain ⟨_,hlen,rfl⟩:=hk2
        obtain ⟨_,cells,e3,vx,hb3,h1,h2,h3,hvl,h4,hat⟩:=qdi (h.inv.blks b _ hz) hk'
        have hpd:=qad (show ValOf false _ (ρ d) from hvd)
        obtain ⟨news,hfc,hrn,hone⟩:=qt4 (P:=E.P) (S:=Reg F ι H w) (a:=a) (cap:=cap) (hy.imp id fun ⟨c,q,vs,h1,_,h2,h3⟩=>⟨c,q,vs,h1,h2,h3⟩) (n:=Nat.min ys.length xs.length) (Nat.min_le_left _ _)
        have htk:ys.take (Nat.min ys.length xs.length)=ys.take xs.length:=by
         rcases Nat.le_total ys.length xs.length with hle | hle
         ·rw [show Nat.min ys.length xs.length=ys.length from Nat.min_eq_left hle,List.take_of_length_le (Nat.le_refl _),List.take_of_length_le hle]
         ·rw [show Nat.min ys.length xs.length=xs.length from Nat.min_eq_right hle]
        rw [htk] at hrn
        have hnl:news.length=(ys.take xs.length).length*et.size:=RepList.length (fun _ _ h=>h.length) hrn
        have hle:(ys.take xs.length).length≤xs.length:=by simp;omega
        have hnv:news.length≤vx.length:=by rw [hnl,hvl];exact Nat.mul_le_mul_right _ hle
        have hsp:=RepList.splice (fun _ _ h=>h.length) h3 hrn (off:=0) (by omega)
        rw [Nat.zero_mul] at hsp
        have hcl:cells.toList.length=cells.size:=Array.length_toList
        refine fin (r:=goInt (Nat.min ys.length xs.length)) (w':=w.setRow (ι b).c (over cells.toList ((ι b).d+0) news).toArray) (fun sT => ?_) ?_
        ·rw [hps,hpd,← hlen]
         refine qg6 he hk (s:=.slice a ys.length cap) rfl hfc ?_
         have:=run_storeCells_at E.P (ι b).c (ι b).d e3 news 0 cells w hb3 (by omega) hone
         simpa [over] using this
        ·refine ql6 h.inv hq (h.inv.writeRow hz hk' (qln (by omega)) (vs:=over vx 0 news) hsp (fun cs' e' he' => ?_) (fun j v hj => ?_) (fun cs' e' he' j hj => ?_)) (fun S w'=>qaf.2 (qam.2 ?_))
         ·rw [hb3] at he';simp only [Option.some.injEq,Obj.cells.injEq] at he'
          rw [← he'.1,List.size_toArray,qar (by omega),hcl]
         ·simpa using qvq (fun j v hv=>by simpa using h4 j v hv) (by omega) (by omega) j v hj
         ·rw [hb3] at he';simp only [Option.some.injEq,Obj.cells.injEq] at he'
          rw [Inf.has_row hk'] at hj
          rw [← he'.1,List.getElem?_toArray]
          exact qz9 (by omega) (by omega) (by omega) hj
         ·simp only [goInt];rfl
     ·exact hq.elim
   ·
    rename_i b et off len
    obtain ⟨e,he,hk⟩:=qf9 (hE.tys t _ (ql5 hel))
    obtain ⟨hag,_⟩:=qpa hwp
    obtain ⟨cs,hc,hv⟩:=hsv
    rw [hag] at hv
    obtain ⟨ys,bs,rs',hq,hlive,a,cap,rfl,hcap,hy⟩:=qlp h.inv hwp hc
    have hps:=qad hv
    simp only [RM.wp] at hq
    obtain ⟨z,hz,hq⟩:=hq
    cases z with
    | box _ _=>exact hq.elim
    | row u xs =>
     simp only at hq
     split at hq
     ·rename_i q _;obtain rfl:=q
      simp only [RM.wp] at hq
      rcases hq with ⟨hble,hq⟩ | ⟨_,hq⟩
      case inr=>exact hq.elim
      have hle0:off+len≤List.length xs:=Nat.le_of_ble_eq_true hble
      have hq:Ψ (.val (.int .i64) (Int.ofNat (min ys.length len)),[(b,some (.row et (spliceL xs off (ys.take len))))]) (b :: rs'):=hq
      obtain ⟨cd,hcd,hvd⟩:=hd
      simp only [AVC] at hcd
      obtain ⟨hK,hcd⟩:=hcd
      have hblk:=h.inv.blks b _ hz
      rcases hcd with ⟨h0,⟨ad,rfl⟩,_⟩ | ⟨n,room,capd,_,hk',rfl,hn,hon,hr,_⟩ | ⟨oo,nn,capd,hko,_⟩
      ·subst h0
       have hpd:=qad (show ValOf false _ (ρ d) from hvd)
       obtain ⟨news,hfc,hrn,hone⟩:=qt4 (P:=E.P) (S:=Reg F ι H w) (a:=a) (cap:=cap) (hy.imp id fun ⟨c,q,vs,h1,_,h2,h3⟩=>⟨c,q,vs,h1,h2,h3⟩) (n:=0) (Nat.zero_le _)
       have hm:Nat.min ys.length 0=0:=Nat.min_zero _
       have hnn:news=[]:=by simpa [RepList] using hrn
       subst hnn
       refine fin (r:=goInt 0) (w':=w) (fun sT => ?_) ?_
       ·rw [hps,hpd]
        cases ad with
        | none=>have:=ql2 (sT:=sT) (ty:=ty) (dLen:=0) (dCap:=0) (w:=w) he hk (s:=.slice a ys.length cap) rfl (by rw [hm];exact hfc);rw [hm] at this;exact this
        | some ad=>have:=qg6 (sT:=sT) (ty:=ty) (a:=ad) (dLen:=0) (dCap:=0) (w:=w) (w':=w) he hk (s:=.slice a ys.length cap) rfl (by rw [hm];exact hfc) rfl;rw [hm] at this;exact this
       ·refine ql6 h.inv hq (h.inv.look fun b' => ?_) (fun S w'=>qaf.2 (qam.2 ?_))
        ·show look ((b,_) :: H) b'=_
         rw [qa1]
         split
         ·rename_i e;subst e;rw [hz];simp [spliceL]
         ·rfl
        ·simp [goInt]
      ·rcases hblk with ⟨hk'',_⟩ | ⟨room',_,_,_,hk'',_⟩
       ·rw [hk'] at hk'';simp at hk''
       ·have hk2:=hk'
        rw [hk''] at hk2
        simp only [Kind.row.injEq] at hk2
        obtain ⟨_,hlen,rfl⟩:=hk2
        obtain ⟨_,cells,e3,vx,hb3,h1,h2,h3,hvl,h4,hat⟩:=qdi (h.inv.blks b _ hz) hk'
        have hpd:=qad (show ValOf false _ (ρ d) from hvd)
        obtain ⟨news,hfc,hrn,hone⟩:=qt4 (P:=E.P) (S:=Reg F ι H w) (a:=a) (cap:=cap) (hy.imp id fun ⟨c,q,vs,h1,_,h2,h3⟩=>⟨c,q,vs,h1,h2,h3⟩) (n:=Nat.min ys.length len) (Nat.min_le_left _ _)
        have htk:ys.take (Nat.min ys.length len)=ys.take len:=by
         rcases Nat.le_total ys.length len with hle | hle
         ·rw [show Nat.min ys.length len=ys.length from Nat.min_eq_left hle,List.take_of_length_le (Nat.le_refl _),List.take_of_length_le hle]
         ·rw [show Nat.min ys.length len=len from Nat.min_eq_right hle]
        rw [htk] at hrn
        have hnl:news.length=(ys.take len).length*et.size:=RepList.length (fun _ _ h=>h.length) hrn
        have hle:off+(ys.take len).length≤xs.length:=by simp;omega
        have hnv:off*et.size+news.length≤vx.length:=by rw [hnl,hvl,← Nat.add_mul];exact Nat.mul_le_mul_right _ hle
        have hsp:=RepList.splice (fun _ _ h=>h.length) h3 hrn (off:=off) hle
        have hcl:cells.toList.length=cells.size:=Array.length_toList
        refine fin (r:=goInt (Nat.min ys.length len)) (w':=w.setRow (ι b).c (over cells.toList ((ι b).d+off*et.size) news).toArray) (fun sT => ?_) ?_
        ·rw [hps,hpd]
         refine qg6 he hk (s:=.slice a ys.length cap) rfl hfc ?_
         have:=run_storeCells_at E.P (ι b).c ((ι b).d+off*et.size) e3 news 0 cells w hb3 (by simp only [Nat.add_zero];omega) hone
         simpa [over,Nat.add_assoc] using this
        ·refine ql6 h.inv hq (h.inv.writeRow hz hk' (qln hle) (vs:=over vx (off*et.size) news) hsp (fun cs' e' he' => ?_) (fun j v hj => ?_) (fun cs' e' he' j hj => ?_)) (fun S w'=>qaf.2 (qam.2 ?_))
         ·rw [hb3] at he';simp only [Option.some.injEq,Obj.cells.injEq] at he'
          rw [← he'.1,List.size_toArray,qar (by omega),hcl]
         ·simpa using qvq (fun j v hv=>by simpa using h4 j v hv) (by omega) (by omega) j v hj
         ·rw [hb3] at he';simp only [Option.some.injEq,Obj.cells.injEq] at he'
          rw [Inf.has_row hk'] at hj
          rw [← he'.1,List.getElem?_toArray]
          exact qz9 (by omega) (by omega) (by omega) hj
         ·simp only [goInt];rfl
      ·exfalso
       rcases hblk with ⟨hk'',_⟩ | ⟨room',_,_,_,hk'',_⟩
       ·rw [hk''] at hko;cases hko
       ·rw [hk''] at hko;cases hko
     ·exact hq.elim
   ·
    rename_i b p et off len _
    obtain ⟨e,he,hk⟩:=qf9 (hE.tys t _ (ql5 hel))
    obtain ⟨hag,_⟩:=qpa hwp
    obtain ⟨cs,hc,hv⟩:=hsv
    rw [hag] at hv
    obtain ⟨ys,bs,rs',hq,hlive,a,cap,rfl,hcap,hy⟩:=qlp h.inv hwp hc
    have hps:=qad hv
    simp only [RM.wp] at hq
    obtain ⟨z,hz,hq⟩:=hq
    cases z with
    | row _ _=>exact hq.elim
    | box bt v =>
     simp only at hq
     obtain ⟨cd,hcd,hvd⟩:=hd
     simp only [AVC] at hcd
     obtain ⟨hK,hcd⟩:=hcd
     obtain ⟨hkb,hdb,cells,eb,hbb,hvv,hlen,h1,hfv⟩:=h.inv.blks b _ hz
     have hoff : ∃ o n,TyOff bt p o (.arr n et)∧((len=0 ∧ ∃ ad,ρ d = .slice ad 0 0) ∨ ∃ capd,ρ d = .slice (some ⟨(ι b).c,(ι b).d+(o+off*et.size),none⟩) len capd):=by
      rw [hkb] at hcd
      rcases hcd with ⟨h0,⟨ad,rfl⟩,⟨_,_,_,hx,_⟩ | ⟨_,hx⟩ | ⟨o,n,hko,_⟩⟩ | ⟨_,_,_,_,hx,_⟩ | ⟨o,n,capd,hko,rfl,_⟩
      ·cases hx
      ·cases hx
      ·cases hko with
       | box hto=>exact ⟨o,n,hto,.inl ⟨h0,ad,qad (show ValOf false _ (ρ d) from hvd)⟩⟩
      ·cases hx
      ·cases hko with
       | box hto=>exact ⟨o,n,hto,.inr ⟨capd,qad (show ValOf false _ (ρ d) from hvd)⟩⟩
     obtain ⟨o,n',hto,hpd⟩:=hoff
     obtain ⟨v2,hq,hf2,hv2⟩:=qls hto hq hfv hvv
     split at hq
     ·rename_i n et2 zs
      obtain hsame:=qg2 hf2
      cases hsame
      split at hq
      ·rename_i q _
       simp only [RM.wp] at hq
       rcases hq with ⟨hble,hq⟩ | ⟨_,hq⟩
       case inr=>exact hq.elim
       have hle0:off+len≤n':=Nat.le_of_ble_eq_true hble
       have hr2:RepVec (Rep w (Reg F ι H w) et) n' zs (seg cells.toList o (n'*et.size)):=hv2
       obtain ⟨news,hfc,hrn,hone⟩:=qt4 (P:=E.P) (S:=Reg F ι H w) (a:=a) (cap:=cap) (hy.imp id fun ⟨c,q,vs,h1,_,h2,h3⟩=>⟨c,q,vs,h1,h2,h3⟩) (n:=Nat.min ys.length len) (Nat.min_le_left _ _)
       have htk:ys.take (Nat.min ys.length len)=ys.take len:=by
        rcases Nat.le_total ys.length len with hle | hle
        ·rw [show Nat.min ys.length len=ys.length from Nat.min_eq_left hle,List.take_of_length_le (Nat.le_refl _),List.take_of_length_le hle]
        ·rw [show Nat.min ys.length len=len from Nat.min_eq_right hle]
       rw [htk] at hrn
       have hnl:news.length=(ys.take len).length*et.size:=RepList.length (fun _ _ h=>h.length) hrn
       have hlz:(Vec.toList n' zs).length=n':=Vec.toList_length n' zs
       have hle:off+(ys.take len).length≤(Vec.toList n' zs).length:=by rw [hlz];simp;omega
       have hsp:=RepList.splice (fun _ _ h=>h.length) hr2.toList hrn (off:=off) hle
       have hnew:AVC E.P ι K w (Reg F ι H w) (.val (.arr n' et) (Vec.ofList et.zero n' (spliceL (Vec.toList n' zs) off (ys.take len)))) (over (seg cells.toList o (n'*et.size)) (off*et.size) news):=by
        show Rep w (Reg F ι H w) (.arr n' et) _ _
        exact RepList.ofList et.zero hsp (by rw [qln hle,hlz])
       obtain ⟨z,hq,hfz,hz'⟩:=qvt hto (by simp [fitsB,qme]) hnew hq hfv hvv
       have hin:=hto.inside
       have hin':o+n'*et.size≤bt.size:=hin
       have hcl:cells.toList.length=cells.size:=Array.length_toList
       have hnn:off*et.size+news.length≤n'*et.size:=by rw [hnl,← Nat.add_mul];rw [hlz] at hle;exact Nat.mul_le_mul_right _ hle
       rw [← qvp hnn (by rw [hlen];exact hin')] at hz'
       have hreal:(ι b).kind.real=true:=by rw [hkb];rfl
       have hol:(over cells.toList (o+off*et.size) news).length=bt.size:=by rw [qar (by rw [hlen];omega),hlen]
       cases hgd:(!refFst z||(sndP p&&refFst v)) with
       | false=>rw [hgd] at hq;exact hq.elim
       | true =>
       rw [hgd] at hq
       have hq:Ψ (.val (.int .i64) (Int.ofNat (min ys.length len)),[(b,some (.box bt z))]) (b :: rs'):=hq
       have hwr:=h.inv.write hz hreal (.box bt z) (over cells.toList (o+off*et.size) news).toArray (fun old e' ho=>by
         rw [hbb] at ho;simp only [Option.some.injEq,Obj.cells.injEq] at ho
         rw [← ho.1];exact ⟨by rw [List.size_toArray,hol,← hlen,hcl],fun j hj=>absurd (Inf.has_box hkb j) hj⟩)
        ⟨hkb,hdb,(over cells.toList (o+off*et.size) news).toArray,eb,setRow_same hbb _,hz'.mono (fun _ hk=>⟨hk,rfl⟩) (fun c hc=>⟨hc,setRow_other _ (qab2 hc hz hreal)⟩) (by rw [setRow_size];exact Nat.le_refl _),hol,h1.over hto hfv hone hgd (Nat.le_add_right _ _) (by rw [hlen];omega),hfz⟩
       rcases hpd with ⟨h0,ad,hpd⟩ | ⟨capd,hpd⟩
       ·subst h0
        have hm:Nat.min ys.length 0=0:=Nat.min_zero _
        have hnn:news=[]:=by simpa [RepList] using hrn
        subst hnn
        rw [hm] at hfc
        have hov:over cells.toList (o+off*et.size) []=cells.toList:=by unfold over;simp
        rw [hov] at hwr
        have hsame:w.setRow (ι b).c cells.toList.toArray=w:=qalb hbb
        rw [hsame] at hwr
        refine fin (r:=goInt 0) (w':=w) (fun sT => ?_) ?_
        ·rw [hps,hpd]
         cases ad with
         | none=>have:=ql2 (sT:=sT) (ty:=ty) (dLen:=0) (dCap:=0) (w:=w) he hk (s:=.slice a ys.length cap) rfl (by rw [hm];exact hfc);rw [hm] at this;exact this
         | some ad=>have:=qg6 (sT:=sT) (ty:=ty) (a:=ad) (dLen:=0) (dCap:=0) (w:=w) (w':=w) he hk (s:=.slice a ys.length cap) rfl (by rw [hm];exact hfc) rfl;rw [hm] at this;exact this
        ·refine ql6 h.inv hq hwr (fun S w'=>qaf.2 (qam.2 ?_))
         simp [goInt]
       ·refine fin (r:=goInt (Nat.min ys.length len)) (w':=w.setRow (ι b).c (over cells.toList ((ι b).d+(o+off*et.size)) news).toArray) (fun sT => ?_) ?_
        ·rw [hps,hpd]
         refine qg6 he hk (s:=.slice a ys.length cap) rfl hfc ?_
         have:=run_storeCells_at E.P (ι b).c ((ι b).d+(o+off*et.size)) eb news 0 cells w hbb (by rw [hdb];simp only [Nat.add_zero,Nat.zero_add];omega) hone
         simpa [over,Nat.add_assoc] using this
        ·rw [hdb,Nat.zero_add]
         refine ql6 h.inv hq hwr (fun S w'=>qaf.2 (qam.2 ?_))
         simp only [goInt];rfl
      ·exact hq.elim
     ·exact hq.elim
   ·exact hwp.elim
 ·exact hwp.elim
theorem qamk (k:FloatKind) (a b c d:Nat) (ha:canon k c=a) (hb:canon k d=b) (w1:World) : ∃ r w2,(Builtin.max2 (.float k c) (.float k d)).run E.P w1 = .ok (.float k r) w2∧canon k r=fMax k a b∧w2.heap=w1.heap∧w2.os=w1.os∧w2.output=w1.output:=by
 subst ha hb
 unfold fMax
 rw [qsx]
 cases ho:k.format.order c d with
 | none =>
  refine ⟨_,w1.drew,by simp [Builtin.max2,ho,Question.forced];rfl,?_,rfl,rfl,rfl⟩
  exact qpd k _ _ (.inr (.inr (.inr ⟨_,_,_,rfl⟩)))
 | some q =>
  have hc:isNan k c=false:=by cases h:isNan k c with | false=>rfl | true=>rw [qvm _ _ h] at ho;simp at ho
  have hd:isNan k d=false:=by cases h:isNan k d with | false=>rfl | true=>rw [qvn _ _ h] at ho;simp at ho
  rw [qao hc,qao hd]
  cases q with
  | lt=>exact ⟨d,w1,by simp [Builtin.max2,ho],qao hd,rfl,rfl,rfl⟩
  | gt=>exact ⟨c,w1,by simp [Builtin.max2,ho],qao hc,rfl,rfl,rfl⟩
  | eq=>exact ⟨if (k.decode c).neg then d else c,w1,by simp [Builtin.max2,ho],by cases (k.decode c).neg <;> first | exact qao hc | exact qao hd,rfl,rfl,rfl⟩
theorem qaml (k:FloatKind) (a b c d:Nat) (ha:canon k c=a) (hb:canon k d=b) (w1:World) : ∃ r w2,(Builtin.min2 (.float k c) (.float k d)).run E.P w1 = .ok (.float k r) w2∧canon k r=fMin k a b∧w2.heap=w1.heap∧w2.os=w1.os∧w2.output=w1.output:=by
 subst ha hb
 unfold fMin
 rw [qsx]
 cases ho:k.format.order c d with
 | none =>
  refine ⟨_,w1.drew,by simp [Builtin.min2,ho,Question.forced];rfl,?_,rfl,rfl,rfl⟩
  exact qpd k _ _ (.inr (.inr (.inr ⟨_,_,_,rfl⟩)))
 | some q =>
  have hc:isNan k c=false:=by cases h:isNan k c with | false=>rfl | true=>rw [qvm _ _ h] at ho;simp at ho
  have hd:isNan k d=false:=by cases h:isNan k d with | false=>rfl | true=>rw [qvn _ _ h] at ho;simp at ho
  rw [qao hc,qao hd]
  cases q with
  | lt=>exact ⟨c,w1,by simp [Builtin.min2,ho],qao hc,rfl,rfl,rfl⟩
  | gt=>exact ⟨d,w1,by simp [Builtin.min2,ho],qao hd,rfl,rfl,rfl⟩
  | eq=>exact ⟨if (k.decode c).neg then c else d,w1,by simp [Builtin.min2,ho],by cases (k.decode c).neg <;> first | exact qao hc | exact qao hd,rfl,rfl,rfl⟩
theorem qakr (mx:Bool) : ∀ (r:List AV) (v:AV) {x:Value} {xs:List Value} {rs:List Nat} {Q:AV→List Nat→Prop} (w1:World),(minmax mx v r).wp H rs Q→AVR E.P ι K w (Reg F ι H w) v x →
  All2 (fun a b=>AVR E.P ι K w (Reg F ι H w) a b) r xs →
  ∃ v' y w2,(xs.foldlM (if mx then Builtin.max2 else Builtin.min2) x).run E.P w1 = .ok y w2∧Q v' rs∧AVR E.P ι K w (Reg F ι H w) v' y∧w2.heap=w1.heap∧w2.os=w1.os∧w2.output=w1.output:=by
 intro r
 induction r with
 | nil =>
  intro v x xs rs Q w1 h hv hr
  cases hr
  exact ⟨v,x,w1,rfl,by cases v <;> (try exact h) <;> (rename_i t _;cases t <;> exact h),hv,rfl,rfl,rfl⟩
 | cons b r ih =>
  intro v x xs rs Q w1 h hv hr
  cases hr with
  | cons hb hr =>
  rename_i y ys
  unfold minmax at h
  split at h
  ·simp at *
  ·rename_i k a l b' r' heq
   simp only [List.cons.injEq] at heq
   obtain ⟨rfl,rfl⟩:=heq
   obtain ⟨a,rfl⟩ : ∃ a':Int,a'=a:=⟨a,rfl⟩
   obtain ⟨b',rfl⟩ : ∃ a':Int,a'=b':=⟨b',rfl⟩
   split at h
   ·rename_i e _
    obtain rfl:=e.down
    obtain rfl:x = .int k a:=qam.1 (qaf.1 hv)
    obtain rfl:y = .int k b':=qam.1 (qaf.1 hb)
    have h2:((if mx then Builtin.max2 else Builtin.min2) (.int k a) (.int k b')).run E.P w1 = .ok (.int k (bif mx then iMax a b' else iMin a b')) w1:=by cases mx <;> rfl
    obtain ⟨v',z,w2,h3,h4⟩:=ih _ w1 h (qaf.2 (qam.2 rfl)) hr
    exact ⟨v',z,w2,by rw [List.foldlM_cons,Sem.run_bind,h2,Result.andThen_ok];exact h3,h4⟩
   ·exact h.elim
  ·rename_i k a l b' r' heq
   simp only [List.cons.injEq] at heq
   obtain ⟨rfl,rfl⟩:=heq
   obtain ⟨a,rfl⟩ : ∃ a':Nat,a'=a:=⟨a,rfl⟩
   obtain ⟨b',rfl⟩ : ∃ a':Nat,a'=b':=⟨b',rfl⟩
   split at h
   ·rename_i e _
    obtain rfl:=e.down
    obtain ⟨c,rfl,hc⟩:=qcj.1 (qaf.1 hv)
    obtain ⟨d,rfl,hd⟩:=qcj.1 (qaf.1 hb)
    obtain ⟨q,w3,h2,hq,e1,e2,e3⟩ : ∃ q w3,((if mx then Builtin.max2 else Builtin.min2) (.float k c) (.float k d)).run E.P w1 = .ok (.float k q) w3∧canon k q=(bif mx then fMax k a b' else fMin k a b')∧w3.heap=w1.heap∧w3.os=w1.os∧w3.output=w1.output:=by
     cases mx with
     | true=>exact qamk k a b' c d hc hd w1
     | false=>exact qaml k a b' c d hc hd w1
    obtain ⟨v',z,w2,h3,h4,h5,h6,h7,h8⟩:=ih _ w3 h (qaf.2 (qcj.2 ⟨q,rfl,hq⟩)) hr
    exact ⟨v',z,w2,by rw [List.foldlM_cons,Sem.run_bind,h2,Result.andThen_ok];exact h3,h4,h5,h6.trans e1,h7.trans e2,h8.trans e3⟩
   ·exact h.elim
  ·exact h.elim
theorem qafk (hs : ∀ x,AVR E.P ι K w (Reg F ι H w) (rd l x) (ρ x)) : ∀ xs:List Operand,All2 (fun a b=>AVR E.P ι K w (Reg F ι H w) a b) (xs.map (rd l)) (xs.map ρ)
 | [] => .nil
 | x :: r => .cons (hs x) (qafk hs r)
theorem qaem (h:Now E.P F ι K H w base) (hs : ∀ x,AVR E.P ι K w (Reg F ι H w) (rd l x) (ρ x)) (mx:Bool) {as:Array Operand} {ts:Array TypeId} (ho:o.op = .call { callee:=.builtin (if mx then .max else .min),args:=as,argTypes:=ts })
  (hwp:(exec E (.call { callee:=.builtin (if mx then .max else .min),args:=as,argTypes:=ts }) (rd l) base).wp H [] Ψ) :
  Comes' E.P (Fin E.P F ι K H w base Ψ) ((execOp ρ o).run E.P w):=by
 obtain ⟨dst,op,ty,pos,af,g⟩:=o
 subst ho
 have hw : ∃ v r,as.toList.map (rd l)=v :: r∧(minmax mx v r).wp H [] fun v rs'=>Ψ (v,[]) rs':=by
  cases mx <;> (simp only [exec,if_true,if_false,Bool.false_eq_true] at hwp;split at hwp <;> first | exact hwp.elim | (rename_i v r hv;exact ⟨v,r,hv,qey hwp⟩))
 obtain ⟨v,r,hvr,hw⟩:=hw
 have hall:=qafk hs as.toList
 rw [hvr] at hall
 generalize hxs:as.toList.map ρ=xs at hall
 cases hall with
 | cons hb hr =>
  rename_i x xs
  obtain ⟨v',y,w2,h1,h2,h3,h4,h5,h6⟩:=qakr mx r v w hw hb hr
  have hrun:(execOp ρ { dst:=dst,op:=.call { callee:=.builtin (if mx then .max else .min),args:=as,argTypes:=ts },type:=ty,pos:=pos,after:=af,guard:=g }).run E.P w = .ok (.value y) w2:=by
   have ha:(as.map ρ).toList=x :: xs:=by rw [Array.toList_map];exact hxs
   cases mx <;> simp [execOp,resolve,invoke,builtin,Builtin.max_,Builtin.min_,← Array.toList_map,ha] <;> simp at h1 <;> simp [h1]
  rw [hrun]
  exact Fin.draw h h4 h5 h6 h2 h3
end
end Go.Tm
namespace Go.Tm
open Go
def ShR (P:Program) (w:World) (S:Nat→Prop) (W:Nat→Nat→Prop):(s:Sh)→s.den→List Value→List Nat→Prop
 | .val t,x,cs,O=>Rep w S t x cs∧O=[]
 | .rows t,xs,cs,O=>((∃ a,cs=[.slice a 0 0])∧List.length xs=0∧O=[]) ∨
   ∃ c d cap cells e vs,cs=[.slice (some ⟨c,d,none⟩) (List.length xs) cap]∧List.length xs≤cap∧(0<cap∧RowE P t e ∧ ∀ j,d≤j→j<d+cap*t.size→W c j)∧O=[c]∧w.heap[c]? = some (.cells cells e (0,0))∧d+cap*t.size≤cells.size ∧
    RepList (Rep w S t) xs vs ∧ ∀ (j:Nat) (v:Value),vs[j]? = some v→cells[d+j]? = some v
 | .pair a b,x,cs,O => ∃ c d O1 O2,cs=c++d∧O=O1++O2∧ShR P w S W a x.1 c O1∧ShR P w S W b x.2 d O2
 | .ro t,x,cs,O=>(∃ c o vs,cs=[.pointer (some ⟨c,o,none⟩)]∧S c∧CellsAt w c o vs∧Rep w S t x vs)∧O=[]
def ArgsRep (P:Program) (w:World) (S:Nat→Prop) (W:Nat→Nat→Prop):(ps:List PK)→domOf ps→List Value→List Nat→Prop
 | [],_,vs,O=>vs=[]∧O=[]
 | .v t :: ps,x,vs,O => ∃ v us,vs=v :: us∧VRep w S t x.1 v∧ArgsRep P w S W ps x.2 us O
 | .ro t :: ps,x,vs,O => ∃ c o cs us,vs = .pointer (some ⟨c,o,none⟩) :: us∧S c∧CellsAt w c o cs∧Rep w S t x.1 cs∧ArgsRep P w S W ps x.2 us O
 | .io s :: ps,x,vs,O => ∃ c us cells e O1 O2,vs = .pointer (some ⟨c,0,none⟩) :: us∧w.heap[c]? = some (.cells cells e (0,0))∧cells.toList.length=s.ty.size∧(SelfC c e s.ty s.ref cells.toList ∧ ∀ j,W c j) ∧
   ShR P w S W s x.1 cells.toList O1∧O=c :: O1++O2∧ArgsRep P w S W ps x.2 us O2
 | .mv s :: ps,x,vs,O => ∃ v us cs O1 O2,vs=v :: us∧ValOf s.ty.isAgg cs v∧ShR P w S W s x.1 cs O1∧O=O1++O2∧ArgsRep P w S W ps x.2 us O2
 | .tk s :: ps,x,vs,O => ∃ v us cs O1 O2,vs=v :: us∧ValOf s.ty.isAgg cs v∧ShR P w S W s x.1 cs O1∧O=O1++O2∧ArgsRep P w S W ps x.2 us O2
 | .fn s :: ps,x,vs,O => ∃ v us,vs=v :: us∧FnOK P w S s x.1 v∧ArgsRep P w S W ps x.2 us O
def ResRep (P:Program) (w:World) (S:Nat→Prop) (W:Nat→Nat→Prop):(rs:List RK)→resOf rs→List Value→List Nat→Prop
 | [],_,vs,O=>vs=[]∧O=[]
 | .v s :: rs,y,vs,O => ∃ v us cs O1 O2,vs=v :: us∧ValOf s.ty.isAgg cs v∧ShR P w S W s y.1 cs O1∧O=O1++O2∧ResRep P w S W rs y.2 us O2
 | .p s :: rs,y,vs,O => ∃ c us cells e O1 O2,vs = .pointer (some ⟨c,0,none⟩) :: us∧w.heap[c]? = some (.cells cells e (0,0))∧cells.toList.length=s.ty.size∧(SelfC c e s.ty s.ref cells.toList ∧ ∀ j,W c j) ∧
   ShR P w S W s y.1 cells.toList O1∧O=c :: O1++O2∧ResRep P w S W rs y.2 us O2
def OutRep (P:Program) (w:World) (S:Nat→Prop) (W:Nat→Nat→Prop):(ps:List PK)→outOf ps→List Value→List Nat→Prop
 | [],_,vs,O=>vs=[]∧O=[]
 | .io s :: ps,y,vs,O => ∃ c us cells e O1 O2,vs = .pointer (some ⟨c,0,none⟩) :: us∧w.heap[c]? = some (.cells cells e (0,0))∧cells.toList.length=s.ty.size∧(SelfC c e s.ty s.ref cells.toList ∧ ∀ j,W c j) ∧
   ShR P w S W s y.1 cells.toList O1∧O=c :: O1++O2∧OutRep P w S W ps y.2 us O2
 | .mv s :: ps,y,vs,O => ∃ v us cs O1 O2,vs=v :: us∧ValOf s.ty.isAgg cs v∧ShR P w S W s y.1 cs O1∧O=O1++O2∧OutRep P w S W ps y.2 us O2
 | .v _ :: ps,y,vs,O => ∃ v us,vs=v :: us∧OutRep P w S W ps y us O
 | .ro _ :: ps,y,vs,O => ∃ v us,vs=v :: us∧OutRep P w S W ps y us O
 | .tk _ :: ps,y,vs,O => ∃ v us,vs=v :: us∧OutRep P w S W ps y us O
 | .fn _ :: ps,y,vs,O => ∃ v us,vs=v :: us∧OutRep P w S W ps y us O
def singleV:List Value→Value
 | [v]=>v
 | vs => .tuple vs.toArray
def Outcome (P:Program) (w:World) (S:Nat→Prop) (W:Nat→Nat→Prop) (O:List Nat) (sig:Sig) (args:List Value) (y:sig.cod) (v:Value) (w':World):Prop :=
 (Same w w'∧Stay W w w')∧(∀ c,c<w.heap.size→c∉O→w'.heap[c]? = w.heap[c]?) ∧
 ∃ vs O1 O2,v=singleV vs∧(O1++O2).Nodup∧(∀ c∈O1++O2,(c∈O∨w.heap.size≤c)∧c<w'.heap.size) ∧
  ResRep P w' (fun c=>(S c∨c∈O∨w.heap.size≤c)∧c<w'.heap.size∧c∉O1++O2) (fun c j=>c<w.heap.size→W c j) sig.res y.1 vs O1 ∧
  OutRep P w' (fun c=>(S c∨c∈O∨w.heap.size≤c)∧c<w'.heap.size∧c∉O1++O2) (fun c j=>c<w.heap.size→W c j) sig.params y.2 args O2
def GS (G:List (Nat×Obj)) (w:World) (S:Nat→Prop):Prop:=∀ p∈G,S p.1∧w.heap[p.1]? = some p.2
theorem GS.mono {G:List (Nat×Obj)} {w w':World} {S S':Nat→Prop} (h : ∀ c,S c→S' c∧w'.heap[c]? = w.heap[c]?) (hg:GS G w S):GS G w' S' :=
 fun p hp=>⟨(h p.1 (hg p hp).1).1,(h p.1 (hg p hp).1).2.trans (hg p hp).2⟩
def Sound (P:Program) (G:List (Nat×Obj)) (f:FuncId) (e:Entry):Prop:=e.sig.flat=true ∧
 ∀ (w:World) (S:Nat→Prop) (W:Nat→Nat→Prop) (O:List Nat) (args:List Value) (x:e.sig.dom) (y:e.sig.cod),GS G w S→ArgsRep P w S W e.sig.params x args O→O.Nodup→(∀ c,S c→c<w.heap.size∧c∉O)→(∀ c∈O,c<w.heap.size)→e.F x=some y →
  Runs P f args.toArray w (Outcome P w S W O e.sig args y)
theorem ShR.flat {P:Program} {w:World} {S S':Nat→Prop} {W:Nat→Nat→Prop} : ∀ {s:Sh} {y:s.den} {cs:List Value} {O:List Nat},s.flat=true→ShR P w S W s y cs O→ShR P w S' W s y cs O
 | .val t,_,_,_,hf,⟨h,e⟩=>⟨h.flat (by simpa [Sh.flat] using hf),e⟩
 | .rows t,_,_,_,hf,h=>h.imp id fun ⟨c,d,cap,cells,e,vs,h1,h2,h3,h4,h5,h6,h7,h8⟩=>⟨c,d,cap,cells,e,vs,h1,h2,h3,h4,h5,h6,RepList.mono (fun _ _=>Rep.flat (by simpa [Sh.flat] using hf)) h7,h8⟩
 | .pair a b,_,_,_,hf,⟨c,d,O1,O2,h1,h2,h3,h4⟩=>by
  simp only [Sh.flat,Bool.and_eq_true] at hf
  exact ⟨c,d,O1,O2,h1,h2,h3.flat hf.1,h4.flat hf.2⟩
 | .ro t,_,_,_,hf,_=>by simp [Sh.flat] at hf
theorem ShR.mono {P:Program} {w w':World} {S S':Nat→Prop} {W:Nat→Nat→Prop} (h : ∀ c,S c→S' c∧w'.heap[c]? = w.heap[c]?) : ∀ {s:Sh} {y:s.den} {cs:List Value} {O:List Nat},(∀ c∈O,w'.heap[c]? = w.heap[c]?)→ShR P w S W s y cs O→ShR P w' S' W s y cs O
 | .val t,_,_,_,_,⟨hx,e⟩=>⟨hx.mono h,e⟩
 | .rows t,_,_,_,hO,hx=>hx.imp id fun ⟨c,d,cap,cells,e,vs,h1,h2,h3,h4,h5,h6,h7,h8⟩=>⟨c,d,cap,cells,e,vs,h1,h2,h3,h4,by rw [hO c (by rw [h4];simp)];exact h5,h6,RepList.mono (fun _ _=>Rep.mono h) h7,h8⟩
 | .pair a b,_,_,_,hO,⟨c,d,O1,O2,h1,h2,h3,h4⟩=>⟨c,d,O1,O2,h1,h2,h3.mono h (fun c hc=>hO c (by rw [h2];simp [hc])),h4.mono h (fun c hc=>hO c (by rw [h2];simp [hc]))⟩
 | .ro t,_,_,_,_,⟨⟨c,o,vs,h1,h2,h3,h4⟩,h5⟩=>⟨⟨c,o,vs,h1,(h c h2).1,h3.of_block (h c h2).2,h4.mono h⟩,h5⟩
theorem ShR.wide {P:Program} {w:World} {S:Nat→Prop} {W W':Nat→Nat→Prop} (h : ∀ c j,W c j→W' c j) : ∀ {s:Sh} {y:s.den} {cs:List Value} {O:List Nat},ShR P w S W s y cs O→ShR P w S W' s y cs O
 | .val t,_,_,_,hx=>hx
 | .rows t,_,_,_,hx=>hx.imp id fun ⟨c,d,cap,cells,e,vs,h1,h2,h3,h4,h5,h6,h7,h8⟩=>⟨c,d,cap,cells,e,vs,h1,h2,⟨h3.1,h3.2.1,fun j g1 g2=>h c j (h3.2.2 j g1 g2)⟩,h4,h5,h6,h7,h8⟩
 | .pair a b,_,_,_,⟨c,d,O1,O2,h1,h2,h3,h4⟩=>⟨c,d,O1,O2,h1,h2,h3.wide h,h4.wide h⟩
 | .ro _,_,_,_,hx=>hx
theorem ShR.length {P:Program} {w:World} {S:Nat→Prop} {W:Nat→Nat→Prop} : ∀ {s:Sh} {y:s.den} {cs:List Value} {O:List Nat},ShR P w S W s y cs O→cs.length=s.ty.size
 | .val t,_,_,_,⟨hx,_⟩=>hx.length
 | .rows t,_,_,_,h=>by rcases h with ⟨⟨a,rfl⟩,_⟩ | ⟨_,_,_,_,_,_,rfl,_⟩ <;> rfl
 | .pair a b,_,_,_,⟨c,d,O1,O2,h1,h2,h3,h4⟩=>by rw [h1,List.length_append,h3.length,h4.length];rfl
 | .ro t,_,_,_,⟨⟨c,o,vs,h1,_⟩,_⟩=>by rw [h1];rfl
theorem ShR.one {P:Program} {w:World} {S:Nat→Prop} {W:Nat→Nat→Prop} : ∀ {s:Sh} {y:s.den} {cs:List Value} {O:List Nat},ShR P w S W s y cs O → ∀ v∈cs,v.oneCell'=true
 | .val t,_,_,_,⟨hx,_⟩=>hx.one
 | .rows t,_,_,_,h=>by rcases h with ⟨⟨a,rfl⟩,_⟩ | ⟨_,_,_,_,_,_,rfl,_⟩ <;> simp [Value.oneCell']
 | .pair a b,_,_,_,⟨c,d,O1,O2,h1,h2,h3,h4⟩=>by
  rw [h1];intro v hv
  rcases List.mem_append.1 hv with hv | hv
  ·exact h3.one v hv
  ·exact h4.one v hv
 | .ro t,_,_,_,⟨⟨c,o,vs,h1,_⟩,_⟩=>by rw [h1];simp [Value.oneCell']
structure InvR (P:Program) (F:Fr) (ι:Nat→Inf) (K:Nat→Prop) (H:Heap) (w:World) (T:Nat→Prop):Prop where
 same:Same F.w0 w
 lent : ∀ c,F.S0 c→c<F.w0.heap.size∧¬ F.O0 c
 keep : ∀ c,c<F.w0.heap.size→¬ F.O0 c→w.heap[c]? = F.w0.heap[c]?
 known : ∀ b x,look H b=some x→K b
 blks : ∀ b x,look H b=some x→BlkR P ι K w T (ι b) x
 mine : ∀ b x,look H b=some x→(ι b).kind.real=true→F.O0 (ι b).c∨F.w0.heap.size≤(ι b).c
 inj : ∀ b b' x x',look H b=some x→look H b'=some x'→(ι b).kind.real=true→(ι b').kind.real=true→(ι b).c=(ι b').c→b=b'
 stay:Stay F.W0 F.w0 w
 cover : ∀ b x,look H b=some x→(ι b).kind.real=true→(ι b).c<F.w0.heap.size → ∀ j,(ι b).has j→F.W0 (ι b).c j
def FW (F:Fr) (c j:Nat):Prop:=c<F.w0.heap.size→F.W0 c j
section
variable {P : Program} {F : Fr} {ι : Nat → Inf} {K : Nat → Prop} {H : Heap} {w w' : World} {T : Nat → Prop}
theorem InvR.inv (h:InvR P F ι K H w T) (hT : ∀ c,T c→Reg F ι H w c):Inv P F ι K H w :=
 ⟨h.same,h.lent,h.keep,h.known,fun b x hb=>(h.blks b x hb).mono (fun _ hk=>⟨hk,rfl⟩) (fun c hc=>⟨hT c hc,rfl⟩) (Nat.le_refl _) (fun _=>rfl),h.mine,h.inj,h.stay,h.cover⟩
theorem Inv.invR (h:Inv P F ι K H w):InvR P F ι K H w (Reg F ι H w):=⟨h.same,h.lent,h.keep,h.known,h.blks,h.mine,h.inj,h.stay,h.cover⟩
theorem InvR.look (h:InvR P F ι K H w T) {H':Heap} (hl : ∀ b,Tm.look H' b=Tm.look H b):InvR P F ι K H' w T :=
 ⟨h.same,h.lent,h.keep,fun b x hb=>h.known b x (by rw [← hl];exact hb),fun b x hb=>h.blks b x (by rw [← hl];exact hb),fun b x hb=>h.mine b x (by rw [← hl];exact hb),
  fun b b' x x' hb hb'=>h.inj b b' x x' (by rw [← hl];exact hb) (by rw [← hl];exact hb'),h.stay,fun b x hb=>h.cover b x (by rw [← hl];exact hb)⟩
theorem InvR.add (h:InvR P F ι K H w T) {b:Nat} (hb:Tm.look H b=none) (i:Inf) (hi:¬ K b∨ι b=i) (y:Blk) (hy:BlkR P (upd ι b i) (fun c=>K c∨c=b) w T i y)
  (hp:i.kind.real=true→¬ Own ι H i.c∧(F.O0 i.c∨F.w0.heap.size≤i.c)) (hw:i.kind.real=true → ∀ j,i.has j→FW F i.c j) :
  InvR P F (upd ι b i) (fun c=>K c∨c=b) ((b,some y) :: H) w T∧(∀ c,K c→(K c∨c=b)∧upd ι b i c=ι c)∧(∀ c,Own (upd ι b i) ((b,some y) :: H) c→Own ι H c∨(i.kind.real=true∧c=i.c)):=by
 have hne : ∀ c,K c→upd ι b i c=ι c:=fun c hc=>by
  unfold upd
  split
  ·rename_i e;subst e
   rcases hi with hi | hi
   ·exact absurd hc hi
   ·exact hi.symm
  ·rfl
 have hsame:upd ι b i b=i:=by simp [upd]
 have hlk : ∀ c z,Tm.look ((b,some y) :: H) c=some z→(c=b∧z=y)∨(c≠b∧Tm.look H c=some z):=by
  intro c z hc;rw [qa1] at hc;split at hc
  ·rename_i e;exact .inl ⟨e,by simpa using hc.symm⟩
  ·rename_i e;exact .inr ⟨e,hc⟩
 refine ⟨⟨h.same,h.lent,h.keep,?_,?_,?_,?_,h.stay,?_⟩,fun c hc=>⟨.inl hc,hne c hc⟩,?_⟩
 ·intro c z hc
  rcases hlk c z hc with ⟨e,_⟩ | ⟨_,hc'⟩
  ·exact .inr e
  ·exact .inl (h.known c z hc')
 ·intro c z hc
  rcases hlk c z hc with ⟨e,ez⟩ | ⟨_,hc'⟩
  ·subst e;subst ez;rw [hsame];exact hy
  ·rw [hne c (h.known c z hc')]
   exact (h.blks c z hc').mono (fun d hd=>⟨.inl hd,hne d hd⟩) (fun d hd=>⟨hd,rfl⟩) (Nat.le_refl _) (fun _=>rfl)
 ·intro c z hc hr
  rcases hlk c z hc with ⟨e,_⟩ | ⟨_,hc'⟩
  ·subst e;rw [hsame] at hr ⊢;exact (hp hr).2
  ·rw [hne c (h.known c z hc')] at hr ⊢;exact h.mine c z hc' hr
 ·intro c c' z z' hc hc' hr hr' e
  rcases hlk c z hc with ⟨e1,_⟩ | ⟨_,h1⟩ <;> rcases hlk c' z' hc' with ⟨e2,_⟩ | ⟨_,h2⟩
  ·exact e1.trans e2.symm
  ·subst e1;rw [hsame] at hr;rw [hsame,hne c' (h.known c' z' h2)] at e
   rw [hne c' (h.known c' z' h2)] at hr'
   exact absurd ⟨c',z',h2,hr',e.symm⟩ (hp hr).1
  ·subst e2;rw [hsame] at hr';rw [hsame,hne c (h.known c z h1)] at e
   rw [hne c (h.known c z h1)] at hr
   exact absurd ⟨c,z,h1,hr,e⟩ (hp hr').1
  ·rw [hne c (h.known c z h1)] at hr e;rw [hne c' (h.known c' z' h2)] at hr' e
   exact h.inj c c' z z' h1 h2 hr hr' e
 ·intro c z hc hr hlt j hj
  rcases hlk c z hc with ⟨e,_⟩ | ⟨_,hc'⟩
  ·subst e;rw [hsame] at hr hlt hj ⊢;exact hw hr j hj hlt
  ·rw [hne c (h.known c z hc')] at hr hlt hj ⊢;exact h.cover c z hc' hr hlt j hj
 ·rintro c ⟨b',z,hb',hr,hc⟩
  rcases hlk b' z hb' with ⟨e,_⟩ | ⟨_,hb''⟩
  ·subst e;rw [hsame] at hr hc;exact .inr ⟨hr,hc.symm⟩
  ·rw [hne b' (h.known b' z hb'')] at hr hc
   exact .inl ⟨b',z,hb'',hr,hc⟩
structure Laid (P:Program) (F:Fr) (ι ι':Nat→Inf) (K K':Nat→Prop) (H H':Heap) (w:World) (T:Nat→Prop) (O:List Nat) (n m:Nat):Prop where
 inv:InvR P F ι' K' H' w T
 known : ∀ b,K b→K' b∧ι' b=ι b
 news : ∀ b,K' b→K b∨(n≤b∧b<m)
 own : ∀ c,Own ι' H' c→Own ι H c∨c∈O
theorem Laid.trans {ι' ι'':Nat→Inf} {K' K'':Nat→Prop} {H' H'':Heap} {O O':List Nat} {n m l n':Nat} (h:Laid P F ι ι' K K' H H' w T O m l) (g:Laid P F ι' ι'' K' K'' H' H'' w T O' n m) (hn:n'≤n) (hn2:n'≤m) (hl:m≤l) :
  Laid P F ι ι'' K K'' H H'' w T (O'++O) n' l :=
 ⟨g.inv,fun b hb=>⟨(g.known b (h.known b hb).1).1,(g.known b (h.known b hb).1).2.trans (h.known b hb).2⟩,
 fun b hb=>by
  rcases g.news b hb with h1 | h1
  ·rcases h.news b h1 with h2 | h2
   ·exact .inl h2
   ·exact .inr ⟨by omega,by omega⟩
  ·exact .inr ⟨by omega,by omega⟩,
 fun c hc=>by
  rcases g.own c hc with h1 | h1
  ·rcases h.own c h1 with h2 | h2
   ·exact .inl h2
   ·exact .inr (List.mem_append_right _ h2)
  ·exact .inr (List.mem_append_left _ h1)⟩
theorem qbm : ∀ (s:Sh) (y:s.den) (n:Nat),n≤(putSh s y n).2.2
 | .val _,_,n=>Nat.le_refl n
 | .rows _,_,n=>Nat.le_succ n
 | .pair a b,y,n=>Nat.le_trans (qbm a y.1 n) (qbm b y.2 _)
 | .ro _,_,n=>Nat.le_refl n
theorem AVC.known {ι':Nat→Inf} {K':Nat→Prop} (h : ∀ b,K b→K' b∧ι' b=ι b) {v:AV} {cs:List Value} (hv:AVC P ι K w T v cs):AVC P ι' K' w T v cs:=hv.mono h (fun _ hc=>⟨hc,rfl⟩) (Nat.le_refl _)
theorem qg5 : ∀ {s:Sh} {y:s.den} {n:Nat} {cs:List Value} {O:List Nat} {ι:Nat→Inf} {K:Nat→Prop} {H:Heap},InvR P F ι K H w T→ShR P w T (FW F) s y cs O→(∀ c∈O,¬ Own ι H c∧(F.O0 c∨F.w0.heap.size≤c))→O.Nodup →
  (∀ b,n≤b→b<(putSh s y n).2.2→¬ K b) →
  ∃ ι' K',Laid P F ι ι' K K' H ((putSh s y n).2.1++H) w T O n (putSh s y n).2.2∧AVC P ι' K' w T (putSh s y n).1 cs∧fitsB s.ty (putSh s y n).1=true
 | .val t,y,n,cs,O,ι,K,H,hI,⟨hr,e⟩,_,_,_=>by
  refine ⟨ι,K,⟨hI,fun b hb=>⟨hb,rfl⟩,fun b hb => .inl hb,fun c hc => .inl hc⟩,?_,qcf _ _⟩
  unfold putSh AVC
  exact hr
 | .rows t,xs,n,cs,O,ι,K,H,hI,hr,hO,_,hn=>by
  have hnK:¬ K n:=hn n (Nat.le_refl _) (by simp [putSh])
  have hlk:Tm.look H n=none:=by
   cases hx:Tm.look H n with
   | none=>rfl
   | some x=>exact absurd (hI.known n x hx) hnK
  rcases hr with ⟨⟨a,rfl⟩,h0,rfl⟩ | ⟨c,d,cap,cells,e,vs,rfl,hcap,hpos,rfl,hb,hsz,hrep,hcs⟩
  ·obtain ⟨h1,h2,h3⟩:=hI.add hlk ⟨0,0,.nilrow t⟩ (.inl hnK) (.row t xs) (.inl ⟨rfl,h0⟩) (fun hr=>by simp [Kind.real] at hr) (fun hr=>by simp [Kind.real] at hr)
   refine ⟨_,_,⟨h1,h2,fun b hb=>hb.imp id fun e=>⟨by omega,by simp [putSh];omega⟩,fun c hc => ?_⟩,?_,qme t⟩
   ·rcases h3 c hc with h3 | ⟨h3,_⟩
    ·exact .inl h3
    ·simp [Kind.real] at h3
   ·unfold putSh AVC
    exact ⟨.inr rfl,.inl ⟨by simp [upd],a,rfl⟩⟩
  ·obtain ⟨h1,h2,h3⟩:=hI.add hlk ⟨c,d,.row t (List.length xs) (cap*t.size)⟩ (.inl hnK) (.row t xs) (.inr ⟨cap*t.size,cells,e,vs,rfl,hb,⟨hsz,hpos.2.1⟩,Nat.mul_le_mul_right _ hcap,hrep,hcs⟩) (fun _=>hO c (by simp)) (fun _ j hj=>hpos.2.2 j hj.1 hj.2)
   refine ⟨_,_,⟨h1,h2,fun b hb=>hb.imp id fun e=>⟨by omega,by simp [putSh];omega⟩,fun c' hc => ?_⟩,?_,qme t⟩
   ·rcases h3 c' hc with h3 | ⟨_,h3⟩
    ·exact .inl h3
    ·exact .inr (by simpa using h3)
   ·unfold putSh AVC
    refine ⟨.inr rfl,.inr ⟨List.length xs,cap*t.size,cap,?_,?_,hcap,rfl,hpos.1⟩⟩ <;> simp [upd]
 | .pair a b,y,n,cs,O,ι,K,H,hI,⟨c,d,O1,O2,hc,hO',h1,h2⟩,hO,hnd,hn=>by
  subst hc hO'
  obtain ⟨hnd1,hnd2,hdis⟩:=List.nodup_append.1 hnd
  have hle1:=qbm a y.1 n
  have hle2:=qbm b y.2 (putSh a y.1 n).2.2
  obtain ⟨ι1,K1,L1,hv1,hf1⟩:=qg5 (n:=(putSh a y.1 n).2.2) hI h2 (fun c hc=>hO c (by simp [hc])) hnd2 (fun b hb1 hb2=>hn b (by omega) hb2)
  obtain ⟨ι2,K2,L2,hv2,hf2⟩:=qg5 (n:=n) L1.inv h1 (fun c hc=>⟨fun ho=>by
    rcases L1.own c ho with ho | ho
    ·exact (hO c (by simp [hc])).1 ho
    ·exact hdis c hc c ho rfl,(hO c (by simp [hc])).2⟩) hnd1 (fun b hb1 hb2 hk=>by
    rcases L1.news b hk with h | h
    ·exact hn b hb1 (Nat.lt_of_lt_of_le hb2 hle2) h
    ·omega)
  refine ⟨ι2,K2,?_,?_,?_⟩
  ·have:=L1.trans L2 (Nat.le_refl n) hle1 hle2
   rw [← List.append_assoc] at this
   exact this
  ·show AVC P ι2 K2 w T (.pair _ _) _
   unfold AVC
   exact ⟨c,d,rfl,hv2,hv1.known L2.known⟩
  ·show fitsB (.pair _ _) (.pair _ _)=true
   simp [fitsB,hf1,hf2]
 | .ro t,y,n,cs,O,ι,K,H,hI,⟨hr,e⟩,_,_,_=>by
  refine ⟨ι,K,⟨hI,fun b hb=>⟨hb,rfl⟩,fun b hb => .inl hb,fun c hc => .inl hc⟩,?_,rfl⟩
  unfold putSh AVC
  exact hr
end
end Go.Tm
namespace Go.Tm
open Go
inductive Pls (R:Nat→Nat→Prop):List Nat→List Nat→List Nat→Prop
 | nil:Pls R [] [] []
 | skip {b:Nat} {ts O fz:List Nat} : Pls R ts O fz→Pls R (b :: ts) O fz
 | keep {b c:Nat} {ts O fz:List Nat} : R b c→Pls R ts O fz→Pls R (b :: ts) (c :: O) fz
 | froz {b:Nat} {ts O fz:List Nat} : Pls R ts O fz→Pls R (b :: ts) O (b :: fz)
section
variable {R : Nat → Nat → Prop}
theorem Pls.append {ts O fz ts' O' fz':List Nat} (h:Pls R ts O fz) (g:Pls R ts' O' fz'):Pls R (ts++ts') (O++O') (fz++fz'):=by
 induction h with
 | nil=>exact g
 | skip _ ih=>exact .skip ih
 | keep hr _ ih=>exact .keep hr ih
 | froz _ ih=>exact .froz ih
theorem Pls.all : ∀ bs:List Nat,Pls R bs [] bs
 | [] => .nil
 | _ :: r => .froz (Pls.all r)
theorem Pls.none : ∀ bs:List Nat,Pls R bs [] []
 | [] => .nil
 | _ :: r => .skip (Pls.none r)
theorem Pls.sub {ts O fz:List Nat} (h:Pls R ts O fz) : ∀ b∈fz,b∈ts:=by
 induction h with
 | nil=>simp
 | skip _ ih=>intro b hb;exact List.mem_cons_of_mem _ (ih b hb)
 | keep _ _ ih=>intro b hb;exact List.mem_cons_of_mem _ (ih b hb)
 | froz _ ih=>intro b hb;rcases List.mem_cons.1 hb with e | e;exact e▸List.mem_cons_self;exact List.mem_cons_of_mem _ (ih b e)
theorem Pls.of {ts O fz:List Nat} (h:Pls R ts O fz) : ∀ c∈O,∃ b∈ts,R b c:=by
 induction h with
 | nil=>simp
 | skip _ ih=>intro c hc;obtain ⟨b,hb,hr⟩:=ih c hc;exact ⟨b,List.mem_cons_of_mem _ hb,hr⟩
 | keep hr _ ih =>
  intro c hc
  rcases List.mem_cons.1 hc with e | e
  ·subst e;exact ⟨_,List.mem_cons_self,hr⟩
  ·obtain ⟨b,hb,hr⟩:=ih c e;exact ⟨b,List.mem_cons_of_mem _ hb,hr⟩
 | froz _ ih=>intro c hc;obtain ⟨b,hb,hr⟩:=ih c hc;exact ⟨b,List.mem_cons_of_mem _ hb,hr⟩
theorem Pls.apart {ts O fz:List Nat} (h:Pls R ts O fz) (hn:ts.Nodup) : ∀ c∈O,∃ b∈ts,b∉fz∧R b c:=by
 induction h with
 | nil=>simp
 | skip _ ih =>
  intro c hc
  obtain ⟨h1,h2⟩:=List.nodup_cons.1 hn
  obtain ⟨b,hb,hf,hr⟩:=ih h2 c hc
  exact ⟨b,List.mem_cons_of_mem _ hb,hf,hr⟩
 | keep hr h ih =>
  intro c hc
  obtain ⟨h1,h2⟩:=List.nodup_cons.1 hn
  rcases List.mem_cons.1 hc with e | e
  ·subst e;exact ⟨_,List.mem_cons_self,fun hf=>h1 (h.sub _ hf),hr⟩
  ·obtain ⟨b,hb,hf,hr⟩:=ih h2 c e;exact ⟨b,List.mem_cons_of_mem _ hb,hf,hr⟩
 | froz h ih =>
  intro c hc
  obtain ⟨h1,h2⟩:=List.nodup_cons.1 hn
  obtain ⟨b,hb,hf,hr⟩:=ih h2 c hc
  exact ⟨b,List.mem_cons_of_mem _ hb,fun hm=>by rcases List.mem_cons.1 hm with e | e;exact h1 (e▸hb);exact hf e,hr⟩
theorem Pls.nodup (hR : ∀ b b' c,R b c→R b' c→b=b') {ts O fz:List Nat} (h:Pls R ts O fz) (hn:ts.Nodup):O.Nodup:=by
 induction h with
 | nil=>simp
 | skip _ ih=>exact ih (List.nodup_cons.1 hn).2
 | keep hr h ih =>
  obtain ⟨h1,h2⟩:=List.nodup_cons.1 hn
  refine List.nodup_cons.2 ⟨fun hc => ?_,ih h2⟩
  obtain ⟨b,hb,hr'⟩:=h.of _ hc
  exact h1 (hR _ _ _ hr hr'▸hb)
 | froz _ ih=>exact ih (List.nodup_cons.1 hn).2
end
theorem qew {l:List Nat} {b:Nat} : memN l b=true↔b∈l:=by
 induction l with
 | nil=>simp [memN]
 | cons a r ih =>
  simp only [memN,Bool.or_eq_true,ih,List.mem_cons]
  constructor
  ·rintro (h | h)
   ·exact .inl (Nat.eq_of_beq_eq_true h).symm
   ·exact .inr h
  ·rintro (h | h)
   ·exact .inl (by rw [h];exact Nat.beq_refl a)
   ·exact .inr h
theorem qii {l:List Nat} : nodupN l=true↔l.Nodup:=by
 induction l with
 | nil=>simp [nodupN]
 | cons a r ih =>
  simp only [nodupN,Bool.and_eq_true,ih,List.nodup_cons,Bool.not_eq_true']
  constructor
  ·rintro ⟨h,g⟩
   exact ⟨fun hm=>by rw [qew.2 hm] at h;simp at h,g⟩
  ·rintro ⟨h,g⟩
   exact ⟨by cases hm:memN r a with | false=>rfl | true=>exact absurd (qew.1 hm) h,g⟩
theorem qpb {a b:List Nat} : disjN a b=true ↔ ∀ x∈a,x∉b:=by
 simp only [disjN,List.all_eq_true,Bool.not_eq_true']
 constructor
 ·intro h x hx hb;have:=h x hx;rw [qew.2 hb] at this;simp at this
 ·intro h x hx;cases hm:memN b x with | false=>rfl | true=>exact absurd (qew.1 hm) (h x hx)
def Pl (ι:Nat→Inf) (H:Heap) (b c:Nat):Prop:=(∃ x,look H b=some x)∧(ι b).kind.real=true∧(ι b).c=c
section
variable {P : Program} {F : Fr} {ι : Nat → Inf} {K : Nat → Prop} {H : Heap} {w : World} {α : Type}
theorem Inv.pl (h:Inv P F ι K H w) : ∀ b b' c,Pl ι H b c→Pl ι H b' c→b=b':=fun b b' c ⟨⟨x,hx⟩,hr,e⟩ ⟨⟨x',hx'⟩,hr',e'⟩=>h.inj b b' x x' hx hx' hr hr' (e.trans e'.symm)
theorem qjr : ∀ {t:Ty} {v:AV} {rs:List Nat} {Q:α→List Nat→Prop} {k:t.den→List Nat→RM α},(castR t v k).wp H rs Q→v.agg=t.isAgg:=by
 intro t v rs Q k h
 cases v with
 | val u x =>
  cases he:u.eq? t with
  | none=>cases t <;> (simp only [castR,he] at h;exact h.elim)
  | some p=>obtain ⟨rfl⟩:=p;rfl
 | nilS=>cases t <;> first | rfl | exact h.elim
 | rows _ _=>cases t <;> first | rfl | exact h.elim
 | view _ _ _ _ _=>cases t <;> first | rfl | exact h.elim
 | unit=>cases t <;> first | rfl | exact h.elim
 | pair _ _=>cases t <;> first | rfl | exact h.elim
 | _=>cases t <;> exact h.elim
theorem qagw (hI:Inv P F ι K H w) {b:Nat} {x:Blk} (hx:look H b=some x) (hr:(ι b).kind.real=true) : ∃ cells e,w.heap[(ι b).c]? = some (.cells cells e (0,0)):=by
 have hblk:=hI.blks b x hx
 cases x with
 | box t v=>obtain ⟨_,_,cs,e,hb,_⟩:=hblk;exact ⟨cs,e,hb⟩
 | row t xs =>
  rcases hblk with ⟨hk,_⟩ | ⟨room,cs,e,vs,hk,hb,_⟩
  ·rw [hk] at hr;simp [Kind.real] at hr
  ·exact ⟨cs,e,hb⟩
theorem qaoc (hI:Inv P F ι K H w) {b:Nat} {x:Blk} (hx:look H b=some x) {p:List PS} {o:Nat} {u:Ty} (hko:KOff (ι b).kind p o u) {cells:Array Value} {e:TypeId} (hc:w.heap[(ι b).c]? = some (.cells cells e (0,0))):(ι b).d+(o+u.size)≤cells.size:=by
 have hblk:=hI.blks b x hx
 cases x with
 | box t v =>
  obtain ⟨hk,hd,cs,e',hb,_,hl,_⟩:=hblk
  rw [hc] at hb;simp only [Option.some.injEq,Obj.cells.injEq] at hb
  obtain ⟨rfl,_⟩:=hb
  rw [hk] at hko
  cases hko with
  | box hto =>
   have:=hto.inside
   rw [Array.length_toList] at hl
   omega
 | row t xs =>
  rcases hblk with ⟨hk,_⟩ | ⟨room,cs,e',vs,hk,hb,h1,h2,_⟩
  ·rw [hk] at hko;cases hko
  ·rw [hc] at hb;simp only [Option.some.injEq,Obj.cells.injEq] at hb
   obtain ⟨rfl,_⟩:=hb
   rw [hk] at hko
   cases hko with
   | @row _ _ _ i _ o' _ hi hto =>
    have:=hto.inside
    have h3:(i+1)*t.size≤List.length xs*t.size:=Nat.mul_le_mul_right _ hi
    rw [Nat.add_mul,Nat.one_mul] at h3
    omega
theorem qamg (hI:Inv P F ι K H w) {b:Nat} {x:Blk} (hx:look H b=some x) {p:List PS} {o:Nat} {u:Ty} (hko:KOff (ι b).kind p o u) {j:Nat} (h1:(ι b).d+o≤j) (h2:j<(ι b).d+(o+u.size)):(ι b).has j:=by
 have hblk:=hI.blks b x hx
 cases x with
 | box t v=>exact Inf.has_box hblk.1 j
 | row t xs =>
  rcases hblk with ⟨hk,_⟩ | ⟨room,cs,e',vs,hk,hb,g1,g2,_⟩
  ·rw [hk] at hko;cases hko
  ·rw [Inf.has_row hk]
   rw [hk] at hko
   cases hko with
   | @row _ _ _ i _ o' _ hi hto =>
    have:=hto.inside
    have h3:(i+1)*t.size≤List.length xs*t.size:=Nat.mul_le_mul_right _ hi
    rw [Nat.add_mul,Nat.one_mul] at h3
    omega
theorem qaex (hI:Inv P F ι K H w) {t:Ty} {v:AV} {cs:List Value} {rs:List Nat} {Q:α→List Nat→Prop} {k:(Ty.list t).den→List Nat→RM α}
  (h:(castR (.list t) v k).wp H rs Q) (hv:AVC P ι K w (Reg F ι H w) v cs) (hn : ∀ u x,v ≠ .val u x) (h8:vwU8 t v=false) :
  ∃ (xs:List t.den) (ts rs' O:List Nat),(k xs ts).wp H rs' Q∧Pls (Pl ι H) ts O []∧ShR P w (Reg F ι H w) (FW F) (.rows t) xs cs O∧(∀ b∈ts,∃ z,look H b=some z) ∧ ∀ b u,v = .rows b u→ts=[b]:=by
 cases v with
 | val u x=>exact absurd rfl (hn u x)
 | nilS =>
  simp only [AVC] at hv
  exact ⟨[],[],rs,[],h,.nil,.inl ⟨⟨_,hv⟩,rfl,rfl⟩,by simp,fun b u e=>by simp at e⟩
 | rows b u =>
  simp only [castR,RM.wp] at h
  obtain ⟨x,hx,h⟩:=h
  cases x with
  | box _ _=>exact h.elim
  | row u' xs =>
   simp only at h
   split at h
   ·rename_i p hp
    obtain rfl:=p
    simp only [AVC] at hv
    obtain ⟨hK,hv⟩:=hv
    have hblk:=hI.blks b _ hx
    rcases hv with ⟨hk,a,rfl⟩ | ⟨n,room,cap,hk,rfl,hnc,hr,hpos⟩
    ·rcases hblk with ⟨_,h0⟩ | ⟨room,_,_,_,hk',_⟩
     ·exact ⟨xs,[b],_,[],h,.skip .nil,.inl ⟨⟨a,rfl⟩,h0,rfl⟩,by simpa using ⟨_,hx⟩,fun b' u e=>by simp at e;rw [e.1]⟩
     ·rw [hk] at hk';simp at hk'
    ·rcases hblk with ⟨hk',_⟩ | ⟨room',_,_,_,hk',_⟩
     ·rw [hk] at hk';simp at hk'
     ·have hk2:=hk
      rw [hk'] at hk2
      simp only [Kind.row.injEq] at hk2
      obtain ⟨rfl,hlen,rfl⟩:=hk2
      obtain ⟨_,cs,e,vs,hblk,h1,h2,h3,hvl,h4,hat⟩:=qdi (hI.blks b _ hx) hk'
      refine ⟨xs,[b],_,[(ι b).c],h,.keep ⟨⟨_,hx⟩,by rw [hk];rfl,rfl⟩ .nil,.inr ⟨_,_,cap,cs,e,vs,by rw [hlen],by rw [hlen];exact hnc,⟨hpos,qac9 (hI.blks b _ hx) hk' hblk,fun j g1 g2 hl=>hI.cover b _ hx (by rw [hk];rfl) hl j ((Inf.has_row hk j).2 (by omega))⟩,rfl,hblk,by omega,h3,h4⟩,by simpa using ⟨_,hx⟩,fun b' u e=>by simp at e;rw [e.1]⟩
   ·exact h.elim
 | view b p u off len =>
  have h0:=h
  have hv0:=hv
  simp only [AVC] at hv
  obtain ⟨hK,hv⟩:=hv
  rcases hv with ⟨rfl,⟨a,rfl⟩,hvalid⟩ | ⟨n,room,cap,rfl,hkk,rfl,hlc,hln,hroom,hpos⟩ | ⟨o,n,cap,hko,rfl,hlc,hln,hcn,hpos⟩
  ·obtain ⟨x,bs,rs',hk,hl,a',cap,e,hc,_⟩:=qlp hI h hv0
   simp only [List.cons.injEq,Value.slice.injEq,and_true] at e
   exact ⟨x,bs,rs',[],hk,Pls.none bs,.inl ⟨⟨a,rfl⟩,e.2.1.symm,rfl⟩,hl,fun b u e=>by simp at e⟩
  ·obtain ⟨xs,vs,rfl,hq,hxl,hrep,hat,_,hlk,hreal⟩:=qfd hI h0 (.inl ⟨rfl,rfl,n,room,hkk,hln⟩)
   obtain ⟨z,hz⟩:=hlk
   obtain ⟨cells,e,hcl⟩:=qagw hI hz hreal
   have hsz:(ι b).d+room≤cells.size:=by
    have hblk:=hI.blks b _ hz
    cases z with
    | box _ _=>obtain ⟨hk',_⟩:=qhz hblk;rw [hkk] at hk';simp at hk'
    | row u' zs =>
     rcases hblk with ⟨hk',_⟩ | ⟨room',cs',e3,_,hk',hb3,h1,_⟩
     ·rw [hkk] at hk';simp at hk'
     ·rw [hkk] at hk'
      simp only [Kind.row.injEq] at hk'
      obtain ⟨_,_,rfl⟩:=hk'
      rw [hcl] at hb3;simp only [Option.some.injEq,Obj.cells.injEq] at hb3
      rw [hb3.1];exact h1.1
   rw [Nat.add_mul] at hroom
   refine ⟨xs,[b],_,[(ι b).c],hq,.keep ⟨⟨z,hz⟩,hreal,rfl⟩ .nil,.inr ⟨_,_,cap,cells,e,vs,by rw [hxl],by rw [hxl];exact hlc,⟨hpos,fun q=>(by subst q;cases h8),fun j g1 g2 hl=>hI.cover b _ hz hreal hl j ((Inf.has_row hkk j).2 (by
    have g1:(ι b).d+off*u.size≤j:=g1
    have g2:j<(ι b).d+off*u.size+cap*u.size:=g2
    omega))⟩,rfl,hcl,?_,hrep,qoz hat hcl⟩,by simpa using ⟨z,hz⟩,fun b u e=>by simp at e⟩
   show (ι b).d+off*u.size+cap*u.size≤cells.size;omega
  ·obtain ⟨xs,vs,rfl,hq,hxl,hrep,hat,_,hlk,hreal⟩:=qfd hI h0 (.inr ⟨o,n,hko,hln,rfl⟩)
   obtain ⟨z,hz⟩:=hlk
   obtain ⟨cells,e,hcl⟩:=qagw hI hz hreal
   have hin:=qaoc hI hz hko hcl
   have hcap:(off+cap)*u.size≤n*u.size:=Nat.mul_le_mul_right _ hcn
   rw [Nat.add_mul] at hcap
   simp only [Ty.size] at hin
   refine ⟨xs,[b],_,[(ι b).c],hq,.keep ⟨⟨z,hz⟩,hreal,rfl⟩ .nil,.inr ⟨_,_,cap,cells,e,vs,by rw [hxl],by rw [hxl];exact hlc,⟨hpos,fun q=>(by subst q;cases h8),fun j g1 g2 hl=>hI.cover b _ hz hreal hl j (qamg hI hz hko (Nat.le_trans (by rw [← Nat.add_assoc];exact Nat.le_add_right _ _) (show (ι b).d+(o+off*u.size)≤j from g1)) (by
    have g2:j<(ι b).d+(o+off*u.size)+cap*u.size:=g2
    simp only [Ty.size];omega))⟩,rfl,hcl,?_,hrep,qoz hat hcl⟩,by simpa using ⟨z,hz⟩,fun b u e=>by simp at e⟩
   show (ι b).d+(o+off*u.size)+cap*u.size≤cells.size;omega
 | _=>exact h.elim
theorem ShR.regx {s:Sh} {y:s.den} {cs:List Value} {O:List Nat} {bs bs':List Nat} (h:ShR P w (RegX F ι H w bs) (FW F) s y cs O) (hs : ∀ b∈bs,b∈bs'):ShR P w (RegX F ι H w bs') (FW F) s y cs O :=
 h.mono (fun _ hc=>⟨hc.sub hs,rfl⟩) (fun _ _=>rfl)
theorem qdz (hI:Inv P F ι K H w) : ∀ {s:Sh} {v:AV} {cs:List Value} {rs:List Nat} {Q:α→List Nat→Prop} {k:s.den→List Nat→RM α},(takeSh s v k).wp H rs Q→AVC P ι K w (Reg F ι H w) v cs →
  ∃ y ts rs' O fz,(k y ts).wp H rs' Q∧Pls (Pl ι H) ts O fz∧ShR P w (RegX F ι H w fz) (FW F) s y cs O∧v.agg=s.ty.isAgg∧(∀ b∈ts,∃ z,look H b=some z) ∧ ∀ y' h,backSh s y' v=some h→(h.map (·.1)).Sublist ts
 | .val t,v,cs,rs,Q,k,h,hv=>by
  have h':(castR t v k).wp H rs Q:=by cases v <;> exact h
  obtain ⟨x,bs,rs',h1,hx,hlive,_⟩:=qh5 hI h' hv
  refine ⟨x,bs,rs',[],bs,h1,Pls.all bs,⟨hx,rfl⟩,qjr h',hlive,fun y' h hb => ?_⟩
  cases v <;> (simp only [backSh,Option.some.injEq] at hb;subst hb;simp)
 | .rows t,v,cs,rs,Q,k,h,hv=>by
  have hn : ∀ u x,v ≠ .val u x:=by
   rintro u x rfl
   have h':(castR (.list t) (.val u x) fun xs bs=>(RM.fail:RM α)).wp H rs Q:=h
   cases he:u.eq? (.list t) with
   | none=>simp only [castR,he] at h';exact h'
   | some p=>obtain ⟨rfl⟩:=p;simp only [castR,he] at h';exact h'
  cases h8:vwU8 t v with
  | true =>
   have h0:(bif vwU8 t v then RM.fail else castR (.list t) v fun xs bs=>match v with | .val _ _ => .fail | _=>k xs bs).wp H rs Q:=h
   rw [h8] at h0;exact h0.elim
  | false =>
  have h':(castR (.list t) v k).wp H rs Q:=by
   have h0:(bif vwU8 t v then RM.fail else castR (.list t) v fun xs bs=>match v with | .val _ _ => .fail | _=>k xs bs).wp H rs Q:=h
   rw [h8] at h0
   cases v <;> first | exact absurd rfl (hn _ _) | exact h0
  obtain ⟨xs,ts,rs',O,h1,h2,h3,h4,h5⟩:=qaex hI h' hv hn h8
  refine ⟨xs,ts,rs',O,[],h1,h2,h3.mono (fun c hc=>⟨.inl hc,rfl⟩) (fun _ _=>rfl),qjr h',h4,fun y' h hb => ?_⟩
  cases v <;> simp only [backSh] at hb <;> first | (simp at hb;done) | skip
  ·simp only [Option.some.injEq] at hb;subst hb;simp
  ·rename_i b u
   cases hs:u.same t with
   | false=>rw [hs] at hb;simp at hb
   | true =>
    rw [hs] at hb
    simp only [cond_true,Option.some.injEq] at hb
    subst hb
    rw [h5 b u rfl];simp
 | .pair a b,v,cs,rs,Q,k,h,hv=>by
  cases v with
  | val u x =>
   cases u with
   | pair c d =>
    simp only [AVC] at hv
    obtain ⟨p,q,rfl,hp,hq⟩:=hv
    simp only [takeSh] at h
    obtain ⟨y1,ts1,rs1,O1,fz1,h1,p1,s1,a1,l1,b1⟩:=qdz hI h (show AVC P ι K w (Reg F ι H w) (.val c x.1) p by simp only [AVC];exact hp)
    obtain ⟨y2,ts2,rs2,O2,fz2,h2,p2,s2,a2,l2,b2⟩:=qdz hI h1 (show AVC P ι K w (Reg F ι H w) (.val d x.2) q by simp only [AVC];exact hq)
    refine ⟨(y1,y2),ts1++ts2,rs2,O1++O2,fz1++fz2,h2,p1.append p2,⟨p,q,O1,O2,rfl,rfl,s1.regx (by simp +contextual),s2.regx (by simp +contextual)⟩,rfl,?_,fun y' h hb=>by simp [backSh] at hb⟩
    intro z hz
    rcases List.mem_append.1 hz with hz | hz
    ·exact l1 z hz
    ·exact l2 z hz
   | _=>exact h.elim
  | pair c d =>
   simp only [AVC] at hv
   obtain ⟨p,q,rfl,hp,hq⟩:=hv
   simp only [takeSh] at h
   obtain ⟨y1,ts1,rs1,O1,fz1,h1,p1,s1,a1,l1,b1⟩:=qdz hI h hp
   obtain ⟨y2,ts2,rs2,O2,fz2,h2,p2,s2,a2,l2,b2⟩:=qdz hI h1 hq
   refine ⟨(y1,y2),ts1++ts2,rs2,O1++O2,fz1++fz2,h2,p1.append p2,⟨p,q,O1,O2,rfl,rfl,s1.regx (by simp +contextual),s2.regx (by simp +contextual)⟩,rfl,?_,?_⟩
   ·intro z hz
    rcases List.mem_append.1 hz with hz | hz
    ·exact l1 z hz
    ·exact l2 z hz
   ·intro y' h hb
    simp only [backSh] at hb
    split at hb
    ·rename_i h' g' e1 e2
     simp only [Option.some.injEq] at hb
     subst hb
     rw [List.map_append]
     exact (b1 _ _ e1).append (b2 _ _ e2)
    ·simp at hb
  | _=>exact h.elim
 | .ro t,v,cs,rs,Q,k,h,hv=>by
  cases v with
  | iptr u x =>
   simp only [takeSh] at h
   cases he:u.eq? t with
   | none=>rw [he] at h;exact h.elim
   | some p =>
    obtain ⟨rfl⟩:=p
    rw [he] at h
    simp only [AVC] at hv
    obtain ⟨c,o,vs,h1,h2,h3,h4⟩:=hv
    exact ⟨x,[],rs,[],[],h,.nil,⟨⟨c,o,vs,h1,.inl h2,h3,h4.mono fun c hc=>⟨.inl hc,rfl⟩⟩,rfl⟩,rfl,by simp,fun y' h hb=>by simp [backSh] at hb⟩
  | _=>exact h.elim
theorem qak7 (hI:Inv P F ι K H w) {t:Ty} {v:AV} {x:Value} {rs:List Nat} {Q:α→List Nat→Prop} {k:t.den→List Nat→RM α} (h:(roR t v k).wp H rs Q) (hv:AVR P ι K w (Reg F ι H w) v x) :
  ∃ y bs rs',(k y bs).wp H rs' Q∧(∀ b∈bs,∃ z,look H b=some z) ∧ ∃ c o cs,x = .pointer (some ⟨c,o,none⟩)∧RegX F ι H w bs c∧CellsAt w c o cs∧Rep w (RegX F ι H w bs) t y cs:=by
 obtain ⟨cs,hc,hval⟩:=hv
 cases v with
 | iptr u y =>
  simp only [AVC] at hc
  obtain ⟨c,o,vs,rfl,hreg,hat,hr⟩:=hc
  have hp:=qad (show ValOf false _ x from hval)
  cases he:u.eq? t with
  | none=>simp only [roR,he] at h;exact h.elim
  | some p =>
   obtain ⟨rfl⟩:=p
   simp only [roR,he] at h
   exact ⟨y,[],rs,h,by simp,c,o,vs,hp,.inl hreg,hat,hr.mono fun c hc=>⟨.inl hc,rfl⟩⟩
 | ptr b p u =>
  simp only [AVC] at hc
  obtain ⟨hK,of,hko,rfl⟩:=hc
  have hp:=qad (show ValOf false _ x from hval)
  simp only [roR,RM.wp] at h
  obtain ⟨blk,hb,h⟩:=h
  have hreal:(ι b).kind.real=true:=by cases hk:(ι b).kind <;> rw [hk] at hko <;> first | rfl | cases hko
  have hblk:=hI.blks b _ hb
  cases blk with
  | box t' v' =>
   obtain ⟨hk,hd,cells,e,hbb,hvv,hlen,hat,hf⟩:=qhz hblk
   rw [hk] at hko
   cases hko with
   | box hto =>
   simp only at h
   obtain ⟨v2,h2,hf2,hv2⟩:=qls hto h hf hvv
   obtain ⟨y,bs,rs',h3,hy,hlive,_⟩:=qh5 hI h2 hv2
   refine ⟨y,b :: bs,rs',h3,?_,(ι b).c,(ι b).d+of,_,hp,.inr ⟨b,by simp,_,hb,hreal,rfl⟩,?_,hy.mono fun c hc=>⟨hc.sub (by simp +contextual),rfl⟩⟩
   ·intro z hz
    rcases List.mem_cons.1 hz with e | hz
    ·exact ⟨_,e▸hb⟩
    ·exact hlive z hz
   ·rw [hd];exact hat.seg of _
  | row u' xs =>
   rcases hblk with ⟨hk',_⟩ | hblk'
   ·rw [hk'] at hreal;simp [Kind.real] at hreal
   ·obtain ⟨room',_,_,_,hk',_⟩:=id hblk'
    rw [hk'] at hko
    cases hko with
    | @row _ _ _ i p' o' _ hi hto =>
    obtain ⟨_,cells,e,vs,hbb,h1,h2,h3,hvl,h4,hat⟩:=qdi (hI.blks b _ hb) hk'
    simp only [getPath] at h
    have hg:=RepList.getD (R:=Rep w (Reg F ι H w) u') (fun _ _ h=>h.length) u'.zero h3 hi
    obtain ⟨y,hy,hr⟩:=qkb hto h hg
    split at hy
    ·rename_i q _;obtain rfl:=q
     rw [qui hto.inside] at hr
     exact ⟨y,[b],_,hy,by simpa using ⟨_,hb⟩,(ι b).c,_,_,hp,.inr ⟨b,by simp,_,hb,hreal,rfl⟩,hat.seg _ _,hr.mono fun c hc=>⟨.inl hc,rfl⟩⟩
    ·exact hy.elim
 | _=>exact h.elim
end
end Go.Tm
namespace Go.Tm
open Go
def PrimS (P:Program) (f:FuncId) (p:PrimD):Prop :=
 ∀ (w:World) (S:Nat→Prop) (x:tup p.dom) (args:List Value),RepTup w S p.dom x args → ∃ q v,(callFunc f args.toArray).run P w = .ok (.value v) w∧VRep w S p.cod (p.F x q) v
def Eaten (w:World) (W:Nat→Nat→Prop) (O:List Nat) (c:Ty) (y:c.den) (v:Value) (w':World):Prop :=
 (Same w w'∧Stay W w w')∧(∀ d,d<w.heap.size→d∉O→w'.heap[d]? = w.heap[d]?)∧VRep w' (fun _=>False) c y v
def EatF (P:Program) (f:FuncId) (e:EatD):Prop :=
 ∀ (w:World) (S:Nat→Prop) (W:Nat→Nat→Prop) (O:List Nat) (args:List Value) (x:domOf [PK.io e.s]) (y:e.c.den),ArgsRep P w S W [.io e.s] x args O→O.Nodup→(∀ c,S c→c<w.heap.size∧c∉O)→(∀ c∈O,c<w.heap.size)→e.F x.1=some y →
  Runs P f args.toArray w (Eaten w W O e.c y)
def EatZ (P:Program) (f:FuncId) (e:EatD):Prop :=
 ∀ y,e.Z=some y → ∀ (w:World) (c:Nat) (cs:Array Value) (t:TypeId) (p:Value),w.heap[c]? = some (.cells cs t (0,0))→cs.toList=[p,.slice none 0 0]→(e.s.ty.refT≠0→t=e.s.ty.refT) →
  Runs P f #[.pointer (some ⟨c,0,none⟩)] w fun v w'=>w'.heap=w.heap∧w'.os=w.os∧w'.output=w.output ∧ ∀ S,VRep w S e.c y v
def EatS (P:Program) (f:FuncId) (e:EatD):Prop:=EatF P f e∧EatZ P f e
structure EnvT (E:Env):Prop where
 ok:EnvOK E
 mixed:E.P.follows .mixedOrders=true
 fns : ∀ f e,E.fns f=some e→Sound E.P E.G f e
 prims : ∀ f p,E.prims f=some p→PrimS E.P f p
 eats : ∀ f p,E.eats f=some p→EatS E.P f p
structure EnvS (E:Env) (F:Fr):Prop extends EnvT E where
 gl:GS E.G F.w0 F.S0
theorem EnvS.gs {E:Env} {F:Fr} (hE:EnvS E F) {ι:Nat→Inf} {K:Nat→Prop} {H:Heap} {w:World} (h:Inv E.P F ι K H w):GS E.G w (Reg F ι H w):=by
 intro p hp
 obtain ⟨h1,h2⟩:=hE.gl p hp
 obtain ⟨h3,h4⟩:=h.lent _ h1
 refine ⟨⟨.inl h1,Nat.lt_of_lt_of_le h3 h.same.2.2,?_⟩,(h.keep _ h3 h4).trans h2⟩
 rintro ⟨b,x,hx,hr,e⟩
 rcases h.mine b x hx hr with ho | ho
 ·rw [e] at ho;exact h4 ho
 ·rw [e] at ho;omega
theorem qw0 {T:Nat} {α:Type} {H:Heap} {rs:List Nat} {Q:α→List Nat→Prop} {v:AV} {k:Unit→List Nat→RM α} (h:(castR (.ref T) v k).wp H rs Q) : ∃ x,v = .val (.ref T) x:=by
 cases v with
 | val u x =>
  simp only [castR] at h
  split at h
  ·rename_i q _
   obtain rfl:=q
   exact ⟨_,rfl⟩
  ·exact h.elim
 | _=>exact h.elim
theorem qq4 {α:Type} {H:Heap} {rs:List Nat} {Q:α→List Nat→Prop} {s:Sh} {v:AV} {k:s.den→List Nat→RM α} (h:(takeSh s v k).wp H rs Q) (hs:s.ref=true):refFst v=true:=by
 cases s with
 | rows t=>simp [Sh.ref] at hs
 | ro t=>simp [Sh.ref] at hs
 | val t =>
  cases t with
  | pair a b =>
   cases a <;> simp [Sh.ref] at hs
   simp only [takeSh] at h
   cases v with
   | val u x =>
    simp only [castR] at h
    split at h
    ·rename_i q _
     obtain rfl:=q
     rfl
    ·exact h.elim
   | pair v w =>
    simp only [castR] at h
    obtain ⟨x,rfl⟩:=qw0 h
    rfl
   | _=>exact h.elim
  | _=>simp [Sh.ref] at hs
 | pair a b =>
  cases a with
  | val t =>
   cases t <;> simp [Sh.ref] at hs
   cases v with
   | val u x =>
    cases u with
    | pair c d =>
     simp only [takeSh] at h
     obtain ⟨y,hy⟩:=qw0 h
     cases c <;> first | rfl | (exfalso;cases hy)
    | _=>exact h.elim
   | pair v w =>
    simp only [takeSh] at h
    obtain ⟨x,rfl⟩:=qw0 h
    rfl
   | _=>exact h.elim
  | _=>simp [Sh.ref] at hs
theorem qak1 (s:Sh) (y:s.den) (n:Nat):refFst (putSh s y n).1=s.ref:=by
 cases s with
 | rows t=>rfl
 | ro t=>rfl
 | val t =>
  cases t with
  | pair a b=>cases a <;> rfl
  | _=>rfl
 | pair a b =>
  cases a with
  | val t=>cases t <;> rfl
  | rows t=>rfl
  | pair c d=>rfl
  | ro t=>rfl
theorem SelfC.put {c:Nat} {e:TypeId} {t:Ty} {s:Sh} {cs:List Value} (h:SelfC c e t s.ref cs) (y:s.den) (n:Nat):SelfC c e t (refFst (putSh s y n).1) cs:=by rw [qak1];exact h
theorem qvw {w:World} {S:Nat→Prop} {t:Ty} {y:t.den} {v:AV} {x:Value} {cs:List Value} (hr:Rep w S t y cs) (hv:ValOf v.agg cs x) (ha:v.agg=t.isAgg):VRep w S t y x:=⟨cs,hr,by rw [← ha];exact hv⟩
theorem VRep.mono {w w':World} {S S':Nat→Prop} (h : ∀ c,S c→S' c∧w'.heap[c]? = w.heap[c]?) {t:Ty} {y:t.den} {x:Value} (hv:VRep w S t y x):VRep w' S' t y x:=let ⟨cs,hr,he⟩:=hv;⟨cs,hr.mono h,he⟩
theorem VRep.flat {w w':World} {S S':Nat→Prop} {t:Ty} {y:t.den} {x:Value} (hb:t.bears=false) (hv:VRep w S t y x):VRep w' S' t y x:=let ⟨cs,hr,he⟩:=hv;⟨cs,hr.flat hb,he⟩
theorem ArgsRep.mono0 {P:Program} {w w':World} {S S':Nat→Prop} {W W':Nat→Nat→Prop} (h : ∀ c,S c→S' c∧w'.heap[c]? = w.heap[c]?) (hs:w.heap.size≤w'.heap.size) : ∀ {ps:List PK} {x:domOf ps} {vs:List Value},(∀ p∈ps,∃ t,p = .v t∨p = .ro t)→ArgsRep P w S W ps x vs []→ArgsRep P w' S' W' ps x vs []
 | [],_,_,_,hx=>hx
 | .v t :: ps,_,_,hp,⟨v,us,e,hv,hr⟩=>⟨v,us,e,hv.mono h,hr.mono0 h hs (fun p hm=>hp p (List.mem_cons_of_mem _ hm))⟩
 | .ro t :: ps,_,_,hp,⟨c,o,cs,us,e,hc,hat,hv,hr⟩=>⟨c,o,cs,us,e,(h c hc).1,hat.of_block (h c hc).2,hv.mono h,hr.mono0 h hs (fun p hm=>hp p (List.mem_cons_of_mem _ hm))⟩
 | .io _ :: _,_,_,hp,_=>by obtain ⟨t,e | e⟩:=hp _ List.mem_cons_self <;> simp at e
 | .mv _ :: _,_,_,hp,_=>by obtain ⟨t,e | e⟩:=hp _ List.mem_cons_self <;> simp at e
 | .tk _ :: _,_,_,hp,_=>by obtain ⟨t,e | e⟩:=hp _ List.mem_cons_self <;> simp at e
 | .fn _ :: _,_,_,hp,_=>by obtain ⟨t,e | e⟩:=hp _ List.mem_cons_self <;> simp at e
theorem qaew {P:Program} {w:World} {S:Nat→Prop} {W:Nat→Nat→Prop} : ∀ {ps:List PK} {dom:List Ty} {r:List PK} {j:tup dom→domOf r→domOf ps},splitP ps dom=some ⟨r,j⟩ → ∀ {x:tup dom} {d:domOf r} {as cs:List Value},RepTup w S dom x as→ArgsRep P w S W r d cs []→ArgsRep P w S W ps (j x d) (as++cs) []
 | ps,[],r,j,h,x,d,as,cs,hx,hd=>by
  have h':(some ⟨ps,fun _ d=>d⟩:Option ((r:List PK)×(tup []→domOf r→domOf ps)))=some ⟨r,j⟩:=by
   cases ps with
   | nil=>exact h
   | cons p ps=>cases p <;> exact h
  simp only [Option.some.injEq,Sigma.mk.injEq] at h'
  obtain ⟨rfl,h'⟩:=h'
  have h':=eq_of_heq h'
  subst h'
  have:as=[]:=hx
  subst this
  exact hd
 | .v t :: ps,u :: dom,r,j,h,x,d,as,cs,hx,hd=>by
  unfold splitP at h
  split at h
  ·rename_i e r' f h1 h2
   obtain rfl:=e
   cases h
   obtain ⟨v,us,rfl,hv,hr⟩:=hx
   exact ⟨v,us++cs,rfl,hv,qaew h2 hr hd⟩
  ·simp at h
 | .ro _ :: _,_ :: _,_,_,h,_,_,_,_,_,_=>by simp [splitP] at h
 | .io _ :: _,_ :: _,_,_,h,_,_,_,_,_,_=>by simp [splitP] at h
 | .mv _ :: _,_ :: _,_,_,h,_,_,_,_,_,_=>by simp [splitP] at h
 | .tk _ :: _,_ :: _,_,_,h,_,_,_,_,_,_=>by simp [splitP] at h
 | .fn _ :: _,_ :: _,_,_,h,_,_,_,_,_,_=>by simp [splitP] at h
 | [],_ :: _,_,_,h,_,_,_,_,_,_=>by simp [splitP] at h
section
variable {P : Program} {F : Fr} {ι : Nat → Inf} {K : Nat → Prop} {H : Heap} {w : World} {α : Type}
theorem qq8 (hI:Inv P F ι K H w) : ∀ {ps:List PK} {vs:List AV} {xs:List Value} {rs:List Nat} {Q:α→List Nat→Prop} {k:domOf ps→List Nat→RM α},(capsR ps vs k).wp H rs Q→AVCs P ι K w (Reg F ι H w) vs xs →
  ∃ d bs rs',(k d bs).wp H rs' Q∧(∀ b∈bs,∃ z,look H b=some z)∧ArgsRep P w (RegX F ι H w bs) (FW F) ps d xs [] ∧ ∀ p∈ps,∃ t,p = .v t∨p = .ro t
 | [],[],xs,rs,Q,k,h,hv=>by
  simp only [AVCs] at hv
  exact ⟨(),[],rs,h,by simp,⟨hv,rfl⟩,by simp⟩
 | .v t :: ps,v :: vs,xs,rs,Q,k,h,hv=>by
  simp only [AVCs] at hv
  obtain ⟨x,ys,cs,rfl,hc,hval,hr⟩:=hv
  simp only [capsR] at h
  obtain ⟨y,b1,rs1,h1,hy,l1,_⟩:=qh5 hI h hc
  have ha:=qjr h
  obtain ⟨d,b2,rs2,h2,l2,hd,hp⟩:=qq8 hI h1 hr
  refine ⟨(y,d),b1++b2,rs2,h2,?_,⟨x,ys,rfl,(qvw hy hval ha).mono fun c hc=>⟨hc.sub (by simp +contextual),rfl⟩,hd.mono0 (fun c hc=>⟨hc.sub (by simp +contextual),rfl⟩) (Nat.le_refl _) hp⟩,?_⟩
  ·intro z hz
   rcases List.mem_append.1 hz with hz | hz
   ·exact l1 z hz
   ·exact l2 z hz
  ·intro p hm
   rcases List.mem_cons.1 hm with e | hm
   ·exact ⟨t,.inl e⟩
   ·exact hp p hm
 | .ro t :: ps,v :: vs,xs,rs,Q,k,h,hv=>by
  simp only [AVCs] at hv
  obtain ⟨x,ys,cs,rfl,hc,hval,hr⟩:=hv
  simp only [capsR] at h
  obtain ⟨y,b1,rs1,h1,l1,c,o,us,hx,hreg,hat,hy⟩:=qak7 hI h ⟨cs,hc,hval⟩
  obtain ⟨d,b2,rs2,h2,l2,hd,hp⟩:=qq8 hI h1 hr
  refine ⟨(y,d),b1++b2,rs2,h2,?_,⟨c,o,us,ys,by rw [hx],hreg.sub (by simp +contextual),hat,hy.mono (fun c hc=>⟨hc.sub (by simp +contextual),rfl⟩),hd.mono0 (fun c hc=>⟨hc.sub (by simp +contextual),rfl⟩) (Nat.le_refl _) hp⟩,?_⟩
  ·intro z hz
   rcases List.mem_append.1 hz with hz | hz
   ·exact l1 z hz
   ·exact l2 z hz
  ·intro p hm
   rcases List.mem_cons.1 hm with e | hm
   ·exact ⟨t,.inr e⟩
   ·exact hp p hm
 | .io _ :: _,vs,_,_,_,_,h,_=>by cases vs <;> exact h.elim
 | .mv _ :: _,vs,_,_,_,_,h,_=>by cases vs <;> exact h.elim
 | .tk _ :: _,vs,_,_,_,_,h,_=>by cases vs <;> exact h.elim
 | .fn _ :: _,vs,_,_,_,_,h,_=>by cases vs <;> exact h.elim
 | [],_ :: _,_,_,_,_,h,_=>h.elim
 | .v _ :: _,[],_,_,_,_,h,_=>h.elim
 | .ro _ :: _,[],_,_,_,_,h,_=>h.elim
theorem FnOK.regx {bs bs':List Nat} {s:FSig} {g:tup s.dom→Option s.cod.den} {v:Value} (h:FnOK P w (RegX F ι H w bs) s g v) (hs : ∀ b∈bs,b∈bs'):FnOK P w (RegX F ι H w bs') s g v:=h.mono (fun _ hc=>⟨hc.sub hs,rfl⟩) (Nat.le_refl _)
theorem RegX.lt (hI:Inv P F ι K H w) {bs:List Nat} {c:Nat} (h:RegX F ι H w bs c):c<w.heap.size:=by
 rcases h with h | ⟨b,_,x,hx,hr,e⟩
 ·exact h.2.1
 ·rw [← e];exact hI.exists hx hr
end
theorem qao7 {E:Env} {F:Fr} (hE:EnvS E F) {ι:Nat→Inf} {K:Nat→Prop} {H:Heap} {w:World} {α:Type} (hI:Inv E.P F ι K H w) {s:FSig} {v:AV} {x:Value} {rs:List Nat} {Q:α→List Nat→Prop} {k:(tup s.dom→Option s.cod.den)→List Nat→RM α}
  (h:(fnR E s v k).wp H rs Q) (hv:AVR E.P ι K w (Reg F ι H w) v x) : ∃ g bs rs',(k g bs).wp H rs' Q∧(∀ b∈bs,∃ z,look H b=some z)∧FnOK E.P w (RegX F ι H w bs) s g x:=by
 obtain ⟨cs,hc,hval⟩:=hv
 obtain ⟨sd,sc⟩:=s
 cases v with
 | «fun» s0 g =>
  obtain ⟨d,c⟩:=s0
  cases e1:tysEq? d sd with
  | none=>simp only [fnR,e1] at h;exact h.elim
  | some p =>
   cases e2:c.eq? sc with
   | none=>obtain ⟨rfl⟩:=p;simp only [fnR,e1,e2] at h;exact h.elim
   | some q =>
    obtain ⟨rfl⟩:=p;obtain ⟨rfl⟩:=q
    simp only [fnR,e1,e2] at h
    simp only [AVC] at hc
    obtain ⟨v,rfl,hf⟩:=hc
    have hp:=qad (show ValOf false _ x from hval)
    subst hp
    exact ⟨g,[],rs,h,by simp,hf.mono (fun c hc=>⟨.inl hc,rfl⟩) (Nat.le_refl _)⟩
 | fn f first caps =>
  cases first with
  | cons _ _=>exact h.elim
  | nil =>
  simp only [fnR] at h
  split at h
  ·rename_i ps c lk G he
   cases hb:c.bears with
   | true=>rw [hb] at h;exact h.elim
   | false =>
    rw [hb] at h
    simp only [cond_false] at h
    cases hsp:splitP ps sd with
    | none=>rw [hsp] at h;exact h.elim
    | some rj =>
     obtain ⟨r,j⟩:=rj
     cases e2:c.eq? sc with
     | none=>rw [hsp,e2] at h;exact h.elim
     | some q =>
     obtain ⟨rfl⟩:=q
     rw [hsp,e2] at h
     simp only at h
     simp only [AVC] at hc
     obtain ⟨xs,ys,rfl,hxs,hys⟩:=hc
     have hxs:xs=[]:=by simpa [AVCs] using hxs
     subst hxs
     have hp:=qad (show ValOf false _ x from hval)
     subst hp
     obtain ⟨dd,bs,rs',h1,l1,hd,hps⟩:=qq8 hI h hys
     refine ⟨_,bs,rs',h1,l1,hb,f,#[],ys.toArray,rfl,?_⟩
     intro w' hw hsz a args y hargs hg
     obtain ⟨_,hs⟩:=hE.fns f _ he
     have hg:(G (j a dd)).map (fun y=>y.1.1)=some y:=hg
     cases hG:G (j a dd) with
     | none=>rw [hG] at hg;simp at hg
     | some y' =>
     rw [hG] at hg
     have hg:y'.1.1=y:=Option.some.inj hg
     subst hg
     have hlt : ∀ c,RegX F ι H w bs c→c<w'.heap.size:=fun c hc=>Nat.lt_of_lt_of_le (RegX.lt hI hc) hsz
     have hd':ArgsRep E.P w' (fun c=>c<w'.heap.size) (FW F) r dd ys []:=hd.mono0 (fun c hc=>⟨hlt c hc,hw c hc⟩) hsz hps
     have hall:=qaew hsp hargs hd'
     have:=hs w' (fun c=>c<w'.heap.size) (FW F) [] (args++ys) (j a dd) y' ((hE.gs hI).mono fun c hc=>⟨hlt c (.inl hc),hw c (.inl hc)⟩) hall (by simp) (fun c hc=>⟨hc,by simp⟩) (by simp) hG
     rw [show (#[]++args.toArray++ys.toArray:Array Value)=(args++ys).toArray by simp]
     refine Comes'.mono this fun v w'' ho => ?_
     obtain ⟨⟨hsame,_⟩,hkeep,vs,O1,O2,rfl,hnd,hOO,hres,hout⟩:=ho
     obtain ⟨v0,us,cs0,O3,O4,rfl,hval0,⟨hrep,_⟩,_,hus,_⟩:=hres
     subst hus
     exact ⟨⟨cs0,hrep.flat hb,hval0⟩,hsame,fun c hc=>hkeep c hc (by simp)⟩
  ·exact h.elim
 | _=>exact h.elim
def Old (ι:Nat→Inf):List PK→List AV→List Nat→Prop
 | [],[],_=>True
 | .io s :: ps,.ptr b [] _ :: vs,ts=>(ι b).kind = .box s.ty∧(ι b).d=0 ∧ ∃ r ts',ts=b :: (r++ts')∧Old ι ps vs ts'
 | .mv s :: ps,v :: vs,ts => ∃ r ts',ts=r++ts'∧(∀ y h,backSh s y v=some h→(h.map (·.1)).Sublist r)∧Old ι ps vs ts'
 | .tk _ :: ps,_ :: vs,ts => ∃ r ts',ts=r++ts'∧Old ι ps vs ts'
 | .v _ :: ps,_ :: vs,ts=>Old ι ps vs ts
 | .ro _ :: ps,_ :: vs,ts=>Old ι ps vs ts
 | .fn _ :: ps,_ :: vs,ts=>Old ι ps vs ts
 | _,_,_=>False
theorem qjp {E:Env} {F:Fr} (hE:EnvS E F) {ι:Nat→Inf} {K:Nat→Prop} {H:Heap} {w:World} {α:Type} (hI:Inv E.P F ι K H w) : ∀ {ps:List PK} {vs:List AV} {xs:List Value} {rs:List Nat} {Q:α→List Nat→Prop} {k:domOf ps→List Nat→List Nat→RM α},
  (argsR E ps vs k).wp H rs Q→AVCs E.P ι K w (Reg F ι H w) vs xs →
  ∃ d ts bs rs' O fz,(k d ts bs).wp H rs' Q∧Pls (Pl ι H) ts O fz∧Old ι ps vs ts∧(∀ b∈ts++bs,∃ z,look H b=some z) ∧ ∀ fz' bs',(∀ b∈fz,b∈fz')→(∀ b∈bs,b∈bs')→ArgsRep E.P w (RegX F ι H w (fz'++bs')) (FW F) ps d xs O
 | [],[],xs,rs,Q,k,h,hv=>by
  simp only [AVCs] at hv
  exact ⟨(),[],[],rs,[],[],h,.nil,trivial,by simp,fun _ _ _ _=>⟨hv,rfl⟩⟩
 | .v t :: ps,v :: vs,xs,rs,Q,k,h,hv=>by
  simp only [AVCs] at hv
  obtain ⟨x,ys,cs,rfl,hc,hval,hr⟩:=hv
  simp only [argsR] at h
  obtain ⟨y,b1,rs1,h1,hy,l1,_⟩:=qh5 hI h hc
  have ha:=qjr h
  obtain ⟨d,ts,b2,rs2,O,fz,h2,hp,old,l2,hd⟩:=qjp hE hI h1 hr
  refine ⟨(y,d),ts,b1++b2,rs2,O,fz,h2,hp,old,?_,fun fz' bs' hf hb=>⟨x,ys,rfl,(qvw hy hval ha).mono fun c hc=>⟨hc.sub fun b hm=>List.mem_append_right _ (hb b (List.mem_append_left _ hm)),rfl⟩,hd fz' bs' hf (fun b hm=>hb b (List.mem_append_right _ hm))⟩⟩
  intro z hz
  simp only [List.mem_append] at hz l2
  rcases hz with hz | hz | hz
  ·exact l2 z (.inl hz)
  ·exact l1 z hz
  ·exact l2 z (.inr hz)
 | .ro t :: ps,v :: vs,xs,rs,Q,k,h,hv=>by
  simp only [AVCs] at hv
  obtain ⟨x,ys,cs,rfl,hc,hval,hr⟩:=hv
  simp only [argsR] at h
  obtain ⟨y,b1,rs1,h1,l1,c,o,us,hx,hreg,hat,hy⟩:=qak7 hI h ⟨cs,hc,hval⟩
  obtain ⟨d,ts,b2,rs2,O,fz,h2,hp,old,l2,hd⟩:=qjp hE hI h1 hr
  refine ⟨(y,d),ts,b1++b2,rs2,O,fz,h2,hp,old,?_,fun fz' bs' hf hb=>⟨c,o,us,ys,by rw [hx],hreg.sub fun b hm=>List.mem_append_right _ (hb b (List.mem_append_left _ hm)),hat,hy.mono fun c hc=>⟨hc.sub fun b hm=>List.mem_append_right _ (hb b (List.mem_append_left _ hm)),rfl⟩,hd fz' bs' hf (fun b hm=>hb b (List.mem_append_right _ hm))⟩⟩
  intro z hz
  simp only [List.mem_append] at hz l2
  rcases hz with hz | hz | hz
  ·exact l2 z (.inl hz)
  ·exact l1 z hz
  ·exact l2 z (.inr hz)
 | .io s :: ps,v :: vs,xs,rs,Q,k,h,hv=>by
  simp only [AVCs] at hv
  obtain ⟨x,ys,cs,rfl,hc,hval,hr⟩:=hv
  cases v with
  | ptr b p u =>
   cases p with
   | cons _ _=>exact h.elim
   | nil =>
    simp only [argsR,RM.wp] at h
    obtain ⟨blk,hb,h⟩:=h
    cases blk with
    | row _ _=>exact h.elim
    | box t c =>
     simp only at h
     cases hs:s.ty.same t with
     | false=>rw [hs] at h;exact h.elim
     | true =>
      rw [hs] at h
      simp only [cond_true] at h
      obtain ⟨hk,hd,cells,e,hbb,hvv,hlen,h1',hf⟩:=hI.blks b _ hb
      have hty:=qbe hs
      obtain ⟨y,ts1,rs1,O1,fz1,h1,p1,s1,a1,l1,b1⟩:=qdz hI h hvv
      obtain ⟨d,ts,b2,rs2,O,fz,h2,hp,old,l2,hd2⟩:=qjp hE hI h1 hr
      simp only [AVC] at hc
      obtain ⟨hK,of,hko,rfl⟩:=hc
      have hpv:=qad (show ValOf false _ x from hval)
      rw [hk] at hko
      have hof:of=0:=by cases hko with | box hto=>cases hto;rfl
      subst hof
      refine ⟨(y,d),b :: (ts1++ts),b2,rs2,(ι b).c :: (O1++O),fz1++fz,h2,.keep ⟨⟨_,hb⟩,by rw [hk];rfl,rfl⟩ (p1.append hp),⟨by rw [hty];exact hk,hd,ts1,ts,rfl,old⟩,?_,fun fz' bs' hf hb' =>
       ⟨(ι b).c,ys,cells,e,O1,O,by rw [hpv,hd],hbb,by rw [hty];exact hlen,⟨⟨h1'.1,fun hr=>h1'.2.1 (qq4 h hr),by rw [hty];exact h1'.2.2⟩,fun j hl=>hI.cover b _ hb (by rw [hk];rfl) hl j (Inf.has_box hk j)⟩,s1.regx (fun b hm=>List.mem_append_left _ (hf b (List.mem_append_left _ hm))),rfl,hd2 fz' bs' (fun b hm=>hf b (List.mem_append_right _ hm)) hb'⟩⟩
      intro z hz
      simp only [List.mem_append,List.mem_cons] at hz l2
      rcases hz with (e | hz | hz) | hz
      ·exact ⟨_,e▸hb⟩
      ·exact l1 z hz
      ·exact l2 z (.inl hz)
      ·exact l2 z (.inr hz)
  | _=>exact h.elim
 | .mv s :: ps,v :: vs,xs,rs,Q,k,h,hv=>by
  simp only [AVCs] at hv
  obtain ⟨x,ys,cs,rfl,hc,hval,hr⟩:=hv
  simp only [argsR] at h
  obtain ⟨y,ts1,rs1,O1,fz1,h1,p1,s1,a1,l1,b1⟩:=qdz hI h hc
  obtain ⟨d,ts,b2,rs2,O,fz,h2,hp,old,l2,hd⟩:=qjp hE hI h1 hr
  refine ⟨(y,d),ts1++ts,b2,rs2,O1++O,fz1++fz,h2,p1.append hp,⟨ts1,ts,rfl,b1,old⟩,?_,fun fz' bs' hf hb=>⟨x,ys,cs,O1,O,rfl,by rw [← a1];exact hval,s1.regx (fun b hm=>List.mem_append_left _ (hf b (List.mem_append_left _ hm))),rfl,hd fz' bs' (fun b hm=>hf b (List.mem_append_right _ hm)) hb⟩⟩
  intro z hz
  simp only [List.mem_append] at hz l2
  rcases hz with (hz | hz) | hz
  ·exact l1 z hz
  ·exact l2 z (.inl hz)
  ·exact l2 z (.inr hz)
 | .tk s :: ps,v :: vs,xs,rs,Q,k,h,hv=>by
  simp only [AVCs] at hv
  obtain ⟨x,ys,cs,rfl,hc,hval,hr⟩:=hv
  simp only [argsR] at h
  obtain ⟨y,ts1,rs1,O1,fz1,h1,p1,s1,a1,l1,b1⟩:=qdz hI h hc
  obtain ⟨d,ts,b2,rs2,O,fz,h2,hp,old,l2,hd⟩:=qjp hE hI h1 hr
  refine ⟨(y,d),ts1++ts,b2,rs2,O1++O,fz1++fz,h2,p1.append hp,⟨ts1,ts,rfl,old⟩,?_,fun fz' bs' hf hb=>⟨x,ys,cs,O1,O,rfl,by rw [← a1];exact hval,s1.regx (fun b hm=>List.mem_append_left _ (hf b (List.mem_append_left _ hm))),rfl,hd fz' bs' (fun b hm=>hf b (List.mem_append_right _ hm)) hb⟩⟩
  intro z hz
  simp only [List.mem_append] at hz l2
  rcases hz with (hz | hz) | hz
  ·exact l1 z hz
  ·exact l2 z (.inl hz)
  ·exact l2 z (.inr hz)
 | .fn s :: ps,v :: vs,xs,rs,Q,k,h,hv=>by
  simp only [AVCs] at hv
  obtain ⟨x,ys,cs,rfl,hc,hval,hr⟩:=hv
  simp only [argsR] at h
  obtain ⟨g,b1,rs1,h1,l1,hg⟩:=qao7 hE hI h ⟨cs,hc,hval⟩
  obtain ⟨d,ts,b2,rs2,O,fz,h2,hp,old,l2,hd⟩:=qjp hE hI h1 hr
  refine ⟨(g,d),ts,b1++b2,rs2,O,fz,h2,hp,old,?_,fun fz' bs' hf hb=>⟨x,ys,rfl,hg.regx fun b hm=>List.mem_append_right _ (hb b (List.mem_append_left _ hm)),hd fz' bs' hf (fun b hm=>hb b (List.mem_append_right _ hm))⟩⟩
  intro z hz
  simp only [List.mem_append] at hz l2
  rcases hz with hz | hz | hz
  ·exact l2 z (.inl hz)
  ·exact l1 z hz
  ·exact l2 z (.inr hz)
 | [],_ :: _,_,_,_,_,h,_=>h.elim
 | .v _ :: _,[],_,_,_,_,h,_=>h.elim
 | .ro _ :: _,[],_,_,_,_,h,_=>h.elim
 | .io _ :: _,[],_,_,_,_,h,_=>h.elim
 | .mv _ :: _,[],_,_,_,_,h,_=>h.elim
 | .tk _ :: _,[],_,_,_,_,h,_=>h.elim
 | .fn _ :: _,[],_,_,_,_,h,_=>h.elim
end Go.Tm
namespace Go.Tm
open Go
def keys (h:Heap):List Nat:=h.map (·.1)
theorem qgm {h H:Heap} {b:Nat} (hb:b∉keys h):look (h++H) b=look H b:=by rw [qk6];exact if_neg hb
theorem qik : ∀ (s:Sh) (y:s.den) (n:Nat),∀ b∈keys (putSh s y n).2.1,n≤b∧b<(putSh s y n).2.2
 | .val _,_,_,b,hb=>by simp [putSh,keys] at hb
 | .rows _,_,n,b,hb=>by simp [putSh,keys] at hb ⊢;omega
 | .pair a c,y,n,b,hb=>by
  have h1:=qbm a y.1 n
  have h2:=qbm c y.2 (putSh a y.1 n).2.2
  have hb':b∈keys (putSh a y.1 n).2.1∨b∈keys (putSh c y.2 (putSh a y.1 n).2.2).2.1:=by
   have:b∈keys ((putSh a y.1 n).2.1++(putSh c y.2 (putSh a y.1 n).2.2).2.1):=hb
   simpa [keys] using this
  show n≤b∧b<(putSh c y.2 (putSh a y.1 n).2.2).2.2
  rcases hb' with hb' | hb'
  ·have:=qik a y.1 n b hb';omega
  ·have:=qik c y.2 _ b hb';omega
 | .ro _,_,_,b,hb=>by simp [putSh,keys] at hb
theorem qpn : ∀ (rs:List RK) (y:resOf rs) (n:Nat),n≤(putRes rs y n).2.2
 | [],_,n=>Nat.le_refl n
 | .v s :: rs,y,n=>Nat.le_trans (qbm s y.1 n) (qpn rs y.2 _)
 | .p s :: rs,y,n=>Nat.le_trans (Nat.le_trans (Nat.le_succ n) (qbm s y.1 (n+1))) (qpn rs y.2 _)
section
variable {P : Program} {F : Fr} {ι : Nat → Inf} {K : Nat → Prop} {H : Heap} {w w' : World} {T : Nat → Prop}
theorem qwy {ι0:Nat→Inf} {K0:Nat→Prop} {w0:World} {S0:Nat→Prop} : ∀ {s:Sh} {y:s.den} {v:AV} {cs:List Value} {O:List Nat} {h:Heap} {ι:Nat→Inf} {K:Nat→Prop} {H:Heap} {n m:Nat},InvR P F ι K H w T→(∀ b,K0 b→K b∧ι b=ι0 b)→fitsB s.ty v=true →
  AVC P ι0 K0 w0 S0 v cs→backSh s y v=some h→ShR P w T (FW F) s y cs O→(∀ c∈O,¬ Own ι H c∧(F.O0 c∨F.w0.heap.size≤c))→O.Nodup→(keys h).Nodup→(∀ b∈keys h,look H b=none) →
  ∃ ι' K',Laid P F ι ι' K K' H (h++H) w T O n m
 | .val t,y,v,cs,O,h,ι,K,H,n,m,hI,_,_,_,hb,_,_,_,_,_=>by
  have:h=[]:=by cases v <;> (simp only [backSh,Option.some.injEq] at hb;exact hb.symm)
  subst this
  exact ⟨ι,K,⟨hI,fun b hb=>⟨hb,rfl⟩,fun b hb => .inl hb,fun c hc => .inl hc⟩⟩
 | .rows t,xs,v,cs,O,h,ι,K,H,n,m,hI,hk0,_,hv,hb,hs,hO,_,_,hnone=>by
  cases v <;> simp only [backSh] at hb <;> first | (simp at hb;done) | skip
  ·simp only [Option.some.injEq] at hb;subst hb
   exact ⟨ι,K,⟨hI,fun b hb=>⟨hb,rfl⟩,fun b hb => .inl hb,fun c hc => .inl hc⟩⟩
  ·rename_i b u _
   cases hsm:u.same t with
   | false=>rw [hsm] at hb;simp at hb
   | true =>
    rw [hsm] at hb
    simp only [cond_true,Option.some.injEq] at hb
    subst hb
    obtain rfl:=qbe hsm
    simp only [AVC] at hv
    obtain ⟨hKb,hv⟩:=hv
    obtain ⟨hKb',hι⟩:=hk0 b hKb
    have hlk:look H b=none:=hnone b (by simp [keys])
    rcases hv with ⟨hk,a,rfl⟩ | ⟨len,room,cap,hk,rfl,hn,hr,hpos⟩
    ·have h0:List.length xs=0:=by
      rcases hs with ⟨_,h0,_⟩ | ⟨c,d,cap,cells,e,vs,h1,h2,h3,_⟩
      ·exact h0
      ·simp only [List.cons.injEq,Value.slice.injEq,and_true] at h1;omega
     obtain ⟨h1,h2,h3⟩:=hI.add hlk (ι b) (.inr rfl) (.row u xs) (.inl ⟨by rw [hι];exact hk,h0⟩) (fun hr=>by rw [hι,hk] at hr;simp [Kind.real] at hr) (fun hr=>by rw [hι,hk] at hr;simp [Kind.real] at hr)
     refine ⟨_,_,⟨h1,h2,fun c hc => .inl (hc.elim id fun e=>e▸hKb'),fun c hc => ?_⟩⟩
     rcases h3 c hc with h3 | ⟨h3,_⟩
     ·exact .inl h3
     ·rw [hι,hk] at h3;simp [Kind.real] at h3
    ·rcases hs with ⟨⟨a,h1⟩,h0,_⟩ | ⟨c,d,cap',cells,e,vs,h1,h2,h3,rfl,h5,h6,h7,h8⟩
     ·simp only [List.cons.injEq,Value.slice.injEq,and_true] at h1;omega
     ·simp only [List.cons.injEq,Value.slice.injEq,Option.some.injEq,Addr.mk.injEq,and_true] at h1
      obtain ⟨⟨rfl,rfl⟩,rfl,rfl⟩:=h1
      obtain ⟨g1,g2,g3⟩:=hI.add hlk (ι b) (.inr rfl) (.row u xs) (.inr ⟨room,cells,e,vs,by rw [hι];exact hk,by rw [hι];exact h5,⟨by rw [hι];omega,h3.2.1⟩,by rw [← hr];exact Nat.mul_le_mul_right _ hn,h7,by rw [hι];exact h8⟩) (fun _=>by rw [hι];exact hO _ (by simp)) (fun _ j hj=>by rw [hι] at hj ⊢;rw [Inf.has_row hk] at hj;exact h3.2.2 j hj.1 (by omega))
      refine ⟨_,_,⟨g1,g2,fun c hc => .inl (hc.elim id fun e=>e▸hKb'),fun c hc => ?_⟩⟩
      rcases g3 c hc with h | ⟨_,h⟩
      ·exact .inl h
      ·exact .inr (by rw [hι] at h;simp [h])
 | .pair a b,y,v,cs,O,h,ι,K,H,n,m,hI,hk0,hf,hv,hb,⟨c,d,O1,O2,hc,hO',h1,h2⟩,hO,hnd,hkn,hnone=>by
  cases v with
  | pair v1 v2 =>
   simp only [backSh] at hb
   split at hb
   ·rename_i g1 g2 e1 e2
    simp only [Option.some.injEq] at hb
    subst hb hc hO'
    simp only [AVC] at hv
    obtain ⟨c',d',hcc,hv1,hv2⟩:=hv
    have hf:fitsB (.pair a.ty b.ty) (.pair v1 v2)=true:=hf
    simp only [fitsB,Bool.and_eq_true] at hf
    have hl:c'.length=c.length:=by rw [qby hf.1 hv1,h1.length]
    obtain ⟨rfl,rfl⟩:=List.append_inj hcc hl.symm
    obtain ⟨hnd1,hnd2,hdis⟩:=List.nodup_append.1 hnd
    have hkk:(keys g1++keys g2).Nodup:=by simpa [keys] using hkn
    obtain ⟨hk1,hk2,hkd⟩:=List.nodup_append.1 hkk
    obtain ⟨ι1,K1,L1⟩:=qwy (n:=n) (m:=m) hI hk0 hf.2 hv2 e2 h2 (fun c hc=>hO c (by simp [hc])) hnd2 hk2 (fun b hb=>hnone b (by simp [keys] at hb ⊢;exact .inr hb))
    obtain ⟨ι2,K2,L2⟩:=qwy (n:=n) (m:=m) L1.inv (fun b hb=>⟨(L1.known b (hk0 b hb).1).1,(L1.known b (hk0 b hb).1).2.trans (hk0 b hb).2⟩) hf.1 hv1 e1 h1 (fun c hc=>⟨fun ho=>by
     rcases L1.own c ho with ho | ho
     ·exact (hO c (by simp [hc])).1 ho
     ·exact hdis c hc c ho rfl,(hO c (by simp [hc])).2⟩) hnd1 hk1 (fun b hb=>by
     rw [qgm (fun hm=>hkd b hb b hm rfl)]
     exact hnone b (by simp [keys] at hb ⊢;exact .inl hb))
    refine ⟨ι2,K2,?_⟩
    rw [List.append_assoc]
    exact ⟨L2.inv,fun b hb=>⟨(L2.known b (L1.known b hb).1).1,(L2.known b (L1.known b hb).1).2.trans (L1.known b hb).2⟩,fun b hb=>(L2.news b hb).elim (fun h=>L1.news b h) .inr,fun c hc=>by
     rcases L2.own c hc with h | h
     ·rcases L1.own c h with h | h
      ·exact .inl h
      ·exact .inr (List.mem_append_right _ h)
     ·exact .inr (List.mem_append_left _ h)⟩
   ·simp at hb
  | _=>simp [backSh] at hb
 | .ro t,y,v,cs,O,h,ι,K,H,n,m,hI,_,_,_,hb,_,_,_,_,_=>by simp [backSh] at hb
theorem qxw : ∀ {rs:List RK} {y:resOf rs} {n:Nat} {xs:List Value} {O:List Nat} {ι:Nat→Inf} {K:Nat→Prop} {H:Heap},InvR P F ι K H w T→ResRep P w T (FW F) rs y xs O→(∀ c∈O,¬ Own ι H c∧(F.O0 c∨F.w0.heap.size≤c))→O.Nodup →
  (∀ b,n≤b→b<(putRes rs y n).2.2→¬ K b) →
  ∃ ι' K',Laid P F ι ι' K K' H ((putRes rs y n).2.1++H) w T O n (putRes rs y n).2.2∧AVCs P ι' K' w T (putRes rs y n).1 xs∧n≤(putRes rs y n).2.2
 | [],y,n,xs,O,ι,K,H,hI,⟨hx,hO'⟩,_,_,_=>by
  refine ⟨ι,K,⟨hI,fun b hb=>⟨hb,rfl⟩,fun b hb => .inl hb,fun c hc => .inl hc⟩,?_,Nat.le_refl n⟩
  unfold putRes AVCs
  exact hx
 | .v s :: rs,y,n,xs,O,ι,K,H,hI,⟨v,us,cs,O1,O2,hxs,hval,hs,hO',hr⟩,hO,hnd,hn=>by
  subst hxs hO'
  obtain ⟨hnd1,hnd2,hdis⟩:=List.nodup_append.1 hnd
  have hle1:=qbm s y.1 n
  have hle2:(putSh s y.1 n).2.2≤(putRes rs y.2 (putSh s y.1 n).2.2).2.2:=qpn rs y.2 _
  obtain ⟨ι1,K1,L1,hv1,_⟩:=qxw (n:=(putSh s y.1 n).2.2) hI hr (fun c hc=>hO c (by simp [hc])) hnd2 (fun b hb1 hb2=>hn b (by omega) hb2)
  obtain ⟨ι2,K2,L2,hv2,hf2⟩:=qg5 (n:=n) L1.inv hs (fun c hc=>⟨fun ho=>by
    rcases L1.own c ho with ho | ho
    ·exact (hO c (by simp [hc])).1 ho
    ·exact hdis c hc c ho rfl,(hO c (by simp [hc])).2⟩) hnd1 (fun b hb1 hb2 hk=>by
    rcases L1.news b hk with h | h
    ·exact hn b hb1 (Nat.lt_of_lt_of_le hb2 hle2) h
    ·omega)
  refine ⟨ι2,K2,?_,?_,Nat.le_trans hle1 hle2⟩
  ·have:=L1.trans L2 (Nat.le_refl n) hle1 hle2
   rw [← List.append_assoc] at this
   exact this
  ·show AVCs P ι2 K2 w T (_ :: _) _
   unfold AVCs
   refine ⟨v,us,cs,rfl,hv2,by rw [qfn hf2];exact hval,?_⟩
   exact hv1.mono L2.known (fun _ hc=>⟨hc,rfl⟩) (Nat.le_refl _)
 | .p s :: rs,y,n,xs,O,ι,K,H,hI,⟨c,us,cells,e,O1,O2,hxs,hb,hl,h1,hs,hO',hr⟩,hO,hnd,hn=>by
  subst hxs hO'
  obtain ⟨hcn,hnd⟩:=List.nodup_cons.1 hnd
  obtain ⟨hnd1,hnd2,hdis⟩:=List.nodup_append.1 hnd
  have hle1:=qbm s y.1 (n+1)
  have hle2:(putSh s y.1 (n+1)).2.2≤(putRes rs y.2 (putSh s y.1 (n+1)).2.2).2.2:=qpn rs y.2 _
  obtain ⟨ι1,K1,L1,hv1,_⟩:=qxw (n:=(putSh s y.1 (n+1)).2.2) hI hr (fun c hc=>hO c (by simp [hc])) hnd2 (fun b hb1 hb2=>hn b (by omega) hb2)
  obtain ⟨ι2,K2,L2,hv2,hf2⟩:=qg5 (n:=n+1) L1.inv hs (fun c hc=>⟨fun ho=>by
    rcases L1.own c ho with ho | ho
    ·exact (hO c (by simp [hc])).1 ho
    ·exact hdis c hc c ho rfl,(hO c (by simp [hc])).2⟩) hnd1 (fun b hb1 hb2 hk=>by
    rcases L1.news b hk with h | h
    ·exact hn b (by omega) (Nat.lt_of_lt_of_le hb2 hle2) h
    ·omega)
  have hnK:¬ K2 n:=fun hk=>by
   rcases L2.news n hk with h | h
   ·rcases L1.news n h with h | h
    ·exact hn n (Nat.le_refl _) (Nat.lt_of_lt_of_le (Nat.lt_of_lt_of_le (Nat.lt_succ_self n) hle1) hle2) h
    ·omega
   ·omega
  have hlk:look ((putSh s y.1 (n+1)).2.1++((putRes rs y.2 (putSh s y.1 (n+1)).2.2).2.1++H)) n=none:=by
   cases hx:look ((putSh s y.1 (n+1)).2.1++((putRes rs y.2 (putSh s y.1 (n+1)).2.2).2.1++H)) n with
   | none=>rfl
   | some x=>exact absurd (L2.inv.known n x hx) hnK
  obtain ⟨g1,g2,g3⟩:=L2.inv.add hlk ⟨c,0,.box s.ty⟩ (.inl hnK) (.box s.ty (putSh s y.1 (n+1)).1) ⟨rfl,rfl,cells,e,hb,hv2.known (fun b hb=>⟨.inl hb,by unfold upd;rw [if_neg (fun (h:b=n)=>hnK (h▸hb))]⟩),hl,h1.1.put _ _,hf2⟩
   (fun _=>⟨fun ho=>by
    rcases L2.own c ho with ho | ho
    ·rcases L1.own c ho with ho | ho
     ·exact (hO c (by simp)).1 ho
     ·exact hcn (by simp [ho])
    ·exact hcn (by simp [ho]),(hO c (by simp)).2⟩) (fun _ j _=>h1.2 j)
  refine ⟨_,_,⟨?_,fun b hb=>⟨(g2 b (L2.known b (L1.known b hb).1).1).1,(g2 b (L2.known b (L1.known b hb).1).1).2.trans ((L2.known b (L1.known b hb).1).2.trans (L1.known b hb).2)⟩,fun b hb => ?_,fun c' hc => ?_⟩,?_,Nat.le_trans (Nat.le_trans (Nat.le_succ n) hle1) hle2⟩
  ·have:=g1
   rw [← List.append_assoc] at this
   exact this
  ·show K b∨(n≤b∧b<(putRes rs y.2 (putSh s y.1 (n+1)).2.2).2.2)
   rcases hb with hb | hb
   ·rcases L2.news b hb with h | h
    ·rcases L1.news b h with h | h
     ·exact .inl h
     ·exact .inr ⟨by omega,by omega⟩
    ·exact .inr ⟨by omega,by omega⟩
   ·exact .inr ⟨by omega,by omega⟩
  ·have hc:Own (upd ι2 n ⟨c,0,.box s.ty⟩) ((n,some (.box s.ty (putSh s y.1 (n+1)).1)) :: ((putSh s y.1 (n+1)).2.1++((putRes rs y.2 (putSh s y.1 (n+1)).2.2).2.1++H))) c':=by
    have:=hc
    rw [← List.append_assoc]
    exact this
   rcases g3 c' hc with h | ⟨_,h⟩
   ·rcases L2.own c' h with h | h
    ·rcases L1.own c' h with h | h
     ·exact .inl h
     ·exact .inr (by simp [h])
    ·exact .inr (by simp [h])
   ·exact .inr (by simp at h;simp [h])
  ·show AVCs P _ _ w T (.ptr n [] s.ty :: _) _
   unfold AVCs
   refine ⟨_,us,_,rfl,?_,rfl,?_⟩
   ·unfold AVC
    exact ⟨.inr rfl,0,by simp only [upd,if_true];exact .box (.here _),by simp [upd]⟩
   ·exact (hv1.mono L2.known (fun _ hc=>⟨hc,rfl⟩) (Nat.le_refl _)).mono g2 (fun _ hc=>⟨hc,rfl⟩) (Nat.le_refl _)
end
end Go.Tm
namespace Go.Tm
open Go
theorem qjq : ∀ (ps:List PK) (vs:List AV) (y:outOf ps) (n:Nat) (g:Heap) (m:Nat),backs ps vs y n=some (g,m)→n≤m
 | [],vs,y,n,g,m,h=>by simp only [backs,Option.some.injEq,Prod.mk.injEq] at h;omega
 | .io s :: ps,v :: vs,y,n,g,m,h=>by
  cases v with
  | ptr b p u =>
   cases p with
   | nil =>
    simp only [backs] at h
    split at h
    ·rename_i g' l e
     simp only [Option.some.injEq,Prod.mk.injEq] at h
     have h1:(putSh s y.1 n).2.2≤l:=qjq ps vs y.2 _ _ _ e
     have h2:n≤(putSh s y.1 n).2.2:=qbm s y.1 n
     omega
    ·simp at h
   | cons _ _=>simp [backs] at h
  | _=>simp [backs] at h
 | .mv s :: ps,v :: vs,y,n,g,m,h=>by
  simp only [backs] at h
  split at h
  ·rename_i g1 g2 l e1 e2
   simp only [Option.some.injEq,Prod.mk.injEq] at h
   have:=qjq ps vs y.2 _ _ _ e2
   omega
  ·simp at h
 | .v _ :: ps,_ :: vs,y,n,g,m,h=>qjq ps vs y n g m h
 | .ro _ :: ps,_ :: vs,y,n,g,m,h=>qjq ps vs y n g m h
 | .tk _ :: ps,_ :: vs,y,n,g,m,h=>qjq ps vs y n g m h
 | .fn _ :: ps,_ :: vs,y,n,g,m,h=>qjq ps vs y n g m h
 | .io _ :: _,[],_,_,_,_,h=>by simp [backs] at h
 | .mv _ :: _,[],_,_,_,_,h=>by simp [backs] at h
 | .tk _ :: _,[],_,_,_,_,h=>by simp [backs] at h
 | .v _ :: _,[],_,_,_,_,h=>by simp [backs] at h
 | .ro _ :: _,[],_,_,_,_,h=>by simp [backs] at h
 | .fn _ :: _,[],_,_,_,_,h=>by simp [backs] at h
section
variable {P : Program} {F : Fr} {w w' : World} {T : Nat → Prop}
theorem qlo {ι0:Nat→Inf} {K0:Nat→Prop} {w0:World} {S0:Nat→Prop} : ∀ {ps:List PK} {vs:List AV} {xs:List Value} {y:outOf ps} {n m:Nat} {g:Heap} {O ts:List Nat} {ι:Nat→Inf} {K:Nat→Prop} {H:Heap},InvR P F ι K H w T→(∀ b,K0 b→K b∧ι b=ι0 b)→mvFits ps vs=true →
  AVCs P ι0 K0 w0 S0 vs xs→backs ps vs y n=some (g,m)→OutRep P w T (FW F) ps y xs O→(∀ c∈O,¬ Own ι H c∧(F.O0 c∨F.w0.heap.size≤c))→O.Nodup→ts.Nodup→Old ι0 ps vs ts→(∀ b∈ts,look H b=none∧K0 b)→(∀ b,n≤b→b<m→¬ K b) →
  ∃ ι' K',Laid P F ι ι' K K' H (g++H) w T O n m ∧ ∀ b∈keys g,b∈ts∨(n≤b∧b<m)
 | [],vs,xs,y,n,m,g,O,ts,ι,K,H,hI,_,_,_,hb,_,_,_,_,_,_,_=>by
  simp only [backs,Option.some.injEq,Prod.mk.injEq] at hb
  obtain ⟨rfl,rfl⟩:=hb
  exact ⟨ι,K,⟨hI,fun b hb=>⟨hb,rfl⟩,fun b hb => .inl hb,fun c hc => .inl hc⟩,by simp [keys]⟩
 | .v t :: ps,v :: vs,xs,y,n,m,g,O,ts,ι,K,H,hI,hk0,hf,hv,hb,⟨v',us,hxs,ho⟩,hO,hnd,htn,hold,hts,hn=>by
  simp only [AVCs] at hv
  obtain ⟨x,ys,cs,rfl,hc,hval,hr⟩:=hv
  simp only [List.cons.injEq] at hxs
  obtain ⟨rfl,rfl⟩:=hxs
  exact qlo (ps:=ps) hI hk0 hf hr hb ho hO hnd htn hold hts hn
 | .ro t :: ps,v :: vs,xs,y,n,m,g,O,ts,ι,K,H,hI,hk0,hf,hv,hb,⟨v',us,hxs,ho⟩,hO,hnd,htn,hold,hts,hn=>by
  simp only [AVCs] at hv
  obtain ⟨x,ys,cs,rfl,hc,hval,hr⟩:=hv
  simp only [List.cons.injEq] at hxs
  obtain ⟨rfl,rfl⟩:=hxs
  exact qlo (ps:=ps) hI hk0 hf hr hb ho hO hnd htn hold hts hn
 | .tk t :: ps,v :: vs,xs,y,n,m,g,O,ts,ι,K,H,hI,hk0,hf,hv,hb,⟨v',us,hxs,ho⟩,hO,hnd,htn,⟨r,ts',hts',hold⟩,hts,hn=>by
  subst hts'
  simp only [AVCs] at hv
  obtain ⟨x,ys,cs,rfl,hc,hval,hr⟩:=hv
  simp only [List.cons.injEq] at hxs
  obtain ⟨rfl,rfl⟩:=hxs
  obtain ⟨ι',K',L,hk⟩:=qlo (ps:=ps) hI hk0 hf hr hb ho hO hnd (List.nodup_append.1 htn).2.1 hold (fun b hb=>hts b (by simp [hb])) hn
  exact ⟨ι',K',L,fun b hb=>(hk b hb).imp (fun h=>List.mem_append_right _ h) id⟩
 | .fn t :: ps,v :: vs,xs,y,n,m,g,O,ts,ι,K,H,hI,hk0,hf,hv,hb,⟨v',us,hxs,ho⟩,hO,hnd,htn,hold,hts,hn=>by
  simp only [AVCs] at hv
  obtain ⟨x,ys,cs,rfl,hc,hval,hr⟩:=hv
  simp only [List.cons.injEq] at hxs
  obtain ⟨rfl,rfl⟩:=hxs
  exact qlo (ps:=ps) hI hk0 hf hr hb ho hO hnd htn hold hts hn
 | .mv s :: ps,v :: vs,xs,y,n,m,g,O,ts,ι,K,H,hI,hk0,hf,hv,hb,⟨v',us,cs',O1,O2,hxs,hval',hs,hO',ho⟩,hO,hnd,htn,⟨r,ts',hts',hsub,hold⟩,hts,hn=>by
  subst hO' hts'
  simp only [AVCs] at hv
  obtain ⟨x,ys,cs,rfl,hc,hval,hr⟩:=hv
  simp only [List.cons.injEq] at hxs
  obtain ⟨rfl,rfl⟩:=hxs
  simp only [mvFits,Bool.and_eq_true] at hf
  simp only [backs] at hb
  split at hb
  ·rename_i h g' l e1 e2
   simp only [Option.some.injEq,Prod.mk.injEq] at hb
   obtain ⟨rfl,rfl⟩:=hb
   obtain ⟨hnd1,hnd2,hdis⟩:=List.nodup_append.1 hnd
   obtain ⟨ht1,ht2,htd⟩:=List.nodup_append.1 htn
   have hcs:cs=cs':=by
    rw [qfn hf.1] at hval
    rw [← hval.cells (qt2 hf.1 hc),← hval'.cells hs.one]
   subst hcs
   obtain ⟨ι1,K1,L1,hkeys⟩:=qlo (ps:=ps) hI hk0 hf.2 hr e2 ho (fun c hc=>hO c (by simp [hc])) hnd2 ht2 hold (fun b hb=>hts b (by simp [hb])) hn
   have hsb:=hsub _ _ e1
   obtain ⟨ι2,K2,L2⟩:=qwy (n:=n) (m:=l) L1.inv (fun b hb=>⟨(L1.known b (hk0 b hb).1).1,(L1.known b (hk0 b hb).1).2.trans (hk0 b hb).2⟩) hf.1 hc e1 hs (fun c hc=>⟨fun ho=>by
     rcases L1.own c ho with ho | ho
     ·exact (hO c (by simp [hc])).1 ho
     ·exact hdis c hc c ho rfl,(hO c (by simp [hc])).2⟩) hnd1 (hsb.nodup ht1) (fun b hb=>by
     have hbr:b∈r:=hsb.subset hb
     rw [qgm (fun hm => ?_)]
     ·exact (hts b (by simp [hbr])).1
     ·rcases hkeys b hm with h | h
      ·exact htd b hbr b h rfl
      ·exact hn b h.1 h.2 (hk0 b (hts b (by simp [hbr])).2).1)
   refine ⟨ι2,K2,?_,?_⟩
   ·rw [List.append_assoc]
    exact ⟨L2.inv,fun b hb=>⟨(L2.known b (L1.known b hb).1).1,(L2.known b (L1.known b hb).1).2.trans (L1.known b hb).2⟩,fun b hb=>(L2.news b hb).elim (fun h=>L1.news b h) .inr,fun c hc=>by
     rcases L2.own c hc with h | h
     ·rcases L1.own c h with h | h
      ·exact .inl h
      ·exact .inr (List.mem_append_right _ h)
     ·exact .inr (List.mem_append_left _ h)⟩
   ·intro b hb
    have hb:b∈keys h∨b∈keys g':=by simpa [keys] using hb
    rcases hb with hb | hb
    ·exact .inl (by simp [hsb.subset hb])
    ·rcases hkeys b hb with h | h
     ·exact .inl (by simp [h])
     ·exact .inr h
  ·simp at hb
 | .io s :: ps,v :: vs,xs,y,n,m,g,O,ts,ι,K,H,hI,hk0,hf,hv,hb,⟨c,us,cells,e,O1,O2,hxs,hbl,hlen,hone,hs,hO',ho⟩,hO,hnd,htn,hold,hts,hn=>by
  cases v with
  | ptr b p u =>
   cases p with
   | cons _ _=>simp [backs] at hb
   | nil =>
    obtain ⟨hkind,hd0,r,ts',hts',hold⟩:=hold
    subst hO' hts'
    simp only [AVCs] at hv
    obtain ⟨x,ys,cs,rfl,hc,hval,hr⟩:=hv
    simp only [List.cons.injEq] at hxs
    obtain ⟨hx,rfl⟩:=hxs
    simp only [AVC] at hc
    obtain ⟨hKb,of,hko,rfl⟩:=hc
    have hpv:=qad (show ValOf false _ x from hval)
    rw [hpv] at hx
    simp only [Value.pointer.injEq,Option.some.injEq,Addr.mk.injEq,and_true] at hx
    obtain ⟨rfl,_⟩:=hx
    simp only [mvFits] at hf
    simp only [backs] at hb
    split at hb
    ·rename_i g' l e2
     simp only [Option.some.injEq,Prod.mk.injEq] at hb
     obtain ⟨rfl,rfl⟩:=hb
     obtain ⟨hcn,hnd⟩:=List.nodup_cons.1 hnd
     obtain ⟨hnd1,hnd2,hdis⟩:=List.nodup_append.1 hnd
     obtain ⟨hbn,htn⟩:=List.nodup_cons.1 htn
     obtain ⟨ht1,ht2,htd⟩:=List.nodup_append.1 htn
     have hle1:n≤(putSh s y.1 n).2.2:=qbm s y.1 n
     have e2:backs ps vs y.2 (putSh s y.1 n).2.2=some (g',l):=e2
     have hle2:(putSh s y.1 n).2.2≤l:=qjq ps vs y.2 _ _ _ e2
     obtain ⟨ι1,K1,L1,hkeys⟩:=qlo (ps:=ps) hI hk0 hf hr e2 ho (fun c hc=>hO c (by simp [hc])) hnd2 ht2 hold (fun b hb=>hts b (by simp [hb])) (fun b h1 h2=>hn b (by omega) h2)
     obtain ⟨ι2,K2,L2,hv2,hf2⟩:=qg5 (n:=n) L1.inv hs (fun c hc=>⟨fun ho=>by
      rcases L1.own c ho with ho | ho
      ·exact (hO c (by simp [hc])).1 ho
      ·exact hdis c hc c ho rfl,(hO c (by simp [hc])).2⟩) hnd1 (fun b hb1 hb2 hk=>by
      rcases L1.news b hk with h | h
      ·exact hn b hb1 (Nat.lt_of_lt_of_le hb2 hle2) h
      ·omega)
     have hKb':=hk0 b hKb
     have hK2:K2 b∧ι2 b=ι0 b:=⟨(L2.known b (L1.known b hKb'.1).1).1,(L2.known b (L1.known b hKb'.1).1).2.trans ((L1.known b hKb'.1).2.trans hKb'.2)⟩
     have hlk:look ((putSh s y.1 n).2.1++(g'++H)) b=none:=by
      rw [qgm (fun hm => ?_),qgm (fun hm => ?_)]
      ·exact (hts b (by simp)).1
      ·rcases hkeys b hm with h | h
       ·exact hbn (by simp [h])
       ·exact hn b (by omega) h.2 hKb'.1
      ·have:=qik s y.1 n b hm
       exact hn b this.1 (by omega) hKb'.1
     obtain ⟨g1,g2,g3⟩:=L2.inv.add hlk (ι2 b) (.inr rfl) (.box s.ty (putSh s y.1 n).1) ⟨by rw [hK2.2];exact hkind,by rw [hK2.2];exact hd0,cells,e,by rw [hK2.2];exact hbl,hv2.known (fun d hd=>⟨.inl hd,by unfold upd;split <;> simp_all⟩),hlen,by rw [hK2.2];exact hone.1.put _ _,hf2⟩
      (fun _=>by
       rw [hK2.2]
       refine ⟨fun ho => ?_,(hO _ (by simp)).2⟩
       rcases L2.own _ ho with ho | ho
       ·rcases L1.own _ ho with ho | ho
        ·exact (hO _ (by simp)).1 ho
        ·exact hcn (by simp [ho])
       ·exact hcn (by simp [ho])) (fun _ j _=>by rw [hK2.2];exact hone.2 j)
     refine ⟨_,_,⟨?_,fun d hd=>⟨(g2 d (L2.known d (L1.known d hd).1).1).1,(g2 d (L2.known d (L1.known d hd).1).1).2.trans ((L2.known d (L1.known d hd).1).2.trans (L1.known d hd).2)⟩,fun d hd => ?_,fun c' hc => ?_⟩,?_⟩
     ·have:=g1
      rw [← List.append_assoc] at this
      exact this
     ·rcases hd with hd | hd
      ·rcases L2.news d hd with h | h
       ·rcases L1.news d h with h | h
        ·exact .inl h
        ·exact .inr ⟨by omega,by omega⟩
       ·exact .inr ⟨by omega,by omega⟩
      ·exact .inl (hd▸hKb'.1)
     ·have hc:Own (upd ι2 b (ι2 b)) ((b,some (.box s.ty (putSh s y.1 n).1)) :: ((putSh s y.1 n).2.1++(g'++H))) c':=by
       have:=hc
       rw [← List.append_assoc]
       exact this
      rcases g3 c' hc with h | ⟨_,h⟩
      ·rcases L2.own c' h with h | h
       ·rcases L1.own c' h with h | h
        ·exact .inl h
        ·exact .inr (by simp [h])
       ·exact .inr (by simp [h])
      ·exact .inr (by rw [hK2.2] at h;simp [h])
     ·intro d hd
      have hd:d=b∨d∈keys (putSh s y.1 n).2.1∨d∈keys g':=by simpa [keys] using hd
      rcases hd with hd | hd | hd
      ·exact .inl (by simp [hd])
      ·have:=qik s y.1 n d hd
       exact .inr ⟨by omega,by omega⟩
      ·rcases hkeys d hd with h | h
       ·exact .inl (by simp [h])
       ·exact .inr ⟨by omega,by omega⟩
    ·simp at hb
  | _=>simp [backs] at hb
 | .io _ :: _,[],_,_,_,_,_,_,_,_,_,_,_,_,_,_,h,_,_,_,_,_,_,_=>by simp [backs] at h
 | .mv _ :: _,[],_,_,_,_,_,_,_,_,_,_,_,_,_,_,h,_,_,_,_,_,_,_=>by simp [backs] at h
 | .tk _ :: _,[],_,_,_,_,_,_,_,_,_,_,_,_,_,_,h,_,_,_,_,_,_,_=>by simp [backs] at h
 | .v _ :: _,[],_,_,_,_,_,_,_,_,_,_,_,_,_,_,h,_,_,_,_,_,_,_=>by simp [backs] at h
 | .ro _ :: _,[],_,_,_,_,_,_,_,_,_,_,_,_,_,_,h,_,_,_,_,_,_,_=>by simp [backs] at h
 | .fn _ :: _,[],_,_,_,_,_,_,_,_,_,_,_,_,_,_,h,_,_,_,_,_,_,_=>by simp [backs] at h
end
end Go.Tm
namespace Go.Tm
open Go
theorem ResRep.imp {P:Program} {w:World} {S S':Nat→Prop} {W W':Nat→Nat→Prop} (hW : ∀ c j,W c j→W' c j) : ∀ {rs:List RK} {y:resOf rs} {vs:List Value} {O:List Nat},(∀ r∈rs,∀ y cs O,ShR P w S W r.sh y cs O→ShR P w S' W' r.sh y cs O)→ResRep P w S W rs y vs O→ResRep P w S' W' rs y vs O
 | [],_,_,_,_,h=>h
 | .v s :: rs,_,_,_,hi,⟨v,us,cs,O1,O2,h1,h2,h3,h4,h5⟩=>⟨v,us,cs,O1,O2,h1,h2,hi (.v s) List.mem_cons_self _ _ _ h3,h4,h5.imp hW fun r hr=>hi r (List.mem_cons_of_mem _ hr)⟩
 | .p s :: rs,_,_,_,hi,⟨c,us,cells,e,O1,O2,h1,h2,h3,h4,h5,h6,h7⟩=>⟨c,us,cells,e,O1,O2,h1,h2,h3,⟨h4.1,fun j=>hW c j (h4.2 j)⟩,hi (.p s) List.mem_cons_self _ _ _ h5,h6,h7.imp hW fun r hr=>hi r (List.mem_cons_of_mem _ hr)⟩
theorem OutRep.imp {P:Program} {w:World} {S S':Nat→Prop} {W W':Nat→Nat→Prop} (hW : ∀ c j,W c j→W' c j) : ∀ {ps:List PK} {y:outOf ps} {vs:List Value} {O:List Nat},(∀ p∈ps,∀ s,(p = .io s∨p = .mv s) → ∀ y cs O,ShR P w S W s y cs O→ShR P w S' W' s y cs O)→OutRep P w S W ps y vs O→OutRep P w S' W' ps y vs O
 | [],_,_,_,_,h=>h
 | .io s :: ps,_,_,_,hi,⟨c,us,cells,e,O1,O2,h1,h2,h3,h4,h5,h6,h7⟩=>⟨c,us,cells,e,O1,O2,h1,h2,h3,⟨h4.1,fun j=>hW c j (h4.2 j)⟩,hi (.io s) List.mem_cons_self s (.inl rfl) _ _ _ h5,h6,h7.imp hW fun r hr=>hi r (List.mem_cons_of_mem _ hr)⟩
 | .mv s :: ps,_,_,_,hi,⟨v,us,cs,O1,O2,h1,h2,h3,h4,h5⟩=>⟨v,us,cs,O1,O2,h1,h2,hi (.mv s) List.mem_cons_self s (.inr rfl) _ _ _ h3,h4,h5.imp hW fun r hr=>hi r (List.mem_cons_of_mem _ hr)⟩
 | .v _ :: ps,_,_,_,hi,⟨v,us,h1,h2⟩=>⟨v,us,h1,h2.imp hW fun r hr=>hi r (List.mem_cons_of_mem _ hr)⟩
 | .ro _ :: ps,_,_,_,hi,⟨v,us,h1,h2⟩=>⟨v,us,h1,h2.imp hW fun r hr=>hi r (List.mem_cons_of_mem _ hr)⟩
 | .tk _ :: ps,_,_,_,hi,⟨v,us,h1,h2⟩=>⟨v,us,h1,h2.imp hW fun r hr=>hi r (List.mem_cons_of_mem _ hr)⟩
 | .fn _ :: ps,_,_,_,hi,⟨v,us,h1,h2⟩=>⟨v,us,h1,h2.imp hW fun r hr=>hi r (List.mem_cons_of_mem _ hr)⟩
theorem ArgsRep.wide {P:Program} {w:World} {S:Nat→Prop} {W W':Nat→Nat→Prop} (hW : ∀ c j,W c j→W' c j) : ∀ {ps:List PK} {x:domOf ps} {vs:List Value} {O:List Nat},ArgsRep P w S W ps x vs O→ArgsRep P w S W' ps x vs O
 | [],_,_,_,h=>h
 | .v _ :: ps,_,_,_,⟨v,us,h1,h2,h3⟩=>⟨v,us,h1,h2,h3.wide hW⟩
 | .ro _ :: ps,_,_,_,⟨c,o,cs,us,h1,h2,h3,h4,h5⟩=>⟨c,o,cs,us,h1,h2,h3,h4,h5.wide hW⟩
 | .io s :: ps,_,_,_,⟨c,us,cells,e,O1,O2,h1,h2,h3,h4,h5,h6,h7⟩=>⟨c,us,cells,e,O1,O2,h1,h2,h3,⟨h4.1,fun j=>hW c j (h4.2 j)⟩,h5.wide hW,h6,h7.wide hW⟩
 | .mv s :: ps,_,_,_,⟨v,us,cs,O1,O2,h1,h2,h3,h4,h5⟩=>⟨v,us,cs,O1,O2,h1,h2,h3.wide hW,h4,h5.wide hW⟩
 | .tk s :: ps,_,_,_,⟨v,us,cs,O1,O2,h1,h2,h3,h4,h5⟩=>⟨v,us,cs,O1,O2,h1,h2,h3.wide hW,h4,h5.wide hW⟩
 | .fn _ :: ps,_,_,_,⟨v,us,h1,h2,h3⟩=>⟨v,us,h1,h2,h3.wide hW⟩
section
variable {P : Program} {F : Fr} {ι : Nat → Inf} {K : Nat → Prop} {H : Heap} {w w' : World} {base : Nat} {Ψ : AV × Heap → List Nat → Prop} {S : Nat → Prop}
theorem qaiu {vr:List AV} {xs:List Value} (h:AVCs P ι K w S vr xs):AVR P ι K w S (single vr) (singleV xs):=by
 match vr,xs,h with
 | [],xs,h =>
  have h0:xs=[]:=by simpa [AVCs] using h
  subst h0
  refine ⟨[.tuple #[]],?_,rfl⟩
  unfold single AVC
  exact ⟨[],rfl,h⟩
 | [v],xs,h =>
  simp only [AVCs] at h
  obtain ⟨x,ys,cs,rfl,hc,hv,rfl⟩:=h
  exact ⟨cs,hc,hv⟩
 | v :: u :: r,xs,h =>
  have h':=h
  simp only [AVCs] at h'
  obtain ⟨x,ys,cs,rfl,hc,hv,x',ys',cs',rfl,_⟩:=h'
  refine ⟨[.tuple (x :: x' :: ys').toArray],?_,rfl⟩
  unfold single AVC
  exact ⟨_,rfl,h⟩
theorem qadw (h:Now P F ι K H w base) {sig:Sig} {ts O fz rs:List Nat} {xs:List Value} {y:sig.cod} {v:Value} {W:Nat→Nat→Prop} (hWF : ∀ c j,W c j→FW F c j) (hp:Pls (Pl ι H) ts O fz)
  {tk:List Nat} (hsub : ∀ b∈ts,b∈tk) (hleak:sig.leak=true → ∀ b∈rs,b∈tk) (hflat:sig.flat=true)
  (hout:Outcome P w (RegX F ι H w (fz++rs)) W O sig xs y v w') {g:Heap} {m:Nat} (hn2:(putRes sig.res y.1 base).2.2≤m) (hm:m≤base+wide)
  (hB : ∀ (T:Nat→Prop) (O2:List Nat),(∀ c,Reg F ι H w c→T c∧w'.heap[c]? = w.heap[c]?)→InvR P F ι K (kills tk++H) w' T→OutRep P w' T (fun c j=>c<w.heap.size→W c j) sig.params y.2 xs O2 →
   (∀ c∈O2,¬ Own ι (kills tk++H) c∧(F.O0 c∨F.w0.heap.size≤c))→O2.Nodup→(∀ b,(putRes sig.res y.1 base).2.2≤b→b<m→¬ K b) →
   ∃ ι1 K1,Laid P F ι ι1 K K1 (kills tk++H) (g++(kills tk++H)) w' T O2 (putRes sig.res y.1 base).2.2 m) {rs':List Nat}
  (hΨ:Ψ (single (putRes sig.res y.1 base).1,(putRes sig.res y.1 base).2.1++g++kills tk) rs'):Fin P F ι K H w base Ψ v w':=by
 obtain ⟨⟨hsame,hstay⟩,hkeep,vals,O1,O2,rfl,hnd,hOO,hres,hou⟩:=hout
 have hI:=h.inv
 have hsz:=hI.same.2.2
 have hOpl:=hp.of
 have hOown : ∀ c∈O,Own ι H c:=fun c hc=>let ⟨b,_,⟨x,hx⟩,hr,e⟩:=hOpl c hc;⟨b,x,hx,hr,e⟩
 have hregO : ∀ c,Reg F ι H w c→c∉O:=fun c hc ho=>hc.2.2 (hOown c ho)
 have hregH : ∀ c,Reg F ι H w c→w'.heap[c]? = w.heap[c]?:=fun c hc=>hkeep c hc.2.1 (hregO c hc)
 have hminO : ∀ c∈O,F.O0 c∨F.w0.heap.size≤c:=fun c hc=>let ⟨b,_,⟨x,hx⟩,hr,e⟩:=hOpl c hc;e▸hI.mine b x hx hr
 have hunO : ∀ c∈O,¬ Own ι (kills tk++H) c:=by
  rintro c hc ⟨b',x',hb',hr',e'⟩
  obtain ⟨b,hbt,⟨x,hx⟩,hr,e⟩:=hOpl c hc
  rw [qa8] at hb'
  split at hb'
  ·simp at hb'
  ·rename_i hn
   exact hn (hI.inj b' b x' x hb' hx hr' hr (e'.trans e.symm)▸hsub b hbt)
 let T:Nat→Prop:=fun c=>Reg F ι H w c∨(sig.leak=true∧(RegX F ι H w (fz++rs) c∨c∈O∨w.heap.size≤c)∧c<w'.heap.size∧c∉O1++O2)
 have hlk0 : ∀ b x,look (kills tk++H) b=some x→look H b=some x∧b∉tk:=by
  intro b x hb
  rw [qa8] at hb
  split at hb
  ·simp at hb
  ·rename_i hn;exact ⟨hb,hn⟩
 have I0:InvR P F ι K (kills tk++H) w' T:=by
  refine ⟨⟨hsame.1.trans hI.same.1,hsame.2.1.trans hI.same.2.1,Nat.le_trans hI.same.2.2 hsame.2.2⟩,hI.lent,?_,fun b x hb=>hI.known b x (hlk0 b x hb).1,?_,fun b x hb=>hI.mine b x (hlk0 b x hb).1,
   fun b b' x x' hb hb'=>hI.inj b b' x x' (hlk0 b x hb).1 (hlk0 b' x' hb').1,hI.stay.trans hstay fun c j hl hv=>hWF c j hv hl,fun b x hb=>hI.cover b x (hlk0 b x hb).1⟩
  ·intro c h1 h2
   rw [hkeep c (Nat.lt_of_lt_of_le h1 hsz) (fun hc=>by rcases hminO c hc with h | h;exact h2 h;omega)]
   exact hI.keep c h1 h2
  ·intro b x hb
   obtain ⟨hb1,hb2⟩:=hlk0 b x hb
   refine (hI.blks b x hb1).mono (fun _ hk=>⟨hk,rfl⟩) (fun c hc=>⟨.inl hc,hregH c hc⟩) hsame.2.2 (fun hr=>hkeep _ (hI.exists hb1 hr) fun hc => ?_)
   obtain ⟨b',hbt,⟨x',hx'⟩,hr',e'⟩:=hOpl _ hc
   exact hb2 (hI.inj b b' x x' hb1 hx' hr hr' e'.symm▸hsub b' hbt)
 have hfl:sig.leak=true∨((∀ p∈sig.params,p.flat=true) ∧ ∀ r∈sig.res,r.sh.flat=true):=by
  unfold Sig.flat at hflat
  cases hl:sig.leak with
  | true=>exact .inl rfl
  | false =>
   rw [hl] at hflat
   simp only [Bool.false_or,Bool.and_eq_true,List.all_eq_true] at hflat
   exact .inr hflat
 have hWW : ∀ c j,(c<w.heap.size→W c j)→FW F c j:=fun c j hw hl=>hWF c j (hw (Nat.lt_of_lt_of_le hl hsz)) hl
 have hresT:ResRep P w' T (FW F) sig.res y.1 vals O1:=hres.imp hWW fun r hr y cs O' hs=>by
  replace hs:=hs.wide hWW
  rcases hfl with hl | ⟨_,h2⟩
  ·exact hs.mono (fun c hc=>⟨.inr ⟨hl,hc⟩,rfl⟩) (fun _ _=>rfl)
  ·exact hs.flat (h2 r hr)
 have houT:OutRep P w' T (fun c j=>c<w.heap.size→W c j) sig.params y.2 xs O2:=hou.imp (fun _ _ h=>h) fun p hp s hps y cs O' hs=>by
  rcases hfl with hl | ⟨h1,_⟩
  ·exact hs.mono (fun c hc=>⟨.inr ⟨hl,hc⟩,rfl⟩) (fun _ _=>rfl)
  ·refine hs.flat ?_
   have:=h1 p hp
   rcases hps with rfl | rfl <;> exact this
 have hplace : ∀ c∈O1++O2,¬ Own ι (kills tk++H) c∧(F.O0 c∨F.w0.heap.size≤c):=by
  intro c hc
  obtain ⟨h1,h2⟩:=hOO c hc
  rcases h1 with h1 | h1
  ·exact ⟨hunO c h1,hminO c h1⟩
  ·refine ⟨?_,.inr (Nat.le_trans hsz h1)⟩
   rintro ⟨b',x',hb',hr',e'⟩
   have:=hI.exists (hlk0 b' x' hb').1 hr'
   omega
 obtain ⟨hnd1,hnd2,hnd3⟩:=List.nodup_append.1 hnd
 have hn1:=qpn sig.res y.1 base
 have hfr : ∀ b,base≤b→b<m→¬ K b:=fun b h1 h2=>h.fresh b h1 (by omega)
 obtain ⟨ι1,K1,L1⟩:=hB T O2 (fun c hc=>⟨.inl hc,hregH c hc⟩) I0 houT (fun c hc=>hplace c (by simp [hc])) hnd2 (fun b h1 h2=>hfr b (by omega) h2)
 obtain ⟨ι2,K2,L2,hvr,_⟩:=qxw (n:=base) L1.inv hresT (fun c hc=>⟨fun ho=>by
   rcases L1.own c ho with ho | ho
   ·exact (hplace c (by simp [hc])).1 ho
   ·exact hnd3 c hc c ho rfl,(hplace c (by simp [hc])).2⟩) hnd1 (fun b h1 h2 hk=>by
   rcases L1.news b hk with h | h
   ·exact hfr b h1 (by omega) h
   ·omega)
 have hown : ∀ c,Own ι2 ((putRes sig.res y.1 base).2.1++(g++(kills tk++H))) c→Own ι (kills tk++H) c∨c∈O1++O2:=by
  intro c hc
  rcases L2.own c hc with h | h
  ·rcases L1.own c h with h | h
   ·exact .inl h
   ·exact .inr (by simp [h])
  ·exact .inr (by simp [h])
 have hTreg : ∀ c,T c→Reg F ι2 ((putRes sig.res y.1 base).2.1++(g++(kills tk++H))) w' c:=by
  intro c hc
  rcases hc with hc | ⟨hl,hc,hlt,hno⟩
  ·refine ⟨hc.1,Nat.lt_of_lt_of_le hc.2.1 hsame.2.2,fun ho => ?_⟩
   rcases hown c ho with ⟨b',x',hb',hr',e'⟩ | ho
   ·exact hc.2.2 ⟨b',x',(hlk0 b' x' hb').1,hr',e'⟩
   ·rcases (hOO c ho).1 with h | h
    ·exact hregO c hc h
    ·have:=hc.2.1;omega
  ·have hrs:=hleak hl
   refine ⟨?_,hlt,fun ho => ?_⟩
   ·rcases hc with (hc | ⟨b,hb,x,hx,hr,e⟩) | hc | hc
    ·exact hc.1
    ·rcases hI.mine b x hx hr with h | h
     ·exact .inr (.inl (e▸h))
     ·exact .inr (.inr (e▸h))
    ·rcases hminO c hc with h | h
     ·exact .inr (.inl h)
     ·exact .inr (.inr h)
    ·exact .inr (.inr (Nat.le_trans hsz hc))
   ·rcases hown c ho with ⟨b',x',hb',hr',e'⟩ | ho
    ·obtain ⟨hb1,hb2⟩:=hlk0 b' x' hb'
     rcases hc with (hc | ⟨b,hb,x,hx,hr,e⟩) | hc | hc
     ·exact hc.2.2 ⟨b',x',hb1,hr',e'⟩
     ·have:=hI.inj b' b x' x hb1 hx hr' hr (e'.trans e.symm)
      subst this
      rcases List.mem_append.1 hb with hb | hb
      ·exact hb2 (hsub _ (hp.sub _ hb))
      ·exact hb2 (hrs _ hb)
     ·exact hunO c hc ⟨b',x',hb',hr',e'⟩
     ·have:=hI.exists hb1 hr';omega
    ·exact hno ho
 have hIn:=L2.inv.inv hTreg
 have hheap:(putRes sig.res y.1 base).2.1++g++kills tk++H=(putRes sig.res y.1 base).2.1++(g++(kills tk++H)):=by simp
 refine ⟨_,_,rs',ι2,K2,hΨ,by rw [hheap];exact hIn,?_,?_,?_⟩
 ·rw [hheap]
  exact ⟨fun b hb=>⟨(L2.known b (L1.known b hb).1).1,(L2.known b (L1.known b hb).1).2.trans (L1.known b hb).2⟩,fun c hc=>⟨hTreg c (.inl hc),hregH c hc⟩,hsame.2.2⟩
 ·rw [hheap]
  exact (qaiu hvr).mono (fun _ hk=>⟨hk,rfl⟩) (fun c hc=>⟨hTreg c hc,rfl⟩) (Nat.le_refl _)
 ·intro b hb
  rcases L2.news b hb with h1 | h1
  ·rcases L1.news b h1 with h2 | h2
   ·exact .inl h2
   ·exact .inr ⟨by omega,by omega⟩
  ·exact .inr ⟨by omega,by omega⟩
theorem qafu (h:Now P F ι K H w base) {sig:Sig} {ts O fz rs:List Nat} {vs:List AV} {xs:List Value} {y:sig.cod} {v:Value} (hp:Pls (Pl ι H) ts O fz) (hts:ts.Nodup) (hlive : ∀ b∈ts++rs,∃ z,look H b=some z)
  {tk:List Nat} (hsub : ∀ b∈ts,b∈tk) (hleak:sig.leak=true → ∀ b∈rs,b∈tk) (hflat:sig.flat=true) (hargs:AVCs P ι K w (Reg F ι H w) vs xs) (hmv:mvFits sig.params vs=true) (hold:Old ι sig.params vs ts)
  (hout:Outcome P w (RegX F ι H w (fz++rs)) (FW F) O sig xs y v w') {g:Heap} {m:Nat} (hb:backs sig.params vs y.2 (putRes sig.res y.1 base).2.2=some (g,m)) (hm:m≤base+wide) {rs':List Nat}
  (hΨ:Ψ (single (putRes sig.res y.1 base).1,(putRes sig.res y.1 base).2.1++g++kills tk) rs'):Fin P F ι K H w base Ψ v w':=by
 refine qadw h (fun _ _ h=>h) hp hsub hleak hflat hout (qjq _ _ _ _ _ _ hb) hm (fun T O2 _ I0 houT hpl hnd2 hfr => ?_) hΨ
 have hWW : ∀ c j,(c<w.heap.size→FW F c j)→FW F c j:=fun c j hw hl=>hw (Nat.lt_of_lt_of_le hl h.inv.same.2.2) hl
 obtain ⟨ι1,K1,L1,_⟩:=qlo I0 (fun b hb=>⟨hb,rfl⟩) hmv hargs hb (houT.imp hWW fun _ _ _ _ _ _ _ hs=>hs.wide hWW) hpl hnd2 hts hold
  (fun b hb=>⟨by rw [qa8,if_pos (hsub b hb)],let ⟨z,hz⟩:=hlive b (by simp [hb]);h.inv.known b z hz⟩) hfr
 exact ⟨ι1,K1,L1⟩
end
theorem qanw {p:EatD} {a:AV} {r:RM (AV×Heap)} {H:Heap} {rs:List Nat} {Q:AV×Heap→List Nat→Prop} (h:(eatZ p a r).wp H rs Q) :
  (∃ y b u t v,p.Z=some y∧a = .ptr b [] u∧look H b=some (.box t v)∧t.same p.s.ty=true∧zBld v=true∧Q (.val p.c y,[]) (b :: rs)) ∨ ∃ rs',r.wp H rs' Q:=by
 unfold eatZ at h
 split at h
 ·rename_i y b u hZ
  simp only [RM.wp] at h
  obtain ⟨x,hx,h⟩:=h
  split at h
  ·rename_i t v
   cases hc:(t.same p.s.ty&&zBld v) with
   | true =>
    rw [hc] at h
    simp only [Bool.and_eq_true] at hc
    exact .inl ⟨y,b,u,t,v,hZ,rfl,hx,hc.1,hc.2,h⟩
   | false =>
    rw [hc] at h
    exact .inr ⟨_,h⟩
  ·exact .inr ⟨_,h⟩
 ·exact .inr ⟨_,h⟩
theorem qajt {P:Program} {ι:Nat→Inf} {K:Nat→Prop} {w:World} {S:Nat→Prop} {v:AV} {cs:List Value} (h:zBld v=true) (hv:AVC P ι K w S v cs) : ∃ p,cs=[p,.slice none 0 0]:=by
 unfold zBld at h
 split at h
 ·simp only [AVC] at hv
  obtain ⟨c1,d1,rfl,h1,c2,d2,rfl,h2,h3⟩:=hv
  have hl:=h1.length
  obtain ⟨p,rfl⟩ : ∃ p,c1=[p]:=List.length_eq_one_iff.1 hl
  have h3:d2=[]:=h3
  subst h2 h3
  exact ⟨p,rfl⟩
 ·cases h
theorem qamh {t u:Ty} {o:Nat} (h:KOff (.box t) [] o u):o=0:=by
 cases h with
 | box h=>cases h;rfl
theorem AVCs.append {P:Program} {ι:Nat→Inf} {K:Nat→Prop} {w:World} {S:Nat→Prop} : ∀ {vs us:List AV} {xs ys:List Value},AVCs P ι K w S vs xs→AVCs P ι K w S us ys→AVCs P ι K w S (vs++us) (xs++ys)
 | [],_,xs,_,h,g=>by
  have:xs=[]:=by simpa [AVCs] using h
  subst this;exact g
 | v :: vs,us,xs,ys,h,g=>by
  simp only [AVCs] at h
  obtain ⟨x,zs,cs,rfl,hc,hv,hr⟩:=h
  simp only [List.cons_append,AVCs]
  exact ⟨x,zs++ys,cs,rfl,hc,hv,AVCs.append hr g⟩
section
variable {E : Env} {F : Fr} {ι : Nat → Inf} {K : Nat → Prop} {H : Heap} {w : World} {base : Nat} {Ψ : AV × Heap → List Nat → Prop} {l : Tmps} {ρ : Operand → Value} {o : Oper} {α : Type}
theorem qag8 {P:Program} {w:World} {S S':Nat→Prop} {W:Nat→Nat→Prop} (hS : ∀ c,S c→S' c) : ∀ {dom:List Ty} {x:domOf (dom.map PK.v)} {xs:List Value},ArgsRep P w S W (dom.map PK.v) x xs []→RepTup w S' dom (exec.cast' dom x) xs
 | [],_,_,⟨h,_⟩=>h
 | t :: r,x,xs,⟨v,us,e,hv,hr⟩=>⟨v,us,e,hv.mono fun c hc=>⟨hS c hc,rfl⟩,qag8 hS hr⟩
theorem RepList.oneAll {α:Type} {R:α→List Value→Prop} (hR : ∀ x vs,R x vs → ∀ v∈vs,v.oneCell'=true) : ∀ {xs:List α} {vs:List Value},RepList R xs vs → ∀ v∈vs,v.oneCell'=true
 | [],_,h=>by rw [show _=[] from h];simp
 | x :: xs,_,⟨a,b,e,h1,h2⟩=>by
  subst e;intro v hv
  rcases List.mem_append.1 hv with hv | hv
  ·exact hR x a h1 v hv
  ·exact RepList.oneAll hR h2 v hv
theorem qaly (hE:EnvS E F) (h:Now E.P F ι K H w base) {f:FuncId} {t1 t u:Ty} {res:List RK} {Fe:Sig.dom ⟨[.v t1,.mv (.rows t)],res,false⟩→Option (Sig.cod ⟨[.v t1,.mv (.rows t)],res,false⟩)} (hs:Sound E.P E.G f ⟨⟨[.v t1,.mv (.rows t)],res,false⟩,Fe⟩)
  {a:AV} {b:Nat} {p:List PS} {off len:Nat} {xs:List Value} (hall:AVCs E.P ι K w (Reg F ι H w) [a,.view b p u off len] xs) (hwp:(callW t1 t res Fe a b p u off len base).wp H [] Ψ) :
  Comes' E.P (Fin E.P F ι K H w base Ψ) ((callFunc f xs.toArray).run E.P w):=by
 simp only [AVCs] at hall
 obtain ⟨v1,_,cs1,rfl,hc1,hval1,v2,_,cs2,rfl,hc2,hval2,rfl⟩:=hall
 unfold callW at hwp
 cases h8:(isU8 t||Nat.beq len 0) with
 | true=>rw [h8] at hwp;exact hwp.elim
 | false =>
 rw [h8] at hwp
 simp only [cond_false] at hwp
 rw [Bool.or_eq_false_iff] at h8
 obtain ⟨h8,hl0⟩:=h8
 have hl0:len≠0:=fun e=>by rw [e] at hl0;simp at hl0
 obtain ⟨x,bs1,rs1,hq,hx,l1,_⟩:=qh5 h.inv hwp hc1
 have hag1:=qjr hwp
 have hc2':=hc2
 simp only [AVC] at hc2
 obtain ⟨hK,hc2⟩:=hc2
 rcases hc2 with ⟨h0,_⟩ | ⟨n,room,cap,rfl,hkk,rfl,hlc,hln,hroom,hpos⟩ | ⟨o,n,cap,hko,rfl,hlc,hln,hcn,hpos⟩
 ·exact absurd h0 hl0
 ·obtain ⟨xs,vs,rfl,hq,hxl,hrep,hat,_,hlk,hreal⟩:=qfd h.inv hq (.inl ⟨rfl,rfl,n,room,hkk,hln⟩)
  simp only [RM.wp] at hq
  obtain ⟨z,hz,hq⟩:=hq
  cases z with
  | row _ _=>exact hq.elim
  | box bt v =>
   have:=(h.inv.blks b _ hz).1
   rw [hkk] at this;cases this
 obtain ⟨xs,vs,rfl,hq,hxl,hrep,hat,_,hlk,hreal⟩:=qfd h.inv hq (.inr ⟨o,n,hko,hln,rfl⟩)
 simp only [RM.wp] at hq
 obtain ⟨z,hz,hq⟩:=hq
 cases z with
 | row _ _=>exact hq.elim
 | box bt v =>
 obtain ⟨hkb,hdb,cells,eb,hbb,hvv,hlen,h1,hfv⟩:=h.inv.blks b _ hz
 cases hmem:memN bs1 b with
 | true=>simp only [hmem] at hq;exact hq.elim
 | false =>
 simp only [hmem,cond_false] at hq
 have hko0:=hko
 rw [hkb] at hko
 cases hko with
 | box hto =>
 obtain ⟨v2',hq,hf2,hv2⟩:=qls hto hq hfv hvv
 split at hq
 case h_2=>exact hq.elim
 rename_i n' w' zs
 obtain hsame:=qg2 hf2
 cases hsame
 split at hq
 case h_2=>exact hq.elim
 rename_i q _
 cases hbn:Nat.beq (off+len) n with
 | false=>rw [hbn] at hq;exact hq.elim
 | true =>
 have hbn:=Nat.eq_of_beq_eq_true hbn
 subst hbn
 rw [Nat.beq_refl] at hq
 simp only [cond_true,RM.wp] at hq
 obtain ⟨y,hy,hq⟩:=hq
 cases hm:Nat.ble (putRes res y.1 base).2.2 (base+wide) with
 | false=>simp only [hm] at hq;exact hq.elim
 | true =>
 simp only [hm,cond_true,RM.wp] at hq
 rcases hq with ⟨hyl,hq⟩ | ⟨_,hq⟩
 case inr=>exact hq.elim
 have hyl:=Nat.eq_of_beq_eq_true hyl
 have hp2:=qad (show ValOf false _ v2 from hval2)
 have hcap:len=cap:=by omega
 subst hcap
 have hin:=hto.inside
 have hin:o+(off+len)*u.size≤bt.size:=hin
 rw [Nat.add_mul] at hin
 have hcl:cells.toList.length=cells.size:=Array.length_toList
 let W:Nat→Nat→Prop:=fun c j=>FW F c j∧(c=(ι b).c→(ι b).d+(o+off*u.size)≤j∧j<(ι b).d+(o+off*u.size)+len*u.size)
 have hbm:b∉bs1:=fun hm=>by rw [qew.2 hm] at hmem;cases hmem
 have hargs:ArgsRep E.P w (RegX F ι H w ([]++bs1)) W [.v t1,.mv (.rows u)] (x,xs,()) [v1,v2] [(ι b).c] :=
  ⟨v1,_,rfl,qvw hx hval1 hag1,v2,[],_,[(ι b).c],[],rfl,hval2,.inr ⟨(ι b).c,_,len,cells,eb,vs,by rw [hxl],by rw [hxl];exact Nat.le_refl _,⟨by omega,fun q=>(by subst q;cases h8),fun j g1 g2 =>
   ⟨fun hl=>h.inv.cover b _ hz hreal hl j (Inf.has_box hkb j),fun _=>⟨g1,g2⟩⟩⟩,rfl,hbb,by rw [hdb];omega,RepList.mono (fun _ _ hr=>hr.mono fun c hc=>⟨.inl hc,rfl⟩) hrep,qoz hat hbb⟩,rfl,rfl,rfl⟩
 have hfin:=hs.2 w (RegX F ι H w ([]++bs1)) W [(ι b).c] [v1,v2] (x,xs,()) y ((hE.gs h.inv).mono fun c hc=>⟨.inl hc,rfl⟩) hargs (by simp) (fun c hc=>by
  refine ⟨RegX.lt h.inv hc,fun ho => ?_⟩
  have ho:c=(ι b).c:=by simpa using ho
  rcases hc with hc | ⟨b',hb',x',hx'',hr',e'⟩
  ·exact hc.2.2 ⟨b,_,hz,hreal,ho.symm⟩
  ·have:=h.inv.inj b b' _ x' hz hx'' hreal hr' (ho.symm.trans e'.symm)
   subst this;exact hbm (by simpa using hb')) (fun c hc=>by
  have ho:c=(ι b).c:=by simpa using hc
  rw [ho];exact h.inv.exists hz hreal) hy
 refine Comes'.mono hfin fun vv w' hout => ?_
 have hout0:=hout
 obtain ⟨⟨hsame,hstay⟩,hkeep,vals,O1,O2,rfl,hnd,hOO,hres,hou⟩:=hout0
 obtain ⟨u1,us1,e1,hou⟩:=hou
 simp only [List.cons.injEq] at e1
 obtain ⟨rfl,rfl⟩:=e1
 obtain ⟨u2,us2,cs',P1,P2,e2,hval',hsh,hO2,hrest⟩:=hou
 simp only [List.cons.injEq] at e2
 obtain ⟨rfl,rfl⟩:=e2
 have hcs' : ∃ z,cs'=[z]:=List.length_eq_one_iff.1 hsh.length
 obtain ⟨z,rfl⟩:=hcs'
 have hz2:=qad (show ValOf false [z] v2 from hval')
 subst hz2
 rcases hsh with ⟨⟨ad,e3⟩,h0,_⟩ | ⟨c',d',cap',cells',e',vs',e3,hl',hpos',hP1,hbl,hsz',hrep',hat'⟩
 ·simp only [List.cons.injEq,and_true] at e3
  rw [e3] at hp2;simp only [Value.slice.injEq] at hp2;omega
 simp only [List.cons.injEq,and_true] at e3
 rw [e3] at hp2
 simp only [Value.slice.injEq,Option.some.injEq,Addr.mk.injEq,and_true] at hp2
 obtain ⟨⟨rfl,rfl⟩,hyl2,hcap2⟩:=hp2
 have hbear:u.bears=false:=by
  have:=hs.1
  simp [Sig.flat,PK.flat,Sh.flat] at this
  exact this.1
 obtain ⟨cs3,z3,hb3,hs3,ho3⟩:=hstay _ _ _ _ hbb
 rw [hbl] at hb3
 simp only [Option.some.injEq,Obj.cells.injEq] at hb3
 obtain ⟨rfl,rfl,_⟩:=hb3
 have hvl:vs'.length=len*u.size:=by rw [RepList.length (fun _ _ h=>h.length) hrep',hyl]
 have hcells:cells'.toList=over cells.toList (o+off*u.size) vs':=by
  apply List.ext_getElem?
  intro j
  rw [qex (by rw [hvl,hlen];omega),Array.getElem?_toList]
  by_cases g1:j<o+off*u.size
  ·rw [if_pos g1,Array.getElem?_toList]
   exact ho3 j fun hw=>by have:=(hw.2 rfl).1;rw [hdb] at this;omega
  ·rw [if_neg g1]
   by_cases g2:j<o+off*u.size+vs'.length
   ·rw [if_pos g2]
    have hj:j-(o+off*u.size)<vs'.length:=by omega
    have:=hat' (j-(o+off*u.size)) _ (List.getElem?_eq_getElem hj)
    rw [List.getElem?_eq_getElem hj,← this]
    congr 1;rw [hdb];omega
   ·rw [if_neg g2,Array.getElem?_toList]
    exact ho3 j fun hw=>by have:=(hw.2 rfl).2;rw [hdb] at this;omega
 have hregH : ∀ c,Reg F ι H w c→w'.heap[c]? = w.heap[c]?:=fun c hc=>hkeep c hc.2.1 fun ho=>hc.2.2 ⟨b,_,hz,hreal,(by simpa using ho:c=(ι b).c).symm⟩
 have hvv':=hvv.mono (fun _ hk=>⟨hk,rfl⟩) (fun c hc=>⟨hc,hregH c hc⟩) hsame.2.2
 have hr2:RepVec (Rep w (Reg F ι H w) u) (off+len) zs (seg cells.toList o ((off+len)*u.size)):=hv2
 have hr3:RepVec (Rep w' (Reg F ι H w) u) (off+len) zs (seg cells.toList o ((off+len)*u.size)):=(show Rep w (Reg F ι H w) (.arr (off+len) u) zs _ from hr2).mono fun c hc=>⟨hc,hregH c hc⟩
 have hlz:(Vec.toList (off+len) zs).length=off+len:=Vec.toList_length _ zs
 have hsp:=RepList.splice (fun _ _ h=>h.length) hr3.toList (RepList.mono (fun _ _=>Rep.flat hbear) hrep') (off:=off) (by rw [hlz];omega)
 have hnew:AVC E.P ι K w' (Reg F ι H w) (.val (.arr (off+len) u) (Vec.ofList u.zero (off+len) (spliceL (Vec.toList (off+len) zs) off y.2.1))) (over (seg cells.toList o ((off+len)*u.size)) (off*u.size) vs'):=by
  show Rep w' (Reg F ι H w) (.arr (off+len) u) _ _
  exact RepList.ofList u.zero hsp ((qln (xs:=Vec.toList (off+len) zs) (ys:=(y.2.1:List u.den)) (by rw [hlz];exact Nat.le_of_eq (congrArg (off + ·) hyl))).trans hlz)
 obtain ⟨zv,hq,hfz,hz'⟩:=qvt hto (by simp [fitsB,qme]) hnew hq hfv hvv'
 rw [← qvp (by rw [hvl,Nat.add_mul];exact Nat.le_refl _) (by rw [hlen,Nat.add_mul];omega),← hcells] at hz'
 cases hgd:(!refFst zv||(sndP p&&refFst v)) with
 | false=>rw [hgd] at hq;exact hq.elim
 | true =>
 rw [hgd] at hq
 refine qadw (sig:=⟨[.v t1,.mv (.rows u)],res,false⟩) h (W:=W) (ts:=[b]) (O:=[(ι b).c]) (fz:=[]) (rs:=bs1) (fun c j h=>h.1) (.keep ⟨⟨_,hz⟩,hreal,rfl⟩ .nil) (tk:=[b]) (fun b hb=>hb) (fun hl=>by cases hl) hs.1 hout
  (g:=[(b,some (.box bt zv))]) (m:=(putRes res y.1 base).2.2) (Nat.le_refl _) (Nat.le_of_ble_eq_true hm) (fun T O2' hT I0 houT hpl hnd2 hfr => ?_) hq
 have hmemO:(ι b).c∈O2':=by
  obtain ⟨w1,us3,e0,houT⟩:=houT
  simp only [List.cons.injEq] at e0
  obtain ⟨_,rfl⟩:=e0
  obtain ⟨w2,us4,cs4,P3,P4,e4,hval4,hsh4,rfl,_⟩:=houT
  simp only [List.cons.injEq] at e4
  obtain ⟨rfl,rfl⟩:=e4
  obtain ⟨z4,rfl⟩:=List.length_eq_one_iff.1 hsh4.length
  have hz4:=qad (show ValOf false [z4] _ from hval4)
  rcases hsh4 with ⟨⟨ad,e5⟩,_,_⟩ | ⟨c5,d5,cap5,_,_,_,e5,_,_,rfl,_⟩
  ·simp only [List.cons.injEq,and_true] at e5
   rw [← hz4,e3] at e5;simp only [Value.slice.injEq] at e5;omega
  ·simp only [List.cons.injEq,and_true] at e5
   rw [← hz4,e3] at e5
   simp only [Value.slice.injEq,Option.some.injEq,Addr.mk.injEq,and_true] at e5
   rw [e5.1.1];simp
 have hK2 : ∀ d,K d→(K d∨d=b)∧upd ι b (ι b) d=ι d:=fun d hd=>⟨.inl hd,by unfold upd;split <;> simp_all⟩
 have hone':=RepList.oneAll (fun _ _ h=>Rep.one h) hrep'
 obtain ⟨g1,g2,g3⟩:=I0.add (b:=b) (by rw [qa8,if_pos (by simp)]) (ι b) (.inr rfl) (.box bt zv)
  ⟨hkb,hdb,cells',_,hbl,(hz'.mono (fun _ hk=>⟨hk,rfl⟩) (fun c hc=>⟨(hT c hc).1,rfl⟩) (Nat.le_refl _)).known hK2,by rw [hcells,qar (by rw [hvl,hlen];omega),hlen],
   by rw [hcells];exact h1.over (o':=o+off*u.size) hto hfv hone' hgd (Nat.le_add_right _ _) (by rw [hvl,hlen];omega),hfz⟩
  (fun _=>hpl _ hmemO) (fun hr j hj hl=>h.inv.cover b _ hz hr hl j hj)
 exact ⟨_,_,g1,g2,fun d hd => .inl (hd.elim id fun e=>e▸hK),fun c hc=>(g3 c hc).elim .inl fun (e:_∧c=_) => .inr (e.2▸hmemO)⟩
theorem qalx (hE:EnvS E F) (h:Now E.P F ι K H w base) {f:FuncId} {e:Entry} (hs:Sound E.P E.G f e) {args:List AV} {r:RM (AV×Heap)} (hr:callV e args base=some r) {xs:List Value} (hall:AVCs E.P ι K w (Reg F ι H w) args xs) (hwp:r.wp H [] Ψ) :
  Comes' E.P (Fin E.P F ι K H w base Ψ) ((callFunc f xs.toArray).run E.P w):=by
 unfold callV at hr
 split at hr
 ·simp only [Option.some.injEq] at hr;subst hr
  exact qaly hE h hs hall hwp
 ·cases hr
theorem qaok (hE:EnvS E F) (h:Now E.P F ι K H w base) (hs : ∀ x,AVR E.P ι K w (Reg F ι H w) (rd l x) (ρ x)) {f:Operand} {as:Array Operand} {ts:Array TypeId} (ho:o.op = .call { callee:=.value f,args:=as,argTypes:=ts })
  (hwp:(exec E (.call { callee:=.value f,args:=as,argTypes:=ts }) (rd l) base).wp H [] Ψ) :
  Comes' E.P (Fin E.P F ι K H w base Ψ) ((execOp ρ o).run E.P w):=by
 obtain ⟨dst,op,ty,pos,af,g⟩:=o
 subst ho
 have hf:=hs f
 simp only [exec] at hwp
 generalize rd l f=vf at hwp hf
 have hargs:=qu3 hs as.toList
 have hrun : ∀ g' first caps,ρ f = .func (.func g') first caps→(execOp ρ { dst:=dst,op:=.call { callee:=.value f,args:=as,argTypes:=ts },type:=ty,pos:=pos,after:=af,guard:=g }).run E.P w=(callFunc g' (first++as.map ρ++caps)).run E.P w:=by
  intro g' first caps hv
  simp [execOp,resolve,hv,Deferred.ofValue,invoke]
 split at hwp
 ·rename_i g' first caps
  obtain ⟨cs,hc,hval⟩:=hf
  simp only [AVC] at hc
  obtain ⟨xs,ys,rfl,hx,hy⟩:=hc
  have hv:=qad (show ValOf false _ (ρ f) from hval)
  rw [hrun _ _ _ hv]
  split at hwp
  ·rename_i e he
   obtain ⟨⟨ps,res,leak⟩,Fe⟩:=e
   obtain ⟨hflat,hsound⟩:=hE.fns g' _ he
   cases hcv:callV ⟨⟨ps,res,leak⟩,Fe⟩ (first++as.toList.map (rd l)++caps) base with
   | some r =>
    simp only [callR,hcv] at hwp
    have hall:=(hx.append hargs).append hy
    have harr:(xs.toArray++as.map ρ++ys.toArray:Array Value)=(xs++as.toList.map ρ++ys).toArray:=by
     apply Array.ext';simp
    rw [harr]
    exact qalx hE h ⟨hflat,hsound⟩ hcv hall hwp
   | none =>
   simp only [callR,hcv] at hwp
   cases hmv:mvFits ps (first++as.toList.map (rd l)++caps) with
   | false=>rw [hmv] at hwp;exact hwp.elim
   | true =>
    rw [hmv] at hwp
    simp only [Bool.not_true,cond_false] at hwp
    have hall:=(hx.append hargs).append hy
    obtain ⟨d,tks,rds,rs',O,fz,h1,hp,hold,hlive,hrep⟩:=qjp hE h.inv hwp hall
    cases hg:(nodupN tks&&disjN tks rds) with
    | false=>rw [hg] at h1;exact h1.elim
    | true =>
     rw [hg] at h1
     simp only [Bool.and_eq_true] at hg
     obtain ⟨hg1,hg2⟩:=hg
     have hnd:=qii.1 hg1
     have hdj:=qpb.1 hg2
     simp only [cond_true,RM.wp] at h1
     obtain ⟨y,hy',h1⟩:=h1
     obtain ⟨vr,hh,n,hpr⟩ : ∃ vr hh n,putRes res y.1 base=(vr,hh,n):=⟨_,_,_,rfl⟩
     rw [hpr] at h1
     simp only at h1
     cases hbk:backs ps (first++as.toList.map (rd l)++caps) y.2 n with
     | none=>rw [hbk] at h1;exact h1.elim
     | some gm =>
      obtain ⟨gb,m⟩:=gm
      rw [hbk] at h1
      simp only at h1
      cases hm:Nat.ble m (base+wide) with
      | false=>rw [hm] at h1;exact h1.elim
      | true =>
       rw [hm] at h1
       have hΨ:Ψ (single vr,hh++gb++kills (bif leak then tks++rds else tks)) rs':=h1
       have hm':=Nat.le_of_ble_eq_true hm
       have hOnd:=hp.nodup h.inv.pl hnd
       have hfin:=hsound w (RegX F ι H w (fz++rds)) (FW F) O (xs++as.toList.map ρ++ys) d y ((hE.gs h.inv).mono fun c hc=>⟨.inl hc,rfl⟩) (hrep fz rds (fun _ h=>h) (fun _ h=>h)) hOnd ?_ ?_ hy'
       ·have harr:(xs.toArray++as.map ρ++ys.toArray:Array Value)=(xs++as.toList.map ρ++ys).toArray:=by
         apply Array.ext';simp
        rw [harr]
        refine Comes'.mono hfin fun v w' hout => ?_
        refine qafu (sig:=⟨ps,res,leak⟩) h hp hnd (by intro b hb;exact hlive b hb) (tk:=bif leak then tks++rds else tks) (fun b hb => ?_) (fun hl b hb => ?_) hflat hall hmv hold hout (g:=gb) (m:=m) (by rw [hpr];exact hbk) hm' (rs':=rs') (by rw [hpr];exact hΨ)
        ·cases leak with
         | true=>exact List.mem_append_left _ hb
         | false=>exact hb
        ·rw [show leak=true from hl];exact List.mem_append_right _ hb
       ·intro c hc
        refine ⟨RegX.lt h.inv hc,fun ho => ?_⟩
        obtain ⟨b,hbt,hbf,⟨x,hx'⟩,hr,e⟩:=hp.apart hnd c ho
        rcases hc with hc | ⟨b',hb',x',hx'',hr',e'⟩
        ·exact hc.2.2 ⟨b,x,hx',hr,e⟩
        ·have:=h.inv.inj b b' x x' hx' hx'' hr hr' (e.trans e'.symm)
         subst this
         rcases List.mem_append.1 hb' with hb' | hb'
         ·exact hbf hb'
         ·exact hdj b hbt hb'
       ·intro c hc
        obtain ⟨b,_,⟨x,hx'⟩,hr,e⟩:=hp.of c hc
        rw [← e];exact h.inv.exists hx' hr
  ·split at hwp
   ·rename_i p hp
    cases hb:p.cod.bears with
    | true=>rw [hb] at hwp;exact hwp.elim
    | false =>
     rw [hb] at hwp
     simp only [cond_false] at hwp
     have hall:=(hx.append hargs).append hy
     obtain ⟨d,bs,rs',h1,hlive,hd,_⟩:=qq8 h.inv hwp hall
     simp only [RM.wp] at h1
     obtain ⟨q,v,hrun',hvr⟩:=hE.prims g' p hp w (RegX F ι H w bs) (exec.cast' p.dom d) (xs++as.toList.map ρ++ys) (qag8 (fun c hc=>hc) hd)
     have harr:(xs.toArray++as.map ρ++ys.toArray:Array Value)=(xs++as.toList.map ρ++ys).toArray:=by
      apply Array.ext';simp
     rw [harr,hrun']
     exact qaf4 h rfl rfl rfl (h1 q) (hvr.flat hb)
   ·split at hwp
    ·rename_i p hp
     cases hb:p.c.bears with
     | true=>rw [hb] at hwp;exact hwp.elim
     | false =>
      rw [hb] at hwp
      simp only [cond_false] at hwp
      have hall:=(hx.append hargs).append hy
      split at hwp
      case h_2=>exact hwp.elim
      rename_i av hvs
      rw [hvs] at hall
      obtain ⟨va,hus⟩ : ∃ va,xs++as.toList.map ρ++ys=[va]:=by
       simp only [AVCs] at hall
       obtain ⟨va,r,_,e,_,_,rfl⟩:=hall
       exact ⟨va,e⟩
      rcases qanw hwp with ⟨y,b,u,t,zv,hZ,hav,hlk,hsame,hzb,hΨ⟩ | ⟨rsw,hwp⟩
      ·subst hav
       obtain ⟨hk,hd,cs,e,hc,hcs,hlen,hself,-⟩:=h.inv.blks b _ hlk
       simp only [AVCs] at hall
       obtain ⟨va',r',cs',hva,hptr,hval,hr'⟩:=hall
       have hr':r'=[]:=hr'
       subst hr'
       obtain ⟨-,o,hko,hp'⟩:=hptr
       rw [hp'] at hval
       have hva':va' = .pointer (some ⟨(ι b).c,(ι b).d+o,none⟩):=qad (show ValOf false _ va' from hval)
       rw [hk] at hko
       have ho:o=0:=qamh hko
       rw [ho,hd,Nat.zero_add] at hva'
       obtain ⟨pv,hpv⟩:=qajt hzb hcs
       have hty:t=p.s.ty:=qbe hsame
       have hfin:=(hE.eats g' p hp).2 y hZ w (ι b).c cs e pv hc hpv (fun hT=>by rw [← hty] at hT ⊢;exact hself.2.2 hT)
       have harr:(xs.toArray++as.map ρ++ys.toArray:Array Value) = #[.pointer (some ⟨(ι b).c,0,none⟩)]:=by
        apply Array.ext'
        rw [← hva']
        simpa using hva
       rw [harr]
       refine Comes'.mono hfin fun v w' hout => ?_
       obtain ⟨q1,q2,q3,q4⟩:=hout
       exact Fin.draw h q1 q2 q3 hΨ (qaf.2 (q4 _))
      obtain ⟨d,tks,rds,rs',O,fz,h1,hpl,hold,hlive,hrep⟩:=qjp hE h.inv hwp hall
      cases hg:(nodupN tks&&disjN tks rds) with
      | false=>rw [hg] at h1;exact h1.elim
      | true =>
       rw [hg] at h1
       simp only [Bool.and_eq_true] at hg
       obtain ⟨hg1,hg2⟩:=hg
       have hnd:=qii.1 hg1
       have hdj:=qpb.1 hg2
       simp only [cond_true,RM.wp] at h1
       obtain ⟨y,hy',h1⟩:=h1
       have hOnd:=hpl.nodup h.inv.pl hnd
       have hfin:=(hE.eats g' p hp).1 w (RegX F ι H w (fz++rds)) (FW F) O (xs++as.toList.map ρ++ys) d y (hrep fz rds (fun _ h=>h) (fun _ h=>h)) hOnd ?_ ?_ hy'
       ·have harr:(xs.toArray++as.map ρ++ys.toArray:Array Value)=(xs++as.toList.map ρ++ys).toArray:=by
         apply Array.ext';simp
        rw [harr]
        refine Comes'.mono hfin fun v w' hout => ?_
        obtain ⟨hsame,hkeep,hvr⟩:=hout
        rw [hus] at hall
        refine qafu (sig:=⟨[.v .unit],[.v (.val p.c)],false⟩) (y:=((y,()),())) (g:=[]) (m:=base) (vs:=[av]) (xs:=[va]) h hpl hnd (by intro b hb;exact hlive b hb) (tk:=tks) (fun b hb=>hb) (fun hl=>by cases hl) (by simp [Sig.flat,PK.flat,RK.sh,Sh.flat,hb]) hall rfl trivial ?_ rfl (Nat.le_add_right _ _) (rs':=rs') h1
        obtain ⟨cs,hcs,hval⟩:=hvr
        exact ⟨hsame,hkeep,[v],[],[],rfl,List.nodup_nil,fun c hc=>by simp at hc,⟨v,[],cs,[],[],rfl,hval,⟨hcs.flat hb,rfl⟩,rfl,rfl,rfl⟩,⟨va,[],rfl,rfl,rfl⟩⟩
       ·intro c hc
        refine ⟨RegX.lt h.inv hc,fun ho => ?_⟩
        obtain ⟨b,hbt,hbf,⟨x,hx'⟩,hr,e⟩:=hpl.apart hnd c ho
        rcases hc with hc | ⟨b',hb',x',hx'',hr',e'⟩
        ·exact hc.2.2 ⟨b,x,hx',hr,e⟩
        ·have:=h.inv.inj b b' x x' hx' hx'' hr hr' (e.trans e'.symm)
         subst this
         rcases List.mem_append.1 hb' with hb' | hb'
         ·exact hbf hb'
         ·exact hdj b hbt hb'
       ·intro c hc
        obtain ⟨b,_,⟨x,hx'⟩,hr,e⟩:=hpl.of c hc
        rw [← e];exact h.inv.exists hx' hr
    ·exact hwp.elim
 ·rename_i s gf
  cases hb:s.cod.bears with
  | true=>rw [hb] at hwp;exact hwp.elim
  | false =>
   rw [hb] at hwp
   simp only [cond_false] at hwp
   obtain ⟨cs,hc,hval⟩:=hf
   simp only [AVC] at hc
   obtain ⟨v,rfl,hfn⟩:=hc
   have hv:=qad (show ValOf false _ (ρ f) from hval)
   obtain ⟨d,bs,rs',h1,hlive,hd,_⟩:=qq8 h.inv hwp hargs
   simp only [RM.wp] at h1
   obtain ⟨y,hy,h1⟩:=h1
   obtain ⟨_,f',first,caps,rfl,hcall⟩:=hfn
   rw [hrun _ _ _ hv]
   have:=hcall w (fun _ _=>rfl) (Nat.le_refl _) (exec.cast' s.dom d) (as.toList.map ρ) y (qag8 (fun c hc=>RegX.lt h.inv hc) hd) hy
   rw [amap] at this
   refine Comes'.mono this fun v w' ⟨hvr,hsame,hkeep⟩ => ?_
   obtain ⟨hI,hS⟩:=h.inv.grow hsame.2.2 hkeep hsame.1 hsame.2.1
   exact ⟨_,[],_,ι,K,h1,hI,hS,qaf.2 (hvr.flat hb),fun _ hb => .inl hb⟩
 ·exact hwp.elim
end
end Go.Tm
namespace Go.Tm
open Go
section
variable {E : Env} {F : Fr} {ι : Nat → Inf} {K : Nat → Prop} {H : Heap} {w : World} {base : Nat} {Ψ : AV × Heap → List Nat → Prop} {l : Tmps} {ρ : Operand → Value} {o : Oper}
theorem qanx (hE:EnvS E F) (h:Now E.P F ι K H w base) (hs : ∀ x,AVR E.P ι K w (Reg F ι H w) (rd l x) (ρ x)) (hwp:(exec E o.op (rd l) base).wp H [] Ψ):Comes' E.P (Fin E.P F ι K H w base Ψ) ((execOp ρ o).run E.P w):=by
 cases ho:o.op <;> rw [ho] at hwp
 case move x=>exact qaon h hs ho hwp
 case assign x=>exact qakz h hs ho hwp
 case pick c a b=>exact qaoo h hs ho hwp
 case alloc t=>exact qamp hE.ok h ho hwp
 case box t x=>exact qapb hE.ok h hs ho hwp
 case build t ps=>exact qamr hE.ok h hs ho hwp
 case buildSlice t n ps=>exact qafd hE.ok h hs ho hwp
 case load t a=>exact qaom hE.ok h hs ho hwp
 case store t a x=>exact qamv hE.ok h hs ho hwp
 case nilCheck x=>exact qahr h hs ho hwp
 case binOp op t x y u=>exact qamq hE.ok h hs ho hwp
 case unOp op t x=>exact qaop h hs ho hwp
 case convert s d x=>exact qajf hE.ok h hs ho hwp
 case sliceToArrayPointer t x=>exact qtt hE.ok h hs ho hwp
 case makeFunc fn a b=>cases fn <;> first | exact qahq h hs ho hwp | exact hwp.elim
 case makeSlice t a c=>exact qags hE.ok h hs ho hwp
 case slice t x lo hi mx=>cases mx <;> first | exact qamu hE.ok h hs ho hwp | exact hwp.elim
 case fieldAddr s x f=>exact qagq hE.ok h hs ho hwp
 case field s x f=>exact qams hE.ok h hs ho hwp
 case indexAddr t x i=>exact qagr hE.ok h hs ho hwp
 case index t x i=>exact qamt hE.ok h hs ho hwp
 case extract x i=>exact qajg h hs ho hwp
 case call c =>
  obtain ⟨callee,as,ts⟩:=c
  cases callee with
  | value f=>exact qaok hE h hs ho hwp
  | builtin b =>
   cases b
   case len=>exact qapc hE.ok h hs ho hwp
   case append=>exact qaky hE.ok h hs ho hwp
   case copy=>exact qaol hE.ok h hs ho hwp
   case max=>exact qaem h hs true ho hwp
   case min=>exact qaem h hs false ho hwp
   all_goals exact hwp.elim
  | invoke _ _=>exact hwp.elim
 all_goals exact hwp.elim
end
end Go.Tm
namespace Go.Tm
open Go
theorem qq7 {d n:Nat} : Nat.ble (d+1) n=decide (d<n):=by
 cases h:Nat.ble (d+1) n with
 | true=>exact (decide_eq_true (Nat.le_of_ble_eq_true h)).symm
 | false =>
  have:¬ d<n:=fun hd=>by rw [Nat.ble_eq_true_of_le hd] at h;simp at h
  simp [this]
theorem qaov {l:Tmps} {d:Nat} (v:AV) (h:d<l.n):setT l d v=⟨l.n,fun i=>bif Nat.beq d i then v else l.f i⟩:=by
 unfold setT
 rw [qq7,decide_eq_true h]
 rfl
theorem qaou {l:Tmps} {d:Nat} (v:AV) (h:¬ d<l.n):setT l d v=l:=by
 unfold setT
 rw [qq7,decide_eq_false h]
 rfl
theorem qbs (l:Tmps) (d:Nat) (v:AV) (t:Nat):getT (setT l d v) t=if t=d∧d<l.length then v else getT l t:=by
 by_cases hd:d<l.n
 ·rw [qaov v hd]
  unfold getT Tmps.length
  by_cases ht:t=d
  ·subst ht
   rw [if_pos ⟨rfl,hd⟩,qq7,decide_eq_true hd]
   simp
  ·rw [if_neg (fun h=>ht h.1)]
   have hb:Nat.beq d t=false:=by
    cases hb:Nat.beq d t with
    | false=>rfl
    | true=>exact absurd (Nat.eq_of_beq_eq_true hb).symm ht
   simp [hb]
 ·rw [qaou v hd,if_neg (fun h=>hd h.2)]
theorem qfg (l:Tmps) (d:Nat) (v:AV):(setT l d v).length=l.length:=by
 unfold setT Tmps.length
 cases Nat.ble (d+1) l.n <;> rfl
theorem qaeu (l:Tmps) (d:Nat) {v:AV} (h:getT l d=v):setT l d v=l:=by
 unfold setT
 unfold getT at h
 cases hb:Nat.ble (d+1) l.n with
 | false=>rfl
 | true =>
  rw [hb] at h
  simp only [cond_true] at h
  obtain ⟨n,f⟩:=l
  simp only [cond_true,Tmps.mk.injEq,true_and]
  funext i
  cases hi:Nat.beq d i with
  | false=>rfl
  | true=>rw [← Nat.eq_of_beq_eq_true hi];exact h.symm
section
variable {P : Program} {F : Fr} {ι : Nat → Inf} {K : Nat → Prop} {H : Heap} {w : World}
theorem qal1 {S:Nat→Prop} (v:Value):AVR P ι K w S (constV v) v:=by
 unfold constV
 split
 ·exact qaf.2 (qam.2 rfl)
 ·exact qaf.2 (qcj.2 ⟨_,rfl,rfl⟩)
 ·exact qaf.2 (qa5.2 rfl)
 ·rename_i s
  refine qaf.2 (qbw.2 ?_)
  cases s;rfl
 ·exact ⟨_,by unfold AVC;rfl,rfl⟩
 ·exact qaf.2 (qaal.2 (.inl ⟨rfl,rfl⟩))
 ·exact qaf.2 ⟨_,.inl ⟨none,rfl⟩,rfl⟩
 ·exact ⟨[_],by unfold AVC;exact ⟨_,rfl⟩,rfl⟩
theorem qano {l:Tmps} {a:Act} (hs:Slots P F ι K H w l a.tmps) (x:Operand):AVR P ι K w (Reg F ι H w) (rd l x) (a.eval x):=by
 cases x with
 | tmp t=>exact hs.2 t
 | const v=>exact qal1 v
 | global g=>exact ⟨[_],by unfold rd AVC;exact ⟨_,rfl⟩,rfl⟩
 | func f =>
  refine ⟨[_],?_,rfl⟩
  unfold rd AVC
  exact ⟨[],[],rfl,by simp [AVCs],by simp [AVCs]⟩
def setO (l:Tmps) (d:Option Nat) (v:AV):Tmps:=match d with | some d=>setT l d v | none=>l
theorem Slots.put {l:Tmps} {a:Act} (hs:Slots P F ι K H w l a.tmps) (d:Option Nat) {v:AV} {x:Value} (hv:AVR P ι K w (Reg F ι H w) v x):Slots P F ι K H w (setO l d v) (a.put d x).tmps:=by
 cases d with
 | none=>exact hs
 | some d =>
  refine ⟨by simp only [setO,Act.put,Array.size_setIfInBounds,qfg];exact hs.1,fun t => ?_⟩
  simp only [setO,Act.put]
  rw [qbs]
  by_cases h:t=d∧d<l.length
  ·rw [if_pos h]
   obtain ⟨rfl,hl⟩:=h
   have:t<a.tmps.size:=by rw [← hs.1];exact hl
   simpa [Array.getD,this] using hv
  ·rw [if_neg h]
   have:=hs.2 t
   rw [show (a.tmps.setIfInBounds d x).getD t undef=a.tmps.getD t undef from ?_]
   ·exact this
   ·simp only [Array.getD_eq_getD_getElem?,Array.getElem?_setIfInBounds]
    split
    ·rename_i e
     subst e
     split
     ·rename_i hd;exact absurd ⟨rfl,by rw [hs.1];exact hd⟩ h
     ·rename_i hd;rw [Array.getElem?_eq_none (by omega)]
    ·rfl
end
structure On (P:Program) (F:Fr) (ι:Nat→Inf) (K:Nat→Prop) (s:St) (a:Act) (w:World):Prop where
 inv:Inv P F ι K s.heap w
 slots:Slots P F ι K s.heap w s.tmps a.tmps
 none:a.defers=[]
structure Agree (ds:List Nat) (s s':St) (a a':Act):Prop where
 slots : ∀ d,d∉ds→getT s'.tmps d=getT s.tmps d
 vals : ∀ d,d∉ds→a'.tmps.getD d undef=a.tmps.getD d undef
 length:s'.tmps.length=s.tmps.length
 next:s.next≤s'.next
 dirty : ∀ b∈s.dirty,b∈s'.dirty
 heap : ∀ b,b<s.next→b∉s'.dirty→look s'.heap b=look s.heap b
theorem Agree.refl (ds:List Nat) (s:St) (a:Act):Agree ds s s a a:=⟨fun _ _=>rfl,fun _ _=>rfl,rfl,Nat.le_refl _,fun _ h=>h,fun _ _ _=>rfl⟩
theorem Agree.trans {ds:List Nat} {s s' s'':St} {a a' a'':Act} (h:Agree ds s s' a a') (g:Agree ds s' s'' a' a''):Agree ds s s'' a a'' :=
 ⟨fun d hd=>(g.slots d hd).trans (h.slots d hd),fun d hd=>(g.vals d hd).trans (h.vals d hd),g.length.trans h.length,Nat.le_trans h.next g.next,fun b hb=>g.dirty b (h.dirty b hb),
 fun b hb hn=>(g.heap b (Nat.lt_of_lt_of_le hb h.next) hn).trans (h.heap b hb fun hm=>hn (g.dirty b hm))⟩
theorem Agree.mono {ds ds':List Nat} {s s':St} {a a':Act} (h:Agree ds s s' a a') (hs : ∀ d∈ds,d∈ds'):Agree ds' s s' a a' :=
 ⟨fun d hd=>h.slots d fun hm=>hd (hs d hm),fun d hd=>h.vals d fun hm=>hd (hs d hm),h.length,h.next,h.dirty,h.heap⟩
theorem qaik {P:Program} {F:Fr} {ι:Nat→Inf} {K:Nat→Prop} {s:St} {a:Act} {w w':World} {base:Nat} {v:AV} {u:Heap} {ι':Nat→Inf} {K':Nat→Prop} {x:Value} (h:On P F ι K s a w)
  (hI:Inv P F ι' K' (u++s.heap) w') (hS:Stp F ι ι' K K' s.heap (u++s.heap) w w') (hv:AVR P ι' K' w' (Reg F ι' (u++s.heap) w') v x) (d:Option Nat):On P F ι' K' ((s.put d v).upd u) (a.put d x) w':=by
 have hs:=(hS.slots h.slots).put d hv
 have e1:((s.put d v).upd u).heap=u++s.heap:=by cases d <;> rfl
 have e2:((s.put d v).upd u).tmps=setO s.tmps d v:=by cases d <;> rfl
 exact ⟨by rw [e1];exact hI,by rw [e1,e2];exact hs,by cases d <;> exact h.none⟩
theorem qxx {s:St} {a:Act} (d:Option Nat) (v:AV) (u:Heap) (x:Value) {ds:List Nat} (hd : ∀ e,d=some e→e∈ds):Agree ds s ((s.put d v).upd u) a (a.put d x):=by
 refine ⟨fun t ht => ?_,fun t ht => ?_,?_,?_,fun b hb => ?_,fun b hb hn => ?_⟩
 ·cases d with
  | none=>rfl
  | some e =>
   show getT (setT s.tmps e v) t=_
   rw [qbs,if_neg (fun (h:t=e∧e<s.tmps.length)=>ht (h.1▸hd e rfl))]
 ·cases d with
  | none=>rfl
  | some e =>
   show (a.tmps.setIfInBounds e x).getD t undef=_
   have:e≠t:=fun h=>ht (h▸hd e rfl)
   simp [Array.getD_eq_getD_getElem?,Array.getElem?_setIfInBounds,this]
 ·cases d with
  | none=>rfl
  | some e=>exact qfg _ _ _
 ·cases d <;> exact Nat.le_refl _
 ·cases d <;> exact List.mem_append_right _ hb
 ·have hn':b∉keys u:=fun hm=>hn (by cases d <;> exact List.mem_append_left _ hm)
  cases d <;> exact qgm hn'
end Go.Tm
namespace Go.Tm
open Go
section
variable {E : Env} {F : Fr} {ι : Nat → Inf} {K : Nat → Prop} {s : St} {a : Act} {w : World} {base : Nat} {Ψ : AV × Heap → List Nat → Prop} {o : Oper}
theorem qaig (hE:EnvS E F) (h:On E.P F ι K s a w) (hf : ∀ b,base≤b→b<base+wide→¬ K b) (hwp:(exec E o.op (rd s.tmps) base).wp s.heap [] Ψ) {next:Act→World→Prop} {Q:Exit→Act→World→Prop}
  (hn : ∀ v u rs ι' K' x w',Ψ (v,u) rs→On E.P F ι' K' ((s.put o.dst v).upd u) (a.put o.dst x) w'→Stp F ι ι' K K' s.heap ((s.put o.dst v).upd u).heap w w'→(∀ b,K' b→K b∨(base≤b∧b<base+wide))→next (a.put o.dst x) w') :
  o.wp E.P a w next Q:=by
 unfold Oper.wp
 refine Comes'.upon (qanx hE ⟨h.inv,hf⟩ (qano h.slots) hwp) fun x w' ⟨v,u,rs,ι',K',hΨ,hI,hS,hv,hK⟩ => ?_
 refine hn v u rs ι' K' x w' hΨ (qaik (base:=0) h hI hS hv o.dst) ?_ hK
 have e1:((s.put o.dst v).upd u).heap=u++s.heap:=by cases o.dst <;> rfl
 rw [e1];exact hS
theorem qaim (h:On E.P F ι K s a w) (d:Option Nat):On E.P F ι K (s.put d (.tuple [])) (a.put d undef) w:=by
 have:=qaik (base:=0) (P:=E.P) (v:=.tuple []) (u:=[]) (x:=undef) h h.inv (Stp.refl F ι K s.heap w) ⟨[undef],by unfold AVC;exact ⟨[],rfl,by simp [AVCs]⟩,rfl⟩ d
 cases d <;> exact this
theorem qaec {all:List Oper} (h:On E.P F ι K s a w) {j:Nat} {want:Bool} (hg:o.guard=some (j,want)) {d:Nat} (hd:guardTmp all o=some d) {b:Bool} (hb:getT s.tmps d = .val .bool b) :
  Region.wanted o (yielded all.toArray a.tmps)=(b==want):=by
 have hj:(all[j]?).bind (·.dst)=some d:=by unfold guardTmp at hd;rw [hg] at hd;exact hd
 have hv:=h.slots.2 d
 rw [hb] at hv
 have hv:a.tmps.getD d undef = .bool b:=qa5.1 (qaf.1 hv)
 have hget:a.tmps[d]? = some (.bool b):=by
  rw [Array.getD_eq_getD_getElem?] at hv
  cases hx:a.tmps[d]? with
  | none=>rw [hx] at hv;simp [undef] at hv
  | some x=>rw [hx] at hv;simp at hv;rw [hv]
 unfold Region.wanted yielded
 rw [hg]
 simp only [List.getElem?_toArray,hj,Option.bind_some,hget]
 cases b <;> cases want <;> rfl
theorem qaax {all:List Oper} (h:On E.P F ι K s a w) {j:Nat} {want:Bool} (hg:o.guard=some (j,want)) {d:Nat} (hd:guardTmp all o=some d) (hb:getT s.tmps d = .tuple []) :
  Region.wanted o (yielded all.toArray a.tmps)=false:=by
 have hj:(all[j]?).bind (·.dst)=some d:=by unfold guardTmp at hd;rw [hg] at hd;exact hd
 have hv:=h.slots.2 d
 rw [hb] at hv
 obtain ⟨cs,hc,hval⟩:=hv
 simp only [AVC] at hc
 obtain ⟨xs,rfl,hxs⟩:=hc
 have hv:a.tmps.getD d undef = .tuple xs.toArray:=by simpa [ValOf,AV.agg] using hval.symm
 unfold Region.wanted yielded
 rw [hg]
 simp only [List.getElem?_toArray,hj,Option.bind_some]
 rw [Array.getD_eq_getD_getElem?] at hv
 cases hx:a.tmps[d]? with
 | none=>rfl
 | some x=>rw [hx] at hv;simp at hv;subst hv;rfl
theorem qye {l:List Oper} {o:Oper} (ho:o∈l) : ∀ e,o.dst=some e→e∈l.filterMap (·.dst):=fun e he=>List.mem_filterMap.2 ⟨o,ho,he⟩
theorem qac6 (hE:EnvS E F) {A:Type} {r:A} {all:List Oper} {k:St→List (Oper×Rec)→Option A} {Q:Exit→Act→World→Prop} {s0:St} {a0:Act} {w0:World} {ι0:Nat→Inf} {K0:Nat→Prop}
  (hQ : ∀ s' rc ι' K' a' w',k s' rc=some r→On E.P F ι' K' s' a' w'→Stp F ι0 ι' K0 K' s0.heap s'.heap w0 w'→Agree (all.filterMap (·.dst)) s0 s' a0 a'→s'.next=s0.next→(∀ b,K' b→b<s0.next+wide*all.length)→Q .normal a' w') :
  ∀ (rest pre:List Oper) (s:St) (rc:List (Oper×Rec)) (a:Act) (w:World) (ι:Nat→Inf) (K:Nat→Prop),all=pre++rest→ops E false all rest pre.length s rc k=some r→On E.P F ι K s a w→Stp F ι0 ι K0 K s0.heap s.heap w0 w→Agree (all.filterMap (·.dst)) s0 s a0 a→s.next=s0.next →
   (∀ b,K b→b<s0.next+wide*pre.length)→wpOps E.P all.toArray Q (List.range' pre.length rest.length) a w
 | [],pre,s,rc,a,w,ι,K,hall,h,hon,hst,hag,hnx,hK=>by
  simp only [ops] at h
  subst hall
  exact hQ s rc ι K a w h hon hst hag hnx (by simpa using hK)
 | o :: rest,pre,s,rc,a,w,ι,K,hall,h,hon,hst,hag,hnx,hK=>by
  have hmem:o∈all:=by rw [hall];simp
  have hget:all.toArray[pre.length]? = some o:=by rw [List.getElem?_toArray,hall];simp
  have hlen:(pre++[o]).length=pre.length+1:=by simp
  have hall':all=(pre++[o])++rest:=by rw [hall];simp
  have hmul:wide*(pre.length+1)=wide*pre.length+wide:=by rw [Nat.mul_add,Nat.mul_one]
  have hskip : ∀ rc',ops E false all rest (pre.length+1) (s.put o.dst (.tuple [])) rc' k=some r→wpOps E.P all.toArray Q (List.range' (pre.length+1) rest.length) (a.put o.dst undef) w:=by
   intro rc' h'
   have:=qac6 hE hQ rest (pre++[o]) (s.put o.dst (.tuple [])) rc' (a.put o.dst undef) w ι K hall' (by rw [hlen];exact h') (qaim hon o.dst) (by
     have e1:(s.put o.dst (.tuple [])).heap=s.heap:=by cases o.dst <;> rfl
     rw [e1];exact hst) (hag.trans (by
     have:=qxx (s:=s) (a:=a) o.dst (.tuple []) [] undef (qye hmem)
     cases hd:o.dst <;> rw [hd] at this <;> exact this)) (by cases o.dst <;> exact hnx) (fun b hb=>by have:=hK b hb;rw [hlen,hmul];omega)
   rw [hlen] at this
   exact this
  have hdo : ∀ s',s'=s → ∀ (k':St→Rec→Option A),(∀ s2 q,k' s2 q=ops E false all rest (pre.length+1) s2 ((o,q) :: rc) k)→step E false o pre.length s' k'=some r→o.wp E.P a w (wpOps E.P all.toArray Q (List.range' (pre.length+1) rest.length)) Q:=by
   rintro s' rfl k' hk' h'
   simp only [step,cond_false] at h'
   refine qaig hE hon (base:=s'.next+wide*pre.length) (fun b h1 h2 hk=>by have:=hK b hk;omega) (RM.run_wp h') ?_
   intro v u rs ι' K' x w' hΨ hon' hst' hK'
   rw [hk'] at hΨ
   have:=qac6 hE hQ rest (pre++[o]) _ _ (a.put o.dst x) w' ι' K' hall' (by rw [hlen];exact hΨ) hon' (hst.trans hst') (hag.trans (qxx o.dst v u x (qye hmem))) (by cases o.dst <;> exact hnx) (fun b hb=>by
    rw [hlen,hmul]
    rcases hK' b hb with h1 | h1
    ·have:=hK b h1;omega
    ·omega)
   rw [hlen] at this
   exact this
  rw [show (o :: rest).length=rest.length+1 from rfl,List.range'_succ]
  simp only [wpOps,hget]
  unfold ops at h
  split at h
  ·rename_i hg
   have hw:Region.wanted o (yielded all.toArray a.tmps)=true:=by unfold Region.wanted;rw [hg]
   rw [if_pos hw]
   exact .inl (hdo s rfl _ (fun _ _=>rfl) h)
  ·rename_i j want hg
   split at h
   ·simp at h
   ·rename_i d hd
    split at h
    ·rename_i b hb
     obtain ⟨b,rfl⟩ : ∃ b':Bool,b'=b:=⟨b,rfl⟩
     have hw:=qaec hon hg hd hb
     rw [hw]
     cases b <;> cases want <;> simp only [cond_true,cond_false] at h <;> rw [qaeu _ _ hb] at h
     ·rw [if_pos (by rfl)];exact .inl (hdo s rfl _ (fun _ _=>rfl) h)
     ·rw [if_neg (by simp)];exact hskip _ h
     ·rw [if_neg (by simp)];exact hskip _ h
     ·rw [if_pos (by rfl)];exact .inl (hdo s rfl _ (fun _ _=>rfl) h)
    ·rename_i hb
     have hw:=qaax hon hg hd hb
     rw [hw,if_neg (by simp)]
     exact hskip _ h
    ·simp at h
end
end Go.Tm
namespace Go.Tm
open Go
def RM.val {α:Type} (H:Heap):RM α→List Nat→Option (α×List Nat)
 | .ret a,rs=>some (a,rs)
 | .fail,_=>none
 | .get b f,rs=>match look H b with | some x=>(f x).val H (b :: rs) | none=>none
 | .opt _ o f,rs=>o.bind fun y=>(f y).val H rs
 | .br c x y,rs=>cond c (x.val H rs) (y.val H rs)
 | .all _ _,_=>none
theorem RM.runD_val {α A:Type} {H:Heap} : ∀ (m:RM α) (rs:List Nat) (k:α→List Nat→Option A),m.runD H rs k=(m.val H rs).bind fun p=>k p.1 p.2
 | .ret _,_,_=>rfl
 | .fail,_,_=>rfl
 | .get b f,rs,k=>by
  simp only [RM.runD,RM.val]
  cases look H b with
  | none=>rfl
  | some x=>exact RM.runD_val (f x) (b :: rs) k
 | .opt _ o f,rs,k=>by
  simp only [RM.runD,RM.val]
  cases o with
  | none=>rfl
  | some y=>exact RM.runD_val (f y) rs k
 | .br c x y,rs,k=>by
  simp only [RM.runD,RM.val]
  cases c with
  | true=>exact RM.runD_val x rs k
  | false=>exact RM.runD_val y rs k
 | .all _ _,_,_=>rfl
theorem RM.val_wp {α:Type} {H:Heap} {x:α} {r:List Nat} : ∀ {m:RM α} {rs:List Nat},m.val H rs=some (x,r)→m.wp H rs fun a q=>a=x∧q=r
 | .ret a,rs,h=>by simp only [RM.val,Option.some.injEq,Prod.mk.injEq] at h;exact h
 | .fail,rs,h=>by simp [RM.val] at h
 | .get b f,rs,h=>by
  simp only [RM.val] at h
  split at h
  ·rename_i y hy;exact ⟨y,hy,RM.val_wp h⟩
  ·simp at h
 | .opt _ o f,rs,h=>by
  simp only [RM.val] at h
  cases o with
  | none=>simp at h
  | some y=>exact ⟨y,rfl,RM.val_wp h⟩
 | .br c a b,rs,h=>by
  simp only [RM.val] at h
  cases c with
  | true=>exact .inl ⟨rfl,RM.val_wp h⟩
  | false=>exact .inr ⟨rfl,RM.val_wp h⟩
 | .all _ _,rs,h=>by simp [RM.val] at h
theorem RM.val_sub {α:Type} {H:Heap} {x:α} {r:List Nat} : ∀ {m:RM α} {rs:List Nat},m.val H rs=some (x,r) → ∀ b∈rs,b∈r
 | .ret a,rs,h=>by simp only [RM.val,Option.some.injEq,Prod.mk.injEq] at h;rw [h.2];exact fun _ hb=>hb
 | .fail,rs,h=>by simp [RM.val] at h
 | .get b f,rs,h=>by
  simp only [RM.val] at h
  split at h
  ·exact fun c hc=>RM.val_sub h c (List.mem_cons_of_mem _ hc)
  ·simp at h
 | .opt _ o f,rs,h=>by
  simp only [RM.val] at h
  cases o with
  | none=>simp at h
  | some y=>exact RM.val_sub (m:=f y) h
 | .br c a b,rs,h=>by
  simp only [RM.val] at h
  cases c with
  | true=>exact RM.val_sub (m:=a) h
  | false=>exact RM.val_sub (m:=b) h
 | .all _ _,rs,h=>by simp [RM.val] at h
theorem RM.val_local {α:Type} {H H':Heap} {x:α} {r:List Nat} : ∀ {m:RM α} {rs:List Nat},m.val H rs=some (x,r)→(∀ b∈r,look H' b=look H b)→m.val H' rs=some (x,r)
 | .ret a,rs,h,_=>h
 | .fail,rs,h,_=>h
 | .get b f,rs,h,hl=>by
  simp only [RM.val] at h ⊢
  split at h
  ·rename_i y hy
   rw [hl b (RM.val_sub h b List.mem_cons_self),hy]
   exact RM.val_local h hl
  ·simp at h
 | .opt _ o f,rs,h,hl=>by
  simp only [RM.val] at h ⊢
  cases o with
  | none=>simp at h
  | some y=>exact RM.val_local (m:=f y) h hl
 | .br c a b,rs,h,hl=>by
  simp only [RM.val] at h ⊢
  cases c with
  | true=>exact RM.val_local (m:=a) h hl
  | false=>exact RM.val_local (m:=b) h hl
 | .all _ _,rs,h,_=>h
theorem quc {ρ ρ':Operand→AV} : ∀ {xs:List Operand},(∀ x∈xs,ρ x=ρ' x)→xs.map ρ=xs.map ρ'
 | [],_=>rfl
 | x :: r,h=>by rw [List.map_cons,List.map_cons,h x List.mem_cons_self,quc fun y hy=>h y (List.mem_cons_of_mem _ hy)]
theorem qxm {ρ ρ':Operand→AV} : ∀ {xs:List (Nat×Operand)},(∀ x∈xs.map (·.2),ρ x=ρ' x)→(xs.map fun (i,x)=>(i,ρ x))=xs.map fun (i,x)=>(i,ρ' x)
 | [],_=>rfl
 | (i,x) :: r,h=>by
  rw [List.map_cons,List.map_cons,qxm fun y hy=>h y (List.mem_cons_of_mem _ hy)]
  simp only [h x List.mem_cons_self]
theorem qai6 (E:Env) (o:Op) {ρ ρ':Operand→AV} (base:Nat) (h : ∀ x∈o.operands.toList,ρ x=ρ' x):exec E o ρ base=exec E o ρ' base:=by
 cases o
 case build t ps=>simp only [exec];rw [qxm (ρ:=ρ) (ρ':=ρ') (by simpa [Op.operands] using h)]
 case buildSlice t n ps=>simp only [exec];rw [qxm (ρ:=ρ) (ρ':=ρ') (by simpa [Op.operands] using h)]
 case makeFunc f a b =>
  cases f <;> simp only [exec]
  rw [quc (ρ:=ρ) (ρ':=ρ') (xs:=a.toList) (fun x hx=>h x (by simp [Op.operands];exact .inl (by simpa using hx))),quc (ρ:=ρ) (ρ':=ρ') (xs:=b.toList) (fun x hx=>h x (by simp [Op.operands];exact .inr (by simpa using hx)))]
 case slice t x lo hi mx =>
  cases mx <;> simp only [exec]
  have h1:oInt ρ lo=oInt ρ' lo:=by
   cases lo with
   | none=>rfl
   | some y=>simp only [oInt];rw [h y (by simp [Op.operands])]
  have h2:oInt ρ hi=oInt ρ' hi:=by
   cases hi with
   | none=>rfl
   | some y=>simp only [oInt];rw [h y (by simp [Op.operands])]
  rw [h1,h2,h x (by simp [Op.operands])]
 case call c =>
  obtain ⟨callee,as,ts⟩:=c
  have hmap:(∀ x∈as.toList,ρ x=ρ' x):=fun x hx=>h x (by cases callee <;> simp [Op.operands,Call.operands] <;> first | exact .inr (by simpa using hx) | simpa using hx)
  cases callee with
  | value f =>
   have hf:ρ f=ρ' f:=h f (by simp [Op.operands,Call.operands])
   simp only [exec]
   rw [hf,quc hmap]
  | builtin b =>
   cases b <;> first | rfl | simp only [exec]
   case append =>
    split
    ·rename_i e1 _;rw [hmap _ (by rw [e1];simp),hmap _ (by rw [e1];simp)]
    ·rfl
   case copy =>
    split
    ·rename_i e1 _;rw [hmap _ (by rw [e1];simp),hmap _ (by rw [e1];simp)]
    ·rfl
   case len =>
    split
    ·rename_i e1 _;rw [hmap _ (by rw [e1];simp)]
    ·rfl
   case max=>rw [quc hmap]
   case min=>rw [quc hmap]
  | invoke _ _=>rfl
 all_goals first | rfl | (simp only [Op.operands,List.mem_cons,List.not_mem_nil,or_false,forall_eq_or_imp,forall_eq] at h;simp only [exec,h])
theorem qam3 {l l':Tmps} {o:Op} (h : ∀ t∈opTmps o,getT l' t=getT l t) : ∀ x∈o.operands.toList,rd l' x=rd l x:=by
 intro x hx
 cases x with
 | tmp t=>exact h t (List.mem_filterMap.2 ⟨_,hx,rfl⟩)
 | _=>rfl
end Go.Tm
namespace Go.Tm
open Go
abbrev Eff:=Option ((AV×Heap)×List Nat)
def recOf:Eff→Rec
 | none=>⟨[],[]⟩
 | some (r,rs)=>⟨rs,r.2.map (·.1)⟩
def St.eff (s:St) (o:Oper):Eff→St
 | none=>s.put o.dst (.tuple [])
 | some (r,_)=>(s.put o.dst r.1).upd r.2
noncomputable def opVal (E:Env) (all:List Oper) (o:Oper) (i:Nat) (s:St):Option Eff :=
 match o.guard with
 | none=>((exec E o.op (rd s.tmps) (s.next+wide*i)).val s.heap []).map some
 | some (_,want) =>
  match guardTmp all o with
  | none=>none
  | some d =>
   match getT s.tmps d with
   | .val .bool b=>cond b (cond want (((exec E o.op (rd s.tmps) (s.next+wide*i)).val s.heap []).map some) (some none)) (cond want (some none) (((exec E o.op (rd s.tmps) (s.next+wide*i)).val s.heap []).map some))
   | .tuple []=>some none
   | _=>none
inductive Chain (E:Env) (all:List Oper):List Oper→Nat→St→List Eff→St→Prop
 | nil (i:Nat) (s:St):Chain E all [] i s [] s
 | cons {o:Oper} {r:List Oper} {i:Nat} {s s':St} {e:Eff} {es:List Eff} : opVal E all o i s=some e→Chain E all r (i+1) (s.eff o e) es s'→Chain E all (o :: r) i s (e :: es) s'
theorem qxt (E:Env) (all:List Oper) {A:Type} {r:A} {k:St→List (Oper×Rec)→Option A} : ∀ (rest:List Oper) (i:Nat) (s:St) (rc:List (Oper×Rec)),ops E true all rest i s rc k=some r →
  ∃ es s',Chain E all rest i s es s'∧es.length=rest.length∧k s' ((List.zipWith (fun o e=>(o,recOf e)) rest es).reverse++rc)=some r
 | [],i,s,rc,h=>⟨[],s,.nil i s,rfl,h⟩
 | o :: rest,i,s,rc,h=>by
  have hdo : ∀ s',s'=s→step E true o i s' (fun s2 q=>ops E true all rest (i+1) s2 ((o,q) :: rc) k)=some r→(opVal E all o i s=((exec E o.op (rd s.tmps) (s.next+wide*i)).val s.heap []).map some) →
    ∃ es s',Chain E all (o :: rest) i s es s'∧es.length=(o :: rest).length∧k s' ((List.zipWith (fun o e=>(o,recOf e)) (o :: rest) es).reverse++rc)=some r:=by
   rintro s' rfl h' hv
   simp only [step,cond_true] at h'
   rw [RM.runD_val] at h'
   cases hx:(exec E o.op (rd s'.tmps) (s'.next+wide*i)).val s'.heap [] with
   | none=>rw [hx] at h';simp at h'
   | some p =>
    rw [hx] at h'
    rw [hx] at hv
    simp only [Option.bind_some] at h'
    obtain ⟨es,s2,h1,h2,h3⟩:=qxt E all rest (i+1) _ _ h'
    refine ⟨some p :: es,s2,.cons hv h1,by simp [h2],?_⟩
    simpa [recOf] using h3
  have hskip:ops E true all rest (i+1) (s.put o.dst (.tuple [])) ((o,⟨[],[]⟩) :: rc) k=some r→opVal E all o i s=some none →
    ∃ es s',Chain E all (o :: rest) i s es s'∧es.length=(o :: rest).length∧k s' ((List.zipWith (fun o e=>(o,recOf e)) (o :: rest) es).reverse++rc)=some r:=by
   intro h' hv
   obtain ⟨es,s2,h1,h2,h3⟩:=qxt E all rest (i+1) _ _ h'
   refine ⟨none :: es,s2,.cons hv h1,by simp [h2],?_⟩
   simpa [recOf] using h3
  unfold ops at h
  split at h
  ·rename_i hg
   exact hdo s rfl h (by unfold opVal;rw [hg])
  ·rename_i j want hg
   split at h
   ·simp at h
   ·rename_i d hd
    split at h
    ·rename_i b hb
     obtain ⟨b,rfl⟩ : ∃ b':Bool,b'=b:=⟨b,rfl⟩
     cases b <;> cases want <;> simp only [cond_true,cond_false] at h <;> rw [qaeu _ _ hb] at h
     ·exact hdo s rfl h (by unfold opVal;simp only [hg,hd,hb,cond_true,cond_false])
     ·exact hskip h (by unfold opVal;simp only [hg,hd,hb,cond_true,cond_false])
     ·exact hskip h (by unfold opVal;simp only [hg,hd,hb,cond_true,cond_false])
     ·exact hdo s rfl h (by unfold opVal;simp only [hg,hd,hb,cond_true,cond_false])
    ·rename_i hb
     exact hskip h (by unfold opVal;simp only [hg,hd,hb])
    ·simp at h
def foldD (D:Nat→Bool):List (Oper×Eff)→Nat→St→St
 | [],_,s=>s
 | (o,e) :: r,i,s=>foldD D r (i+1) (bif D i then s.eff o e else s)
theorem qal6 (s:St) (o:Oper) (e:Eff):(s.eff o e).next=s.next:=by
 cases e <;> (unfold St.eff St.put;cases o.dst <;> rfl)
theorem qj9 (s:St) (o:Oper) (e:Eff):(s.eff o e).tmps.length=s.tmps.length:=by
 cases e <;> (unfold St.eff St.put;cases o.dst <;> first | rfl | exact qfg _ _ _)
theorem qlr (s:St) (o:Oper) (e:Eff) (t:Nat) (h:o.dst≠some t):getT (s.eff o e).tmps t=getT s.tmps t:=by
 have : ∀ v,getT (s.put o.dst v).tmps t=getT s.tmps t:=by
  intro v
  cases hd:o.dst with
  | none=>rfl
  | some d =>
   show getT (setT s.tmps d v) t=_
   rw [qbs,if_neg]
   rintro ⟨rfl,_⟩;exact h hd
 cases e with
 | none=>exact this _
 | some p=>exact this _
theorem qlq (s:St) (o:Oper) (e:Eff) (b:Nat) (h:b∉(recOf e).writes):look (s.eff o e).heap b=look s.heap b:=by
 have hp : ∀ v,(s.put o.dst v).heap=s.heap:=by intro v;cases o.dst <;> rfl
 cases e with
 | none=>show look (s.put o.dst _).heap b=_;rw [hp]
 | some p =>
  show look (p.1.2++(s.put o.dst p.1.1).heap) b=_
  rw [qgm h,hp]
theorem qu9 (s s':St) (o:Oper) (e:Eff) (t:Nat) (h:getT s.tmps t=getT s'.tmps t) (hl:s.tmps.length=s'.tmps.length):getT (s.eff o e).tmps t=getT (s'.eff o e).tmps t:=by
 have : ∀ v,getT (s.put o.dst v).tmps t=getT (s'.put o.dst v).tmps t:=by
  intro v
  cases hd:o.dst with
  | none=>exact h
  | some d =>
   show getT (setT s.tmps d v) t=getT (setT s'.tmps d v) t
   rw [qbs,qbs,hl,h]
 cases e with
 | none=>exact this _
 | some p=>exact this _
theorem qr8 (s s':St) (o:Oper) (e:Eff) (b:Nat) (h:look s.heap b=look s'.heap b):look (s.eff o e).heap b=look (s'.eff o e).heap b:=by
 have hp : ∀ (s:St) v,(s.put o.dst v).heap=s.heap:=by intro s v;cases o.dst <;> rfl
 cases e with
 | none=>show look (s.put o.dst _).heap b=look (s'.put o.dst _).heap b;rw [hp,hp];exact h
 | some p =>
  show look (p.1.2++(s.put o.dst p.1.1).heap) b=look (p.1.2++(s'.put o.dst p.1.1).heap) b
  rw [qk6,qk6,hp,hp,h]
theorem qpf (D:Nat→Bool) : ∀ (L:List (Oper×Eff)) (i:Nat) (s:St),(foldD D L i s).next=s.next
 | [],_,_=>rfl
 | (o,e) :: r,i,s=>by
  simp only [foldD]
  rw [qpf D r]
  cases D i <;> first | rfl | exact qal6 _ _ _
theorem qo0 (D:Nat→Bool) : ∀ (L:List (Oper×Eff)) (i:Nat) (s:St),(foldD D L i s).tmps.length=s.tmps.length
 | [],_,_=>rfl
 | (o,e) :: r,i,s=>by
  simp only [foldD]
  rw [qo0 D r]
  cases D i <;> first | rfl | exact qj9 _ _ _
theorem qw9 {D D':Nat→Bool} {t:Nat} : ∀ {L:List (Oper×Eff)} {i:Nat} {s s':St},(∀ n o e,L[n]? = some (o,e)→o.dst=some t→D (i+n)=D' (i+n))→getT s.tmps t=getT s'.tmps t→s.tmps.length=s'.tmps.length →
  getT (foldD D L i s).tmps t=getT (foldD D' L i s').tmps t
 | [],_,_,_,_,h,_=>h
 | (o,e) :: r,i,s,s',hD,h,hl=>by
  simp only [foldD]
  refine qw9 (fun n o' e' hn hd => ?_) ?_ ?_
  ·have:=hD (n+1) o' e' (by simpa using hn) hd
   rw [show i+1+n=i+(n+1) by omega];exact this
  ·by_cases hd:o.dst=some t
   ·have:=hD 0 o e rfl hd
    simp only [Nat.add_zero] at this
    rw [this]
    cases D' i with
    | true=>exact qu9 s s' o e t h hl
    | false=>exact h
   ·cases D i <;> cases D' i <;> simp only [cond_true,cond_false]
    ·exact h
    ·rw [qlr s' o e t hd];exact h
    ·rw [qlr s o e t hd];exact h
    ·exact qu9 s s' o e t h hl
  ·cases D i <;> cases D' i <;> simp only [cond_true,cond_false,qj9] <;> exact hl
theorem qw8 {D D':Nat→Bool} {b:Nat} : ∀ {L:List (Oper×Eff)} {i:Nat} {s s':St},(∀ n o e,L[n]? = some (o,e)→b∈(recOf e).writes→D (i+n)=D' (i+n))→look s.heap b=look s'.heap b →
  look (foldD D L i s).heap b=look (foldD D' L i s').heap b
 | [],_,_,_,_,h=>h
 | (o,e) :: r,i,s,s',hD,h=>by
  simp only [foldD]
  refine qw8 (fun n o' e' hn hd => ?_) ?_
  ·have:=hD (n+1) o' e' (by simpa using hn) hd
   rw [show i+1+n=i+(n+1) by omega];exact this
  ·by_cases hd:b∈(recOf e).writes
   ·have:=hD 0 o e rfl hd
    simp only [Nat.add_zero] at this
    rw [this]
    cases D' i with
    | true=>exact qr8 s s' o e b h
    | false=>exact h
   ·cases D i <;> cases D' i <;> simp only [cond_true,cond_false]
    ·exact h
    ·rw [qlq s' o e b hd];exact h
    ·rw [qlq s o e b hd];exact h
    ·exact qr8 s s' o e b h
theorem qvd (D:Nat→Bool) : ∀ (L M:List (Oper×Eff)) (i:Nat) (s:St),foldD D (L++M) i s=foldD D M (i+L.length) (foldD D L i s)
 | [],M,i,s=>rfl
 | (o,e) :: L,M,i,s=>by
  simp only [List.cons_append,foldD,List.length_cons]
  rw [qvd D L M,show i+1+L.length=i+(L.length+1) by omega]
theorem qafx {E:Env} {all:List Oper} : ∀ {rest:List Oper} {i:Nat} {s s':St} {es:List Eff},Chain E all rest i s es s' →
  (foldD (fun _=>true) (rest.zip es) i s=s') ∧ ∀ n o e,(rest.zip es)[n]? = some (o,e)→opVal E all o (i+n) (foldD (fun m=>decide (m<i+n)) (rest.zip es) i s)=some e
 | [],i,s,s',es,h=>by
  cases h
  exact ⟨rfl,fun n o e hn=>by simp at hn⟩
 | o :: rest,i,s,s',es,h=>by
  cases h with
  | cons hv hc =>
  rename_i e es
  obtain ⟨h1,h2⟩:=qafx hc
  refine ⟨h1,fun n o' e' hn => ?_⟩
  cases n with
  | zero =>
   simp only [List.zip_cons_cons,List.getElem?_cons_zero,Option.some.injEq,Prod.mk.injEq] at hn
   obtain ⟨rfl,rfl⟩:=hn
   have hno : ∀ (L:List (Oper×Eff)) (j:Nat) (s:St),i≤j→foldD (fun m=>decide (m<i+0)) L j s=s:=by
    intro L
    induction L with
    | nil=>intros;rfl
    | cons p L ih =>
     intro j s hj
     obtain ⟨o,e⟩:=p
     simp only [foldD]
     rw [show decide (j<i+0)=false by simp;omega]
     exact ih (j+1) s (by omega)
   rw [hno _ _ _ (Nat.le_refl i)]
   exact hv
  | succ n =>
   have:=h2 n o' e' (by simpa using hn)
   simp only [List.zip_cons_cons,foldD]
   rw [show decide (i<i+(n+1))=true by simp]
   rw [show i+1+n=i+(n+1) by omega] at this
   exact this
theorem qahp {E:Env} {all:List Oper} {o:Oper} {i:Nat} {s s':St} {e:Eff} (h:opVal E all o i s=some e) (ht : ∀ t∈looks all o,getT s'.tmps t=getT s.tmps t) (hn:s'.next=s.next) (hb : ∀ b∈(recOf e).reads,look s'.heap b=look s.heap b) :
  opVal E all o i s'=some e:=by
 have hx:exec E o.op (rd s'.tmps) (s'.next+wide*i)=exec E o.op (rd s.tmps) (s.next+wide*i):=by
  rw [hn]
  exact qai6 E o.op _ (qam3 fun t hm=>ht t (List.mem_append_right _ hm))
 have hval:((exec E o.op (rd s.tmps) (s.next+wide*i)).val s.heap []).map some=some e→((exec E o.op (rd s'.tmps) (s'.next+wide*i)).val s'.heap []).map some=some e:=by
  intro hv
  rw [hx]
  cases hm:(exec E o.op (rd s.tmps) (s.next+wide*i)).val s.heap [] with
  | none=>rw [hm] at hv;simp at hv
  | some p =>
   rw [hm] at hv
   simp only [Option.map_some,Option.some.injEq] at hv
   subst hv
   rw [RM.val_local hm hb];rfl
 unfold opVal at h ⊢
 split at h
 ·exact hval h
 ·rename_i j want hg
  split at h
  ·simp at h
  ·rename_i d hd
   have hgd:getT s'.tmps d=getT s.tmps d:=ht d (by unfold looks;rw [hd];simp)
   rw [hgd]
   split at h
   ·rename_i b hbb
    obtain ⟨b,rfl⟩ : ∃ b':Bool,b'=b:=⟨b,rfl⟩
    cases b <;> cases want
    ·exact hval h
    ·exact h
    ·exact h
    ·exact hval h
   ·rename_i hbb
    exact h
   ·simp at h
end Go.Tm
namespace Go.Tm
open Go
def Closed (all:List Oper) (D:Nat→Bool):Prop:=∀ (j:Nat) (o:Oper),all[j]? = some o→D j=true → ∀ e∈o.after.toList,Region.binds .any e=true→D e.on=true
theorem qanq (x i:Nat):(x >>> i%2==1)=x.testBit i:=by
 rw [Nat.testBit_eq_decide_div_mod_eq,Nat.shiftRight_eq_div_pow]
 cases h:(x/2^i%2==1) <;> simp_all
theorem qaea (acc:List Nat) : ∀ (es:List Edge) (m i:Nat),(es.foldl (fun m e=>bif Region.binds .any e then m ||| (1 <<< e.on) ||| acc.getD e.on 0 else m) m).testBit i=true →
  m.testBit i=true ∨ ∃ e∈es,Region.binds .any e=true∧(i=e.on∨(acc.getD e.on 0).testBit i=true)
 | [],m,i,h => .inl h
 | e :: es,m,i,h=>by
  simp only [List.foldl_cons] at h
  rcases qaea acc es _ i h with h | ⟨e',he',hb,hx⟩
  ·cases hb:Region.binds .any e with
   | false=>rw [hb] at h;exact .inl h
   | true =>
    rw [hb] at h
    simp only [cond_true,Nat.testBit_or,Bool.or_eq_true] at h
    rcases h with (h | h) | h
    ·exact .inl h
    ·refine .inr ⟨e,List.mem_cons_self,hb,.inl ?_⟩
     rw [Nat.one_shiftLeft,Nat.testBit_two_pow] at h
     simpa using (show e.on=i by simpa using h).symm
    ·exact .inr ⟨e,List.mem_cons_self,hb,.inr h⟩
  ·exact .inr ⟨e',List.mem_cons_of_mem _ he',hb,hx⟩
theorem qah2 {all:List Oper} {D:Nat→Bool} (hD:Closed all D) : ∀ (rest:List Oper) (pre:List Oper) (acc:List Nat),all=pre++rest→acc.length=pre.length→(∀ j i,(acc.getD j 0).testBit i=true→D j=true→D i=true) →
  ∀ j i,((ancs rest acc).getD j 0).testBit i=true→D j=true→D i=true
 | [],pre,acc,hall,hl,hacc=>hacc
 | o :: rest,pre,acc,hall,hl,hacc=>by
  refine qah2 hD rest (pre++[o]) _ (by rw [hall];simp) (by simp [hl]) fun j i hb hj => ?_
  rcases Nat.lt_trichotomy j acc.length with h | h | h
  ·rw [List.getD_eq_getElem?_getD,List.getElem?_append_left h,← List.getD_eq_getElem?_getD] at hb
   exact hacc j i hb hj
  ·subst h
   rw [List.getD_eq_getElem?_getD,List.getElem?_append_right (Nat.le_refl _)] at hb
   simp only [Nat.sub_self,List.getElem?_cons_zero,Option.getD_some] at hb
   rcases qaea acc _ _ _ hb with h | ⟨e,he,hbe,hx⟩
   ·simp at h
   ·have hon:=hD acc.length o (by rw [hall,hl];simp) hj e he hbe
    rcases hx with rfl | hx
    ·exact hon
    ·exact hacc _ _ hx hon
  ·rw [List.getD_eq_getElem?_getD,List.getElem?_eq_none (by simp;omega)] at hb
   simp at hb
theorem qww {all:List Oper} {D:Nat→Bool} (hD:Closed all D) {j i:Nat} (h:((ancs all []).getD j 0 >>> i%2==1)=true) (hj:D j=true):D i=true:=by
 rw [qanq] at h
 exact qah2 hD all [] [] rfl rfl (fun j i hb _=>by simp at hb) j i h hj
theorem qab0 {all:List Oper} {b:Oper} {rb:Rec} {j:Nat} : ∀ {l:List (Oper×Rec)} {k:Nat},pairsOk all b rb j l k=true → ∀ n a ra,l[n]? = some (a,ra)→edgeTo (k+n) b=true∨indep all a b ra rb=true∨((ancs all []).getD j 0 >>> (k+n)%2==1)=true
 | [],_,_,n,a,ra,h=>by simp at h
 | (a0,r0) :: l,k,h,n,a,ra,hn=>by
  simp only [pairsOk,Bool.and_eq_true,Bool.or_eq_true] at h
  cases n with
  | zero =>
   simp only [List.getElem?_cons_zero,Option.some.injEq,Prod.mk.injEq] at hn
   obtain ⟨rfl,rfl⟩:=hn
   rcases h.1 with (h | h) | h
   ·exact .inl h
   ·exact .inr (.inl h)
   ·exact .inr (.inr h)
  | succ n =>
   have:=qab0 h.2 n a ra (by simpa using hn)
   rw [show k+1+n=k+(n+1) by omega] at this
   exact this
theorem qpc {all:List Oper} : ∀ {l done:List (Oper×Rec)} {j:Nat},drawOk all l done j=true→done.length=j → ∀ m b rb,l[m]? = some (b,rb) →
  (∀ e∈b.after.toList,Region.binds .any e=true→e.on<j+m) ∧ ∀ n a ra,n<j+m→(done++l)[n]? = some (a,ra)→edgeTo n b=true∨indep all a b ra rb=true∨((ancs all []).getD (j+m) 0 >>> n%2==1)=true
 | [],_,_,_,_,m,b,rb,h=>by simp at h
 | (b0,r0) :: l,done,j,h,hl,m,b,rb,hm=>by
  simp only [drawOk,Bool.and_eq_true] at h
  cases m with
  | zero =>
   simp only [List.getElem?_cons_zero,Option.some.injEq,Prod.mk.injEq] at hm
   obtain ⟨rfl,rfl⟩:=hm
   refine ⟨fun e he hb => ?_,fun n a ra hn hna => ?_⟩
   ·have:=List.all_eq_true.1 h.1.1 e he
    rw [hb] at this
    have:=Nat.le_of_ble_eq_true (by simpa using this)
    omega
   ·rw [List.getElem?_append_left (by omega)] at hna
    have:=qab0 h.1.2 n a ra hna
    simpa using this
  | succ m =>
   have:=qpc h.2 (by simp [hl]) m b rb (by simpa using hm)
   rw [show j+1+m=j+(m+1) by omega] at this
   refine ⟨this.1,fun n a ra hn hna=>this.2 n a ra hn (by simpa using hna)⟩
end Go.Tm
