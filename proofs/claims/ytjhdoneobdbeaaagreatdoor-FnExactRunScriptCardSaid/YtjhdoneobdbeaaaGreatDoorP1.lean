import Derived.Test.YtjhdoneobdbeaaaGreatDoorL
/- Functions of the program and of the reference in plain terms. -/
set_option linter.unusedSectionVars false
set_option linter.unusedSimpArgs false
set_option linter.unusedVariables false
namespace Go.Proofs.YtjhdoneobdbeaaaGreatDoor
open Go Go.Tm
section
theorem wrap_i64 {a:Int} (h : -9223372036854775808≤a) (h1:a≤9223372036854775807):iWrap .i64 a=a:=qpu h h1
theorem qog {a b:Int} : iLe a b=true↔a≤b:=by simp [iLe]
theorem qzv {a b:Int} : iLt a b=true↔a<b:=by simp [iLt]
theorem qg3 {a b:Int} : iEq a b=true↔a=b:=by simp [iEq]
theorem qg1:qa3=qb3:=rfl
theorem qcb (a b c:Int):qb3 a b c=some ((iLe b a&&iLe a c,()),()):=by
 unfold qb3
 cases iLe b a <;> rfl
theorem qakj (a b:Int):qk9 a b=some ((max a b,()),()):=by
 unfold qk9
 by_cases h:b<a
 ·rw [qah h,cond_true,Int.max_eq_left (by omega)]
 ·rw [qag h,cond_false,Int.max_eq_right (by omega)]
def finB (x:Nat):Bool:=fEq .f32 (fSub .f32 x x) 0
theorem qie (l:List Nat) (hl:l.length≤140737488355328):qcz l=some ((l.all finB,()),()):=by
 unfold qcz
 refine qka (fun i hi => ?_) ?_
 ·have e1:iLt (i:Int) (lenI l)=true:=qah (by rw [qaa];omega)
  have e2:inB (i:Int) l.length=true:=qae hi
  have e4:l.getD i (0:Nat)=l[i]:=qan hi
  have e5:iAdd .i64 (i:Int) 1=((i+1:Nat):Int):=qaq hi (by omega)
  simp only [qlv,e1,e2,e4,e5,Int.toNat_natCast,cond_true,finB]
  cases fEq .f32 (fSub .f32 l[i] l[i]) 0 <;> rfl
 ·have e1:iLt (l.length:Int) (lenI l)=false:=qag (by rw [qaa];omega)
  simp only [qlv,e1,cond_false]
  rfl
theorem qcu (x:Nat):qb9 x=some ((finB x,()),()):=rfl
def finV (v:Vec 3 Nat):Bool:=finB (Vec.getD 3 v 0 (0:Nat))&&(finB (Vec.getD 3 v 1 (0:Nat))&&finB (Vec.getD 3 v 2 (0:Nat)))
theorem qnz (v:Vec 3 Nat):qfo v=some ((finV v,()),()):=by
 simp only [qfo,qie [Vec.getD 3 v 0 (0:Nat),Vec.getD 3 v 1 (0:Nat),Vec.getD 3 v 2 (0:Nat)] (by simp),Option.bind_some,List.all_cons,List.all_nil,Bool.and_true,finV]
theorem quq (v:Vec 3 Nat):qlc v=some ((finV v,()),()):=by
 simp only [qlc,qcu,Option.bind_some,finV]
 cases finB (Vec.getD 3 v 0 (0:Nat)) <;> cases finB (Vec.getD 3 v 1 (0:Nat)) <;> rfl
theorem qxn (x:Nat):qsw x=some ((orNan .f64 (FloatKind.f64.format.sqrt x),()),()):=rfl
theorem qaf9 (x:Nat):qsn x=some ((rootF x,()),()):=by
 simp only [qsn,qxn,qe7,qagy,Option.bind_some]
theorem qaci (x:Nat):qng x=some ((rootF x,()),()):=by
 simp only [qng,qxn,qe7,qagy,Option.bind_some]
def sameN (a b:Nat):Bool:=bif isNan .f32 a then isNan .f32 b else bif isNan .f32 b then false else iEq (a:Int) (b:Int)
theorem qu2 {A:Type} {g:Nat→Nat→Option A} {a:A} (h : ∀ q r,g q r=some a):(allSame fun q=>allSame fun r=>g q r)=some a:=qh4 fun q=>qh4 fun r=>h q r
theorem qef (a b:Nat):qa6 a b=some ((sameN a b,()),()):=by
 simp only [qa6,qkh,qjs,Bool.not_not,Option.bind_some,sameN]
 cases ha:isNan .f32 a <;> cases hb:isNan .f32 b
 ·exact qu2 fun q r=>by rw [qoc ha,qoc hb];rfl
 ·exact qu2 fun q r=>by rw [qadt (by simp [ha,hb])];rfl
 ·exact qu2 fun q r=>by rw [qadt (by simp [ha,hb])];rfl
 ·rfl
theorem qgs (a b:Nat):qbl a b=some ((sameN a b,()),()):=by
 simp only [qbl,qjs,Bool.not_not,sameN]
 cases ha:isNan .f32 a <;> cases hb:isNan .f32 b
 ·exact qu2 fun q r=>by rw [qoc ha,qoc hb];rfl
 ·rfl
 ·rfl
 ·rfl
def sameV (a b:Vec 3 Nat):Bool:=sameN (Vec.getD 3 a 0 (0:Nat)) (Vec.getD 3 b 0 (0:Nat))&&(sameN (Vec.getD 3 a 1 (0:Nat)) (Vec.getD 3 b 1 (0:Nat))&&sameN (Vec.getD 3 a 2 (0:Nat)) (Vec.getD 3 b 2 (0:Nat)))
theorem qaa3 (a b:Vec 3 Nat):qmq a b=some ((sameV a b,()),()):=by
 simp only [qmq,qef,Option.bind_some,sameV]
 cases sameN (Vec.getD 3 a 0 (0:Nat)) (Vec.getD 3 b 0 (0:Nat)) <;> cases sameN (Vec.getD 3 a 1 (0:Nat)) (Vec.getD 3 b 1 (0:Nat)) <;> cases sameN (Vec.getD 3 a 2 (0:Nat)) (Vec.getD 3 b 2 (0:Nat)) <;> rfl
theorem qx4 (a b:Vec 3 Nat):qjh a b=some ((sameV a b,()),()):=by
 simp only [qjh,qgs,Option.bind_some,sameV]
 cases sameN (Vec.getD 3 a 0 (0:Nat)) (Vec.getD 3 b 0 (0:Nat)) <;> cases sameN (Vec.getD 3 a 1 (0:Nat)) (Vec.getD 3 b 1 (0:Nat)) <;> rfl
end
section
def splitC (c:UInt8):List UInt8→List (List UInt8)
 | []=>[[]]
 | b :: r=>if b=c then [] :: splitC c r else
   match splitC c r with
   | []=>[[b]]
   | l :: ls=>(b :: l) :: ls
theorem qh3 (c:UInt8) : ∀ s,splitC c s≠[]
 | []=>by simp [splitC]
 | b :: r=>by
  unfold splitC
  split
  ·simp
  ·split <;> simp
theorem qg7 {c:UInt8} : ∀ {p:List UInt8},c∉p→splitC c p=[p]
 | [],_=>rfl
 | b :: p,h=>by
  rw [List.mem_cons,not_or] at h
  unfold splitC
  rw [if_neg (fun e=>h.1 e.symm),qg7 h.2]
theorem qgz {c:UInt8} (r:List UInt8) : ∀ {p:List UInt8},c∉p→splitC c (p++c :: r)=p :: splitC c r
 | [],_=>by simp [splitC]
 | b :: p,h=>by
  rw [List.mem_cons,not_or] at h
  show splitC c (b :: (p++c :: r))=_
  rw [splitC,if_neg (fun e=>h.1 e.symm),qgz r h.2]
theorem qw3 (c:UInt8) : ∀ s:List UInt8,c∉s ∨ ∃ p r,s=p++c :: r∧c∉p
 | [] => .inl (by simp)
 | b :: s=>by
  by_cases h:b=c
  ·exact .inr ⟨[],s,by rw [h];rfl,by simp⟩
  ·rcases qw3 c s with h1 | ⟨p,r,e,h1⟩
   ·exact .inl (by rw [List.mem_cons,not_or];exact ⟨fun e=>h e.symm,h1⟩)
   ·exact .inr ⟨b :: p,r,by rw [e];rfl,by rw [List.mem_cons,not_or];exact ⟨fun e=>h e.symm,h1⟩⟩
theorem qabh {c:UInt8} : ∀ {s:List UInt8},c∉s→Lib.index s [c] = -1
 | [],_=>rfl
 | b :: s,h=>by
  rw [List.mem_cons,not_or] at h
  have hb:(c==b)=false:=by simpa using h.1
  simp [Lib.index,List.isPrefixOf,hb,qabh h.2]
theorem qxh {c:UInt8} (r:List UInt8) : ∀ {p:List UInt8},c∉p→Lib.index (p++c :: r) [c]=(p.length:Int)
 | [],_=>by simp [Lib.index,List.isPrefixOf]
 | b :: p,h=>by
  rw [List.mem_cons,not_or] at h
  have hb:(c==b)=false:=by simpa using h.1
  show Lib.index (b :: (p++c :: r)) [c]=_
  have hi:=qxh r h.2
  have hne:((p.length:Int) == -1)=false:=by
   rw [beq_eq_false_iff_ne];omega
  simp [Lib.index,List.isPrefixOf,hb,hi,hne]
theorem qw2 (c:UInt8) : ∀ (fuel:Nat) (s:List UInt8),s.length<fuel→s.count c≤Lib.countFrom [c] fuel s
 | 0,s,h=>by omega
 | fuel+1,s,h=>by
  rcases qw3 c s with h1 | ⟨p,r,e,h1⟩
  ·rw [List.count_eq_zero.2 h1];exact Nat.zero_le _
  ·subst e
   have hne:((p.length:Int) == -1)=false:=by
    rw [beq_eq_false_iff_ne];omega
   have hd:(p++c :: r).drop ((p.length:Int).toNat+[c].length)=r:=by
    rw [Int.toNat_natCast,List.length_singleton]
    rw [show p++c :: r=(p++[c])++r by simp,show p.length+1=(p++[c]).length by simp,List.drop_left]
   have ih:=qw2 c fuel r (by simp at h;omega)
   unfold Lib.countFrom
   rw [qxh r h1,hne,hd]
   rw [List.count_append,List.count_eq_zero.2 h1,List.count_cons_self]
   simp only [Bool.false_eq_true,if_false]
   omega
theorem qaev (c:UInt8) : ∀ (k:Nat) (s:List UInt8),s.count c≤k→Lib.splitK [c] 0 k s=splitC c s
 | 0,s,h=>by
  have:c∉s:=List.count_eq_zero.1 (Nat.le_zero.1 h)
  rw [qg7 this];rfl
 | k+1,s,h=>by
  rcases qw3 c s with h1 | ⟨p,r,e,h1⟩
  ·unfold Lib.splitK
   rw [qabh h1,qg7 h1]
   rfl
  ·subst e
   have hne:((p.length:Int) == -1)=false:=by
    rw [beq_eq_false_iff_ne];omega
   have hd:(p++c :: r).drop ((p.length:Int).toNat+[c].length)=r:=by
    rw [Int.toNat_natCast,List.length_singleton]
    rw [show p++c :: r=(p++[c])++r by simp,show p.length+1=(p++[c]).length by simp,List.drop_left]
   have ht:(p++c :: r).take ((p.length:Int).toNat+0)=p:=by simp
   unfold Lib.splitK
   rw [qxh r h1,hne,hd,ht,qgz r h1,qaev c k r]
   ·rfl
   ·rw [List.count_append,List.count_eq_zero.2 h1,List.count_cons_self] at h;omega
theorem qane (c:UInt8) (s:List UInt8):Lib.split s [c]=splitC c s:=qaev c _ s (qw2 c _ s (Nat.lt_succ_self _))
theorem qc9 (c:UInt8) {s:List UInt8} (h:s.length≤4294967280):strings_Split s [c]=some ((splitC c s,()),()):=by
 unfold strings_Split
 rw [show Nat.ble 1 [c].length=true from rfl,Nat.ble_eq_true_of_le h,qane]
 rfl
theorem qp6 (c:UInt8) : ∀ s:List UInt8,(splitC c s).length=s.count c+1
 | []=>rfl
 | b :: s=>by
  have ih:=qp6 c s
  unfold splitC
  by_cases h:b=c
  ·rw [if_pos h,h,List.count_cons_self,List.length_cons,ih]
  ·rw [if_neg h,List.count_cons_of_ne h]
   cases hs:splitC c s with
   | nil=>exact absurd hs (qh3 c s)
   | cons l ls=>rw [hs] at ih;simpa using ih
theorem qtn (s:List UInt8) (i:Nat):strAt s (i:Int)=byteI (s.getD i 0):=by
 unfold strAt
 rw [Int.toNat_natCast]
theorem qaft (a b:UInt8):iEq (byteI a) (byteI b)=decide (a=b):=by
 unfold iEq byteI
 by_cases h:a=b
 ·simp [h]
 ·have:a.toNat≠b.toNat:=fun e=>h (UInt8.toNat_inj.1 e)
  have:(a.toNat:Int)≠(b.toNat:Int):=fun e=>this (Int.ofNat.inj e)
  simp [h,this]
theorem qaoy {q p r:List UInt8} : subL (q++p++r) (q.length:Int) ((q++p).length:Int)=p:=by
 unfold subL
 rw [Int.toNat_natCast,Int.toNat_natCast,List.append_assoc,List.drop_left]
 rw [show (q++p).length-q.length=p.length by simp]
 simp
theorem qage (c:UInt8) {s:List UInt8} (hs:s.length≤1048576) : ∀ (r p q:List UInt8) (out:List (List UInt8)),s=q++p++r→c∉p→out.length≤q.length →
  run (qc5 s (byteI c)) (out,(q.length:Int),((q++p).length:Int),())=some ((out++splitC c (p++r),()),()):=by
 intro r
 induction r with
 | nil =>
  intro p q out e hp ho
  refine qai ?_
  have hl:s.length=(q++p).length:=by rw [e];simp
  have e1:iLt ((q++p).length:Int) (lenI s)=false:=qag (by rw [qaa,hl];omega)
  have hq:q.length≤s.length:=by rw [hl];simp
  have e2:inS (q.length:Int) (lenI s) s.length=true:=by
   unfold inS;rw [qaa];simp;omega
  have e3:room (out.length+1) 16=true:=qa2 (by omega)
  have e4:dropL s (q.length:Int)=p:=by
   unfold dropL
   rw [Int.toNat_natCast,e,List.append_nil,List.drop_left]
  simp only [qc5,e1,e2,e3,e4,cond_true,cond_false,List.append_nil,qg7 hp]
  rfl
 | cons b r ih =>
  intro p q out e hp ho
  have hl:s.length=(q++p).length+(r.length+1):=by rw [e];simp;omega
  have hq:q.length≤(q++p).length:=by simp
  have e1:iLt ((q++p).length:Int) (lenI s)=true:=qah (by rw [qaa,hl];omega)
  have e2:inB ((q++p).length:Int) s.length=true:=qae (by omega)
  have e3:strAt s ((q++p).length:Int)=byteI b:=by
   rw [qtn,e]
   simp [List.getD_eq_getElem?_getD]
  have e5:iAdd .i64 ((q++p).length:Int) 1=(((q++p).length+1:Nat):Int):=qaq (n:=s.length) (by omega) (by omega)
  by_cases h:b=c
  ·have e4:iEq (byteI b) (byteI c)=true:=by rw [qaft];simpa using h
   have e6:inS (q.length:Int) ((q++p).length:Int) s.length=true:=by
    unfold inS;simp;simp at hl;omega
   have e7:room (out.length+1) 16=true:=qa2 (by omega)
   have e8:subL s (q.length:Int) ((q++p).length:Int)=p:=by rw [e];exact qaoy
   have st:qc5 s (byteI c) (out,(q.length:Int),((q++p).length:Int),())=some (.inl (out++[p],(((q++p).length+1:Nat):Int),(((q++p).length+1:Nat):Int),())):=by
    simp only [qc5,e1,e2,e3,e4,e5,e6,e7,e8,cond_true]
   rw [qaj st]
   have:=ih [] (q++p++[c]) (out++[p]) (by rw [e,h];simp) (by simp) (by simp;omega)
   rw [h,qgz r hp]
   rw [show ((q++p++[c]).length:Int)=(((q++p).length+1:Nat):Int) by simp;omega,show ((q++p++[c]++([]:List UInt8)).length:Int)=(((q++p).length+1:Nat):Int) by simp;omega] at this
   rw [this]
   simp
  ·have e4:iEq (byteI b) (byteI c)=false:=by rw [qaft];simpa using h
   have st:qc5 s (byteI c) (out,(q.length:Int),((q++p).length:Int),())=some (.inl (out,(q.length:Int),(((q++p).length+1:Nat):Int),())):=by
    simp only [qc5,e1,e2,e3,e4,e5,cond_true,cond_false]
   rw [qaj st]
   have:=ih (p++[b]) q out (by rw [e];simp) (by simp;exact ⟨hp,fun e=>h e.symm⟩) ho
   rw [show ((q++(p++[b])).length:Int)=(((q++p).length+1:Nat):Int) by simp;omega] at this
   rw [this]
   simp
theorem qd9 (c:UInt8) {s:List UInt8} (hs:s.length≤1048576):qbr s (byteI c)=some ((splitC c s,()),()):=by
 have:=qage c hs s [] [] [] (by simp) (by simp) (by simp)
 simpa [qbr] using this
theorem qld (u:Nat):1≤(Lib.decDigits u).length:=by
 rw [Lib.decDigits]
 split <;> simp
theorem qad1 : ∀ (k n:Nat),n<10^(k+1)→k≤100→n≤9223372036854775807→qb8 (k+1) (n:Int)=some ((Lib.decDigits n,()),())∧(Lib.decDigits n).length≤k+1:=by
 intro k
 induction k with
 | zero =>
  intro n h hk _
  have h:n<10:=by simpa using h
  have e1:iLe 10 (n:Int)=false:=qb6 (by omega)
  have e2:iAdd .i64 48 (n:Int)=((48+n:Nat):Int):=(qdt (by omega) (by omega)).trans (by omega)
  have e3:iWrap .u8 ((48+n:Nat):Int)=((48+n:Nat):Int):=by simp [iWrap,IntKind.wrap,IntKind.signed,IntKind.bits];omega
  have e4:Lib.decDigits n=[UInt8.ofNat (48+n)]:=by rw [Lib.decDigits,dif_pos h]
  refine ⟨?_,by rw [e4];simp⟩
  show qdj (qb8 0) (n:Int)=_
  simp only [qdj,e1,e2,e3,e4,cond_false]
  rfl
 | succ k ih =>
  intro n h hk hm
  by_cases hn:n<10
  ·have e1:iLe 10 (n:Int)=false:=qb6 (by omega)
   have e2:iAdd .i64 48 (n:Int)=((48+n:Nat):Int):=(qdt (by omega) (by omega)).trans (by omega)
   have e3:iWrap .u8 ((48+n:Nat):Int)=((48+n:Nat):Int):=by simp [iWrap,IntKind.wrap,IntKind.signed,IntKind.bits];omega
   have e4:Lib.decDigits n=[UInt8.ofNat (48+n)]:=by rw [Lib.decDigits,dif_pos hn]
   refine ⟨?_,by rw [e4];simp⟩
   show qdj (qb8 (k+1)) (n:Int)=_
   simp only [qdj,e1,e2,e3,e4,cond_false]
   rfl
  ·have e1:iLe 10 (n:Int)=true:=qay (by omega)
   have e2:iQuo .i64 (n:Int) 10=((n/10:Nat):Int):=qpu (a:=((n/10:Nat):Int)) (by omega) (by omega)
   have e3:iRem .i64 (n:Int) 10=((n%10:Nat):Int):=rfl
   obtain ⟨ih1,ih2⟩:=ih (n/10) (by rw [Nat.pow_succ] at h;omega) (by omega) (by omega)
   have e4:iAdd .i64 48 ((n%10:Nat):Int)=((48+n%10:Nat):Int):=(qdt (by omega) (by omega)).trans (by omega)
   have e5:iWrap .u8 ((48+n%10:Nat):Int)=((48+n%10:Nat):Int):=by simp [iWrap,IntKind.wrap,IntKind.signed,IntKind.bits];omega
   have e6:Lib.decDigits n=Lib.decDigits (n/10)++[UInt8.ofNat (48+n%10)]:=by rw [Lib.decDigits,dif_neg hn]
   have e7:ofBytes [((48+n%10:Nat):Int)]=[UInt8.ofNat (48+n%10)]:=rfl
   have e8:strRoom (Lib.decDigits (n/10)) [UInt8.ofNat (48+n%10)]=true:=by
    unfold strRoom
    rw [decide_eq_true_eq,List.length_singleton]
    omega
   refine ⟨?_,by rw [e6,List.length_append,List.length_singleton];omega⟩
   show qdj (qb8 (k+1)) (n:Int)=_
   simp only [qdj,e1,e2,ih1,e3,e4,e5,e7,e8,cond_true,Option.bind_some]
   rw [e6]
   rfl
theorem qai3 {n:Nat} (h:n≤9223372036854775807):qb8 64 (n:Int)=some ((Lib.decDigits n,()),()) :=
 (qad1 63 n (Nat.lt_of_le_of_lt h (by decide)) (by omega) h).1
theorem qgq {n:Nat} (h:n≤9223372036854775807):qch (n:Int)=some ((Lib.decDigits n,()),())∧(Lib.decDigits n).length≤19:=by
 exact ⟨qai3 h,(qad1 18 n (Nat.lt_of_le_of_lt h (by decide)) (by omega) h).2⟩
theorem qeu (n:Nat):Lib.itoa (n:Int)=Lib.decDigits n:=by
 unfold Lib.itoa
 rw [if_neg (by omega),Int.toNat_natCast]
theorem qbu {n:Int} (h : -9223372036854775808≤n) (h1:n≤9223372036854775807):qa0 n=some ((Lib.itoa n,()),()):=by
 have:qbp n 10=some ((Lib.itoa n,()),()):=by
  unfold qbp
  rw [qbt,qay h,qay h1]
  rfl
 simp only [qa0,this,Option.bind_some]
def deedWordsL:List (List UInt8):=[[],[115,101,101],[115,101,110,100],[100,101,108,105,118,101,114],[99,111,112,121],[100,114,111,112],[115,97,118,101],[99,114,97,115,104]]
theorem qkt:qhi=some ((deedWordsL,()),()):=by
 unfold qhi
 rw [qc9 32 (by decide)]
 rfl
abbrev DDeed:=Int×(Int×(Int×Unit))
def deedB (d:DDeed):Bool:=(iLe 1 d.1&&iLe d.1 7)&&((iLe 0 d.2.1&&iLe d.2.1 999)&&((iLe 0 d.2.2.1&&iLe d.2.2.1 999)&&(iEq d.1 2||iEq d.2.2.1 0)))
theorem qyk (d:DDeed):qkf d=some ((deedB d,()),()):=by
 simp only [qkf,qg1,qcb,Option.bind_some,deedB]
 cases (iLe 1 d.1&&iLe d.1 7) <;> cases (iLe 0 d.2.1&&iLe d.2.1 999) <;> cases (iLe 0 d.2.2.1&&iLe d.2.2.1 999) <;> cases iEq d.1 2 <;> rfl
theorem qact (d:DDeed):qnt d=some ((deedB d,()),()):=by
 simp only [qnt,qcb,Option.bind_some,deedB]
 cases (iLe 1 d.1&&iLe d.1 7) <;> cases (iLe 0 d.2.1&&iLe d.2.1 999) <;> cases (iLe 0 d.2.2.1&&iLe d.2.2.1 999) <;> cases iEq d.1 2 <;> rfl
def deedT (d:DDeed):List UInt8:=(deedWordsL.getD d.1.toNat []++[32])++Lib.decDigits d.2.1.toNat++(bif iEq d.1 2 then [32]++Lib.decDigits d.2.2.1.toNat else [])
theorem qax {a b:List UInt8} (h:a.length+b.length≤4611686018427387904):strRoom a b=true:=by
 unfold strRoom;rw [decide_eq_true_eq];exact h
theorem qqv {d:DDeed} (h:deedB d=true) : ∃ k a b:Nat,d=((k:Int),(a:Int),(b:Int),())∧1≤k∧k≤7∧a≤999∧b≤999∧(k=2∨b=0):=by
 obtain ⟨k,a,b,⟨⟩⟩:=d
 simp only [deedB,Bool.and_eq_true,qog,Bool.or_eq_true,qg3] at h
 obtain ⟨⟨h1,h2⟩,⟨h3,h4⟩,⟨h5,h6⟩,h7⟩:=h
 refine ⟨k.toNat,a.toNat,b.toNat,?_,by omega,by omega,by omega,by omega,by omega⟩
 rw [Int.toNat_of_nonneg (by omega),Int.toNat_of_nonneg h3,Int.toNat_of_nonneg h5]
theorem qae1 (k:Nat):(deedWordsL.getD k []).length≤10:=by
 by_cases h:k<8
 ·rcases k with _ | _ | _ | _ | _ | _ | _ | _ | k <;> first | decide | omega
 ·rw [List.getD_eq_getElem?_getD,List.getElem?_eq_none (by simpa [deedWordsL] using h)];decide
theorem qre (d:DDeed):qis d=some ((bif deedB d then deedT d else [],()),()):=by
 simp only [qis,qyk,Option.bind_some]
 cases h:deedB d with
 | false=>rfl
 | true =>
  obtain ⟨k,a,b,rfl,h1,h2,h3,h4,h5⟩:=qqv h
  have hw:=qae1 k
  obtain ⟨wd,hwd⟩ : ∃ wd,deedWordsL.getD k []=wd:=⟨_,rfl⟩
  rw [hwd] at hw
  obtain ⟨_,la⟩:=qgq (n:=a) (by omega)
  obtain ⟨_,lb⟩:=qgq (n:=b) (by omega)
  have e1:inB (k:Int) deedWordsL.length=true:=qae (by show k<8;omega)
  have e2:strRoom wd [32]=true:=qax (by simp;omega)
  have e3:strRoom (strCat wd [32]) (Lib.decDigits a)=true:=qax (by simp [strCat];omega)
  have e4:strRoom [32] (Lib.decDigits b)=true:=qax (by simp;omega)
  have e5:strRoom (strCat (strCat wd [32]) (Lib.decDigits a)) (strCat [32] (Lib.decDigits b))=true:=qax (by simp [strCat];omega)
  simp only [qkt,hwd,qbu (n:=(a:Int)) (by omega) (by omega),qbu (n:=(b:Int)) (by omega) (by omega),qeu,e1,e2,e3,e4,e5,Int.toNat_natCast,Option.bind_some,Bool.not_true,cond_false,cond_true,deedT]
  cases iEq (k:Int) 2 with
  | true=>rfl
  | false=>simp [strCat]
end
section
def digB (b:UInt8):Bool:=decide (48≤b.toNat)&&decide (b.toNat≤57)
def valD (acc:Nat) (l:List UInt8):Nat:=l.foldl (fun a b=>a*10+(b.toNat-48)) acc
theorem qaey (acc:Nat) (l:List UInt8) (b:UInt8):valD acc (l++[b])=valD acc l*10+(b.toNat-48):=by
 unfold valD
 rw [List.foldl_append]
 rfl
theorem qaip : ∀ (l:List UInt8) (acc:Nat),acc≤valD acc l
 | [],_=>Nat.le_refl _
 | b :: l,acc=>by
  have:=qaip l (acc*10+(b.toNat-48))
  show acc≤valD (acc*10+(b.toNat-48)) l
  omega
theorem qqw {d:Nat} (h:d<10):(UInt8.ofNat (48+d)).toNat=48+d:=by
 rw [UInt8.toNat_ofNat']
 omega
theorem qir : ∀ (k u:Nat),u<10^(k+1)→(Lib.decDigits u).all digB=true∧valD 0 (Lib.decDigits u)=u∧(Lib.decDigits u).length≤k+1∧(1≤u → ∃ c r,Lib.decDigits u=c :: r∧c.toNat≠48)
 | 0,u,h=>by
  have h:u<10:=by simpa using h
  have e:Lib.decDigits u=[UInt8.ofNat (48+u)]:=by rw [Lib.decDigits,dif_pos h]
  have hb:=qqw h
  rw [e]
  refine ⟨?_,?_,by simp,fun h1=>⟨_,_,rfl,by omega⟩⟩
  ·simp [digB,hb];omega
  ·show 0*10+((UInt8.ofNat (48+u)).toNat-48)=u
   omega
 | k+1,u,h=>by
  by_cases hu:u<10
  ·obtain ⟨h1,h2,h3,h4⟩:=qir 0 u (by simpa using hu)
   exact ⟨h1,h2,by omega,h4⟩
  ·have e:Lib.decDigits u=Lib.decDigits (u/10)++[UInt8.ofNat (48+u%10)]:=by rw [Lib.decDigits,dif_neg hu]
   obtain ⟨h1,h2,h3,h4⟩:=qir k (u/10) (by rw [Nat.pow_succ] at h;omega)
   have hb:=qqw (d:=u%10) (by omega)
   obtain ⟨c,r,e2,hc⟩:=h4 (by omega)
   rw [e]
   refine ⟨?_,?_,by simp;omega,fun _=>⟨c,r++[UInt8.ofNat (48+u%10)],by rw [e2];rfl,hc⟩⟩
   ·rw [List.all_append,h1];simp [digB,hb];omega
   ·rw [qaey,h2,hb];omega
theorem qbc (u:Nat):(Lib.decDigits u).all digB=true∧valD 0 (Lib.decDigits u)=u∧(1≤u → ∃ c r,Lib.decDigits u=c :: r∧c.toNat≠48):=by
 obtain ⟨h1,h2,_,h4⟩:=qir u u (Nat.lt_of_lt_of_le (Nat.lt_pow_self (by decide:1<10)) (Nat.pow_le_pow_right (by decide) (Nat.le_succ u)))
 exact ⟨h1,h2,h4⟩
theorem qr7 : ∀ (n:Nat) (s:List UInt8),s.length=n+1→s.all digB=true→(n=0 ∨ ∃ c r,s=c :: r∧c.toNat≠48)→Lib.decDigits (valD 0 s)=s
 | 0,s,hl,hd,_=>by
  obtain ⟨b,rfl⟩ : ∃ b,s=[b]:=by
   match s,hl with
   | [b],_=>exact ⟨b,rfl⟩
  have hb:48≤b.toNat∧b.toNat≤57:=by simpa [digB] using hd
  have:valD 0 [b]=b.toNat-48:=by show 0*10+(b.toNat-48)=_;omega
  rw [this,Lib.decDigits,dif_pos (by omega)]
  congr 1
  refine UInt8.toNat_inj.1 ?_
  rw [qqw (by omega)]
  omega
 | n+1,s,hl,hd,h0=>by
  obtain ⟨c,r,e,hc⟩ : ∃ c r,s=c :: r∧c.toNat≠48:=by
   rcases h0 with h0 | h0
   ·omega
   ·exact h0
  obtain ⟨t,b,rfl⟩ : ∃ t b,s=t++[b]:=by
   exact ⟨s.dropLast,s.getLast (by rw [e];simp),(List.dropLast_concat_getLast (by rw [e];simp)).symm⟩
  rw [List.all_append,Bool.and_eq_true] at hd
  have hb:48≤b.toNat∧b.toNat≤57:=by simpa [digB] using hd.2
  have ht:t.length=n+1:=by simpa using hl
  obtain ⟨d,q,rfl⟩ : ∃ d q,t=d :: q:=by
   cases t with
   | nil=>simp at ht
   | cons d q=>exact ⟨d,q,rfl⟩
  have hdc:d=c:=by
   have:d :: (q++[b])=c :: r:=e
   exact (List.cons.inj this).1
  have ih:=qr7 n (d :: q) ht hd.1 (.inr ⟨d,q,rfl,by rw [hdc];exact hc⟩)
  have hv:1≤valD 0 (d :: q):=by
   rcases Nat.eq_zero_or_pos (valD 0 (d :: q)) with h | h
   ·rw [h] at ih
    have h0:Lib.decDigits 0=[48]:=by rw [Lib.decDigits,dif_pos (by decide)];rfl
    rw [h0] at ih
    have:d=48:=(List.cons.inj ih).1.symm
    rw [← hdc,this] at hc
    exact absurd rfl hc
   ·exact h
  rw [qaey,Lib.decDigits,dif_neg (by omega)]
  have e1:(valD 0 (d :: q)*10+(b.toNat-48))/10=valD 0 (d :: q):=by omega
  have e2:(valD 0 (d :: q)*10+(b.toNat-48))%10=b.toNat-48:=by omega
  rw [e1,e2,ih]
  congr 2
  refine UInt8.toNat_inj.1 ?_
  rw [qqw (by omega)]
  omega
def numOK (m:Nat) (s:List UInt8):Bool:=decide (s=Lib.decDigits (valD 0 s))&&decide (valD 0 s≤m)
theorem qgo {m:Nat} {s:List UInt8} : numOK m s=true ↔ ∃ k,k≤m∧s=Lib.decDigits k:=by
 unfold numOK
 rw [Bool.and_eq_true,decide_eq_true_eq,decide_eq_true_eq]
 constructor
 ·exact fun ⟨h1,h2⟩=>⟨_,h2,h1⟩
 ·rintro ⟨k,hk,rfl⟩
  have:=(qbc k).2.1
  rw [this]
  exact ⟨rfl,hk⟩
theorem qp1 : ∀ (l:List UInt8) (acc:Nat),l.all digB=true→valD acc l≤999999999999999999→Lib.parseUintM (2^64-1) acc l = .ok (valD acc l)
 | [],_,_,_=>rfl
 | c :: r,acc,hd,hv=>by
  rw [List.all_cons,Bool.and_eq_true] at hd
  have hc:48≤c.toNat∧c.toNat≤57:=by simpa [digB] using hd.1
  have hv':valD (acc*10+(c.toNat-48)) r≤999999999999999999:=hv
  have hge:=qaip r (acc*10+(c.toNat-48))
  unfold Lib.parseUintM
  rw [if_pos hc,if_neg (by omega),if_neg (by omega),qp1 r _ hd.2 hv']
  rfl
theorem qe4 {k:Nat} (hk:k≤999999999999999999):parseInt64 (Lib.decDigits k)=((k:Int),true):=by
 obtain ⟨h1,h2,_⟩:=qbc k
 have hp:=qp1 (Lib.decDigits k) 0 h1 (by rw [h2];exact hk)
 rw [h2] at hp
 have hne:=qld k
 unfold parseInt64
 have:Lib.parseIntB 64 (Lib.decDigits k) = .ok (k:Int):=by
  cases hd:Lib.decDigits k with
  | nil=>rw [hd] at hne;simp at hne
  | cons c r =>
   rw [hd,List.all_cons,Bool.and_eq_true] at h1
   have hc:48≤c.toNat∧c.toNat≤57:=by simpa [digB] using h1.1
   rw [hd] at hp
   unfold Lib.parseIntB
   simp only [if_neg (show ¬ (c.toNat=43∨c.toNat=45) by omega),Lib.parseUintB,if_neg (show ¬ (c :: r=[]) by simp),hp]
   rw [if_neg (by omega),if_neg (by omega),if_neg (by omega)]
 rw [this]
theorem qyw (s:List UInt8) : -9223372036854775808≤(parseInt64 s).1∧(parseInt64 s).1≤9223372036854775807:=by
 unfold parseInt64
 cases h:Lib.parseIntB 64 s with
 | ok v =>
  have:=Lib.parseIntB_bounds (B:=64) h
  simp at this ⊢
  omega
 | range =>
  show -9223372036854775808≤Lib.intSat 64 s∧Lib.intSat 64 s≤9223372036854775807
  unfold Lib.intSat
  split <;> decide
 | _=>exact ⟨by show (-9223372036854775808:Int)≤0;decide,by show (0:Int)≤9223372036854775807;decide⟩
theorem qwu {s:List UInt8} (h:s.length≤1048576):qc7 s 10 64=some (((parseInt64 s).1,(parseInt64 s).2,()),()):=by
 unfold qc7
 rw [qbt,qbt,Nat.ble_eq_true_of_le (by omega)]
 rfl
theorem qrj {n:Int} (h:0≤n):Lib.itoa n=Lib.decDigits n.toNat:=by
 unfold Lib.itoa
 rw [if_neg (by omega)]
theorem qo6 {m:Nat} {s:List UInt8} (hm:m≤999999999999999999) (h:numOK m s=true):(parseInt64 s)=((valD 0 s:Int),true)∧Lib.itoa (valD 0 s:Int)=s∧valD 0 s≤m:=by
 obtain ⟨k,hk,e⟩:=qgo.1 h
 have hv:valD 0 s=k:=by rw [e];exact (qbc k).2.1
 rw [hv]
 refine ⟨by rw [e];exact qe4 (by omega),?_,hk⟩
 rw [qeu,e]
theorem qaho {m:Nat} {s:List UInt8} (h:numOK m s=false) {n:Int} (h0:0≤n) (h1:n≤m):Lib.itoa n≠s:=by
 intro e
 have:numOK m s=true:=qgo.2 ⟨n.toNat,by omega,by rw [← e,qrj h0]⟩
 rw [this] at h
 cases h
theorem qae7 {s:List UInt8} (hs:s.length≤9) : ∀ (r q:List UInt8) (acc:Nat),s=q++r→acc<10^q.length →
  run (qbf s) ((acc:Int),(q.length:Int),())=some ((bif r.all digB then ((valD acc r:Int),true,()) else (0,false,())),()):=by
 intro r
 induction r with
 | nil =>
  intro q acc e ha
  refine qai ?_
  rw [List.append_nil] at e
  have e1:iLt (q.length:Int) (lenI s)=false:=qag (by rw [qaa,e];omega)
  simp only [qbf,e1,cond_false]
  rfl
 | cons b r ih =>
  intro q acc e ha
  have hl:s.length=q.length+(r.length+1):=by rw [e];simp
  have e1:iLt (q.length:Int) (lenI s)=true:=qah (by rw [qaa];omega)
  have e2:inB (q.length:Int) s.length=true:=qae (by omega)
  have e3:strAt s (q.length:Int)=byteI b:=by rw [qtn,e];simp [List.getD_eq_getElem?_getD]
  have e5:iAdd .i64 (q.length:Int) 1=((q.length+1:Nat):Int):=qaq (n:=s.length) (by omega) (by omega)
  have hpw:10^q.length≤10^8:=Nat.pow_le_pow_right (by decide) (by omega)
  by_cases h1:byteI b<48
  ·have:digB b=false:=by unfold digB;unfold byteI at h1;simp;omega
   rw [List.all_cons,this,Bool.false_and]
   refine qai ?_
   simp only [qbf,e1,e2,e3,qah h1,cond_true]
   rfl
  ·by_cases h2:57<byteI b
   ·have:digB b=false:=by unfold digB;unfold byteI at h2;simp;omega
    rw [List.all_cons,this,Bool.false_and]
    refine qai ?_
    simp only [qbf,e1,e2,e3,qag h1,qah h2,cond_true,cond_false]
    rfl
   ·have hd:digB b=true:=by unfold digB;unfold byteI at h1 h2;simp;omega
    have e6:iWrap .i64 (iSub .u8 (byteI b) 48)=((b.toNat-48:Nat):Int):=by
     have e7:iSub .u8 (byteI b) 48=((b.toNat-48:Nat):Int):=by
      unfold byteI at h1 h2 ⊢
      simp [iSub,IntKind.wrap,IntKind.signed,IntKind.bits];omega
     rw [e7]
     exact wrap_i64 (by omega) (by unfold byteI at h2;omega)
    have e8:iAdd .i64 (iMul .i64 (acc:Int) 10) ((b.toNat-48:Nat):Int)=((acc*10+(b.toNat-48):Nat):Int):=by
     unfold byteI at h2
     rw [qan9 (by omega) (by omega),qdt (by omega) (by omega)]
     omega
    have st:qbf s ((acc:Int),(q.length:Int),())=some (.inl (((acc*10+(b.toNat-48):Nat):Int),((q.length+1:Nat):Int),())):=by
     simp only [qbf,e1,e2,e3,e5,e6,e8,qag h1,qag h2,cond_true,cond_false]
    rw [qaj st]
    have:=ih (q++[b]) (acc*10+(b.toNat-48)) (by rw [e];simp) (by rw [List.length_append,List.length_singleton,Nat.pow_succ];unfold byteI at h2;omega)
    rw [show (q++[b]).length=q.length+1 by simp] at this
    rw [this,List.all_cons,hd]
    rfl
theorem qaiq : ∀ (l:List UInt8) (acc n:Nat),l.all digB=true→acc<10^n→valD acc l<10^(n+l.length)
 | [],_,_,_,h=>h
 | b :: l,acc,n,hd,h=>by
  rw [List.all_cons,Bool.and_eq_true] at hd
  have hb:48≤b.toNat∧b.toNat≤57:=by simpa [digB] using hd.1
  have:=qaiq l (acc*10+(b.toNat-48)) (n+1) hd.2 (by rw [Nat.pow_succ];omega)
  rw [List.length_cons,show n+(l.length+1)=n+1+l.length by omega]
  exact this
theorem qy1 (s:List UInt8):qbd s=some ((bif numOK 999999999 s then ((valD 0 s:Int),true,()) else (0,false,())),())∨(numOK 999999999 s=false ∧ ∃ n,qbd s=some ((n,false,()),())):=by
 have h52:qn8=qbf:=rfl
 unfold qbd
 by_cases h1:lenI s<1
 ·have:s=[]:=by rw [qaa] at h1;exact List.length_eq_zero_iff.1 (by omega)
  subst this
  refine .inr ⟨?_,0,by rw [qah h1];rfl⟩
  rw [← Bool.not_eq_true,qgo]
  rintro ⟨k,_,e⟩
  have:=qld k
  rw [← e] at this
  simp at this
 ·by_cases h9:9<lenI s
  ·refine .inr ⟨?_,0,by rw [qag h1,qah h9];rfl⟩
   rw [← Bool.not_eq_true,qgo]
   rintro ⟨k,hk,e⟩
   have:=(qir 8 k (by omega)).2.2.1
   rw [← e] at this
   rw [qaa] at h9
   omega
  ·rw [qaa] at h1 h9
   have i0:inB 0 s.length=true:=qae (i:=0) (by omega)
   have hrun:=qae7 (s:=s) (by omega) s [] 0 (by simp) (by simp)
   rw [qaa,qag h1,qag h9]
   simp only [cond_false,cond_true,i0,h52]
   obtain ⟨c,r,rfl⟩ : ∃ c r,s=c :: r:=by
    cases s with
    | nil=>simp at h1
    | cons c r=>exact ⟨c,r,rfl⟩
   have ec:strAt (c :: r) 0=byteI c:=rfl
   have key:(byteI c≠48∨r=[])→run (qbf (c :: r)) (0,0,())=some ((bif numOK 999999999 (c :: r) then ((valD 0 (c :: r):Int),true,()) else (0,false,())),()):=by
    intro hlead
    have hrun:run (qbf (c :: r)) (0,0,())=_:=hrun
    rw [hrun]
    cases hd:(c :: r).all digB with
    | true =>
     have hn:numOK 999999999 (c :: r)=true:=by
      refine qgo.2 ⟨valD 0 (c :: r),?_,(qr7 r.length (c :: r) (by simp) hd ?_).symm⟩
      ·have:=qaiq (c :: r) 0 0 hd (by decide)
       have h2:10^(0+(c :: r).length)≤10^9:=Nat.pow_le_pow_right (by decide) (by omega)
       omega
      ·rcases hlead with h | h
       ·exact .inr ⟨c,r,rfl,fun e=>h (by unfold byteI;omega)⟩
       ·exact .inl (by rw [h];rfl)
     rw [hn]
    | false =>
     have hn:numOK 999999999 (c :: r)=false:=by
      rw [← Bool.not_eq_true,qgo]
      rintro ⟨k,_,e⟩
      rw [e,(qbc k).1] at hd
      cases hd
     rw [hn]
   rw [ec]
   by_cases h48:byteI c=48
   ·rw [qf7 h48]
    by_cases h11:(1:Int)<((c :: r).length:Int)
    ·refine .inr ⟨?_,0,by rw [qah h11];rfl⟩
     rw [← Bool.not_eq_true,qgo]
     rintro ⟨k,_,e⟩
     rcases Nat.eq_zero_or_pos k with rfl | hk
     ·rw [show Lib.decDigits 0=[48] by rw [Lib.decDigits,dif_pos (by decide)];rfl] at e
      rw [e] at h11
      simp at h11
     ·obtain ⟨_,_,hh⟩:=qbc k
      obtain ⟨c',r',e',hc'⟩:=hh hk
      rw [e'] at e
      have:=(List.cons.inj e).1
      rw [← this] at hc'
      exact hc' (by unfold byteI at h48;omega)
    ·have hr:r=[]:=by
      cases r with
      | nil=>rfl
      | cons d r=>simp at h11;omega
     rw [qag h11]
     exact .inl (key (.inr hr))
   ·rw [qat h48]
    exact .inl (key (.inl h48))
theorem qiv (s:List UInt8) : ∃ n:Int,qbd s=some ((n,numOK 999999999 s,()),())∧(numOK 999999999 s=true→n=(valD 0 s:Int)):=by
 rcases qy1 s with h | ⟨h,n,h'⟩
 ·cases hn:numOK 999999999 s with
  | true=>rw [hn] at h;exact ⟨_,h,fun _=>rfl⟩
  | false=>rw [hn] at h;exact ⟨_,h,fun h=>by cases h⟩
 ·exact ⟨n,by rw [h];exact h',fun h''=>by rw [h] at h'';cases h''⟩
end
section
def digsL:List UInt8:=[48,49,50,51,52,53,54,55,56,57,97,98,99,100,101,102,103,104,105,106,107,108,109,110,111,112,113,114,115,116,117,118,119,120,121,122]
def hexC (d:Nat):UInt8:=digsL.getD d 0
def hexG:Nat→Nat→List UInt8
 | 0,n=>[hexC n]
 | k+1,n=>if n<16 then [hexC n] else hexG k (n/16)++[hexC (n%16)]
def hexP:Nat→Nat→List UInt8
 | 0,_=>[]
 | k+1,n=>hexP k (n/16)++[hexC (n%16)]
theorem qi3 : ∀ k n,(hexP k n).length=k
 | 0,_=>rfl
 | k+1,n=>by rw [hexP,List.length_append,qi3 k];rfl
theorem qapg {u:Int} (h0:0≤u) (h1:u<18446744073709551616):iAnd .u64 u 15=u%16:=by
 obtain ⟨n,rfl⟩:=Int.eq_ofNat_of_zero_le h0
 have hb:(BitVec.ofInt 64 ((n:Nat):Int)).toNat=n:=by
  rw [BitVec.toNat_ofInt];omega
 have e2:(BitVec.ofInt 64 15).toNat=15:=by decide
 have h:((BitVec.ofInt IntKind.u64.bits ((n:Nat):Int) &&& BitVec.ofInt IntKind.u64.bits 15).toNat)=n%16:=by
  show ((BitVec.ofInt 64 ((n:Nat):Int) &&& BitVec.ofInt 64 15).toNat)=n%16
  rw [BitVec.toNat_and,e2,hb]
  exact Nat.and_two_pow_sub_one_eq_mod n 4
 unfold iAnd
 rw [h]
 simp [IntKind.wrap,IntKind.signed,IntKind.bits]
 omega
theorem shr4 {u:Int} (h0:0≤u):iShr .u64 u 4=u/16:=by
 show u.fdiv (2^(min (4:Int).toNat 64))=u/16
 rw [Int.fdiv_eq_ediv_of_nonneg _ (by decide)]
 rfl
theorem qaih : ∀ (k:Nat) (n:Nat) (f:Nat),n<16^(k+1)→k≤f→List.replicate (k+1-(hexG f n).length) 48++hexG f n=hexP (k+1) n∧(hexG f n).length≤k+1
 | 0,n,f,h,_=>by
  have h:n<16:=h
  have e:hexG f n=[hexC n]:=by
   cases f with
   | zero=>rfl
   | succ f=>rw [hexG,if_pos h]
  have e2:n%16=n:=Nat.mod_eq_of_lt h
  rw [e]
  refine ⟨?_,Nat.le_refl _⟩
  show [hexC n]=hexP 0 (n/16)++[hexC (n%16)]
  rw [e2];rfl
 | k+1,n,0,h,hf=>by omega
 | k+1,n,f+1,h,hf=>by
  by_cases hn:n<16
  ·have e2:n%16=n:=Nat.mod_eq_of_lt hn
   have e3:n/16=0:=Nat.div_eq_of_lt hn
   have hz : ∀ j,hexP j 0=List.replicate j 48:=by
    intro j
    induction j with
    | zero=>rfl
    | succ j ih=>rw [hexP,show 0/16=0 from rfl,ih,List.replicate_succ'];rfl
   rw [hexG,if_pos hn]
   refine ⟨?_,by simp⟩
   show List.replicate (k+1+1-1) 48++[hexC n]=hexP (k+1) (n/16)++[hexC (n%16)]
   rw [e2,e3,hz]
   rfl
  ·have hd:n/16<16^(k+1):=by
    rw [Nat.div_lt_iff_lt_mul (by decide)]
    rw [Nat.pow_succ] at h
    exact h
   obtain ⟨h1,h2⟩:=qaih k (n/16) f hd (by omega)
   rw [hexG,if_neg hn,List.length_append]
   refine ⟨?_,by simp;omega⟩
   rw [show k+1+1-((hexG f (n/16)).length+[hexC (n%16)].length)=k+1-(hexG f (n/16)).length by simp,← List.append_assoc,h1]
   rfl
theorem qaez {α:Type} {z:α} : ∀ (n:Nat) (v:Vec n α) (i j:Nat) (x:α),i<n→Vec.getD n (Vec.set n v i x) j z=if j=i then x else Vec.getD n v j z
 | 0,_,_,_,_,h=>absurd h (Nat.not_lt_zero _)
 | _+1,_,0,0,_,_=>rfl
 | _+1,_,0,_+1,_,_=>rfl
 | _+1,_,_+1,0,_,_=>rfl
 | n+1,v,i+1,j+1,x,h=>by
  have:=qaez (z:=z) n v.2 i j x (Nat.lt_of_succ_lt_succ h)
  show Vec.getD n (Vec.set n v.2 i x) j z=_
  rw [this]
  by_cases e:j=i
  ·rw [if_pos e,if_pos (congrArg (· + 1) e)]
  ·rw [if_neg e,if_neg (fun h=>e (Nat.succ.inj h))]
   rfl
theorem qacv (d:Nat):strAt digsL (d:Int)=byteI (hexC d):=qtn _ d
theorem qr1 (b:UInt8):toByte (byteI b)=b:=by
 unfold toByte byteI
 rw [Int.toNat_natCast]
 exact UInt8.ofNat_toNat
def list65 (V:Vec 65 Int):List Int:=(List.range 65).map fun j=>Vec.getD 65 V j (0:Int)
theorem qapf {V:Vec 65 Int} {i:Nat} {L:List UInt8} (hi:i+L.length=65) (h : ∀ j (hj:j<L.length),Vec.getD 65 V (i+j) (0:Int)=byteI L[j]):ofBytes (List.take (65-i) (List.drop i (list65 V)))=L:=by
 have e:List.take (65-i) (List.drop i (list65 V))=L.map byteI:=by
  unfold list65
  apply List.ext_getElem
  ·simp;omega
  ·intro j h1 h2
   simp only [List.getElem_map,List.getElem_take,List.getElem_drop,List.getElem_range]
   exact h j (by simpa using h2)
 rw [e]
 unfold ofBytes
 rw [List.map_map]
 have:toByte ∘ byteI=id:=by funext b;exact qr1 b
 rw [this,List.map_id]
theorem qann (u i:Int) (V:Vec 65 Int):qbx 16 15 4 false false (u,i,V,()) =
  bif iLe 16 u then (bif inB (iAnd .u64 u 15) digsL.length then bif inB (iSub .i64 i 1) 65 then bif iLe 0 4 then some (.inl (iShr .u64 u 4,iSub .i64 i 1,Vec.set 65 V (iSub .i64 i 1).toNat (strAt digsL (iAnd .u64 u 15)),())) else none else none else none)
  else Option.map Sum.inr (bif inB u digsL.length then bif inB (iSub .i64 i 1) 65 then bif inS (iSub .i64 i 1) ((65:Nat):Int) 65 then some ((([]:List Int),ofBytes (List.take (65-(iSub .i64 i 1).toNat) (List.drop (iSub .i64 i 1).toNat (list65 (Vec.set 65 V (iSub .i64 i 1).toNat (strAt digsL u))))),()),()) else none else none else none):=by kernel_rfl
theorem qaka : ∀ (f n:Nat) (i:Nat) (V:Vec 65 Int) (L:List UInt8),n<16^(f+1)→f≤8→f+1≤i→i+L.length=65→(∀ j (hj:j<L.length),Vec.getD 65 V (i+j) (0:Int)=byteI L[j]) →
  run (qbx 16 15 4 false false) ((n:Int),(i:Int),V,())=some ((([]:List Int),hexG f n++L,()),())
 | f,n,i,V,L,hn,hf,hi,hl,hV=>by
  have hp:(16:Nat)^(f+1)≤16^9:=Nat.pow_le_pow_right (by decide) (by omega)
  have hp9:(16:Nat)^9=68719476736:=by decide
  obtain ⟨q,rfl⟩ : ∃ q,i=q+1:=⟨i-1,by omega⟩
  have ei:iSub .i64 ((q+1:Nat):Int) 1=(q:Int):=(qfi (by omega) (by omega)).trans (by omega)
  have eb:inB (q:Int) 65=true:=qae (by omega)
  have hset : ∀ (x:UInt8),∀ j (hj:j<(x :: L).length),Vec.getD 65 (Vec.set 65 V q (byteI x)) (q+j) (0:Int)=byteI (x :: L)[j]:=by
   intro x j hj
   rw [qaez 65 V q (q+j) _ (by omega)]
   cases j with
   | zero=>rw [if_pos (Nat.add_zero q)];rfl
   | succ j =>
    rw [if_neg (by omega)]
    simp only [List.getElem_cons_succ]
    rw [← hV j (by simpa using hj)]
    congr 1
    omega
  by_cases h16:n<16
  ·have e:hexG f n=[hexC n]:=by
    cases f with
    | zero=>rfl
    | succ f=>rw [hexG,if_pos h16]
   rw [e]
   refine qai ?_
   have e1:iLe 16 (n:Int)=false:=qb6 (by omega)
   have e2:inB (n:Int) digsL.length=true:=qae (show n<36 by omega)
   have e3:inS (q:Int) ((65:Nat):Int) 65=true:=by unfold inS;simp;omega
   rw [qann,e1,ei,e2,eb,e3,qacv,Int.toNat_natCast]
   simp only [cond_true,cond_false,Option.map_some]
   have:=qapf (V:=Vec.set 65 V q (byteI (hexC n))) (i:=q) (L:=hexC n :: L) (by simp;omega) (hset (hexC n))
   exact congrArg (fun z=>some (Sum.inr ((([]:List Int),z,()),()))) this
  ·cases f with
   | zero=>exact absurd hn h16
   | succ f =>
    have hd:n/16<16^(f+1):=by
     rw [Nat.div_lt_iff_lt_mul (by decide)]
     rw [Nat.pow_succ] at hn
     exact hn
    have e1:iLe 16 (n:Int)=true:=qay (by omega)
    have e4:iAnd .u64 (n:Int) 15=((n%16:Nat):Int):=by
     rw [qapg (by omega) (by omega)];omega
    have e5:iShr .u64 (n:Int) 4=((n/16:Nat):Int):=by
     rw [shr4 (by omega)];omega
    have e2:inB ((n%16:Nat):Int) digsL.length=true:=qae (show n%16<36 by omega)
    have e6:iLe 0 (4:Int)=true:=by decide
    have st:qbx 16 15 4 false false ((n:Int),((q+1:Nat):Int),V,())=some (.inl (((n/16:Nat):Int),(q:Int),Vec.set 65 V q (byteI (hexC (n%16))),())):=by
     rw [qann,e1,ei,e4,e5,e2,eb,e6,qacv,Int.toNat_natCast]
     rfl
    rw [qaj st]
    have:=qaka f (n/16) q (Vec.set 65 V q (byteI (hexC (n%16)))) (hexC (n%16) :: L) hd (by omega) (by omega) (by simp;omega) (hset _)
    rw [this,hexG,if_neg h16]
    simp
theorem quz {n:Nat} (h:n<4294967296):qg0 (n:Int) 16=some ((hexG 7 n,()),()):=by
 have e0:iEq (16:Int) 10=false:=by decide
 have e1:iLt (16:Int) 2=false:=by decide
 have e2:iLt 36 (16:Int)=false:=by decide
 have e3:qce 16=some ((true,()),()):=by kernel_rfl
 have e4:iWrap .u64 (16:Int)=16:=by decide
 have e5:qbg 16=some ((4,()),()):=rfl
 have e6:iSub .u64 (16:Int) 1=15:=by decide
 have e7:iWrap .u64 (4:Int)=4:=by decide
 have:=qaka 7 n 65 ((0,0,0,0,0,0,0,0,0,0,0,0,0,0,0,0,0,0,0,0,0,0,0,0,0,0,0,0,0,0,0,0,0,0,0,0,0,0,0,0,0,0,0,0,0,0,0,0,0,0,0,0,0,0,0,0,0,0,0,0,0,0,0,0,0,()):Vec 65 Int) [] (Nat.lt_of_lt_of_le h (by decide)) (by decide) (by decide) rfl (fun j hj=>by cases hj)
 rw [List.append_nil] at this
 have hfb:qcw ([]:List Int) (n:Int) 16 false false=some ((([]:List Int),hexG 7 n,()),()):=by
  unfold qcw
  rw [e0,e1,e2]
  simp only [cond_false,e3,Option.bind_some,cond_true,e4,e5,e6,e7]
  exact this
 unfold qg0 qek
 rw [e0]
 simp only [cond_false,hfb,Option.bind_some]
def bitsOf (a:Nat):Nat:=if fEq .f32 a a=true then a else 2143289344
theorem qaii : ∀ (d:Nat) (s:List UInt8),d+s.length=8→run (qee) (s,())=some ((List.replicate d 48++s,()),())
 | 0,s,h=>by
  have e:iLt (lenI s) 8=false:=qag (by rw [qaa];omega)
  refine qai ?_
  unfold qee
  simp only
  rw [e];rfl
 | d+1,s,h=>by
  have e:iLt (lenI s) 8=true:=qah (by rw [qaa];omega)
  have e2:strRoom ([48]) s=true:=by unfold strRoom;simp;omega
  have st:qee (s,())=some (.inl (48 :: s,())):=by
   unfold qee
   simp only
   rw [e,e2];rfl
  rw [qaj st,qaii d (48 :: s) (by simp;omega),List.replicate_succ']
  simp
theorem qda {a:Nat} (h:a<4294967296):qdn a=some ((hexP 8 (bitsOf a),()),()):=by
 unfold qdn qkh bitsOf
 simp only [Option.bind_some]
 cases hn:fEq .f32 a a with
 | false=>exact (by kernel_rfl:some (([55,102,99,48,48,48,48,48],()),())=some ((hexP 8 2143289344,()),()))
 | true =>
  simp only [Bool.not_true,cond_false,if_true]
  refine qh4 fun q => ?_
  have hq:bitsF .f32 a q=(a:Int):=by
   unfold bitsF
   rw [qjs] at hn
   simp only [Bool.not_eq_true'] at hn
   rw [hn]
   rfl
  have hw:iWrap .u64 (a:Int)=(a:Int):=by simp [iWrap,IntKind.wrap,IntKind.signed,IntKind.bits];omega
  obtain ⟨p1,p2⟩:=qaih 7 a 7 (Nat.lt_of_lt_of_le h (by decide)) (Nat.le_refl _)
  rw [hq,hw,quz h]
  simp only [Option.bind_some]
  rw [qaii (8-(hexG 7 a).length) (hexG 7 a) (by omega),p1]
theorem qads {a:Nat} (h:a<4294967296):bitsOf a<4294967296:=by
 unfold bitsOf
 split
 ·exact h
 ·decide
theorem qs6 {a:Nat} (h:a<4294967296):qj2 a=some ((((bitsOf a:Nat):Int),()),()):=by
 unfold qj2 bitsOf
 cases hn:fEq .f32 a a with
 | false=>rfl
 | true =>
  simp only [Bool.not_true,cond_false,if_true]
  refine qh4 fun q => ?_
  have hq:bitsF .f32 a q=(a:Int):=by
   unfold bitsF
   rw [qjs] at hn
   simp only [Bool.not_eq_true'] at hn
   rw [hn]
   rfl
  rw [hq]
theorem qapn (n:Nat):iRem .u32 (n:Int) 16=((n%16:Nat):Int):=by
 unfold iRem
 rw [Int.tmod_eq_emod_of_nonneg (by omega)]
 omega
theorem qvr {n:Nat} (h:n<4294967296):iQuo .u32 (n:Int) 16=((n/16:Nat):Int):=by
 unfold iQuo
 rw [Int.tdiv_eq_ediv_of_nonneg (by omega)]
 simp [IntKind.wrap,IntKind.signed,IntKind.bits]
 omega
theorem qapo (n:Nat):strAt [48,49,50,51,52,53,54,55,56,57,97,98,99,100,101,102] ((n%16:Nat):Int)=byteI (hexC (n%16)):=by
 have key : ∀ d:Fin 16,strAt [48,49,50,51,52,53,54,55,56,57,97,98,99,100,101,102] ((d.val:Nat):Int)=byteI (hexC d.val):=by decide
 exact key ⟨n%16,Nat.mod_lt _ (by decide)⟩
theorem in16 (n:Nat):inB ((n%16:Nat):Int) 16=true:=qae (Nat.mod_lt _ (by decide))
theorem qadi {a:Nat} (h:a<4294967296):qfh a=some ((hexP 8 (bitsOf a),()),()):=by
 have hb:=qads h
 have e:=qs6 h
 generalize bitsOf a=b at hb e
 have q1:=qvr hb
 have q2:=qvr (n:=b/16) (by omega)
 have q3:=qvr (n:=b/16/16) (by omega)
 have q4:=qvr (n:=b/16/16/16) (by omega)
 have q5:=qvr (n:=b/16/16/16/16) (by omega)
 have q6:=qvr (n:=b/16/16/16/16/16) (by omega)
 have q7:=qvr (n:=b/16/16/16/16/16/16) (by omega)
 have hr:(iLe 0 8&&iLe 8 8&&room ((8:Int)).toNat 1)=true:=by decide
 unfold qfh
 rw [e]
 simp only [Option.bind_some,hr,cond_true,q1,q2,q3,q4,q5,q6,q7,qapn,List.length_cons,List.length_nil,Nat.reduceAdd,in16,qapo,List.length_set,List.length_replicate]
 have hs : ∀ j:Nat,j<8→inB (j:Int) (8:Int).toNat=true:=fun j hj=>qae hj
 have s0:=hs 0 (by decide);have s1:=hs 1 (by decide);have s2:=hs 2 (by decide);have s3:=hs 3 (by decide)
 have s4:=hs 4 (by decide);have s5:=hs 5 (by decide);have s6:=hs 6 (by decide);have s7:=hs 7 (by decide)
 simp only [Int.cast_ofNat_Int] at s0 s1 s2 s3 s4 s5 s6 s7
 rw [show inB 7 (8:Int).toNat=true from s7,show inB 6 (8:Int).toNat=true from s6,show inB 5 (8:Int).toNat=true from s5,show inB 4 (8:Int).toNat=true from s4,show inB 3 (8:Int).toNat=true from s3,show inB 2 (8:Int).toNat=true from s2,show inB 1 (8:Int).toNat=true from s1,show inB 0 (8:Int).toNat=true from s0]
 simp only [cond_true]
 refine congrArg (fun z=>some ((z,()),())) ?_
 show [toByte (byteI (hexC (b/16/16/16/16/16/16/16%16))),toByte (byteI (hexC (b/16/16/16/16/16/16%16))),toByte (byteI (hexC (b/16/16/16/16/16%16))),toByte (byteI (hexC (b/16/16/16/16%16))),toByte (byteI (hexC (b/16/16/16%16))),toByte (byteI (hexC (b/16/16%16))),toByte (byteI (hexC (b/16%16))),toByte (byteI (hexC (b%16)))]=hexP 8 b
 simp only [qr1]
 rfl
def lowD (c:UInt8):Option Nat:=if 48≤c.toNat∧c.toNat≤57 then some (c.toNat-48) else if 97≤c.toNat∧c.toNat≤102 then some (c.toNat-87) else none
def lowV:Nat→List UInt8→Option Nat
 | acc,[]=>some acc
 | acc,c :: r=>match lowD c with | none=>none | some d=>lowV (acc*16+d) r
def lowT (n:Nat):Bool:=match lowD (UInt8.ofNat n) with | none=>true | some d=>decide (d<16)&&(decide (hexC d=UInt8.ofNat n)&&decide (hexD (UInt8.ofNat n)=some d))
theorem qaoe:(List.range 256).all lowT=true:=by kernel_rfl
theorem qakm {c:UInt8} {d:Nat} (h:lowD c=some d):d<16∧hexC d=c∧hexD c=some d:=by
 have k:=List.all_eq_true.1 qaoe c.toNat (List.mem_range.2 c.toNat_lt)
 unfold lowT at k
 rw [UInt8.ofNat_toNat,h] at k
 simpa using k
theorem qad2 : ∀ d:Fin 16,lowD (hexC d.val)=some d.val∧hexD (hexC d.val)=some d.val:=by decide
theorem qakl {d:Nat} (h:d<16):lowD (hexC d)=some d:=(qad2 ⟨d,h⟩).1
theorem qakf {d:Nat} (h:d<16):hexD (hexC d)=some d:=(qad2 ⟨d,h⟩).2
theorem qst (c:UInt8) : ∀ (p:List UInt8) (acc:Nat),lowV acc (p++[c])=(lowV acc p).bind fun a=>(lowD c).map fun d=>a*16+d
 | [],acc=>by
  show lowV acc [c]=_
  simp only [lowV,Option.bind_some]
  cases lowD c <;> rfl
 | b :: p,acc=>by
  show lowV acc (b :: (p++[c]))=_
  simp only [lowV]
  cases lowD b with
  | none=>rfl
  | some d=>exact qst c p (acc*16+d)
theorem qon : ∀ (k:Nat) (s:List UInt8) (v:Nat),s.length=k→lowV 0 s=some v→v<16^k∧s=hexP k v
 | 0,s,v,hl,h=>by
  have:s=[]:=List.length_eq_zero_iff.1 hl
  subst this
  have:v=0:=by simpa [lowV] using h.symm
  subst this
  exact ⟨by decide,rfl⟩
 | k+1,s,v,hl,h=>by
  rcases List.eq_nil_or_concat s with rfl | ⟨p,c,rfl⟩
  ·simp at hl
  ·rw [List.concat_eq_append] at h hl ⊢
   rw [qst] at h
   cases hp:lowV 0 p with
   | none=>rw [hp] at h;cases h
   | some a =>
    rw [hp] at h
    simp only [Option.bind_some] at h
    cases hc:lowD c with
    | none=>rw [hc] at h;cases h
    | some d =>
     rw [hc] at h
     have hv:a*16+d=v:=by simpa using h
     obtain ⟨h1,h2⟩:=qon k p a (by simpa using hl) hp
     obtain ⟨d1,d2,-⟩:=qakm hc
     have e1:v/16=a:=by omega
     have e2:v%16=d:=by omega
     refine ⟨by rw [Nat.pow_succ];omega,?_⟩
     rw [hexP,e1,e2,d2,← h2]
theorem qaed (c:UInt8) : ∀ (p:List UInt8) (acc a d:Nat),hexM acc p=some (some a)→hexD c=some d→a*16+d≤4294967295→hexM acc (p++[c])=some (some (a*16+d))
 | [],acc,a,d,h,hc,hd=>by
  have:acc=a:=by simpa [hexM] using h
  subst this
  show hexM acc [c]=_
  have:¬ 4294967295<acc*16+d:=by omega
  simp only [hexM,hc,if_neg this]
 | b :: p,acc,a,d,h,hc,hd=>by
  show hexM acc (b :: (p++[c]))=_
  simp only [hexM] at h ⊢
  cases hb:hexD b with
  | none=>rw [hb] at h;cases h
  | some e =>
   rw [hb] at h
   simp only at h ⊢
   by_cases ho:4294967295<acc*16+e
   ·rw [if_pos ho] at h;cases h
   ·rw [if_neg ho] at h ⊢
    exact qaed c p (acc*16+e) a d h hc hd
theorem qof : ∀ (k n:Nat),n<16^k→n≤4294967295→hexM 0 (hexP k n)=some (some n)∧lowV 0 (hexP k n)=some n
 | 0,n,h,_=>by
  have h:n<1:=h
  have:n=0:=by omega
  subst this
  exact ⟨rfl,rfl⟩
 | k+1,n,h,h'=>by
  have hd:n/16<16^k:=by
   rw [Nat.div_lt_iff_lt_mul (by decide)]
   rw [Nat.pow_succ] at h
   exact h
  obtain ⟨h1,h2⟩:=qof k (n/16) hd (by omega)
  have hm:n%16<16:=Nat.mod_lt _ (by decide)
  refine ⟨?_,?_⟩
  ·have:=qaed (hexC (n%16)) (hexP k (n/16)) 0 (n/16) (n%16) h1 (qakf hm) (by omega)
   rw [hexP,this]
   congr 2
   omega
  ·rw [hexP,qst,h2,qakl hm]
   simp
   omega
def numR (s:List UInt8):Option Nat :=
 match lowV 0 s with
 | none=>none
 | some v=>if s.length=8∧bitsOf (canon .f32 v)=v then some (canon .f32 v) else none
theorem qu5 {v:Nat} (h:v<4294967296):canon .f32 v<4294967296:=by
 unfold canon
 cases isNan .f32 v with
 | true =>
  show nan .f32<4294967296
  decide
 | false=>exact h
theorem qah9 : ∀ (s:List UInt8) (acc v:Nat),acc≤4294967295→hexM acc s=some (some v)→v≤4294967295
 | [],acc,v,h,e=>by
  have:acc=v:=by simpa [hexM] using e
  omega
 | c :: s,acc,v,h,e=>by
  simp only [hexM] at e
  cases hc:hexD c with
  | none=>rw [hc] at e;cases e
  | some d =>
   rw [hc] at e
   simp only at e
   by_cases ho:4294967295<acc*16+d
   ·rw [if_pos ho] at e;cases e
   ·rw [if_neg ho] at e
    exact qah9 s _ v (by omega) e
theorem qxd {s:List UInt8} (hs:s.length≤1048576):qja s=some (match numR s with | some a=>((a,0,()),()) | none=>((0,5,()),())):=by
 have hp:qcv s 16 32=some (((parseHex s).1,(parseHex s).2,()),()):=by
  unfold qcv
  rw [qbt,qbt,Nat.ble_eq_true_of_le (by omega)]
  rfl
 have bad : ∀ z:Int,((qbj z).bind fun _:(Nat×Unit)×Unit=>some (((0,5,()),()):(Nat×Int×Unit)×Unit))=some ((0,5,()),()):=fun _=>rfl
 unfold qja
 rw [hp]
 simp only [Option.bind_some]
 cases hx:hexN s with
 | none =>
  have h2:(parseHex s).2=false:=by unfold parseHex;rw [hx]
  have hn:numR s=none:=by
   unfold numR
   cases hl:lowV 0 s with
   | none=>rfl
   | some v =>
    simp only
    rw [if_neg]
    rintro ⟨h8,-⟩
    obtain ⟨h1,h3⟩:=qon 8 s v h8 hl
    have h1:v<4294967296:=h1
    have:=(qof 8 v h1 (by omega)).1
    rw [← h3] at this
    cases s with
    | nil=>cases h8
    | cons c r =>
     rw [show hexN (c :: r)=hexM 0 (c :: r) from rfl,this] at hx
     cases hx
  rw [h2,hn]
  rfl
 | some o =>
  cases o with
  | none =>
   have h2:(parseHex s).2=false:=by unfold parseHex;rw [hx]
   have hn:numR s=none:=by
    unfold numR
    cases hl:lowV 0 s with
    | none=>rfl
    | some v =>
     simp only
     rw [if_neg]
     rintro ⟨h8,-⟩
     obtain ⟨h1,h3⟩:=qon 8 s v h8 hl
     have h1:v<4294967296:=h1
     have:=(qof 8 v h1 (by omega)).1
     rw [← h3] at this
     cases s with
     | nil=>cases h8
     | cons c r =>
      rw [show hexN (c :: r)=hexM 0 (c :: r) from rfl,this] at hx
      cases hx
   rw [h2,hn]
   rfl
  | some v =>
   have hne:s≠[]:=by rintro rfl;cases hx
   have hM:hexM 0 s=some (some v):=by
    cases s with
    | nil=>exact absurd rfl hne
    | cons c r=>exact hx
   have hv:v≤4294967295:=qah9 s 0 v (by decide) hM
   have h1:(parseHex s).1=(v:Int):=by unfold parseHex;rw [hx]
   have h2:(parseHex s).2=true:=by unfold parseHex;rw [hx]
   have hw:iWrap .u32 (v:Int)=(v:Int):=by simp [iWrap,IntKind.wrap,IntKind.signed,IntKind.bits];omega
   have hf:qbj (v:Int)=some ((canon .f32 v,()),()):=by
    unfold qbj
    rw [Int.toNat_natCast]
   have hcl:=qu5 (v:=v) (by omega)
   rw [h1,h2,hw,hf]
   simp only [Option.bind_some,Bool.not_true,cond_false]
   rw [qda hcl]
   simp only [Option.bind_some]
   have hbl:=qads hcl
   by_cases he:hexP 8 (bitsOf (canon .f32 v))=s
   ·have hback:=qof 8 (bitsOf (canon .f32 v)) hbl (by omega)
    rw [he] at hback
    have hvv:bitsOf (canon .f32 v)=v:=by
     have:=hback.1.symm.trans hM
     simpa using this
    have hn:numR s=some (canon .f32 v):=by
     unfold numR
     rw [hback.2,hvv]
     simp only
     rw [if_pos ⟨by rw [← he];exact qi3 8 _,hvv⟩]
    rw [he,qct,hn]
    rfl
   ·have hse:sEq (hexP 8 (bitsOf (canon .f32 v))) s=false:=by
     cases hq:sEq (hexP 8 (bitsOf (canon .f32 v))) s with
     | false=>rfl
     | true=>exact absurd (by simpa [sEq] using hq) he
    have hn:numR s=none:=by
     unfold numR
     cases hl:lowV 0 s with
     | none=>rfl
     | some u =>
      simp only
      rw [if_neg]
      rintro ⟨h8,h9⟩
      obtain ⟨k1,k2⟩:=qon 8 s u h8 hl
      have k1:u<4294967296:=k1
      have:=(qof 8 u k1 (by omega)).1
      rw [← k2,hM] at this
      have huv:v=u:=by simpa using this
      subst huv
      rw [h9] at he
      exact he k2.symm
    rw [hse,hn]
    rfl
theorem qahl {s:List UInt8} (hs:s.length=8) : ∀ (r q:List UInt8) (acc:Nat),s=q++r→lowV 0 q=some acc →
  ∃ y:Nat,run (qbk s) ((acc:Int),(q.length:Int),())=some ((y,(numR s).isSome,()),()) ∧ ∀ a,numR s=some a→y=a:=by
 intro r
 induction r with
 | nil =>
  intro q acc e hq
  rw [List.append_nil] at e
  subst e
  obtain ⟨h1,h2⟩:=qon 8 s acc hs hq
  have h1:acc<4294967296:=h1
  have hf:qbj (acc:Int)=some ((canon .f32 acc,()),()):=by
   unfold qbj
   rw [Int.toNat_natCast]
  have hb:=qs6 (qu5 h1)
  have e1:iLt (s.length:Int) 8=false:=qag (by omega)
  have hn:numR s=if bitsOf (canon .f32 acc)=acc then some (canon .f32 acc) else none:=by
   unfold numR
   rw [hq]
   simp only
   by_cases h:bitsOf (canon .f32 acc)=acc
   ·rw [if_pos ⟨hs,h⟩,if_pos h]
   ·rw [if_neg (fun k=>h k.2),if_neg h]
  refine ⟨canon .f32 acc,?_,fun a ha => ?_⟩
  ·refine qai ?_
   unfold qbk
   simp only
   rw [e1]
   simp only [cond_false,hf,hb,Option.bind_some,Option.map_some]
   rw [hn]
   by_cases h:bitsOf (canon .f32 acc)=acc
   ·rw [if_pos h,h,qbt];rfl
   ·rw [if_neg h,qat (by omega)];rfl
  ·rw [hn] at ha
   by_cases h:bitsOf (canon .f32 acc)=acc
   ·rw [if_pos h] at ha;exact Option.some.inj ha
   ·rw [if_neg h] at ha;cases ha
 | cons c r ih =>
  intro q acc e hq
  have hql:q.length<8:=by rw [← hs,e];simp
  obtain ⟨h1,-⟩:=qon q.length q acc rfl hq
  have hp:(16:Nat)^q.length≤16^7:=Nat.pow_le_pow_right (by decide) (by omega)
  have hp7:(16:Nat)^7=268435456:=by decide
  have e1:iLt (q.length:Int) 8=true:=qah (by omega)
  have e2:inB (q.length:Int) s.length=true:=qae (by omega)
  have e3:strAt s (q.length:Int)=byteI c:=by
   rw [qtn,e]
   simp [List.getD_eq_getElem?_getD]
  have e4:iAdd .i64 (q.length:Int) 1=((q.length+1:Nat):Int):=(qdt (by omega) (by omega)).trans (by omega)
  have hc:c.toNat<256:=c.toNat_lt
  have hB:byteI c=(c.toNat:Int):=rfl
  have em:iMul .u32 (acc:Int) 16=(acc:Int)*16:=by simp [iMul,IntKind.wrap,IntKind.signed,IntKind.bits];omega
  have wu : ∀ x:Int,0≤x→x≤255→iWrap .u32 x=x:=fun x h0 h1=>by simp [iWrap,IntKind.wrap,IntKind.signed,IntKind.bits];omega
  have au : ∀ x y:Int,0≤x→0≤y→x+y≤4294967295→iAdd .u32 x y=x+y:=fun x y h0 h1 h2=>by simp [iAdd,IntKind.wrap,IntKind.signed,IntKind.bits];omega
  have su : ∀ x y:Int,y≤x→x-y≤255→iSub .u8 x y=x-y:=fun x y h0 h1=>by simp [iSub,IntKind.wrap,IntKind.signed,IntKind.bits];omega
  have next : ∀ d,lowD c=some d→qbk s ((acc:Int),(q.length:Int),())=some (.inl (((acc*16+d:Nat):Int),((q.length+1:Nat):Int),())) → ∃ y:Nat,run (qbk s) ((acc:Int),(q.length:Int),())=some ((y,(numR s).isSome,()),()) ∧ ∀ a,numR s=some a→y=a:=by
   intro d hd hst
   obtain ⟨y,h3,h4⟩:=ih (q++[c]) (acc*16+d) (by rw [e];simp) (by rw [qst,hq,hd];rfl)
   rw [show (q++[c]).length=q.length+1 by simp] at h3
   exact ⟨y,(qaj hst).trans h3,h4⟩
  have bad:lowD c=none→qbk s ((acc:Int),(q.length:Int),())=some (.inr ((0,false,()),())) → ∃ y:Nat,run (qbk s) ((acc:Int),(q.length:Int),())=some ((y,(numR s).isSome,()),()) ∧ ∀ a,numR s=some a→y=a:=by
   intro hd hst
   have hnone:lowV 0 s=none:=by
    have key : ∀ (p:List UInt8) (z:Nat),lowV z (p++c :: r)=none:=by
     intro p
     induction p with
     | nil=>intro z;show lowV z (c :: r)=none;simp only [lowV,hd]
     | cons b p ihp =>
      intro z
      show lowV z (b :: (p++c :: r))=none
      simp only [lowV]
      cases lowD b with
      | none=>rfl
      | some d=>exact ihp _
    rw [e];exact key q 0
   have hn:numR s=none:=by unfold numR;rw [hnone]
   exact ⟨0,by rw [qai hst,hn];rfl,fun a ha=>by rw [hn] at ha;cases ha⟩
  by_cases h48:48≤c.toNat
  ·have f1:iLe 48 (byteI c)=true:=qay (by omega)
   by_cases h57:c.toNat≤57
   ·have f2:iLe (byteI c) 57=true:=qay (by omega)
    have hd:lowD c=some (c.toNat-48):=by unfold lowD;rw [if_pos ⟨h48,h57⟩]
    refine next _ hd ?_
    have g:iAdd .u32 (iMul .u32 (acc:Int) 16) (iWrap .u32 (iSub .u8 (byteI c) 48))=((acc*16+(c.toNat-48):Nat):Int):=by
     rw [em,hB,su _ _ (by omega) (by omega),wu _ (by omega) (by omega),au _ _ (by omega) (by omega) (by omega)]
     omega
    unfold qbk
    simp only
    rw [e1,e2,e3,f1,f2,g,e4]
    rfl
   ·have f2:iLe (byteI c) 57=false:=qb6 (by omega)
    by_cases h97:97≤c.toNat∧c.toNat≤102
    ·have f3:iLe 97 (byteI c)=true:=qay (by omega)
     have f4:iLe (byteI c) 102=true:=qay (by omega)
     have hd:lowD c=some (c.toNat-87):=by unfold lowD;rw [if_neg (fun h=>h57 h.2),if_pos h97]
     refine next _ hd ?_
     have g:iAdd .u32 (iAdd .u32 (iMul .u32 (acc:Int) 16) (iWrap .u32 (iSub .u8 (byteI c) 97))) 10=((acc*16+(c.toNat-87):Nat):Int):=by
      rw [em,hB,su _ _ (by omega) (by omega),wu _ (by omega) (by omega),au ((acc:Int)*16) ((c.toNat:Int)-97) (by omega) (by omega) (by omega),au ((acc:Int)*16+((c.toNat:Int)-97)) 10 (by omega) (by omega) (by omega)]
      omega
     unfold qbk
     simp only
     rw [e1,e2,e3,f1,f2,f3,f4,g,e4]
     rfl
    ·have hd:lowD c=none:=by unfold lowD;rw [if_neg (fun h=>h57 h.2),if_neg h97]
     refine bad hd ?_
     unfold qbk
     simp only
     rw [e1,e2,e3,f1,f2]
     simp only [cond_true,cond_false]
     by_cases h:97≤c.toNat
     ·rw [qay (show (97:Int)≤byteI c by omega),qb6 (show ¬ byteI c≤102 by omega)];rfl
     ·rw [qb6 (show ¬ (97:Int)≤byteI c by omega)];rfl
  ·have f1:iLe 48 (byteI c)=false:=qb6 (by omega)
   have f3:iLe 97 (byteI c)=false:=qb6 (by omega)
   have hd:lowD c=none:=by unfold lowD;rw [if_neg (fun h=>h48 h.1),if_neg (fun h=>by omega)]
   refine bad hd ?_
   unfold qbk
   simp only
   rw [e1,e2,e3,f1,f3]
   rfl
theorem qach (s:List UInt8) : ∃ y:Nat,qba s=some ((y,(numR s).isSome,()),()) ∧ ∀ a,numR s=some a→y=a:=by
 unfold qba
 by_cases h:s.length=8
 ·have e:iEq (lenI s) 8=true:=qf7 (by rw [qaa];omega)
  rw [e]
  exact qahl h s [] 0 rfl rfl
 ·have e:iEq (lenI s) 8=false:=qat (by rw [qaa];omega)
  have hn:numR s=none:=by
   unfold numR
   cases lowV 0 s with
   | none=>rfl
   | some v=>simp only;rw [if_neg (fun k=>h k.1)]
  rw [e,hn]
  exact ⟨0,rfl,fun a ha=>by cases ha⟩
theorem qakw {s:List UInt8} {a:Nat} (h:numR s=some a):a<4294967296∧hexP 8 (bitsOf a)=s:=by
 unfold numR at h
 cases hl:lowV 0 s with
 | none=>rw [hl] at h;cases h
 | some v =>
  rw [hl] at h
  simp only at h
  by_cases hc:s.length=8∧bitsOf (canon .f32 v)=v
  ·rw [if_pos hc] at h
   have ha:canon .f32 v=a:=Option.some.inj h
   obtain ⟨h1,h2⟩:=qon 8 s v hc.1 hl
   have h1:v<4294967296:=h1
   rw [← ha,hc.2]
   exact ⟨qu5 h1,h2.symm⟩
  ·rw [if_neg hc] at h;cases h
theorem qakv {b:Nat} (h:b<4294967296):numR (hexP 8 b)=if bitsOf (canon .f32 b)=b then some (canon .f32 b) else none:=by
 unfold numR
 rw [(qof 8 b h (by omega)).2]
 simp only
 by_cases hc:bitsOf (canon .f32 b)=b
 ·rw [if_pos ⟨qi3 8 b,hc⟩,if_pos hc]
 ·rw [if_neg (fun k=>hc k.2),if_neg hc]
end
end Go.Proofs.YtjhdoneobdbeaaaGreatDoor
