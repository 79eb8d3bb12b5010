import Derived.Test.YtjhdoneobdbeaaaGreatDoorL
/- Functions of the program and of the reference in plain terms. -/
set_option linter.unusedSectionVars false
set_option linter.unusedSimpArgs false
set_option linter.unusedVariables false
namespace Go.Proofs.YtjhdoneobdbeaaaGreatDoor
open Go Go.Tm
section
theorem wrap_i64 {a:Int} (h : -9223372036854775808≤a) (h1:a≤9223372036854775807):iWrap .i64 a=a:=qo4 h h1
theorem qnp {a b:Int} : iLe a b=true↔a≤b:=by simp [iLe]
theorem qy3 {a b:Int} : iLt a b=true↔a<b:=by simp [iLt]
theorem qkq {a b:Int} : iEq a b=true↔a=b:=by simp [iEq]
theorem qgz:qax=qbx:=rfl
theorem qcb (a b c:Int):qbx a b c=some ((iLe b a&&iLe a c,()),()):=by
 unfold qbx
 cases iLe b a <;> rfl
theorem qajn (a b:Int):qj3 a b=some ((max a b,()),()):=by
 unfold qj3
 by_cases h:b<a
 ·rw [qag h,cond_true,Int.max_eq_left (by omega)]
 ·rw [qah h,cond_false,Int.max_eq_right (by omega)]
def finB (x:Nat):Bool:=fEq .f32 (fSub .f32 x x) 0
theorem qg8 (l:List Nat) (hl:l.length≤140737488355328):qci l=some ((l.all finB,()),()):=by
 unfold qci
 refine qi6 (fun i hi => ?_) ?_
 ·have e1:iLt (i:Int) (lenI l)=true:=qag (by rw [qaa];omega)
  have e2:inB (i:Int) l.length=true:=qae hi
  have e4:l.getD i (0:Nat)=l[i]:=qaj hi
  have e5:iAdd .i64 (i:Int) 1=((i+1:Nat):Int):=qao hi (by omega)
  simp only [qks,e1,e2,e4,e5,Int.toNat_natCast,cond_true,finB]
  cases fEq .f32 (fSub .f32 l[i] l[i]) 0 <;> rfl
 ·have e1:iLt (l.length:Int) (lenI l)=false:=qah (by rw [qaa];omega)
  simp only [qks,e1,cond_false]
  rfl
theorem qcc (x:Nat):qbt x=some ((finB x,()),()):=rfl
def finV (v:Vec 3 Nat):Bool:=finB (Vec.getD 3 v 0 (0:Nat))&&(finB (Vec.getD 3 v 1 (0:Nat))&&finB (Vec.getD 3 v 2 (0:Nat)))
theorem qm7 (v:Vec 3 Nat):qeq v=some ((finV v,()),()):=by
 simp only [qeq,qg8 [Vec.getD 3 v 0 (0:Nat),Vec.getD 3 v 1 (0:Nat),Vec.getD 3 v 2 (0:Nat)] (by simp),Option.bind_some,List.all_cons,List.all_nil,Bool.and_true,finV]
theorem qtz (v:Vec 3 Nat):qj6 v=some ((finV v,()),()):=by
 simp only [qj6,qcc,Option.bind_some,finV]
 cases finB (Vec.getD 3 v 0 (0:Nat)) <;> cases finB (Vec.getD 3 v 1 (0:Nat)) <;> rfl
theorem qwt (x:Nat):qr7 x=some ((orNan .f64 (FloatKind.f64.format.sqrt x),()),()):=rfl
theorem qafq (x:Nat):qrv x=some ((rootF x,()),()):=by
 simp only [qrv,qwt,qdm,qagf,Option.bind_some]
theorem qabs (x:Nat):qmj x=some ((rootF x,()),()):=by
 simp only [qmj,qwt,qdm,qagf,Option.bind_some]
def sameN (a b:Nat):Bool:=bif isNan .f32 a then isNan .f32 b else bif isNan .f32 b then false else iEq (a:Int) (b:Int)
theorem qt9 {A:Type} {g:Nat→Nat→Option A} {a:A} (h : ∀ q r,g q r=some a):(allSame fun q=>allSame fun r=>g q r)=some a:=qg0 fun q=>qg0 fun r=>h q r
theorem qdq (a b:Nat):qa1 a b=some ((sameN a b,()),()):=by
 simp only [qa1,qje,qim,Bool.not_not,Option.bind_some,sameN]
 cases ha:isNan .f32 a <;> cases hb:isNan .f32 b
 ·exact qt9 fun q r=>by rw [qnk ha,qnk hb];rfl
 ·exact qt9 fun q r=>by rw [qac8 (by simp [ha,hb])];rfl
 ·exact qt9 fun q r=>by rw [qac8 (by simp [ha,hb])];rfl
 ·rfl
theorem qfr (a b:Nat):qbc a b=some ((sameN a b,()),()):=by
 simp only [qbc,qim,Bool.not_not,sameN]
 cases ha:isNan .f32 a <;> cases hb:isNan .f32 b
 ·exact qt9 fun q r=>by rw [qnk ha,qnk hb];rfl
 ·rfl
 ·rfl
 ·rfl
def sameV (a b:Vec 3 Nat):Bool:=sameN (Vec.getD 3 a 0 (0:Nat)) (Vec.getD 3 b 0 (0:Nat))&&(sameN (Vec.getD 3 a 1 (0:Nat)) (Vec.getD 3 b 1 (0:Nat))&&sameN (Vec.getD 3 a 2 (0:Nat)) (Vec.getD 3 b 2 (0:Nat)))
theorem qz9 (a b:Vec 3 Nat):qlp a b=some ((sameV a b,()),()):=by
 simp only [qlp,qdq,Option.bind_some,sameV]
 cases sameN (Vec.getD 3 a 0 (0:Nat)) (Vec.getD 3 b 0 (0:Nat)) <;> cases sameN (Vec.getD 3 a 1 (0:Nat)) (Vec.getD 3 b 1 (0:Nat)) <;> cases sameN (Vec.getD 3 a 2 (0:Nat)) (Vec.getD 3 b 2 (0:Nat)) <;> rfl
theorem qw9 (a b:Vec 3 Nat):qib a b=some ((sameV a b,()),()):=by
 simp only [qib,qfr,Option.bind_some,sameV]
 cases sameN (Vec.getD 3 a 0 (0:Nat)) (Vec.getD 3 b 0 (0:Nat)) <;> cases sameN (Vec.getD 3 a 1 (0:Nat)) (Vec.getD 3 b 1 (0:Nat)) <;> rfl
end
section
def splitC (c:UInt8):List UInt8→List (List UInt8)
 | []=>[[]]
 | b :: r=>if b=c then [] :: splitC c r else
   match splitC c r with
   | []=>[[b]]
   | l :: ls=>(b :: l) :: ls
theorem qj7 {c:UInt8} : ∀ {p:List UInt8},c∉p→splitC c p=[p]
 | [],_=>rfl
 | b :: p,h=>by
  rw [List.mem_cons,not_or] at h
  unfold splitC
  rw [if_neg (fun e=>h.1 e.symm),qj7 h.2]
theorem qmy {c:UInt8} (r:List UInt8) : ∀ {p:List UInt8},c∉p→splitC c (p++c :: r)=p :: splitC c r
 | [],_=>by simp [splitC]
 | b :: p,h=>by
  rw [List.mem_cons,not_or] at h
  show splitC c (b :: (p++c :: r))=_
  rw [splitC,if_neg (fun e=>h.1 e.symm),qmy r h.2]
theorem qv6 (c:UInt8) : ∀ s:List UInt8,c∉s ∨ ∃ p r,s=p++c :: r∧c∉p
 | [] => .inl (by simp)
 | b :: s=>by
  by_cases h:b=c
  ·exact .inr ⟨[],s,by rw [h];rfl,by simp⟩
  ·rcases qv6 c s with h1 | ⟨p,r,e,h1⟩
   ·exact .inl (by rw [List.mem_cons,not_or];exact ⟨fun e=>h e.symm,h1⟩)
   ·exact .inr ⟨b :: p,r,by rw [e];rfl,by rw [List.mem_cons,not_or];exact ⟨fun e=>h e.symm,h1⟩⟩
theorem qaam {c:UInt8} : ∀ {s:List UInt8},c∉s→Lib.index s [c] = -1
 | [],_=>rfl
 | b :: s,h=>by
  rw [List.mem_cons,not_or] at h
  have hb:(c==b)=false:=by simpa using h.1
  simp [Lib.index,List.isPrefixOf,hb,qaam h.2]
theorem qwn {c:UInt8} (r:List UInt8) : ∀ {p:List UInt8},c∉p→Lib.index (p++c :: r) [c]=(p.length:Int)
 | [],_=>by simp [Lib.index,List.isPrefixOf]
 | b :: p,h=>by
  rw [List.mem_cons,not_or] at h
  have hb:(c==b)=false:=by simpa using h.1
  show Lib.index (b :: (p++c :: r)) [c]=_
  have hi:=qwn r h.2
  have hne:((p.length:Int) == -1)=false:=by
   rw [beq_eq_false_iff_ne];omega
  simp [Lib.index,List.isPrefixOf,hb,hi,hne]
theorem qv5 (c:UInt8) : ∀ (fuel:Nat) (s:List UInt8),s.length<fuel→s.count c≤Lib.countFrom [c] fuel s
 | 0,s,h=>by omega
 | fuel+1,s,h=>by
  rcases qv6 c s with h1 | ⟨p,r,e,h1⟩
  ·rw [List.count_eq_zero.2 h1];exact Nat.zero_le _
  ·subst e
   have hne:((p.length:Int) == -1)=false:=by
    rw [beq_eq_false_iff_ne];omega
   have hd:(p++c :: r).drop ((p.length:Int).toNat+[c].length)=r:=by
    rw [Int.toNat_natCast,List.length_singleton]
    rw [show p++c :: r=(p++[c])++r by simp,show p.length+1=(p++[c]).length by simp,List.drop_left]
   have ih:=qv5 c fuel r (by simp at h;omega)
   unfold Lib.countFrom
   rw [qwn r h1,hne,hd]
   rw [List.count_append,List.count_eq_zero.2 h1,List.count_cons_self]
   simp only [Bool.false_eq_true,if_false]
   omega
theorem qaea (c:UInt8) : ∀ (k:Nat) (s:List UInt8),s.count c≤k→Lib.splitK [c] 0 k s=splitC c s
 | 0,s,h=>by
  have:c∉s:=List.count_eq_zero.1 (Nat.le_zero.1 h)
  rw [qj7 this];rfl
 | k+1,s,h=>by
  rcases qv6 c s with h1 | ⟨p,r,e,h1⟩
  ·unfold Lib.splitK
   rw [qaam h1,qj7 h1]
   rfl
  ·subst e
   have hne:((p.length:Int) == -1)=false:=by
    rw [beq_eq_false_iff_ne];omega
   have hd:(p++c :: r).drop ((p.length:Int).toNat+[c].length)=r:=by
    rw [Int.toNat_natCast,List.length_singleton]
    rw [show p++c :: r=(p++[c])++r by simp,show p.length+1=(p++[c]).length by simp,List.drop_left]
   have ht:(p++c :: r).take ((p.length:Int).toNat+0)=p:=by simp
   unfold Lib.splitK
   rw [qwn r h1,hne,hd,ht,qmy r h1,qaea c k r]
   ·rfl
   ·rw [List.count_append,List.count_eq_zero.2 h1,List.count_cons_self] at h;omega
theorem qamd (c:UInt8) (s:List UInt8):Lib.split s [c]=splitC c s:=qaea c _ s (qv5 c _ s (Nat.lt_succ_self _))
theorem qq7 (c:UInt8) {s:List UInt8} (h:s.length≤4294967280):strings_Split s [c]=some ((splitC c s,()),()):=by
 unfold strings_Split
 rw [show Nat.ble 1 [c].length=true from rfl,Nat.ble_eq_true_of_le h,qamd]
 rfl
theorem qsy (s:List UInt8) (i:Nat):strAt s (i:Int)=byteI (s.getD i 0):=by
 unfold strAt
 rw [Int.toNat_natCast]
theorem qae9 (a b:UInt8):iEq (byteI a) (byteI b)=decide (a=b):=by
 unfold iEq byteI
 by_cases h:a=b
 ·simp [h]
 ·have:a.toNat≠b.toNat:=fun e=>h (UInt8.toNat_inj.1 e)
  have:(a.toNat:Int)≠(b.toNat:Int):=fun e=>this (Int.ofNat.inj e)
  simp [h,this]
theorem qanw {q p r:List UInt8} : subL (q++p++r) (q.length:Int) ((q++p).length:Int)=p:=by
 unfold subL
 rw [Int.toNat_natCast,Int.toNat_natCast,List.append_assoc,List.drop_left]
 rw [show (q++p).length-q.length=p.length by simp]
 simp
theorem qafv (c:UInt8) {s:List UInt8} (hs:s.length≤1048576) : ∀ (r p q:List UInt8) (out:List (List UInt8)),s=q++p++r→c∉p→out.length≤q.length →
  run (qcm s (byteI c)) (out,(q.length:Int),((q++p).length:Int),())=some ((out++splitC c (p++r),()),()):=by
 intro r
 induction r with
 | nil =>
  intro p q out e hp ho
  refine qal ?_
  have hl:s.length=(q++p).length:=by rw [e];simp
  have e1:iLt ((q++p).length:Int) (lenI s)=false:=qah (by rw [qaa,hl];omega)
  have hq:q.length≤s.length:=by rw [hl];simp
  have e2:inS (q.length:Int) (lenI s) s.length=true:=by
   unfold inS;rw [qaa];simp;omega
  have e3:room (out.length+1) 16=true:=qav (by omega)
  have e4:dropL s (q.length:Int)=p:=by
   unfold dropL
   rw [Int.toNat_natCast,e,List.append_nil,List.drop_left]
  simp only [qcm,e1,e2,e3,e4,cond_true,cond_false,List.append_nil,qj7 hp]
  rfl
 | cons b r ih =>
  intro p q out e hp ho
  have hl:s.length=(q++p).length+(r.length+1):=by rw [e];simp;omega
  have hq:q.length≤(q++p).length:=by simp
  have e1:iLt ((q++p).length:Int) (lenI s)=true:=qag (by rw [qaa,hl];omega)
  have e2:inB ((q++p).length:Int) s.length=true:=qae (by omega)
  have e3:strAt s ((q++p).length:Int)=byteI b:=by
   rw [qsy,e]
   simp [List.getD_eq_getElem?_getD]
  have e5:iAdd .i64 ((q++p).length:Int) 1=(((q++p).length+1:Nat):Int):=qao (n:=s.length) (by omega) (by omega)
  by_cases h:b=c
  ·have e4:iEq (byteI b) (byteI c)=true:=by rw [qae9];simpa using h
   have e6:inS (q.length:Int) ((q++p).length:Int) s.length=true:=by
    unfold inS;simp;simp at hl;omega
   have e7:room (out.length+1) 16=true:=qav (by omega)
   have e8:subL s (q.length:Int) ((q++p).length:Int)=p:=by rw [e];exact qanw
   have st:qcm s (byteI c) (out,(q.length:Int),((q++p).length:Int),())=some (.inl (out++[p],(((q++p).length+1:Nat):Int),(((q++p).length+1:Nat):Int),())):=by
    simp only [qcm,e1,e2,e3,e4,e5,e6,e7,e8,cond_true]
   rw [qan st]
   have:=ih [] (q++p++[c]) (out++[p]) (by rw [e,h];simp) (by simp) (by simp;omega)
   rw [h,qmy r hp]
   rw [show ((q++p++[c]).length:Int)=(((q++p).length+1:Nat):Int) by simp;omega,show ((q++p++[c]++([]:List UInt8)).length:Int)=(((q++p).length+1:Nat):Int) by simp;omega] at this
   rw [this]
   simp
  ·have e4:iEq (byteI b) (byteI c)=false:=by rw [qae9];simpa using h
   have st:qcm s (byteI c) (out,(q.length:Int),((q++p).length:Int),())=some (.inl (out,(q.length:Int),(((q++p).length+1:Nat):Int),())):=by
    simp only [qcm,e1,e2,e3,e4,e5,cond_true,cond_false]
   rw [qan st]
   have:=ih (p++[b]) q out (by rw [e];simp) (by simp;exact ⟨hp,fun e=>h e.symm⟩) ho
   rw [show ((q++(p++[b])).length:Int)=(((q++p).length+1:Nat):Int) by simp;omega] at this
   rw [this]
   simp
theorem qq1 (c:UInt8) {s:List UInt8} (hs:s.length≤1048576):qd6 s (byteI c)=some ((splitC c s,()),()):=by
 have:=qafv c hs s [] [] [] (by simp) (by simp) (by simp)
 simpa [qd6] using this
theorem qj8 (u:Nat):1≤(Lib.decDigits u).length:=by
 rw [Lib.decDigits]
 split <;> simp
theorem qadg : ∀ (k n:Nat),n<10^(k+1)→k≤100→n≤9223372036854775807→qbs (k+1) (n:Int)=some ((Lib.decDigits n,()),())∧(Lib.decDigits n).length≤k+1:=by
 intro k
 induction k with
 | zero =>
  intro n h hk _
  have h:n<10:=by simpa using h
  have e1:iLe 10 (n:Int)=false:=qc8 (by omega)
  have e2:iAdd .i64 48 (n:Int)=((48+n:Nat):Int):=(qc7 (by omega) (by omega)).trans (by omega)
  have e3:iWrap .u8 ((48+n:Nat):Int)=((48+n:Nat):Int):=by simp [iWrap,IntKind.wrap,IntKind.signed,IntKind.bits];omega
  have e4:Lib.decDigits n=[UInt8.ofNat (48+n)]:=by rw [Lib.decDigits,dif_pos h]
  refine ⟨?_,by rw [e4];simp⟩
  show qcz (qbs 0) (n:Int)=_
  simp only [qcz,e1,e2,e3,e4,cond_false]
  rfl
 | succ k ih =>
  intro n h hk hm
  by_cases hn:n<10
  ·have e1:iLe 10 (n:Int)=false:=qc8 (by omega)
   have e2:iAdd .i64 48 (n:Int)=((48+n:Nat):Int):=(qc7 (by omega) (by omega)).trans (by omega)
   have e3:iWrap .u8 ((48+n:Nat):Int)=((48+n:Nat):Int):=by simp [iWrap,IntKind.wrap,IntKind.signed,IntKind.bits];omega
   have e4:Lib.decDigits n=[UInt8.ofNat (48+n)]:=by rw [Lib.decDigits,dif_pos hn]
   refine ⟨?_,by rw [e4];simp⟩
   show qcz (qbs (k+1)) (n:Int)=_
   simp only [qcz,e1,e2,e3,e4,cond_false]
   rfl
  ·have e1:iLe 10 (n:Int)=true:=qaz (by omega)
   have e2:iQuo .i64 (n:Int) 10=((n/10:Nat):Int):=qo4 (a:=((n/10:Nat):Int)) (by omega) (by omega)
   have e3:iRem .i64 (n:Int) 10=((n%10:Nat):Int):=rfl
   obtain ⟨ih1,ih2⟩:=ih (n/10) (by rw [Nat.pow_succ] at h;omega) (by omega) (by omega)
   have e4:iAdd .i64 48 ((n%10:Nat):Int)=((48+n%10:Nat):Int):=(qc7 (by omega) (by omega)).trans (by omega)
   have e5:iWrap .u8 ((48+n%10:Nat):Int)=((48+n%10:Nat):Int):=by simp [iWrap,IntKind.wrap,IntKind.signed,IntKind.bits];omega
   have e6:Lib.decDigits n=Lib.decDigits (n/10)++[UInt8.ofNat (48+n%10)]:=by rw [Lib.decDigits,dif_neg hn]
   have e7:ofBytes [((48+n%10:Nat):Int)]=[UInt8.ofNat (48+n%10)]:=rfl
   have e8:strRoom (Lib.decDigits (n/10)) [UInt8.ofNat (48+n%10)]=true:=by
    unfold strRoom
    rw [decide_eq_true_eq,List.length_singleton]
    omega
   refine ⟨?_,by rw [e6,List.length_append,List.length_singleton];omega⟩
   show qcz (qbs (k+1)) (n:Int)=_
   simp only [qcz,e1,e2,ih1,e3,e4,e5,e7,e8,cond_true,Option.bind_some]
   rw [e6]
   rfl
theorem qaia {n:Nat} (h:n≤9223372036854775807):qbs 64 (n:Int)=some ((Lib.decDigits n,()),()) :=
 (qadg 63 n (Nat.lt_of_le_of_lt h (by decide)) (by omega) h).1
theorem qabk {n:Nat} (h:n≤9223372036854775807):qez (n:Int)=some ((Lib.decDigits n,()),())∧(Lib.decDigits n).length≤19:=by
 exact ⟨qaia h,(qadg 18 n (Nat.lt_of_le_of_lt h (by decide)) (by omega) h).2⟩
theorem qy8 (n:Nat):Lib.itoa (n:Int)=Lib.decDigits n:=by
 unfold Lib.itoa
 rw [if_neg (by omega),Int.toNat_natCast]
theorem qgh {n:Int} (h : -9223372036854775808≤n) (h1:n≤9223372036854775807):qct n=some ((Lib.itoa n,()),()):=by
 have:qbh n 10=some ((Lib.itoa n,()),()):=by
  unfold qbh
  rw [qbm,qaz h,qaz h1]
  rfl
 simp only [qct,this,Option.bind_some]
abbrev DDeed:=Int×(Int×(Int×Unit))
def deedB (d:DDeed):Bool:=(iLe 1 d.1&&iLe d.1 7)&&((iLe 0 d.2.1&&iLe d.2.1 999)&&((iLe 0 d.2.2.1&&iLe d.2.2.1 999)&&(iEq d.1 2||iEq d.2.2.1 0)))
theorem qxo (d:DDeed):qjc d=some ((deedB d,()),()):=by
 simp only [qjc,qgz,qcb,Option.bind_some,deedB]
 cases (iLe 1 d.1&&iLe d.1 7) <;> cases (iLe 0 d.2.1&&iLe d.2.1 999) <;> cases (iLe 0 d.2.2.1&&iLe d.2.2.1 999) <;> cases iEq d.1 2 <;> rfl
theorem qab3 (d:DDeed):qmw d=some ((deedB d,()),()):=by
 simp only [qmw,qcb,Option.bind_some,deedB]
 cases (iLe 1 d.1&&iLe d.1 7) <;> cases (iLe 0 d.2.1&&iLe d.2.1 999) <;> cases (iLe 0 d.2.2.1&&iLe d.2.2.1 999) <;> cases iEq d.1 2 <;> rfl
theorem qaiv {a b:List UInt8} (h:a.length+b.length≤4611686018427387904):strRoom a b=true:=by
 unfold strRoom;rw [decide_eq_true_eq];exact h
theorem qaic {d:DDeed} (h:deedB d=true) : ∃ k a b:Nat,d=((k:Int),(a:Int),(b:Int),())∧1≤k∧k≤7∧a≤999∧b≤999∧(k=2∨b=0):=by
 obtain ⟨k,a,b,⟨⟩⟩:=d
 simp only [deedB,Bool.and_eq_true,qnp,Bool.or_eq_true,qkq] at h
 obtain ⟨⟨h1,h2⟩,⟨h3,h4⟩,⟨h5,h6⟩,h7⟩:=h
 refine ⟨k.toNat,a.toNat,b.toNat,?_,by omega,by omega,by omega,by omega,by omega⟩
 rw [Int.toNat_of_nonneg (by omega),Int.toNat_of_nonneg h3,Int.toNat_of_nonneg h5]
end
section
def digB (b:UInt8):Bool:=decide (48≤b.toNat)&&decide (b.toNat≤57)
def valD (acc:Nat) (l:List UInt8):Nat:=l.foldl (fun a b=>a*10+(b.toNat-48)) acc
theorem qaed (acc:Nat) (l:List UInt8) (b:UInt8):valD acc (l++[b])=valD acc l*10+(b.toNat-48):=by
 unfold valD
 rw [List.foldl_append]
 rfl
theorem qahw : ∀ (l:List UInt8) (acc:Nat),acc≤valD acc l
 | [],_=>Nat.le_refl _
 | b :: l,acc=>by
  have:=qahw l (acc*10+(b.toNat-48))
  show acc≤valD (acc*10+(b.toNat-48)) l
  omega
theorem qp5 {d:Nat} (h:d<10):(UInt8.ofNat (48+d)).toNat=48+d:=by
 rw [UInt8.toNat_ofNat']
 omega
theorem qhl : ∀ (k u:Nat),u<10^(k+1)→(Lib.decDigits u).all digB=true∧valD 0 (Lib.decDigits u)=u∧(Lib.decDigits u).length≤k+1∧(1≤u → ∃ c r,Lib.decDigits u=c :: r∧c.toNat≠48)
 | 0,u,h=>by
  have h:u<10:=by simpa using h
  have e:Lib.decDigits u=[UInt8.ofNat (48+u)]:=by rw [Lib.decDigits,dif_pos h]
  have hb:=qp5 h
  rw [e]
  refine ⟨?_,?_,by simp,fun h1=>⟨_,_,rfl,by omega⟩⟩
  ·simp [digB,hb];omega
  ·show 0*10+((UInt8.ofNat (48+u)).toNat-48)=u
   omega
 | k+1,u,h=>by
  by_cases hu:u<10
  ·obtain ⟨h1,h2,h3,h4⟩:=qhl 0 u (by simpa using hu)
   exact ⟨h1,h2,by omega,h4⟩
  ·have e:Lib.decDigits u=Lib.decDigits (u/10)++[UInt8.ofNat (48+u%10)]:=by rw [Lib.decDigits,dif_neg hu]
   obtain ⟨h1,h2,h3,h4⟩:=qhl k (u/10) (by rw [Nat.pow_succ] at h;omega)
   have hb:=qp5 (d:=u%10) (by omega)
   obtain ⟨c,r,e2,hc⟩:=h4 (by omega)
   rw [e]
   refine ⟨?_,?_,by simp;omega,fun _=>⟨c,r++[UInt8.ofNat (48+u%10)],by rw [e2];rfl,hc⟩⟩
   ·rw [List.all_append,h1];simp [digB,hb];omega
   ·rw [qaed,h2,hb];omega
theorem qcp (u:Nat):(Lib.decDigits u).all digB=true∧valD 0 (Lib.decDigits u)=u∧(1≤u → ∃ c r,Lib.decDigits u=c :: r∧c.toNat≠48):=by
 obtain ⟨h1,h2,_,h4⟩:=qhl u u (Nat.lt_of_lt_of_le (Nat.lt_pow_self (by decide:1<10)) (Nat.pow_le_pow_right (by decide) (Nat.le_succ u)))
 exact ⟨h1,h2,h4⟩
theorem qrf : ∀ (n:Nat) (s:List UInt8),s.length=n+1→s.all digB=true→(n=0 ∨ ∃ c r,s=c :: r∧c.toNat≠48)→Lib.decDigits (valD 0 s)=s
 | 0,s,hl,hd,_=>by
  obtain ⟨b,rfl⟩ : ∃ b,s=[b]:=by
   match s,hl with
   | [b],_=>exact ⟨b,rfl⟩
  have hb:48≤b.toNat∧b.toNat≤57:=by simpa [digB] using hd
  have:valD 0 [b]=b.toNat-48:=by show 0*10+(b.toNat-48)=_;omega
  rw [this,Lib.decDigits,dif_pos (by omega)]
  congr 1
  refine UInt8.toNat_inj.1 ?_
  rw [qp5 (by omega)]
  omega
 | n+1,s,hl,hd,h0=>by
  obtain ⟨c,r,e,hc⟩ : ∃ c r,s=c :: r∧c.toNat≠48:=by
   rcases h0 with h0 | h0
   ·omega
   ·exact h0
  obtain ⟨t,b,rfl⟩ : ∃ t b,s=t++[b]:=by
   exact ⟨s.dropLast,s.getLast (by rw [e];simp),(List.dropLast_concat_getLast (by rw [e];simp)).symm⟩
  rw [List.all_append,Bool.and_eq_true] at hd
  have hb:48≤b.toNat∧b.toNat≤57:=by simpa [digB] using hd.2
  have ht:t.length=n+1:=by simpa using hl
  obtain ⟨d,q,rfl⟩ : ∃ d q,t=d :: q:=by
   cases t with
   | nil=>simp at ht
   | cons d q=>exact ⟨d,q,rfl⟩
  have hdc:d=c:=by
   have:d :: (q++[b])=c :: r:=e
   exact (List.cons.inj this).1
  have ih:=qrf n (d :: q) ht hd.1 (.inr ⟨d,q,rfl,by rw [hdc];exact hc⟩)
  have hv:1≤valD 0 (d :: q):=by
   rcases Nat.eq_zero_or_pos (valD 0 (d :: q)) with h | h
   ·rw [h] at ih
    have h0:Lib.decDigits 0=[48]:=by rw [Lib.decDigits,dif_pos (by decide)];rfl
    rw [h0] at ih
    have:d=48:=(List.cons.inj ih).1.symm
    rw [← hdc,this] at hc
    exact absurd rfl hc
   ·exact h
  rw [qaed,Lib.decDigits,dif_neg (by omega)]
  have e1:(valD 0 (d :: q)*10+(b.toNat-48))/10=valD 0 (d :: q):=by omega
  have e2:(valD 0 (d :: q)*10+(b.toNat-48))%10=b.toNat-48:=by omega
  rw [e1,e2,ih]
  congr 2
  refine UInt8.toNat_inj.1 ?_
  rw [qp5 (by omega)]
  omega
def numOK (m:Nat) (s:List UInt8):Bool:=decide (s=Lib.decDigits (valD 0 s))&&decide (valD 0 s≤m)
theorem qld {m:Nat} {s:List UInt8} : numOK m s=true ↔ ∃ k,k≤m∧s=Lib.decDigits k:=by
 unfold numOK
 rw [Bool.and_eq_true,decide_eq_true_eq,decide_eq_true_eq]
 constructor
 ·exact fun ⟨h1,h2⟩=>⟨_,h2,h1⟩
 ·rintro ⟨k,hk,rfl⟩
  have:=(qcp k).2.1
  rw [this]
  exact ⟨rfl,hk⟩
theorem qpd : ∀ (l:List UInt8) (acc:Nat),l.all digB=true→valD acc l≤999999999999999999→Lib.parseUintM (2^64-1) acc l = .ok (valD acc l)
 | [],_,_,_=>rfl
 | c :: r,acc,hd,hv=>by
  rw [List.all_cons,Bool.and_eq_true] at hd
  have hc:48≤c.toNat∧c.toNat≤57:=by simpa [digB] using hd.1
  have hv':valD (acc*10+(c.toNat-48)) r≤999999999999999999:=hv
  have hge:=qahw r (acc*10+(c.toNat-48))
  unfold Lib.parseUintM
  rw [if_pos hc,if_neg (by omega),if_neg (by omega),qpd r _ hd.2 hv']
  rfl
theorem qx2 {k:Nat} (hk:k≤999999999999999999):parseInt64 (Lib.decDigits k)=((k:Int),true):=by
 obtain ⟨h1,h2,_⟩:=qcp k
 have hp:=qpd (Lib.decDigits k) 0 h1 (by rw [h2];exact hk)
 rw [h2] at hp
 have hne:=qj8 k
 unfold parseInt64
 have:Lib.parseIntB 64 (Lib.decDigits k) = .ok (k:Int):=by
  cases hd:Lib.decDigits k with
  | nil=>rw [hd] at hne;simp at hne
  | cons c r =>
   rw [hd,List.all_cons,Bool.and_eq_true] at h1
   have hc:48≤c.toNat∧c.toNat≤57:=by simpa [digB] using h1.1
   rw [hd] at hp
   unfold Lib.parseIntB
   simp only [if_neg (show ¬ (c.toNat=43∨c.toNat=45) by omega),Lib.parseUintB,if_neg (show ¬ (c :: r=[]) by simp),hp]
   rw [if_neg (by omega),if_neg (by omega),if_neg (by omega)]
 rw [this]
theorem qx1 (s:List UInt8) : -9223372036854775808≤(parseInt64 s).1∧(parseInt64 s).1≤9223372036854775807:=by
 unfold parseInt64
 cases h:Lib.parseIntB 64 s with
 | ok v =>
  have:=Lib.parseIntB_bounds (B:=64) h
  simp at this ⊢
  omega
 | range =>
  show -9223372036854775808≤Lib.intSat 64 s∧Lib.intSat 64 s≤9223372036854775807
  unfold Lib.intSat
  split <;> decide
 | _=>exact ⟨by show (-9223372036854775808:Int)≤0;decide,by show (0:Int)≤9223372036854775807;decide⟩
theorem qvx {s:List UInt8} (h:s.length≤1048576):qco s 10 64=some (((parseInt64 s).1,(parseInt64 s).2,()),()):=by
 unfold qco
 rw [qbm,qbm,Nat.ble_eq_true_of_le (by omega)]
 rfl
theorem qur {n:Int} (h:0≤n):Lib.itoa n=Lib.decDigits n.toNat:=by
 unfold Lib.itoa
 rw [if_neg (by omega)]
theorem qaen {s:List UInt8} (hs:s.length≤9) : ∀ (r q:List UInt8) (acc:Nat),s=q++r→acc<10^q.length →
  run (qa7 s) ((acc:Int),(q.length:Int),())=some ((bif r.all digB then ((valD acc r:Int),true,()) else (0,false,())),()):=by
 intro r
 induction r with
 | nil =>
  intro q acc e ha
  refine qal ?_
  rw [List.append_nil] at e
  have e1:iLt (q.length:Int) (lenI s)=false:=qah (by rw [qaa,e];omega)
  simp only [qa7,e1,cond_false]
  rfl
 | cons b r ih =>
  intro q acc e ha
  have hl:s.length=q.length+(r.length+1):=by rw [e];simp
  have e1:iLt (q.length:Int) (lenI s)=true:=qag (by rw [qaa];omega)
  have e2:inB (q.length:Int) s.length=true:=qae (by omega)
  have e3:strAt s (q.length:Int)=byteI b:=by rw [qsy,e];simp [List.getD_eq_getElem?_getD]
  have e5:iAdd .i64 (q.length:Int) 1=((q.length+1:Nat):Int):=qao (n:=s.length) (by omega) (by omega)
  have hpw:10^q.length≤10^8:=Nat.pow_le_pow_right (by decide) (by omega)
  by_cases h1:byteI b<48
  ·have:digB b=false:=by unfold digB;unfold byteI at h1;simp;omega
   rw [List.all_cons,this,Bool.false_and]
   refine qal ?_
   simp only [qa7,e1,e2,e3,qag h1,cond_true]
   rfl
  ·by_cases h2:57<byteI b
   ·have:digB b=false:=by unfold digB;unfold byteI at h2;simp;omega
    rw [List.all_cons,this,Bool.false_and]
    refine qal ?_
    simp only [qa7,e1,e2,e3,qah h1,qag h2,cond_true,cond_false]
    rfl
   ·have hd:digB b=true:=by unfold digB;unfold byteI at h1 h2;simp;omega
    have e6:iWrap .i64 (iSub .u8 (byteI b) 48)=((b.toNat-48:Nat):Int):=by
     have e7:iSub .u8 (byteI b) 48=((b.toNat-48:Nat):Int):=by
      unfold byteI at h1 h2 ⊢
      simp [iSub,IntKind.wrap,IntKind.signed,IntKind.bits];omega
     rw [e7]
     exact wrap_i64 (by omega) (by unfold byteI at h2;omega)
    have e8:iAdd .i64 (iMul .i64 (acc:Int) 10) ((b.toNat-48:Nat):Int)=((acc*10+(b.toNat-48):Nat):Int):=by
     unfold byteI at h2
     rw [qam8 (by omega) (by omega),qc7 (by omega) (by omega)]
     omega
    have st:qa7 s ((acc:Int),(q.length:Int),())=some (.inl (((acc*10+(b.toNat-48):Nat):Int),((q.length+1:Nat):Int),())):=by
     simp only [qa7,e1,e2,e3,e5,e6,e8,qah h1,qah h2,cond_true,cond_false]
    rw [qan st]
    have:=ih (q++[b]) (acc*10+(b.toNat-48)) (by rw [e];simp) (by rw [List.length_append,List.length_singleton,Nat.pow_succ];unfold byteI at h2;omega)
    rw [show (q++[b]).length=q.length+1 by simp] at this
    rw [this,List.all_cons,hd]
    rfl
theorem qahx : ∀ (l:List UInt8) (acc n:Nat),l.all digB=true→acc<10^n→valD acc l<10^(n+l.length)
 | [],_,_,_,h=>h
 | b :: l,acc,n,hd,h=>by
  rw [List.all_cons,Bool.and_eq_true] at hd
  have hb:48≤b.toNat∧b.toNat≤57:=by simpa [digB] using hd.1
  have:=qahx l (acc*10+(b.toNat-48)) (n+1) hd.2 (by rw [Nat.pow_succ];omega)
  rw [List.length_cons,show n+(l.length+1)=n+1+l.length by omega]
  exact this
theorem qx7 (s:List UInt8):qbu s=some ((bif numOK 999999999 s then ((valD 0 s:Int),true,()) else (0,false,())),())∨(numOK 999999999 s=false ∧ ∃ n,qbu s=some ((n,false,()),())):=by
 have h52:qnf=qa7:=rfl
 unfold qbu
 by_cases h1:lenI s<1
 ·have:s=[]:=by rw [qaa] at h1;exact List.length_eq_zero_iff.1 (by omega)
  subst this
  refine .inr ⟨?_,0,by rw [qag h1];rfl⟩
  rw [← Bool.not_eq_true,qld]
  rintro ⟨k,_,e⟩
  have:=qj8 k
  rw [← e] at this
  simp at this
 ·by_cases h9:9<lenI s
  ·refine .inr ⟨?_,0,by rw [qah h1,qag h9];rfl⟩
   rw [← Bool.not_eq_true,qld]
   rintro ⟨k,hk,e⟩
   have:=(qhl 8 k (by omega)).2.2.1
   rw [← e] at this
   rw [qaa] at h9
   omega
  ·rw [qaa] at h1 h9
   have i0:inB 0 s.length=true:=qae (i:=0) (by omega)
   have hrun:=qaen (s:=s) (by omega) s [] 0 (by simp) (by simp)
   rw [qaa,qah h1,qah h9]
   simp only [cond_false,cond_true,i0,h52]
   obtain ⟨c,r,rfl⟩ : ∃ c r,s=c :: r:=by
    cases s with
    | nil=>simp at h1
    | cons c r=>exact ⟨c,r,rfl⟩
   have ec:strAt (c :: r) 0=byteI c:=rfl
   have key:(byteI c≠48∨r=[])→run (qa7 (c :: r)) (0,0,())=some ((bif numOK 999999999 (c :: r) then ((valD 0 (c :: r):Int),true,()) else (0,false,())),()):=by
    intro hlead
    have hrun:run (qa7 (c :: r)) (0,0,())=_:=hrun
    rw [hrun]
    cases hd:(c :: r).all digB with
    | true =>
     have hn:numOK 999999999 (c :: r)=true:=by
      refine qld.2 ⟨valD 0 (c :: r),?_,(qrf r.length (c :: r) (by simp) hd ?_).symm⟩
      ·have:=qahx (c :: r) 0 0 hd (by decide)
       have h2:10^(0+(c :: r).length)≤10^9:=Nat.pow_le_pow_right (by decide) (by omega)
       omega
      ·rcases hlead with h | h
       ·exact .inr ⟨c,r,rfl,fun e=>h (by unfold byteI;omega)⟩
       ·exact .inl (by rw [h];rfl)
     rw [hn]
    | false =>
     have hn:numOK 999999999 (c :: r)=false:=by
      rw [← Bool.not_eq_true,qld]
      rintro ⟨k,_,e⟩
      rw [e,(qcp k).1] at hd
      cases hd
     rw [hn]
   rw [ec]
   by_cases h48:byteI c=48
   ·rw [qno h48]
    by_cases h11:(1:Int)<((c :: r).length:Int)
    ·refine .inr ⟨?_,0,by rw [qag h11];rfl⟩
     rw [← Bool.not_eq_true,qld]
     rintro ⟨k,_,e⟩
     rcases Nat.eq_zero_or_pos k with rfl | hk
     ·rw [show Lib.decDigits 0=[48] by rw [Lib.decDigits,dif_pos (by decide)];rfl] at e
      rw [e] at h11
      simp at h11
     ·obtain ⟨_,_,hh⟩:=qcp k
      obtain ⟨c',r',e',hc'⟩:=hh hk
      rw [e'] at e
      have:=(List.cons.inj e).1
      rw [← this] at hc'
      exact hc' (by unfold byteI at h48;omega)
    ·have hr:r=[]:=by
      cases r with
      | nil=>rfl
      | cons d r=>simp at h11;omega
     rw [qah h11]
     exact .inl (key (.inr hr))
   ·rw [qa5 h48]
    exact .inl (key (.inl h48))
theorem qaeo (s:List UInt8) : ∃ n:Int,qbu s=some ((n,numOK 999999999 s,()),())∧(numOK 999999999 s=true→n=(valD 0 s:Int)):=by
 rcases qx7 s with h | ⟨h,n,h'⟩
 ·cases hn:numOK 999999999 s with
  | true=>rw [hn] at h;exact ⟨_,h,fun _=>rfl⟩
  | false=>rw [hn] at h;exact ⟨_,h,fun h=>by cases h⟩
 ·exact ⟨n,by rw [h];exact h',fun h''=>by rw [h] at h'';cases h''⟩
end
end Go.Proofs.YtjhdoneobdbeaaaGreatDoor
