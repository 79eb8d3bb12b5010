import Derived.Test.YtnndahnmlmgenaaGreatDoorL
/- Functions of the program and of the reference in plain terms. -/
set_option linter.unusedSectionVars false
set_option linter.unusedSimpArgs false
set_option linter.unusedVariables false
namespace Go.Proofs.YtnndahnmlmgenaaGreatDoor
open Go Go.Tm
section
theorem qvk {a:Int} (h : -9223372036854775808≤a) (h1:a≤9223372036854775807):iWrap .i64 a=a:=qxl h h1
theorem qdj {a b:Int} : iLe a b=true↔a≤b:=by simp [iLe]
theorem qalq {a b:Int} : iLt a b=true↔a<b:=by simp [iLt]
theorem qbq {a b:Int} : iEq a b=true↔a=b:=by simp [iEq]
theorem qff {a b:Int} : iEq a b=false↔a≠b:=by simp [iEq]
theorem qo8:qbh=qcg:=rfl
theorem qhz (a b c:Int):qcg a b c=some ((iLe b a&&iLe a c,()),()):=by
 unfold qcg
 cases iLe b a <;> rfl
theorem qai5 (a b:Int):qiu a b=some ((max a b,()),()):=by
 unfold qiu
 by_cases h:b<a
 ·rw [qan h,cond_true,Int.max_eq_left (by omega)]
 ·rw [qas h,cond_false,Int.max_eq_right (by omega)]
def finB (x:Nat):Bool:=fEq .f32 (fSub .f32 x x) 0
theorem qb5 (l:List Nat) (hl:l.length≤140737488355328):qaf l=some ((l.all finB,()),()):=by
 unfold qaf
 refine qp9 (fun i hi => ?_) ?_
 ·have e1:iLt (i:Int) (lenI l)=true:=qan (by rw [qac];omega)
  have e2:inB (i:Int) l.length=true:=qaj hi
  have e4:l.getD i (0:Nat)=l[i]:=qbd hi
  have e5:iAdd .i64 (i:Int) 1=((i+1:Nat):Int):=qaw hi (by omega)
  simp only [qlf,e1,e2,e4,e5,Int.toNat_natCast,cond_true,finB]
  cases fEq .f32 (fSub .f32 l[i] l[i]) 0 <;> rfl
 ·have e1:iLt (l.length:Int) (lenI l)=false:=qas (by rw [qac];omega)
  simp only [qlf,e1,cond_false]
  rfl
theorem qbo (x:Nat):qaa x=some ((finB x,()),()):=rfl
def finV (v:Vec 3 Nat):Bool:=finB (Vec.getD 3 v 0 (0:Nat))&&(finB (Vec.getD 3 v 1 (0:Nat))&&finB (Vec.getD 3 v 2 (0:Nat)))
theorem qd1 (v:Vec 3 Nat):qbm v=some ((finV v,()),()):=by
 simp only [qbm,qb5 [Vec.getD 3 v 0 (0:Nat),Vec.getD 3 v 1 (0:Nat),Vec.getD 3 v 2 (0:Nat)] (by simp),Option.bind_some,List.all_cons,List.all_nil,Bool.and_true,finV]
theorem qfq (v:Vec 3 Nat):qcn v=some ((finV v,()),()):=by
 simp only [qcn,qbo,Option.bind_some,finV]
 cases finB (Vec.getD 3 v 0 (0:Nat)) <;> cases finB (Vec.getD 3 v 1 (0:Nat)) <;> rfl
theorem qwx (x:Nat):qsf x=some ((orNan .f64 (FloatKind.f64.format.sqrt x),()),()):=rfl
theorem qhc (x:Nat):qgb x=some ((rootF x,()),()):=by
 simp only [qgb,qwx,qjy,qafb,Option.bind_some]
theorem qev (x:Nat):qdp x=some ((rootF x,()),()):=by
 simp only [qdp,qwx,qjy,qafb,Option.bind_some]
def sameN (a b:Nat):Bool:=bif isNan .f32 a then isNan .f32 b else bif isNan .f32 b then false else iEq (a:Int) (b:Int)
theorem qum {A:Type} {g:Nat→Nat→Option A} {a:A} (h : ∀ q r,g q r=some a):(allSame fun q=>allSame fun r=>g q r)=some a:=qp7 fun q=>qp7 fun r=>h q r
theorem qor (a b:Nat):qdl a b=some ((sameN a b,()),()):=by
 simp only [qdl,qfa,qne,Bool.not_not,Option.bind_some,sameN]
 cases ha:isNan .f32 a <;> cases hb:isNan .f32 b
 ·exact qum fun q r=>by rw [qup ha,qup hb];rfl
 ·exact qum fun q r=>by rw [qacq (by simp [ha,hb])];rfl
 ·exact qum fun q r=>by rw [qacq (by simp [ha,hb])];rfl
 ·rfl
theorem qja (a b:Nat):qa1 a b=some ((sameN a b,()),()):=by
 simp only [qa1,qne,Bool.not_not,sameN]
 cases ha:isNan .f32 a <;> cases hb:isNan .f32 b
 ·exact qum fun q r=>by rw [qup ha,qup hb];rfl
 ·rfl
 ·rfl
 ·rfl
def sameV (a b:Vec 3 Nat):Bool:=sameN (Vec.getD 3 a 0 (0:Nat)) (Vec.getD 3 b 0 (0:Nat))&&(sameN (Vec.getD 3 a 1 (0:Nat)) (Vec.getD 3 b 1 (0:Nat))&&sameN (Vec.getD 3 a 2 (0:Nat)) (Vec.getD 3 b 2 (0:Nat)))
theorem qaal (a b:Vec 3 Nat):ql7 a b=some ((sameV a b,()),()):=by
 simp only [ql7,qor,Option.bind_some,sameV]
 cases sameN (Vec.getD 3 a 0 (0:Nat)) (Vec.getD 3 b 0 (0:Nat)) <;> cases sameN (Vec.getD 3 a 1 (0:Nat)) (Vec.getD 3 b 1 (0:Nat)) <;> cases sameN (Vec.getD 3 a 2 (0:Nat)) (Vec.getD 3 b 2 (0:Nat)) <;> rfl
theorem qgl (a b:Vec 3 Nat):qbg a b=some ((sameV a b,()),()):=by
 simp only [qbg,qja,Option.bind_some,sameV]
 cases sameN (Vec.getD 3 a 0 (0:Nat)) (Vec.getD 3 b 0 (0:Nat)) <;> cases sameN (Vec.getD 3 a 1 (0:Nat)) (Vec.getD 3 b 1 (0:Nat)) <;> rfl
end
section
def splitC (c:UInt8):List UInt8→List (List UInt8)
 | []=>[[]]
 | b :: r=>if b=c then [] :: splitC c r else
   match splitC c r with
   | []=>[[b]]
   | l :: ls=>(b :: l) :: ls
theorem qo7 (c:UInt8) : ∀ s,splitC c s≠[]
 | []=>by simp [splitC]
 | b :: r=>by
  unfold splitC
  split
  ·simp
  ·split <;> simp
theorem qkx {c:UInt8} : ∀ {p:List UInt8},c∉p→splitC c p=[p]
 | [],_=>rfl
 | b :: p,h=>by
  rw [List.mem_cons,not_or] at h
  unfold splitC
  rw [if_neg (fun e=>h.1 e.symm),qkx h.2]
theorem qmu {c:UInt8} (r:List UInt8) : ∀ {p:List UInt8},c∉p→splitC c (p++c :: r)=p :: splitC c r
 | [],_=>by simp [splitC]
 | b :: p,h=>by
  rw [List.mem_cons,not_or] at h
  show splitC c (b :: (p++c :: r))=_
  rw [splitC,if_neg (fun e=>h.1 e.symm),qmu r h.2]
theorem qrw (c:UInt8) : ∀ s:List UInt8,c∉s ∨ ∃ p r,s=p++c :: r∧c∉p
 | [] => .inl (by simp)
 | b :: s=>by
  by_cases h:b=c
  ·exact .inr ⟨[],s,by rw [h];rfl,by simp⟩
  ·rcases qrw c s with h1 | ⟨p,r,e,h1⟩
   ·exact .inl (by rw [List.mem_cons,not_or];exact ⟨fun e=>h e.symm,h1⟩)
   ·exact .inr ⟨b :: p,r,by rw [e];rfl,by rw [List.mem_cons,not_or];exact ⟨fun e=>h e.symm,h1⟩⟩
theorem qaaz {c:UInt8} : ∀ {s:List UInt8},c∉s→Lib.index s [c] = -1
 | [],_=>rfl
 | b :: s,h=>by
  rw [List.mem_cons,not_or] at h
  have hb:(c==b)=false:=by simpa using h.1
  simp [Lib.index,List.isPrefixOf,hb,qaaz h.2]
theorem qws {c:UInt8} (r:List UInt8) : ∀ {p:List UInt8},c∉p→Lib.index (p++c :: r) [c]=(p.length:Int)
 | [],_=>by simp [Lib.index,List.isPrefixOf]
 | b :: p,h=>by
  rw [List.mem_cons,not_or] at h
  have hb:(c==b)=false:=by simpa using h.1
  show Lib.index (b :: (p++c :: r)) [c]=_
  have hi:=qws r h.2
  have hne:((p.length:Int) == -1)=false:=by
   rw [beq_eq_false_iff_ne];omega
  simp [Lib.index,List.isPrefixOf,hb,hi,hne]
theorem qv7 (c:UInt8) : ∀ (fuel:Nat) (s:List UInt8),s.length<fuel→s.count c≤Lib.countFrom [c] fuel s
 | 0,s,h=>by omega
 | fuel+1,s,h=>by
  rcases qrw c s with h1 | ⟨p,r,e,h1⟩
  ·rw [List.count_eq_zero.2 h1];exact Nat.zero_le _
  ·subst e
   have hne:((p.length:Int) == -1)=false:=by
    rw [beq_eq_false_iff_ne];omega
   have hd:(p++c :: r).drop ((p.length:Int).toNat+[c].length)=r:=by
    rw [Int.toNat_natCast,List.length_singleton]
    rw [show p++c :: r=(p++[c])++r by simp,show p.length+1=(p++[c]).length by simp,List.drop_left]
   have ih:=qv7 c fuel r (by simp at h;omega)
   unfold Lib.countFrom
   rw [qws r h1,hne,hd]
   rw [List.count_append,List.count_eq_zero.2 h1,List.count_cons_self]
   simp only [Bool.false_eq_true,if_false]
   omega
theorem qadq (c:UInt8) : ∀ (k:Nat) (s:List UInt8),s.count c≤k→Lib.splitK [c] 0 k s=splitC c s
 | 0,s,h=>by
  have:c∉s:=List.count_eq_zero.1 (Nat.le_zero.1 h)
  rw [qkx this];rfl
 | k+1,s,h=>by
  rcases qrw c s with h1 | ⟨p,r,e,h1⟩
  ·unfold Lib.splitK
   rw [qaaz h1,qkx h1]
   rfl
  ·subst e
   have hne:((p.length:Int) == -1)=false:=by
    rw [beq_eq_false_iff_ne];omega
   have hd:(p++c :: r).drop ((p.length:Int).toNat+[c].length)=r:=by
    rw [Int.toNat_natCast,List.length_singleton]
    rw [show p++c :: r=(p++[c])++r by simp,show p.length+1=(p++[c]).length by simp,List.drop_left]
   have ht:(p++c :: r).take ((p.length:Int).toNat+0)=p:=by simp
   unfold Lib.splitK
   rw [qws r h1,hne,hd,ht,qmu r h1,qadq c k r]
   ·rfl
   ·rw [List.count_append,List.count_eq_zero.2 h1,List.count_cons_self] at h;omega
theorem qamr (c:UInt8) (s:List UInt8):Lib.split s [c]=splitC c s:=qadq c _ s (qv7 c _ s (Nat.lt_succ_self _))
theorem qib (c:UInt8) {s:List UInt8} (h:s.length≤4294967280):strings_Split s [c]=some ((splitC c s,()),()):=by
 unfold strings_Split
 rw [show Nat.ble 1 [c].length=true from rfl,Nat.ble_eq_true_of_le h,qamr]
 rfl
theorem qim (c:UInt8) : ∀ s:List UInt8,(splitC c s).length=s.count c+1
 | []=>rfl
 | b :: s=>by
  have ih:=qim c s
  unfold splitC
  by_cases h:b=c
  ·rw [if_pos h,h,List.count_cons_self,List.length_cons,ih]
  ·rw [if_neg h,List.count_cons_of_ne h]
   cases hs:splitC c s with
   | nil=>exact absurd hs (qo7 c s)
   | cons l ls=>rw [hs] at ih;simpa using ih
theorem qakf (s:List UInt8) (i:Nat):strAt s (i:Int)=byteI (s.getD i 0):=by
 unfold strAt
 rw [Int.toNat_natCast]
theorem qvl (u:Nat):1≤(Lib.decDigits u).length:=by
 rw [Lib.decDigits]
 split <;> simp
theorem qhb {n:Int} (h : -9223372036854775808≤n) (h1:n≤9223372036854775807):qdf n=some ((Lib.itoa n,()),()):=by
 have:qby n 10=some ((Lib.itoa n,()),()):=by
  unfold qby
  rw [qew,qds h,qds h1]
  rfl
 simp only [qdf,this,Option.bind_some]
theorem qah7 {a b:List UInt8} (h:a.length+b.length≤4611686018427387904):strRoom a b=true:=by
 unfold strRoom;rw [decide_eq_true_eq];exact h
end
section
def digB (b:UInt8):Bool:=decide (48≤b.toNat)&&decide (b.toNat≤57)
def valD (acc:Nat) (l:List UInt8):Nat:=l.foldl (fun a b=>a*10+(b.toNat-48)) acc
theorem qakq (acc:Nat) (l:List UInt8) (b:UInt8):valD acc (l++[b])=valD acc l*10+(b.toNat-48):=by
 unfold valD
 rw [List.foldl_append]
 rfl
theorem qag2 : ∀ (l:List UInt8) (acc:Nat),acc≤valD acc l
 | [],_=>Nat.le_refl _
 | b :: l,acc=>by
  have:=qag2 l (acc*10+(b.toNat-48))
  show acc≤valD (acc*10+(b.toNat-48)) l
  omega
theorem qz4 {d:Nat} (h:d<10):(UInt8.ofNat (48+d)).toNat=48+d:=by
 rw [UInt8.toNat_ofNat']
 omega
theorem qky : ∀ (k u:Nat),u<10^(k+1)→(Lib.decDigits u).all digB=true∧valD 0 (Lib.decDigits u)=u∧(Lib.decDigits u).length≤k+1∧(1≤u → ∃ c r,Lib.decDigits u=c :: r∧c.toNat≠48)
 | 0,u,h=>by
  have h:u<10:=by simpa using h
  have e:Lib.decDigits u=[UInt8.ofNat (48+u)]:=by rw [Lib.decDigits,dif_pos h]
  have hb:=qz4 h
  rw [e]
  refine ⟨?_,?_,by simp,fun h1=>⟨_,_,rfl,by omega⟩⟩
  ·simp [digB,hb];omega
  ·show 0*10+((UInt8.ofNat (48+u)).toNat-48)=u
   omega
 | k+1,u,h=>by
  by_cases hu:u<10
  ·obtain ⟨h1,h2,h3,h4⟩:=qky 0 u (by simpa using hu)
   exact ⟨h1,h2,by omega,h4⟩
  ·have e:Lib.decDigits u=Lib.decDigits (u/10)++[UInt8.ofNat (48+u%10)]:=by rw [Lib.decDigits,dif_neg hu]
   obtain ⟨h1,h2,h3,h4⟩:=qky k (u/10) (by rw [Nat.pow_succ] at h;omega)
   have hb:=qz4 (d:=u%10) (by omega)
   obtain ⟨c,r,e2,hc⟩:=h4 (by omega)
   rw [e]
   refine ⟨?_,?_,by simp;omega,fun _=>⟨c,r++[UInt8.ofNat (48+u%10)],by rw [e2];rfl,hc⟩⟩
   ·rw [List.all_append,h1];simp [digB,hb];omega
   ·rw [qakq,h2,hb];omega
theorem qnd (u:Nat):(Lib.decDigits u).all digB=true∧valD 0 (Lib.decDigits u)=u∧(1≤u → ∃ c r,Lib.decDigits u=c :: r∧c.toNat≠48):=by
 obtain ⟨h1,h2,_,h4⟩:=qky u u (Nat.lt_of_lt_of_le (Nat.lt_pow_self (by decide:1<10)) (Nat.pow_le_pow_right (by decide) (Nat.le_succ u)))
 exact ⟨h1,h2,h4⟩
theorem qpf : ∀ (l:List UInt8) (acc:Nat),l.all digB=true→valD acc l≤999999999999999999→Lib.parseUintM (2^64-1) acc l = .ok (valD acc l)
 | [],_,_,_=>rfl
 | c :: r,acc,hd,hv=>by
  rw [List.all_cons,Bool.and_eq_true] at hd
  have hc:48≤c.toNat∧c.toNat≤57:=by simpa [digB] using hd.1
  have hv':valD (acc*10+(c.toNat-48)) r≤999999999999999999:=hv
  have hge:=qag2 r (acc*10+(c.toNat-48))
  unfold Lib.parseUintM
  rw [if_pos hc,if_neg (by omega),if_neg (by omega),qpf r _ hd.2 hv']
  rfl
theorem qyc {k:Nat} (hk:k≤999999999999999999):parseInt64 (Lib.decDigits k)=((k:Int),true):=by
 obtain ⟨h1,h2,_⟩:=qnd k
 have hp:=qpf (Lib.decDigits k) 0 h1 (by rw [h2];exact hk)
 rw [h2] at hp
 have hne:=qvl k
 unfold parseInt64
 have:Lib.parseIntB 64 (Lib.decDigits k) = .ok (k:Int):=by
  cases hd:Lib.decDigits k with
  | nil=>rw [hd] at hne;simp at hne
  | cons c r =>
   rw [hd,List.all_cons,Bool.and_eq_true] at h1
   have hc:48≤c.toNat∧c.toNat≤57:=by simpa [digB] using h1.1
   rw [hd] at hp
   unfold Lib.parseIntB
   simp only [if_neg (show ¬ (c.toNat=43∨c.toNat=45) by omega),Lib.parseUintB,if_neg (show ¬ (c :: r=[]) by simp),hp]
   rw [if_neg (by omega),if_neg (by omega),if_neg (by omega)]
 rw [this]
theorem qyb (s:List UInt8) : -9223372036854775808≤(parseInt64 s).1∧(parseInt64 s).1≤9223372036854775807:=by
 unfold parseInt64
 cases h:Lib.parseIntB 64 s with
 | ok v =>
  have:=Lib.parseIntB_bounds (B:=64) h
  simp at this ⊢
  omega
 | range =>
  show -9223372036854775808≤Lib.intSat 64 s∧Lib.intSat 64 s≤9223372036854775807
  unfold Lib.intSat
  split <;> decide
 | _=>exact ⟨by show (-9223372036854775808:Int)≤0;decide,by show (0:Int)≤9223372036854775807;decide⟩
theorem qv0 {s:List UInt8} (h:s.length≤1048576):qdb s 10 64=some (((parseInt64 s).1,(parseInt64 s).2,()),()):=by
 unfold qdb
 rw [qew,qew,Nat.ble_eq_true_of_le (by omega)]
 rfl
theorem qaes {n:Int} (h:0≤n):Lib.itoa n=Lib.decDigits n.toNat:=by
 unfold Lib.itoa
 rw [if_neg (by omega)]
end
section
def digsL:List UInt8:=[48,49,50,51,52,53,54,55,56,57,97,98,99,100,101,102,103,104,105,106,107,108,109,110,111,112,113,114,115,116,117,118,119,120,121,122]
def hexC (d:Nat):UInt8:=digsL.getD d 0
def hexG:Nat→Nat→List UInt8
 | 0,n=>[hexC n]
 | k+1,n=>if n<16 then [hexC n] else hexG k (n/16)++[hexC (n%16)]
def hexP:Nat→Nat→List UInt8
 | 0,_=>[]
 | k+1,n=>hexP k (n/16)++[hexC (n%16)]
theorem qed : ∀ k n,(hexP k n).length=k
 | 0,_=>rfl
 | k+1,n=>by rw [hexP,List.length_append,qed k];rfl
theorem qapm {u:Int} (h0:0≤u) (h1:u<18446744073709551616):iAnd .u64 u 15=u%16:=by
 obtain ⟨n,rfl⟩:=Int.eq_ofNat_of_zero_le h0
 have hb:(BitVec.ofInt 64 ((n:Nat):Int)).toNat=n:=by
  rw [BitVec.toNat_ofInt];omega
 have e2:(BitVec.ofInt 64 15).toNat=15:=by decide
 have h:((BitVec.ofInt IntKind.u64.bits ((n:Nat):Int) &&& BitVec.ofInt IntKind.u64.bits 15).toNat)=n%16:=by
  show ((BitVec.ofInt 64 ((n:Nat):Int) &&& BitVec.ofInt 64 15).toNat)=n%16
  rw [BitVec.toNat_and,e2,hb]
  exact Nat.and_two_pow_sub_one_eq_mod n 4
 unfold iAnd
 rw [h]
 simp [IntKind.wrap,IntKind.signed,IntKind.bits]
 omega
theorem shr4 {u:Int} (h0:0≤u):iShr .u64 u 4=u/16:=by
 show u.fdiv (2^(min (4:Int).toNat 64))=u/16
 rw [Int.fdiv_eq_ediv_of_nonneg _ (by decide)]
 rfl
theorem qagu : ∀ (k:Nat) (n:Nat) (f:Nat),n<16^(k+1)→k≤f→List.replicate (k+1-(hexG f n).length) 48++hexG f n=hexP (k+1) n∧(hexG f n).length≤k+1
 | 0,n,f,h,_=>by
  have h:n<16:=h
  have e:hexG f n=[hexC n]:=by
   cases f with
   | zero=>rfl
   | succ f=>rw [hexG,if_pos h]
  have e2:n%16=n:=Nat.mod_eq_of_lt h
  rw [e]
  refine ⟨?_,Nat.le_refl _⟩
  show [hexC n]=hexP 0 (n/16)++[hexC (n%16)]
  rw [e2];rfl
 | k+1,n,0,h,hf=>by omega
 | k+1,n,f+1,h,hf=>by
  by_cases hn:n<16
  ·have e2:n%16=n:=Nat.mod_eq_of_lt hn
   have e3:n/16=0:=Nat.div_eq_of_lt hn
   have hz : ∀ j,hexP j 0=List.replicate j 48:=by
    intro j
    induction j with
    | zero=>rfl
    | succ j ih=>rw [hexP,show 0/16=0 from rfl,ih,List.replicate_succ'];rfl
   rw [hexG,if_pos hn]
   refine ⟨?_,by simp⟩
   show List.replicate (k+1+1-1) 48++[hexC n]=hexP (k+1) (n/16)++[hexC (n%16)]
   rw [e2,e3,hz]
   rfl
  ·have hd:n/16<16^(k+1):=by
    rw [Nat.div_lt_iff_lt_mul (by decide)]
    rw [Nat.pow_succ] at h
    exact h
   obtain ⟨h1,h2⟩:=qagu k (n/16) f hd (by omega)
   rw [hexG,if_neg hn,List.length_append]
   refine ⟨?_,by simp;omega⟩
   rw [show k+1+1-((hexG f (n/16)).length+[hexC (n%16)].length)=k+1-(hexG f (n/16)).length by simp,← List.append_assoc,h1]
   rfl
theorem qadt {α:Type} {z:α} : ∀ (n:Nat) (v:Vec n α) (i j:Nat) (x:α),i<n→Vec.getD n (Vec.set n v i x) j z=if j=i then x else Vec.getD n v j z
 | 0,_,_,_,_,h=>absurd h (Nat.not_lt_zero _)
 | _+1,_,0,0,_,_=>rfl
 | _+1,_,0,_+1,_,_=>rfl
 | _+1,_,_+1,0,_,_=>rfl
 | n+1,v,i+1,j+1,x,h=>by
  have:=qadt (z:=z) n v.2 i j x (Nat.lt_of_succ_lt_succ h)
  show Vec.getD n (Vec.set n v.2 i x) j z=_
  rw [this]
  by_cases e:j=i
  ·rw [if_pos e,if_pos (congrArg (· + 1) e)]
  ·rw [if_neg e,if_neg (fun h=>e (Nat.succ.inj h))]
   rfl
theorem qabo (d:Nat):strAt digsL (d:Int)=byteI (hexC d):=qakf _ d
theorem qxh (b:UInt8):toByte (byteI b)=b:=by
 unfold toByte byteI
 rw [Int.toNat_natCast]
 exact UInt8.ofNat_toNat
def list65 (V:Vec 65 Int):List Int:=(List.range 65).map fun j=>Vec.getD 65 V j (0:Int)
theorem qapk {V:Vec 65 Int} {i:Nat} {L:List UInt8} (hi:i+L.length=65) (h : ∀ j (hj:j<L.length),Vec.getD 65 V (i+j) (0:Int)=byteI L[j]):ofBytes (List.take (65-i) (List.drop i (list65 V)))=L:=by
 have e:List.take (65-i) (List.drop i (list65 V))=L.map byteI:=by
  unfold list65
  apply List.ext_getElem
  ·simp;omega
  ·intro j h1 h2
   simp only [List.getElem_map,List.getElem_take,List.getElem_drop,List.getElem_range]
   exact h j (by simpa using h2)
 rw [e]
 unfold ofBytes
 rw [List.map_map]
 have:toByte ∘ byteI=id:=by funext b;exact qxh b
 rw [this,List.map_id]
theorem qam4 (u i:Int) (V:Vec 65 Int):qb0 16 15 4 false false (u,i,V,()) =
  bif iLe 16 u then (bif inB (iAnd .u64 u 15) digsL.length then bif inB (iSub .i64 i 1) 65 then bif iLe 0 4 then some (.inl (iShr .u64 u 4,iSub .i64 i 1,Vec.set 65 V (iSub .i64 i 1).toNat (strAt digsL (iAnd .u64 u 15)),())) else none else none else none)
  else Option.map Sum.inr (bif inB u digsL.length then bif inB (iSub .i64 i 1) 65 then bif inS (iSub .i64 i 1) ((65:Nat):Int) 65 then some ((([]:List Int),ofBytes (List.take (65-(iSub .i64 i 1).toNat) (List.drop (iSub .i64 i 1).toNat (list65 (Vec.set 65 V (iSub .i64 i 1).toNat (strAt digsL u))))),()),()) else none else none else none):=by kernel_rfl
theorem qaiv : ∀ (f n:Nat) (i:Nat) (V:Vec 65 Int) (L:List UInt8),n<16^(f+1)→f≤8→f+1≤i→i+L.length=65→(∀ j (hj:j<L.length),Vec.getD 65 V (i+j) (0:Int)=byteI L[j]) →
  run (qb0 16 15 4 false false) ((n:Int),(i:Int),V,())=some ((([]:List Int),hexG f n++L,()),())
 | f,n,i,V,L,hn,hf,hi,hl,hV=>by
  have hp:(16:Nat)^(f+1)≤16^9:=Nat.pow_le_pow_right (by decide) (by omega)
  have hp9:(16:Nat)^9=68719476736:=by decide
  obtain ⟨q,rfl⟩ : ∃ q,i=q+1:=⟨i-1,by omega⟩
  have ei:iSub .i64 ((q+1:Nat):Int) 1=(q:Int):=(qlu (by omega) (by omega)).trans (by omega)
  have eb:inB (q:Int) 65=true:=qaj (by omega)
  have hset : ∀ (x:UInt8),∀ j (hj:j<(x :: L).length),Vec.getD 65 (Vec.set 65 V q (byteI x)) (q+j) (0:Int)=byteI (x :: L)[j]:=by
   intro x j hj
   rw [qadt 65 V q (q+j) _ (by omega)]
   cases j with
   | zero=>rw [if_pos (Nat.add_zero q)];rfl
   | succ j =>
    rw [if_neg (by omega)]
    simp only [List.getElem_cons_succ]
    rw [← hV j (by simpa using hj)]
    congr 1
    omega
  by_cases h16:n<16
  ·have e:hexG f n=[hexC n]:=by
    cases f with
    | zero=>rfl
    | succ f=>rw [hexG,if_pos h16]
   rw [e]
   refine qa9 ?_
   have e1:iLe 16 (n:Int)=false:=qabv (by omega)
   have e2:inB (n:Int) digsL.length=true:=qaj (show n<36 by omega)
   have e3:inS (q:Int) ((65:Nat):Int) 65=true:=by unfold inS;simp;omega
   rw [qam4,e1,ei,e2,eb,e3,qabo,Int.toNat_natCast]
   simp only [cond_true,cond_false,Option.map_some]
   have:=qapk (V:=Vec.set 65 V q (byteI (hexC n))) (i:=q) (L:=hexC n :: L) (by simp;omega) (hset (hexC n))
   exact congrArg (fun z=>some (Sum.inr ((([]:List Int),z,()),()))) this
  ·cases f with
   | zero=>exact absurd hn h16
   | succ f =>
    have hd:n/16<16^(f+1):=by
     rw [Nat.div_lt_iff_lt_mul (by decide)]
     rw [Nat.pow_succ] at hn
     exact hn
    have e1:iLe 16 (n:Int)=true:=qds (by omega)
    have e4:iAnd .u64 (n:Int) 15=((n%16:Nat):Int):=by
     rw [qapm (by omega) (by omega)];omega
    have e5:iShr .u64 (n:Int) 4=((n/16:Nat):Int):=by
     rw [shr4 (by omega)];omega
    have e2:inB ((n%16:Nat):Int) digsL.length=true:=qaj (show n%16<36 by omega)
    have e6:iLe 0 (4:Int)=true:=by decide
    have st:qb0 16 15 4 false false ((n:Int),((q+1:Nat):Int),V,())=some (.inl (((n/16:Nat):Int),(q:Int),Vec.set 65 V q (byteI (hexC (n%16))),())):=by
     rw [qam4,e1,ei,e4,e5,e2,eb,e6,qabo,Int.toNat_natCast]
     rfl
    rw [qao st]
    have:=qaiv f (n/16) q (Vec.set 65 V q (byteI (hexC (n%16)))) (hexC (n%16) :: L) hd (by omega) (by omega) (by simp;omega) (hset _)
    rw [this,hexG,if_neg h16]
    simp
theorem qui {n:Nat} (h:n<4294967296):qgr (n:Int) 16=some ((hexG 7 n,()),()):=by
 have e0:iEq (16:Int) 10=false:=by decide
 have e1:iLt (16:Int) 2=false:=by decide
 have e2:iLt 36 (16:Int)=false:=by decide
 have e3:qch 16=some ((true,()),()):=by kernel_rfl
 have e4:iWrap .u64 (16:Int)=16:=by decide
 have e5:qbr 16=some ((4,()),()):=rfl
 have e6:iSub .u64 (16:Int) 1=15:=by decide
 have e7:iWrap .u64 (4:Int)=4:=by decide
 have:=qaiv 7 n 65 ((0,0,0,0,0,0,0,0,0,0,0,0,0,0,0,0,0,0,0,0,0,0,0,0,0,0,0,0,0,0,0,0,0,0,0,0,0,0,0,0,0,0,0,0,0,0,0,0,0,0,0,0,0,0,0,0,0,0,0,0,0,0,0,0,0,()):Vec 65 Int) [] (Nat.lt_of_lt_of_le h (by decide)) (by decide) (by decide) rfl (fun j hj=>by cases hj)
 rw [List.append_nil] at this
 have hfb:qc0 ([]:List Int) (n:Int) 16 false false=some ((([]:List Int),hexG 7 n,()),()):=by
  unfold qc0
  rw [e0,e1,e2]
  simp only [cond_false,e3,Option.bind_some,cond_true,e4,e5,e6,e7]
  exact this
 unfold qgr qei
 rw [e0]
 simp only [cond_false,hfb,Option.bind_some]
def bitsOf (a:Nat):Nat:=if fEq .f32 a a=true then a else 2143289344
theorem qagv : ∀ (d:Nat) (s:List UInt8),d+s.length=8→run (qeg) (s,())=some ((List.replicate d 48++s,()),())
 | 0,s,h=>by
  have e:iLt (lenI s) 8=false:=qas (by rw [qac];omega)
  refine qa9 ?_
  unfold qeg
  simp only
  rw [e];rfl
 | d+1,s,h=>by
  have e:iLt (lenI s) 8=true:=qan (by rw [qac];omega)
  have e2:strRoom ([48]) s=true:=by unfold strRoom;simp;omega
  have st:qeg (s,())=some (.inl (48 :: s,())):=by
   unfold qeg
   simp only
   rw [e,e2];rfl
  rw [qao st,qagv d (48 :: s) (by simp;omega),List.replicate_succ']
  simp
theorem qdc {a:Nat} (h:a<4294967296):qdk a=some ((hexP 8 (bitsOf a),()),()):=by
 unfold qdk qfa bitsOf
 simp only [Option.bind_some]
 cases hn:fEq .f32 a a with
 | false=>exact (by kernel_rfl:some (([55,102,99,48,48,48,48,48],()),())=some ((hexP 8 2143289344,()),()))
 | true =>
  simp only [Bool.not_true,cond_false,if_true]
  refine qp7 fun q => ?_
  have hq:bitsF .f32 a q=(a:Int):=by
   unfold bitsF
   rw [qne] at hn
   simp only [Bool.not_eq_true'] at hn
   rw [hn]
   rfl
  have hw:iWrap .u64 (a:Int)=(a:Int):=by simp [iWrap,IntKind.wrap,IntKind.signed,IntKind.bits];omega
  obtain ⟨p1,p2⟩:=qagu 7 a 7 (Nat.lt_of_lt_of_le h (by decide)) (Nat.le_refl _)
  rw [hq,hw,qui h]
  simp only [Option.bind_some]
  rw [qagv (8-(hexG 7 a).length) (hexG 7 a) (by omega),p1]
theorem qaij {a:Nat} (h:a<4294967296):bitsOf a<4294967296:=by
 unfold bitsOf
 split
 ·exact h
 ·decide
def lowD (c:UInt8):Option Nat:=if 48≤c.toNat∧c.toNat≤57 then some (c.toNat-48) else if 97≤c.toNat∧c.toNat≤102 then some (c.toNat-87) else none
def lowV:Nat→List UInt8→Option Nat
 | acc,[]=>some acc
 | acc,c :: r=>match lowD c with | none=>none | some d=>lowV (acc*16+d) r
def lowT (n:Nat):Bool:=match lowD (UInt8.ofNat n) with | none=>true | some d=>decide (d<16)&&(decide (hexC d=UInt8.ofNat n)&&decide (hexD (UInt8.ofNat n)=some d))
theorem qan0:(List.range 256).all lowT=true:=by kernel_rfl
theorem qajg {c:UInt8} {d:Nat} (h:lowD c=some d):d<16∧hexC d=c∧hexD c=some d:=by
 have k:=List.all_eq_true.1 qan0 c.toNat (List.mem_range.2 c.toNat_lt)
 unfold lowT at k
 rw [UInt8.ofNat_toNat,h] at k
 simpa using k
theorem qacw : ∀ d:Fin 16,lowD (hexC d.val)=some d.val∧hexD (hexC d.val)=some d.val:=by decide
theorem qajf {d:Nat} (h:d<16):lowD (hexC d)=some d:=(qacw ⟨d,h⟩).1
theorem qai1 {d:Nat} (h:d<16):hexD (hexC d)=some d:=(qacw ⟨d,h⟩).2
theorem qwu (c:UInt8) : ∀ (p:List UInt8) (acc:Nat),lowV acc (p++[c])=(lowV acc p).bind fun a=>(lowD c).map fun d=>a*16+d
 | [],acc=>by
  show lowV acc [c]=_
  simp only [lowV,Option.bind_some]
  cases lowD c <;> rfl
 | b :: p,acc=>by
  show lowV acc (b :: (p++[c]))=_
  simp only [lowV]
  cases lowD b with
  | none=>rfl
  | some d=>exact qwu c p (acc*16+d)
theorem qtq : ∀ (k:Nat) (s:List UInt8) (v:Nat),s.length=k→lowV 0 s=some v→v<16^k∧s=hexP k v
 | 0,s,v,hl,h=>by
  have:s=[]:=List.length_eq_zero_iff.1 hl
  subst this
  have:v=0:=by simpa [lowV] using h.symm
  subst this
  exact ⟨by decide,rfl⟩
 | k+1,s,v,hl,h=>by
  rcases List.eq_nil_or_concat s with rfl | ⟨p,c,rfl⟩
  ·simp at hl
  ·rw [List.concat_eq_append] at h hl ⊢
   rw [qwu] at h
   cases hp:lowV 0 p with
   | none=>rw [hp] at h;cases h
   | some a =>
    rw [hp] at h
    simp only [Option.bind_some] at h
    cases hc:lowD c with
    | none=>rw [hc] at h;cases h
    | some d =>
     rw [hc] at h
     have hv:a*16+d=v:=by simpa using h
     obtain ⟨h1,h2⟩:=qtq k p a (by simpa using hl) hp
     obtain ⟨d1,d2,-⟩:=qajg hc
     have e1:v/16=a:=by omega
     have e2:v%16=d:=by omega
     refine ⟨by rw [Nat.pow_succ];omega,?_⟩
     rw [hexP,e1,e2,d2,← h2]
theorem qac7 (c:UInt8) : ∀ (p:List UInt8) (acc a d:Nat),hexM acc p=some (some a)→hexD c=some d→a*16+d≤4294967295→hexM acc (p++[c])=some (some (a*16+d))
 | [],acc,a,d,h,hc,hd=>by
  have:acc=a:=by simpa [hexM] using h
  subst this
  show hexM acc [c]=_
  have:¬ 4294967295<acc*16+d:=by omega
  simp only [hexM,hc,if_neg this]
 | b :: p,acc,a,d,h,hc,hd=>by
  show hexM acc (b :: (p++[c]))=_
  simp only [hexM] at h ⊢
  cases hb:hexD b with
  | none=>rw [hb] at h;cases h
  | some e =>
   rw [hb] at h
   simp only at h ⊢
   by_cases ho:4294967295<acc*16+e
   ·rw [if_pos ho] at h;cases h
   ·rw [if_neg ho] at h ⊢
    exact qac7 c p (acc*16+e) a d h hc hd
theorem qnf : ∀ (k n:Nat),n<16^k→n≤4294967295→hexM 0 (hexP k n)=some (some n)∧lowV 0 (hexP k n)=some n
 | 0,n,h,_=>by
  have h:n<1:=h
  have:n=0:=by omega
  subst this
  exact ⟨rfl,rfl⟩
 | k+1,n,h,h'=>by
  have hd:n/16<16^k:=by
   rw [Nat.div_lt_iff_lt_mul (by decide)]
   rw [Nat.pow_succ] at h
   exact h
  obtain ⟨h1,h2⟩:=qnf k (n/16) hd (by omega)
  have hm:n%16<16:=Nat.mod_lt _ (by decide)
  refine ⟨?_,?_⟩
  ·have:=qac7 (hexC (n%16)) (hexP k (n/16)) 0 (n/16) (n%16) h1 (qai1 hm) (by omega)
   rw [hexP,this]
   congr 2
   omega
  ·rw [hexP,qwu,h2,qajf hm]
   simp
   omega
def numR (s:List UInt8):Option Nat :=
 match lowV 0 s with
 | none=>none
 | some v=>if s.length=8∧bitsOf (canon .f32 v)=v then some (canon .f32 v) else none
theorem qzz {v:Nat} (h:v<4294967296):canon .f32 v<4294967296:=by
 unfold canon
 cases isNan .f32 v with
 | true =>
  show nan .f32<4294967296
  decide
 | false=>exact h
theorem qagn : ∀ (s:List UInt8) (acc v:Nat),acc≤4294967295→hexM acc s=some (some v)→v≤4294967295
 | [],acc,v,h,e=>by
  have:acc=v:=by simpa [hexM] using e
  omega
 | c :: s,acc,v,h,e=>by
  simp only [hexM] at e
  cases hc:hexD c with
  | none=>rw [hc] at e;cases e
  | some d =>
   rw [hc] at e
   simp only at e
   by_cases ho:4294967295<acc*16+d
   ·rw [if_pos ho] at e;cases e
   ·rw [if_neg ho] at e
    exact qagn s _ v (by omega) e
theorem qon {s:List UInt8} (hs:s.length≤1048576):qga s=some (match numR s with | some a=>((a,0,()),()) | none=>((0,5,()),())):=by
 have hp:qcz s 16 32=some (((parseHex s).1,(parseHex s).2,()),()):=by
  unfold qcz
  rw [qew,qew,Nat.ble_eq_true_of_le (by omega)]
  rfl
 have bad : ∀ z:Int,((qdm z).bind fun _:(Nat×Unit)×Unit=>some (((0,5,()),()):(Nat×Int×Unit)×Unit))=some ((0,5,()),()):=fun _=>rfl
 unfold qga
 rw [hp]
 simp only [Option.bind_some]
 cases hx:hexN s with
 | none =>
  have h2:(parseHex s).2=false:=by unfold parseHex;rw [hx]
  have hn:numR s=none:=by
   unfold numR
   cases hl:lowV 0 s with
   | none=>rfl
   | some v =>
    simp only
    rw [if_neg]
    rintro ⟨h8,-⟩
    obtain ⟨h1,h3⟩:=qtq 8 s v h8 hl
    have h1:v<4294967296:=h1
    have:=(qnf 8 v h1 (by omega)).1
    rw [← h3] at this
    cases s with
    | nil=>cases h8
    | cons c r =>
     rw [show hexN (c :: r)=hexM 0 (c :: r) from rfl,this] at hx
     cases hx
  rw [h2,hn]
  rfl
 | some o =>
  cases o with
  | none =>
   have h2:(parseHex s).2=false:=by unfold parseHex;rw [hx]
   have hn:numR s=none:=by
    unfold numR
    cases hl:lowV 0 s with
    | none=>rfl
    | some v =>
     simp only
     rw [if_neg]
     rintro ⟨h8,-⟩
     obtain ⟨h1,h3⟩:=qtq 8 s v h8 hl
     have h1:v<4294967296:=h1
     have:=(qnf 8 v h1 (by omega)).1
     rw [← h3] at this
     cases s with
     | nil=>cases h8
     | cons c r =>
      rw [show hexN (c :: r)=hexM 0 (c :: r) from rfl,this] at hx
      cases hx
   rw [h2,hn]
   rfl
  | some v =>
   have hne:s≠[]:=by rintro rfl;cases hx
   have hM:hexM 0 s=some (some v):=by
    cases s with
    | nil=>exact absurd rfl hne
    | cons c r=>exact hx
   have hv:v≤4294967295:=qagn s 0 v (by decide) hM
   have h1:(parseHex s).1=(v:Int):=by unfold parseHex;rw [hx]
   have h2:(parseHex s).2=true:=by unfold parseHex;rw [hx]
   have hw:iWrap .u32 (v:Int)=(v:Int):=by simp [iWrap,IntKind.wrap,IntKind.signed,IntKind.bits];omega
   have hf:qdm (v:Int)=some ((canon .f32 v,()),()):=by
    unfold qdm
    rw [Int.toNat_natCast]
   have hcl:=qzz (v:=v) (by omega)
   rw [h1,h2,hw,hf]
   simp only [Option.bind_some,Bool.not_true,cond_false]
   rw [qdc hcl]
   simp only [Option.bind_some]
   have hbl:=qaij hcl
   by_cases he:hexP 8 (bitsOf (canon .f32 v))=s
   ·have hback:=qnf 8 (bitsOf (canon .f32 v)) hbl (by omega)
    rw [he] at hback
    have hvv:bitsOf (canon .f32 v)=v:=by
     have:=hback.1.symm.trans hM
     simpa using this
    have hn:numR s=some (canon .f32 v):=by
     unfold numR
     rw [hback.2,hvv]
     simp only
     rw [if_pos ⟨by rw [← he];exact qed 8 _,hvv⟩]
    rw [he,qzf,hn]
    rfl
   ·have hse:sEq (hexP 8 (bitsOf (canon .f32 v))) s=false:=by
     cases hq:sEq (hexP 8 (bitsOf (canon .f32 v))) s with
     | false=>rfl
     | true=>exact absurd (by simpa [sEq] using hq) he
    have hn:numR s=none:=by
     unfold numR
     cases hl:lowV 0 s with
     | none=>rfl
     | some u =>
      simp only
      rw [if_neg]
      rintro ⟨h8,h9⟩
      obtain ⟨k1,k2⟩:=qtq 8 s u h8 hl
      have k1:u<4294967296:=k1
      have:=(qnf 8 u k1 (by omega)).1
      rw [← k2,hM] at this
      have huv:v=u:=by simpa using this
      subst huv
      rw [h9] at he
      exact he k2.symm
    rw [hse,hn]
    rfl
theorem qadg {s:List UInt8} {a:Nat} (h:numR s=some a):a<4294967296∧hexP 8 (bitsOf a)=s:=by
 unfold numR at h
 cases hl:lowV 0 s with
 | none=>rw [hl] at h;cases h
 | some v =>
  rw [hl] at h
  simp only at h
  by_cases hc:s.length=8∧bitsOf (canon .f32 v)=v
  ·rw [if_pos hc] at h
   have ha:canon .f32 v=a:=Option.some.inj h
   obtain ⟨h1,h2⟩:=qtq 8 s v hc.1 hl
   have h1:v<4294967296:=h1
   rw [← ha,hc.2]
   exact ⟨qzz h1,h2.symm⟩
  ·rw [if_neg hc] at h;cases h
theorem qajs {b:Nat} (h:b<4294967296):numR (hexP 8 b)=if bitsOf (canon .f32 b)=b then some (canon .f32 b) else none:=by
 unfold numR
 rw [(qnf 8 b h (by omega)).2]
 simp only
 by_cases hc:bitsOf (canon .f32 b)=b
 ·rw [if_pos ⟨qed 8 b,hc⟩,if_pos hc]
 ·rw [if_neg (fun k=>hc k.2),if_neg hc]
end
section
abbrev TySpot:Ty:=.arr 2 (.int .i16)
abbrev DGrid:=Int×(Int×((List Int)×Unit))
def gridB (g:DGrid):Bool:=(iLe 1 g.1&&iLe g.1 24)&&((iLe 1 g.2.1&&iLe g.2.1 24)&&iEq (lenI g.2.2.1) (iMul .i64 g.1 g.2.1))
def hasB (g:DGrid) (s:Vec 2 Int):Bool:=(iLe 0 (iWrap .i64 (Vec.getD 2 s 0 (0:Int)))&&iLe (iWrap .i64 (Vec.getD 2 s 0 (0:Int))) (iSub .i64 g.1 1))&&(iLe 0 (iWrap .i64 (Vec.getD 2 s 1 (0:Int)))&&iLe (iWrap .i64 (Vec.getD 2 s 1 (0:Int))) (iSub .i64 g.2.1 1))
section
variable {g : DGrid} (hg : gridB g = true) {a b : Vec 2 Int} (ha : Fit TySpot a) (hb : Fit TySpot b) (hha : hasB g a = true) (hhb : hasB g b = true)
include hg ha hb hha hhb
end
end
section
theorem qug (c:UInt8) : ∀ s:List UInt8,(splitC c s).flatten=s.filter (fun b => !decide (b=c))
 | []=>rfl
 | b :: s=>by
  have ih:=qug c s
  unfold splitC
  by_cases h:b=c
  ·rw [if_pos h,List.flatten_cons,ih,List.filter_cons_of_neg (by simp [h])];rfl
  ·rw [if_neg h,List.filter_cons_of_pos (by simp [h])]
   cases hs:splitC c s with
   | nil=>exact absurd hs (qo7 c s)
   | cons l ls=>rw [hs] at ih;rw [← ih];rfl
def okG (s:List UInt8):Bool:=iLt 0 (s.count 10:Int)&&sEq ((splitC 10 s).getD (s.count 10) []) []
theorem qaav {s:List UInt8} (hs:s.length≤1048576):qmd s=some (((splitC 10 s).take (s.count 10),okG s,()),()):=by
 have hl:=qim 10 s
 have hc:s.count 10≤s.length:=List.count_le_length
 have e1:iSub .i64 (lenI (splitC 10 s)) 1=(s.count 10:Int):=by rw [qac,qlu (by omega) (by omega)];omega
 have e2:inS 0 (s.count 10:Int) (splitC 10 s).length=true:=by unfold inS;simp;omega
 have e3:inB (s.count 10:Int) (splitC 10 s).length=true:=qaj (by omega)
 simp only [qmd,qib 10 (s:=s) (by omega),Option.bind_some,e1,e2,e3,cond_true,List.drop_zero,Int.toNat_natCast,okG]
 cases iLt 0 (s.count 10:Int) <;> rfl
end
section
theorem qyo {c:UInt8} (hc:digB c=false) (k:Nat):c∉Lib.decDigits k:=by
 intro h
 have:=List.all_eq_true.1 (qnd k).1 c h
 rw [hc] at this
 cases this
abbrev DRd:=List (List UInt8)×(Bool×Unit)
def wordOf (r:DRd):List UInt8:=r.1.getD 0 []
def restOf (r:DRd):DRd:=(r.1.drop 1,(r.1.isEmpty||r.2.1,()))
theorem qb3 (r:DRd):qbb r=some ((wordOf r,()),(restOf r,())):=by
 obtain ⟨ws,f,⟨⟩⟩:=r
 cases ws with
 | nil=>rfl
 | cons w ws =>
  have e1:iEq (lenI (w :: ws)) 0=false:=qbx (by rw [qac,List.length_cons];omega)
  have e2:inB 0 (w :: ws).length=true:=qaj (i:=0) (by simp)
  have e3:inS 1 (((w :: ws).length:Nat):Int) (w :: ws).length=true:=by unfold inS;simp;omega
  simp only [qbb,e1,e2,e3,cond_false,cond_true,restOf,wordOf]
  simp
def intOf (r:DRd):Int:=(parseInt64 (wordOf r)).1
def intRest (r:DRd):DRd:=(r.1.drop 1,((r.1.isEmpty||r.2.1)||(!(parseInt64 (wordOf r)).2 || !(sEq (Lib.itoa (intOf r)) (wordOf r))),()))
theorem qpb {r:DRd} (h:(wordOf r).length≤1048576):qag r=some ((intOf r,()),(intRest r,())):=by
 obtain ⟨hb1,hb2⟩:=qyb (wordOf r)
 obtain ⟨ws,f,⟨⟩⟩:=r
 simp only [qag,qb3,qv0 h,qhb hb1 hb2,Option.bind_some,restOf,intRest,intOf]
 cases (ws.isEmpty||f) <;> cases (parseInt64 (wordOf (ws,f,()))).2 <;> rfl
theorem qcl (r:DRd):qaq r=some ((!r.2.1&&r.1.isEmpty,()),()):=by
 obtain ⟨ws,f,⟨⟩⟩:=r
 unfold qaq
 cases f
 ·cases ws with
  | nil=>rfl
  | cons w ws =>
   have e1:iEq (lenI (w :: ws)) 0=false:=qbx (by rw [qac,List.length_cons];omega)
   simp only [e1]
   rfl
 ·rfl
end
section
def lastOf (f:Ieee.Format) (m:Nat) (p:Int):Int:=max (p+m.log2-f.fractionBits) f.leastPlace
theorem qaj3 {f:Ieee.Format} {s:Bool} {e K:Nat} (hK:(e=0∧K<f.binade)∨(f.binade≤K∧K<2*f.binade)) (hr:e*f.binade+K<f.infRung):f.read (f.word s (e*f.binade+K)) = .number s K (f.leastPlace+e):=by
 have h1:f.infRung<f.signWeight:=Ieee.Format.infRung_lt f
 generalize hR:e*f.binade+K=r at *
 have hm:f.word s r%f.signWeight=r:=qrt s (by omega)
 have hs:(f.word s r/f.signWeight%2==1)=s:=by
  cases s
  ·show (r/f.signWeight%2==1)=false
   rw [Nat.div_eq_of_lt (by omega)];rfl
  ·show ((f.signWeight+r)/f.signWeight%2==1)=true
   rw [Nat.add_div_left _ (by omega),Nat.div_eq_of_lt (by omega)];rfl
 have hpos:0<f.binade:=Nat.two_pow_pos _
 unfold Ieee.Format.read
 simp only [hm,hs]
 rcases hK with ⟨he,hK⟩ | ⟨hK,hK2⟩
 ·subst he
  rw [Nat.zero_mul,Nat.zero_add] at hR
  subst hR
  rw [if_pos hK]
  simp
 ·have hge:¬ r<f.binade:=by
   rw [← hR]
   have:=Nat.zero_le (e*f.binade)
   omega
  rw [if_neg hge,if_pos hr]
  obtain ⟨g,hg⟩ : ∃ g,K=f.binade+g:=⟨K-f.binade,by omega⟩
  have hg2:g<f.binade:=by omega
  have hR2:r=g+f.binade*(e+1):=by rw [← hR,hg,Nat.mul_add,Nat.mul_comm];omega
  have d1:r/f.binade=e+1:=by rw [hR2,Nat.add_mul_div_left _ _ hpos,Nat.div_eq_of_lt hg2];omega
  have d2:r%f.binade=g:=by rw [hR2,Nat.add_mul_mod_self_left,Nat.mod_eq_of_lt hg2]
  rw [d1,d2,hg]
  simp
theorem qahr {f:Ieee.Format} (s:Bool) {m:Nat} {p:Int} (hm:m≠0) (hp:lastOf f m p≤p) (hR:((lastOf f m p-f.leastPlace+2)*2^f.fractionBits:Int)≤f.infRung) :
  f.read (f.nearest s m p) = .number s (m*2^(p-lastOf f m p).toNat) (lastOf f m p):=by
 have hl:f.leastPlace≤lastOf f m p:=by unfold lastOf;omega
 have hml:=Nat.log2_self_le hm
 have hml2:m<2^(m.log2+1):=Nat.lt_log2_self
 have hbin:f.binade=2^f.fractionBits:=rfl
 generalize hla:lastOf f m p=last at *
 have hmax:max (p+(m.log2:Int)-f.fractionBits) f.leastPlace=last:=hla
 have hlt:m*2^(p-last).toNat<2*f.binade:=by
  have:m*2^(p-last).toNat<2^(m.log2+1)*2^(p-last).toNat:=Nat.mul_lt_mul_of_pos_right hml2 (Nat.two_pow_pos _)
  rw [← Nat.pow_add] at this
  refine Nat.lt_of_lt_of_le this ?_
  rw [hbin,show 2*2^f.fractionBits=2^(f.fractionBits+1) by rw [Nat.pow_succ,Nat.mul_comm]]
  exact Nat.pow_le_pow_right (by decide) (by omega)
 have hcase:((last-f.leastPlace).toNat=0∧m*2^(p-last).toNat<f.binade)∨(f.binade≤m*2^(p-last).toNat∧m*2^(p-last).toNat<2*f.binade):=by
  by_cases hb:m*2^(p-last).toNat<f.binade
  ·refine .inl ⟨?_,hb⟩
   apply Classical.byContradiction
   intro q
   have hlast:last=p+m.log2-f.fractionBits:=by omega
   have:2^(m.log2+(p-last).toNat)≤m*2^(p-last).toNat:=by rw [Nat.pow_add];exact Nat.mul_le_mul_right _ hml
   rw [show m.log2+(p-last).toNat=f.fractionBits by omega,← hbin] at this
   omega
  ·exact .inr ⟨by omega,hlt⟩
 have hrung:(last-f.leastPlace).toNat*f.binade+m*2^(p-last).toNat<f.infRung:=by
  have e1:(((last-f.leastPlace).toNat+2)*f.binade:Nat)≤f.infRung:=by
   have:((((last-f.leastPlace).toNat+2)*f.binade:Nat):Int)≤f.infRung:=by
    rw [hbin,Int.natCast_mul,Int.natCast_add,Int.toNat_of_nonneg (by omega)]
    simpa using hR
   exact Int.ofNat_le.1 this
  rw [Nat.add_mul] at e1
  omega
 have e:f.nearest s m p=f.word s ((last-f.leastPlace).toNat*f.binade+m*2^(p-last).toNat):=by
  unfold Ieee.Format.nearest
  rw [if_neg hm]
  simp only [hmax]
  rw [show (last-p).toNat=0 by omega,qqt,Nat.shiftLeft_eq,Nat.min_eq_left (Nat.le_of_lt hrung)]
 rw [e,qaj3 hcase hrung]
 congr 1
 omega
end
section
theorem qaio (s:Bool) (q d:Nat) (hq:q≠0):Ieee.Toward.even.cut s (q*2^d) d=q:=by
 have hlog:d≤(q*2^d).log2:=by
  refine (Nat.le_log2 (Nat.mul_ne_zero hq (Nat.pos_iff_ne_zero.1 (Nat.two_pow_pos d)))).2 ?_
  exact Nat.le_mul_of_pos_left _ (Nat.pos_of_ne_zero hq)
 unfold Ieee.Toward.cut
 rw [Nat.min_eq_left (by omega),Nat.shiftLeft_eq,Nat.one_mul]
 simp only [Nat.mul_mod_left,Nat.mul_div_cancel _ (Nat.two_pow_pos d)]
 have h2:(2^d==2*0)=false:=by
  rw [beq_eq_false_iff_ne]
  have:=Nat.two_pow_pos d
  omega
 simp [h2]
theorem qaa4 {m:Nat} (hm:m≠0) (a:Nat):(m*2^a).log2=m.log2+a:=by
 have h1:=Nat.log2_self_le hm
 have h2:=@Nat.lt_log2_self m
 have h0:m*2^a≠0:=Nat.mul_ne_zero hm (Nat.pos_iff_ne_zero.1 (Nat.two_pow_pos a))
 refine Nat.le_antisymm ?_ ?_
 ·have:m*2^a<2^(m.log2+a+1):=by
   rw [show m.log2+a+1=m.log2+1+a by omega,Nat.pow_add]
   exact Nat.mul_lt_mul_of_pos_right h2 (Nat.two_pow_pos a)
  exact Nat.le_of_lt_succ ((Nat.log2_lt h0).2 this)
 ·refine (Nat.le_log2 h0).2 ?_
  rw [Nat.pow_add]
  exact Nat.mul_le_mul_right _ h1
theorem qadx {f:Ieee.Format} (s:Bool) {m:Nat} {p:Int} (a:Nat) (hm:m≠0) (hp:lastOf f m p≤p):f.nearest s (m*2^a) (p-a)=f.nearest s m p:=by
 have h0:m*2^a≠0:=Nat.mul_ne_zero hm (Nat.pos_iff_ne_zero.1 (Nat.two_pow_pos a))
 have hl:max (p-a+((m*2^a).log2:Int)-f.fractionBits) f.leastPlace=lastOf f m p:=by
  rw [qaa4 hm]
  unfold lastOf
  congr 1
  omega
 unfold Ieee.Format.nearest
 rw [if_neg h0,if_neg hm]
 simp only [hl]
 rw [show max (p+(m.log2:Int)-f.fractionBits) f.leastPlace=lastOf f m p from rfl]
 generalize lastOf f m p=last at hp
 have e1:Ieee.Toward.even.cut s (m <<< (p-last).toNat) (last-p).toNat=m*2^(p-last).toNat:=by
  rw [Nat.shiftLeft_eq,show (last-p).toNat=0 by omega]
  exact qqt _ _ _
 have e2:Ieee.Toward.even.cut s ((m*2^a) <<< (p-a-last).toNat) (last-(p-a)).toNat=m*2^(p-last).toNat:=by
  rw [Nat.shiftLeft_eq]
  by_cases h:(a:Int)≤p-last
  ·rw [show (last-(p-a)).toNat=0 by omega,qqt,Nat.mul_assoc,← Nat.pow_add]
   congr 2
   omega
  ·have hd:m*2^a*2^(p-a-last).toNat=(m*2^(p-last).toNat)*2^(last-(p-a)).toNat:=by
    rw [show (p-a-last).toNat=0 by omega,Nat.pow_zero,Nat.mul_one,Nat.mul_assoc,← Nat.pow_add]
    congr 2
    omega
   rw [hd]
   exact qaio s _ _ (Nat.mul_ne_zero hm (Nat.pos_iff_ne_zero.1 (Nat.two_pow_pos _)))
 rw [e1,e2]
theorem qw6 {b:Nat} (h:isNan .f32 b=false):canon .f32 b=b:=by
 unfold canon;rw [h];rfl
theorem qaht {n:Int} : fOfInt .f32 n=FloatKind.f32.format.nearest (decide (n<0)) n.natAbs 0:=by
 show canon .f32 (FloatKind.f32.format.nearest (decide (n<0)) n.natAbs 0)=_
 exact qw6 (qvm .f32 _ _ _)
theorem div_one {n:Int} (h:n.natAbs<2^24):fDiv .f32 (fOfInt .f32 n) (fOfInt .f32 1)=fOfInt .f32 n:=by
 have one:FloatKind.f32.format.read (fOfInt .f32 1) = .number false 8388608 (-23):=by decide
 rcases Nat.eq_zero_or_pos n.natAbs with h0 | h0
 ·have:n=0:=by omega
  subst this
  decide
 ·have hm:n.natAbs≠0:=by omega
  have hlog:n.natAbs.log2≤23:=Nat.le_of_lt_succ ((Nat.log2_lt hm).2 h)
  have hf2:FloatKind.f32.format.fractionBits=23:=rfl
  have hf3:FloatKind.f32.format.leastPlace = -149:=rfl
  have hlast:lastOf FloatKind.f32.format n.natAbs 0=(n.natAbs.log2:Int)-23:=by
   unfold lastOf
   rw [hf2,hf3]
   omega
  have hr:=qahr (f:=FloatKind.f32.format) (decide (n<0)) (m:=n.natAbs) (p:=0) hm (by rw [hlast];omega) (by
   rw [hlast,hf2,hf3]
   show ((n.natAbs.log2:Int)-23 - -149+2)*2^23≤((2139095040:Nat):Int)
   omega)
  rw [hlast] at hr
  rw [qaht (n:=n)]
  unfold fDiv Ieee.Format.div
  rw [hr,one]
  simp only [Ieee.Datum.quotient,if_neg (show (8388608:Nat)≠0 by decide),Option.map_some,orNan]
  obtain ⟨a,ha⟩ : ∃ a:Nat,(0-((n.natAbs.log2:Int)-23)).toNat=a∧(a:Int)=23-(n.natAbs.log2:Int):=⟨_,rfl,by omega⟩
  rw [ha.1]
  have hM:(n.natAbs*2^a).log2=23:=by
   rw [qaa4 hm];omega
  have hmore:FloatKind.f32.format.fractionBits+2+Nat.log2 8388608-(n.natAbs*2^a).log2=25:=by rw [hM,hf2];decide
  rw [hmore]
  have hsh:(n.natAbs*2^a) <<< 25=n.natAbs*2^a*4*8388608:=by rw [Nat.shiftLeft_eq];omega
  rw [hsh,Nat.mul_div_cancel _ (by decide),Nat.mul_mod_left]
  have hmag:2*(n.natAbs*2^a*4)+(0 != 0:Bool).toNat=n.natAbs*2^(a+3):=by
   rw [Nat.pow_add]
   show 2*(n.natAbs*2^a*4)+0=n.natAbs*(2^a*8)
   have:n.natAbs*(2^a*8)=n.natAbs*2^a*8:=(Nat.mul_assoc _ _ _).symm
   omega
  have hpl:(n.natAbs.log2:Int)-23 - -23-((25:Nat):Int)-1=0-((a+3:Nat):Int):=by omega
  rw [hmag,hpl,Bool.xor_false]
  show canon .f32 (FloatKind.f32.format.nearest _ _ _)=_
  rw [qadx _ _ hm (by rw [hlast];omega)]
  exact qw6 (qvm .f32 _ _ _)
end
section
abbrev DLeg:=Int×((Vec 3 Nat)×(Int×(Int×Unit)))
abbrev DMission:=Int×((Vec 3 Nat)×((List (Vec 3 Nat))×((List DLeg)×Unit)))
abbrev DEntry:=Int×((Vec 3 Nat)×((Vec 3 Int)×(Int×(Nat×Unit))))
abbrev DLog:=Int×((Vec 3 Nat)×((List (Vec 3 Nat))×((List DEntry)×Unit)))
abbrev TyLeg:Ty:=.pair (.int .i64) (.pair (.arr 3 (.flt .f32)) (.pair (.int .i64) (.pair (.int .i64) .unit)))
abbrev TyVec:Ty:=.arr 3 (.flt .f32)
abbrev TyMission:Ty:=.pair (.int .i64) (.pair TyVec (.pair (.list TyVec) (.pair (.list TyLeg) .unit)))
abbrev TyEntry:Ty:=.pair (.int .i64) (.pair TyVec (.pair (.arr 3 (.int .i16)) (.pair (.int .i64) (.pair (.flt .f32) .unit))))
abbrev TyLog:Ty:=.pair (.int .i64) (.pair TyVec (.pair (.list TyVec) (.pair (.list TyEntry) .unit)))
def sameVs (a b:List (Vec 3 Nat)):Bool:=iEq (lenI a) (lenI b)&&all2 sameV a b
theorem qaja {α:Type} {a b:List α} (h:iEq (lenI a) (lenI b)=true):a.length=b.length:=by
 rw [qbq,qac,qac] at h
 omega
theorem qvy (a b:List (Vec 3 Nat)) (hl:a.length≤140737488355328):qh8 a b=some ((sameVs a b,()),()):=by
 unfold qh8 sameVs
 cases he:iEq (lenI a) (lenI b)
 ·rfl
 ·have hab:=qaja he
  simp only [Bool.not_true,cond_false,Bool.true_and]
  refine qz7 hab (fun i hi hj => ?_) ?_
  ·have e1:iLt (i:Int) (lenI a)=true:=qan (by rw [qac];omega)
   have e2:inB (i:Int) a.length=true:=qaj hi
   have e3:inB (i:Int) b.length=true:=qaj hj
   have e4:a.getD i ((0,0,0,()):(Vec 3 Nat))=a[i]:=qbd hi
   have e6:b.getD i ((0,0,0,()):(Vec 3 Nat))=b[i]:=qbd hj
   have e5:iAdd .i64 (i:Int) 1=((i+1:Nat):Int):=qaw hi (by omega)
   simp only [qi3,e1,e2,e3,e4,e5,e6,Int.toNat_natCast,qgl,Option.bind_some,cond_true]
   cases sameV a[i] b[i] <;> rfl
  ·have e1:iLt (a.length:Int) (lenI a)=false:=qas (by rw [qac];omega)
   simp only [qi3,e1,cond_false]
   rfl
def sameE (a b:DEntry):Bool:=iEq a.1 b.1&&(sameV a.2.1 b.2.1&&((iEq (Vec.getD 3 a.2.2.1 0 (0:Int)) (Vec.getD 3 b.2.2.1 0 (0:Int))&&(iEq (Vec.getD 3 a.2.2.1 1 (0:Int)) (Vec.getD 3 b.2.2.1 1 (0:Int))&&(iEq (Vec.getD 3 a.2.2.1 2 (0:Int)) (Vec.getD 3 b.2.2.1 2 (0:Int))&&true)))&&(iEq a.2.2.2.1 b.2.2.2.1&&sameN a.2.2.2.2.1 b.2.2.2.2.1)))
def sameL (a b:DLog):Bool:=iEq a.1 b.1&&(sameV a.2.1 b.2.1&&(sameVs a.2.2.1 b.2.2.1&&(iEq (lenI a.2.2.2.1) (lenI b.2.2.2.1)&&all2 sameE a.2.2.2.1 b.2.2.2.1)))
theorem qx7 (a b:DEntry):qd6 a b=some ((sameE a b,()),()):=by
 simp only [qd6,qaal,qor,Option.bind_some,sameE]
 cases iEq a.1 b.1 <;> cases sameV a.2.1 b.2.1 <;> cases (iEq (Vec.getD 3 a.2.2.1 0 (0:Int)) (Vec.getD 3 b.2.2.1 0 (0:Int))&&(iEq (Vec.getD 3 a.2.2.1 1 (0:Int)) (Vec.getD 3 b.2.2.1 1 (0:Int))&&(iEq (Vec.getD 3 a.2.2.1 2 (0:Int)) (Vec.getD 3 b.2.2.1 2 (0:Int))&&true))) <;> cases iEq a.2.2.2.1 b.2.2.2.1 <;> rfl
theorem qvf (a b:DEntry):qg1 a b=some ((sameE a b,()),()):=by
 simp only [qg1,qgl,qja,Option.bind_some,sameE]
 cases iEq a.1 b.1 <;> cases sameV a.2.1 b.2.1 <;> cases (iEq (Vec.getD 3 a.2.2.1 0 (0:Int)) (Vec.getD 3 b.2.2.1 0 (0:Int))&&(iEq (Vec.getD 3 a.2.2.1 1 (0:Int)) (Vec.getD 3 b.2.2.1 1 (0:Int))&&(iEq (Vec.getD 3 a.2.2.1 2 (0:Int)) (Vec.getD 3 b.2.2.1 2 (0:Int))&&true))) <;> cases iEq a.2.2.2.1 b.2.2.2.1 <;> rfl
theorem qabi (a b:DLog) (h:Sized TyLog a):qjv a b=some ((sameL a b,()),()):=by
 have h3:a.2.2.2.1.length≤140737488355328:=h.2.2.2.1.1
 simp only [qjv,qgl,qvy a.2.2.1 b.2.2.1 h.2.2.1.1,Option.bind_some,sameL]
 cases iEq a.1 b.1 <;> cases sameV a.2.1 b.2.1 <;> cases sameVs a.2.2.1 b.2.2.1 <;> cases he:iEq (lenI a.2.2.2.1) (lenI b.2.2.2.1) <;> first | rfl | skip
 have hab:=qaja he
 simp only [Bool.not_true,cond_false,Bool.true_and]
 refine qz7 hab (fun i hi hj => ?_) ?_
 ·have e1:iLt (i:Int) (lenI a.2.2.2.1)=true:=qan (by rw [qac];omega)
  have e2:inB (i:Int) a.2.2.2.1.length=true:=qaj hi
  have e3:inB (i:Int) b.2.2.2.1.length=true:=qaj hj
  have e4:a.2.2.2.1.getD i ((0,(0,0,0,()),(0,0,0,()),0,0,()):DEntry)=a.2.2.2.1[i]:=qbd hi
  have e6:b.2.2.2.1.getD i ((0,(0,0,0,()),(0,0,0,()),0,0,()):DEntry)=b.2.2.2.1[i]:=qbd hj
  have e5:iAdd .i64 (i:Int) 1=((i+1:Nat):Int):=qaw hi (by omega)
  simp only [qmp,e1,e2,e3,e4,e5,e6,Int.toNat_natCast,qvf,Option.bind_some,cond_true]
  cases sameE a.2.2.2.1[i] b.2.2.2.1[i] <;> rfl
 ·have e1:iLt (a.2.2.2.1.length:Int) (lenI a.2.2.2.1)=false:=qas (by rw [qac];omega)
  simp only [qmp,e1,cond_false]
  rfl
def legB (n:Int) (x:DLeg):Bool:=(iLe 1 x.1&&iLe x.1 400)&&(finV x.2.1&&((iLe 0 x.2.2.1&&iLe x.2.2.1 400)&&(iLe (-1) x.2.2.2.1&&iLe x.2.2.2.1 n)))
def ticksI (l:List DLeg):Int:=l.foldl (fun s x=>iAdd .i64 s x.1) 0
def frameB (a:Int) (v:Vec 3 Nat) (l:List (Vec 3 Nat)):Bool:=(iLe 1 a&&iLe a 64)&&(finV v&&(iLe (lenI l) 6&&l.all finV))
def missionB (a:DMission):Bool:=frameB a.1 a.2.1 a.2.2.1&&(iLe (lenI a.2.2.2.1) 64&&(a.2.2.2.1.all (legB (iSub .i64 (lenI a.2.2.1) 1))&&iLe (ticksI a.2.2.2.1) 400))
theorem qxt {a b:Int} : iLt b a = !iLe a b:=by
 by_cases h:a≤b
 ·rw [qds h,qas (by omega)];rfl
 ·rw [qabv h,qan (by omega)];rfl
theorem qagb {α:Type} (p:α→Bool) (l:List α):(l.any fun x => !p x) = !l.all p:=by
 induction l with
 | nil=>rfl
 | cons x r ih=>rw [List.any_cons,List.all_cons,ih];cases p x <;> rfl
theorem qow (a:Int) (v:Vec 3 Nat) (l:List (Vec 3 Nat)) (hl:l.length≤140737488355328):qgc a v l=some ((frameB a v l,()),()):=by
 have h:=ql3 l (fun z659=>(qgz z659.1).map fun y=>y.1.1) (fun s => !finV s) hl (fun x _=>by
  simp only [qgz,qd1,Option.bind_some,Option.map_some])
 simp only [qgc,h]
 simp only [qo8,qhz,qd1,Option.bind_some,frameB,qagb]
 cases (iLe 1 a&&iLe a 64) <;> cases finV v <;> cases iLe (lenI l) 6 <;> cases l.all finV <;> rfl
theorem qrq (a:Int) (v:Vec 3 Nat) (l:List (Vec 3 Nat)) (hl:l.length≤140737488355328):qil a v l=some ((frameB a v l,()),()):=by
 have hr:run (qh7 l) ((0:Int),())=some ((l.all finV,()),()):=by
  refine qp9 (fun i hi => ?_) ?_
  ·have e1:iLt (i:Int) (lenI l)=true:=qan (by rw [qac];omega)
   have e2:inB (i:Int) l.length=true:=qaj hi
   have e4:l.getD i ((0,0,0,()):(Vec 3 Nat))=l[i]:=qbd hi
   have e5:iAdd .i64 (i:Int) 1=((i+1:Nat):Int):=qaw hi (by omega)
   simp only [qh7,e1,e2,e4,e5,Int.toNat_natCast,qfq,Option.bind_some,cond_true]
   cases finV l[i] <;> rfl
  ·have e1:iLt (l.length:Int) (lenI l)=false:=qas (by rw [qac];omega)
   simp only [qh7,e1,cond_false]
   rfl
 simp only [qil,qhz,qfq,Option.bind_some,hr,frameB,qxt]
 cases (iLe 1 a&&iLe a 64) <;> cases finV v <;> cases iLe (lenI l) 6 <;> rfl
theorem qaax (a:DMission) (h:a.2.2.2.1.length≤140737488355328):qmf a=some ((ticksI a.2.2.2.1,()),()):=by
 unfold qmf ticksI
 refine qaje (xs:=a.2.2.2.1) (fun i (s:Int)=>(s,(i:Int),())) _ (fun s=>some ((s,()),())) (fun i hi s => ?_) (fun s => ?_) 0
 ·have e1:iLt (i:Int) (lenI a.2.2.2.1)=true:=qan (by rw [qac];omega)
  have e2:inB (i:Int) a.2.2.2.1.length=true:=qaj hi
  have e4:a.2.2.2.1.getD i ((0,(0,0,0,()),0,0,()):DLeg)=a.2.2.2.1[i]:=qbd hi
  have e5:iAdd .i64 (i:Int) 1=((i+1:Nat):Int):=qaw hi (by omega)
  simp only [qmg,e1,e2,e4,e5,Int.toNat_natCast,cond_true]
 ·have e1:iLt (a.2.2.2.1.length:Int) (lenI a.2.2.2.1)=false:=qas (by rw [qac];omega)
  simp only [qmg,e1,cond_false]
theorem qhx (a:DMission) (h:Sized TyMission a):qgy a=some ((missionB a,()),()):=by
 have hl:a.2.2.2.1.length≤140737488355328:=h.2.2.2.1.1
 have hr:run (qe9 a) ((0:Int),())=bif a.2.2.2.1.all (legB (iSub .i64 (lenI a.2.2.1) 1)) then some ((iLe (ticksI a.2.2.2.1) 400,()),()) else some ((false,()),()):=by
  refine qu4 (xs:=a.2.2.2.1) (fun i (s:Unit)=>((i:Int),())) _ (fun s _=>s) ((false,()),()) (fun s=>some ((iLe (ticksI a.2.2.2.1) 400,()),())) (fun i hi s => ?_) (fun s => ?_) ()
  ·have e1:iLt (i:Int) (lenI a.2.2.2.1)=true:=qan (by rw [qac];omega)
   have e2:inB (i:Int) a.2.2.2.1.length=true:=qaj hi
   have e4:a.2.2.2.1.getD i ((0,(0,0,0,()),0,0,()):DLeg)=a.2.2.2.1[i]:=qbd hi
   have e5:iAdd .i64 (i:Int) 1=((i+1:Nat):Int):=qaw hi (by omega)
   simp only [qe9,e1,e2,e4,e5,Int.toNat_natCast,qo8,qhz,qd1,Option.bind_some,cond_true,legB]
   generalize a.2.2.2.1[i]=x
   cases (iLe 1 x.1&&iLe x.1 400) <;> cases finV x.2.1 <;> cases (iLe 0 x.2.2.1&&iLe x.2.2.1 400) <;> cases (iLe (-1) x.2.2.2.1&&iLe x.2.2.2.1 (iSub .i64 (lenI a.2.2.1) 1)) <;> rfl
  ·have e1:iLt (a.2.2.2.1.length:Int) (lenI a.2.2.2.1)=false:=qas (by rw [qac];omega)
   simp only [qe9,e1,cond_false,qaax a hl,Option.bind_some]
 simp only [qgy,qow a.1 a.2.1 a.2.2.1 h.2.2.1.1,hr,Option.bind_some,missionB,qxt]
 cases frameB a.1 a.2.1 a.2.2.1 <;> cases iLe (lenI a.2.2.2.1) 64 <;> cases a.2.2.2.1.all (legB (iSub .i64 (lenI a.2.2.1) 1)) <;> rfl
theorem qvq (a:DMission) (h:Sized TyMission a):qqi a=some ((missionB a,()),()):=by
 have hl:a.2.2.2.1.length≤140737488355328:=h.2.2.2.1.1
 have hr:run (qk6 a) ((0:Int),(0:Int),())=bif a.2.2.2.1.all (legB (iSub .i64 (lenI a.2.2.1) 1)) then some ((iLe (ticksI a.2.2.2.1) 400,()),()) else some ((false,()),()):=by
  refine qu4 (xs:=a.2.2.2.1) (fun i (s:Int)=>(s,(i:Int),())) _ (fun s x=>iAdd .i64 s x.1) ((false,()),()) (fun s=>some ((iLe s 400,()),())) (fun i hi s => ?_) (fun s => ?_) 0
  ·have e1:iLt (i:Int) (lenI a.2.2.2.1)=true:=qan (by rw [qac];omega)
   have e2:inB (i:Int) a.2.2.2.1.length=true:=qaj hi
   have e4:a.2.2.2.1.getD i ((0,(0,0,0,()),0,0,()):DLeg)=a.2.2.2.1[i]:=qbd hi
   have e5:iAdd .i64 (i:Int) 1=((i+1:Nat):Int):=qaw hi (by omega)
   simp only [qk6,e1,e2,e4,e5,Int.toNat_natCast,qhz,qfq,Option.bind_some,cond_true,legB]
   generalize a.2.2.2.1[i]=x
   cases (iLe 1 x.1&&iLe x.1 400) <;> cases finV x.2.1 <;> cases (iLe 0 x.2.2.1&&iLe x.2.2.1 400) <;> cases (iLe (-1) x.2.2.2.1&&iLe x.2.2.2.1 (iSub .i64 (lenI a.2.2.1) 1)) <;> rfl
  ·have e1:iLt (a.2.2.2.1.length:Int) (lenI a.2.2.2.1)=false:=qas (by rw [qac];omega)
   simp only [qk6,e1,cond_false]
 simp only [qqi,qrq a.1 a.2.1 a.2.2.1 h.2.2.1.1,hr,Option.bind_some,missionB,qxt]
 cases frameB a.1 a.2.1 a.2.2.1 <;> cases iLe (lenI a.2.2.2.1) 64 <;> cases a.2.2.2.1.all (legB (iSub .i64 (lenI a.2.2.1) 1)) <;> rfl
theorem qef {x:Nat} (h:sameN x 0=true):x=0:=by
 have h0:isNan .f32 0=false:=by decide
 unfold sameN at h
 rw [h0] at h
 cases hx:isNan .f32 x with
 | true=>rw [hx] at h;simp at h
 | false =>
  rw [hx] at h
  simp only [cond_false,qbq] at h
  omega
theorem qwa:finB 0=true:=by decide
theorem qqf (x:Nat):sameN x x=true:=by
 unfold sameN
 cases isNan .f32 x
 ·simp [qew]
 ·rfl
theorem qqg (v:Vec 3 Nat):sameV v v=true:=by simp [sameV,qqf]
theorem qah2 {v:Vec 3 Nat} (h:sameV v (0,0,0,())=true):finV v=true:=by
 simp only [sameV,Bool.and_eq_true] at h
 obtain ⟨h1,h2,h3⟩:=h
 have e1:=qef h1
 have e2:=qef h2
 have e3:=qef h3
 simp only [finV,e1,e2,e3,qwa,Bool.and_self]
def zeroC (c:Vec 3 Int):Bool:=iEq (Vec.getD 3 c 0 (0:Int)) 0&&(iEq (Vec.getD 3 c 1 (0:Int)) 0&&iEq (Vec.getD 3 c 2 (0:Int)) 0)
def entryB (n:Int) (e:DEntry):Bool :=
 bif iEq e.1 1 then sameV e.2.1 (0,0,0,())&&(zeroC e.2.2.1&&(iEq e.2.2.2.1 0&&sameN e.2.2.2.2.1 0))
 else bif iEq e.1 2 then (zeroC e.2.2.1&&(iEq e.2.2.2.1 0&&sameN e.2.2.2.2.1 0))&&finV e.2.1
 else bif iEq e.1 3 then sameV e.2.1 (0,0,0,())&&(iEq e.2.2.2.1 0&&sameN e.2.2.2.2.1 0)
 else bif iEq e.1 4 then (iLe 0 e.2.2.2.1&&iLe e.2.2.2.1 (iSub .i64 n 1))&&(sameV e.2.1 (0,0,0,())&&(zeroC e.2.2.1&&finB e.2.2.2.2.1))
 else false
theorem qwq (e:DEntry) (n:Int):qi8 e n=some ((entryB n e,()),()):=by
 have hf:qaf [e.2.2.2.2.1]=some ((finB e.2.2.2.2.1,()),()):=by
  rw [qb5 _ (by simp)];simp
 have hz : ∀ c:Vec 3 Int,(iEq (Vec.getD 3 c 0 (0:Int)) (Vec.getD 3 c 0 (0:Int))&&(iEq (Vec.getD 3 c 1 (0:Int)) (Vec.getD 3 c 1 (0:Int))&&iEq (Vec.getD 3 c 2 (0:Int)) (Vec.getD 3 c 2 (0:Int))))=true:=fun c=>by simp [qew]
 have hzc:(iEq (Vec.getD 3 e.2.2.1 0 (0:Int)) (Vec.getD 3 ((0,0,0,()):Vec 3 Int) 0 (0:Int))&&(iEq (Vec.getD 3 e.2.2.1 1 (0:Int)) (Vec.getD 3 ((0,0,0,()):Vec 3 Int) 1 (0:Int))&&iEq (Vec.getD 3 e.2.2.1 2 (0:Int)) (Vec.getD 3 ((0,0,0,()):Vec 3 Int) 2 (0:Int))))=zeroC e.2.2.1:=rfl
 simp only [qi8,qo8,qhz,qx7,qd1,hf,Option.bind_some,sameE,entryB,hz,hzc,qew,qqg,qqf,Bool.true_and,Bool.and_true]
 have hv:sameV e.2.1 (0,0,0,())=true→finV e.2.1=true:=qah2
 have hn:sameN e.2.2.2.2.1 0=true→finB e.2.2.2.2.1=true:=fun h=>by rw [qef h];exact qwa
 cases hV:sameV e.2.1 (0,0,0,()) <;> cases hR:sameN e.2.2.2.2.1 0 <;> cases hF:finV e.2.1 <;> cases hB:finB e.2.2.2.2.1 <;> first
  | (exfalso;have:=hv hV;rw [hF] at this;exact Bool.noConfusion this)
  | (exfalso;have:=hn hR;rw [hB] at this;exact Bool.noConfusion this)
  | skip
 all_goals
  cases iEq e.1 1 <;> cases iEq e.1 2 <;> cases iEq e.1 3 <;> cases iEq e.1 4 <;> cases zeroC e.2.2.1 <;> cases iEq e.2.2.2.1 0 <;> cases (iLe 0 e.2.2.2.1&&iLe e.2.2.2.1 (iSub .i64 n 1)) <;> rfl
theorem qzn (e:DEntry) (n:Int):qk5 e n=some ((entryB n e,()),()):=by
 have hzc:(iEq (Vec.getD 3 e.2.2.1 0 (0:Int)) 0&&(iEq (Vec.getD 3 e.2.2.1 1 (0:Int)) 0&&iEq (Vec.getD 3 e.2.2.1 2 (0:Int)) 0))=zeroC e.2.2.1:=rfl
 have q:=qgl e.2.1 ((0,0,0,()):(Vec 3 Nat))
 simp only [qk5,qhz,qja,q,qfq,qbo,Option.bind_some,entryB,Bool.and_true,hzc]
 by_cases k1:e.1=1
 ·simp only [k1,qew,cond_true]
  cases sameV e.2.1 (0,0,0,()) <;> cases sameN e.2.2.2.2.1 0 <;> cases zeroC e.2.2.1 <;> cases iEq e.2.2.2.1 0 <;> rfl
 have e1:=qbx k1
 by_cases k2:e.1=2
 ·simp only [k2,qew,cond_true,show iEq 2 1=false from rfl,cond_false]
  cases sameV e.2.1 (0,0,0,()) <;> cases sameN e.2.2.2.2.1 0 <;> cases zeroC e.2.2.1 <;> cases iEq e.2.2.2.1 0 <;> cases finV e.2.1 <;> rfl
 have e2:=qbx k2
 by_cases k3:e.1=3
 ·simp only [k3,qew,cond_true,show iEq 3 1=false from rfl,show iEq 3 2=false from rfl,cond_false]
  cases sameV e.2.1 (0,0,0,()) <;> cases sameN e.2.2.2.2.1 0 <;> cases iEq e.2.2.2.1 0 <;> rfl
 have e3:=qbx k3
 by_cases k4:e.1=4
 ·simp only [k4,qew,cond_true,show iEq 4 1=false from rfl,show iEq 4 2=false from rfl,show iEq 4 3=false from rfl,cond_false]
  cases sameV e.2.1 (0,0,0,()) <;> cases sameN e.2.2.2.2.1 0 <;> cases zeroC e.2.2.1 <;> cases finB e.2.2.2.2.1 <;> cases (iLe 0 e.2.2.2.1&&iLe e.2.2.2.1 (iSub .i64 n 1)) <;> rfl
 have e4:=qbx k4
 simp only [e1,e2,e3,e4,cond_false]
 cases sameV e.2.1 (0,0,0,()) <;> cases sameN e.2.2.2.2.1 0 <;> rfl
def logB (a:DLog):Bool:=frameB a.1 a.2.1 a.2.2.1&&(iLe (lenI a.2.2.2.1) 1200&&a.2.2.2.1.all (entryB (lenI a.2.2.1)))
theorem qft (a:DLog) (h:Sized TyLog a):qdv a=some ((logB a,()),()):=by
 have h1:=qks a.2.2.2.1 (fun z1131=>(qi6 z1131.1 a).map fun y=>y.1.1) (fun e => !entryB (lenI a.2.2.1) e) h.2.2.2.1.1 (fun x _=>by
  simp only [qi6,qwq,Option.bind_some,Option.map_some])
 simp only [qdv,h1]
 simp only [qow a.1 a.2.1 a.2.2.1 h.2.2.1.1,Option.bind_some,logB,qagb,Bool.not_not]
 cases frameB a.1 a.2.1 a.2.2.1 <;> cases iLe (lenI a.2.2.2.1) 1200 <;> rfl
theorem qaci (a:DLog) (h:Sized TyLog a):qoa a=some ((logB a,()),()):=by
 have hl:a.2.2.2.1.length≤140737488355328:=h.2.2.2.1.1
 have hr:run (qj8 a) ((0:Int),())=some ((a.2.2.2.1.all (entryB (lenI a.2.2.1)),()),()):=by
  refine qp9 (fun i hi => ?_) ?_
  ·have e1:iLt (i:Int) (lenI a.2.2.2.1)=true:=qan (by rw [qac];omega)
   have e2:inB (i:Int) a.2.2.2.1.length=true:=qaj hi
   have e4:a.2.2.2.1.getD i ((0,(0,0,0,()),(0,0,0,()),0,0,()):DEntry)=a.2.2.2.1[i]:=qbd hi
   have e5:iAdd .i64 (i:Int) 1=((i+1:Nat):Int):=qaw hi (by omega)
   simp only [qj8,e1,e2,e4,e5,Int.toNat_natCast,qzn,Option.bind_some,cond_true]
   cases entryB (lenI a.2.2.1) a.2.2.2.1[i] <;> rfl
  ·have e1:iLt (a.2.2.2.1.length:Int) (lenI a.2.2.2.1)=false:=qas (by rw [qac];omega)
   simp only [qj8,e1,cond_false]
   rfl
 simp only [qoa,qrq a.1 a.2.1 a.2.2.1 h.2.2.1.1,hr,Option.bind_some,logB,qxt]
 cases frameB a.1 a.2.1 a.2.2.1 <;> cases iLe (lenI a.2.2.2.1) 1200 <;> rfl
theorem qaib (a b:Vec 3 Nat):qsw a b=qn8 a b:=by
 obtain ⟨a1,a2,a3,⟨⟩⟩:=a
 rfl
theorem qaf7 (a:Vec 3 Nat) (c:Nat):qo9 a c=qk3 a c:=by
 obtain ⟨a1,a2,a3,⟨⟩⟩:=a
 rfl
def addV (a b:Vec 3 Nat):Vec 3 Nat:=(fAdd .f32 (Vec.getD 3 a 0 (0:Nat)) (Vec.getD 3 b 0 (0:Nat)),fAdd .f32 (Vec.getD 3 a 1 (0:Nat)) (Vec.getD 3 b 1 (0:Nat)),fAdd .f32 (Vec.getD 3 a 2 (0:Nat)) (Vec.getD 3 b 2 (0:Nat)),())
def scaleV (a:Vec 3 Nat) (c:Nat):Vec 3 Nat:=(fMul .f32 (Vec.getD 3 a 0 (0:Nat)) c,fMul .f32 (Vec.getD 3 a 1 (0:Nat)) c,fMul .f32 (Vec.getD 3 a 2 (0:Nat)) c,())
theorem qt0 (a b:Vec 3 Nat):qn8 a b=some ((addV a b,()),()):=rfl
theorem qll (a:Vec 3 Nat) (c:Nat):qk3 a c=some ((scaleV a c,()),()):=rfl
theorem qamy (a:DMission):ql9 a (fDiv .f32 1065353216 (fOfInt .f32 a.1))=qd9 a:=by
 funext s
 unfold ql9 qd9
 cases iLt s.2.1 (lenI a.2.2.2.1)
 ·rfl
 ·cases hb:inB s.2.1 a.2.2.2.1.length
  ·rfl
  ·simp only [cond_true,qll,Option.bind_some]
   congr 1
   funext z
   simp only [qqz,qea,hb,cond_true,qaib,qaf7,qll,qt0,qfq,qd1,Option.bind_some]
end
section
theorem qxs (x:Nat) (h:finB x=true):(!fLt .f32 x 0)=fLe .f32 0 x:=by
 obtain ⟨s,m,p,hd⟩:=qz8 (k:=.f32) h
 have hd':FloatKind.f32.format.read x = .number s m p:=hd
 have h0:FloatKind.f32.format.read 0 = .number false 0 (-149):=by decide
 have some_beq : ∀ (a b:Ordering),((some a:Option Ordering)==some b)=(a==b):=fun a b=>by cases a <;> cases b <;> rfl
 unfold fLt fLe Ieee.Format.order
 rw [hd',h0]
 simp only [Ieee.Datum.order,some_beq]
 rw [qz1,ql5,Int.min_comm]
 generalize Ieee.signed s m _=a
 generalize Ieee.signed false 0 _=b
 by_cases h:a<b
 ·have:¬ b≤a:=by omega
  simp [h,this]
 ·have:b≤a:=by omega
  simp [h,this]
def leastB (x:Nat):Bool:=finB x&&fLe .f32 0 x
theorem qaat (x:Nat):qfv [x]=some ((leastB x,()),()):=by
 have h:=qgi [x] (fun z1059=>(qj4 z1059.1).map fun y=>y.1.1) (fun p=>fLt .f32 p 0) (by simp) (fun x _=>rfl)
 simp only [qfv,h,qb5 [x] (by simp),Option.bind_some,List.all_cons,List.all_nil,List.any_cons,List.any_nil,Bool.and_true,Bool.or_false,leastB]
 cases hf:finB x with
 | false=>rfl
 | true=>rw [qxs x hf];rfl
end
section
theorem qrh (x:Nat):qe4 x=some ((leastB x,()),()):=by
 simp only [qe4,qbo,Option.bind_some,leastB]
 cases fLe .f32 0 x <;> cases finB x <;> rfl
end
section
theorem qen {x:Nat} : finB x=true ↔ ∃ s m p,FloatKind.f32.decode x = .number s m p:=by
 constructor
 ·exact qz8 (k:=.f32)
 ·rintro ⟨s,m,p,hd⟩
  have hd':FloatKind.f32.format.read x = .number s m p:=hd
  have e:fSub .f32 x x=0:=by
   unfold fSub Ieee.Format.sub
   rw [hd']
   simp only [Ieee.Datum.opposite,Ieee.Datum.sum]
   have ht:Ieee.signed s m (p-min p p).toNat+Ieee.signed (!s) m (p-min p p).toNat=0:=by rw [qabf];omega
   rw [ht]
   cases s <;> rfl
  unfold finB
  rw [e]
  decide
theorem qql (s:Bool):finB (canon .f32 (FloatKind.f32.format.write (.infinity s)))=false:=by cases s <;> decide
theorem fin_nan:finB (nan .f32)=false:=by decide
theorem qqv:finB 0=true:=by decide
theorem qagi {a b:Nat} (h:finB (fMul .f32 a b)=true):finB a=true∧finB b=true:=by
 unfold fMul Ieee.Format.mul at h
 cases ha:FloatKind.f32.format.read a with
 | nan s t =>
  rw [ha] at h
  have:finB (nan .f32)=true:=by cases hb:FloatKind.f32.format.read b <;> rw [hb] at h <;> exact h
  rw [fin_nan] at this
  cases this
 | infinity s =>
  rw [ha] at h
  cases hb:FloatKind.f32.format.read b with
  | nan t u=>rw [hb] at h;exact absurd (fin_nan.symm.trans h) (by decide)
  | infinity t=>rw [hb] at h;exact absurd ((qql _).symm.trans h) (by decide)
  | number t n j =>
   rw [hb] at h
   by_cases hn:n=0
   ·simp only [Ieee.Datum.product,hn,if_true] at h
    exact absurd (fin_nan.symm.trans h) (by decide)
   ·simp only [Ieee.Datum.product,if_neg hn] at h
    exact absurd ((qql _).symm.trans h) (by decide)
 | number s m i =>
  refine ⟨qen.2 ⟨_,_,_,ha⟩,?_⟩
  rw [ha] at h
  cases hb:FloatKind.f32.format.read b with
  | nan t u=>rw [hb] at h;exact absurd (fin_nan.symm.trans h) (by decide)
  | infinity t =>
   rw [hb] at h
   by_cases hn:m=0
   ·simp only [Ieee.Datum.product,hn,if_true] at h
    exact absurd (fin_nan.symm.trans h) (by decide)
   ·simp only [Ieee.Datum.product,if_neg hn] at h
    exact absurd ((qql _).symm.trans h) (by decide)
  | number t n j=>exact qen.2 ⟨_,_,_,hb⟩
theorem qani {a b:Nat} (h:finB (fAdd .f32 a b)=true):finB a=true∧finB b=true:=by
 unfold fAdd Ieee.Format.add at h
 cases ha:FloatKind.f32.format.read a with
 | nan s t =>
  rw [ha] at h
  have:finB (nan .f32)=true:=by cases hb:FloatKind.f32.format.read b <;> rw [hb] at h <;> exact h
  rw [fin_nan] at this
  cases this
 | infinity s =>
  rw [ha] at h
  cases hb:FloatKind.f32.format.read b with
  | nan t u=>rw [hb] at h;exact absurd (fin_nan.symm.trans h) (by decide)
  | infinity t =>
   rw [hb] at h
   by_cases hn:s=t
   ·simp only [Ieee.Datum.sum,if_pos hn] at h
    exact absurd ((qql _).symm.trans h) (by decide)
   ·simp only [Ieee.Datum.sum,if_neg hn] at h
    exact absurd (fin_nan.symm.trans h) (by decide)
  | number t n j=>rw [hb] at h;exact absurd ((qql _).symm.trans h) (by decide)
 | number s m i =>
  refine ⟨qen.2 ⟨_,_,_,ha⟩,?_⟩
  rw [ha] at h
  cases hb:FloatKind.f32.format.read b with
  | nan t u=>rw [hb] at h;exact absurd (fin_nan.symm.trans h) (by decide)
  | infinity t=>rw [hb] at h;exact absurd ((qql _).symm.trans h) (by decide)
  | number t n j=>exact qen.2 ⟨_,_,_,hb⟩
theorem qank {x:Nat} (h:fEq .f32 x 0=true):finB x=true:=by
 have h0:FloatKind.f32.format.read 0 = .number false 0 (-149):=by decide
 unfold fEq Ieee.Format.order at h
 rw [h0] at h
 cases hx:FloatKind.f32.format.read x with
 | nan s t=>rw [hx] at h;simp [Ieee.Datum.order] at h
 | infinity s=>rw [hx] at h;cases s <;> simp [Ieee.Datum.order] at h
 | number s m p=>exact qen.2 ⟨_,_,_,hx⟩
theorem qw7 (x:Nat):FloatKind.f32.format.read (Op.negFloat .f32 x)=match FloatKind.f32.format.read x with
  | .number s m p => .number (!s) m p
  | .infinity s => .infinity (!s)
  | .nan s t => .nan (!s) t:=by
 have e0:Op.negFloat .f32 x=x ^^^ 2^31:=rfl
 have e1:(x ^^^ 2^31)%2^31=x%2^31:=by
  rw [Nat.xor_mod_two_pow,Nat.mod_self,Nat.xor_zero]
 have e2:((x ^^^ 2^31)/2^31%2==1) = !(x/2^31%2==1):=by
  rw [Nat.xor_div_two_pow,Nat.div_self (by decide)]
  have h2:(x/2^31 ^^^ 1)%2=(x/2^31%2) ^^^ 1:=Nat.xor_mod_two_pow (n:=1)
  rw [h2]
  have:x/2^31%2=0∨x/2^31%2=1:=by omega
  rcases this with h | h <;> rw [h] <;> rfl
 have hs:FloatKind.f32.format.signWeight=2^31:=rfl
 unfold Ieee.Format.read
 simp only [hs,e0,e1,e2]
 split
 ·rfl
 ·split
  ·rfl
  ·split <;> rfl
theorem qagr {x:Nat} {s:Bool} {m:Nat} {p:Int} (h:FloatKind.f32.format.read x = .number s m p):FloatKind.f32.format.read (fNeg .f32 x) = .number (!s) m p:=by
 have h1:FloatKind.f32.format.read (Op.negFloat .f32 x) = .number (!s) m p:=by rw [qw7,h]
 have hn:isNan .f32 (Op.negFloat .f32 x)=false:=by rw [qjr,h1];rfl
 unfold fNeg
 rw [qak hn,h1]
theorem qanl (x:Nat):finB (fNeg .f32 x)=finB x:=by
 cases hx:FloatKind.f32.format.read x with
 | number s m p=>rw [qen.2 ⟨_,_,_,hx⟩,qen.2 ⟨_,_,_,qagr hx⟩]
 | infinity s =>
  have h1:FloatKind.f32.format.read (Op.negFloat .f32 x) = .infinity (!s):=by rw [qw7,hx]
  have hn:isNan .f32 (Op.negFloat .f32 x)=false:=by rw [qjr,h1];rfl
  have a:finB x=false:=by
   cases h:finB x with
   | false=>rfl
   | true=>obtain ⟨s',m',p',e⟩:=qen.1 h;rw [show FloatKind.f32.decode x=FloatKind.f32.format.read x from rfl,hx] at e;cases e
  rw [a]
  cases h:finB (fNeg .f32 x) with
  | false=>rfl
  | true =>
   obtain ⟨s',m',p',e⟩:=qen.1 h
   rw [show FloatKind.f32.decode (fNeg .f32 x)=FloatKind.f32.format.read (fNeg .f32 x) from rfl,fNeg,qak hn,h1] at e
   cases e
 | nan s t =>
  have h1:FloatKind.f32.format.read (Op.negFloat .f32 x) = .nan (!s) t:=by rw [qw7,hx]
  have hn:isNan .f32 (Op.negFloat .f32 x)=true:=by rw [qjr,h1];rfl
  have a:finB x=false:=by
   cases h:finB x with
   | false=>rfl
   | true=>obtain ⟨s',m',p',e⟩:=qen.1 h;rw [show FloatKind.f32.decode x=FloatKind.f32.format.read x from rfl,hx] at e;cases e
  rw [a,fNeg,qc5 hn]
  exact fin_nan
theorem sbeq (a b:Ordering):((some a:Option Ordering)==some b)=(a==b):=by cases a <;> cases b <;> rfl
theorem qahs {x:Nat} (hf:finB x=true) (h:fLt .f32 x 0=true):fLt .f32 (fNeg .f32 x) 0=false:=by
 obtain ⟨s,m,p,hd⟩:=qen.1 hf
 have hd':FloatKind.f32.format.read x = .number s m p:=hd
 have h0:FloatKind.f32.format.read 0 = .number false 0 (-149):=by decide
 have hz : ∀ u,Ieee.signed false 0 u=0:=fun u=>by simp [Ieee.signed]
 unfold fLt Ieee.Format.order at h ⊢
 rw [hd',h0] at h
 rw [qagr hd',h0]
 simp only [Ieee.Datum.order,sbeq,ql5,hz] at h ⊢
 rw [qabf]
 have:=of_decide_eq_true h
 exact decide_eq_false (by omega)
theorem qajr {x y:Nat} (hx:finB x=true) (hy:finB y=true):(!fLe .f32 x y)=fLt .f32 y x:=by
 obtain ⟨s,m,p,hd⟩:=qen.1 hx
 obtain ⟨t,n,q,he⟩:=qen.1 hy
 have hd':FloatKind.f32.format.read x = .number s m p:=hd
 have he':FloatKind.f32.format.read y = .number t n q:=he
 unfold fLt fLe Ieee.Format.order
 rw [hd',he']
 simp only [Ieee.Datum.order,sbeq]
 rw [qz1,ql5,Int.min_comm q p]
 generalize Ieee.signed s m _=a
 generalize Ieee.signed t n _=b
 by_cases h:b<a
 ·have:¬ a≤b:=by omega
  simp [h,this]
 ·have:a≤b:=by omega
  simp [h,this]
end
section

end
section

end
section
def joinC (c:UInt8):List (List UInt8)→List UInt8
 | []=>[]
 | [w]=>w
 | w :: v :: r=>w++c :: joinC c (v :: r)
theorem qqd (c:UInt8) : ∀ (n:Nat) (s:List UInt8),s.length≤n→joinC c (splitC c s)=s:=by
 intro n
 induction n with
 | zero =>
  intro s h
  have:s=[]:=List.length_eq_zero_iff.1 (by omega)
  subst this;rfl
 | succ n ih =>
  intro s h
  rcases qrw c s with hf | ⟨p,r,rfl,hf⟩
  ·rw [qkx hf];rfl
  ·rw [qmu r hf]
   have hl:r.length≤n:=by simp at h;omega
   cases hr:splitC c r with
   | nil=>exact absurd hr (qo7 c r)
   | cons x y =>
    show p++c :: joinC c (x :: y)=_
    rw [← hr,ih r hl]
theorem qh9 (c:UInt8) : ∀ ws:List (List UInt8),ws≠[]→(∀ w∈ws,c∉w)→splitC c (joinC c ws)=ws
 | [],h,_=>absurd rfl h
 | [w],_,h=>qkx (h w (by simp))
 | w :: v :: r,_,h=>by
  show splitC c (w++c :: joinC c (v :: r))=_
  rw [qmu _ (h w (by simp)),qh9 c (v :: r) (by simp) (fun x hx=>h x (List.mem_cons_of_mem _ hx))]
theorem qo0 {c d:UInt8} (hcd:d≠c) : ∀ ws:List (List UInt8),(∀ w∈ws,d∉w)→d∉joinC c ws
 | [],_=>by simp [joinC]
 | [w],h=>h w (by simp)
 | w :: v :: r,h=>by
  show d∉w++c :: joinC c (v :: r)
  intro hd
  rcases List.mem_append.1 hd with hd | hd
  ·exact h w (by simp) hd
  ·rcases List.mem_cons.1 hd with hd | hd
   ·exact hcd hd
   ·exact qo0 hcd (v :: r) (fun x hx=>h x (List.mem_cons_of_mem _ hx)) hd
def linesT (Ls:List (List UInt8)):List UInt8:=Ls.flatMap fun x=>x++[10]
theorem qs3 : ∀ Ls:List (List UInt8),(∀ x∈Ls,(10:UInt8)∉x)→splitC 10 (linesT Ls)=Ls++[[]]
 | [],_=>rfl
 | x :: Ls,h=>by
  have e:linesT (x :: Ls)=x++10 :: linesT Ls:=by
   unfold linesT;rw [List.flatMap_cons];simp
  rw [e,qmu _ (h x (by simp)),qs3 Ls (fun y hy=>h y (List.mem_cons_of_mem _ hy))]
  rfl
theorem qaa2 : ∀ Ls:List (List UInt8),joinC 10 (Ls++[[]])=linesT Ls
 | []=>rfl
 | x :: Ls=>by
  have e:linesT (x :: Ls)=x++10 :: linesT Ls:=by
   unfold linesT;rw [List.flatMap_cons];simp
  rw [e,← qaa2 Ls]
  cases Ls <;> rfl
theorem qalw {s:List UInt8} {Ls:List (List UInt8)} (h:splitC 10 s=Ls++[[]]):s=linesT Ls:=by
 rw [← qaa2,← h,qqd 10 s.length s (Nat.le_refl _)]
end
section
def hex8 (a:Nat):List UInt8:=hexP 8 (bitsOf a)
def vecW (v:Vec 3 Nat):List (List UInt8):=[hex8 v.1,hex8 v.2.1,hex8 v.2.2.1]
def wLog:List UInt8:=[108,111,103]
def wBea:List UInt8:=[98,101,97,99,111,110]
def wTick:List UInt8:=[116,105,99,107]
def wMov:List UInt8:=[109,111,118,101]
def wFi:List UInt8:=[102,105,120]
def wRan:List UInt8:=[114,97,110,103,101]
def entW (e:DEntry):List (List UInt8) :=
 bif iEq e.1 1 then [wTick] else bif iEq e.1 2 then wMov :: vecW e.2.1 else bif iEq e.1 3 then [wFi,Lib.itoa e.2.2.1.1,Lib.itoa e.2.2.1.2.1,Lib.itoa e.2.2.1.2.2.1] else [wRan,Lib.itoa e.2.2.2.1,hex8 e.2.2.2.2.1]
def headL (a:Int) (v:Vec 3 Nat):List UInt8:=joinC 32 (wLog :: Lib.itoa a :: vecW v)
def beaL (v:Vec 3 Nat):List UInt8:=joinC 32 (wBea :: vecW v)
def entL (e:DEntry):List UInt8:=joinC 32 (entW e)
def logL (l:DLog):List (List UInt8):=headL l.1 l.2.1 :: (l.2.2.1.map beaL++l.2.2.2.1.map entL)
def logT (l:DLog):List UInt8:=linesT (logL l)
theorem qai0 {c:UInt8} (hc:c=32∨c=10) {d:Nat} (h:d<16):hexC d≠c:=by
 have key : ∀ d:Fin 16,hexC d.val≠32∧hexC d.val≠10:=by decide
 rcases hc with rfl | rfl
 ·exact (key ⟨d,h⟩).1
 ·exact (key ⟨d,h⟩).2
theorem qok {c:UInt8} (hc:c=32∨c=10) : ∀ k n,c∉hexP k n
 | 0,_=>by simp [hexP]
 | k+1,n=>by
  rw [hexP]
  intro h
  rcases List.mem_append.1 h with h | h
  ·exact qok hc k _ h
  ·rw [List.mem_singleton] at h
   exact qai0 hc (Nat.mod_lt n (by decide)) h.symm
theorem qoz {c:UInt8} (hc:c=32∨c=10) (n:Int):c∉Lib.itoa n:=by
 have hd : ∀ u,c∉Lib.decDigits u:=fun u=>by
  rcases hc with rfl | rfl
  ·exact qyo rfl u
  ·exact qyo rfl u
 unfold Lib.itoa
 split
 ·intro h
  rcases List.mem_cons.1 h with h | h
  ·rcases hc with rfl | rfl <;> exact absurd h (by decide)
  ·exact hd _ h
 ·exact hd _
theorem qxj {c:UInt8} (hc:c=32∨c=10) (v:Vec 3 Nat) : ∀ w∈vecW v,c∉w:=by
 intro w hw
 unfold vecW at hw
 simp only [List.mem_cons,List.mem_nil_iff,or_false] at hw
 rcases hw with rfl | rfl | rfl <;> exact qok hc 8 _
theorem qkb {c:UInt8} (hc:c=32∨c=10) {w:List UInt8} (h:w=wLog∨w=wBea∨w=wTick∨w=wMov∨w=wFi∨w=wRan):c∉w:=by
 rcases hc with rfl | rfl <;> rcases h with rfl | rfl | rfl | rfl | rfl | rfl <;> decide
theorem qaae {c:UInt8} (hc:c=32∨c=10) (a:Int) (v:Vec 3 Nat) : ∀ w∈wLog :: Lib.itoa a :: vecW v,c∉w:=by
 intro w hw
 rcases List.mem_cons.1 hw with rfl | hw
 ·exact qkb hc (.inl rfl)
 ·rcases List.mem_cons.1 hw with rfl | hw
  ·exact qoz hc a
  ·exact qxj hc v w hw
theorem qv5 {c:UInt8} (hc:c=32∨c=10) (v:Vec 3 Nat) : ∀ w∈wBea :: vecW v,c∉w:=by
 intro w hw
 rcases List.mem_cons.1 hw with rfl | hw
 ·exact qkb hc (.inr (.inl rfl))
 ·exact qxj hc v w hw
theorem qv9 {c:UInt8} (hc:c=32∨c=10) (e:DEntry) : ∀ w∈entW e,c∉w:=by
 intro w hw
 unfold entW at hw
 generalize iEq e.1 1=b1 at hw
 generalize iEq e.1 2=b2 at hw
 generalize iEq e.1 3=b3 at hw
 cases b1 with
 | true =>
  simp only [cond_true,List.mem_singleton] at hw
  subst hw
  exact qkb hc (.inr (.inr (.inl rfl)))
 | false =>
  cases b2 with
  | true =>
   rcases List.mem_cons.1 hw with rfl | hw
   ·exact qkb hc (.inr (.inr (.inr (.inl rfl))))
   ·exact qxj hc _ w hw
  | false =>
   cases b3 with
   | true =>
    simp only [cond_true,cond_false,List.mem_cons,List.mem_nil_iff,or_false] at hw
    rcases hw with rfl | rfl | rfl | rfl
    ·exact qkb hc (.inr (.inr (.inr (.inr (.inl rfl)))))
    ·exact qoz hc _
    ·exact qoz hc _
    ·exact qoz hc _
   | false =>
    simp only [cond_false,List.mem_cons,List.mem_nil_iff,or_false] at hw
    rcases hw with rfl | rfl | rfl
    ·exact qkb hc (.inr (.inr (.inr (.inr (.inr rfl)))))
    ·exact qoz hc _
    ·exact qok hc 8 _
theorem qagg (e:DEntry):entW e≠[]:=by
 unfold entW
 cases iEq e.1 1 <;> cases iEq e.1 2 <;> cases iEq e.1 3 <;> simp
theorem qajc (l:DLog) : ∀ x∈logL l,(10:UInt8)∉x:=by
 intro x hx
 rcases List.mem_cons.1 hx with rfl | hx
 ·exact qo0 (by decide) _ (qaae (.inr rfl) _ _)
 ·rcases List.mem_append.1 hx with hx | hx
  ·obtain ⟨v,_,rfl⟩:=List.mem_map.1 hx
   exact qo0 (by decide) _ (qv5 (.inr rfl) _)
  ·obtain ⟨e,_,rfl⟩:=List.mem_map.1 hx
   exact qo0 (by decide) _ (qv9 (.inr rfl) _)
theorem qu3 (l:DLog):splitC 10 (logT l)=logL l++[[]]:=qs3 _ (qajc l)
def goodN (a:Nat):Prop:=numR (hex8 a)=some a
theorem qajt {s:List UInt8} {a:Nat} (h:numR s=some a):hex8 a=s∧goodN a:=by
 have e:hex8 a=s:=(qadg h).2
 exact ⟨e,by unfold goodN;rw [e];exact h⟩
def goodV (v:Vec 3 Nat):Prop:=goodN v.1∧goodN v.2.1∧goodN v.2.2.1
theorem qaju (r:DRd) (h:(wordOf r).length≤1048576) : ∃ a:Nat,qat r=some ((a,()),((r.1.drop 1,((r.1.isEmpty||r.2.1)||(numR (wordOf r)).isNone,())),())) ∧ ∀ x,numR (wordOf r)=some x→a=x:=by
 obtain ⟨ws,f,⟨⟩⟩:=r
 have hw:=qb3 (ws,f,())
 have hn:=qon h
 unfold qat
 rw [hw]
 simp only [Option.bind_some]
 rw [hn]
 cases hr:numR (wordOf (ws,f,())) with
 | none =>
  refine ⟨0,?_,fun x hx=>by cases hx⟩
  simp only [Option.bind_some,restOf]
  cases (ws.isEmpty||f) <;> rfl
 | some a =>
  refine ⟨a,?_,fun x hx=>Option.some.inj hx⟩
  simp only [Option.bind_some,restOf]
  cases (ws.isEmpty||f) <;> rfl
theorem qxk {r:DRd} (h : ∀ w∈r.1,w.length≤1048576):(wordOf r).length≤1048576:=by
 obtain ⟨ws,f⟩:=r
 cases ws with
 | nil=>exact Nat.zero_le _
 | cons w ws=>exact h w (by simp)
theorem qn6 {r:DRd} (h : ∀ w∈r.1,w.length≤1048576) : ∃ (a:Nat) (r':DRd),qat r=some ((a,()),(r',()))∧r'.1=r.1.drop 1 ∧
  (r'.2.1=false→r.2.1=false ∧ ∃ ws,r.1=hex8 a :: ws∧goodN a)∧(∀ x ws,r.2.1=false→r.1=hex8 x :: ws→goodN x→a=x∧r'.2.1=false):=by
 obtain ⟨a,h1,h2⟩:=qaju r (qxk h)
 refine ⟨a,_,h1,rfl,fun hf => ?_,fun x ws h3 h4 h5 => ?_⟩
 ·simp only [Bool.or_eq_false_iff] at hf
  obtain ⟨⟨f1,f2⟩,f3⟩:=hf
  refine ⟨f2,?_⟩
  obtain ⟨ws,f,⟨⟩⟩:=r
  cases ws with
  | nil=>cases f1
  | cons w ws =>
   cases hn:numR (wordOf (w :: ws,f,())) with
   | none=>rw [hn] at f3;cases f3
   | some x =>
    have:=h2 x hn
    subst this
    obtain ⟨e1,e2⟩:=qajt hn
    exact ⟨ws,by rw [e1];rfl,e2⟩
 ·have hw:wordOf r=hex8 x:=by unfold wordOf;rw [h4];rfl
  have hn:numR (wordOf r)=some x:=by rw [hw];exact h5
  refine ⟨h2 x hn,?_⟩
  rw [hn,h3,h4]
  rfl
theorem qvi {r:DRd} (h : ∀ w∈r.1,w.length≤1048576) : ∃ (v:Vec 3 Nat) (r':DRd),qa7 r=some ((v,()),(r',()))∧r'.1=r.1.drop 3 ∧
  (r'.2.1=false→r.2.1=false ∧ ∃ ws,r.1=vecW v++ws∧goodV v)∧(∀ x ws,r.2.1=false→r.1=vecW x++ws→goodV x→v=x∧r'.2.1=false):=by
 obtain ⟨a,r1,e1,p1,q1,s1⟩:=qn6 h
 obtain ⟨b,r2,e2,p2,q2,s2⟩:=qn6 (r:=r1) (fun w hw=>h w (by rw [p1] at hw;exact List.mem_of_mem_drop hw))
 obtain ⟨c,r3,e3,p3,q3,s3⟩:=qn6 (r:=r2) (fun w hw=>h w (by rw [p2,p1] at hw;exact List.mem_of_mem_drop (List.mem_of_mem_drop hw)))
 refine ⟨(a,b,c,()),r3,?_,?_,fun hf => ?_,fun x ws h1 h2 h3 => ?_⟩
 ·unfold qa7
  show (qat r).bind _=_
  rw [e1]
  simp only [Option.bind_some]
  show (qat r1).bind _=_
  rw [e2]
  simp only [Option.bind_some]
  show (qat r2).bind _=_
  rw [e3]
  rfl
 ·rw [p3,p2,p1,List.drop_drop,List.drop_drop]
 ·obtain ⟨f2,ws3,w3,g3⟩:=q3 hf
  obtain ⟨f1,ws2,w2,g2⟩:=q2 f2
  obtain ⟨f0,ws1,w1,g1⟩:=q1 f1
  refine ⟨f0,ws3,?_,g1,g2,g3⟩
  rw [p1,w1] at w2
  rw [p2,p1,w1] at w3
  simp only [List.drop_succ_cons,List.drop_zero] at w2 w3
  rw [w1,w2]
  rw [w2] at w3
  simp only [List.drop_succ_cons,List.drop_zero] at w3
  rw [w3]
  rfl
 ·obtain ⟨x0,x1,x2,⟨⟩⟩:=x
  obtain ⟨g1,g2,g3⟩:=h3
  have h2':r.1=hex8 x0 :: hex8 x1 :: hex8 x2 :: ws:=h2
  obtain ⟨rfl,f1⟩:=s1 x0 _ h1 h2' g1
  obtain ⟨rfl,f2⟩:=s2 x1 _ f1 (by rw [p1,h2'];rfl) g2
  obtain ⟨rfl,f3⟩:=s3 x2 _ f2 (by rw [p2,p1,h2'];rfl) g3
  exact ⟨rfl,f3⟩
theorem qahy {n:Int} (h : -999999999≤n) (h1:n≤999999999):parseInt64 (Lib.itoa n)=(n,true):=by
 by_cases h0:0≤n
 ·rw [qaes h0,qyc (by omega),Int.toNat_of_nonneg h0]
 ·obtain ⟨u,rfl⟩ : ∃ u:Nat,n = -(u:Int):=⟨n.natAbs,by omega⟩
  have hu:1≤u:=by omega
  obtain ⟨h1,h2,_⟩:=qnd u
  have hp:=qpf (Lib.decDigits u) 0 h1 (by rw [h2];omega)
  rw [h2] at hp
  have hne:=qvl u
  rw [Lib.itoa_neg u hu]
  unfold parseInt64
  have:Lib.parseIntB 64 (45 :: Lib.decDigits u) = .ok (-(u:Int)):=by
   unfold Lib.parseIntB
   have hd:¬ (Lib.decDigits u=[]):=by intro h;rw [h] at hne;simp at hne
   simp only [if_pos (show ((45:UInt8).toNat=43∨(45:UInt8).toNat=45) by decide),Lib.parseUintB,if_neg hd,hp]
   rw [if_neg (by intro h;exact h.1 rfl),if_neg (by omega),if_pos (by decide)]
  rw [this]
theorem qq4 {r:DRd} (h : ∀ w∈r.1,w.length≤1048576) : ∃ (n:Int) (r':DRd),qag r=some ((n,()),(r',()))∧r'.1=r.1.drop 1 ∧
  (r'.2.1=false→r.2.1=false ∧ ∃ ws,r.1=Lib.itoa n :: ws)∧(∀ x ws,r.2.1=false→r.1=Lib.itoa x :: ws → -999999999≤x→x≤999999999→n=x∧r'.2.1=false):=by
 refine ⟨intOf r,intRest r,qpb (qxk h),rfl,fun hf => ?_,fun x ws h1 h2 h3 h4 => ?_⟩
 ·unfold intRest at hf
  simp only [Bool.or_eq_false_iff,Bool.not_eq_false'] at hf
  obtain ⟨⟨f1,f2⟩,f3,f4⟩:=hf
  refine ⟨f2,?_⟩
  obtain ⟨ws,f,⟨⟩⟩:=r
  cases ws with
  | nil=>cases f1
  | cons w ws =>
   refine ⟨ws,?_⟩
   have:Lib.itoa (intOf (w :: ws,f,()))=w:=by simpa [sEq,wordOf] using f4
   rw [this]
 ·have hw:wordOf r=Lib.itoa x:=by unfold wordOf;rw [h2];rfl
  have hp:=qahy h3 h4
  have hi:intOf r=x:=by unfold intOf;rw [hw,hp]
  refine ⟨hi,?_⟩
  unfold intRest
  simp only
  rw [hw,hi,hp,qzf,h1,h2]
  rfl
def goodE (e:DEntry):Prop:=(e.1=2→goodV e.2.1)∧(e.1=3→(-32768≤e.2.2.1.1∧e.2.2.1.1≤32767)∧(-32768≤e.2.2.1.2.1∧e.2.2.1.2.1≤32767)∧(-32768≤e.2.2.1.2.2.1∧e.2.2.1.2.2.1≤32767))∧(e.1=4→goodN e.2.2.2.2.1)
def endedB (r:DRd):Bool:=!r.2.1&&r.1.isEmpty
theorem qzv {c:Vec 3 Int} (h:zeroC c=true):c=(0,0,0,()):=by
 obtain ⟨a,b,d,⟨⟩⟩:=c
 have h':(iEq a 0&&(iEq b 0&&iEq d 0))=true:=h
 simp only [Bool.and_eq_true,qbq] at h'
 obtain ⟨rfl,rfl,rfl⟩:=h'
 rfl
theorem qzg {v:Vec 3 Nat} (h:sameV v (0,0,0,())=true):v=(0,0,0,()):=by
 obtain ⟨a,b,d,⟨⟩⟩:=v
 have h':(sameN a 0&&(sameN b 0&&sameN d 0))=true:=h
 simp only [Bool.and_eq_true] at h'
 rw [qef h'.1,qef h'.2.1,qef h'.2.2]
 rfl
theorem qtx {a b:List UInt8} (h:a≠b):sEq a b=false:=by
 cases e:sEq a b with
 | false=>rfl
 | true=>exact absurd (by simpa [sEq] using e) h
theorem qe8 {n:Int} {e:DEntry} (h:entryB n e=true):(e=(1,(0,0,0,()),(0,0,0,()),0,0,()))∨(∃ v:Vec 3 Nat,e=(2,v,(0,0,0,()),0,0,())∧finV v=true)∨(∃ c:Vec 3 Int,e=(3,(0,0,0,()),c,0,0,())) ∨
  (∃ (k:Int) (a:Nat),e=(4,(0,0,0,()),(0,0,0,()),k,a,())∧0≤k∧k≤iSub .i64 n 1∧finB a=true):=by
 obtain ⟨q,v,c,k,a,⟨⟩⟩:=e
 unfold entryB at h
 simp only at h
 by_cases h1:q=1
 ·subst h1
  have e1:iEq (1:Int) 1=true:=by decide
  rw [e1] at h
  simp only [cond_true,Bool.and_eq_true,qbq] at h
  obtain ⟨ha,hb,hc,hd⟩:=h
  rw [qzg ha,qzv hb,hc,qef hd]
  exact .inl rfl
 ·rw [qbx h1] at h
  by_cases h2:q=2
  ·subst h2
   have e1:iEq (2:Int) 2=true:=by decide
   rw [e1] at h
   simp only [cond_true,cond_false,Bool.and_eq_true,qbq] at h
   obtain ⟨⟨hb,hc,hd⟩,ha⟩:=h
   rw [qzv hb,hc,qef hd]
   exact .inr (.inl ⟨v,rfl,ha⟩)
  ·rw [qbx h2] at h
   by_cases h3:q=3
   ·subst h3
    have e1:iEq (3:Int) 3=true:=by decide
    rw [e1] at h
    simp only [cond_true,cond_false,Bool.and_eq_true,qbq] at h
    obtain ⟨ha,hc,hd⟩:=h
    rw [qzg ha,hc,qef hd]
    exact .inr (.inr (.inl ⟨c,rfl⟩))
   ·rw [qbx h3] at h
    by_cases h4:q=4
    ·subst h4
     have e1:iEq (4:Int) 4=true:=by decide
     rw [e1] at h
     simp only [cond_true,cond_false,Bool.and_eq_true,qdj] at h
     obtain ⟨⟨h0,h1⟩,ha,hb,hd⟩:=h
     rw [qzg ha,qzv hb]
     exact .inr (.inr (.inr ⟨k,a,rfl,h0,h1,hd⟩))
    ·rw [qbx h4] at h
     cases h
theorem qqq {x:Int} (h : -32768≤x) (h1:x≤32767):iWrap .i16 x=x:=by simp [iWrap,IntKind.wrap,IntKind.signed,IntKind.bits];omega
theorem qacx {ws:List (List UInt8)} {a:List UInt8} {r:List (List UInt8)} (h:ws=a :: r) (h':(ws.drop 1).isEmpty=true):r=[]:=by
 rw [h] at h'
 simpa using h'
noncomputable def countK {A:Type} (r:DRd) (K:Int→DRd→Option A):Option A :=
 (qag r).bind fun y=>bif y.2.1.2.1 then K y.1.1 (y.2.1.1,true,y.2.1.2.2) else (qbh y.1.1 (-32768) 32767).bind fun z=>K y.1.1 (y.2.1.1,!z.1.1,y.2.1.2.2)
theorem qao1 (r:DRd):qbz r wFi=countK r fun n1 ra=>countK ra fun n2 rb=>countK rb fun n3 rc=>some (((3,(0,0,0,()),(iWrap .i16 n1,iWrap .i16 n2,iWrap .i16 n3,()),0,0,()),()),(rc,())):=by kernel_rfl
theorem qus {r:DRd} (h : ∀ w∈r.1,w.length≤1048576) : ∃ (n:Int) (r':DRd),(∀ {A:Type} (K:Int→DRd→Option A),countK r K=K n r')∧r'.1=r.1.drop 1 ∧
  (r'.2.1=false→r.2.1=false∧(-32768≤n∧n≤32767) ∧ ∃ ws,r.1=Lib.itoa n :: ws)∧(∀ x ws,r.2.1=false→r.1=Lib.itoa x :: ws → -32768≤x→x≤32767→n=x∧r'.2.1=false):=by
 obtain ⟨n,r1,e1,p1,q1,b1⟩:=qq4 h
 obtain ⟨ws,f,⟨⟩⟩:=r1
 cases f with
 | true =>
  refine ⟨n,(ws,true,()),fun K => ?_,p1,fun hf=>absurd (show true=false from hf) (by decide),fun x w h1 h2 h3 h4 => ?_⟩
  ·unfold countK
   rw [e1]
   rfl
  ·exact absurd (show true=false from (b1 x w h1 h2 (by omega) (by omega)).2) (by decide)
 | false =>
  refine ⟨n,(ws,!(iLe (-32768) n&&iLe n 32767),()),fun K => ?_,p1,fun hf => ?_,fun x w h1 h2 h3 h4 => ?_⟩
  ·unfold countK
   rw [e1]
   simp only [Option.bind_some,cond_false]
   rw [qo8,qhz]
   rfl
  ·obtain ⟨f0,w,w1⟩:=q1 rfl
   simp only [Bool.not_eq_false',Bool.and_eq_true,qdj] at hf
   exact ⟨f0,hf,w,w1⟩
  ·obtain ⟨rfl,-⟩:=b1 x w h1 h2 (by omega) (by omega)
   refine ⟨rfl,?_⟩
   show (!(iLe (-32768) n&&iLe n 32767))=false
   rw [qds h3,qds h4]
   rfl
theorem qahg (word:List UInt8) {r:DRd} (hall : ∀ w∈r.1,w.length≤1048576) (hf:r.2.1=false) : ∃ (e:DEntry) (r':DRd),qbz r word=some ((e,()),(r',())) ∧
  (endedB r'=true→e.1=0∨(word :: r.1=entW e∧goodE e))∧(∀ e0 n,0≤n→n≤1000→entryB n e0=true→goodE e0→word :: r.1=entW e0→e=e0∧endedB r'=true):=by
 have hws : ∀ (e0:DEntry) (n:Int),entryB n e0=true→word :: r.1=entW e0→(e0.1=1∧word=wTick)∨(e0.1=2∧word=wMov)∨(e0.1=3∧word=wFi)∨(e0.1=4∧word=wRan):=by
  intro e0 n hv hw
  rcases qe8 hv with rfl | ⟨v,rfl,-⟩ | ⟨c,rfl⟩ | ⟨k,a,rfl,-⟩
  ·exact .inl ⟨rfl,(List.cons.inj hw).1⟩
  ·exact .inr (.inl ⟨rfl,(List.cons.inj hw).1⟩)
  ·exact .inr (.inr (.inl ⟨rfl,(List.cons.inj hw).1⟩))
  ·exact .inr (.inr (.inr ⟨rfl,(List.cons.inj hw).1⟩))
 by_cases h1:word=wTick
 ·subst h1
  refine ⟨(1,(0,0,0,()),(0,0,0,()),0,0,()),r,?_,fun he => .inr ⟨?_,?_⟩,fun e0 n hn0 hn hv hg hw => ?_⟩
  ·unfold qbz
   rw [show sEq wTick [116,105,99,107]=true from rfl]
   rfl
  ·have hem:r.1=[]:=by
    unfold endedB at he
    rw [hf] at he
    simpa using he
   rw [hem];rfl
  ·exact ⟨fun h=>absurd h (by decide),fun h=>absurd h (by decide),fun h=>absurd h (by decide)⟩
  ·rcases qe8 hv with rfl | ⟨v,rfl,-⟩ | ⟨c,rfl⟩ | ⟨k,a,rfl,-⟩
   ·refine ⟨rfl,?_⟩
    have hem:r.1=[]:=(List.cons.inj hw).2
    unfold endedB
    rw [hf,hem];rfl
   ·exact absurd (List.cons.inj hw).1 (by decide)
   ·exact absurd (List.cons.inj hw).1 (by decide)
   ·exact absurd (List.cons.inj hw).1 (by decide)
 ·have s1:sEq word [116,105,99,107]=false:=qtx h1
  by_cases h2:word=wMov
  ·subst h2
   obtain ⟨v,r',e1,p1,q1,b1⟩:=qvi hall
   refine ⟨(2,v,(0,0,0,()),0,0,()),r',?_,fun he => .inr ?_,fun e0 n hn0 hn hv hg hw => ?_⟩
   ·unfold qbz
    rw [s1,show sEq wMov [109,111,118,101]=true from rfl]
    simp only [cond_true,cond_false]
    show (qa7 r).bind _=_
    rw [e1]
    rfl
   ·unfold endedB at he
    simp only [Bool.and_eq_true,Bool.not_eq_true'] at he
    obtain ⟨-,ws,w1,g⟩:=q1 he.1
    have hem:ws=[]:=by
     have:=he.2
     rw [p1,w1] at this
     simpa [vecW] using this
    rw [w1,hem]
    exact ⟨by rw [List.append_nil];rfl,fun _=>g,fun h=>absurd h (by show ¬ ((2:Int)=3);decide),fun h=>absurd h (by show ¬ ((2:Int)=4);decide)⟩
   ·rcases qe8 hv with rfl | ⟨v0,rfl,-⟩ | ⟨c,rfl⟩ | ⟨k,a,rfl,-⟩
    ·exact absurd (List.cons.inj hw).1 (by decide)
    ·have hr:r.1=vecW v0++[]:=by rw [List.append_nil];exact (List.cons.inj hw).2
     obtain ⟨rfl,f1⟩:=b1 v0 [] hf hr (hg.1 rfl)
     refine ⟨rfl,?_⟩
     unfold endedB
     rw [f1,p1,hr];rfl
    ·exact absurd (List.cons.inj hw).1 (by decide)
    ·exact absurd (List.cons.inj hw).1 (by decide)
  ·have s2:sEq word [109,111,118,101]=false:=qtx h2
   by_cases h3:word=wFi
   ·subst h3
    obtain ⟨n1,r1,e1,p1,q1,b1⟩:=qus hall
    obtain ⟨n2,r2,e2,p2,q2,b2⟩:=qus (r:=r1) (fun w hw=>hall w (by rw [p1] at hw;exact List.mem_of_mem_drop hw))
    obtain ⟨n3,r3,e3,p3,q3,b3⟩:=qus (r:=r2) (fun w hw=>hall w (by rw [p2,p1] at hw;exact List.mem_of_mem_drop (List.mem_of_mem_drop hw)))
    refine ⟨(3,(0,0,0,()),(iWrap .i16 n1,iWrap .i16 n2,iWrap .i16 n3,()),0,0,()),r3,?_,fun he => .inr ?_,fun e0 n hn0 hn hv hg hw => ?_⟩
    ·rw [qao1,e1,e2,e3];rfl
    ·unfold endedB at he
     simp only [Bool.and_eq_true,Bool.not_eq_true'] at he
     obtain ⟨f2,g3,ws3,w3⟩:=q3 he.1
     obtain ⟨f1,g2,ws2,w2⟩:=q2 f2
     obtain ⟨-,g1,ws1,w1⟩:=q1 f1
     have hem:ws3=[]:=by
      have:=he.2
      rw [p3] at this
      exact qacx w3 this
     rw [p1,w1] at w2
     simp only [List.drop_succ_cons,List.drop_zero] at w2
     rw [p2,p1,w1,w2] at w3
     simp only [List.drop_succ_cons,List.drop_zero] at w3
     rw [qqq g1.1 g1.2,qqq g2.1 g2.2,qqq g3.1 g3.2,w1,w2,w3,hem]
     exact ⟨rfl,fun h=>absurd h (by show ¬ ((3:Int)=2);decide),fun _=>⟨g1,g2,g3⟩,fun h=>absurd h (by show ¬ ((3:Int)=4);decide)⟩
    ·rcases qe8 hv with rfl | ⟨v0,rfl,-⟩ | ⟨c,rfl⟩ | ⟨k,a0,rfl,k0,k1,-⟩
     ·exact absurd (List.cons.inj hw).1 (by decide)
     ·exact absurd (List.cons.inj hw).1 (by decide)
     ·obtain ⟨c0,c1,c2,⟨⟩⟩:=c
      obtain ⟨g0,g1,g2⟩:=hg.2.1 rfl
      have hr:r.1=[Lib.itoa c0,Lib.itoa c1,Lib.itoa c2]:=(List.cons.inj hw).2
      obtain ⟨rfl,f1⟩:=b1 c0 _ hf hr g0.1 g0.2
      obtain ⟨rfl,f2⟩:=b2 c1 _ f1 (by rw [p1,hr];rfl) g1.1 g1.2
      obtain ⟨rfl,f3⟩:=b3 c2 _ f2 (by rw [p2,p1,hr];rfl) g2.1 g2.2
      rw [qqq g0.1 g0.2,qqq g1.1 g1.2,qqq g2.1 g2.2]
      refine ⟨rfl,?_⟩
      unfold endedB
      rw [f3,p3,p2,p1,hr];rfl
     ·exact absurd (List.cons.inj hw).1 (by decide)
   ·have s3:sEq word [102,105,120]=false:=qtx h3
    by_cases h4:word=wRan
    ·subst h4
     obtain ⟨n,r1,e1,p1,q1,b1⟩:=qq4 hall
     obtain ⟨a,r2,e2,p2,q2,b2⟩:=qn6 (r:=r1) (fun w hw=>hall w (by rw [p1] at hw;exact List.mem_of_mem_drop hw))
     refine ⟨(4,(0,0,0,()),(0,0,0,()),n,a,()),r2,?_,fun he => .inr ?_,fun e0 m hm0 hm hv hg hw => ?_⟩
     ·unfold qbz
      rw [s1,s2,s3,show sEq wRan [114,97,110,103,101]=true from rfl]
      simp only [cond_true,cond_false]
      show (qag r).bind _=_
      rw [e1]
      simp only [Option.bind_some]
      show (qat r1).bind _=_
      rw [e2]
      rfl
     ·unfold endedB at he
      simp only [Bool.and_eq_true,Bool.not_eq_true'] at he
      obtain ⟨f1,ws2,w2,g2⟩:=q2 he.1
      obtain ⟨-,ws1,w1⟩:=q1 f1
      have hem:ws2=[]:=by
       have:=he.2
       rw [p2] at this
       exact qacx w2 this
      rw [p1,w1] at w2
      simp only [List.drop_succ_cons,List.drop_zero] at w2
      rw [w1,w2,hem]
      exact ⟨rfl,fun h=>absurd h (by show ¬ ((4:Int)=2);decide),fun h=>absurd h (by show ¬ ((4:Int)=3);decide),fun _=>g2⟩
     ·rcases qe8 hv with rfl | ⟨v0,rfl,-⟩ | ⟨c,rfl⟩ | ⟨k,a0,rfl,k0,k1,-⟩
      ·exact absurd (List.cons.inj hw).1 (by decide)
      ·exact absurd (List.cons.inj hw).1 (by decide)
      ·exact absurd (List.cons.inj hw).1 (by decide)
      ·have hr:r.1=[Lib.itoa k,hex8 a0]:=(List.cons.inj hw).2
       have hk:k≤999:=by
        rw [qlu (by omega) (by omega)] at k1;omega
       obtain ⟨rfl,f1⟩:=b1 k _ hf hr (by omega) (by omega)
       obtain ⟨rfl,f2⟩:=b2 a0 [] f1 (by rw [p1,hr];rfl) (hg.2.2 rfl)
       refine ⟨rfl,?_⟩
       unfold endedB
       rw [f2,p2,p1,hr];rfl
    ·refine ⟨(0,(0,0,0,()),(0,0,0,()),0,0,()),r,?_,fun _ => .inl rfl,fun e0 n hn0 hn hv hg hw => ?_⟩
     ·have s4:sEq word [114,97,110,103,101]=false:=qtx h4
      unfold qbz
      rw [s1,s2,s3,s4]
      rfl
     ·rcases hws e0 n hv hw with ⟨-,h⟩ | ⟨-,h⟩ | ⟨-,h⟩ | ⟨-,h⟩
      ·exact absurd h h1
      ·exact absurd h h2
      ·exact absurd h h3
      ·exact absurd h h4
def goodL (l:DLog):Prop:=goodV l.2.1∧(∀ v∈l.2.2.1,goodV v) ∧ ∀ e∈l.2.2.2.1,goodE e
abbrev DRL:=(DLog×Int×Unit)×Unit
def badL:DRL:=(((0,(0,0,0,()),[],[],()),5,()),())
theorem qajo {r:DRd} (hall : ∀ w∈r.1,w.length≤1048576) (k:List UInt8) : ∃ r':DRd,qcq r k=some ((),(r',()))∧r'.1=r.1.drop 1 ∧
  (r'.2.1=false→r.2.1=false ∧ ∃ ws,r.1=k :: ws)∧(∀ ws,r.2.1=false→r.1=k :: ws→r'.2.1=false):=by
 obtain ⟨ws,f,⟨⟩⟩:=r
 unfold qcq
 rw [qb3]
 simp only [Option.bind_some,restOf,wordOf]
 cases ws with
 | nil =>
  cases hq:sEq ([]:List UInt8) k with
  | false =>
   refine ⟨([],true,()),?_,rfl,fun h=>absurd (show true=false from h) (by decide),fun ws h1 h2=>by cases h2⟩
   have:(([]:List (List UInt8)).getD 0 [])=([]:List UInt8):=rfl
   rw [this,hq];rfl
  | true =>
   refine ⟨([],true,()),?_,rfl,fun h=>absurd (show true=false from h) (by decide),fun ws h1 h2=>by cases h2⟩
   have:(([]:List (List UInt8)).getD 0 [])=([]:List UInt8):=rfl
   rw [this,hq];rfl
 | cons w ws =>
  have hg:((w :: ws).getD 0 [])=w:=rfl
  rw [hg]
  cases hq:sEq w k with
  | false =>
   refine ⟨(ws,true,()),rfl,rfl,fun h=>absurd (show true=false from h) (by decide),fun z h1 h2 => ?_⟩
   have:w=k:=(List.cons.inj h2).1
   rw [this,qzf] at hq
   cases hq
  | true =>
   have hwk:w=k:=by simpa [sEq] using hq
   refine ⟨(ws,f,()),rfl,rfl,fun h=>⟨h,ws,by rw [hwk]⟩,fun z h1 h2=>h1⟩
theorem qn7 {s:List UInt8} (hs:s.length≤1048576):qie s=some (((splitC 32 s,(false,())),()),()):=by
 unfold qie
 rw [qib 32 (by omega)]
 rfl
theorem qs2 {c:UInt8} {s f:List UInt8} (h:f∈splitC c s):f.length≤s.length:=by
 have h1:=(List.sublist_flatten_of_mem h).length_le
 rw [qug] at h1
 exact Nat.le_trans h1 (List.length_filter_le _ _)
theorem qaiz {x:List UInt8} (hx:x.length≤1048576) : ∃ (r1:DRd) (a:Int) (r2:DRd) (v:Vec 3 Nat) (r3:DRd),qcq (splitC 32 x,(false,())) wLog=some ((),(r1,()))∧qag r1=some ((a,()),(r2,()))∧qa7 r2=some ((v,()),(r3,())) ∧
  (endedB r3=true→x=headL a v∧goodV v)∧(∀ a0 v0,x=headL a0 v0 → -999999999≤a0→a0≤999999999→goodV v0→a=a0∧v=v0∧endedB r3=true):=by
 have hall : ∀ w∈splitC 32 x,w.length≤1048576:=fun w hw=>Nat.le_trans (qs2 hw) hx
 obtain ⟨r1,e1,p1,q1,b1⟩:=qajo (r:=(splitC 32 x,(false,()))) hall wLog
 have p1:r1.1=(splitC 32 x).drop 1:=p1
 obtain ⟨a,r2,e2,p2,q2,b2⟩:=qq4 (r:=r1) (fun w hw=>hall w (by rw [p1] at hw;exact List.mem_of_mem_drop hw))
 obtain ⟨v,r3,e3,p3,q3,b3⟩:=qvi (r:=r2) (fun w hw=>hall w (by rw [p2,p1] at hw;exact List.mem_of_mem_drop (List.mem_of_mem_drop hw)))
 refine ⟨r1,a,r2,v,r3,e1,e2,e3,fun he => ?_,fun a0 v0 h0 h1 h2 h3 => ?_⟩
 ·unfold endedB at he
  simp only [Bool.and_eq_true,Bool.not_eq_true'] at he
  obtain ⟨f2,ws3,w3,g⟩:=q3 he.1
  obtain ⟨f1,ws2,w2⟩:=q2 f2
  obtain ⟨-,ws1,w1⟩:=q1 f1
  have w1:splitC 32 x=wLog :: ws1:=w1
  have hem:ws3=[]:=by
   have:=he.2
   rw [p3,w3] at this
   simpa [vecW] using this
  rw [p1,w1] at w2
  simp only [List.drop_succ_cons,List.drop_zero] at w2
  rw [p2,p1,w1,w2,hem] at w3
  simp only [List.drop_succ_cons,List.drop_zero,List.append_nil] at w3
  refine ⟨?_,g⟩
  have:=qqd 32 x.length x (Nat.le_refl _)
  rw [w1,w2,w3] at this
  exact this.symm
 ·have hs:splitC 32 x=wLog :: Lib.itoa a0 :: vecW v0:=by
   rw [h0]
   exact qh9 32 _ (by simp) (qaae (.inl rfl) a0 v0)
  have f1:=b1 _ rfl hs
  obtain ⟨rfl,f2⟩:=b2 a0 (vecW v0) f1 (by rw [p1,hs];rfl) h1 h2
  obtain ⟨rfl,f3⟩:=b3 v0 [] f2 (by rw [p2,p1,hs,List.append_nil];rfl) h3
  refine ⟨rfl,rfl,?_⟩
  unfold endedB
  rw [f3,p3,p2,p1,hs];rfl
theorem qajv {s:List UInt8} (h:okG s=true) : ∃ x Ls,splitC 10 s=(x :: Ls)++[[]]∧(splitC 10 s).take (s.count 10)=x :: Ls:=by
 unfold okG at h
 simp only [Bool.and_eq_true,qalq] at h
 have hl:=qim 10 s
 generalize s.count 10=n at h hl ⊢
 have hlast:(splitC 10 s).getD n []=[]:=by simpa [sEq] using h.2
 rw [qbd (by omega)] at hlast
 have e:splitC 10 s=(splitC 10 s).take n++[[]]:=by
  conv=>lhs;rw [← List.take_append_drop n (splitC 10 s)]
  congr 1
  rw [← List.getElem_cons_drop (h:=by omega),hlast,List.drop_eq_nil_of_le (by omega)]
 cases ht:(splitC 10 s).take n with
 | nil =>
  have:=congrArg List.length ht
  rw [List.length_take,List.length_nil] at this
  omega
 | cons x Ls=>exact ⟨x,Ls,by rw [e,ht],rfl⟩
theorem qxc {line:List UInt8} (hx:line.length≤1048576) {r:List (List UInt8)} (hs:splitC 32 line=wBea :: r) : ∃ (v:Vec 3 Nat) (r':DRd),qa7 (r,(false,()))=some ((v,()),(r',()))∧(endedB r'=true→line=beaL v∧goodV v)∧(∀ v0,line=beaL v0→goodV v0→v=v0∧endedB r'=true):=by
 have hall : ∀ w∈splitC 32 line,w.length≤1048576:=fun w hw=>Nat.le_trans (qs2 hw) hx
 obtain ⟨v,r',e1,p1,q1,b1⟩:=qvi (r:=(r,(false,()))) (fun w hw=>hall w (by rw [hs];exact List.mem_cons_of_mem _ hw))
 have p1:r'.1=r.drop 3:=p1
 refine ⟨v,r',e1,fun he => ?_,fun v0 h0 hg => ?_⟩
 ·unfold endedB at he
  simp only [Bool.and_eq_true,Bool.not_eq_true'] at he
  obtain ⟨-,ws,w1,g⟩:=q1 he.1
  have w1:r=vecW v++ws:=w1
  have hem:ws=[]:=by
   have:=he.2
   rw [p1,w1] at this
   simpa [vecW] using this
  refine ⟨?_,g⟩
  have:=qqd 32 line.length line (Nat.le_refl _)
  rw [hs,w1,hem,List.append_nil] at this
  exact this.symm
 ·have hs':splitC 32 line=wBea :: vecW v0:=by
   rw [h0]
   exact qh9 32 _ (by simp) (qv5 (.inl rfl) v0)
  have hr:r=vecW v0++[]:=by
   rw [hs] at hs'
   rw [List.append_nil]
   exact (List.cons.inj hs').2
  obtain ⟨rfl,f1⟩:=b1 v0 [] rfl hr hg
  refine ⟨rfl,?_⟩
  unfold endedB
  rw [f1,p1,hr];rfl
theorem qyv {line:List UInt8} (hx:line.length≤1048576) {w:List UInt8} {r:List (List UInt8)} (hs:splitC 32 line=w :: r) : ∃ (e:DEntry) (r':DRd),qbz (r,(false,())) w=some ((e,()),(r',()))∧(endedB r'=true→e.1=0∨(line=entL e∧goodE e)) ∧
  (∀ e0 n,0≤n→n≤1000→entryB n e0=true→goodE e0→line=entL e0→e=e0∧endedB r'=true):=by
 have hall : ∀ w∈splitC 32 line,w.length≤1048576:=fun w hw=>Nat.le_trans (qs2 hw) hx
 obtain ⟨e,r',e1,q1,b1⟩:=qahg w (r:=(r,(false,()))) (fun z hw=>hall z (by rw [hs];exact List.mem_cons_of_mem _ hw)) rfl
 refine ⟨e,r',e1,fun he => ?_,fun e0 n hn0 hn hv hg h0 => ?_⟩
 ·rcases q1 he with h | ⟨h,g⟩
  ·exact .inl h
  ·refine .inr ⟨?_,g⟩
   have:=qqd 32 line.length line (Nat.le_refl _)
   rw [hs,show w :: r=entW e from h] at this
   exact this.symm
 ·have hs':splitC 32 line=entW e0:=by
   rw [h0]
   exact qh9 32 _ (qagg e0) (qv9 (.inl rfl) e0)
  exact b1 e0 n hn0 hn hv hg (by rw [← hs',hs])
theorem qahh {n:Int} {e:DEntry} (h:entryB n e=true):e.1≠0:=by
 rcases qe8 h with rfl | ⟨v,rfl,-⟩ | ⟨c,rfl⟩ | ⟨k,a,rfl,-⟩
 ·show (1:Int)≠0;decide
 ·show (2:Int)≠0;decide
 ·show (3:Int)≠0;decide
 ·show (4:Int)≠0;decide
theorem qadp {a:Int} {v:Vec 3 Nat} {B:List (Vec 3 Nat)} {E:List DEntry} (hB:B.length≤1048577) (hE:E.length≤1048577):Sized TyLog ((a,v,B,E,()):DLog):=by
 obtain ⟨v0,v1,v2,⟨⟩⟩:=v
 refine ⟨trivial,⟨trivial,trivial,trivial,trivial⟩,⟨?_,fun _ _=>⟨trivial,trivial,trivial,trivial⟩⟩,⟨?_,fun _ _=>⟨trivial,⟨trivial,trivial,trivial,trivial⟩,⟨trivial,trivial,trivial,trivial⟩,trivial,trivial,trivial⟩⟩,trivial⟩
 ·show B.length≤_;omega
 ·show E.length≤_;omega
theorem qg2 {α:Type} {l:List α} {i:Nat} (h:i<l.length):l.take (i+1)=l.take i++[l[i]]:=by
 rw [List.take_add_one]
 simp [h]
theorem qai3 {x:List UInt8} {Ls:List (List UInt8)} {ok:Bool} (hl:Ls.length≤1048576) (hall : ∀ f∈Ls,f.length≤1048576) (a:Int) (v:Vec 3 Nat) :
  ∃ w:DRL,run (qa8 ((x :: Ls,ok,()),())) ((0:Int),((a,v,[],[],()):DLog),())=some w ∧
   (w=badL ∨ ∃ B E,w=(((a,v,B,E,()),0,()),())∧logB (a,v,B,E,())=true∧(∀ u∈B,goodV u)∧(∀ e∈E,goodE e)∧Ls=B.map beaL++E.map entL):=by
 have r:=qqp (f:=qa8 ((x :: Ls,ok,()),())) (fun s => ∃ (i:Nat) (B:List (Vec 3 Nat)) (E:List DEntry) (EL:List (List UInt8)),s=((i:Int),((a,v,B,E,()):DLog),())∧i≤Ls.length∧Ls.take i=B.map beaL++EL∧EL.length=E.length∧(∀ u∈B,goodV u) ∧
   (∀ j (h1:j<E.length) (h2:j<EL.length),E[j].1=0∨(EL[j]=entL E[j]∧goodE E[j]))) (fun s=>(Ls.length-s.1).toNat)
  (fun w=>w=badL ∨ ∃ B E,w=(((a,v,B,E,()),0,()),())∧logB (a,v,B,E,())=true∧(∀ u∈B,goodV u)∧(∀ e∈E,goodE e)∧Ls=B.map beaL++E.map entL) (fun s hI=>by
  obtain ⟨i,B,E,EL,rfl,hi,hT,hEL,hB,hE⟩:=hI
  have hlen:B.length+E.length=i:=by
   have:=congrArg List.length hT
   rw [List.length_take,List.length_append,List.length_map] at this
   omega
  have hlx:((List.length (x :: Ls))-1:Nat)=Ls.length:=by simp
  by_cases hlt:i<Ls.length
  ·have e1:iLt (i:Int) (((List.length (x :: Ls))-1:Nat):Int)=true:=qan (by rw [hlx];omega)
   have e2:inB (i:Int) ((List.length (x :: Ls))-1)=true:=by rw [hlx];exact qaj hlt
   have e5:iAdd .i64 (i:Int) 1=((i+1:Nat):Int):=qaw hlt (by omega)
   have hm:((Ls.length:Int)-((i+1:Nat):Int)).toNat<((Ls.length:Int)-(i:Int)).toNat:=by omega
   have hg:List.getD (x :: Ls) (1+(i:Int).toNat) []=Ls[i]:=by
    rw [Int.toNat_natCast,Nat.add_comm]
    show Ls.getD i []=Ls[i]
    exact qbd hlt
   have hline:(Ls[i]).length≤1048576:=hall _ (List.getElem_mem hlt)
   have hrl:=qn7 hline
   obtain ⟨w0,r0,hs⟩ : ∃ w0 r0,splitC 32 Ls[i]=w0 :: r0:=by
    cases h:splitC 32 Ls[i] with
    | nil=>exact absurd h (qo7 32 _)
    | cons w0 r0=>exact ⟨w0,r0,rfl⟩
   have hwd:qbb (w0 :: r0,(false,()))=some ((w0,()),((r0,(false,())),())):=qb3 _
   have hr1:room (B.length+1) 12=true:=qd7 (by omega)
   have hr2:room (E.length+1) 48=true:=qd7 (by omega)
   have entry:(∃ y,(qbz (r0,(false,())) w0).bind (fun y49=>bif room (E.length+1) 48 then (qaq (y49.2.1.1,y49.2.1.2)).bind fun y51=>bif (! y51.1.1) then Option.map Sum.inr (some badL) else some (Sum.inl (iAdd .i64 (i:Int) 1,((a,v,B,E++[y49.1.1],()):DLog),())) else none)=some y ∧
     ((∃ s',y = .inl s'∧(∃ (i:Nat) (B:List (Vec 3 Nat)) (E:List DEntry) (EL:List (List UInt8)),s'=((i:Int),((a,v,B,E,()):DLog),())∧i≤Ls.length∧Ls.take i=B.map beaL++EL∧EL.length=E.length∧(∀ u∈B,goodV u) ∧
   (∀ j (h1:j<E.length) (h2:j<EL.length),E[j].1=0∨(EL[j]=entL E[j]∧goodE E[j])))∧((Ls.length:Int)-s'.1).toNat<((Ls.length:Int)-(i:Int)).toNat)∨y = .inr badL)):=by
    obtain ⟨e,r',k1,k2,-⟩:=qyv hline hs
    rw [k1]
    simp only [Option.bind_some,hr2,cond_true]
    have hen:qaq (r'.1,r'.2)=some ((endedB r',()),()):=qcl r'
    rw [hen]
    simp only [Option.bind_some]
    cases hend:endedB r' with
    | false=>exact ⟨_,rfl,.inr rfl⟩
    | true =>
     refine ⟨_,rfl,.inl ⟨_,rfl,⟨i+1,B,E++[e],EL++[Ls[i]],by rw [e5],by omega,?_,by simp [hEL],hB,fun j h1 h2 => ?_⟩,?_⟩⟩
     ·rw [qg2 hlt,hT,List.append_assoc]
     ·by_cases hj:j<E.length
      ·rw [List.getElem_append_left hj,List.getElem_append_left (by omega)]
       exact hE j hj (by omega)
      ·have hje:j=E.length:=by simp at h1;omega
       subst hje
       rw [List.getElem_append_right (Nat.le_refl _),List.getElem_append_right (by omega)]
       simp only [Nat.sub_self,List.getElem_singleton]
       exact k2 hend
     ·rw [e5];exact hm
   unfold qa8
   simp only
   rw [e1,e2,hg,hrl]
   simp only [cond_true,Option.bind_some]
   rw [hs,hwd]
   simp only [Option.bind_some]
   cases hbw:sEq w0 [98,101,97,99,111,110] with
   | false =>
    simp only [cond_false]
    obtain ⟨y,hy,h⟩:=entry
    rcases h with ⟨s',rfl,h1,h2⟩ | rfl
    ·exact .inl ⟨s',hy,h1,h2⟩
    ·exact .inr ⟨badL,hy,.inl rfl⟩
   | true =>
    simp only [cond_true]
    cases hz:iEq (lenI E) 0 with
    | false =>
     simp only [cond_false]
     obtain ⟨y,hy,h⟩:=entry
     rcases h with ⟨s',rfl,h1,h2⟩ | rfl
     ·exact .inl ⟨s',hy,h1,h2⟩
     ·exact .inr ⟨badL,hy,.inl rfl⟩
    | true =>
     have hE0:E=[]:=by
      have:(E.length:Int)=0:=by simpa [iEq,lenI] using hz
      exact List.length_eq_zero_iff.1 (by omega)
     have hEL0:EL=[]:=List.length_eq_zero_iff.1 (by rw [hEL,hE0];rfl)
     have hw0:w0=wBea:=by
      have:w0=[98,101,97,99,111,110]:=by simpa [sEq] using hbw
      exact this
     obtain ⟨u,r',k1,k2,-⟩:=qxc hline (r:=r0) (by rw [hs,hw0])
     simp only [cond_true]
     rw [k1]
     simp only [Option.bind_some,hr1,cond_true]
     have hen:qaq (r'.1,r'.2)=some ((endedB r',()),()):=qcl r'
     rw [hen]
     simp only [Option.bind_some]
     cases hend:endedB r' with
     | false=>exact .inr ⟨badL,rfl,.inl rfl⟩
     | true =>
      obtain ⟨k3,k4⟩:=k2 hend
      refine .inl ⟨_,rfl,⟨i+1,B++[u],E,EL,by rw [e5],by omega,?_,hEL,fun z hz => ?_,hE⟩,?_⟩
      ·rw [qg2 hlt,hT,hEL0,List.append_nil,List.append_nil,List.map_append,k3];rfl
      ·rcases List.mem_append.1 hz with h | h
       ·exact hB z h
       ·rw [List.mem_singleton] at h;rw [h];exact k4
      ·show ((Ls.length:Int)-iAdd .i64 (i:Int) 1).toNat<_
       rw [e5];exact hm
  ·right
   have hil:i=Ls.length:=by omega
   have e1:iLt (i:Int) (((List.length (x :: Ls))-1:Nat):Int)=false:=qas (by rw [hlx];omega)
   have hv:=qft ((a,v,B,E,()):DLog) (qadp (by omega) (by omega))
   unfold qa8
   simp only
   rw [e1]
   simp only [cond_false,hv,Option.bind_some]
   cases hb:logB ((a,v,B,E,()):DLog) with
   | false=>exact ⟨badL,rfl,.inl rfl⟩
   | true =>
    have hb':=hb
    unfold logB at hb'
    simp only [Bool.and_eq_true,List.all_eq_true] at hb'
    have hE' : ∀ j (h1:j<E.length) (h2:j<EL.length),EL[j]=entL E[j]∧goodE E[j]:=fun j h1 h2=>(hE j h1 h2).resolve_left (qahh (hb'.2.2 _ (List.getElem_mem h1)))
    refine ⟨_,rfl,.inr ⟨B,E,rfl,hb,hB,fun e he => ?_,?_⟩⟩
    ·obtain ⟨j,hj,rfl⟩:=List.getElem_of_mem he
     exact (hE' j hj (by omega)).2
    ·have:Ls=Ls.take i:=by rw [hil,List.take_length]
     rw [this,hT]
     congr 1
     apply List.ext_getElem
     ·rw [List.length_map];exact hEL
     ·intro j h1 h2
      rw [List.getElem_map]
      exact (hE' j (by rw [List.length_map] at h2;exact h2) h1).1) (s:=((0:Int),((a,v,[],[],()):DLog),())) ⟨0,[],[],[],rfl,Nat.zero_le _,rfl,rfl,(fun u hu=>absurd hu (by simp)),(fun j h1 _=>absurd h1 (by simp))⟩
 exact r
theorem qai2 {x:List UInt8} {ok:Bool} {a:Int} {v:Vec 3 Nat} {B0:List (Vec 3 Nat)} {E0:List DEntry} (hv:logB (a,v,B0,E0,())=true) (hB : ∀ u∈B0,goodV u) (hE : ∀ e∈E0,goodE e) (hall : ∀ f∈B0.map beaL++E0.map entL,f.length≤1048576) :
  run (qa8 ((x :: (B0.map beaL++E0.map entL),ok,()),())) ((0:Int),((a,v,[],[],()):DLog),())=some (((a,v,B0,E0,()),0,()),()):=by
 have hv':=hv
 unfold logB frameB at hv'
 simp only [Bool.and_eq_true,List.all_eq_true,qdj,qac] at hv'
 obtain ⟨⟨-,-,hb6,-⟩,he1200,heach⟩:=hv'
 have hlx:((List.length (x :: (B0.map beaL++E0.map entL)))-1:Nat)=B0.length+E0.length:=by simp
 have common : ∀ (i:Nat),i<B0.length+E0.length → ∃ line w0 r0,(B0.map beaL++E0.map entL)[i]? = some line∧iLt (i:Int) (((List.length (x :: (B0.map beaL++E0.map entL)))-1:Nat):Int)=true∧inB (i:Int) ((List.length (x :: (B0.map beaL++E0.map entL)))-1)=true∧iAdd .i64 (i:Int) 1=((i+1:Nat):Int) ∧
   List.getD (x :: (B0.map beaL++E0.map entL)) (1+(i:Int).toNat) []=line∧line.length≤1048576∧splitC 32 line=w0 :: r0:=by
  intro i hi
  have hi':i<(B0.map beaL++E0.map entL).length:=by simp;omega
  have hline:((B0.map beaL++E0.map entL)[i]).length≤1048576:=hall _ (List.getElem_mem hi')
  cases h:splitC 32 (B0.map beaL++E0.map entL)[i] with
  | nil=>exact absurd h (qo7 32 _)
  | cons w0 r0 =>
   refine ⟨_,w0,r0,List.getElem?_eq_getElem hi',qan (by rw [hlx];omega),by rw [hlx];exact qaj hi,(qta (by omega) (by omega)).trans (by omega),?_,hline,h⟩
   rw [Int.toNat_natCast,Nat.add_comm]
   show (B0.map beaL++E0.map entL).getD i []=_
   exact qbd hi'
 have phase2 : ∀ (d j:Nat),j+d=E0.length→run (qa8 ((x :: (B0.map beaL++E0.map entL),ok,()),())) (((B0.length+j:Nat):Int),((a,v,B0,E0.take j,()):DLog),())=some (((a,v,B0,E0,()),0,()),()):=by
  intro d
  induction d with
  | zero =>
   intro j hj
   have e1:iLt ((B0.length+j:Nat):Int) (((List.length (x :: (B0.map beaL++E0.map entL)))-1:Nat):Int)=false:=qas (by rw [hlx];omega)
   have ht:E0.take j=E0:=by rw [show j=E0.length by omega,List.take_length]
   have hvl:=qft ((a,v,B0,E0,()):DLog) (qadp (by omega) (by omega))
   refine qa9 ?_
   unfold qa8
   simp only
   rw [e1,ht]
   simp only [cond_false,hvl,Option.bind_some,hv]
   rfl
  | succ d ih =>
   intro j hj
   have hjE:j<E0.length:=by omega
   obtain ⟨line,w0,r0,hl,e1,e2,e5,hg,hlen,hs⟩:=common (B0.length+j) (by omega)
   have hline:line=entL E0[j]:=by
    rw [List.getElem?_append_right (by simp)] at hl
    simp [hjE] at hl
    exact hl.symm
   obtain ⟨e,r',k1,-,k3⟩:=qyv hlen hs
   obtain ⟨rfl,hend⟩:=k3 E0[j] (lenI B0) (by rw [qac];omega) (by rw [qac];omega) (heach _ (List.getElem_mem hjE)) (hE _ (List.getElem_mem hjE)) hline
   have hr2:room ((E0.take j).length+1) 48=true:=qd7 (by rw [List.length_take];omega)
   have hrl:=qn7 hlen
   have hwd:qbb (w0 :: r0,(false,()))=some ((w0,()),((r0,(false,())),())):=qb3 _
   have hen:qaq (r'.1,r'.2)=some ((endedB r',()),()):=qcl r'
   have hw:sEq w0 [98,101,97,99,111,110]=false:=by
    refine qtx ?_
    rintro rfl
    have hs':splitC 32 line=entW E0[j]:=by
     rw [hline]
     exact qh9 32 _ (qagg _) (qv9 (.inl rfl) _)
    rw [hs] at hs'
    rcases qe8 (heach _ (List.getElem_mem hjE)) with h | ⟨u,h,-⟩ | ⟨c,h⟩ | ⟨k,q,h,-⟩ <;> rw [h] at hs' <;> exact absurd (List.cons.inj hs').1 (by decide)
   have st:qa8 ((x :: (B0.map beaL++E0.map entL),ok,()),()) (((B0.length+j:Nat):Int),((a,v,B0,E0.take j,()):DLog),())=some (.inl (((B0.length+(j+1):Nat):Int),((a,v,B0,E0.take (j+1),()):DLog),())):=by
    unfold qa8
    simp only
    rw [e1,e2,hg,hrl]
    simp only [cond_true,Option.bind_some]
    rw [hs,hwd]
    simp only [Option.bind_some,hw,cond_false]
    rw [k1]
    simp only [Option.bind_some,hr2,cond_true]
    rw [hen]
    simp only [Option.bind_some,hend,Bool.not_true,cond_false]
    rw [e5,qg2 hjE]
    rfl
   rw [qao st]
   exact ih (j+1) (by omega)
 have phase1 : ∀ (d i:Nat),i+d=B0.length→run (qa8 ((x :: (B0.map beaL++E0.map entL),ok,()),())) ((i:Int),((a,v,B0.take i,[],()):DLog),())=some (((a,v,B0,E0,()),0,()),()):=by
  intro d
  induction d with
  | zero =>
   intro i hi
   have:=phase2 E0.length 0 (by omega)
   rw [Nat.add_zero,List.take_zero] at this
   rw [show i=B0.length by omega,List.take_length]
   exact this
  | succ d ih =>
   intro i hi
   have hiB:i<B0.length:=by omega
   obtain ⟨line,w0,r0,hl,e1,e2,e5,hg,hlen,hs⟩:=common i (by omega)
   have hline:line=beaL B0[i]:=by
    rw [List.getElem?_append_left (by simp;omega)] at hl
    simp [hiB] at hl
    exact hl.symm
   have hs':splitC 32 line=wBea :: vecW B0[i]:=by
    rw [hline]
    exact qh9 32 _ (by simp) (qv5 (.inl rfl) _)
   have hw0:w0=wBea:=by rw [hs] at hs';exact (List.cons.inj hs').1
   subst hw0
   obtain ⟨u,r',k1,-,k3⟩:=qxc hlen hs
   obtain ⟨rfl,hend⟩:=k3 B0[i] hline (hB _ (List.getElem_mem hiB))
   have hr1:room ((B0.take i).length+1) 12=true:=qd7 (by rw [List.length_take];omega)
   have hrl:=qn7 hlen
   have hwd:qbb (wBea :: r0,(false,()))=some ((wBea,()),((r0,(false,())),())):=qb3 _
   have hen:qaq (r'.1,r'.2)=some ((endedB r',()),()):=qcl r'
   have hw:sEq wBea [98,101,97,99,111,110]=true:=rfl
   have hz:iEq (lenI ([]:List DEntry)) 0=true:=rfl
   have st:qa8 ((x :: (B0.map beaL++E0.map entL),ok,()),()) ((i:Int),((a,v,B0.take i,[],()):DLog),())=some (.inl (((i+1:Nat):Int),((a,v,B0.take (i+1),[],()):DLog),())):=by
    unfold qa8
    simp only
    rw [e1,e2,hg,hrl]
    simp only [cond_true,Option.bind_some]
    rw [hs,hwd]
    simp only [Option.bind_some,hw,cond_true,hz]
    rw [k1]
    simp only [Option.bind_some,hr1,cond_true]
    rw [hen]
    simp only [Option.bind_some,hend,Bool.not_true,cond_false]
    rw [e5,qg2 hiB]
   rw [qao st]
   exact ih (i+1) (by omega)
 exact phase1 B0.length 0 (by omega)
theorem qaho {Ls:List (List UInt8)} {f:List UInt8} (h:f∈Ls):f.length≤(linesT Ls).length:=by
 unfold linesT
 have h1:(f++[10]).Sublist (Ls.flatMap fun x=>x++[10]):=by
  rw [List.flatMap_def]
  exact List.sublist_flatten_of_mem (List.mem_map.2 ⟨f,h,rfl⟩)
 have:=h1.length_le
 rw [List.length_append] at this
 exact Nat.le_trans (Nat.le_add_right _ _) this
theorem qaaj {s:List UInt8} (hs:s.length≤1048576) : ∃ w:DRL,qji s=some w∧(w=badL ∨ ∃ l:DLog,w=((l,0,()),())∧logB l=true∧goodL l∧s=logT l)∧(∀ l:DLog,s=logT l→logB l=true→goodL l→w=((l,0,()),())):=by
 have hlo:=qaav hs
 have hlen:(splitC 10 s).length≤1048577:=by
  rw [qim]
  have:=List.count_le_length (a:=(10:UInt8)) (l:=s)
  omega
 unfold qji
 rw [hlo]
 simp only [Option.bind_some]
 cases hok:okG s with
 | false =>
  refine ⟨badL,rfl,.inl rfl,fun l hl _ _ => ?_⟩
  exfalso
  have h1:=qu3 l
  rw [← hl] at h1
  have h2:=qim 10 s
  rw [h1] at h2
  have h3:okG s=true:=by
   unfold okG
   have hc:s.count 10=(logL l).length:=by rw [List.length_append] at h2;simp at h2;omega
   have hpos:0<(logL l).length:=by unfold logL;simp
   rw [qan (by omega),h1,hc]
   simp [List.getD_eq_getElem?_getD,sEq]
  rw [h3] at hok
  cases hok
 | true =>
  obtain ⟨x,Ls,h1,h2⟩:=qajv hok
  have hsL:s=linesT (x :: Ls):=qalw h1
  have hmem : ∀ f∈x :: Ls,f.length≤1048576:=fun f hf=>Nat.le_trans (qaho hf) (by rw [← hsL];exact hs)
  have hLs:Ls.length≤1048576:=by
   have:=congrArg List.length h1
   simp at this
   omega
  rw [h2]
  have i0:inB 0 (x :: Ls).length=true:=qaj (i:=0) (by simp)
  have g0:List.getD (x :: Ls) 0 []=x:=rfl
  have s1:inS 1 (((x :: Ls).length:Nat):Int) (x :: Ls).length=true:=by unfold inS;simp;omega
  have hrl:=qn7 (hmem x (by simp))
  obtain ⟨r1,a,r2,v,r3,e1,e2,e3,k1,k2⟩:=qaiz (hmem x (by simp))
  have hen:qaq (r3.1,r3.2)=some ((endedB r3,()),()):=qcl r3
  simp only [Bool.not_true,cond_false]
  rw [i0,g0,s1,hrl]
  simp only [cond_true,Option.bind_some]
  rw [show qcq (splitC 32 x,(false,())) [108,111,103]=some ((),(r1,())) from e1]
  simp only [Option.bind_some]
  rw [show qag (r1.1,r1.2)=some ((a,()),(r2,())) from e2]
  simp only [Option.bind_some]
  rw [show qa7 (r2.1,r2.2)=some ((v,()),(r3,())) from e3]
  simp only [Option.bind_some]
  rw [hen]
  simp only [Option.bind_some]
  cases hend:endedB r3 with
  | false =>
   refine ⟨badL,rfl,.inl rfl,fun l hl hb hg => ?_⟩
   exfalso
   have h3:=qu3 l
   rw [← hl,h1] at h3
   have h4:=List.append_cancel_right h3
   have h5:x=headL l.1 l.2.1:=(List.cons.inj h4).1
   have hb':=hb
   unfold logB frameB at hb'
   simp only [Bool.and_eq_true,qdj] at hb'
   have:=(k2 _ _ h5 (by omega) (by omega) hg.1).2.2
   rw [this] at hend
   cases hend
  | true =>
   obtain ⟨hx,hgv⟩:=k1 hend
   simp only [Bool.not_true,cond_false]
   obtain ⟨w,hw,hcase⟩:=qai3 (x:=x) (ok:=true) hLs (fun f hf=>hmem f (List.mem_cons_of_mem _ hf)) a v
   refine ⟨w,hw,?_,fun l hl hb hg => ?_⟩
   ·rcases hcase with h | ⟨B,E,rfl,hb,hB,hE,hL⟩
    ·exact .inl h
    ·refine .inr ⟨(a,v,B,E,()),rfl,hb,⟨hgv,hB,hE⟩,?_⟩
     rw [hsL]
     unfold logT logL
     rw [hx,hL]
   ·have h3:=qu3 l
    rw [← hl,h1] at h3
    have h4:=List.append_cancel_right h3
    obtain ⟨h5,h6⟩:=List.cons.inj h4
    have hb':=hb
    unfold logB frameB at hb'
    simp only [Bool.and_eq_true,qdj] at hb'
    obtain ⟨ha,hvv,-⟩:=k2 _ _ h5 (by omega) (by omega) hg.1
    obtain ⟨la,lv,lB,lE,⟨⟩⟩:=l
    simp only at ha hvv h6
    subst ha;subst hvv
    have h6':Ls=lB.map beaL++lE.map entL:=h6
    subst h6'
    have:=qai2 (x:=x) (ok:=true) hb hg.2.1 hg.2.2 (fun f hf=>hmem f (List.mem_cons_of_mem _ hf))
    rw [hw] at this
    exact Option.some.inj this
end
end Go.Proofs.YtnndahnmlmgenaaGreatDoor
