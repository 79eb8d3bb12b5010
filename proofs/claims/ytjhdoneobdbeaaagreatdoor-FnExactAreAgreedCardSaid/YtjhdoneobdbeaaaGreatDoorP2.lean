import Derived.Test.YtjhdoneobdbeaaaGreatDoorP1
/- Functions of the program and of the reference in plain terms. -/
set_option linter.unusedSectionVars false
set_option linter.unusedSimpArgs false
set_option linter.unusedVariables false
namespace Go.Proofs.YtjhdoneobdbeaaaGreatDoor
open Go Go.Tm
section
def digsL:List UInt8:=[48,49,50,51,52,53,54,55,56,57,97,98,99,100,101,102,103,104,105,106,107,108,109,110,111,112,113,114,115,116,117,118,119,120,121,122]
def hexC (d:Nat):UInt8:=digsL.getD d 0
def hexG:Nat→Nat→List UInt8
 | 0,n=>[hexC n]
 | k+1,n=>if n<16 then [hexC n] else hexG k (n/16)++[hexC (n%16)]
def hexP:Nat→Nat→List UInt8
 | 0,_=>[]
 | k+1,n=>hexP k (n/16)++[hexC (n%16)]
theorem qhw : ∀ k n,(hexP k n).length=k
 | 0,_=>rfl
 | k+1,n=>by rw [hexP,List.length_append,qhw k];rfl
theorem qaoe {u:Int} (h0:0≤u) (h1:u<18446744073709551616):iAnd .u64 u 15=u%16:=by
 obtain ⟨n,rfl⟩:=Int.eq_ofNat_of_zero_le h0
 have hb:(BitVec.ofInt 64 ((n:Nat):Int)).toNat=n:=by
  rw [BitVec.toNat_ofInt];omega
 have e2:(BitVec.ofInt 64 15).toNat=15:=by decide
 have h:((BitVec.ofInt IntKind.u64.bits ((n:Nat):Int) &&& BitVec.ofInt IntKind.u64.bits 15).toNat)=n%16:=by
  show ((BitVec.ofInt 64 ((n:Nat):Int) &&& BitVec.ofInt 64 15).toNat)=n%16
  rw [BitVec.toNat_and,e2,hb]
  exact Nat.and_two_pow_sub_one_eq_mod n 4
 unfold iAnd
 rw [h]
 simp [IntKind.wrap,IntKind.signed,IntKind.bits]
 omega
theorem shr4 {u:Int} (h0:0≤u):iShr .u64 u 4=u/16:=by
 show u.fdiv (2^(min (4:Int).toNat 64))=u/16
 rw [Int.fdiv_eq_ediv_of_nonneg _ (by decide)]
 rfl
theorem qahp : ∀ (k:Nat) (n:Nat) (f:Nat),n<16^(k+1)→k≤f→List.replicate (k+1-(hexG f n).length) 48++hexG f n=hexP (k+1) n∧(hexG f n).length≤k+1
 | 0,n,f,h,_=>by
  have h:n<16:=h
  have e:hexG f n=[hexC n]:=by
   cases f with
   | zero=>rfl
   | succ f=>rw [hexG,if_pos h]
  have e2:n%16=n:=Nat.mod_eq_of_lt h
  rw [e]
  refine ⟨?_,Nat.le_refl _⟩
  show [hexC n]=hexP 0 (n/16)++[hexC (n%16)]
  rw [e2];rfl
 | k+1,n,0,h,hf=>by omega
 | k+1,n,f+1,h,hf=>by
  by_cases hn:n<16
  ·have e2:n%16=n:=Nat.mod_eq_of_lt hn
   have e3:n/16=0:=Nat.div_eq_of_lt hn
   have hz : ∀ j,hexP j 0=List.replicate j 48:=by
    intro j
    induction j with
    | zero=>rfl
    | succ j ih=>rw [hexP,show 0/16=0 from rfl,ih,List.replicate_succ'];rfl
   rw [hexG,if_pos hn]
   refine ⟨?_,by simp⟩
   show List.replicate (k+1+1-1) 48++[hexC n]=hexP (k+1) (n/16)++[hexC (n%16)]
   rw [e2,e3,hz]
   rfl
  ·have hd:n/16<16^(k+1):=by
    rw [Nat.div_lt_iff_lt_mul (by decide)]
    rw [Nat.pow_succ] at h
    exact h
   obtain ⟨h1,h2⟩:=qahp k (n/16) f hd (by omega)
   rw [hexG,if_neg hn,List.length_append]
   refine ⟨?_,by simp;omega⟩
   rw [show k+1+1-((hexG f (n/16)).length+[hexC (n%16)].length)=k+1-(hexG f (n/16)).length by simp,← List.append_assoc,h1]
   rfl
theorem qaee {α:Type} {z:α} : ∀ (n:Nat) (v:Vec n α) (i j:Nat) (x:α),i<n→Vec.getD n (Vec.set n v i x) j z=if j=i then x else Vec.getD n v j z
 | 0,_,_,_,_,h=>absurd h (Nat.not_lt_zero _)
 | _+1,_,0,0,_,_=>rfl
 | _+1,_,0,_+1,_,_=>rfl
 | _+1,_,_+1,0,_,_=>rfl
 | n+1,v,i+1,j+1,x,h=>by
  have:=qaee (z:=z) n v.2 i j x (Nat.lt_of_succ_lt_succ h)
  show Vec.getD n (Vec.set n v.2 i x) j z=_
  rw [this]
  by_cases e:j=i
  ·rw [if_pos e,if_pos (congrArg (· + 1) e)]
  ·rw [if_neg e,if_neg (fun h=>e (Nat.succ.inj h))]
   rfl
theorem qab6 (d:Nat):strAt digsL (d:Int)=byteI (hexC d):=qsy _ d
theorem qq9 (b:UInt8):toByte (byteI b)=b:=by
 unfold toByte byteI
 rw [Int.toNat_natCast]
 exact UInt8.ofNat_toNat
def list65 (V:Vec 65 Int):List Int:=(List.range 65).map fun j=>Vec.getD 65 V j (0:Int)
theorem qaod {V:Vec 65 Int} {i:Nat} {L:List UInt8} (hi:i+L.length=65) (h : ∀ j (hj:j<L.length),Vec.getD 65 V (i+j) (0:Int)=byteI L[j]):ofBytes (List.take (65-i) (List.drop i (list65 V)))=L:=by
 have e:List.take (65-i) (List.drop i (list65 V))=L.map byteI:=by
  unfold list65
  apply List.ext_getElem
  ·simp;omega
  ·intro j h1 h2
   simp only [List.getElem_map,List.getElem_take,List.getElem_drop,List.getElem_range]
   exact h j (by simpa using h2)
 rw [e]
 unfold ofBytes
 rw [List.map_map]
 have:toByte ∘ byteI=id:=by funext b;exact qq9 b
 rw [this,List.map_id]
theorem qamm (u i:Int) (V:Vec 65 Int):qbj 16 15 4 false false (u,i,V,()) =
  bif iLe 16 u then (bif inB (iAnd .u64 u 15) digsL.length then bif inB (iSub .i64 i 1) 65 then bif iLe 0 4 then some (.inl (iShr .u64 u 4,iSub .i64 i 1,Vec.set 65 V (iSub .i64 i 1).toNat (strAt digsL (iAnd .u64 u 15)),())) else none else none else none)
  else Option.map Sum.inr (bif inB u digsL.length then bif inB (iSub .i64 i 1) 65 then bif inS (iSub .i64 i 1) ((65:Nat):Int) 65 then some ((([]:List Int),ofBytes (List.take (65-(iSub .i64 i 1).toNat) (List.drop (iSub .i64 i 1).toNat (list65 (Vec.set 65 V (iSub .i64 i 1).toNat (strAt digsL u))))),()),()) else none else none else none):=by kernel_rfl
theorem qaje : ∀ (f n:Nat) (i:Nat) (V:Vec 65 Int) (L:List UInt8),n<16^(f+1)→f≤8→f+1≤i→i+L.length=65→(∀ j (hj:j<L.length),Vec.getD 65 V (i+j) (0:Int)=byteI L[j]) →
  run (qbj 16 15 4 false false) ((n:Int),(i:Int),V,())=some ((([]:List Int),hexG f n++L,()),())
 | f,n,i,V,L,hn,hf,hi,hl,hV=>by
  have hp:(16:Nat)^(f+1)≤16^9:=Nat.pow_le_pow_right (by decide) (by omega)
  have hp9:(16:Nat)^9=68719476736:=by decide
  obtain ⟨q,rfl⟩ : ∃ q,i=q+1:=⟨i-1,by omega⟩
  have ei:iSub .i64 ((q+1:Nat):Int) 1=(q:Int):=(qi9 (by omega) (by omega)).trans (by omega)
  have eb:inB (q:Int) 65=true:=qae (by omega)
  have hset : ∀ (x:UInt8),∀ j (hj:j<(x :: L).length),Vec.getD 65 (Vec.set 65 V q (byteI x)) (q+j) (0:Int)=byteI (x :: L)[j]:=by
   intro x j hj
   rw [qaee 65 V q (q+j) _ (by omega)]
   cases j with
   | zero=>rw [if_pos (Nat.add_zero q)];rfl
   | succ j =>
    rw [if_neg (by omega)]
    simp only [List.getElem_cons_succ]
    rw [← hV j (by simpa using hj)]
    congr 1
    omega
  by_cases h16:n<16
  ·have e:hexG f n=[hexC n]:=by
    cases f with
    | zero=>rfl
    | succ f=>rw [hexG,if_pos h16]
   rw [e]
   refine qal ?_
   have e1:iLe 16 (n:Int)=false:=qc8 (by omega)
   have e2:inB (n:Int) digsL.length=true:=qae (show n<36 by omega)
   have e3:inS (q:Int) ((65:Nat):Int) 65=true:=by unfold inS;simp;omega
   rw [qamm,e1,ei,e2,eb,e3,qab6,Int.toNat_natCast]
   simp only [cond_true,cond_false,Option.map_some]
   have:=qaod (V:=Vec.set 65 V q (byteI (hexC n))) (i:=q) (L:=hexC n :: L) (by simp;omega) (hset (hexC n))
   exact congrArg (fun z=>some (Sum.inr ((([]:List Int),z,()),()))) this
  ·cases f with
   | zero=>exact absurd hn h16
   | succ f =>
    have hd:n/16<16^(f+1):=by
     rw [Nat.div_lt_iff_lt_mul (by decide)]
     rw [Nat.pow_succ] at hn
     exact hn
    have e1:iLe 16 (n:Int)=true:=qaz (by omega)
    have e4:iAnd .u64 (n:Int) 15=((n%16:Nat):Int):=by
     rw [qaoe (by omega) (by omega)];omega
    have e5:iShr .u64 (n:Int) 4=((n/16:Nat):Int):=by
     rw [shr4 (by omega)];omega
    have e2:inB ((n%16:Nat):Int) digsL.length=true:=qae (show n%16<36 by omega)
    have e6:iLe 0 (4:Int)=true:=by decide
    have st:qbj 16 15 4 false false ((n:Int),((q+1:Nat):Int),V,())=some (.inl (((n/16:Nat):Int),(q:Int),Vec.set 65 V q (byteI (hexC (n%16))),())):=by
     rw [qamm,e1,ei,e4,e5,e2,eb,e6,qab6,Int.toNat_natCast]
     rfl
    rw [qan st]
    have:=qaje f (n/16) q (Vec.set 65 V q (byteI (hexC (n%16)))) (hexC (n%16) :: L) hd (by omega) (by omega) (by simp;omega) (hset _)
    rw [this,hexG,if_neg h16]
    simp
theorem qt6 {n:Nat} (h:n<4294967296):qfz (n:Int) 16=some ((hexG 7 n,()),()):=by
 have e0:iEq (16:Int) 10=false:=by decide
 have e1:iLt (16:Int) 2=false:=by decide
 have e2:iLt 36 (16:Int)=false:=by decide
 have e3:qbz 16=some ((true,()),()):=by kernel_rfl
 have e4:iWrap .u64 (16:Int)=16:=by decide
 have e5:qa8 16=some ((4,()),()):=rfl
 have e6:iSub .u64 (16:Int) 1=15:=by decide
 have e7:iWrap .u64 (4:Int)=4:=by decide
 have:=qaje 7 n 65 ((0,0,0,0,0,0,0,0,0,0,0,0,0,0,0,0,0,0,0,0,0,0,0,0,0,0,0,0,0,0,0,0,0,0,0,0,0,0,0,0,0,0,0,0,0,0,0,0,0,0,0,0,0,0,0,0,0,0,0,0,0,0,0,0,0,()):Vec 65 Int) [] (Nat.lt_of_lt_of_le h (by decide)) (by decide) (by decide) rfl (fun j hj=>by cases hj)
 rw [List.append_nil] at this
 have hfb:qce ([]:List Int) (n:Int) 16 false false=some ((([]:List Int),hexG 7 n,()),()):=by
  unfold qce
  rw [e0,e1,e2]
  simp only [cond_false,e3,Option.bind_some,cond_true,e4,e5,e6,e7]
  exact this
 unfold qfz qdv
 rw [e0]
 simp only [cond_false,hfb,Option.bind_some]
def bitsOf (a:Nat):Nat:=if fEq .f32 a a=true then a else 2143289344
theorem qahq : ∀ (d:Nat) (s:List UInt8),d+s.length=8→run (qdp) (s,())=some ((List.replicate d 48++s,()),())
 | 0,s,h=>by
  have e:iLt (lenI s) 8=false:=qah (by rw [qaa];omega)
  refine qal ?_
  unfold qdp
  simp only
  rw [e];rfl
 | d+1,s,h=>by
  have e:iLt (lenI s) 8=true:=qag (by rw [qaa];omega)
  have e2:strRoom ([48]) s=true:=by unfold strRoom;simp;omega
  have st:qdp (s,())=some (.inl (48 :: s,())):=by
   unfold qdp
   simp only
   rw [e,e2];rfl
  rw [qan st,qahq d (48 :: s) (by simp;omega),List.replicate_succ']
  simp
theorem qcq {a:Nat} (h:a<4294967296):qc3 a=some ((hexP 8 (bitsOf a),()),()):=by
 unfold qc3 qje bitsOf
 simp only [Option.bind_some]
 cases hn:fEq .f32 a a with
 | false=>exact (by kernel_rfl:some (([55,102,99,48,48,48,48,48],()),())=some ((hexP 8 2143289344,()),()))
 | true =>
  simp only [Bool.not_true,cond_false,if_true]
  refine qg0 fun q => ?_
  have hq:bitsF .f32 a q=(a:Int):=by
   unfold bitsF
   rw [qim] at hn
   simp only [Bool.not_eq_true'] at hn
   rw [hn]
   rfl
  have hw:iWrap .u64 (a:Int)=(a:Int):=by simp [iWrap,IntKind.wrap,IntKind.signed,IntKind.bits];omega
  obtain ⟨p1,p2⟩:=qahp 7 a 7 (Nat.lt_of_lt_of_le h (by decide)) (Nat.le_refl _)
  rw [hq,hw,qt6 h]
  simp only [Option.bind_some]
  rw [qahq (8-(hexG 7 a).length) (hexG 7 a) (by omega),p1]
theorem qac7 {a:Nat} (h:a<4294967296):bitsOf a<4294967296:=by
 unfold bitsOf
 split
 ·exact h
 ·decide
theorem qsh {a:Nat} (h:a<4294967296):qiy a=some ((((bitsOf a:Nat):Int),()),()):=by
 unfold qiy bitsOf
 cases hn:fEq .f32 a a with
 | false=>rfl
 | true =>
  simp only [Bool.not_true,cond_false,if_true]
  refine qg0 fun q => ?_
  have hq:bitsF .f32 a q=(a:Int):=by
   unfold bitsF
   rw [qim] at hn
   simp only [Bool.not_eq_true'] at hn
   rw [hn]
   rfl
  rw [hq]
theorem qaol (n:Nat):iRem .u32 (n:Int) 16=((n%16:Nat):Int):=by
 unfold iRem
 rw [Int.tmod_eq_emod_of_nonneg (by omega)]
 omega
theorem quz {n:Nat} (h:n<4294967296):iQuo .u32 (n:Int) 16=((n/16:Nat):Int):=by
 unfold iQuo
 rw [Int.tdiv_eq_ediv_of_nonneg (by omega)]
 simp [IntKind.wrap,IntKind.signed,IntKind.bits]
 omega
theorem qaom (n:Nat):strAt [48,49,50,51,52,53,54,55,56,57,97,98,99,100,101,102] ((n%16:Nat):Int)=byteI (hexC (n%16)):=by
 have key : ∀ d:Fin 16,strAt [48,49,50,51,52,53,54,55,56,57,97,98,99,100,101,102] ((d.val:Nat):Int)=byteI (hexC d.val):=by decide
 exact key ⟨n%16,Nat.mod_lt _ (by decide)⟩
theorem in16 (n:Nat):inB ((n%16:Nat):Int) 16=true:=qae (Nat.mod_lt _ (by decide))
theorem qacw {a:Nat} (h:a<4294967296):qek a=some ((hexP 8 (bitsOf a),()),()):=by
 have hb:=qac7 h
 have e:=qsh h
 generalize bitsOf a=b at hb e
 have q1:=quz hb
 have q2:=quz (n:=b/16) (by omega)
 have q3:=quz (n:=b/16/16) (by omega)
 have q4:=quz (n:=b/16/16/16) (by omega)
 have q5:=quz (n:=b/16/16/16/16) (by omega)
 have q6:=quz (n:=b/16/16/16/16/16) (by omega)
 have q7:=quz (n:=b/16/16/16/16/16/16) (by omega)
 have hr:(iLe 0 8&&iLe 8 8&&room ((8:Int)).toNat 1)=true:=by decide
 unfold qek
 rw [e]
 simp only [Option.bind_some,hr,cond_true,q1,q2,q3,q4,q5,q6,q7,qaol,List.length_cons,List.length_nil,Nat.reduceAdd,in16,qaom,List.length_set,List.length_replicate]
 have hs : ∀ j:Nat,j<8→inB (j:Int) (8:Int).toNat=true:=fun j hj=>qae hj
 have s0:=hs 0 (by decide);have s1:=hs 1 (by decide);have s2:=hs 2 (by decide);have s3:=hs 3 (by decide)
 have s4:=hs 4 (by decide);have s5:=hs 5 (by decide);have s6:=hs 6 (by decide);have s7:=hs 7 (by decide)
 simp only [Int.cast_ofNat_Int] at s0 s1 s2 s3 s4 s5 s6 s7
 rw [show inB 7 (8:Int).toNat=true from s7,show inB 6 (8:Int).toNat=true from s6,show inB 5 (8:Int).toNat=true from s5,show inB 4 (8:Int).toNat=true from s4,show inB 3 (8:Int).toNat=true from s3,show inB 2 (8:Int).toNat=true from s2,show inB 1 (8:Int).toNat=true from s1,show inB 0 (8:Int).toNat=true from s0]
 simp only [cond_true]
 refine congrArg (fun z=>some ((z,()),())) ?_
 show [toByte (byteI (hexC (b/16/16/16/16/16/16/16%16))),toByte (byteI (hexC (b/16/16/16/16/16/16%16))),toByte (byteI (hexC (b/16/16/16/16/16%16))),toByte (byteI (hexC (b/16/16/16/16%16))),toByte (byteI (hexC (b/16/16/16%16))),toByte (byteI (hexC (b/16/16%16))),toByte (byteI (hexC (b/16%16))),toByte (byteI (hexC (b%16)))]=hexP 8 b
 simp only [qq9]
 rfl
def lowD (c:UInt8):Option Nat:=if 48≤c.toNat∧c.toNat≤57 then some (c.toNat-48) else if 97≤c.toNat∧c.toNat≤102 then some (c.toNat-87) else none
def lowV:Nat→List UInt8→Option Nat
 | acc,[]=>some acc
 | acc,c :: r=>match lowD c with | none=>none | some d=>lowV (acc*16+d) r
def lowT (n:Nat):Bool:=match lowD (UInt8.ofNat n) with | none=>true | some d=>decide (d<16)&&(decide (hexC d=UInt8.ofNat n)&&decide (hexD (UInt8.ofNat n)=some d))
theorem qand:(List.range 256).all lowT=true:=by kernel_rfl
theorem qajq {c:UInt8} {d:Nat} (h:lowD c=some d):d<16∧hexC d=c∧hexD c=some d:=by
 have k:=List.all_eq_true.1 qand c.toNat (List.mem_range.2 c.toNat_lt)
 unfold lowT at k
 rw [UInt8.ofNat_toNat,h] at k
 simpa using k
theorem qadh : ∀ d:Fin 16,lowD (hexC d.val)=some d.val∧hexD (hexC d.val)=some d.val:=by decide
theorem qajp {d:Nat} (h:d<16):lowD (hexC d)=some d:=(qadh ⟨d,h⟩).1
theorem qajj {d:Nat} (h:d<16):hexD (hexC d)=some d:=(qadh ⟨d,h⟩).2
theorem qr4 (c:UInt8) : ∀ (p:List UInt8) (acc:Nat),lowV acc (p++[c])=(lowV acc p).bind fun a=>(lowD c).map fun d=>a*16+d
 | [],acc=>by
  show lowV acc [c]=_
  simp only [lowV,Option.bind_some]
  cases lowD c <;> rfl
 | b :: p,acc=>by
  show lowV acc (b :: (p++[c]))=_
  simp only [lowV]
  cases lowD b with
  | none=>rfl
  | some d=>exact qr4 c p (acc*16+d)
theorem qnw : ∀ (k:Nat) (s:List UInt8) (v:Nat),s.length=k→lowV 0 s=some v→v<16^k∧s=hexP k v
 | 0,s,v,hl,h=>by
  have:s=[]:=List.length_eq_zero_iff.1 hl
  subst this
  have:v=0:=by simpa [lowV] using h.symm
  subst this
  exact ⟨by decide,rfl⟩
 | k+1,s,v,hl,h=>by
  rcases List.eq_nil_or_concat s with rfl | ⟨p,c,rfl⟩
  ·simp at hl
  ·rw [List.concat_eq_append] at h hl ⊢
   rw [qr4] at h
   cases hp:lowV 0 p with
   | none=>rw [hp] at h;cases h
   | some a =>
    rw [hp] at h
    simp only [Option.bind_some] at h
    cases hc:lowD c with
    | none=>rw [hc] at h;cases h
    | some d =>
     rw [hc] at h
     have hv:a*16+d=v:=by simpa using h
     obtain ⟨h1,h2⟩:=qnw k p a (by simpa using hl) hp
     obtain ⟨d1,d2,-⟩:=qajq hc
     have e1:v/16=a:=by omega
     have e2:v%16=d:=by omega
     refine ⟨by rw [Nat.pow_succ];omega,?_⟩
     rw [hexP,e1,e2,d2,← h2]
theorem qads (c:UInt8) : ∀ (p:List UInt8) (acc a d:Nat),hexM acc p=some (some a)→hexD c=some d→a*16+d≤4294967295→hexM acc (p++[c])=some (some (a*16+d))
 | [],acc,a,d,h,hc,hd=>by
  have:acc=a:=by simpa [hexM] using h
  subst this
  show hexM acc [c]=_
  have:¬ 4294967295<acc*16+d:=by omega
  simp only [hexM,hc,if_neg this]
 | b :: p,acc,a,d,h,hc,hd=>by
  show hexM acc (b :: (p++[c]))=_
  simp only [hexM] at h ⊢
  cases hb:hexD b with
  | none=>rw [hb] at h;cases h
  | some e =>
   rw [hb] at h
   simp only at h ⊢
   by_cases ho:4294967295<acc*16+e
   ·rw [if_pos ho] at h;cases h
   ·rw [if_neg ho] at h ⊢
    exact qads c p (acc*16+e) a d h hc hd
theorem qnn : ∀ (k n:Nat),n<16^k→n≤4294967295→hexM 0 (hexP k n)=some (some n)∧lowV 0 (hexP k n)=some n
 | 0,n,h,_=>by
  have h:n<1:=h
  have:n=0:=by omega
  subst this
  exact ⟨rfl,rfl⟩
 | k+1,n,h,h'=>by
  have hd:n/16<16^k:=by
   rw [Nat.div_lt_iff_lt_mul (by decide)]
   rw [Nat.pow_succ] at h
   exact h
  obtain ⟨h1,h2⟩:=qnn k (n/16) hd (by omega)
  have hm:n%16<16:=Nat.mod_lt _ (by decide)
  refine ⟨?_,?_⟩
  ·have:=qads (hexC (n%16)) (hexP k (n/16)) 0 (n/16) (n%16) h1 (qajj hm) (by omega)
   rw [hexP,this]
   congr 2
   omega
  ·rw [hexP,qr4,h2,qajp hm]
   simp
   omega
def numR (s:List UInt8):Option Nat :=
 match lowV 0 s with
 | none=>none
 | some v=>if s.length=8∧bitsOf (canon .f32 v)=v then some (canon .f32 v) else none
theorem qub {v:Nat} (h:v<4294967296):canon .f32 v<4294967296:=by
 unfold canon
 cases isNan .f32 v with
 | true =>
  show nan .f32<4294967296
  decide
 | false=>exact h
theorem qahi : ∀ (s:List UInt8) (acc v:Nat),acc≤4294967295→hexM acc s=some (some v)→v≤4294967295
 | [],acc,v,h,e=>by
  have:acc=v:=by simpa [hexM] using e
  omega
 | c :: s,acc,v,h,e=>by
  simp only [hexM] at e
  cases hc:hexD c with
  | none=>rw [hc] at e;cases e
  | some d =>
   rw [hc] at e
   simp only at e
   by_cases ho:4294967295<acc*16+d
   ·rw [if_pos ho] at e;cases e
   ·rw [if_neg ho] at e
    exact qahi s _ v (by omega) e
theorem qwg {s:List UInt8} (hs:s.length≤1048576):qh3 s=some (match numR s with | some a=>((a,0,()),()) | none=>((0,5,()),())):=by
 have hp:qcd s 16 32=some (((parseHex s).1,(parseHex s).2,()),()):=by
  unfold qcd
  rw [qbm,qbm,Nat.ble_eq_true_of_le (by omega)]
  rfl
 have bad : ∀ z:Int,((qba z).bind fun _:(Nat×Unit)×Unit=>some (((0,5,()),()):(Nat×Int×Unit)×Unit))=some ((0,5,()),()):=fun _=>rfl
 unfold qh3
 rw [hp]
 simp only [Option.bind_some]
 cases hx:hexN s with
 | none =>
  have h2:(parseHex s).2=false:=by unfold parseHex;rw [hx]
  have hn:numR s=none:=by
   unfold numR
   cases hl:lowV 0 s with
   | none=>rfl
   | some v =>
    simp only
    rw [if_neg]
    rintro ⟨h8,-⟩
    obtain ⟨h1,h3⟩:=qnw 8 s v h8 hl
    have h1:v<4294967296:=h1
    have:=(qnn 8 v h1 (by omega)).1
    rw [← h3] at this
    cases s with
    | nil=>cases h8
    | cons c r =>
     rw [show hexN (c :: r)=hexM 0 (c :: r) from rfl,this] at hx
     cases hx
  rw [h2,hn]
  rfl
 | some o =>
  cases o with
  | none =>
   have h2:(parseHex s).2=false:=by unfold parseHex;rw [hx]
   have hn:numR s=none:=by
    unfold numR
    cases hl:lowV 0 s with
    | none=>rfl
    | some v =>
     simp only
     rw [if_neg]
     rintro ⟨h8,-⟩
     obtain ⟨h1,h3⟩:=qnw 8 s v h8 hl
     have h1:v<4294967296:=h1
     have:=(qnn 8 v h1 (by omega)).1
     rw [← h3] at this
     cases s with
     | nil=>cases h8
     | cons c r =>
      rw [show hexN (c :: r)=hexM 0 (c :: r) from rfl,this] at hx
      cases hx
   rw [h2,hn]
   rfl
  | some v =>
   have hne:s≠[]:=by rintro rfl;cases hx
   have hM:hexM 0 s=some (some v):=by
    cases s with
    | nil=>exact absurd rfl hne
    | cons c r=>exact hx
   have hv:v≤4294967295:=qahi s 0 v (by decide) hM
   have h1:(parseHex s).1=(v:Int):=by unfold parseHex;rw [hx]
   have h2:(parseHex s).2=true:=by unfold parseHex;rw [hx]
   have hw:iWrap .u32 (v:Int)=(v:Int):=by simp [iWrap,IntKind.wrap,IntKind.signed,IntKind.bits];omega
   have hf:qba (v:Int)=some ((canon .f32 v,()),()):=by
    unfold qba
    rw [Int.toNat_natCast]
   have hcl:=qub (v:=v) (by omega)
   rw [h1,h2,hw,hf]
   simp only [Option.bind_some,Bool.not_true,cond_false]
   rw [qcq hcl]
   simp only [Option.bind_some]
   have hbl:=qac7 hcl
   by_cases he:hexP 8 (bitsOf (canon .f32 v))=s
   ·have hback:=qnn 8 (bitsOf (canon .f32 v)) hbl (by omega)
    rw [he] at hback
    have hvv:bitsOf (canon .f32 v)=v:=by
     have:=hback.1.symm.trans hM
     simpa using this
    have hn:numR s=some (canon .f32 v):=by
     unfold numR
     rw [hback.2,hvv]
     simp only
     rw [if_pos ⟨by rw [← he];exact qhw 8 _,hvv⟩]
    rw [he,qiw,hn]
    rfl
   ·have hse:sEq (hexP 8 (bitsOf (canon .f32 v))) s=false:=by
     cases hq:sEq (hexP 8 (bitsOf (canon .f32 v))) s with
     | false=>rfl
     | true=>exact absurd (by simpa [sEq] using hq) he
    have hn:numR s=none:=by
     unfold numR
     cases hl:lowV 0 s with
     | none=>rfl
     | some u =>
      simp only
      rw [if_neg]
      rintro ⟨h8,h9⟩
      obtain ⟨k1,k2⟩:=qnw 8 s u h8 hl
      have k1:u<4294967296:=k1
      have:=(qnn 8 u k1 (by omega)).1
      rw [← k2,hM] at this
      have huv:v=u:=by simpa using this
      subst huv
      rw [h9] at he
      exact he k2.symm
    rw [hse,hn]
    rfl
theorem qagz {s:List UInt8} (hs:s.length=8) : ∀ (r q:List UInt8) (acc:Nat),s=q++r→lowV 0 q=some acc →
  ∃ y:Nat,run (qbb s) ((acc:Int),(q.length:Int),())=some ((y,(numR s).isSome,()),()) ∧ ∀ a,numR s=some a→y=a:=by
 intro r
 induction r with
 | nil =>
  intro q acc e hq
  rw [List.append_nil] at e
  subst e
  obtain ⟨h1,h2⟩:=qnw 8 s acc hs hq
  have h1:acc<4294967296:=h1
  have hf:qba (acc:Int)=some ((canon .f32 acc,()),()):=by
   unfold qba
   rw [Int.toNat_natCast]
  have hb:=qsh (qub h1)
  have e1:iLt (s.length:Int) 8=false:=qah (by omega)
  have hn:numR s=if bitsOf (canon .f32 acc)=acc then some (canon .f32 acc) else none:=by
   unfold numR
   rw [hq]
   simp only
   by_cases h:bitsOf (canon .f32 acc)=acc
   ·rw [if_pos ⟨hs,h⟩,if_pos h]
   ·rw [if_neg (fun k=>h k.2),if_neg h]
  refine ⟨canon .f32 acc,?_,fun a ha => ?_⟩
  ·refine qal ?_
   unfold qbb
   simp only
   rw [e1]
   simp only [cond_false,hf,hb,Option.bind_some,Option.map_some]
   rw [hn]
   by_cases h:bitsOf (canon .f32 acc)=acc
   ·rw [if_pos h,h,qbm];rfl
   ·rw [if_neg h,qa5 (by omega)];rfl
  ·rw [hn] at ha
   by_cases h:bitsOf (canon .f32 acc)=acc
   ·rw [if_pos h] at ha;exact Option.some.inj ha
   ·rw [if_neg h] at ha;cases ha
 | cons c r ih =>
  intro q acc e hq
  have hql:q.length<8:=by rw [← hs,e];simp
  obtain ⟨h1,-⟩:=qnw q.length q acc rfl hq
  have hp:(16:Nat)^q.length≤16^7:=Nat.pow_le_pow_right (by decide) (by omega)
  have hp7:(16:Nat)^7=268435456:=by decide
  have e1:iLt (q.length:Int) 8=true:=qag (by omega)
  have e2:inB (q.length:Int) s.length=true:=qae (by omega)
  have e3:strAt s (q.length:Int)=byteI c:=by
   rw [qsy,e]
   simp [List.getD_eq_getElem?_getD]
  have e4:iAdd .i64 (q.length:Int) 1=((q.length+1:Nat):Int):=(qc7 (by omega) (by omega)).trans (by omega)
  have hc:c.toNat<256:=c.toNat_lt
  have hB:byteI c=(c.toNat:Int):=rfl
  have em:iMul .u32 (acc:Int) 16=(acc:Int)*16:=by simp [iMul,IntKind.wrap,IntKind.signed,IntKind.bits];omega
  have wu : ∀ x:Int,0≤x→x≤255→iWrap .u32 x=x:=fun x h0 h1=>by simp [iWrap,IntKind.wrap,IntKind.signed,IntKind.bits];omega
  have au : ∀ x y:Int,0≤x→0≤y→x+y≤4294967295→iAdd .u32 x y=x+y:=fun x y h0 h1 h2=>by simp [iAdd,IntKind.wrap,IntKind.signed,IntKind.bits];omega
  have su : ∀ x y:Int,y≤x→x-y≤255→iSub .u8 x y=x-y:=fun x y h0 h1=>by simp [iSub,IntKind.wrap,IntKind.signed,IntKind.bits];omega
  have next : ∀ d,lowD c=some d→qbb s ((acc:Int),(q.length:Int),())=some (.inl (((acc*16+d:Nat):Int),((q.length+1:Nat):Int),())) → ∃ y:Nat,run (qbb s) ((acc:Int),(q.length:Int),())=some ((y,(numR s).isSome,()),()) ∧ ∀ a,numR s=some a→y=a:=by
   intro d hd hst
   obtain ⟨y,h3,h4⟩:=ih (q++[c]) (acc*16+d) (by rw [e];simp) (by rw [qr4,hq,hd];rfl)
   rw [show (q++[c]).length=q.length+1 by simp] at h3
   exact ⟨y,(qan hst).trans h3,h4⟩
  have bad:lowD c=none→qbb s ((acc:Int),(q.length:Int),())=some (.inr ((0,false,()),())) → ∃ y:Nat,run (qbb s) ((acc:Int),(q.length:Int),())=some ((y,(numR s).isSome,()),()) ∧ ∀ a,numR s=some a→y=a:=by
   intro hd hst
   have hnone:lowV 0 s=none:=by
    have key : ∀ (p:List UInt8) (z:Nat),lowV z (p++c :: r)=none:=by
     intro p
     induction p with
     | nil=>intro z;show lowV z (c :: r)=none;simp only [lowV,hd]
     | cons b p ihp =>
      intro z
      show lowV z (b :: (p++c :: r))=none
      simp only [lowV]
      cases lowD b with
      | none=>rfl
      | some d=>exact ihp _
    rw [e];exact key q 0
   have hn:numR s=none:=by unfold numR;rw [hnone]
   exact ⟨0,by rw [qal hst,hn];rfl,fun a ha=>by rw [hn] at ha;cases ha⟩
  by_cases h48:48≤c.toNat
  ·have f1:iLe 48 (byteI c)=true:=qaz (by omega)
   by_cases h57:c.toNat≤57
   ·have f2:iLe (byteI c) 57=true:=qaz (by omega)
    have hd:lowD c=some (c.toNat-48):=by unfold lowD;rw [if_pos ⟨h48,h57⟩]
    refine next _ hd ?_
    have g:iAdd .u32 (iMul .u32 (acc:Int) 16) (iWrap .u32 (iSub .u8 (byteI c) 48))=((acc*16+(c.toNat-48):Nat):Int):=by
     rw [em,hB,su _ _ (by omega) (by omega),wu _ (by omega) (by omega),au _ _ (by omega) (by omega) (by omega)]
     omega
    unfold qbb
    simp only
    rw [e1,e2,e3,f1,f2,g,e4]
    rfl
   ·have f2:iLe (byteI c) 57=false:=qc8 (by omega)
    by_cases h97:97≤c.toNat∧c.toNat≤102
    ·have f3:iLe 97 (byteI c)=true:=qaz (by omega)
     have f4:iLe (byteI c) 102=true:=qaz (by omega)
     have hd:lowD c=some (c.toNat-87):=by unfold lowD;rw [if_neg (fun h=>h57 h.2),if_pos h97]
     refine next _ hd ?_
     have g:iAdd .u32 (iAdd .u32 (iMul .u32 (acc:Int) 16) (iWrap .u32 (iSub .u8 (byteI c) 97))) 10=((acc*16+(c.toNat-87):Nat):Int):=by
      rw [em,hB,su _ _ (by omega) (by omega),wu _ (by omega) (by omega),au ((acc:Int)*16) ((c.toNat:Int)-97) (by omega) (by omega) (by omega),au ((acc:Int)*16+((c.toNat:Int)-97)) 10 (by omega) (by omega) (by omega)]
      omega
     unfold qbb
     simp only
     rw [e1,e2,e3,f1,f2,f3,f4,g,e4]
     rfl
    ·have hd:lowD c=none:=by unfold lowD;rw [if_neg (fun h=>h57 h.2),if_neg h97]
     refine bad hd ?_
     unfold qbb
     simp only
     rw [e1,e2,e3,f1,f2]
     simp only [cond_true,cond_false]
     by_cases h:97≤c.toNat
     ·rw [qaz (show (97:Int)≤byteI c by omega),qc8 (show ¬ byteI c≤102 by omega)];rfl
     ·rw [qc8 (show ¬ (97:Int)≤byteI c by omega)];rfl
  ·have f1:iLe 48 (byteI c)=false:=qc8 (by omega)
   have f3:iLe 97 (byteI c)=false:=qc8 (by omega)
   have hd:lowD c=none:=by unfold lowD;rw [if_neg (fun h=>h48 h.1),if_neg (fun h=>by omega)]
   refine bad hd ?_
   unfold qbb
   simp only
   rw [e1,e2,e3,f1,f3]
   rfl
theorem qabr (s:List UInt8) : ∃ y:Nat,qa4 s=some ((y,(numR s).isSome,()),()) ∧ ∀ a,numR s=some a→y=a:=by
 unfold qa4
 by_cases h:s.length=8
 ·have e:iEq (lenI s) 8=true:=qno (by rw [qaa];omega)
  rw [e]
  exact qagz h s [] 0 rfl rfl
 ·have e:iEq (lenI s) 8=false:=qa5 (by rw [qaa];omega)
  have hn:numR s=none:=by
   unfold numR
   cases lowV 0 s with
   | none=>rfl
   | some v=>simp only;rw [if_neg (fun k=>h k.1)]
  rw [e,hn]
  exact ⟨0,rfl,fun a ha=>by cases ha⟩
theorem qajz {s:List UInt8} {a:Nat} (h:numR s=some a):a<4294967296∧hexP 8 (bitsOf a)=s:=by
 unfold numR at h
 cases hl:lowV 0 s with
 | none=>rw [hl] at h;cases h
 | some v =>
  rw [hl] at h
  simp only at h
  by_cases hc:s.length=8∧bitsOf (canon .f32 v)=v
  ·rw [if_pos hc] at h
   have ha:canon .f32 v=a:=Option.some.inj h
   obtain ⟨h1,h2⟩:=qnw 8 s v hc.1 hl
   have h1:v<4294967296:=h1
   rw [← ha,hc.2]
   exact ⟨qub h1,h2.symm⟩
  ·rw [if_neg hc] at h;cases h
theorem qajy {b:Nat} (h:b<4294967296):numR (hexP 8 b)=if bitsOf (canon .f32 b)=b then some (canon .f32 b) else none:=by
 unfold numR
 rw [(qnn 8 b h (by omega)).2]
 simp only
 by_cases hc:bitsOf (canon .f32 b)=b
 ·rw [if_pos ⟨qhw 8 b,hc⟩,if_pos hc]
 ·rw [if_neg (fun k=>hc k.2),if_neg hc]
end
end Go.Proofs.YtjhdoneobdbeaaaGreatDoor
