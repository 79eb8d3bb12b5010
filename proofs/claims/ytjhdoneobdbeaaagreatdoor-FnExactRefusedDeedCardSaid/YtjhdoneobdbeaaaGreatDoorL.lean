import Derived.Test.YtjhdoneobdbeaaaGreatDoorF4
import Derived.Test.YtjhdoneobdbeaaaGreatDoorB
/- The laws' helpers in plain terms: they copy, compare and mark. -/
set_option linter.unusedSimpArgs false
set_option linter.unusedVariables false
namespace Go.Proofs.YtjhdoneobdbeaaaGreatDoor
open Go Go.Tm
theorem qnz (a:List Nat) (f:(Nat×Unit)→Option Bool) (p:Nat→Bool) (hl:a.length≤140737488355328) (hp : ∀ x∈a,f (x,())=some (p x)):qcy a f=some ((indexOf p a,()),()):=by
 unfold qcy
 refine qy1 (fun i hi => ?_) ?_
 ·have e1:iLt (i:Int) (lenI a)=true:=qag (by rw [qaa];omega)
  have e2:inB (i:Int) a.length=true:=qaf hi
  have e4:a.getD i (0:Nat)=a[i]:=qal hi
  have e5:iAdd .i64 (i:Int) 1=((i+1:Nat):Int):=qap hi (by omega)
  have e6:=hp a[i] (List.getElem_mem hi)
  simp only [qdo,e1,e2,Int.toNat_natCast,e4,e5,e6,Option.bind_some,cond_true]
  cases p a[i] <;> rfl
 ·have e1:iLt (a.length:Int) (lenI a)=false:=qah (by rw [qaa];omega)
  simp only [qdo,e1,cond_false]
  rfl
theorem qli (a:List Nat) (f:(Nat×Unit)→Option Bool) (p:Nat→Bool) (hl:a.length≤140737488355328) (hp : ∀ x∈a,f (x,())=some (p x)):qcc a f=some ((a.any p,()),()):=by
 simp only [qcc,qnz a f p hl hp,Option.bind_some,qrx]
theorem ql6 (a:List Dq6) (f:(Dq6×Unit)→Option Bool) (p:Dq6→Bool) (hl:a.length≤140737488355328) (hp : ∀ x∈a,f (x,())=some (p x)):qcf a f=some ((indexOf p a,()),()):=by
 unfold qcf
 refine qy1 (fun i hi => ?_) ?_
 ·have e1:iLt (i:Int) (lenI a)=true:=qag (by rw [qaa];omega)
  have e2:inB (i:Int) a.length=true:=qaf hi
  have e4:a.getD i Lq10=a[i]:=qal hi
  have e5:iAdd .i64 (i:Int) 1=((i+1:Nat):Int):=qap hi (by omega)
  have e6:=hp a[i] (List.getElem_mem hi)
  simp only [qc7,e1,e2,Int.toNat_natCast,e4,e5,e6,Option.bind_some,cond_true]
  cases p a[i] <;> rfl
 ·have e1:iLt (a.length:Int) (lenI a)=false:=qah (by rw [qaa];omega)
  simp only [qc7,e1,cond_false]
  rfl
theorem qkc (a:List Dq6) (f:(Dq6×Unit)→Option Bool) (p:Dq6→Bool) (hl:a.length≤140737488355328) (hp : ∀ x∈a,f (x,())=some (p x)):qbc a f=some ((a.any p,()),()):=by
 simp only [qbc,ql6 a f p hl hp,Option.bind_some,qrx]
theorem qaat (a:Dq6):qne a a=some ((true,()),()):=by
 simp only [qne,qbw,qpe,qif,qdg,Bool.not_true,cond_false,Option.bind_some]
theorem qy3 (a:List Dq6) (h:Sized (.list Uq5) a):qk7 a a=some ((true,()),()):=by
 have hl:a.length≤140737488355328:=h.1
 unfold qk7
 simp only [qbw,Bool.not_true,cond_false]
 refine qxh (n:=a.length) (fun i hi => ?_) ?_
 ·have e1:iLt (i:Int) (lenI a)=true:=qag (by rw [qaa];omega)
  have e2:inB (i:Int) a.length=true:=qaf hi
  have e5:iAdd .i64 (i:Int) 1=((i+1:Nat):Int):=qap hi (by omega)
  have e4:a.getD i Lq10=a[i]:=qal hi
  simp only [qk8,e1,e2,e4,e5,Int.toNat_natCast,qaat _,Option.bind_some,Bool.not_true,cond_true,cond_false]
 ·have e1:iLt (a.length:Int) (lenI a)=false:=qah (by rw [qaa];omega)
  simp only [qk8,e1,cond_false]
  rfl
theorem qi8 (a:Nat):qb3 a a=some ((true,()),()):=by
 unfold qb3
 rw [qh5]
 cases isNan .f64 a
 ·simp only [Bool.not_false,Bool.not_true,cond_false,cond_true,qpe]
  cases fEq .f64 a 0 <;> rfl
 ·rfl
theorem qacy (a:(Vec 3 Nat)):qo7 a a=some ((true,()),()):=by
 simp only [qo7,qbw,qpe,qif,qdg,qi8,Bool.not_true,cond_false,Option.bind_some]
theorem qy7 (a:Dq4):qla a a=some ((true,()),()):=by
 simp only [qla,qbw,qpe,qif,qdg,qacy,qi8,Bool.not_true,cond_false,Option.bind_some]
theorem qxt (a:List Dq4) (h:Sized (.list Uq4) a):qjo a a=some ((true,()),()):=by
 have hl:a.length≤140737488355328:=h.1
 unfold qjo
 simp only [qbw,Bool.not_true,cond_false]
 refine qxh (n:=a.length) (fun i hi => ?_) ?_
 ·have e1:iLt (i:Int) (lenI a)=true:=qag (by rw [qaa];omega)
  have e2:inB (i:Int) a.length=true:=qaf hi
  have e5:iAdd .i64 (i:Int) 1=((i+1:Nat):Int):=qap hi (by omega)
  have e4:a.getD i Lq7=a[i]:=qal hi
  simp only [qj8,e1,e2,e4,e5,Int.toNat_natCast,qy7 _,Option.bind_some,Bool.not_true,cond_true,cond_false]
 ·have e1:iLt (a.length:Int) (lenI a)=false:=qah (by rw [qaa];omega)
  simp only [qj8,e1,cond_false]
  rfl
theorem qwh (a:List (List Dq4)) (h:Sized (.list (.list Uq4)) a):qiz a a=some ((true,()),()):=by
 have hl:a.length≤140737488355328:=h.1
 unfold qiz
 simp only [qbw,Bool.not_true,cond_false]
 refine qxh (n:=a.length) (fun i hi => ?_) ?_
 ·have e1:iLt (i:Int) (lenI a)=true:=qag (by rw [qaa];omega)
  have e2:inB (i:Int) a.length=true:=qaf hi
  have e5:iAdd .i64 (i:Int) 1=((i+1:Nat):Int):=qap hi (by omega)
  have e4:a.getD i ([]:(List Dq4))=a[i]:=qal hi
  have hE:Sized (.list Uq4) a[i]:=h.2 _ (List.getElem_mem hi)
  simp only [qi7,e1,e2,e4,e5,Int.toNat_natCast,qxt _ hE,Option.bind_some,Bool.not_true,cond_true,cond_false]
 ·have e1:iLt (a.length:Int) (lenI a)=false:=qah (by rw [qaa];omega)
  simp only [qi7,e1,cond_false]
  rfl
theorem qy5 (a:Dq7) (h:Sized Uq2 a):qk9 a a=some ((true,()),()):=by
 simp only [qk9,qbw,qpe,qif,qdg,qwh a.2.2.1 h.2.2.1,qi8,Bool.not_true,cond_false,Option.bind_some]
theorem qy9 (a:(List Dq6)) (k:Int) : ∃ r,qlb a k=some ((r,()),()):=by
 unfold qlb
 simp only
 cases iLt (iSub .i64 k (lenI a)) 0 <;> exact ⟨_,rfl⟩
theorem qxv (a:(List Dq4)) (k:Int) : ∃ r,qjp a k=some ((r,()),()):=by
 unfold qjp
 simp only
 cases iLt (iSub .i64 k (lenI a)) 0 <;> exact ⟨_,rfl⟩
theorem qwj (a:List (List Dq4)) (k:Int) (h:Sized (.list (.list Uq4)) a) : ∃ r,qi0 a k=some ((r,()),()):=by
 have hl:a.length≤140737488355328:=h.1
 unfold qi0
 simp only
 cases iLt (iSub .i64 k (lenI a)) 0
 case true=>exact ⟨_,rfl⟩
 simp only [cond_false]
 obtain ⟨o,h1,r,rfl⟩:=qaf1 (f:=qfy a) (fun s=>0≤s.2.1∧s.2.1≤a.length) (fun s=>(a.length-s.2.1).toNat) (fun o => ∃ r,o=((r,()),())) (fun s hs=>by
  obtain ⟨s1,s2,⟨⟩⟩:=s
  obtain ⟨h0,h1⟩:=hs
  simp only at h0 h1
  by_cases hlt:s2<a.length
  ·have e1:iLt s2 (lenI a)=true:=qag (by rw [qaa];omega)
   have e2:inB s2 a.length=true:=qale h0 hlt
   have e3:iAdd .i64 s2 1=s2+1:=qc1 (by omega) (by omega)
   obtain ⟨r,hr⟩:=qxv (a.getD s2.toNat ([]:(List Dq4))) s1
   simp only [qfy,e1,e2,e3,hr,Option.bind_some,cond_true]
   cases iLt r 0
   ·exact .inl ⟨_,rfl,⟨by show (0:Int)≤s2+1;omega,by show s2+1≤(a.length:Int);omega⟩,by show ((a.length:Int)-(s2+1)).toNat<((a.length:Int)-s2).toNat;omega⟩
   ·exact .inr ⟨_,rfl,_,rfl⟩
  ·have e1:iLt s2 (lenI a)=false:=qah (by rw [qaa];omega)
   simp only [qfy,e1,cond_false]
   exact .inr ⟨_,rfl,_,rfl⟩) (s:=(iSub .i64 k (lenI a),(0:Int),())) ⟨Int.le_refl _,by show (0:Int)≤a.length;omega⟩
 exact ⟨r,h1⟩
theorem qzb (a:Dq7) (k:Int) (h:Sized Uq2 a) : ∃ r,qlc a k=some ((r,()),()):=by
 unfold qlc
 obtain ⟨r0,h0⟩:=qwj a.2.2.1 k h.2.2.1
 rw [h0]
 simp only [Option.bind_some]
 cases iLt r0 0
 case true=>exact ⟨_,rfl⟩
 exact ⟨_,rfl⟩
theorem qaav (a:Dq6):qry a=some ((a,()),()):=rfl
theorem qzd (a:List Dq6) (h:Fit (.list Uq5) a):qf7 a=some ((a,()),()):=by
 have hl:a.length*24≤140737488351232:=h.1
 unfold qf7
 rw [qabd a 24 hl (by decide),cond_true]
 refine quv (fun i hi l hll => ?_) (fun l hll => ?_)
 ·have hE:Fit Uq5 a[i]:=h.2 _ (List.getElem_mem hi)
  have e1:iLt (i:Int) (lenI a)=true:=qag (by rw [qaa];omega)
  have e2:inB (i:Int) a.length=true:=qaf hi
  have e3:inB (i:Int) l.length=true:=qaf (by omega)
  have e4:a.getD i Lq10=a[i]:=qal hi
  have e5:iAdd .i64 (i:Int) 1=((i+1:Nat):Int):=qap hi (by omega)
  simp only [qld,e1,e2,e3,Int.toNat_natCast,e4,e5,qaav _,Option.bind_some,cond_true]
 ·have e1:iLt (a.length:Int) (lenI a)=false:=qah (by rw [qaa];omega)
  simp only [qld,e1,cond_false]
  rfl
theorem qac0 (a:(Vec 3 Nat)):qtk a=some ((a,()),()):=rfl
theorem qzh (a:Dq4):qle a=some ((a,()),()):=by
 simp only [qle,qac0,Option.bind_some]
 all_goals rfl
theorem qxx (a:List Dq4) (h:Fit (.list Uq4) a):qjq a=some ((a,()),()):=by
 have hl:a.length*24≤140737488351232:=h.1
 unfold qjq
 rw [qabd a 24 hl (by decide),cond_true]
 refine quv (fun i hi l hll => ?_) (fun l hll => ?_)
 ·have hE:Fit Uq4 a[i]:=h.2 _ (List.getElem_mem hi)
  have e1:iLt (i:Int) (lenI a)=true:=qag (by rw [qaa];omega)
  have e2:inB (i:Int) a.length=true:=qaf hi
  have e3:inB (i:Int) l.length=true:=qaf (by omega)
  have e4:a.getD i Lq7=a[i]:=qal hi
  have e5:iAdd .i64 (i:Int) 1=((i+1:Nat):Int):=qap hi (by omega)
  simp only [qj9,e1,e2,e3,Int.toNat_natCast,e4,e5,qzh _,Option.bind_some,cond_true]
 ·have e1:iLt (a.length:Int) (lenI a)=false:=qah (by rw [qaa];omega)
  simp only [qj9,e1,cond_false]
  rfl
theorem qwl (a:List (List Dq4)) (h:Fit (.list (.list Uq4)) a):qi1 a=some ((a,()),()):=by
 have hl:a.length*24≤140737488351232:=h.1
 unfold qi1
 rw [qabd a 24 hl (by decide),cond_true]
 refine quv (fun i hi l hll => ?_) (fun l hll => ?_)
 ·have hE:Fit (.list Uq4) a[i]:=h.2 _ (List.getElem_mem hi)
  have e1:iLt (i:Int) (lenI a)=true:=qag (by rw [qaa];omega)
  have e2:inB (i:Int) a.length=true:=qaf hi
  have e3:inB (i:Int) l.length=true:=qaf (by omega)
  have e4:a.getD i ([]:(List Dq4))=a[i]:=qal hi
  have e5:iAdd .i64 (i:Int) 1=((i+1:Nat):Int):=qap hi (by omega)
  simp only [qja,e1,e2,e3,Int.toNat_natCast,e4,e5,qxx _ hE,Option.bind_some,cond_true]
 ·have e1:iLt (a.length:Int) (lenI a)=false:=qah (by rw [qaa];omega)
  simp only [qja,e1,cond_false]
  rfl
theorem qzf (a:Dq7) (h:Fit Uq2 a):qf8 a=some ((a,()),()):=by
 simp only [qf8,qwl a.2.2.1 h.2.2.1,Option.bind_some]
end Go.Proofs.YtjhdoneobdbeaaaGreatDoor
