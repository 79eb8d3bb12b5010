import Derived.Test.YtjhdoneobdbeaaaGreatDoorF4
import Derived.Test.YtjhdoneobdbeaaaGreatDoorB
/- The laws' helpers in plain terms: they copy, compare and mark. -/
set_option linter.unusedSimpArgs false
set_option linter.unusedVariables false
namespace Go.Proofs.YtjhdoneobdbeaaaGreatDoor
open Go Go.Tm
theorem qoy (a:List Nat) (f:(Nat×Unit)→Option Bool) (p:Nat→Bool) (hl:a.length≤140737488355328) (hp : ∀ x∈a,f (x,())=some (p x)):qc5 a f=some ((indexOf p a,()),()):=by
 unfold qc5
 refine qup (fun i hi => ?_) ?_
 ·have e1:iLt (i:Int) (lenI a)=true:=qag (by rw [qaa];omega)
  have e2:inB (i:Int) a.length=true:=qae hi
  have e4:a.getD i (0:Nat)=a[i]:=qaj hi
  have e5:iAdd .i64 (i:Int) 1=((i+1:Nat):Int):=qao hi (by omega)
  have e6:=hp a[i] (List.getElem_mem hi)
  simp only [qdw,e1,e2,Int.toNat_natCast,e4,e5,e6,Option.bind_some,cond_true]
  cases p a[i] <;> rfl
 ·have e1:iLt (a.length:Int) (lenI a)=false:=qah (by rw [qaa];omega)
  simp only [qdw,e1,cond_false]
  rfl
theorem qmc (a:List Nat) (f:(Nat×Unit)→Option Bool) (p:Nat→Bool) (hl:a.length≤140737488355328) (hp : ∀ x∈a,f (x,())=some (p x)):qcf a f=some ((a.any p,()),()):=by
 simp only [qcf,qoy a f p hl hp,Option.bind_some,qoc]
theorem qm3 (a:List Dq6) (f:(Dq6×Unit)→Option Bool) (p:Dq6→Bool) (hl:a.length≤140737488355328) (hp : ∀ x∈a,f (x,())=some (p x)):qcj a f=some ((indexOf p a,()),()):=by
 unfold qcj
 refine qup (fun i hi => ?_) ?_
 ·have e1:iLt (i:Int) (lenI a)=true:=qag (by rw [qaa];omega)
  have e2:inB (i:Int) a.length=true:=qae hi
  have e4:a.getD i Lq10=a[i]:=qaj hi
  have e5:iAdd .i64 (i:Int) 1=((i+1:Nat):Int):=qao hi (by omega)
  have e6:=hp a[i] (List.getElem_mem hi)
  simp only [qde,e1,e2,Int.toNat_natCast,e4,e5,e6,Option.bind_some,cond_true]
  cases p a[i] <;> rfl
 ·have e1:iLt (a.length:Int) (lenI a)=false:=qah (by rw [qaa];omega)
  simp only [qde,e1,cond_false]
  rfl
theorem qkz (a:List Dq6) (f:(Dq6×Unit)→Option Bool) (p:Dq6→Bool) (hl:a.length≤140737488355328) (hp : ∀ x∈a,f (x,())=some (p x)):qbe a f=some ((a.any p,()),()):=by
 simp only [qbe,qm3 a f p hl hp,Option.bind_some,qoc]
theorem qacf (a:Dq6):qoe a a=some ((true,()),()):=by
 simp only [qoe,qbm,qnj,qiw,qdm,Bool.not_true,cond_false,Option.bind_some]
theorem qaao (a:List Dq6) (h:Sized (.list Uq4) a):qlz a a=some ((true,()),()):=by
 have hl:a.length≤140737488355328:=h.1
 unfold qlz
 simp only [qbm,Bool.not_true,cond_false]
 refine qyw (n:=a.length) (fun i hi => ?_) ?_
 ·have e1:iLt (i:Int) (lenI a)=true:=qag (by rw [qaa];omega)
  have e2:inB (i:Int) a.length=true:=qae hi
  have e5:iAdd .i64 (i:Int) 1=((i+1:Nat):Int):=qao hi (by omega)
  have e4:a.getD i Lq10=a[i]:=qaj hi
  simp only [ql0,e1,e2,e4,e5,Int.toNat_natCast,qacf _,Option.bind_some,Bool.not_true,cond_true,cond_false]
 ·have e1:iLt (a.length:Int) (lenI a)=false:=qah (by rw [qaa];omega)
  simp only [ql0,e1,cond_false]
  rfl
theorem qjt (a:Nat):qb7 a a=some ((true,()),()):=by
 unfold qb7
 rw [qim]
 cases isNan .f64 a
 ·simp only [Bool.not_false,Bool.not_true,cond_false,cond_true,qnj]
  cases fEq .f64 a 0 <;> rfl
 ·rfl
theorem qaeq (a:(Vec 3 Nat)):qp9 a a=some ((true,()),()):=by
 simp only [qp9,qbm,qnj,qiw,qdm,qjt,Bool.not_true,cond_false,Option.bind_some]
theorem qaas (a:Dq4):ql2 a a=some ((true,()),()):=by
 simp only [ql2,qbm,qnj,qiw,qdm,qaeq,qjt,Bool.not_true,cond_false,Option.bind_some]
theorem qy9 (a:List Dq4) (h:Sized (.list Uq5) a):qj9 a a=some ((true,()),()):=by
 have hl:a.length≤140737488355328:=h.1
 unfold qj9
 simp only [qbm,Bool.not_true,cond_false]
 refine qyw (n:=a.length) (fun i hi => ?_) ?_
 ·have e1:iLt (i:Int) (lenI a)=true:=qag (by rw [qaa];omega)
  have e2:inB (i:Int) a.length=true:=qae hi
  have e5:iAdd .i64 (i:Int) 1=((i+1:Nat):Int):=qao hi (by omega)
  have e4:a.getD i Lq7=a[i]:=qaj hi
  simp only [qkv,e1,e2,e4,e5,Int.toNat_natCast,qaas _,Option.bind_some,Bool.not_true,cond_true,cond_false]
 ·have e1:iLt (a.length:Int) (lenI a)=false:=qah (by rw [qaa];omega)
  simp only [qkv,e1,cond_false]
  rfl
theorem qxu (a:List (List Dq4)) (h:Sized (.list (.list Uq5)) a):qji a a=some ((true,()),()):=by
 have hl:a.length≤140737488355328:=h.1
 unfold qji
 simp only [qbm,Bool.not_true,cond_false]
 refine qyw (n:=a.length) (fun i hi => ?_) ?_
 ·have e1:iLt (i:Int) (lenI a)=true:=qag (by rw [qaa];omega)
  have e2:inB (i:Int) a.length=true:=qae hi
  have e5:iAdd .i64 (i:Int) 1=((i+1:Nat):Int):=qao hi (by omega)
  have e4:a.getD i ([]:(List Dq4))=a[i]:=qaj hi
  have hE:Sized (.list Uq5) a[i]:=h.2 _ (List.getElem_mem hi)
  simp only [qjs,e1,e2,e4,e5,Int.toNat_natCast,qy9 _ hE,Option.bind_some,Bool.not_true,cond_true,cond_false]
 ·have e1:iLt (a.length:Int) (lenI a)=false:=qah (by rw [qaa];omega)
  simp only [qjs,e1,cond_false]
  rfl
theorem qaaq (a:Dq9) (h:Sized Uq2 a):ql1 a a=some ((true,()),()):=by
 simp only [ql1,qbm,qnj,qiw,qdm,qxu a.2.2.1 h.2.2.1,qjt,Bool.not_true,cond_false,Option.bind_some]
theorem qaau (a:(List Dq6)) (k:Int) : ∃ r,ql3 a k=some ((r,()),()):=by
 unfold ql3
 simp only
 cases iLt (iSub .i64 k (lenI a)) 0 <;> exact ⟨_,rfl⟩
theorem qzb (a:(List Dq4)) (k:Int) : ∃ r,qka a k=some ((r,()),()):=by
 unfold qka
 simp only
 cases iLt (iSub .i64 k (lenI a)) 0 <;> exact ⟨_,rfl⟩
theorem qxw (a:List (List Dq4)) (k:Int) (h:Sized (.list (.list Uq5)) a) : ∃ r,qjj a k=some ((r,()),()):=by
 have hl:a.length≤140737488355328:=h.1
 unfold qjj
 simp only
 cases iLt (iSub .i64 k (lenI a)) 0
 case true=>exact ⟨_,rfl⟩
 simp only [cond_false]
 obtain ⟨o,h1,r,rfl⟩:=qaht (f:=qgc a) (fun s=>0≤s.2.1∧s.2.1≤a.length) (fun s=>(a.length-s.2.1).toNat) (fun o => ∃ r,o=((r,()),())) (fun s hs=>by
  obtain ⟨s1,s2,⟨⟩⟩:=s
  obtain ⟨h0,h1⟩:=hs
  simp only at h0 h1
  by_cases hlt:s2<a.length
  ·have e1:iLt s2 (lenI a)=true:=qag (by rw [qaa];omega)
   have e2:inB s2 a.length=true:=qam9 h0 hlt
   have e3:iAdd .i64 s2 1=s2+1:=qc7 (by omega) (by omega)
   obtain ⟨r,hr⟩:=qzb (a.getD s2.toNat ([]:(List Dq4))) s1
   simp only [qgc,e1,e2,e3,hr,Option.bind_some,cond_true]
   cases iLt r 0
   ·exact .inl ⟨_,rfl,⟨by show (0:Int)≤s2+1;omega,by show s2+1≤(a.length:Int);omega⟩,by show ((a.length:Int)-(s2+1)).toNat<((a.length:Int)-s2).toNat;omega⟩
   ·exact .inr ⟨_,rfl,_,rfl⟩
  ·have e1:iLt s2 (lenI a)=false:=qah (by rw [qaa];omega)
   simp only [qgc,e1,cond_false]
   exact .inr ⟨_,rfl,_,rfl⟩) (s:=(iSub .i64 k (lenI a),(0:Int),())) ⟨Int.le_refl _,by show (0:Int)≤a.length;omega⟩
 exact ⟨r,h1⟩
theorem qaaw (a:Dq9) (k:Int) (h:Sized Uq2 a) : ∃ r,ql4 a k=some ((r,()),()):=by
 unfold ql4
 obtain ⟨r0,h0⟩:=qxw a.2.2.1 k h.2.2.1
 rw [h0]
 simp only [Option.bind_some]
 cases iLt r0 0
 case true=>exact ⟨_,rfl⟩
 exact ⟨_,rfl⟩
theorem qach (a:Dq6):qs2 a=some ((a,()),()):=rfl
theorem qaay (a:List Dq6) (h:Fit (.list Uq4) a):qgm a=some ((a,()),()):=by
 have hl:a.length*24≤140737488351232:=h.1
 unfold qgm
 rw [qac1 a 24 hl (by decide),cond_true]
 refine qv4 (fun i hi l hll => ?_) (fun l hll => ?_)
 ·have hE:Fit Uq4 a[i]:=h.2 _ (List.getElem_mem hi)
  have e1:iLt (i:Int) (lenI a)=true:=qag (by rw [qaa];omega)
  have e2:inB (i:Int) a.length=true:=qae hi
  have e3:inB (i:Int) l.length=true:=qae (by omega)
  have e4:a.getD i Lq10=a[i]:=qaj hi
  have e5:iAdd .i64 (i:Int) 1=((i+1:Nat):Int):=qao hi (by omega)
  simp only [ql5,e1,e2,e3,Int.toNat_natCast,e4,e5,qach _,Option.bind_some,cond_true]
 ·have e1:iLt (a.length:Int) (lenI a)=false:=qah (by rw [qaa];omega)
  simp only [ql5,e1,cond_false]
  rfl
theorem qaes (a:(Vec 3 Nat)):qus a=some ((a,()),()):=rfl
theorem qaa2 (a:Dq4):ql6 a=some ((a,()),()):=by
 simp only [ql6,qaes,Option.bind_some]
 all_goals rfl
theorem qzd (a:List Dq4) (h:Fit (.list Uq5) a):qkb a=some ((a,()),()):=by
 have hl:a.length*24≤140737488351232:=h.1
 unfold qkb
 rw [qac1 a 24 hl (by decide),cond_true]
 refine qv4 (fun i hi l hll => ?_) (fun l hll => ?_)
 ·have hE:Fit Uq5 a[i]:=h.2 _ (List.getElem_mem hi)
  have e1:iLt (i:Int) (lenI a)=true:=qag (by rw [qaa];omega)
  have e2:inB (i:Int) a.length=true:=qae hi
  have e3:inB (i:Int) l.length=true:=qae (by omega)
  have e4:a.getD i Lq7=a[i]:=qaj hi
  have e5:iAdd .i64 (i:Int) 1=((i+1:Nat):Int):=qao hi (by omega)
  simp only [qkw,e1,e2,e3,Int.toNat_natCast,e4,e5,qaa2 _,Option.bind_some,cond_true]
 ·have e1:iLt (a.length:Int) (lenI a)=false:=qah (by rw [qaa];omega)
  simp only [qkw,e1,cond_false]
  rfl
theorem qxy (a:List (List Dq4)) (h:Fit (.list (.list Uq5)) a):qjk a=some ((a,()),()):=by
 have hl:a.length*24≤140737488351232:=h.1
 unfold qjk
 rw [qac1 a 24 hl (by decide),cond_true]
 refine qv4 (fun i hi l hll => ?_) (fun l hll => ?_)
 ·have hE:Fit (.list Uq5) a[i]:=h.2 _ (List.getElem_mem hi)
  have e1:iLt (i:Int) (lenI a)=true:=qag (by rw [qaa];omega)
  have e2:inB (i:Int) a.length=true:=qae hi
  have e3:inB (i:Int) l.length=true:=qae (by omega)
  have e4:a.getD i ([]:(List Dq4))=a[i]:=qaj hi
  have e5:iAdd .i64 (i:Int) 1=((i+1:Nat):Int):=qao hi (by omega)
  simp only [qjv,e1,e2,e3,Int.toNat_natCast,e4,e5,qzd _ hE,Option.bind_some,cond_true]
 ·have e1:iLt (a.length:Int) (lenI a)=false:=qah (by rw [qaa];omega)
  simp only [qjv,e1,cond_false]
  rfl
theorem qaa0 (a:Dq9) (h:Fit Uq2 a):qgn a=some ((a,()),()):=by
 simp only [qgn,qxy a.2.2.1 h.2.2.1,Option.bind_some]
theorem qm5 (a:List Dq8) (f:(Dq8×Unit)→Option Bool) (p:Dq8→Bool) (hl:a.length≤140737488355328) (hp : ∀ x∈a,f (x,())=some (p x)):qck a f=some ((indexOf p a,()),()):=by
 unfold qck
 refine qup (fun i hi => ?_) ?_
 ·have e1:iLt (i:Int) (lenI a)=true:=qag (by rw [qaa];omega)
  have e2:inB (i:Int) a.length=true:=qae hi
  have e4:a.getD i Lq3=a[i]:=qaj hi
  have e5:iAdd .i64 (i:Int) 1=((i+1:Nat):Int):=qao hi (by omega)
  have e6:=hp a[i] (List.getElem_mem hi)
  simp only [qdf,e1,e2,Int.toNat_natCast,e4,e5,e6,Option.bind_some,cond_true]
  cases p a[i] <;> rfl
 ·have e1:iLt (a.length:Int) (lenI a)=false:=qah (by rw [qaa];omega)
  simp only [qdf,e1,cond_false]
  rfl
theorem qk1 (a:List Dq8) (f:(Dq8×Unit)→Option Bool) (p:Dq8→Bool) (hl:a.length≤140737488355328) (hp : ∀ x∈a,f (x,())=some (p x)):qbf a f=some ((a.any p,()),()):=by
 simp only [qbf,qm5 a f p hl hp,Option.bind_some,qoc]
end Go.Proofs.YtjhdoneobdbeaaaGreatDoor
