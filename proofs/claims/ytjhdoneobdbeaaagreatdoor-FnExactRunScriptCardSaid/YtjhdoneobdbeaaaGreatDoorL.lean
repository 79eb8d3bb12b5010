import Derived.Test.YtjhdoneobdbeaaaGreatDoorF4
import Derived.Test.YtjhdoneobdbeaaaGreatDoorB
/- The laws' helpers in plain terms: they copy, compare and mark. -/
set_option linter.unusedSimpArgs false
set_option linter.unusedVariables false
namespace Go.Proofs.YtjhdoneobdbeaaaGreatDoor
open Go Go.Tm
theorem qnx (a:List Dq6) (f:(Dq6×Unit)→Option Bool) (p:Dq6→Bool) (hl:a.length≤140737488355328) (hp : ∀ x∈a,f (x,())=some (p x)):qc2 a f=some ((indexOf p a,()),()):=by
 unfold qc2
 refine qabi (fun i hi => ?_) ?_
 ·have e1:iLt (i:Int) (lenI a)=true:=qah (by rw [qaa];omega)
  have e2:inB (i:Int) a.length=true:=qae hi
  have e4:a.getD i Lq3=a[i]:=qan hi
  have e5:iAdd .i64 (i:Int) 1=((i+1:Nat):Int):=qaq hi (by omega)
  have e6:=hp a[i] (List.getElem_mem hi)
  simp only [qd1,e1,e2,Int.toNat_natCast,e4,e5,e6,Option.bind_some,cond_true]
  cases p a[i] <;> rfl
 ·have e1:iLt (a.length:Int) (lenI a)=false:=qag (by rw [qaa];omega)
  simp only [qd1,e1,cond_false]
  rfl
theorem ql3 (a:List Dq6) (f:(Dq6×Unit)→Option Bool) (p:Dq6→Bool) (hl:a.length≤140737488355328) (hp : ∀ x∈a,f (x,())=some (p x)):qbn a f=some ((a.any p,()),()):=by
 simp only [qbn,qnx a f p hl hp,Option.bind_some,qtr]
theorem qpo (a:List Nat) (f:(Nat×Unit)→Option Bool) (p:Nat→Bool) (hl:a.length≤140737488355328) (hp : ∀ x∈a,f (x,())=some (p x)):qdp a f=some ((indexOf p a,()),()):=by
 unfold qdp
 refine qabi (fun i hi => ?_) ?_
 ·have e1:iLt (i:Int) (lenI a)=true:=qah (by rw [qaa];omega)
  have e2:inB (i:Int) a.length=true:=qae hi
  have e4:a.getD i (0:Nat)=a[i]:=qan hi
  have e5:iAdd .i64 (i:Int) 1=((i+1:Nat):Int):=qaq hi (by omega)
  have e6:=hp a[i] (List.getElem_mem hi)
  simp only [qem,e1,e2,Int.toNat_natCast,e4,e5,e6,Option.bind_some,cond_true]
  cases p a[i] <;> rfl
 ·have e1:iLt (a.length:Int) (lenI a)=false:=qag (by rw [qaa];omega)
  simp only [qem,e1,cond_false]
  rfl
theorem qm9 (a:List Nat) (f:(Nat×Unit)→Option Bool) (p:Nat→Bool) (hl:a.length≤140737488355328) (hp : ∀ x∈a,f (x,())=some (p x)):qcx a f=some ((a.any p,()),()):=by
 simp only [qcx,qpo a f p hl hp,Option.bind_some,qtr]
theorem qky (a:Nat):qco a a=some ((true,()),()):=by
 unfold qco
 rw [qjs]
 cases isNan .f64 a
 ·simp only [Bool.not_false,Bool.not_true,cond_false,cond_true,qu4]
  cases fEq .f64 a 0 <;> rfl
 ·rfl
theorem qae9 (a:(Vec 3 Nat)):qqz a a=some ((true,()),()):=by
 simp only [qqz,qbt,qu4,qct,qe7,qky,Bool.not_true,cond_false,Option.bind_some]
theorem qabm (a:Dq4):qm0 a a=some ((true,()),()):=by
 simp only [qm0,qbt,qu4,qct,qe7,qae9,qky,Bool.not_true,cond_false,Option.bind_some]
theorem qz3 (a:List Dq4) (h:Sized (.list Uq4) a):qlf a a=some ((true,()),()):=by
 have hl:a.length≤140737488355328:=h.1
 unfold qlf
 simp only [qbt,Bool.not_true,cond_false]
 refine qafm (n:=a.length) (fun i hi => ?_) ?_
 ·have e1:iLt (i:Int) (lenI a)=true:=qah (by rw [qaa];omega)
  have e2:inB (i:Int) a.length=true:=qae hi
  have e5:iAdd .i64 (i:Int) 1=((i+1:Nat):Int):=qaq hi (by omega)
  have e4:a.getD i Lq7=a[i]:=qan hi
  simp only [qlz,e1,e2,e4,e5,Int.toNat_natCast,qabm _,Option.bind_some,Bool.not_true,cond_true,cond_false]
 ·have e1:iLt (a.length:Int) (lenI a)=false:=qag (by rw [qaa];omega)
  simp only [qlz,e1,cond_false]
  rfl
theorem qyp (a:List (List Dq4)) (h:Sized (.list (.list Uq4)) a):qkk a a=some ((true,()),()):=by
 have hl:a.length≤140737488355328:=h.1
 unfold qkk
 simp only [qbt,Bool.not_true,cond_false]
 refine qafm (n:=a.length) (fun i hi => ?_) ?_
 ·have e1:iLt (i:Int) (lenI a)=true:=qah (by rw [qaa];omega)
  have e2:inB (i:Int) a.length=true:=qae hi
  have e5:iAdd .i64 (i:Int) 1=((i+1:Nat):Int):=qaq hi (by omega)
  have e4:a.getD i ([]:(List Dq4))=a[i]:=qan hi
  have hE:Sized (.list Uq4) a[i]:=h.2 _ (List.getElem_mem hi)
  simp only [qkx,e1,e2,e4,e5,Int.toNat_natCast,qz3 _ hE,Option.bind_some,Bool.not_true,cond_true,cond_false]
 ·have e1:iLt (a.length:Int) (lenI a)=false:=qag (by rw [qaa];omega)
  simp only [qkx,e1,cond_false]
  rfl
theorem qabk (a:Dq8) (h:Sized Uq2 a):qmz a a=some ((true,()),()):=by
 simp only [qmz,qbt,qu4,qct,qe7,qyp a.2.2.1 h.2.2.1,qky,Bool.not_true,cond_false,Option.bind_some]
theorem qz5 (a:(List Dq4)) (k:Int) : ∃ r,qlg a k=some ((r,()),()):=by
 unfold qlg
 simp only
 cases iLt (iSub .i64 k (lenI a)) 0 <;> exact ⟨_,rfl⟩
theorem qyr (a:List (List Dq4)) (k:Int) (h:Sized (.list (.list Uq4)) a) : ∃ r,qkl a k=some ((r,()),()):=by
 have hl:a.length≤140737488355328:=h.1
 unfold qkl
 simp only
 cases iLt (iSub .i64 k (lenI a)) 0
 case true=>exact ⟨_,rfl⟩
 simp only [cond_false]
 obtain ⟨o,h1,r,rfl⟩:=qail (f:=qhd a) (fun s=>0≤s.2.1∧s.2.1≤a.length) (fun s=>(a.length-s.2.1).toNat) (fun o => ∃ r,o=((r,()),())) (fun s hs=>by
  obtain ⟨s1,s2,⟨⟩⟩:=s
  obtain ⟨h0,h1⟩:=hs
  simp only at h0 h1
  by_cases hlt:s2<a.length
  ·have e1:iLt s2 (lenI a)=true:=qah (by rw [qaa];omega)
   have e2:inB s2 a.length=true:=qaoa h0 hlt
   have e3:iAdd .i64 s2 1=s2+1:=qdt (by omega) (by omega)
   obtain ⟨r,hr⟩:=qz5 (a.getD s2.toNat ([]:(List Dq4))) s1
   simp only [qhd,e1,e2,e3,hr,Option.bind_some,cond_true]
   cases iLt r 0
   ·exact .inl ⟨_,rfl,⟨by show (0:Int)≤s2+1;omega,by show s2+1≤(a.length:Int);omega⟩,by show ((a.length:Int)-(s2+1)).toNat<((a.length:Int)-s2).toNat;omega⟩
   ·exact .inr ⟨_,rfl,_,rfl⟩
  ·have e1:iLt s2 (lenI a)=false:=qag (by rw [qaa];omega)
   simp only [qhd,e1,cond_false]
   exact .inr ⟨_,rfl,_,rfl⟩) (s:=(iSub .i64 k (lenI a),(0:Int),())) ⟨Int.le_refl _,by show (0:Int)≤a.length;omega⟩
 exact ⟨r,h1⟩
theorem qabo (a:Dq8) (k:Int) (h:Sized Uq2 a) : ∃ r,qm1 a k=some ((r,()),()):=by
 unfold qm1
 obtain ⟨r0,h0⟩:=qyr a.2.2.1 k h.2.2.1
 rw [h0]
 simp only [Option.bind_some]
 cases iLt r0 0
 case true=>exact ⟨_,rfl⟩
 exact ⟨_,rfl⟩
theorem qafb (a:(Vec 3 Nat)):qvk a=some ((a,()),()):=rfl
theorem qabs (a:Dq4):qm2 a=some ((a,()),()):=by
 simp only [qm2,qafb,Option.bind_some]
 all_goals rfl
theorem qz7 (a:List Dq4) (h:Fit (.list Uq4) a):qlh a=some ((a,()),()):=by
 have hl:a.length*24≤140737488351232:=h.1
 unfold qlh
 rw [qaio a 24 hl (by decide),cond_true]
 refine qady (fun i hi l hll => ?_) (fun l hll => ?_)
 ·have hE:Fit Uq4 a[i]:=h.2 _ (List.getElem_mem hi)
  have e1:iLt (i:Int) (lenI a)=true:=qah (by rw [qaa];omega)
  have e2:inB (i:Int) a.length=true:=qae hi
  have e3:inB (i:Int) l.length=true:=qae (by omega)
  have e4:a.getD i Lq7=a[i]:=qan hi
  have e5:iAdd .i64 (i:Int) 1=((i+1:Nat):Int):=qaq hi (by omega)
  simp only [ql0,e1,e2,e3,Int.toNat_natCast,e4,e5,qabs _,Option.bind_some,cond_true]
 ·have e1:iLt (a.length:Int) (lenI a)=false:=qag (by rw [qaa];omega)
  simp only [ql0,e1,cond_false]
  rfl
theorem qyt (a:List (List Dq4)) (h:Fit (.list (.list Uq4)) a):qkm a=some ((a,()),()):=by
 have hl:a.length*24≤140737488351232:=h.1
 unfold qkm
 rw [qaio a 24 hl (by decide),cond_true]
 refine qady (fun i hi l hll => ?_) (fun l hll => ?_)
 ·have hE:Fit (.list Uq4) a[i]:=h.2 _ (List.getElem_mem hi)
  have e1:iLt (i:Int) (lenI a)=true:=qah (by rw [qaa];omega)
  have e2:inB (i:Int) a.length=true:=qae hi
  have e3:inB (i:Int) l.length=true:=qae (by omega)
  have e4:a.getD i ([]:(List Dq4))=a[i]:=qan hi
  have e5:iAdd .i64 (i:Int) 1=((i+1:Nat):Int):=qaq hi (by omega)
  simp only [qk0,e1,e2,e3,Int.toNat_natCast,e4,e5,qz7 _ hE,Option.bind_some,cond_true]
 ·have e1:iLt (a.length:Int) (lenI a)=false:=qag (by rw [qaa];omega)
  simp only [qk0,e1,cond_false]
  rfl
theorem qabq (a:Dq8) (h:Fit Uq2 a):qhq a=some ((a,()),()):=by
 simp only [qhq,qyt a.2.2.1 h.2.2.1,Option.bind_some]
end Go.Proofs.YtjhdoneobdbeaaaGreatDoor
