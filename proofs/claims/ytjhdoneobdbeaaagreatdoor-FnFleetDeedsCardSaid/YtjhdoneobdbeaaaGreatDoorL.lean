import Derived.Test.YtjhdoneobdbeaaaGreatDoorF4
import Derived.Test.YtjhdoneobdbeaaaGreatDoorB
/- The laws' helpers in plain terms: they copy, compare and mark. -/
set_option linter.unusedSimpArgs false
set_option linter.unusedVariables false
namespace Go.Proofs.YtjhdoneobdbeaaaGreatDoor
open Go Go.Tm
theorem qqs (a:List Nat) (f:(Nat×Unit)→Option Bool) (p:Nat→Bool) (hl:a.length≤140737488355328) (hp : ∀ x∈a,f (x,())=some (p x)):qdz a f=some ((indexOf p a,()),()):=by
 unfold qdz
 refine qwu (fun i hi => ?_) ?_
 ·have e1:iLt (i:Int) (lenI a)=true:=qah (by rw [qaa];omega)
  have e2:inB (i:Int) a.length=true:=qae hi
  have e4:a.getD i (0:Nat)=a[i]:=qal hi
  have e5:iAdd .i64 (i:Int) 1=((i+1:Nat):Int):=qaq hi (by omega)
  have e6:=hp a[i] (List.getElem_mem hi)
  simp only [qe2,e1,e2,Int.toNat_natCast,e4,e5,e6,Option.bind_some,cond_true]
  cases p a[i] <;> rfl
 ·have e1:iLt (a.length:Int) (lenI a)=false:=qaf (by rw [qaa];omega)
  simp only [qe2,e1,cond_false]
  rfl
theorem qn1 (a:List Nat) (f:(Nat×Unit)→Option Bool) (p:Nat→Bool) (hl:a.length≤140737488355328) (hp : ∀ x∈a,f (x,())=some (p x)):qc0 a f=some ((a.any p,()),()):=by
 simp only [qc0,qqs a f p hl hp,Option.bind_some,qp6]
theorem qow (a:List Dq6) (f:(Dq6×Unit)→Option Bool) (p:Dq6→Bool) (hl:a.length≤140737488355328) (hp : ∀ x∈a,f (x,())=some (p x)):qc7 a f=some ((indexOf p a,()),()):=by
 unfold qc7
 refine qwu (fun i hi => ?_) ?_
 ·have e1:iLt (i:Int) (lenI a)=true:=qah (by rw [qaa];omega)
  have e2:inB (i:Int) a.length=true:=qae hi
  have e4:a.getD i Lq6=a[i]:=qal hi
  have e5:iAdd .i64 (i:Int) 1=((i+1:Nat):Int):=qaq hi (by omega)
  have e6:=hp a[i] (List.getElem_mem hi)
  simp only [qeb,e1,e2,Int.toNat_natCast,e4,e5,e6,Option.bind_some,cond_true]
  cases p a[i] <;> rfl
 ·have e1:iLt (a.length:Int) (lenI a)=false:=qaf (by rw [qaa];omega)
  simp only [qeb,e1,cond_false]
  rfl
theorem qmu (a:List Dq6) (f:(Dq6×Unit)→Option Bool) (p:Dq6→Bool) (hl:a.length≤140737488355328) (hp : ∀ x∈a,f (x,())=some (p x)):qbu a f=some ((a.any p,()),()):=by
 simp only [qbu,qow a f p hl hp,Option.bind_some,qp6]
theorem qoy (a:List Dq7) (f:(Dq7×Unit)→Option Bool) (p:Dq7→Bool) (hl:a.length≤140737488355328) (hp : ∀ x∈a,f (x,())=some (p x)):qc8 a f=some ((indexOf p a,()),()):=by
 unfold qc8
 refine qwu (fun i hi => ?_) ?_
 ·have e1:iLt (i:Int) (lenI a)=true:=qah (by rw [qaa];omega)
  have e2:inB (i:Int) a.length=true:=qae hi
  have e4:a.getD i Lq3=a[i]:=qal hi
  have e5:iAdd .i64 (i:Int) 1=((i+1:Nat):Int):=qaq hi (by omega)
  have e6:=hp a[i] (List.getElem_mem hi)
  simp only [qec,e1,e2,Int.toNat_natCast,e4,e5,e6,Option.bind_some,cond_true]
  cases p a[i] <;> rfl
 ·have e1:iLt (a.length:Int) (lenI a)=false:=qaf (by rw [qaa];omega)
  simp only [qec,e1,cond_false]
  rfl
theorem qmw (a:List Dq7) (f:(Dq7×Unit)→Option Bool) (p:Dq7→Bool) (hl:a.length≤140737488355328) (hp : ∀ x∈a,f (x,())=some (p x)):qbv a f=some ((a.any p,()),()):=by
 simp only [qbv,qoy a f p hl hp,Option.bind_some,qp6]
end Go.Proofs.YtjhdoneobdbeaaaGreatDoor
