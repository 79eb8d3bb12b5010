import Derived.Test.YtnndahnmlmgenaaGreatDoorF4
import Derived.Test.YtnndahnmlmgenaaGreatDoorB
/- The laws' helpers in plain terms: they copy, compare and mark. -/
set_option linter.unusedSimpArgs false
set_option linter.unusedVariables false
namespace Go.Proofs.YtnndahnmlmgenaaGreatDoor
open Go Go.Tm
theorem qno (a:List (Vec 3 Nat)) (f:Dq18→Option Bool) (p:(Vec 3 Nat)→Bool) (hl:a.length≤140737488355328) (hp : ∀ x∈a,f (x,())=some (p x)):qdi a f=some ((indexOf p a,()),()):=by
 unfold qdi
 refine qqc (fun i hi => ?_) ?_
 ·have e1:iLt (i:Int) (lenI a)=true:=qan (by rw [qac];omega)
  have e2:inB (i:Int) a.length=true:=qaj hi
  have e4:a.getD i Lq6=a[i]:=qbd hi
  have e5:iAdd .i64 (i:Int) 1=((i+1:Nat):Int):=qaw hi (by omega)
  have e6:=hp a[i] (List.getElem_mem hi)
  simp only [qd8,e1,e2,Int.toNat_natCast,e4,e5,e6,Option.bind_some,cond_true]
  cases p a[i] <;> rfl
 ·have e1:iLt (a.length:Int) (lenI a)=false:=qas (by rw [qac];omega)
  simp only [qd8,e1,cond_false]
  rfl
theorem ql3 (a:List (Vec 3 Nat)) (f:Dq18→Option Bool) (p:(Vec 3 Nat)→Bool) (hl:a.length≤140737488355328) (hp : ∀ x∈a,f (x,())=some (p x)):qct a f=some ((a.any p,()),()):=by
 simp only [qct,qno a f p hl hp,Option.bind_some,qkm]
theorem qmn (a:List Dq3) (f:(Dq3×Unit)→Option Bool) (p:Dq3→Bool) (hl:a.length≤140737488355328) (hp : ∀ x∈a,f (x,())=some (p x)):qc2 a f=some ((indexOf p a,()),()):=by
 unfold qc2
 refine qqc (fun i hi => ?_) ?_
 ·have e1:iLt (i:Int) (lenI a)=true:=qan (by rw [qac];omega)
  have e2:inB (i:Int) a.length=true:=qaj hi
  have e4:a.getD i Lq10=a[i]:=qbd hi
  have e5:iAdd .i64 (i:Int) 1=((i+1:Nat):Int):=qaw hi (by omega)
  have e6:=hp a[i] (List.getElem_mem hi)
  simp only [qdo,e1,e2,Int.toNat_natCast,e4,e5,e6,Option.bind_some,cond_true]
  cases p a[i] <;> rfl
 ·have e1:iLt (a.length:Int) (lenI a)=false:=qas (by rw [qac];omega)
  simp only [qdo,e1,cond_false]
  rfl
theorem qks (a:List Dq3) (f:(Dq3×Unit)→Option Bool) (p:Dq3→Bool) (hl:a.length≤140737488355328) (hp : ∀ x∈a,f (x,())=some (p x)):qcf a f=some ((a.any p,()),()):=by
 simp only [qcf,qmn a f p hl hp,Option.bind_some,qkm]
theorem qo3 (a:List Nat) (f:(Nat×Unit)→Option Bool) (p:Nat→Bool) (hl:a.length≤140737488355328) (hp : ∀ x∈a,f (x,())=some (p x)):qdn a f=some ((indexOf p a,()),()):=by
 unfold qdn
 refine qqc (fun i hi => ?_) ?_
 ·have e1:iLt (i:Int) (lenI a)=true:=qan (by rw [qac];omega)
  have e2:inB (i:Int) a.length=true:=qaj hi
  have e4:a.getD i (0:Nat)=a[i]:=qbd hi
  have e5:iAdd .i64 (i:Int) 1=((i+1:Nat):Int):=qaw hi (by omega)
  have e6:=hp a[i] (List.getElem_mem hi)
  simp only [qek,e1,e2,Int.toNat_natCast,e4,e5,e6,Option.bind_some,cond_true]
  cases p a[i] <;> rfl
 ·have e1:iLt (a.length:Int) (lenI a)=false:=qas (by rw [qac];omega)
  simp only [qek,e1,cond_false]
  rfl
theorem qgi (a:List Nat) (f:(Nat×Unit)→Option Bool) (p:Nat→Bool) (hl:a.length≤140737488355328) (hp : ∀ x∈a,f (x,())=some (p x)):qc1 a f=some ((a.any p,()),()):=by
 simp only [qc1,qo3 a f p hl hp,Option.bind_some,qkm]
theorem qmy (a:List Dq5) (f:(Dq5×Unit)→Option Bool) (p:Dq5→Bool) (hl:a.length≤140737488355328) (hp : ∀ x∈a,f (x,())=some (p x)):qc9 a f=some ((indexOf p a,()),()):=by
 unfold qc9
 refine qqc (fun i hi => ?_) ?_
 ·have e1:iLt (i:Int) (lenI a)=true:=qan (by rw [qac];omega)
  have e2:inB (i:Int) a.length=true:=qaj hi
  have e4:a.getD i Lq7=a[i]:=qbd hi
  have e5:iAdd .i64 (i:Int) 1=((i+1:Nat):Int):=qaw hi (by omega)
  have e6:=hp a[i] (List.getElem_mem hi)
  simp only [qdy,e1,e2,Int.toNat_natCast,e4,e5,e6,Option.bind_some,cond_true]
  cases p a[i] <;> rfl
 ·have e1:iLt (a.length:Int) (lenI a)=false:=qas (by rw [qac];omega)
  simp only [qdy,e1,cond_false]
  rfl
theorem qli (a:List Dq5) (f:(Dq5×Unit)→Option Bool) (p:Dq5→Bool) (hl:a.length≤140737488355328) (hp : ∀ x∈a,f (x,())=some (p x)):qci a f=some ((a.any p,()),()):=by
 simp only [qci,qmy a f p hl hp,Option.bind_some,qkm]
theorem qra (a:List (Vec 3 Nat)) (hl:a.length*12≤140737488355328):qes a=some ((a,()),()):=by
 have e1:room (0+a.length) 12=true:=qd7 (by rw [Nat.zero_add];exact hl)
 simp only [qes,e1,cond_true,List.nil_append]
 cases a with
 | nil=>exact qp7 fun q=>by cases q <;> rfl
 | cons x r=>rfl
end Go.Proofs.YtnndahnmlmgenaaGreatDoor
