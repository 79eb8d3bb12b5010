import Derived.Test.YtnndahnmlmgenaaGreatDoorF5
import Derived.Test.YtnndahnmlmgenaaGreatDoorB
/- The laws' helpers in plain terms: they copy, compare and mark. -/
set_option linter.unusedSimpArgs false
set_option linter.unusedVariables false
namespace Go.Proofs.YtnndahnmlmgenaaGreatDoor
open Go Go.Tm
theorem qqg (a:List (Vec 3 Nat)) (f:Dq20→Option Bool) (p:(Vec 3 Nat)→Bool) (hl:a.length≤140737488355328) (hp : ∀ x∈a,f (x,())=some (p x)):qd4 a f=some ((indexOf p a,()),()):=by
 unfold qd4
 refine qta (fun i hi => ?_) ?_
 ·have e1:iLt (i:Int) (lenI a)=true:=qaf (by rw [qaa];omega)
  have e2:inB (i:Int) a.length=true:=qad hi
  have e4:a.getD i Lq6=a[i]:=qao hi
  have e5:iAdd .i64 (i:Int) 1=((i+1:Nat):Int):=qat hi (by omega)
  have e6:=hp a[i] (List.getElem_mem hi)
  simp only [qe3,e1,e2,Int.toNat_natCast,e4,e5,e6,Option.bind_some,cond_true]
  cases p a[i] <;> rfl
 ·have e1:iLt (a.length:Int) (lenI a)=false:=qag (by rw [qaa];omega)
  simp only [qe3,e1,cond_false]
  rfl
theorem qn5 (a:List (Vec 3 Nat)) (f:Dq20→Option Bool) (p:(Vec 3 Nat)→Bool) (hl:a.length≤140737488355328) (hp : ∀ x∈a,f (x,())=some (p x)):qc4 a f=some ((a.any p,()),()):=by
 simp only [qc4,qqg a f p hl hp,Option.bind_some,qmg]
theorem qox (a:List Dq5) (f:(Dq5×Unit)→Option Bool) (p:Dq5→Bool) (hl:a.length≤140737488355328) (hp : ∀ x∈a,f (x,())=some (p x)):qdg a f=some ((indexOf p a,()),()):=by
 unfold qdg
 refine qta (fun i hi => ?_) ?_
 ·have e1:iLt (i:Int) (lenI a)=true:=qaf (by rw [qaa];omega)
  have e2:inB (i:Int) a.length=true:=qad hi
  have e4:a.getD i Lq7=a[i]:=qao hi
  have e5:iAdd .i64 (i:Int) 1=((i+1:Nat):Int):=qat hi (by omega)
  have e6:=hp a[i] (List.getElem_mem hi)
  simp only [qee,e1,e2,Int.toNat_natCast,e4,e5,e6,Option.bind_some,cond_true]
  cases p a[i] <;> rfl
 ·have e1:iLt (a.length:Int) (lenI a)=false:=qag (by rw [qaa];omega)
  simp only [qee,e1,cond_false]
  rfl
theorem qmk (a:List Dq5) (f:(Dq5×Unit)→Option Bool) (p:Dq5→Bool) (hl:a.length≤140737488355328) (hp : ∀ x∈a,f (x,())=some (p x)):qcq a f=some ((a.any p,()),()):=by
 simp only [qcq,qox a f p hl hp,Option.bind_some,qmg]
theorem qrw (a:List Nat) (f:(Nat×Unit)→Option Bool) (p:Nat→Bool) (hl:a.length≤140737488355328) (hp : ∀ x∈a,f (x,())=some (p x)):qed a f=some ((indexOf p a,()),()):=by
 unfold qed
 refine qta (fun i hi => ?_) ?_
 ·have e1:iLt (i:Int) (lenI a)=true:=qaf (by rw [qaa];omega)
  have e2:inB (i:Int) a.length=true:=qad hi
  have e4:a.getD i (0:Nat)=a[i]:=qao hi
  have e5:iAdd .i64 (i:Int) 1=((i+1:Nat):Int):=qat hi (by omega)
  have e6:=hp a[i] (List.getElem_mem hi)
  simp only [qfe,e1,e2,Int.toNat_natCast,e4,e5,e6,Option.bind_some,cond_true]
  cases p a[i] <;> rfl
 ·have e1:iLt (a.length:Int) (lenI a)=false:=qag (by rw [qaa];omega)
  simp only [qfe,e1,cond_false]
  rfl
theorem qhp (a:List Nat) (f:(Nat×Unit)→Option Bool) (p:Nat→Bool) (hl:a.length≤140737488355328) (hp : ∀ x∈a,f (x,())=some (p x)):qde a f=some ((a.any p,()),()):=by
 simp only [qde,qrw a f p hl hp,Option.bind_some,qmg]
theorem qpg (a:List Dq7) (f:(Dq7×Unit)→Option Bool) (p:Dq7→Bool) (hl:a.length≤140737488355328) (hp : ∀ x∈a,f (x,())=some (p x)):qdp a f=some ((indexOf p a,()),()):=by
 unfold qdp
 refine qta (fun i hi => ?_) ?_
 ·have e1:iLt (i:Int) (lenI a)=true:=qaf (by rw [qaa];omega)
  have e2:inB (i:Int) a.length=true:=qad hi
  have e4:a.getD i Lq9=a[i]:=qao hi
  have e5:iAdd .i64 (i:Int) 1=((i+1:Nat):Int):=qat hi (by omega)
  have e6:=hp a[i] (List.getElem_mem hi)
  simp only [qer,e1,e2,Int.toNat_natCast,e4,e5,e6,Option.bind_some,cond_true]
  cases p a[i] <;> rfl
 ·have e1:iLt (a.length:Int) (lenI a)=false:=qag (by rw [qaa];omega)
  simp only [qer,e1,cond_false]
  rfl
theorem qnc (a:List Dq7) (f:(Dq7×Unit)→Option Bool) (p:Dq7→Bool) (hl:a.length≤140737488355328) (hp : ∀ x∈a,f (x,())=some (p x)):qct a f=some ((a.any p,()),()):=by
 simp only [qct,qpg a f p hl hp,Option.bind_some,qmg]
theorem qt9 (a:List (Vec 3 Nat)) (hl:a.length*12≤140737488355328):qfn a=some ((a,()),()):=by
 have e1:room (0+a.length) 12=true:=qbi (by rw [Nat.zero_add];exact hl)
 simp only [qfn,e1,cond_true,List.nil_append]
 cases a with
 | nil=>exact qn7 fun q=>by cases q <;> rfl
 | cons x r=>rfl
end Go.Proofs.YtnndahnmlmgenaaGreatDoor
