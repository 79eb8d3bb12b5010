import Derived.Test.YtnndahnmlmgenaaGreatDoorF1
/- Functions on typed data: what the evaluation of each Go function is, and that it is sound. -/
set_option linter.unusedVariables false
namespace Go.Proofs.YtnndahnmlmgenaaGreatDoor
open Go Go.Tm
noncomputable section
set_option maxRecDepth 100000
variable {G : List (Nat × Obj)}
def qoa (a0:Dq3) (a1:Nat) (a2:(Vec 3 Nat)):Option Dq19 :=
 (qbo a0).bind fun y519 =>
 bif (! y519.1.1) then
  some ((Lq1,(1:Int),()),())
 else
 (qgr ([a1]:(List Nat))).bind fun y521 =>
 bif (! y521.1.1) then
  some ((Lq1,(2:Int),()),())
 else
 (qgr ([Vec.getD 3 a2 0 (0:Nat),Vec.getD 3 a2 1 (0:Nat),Vec.getD 3 a2 2 (0:Nat)]:(List Nat))).bind fun y523 =>
 bif (! y523.1.1) then
  some ((Lq1,(2:Int),()),())
 else
 let x528:=fAdd .f32 (Vec.getD 6 a0.1 0 (0:Nat)) (fMul .f32 (Vec.getD 6 a0.1 3 (0:Nat)) a1)
 (qhi a1).bind fun y560 =>
 let x565:=fAdd .f32 (Vec.getD 6 (Vec.set 6 a0.1 0 x528) 1 (0:Nat)) (fMul .f32 (Vec.getD 6 a0.1 4 (0:Nat)) a1)
 (qhi a1).bind fun y597 =>
 (qhi a1).bind fun y634 =>
 (qd5 (Vec.set 6 (Vec.set 6 (Vec.set 6 a0.1 0 x528) 1 x565) 2 (fAdd .f32 (Vec.getD 6 (Vec.set 6 (Vec.set 6 a0.1 0 x528) 1 x565) 2 (0:Nat)) (fMul .f32 (Vec.getD 6 a0.1 5 (0:Nat)) a1))) ((((fAdd .f32 (Vec.getD 6 (Vec.getD 6 a0.2.1 0 Lq2) 0 (0:Nat)) (fMul .f32 a1 (Vec.getD 6 (Vec.getD 6 a0.2.1 3 Lq2) 0 (0:Nat)))),(fAdd .f32 (Vec.getD 6 (Vec.getD 6 a0.2.1 0 Lq2) 1 (0:Nat)) (fMul .f32 a1 (Vec.getD 6 (Vec.getD 6 a0.2.1 3 Lq2) 1 (0:Nat)))),(fAdd .f32 (Vec.getD 6 (Vec.getD 6 a0.2.1 0 Lq2) 2 (0:Nat)) (fMul .f32 a1 (Vec.getD 6 (Vec.getD 6 a0.2.1 3 Lq2) 2 (0:Nat)))),(fAdd .f32 (Vec.getD 6 (Vec.getD 6 a0.2.1 0 Lq2) 3 (0:Nat)) (fMul .f32 a1 (Vec.getD 6 (Vec.getD 6 a0.2.1 3 Lq2) 3 (0:Nat)))),(fAdd .f32 (Vec.getD 6 (Vec.getD 6 a0.2.1 0 Lq2) 4 (0:Nat)) (fMul .f32 a1 (Vec.getD 6 (Vec.getD 6 a0.2.1 3 Lq2) 4 (0:Nat)))),(fAdd .f32 (Vec.getD 6 (Vec.getD 6 a0.2.1 0 Lq2) 5 (0:Nat)) (fMul .f32 a1 (Vec.getD 6 (Vec.getD 6 a0.2.1 3 Lq2) 5 (0:Nat)))),0,0,0,()),((fAdd .f32 (Vec.getD 6 (Vec.getD 6 a0.2.1 1 Lq2) 0 (0:Nat)) (fMul .f32 a1 (Vec.getD 6 (Vec.getD 6 a0.2.1 4 Lq2) 0 (0:Nat)))),(fAdd .f32 (Vec.getD 6 (Vec.getD 6 a0.2.1 1 Lq2) 1 (0:Nat)) (fMul .f32 a1 (Vec.getD 6 (Vec.getD 6 a0.2.1 4 Lq2) 1 (0:Nat)))),(fAdd .f32 (Vec.getD 6 (Vec.getD 6 a0.2.1 1 Lq2) 2 (0:Nat)) (fMul .f32 a1 (Vec.getD 6 (Vec.getD 6 a0.2.1 4 Lq2) 2 (0:Nat)))),(fAdd .f32 (Vec.getD 6 (Vec.getD 6 a0.2.1 1 Lq2) 3 (0:Nat)) (fMul .f32 a1 (Vec.getD 6 (Vec.getD 6 a0.2.1 4 Lq2) 3 (0:Nat)))),(fAdd .f32 (Vec.getD 6 (Vec.getD 6 a0.2.1 1 Lq2) 4 (0:Nat)) (fMul .f32 a1 (Vec.getD 6 (Vec.getD 6 a0.2.1 4 Lq2) 4 (0:Nat)))),(fAdd .f32 (Vec.getD 6 (Vec.getD 6 a0.2.1 1 Lq2) 5 (0:Nat)) (fMul .f32 a1 (Vec.getD 6 (Vec.getD 6 a0.2.1 4 Lq2) 5 (0:Nat)))),0,0,0,()),((fAdd .f32 (Vec.getD 6 (Vec.getD 6 a0.2.1 2 Lq2) 0 (0:Nat)) (fMul .f32 a1 (Vec.getD 6 (Vec.getD 6 a0.2.1 5 Lq2) 0 (0:Nat)))),(fAdd .f32 (Vec.getD 6 (Vec.getD 6 a0.2.1 2 Lq2) 1 (0:Nat)) (fMul .f32 a1 (Vec.getD 6 (Vec.getD 6 a0.2.1 5 Lq2) 1 (0:Nat)))),(fAdd .f32 (Vec.getD 6 (Vec.getD 6 a0.2.1 2 Lq2) 2 (0:Nat)) (fMul .f32 a1 (Vec.getD 6 (Vec.getD 6 a0.2.1 5 Lq2) 2 (0:Nat)))),(fAdd .f32 (Vec.getD 6 (Vec.getD 6 a0.2.1 2 Lq2) 3 (0:Nat)) (fMul .f32 a1 (Vec.getD 6 (Vec.getD 6 a0.2.1 5 Lq2) 3 (0:Nat)))),(fAdd .f32 (Vec.getD 6 (Vec.getD 6 a0.2.1 2 Lq2) 4 (0:Nat)) (fMul .f32 a1 (Vec.getD 6 (Vec.getD 6 a0.2.1 5 Lq2) 4 (0:Nat)))),(fAdd .f32 (Vec.getD 6 (Vec.getD 6 a0.2.1 2 Lq2) 5 (0:Nat)) (fMul .f32 a1 (Vec.getD 6 (Vec.getD 6 a0.2.1 5 Lq2) 5 (0:Nat)))),0,0,0,()),((Vec.getD 6 (Vec.getD 6 a0.2.1 3 Lq2) 0 (0:Nat)),(Vec.getD 6 (Vec.getD 6 a0.2.1 3 Lq2) 1 (0:Nat)),(Vec.getD 6 (Vec.getD 6 a0.2.1 3 Lq2) 2 (0:Nat)),(Vec.getD 6 (Vec.getD 6 a0.2.1 3 Lq2) 3 (0:Nat)),(Vec.getD 6 (Vec.getD 6 a0.2.1 3 Lq2) 4 (0:Nat)),(Vec.getD 6 (Vec.getD 6 a0.2.1 3 Lq2) 5 (0:Nat)),(fMul .f32 (Vec.getD 3 a2 0 (0:Nat)) y560.1.1),0,0,()),((Vec.getD 6 (Vec.getD 6 a0.2.1 4 Lq2) 0 (0:Nat)),(Vec.getD 6 (Vec.getD 6 a0.2.1 4 Lq2) 1 (0:Nat)),(Vec.getD 6 (Vec.getD 6 a0.2.1 4 Lq2) 2 (0:Nat)),(Vec.getD 6 (Vec.getD 6 a0.2.1 4 Lq2) 3 (0:Nat)),(Vec.getD 6 (Vec.getD 6 a0.2.1 4 Lq2) 4 (0:Nat)),(Vec.getD 6 (Vec.getD 6 a0.2.1 4 Lq2) 5 (0:Nat)),0,(fMul .f32 (Vec.getD 3 a2 1 (0:Nat)) y597.1.1),0,()),((Vec.getD 6 (Vec.getD 6 a0.2.1 5 Lq2) 0 (0:Nat)),(Vec.getD 6 (Vec.getD 6 a0.2.1 5 Lq2) 1 (0:Nat)),(Vec.getD 6 (Vec.getD 6 a0.2.1 5 Lq2) 2 (0:Nat)),(Vec.getD 6 (Vec.getD 6 a0.2.1 5 Lq2) 3 (0:Nat)),(Vec.getD 6 (Vec.getD 6 a0.2.1 5 Lq2) 4 (0:Nat)),(Vec.getD 6 (Vec.getD 6 a0.2.1 5 Lq2) 5 (0:Nat)),0,0,(fMul .f32 (Vec.getD 3 a2 2 (0:Nat)) y634.1.1),()),()):(Vec 6 (Vec 9 Nat)))).bind fun y637 =>
 some ((y637.1.1,y637.1.2.1,()),())
def qu8:Entry:=⟨⟨[.v Uq2,.v (.flt .f32),.v (.arr 3 (.flt .f32))],[.v (.val Uq2),.v (.val (.int .i64))],false⟩,fun x=>qoa x.1 x.2.1 x.2.2.1⟩
theorem qad2:Sound Tryz.prog G 167 qu8:=qab (envS (l:=[(107,qcc),(114,qk4),(201,qvi),(202,qp9)]) ⟨(qcv),(qom),(qaef),(qw3),trivial⟩) [(8,.unroll 4),(12,.unroll 7)] Tryz.func167 (by kernel_rfl) rfl fun _=>by kernel_rfl
def qh8 (a0:Dq7) (a1:(Vec 6 Nat)):Option Dq24 :=
 (qax ([Vec.getD 6 a0.1 0 (0:Nat),Vec.getD 6 a0.1 1 (0:Nat),Vec.getD 6 a0.1 2 (0:Nat),Vec.getD 6 a0.1 3 (0:Nat),Vec.getD 6 a0.1 4 (0:Nat),Vec.getD 6 a0.1 5 (0:Nat)]:(List Nat)) ([Vec.getD 6 a1 0 (0:Nat),Vec.getD 6 a1 1 (0:Nat),Vec.getD 6 a1 2 (0:Nat),Vec.getD 6 a1 3 (0:Nat),Vec.getD 6 a1 4 (0:Nat),Vec.getD 6 a1 5 (0:Nat)]:(List Nat))).bind fun y883 =>
 some ((y883.1.1,()),())
def ql1:Entry:=⟨⟨[.ro Uq4,.v (.arr 6 (.flt .f32))],[.v (.val (.flt .f32))],false⟩,fun x=>qh8 x.1 x.2.1⟩
theorem qse:Sound Tryz.prog G 210 ql1:=qab (envS (l:=[(154,qjw)]) ⟨(qmv),trivial⟩) [] Tryz.func210 (by kernel_rfl) rfl fun _=>by kernel_rfl
def qj5 (a0:(Vec 3 Nat)) (a1:(Vec 3 Nat)):Option (Dq20×Unit) :=
 let x886:=fSub .f32 (Vec.getD 3 a0 0 (0:Nat)) (Vec.getD 3 a1 0 (0:Nat))
 let x889:=fSub .f32 (Vec.getD 3 (Vec.set 3 a0 0 x886) 1 (0:Nat)) (Vec.getD 3 a1 1 (0:Nat))
 some (((Vec.set 3 (Vec.set 3 (Vec.set 3 a0 0 x886) 1 x889) 2 (fSub .f32 (Vec.getD 3 (Vec.set 3 (Vec.set 3 a0 0 x886) 1 x889) 2 (0:Nat)) (Vec.getD 3 a1 2 (0:Nat)))),()),())
def qlo:Entry:=⟨⟨[.v (.arr 3 (.flt .f32)),.v (.arr 3 (.flt .f32))],[.v (.val (.arr 3 (.flt .f32)))],false⟩,fun x=>qj5 x.1 x.2.1⟩
theorem qp5:Sound Tryz.prog G 47 qlo:=qab (envS (l:=[]) trivial) [(2,.unroll 4)] Tryz.func47 (by kernel_rfl) rfl fun _=>by kernel_rfl
def qq0 (a0:(Vec 3 Nat)):Option (((Vec 3 Nat)×Int×Unit)×Unit) :=
 (qdo a0).bind fun y894 =>
 bif (fEq .f32 y894.1.1 0) then some ((Lq6,(4:Int),()),()) else
 (qaj ([y894.1.1]:(List Nat))).bind fun y896 =>
 bif (! y896.1.1) then some ((Lq6,(4:Int),()),()) else
 let x899:=fDiv .f32 (Vec.getD 3 a0 0 (0:Nat)) y894.1.1
 let x901:=fDiv .f32 (Vec.getD 3 (Vec.set 3 a0 0 x899) 1 (0:Nat)) y894.1.1
 some (((Vec.set 3 (Vec.set 3 (Vec.set 3 a0 0 x899) 1 x901) 2 (fDiv .f32 (Vec.getD 3 (Vec.set 3 (Vec.set 3 a0 0 x899) 1 x901) 2 (0:Nat)) y894.1.1)),(0:Int),()),())
def qwx:Entry:=⟨⟨[.v (.arr 3 (.flt .f32))],[.v (.val (.arr 3 (.flt .f32))),.v (.val (.int .i64))],false⟩,fun x=>qq0 x.1⟩
theorem qafr:Sound Tryz.prog G 209 qwx:=qab (envS (l:=[(46,qgn),(48,qbm)]) ⟨(qi2),(qbq),trivial⟩) [(5,.unroll 4)] Tryz.func209 (by kernel_rfl) rfl fun _=>by kernel_rfl
def qdw (a0:Dq7):Option Dq9 :=
 (qaj ([Vec.getD 6 a0.1 0 (0:Nat),Vec.getD 6 a0.1 1 (0:Nat),Vec.getD 6 a0.1 2 (0:Nat),Vec.getD 6 a0.1 3 (0:Nat),Vec.getD 6 a0.1 4 (0:Nat),Vec.getD 6 a0.1 5 (0:Nat)]:(List Nat))).bind fun y907 =>
 bif y907.1.1 then
  (qaj ([a0.2.1,a0.2.2.1]:(List Nat))).bind fun y908 =>
  bif y908.1.1 then
   some (((fLt .f32 0 a0.2.2.1),()),())
  else some ((false,()),())
 else some ((false,()),())
def qej:Entry:=⟨⟨[.v Uq4],[.v (.val (.bool))],false⟩,fun x=>qdw x.1⟩
theorem qf0:Sound Tryz.prog G 206 qej:=qab (envS (l:=[(48,qbm)]) ⟨(qbq),trivial⟩) [] Tryz.func206 (by kernel_rfl) rfl fun _=>by kernel_rfl
def qmd (a0:Dq7):Option Dq30 :=
 (qdw a0).bind fun y905 =>
 bif (! y905.1.1) then some ((Lq9,(1:Int),()),()) else some ((a0,(0:Int),()),())
def qp7:Entry:=⟨⟨[.v Uq4],[.v (.val Uq4),.v (.val (.int .i64))],false⟩,fun x=>qmd x.1⟩
theorem qw0:Sound Tryz.prog G 211 qp7:=qab (envS (l:=[(206,qej)]) ⟨(qf0),trivial⟩) [] Tryz.func211 (by kernel_rfl) rfl fun _=>by kernel_rfl
def qln (a0:Dq3) (a1:(Vec 3 Nat)) (a2:Nat) (a3:Nat):Option Dq30 :=
 (qbo a0).bind fun y869 =>
 bif (! y869.1.1) then some ((Lq9,(1:Int),()),()) else
 (qhf a0).bind fun y871 =>
 (qj5 y871.1.1 a1).bind fun y872 =>
 (qq0 y872.1.1).bind fun y873 =>
 bif (! (iEq y873.1.2.1 0)) then some ((Lq9,y873.1.2.1,()),()) else
 let x875:=Vec.getD 3 y873.1.1 0 (0:Nat)
 let x876:=Vec.getD 3 y873.1.1 1 (0:Nat)
 let x877:=Vec.getD 3 y873.1.1 2 (0:Nat)
 (qdo y872.1.1).bind fun y878 =>
 (qh8 (((x875,x876,x877,0,0,0,()),0,a3,()):Dq7) a0.1).bind fun y880 =>
 (qmd (((x875,x876,x877,0,0,0,()),(fAdd .f32 (fSub .f32 a2 y878.1.1) y880.1.1),a3,()):Dq7)).bind fun y882 =>
 some ((y882.1.1,y882.1.2.1,()),())
def qsg:Entry:=⟨⟨[.v Uq2,.v (.arr 3 (.flt .f32)),.v (.flt .f32),.v (.flt .f32)],[.v (.val Uq4),.v (.val (.int .i64))],false⟩,fun x=>qln x.1 x.2.1 x.2.2.1 x.2.2.2.1⟩
theorem qabh:Sound Tryz.prog G 172 qsg:=qab (envS (l:=[(46,qgn),(47,qlo),(84,qkw),(107,qcc),(209,qwx),(210,ql1),(211,qp7)]) ⟨(qi2),(qp5),(qri),(qcv),(qafr),(qse),(qw0),trivial⟩) [] Tryz.func172 (by kernel_rfl) rfl fun _=>by kernel_rfl
def qmf (a0:Dq3) (a1:Dq7):Option (((Vec 6 Nat)×Nat×Nat×Unit)×Unit) :=
 (qax ([(Vec.getD 6 (Vec.getD 6 a0.2.1 0 Lq2) 0 (0:Nat)),(Vec.getD 6 (Vec.getD 6 a0.2.1 1 Lq2) 0 (0:Nat)),(Vec.getD 6 (Vec.getD 6 a0.2.1 2 Lq2) 0 (0:Nat)),(Vec.getD 6 (Vec.getD 6 a0.2.1 3 Lq2) 0 (0:Nat)),(Vec.getD 6 (Vec.getD 6 a0.2.1 4 Lq2) 0 (0:Nat)),(Vec.getD 6 (Vec.getD 6 a0.2.1 5 Lq2) 0 (0:Nat))]:(List Nat)) ([Vec.getD 6 a1.1 0 (0:Nat),Vec.getD 6 a1.1 1 (0:Nat),Vec.getD 6 a1.1 2 (0:Nat),Vec.getD 6 a1.1 3 (0:Nat),Vec.getD 6 a1.1 4 (0:Nat),Vec.getD 6 a1.1 5 (0:Nat)]:(List Nat))).bind fun y1151 =>
 (qax ([(Vec.getD 6 (Vec.getD 6 a0.2.1 1 Lq2) 1 (0:Nat)),(Vec.getD 6 (Vec.getD 6 a0.2.1 2 Lq2) 1 (0:Nat)),(Vec.getD 6 (Vec.getD 6 a0.2.1 3 Lq2) 1 (0:Nat)),(Vec.getD 6 (Vec.getD 6 a0.2.1 4 Lq2) 1 (0:Nat)),(Vec.getD 6 (Vec.getD 6 a0.2.1 5 Lq2) 1 (0:Nat))]:(List Nat)) ([Vec.getD 6 a1.1 1 (0:Nat),Vec.getD 6 a1.1 2 (0:Nat),Vec.getD 6 a1.1 3 (0:Nat),Vec.getD 6 a1.1 4 (0:Nat),Vec.getD 6 a1.1 5 (0:Nat)]:(List Nat))).bind fun y1157 =>
 (qax ([(Vec.getD 6 (Vec.getD 6 a0.2.1 2 Lq2) 2 (0:Nat)),(Vec.getD 6 (Vec.getD 6 a0.2.1 3 Lq2) 2 (0:Nat)),(Vec.getD 6 (Vec.getD 6 a0.2.1 4 Lq2) 2 (0:Nat)),(Vec.getD 6 (Vec.getD 6 a0.2.1 5 Lq2) 2 (0:Nat))]:(List Nat)) ([Vec.getD 6 a1.1 2 (0:Nat),Vec.getD 6 a1.1 3 (0:Nat),Vec.getD 6 a1.1 4 (0:Nat),Vec.getD 6 a1.1 5 (0:Nat)]:(List Nat))).bind fun y1162 =>
 (qax ([(Vec.getD 6 (Vec.getD 6 a0.2.1 3 Lq2) 3 (0:Nat)),(Vec.getD 6 (Vec.getD 6 a0.2.1 4 Lq2) 3 (0:Nat)),(Vec.getD 6 (Vec.getD 6 a0.2.1 5 Lq2) 3 (0:Nat))]:(List Nat)) ([Vec.getD 6 a1.1 3 (0:Nat),Vec.getD 6 a1.1 4 (0:Nat),Vec.getD 6 a1.1 5 (0:Nat)]:(List Nat))).bind fun y1166 =>
 (qax ([(Vec.getD 6 (Vec.getD 6 a0.2.1 4 Lq2) 4 (0:Nat)),(Vec.getD 6 (Vec.getD 6 a0.2.1 5 Lq2) 4 (0:Nat))]:(List Nat)) ([Vec.getD 6 a1.1 4 (0:Nat),Vec.getD 6 a1.1 5 (0:Nat)]:(List Nat))).bind fun y1169 =>
 (qax ([(Vec.getD 6 (Vec.getD 6 a0.2.1 5 Lq2) 5 (0:Nat))]:(List Nat)) ([Vec.getD 6 a1.1 5 (0:Nat)]:(List Nat))).bind fun y1171 =>
 (qh8 a1 a0.1).bind fun y1172 =>
 (qax ([y1151.1.1,y1157.1.1,y1162.1.1,y1166.1.1,y1169.1.1,y1171.1.1]:(List Nat)) ([y1151.1.1,y1157.1.1,y1162.1.1,y1166.1.1,y1169.1.1,y1171.1.1]:(List Nat))).bind fun y1174 =>
 some ((((y1151.1.1,y1157.1.1,y1162.1.1,y1166.1.1,y1169.1.1,y1171.1.1,()):(Vec 6 Nat)),(fSub .f32 a1.2.1 y1172.1.1),(fAdd .f32 y1174.1.1 (fMul .f32 a1.2.2.1 a1.2.2.1)),()),())
def qqa:Entry:=⟨⟨[.ro Uq2,.ro Uq4],[.v (.val (.arr 6 (.flt .f32))),.v (.val (.flt .f32)),.v (.val (.flt .f32))],false⟩,fun x=>qmf x.1 x.2.1⟩
theorem qw4:Sound Tryz.prog G 250 qqa:=qab (envS (l:=[(154,qjw),(210,ql1)]) ⟨(qmv),(qse),trivial⟩) [(3,.unroll 7),(7,.unroll 7)] Tryz.func250 (by kernel_rfl) rfl fun _=>by kernel_rfl
def qj6 (a0:Dq3) (a1:Dq7):Option Dq19 :=
 (qbo a0).bind fun y927 =>
 bif (! y927.1.1) then
  some ((Lq1,(1:Int),()),())
 else
 (qdw a1).bind fun y929 =>
 bif (! y929.1.1) then
  some ((Lq1,(1:Int),()),())
 else
 (qmf a0 a1).bind fun y931 =>
 let x932:=fDiv .f32 y931.1.2.1 y931.1.2.2.1
 (qhi (fDiv .f32 (fMul .f32 a1.2.2.1 a1.2.2.1) y931.1.2.2.1)).bind fun y935 =>
 let x938:=fDiv .f32 (fDiv .f32 1065353216 (fAdd .f32 1065353216 y935.1.1)) y931.1.2.2.1
 (qax ([Vec.getD 6 (Vec.getD 6 a0.2.1 0 Lq2) 0 (0:Nat)]:(List Nat)) ([Vec.getD 6 y931.1.1 0 (0:Nat),Vec.getD 6 y931.1.1 1 (0:Nat),Vec.getD 6 y931.1.1 2 (0:Nat),Vec.getD 6 y931.1.1 3 (0:Nat),Vec.getD 6 y931.1.1 4 (0:Nat),Vec.getD 6 y931.1.1 5 (0:Nat)]:(List Nat))).bind fun y939 =>
 let x942:=fAdd .f32 (Vec.getD 6 a0.1 0 (0:Nat)) (fMul .f32 y939.1.1 x932)
 (qax ([Vec.getD 6 (Vec.getD 6 a0.2.1 1 Lq2) 0 (0:Nat),Vec.getD 6 (Vec.getD 6 a0.2.1 1 Lq2) 1 (0:Nat)]:(List Nat)) ([Vec.getD 6 y931.1.1 0 (0:Nat),Vec.getD 6 y931.1.1 1 (0:Nat),Vec.getD 6 y931.1.1 2 (0:Nat),Vec.getD 6 y931.1.1 3 (0:Nat),Vec.getD 6 y931.1.1 4 (0:Nat),Vec.getD 6 y931.1.1 5 (0:Nat)]:(List Nat))).bind fun y973 =>
 let x976:=fAdd .f32 (Vec.getD 6 (Vec.set 6 a0.1 0 x942) 1 (0:Nat)) (fMul .f32 y973.1.1 x932)
 (qax ([Vec.getD 6 (Vec.getD 6 a0.2.1 2 Lq2) 0 (0:Nat),Vec.getD 6 (Vec.getD 6 a0.2.1 2 Lq2) 1 (0:Nat),Vec.getD 6 (Vec.getD 6 a0.2.1 2 Lq2) 2 (0:Nat)]:(List Nat)) ([Vec.getD 6 y931.1.1 0 (0:Nat),Vec.getD 6 y931.1.1 1 (0:Nat),Vec.getD 6 y931.1.1 2 (0:Nat),Vec.getD 6 y931.1.1 3 (0:Nat),Vec.getD 6 y931.1.1 4 (0:Nat),Vec.getD 6 y931.1.1 5 (0:Nat)]:(List Nat))).bind fun y1007 =>
 let x1010:=fAdd .f32 (Vec.getD 6 (Vec.set 6 (Vec.set 6 a0.1 0 x942) 1 x976) 2 (0:Nat)) (fMul .f32 y1007.1.1 x932)
 (qax ([Vec.getD 6 (Vec.getD 6 a0.2.1 3 Lq2) 0 (0:Nat),Vec.getD 6 (Vec.getD 6 a0.2.1 3 Lq2) 1 (0:Nat),Vec.getD 6 (Vec.getD 6 a0.2.1 3 Lq2) 2 (0:Nat),Vec.getD 6 (Vec.getD 6 a0.2.1 3 Lq2) 3 (0:Nat)]:(List Nat)) ([Vec.getD 6 y931.1.1 0 (0:Nat),Vec.getD 6 y931.1.1 1 (0:Nat),Vec.getD 6 y931.1.1 2 (0:Nat),Vec.getD 6 y931.1.1 3 (0:Nat),Vec.getD 6 y931.1.1 4 (0:Nat),Vec.getD 6 y931.1.1 5 (0:Nat)]:(List Nat))).bind fun y1041 =>
 let x1044:=fAdd .f32 (Vec.getD 6 (Vec.set 6 (Vec.set 6 (Vec.set 6 a0.1 0 x942) 1 x976) 2 x1010) 3 (0:Nat)) (fMul .f32 y1041.1.1 x932)
 (qax ([Vec.getD 6 (Vec.getD 6 a0.2.1 4 Lq2) 0 (0:Nat),Vec.getD 6 (Vec.getD 6 a0.2.1 4 Lq2) 1 (0:Nat),Vec.getD 6 (Vec.getD 6 a0.2.1 4 Lq2) 2 (0:Nat),Vec.getD 6 (Vec.getD 6 a0.2.1 4 Lq2) 3 (0:Nat),Vec.getD 6 (Vec.getD 6 a0.2.1 4 Lq2) 4 (0:Nat)]:(List Nat)) ([Vec.getD 6 y931.1.1 0 (0:Nat),Vec.getD 6 y931.1.1 1 (0:Nat),Vec.getD 6 y931.1.1 2 (0:Nat),Vec.getD 6 y931.1.1 3 (0:Nat),Vec.getD 6 y931.1.1 4 (0:Nat),Vec.getD 6 y931.1.1 5 (0:Nat)]:(List Nat))).bind fun y1075 =>
 let x1078:=fAdd .f32 (Vec.getD 6 (Vec.set 6 (Vec.set 6 (Vec.set 6 (Vec.set 6 a0.1 0 x942) 1 x976) 2 x1010) 3 x1044) 4 (0:Nat)) (fMul .f32 y1075.1.1 x932)
 (qax ([Vec.getD 6 (Vec.getD 6 a0.2.1 5 Lq2) 0 (0:Nat),Vec.getD 6 (Vec.getD 6 a0.2.1 5 Lq2) 1 (0:Nat),Vec.getD 6 (Vec.getD 6 a0.2.1 5 Lq2) 2 (0:Nat),Vec.getD 6 (Vec.getD 6 a0.2.1 5 Lq2) 3 (0:Nat),Vec.getD 6 (Vec.getD 6 a0.2.1 5 Lq2) 4 (0:Nat),Vec.getD 6 (Vec.getD 6 a0.2.1 5 Lq2) 5 (0:Nat)]:(List Nat)) ([Vec.getD 6 y931.1.1 0 (0:Nat),Vec.getD 6 y931.1.1 1 (0:Nat),Vec.getD 6 y931.1.1 2 (0:Nat),Vec.getD 6 y931.1.1 3 (0:Nat),Vec.getD 6 y931.1.1 4 (0:Nat),Vec.getD 6 y931.1.1 5 (0:Nat)]:(List Nat))).bind fun y1109 =>
 (qd5 (Vec.set 6 (Vec.set 6 (Vec.set 6 (Vec.set 6 (Vec.set 6 (Vec.set 6 a0.1 0 x942) 1 x976) 2 x1010) 3 x1044) 4 x1078) 5 (fAdd .f32 (Vec.getD 6 (Vec.set 6 (Vec.set 6 (Vec.set 6 (Vec.set 6 (Vec.set 6 a0.1 0 x942) 1 x976) 2 x1010) 3 x1044) 4 x1078) 5 (0:Nat)) (fMul .f32 y1109.1.1 x932))) ((((fSub .f32 (Vec.getD 6 (Vec.getD 6 a0.2.1 0 Lq2) 0 (0:Nat)) (fMul .f32 (fMul .f32 y939.1.1 x938) (Vec.getD 6 y931.1.1 0 (0:Nat)))),(fSub .f32 (Vec.getD 6 (Vec.getD 6 a0.2.1 0 Lq2) 1 (0:Nat)) (fMul .f32 (fMul .f32 y939.1.1 x938) (Vec.getD 6 y931.1.1 1 (0:Nat)))),(fSub .f32 (Vec.getD 6 (Vec.getD 6 a0.2.1 0 Lq2) 2 (0:Nat)) (fMul .f32 (fMul .f32 y939.1.1 x938) (Vec.getD 6 y931.1.1 2 (0:Nat)))),(fSub .f32 (Vec.getD 6 (Vec.getD 6 a0.2.1 0 Lq2) 3 (0:Nat)) (fMul .f32 (fMul .f32 y939.1.1 x938) (Vec.getD 6 y931.1.1 3 (0:Nat)))),(fSub .f32 (Vec.getD 6 (Vec.getD 6 a0.2.1 0 Lq2) 4 (0:Nat)) (fMul .f32 (fMul .f32 y939.1.1 x938) (Vec.getD 6 y931.1.1 4 (0:Nat)))),(fSub .f32 (Vec.getD 6 (Vec.getD 6 a0.2.1 0 Lq2) 5 (0:Nat)) (fMul .f32 (fMul .f32 y939.1.1 x938) (Vec.getD 6 y931.1.1 5 (0:Nat)))),0,0,0,()),((fSub .f32 (Vec.getD 6 (Vec.getD 6 a0.2.1 1 Lq2) 0 (0:Nat)) (fMul .f32 (fMul .f32 y973.1.1 x938) (Vec.getD 6 y931.1.1 0 (0:Nat)))),(fSub .f32 (Vec.getD 6 (Vec.getD 6 a0.2.1 1 Lq2) 1 (0:Nat)) (fMul .f32 (fMul .f32 y973.1.1 x938) (Vec.getD 6 y931.1.1 1 (0:Nat)))),(fSub .f32 (Vec.getD 6 (Vec.getD 6 a0.2.1 1 Lq2) 2 (0:Nat)) (fMul .f32 (fMul .f32 y973.1.1 x938) (Vec.getD 6 y931.1.1 2 (0:Nat)))),(fSub .f32 (Vec.getD 6 (Vec.getD 6 a0.2.1 1 Lq2) 3 (0:Nat)) (fMul .f32 (fMul .f32 y973.1.1 x938) (Vec.getD 6 y931.1.1 3 (0:Nat)))),(fSub .f32 (Vec.getD 6 (Vec.getD 6 a0.2.1 1 Lq2) 4 (0:Nat)) (fMul .f32 (fMul .f32 y973.1.1 x938) (Vec.getD 6 y931.1.1 4 (0:Nat)))),(fSub .f32 (Vec.getD 6 (Vec.getD 6 a0.2.1 1 Lq2) 5 (0:Nat)) (fMul .f32 (fMul .f32 y973.1.1 x938) (Vec.getD 6 y931.1.1 5 (0:Nat)))),0,0,0,()),((fSub .f32 (Vec.getD 6 (Vec.getD 6 a0.2.1 2 Lq2) 0 (0:Nat)) (fMul .f32 (fMul .f32 y1007.1.1 x938) (Vec.getD 6 y931.1.1 0 (0:Nat)))),(fSub .f32 (Vec.getD 6 (Vec.getD 6 a0.2.1 2 Lq2) 1 (0:Nat)) (fMul .f32 (fMul .f32 y1007.1.1 x938) (Vec.getD 6 y931.1.1 1 (0:Nat)))),(fSub .f32 (Vec.getD 6 (Vec.getD 6 a0.2.1 2 Lq2) 2 (0:Nat)) (fMul .f32 (fMul .f32 y1007.1.1 x938) (Vec.getD 6 y931.1.1 2 (0:Nat)))),(fSub .f32 (Vec.getD 6 (Vec.getD 6 a0.2.1 2 Lq2) 3 (0:Nat)) (fMul .f32 (fMul .f32 y1007.1.1 x938) (Vec.getD 6 y931.1.1 3 (0:Nat)))),(fSub .f32 (Vec.getD 6 (Vec.getD 6 a0.2.1 2 Lq2) 4 (0:Nat)) (fMul .f32 (fMul .f32 y1007.1.1 x938) (Vec.getD 6 y931.1.1 4 (0:Nat)))),(fSub .f32 (Vec.getD 6 (Vec.getD 6 a0.2.1 2 Lq2) 5 (0:Nat)) (fMul .f32 (fMul .f32 y1007.1.1 x938) (Vec.getD 6 y931.1.1 5 (0:Nat)))),0,0,0,()),((fSub .f32 (Vec.getD 6 (Vec.getD 6 a0.2.1 3 Lq2) 0 (0:Nat)) (fMul .f32 (fMul .f32 y1041.1.1 x938) (Vec.getD 6 y931.1.1 0 (0:Nat)))),(fSub .f32 (Vec.getD 6 (Vec.getD 6 a0.2.1 3 Lq2) 1 (0:Nat)) (fMul .f32 (fMul .f32 y1041.1.1 x938) (Vec.getD 6 y931.1.1 1 (0:Nat)))),(fSub .f32 (Vec.getD 6 (Vec.getD 6 a0.2.1 3 Lq2) 2 (0:Nat)) (fMul .f32 (fMul .f32 y1041.1.1 x938) (Vec.getD 6 y931.1.1 2 (0:Nat)))),(fSub .f32 (Vec.getD 6 (Vec.getD 6 a0.2.1 3 Lq2) 3 (0:Nat)) (fMul .f32 (fMul .f32 y1041.1.1 x938) (Vec.getD 6 y931.1.1 3 (0:Nat)))),(fSub .f32 (Vec.getD 6 (Vec.getD 6 a0.2.1 3 Lq2) 4 (0:Nat)) (fMul .f32 (fMul .f32 y1041.1.1 x938) (Vec.getD 6 y931.1.1 4 (0:Nat)))),(fSub .f32 (Vec.getD 6 (Vec.getD 6 a0.2.1 3 Lq2) 5 (0:Nat)) (fMul .f32 (fMul .f32 y1041.1.1 x938) (Vec.getD 6 y931.1.1 5 (0:Nat)))),0,0,0,()),((fSub .f32 (Vec.getD 6 (Vec.getD 6 a0.2.1 4 Lq2) 0 (0:Nat)) (fMul .f32 (fMul .f32 y1075.1.1 x938) (Vec.getD 6 y931.1.1 0 (0:Nat)))),(fSub .f32 (Vec.getD 6 (Vec.getD 6 a0.2.1 4 Lq2) 1 (0:Nat)) (fMul .f32 (fMul .f32 y1075.1.1 x938) (Vec.getD 6 y931.1.1 1 (0:Nat)))),(fSub .f32 (Vec.getD 6 (Vec.getD 6 a0.2.1 4 Lq2) 2 (0:Nat)) (fMul .f32 (fMul .f32 y1075.1.1 x938) (Vec.getD 6 y931.1.1 2 (0:Nat)))),(fSub .f32 (Vec.getD 6 (Vec.getD 6 a0.2.1 4 Lq2) 3 (0:Nat)) (fMul .f32 (fMul .f32 y1075.1.1 x938) (Vec.getD 6 y931.1.1 3 (0:Nat)))),(fSub .f32 (Vec.getD 6 (Vec.getD 6 a0.2.1 4 Lq2) 4 (0:Nat)) (fMul .f32 (fMul .f32 y1075.1.1 x938) (Vec.getD 6 y931.1.1 4 (0:Nat)))),(fSub .f32 (Vec.getD 6 (Vec.getD 6 a0.2.1 4 Lq2) 5 (0:Nat)) (fMul .f32 (fMul .f32 y1075.1.1 x938) (Vec.getD 6 y931.1.1 5 (0:Nat)))),0,0,0,()),((fSub .f32 (Vec.getD 6 (Vec.getD 6 a0.2.1 5 Lq2) 0 (0:Nat)) (fMul .f32 (fMul .f32 y1109.1.1 x938) (Vec.getD 6 y931.1.1 0 (0:Nat)))),(fSub .f32 (Vec.getD 6 (Vec.getD 6 a0.2.1 5 Lq2) 1 (0:Nat)) (fMul .f32 (fMul .f32 y1109.1.1 x938) (Vec.getD 6 y931.1.1 1 (0:Nat)))),(fSub .f32 (Vec.getD 6 (Vec.getD 6 a0.2.1 5 Lq2) 2 (0:Nat)) (fMul .f32 (fMul .f32 y1109.1.1 x938) (Vec.getD 6 y931.1.1 2 (0:Nat)))),(fSub .f32 (Vec.getD 6 (Vec.getD 6 a0.2.1 5 Lq2) 3 (0:Nat)) (fMul .f32 (fMul .f32 y1109.1.1 x938) (Vec.getD 6 y931.1.1 3 (0:Nat)))),(fSub .f32 (Vec.getD 6 (Vec.getD 6 a0.2.1 5 Lq2) 4 (0:Nat)) (fMul .f32 (fMul .f32 y1109.1.1 x938) (Vec.getD 6 y931.1.1 4 (0:Nat)))),(fSub .f32 (Vec.getD 6 (Vec.getD 6 a0.2.1 5 Lq2) 5 (0:Nat)) (fMul .f32 (fMul .f32 y1109.1.1 x938) (Vec.getD 6 y931.1.1 5 (0:Nat)))),0,0,0,()),()):(Vec 6 (Vec 9 Nat)))).bind fun y1144 =>
 some ((y1144.1.1,y1144.1.2.1,()),())
def qp6:Entry:=⟨⟨[.v Uq2,.v Uq4],[.v (.val Uq2),.v (.val (.int .i64))],false⟩,fun x=>qj6 x.1 x.2.1⟩
theorem qwy:Sound Tryz.prog G 207 qp6:=qab (envS (l:=[(107,qcc),(114,qk4),(154,qjw),(202,qp9),(206,qej),(250,qqa)]) ⟨(qcv),(qom),(qmv),(qw3),(qf0),(qw4),trivial⟩) [(10,.unroll 7),(15,.unroll 7)] Tryz.func207 (by kernel_rfl) rfl fun _=>by kernel_rfl
def qi5 (a0:Dq7):Option Dq9 :=
 (qdw a0).bind fun y1177 =>
 some (((! y1177.1.1),()),())
def qpj:Entry:=⟨⟨[.v Uq4],[.v (.val (.bool))],false⟩,fun x=>qi5 x.1⟩
theorem qy8:Sound Tryz.prog G 205 qpj:=qab (envS (l:=[(206,qej)]) ⟨(qf0),trivial⟩) [] Tryz.func205 (by kernel_rfl) rfl fun _=>by kernel_rfl
def qer (a0:(List Dq7)) (a1:((Dq7×Unit)→Option Bool)) (s1181:(Int×Unit)):Option ((Int×Unit)⊕Dq21) :=
 bif (iLt s1181.1 (lenI a0)) then
  bif inB s1181.1 (List.length a0) then
   (a1 ((List.getD a0 s1181.1.toNat Lq9),())).bind fun y1184 =>
   bif y1184 then
    Option.map Sum.inr (some ((s1181.1,()),()))
   else
   some (Sum.inl ((iAdd .i64 s1181.1 1),()))
  else none
 else
 Option.map Sum.inr (some ((((-1:Int):Int),()),()))
def qdp (a0:(List Dq7)) (a1:((Dq7×Unit)→Option Bool)):Option Dq21 :=
 run (qer a0 a1) ((0:Int),())
def qh4:Entry:=⟨⟨[.v (.list Uq4),.fn ⟨[.pair (.arr 6 (.flt .f32)) (.pair (.flt .f32) (.pair (.flt .f32) (.unit)))],.bool⟩],[.v (.val (.int .i64))],false⟩,fun x=>qdp x.1 x.2.1⟩
theorem qph:Sound Tryz.prog G 249 qh4:=qab (envS (l:=[]) trivial) [(2,.vary [(8,.sc (.int .i64))])] Tryz.func249 (by kernel_rfl) rfl fun _=>by kernel_rfl
def qct (a0:(List Dq7)) (a1:((Dq7×Unit)→Option Bool)):Option Dq9 :=
 (qdp a0 a1).bind fun y1179 =>
 some (((iLe 0 y1179.1.1),()),())
def qg1:Entry:=⟨⟨[.v (.list Uq4),.fn ⟨[.pair (.arr 6 (.flt .f32)) (.pair (.flt .f32) (.pair (.flt .f32) (.unit)))],.bool⟩],[.v (.val (.bool))],false⟩,fun x=>qct x.1 x.2.1⟩
theorem qnd:Sound Tryz.prog G 204 qg1:=qab (envS (l:=[(249,qh4)]) ⟨(qph),trivial⟩) [] Tryz.func204 (by kernel_rfl) rfl fun _=>by kernel_rfl
def qei (a1:(List Dq7)) (s921:(Int×Dq3×Unit)):Option ((Int×Dq3×Unit)⊕Dq19) :=
 bif (iLt s921.1 (lenI a1)) then
  bif inB s921.1 (List.length a1) then
   (qj6 s921.2.1 (List.getD a1 s921.1.toNat Lq9)).bind fun y924 =>
   bif (! (iEq y924.1.2.1 0)) then
    Option.map Sum.inr (some ((Lq1,y924.1.2.1,()),()))
   else
   some (Sum.inl ((iAdd .i64 s921.1 1),y924.1.1,()))
  else none
 else
 Option.map Sum.inr (some ((s921.2.1,(0:Int),()),()))
def qlp (a0:Dq3) (a1:(List Dq7)):Option Dq19 :=
 (qbo a0).bind fun y910 =>
 bif (! y910.1.1) then
  some ((Lq1,(1:Int),()),())
 else
 (qct a1 (fun (z912:(Dq7×Unit))=>(qi5 z912.1).map fun y=>y.1.1)).bind fun y913 =>
 bif y913.1.1 then
  some ((Lq1,(1:Int),()),())
 else
 bif (iLt 256 (lenI a1)) then
  some ((Lq1,(3:Int),()),())
 else run (qei a1) ((0:Int),a0,())
def qsj:Entry:=⟨⟨[.v Uq2,.v (.list Uq4)],[.v (.val Uq2),.v (.val (.int .i64))],false⟩,fun x=>qlp x.1 x.2.1⟩
theorem qabj:Sound Tryz.prog G 169 qsj:=qab (envS (l:=[(107,qcc),(204,qg1),(205,qpj),(207,qp6)]) ⟨(qcv),(qnd),(qy8),(qwy),trivial⟩) [(6,.vary [(26,.sc (.int .i64)),(2,.box (.val Uq2))])] Tryz.func169 (by kernel_rfl) rfl fun _=>by kernel_rfl
def qju (a0:Nat):Option Dq31 :=
 (qaj ([a0]:(List Nat))).bind fun y1206 =>
 bif (! y1206.1.1) then some (((0:Nat),(4:Int),()),()) else some ((a0,(0:Int),()),())
def qm8:Entry:=⟨⟨[.v (.flt .f32)],[.v (.val (.flt .f32)),.v (.val (.int .i64))],false⟩,fun x=>qju x.1⟩
theorem qt1:Sound Tryz.prog G 83 qm8:=qab (envS (l:=[(48,qbm)]) ⟨(qbq),trivial⟩) [] Tryz.func83 (by kernel_rfl) rfl fun _=>by kernel_rfl
def qqz (a0:Dq3) (a1:Dq7):Option Dq31 :=
 (qbo a0).bind fun y1198 =>
 bif (! y1198.1.1) then some (((0:Nat),(1:Int),()),()) else
 (qdw a1).bind fun y1200 =>
 bif (! y1200.1.1) then some (((0:Nat),(1:Int),()),()) else
 (qmf a0 a1).bind fun y1202 =>
 (qju (fDiv .f32 (fMul .f32 y1202.1.2.1 y1202.1.2.1) y1202.1.2.2.1)).bind fun y1205 =>
 some ((y1205.1.1,y1205.1.2.1,()),())
def qwv:Entry:=⟨⟨[.v Uq2,.v Uq4],[.v (.val (.flt .f32)),.v (.val (.int .i64))],false⟩,fun x=>qqz x.1 x.2.1⟩
theorem qafp:Sound Tryz.prog G 208 qwv:=qab (envS (l:=[(83,qm8),(107,qcc),(206,qej),(250,qqa)]) ⟨(qt1),(qcv),(qf0),(qw4),trivial⟩) [] Tryz.func208 (by kernel_rfl) rfl fun _=>by kernel_rfl
def qbl (a0:Dq3) (a1:Dq7) (a2:Nat):Option Dq29 :=
 (qbo a0).bind fun y1186 =>
 bif (! y1186.1.1) then
  some ((Lq1,false,(1:Int),()),())
 else
 (qdw a1).bind fun y1188 =>
 bif (! y1188.1.1) then
  some ((Lq1,false,(1:Int),()),())
 else
 bif (! (fLe .f32 0 a2)) then
  some ((Lq1,false,(2:Int),()),())
 else
 (qqz a0 a1).bind fun y1192 =>
 bif (! (iEq y1192.1.2.1 0)) then
  some ((Lq1,false,y1192.1.2.1,()),())
 else
 bif (! (fLe .f32 y1192.1.1 a2)) then some ((a0,false,(0:Int),()),()) else
 (qj6 a0 a1).bind fun y1196 =>
 some ((y1196.1.1,(iEq y1196.1.2.1 0),y1196.1.2.1,()),())
def qpk:Entry:=⟨⟨[.v Uq2,.v Uq4,.v (.flt .f32)],[.v (.val Uq2),.v (.val (.bool)),.v (.val (.int .i64))],false⟩,fun x=>qbl x.1 x.2.1 x.2.2.1⟩
theorem qy9:Sound Tryz.prog G 171 qpk:=qab (envS (l:=[(107,qcc),(206,qej),(207,qp6),(208,qwv)]) ⟨(qcv),(qf0),(qwy),(qafp),trivial⟩) [] Tryz.func171 (by kernel_rfl) rfl fun _=>by kernel_rfl
def qqy (a0:Int) (a1:Nat) (a2:Nat):Option Dq30 :=
 bif (iLt a0 0) then some ((Lq9,(2:Int),()),()) else
 bif (iLt 5 a0) then some ((Lq9,(2:Int),()),()) else
 bif inB a0 6 then
  (qmd ((Vec.set 6 Lq2 a0.toNat (1065353216:Nat),a1,a2,()):Dq7)).bind fun y1211 =>
  some ((y1211.1.1,y1211.1.2.1,()),())
 else none
def qwt:Entry:=⟨⟨[.v (.int .i64),.v (.flt .f32),.v (.flt .f32)],[.v (.val Uq4),.v (.val (.int .i64))],false⟩,fun x=>qqy x.1 x.2.1 x.2.2.1⟩
theorem qafm:Sound Tryz.prog G 203 qwt:=qab (envS (l:=[(211,qp7)]) ⟨(qw0),trivial⟩) [] Tryz.func203 (by kernel_rfl) rfl fun _=>by kernel_rfl
def qa7 (a0:Int) (a1:Nat) (a2:Nat):Option ((Dq7×Unit)×Unit) :=
 (qqy a0 a1 a2).bind fun y1208 =>
 some ((y1208.1.1,()),())
def qvh:Entry:=⟨⟨[.v (.int .i64),.v (.flt .f32),.v (.flt .f32)],[.v (.val Uq4)],false⟩,fun x=>qa7 x.1 x.2.1 x.2.2.1⟩
theorem qaec:Sound Tryz.prog G 168 qvh:=qab (envS (l:=[(203,qwt)]) ⟨(qafm),trivial⟩) [] Tryz.func168 (by kernel_rfl) rfl fun _=>by kernel_rfl
def qgt (a0:Dq27) (a1:(Vec 3 Int)):Option (Dq20×Unit) :=
 some (((((fAdd .f32 (fMul .f32 (fOfInt .f32 (Vec.getD 3 a1 0 (0:Int))) (Vec.getD 3 a0.1 0 (0:Nat))) (Vec.getD 3 a0.2.1 0 (0:Nat))),(fAdd .f32 (fMul .f32 (fOfInt .f32 (Vec.getD 3 a1 1 (0:Int))) (Vec.getD 3 a0.1 1 (0:Nat))) (Vec.getD 3 a0.2.1 1 (0:Nat))),(fAdd .f32 (fMul .f32 (fOfInt .f32 (Vec.getD 3 a1 2 (0:Int))) (Vec.getD 3 a0.1 2 (0:Nat))) (Vec.getD 3 a0.2.1 2 (0:Nat))),()):(Vec 3 Nat)),()),())
def qpm:Entry:=⟨⟨[.v Uq9,.v (.arr 3 (.int .i16))],[.v (.val (.arr 3 (.flt .f32)))],false⟩,fun x=>qgt x.1 x.2.1⟩
theorem qzb:Sound Tryz.prog G 170 qpm:=qab (envS (l:=[]) trivial) [(3,.unroll 4)] Tryz.func170 (by kernel_rfl) rfl fun _=>by kernel_rfl
def qdz (a0:Dq2) (a1:Dq3) (a2:Dq5):Option Dq29 :=
 bif (iEq a2.1 1) then
  (qoa a1 (fDiv .f32 1065353216 (fOfInt .f32 a0.1)) ((1048576000,1048576000,1048576000,()):(Vec 3 Nat))).bind fun y485 =>
  some ((y485.1.1,(iEq y485.1.2.1 0),y485.1.2.1,()),())
 else
 bif (iEq a2.1 2) then
  (qa7 (3:Int) (Vec.getD 3 a2.2.1 0 (0:Nat)) (1040187392:Nat)).bind fun y489 =>
  (qa7 (4:Int) (Vec.getD 3 a2.2.1 1 (0:Nat)) (1040187392:Nat)).bind fun y491 =>
  (qa7 (5:Int) (Vec.getD 3 a2.2.1 2 (0:Nat)) (1040187392:Nat)).bind fun y493 =>
  (qlp a1 ([y489.1.1,y491.1.1,y493.1.1]:(List Dq7))).bind fun y494 =>
  some ((y494.1.1,(iEq y494.1.2.1 0),y494.1.2.1,()),())
 else
 bif (iEq a2.1 3) then
  (qgf).bind fun y497 =>
  (qgt y497.1.1 a2.2.2.1).bind fun y498 =>
  (qa7 (0:Int) (Vec.getD 3 y498.1.1 0 (0:Nat)) (1056964608:Nat)).bind fun y500 =>
  (qbl a1 y500.1.1 (1091567616:Nat)).bind fun y501 =>
  bif (! (iEq y501.1.2.2.1 0)) then
   some ((Lq1,false,y501.1.2.2.1,()),())
  else
  (qa7 (1:Int) (Vec.getD 3 y498.1.1 1 (0:Nat)) (1056964608:Nat)).bind fun y504 =>
  (qbl y501.1.1 y504.1.1 (1091567616:Nat)).bind fun y505 =>
  bif (! (iEq y505.1.2.2.1 0)) then
   some ((Lq1,false,y505.1.2.2.1,()),())
  else
  bif y501.1.2.1 then
   (qa7 (2:Int) (Vec.getD 3 y498.1.1 2 (0:Nat)) (1056964608:Nat)).bind fun y508 =>
   (qbl y505.1.1 y508.1.1 (1091567616:Nat)).bind fun y509 =>
   bif (! (iEq y509.1.2.2.1 0)) then
    some ((Lq1,false,y509.1.2.2.1,()),())
   else
   bif y505.1.2.1 then some ((y509.1.1,y509.1.2.1,(0:Int),()),()) else some ((y509.1.1,false,(0:Int),()),())
  else
  (qa7 (2:Int) (Vec.getD 3 y498.1.1 2 (0:Nat)) (1056964608:Nat)).bind fun y512 =>
  (qbl y505.1.1 y512.1.1 (1091567616:Nat)).bind fun y513 =>
  bif (! (iEq y513.1.2.2.1 0)) then
   some ((Lq1,false,y513.1.2.2.1,()),())
  else some ((y513.1.1,false,(0:Int),()),())
 else
 bif inB a2.2.2.2.1 (List.length a0.2.2.1) then
  (qln a1 (List.getD a0.2.2.1 a2.2.2.2.1.toNat Lq6) a2.2.2.2.2.1 (1056964608:Nat)).bind fun y516 =>
  bif (! (iEq y516.1.2.1 0)) then some ((a1,false,(0:Int),()),()) else
  (qbl a1 y516.1.1 (1091567616:Nat)).bind fun y518 =>
  some ((y518.1.1,y518.1.2.1,y518.1.2.2.1,()),())
 else none
def qso:Entry:=⟨⟨[.v Uq5,.v Uq2,.v Uq1],[.v (.val Uq2),.v (.val (.bool)),.v (.val (.int .i64))],false⟩,fun x=>qdz x.1 x.2.1 x.2.2.1⟩
theorem qabm:Sound Tryz.prog G 132 qso:=qab (envS (l:=[(45,ql2),(167,qu8),(168,qvh),(169,qsj),(170,qpm),(171,qpk),(172,qsg)]) ⟨(qsf),(qad2),(qaec),(qabj),(qzb),(qy9),(qabh),trivial⟩) [(8,.unroll 4),(17,.unroll 4)] Tryz.func132 (by kernel_rfl) rfl fun _=>by kernel_rfl
def qcn (a3:Int) (a0:Dq2) (s473:((List Int)×Int×Dq3×Unit)):Option (((List Int)×Int×Dq3×Unit)⊕Dq32) :=
 bif (iLt s473.2.1 a3) then
  bif inB s473.2.1 (List.length a0.2.2.2.1) then
   (qdz a0 s473.2.2.1 (List.getD a0.2.2.2.1 s473.2.1.toNat Lq7)).bind fun y476 =>
   bif (! (iEq y476.1.2.2.1 0)) then
    Option.map Sum.inr (some ((Lq1,([]:(List Int)),y476.1.2.2.1,()),()))
   else
   bif (! y476.1.2.1) then
    bif room (List.length s473.1+1) 8 then
     some (Sum.inl ((s473.1++([s473.2.1]:(List Int))),(iAdd .i64 s473.2.1 1),y476.1.1,()))
    else none
   else
   some (Sum.inl (s473.1,(iAdd .i64 s473.2.1 1),y476.1.1,()))
  else none
 else
 Option.map Sum.inr (some ((s473.2.2.1,s473.1,(0:Int),()),()))
def qme (a0:Dq2) (a1:Dq3) (a2:Int) (a3:Int):Option Dq32 :=
 run (qcn a3 a0) (([]:(List Int)),a2,a1,())
def qp8:Entry:=⟨⟨[.v Uq5,.v Uq2,.v (.int .i64),.v (.int .i64)],[.v (.val Uq2),.v (.rows (.int .i64)),.v (.val (.int .i64))],false⟩,fun x=>qme x.1 x.2.1 x.2.2.1 x.2.2.2.1⟩
theorem qw2:Sound Tryz.prog G 74 qp8:=qab (envS (l:=[(132,qso)]) ⟨(qabm),trivial⟩) [(3,.vary [(11,.rows (.int .i64)),(12,.sc (.int .i64)),(5,.box (.val Uq2))])] Tryz.func74 (by kernel_rfl) rfl fun _=>by kernel_rfl
def qia (a0:Dq2):Option Dq19 :=
 (qel a0).bind fun y393 =>
 bif (! y393.1.1) then
  some ((Lq1,(1:Int),()),())
 else
 (qfl a0).bind fun y395 =>
 (qme a0 y395.1.1 (0:Int) (lenI a0.2.2.2.1)).bind fun y396 =>
 some ((y396.1.1,y396.1.2.2.1,()),())
def qsh:Entry:=⟨⟨[.v Uq5],[.v (.val Uq2),.v (.val (.int .i64))],false⟩,fun x=>qia x.1⟩
theorem qabi:Sound Tryz.prog G 33 qsh:=qab (envS (l:=[(12,qe0),(74,qp8),(75,qk1)]) ⟨(qgq),(qw2),(qrn),trivial⟩) [] Tryz.func33 (by kernel_rfl) rfl fun _=>by kernel_rfl
def qi4 (a0:(Vec 3 Int)) (a1:Int) (a2:Int):Option (((Vec 3 Int)×Int×Int×Unit)×Unit) :=
 bif (iLt a2 0) then some ((((0,0,0,()):(Vec 3 Int)),(0:Int),(2:Int),()),()) else
 let x1305:=iAdd .u32 (iMul .u32 1664525 a1) 1013904223
 let x1310:=iAdd .i64 (iMul .i64 2 (iWrap .i64 a2)) 1
 bif iEq x1310 0 then none else
 let x1319:=iWrap .i16 (iMin 32767 (iMax (-32768:Int) (iAdd .i64 (iWrap .i64 (Vec.getD 3 a0 0 (0:Int))) (iSub .i64 (iRem .i64 (iWrap .i64 (iShr .u32 x1305 16)) x1310) (iWrap .i64 a2)))))
 let x1321:=iAdd .u32 (iMul .u32 1664525 x1305) 1013904223
 let x1326:=iAdd .i64 (iMul .i64 2 (iWrap .i64 a2)) 1
 bif iEq x1326 0 then none else
 let x1335:=iWrap .i16 (iMin 32767 (iMax (-32768:Int) (iAdd .i64 (iWrap .i64 (Vec.getD 3 (Vec.set 3 a0 0 x1319) 1 (0:Int))) (iSub .i64 (iRem .i64 (iWrap .i64 (iShr .u32 x1321 16)) x1326) (iWrap .i64 a2)))))
 let x1337:=iAdd .u32 (iMul .u32 1664525 x1321) 1013904223
 let x1342:=iAdd .i64 (iMul .i64 2 (iWrap .i64 a2)) 1
 bif iEq x1342 0 then none else
 some (((Vec.set 3 (Vec.set 3 (Vec.set 3 a0 0 x1319) 1 x1335) 2 (iWrap .i16 (iMin 32767 (iMax (-32768:Int) (iAdd .i64 (iWrap .i64 (Vec.getD 3 (Vec.set 3 (Vec.set 3 a0 0 x1319) 1 x1335) 2 (0:Int))) (iSub .i64 (iRem .i64 (iWrap .i64 (iShr .u32 x1337 16)) x1342) (iWrap .i64 a2))))))),x1337,(0:Int),()),())
def qpi:Entry:=⟨⟨[.v (.arr 3 (.int .i16)),.v (.int .u32),.v (.int .i16)],[.v (.val (.arr 3 (.int .i16))),.v (.val (.int .u32)),.v (.val (.int .i64))],false⟩,fun x=>qi4 x.1 x.2.1 x.2.2.1⟩
theorem qy7:Sound Tryz.prog G 43 qpi:=qab (envS (l:=[]) trivial) [(4,.unroll 4)] Tryz.func43 (by kernel_rfl) rfl fun _=>by kernel_rfl
def qv8 (a0:(Vec 3 Nat)) (a1:(Vec 3 Nat)):Option (Dq20×Unit) :=
 let x1399:=fAdd .f32 (Vec.getD 3 a0 0 (0:Nat)) (Vec.getD 3 a1 0 (0:Nat))
 let x1402:=fAdd .f32 (Vec.getD 3 (Vec.set 3 a0 0 x1399) 1 (0:Nat)) (Vec.getD 3 a1 1 (0:Nat))
 some (((Vec.set 3 (Vec.set 3 (Vec.set 3 a0 0 x1399) 1 x1402) 2 (fAdd .f32 (Vec.getD 3 (Vec.set 3 (Vec.set 3 a0 0 x1399) 1 x1402) 2 (0:Nat)) (Vec.getD 3 a1 2 (0:Nat)))),()),())
def qws:Entry:=⟨⟨[.v (.arr 3 (.flt .f32)),.v (.arr 3 (.flt .f32))],[.v (.val (.arr 3 (.flt .f32)))],false⟩,fun x=>qv8 x.1 x.2.1⟩
theorem qafk:Sound Tryz.prog G 101 qws:=qab (envS (l:=[]) trivial) [(2,.unroll 4)] Tryz.func101 (by kernel_rfl) rfl fun _=>by kernel_rfl
def qr2 (a0:(Vec 3 Nat)) (a1:Nat):Option (Dq20×Unit) :=
 let x1408:=fMul .f32 (Vec.getD 3 a0 0 (0:Nat)) a1
 let x1410:=fMul .f32 (Vec.getD 3 (Vec.set 3 a0 0 x1408) 1 (0:Nat)) a1
 some (((Vec.set 3 (Vec.set 3 (Vec.set 3 a0 0 x1408) 1 x1410) 2 (fMul .f32 (Vec.getD 3 (Vec.set 3 (Vec.set 3 a0 0 x1408) 1 x1410) 2 (0:Nat)) a1)),()),())
def qtx:Entry:=⟨⟨[.v (.arr 3 (.flt .f32)),.v (.flt .f32)],[.v (.val (.arr 3 (.flt .f32)))],false⟩,fun x=>qr2 x.1 x.2.1⟩
theorem qack:Sound Tryz.prog G 102 qtx:=qab (envS (l:=[]) trivial) [(2,.unroll 4)] Tryz.func102 (by kernel_rfl) rfl fun _=>by kernel_rfl
def qoo (a0:Dq4) (s1432:Dq26):Option (Dq26⊕Dq21) :=
 bif (iLt s1432.2.1 (lenI a0.2.2.2.1)) then
  bif inB s1432.2.1 (List.length a0.2.2.2.1) then
   some (Sum.inl ((iAdd .i64 s1432.1 (List.getD a0.2.2.2.1 s1432.2.1.toNat Lq5).1),(iAdd .i64 s1432.2.1 1),()))
  else none
 else
 Option.map Sum.inr (some ((s1432.1,()),()))
def qk6 (a0:Dq4):Option Dq21 :=
 run (qoo a0) ((0:Int),(0:Int),())
def qon:Entry:=⟨⟨[.v Uq3],[.v (.val (.int .i64))],false⟩,fun x=>qk6 x.1⟩
theorem qvl:Sound Tryz.prog G 58 qon:=qab (envS (l:=[]) trivial) [(3,.vary [(3,.sc (.int .i64)),(9,.sc (.int .i64))])] Tryz.func58 (by kernel_rfl) rfl fun _=>by kernel_rfl
def qf5 (a0:Dq4) (s1417:(Int×Unit)):Option ((Int×Unit)⊕Dq9) :=
 bif (iLt s1417.1 (lenI a0.2.2.2.1)) then
  bif inB s1417.1 (List.length a0.2.2.2.1) then
   let x1419:=List.getD a0.2.2.2.1 s1417.1.toNat Lq5
   (qb0 x1419.1 (1:Int) (400:Int)).bind fun y1420 =>
   bif (! y1420.1.1) then
    Option.map Sum.inr (some ((false,()),()))
   else
   (qbp x1419.2.1).bind fun y1422 =>
   bif (! y1422.1.1) then
    Option.map Sum.inr (some ((false,()),()))
   else
   (qb0 x1419.2.2.1 (0:Int) (400:Int)).bind fun y1424 =>
   bif (! y1424.1.1) then
    Option.map Sum.inr (some ((false,()),()))
   else
   (qb0 x1419.2.2.2.1 ((-1:Int):Int) (iSub .i64 (lenI a0.2.2.1) 1)).bind fun y1427 =>
   bif (! y1427.1.1) then
    Option.map Sum.inr (some ((false,()),()))
   else
   some (Sum.inl ((iAdd .i64 s1417.1 1),()))
  else none
 else
 Option.map Sum.inr (
  (qk6 a0).bind fun y1430 =>
  some (((iLe y1430.1.1 400),()),()))
def qf1 (a0:Dq4):Option Dq9 :=
 (qhj a0.1 a0.2.1 a0.2.2.1).bind fun y1414 =>
 bif (! y1414.1.1) then some ((false,()),()) else
 bif (iLt 64 (lenI a0.2.2.2.1)) then some ((false,()),()) else run (qf5 a0) ((0:Int),())
def qi6:Entry:=⟨⟨[.v Uq3],[.v (.val (.bool))],false⟩,fun x=>qf1 x.1⟩
theorem qoi:Sound Tryz.prog G 27 qi6:=qab (envS (l:=[(54,qk7),(58,qon),(97,qih),(98,qdh)]) ⟨(qrq),(qvl),(qlr),(qeu),trivial⟩) [(4,.vary [(22,.sc (.int .i64))])] Tryz.func27 (by kernel_rfl) rfl fun _=>by kernel_rfl
def qty (x1379:(Int×Dq8)) (x1356:Nat) (s1377:Dq14) (s1388:Dq14):Option (Dq14⊕(Dq14⊕Dq17)) :=
 bif (iLt s1388.2.1 x1379.1) then
  (qr2 x1379.2.1 x1356).bind fun y1390 =>
  (qv8 s1388.2.2.1 y1390.1.1).bind fun y1391 =>
  (qbp y1391.1.1).bind fun y1392 =>
  bif (! y1392.1.1) then
   Option.map Sum.inr (Option.map Sum.inr (some ((([]:(List (Vec 3 Nat))),(4:Int),()),())))
  else
  bif room (List.length s1388.1+1) 12 then
   some (Sum.inl ((s1388.1++([y1391.1.1]:(List (Vec 3 Nat)))),(iAdd .i64 s1388.2.1 1),y1391.1.1,()))
  else none
 else
 Option.map Sum.inr (some (Sum.inl (s1388.1,(iAdd .i64 s1377.2.1 1),s1388.2.2.1,())))
def qoh (a0:Dq4) (x1356:Nat) (s1377:Dq14):Option (Dq14⊕Dq17) :=
 bif (iLt s1377.2.1 (lenI a0.2.2.2.1)) then
  bif inB s1377.2.1 (List.length a0.2.2.2.1) then
   let x1379:=List.getD a0.2.2.2.1 s1377.2.1.toNat Lq5
   run (qty x1379 x1356 s1377) (s1377.1,(0:Int),s1377.2.2.1,())
  else none
 else
 Option.map Sum.inr (some ((s1377.1,(0:Int),()),()))
def qic (a0:Dq4):Option Dq17 :=
 (qf1 a0).bind fun y1353 =>
 bif (! y1353.1.1) then some ((([]:(List (Vec 3 Nat))),(1:Int),()),()) else
 let x1356:=fDiv .f32 1065353216 (fOfInt .f32 a0.1)
 run (qoh a0 x1356) (([a0.2.1]:(List (Vec 3 Nat))),(0:Int),a0.2.1,())
def qog:Entry:=⟨⟨[.v Uq3],[.v (.rows (.arr 3 (.flt .f32))),.v (.val (.int .i64))],false⟩,fun x=>qic x.1⟩
theorem qvf:Sound Tryz.prog G 29 qog:=qab (envS (l:=[(27,qi6),(98,qdh),(101,qws),(102,qtx)]) ⟨(qoi),(qeu),(qafk),(qack),trivial⟩) [(7,.vary [(6,.rows (.arr 3 (.flt .f32))),(23,.sc (.int .i64)),(5,.box (.val (.arr 3 (.flt .f32))))]),(10,.vary [(6,.rows (.arr 3 (.flt .f32))),(29,.sc (.int .i64)),(5,.box (.val (.arr 3 (.flt .f32))))])] Tryz.func29 (by kernel_rfl) rfl fun _=>by kernel_rfl
theorem qpn:Sound Tryz.prog G 152 qkf:=qakv (name := "math.RoundToEven") Tryz.func152 (by kernel_rfl) (by kernel_rfl) (by kernel_rfl) (by kernel_rfl)
def qib (a0:Nat):Option Dq21 :=
 (qf6 a0).bind fun y1455 =>
 bif y1455.1.1 then some (((0:Int),()),()) else
 (fConv .f32 .f64 a0).bind fun y1456 =>
 (qja y1456).bind fun y1457 =>
 (fToInt .f64 (fMin .f64 4674736138332667904 (fMax .f64 13898108450065350656 y1457.1.1)) .i16).bind fun n1460 =>
 some ((n1460,()),())
def qve:Entry:=⟨⟨[.v (.flt .f32)],[.v (.val (.int .i16))],false⟩,fun x=>qib x.1⟩
theorem qaea:Sound Tryz.prog G 113 qve:=qab (envS (l:=[(90,qmu),(152,qkf)]) ⟨(qr3),(qpn),trivial⟩) [] Tryz.func113 (by kernel_rfl) rfl fun _=>by kernel_rfl
def qmt (a0:Dq27) (a1:(Vec 3 Nat)):Option (((Vec 3 Int)×Unit)×Unit) :=
 (qib (fDiv .f32 (fSub .f32 (Vec.getD 3 a1 0 (0:Nat)) (Vec.getD 3 a0.2.1 0 (0:Nat))) (Vec.getD 3 a0.1 0 (0:Nat)))).bind fun y1442 =>
 (qib (fDiv .f32 (fSub .f32 (Vec.getD 3 a1 1 (0:Nat)) (Vec.getD 3 a0.2.1 1 (0:Nat))) (Vec.getD 3 a0.1 1 (0:Nat)))).bind fun y1448 =>
 (qib (fDiv .f32 (fSub .f32 (Vec.getD 3 a1 2 (0:Nat)) (Vec.getD 3 a0.2.1 2 (0:Nat))) (Vec.getD 3 a0.1 2 (0:Nat)))).bind fun y1454 =>
 some ((((y1442.1.1,y1448.1.1,y1454.1.1,()):(Vec 3 Int)),()),())
def qtz:Entry:=⟨⟨[.v Uq9,.v (.arr 3 (.flt .f32))],[.v (.val (.arr 3 (.int .i16)))],false⟩,fun x=>qmt x.1 x.2.1⟩
theorem qacm:Sound Tryz.prog G 44 qtz:=qab (envS (l:=[(113,qve)]) ⟨(qaea),trivial⟩) [(3,.unroll 4)] Tryz.func44 (by kernel_rfl) rfl fun _=>by kernel_rfl
def qfn (a0:(List (Vec 3 Nat))):Option (((List (Vec 3 Nat))×Unit)×Unit) :=
 bif List.isEmpty a0 then
  allSame fun (q1461:Bool) =>
  bif q1461 then some ((([]:(List (Vec 3 Nat))),()),()) else
  bif room (0+List.length a0) 12 then
   some (((([]:(List (Vec 3 Nat)))++a0),()),())
  else none
 else
 bif room (0+List.length a0) 12 then
  some (((([]:(List (Vec 3 Nat)))++a0),()),())
 else none
def qle:Entry:=⟨⟨[.v (.list (.arr 3 (.flt .f32)))],[.v (.rows (.arr 3 (.flt .f32)))],false⟩,fun x=>qfn x.1⟩
theorem qua:Sound Tryz.prog G 42 qle:=qab (envS (l:=[]) trivial) [] Tryz.func42 (by kernel_rfl) rfl fun _=>by kernel_rfl
def qev (x1260:(Int×Dq8)) (y1230:Dq17) (s1258:Dq18) (a0:Dq4) (s1268:Dq18):Option (Dq18⊕(Dq18⊕Dq22)) :=
 bif (iLe s1268.2.2.1 x1260.1) then
  let x1270:=iAdd .i64 s1268.2.1 1
  bif room (List.length s1268.2.2.2.1.2.2.2.1+1) 48 then
   let l1271:=s1268.2.2.2.1.2.2.2.1++([(1,(0,0,0,()),(0,0,0,()),0,0,())]:(List Dq5))
   bif (iEq x1260.2.2.1 0) then
    some (Sum.inl (s1268.1,x1270,(iAdd .i64 s1268.2.2.1 1),((s1268.2.2.2.1.1,s1268.2.2.2.1.2.1,s1268.2.2.2.1.2.2.1,l1271,s1268.2.2.2.1.2.2.2.2):Dq2),()))
   else
   bif iEq x1260.2.2.1 0 then none else
   bif (! (iEq (iRem .i64 s1268.2.2.1 x1260.2.2.1) 0)) then
    some (Sum.inl (s1268.1,x1270,(iAdd .i64 s1268.2.2.1 1),((s1268.2.2.2.1.1,s1268.2.2.2.1.2.1,s1268.2.2.2.1.2.2.1,l1271,s1268.2.2.2.1.2.2.2.2):Dq2),()))
   else
   (qgf).bind fun y1277 =>
   bif inB x1270 (List.length y1230.1.1) then
    (qmt y1277.1.1 (List.getD y1230.1.1 x1270.toNat Lq6)).bind fun y1279 =>
    (qi4 y1279.1.1 s1268.1 (4:Int)).bind fun y1280 =>
    bif room (List.length l1271+1) 48 then
     some (Sum.inl (y1280.1.2.1,x1270,(iAdd .i64 s1268.2.2.1 1),((s1268.2.2.2.1.1,s1268.2.2.2.1.2.1,s1268.2.2.2.1.2.2.1,(l1271++([(3,(0,0,0,()),y1280.1.1,0,0,())]:(List Dq5))),s1268.2.2.2.1.2.2.2.2):Dq2),()))
    else none
   else none
  else none
 else
 Option.map Sum.inr (
  bif (iLt x1260.2.2.2.1 0) then
   some (Sum.inl (s1268.1,s1268.2.1,(iAdd .i64 s1258.2.2.1 1),((s1268.2.2.2.1.1,s1268.2.2.2.1.2.1,s1268.2.2.2.1.2.2.1,s1268.2.2.2.1.2.2.2.1,s1268.2.2.2.1.2.2.2.2):Dq2),()))
  else
  let x1286:=iAdd .u32 (iMul .u32 1664525 s1268.1) 1013904223
  bif inB s1268.2.1 (List.length y1230.1.1) then
   bif inB x1260.2.2.2.1 (List.length a0.2.2.1) then
    (qj5 (List.getD y1230.1.1 s1268.2.1.toNat Lq6) (List.getD a0.2.2.1 x1260.2.2.2.1.toNat Lq6)).bind fun y1293 =>
    (qdo y1293.1.1).bind fun y1294 =>
    let x1297:=fAdd .f32 y1294.1.1 (fDiv .f32 (fOfInt .f32 (iSub .i64 (iRem .i64 (iWrap .i64 (iShr .u32 x1286 16)) 9) 4)) 1098907648)
    (qaj ([x1297]:(List Nat))).bind fun y1298 =>
    bif (! y1298.1.1) then
     Option.map Sum.inr (some ((Lq10,(4:Int),()),()))
    else
    bif room (List.length s1268.2.2.2.1.2.2.2.1+1) 48 then
     some (Sum.inl (x1286,s1268.2.1,(iAdd .i64 s1258.2.2.1 1),((s1268.2.2.2.1.1,s1268.2.2.2.1.2.1,s1268.2.2.2.1.2.2.1,(s1268.2.2.2.1.2.2.2.1++([(4,(0,0,0,()),(0,0,0,()),x1260.2.2.2.1,x1297,())]:(List Dq5))),s1268.2.2.2.1.2.2.2.2):Dq2),()))
    else none
   else none
  else none)
def qhg (a0:Dq4) (y1230:Dq17) (s1258:Dq18):Option (Dq18⊕Dq22) :=
 bif (iLt s1258.2.2.1 (lenI a0.2.2.2.1)) then
  bif inB s1258.2.2.1 (List.length a0.2.2.2.1) then
   let x1260:=List.getD a0.2.2.2.1 s1258.2.2.1.toNat Lq5
   bif room (List.length s1258.2.2.2.1.2.2.2.1+1) 48 then
    run (qev x1260 y1230 s1258 a0) (s1258.1,s1258.2.1,(1:Int),((s1258.2.2.2.1.1,s1258.2.2.2.1.2.1,s1258.2.2.2.1.2.2.1,(s1258.2.2.2.1.2.2.2.1++([(2,x1260.2.1,(0,0,0,()),0,0,())]:(List Dq5))),s1258.2.2.2.1.2.2.2.2):Dq2),())
   else none
  else none
 else
 Option.map Sum.inr (
  bif (iLt 1200 (lenI s1258.2.2.2.1.2.2.2.1)) then some ((Lq10,(3:Int),()),()) else
  some ((((s1258.2.2.2.1.1,s1258.2.2.2.1.2.1,s1258.2.2.2.1.2.2.1,s1258.2.2.2.1.2.2.2.1,s1258.2.2.2.1.2.2.2.2):Dq2),(0:Int),()),()))
def qfj (a0:Dq4) (a1:Int):Option Dq22 :=
 (qic a0).bind fun y1230 =>
 bif (! (iEq y1230.1.2.1 0)) then some ((Lq10,y1230.1.2.1,()),()) else
 (qfn a0.2.2.1).bind fun y1232 =>
 run (qhg a0 y1230) (a1,(0:Int),(0:Int),((a0.1,a0.2.1,y1232.1.1,[],()):Dq2),())
def qky:Entry:=⟨⟨[.v Uq3,.v (.int .u32)],[.v (.pair (.val (.int .i64)) (.pair (.val (.arr 3 (.flt .f32))) (.pair (.rows (.arr 3 (.flt .f32))) (.pair (.rows Uq1) (.val (.unit)))))),.v (.val (.int .i64))],false⟩,fun x=>qfj x.1 x.2.1⟩
theorem qrk:Sound Tryz.prog G 9 qky:=qab (envS (l:=[(29,qog),(42,qle),(43,qpi),(44,qtz),(45,ql2),(46,qgn),(47,qlo),(48,qbm)]) ⟨(qvf),(qua),(qy7),(qacm),(qsf),(qi2),(qp5),(qbq),trivial⟩) [(7,.vary [(1,.sc (.int .u32)),(9,.sc (.int .i64)),(38,.sc (.int .i64)),(8,.box (.pair (.val (.int .i64)) (.pair (.val (.arr 3 (.flt .f32))) (.pair (.rows (.arr 3 (.flt .f32))) (.pair (.rows Uq1) (.val (.unit)))))))]),(11,.vary [(1,.sc (.int .u32)),(9,.sc (.int .i64)),(12,.sc (.int .i64)),(8,.box (.pair (.val (.int .i64)) (.pair (.val (.arr 3 (.flt .f32))) (.pair (.rows (.arr 3 (.flt .f32))) (.pair (.rows Uq1) (.val (.unit)))))))])] Tryz.func9 (by kernel_rfl) rfl fun _=>by kernel_rfl
def qmb (a0:Dq4) (a1:Int):Option Dq31 :=
 (qfj a0 a1).bind fun y366 =>
 bif (! (iEq y366.1.2.1 0)) then some (((0:Nat),y366.1.2.1,()),()) else
 (qia ((y366.1.1.1,y366.1.1.2.1,y366.1.1.2.2.1,y366.1.1.2.2.2.1,y366.1.1.2.2.2.2):Dq2)).bind fun y368 =>
 bif (! (iEq y368.1.2.1 0)) then some (((0:Nat),y368.1.2.1,()),()) else
 (qic a0).bind fun y370 =>
 (qhf y368.1.1).bind fun y371 =>
 let x372:=iSub .i64 (lenI y370.1.1) 1
 bif inB x372 (List.length y370.1.1) then
  (qj5 y371.1.1 (List.getD y370.1.1 x372.toNat Lq6)).bind fun y374 =>
  (qdo y374.1.1).bind fun y375 =>
  (qju y375.1.1).bind fun y376 =>
  some ((y376.1.1,y376.1.2.1,()),())
 else none
def qww:Entry:=⟨⟨[.v Uq3,.v (.int .u32)],[.v (.val (.flt .f32)),.v (.val (.int .i64))],false⟩,fun x=>qmb x.1 x.2.1⟩
theorem qafq:Sound Tryz.prog G 20 qww:=qab (envS (l:=[(9,qky),(29,qog),(33,qsh),(46,qgn),(47,qlo),(83,qm8),(84,qkw)]) ⟨(qrk),(qvf),(qabi),(qi2),(qp5),(qt1),(qri),trivial⟩) [] Tryz.func20 (by kernel_rfl) rfl fun _=>by kernel_rfl
def qaw (a0:Dq6):Option Dq9 :=
 bif (! a0.2.1) then
  some (((iEq (lenI a0.1) 0),()),())
 else some ((false,()),())
def qk2:Entry:=⟨⟨[.ro (.pair (.list (.str)) Uq11)],[.v (.val (.bool))],false⟩,fun x=>qaw x.1⟩
theorem qt0:Sound Tryz.prog G 65 qk2:=qab (envS (l:=[]) trivial) [] Tryz.func65 (by kernel_rfl) rfl fun _=>by kernel_rfl
def qbh (a0:Dq6):Option ((List UInt8×Unit)×(Dq6×Unit)) :=
 bif (iEq (lenI a0.1) 0) then some ((([]:List UInt8),()),(((a0.1,true,a0.2.2):Dq6),())) else
 bif inB 0 (List.length a0.1) then
  bif inS 1 ((List.length a0.1:Nat):Int) (List.length a0.1) then some (((List.getD a0.1 0 ([]:List UInt8)),()),(((List.take ((List.length a0.1)-1) (List.drop 1 a0.1),a0.2):Dq6),())) else none
 else none
def qc6:Entry:=⟨⟨[.io (.pair (.rows (.str)) (.val Uq11))],[.v (.val (.str))],false⟩,fun x=>qbh x.1⟩
theorem qes:Sound Tryz.prog G 66 qc6:=qab (envS (l:=[]) trivial) [] Tryz.func66 (by kernel_rfl) rfl fun _=>by kernel_rfl
theorem qzl (sy:GErr 2 G) (ra:GErr 3 G):Sound Tryz.prog G 126 strconv_ParseInt_en:=qafx Tryz.func126 (by kernel_rfl) (by kernel_rfl) sy ra Tryz.strconv_ParseInt_10_at64_ok (fun s hl h1 h2 ev w he hev=>(Tryz.strconv_ParseInt_10_at64_syntax s hl h1 h2 ev w he hev).mono fun e w' ⟨N,h1,_,_,h2⟩=>⟨N,h1,h2⟩) (fun s hl h ev w he hev=>(Tryz.strconv_ParseInt_10_at64_range s hl h ev w he hev).mono fun e w' ⟨N,h1,_,_,h2⟩=>⟨N,h1,h2⟩)
def qak (a0:Dq6):Option ((Int×Unit)×(Dq6×Unit)) :=
 (qbh ((a0.1,a0.2):Dq6)).bind fun y1509 =>
 (qdu y1509.1.1 (10:Int) (64:Int)).bind fun y1510 =>
 bif y1509.2.1.2.1 then some ((y1510.1.1,()),(((y1509.2.1.1,true,y1509.2.1.2.2):Dq6),())) else
 bif (! y1510.1.2.1) then some ((y1510.1.1,()),(((y1509.2.1.1,true,y1509.2.1.2.2):Dq6),())) else
 (qdy y1510.1.1).bind fun y1512 =>
 some ((y1510.1.1,()),(((y1509.2.1.1,(! (sEq y1512.1.1 y1509.1.1)),y1509.2.1.2.2):Dq6),()))
def qfr:Entry:=⟨⟨[.io (.pair (.rows (.str)) (.val Uq11))],[.v (.val (.int .i64))],false⟩,fun x=>qak x.1⟩
theorem qjt (tb:GTab Tryz.prog G) (sy:GErr 2 G) (ra:GErr 3 G):Sound Tryz.prog G 63 qfr:=qab (envS (l:=[(66,qc6),(69,qif),(126,strconv_ParseInt_en)]) ⟨(qes),(qnx tb),(qzl sy ra),trivial⟩) [] Tryz.func63 (by kernel_rfl) rfl fun _=>by kernel_rfl
def qc2 (a0:Dq6) (a1:List UInt8):Option ((Unit)×(Dq6×Unit)) :=
 (qbh ((a0.1,a0.2):Dq6)).bind fun y1516 =>
 bif (! (sEq y1516.1.1 a1)) then some ((),(((y1516.2.1.1,true,y1516.2.1.2.2):Dq6),())) else some ((),(((y1516.2.1.1,y1516.2.1.2.1,y1516.2.1.2.2):Dq6),()))
def ql0:Entry:=⟨⟨[.io (.pair (.rows (.str)) (.val Uq11)),.v (.str)],[],false⟩,fun x=>qc2 x.1 x.2.1⟩
theorem qux:Sound Tryz.prog G 62 ql0:=qab (envS (l:=[(66,qc6)]) ⟨(qes),trivial⟩) [] Tryz.func62 (by kernel_rfl) rfl fun _=>by kernel_rfl
theorem quy:Sound Tryz.prog G 195 qg8:=qr5 Tryz.func195 (by kernel_rfl) (by kernel_rfl) (by kernel_rfl) (by kernel_rfl)
theorem qyx (sy:GErr 2 G) (ra:GErr 3 G):Sound Tryz.prog G 194 qjp:=qaer Tryz.func194 (by kernel_rfl) (by kernel_rfl) sy ra Tryz.hex_call
def qkk (a0:List UInt8):Option Dq31 :=
 (qc9 a0 (16:Int) (32:Int)).bind fun y1524 =>
 (qeb (iWrap .u32 y1524.1.1)).bind fun y1526 =>
 bif (! y1524.1.2.1) then some (((0:Nat),(5:Int),()),()) else
 (qd8 y1526.1.1).bind fun y1528 =>
 bif (! (sEq y1528.1.1 a0)) then some (((0:Nat),(5:Int),()),()) else some ((y1526.1.1,(0:Int),()),())
def qrj:Entry:=⟨⟨[.v (.str)],[.v (.val (.flt .f32)),.v (.val (.int .i64))],false⟩,fun x=>qkk x.1⟩
theorem qz6 (sy:GErr 2 G) (ra:GErr 3 G) (db:GDeb Tryz.prog G):Sound Tryz.prog G 162 qrj:=qab (envS (l:=[(72,qhe),(194,qjp),(195,qg8)]) ⟨(qkv db),(qyx sy ra),(quy),trivial⟩) [] Tryz.func162 (by kernel_rfl) rfl fun _=>by kernel_rfl
def qa0 (a0:Dq6):Option ((Nat×Unit)×(Dq6×Unit)) :=
 (qbh ((a0.1,a0.2):Dq6)).bind fun y1521 =>
 (qkk y1521.1.1).bind fun y1522 =>
 bif y1521.2.1.2.1 then some ((y1522.1.1,()),(((y1521.2.1.1,true,y1521.2.1.2.2):Dq6),())) else
 some ((y1522.1.1,()),(((y1521.2.1.1,(! (iEq y1522.1.2.1 0)),y1521.2.1.2.2):Dq6),()))
def qf7:Entry:=⟨⟨[.io (.pair (.rows (.str)) (.val Uq11))],[.v (.val (.flt .f32))],false⟩,fun x=>qa0 x.1⟩
theorem qkm (sy:GErr 2 G) (ra:GErr 3 G) (db:GDeb Tryz.prog G):Sound Tryz.prog G 127 qf7:=qab (envS (l:=[(66,qc6),(162,qrj)]) ⟨(qes),(qz6 sy ra db),trivial⟩) [] Tryz.func127 (by kernel_rfl) rfl fun _=>by kernel_rfl
def qbb (a0:Dq6):Option (Dq20×(Dq6×Unit)) :=
 (qa0 ((a0.1,a0.2):Dq6)).bind fun y1518 =>
 (qa0 ((y1518.2.1.1,y1518.2.1.2):Dq6)).bind fun y1519 =>
 (qa0 ((y1519.2.1.1,y1519.2.1.2):Dq6)).bind fun y1520 =>
 some ((((y1518.1.1,y1519.1.1,y1520.1.1,()):(Vec 3 Nat)),()),(((y1520.2.1.1,y1520.2.1.2):Dq6),()))
def qgs:Entry:=⟨⟨[.io (.pair (.rows (.str)) (.val Uq11))],[.v (.val (.arr 3 (.flt .f32)))],false⟩,fun x=>qbb x.1⟩
theorem qk3 (sy:GErr 2 G) (ra:GErr 3 G) (db:GDeb Tryz.prog G):Sound Tryz.prog G 64 qgs:=qab (envS (l:=[(127,qf7)]) ⟨(qkm sy ra db),trivial⟩) [(3,.unroll 4)] Tryz.func64 (by kernel_rfl) rfl fun _=>by kernel_rfl
theorem quv (mx:GMax 1 G):Sound Tryz.prog G 108 qjq:=qakz Tryz.func108 (by kernel_rfl) (by kernel_rfl) mx (fun s sep m w h1 h2 h3=>Tryz.strings_Split s sep m w h1 h2 h3)
def qol (a0:List UInt8):Option (((List (List UInt8))×Bool×Unit)×Unit) :=
 (strings_Split a0 ([10]:List UInt8)).bind fun y1530 =>
 let x1531:=iSub .i64 (lenI y1530.1.1) 1
 bif inS 0 x1531 (List.length y1530.1.1) then
  bif (iLt 0 x1531) then
   bif inB x1531 (List.length y1530.1.1) then
    some ((List.take x1531.toNat (List.drop 0 y1530.1.1),(sEq (List.getD y1530.1.1 x1531.toNat ([]:List UInt8)) ([])),()),())
   else none
  else some ((List.take x1531.toNat (List.drop 0 y1530.1.1),false,()),())
 else none
def qvj:Entry:=⟨⟨[.v (.str)],[.v (.rows (.str)),.v (.val (.bool))],false⟩,fun x=>qol x.1⟩
theorem qaeh (mx:GMax 1 G):Sound Tryz.prog G 60 qvj:=qab (envS (l:=[(108,qjq)]) ⟨(quv mx),trivial⟩) [] Tryz.func60 (by kernel_rfl) rfl fun _=>by kernel_rfl
def qb9 (a0:Dq6) (a1:List UInt8):Option ((Dq5×Unit)×(Dq6×Unit)) :=
 bif (sEq a1 ([116,105,99,107])) then some ((((1,(0,0,0,()),(0,0,0,()),0,0,()):Dq5),()),(((a0.1,a0.2):Dq6),())) else
 bif (sEq a1 ([109,111,118,101])) then
  (qbb ((a0.1,a0.2):Dq6)).bind fun y1537 =>
  some ((((2,y1537.1.1,(0,0,0,()),0,0,()):Dq5),()),(((y1537.2.1.1,y1537.2.1.2):Dq6),()))
 else
 bif (sEq a1 ([102,105,120])) then
  (qak ((a0.1,a0.2):Dq6)).bind fun y1539 =>
  bif y1539.2.1.2.1 then
   let x1540:=iWrap .i16 y1539.1.1
   (qak ((y1539.2.1.1,true,y1539.2.1.2.2):Dq6)).bind fun y1541 =>
   bif y1541.2.1.2.1 then
    let x1542:=iWrap .i16 y1541.1.1
    (qak ((y1541.2.1.1,true,y1541.2.1.2.2):Dq6)).bind fun y1543 =>
    bif y1543.2.1.2.1 then
     some ((((3,(0,0,0,()),(x1540,x1542,(iWrap .i16 y1543.1.1),()),0,0,()):Dq5),()),(((y1543.2.1.1,true,y1543.2.1.2.2):Dq6),()))
    else
    (qb0 y1543.1.1 Lq13 (32767:Int)).bind fun y1545 =>
    some ((((3,(0,0,0,()),(x1540,x1542,(iWrap .i16 y1543.1.1),()),0,0,()):Dq5),()),(((y1543.2.1.1,(! y1545.1.1),y1543.2.1.2.2):Dq6),()))
   else
   (qb0 y1541.1.1 Lq13 (32767:Int)).bind fun y1548 =>
   let x1550:=iWrap .i16 y1541.1.1
   (qak ((y1541.2.1.1,(! y1548.1.1),y1541.2.1.2.2):Dq6)).bind fun y1551 =>
   bif y1551.2.1.2.1 then
    some ((((3,(0,0,0,()),(x1540,x1550,(iWrap .i16 y1551.1.1),()),0,0,()):Dq5),()),(((y1551.2.1.1,true,y1551.2.1.2.2):Dq6),()))
   else
   (qb0 y1551.1.1 Lq13 (32767:Int)).bind fun y1553 =>
   some ((((3,(0,0,0,()),(x1540,x1550,(iWrap .i16 y1551.1.1),()),0,0,()):Dq5),()),(((y1551.2.1.1,(! y1553.1.1),y1551.2.1.2.2):Dq6),()))
  else
  (qb0 y1539.1.1 Lq13 (32767:Int)).bind fun y1556 =>
  let x1558:=iWrap .i16 y1539.1.1
  (qak ((y1539.2.1.1,(! y1556.1.1),y1539.2.1.2.2):Dq6)).bind fun y1559 =>
  bif y1559.2.1.2.1 then
   let x1560:=iWrap .i16 y1559.1.1
   (qak ((y1559.2.1.1,true,y1559.2.1.2.2):Dq6)).bind fun y1561 =>
   bif y1561.2.1.2.1 then
    some ((((3,(0,0,0,()),(x1558,x1560,(iWrap .i16 y1561.1.1),()),0,0,()):Dq5),()),(((y1561.2.1.1,true,y1561.2.1.2.2):Dq6),()))
   else
   (qb0 y1561.1.1 Lq13 (32767:Int)).bind fun y1563 =>
   some ((((3,(0,0,0,()),(x1558,x1560,(iWrap .i16 y1561.1.1),()),0,0,()):Dq5),()),(((y1561.2.1.1,(! y1563.1.1),y1561.2.1.2.2):Dq6),()))
  else
  (qb0 y1559.1.1 Lq13 (32767:Int)).bind fun y1566 =>
  let x1568:=iWrap .i16 y1559.1.1
  (qak ((y1559.2.1.1,(! y1566.1.1),y1559.2.1.2.2):Dq6)).bind fun y1569 =>
  bif y1569.2.1.2.1 then
   some ((((3,(0,0,0,()),(x1558,x1568,(iWrap .i16 y1569.1.1),()),0,0,()):Dq5),()),(((y1569.2.1.1,true,y1569.2.1.2.2):Dq6),()))
  else
  (qb0 y1569.1.1 Lq13 (32767:Int)).bind fun y1571 =>
  some ((((3,(0,0,0,()),(x1558,x1568,(iWrap .i16 y1569.1.1),()),0,0,()):Dq5),()),(((y1569.2.1.1,(! y1571.1.1),y1569.2.1.2.2):Dq6),()))
 else
 bif (sEq a1 ([114,97,110,103,101])) then
  (qak ((a0.1,a0.2):Dq6)).bind fun y1575 =>
  (qa0 ((y1575.2.1.1,y1575.2.1.2):Dq6)).bind fun y1576 =>
  some ((((4,(0,0,0,()),(0,0,0,()),y1575.1.1,y1576.1.1,()):Dq5),()),(((y1576.2.1.1,y1576.2.1.2):Dq6),()))
 else some ((Lq7,()),(((a0.1,a0.2):Dq6),()))
def qsl:Entry:=⟨⟨[.io (.pair (.rows (.str)) (.val Uq11)),.v (.str)],[.v (.val Uq1)],false⟩,fun x=>qb9 x.1 x.2.1⟩
theorem qabl (tb:GTab Tryz.prog G) (sy:GErr 2 G) (ra:GErr 3 G) (db:GDeb Tryz.prog G):Sound Tryz.prog G 67 qsl:=qab (envS (l:=[(63,qfr),(64,qgs),(97,qih),(127,qf7)]) ⟨(qjt tb sy ra),(qk3 sy ra db),(qlr),(qkm sy ra db),trivial⟩) [(10,.unroll 4)] Tryz.func67 (by kernel_rfl) rfl fun _=>by kernel_rfl
def qjv (a0:List UInt8):Option ((Dq6×Unit)×Unit) :=
 (strings_Split a0 ([32]:List UInt8)).bind fun y1577 =>
 some ((((y1577.1.1,false,()):Dq6),()),())
def qt2:Entry:=⟨⟨[.v (.str)],[.p (.pair (.rows (.str)) (.val Uq11))],false⟩,fun x=>qjv x.1⟩
theorem qacn (mx:GMax 1 G):Sound Tryz.prog G 61 qt2:=qab (envS (l:=[(108,qjq)]) ⟨(quv mx),trivial⟩) [] Tryz.func61 (by kernel_rfl) rfl fun _=>by kernel_rfl
def qbc (y1464:(((List (List UInt8))×Bool×Unit)×Unit)) (s1483:(Int×Dq2×Unit)):Option ((Int×Dq2×Unit)⊕Dq22) :=
 bif (iLt s1483.1 (((List.length y1464.1.1)-1:Nat):Int)) then
  bif inB s1483.1 ((List.length y1464.1.1)-1) then
   (qjv (List.getD y1464.1.1 (1+s1483.1.toNat) ([]:List UInt8))).bind fun y1486 =>
   (qbh ((y1486.1.1.1,y1486.1.1.2):Dq6)).bind fun y1487 =>
   bif (sEq y1487.1.1 ([98,101,97,99,111,110])) then
    bif (iEq (lenI s1483.2.1.2.2.2.1) 0) then
     (qbb ((y1487.2.1.1,y1487.2.1.2):Dq6)).bind fun y1490 =>
     bif room (List.length s1483.2.1.2.2.1+1) 12 then
      (qaw ((y1490.2.1.1,y1490.2.1.2):Dq6)).bind fun y1492 =>
      bif (! y1492.1.1) then
       Option.map Sum.inr (some ((Lq10,(5:Int),()),()))
      else
      some (Sum.inl ((iAdd .i64 s1483.1 1),((s1483.2.1.1,s1483.2.1.2.1,(s1483.2.1.2.2.1++([y1490.1.1]:(List (Vec 3 Nat)))),s1483.2.1.2.2.2.1,s1483.2.1.2.2.2.2):Dq2),()))
     else none
    else
    (qb9 ((y1487.2.1.1,y1487.2.1.2):Dq6) y1487.1.1).bind fun y1495 =>
    bif room (List.length s1483.2.1.2.2.2.1+1) 48 then
     (qaw ((y1495.2.1.1,y1495.2.1.2):Dq6)).bind fun y1497 =>
     bif (! y1497.1.1) then
      Option.map Sum.inr (some ((Lq10,(5:Int),()),()))
     else
     some (Sum.inl ((iAdd .i64 s1483.1 1),((s1483.2.1.1,s1483.2.1.2.1,s1483.2.1.2.2.1,(s1483.2.1.2.2.2.1++([y1495.1.1]:(List Dq5))),s1483.2.1.2.2.2.2):Dq2),()))
    else none
   else
   (qb9 ((y1487.2.1.1,y1487.2.1.2):Dq6) y1487.1.1).bind fun y1500 =>
   bif room (List.length s1483.2.1.2.2.2.1+1) 48 then
    (qaw ((y1500.2.1.1,y1500.2.1.2):Dq6)).bind fun y1502 =>
    bif (! y1502.1.1) then
     Option.map Sum.inr (some ((Lq10,(5:Int),()),()))
    else
    some (Sum.inl ((iAdd .i64 s1483.1 1),((s1483.2.1.1,s1483.2.1.2.1,s1483.2.1.2.2.1,(s1483.2.1.2.2.2.1++([y1500.1.1]:(List Dq5))),s1483.2.1.2.2.2.2):Dq2),()))
   else none
  else none
 else
 Option.map Sum.inr (
  (qel ((s1483.2.1.1,s1483.2.1.2.1,s1483.2.1.2.2.1,s1483.2.1.2.2.2.1,s1483.2.1.2.2.2.2):Dq2)).bind fun y1505 =>
  bif (! y1505.1.1) then some ((Lq10,(5:Int),()),()) else
  some ((((s1483.2.1.1,s1483.2.1.2.1,s1483.2.1.2.2.1,s1483.2.1.2.2.2.1,s1483.2.1.2.2.2.2):Dq2),(0:Int),()),()))
def qkx (a0:List UInt8):Option Dq22 :=
 (qol a0).bind fun y1464 =>
 bif (! y1464.1.2.1) then some ((Lq10,(5:Int),()),()) else
 bif inB 0 (List.length y1464.1.1) then
  (qjv (List.getD y1464.1.1 0 ([]:List UInt8))).bind fun y1467 =>
  (qc2 ((y1467.1.1.1,y1467.1.1.2):Dq6) ([108,111,103]:List UInt8)).bind fun y1468 =>
  (qak ((y1468.2.1.1,y1468.2.1.2):Dq6)).bind fun y1469 =>
  (qbb ((y1469.2.1.1,y1469.2.1.2):Dq6)).bind fun y1470 =>
  (qaw ((y1470.2.1.1,y1470.2.1.2):Dq6)).bind fun y1471 =>
  bif (! y1471.1.1) then some ((Lq10,(5:Int),()),()) else
  bif inS 1 ((List.length y1464.1.1:Nat):Int) (List.length y1464.1.1) then
   run (qbc y1464) ((0:Int),((y1469.1.1,y1470.1.1,[],[],()):Dq2),())
  else none
 else none
def qu9:Entry:=⟨⟨[.v (.str)],[.v (.pair (.val (.int .i64)) (.pair (.val (.arr 3 (.flt .f32))) (.pair (.rows (.arr 3 (.flt .f32))) (.pair (.rows Uq1) (.val (.unit)))))),.v (.val (.int .i64))],false⟩,fun x=>qkx x.1⟩
theorem qad4 (mx:GMax 1 G) (tb:GTab Tryz.prog G) (sy:GErr 2 G) (ra:GErr 3 G) (db:GDeb Tryz.prog G):Sound Tryz.prog G 15 qu9:=qab (envS (l:=[(12,qe0),(60,qvj),(61,qt2),(62,ql0),(63,qfr),(64,qgs),(65,qk2),(66,qc6),(67,qsl)]) ⟨(qgq),(qaeh mx),(qacn mx),(qux),(qjt tb sy ra),(qk3 sy ra db),(qt0),(qes),(qabl tb sy ra db),trivial⟩) [(11,.vary [(39,.sc (.int .i64)),(7,.box (.pair (.val (.int .i64)) (.pair (.val (.arr 3 (.flt .f32))) (.pair (.rows (.arr 3 (.flt .f32))) (.pair (.rows Uq1) (.val (.unit)))))))])] Tryz.func15 (by kernel_rfl) rfl fun _=>by kernel_rfl
def qg4 (a0:Dq2):Option Dq34 :=
 (qel a0).bind fun y1578 =>
 bif (! y1578.1.1) then some ((([]:(List Int)),(1:Int),()),()) else
 (qfl a0).bind fun y1580 =>
 (qme a0 y1580.1.1 (0:Int) (lenI a0.2.2.2.1)).bind fun y1581 =>
 some ((y1581.1.2.1,y1581.1.2.2.1,()),())
def qmc:Entry:=⟨⟨[.v Uq5],[.v (.rows (.int .i64)),.v (.val (.int .i64))],false⟩,fun x=>qg4 x.1⟩
theorem qv9:Sound Tryz.prog G 17 qmc:=qab (envS (l:=[(12,qe0),(74,qp8),(75,qk1)]) ⟨(qgq),(qw2),(qrn),trivial⟩) [] Tryz.func17 (by kernel_rfl) rfl fun _=>by kernel_rfl
def qec (a0:(List Dq5)) (a1:(List Dq5)) (a2:((Dq5×Dq5×Unit)→Option Bool)) (s1589:(Int×Unit)):Option ((Int×Unit)⊕Dq9) :=
 bif (iLt s1589.1 (lenI a0)) then
  bif inB s1589.1 (List.length a0) then
   bif inB s1589.1 (List.length a1) then
    (a2 ((List.getD a0 s1589.1.toNat Lq7),(List.getD a1 s1589.1.toNat Lq7),())).bind fun y1593 =>
    bif (! y1593) then
     Option.map Sum.inr (some ((false,()),()))
    else
    some (Sum.inl ((iAdd .i64 s1589.1 1),()))
   else none
  else none
 else
 Option.map Sum.inr (some ((true,()),()))
def qdf (a0:(List Dq5)) (a1:(List Dq5)) (a2:((Dq5×Dq5×Unit)→Option Bool)):Option Dq9 :=
 bif (! (iEq (lenI a0) (lenI a1))) then some ((false,()),()) else run (qec a0 a1 a2) ((0:Int),())
def qhq:Entry:=⟨⟨[.v (.list Uq1),.v (.list Uq1),.fn ⟨[.pair (.int .i64) Uq8,.pair (.int .i64) Uq8],.bool⟩],[.v (.val (.bool))],false⟩,fun x=>qdf x.1 x.2.1 x.2.2.1⟩
theorem qow:Sound Tryz.prog G 81 qhq:=qab (envS (l:=[]) trivial) [(4,.vary [(17,.sc (.int .i64))])] Tryz.func81 (by kernel_rfl) rfl fun _=>by kernel_rfl
def qe2 (a0:(List (Vec 3 Nat))) (a1:(List (Vec 3 Nat))) (a2:(((Vec 3 Nat)×(Vec 3 Nat)×Unit)→Option Bool)) (s1597:(Int×Unit)):Option ((Int×Unit)⊕Dq9) :=
 bif (iLt s1597.1 (lenI a0)) then
  bif inB s1597.1 (List.length a0) then
   bif inB s1597.1 (List.length a1) then
    (a2 ((List.getD a0 s1597.1.toNat Lq6),(List.getD a1 s1597.1.toNat Lq6),())).bind fun y1601 =>
    bif (! y1601) then
     Option.map Sum.inr (some ((false,()),()))
    else
    some (Sum.inl ((iAdd .i64 s1597.1 1),()))
   else none
  else none
 else
 Option.map Sum.inr (some ((true,()),()))
def qd3 (a0:(List (Vec 3 Nat))) (a1:(List (Vec 3 Nat))) (a2:(((Vec 3 Nat)×(Vec 3 Nat)×Unit)→Option Bool)):Option Dq9 :=
 bif (! (iEq (lenI a0) (lenI a1))) then some ((false,()),()) else run (qe2 a0 a1 a2) ((0:Int),())
def qil:Entry:=⟨⟨[.v (.list (.arr 3 (.flt .f32))),.v (.list (.arr 3 (.flt .f32))),.fn ⟨[.arr 3 (.flt .f32),.arr 3 (.flt .f32)],.bool⟩],[.v (.val (.bool))],false⟩,fun x=>qd3 x.1 x.2.1 x.2.2.1⟩
theorem qqf:Sound Tryz.prog G 80 qil:=qab (envS (l:=[]) trivial) [(4,.vary [(17,.sc (.int .i64))])] Tryz.func80 (by kernel_rfl) rfl fun _=>by kernel_rfl
def qob (a0:Dq2) (a1:Dq2):Option Dq9 :=
 bif (iEq a0.1 a1.1) then
  (qgp a0.2.1 a1.2.1).bind fun y1583 =>
  bif y1583.1.1 then
   (qd3 a0.2.2.1 a1.2.2.1 (fun (z1584:((Vec 3 Nat)×(Vec 3 Nat)×Unit))=>(qgp z1584.1 z1584.2.1).map fun y=>y.1.1)).bind fun y1585 =>
   bif y1585.1.1 then
    (qdf a0.2.2.2.1 a1.2.2.2.1 (fun (z1586:(Dq5×Dq5×Unit))=>(qc3 z1586.1 z1586.2.1).map fun y=>y.1.1)).bind fun y1587 =>
    some ((y1587.1.1,()),())
   else some ((false,()),())
  else some ((false,()),())
 else some ((false,()),())
def qva:Entry:=⟨⟨[.v Uq5,.v Uq5],[.v (.val (.bool))],false⟩,fun x=>qob x.1 x.2.1⟩
theorem qad6:Sound Tryz.prog G 19 qva:=qab (envS (l:=[(79,qoc),(80,qil),(81,qhq),(82,ql3)]) ⟨(qvb),(qqf),(qow),(qsn),trivial⟩) [] Tryz.func19 (by kernel_rfl) rfl fun _=>by kernel_rfl
def qof (a0:Dq4):Option (Dq26×Unit) :=
 (qf1 a0).bind fun y1604 =>
 bif (! y1604.1.1) then some (((0:Int),(1:Int),()),()) else
 (qk6 a0).bind fun y1606 =>
 some ((y1606.1.1,(0:Int),()),())
def qvd:Entry:=⟨⟨[.v Uq3],[.v (.val (.int .i64)),.v (.val (.int .i64))],false⟩,fun x=>qof x.1⟩
theorem qad9:Sound Tryz.prog G 13 qvd:=qab (envS (l:=[(27,qi6),(58,qon)]) ⟨(qoi),(qvl),trivial⟩) [] Tryz.func13 (by kernel_rfl) rfl fun _=>by kernel_rfl
def qk9 (a0:(List Int)) (a1:Int) (a2:Int):Option Dq21 :=
 bif (iLe (lenI a0) a1) then some (((0:Int),()),()) else
 bif (iLt a2 1) then some (((0:Int),()),()) else
 bif inB a1 (List.length a0) then
  bif iEq a2 0 then none else
  some (((iRem .i64 (iWrap .i64 (List.getD a0 a1.toNat (0:Int))) a2),()),())
 else none
def qaad:Entry:=⟨⟨[.v (.list (.int .u8)),.v (.int .i64),.v (.int .i64)],[.v (.val (.int .i64))],false⟩,fun x=>qk9 x.1 x.2.1 x.2.2.1⟩
theorem qai4:Sound Tryz.prog G 8 qaad:=qab (envS (l:=[]) trivial) [] Tryz.func8 (by kernel_rfl) rfl fun _=>by kernel_rfl
def qwb (a0:(List Int)) (a1:(List Int)):Option Dq9 :=
 bif (iLt 3000 (lenI a0)) then some ((true,()),()) else
 some (((iLt 3000 (lenI a1)),()),())
def qw7:Entry:=⟨⟨[.v (.list (.int .u8)),.v (.list (.int .u8))],[.v (.val (.bool))],false⟩,fun x=>qwb x.1 x.2.1⟩
theorem qaft:Sound Tryz.prog G 6 qw7:=qab (envS (l:=[]) trivial) [] Tryz.func6 (by kernel_rfl) rfl fun _=>by kernel_rfl
def qo0 (a0:(List Int)):Option ((Dq10×Unit)×Unit) :=
 some ((((a0,0,0,()):Dq10),()),())
def qo1:Entry:=⟨⟨[.v (.list (.int .u8))],[.p (.val Uq7)],true⟩,fun x=>qo0 x.1⟩
theorem qvy:Sound Tryz.prog G 41 qo1:=qab (envS (l:=[]) trivial) [] Tryz.func41 (by kernel_rfl) rfl fun _=>by kernel_rfl
def qe4 (a0:Dq10):Option ((Int×Unit)×(Dq10×Unit)) :=
 bif (iLt a0.2.1 (lenI a0.1)) then
  bif inB a0.2.1 (List.length a0.1) then
   let x1637:=iWrap .i64 (List.getD a0.1 a0.2.1.toNat (0:Int))
   let x1638:=iAdd .i64 a0.2.1 1
   let x1642:=iAdd .u64 (iAdd .u64 (iMul .u64 a0.2.2.1 6364136223846793005) (iWrap .u64 x1637)) 1442695040888963407
   bif (iLe x1638 (lenI a0.1)) then some ((x1637,()),(((a0.1,x1638,x1642,a0.2.2.2):Dq10),())) else
   some (((iWrap .i64 (iAnd .u64 (iShr .u64 x1642 40) 255)),()),(((a0.1,x1638,x1642,a0.2.2.2):Dq10),()))
  else none
 else
 let x1647:=iAdd .i64 a0.2.1 1
 let x1650:=iAdd .u64 (iAdd .u64 (iMul .u64 a0.2.2.1 6364136223846793005) 0) 1442695040888963407
 bif (iLe x1647 (lenI a0.1)) then some (((0:Int),()),(((a0.1,x1647,x1650,a0.2.2.2):Dq10),())) else
 some (((iWrap .i64 (iAnd .u64 (iShr .u64 x1650 40) 255)),()),(((a0.1,x1647,x1650,a0.2.2.2):Dq10),()))
def qpq:Entry:=⟨⟨[.io (.val Uq7)],[.v (.val (.int .i64))],true⟩,fun x=>qe4 x.1⟩
theorem qzd:Sound Tryz.prog G 140 qpq:=qab (envS (l:=[]) trivial) [] Tryz.func140 (by kernel_rfl) rfl fun _=>by kernel_rfl
def qau (a0:Dq10) (a1:Int):Option ((Int×Unit)×(Dq10×Unit)) :=
 bif (iLe a1 1) then some (((0:Int),()),(a0,())) else
 (qe4 a0).bind fun y1628 =>
 bif (iLt 200 a1) then
  (qe4 y1628.2.1).bind fun y1631 =>
  bif iEq a1 0 then none else
  some (((iRem .i64 (iAdd .i64 (iMul .i64 y1628.1.1 256) y1631.1.1) a1),()),(y1631.2.1,()))
 else
 bif iEq a1 0 then none else
 some (((iRem .i64 y1628.1.1 a1),()),(y1628.2.1,()))
def qew:Entry:=⟨⟨[.io (.val Uq7),.v (.int .i64)],[.v (.val (.int .i64))],true⟩,fun x=>qau x.1 x.2.1⟩
theorem qg6:Sound Tryz.prog G 92 qew:=qab (envS (l:=[(140,qpq)]) ⟨(qzd),trivial⟩) [] Tryz.func92 (by kernel_rfl) rfl fun _=>by kernel_rfl
def qkq (a0:Dq10) (a1:Int):Option ((Bool×Unit)×(Dq10×Unit)) :=
 (qau a0 a1).bind fun y1625 =>
 some (((iEq y1625.1.1 0),()),(y1625.2.1,()))
def qrz:Entry:=⟨⟨[.io (.val Uq7),.v (.int .i64)],[.v (.val (.bool))],true⟩,fun x=>qkq x.1 x.2.1⟩
theorem qaa0:Sound Tryz.prog G 94 qrz:=qab (envS (l:=[(92,qew)]) ⟨(qg6),trivial⟩) [] Tryz.func94 (by kernel_rfl) rfl fun _=>by kernel_rfl
def qby (a0:Int) (a1:Int) (a2:Int):Option Dq9 :=
 bif (iLe a1 a0) then
  some (((iLe a0 a2),()),())
 else some ((false,()),())
def qeo:Entry:=⟨⟨[.v (.int .i64),.v (.int .i64),.v (.int .i64)],[.v (.val (.bool))],false⟩,fun x=>qby x.1 x.2.1 x.2.2.1⟩
theorem qfw:Sound Tryz.prog G 117 qeo:=qab (envS (l:=[]) trivial) [] Tryz.func117 (by kernel_rfl) rfl fun _=>by kernel_rfl
def qcx (a0:Dq1) (a1:(Vec 3 Nat)) (a2:Int):Option ((Int×Unit)×(Dq1×Unit)) :=
 (qby a2 (1:Int) (400:Int)).bind fun y1944 =>
 bif (! y1944.1.1) then
  some (((2:Int),()),((((a0.1.1,a0.1.2.1,a0.1.2.2.1,a0.1.2.2.2.1,a0.1.2.2.2.2),a0.2.1,a0.2.2.1,a0.2.2.2.1,a0.2.2.2.2.1,a0.2.2.2.2.2):Dq1),()))
 else
 bif (iEq (lenI a0.1.2.2.2.1) 64) then
  some (((3:Int),()),((((a0.1.1,a0.1.2.1,a0.1.2.2.1,a0.1.2.2.2.1,a0.1.2.2.2.2),a0.2.1,a0.2.2.1,a0.2.2.2.1,a0.2.2.2.2.1,a0.2.2.2.2.2):Dq1),()))
 else
 bif (iLt 400 (iAdd .i64 a0.2.2.1 a2)) then
  some (((3:Int),()),((((a0.1.1,a0.1.2.1,a0.1.2.2.1,a0.1.2.2.2.1,a0.1.2.2.2.2),a0.2.1,a0.2.2.1,a0.2.2.2.1,a0.2.2.2.2.1,a0.2.2.2.2.2):Dq1),()))
 else
 bif room (List.length a0.1.2.2.2.1+1) 40 then
  some (((0:Int),()),((((a0.1.1,a0.1.2.1,a0.1.2.2.1,(a0.1.2.2.2.1++([(a2,a1,a0.2.1,(-1:Int),())]:(List (Int×Dq8)))),a0.1.2.2.2.2),a0.2.1,(iAdd .i64 a0.2.2.1 a2),a0.2.2.2.1,a0.2.2.2.2.1,a0.2.2.2.2.2):Dq1),()))
 else none
def qkj:Entry:=⟨⟨[.io (.pair (.pair (.val (.int .i64)) (.pair (.val (.arr 3 (.flt .f32))) (.pair (.rows (.arr 3 (.flt .f32))) (.pair (.rows Uq10) (.val (.unit)))))) (.pair (.val (.int .i64)) (.pair (.val (.int .i64)) (.pair (.rows (.int .i64)) (.pair (.rows (.int .i64)) (.val (.unit))))))),.v (.arr 3 (.flt .f32)),.v (.int .i64)],[.v (.val (.int .i64))],false⟩,fun x=>qcx x.1 x.2.1 x.2.2.1⟩
theorem qpx:Sound Tryz.prog G 232 qkj:=qab (envS (l:=[(117,qeo)]) ⟨(qfw),trivial⟩) [] Tryz.func232 (by kernel_rfl) rfl fun _=>by kernel_rfl
def ql9 (a0:Dq1) (a1:Int):Option ((Int×Unit)×(Dq1×Unit)) :=
 bif (iLe (lenI a0.1.2.2.1) a1) then
  some (((2:Int),()),((((a0.1.1,a0.1.2.1,a0.1.2.2.1,a0.1.2.2.2.1,a0.1.2.2.2.2),a0.2.1,a0.2.2.1,a0.2.2.2.1,a0.2.2.2.2.1,a0.2.2.2.2.2):Dq1),()))
 else
 let x1954:=iSub .i64 (lenI a0.1.2.2.2.1) 1
 bif (iLt x1954 0) then
  some (((4:Int),()),((((a0.1.1,a0.1.2.1,a0.1.2.2.1,a0.1.2.2.2.1,a0.1.2.2.2.2),a0.2.1,a0.2.2.1,a0.2.2.2.1,a0.2.2.2.2.1,a0.2.2.2.2.2):Dq1),()))
 else
 bif inB x1954 (List.length a0.1.2.2.2.1) then
  bif (iLe 0 (((((List.getD a0.1.2.2.2.1 x1954.toNat Lq5).2).2).2).1)) then
   some (((4:Int),()),((((a0.1.1,a0.1.2.1,a0.1.2.2.1,a0.1.2.2.2.1,a0.1.2.2.2.2),a0.2.1,a0.2.2.1,a0.2.2.2.1,a0.2.2.2.2.1,a0.2.2.2.2.2):Dq1),()))
  else
  bif inB x1954 (List.length a0.1.2.2.2.1) then
   some (((0:Int),()),((((a0.1.1,a0.1.2.1,a0.1.2.2.1,(List.set a0.1.2.2.2.1 x1954.toNat (((List.getD a0.1.2.2.2.1 x1954.toNat Lq5).1,((List.getD a0.1.2.2.2.1 x1954.toNat Lq5).2).1,(((List.getD a0.1.2.2.2.1 x1954.toNat Lq5).2).2).1,a1,((((List.getD a0.1.2.2.2.1 x1954.toNat Lq5).2).2).2).2):(Int×Dq8))),a0.1.2.2.2.2),a0.2.1,a0.2.2.1,a0.2.2.2.1,a0.2.2.2.2.1,a0.2.2.2.2.2):Dq1),()))
  else none
 else none
def qpb:Entry:=⟨⟨[.io (.pair (.pair (.val (.int .i64)) (.pair (.val (.arr 3 (.flt .f32))) (.pair (.rows (.arr 3 (.flt .f32))) (.pair (.rows Uq10) (.val (.unit)))))) (.pair (.val (.int .i64)) (.pair (.val (.int .i64)) (.pair (.rows (.int .i64)) (.pair (.rows (.int .i64)) (.val (.unit))))))),.v (.int .i64)],[.v (.val (.int .i64))],false⟩,fun x=>ql9 x.1 x.2.1⟩
theorem qyv:Sound Tryz.prog G 233 qpb:=qab (envS (l:=[]) trivial) [] Tryz.func233 (by kernel_rfl) rfl fun _=>by kernel_rfl
end
end Go.Proofs.YtnndahnmlmgenaaGreatDoor
