import Derived.Test.YtnndahnmlmgenaaGreatDoorE
/- Functions on typed data: what the evaluation of each Go function is, and that it is sound. -/
set_option linter.unusedVariables false
namespace Go.Proofs.YtnndahnmlmgenaaGreatDoor
open Go Go.Tm
noncomputable section
set_option maxRecDepth 100000
variable {G : List (Nat × Obj)}
def qlf (a0:(List Nat)) (s58:(Int×Unit)):Option ((Int×Unit)⊕Dq7) :=
 bif (iLt s58.1 (lenI a0)) then
  bif inB s58.1 (List.length a0) then
   let x60:=List.getD a0 s58.1.toNat (0:Nat)
   bif (! (fEq .f32 (fSub .f32 x60 x60) 0)) then
    Option.map Sum.inr (some ((false,()),()))
   else
   some (Sum.inl ((iAdd .i64 s58.1 1),()))
  else none
 else
 Option.map Sum.inr (some ((true,()),()))
def qaf (a0:(List Nat)):Option Dq7 :=
 run (qlf a0) ((0:Int),())
def qbi:Entry:=⟨⟨[.v (.list (.flt .f32))],[.v (.val (.bool))],false⟩,fun x=>qaf x.1⟩
theorem qbn:Sound Tryz.prog G 48 qbi:=qab (envS (l:=[]) trivial) [(2,.vary [(7,.sc (.int .i64))])] Tryz.func48 (by kernel_rfl) rfl fun _=>by kernel_rfl
def qbm (a0:(Vec 3 Nat)):Option Dq7 :=
 (qaf ([Vec.getD 3 a0 0 (0:Nat),Vec.getD 3 a0 1 (0:Nat),Vec.getD 3 a0 2 (0:Nat)]:(List Nat))).bind fun y57 =>
 some ((y57.1.1,()),())
def qc3:Entry:=⟨⟨[.v (.arr 3 (.flt .f32))],[.v (.val (.bool))],false⟩,fun x=>qbm x.1⟩
theorem qd2:Sound Tryz.prog G 98 qc3:=qab (envS (l:=[(48,qbi)]) ⟨(qbn),trivial⟩) [] Tryz.func98 (by kernel_rfl) rfl fun _=>by kernel_rfl
def qfa (a0:Nat):Option Dq7 :=
 some (((! (fEq .f32 a0 a0)),()),())
def qk0:Entry:=⟨⟨[.v (.flt .f32)],[.v (.val (.bool))],false⟩,fun x=>qfa x.1⟩
theorem qpa:Sound Tryz.prog G 90 qk0:=qab (envS (l:=[]) trivial) [] Tryz.func90 (by kernel_rfl) rfl fun _=>by kernel_rfl
def qdl (a0:Nat) (a1:Nat):Option Dq7 :=
 (qfa a0).bind fun y69 =>
 bif y69.1.1 then
  (qfa a1).bind fun y70 =>
  bif y70.1.1 then some ((true,()),()) else
  allSame fun (q71:Nat) =>
  allSame fun (q73:Nat) =>
  some (((iEq (bitsF .f32 a0 q71) (bitsF .f32 a1 q73)),()),())
 else
 allSame fun (q76:Nat) =>
 allSame fun (q78:Nat) =>
 some (((iEq (bitsF .f32 a0 q76) (bitsF .f32 a1 q78)),()),())
def qjk:Entry:=⟨⟨[.v (.flt .f32),.v (.flt .f32)],[.v (.val (.bool))],false⟩,fun x=>qdl x.1 x.2.1⟩
theorem qos:Sound Tryz.prog G 22 qjk:=qab (envS (l:=[(90,qk0)]) ⟨(qpa),trivial⟩) [] Tryz.func22 (by kernel_rfl) rfl fun _=>by kernel_rfl
def ql7 (a0:(Vec 3 Nat)) (a1:(Vec 3 Nat)):Option Dq7 :=
 (qdl (Vec.getD 3 a0 0 (0:Nat)) (Vec.getD 3 a1 0 (0:Nat))).bind fun y84 =>
 bif (! y84.1.1) then some ((false,()),()) else
 (qdl (Vec.getD 3 a0 1 (0:Nat)) (Vec.getD 3 a1 1 (0:Nat))).bind fun y88 =>
 bif (! y88.1.1) then some ((false,()),()) else
 (qdl (Vec.getD 3 a0 2 (0:Nat)) (Vec.getD 3 a1 2 (0:Nat))).bind fun y92 =>
 bif (! y92.1.1) then some ((false,()),()) else some ((true,()),())
def qr6:Entry:=⟨⟨[.v (.arr 3 (.flt .f32)),.v (.arr 3 (.flt .f32))],[.v (.val (.bool))],false⟩,fun x=>ql7 x.1 x.2.1⟩
theorem qaam:Sound Tryz.prog G 79 qr6:=qab (envS (l:=[(22,qjk)]) ⟨(qos),trivial⟩) [(2,.unroll 4)] Tryz.func79 (by kernel_rfl) rfl fun _=>by kernel_rfl
def qd6 (a0:Dq3) (a1:Dq3):Option Dq7 :=
 bif (iEq a0.1 a1.1) then
  (ql7 a0.2.1 a1.2.1).bind fun y65 =>
  bif y65.1.1 then
   bif (iEq (Vec.getD 3 a0.2.2.1 0 (0:Int)) (Vec.getD 3 a1.2.2.1 0 (0:Int))&&(iEq (Vec.getD 3 a0.2.2.1 1 (0:Int)) (Vec.getD 3 a1.2.2.1 1 (0:Int))&&(iEq (Vec.getD 3 a0.2.2.1 2 (0:Int)) (Vec.getD 3 a1.2.2.1 2 (0:Int))&&true))) then
    bif (iEq a0.2.2.2.1 a1.2.2.2.1) then
     (qdl a0.2.2.2.2.1 a1.2.2.2.2.1).bind fun y68 =>
     some ((y68.1.1,()),())
    else some ((false,()),())
   else some ((false,()),())
  else some ((false,()),())
 else some ((false,()),())
def qpu:Entry:=⟨⟨[.v Uq1,.v Uq1],[.v (.val (.bool))],false⟩,fun x=>qd6 x.1 x.2.1⟩
theorem qx8:Sound Tryz.prog G 82 qpu:=qab (envS (l:=[(22,qjk),(79,qr6)]) ⟨(qos),(qaam),trivial⟩) [] Tryz.func82 (by kernel_rfl) rfl fun _=>by kernel_rfl
def qbh (a0:Int) (a1:Int) (a2:Int):Option Dq7 :=
 bif (iLe a1 a0) then
  some (((iLe a0 a2),()),())
 else some ((false,()),())
def qfl:Entry:=⟨⟨[.v (.int .i64),.v (.int .i64),.v (.int .i64)],[.v (.val (.bool))],false⟩,fun x=>qbh x.1 x.2.1 x.2.2.1⟩
theorem qhd:Sound Tryz.prog G 97 qfl:=qab (envS (l:=[]) trivial) [] Tryz.func97 (by kernel_rfl) rfl fun _=>by kernel_rfl
def qi8 (a0:Dq3) (a1:Int):Option Dq7 :=
 bif (iEq a0.1 1) then
  (qd6 a0 ((a0.1,(0,0,0,()),(0,0,0,()),0,0,()):Dq3)).bind fun y39 =>
  bif y39.1.1 then
   (qbm a0.2.1).bind fun y40 =>
   bif y40.1.1 then
    (qaf ([a0.2.2.2.2.1]:(List Nat))).bind fun y41 =>
    some ((y41.1.1,()),())
   else some ((false,()),())
  else some ((false,()),())
 else
 bif (iEq a0.1 2) then
  (qd6 a0 ((a0.1,a0.2.1,(0,0,0,()),0,0,()):Dq3)).bind fun y43 =>
  bif y43.1.1 then
   (qbm a0.2.1).bind fun y44 =>
   bif y44.1.1 then
    (qaf ([a0.2.2.2.2.1]:(List Nat))).bind fun y45 =>
    some ((y45.1.1,()),())
   else some ((false,()),())
  else some ((false,()),())
 else
 bif (iEq a0.1 3) then
  (qd6 a0 ((a0.1,(0,0,0,()),a0.2.2.1,0,0,()):Dq3)).bind fun y47 =>
  bif y47.1.1 then
   (qbm a0.2.1).bind fun y48 =>
   bif y48.1.1 then
    (qaf ([a0.2.2.2.2.1]:(List Nat))).bind fun y49 =>
    some ((y49.1.1,()),())
   else some ((false,()),())
  else some ((false,()),())
 else
 bif (iEq a0.1 4) then
  (qbh a0.2.2.2.1 (0:Int) (iSub .i64 a1 1)).bind fun y52 =>
  bif (! y52.1.1) then some ((false,()),()) else
  (qd6 a0 ((a0.1,(0,0,0,()),(0,0,0,()),a0.2.2.2.1,a0.2.2.2.2.1,()):Dq3)).bind fun y54 =>
  bif y54.1.1 then
   (qbm a0.2.1).bind fun y55 =>
   bif y55.1.1 then
    (qaf ([a0.2.2.2.2.1]:(List Nat))).bind fun y56 =>
    some ((y56.1.1,()),())
   else some ((false,()),())
  else some ((false,()),())
 else some ((false,()),())
def qov:Entry:=⟨⟨[.v Uq1,.v (.int .i64)],[.v (.val (.bool))],false⟩,fun x=>qi8 x.1 x.2.1⟩
theorem qwr:Sound Tryz.prog G 57 qov:=qab (envS (l:=[(48,qbi),(82,qpu),(97,qfl),(98,qc3)]) ⟨(qbn),(qx8),(qhd),(qd2),trivial⟩) [] Tryz.func57 (by kernel_rfl) rfl fun _=>by kernel_rfl
def qi6 (a0:Dq3) (a1:Dq1):Option Dq7 :=
 (qi8 a0 (lenI a1.2.2.1)).bind fun y36 =>
 some (((! y36.1.1),()),())
def qot:Entry:=⟨⟨[.v Uq1,.ro Uq4],[.v (.val (.bool))],false⟩,fun x=>qi6 x.1 x.2.1⟩
theorem qwp:Sound Tryz.prog G 56 qot:=qab (envS (l:=[(57,qov)]) ⟨(qwr),trivial⟩) [] Tryz.func56 (by kernel_rfl) rfl fun _=>by kernel_rfl
def qgz (a0:(Vec 3 Nat)):Option Dq7 :=
 (qbm a0).bind fun y102 =>
 some (((! y102.1.1),()),())
def qmh:Entry:=⟨⟨[.v (.arr 3 (.flt .f32))],[.v (.val (.bool))],false⟩,fun x=>qgz x.1⟩
theorem qu2:Sound Tryz.prog G 124 qmh:=qab (envS (l:=[(98,qc3)]) ⟨(qd2),trivial⟩) [] Tryz.func124 (by kernel_rfl) rfl fun _=>by kernel_rfl
def qd8 (a0:(List (Vec 3 Nat))) (a1:(Dq18→Option Bool)) (s106:(Int×Unit)):Option ((Int×Unit)⊕Dq19) :=
 bif (iLt s106.1 (lenI a0)) then
  bif inB s106.1 (List.length a0) then
   (a1 ((List.getD a0 s106.1.toNat Lq6),())).bind fun y109 =>
   bif y109 then
    Option.map Sum.inr (some ((s106.1,()),()))
   else
   some (Sum.inl ((iAdd .i64 s106.1 1),()))
  else none
 else
 Option.map Sum.inr (some ((((-1:Int):Int),()),()))
def qdi (a0:(List (Vec 3 Nat))) (a1:(Dq18→Option Bool)):Option Dq19 :=
 run (qd8 a0 a1) ((0:Int),())
def qhg:Entry:=⟨⟨[.v (.list (.arr 3 (.flt .f32))),.fn ⟨[.arr 3 (.flt .f32)],.bool⟩],[.v (.val (.int .i64))],false⟩,fun x=>qdi x.1 x.2.1⟩
theorem qnp:Sound Tryz.prog G 159 qhg:=qab (envS (l:=[]) trivial) [(2,.vary [(8,.sc (.int .i64))])] Tryz.func159 (by kernel_rfl) rfl fun _=>by kernel_rfl
def qct (a0:(List (Vec 3 Nat))) (a1:(Dq18→Option Bool)):Option Dq7 :=
 (qdi a0 a1).bind fun y104 =>
 some (((iLe 0 y104.1.1),()),())
def qf3:Entry:=⟨⟨[.v (.list (.arr 3 (.flt .f32))),.fn ⟨[.arr 3 (.flt .f32)],.bool⟩],[.v (.val (.bool))],false⟩,fun x=>qct x.1 x.2.1⟩
theorem ql4:Sound Tryz.prog G 123 qf3:=qab (envS (l:=[(159,qhg)]) ⟨(qnp),trivial⟩) [] Tryz.func123 (by kernel_rfl) rfl fun _=>by kernel_rfl
def qgc (a0:Int) (a1:(Vec 3 Nat)) (a2:(List (Vec 3 Nat))):Option Dq7 :=
 (qbh a0 (1:Int) (64:Int)).bind fun y96 =>
 bif y96.1.1 then
  (qbm a1).bind fun y97 =>
  bif y97.1.1 then
   bif (iLe (lenI a2) 6) then
    (qct a2 (fun (z99:Dq18)=>(qgz z99.1).map fun y=>y.1.1)).bind fun y100 =>
    some (((! y100.1.1),()),())
   else some ((false,()),())
  else some ((false,()),())
 else some ((false,()),())
def qjq:Entry:=⟨⟨[.v (.int .i64),.v (.arr 3 (.flt .f32)),.v (.list (.arr 3 (.flt .f32)))],[.v (.val (.bool))],false⟩,fun x=>qgc x.1 x.2.1 x.2.2.1⟩
theorem qox:Sound Tryz.prog G 54 qjq:=qab (envS (l:=[(97,qfl),(98,qc3),(123,qf3),(124,qmh)]) ⟨(qhd),(qd2),(ql4),(qu2),trivial⟩) [] Tryz.func54 (by kernel_rfl) rfl fun _=>by kernel_rfl
def qdo (a0:(List Dq3)) (a1:((Dq3×Unit)→Option Bool)) (s113:(Int×Unit)):Option ((Int×Unit)⊕Dq19) :=
 bif (iLt s113.1 (lenI a0)) then
  bif inB s113.1 (List.length a0) then
   (a1 ((List.getD a0 s113.1.toNat Lq10),())).bind fun y116 =>
   bif y116 then
    Option.map Sum.inr (some ((s113.1,()),()))
   else
   some (Sum.inl ((iAdd .i64 s113.1 1),()))
  else none
 else
 Option.map Sum.inr (some ((((-1:Int):Int),()),()))
def qc2 (a0:(List Dq3)) (a1:((Dq3×Unit)→Option Bool)):Option Dq19 :=
 run (qdo a0 a1) ((0:Int),())
def qgj:Entry:=⟨⟨[.v (.list Uq1),.fn ⟨[.pair (.int .i64) Uq8],.bool⟩],[.v (.val (.int .i64))],false⟩,fun x=>qc2 x.1 x.2.1⟩
theorem qmo:Sound Tryz.prog G 125 qgj:=qab (envS (l:=[]) trivial) [(2,.vary [(8,.sc (.int .i64))])] Tryz.func125 (by kernel_rfl) rfl fun _=>by kernel_rfl
def qcf (a0:(List Dq3)) (a1:((Dq3×Unit)→Option Bool)):Option Dq7 :=
 (qc2 a0 a1).bind fun y111 =>
 some (((iLe 0 y111.1.1),()),())
def qfg:Entry:=⟨⟨[.v (.list Uq1),.fn ⟨[.pair (.int .i64) Uq8],.bool⟩],[.v (.val (.bool))],false⟩,fun x=>qcf x.1 x.2.1⟩
theorem qkt:Sound Tryz.prog G 55 qfg:=qab (envS (l:=[(125,qgj)]) ⟨(qmo),trivial⟩) [] Tryz.func55 (by kernel_rfl) rfl fun _=>by kernel_rfl
def qdv (a0:Dq1):Option Dq7 :=
 (qgc a0.1 a0.2.1 a0.2.2.1).bind fun y31 =>
 bif y31.1.1 then
  bif (iLe (lenI a0.2.2.2.1) 1200) then
   (qcf a0.2.2.2.1 (fun (z33:(Dq3×Unit))=>(qi6 z33.1 a0).map fun y=>y.1.1)).bind fun y34 =>
   some (((! y34.1.1),()),())
  else some ((false,()),())
 else some ((false,()),())
def qd5:Entry:=⟨⟨[.v Uq4],[.v (.val (.bool))],false⟩,fun x=>qdv x.1⟩
theorem qfu:Sound Tryz.prog G 12 qd5:=qab (envS (l:=[(54,qjq),(55,qfg),(56,qot)]) ⟨(qox),(qkt),(qwp),trivial⟩) [] Tryz.func12 (by kernel_rfl) rfl fun _=>by kernel_rfl
def qa4 (a0:Dq2):Option Dq7 :=
 (qaf ([Vec.getD 6 a0.1 0 (0:Nat),Vec.getD 6 a0.1 1 (0:Nat),Vec.getD 6 a0.1 2 (0:Nat),Vec.getD 6 a0.1 3 (0:Nat),Vec.getD 6 a0.1 4 (0:Nat),Vec.getD 6 a0.1 5 (0:Nat)]:(List Nat))).bind fun y130 =>
 bif (! y130.1.1) then some ((false,()),()) else
 (qaf ([Vec.getD 6 (Vec.getD 6 a0.2.1 0 Lq2) 0 (0:Nat),Vec.getD 6 (Vec.getD 6 a0.2.1 0 Lq2) 1 (0:Nat),Vec.getD 6 (Vec.getD 6 a0.2.1 0 Lq2) 2 (0:Nat),Vec.getD 6 (Vec.getD 6 a0.2.1 0 Lq2) 3 (0:Nat),Vec.getD 6 (Vec.getD 6 a0.2.1 0 Lq2) 4 (0:Nat),Vec.getD 6 (Vec.getD 6 a0.2.1 0 Lq2) 5 (0:Nat)]:(List Nat))).bind fun y132 =>
 bif (! y132.1.1) then some ((false,()),()) else
 bif (fLt .f32 (Vec.getD 6 (Vec.getD 6 a0.2.1 0 Lq2) 0 (0:Nat)) 0) then some ((false,()),()) else
 bif (! (fEq .f32 (Vec.getD 6 (Vec.getD 6 a0.2.1 0 Lq2) 1 (0:Nat)) 0)) then some ((false,()),()) else
 bif (! (fEq .f32 (Vec.getD 6 (Vec.getD 6 a0.2.1 0 Lq2) 2 (0:Nat)) 0)) then some ((false,()),()) else
 bif (! (fEq .f32 (Vec.getD 6 (Vec.getD 6 a0.2.1 0 Lq2) 3 (0:Nat)) 0)) then some ((false,()),()) else
 bif (! (fEq .f32 (Vec.getD 6 (Vec.getD 6 a0.2.1 0 Lq2) 4 (0:Nat)) 0)) then some ((false,()),()) else
 bif (! (fEq .f32 (Vec.getD 6 (Vec.getD 6 a0.2.1 0 Lq2) 5 (0:Nat)) 0)) then some ((false,()),()) else
 (qaf ([Vec.getD 6 (Vec.getD 6 a0.2.1 1 Lq2) 0 (0:Nat),Vec.getD 6 (Vec.getD 6 a0.2.1 1 Lq2) 1 (0:Nat),Vec.getD 6 (Vec.getD 6 a0.2.1 1 Lq2) 2 (0:Nat),Vec.getD 6 (Vec.getD 6 a0.2.1 1 Lq2) 3 (0:Nat),Vec.getD 6 (Vec.getD 6 a0.2.1 1 Lq2) 4 (0:Nat),Vec.getD 6 (Vec.getD 6 a0.2.1 1 Lq2) 5 (0:Nat)]:(List Nat))).bind fun y146 =>
 bif (! y146.1.1) then some ((false,()),()) else
 bif (fLt .f32 (Vec.getD 6 (Vec.getD 6 a0.2.1 1 Lq2) 1 (0:Nat)) 0) then some ((false,()),()) else
 bif (! (fEq .f32 (Vec.getD 6 (Vec.getD 6 a0.2.1 1 Lq2) 2 (0:Nat)) 0)) then some ((false,()),()) else
 bif (! (fEq .f32 (Vec.getD 6 (Vec.getD 6 a0.2.1 1 Lq2) 3 (0:Nat)) 0)) then some ((false,()),()) else
 bif (! (fEq .f32 (Vec.getD 6 (Vec.getD 6 a0.2.1 1 Lq2) 4 (0:Nat)) 0)) then some ((false,()),()) else
 bif (! (fEq .f32 (Vec.getD 6 (Vec.getD 6 a0.2.1 1 Lq2) 5 (0:Nat)) 0)) then some ((false,()),()) else
 (qaf ([Vec.getD 6 (Vec.getD 6 a0.2.1 2 Lq2) 0 (0:Nat),Vec.getD 6 (Vec.getD 6 a0.2.1 2 Lq2) 1 (0:Nat),Vec.getD 6 (Vec.getD 6 a0.2.1 2 Lq2) 2 (0:Nat),Vec.getD 6 (Vec.getD 6 a0.2.1 2 Lq2) 3 (0:Nat),Vec.getD 6 (Vec.getD 6 a0.2.1 2 Lq2) 4 (0:Nat),Vec.getD 6 (Vec.getD 6 a0.2.1 2 Lq2) 5 (0:Nat)]:(List Nat))).bind fun y158 =>
 bif (! y158.1.1) then some ((false,()),()) else
 bif (fLt .f32 (Vec.getD 6 (Vec.getD 6 a0.2.1 2 Lq2) 2 (0:Nat)) 0) then some ((false,()),()) else
 bif (! (fEq .f32 (Vec.getD 6 (Vec.getD 6 a0.2.1 2 Lq2) 3 (0:Nat)) 0)) then some ((false,()),()) else
 bif (! (fEq .f32 (Vec.getD 6 (Vec.getD 6 a0.2.1 2 Lq2) 4 (0:Nat)) 0)) then some ((false,()),()) else
 bif (! (fEq .f32 (Vec.getD 6 (Vec.getD 6 a0.2.1 2 Lq2) 5 (0:Nat)) 0)) then some ((false,()),()) else
 (qaf ([Vec.getD 6 (Vec.getD 6 a0.2.1 3 Lq2) 0 (0:Nat),Vec.getD 6 (Vec.getD 6 a0.2.1 3 Lq2) 1 (0:Nat),Vec.getD 6 (Vec.getD 6 a0.2.1 3 Lq2) 2 (0:Nat),Vec.getD 6 (Vec.getD 6 a0.2.1 3 Lq2) 3 (0:Nat),Vec.getD 6 (Vec.getD 6 a0.2.1 3 Lq2) 4 (0:Nat),Vec.getD 6 (Vec.getD 6 a0.2.1 3 Lq2) 5 (0:Nat)]:(List Nat))).bind fun y168 =>
 bif (! y168.1.1) then some ((false,()),()) else
 bif (fLt .f32 (Vec.getD 6 (Vec.getD 6 a0.2.1 3 Lq2) 3 (0:Nat)) 0) then some ((false,()),()) else
 bif (! (fEq .f32 (Vec.getD 6 (Vec.getD 6 a0.2.1 3 Lq2) 4 (0:Nat)) 0)) then some ((false,()),()) else
 bif (! (fEq .f32 (Vec.getD 6 (Vec.getD 6 a0.2.1 3 Lq2) 5 (0:Nat)) 0)) then some ((false,()),()) else
 (qaf ([Vec.getD 6 (Vec.getD 6 a0.2.1 4 Lq2) 0 (0:Nat),Vec.getD 6 (Vec.getD 6 a0.2.1 4 Lq2) 1 (0:Nat),Vec.getD 6 (Vec.getD 6 a0.2.1 4 Lq2) 2 (0:Nat),Vec.getD 6 (Vec.getD 6 a0.2.1 4 Lq2) 3 (0:Nat),Vec.getD 6 (Vec.getD 6 a0.2.1 4 Lq2) 4 (0:Nat),Vec.getD 6 (Vec.getD 6 a0.2.1 4 Lq2) 5 (0:Nat)]:(List Nat))).bind fun y176 =>
 bif (! y176.1.1) then some ((false,()),()) else
 bif (fLt .f32 (Vec.getD 6 (Vec.getD 6 a0.2.1 4 Lq2) 4 (0:Nat)) 0) then some ((false,()),()) else
 bif (! (fEq .f32 (Vec.getD 6 (Vec.getD 6 a0.2.1 4 Lq2) 5 (0:Nat)) 0)) then some ((false,()),()) else
 (qaf ([Vec.getD 6 (Vec.getD 6 a0.2.1 5 Lq2) 0 (0:Nat),Vec.getD 6 (Vec.getD 6 a0.2.1 5 Lq2) 1 (0:Nat),Vec.getD 6 (Vec.getD 6 a0.2.1 5 Lq2) 2 (0:Nat),Vec.getD 6 (Vec.getD 6 a0.2.1 5 Lq2) 3 (0:Nat),Vec.getD 6 (Vec.getD 6 a0.2.1 5 Lq2) 4 (0:Nat),Vec.getD 6 (Vec.getD 6 a0.2.1 5 Lq2) 5 (0:Nat)]:(List Nat))).bind fun y182 =>
 bif (! y182.1.1) then some ((false,()),()) else
 bif (fLt .f32 (Vec.getD 6 (Vec.getD 6 a0.2.1 5 Lq2) 5 (0:Nat)) 0) then some ((false,()),()) else some ((true,()),())
def qbe:Entry:=⟨⟨[.v Uq2],[.v (.val (.bool))],false⟩,fun x=>qa4 x.1⟩
theorem qbl:Sound Tryz.prog G 107 qbe:=qab (envS (l:=[(48,qbi)]) ⟨(qbn),trivial⟩) [(4,.unroll 7),(9,.unroll 6)] Tryz.func107 (by kernel_rfl) rfl fun _=>by kernel_rfl
def ql8 (a0:(Vec 6 Nat)) (a1:(Vec 6 Nat)):Option Dq14 :=
 let x122:=Vec.getD 6 a1 0 (0:Nat)
 let x123:=Vec.getD 6 a1 1 (0:Nat)
 let x124:=Vec.getD 6 a1 2 (0:Nat)
 let x125:=Vec.getD 6 a1 3 (0:Nat)
 let x126:=Vec.getD 6 a1 4 (0:Nat)
 let x127:=Vec.getD 6 a1 5 (0:Nat)
 (qa4 ((a0,((x122,0,0,0,0,0,()),(0,x123,0,0,0,0,()),(0,0,x124,0,0,0,()),(0,0,0,x125,0,0,()),(0,0,0,0,x126,0,()),(0,0,0,0,0,x127,()),()),()):Dq2)).bind fun y128 =>
 bif (! y128.1.1) then
  some ((Lq1,(1:Int),()),())
 else
 some ((((a0,((x122,0,0,0,0,0,()),(0,x123,0,0,0,0,()),(0,0,x124,0,0,0,()),(0,0,0,x125,0,0,()),(0,0,0,0,x126,0,()),(0,0,0,0,0,x127,()),()),()):Dq2),(0:Int),()),())
def qr7:Entry:=⟨⟨[.v (.arr 6 (.flt .f32)),.v (.arr 6 (.flt .f32))],[.v (.val Uq2),.v (.val (.int .i64))],false⟩,fun x=>ql8 x.1 x.2.1⟩
theorem qaan:Sound Tryz.prog G 133 qr7:=qab (envS (l:=[(107,qbe)]) ⟨(qbl),trivial⟩) [(3,.unroll 7)] Tryz.func133 (by kernel_rfl) rfl fun _=>by kernel_rfl
def qer (a0:Dq1):Option ((Dq2×Unit)×Unit) :=
 (ql8 (((Vec.getD 3 a0.2.1 0 (0:Nat)),(Vec.getD 3 a0.2.1 1 (0:Nat)),(Vec.getD 3 a0.2.1 2 (0:Nat)),0,0,0,()):(Vec 6 Nat)) ((1056964608,1056964608,1056964608,1065353216,1065353216,1065353216,()):(Vec 6 Nat))).bind fun y121 =>
 some ((y121.1.1,()),())
def qjl:Entry:=⟨⟨[.v Uq4],[.v (.val Uq2)],false⟩,fun x=>qer x.1⟩
theorem qou:Sound Tryz.prog G 75 qjl:=qab (envS (l:=[(133,qr7)]) ⟨(qaan),trivial⟩) [] Tryz.func75 (by kernel_rfl) rfl fun _=>by kernel_rfl
def qi4 (a0:Dq1):Option Dq14 :=
 (qdv a0).bind fun y28 =>
 bif (! y28.1.1) then
  some ((Lq1,(1:Int),()),())
 else
 (qer a0).bind fun y30 =>
 some ((y30.1.1,(0:Int),()),())
def qol:Entry:=⟨⟨[.v Uq4],[.v (.val Uq2),.v (.val (.int .i64))],false⟩,fun x=>qi4 x.1⟩
theorem qwl:Sound Tryz.prog G 36 qol:=qab (envS (l:=[(12,qd5),(75,qjl)]) ⟨(qfu),(qou),trivial⟩) [] Tryz.func36 (by kernel_rfl) rfl fun _=>by kernel_rfl
theorem qnx:Sound Tryz.prog G 128 qhn:=qz2 (by decide) Tryz.func128 (by kernel_rfl) (by kernel_rfl) (Any.Builder_copyCheck_fresh Tryz.lays240 Tryz.Builder_X72_240) (Any.Builder_copyCheck_used Tryz.lays240 Tryz.Builder_X72_240)
def qap (a0:Dq10) (a1:List UInt8):Option ((Int×Bool×Unit)×(Dq10×Unit)) :=
 (qfd ((a0.1,a0.2.1,a0.2.2):Dq10)).bind fun y255 =>
 bif room (List.length y255.2.1.2.1+List.length (bytesOf a1)) 1 then
  some ((lenI a1,true,()),(((y255.2.1.1,(y255.2.1.2.1++(bytesOf a1)),y255.2.1.2.2):Dq10),()))
 else none
def qgs:Entry:=⟨⟨[.io (.pair (.val (.ref 122)) (.pair (.rows (.int .u8)) (.val (.unit)))),.v (.str)],[.v (.val (.int .i64)),.v (.val (.err))],true⟩,fun x=>qap x.1 x.2.1⟩
theorem qmx:Sound Tryz.prog G 68 qgs:=qab (envS (l:=[(128,qhn)]) ⟨(qnx),trivial⟩) [] Tryz.func68 (by kernel_rfl) rfl fun _=>by kernel_rfl
def qch (a0:Int):Option Dq7 :=
 some (((iEq (iAnd .i64 a0 (iSub .i64 a0 1)) 0),()),())
def qfy:Entry:=⟨⟨[.v (.int .i64)],[.v (.val (.bool))],false⟩,fun x=>qch x.1⟩
theorem qlg:Sound Tryz.prog G 243 qfy:=qab (envS (l:=[]) trivial) [] Tryz.func243 (by kernel_rfl) rfl fun _=>by kernel_rfl
theorem qpe (db:GDeb Tryz.prog G):Sound Tryz.prog G 244 qez:=qacm Tryz.func244 (by kernel_rfl) (by kernel_rfl) db Tryz.trail
def ql1 (x278:Int) (x280:Int) (x277:Int) (a3:Bool) (a4:Bool) (s287:Dq20):Option (Dq20⊕Dq23) :=
 bif (iLe x278 s287.1) then
  let x289:=iSub .i64 s287.2.1 1
  let x290:=iAnd .u64 s287.1 x280
  bif inB x290 (List.length ([48,49,50,51,52,53,54,55,56,57,97,98,99,100,101,102,103,104,105,106,107,108,109,110,111,112,113,114,115,116,117,118,119,120,121,122])) then
   bif inB x289 65 then
    bif iLe 0 x277 then
     some (Sum.inl ((iShr .u64 s287.1 x277),x289,Vec.set 65 s287.2.2.1 x289.toNat (strAt ([48,49,50,51,52,53,54,55,56,57,97,98,99,100,101,102,103,104,105,106,107,108,109,110,111,112,113,114,115,116,117,118,119,120,121,122]) x290),()))
    else none
   else none
  else none
 else
 Option.map Sum.inr (
  let x293:=iSub .i64 s287.2.1 1
  bif inB s287.1 (List.length ([48,49,50,51,52,53,54,55,56,57,97,98,99,100,101,102,103,104,105,106,107,108,109,110,111,112,113,114,115,116,117,118,119,120,121,122])) then
   let x294:=strAt ([48,49,50,51,52,53,54,55,56,57,97,98,99,100,101,102,103,104,105,106,107,108,109,110,111,112,113,114,115,116,117,118,119,120,121,122]) s287.1
   bif inB x293 65 then
    bif a3 then
     let x295:=iSub .i64 x293 1
     bif inB x295 65 then
      bif a4 then
       bif inS x295 Lq11 65 then none else none
      else
      bif inS x295 Lq11 65 then
       some ((([]:(List Int)),(ofBytes (List.take (65-x295.toNat) (List.drop x295.toNat ([Vec.getD 65 (Vec.set 65 (Vec.set 65 s287.2.2.1 x293.toNat x294) x295.toNat (45:Int)) 0 (0:Int),Vec.getD 65 (Vec.set 65 (Vec.set 65 s287.2.2.1 x293.toNat x294) x295.toNat (45:Int)) 1 (0:Int),Vec.getD 65 (Vec.set 65 (Vec.set 65 s287.2.2.1 x293.toNat x294) x295.toNat (45:Int)) 2 (0:Int),Vec.getD 65 (Vec.set 65 (Vec.set 65 s287.2.2.1 x293.toNat x294) x295.toNat (45:Int)) 3 (0:Int),Vec.getD 65 (Vec.set 65 (Vec.set 65 s287.2.2.1 x293.toNat x294) x295.toNat (45:Int)) 4 (0:Int),Vec.getD 65 (Vec.set 65 (Vec.set 65 s287.2.2.1 x293.toNat x294) x295.toNat (45:Int)) 5 (0:Int),Vec.getD 65 (Vec.set 65 (Vec.set 65 s287.2.2.1 x293.toNat x294) x295.toNat (45:Int)) 6 (0:Int),Vec.getD 65 (Vec.set 65 (Vec.set 65 s287.2.2.1 x293.toNat x294) x295.toNat (45:Int)) 7 (0:Int),Vec.getD 65 (Vec.set 65 (Vec.set 65 s287.2.2.1 x293.toNat x294) x295.toNat (45:Int)) 8 (0:Int),Vec.getD 65 (Vec.set 65 (Vec.set 65 s287.2.2.1 x293.toNat x294) x295.toNat (45:Int)) 9 (0:Int),Vec.getD 65 (Vec.set 65 (Vec.set 65 s287.2.2.1 x293.toNat x294) x295.toNat (45:Int)) 10 (0:Int),Vec.getD 65 (Vec.set 65 (Vec.set 65 s287.2.2.1 x293.toNat x294) x295.toNat (45:Int)) 11 (0:Int),Vec.getD 65 (Vec.set 65 (Vec.set 65 s287.2.2.1 x293.toNat x294) x295.toNat (45:Int)) 12 (0:Int),Vec.getD 65 (Vec.set 65 (Vec.set 65 s287.2.2.1 x293.toNat x294) x295.toNat (45:Int)) 13 (0:Int),Vec.getD 65 (Vec.set 65 (Vec.set 65 s287.2.2.1 x293.toNat x294) x295.toNat (45:Int)) 14 (0:Int),Vec.getD 65 (Vec.set 65 (Vec.set 65 s287.2.2.1 x293.toNat x294) x295.toNat (45:Int)) 15 (0:Int),Vec.getD 65 (Vec.set 65 (Vec.set 65 s287.2.2.1 x293.toNat x294) x295.toNat (45:Int)) 16 (0:Int),Vec.getD 65 (Vec.set 65 (Vec.set 65 s287.2.2.1 x293.toNat x294) x295.toNat (45:Int)) 17 (0:Int),Vec.getD 65 (Vec.set 65 (Vec.set 65 s287.2.2.1 x293.toNat x294) x295.toNat (45:Int)) 18 (0:Int),Vec.getD 65 (Vec.set 65 (Vec.set 65 s287.2.2.1 x293.toNat x294) x295.toNat (45:Int)) 19 (0:Int),Vec.getD 65 (Vec.set 65 (Vec.set 65 s287.2.2.1 x293.toNat x294) x295.toNat (45:Int)) 20 (0:Int),Vec.getD 65 (Vec.set 65 (Vec.set 65 s287.2.2.1 x293.toNat x294) x295.toNat (45:Int)) 21 (0:Int),Vec.getD 65 (Vec.set 65 (Vec.set 65 s287.2.2.1 x293.toNat x294) x295.toNat (45:Int)) 22 (0:Int),Vec.getD 65 (Vec.set 65 (Vec.set 65 s287.2.2.1 x293.toNat x294) x295.toNat (45:Int)) 23 (0:Int),Vec.getD 65 (Vec.set 65 (Vec.set 65 s287.2.2.1 x293.toNat x294) x295.toNat (45:Int)) 24 (0:Int),Vec.getD 65 (Vec.set 65 (Vec.set 65 s287.2.2.1 x293.toNat x294) x295.toNat (45:Int)) 25 (0:Int),Vec.getD 65 (Vec.set 65 (Vec.set 65 s287.2.2.1 x293.toNat x294) x295.toNat (45:Int)) 26 (0:Int),Vec.getD 65 (Vec.set 65 (Vec.set 65 s287.2.2.1 x293.toNat x294) x295.toNat (45:Int)) 27 (0:Int),Vec.getD 65 (Vec.set 65 (Vec.set 65 s287.2.2.1 x293.toNat x294) x295.toNat (45:Int)) 28 (0:Int),Vec.getD 65 (Vec.set 65 (Vec.set 65 s287.2.2.1 x293.toNat x294) x295.toNat (45:Int)) 29 (0:Int),Vec.getD 65 (Vec.set 65 (Vec.set 65 s287.2.2.1 x293.toNat x294) x295.toNat (45:Int)) 30 (0:Int),Vec.getD 65 (Vec.set 65 (Vec.set 65 s287.2.2.1 x293.toNat x294) x295.toNat (45:Int)) 31 (0:Int),Vec.getD 65 (Vec.set 65 (Vec.set 65 s287.2.2.1 x293.toNat x294) x295.toNat (45:Int)) 32 (0:Int),Vec.getD 65 (Vec.set 65 (Vec.set 65 s287.2.2.1 x293.toNat x294) x295.toNat (45:Int)) 33 (0:Int),Vec.getD 65 (Vec.set 65 (Vec.set 65 s287.2.2.1 x293.toNat x294) x295.toNat (45:Int)) 34 (0:Int),Vec.getD 65 (Vec.set 65 (Vec.set 65 s287.2.2.1 x293.toNat x294) x295.toNat (45:Int)) 35 (0:Int),Vec.getD 65 (Vec.set 65 (Vec.set 65 s287.2.2.1 x293.toNat x294) x295.toNat (45:Int)) 36 (0:Int),Vec.getD 65 (Vec.set 65 (Vec.set 65 s287.2.2.1 x293.toNat x294) x295.toNat (45:Int)) 37 (0:Int),Vec.getD 65 (Vec.set 65 (Vec.set 65 s287.2.2.1 x293.toNat x294) x295.toNat (45:Int)) 38 (0:Int),Vec.getD 65 (Vec.set 65 (Vec.set 65 s287.2.2.1 x293.toNat x294) x295.toNat (45:Int)) 39 (0:Int),Vec.getD 65 (Vec.set 65 (Vec.set 65 s287.2.2.1 x293.toNat x294) x295.toNat (45:Int)) 40 (0:Int),Vec.getD 65 (Vec.set 65 (Vec.set 65 s287.2.2.1 x293.toNat x294) x295.toNat (45:Int)) 41 (0:Int),Vec.getD 65 (Vec.set 65 (Vec.set 65 s287.2.2.1 x293.toNat x294) x295.toNat (45:Int)) 42 (0:Int),Vec.getD 65 (Vec.set 65 (Vec.set 65 s287.2.2.1 x293.toNat x294) x295.toNat (45:Int)) 43 (0:Int),Vec.getD 65 (Vec.set 65 (Vec.set 65 s287.2.2.1 x293.toNat x294) x295.toNat (45:Int)) 44 (0:Int),Vec.getD 65 (Vec.set 65 (Vec.set 65 s287.2.2.1 x293.toNat x294) x295.toNat (45:Int)) 45 (0:Int),Vec.getD 65 (Vec.set 65 (Vec.set 65 s287.2.2.1 x293.toNat x294) x295.toNat (45:Int)) 46 (0:Int),Vec.getD 65 (Vec.set 65 (Vec.set 65 s287.2.2.1 x293.toNat x294) x295.toNat (45:Int)) 47 (0:Int),Vec.getD 65 (Vec.set 65 (Vec.set 65 s287.2.2.1 x293.toNat x294) x295.toNat (45:Int)) 48 (0:Int),Vec.getD 65 (Vec.set 65 (Vec.set 65 s287.2.2.1 x293.toNat x294) x295.toNat (45:Int)) 49 (0:Int),Vec.getD 65 (Vec.set 65 (Vec.set 65 s287.2.2.1 x293.toNat x294) x295.toNat (45:Int)) 50 (0:Int),Vec.getD 65 (Vec.set 65 (Vec.set 65 s287.2.2.1 x293.toNat x294) x295.toNat (45:Int)) 51 (0:Int),Vec.getD 65 (Vec.set 65 (Vec.set 65 s287.2.2.1 x293.toNat x294) x295.toNat (45:Int)) 52 (0:Int),Vec.getD 65 (Vec.set 65 (Vec.set 65 s287.2.2.1 x293.toNat x294) x295.toNat (45:Int)) 53 (0:Int),Vec.getD 65 (Vec.set 65 (Vec.set 65 s287.2.2.1 x293.toNat x294) x295.toNat (45:Int)) 54 (0:Int),Vec.getD 65 (Vec.set 65 (Vec.set 65 s287.2.2.1 x293.toNat x294) x295.toNat (45:Int)) 55 (0:Int),Vec.getD 65 (Vec.set 65 (Vec.set 65 s287.2.2.1 x293.toNat x294) x295.toNat (45:Int)) 56 (0:Int),Vec.getD 65 (Vec.set 65 (Vec.set 65 s287.2.2.1 x293.toNat x294) x295.toNat (45:Int)) 57 (0:Int),Vec.getD 65 (Vec.set 65 (Vec.set 65 s287.2.2.1 x293.toNat x294) x295.toNat (45:Int)) 58 (0:Int),Vec.getD 65 (Vec.set 65 (Vec.set 65 s287.2.2.1 x293.toNat x294) x295.toNat (45:Int)) 59 (0:Int),Vec.getD 65 (Vec.set 65 (Vec.set 65 s287.2.2.1 x293.toNat x294) x295.toNat (45:Int)) 60 (0:Int),Vec.getD 65 (Vec.set 65 (Vec.set 65 s287.2.2.1 x293.toNat x294) x295.toNat (45:Int)) 61 (0:Int),Vec.getD 65 (Vec.set 65 (Vec.set 65 s287.2.2.1 x293.toNat x294) x295.toNat (45:Int)) 62 (0:Int),Vec.getD 65 (Vec.set 65 (Vec.set 65 s287.2.2.1 x293.toNat x294) x295.toNat (45:Int)) 63 (0:Int),Vec.getD 65 (Vec.set 65 (Vec.set 65 s287.2.2.1 x293.toNat x294) x295.toNat (45:Int)) 64 (0:Int)]:(List Int))))),()),())
      else none
     else none
    else
    bif a4 then
     bif inS x293 Lq11 65 then none else none
    else
    bif inS x293 Lq11 65 then
     some ((([]:(List Int)),(ofBytes (List.take (65-x293.toNat) (List.drop x293.toNat ([Vec.getD 65 (Vec.set 65 s287.2.2.1 x293.toNat x294) 0 (0:Int),Vec.getD 65 (Vec.set 65 s287.2.2.1 x293.toNat x294) 1 (0:Int),Vec.getD 65 (Vec.set 65 s287.2.2.1 x293.toNat x294) 2 (0:Int),Vec.getD 65 (Vec.set 65 s287.2.2.1 x293.toNat x294) 3 (0:Int),Vec.getD 65 (Vec.set 65 s287.2.2.1 x293.toNat x294) 4 (0:Int),Vec.getD 65 (Vec.set 65 s287.2.2.1 x293.toNat x294) 5 (0:Int),Vec.getD 65 (Vec.set 65 s287.2.2.1 x293.toNat x294) 6 (0:Int),Vec.getD 65 (Vec.set 65 s287.2.2.1 x293.toNat x294) 7 (0:Int),Vec.getD 65 (Vec.set 65 s287.2.2.1 x293.toNat x294) 8 (0:Int),Vec.getD 65 (Vec.set 65 s287.2.2.1 x293.toNat x294) 9 (0:Int),Vec.getD 65 (Vec.set 65 s287.2.2.1 x293.toNat x294) 10 (0:Int),Vec.getD 65 (Vec.set 65 s287.2.2.1 x293.toNat x294) 11 (0:Int),Vec.getD 65 (Vec.set 65 s287.2.2.1 x293.toNat x294) 12 (0:Int),Vec.getD 65 (Vec.set 65 s287.2.2.1 x293.toNat x294) 13 (0:Int),Vec.getD 65 (Vec.set 65 s287.2.2.1 x293.toNat x294) 14 (0:Int),Vec.getD 65 (Vec.set 65 s287.2.2.1 x293.toNat x294) 15 (0:Int),Vec.getD 65 (Vec.set 65 s287.2.2.1 x293.toNat x294) 16 (0:Int),Vec.getD 65 (Vec.set 65 s287.2.2.1 x293.toNat x294) 17 (0:Int),Vec.getD 65 (Vec.set 65 s287.2.2.1 x293.toNat x294) 18 (0:Int),Vec.getD 65 (Vec.set 65 s287.2.2.1 x293.toNat x294) 19 (0:Int),Vec.getD 65 (Vec.set 65 s287.2.2.1 x293.toNat x294) 20 (0:Int),Vec.getD 65 (Vec.set 65 s287.2.2.1 x293.toNat x294) 21 (0:Int),Vec.getD 65 (Vec.set 65 s287.2.2.1 x293.toNat x294) 22 (0:Int),Vec.getD 65 (Vec.set 65 s287.2.2.1 x293.toNat x294) 23 (0:Int),Vec.getD 65 (Vec.set 65 s287.2.2.1 x293.toNat x294) 24 (0:Int),Vec.getD 65 (Vec.set 65 s287.2.2.1 x293.toNat x294) 25 (0:Int),Vec.getD 65 (Vec.set 65 s287.2.2.1 x293.toNat x294) 26 (0:Int),Vec.getD 65 (Vec.set 65 s287.2.2.1 x293.toNat x294) 27 (0:Int),Vec.getD 65 (Vec.set 65 s287.2.2.1 x293.toNat x294) 28 (0:Int),Vec.getD 65 (Vec.set 65 s287.2.2.1 x293.toNat x294) 29 (0:Int),Vec.getD 65 (Vec.set 65 s287.2.2.1 x293.toNat x294) 30 (0:Int),Vec.getD 65 (Vec.set 65 s287.2.2.1 x293.toNat x294) 31 (0:Int),Vec.getD 65 (Vec.set 65 s287.2.2.1 x293.toNat x294) 32 (0:Int),Vec.getD 65 (Vec.set 65 s287.2.2.1 x293.toNat x294) 33 (0:Int),Vec.getD 65 (Vec.set 65 s287.2.2.1 x293.toNat x294) 34 (0:Int),Vec.getD 65 (Vec.set 65 s287.2.2.1 x293.toNat x294) 35 (0:Int),Vec.getD 65 (Vec.set 65 s287.2.2.1 x293.toNat x294) 36 (0:Int),Vec.getD 65 (Vec.set 65 s287.2.2.1 x293.toNat x294) 37 (0:Int),Vec.getD 65 (Vec.set 65 s287.2.2.1 x293.toNat x294) 38 (0:Int),Vec.getD 65 (Vec.set 65 s287.2.2.1 x293.toNat x294) 39 (0:Int),Vec.getD 65 (Vec.set 65 s287.2.2.1 x293.toNat x294) 40 (0:Int),Vec.getD 65 (Vec.set 65 s287.2.2.1 x293.toNat x294) 41 (0:Int),Vec.getD 65 (Vec.set 65 s287.2.2.1 x293.toNat x294) 42 (0:Int),Vec.getD 65 (Vec.set 65 s287.2.2.1 x293.toNat x294) 43 (0:Int),Vec.getD 65 (Vec.set 65 s287.2.2.1 x293.toNat x294) 44 (0:Int),Vec.getD 65 (Vec.set 65 s287.2.2.1 x293.toNat x294) 45 (0:Int),Vec.getD 65 (Vec.set 65 s287.2.2.1 x293.toNat x294) 46 (0:Int),Vec.getD 65 (Vec.set 65 s287.2.2.1 x293.toNat x294) 47 (0:Int),Vec.getD 65 (Vec.set 65 s287.2.2.1 x293.toNat x294) 48 (0:Int),Vec.getD 65 (Vec.set 65 s287.2.2.1 x293.toNat x294) 49 (0:Int),Vec.getD 65 (Vec.set 65 s287.2.2.1 x293.toNat x294) 50 (0:Int),Vec.getD 65 (Vec.set 65 s287.2.2.1 x293.toNat x294) 51 (0:Int),Vec.getD 65 (Vec.set 65 s287.2.2.1 x293.toNat x294) 52 (0:Int),Vec.getD 65 (Vec.set 65 s287.2.2.1 x293.toNat x294) 53 (0:Int),Vec.getD 65 (Vec.set 65 s287.2.2.1 x293.toNat x294) 54 (0:Int),Vec.getD 65 (Vec.set 65 s287.2.2.1 x293.toNat x294) 55 (0:Int),Vec.getD 65 (Vec.set 65 s287.2.2.1 x293.toNat x294) 56 (0:Int),Vec.getD 65 (Vec.set 65 s287.2.2.1 x293.toNat x294) 57 (0:Int),Vec.getD 65 (Vec.set 65 s287.2.2.1 x293.toNat x294) 58 (0:Int),Vec.getD 65 (Vec.set 65 s287.2.2.1 x293.toNat x294) 59 (0:Int),Vec.getD 65 (Vec.set 65 s287.2.2.1 x293.toNat x294) 60 (0:Int),Vec.getD 65 (Vec.set 65 s287.2.2.1 x293.toNat x294) 61 (0:Int),Vec.getD 65 (Vec.set 65 s287.2.2.1 x293.toNat x294) 62 (0:Int),Vec.getD 65 (Vec.set 65 s287.2.2.1 x293.toNat x294) 63 (0:Int),Vec.getD 65 (Vec.set 65 s287.2.2.1 x293.toNat x294) 64 (0:Int)]:(List Int))))),()),())
    else none
   else none
  else none)
def ql2 (x298:Int) (a3:Bool) (a4:Bool) (s306:Dq20):Option (Dq20⊕Dq23) :=
 bif (iLe x298 s306.1) then
  let x308:=iSub .i64 s306.2.1 1
  bif iEq x298 0 then none else
  let x309:=iQuo .u64 s306.1 x298
  let x311:=iSub .u64 s306.1 (iMul .u64 x309 x298)
  bif inB x311 (List.length ([48,49,50,51,52,53,54,55,56,57,97,98,99,100,101,102,103,104,105,106,107,108,109,110,111,112,113,114,115,116,117,118,119,120,121,122])) then
   bif inB x308 65 then some (Sum.inl (x309,x308,Vec.set 65 s306.2.2.1 x308.toNat (strAt ([48,49,50,51,52,53,54,55,56,57,97,98,99,100,101,102,103,104,105,106,107,108,109,110,111,112,113,114,115,116,117,118,119,120,121,122]) x311),())) else none
  else none
 else
 Option.map Sum.inr (
  let x313:=iSub .i64 s306.2.1 1
  bif inB s306.1 (List.length ([48,49,50,51,52,53,54,55,56,57,97,98,99,100,101,102,103,104,105,106,107,108,109,110,111,112,113,114,115,116,117,118,119,120,121,122])) then
   let x314:=strAt ([48,49,50,51,52,53,54,55,56,57,97,98,99,100,101,102,103,104,105,106,107,108,109,110,111,112,113,114,115,116,117,118,119,120,121,122]) s306.1
   bif inB x313 65 then
    bif a3 then
     let x315:=iSub .i64 x313 1
     bif inB x315 65 then
      bif a4 then
       bif inS x315 Lq11 65 then none else none
      else
      bif inS x315 Lq11 65 then
       some ((([]:(List Int)),(ofBytes (List.take (65-x315.toNat) (List.drop x315.toNat ([Vec.getD 65 (Vec.set 65 (Vec.set 65 s306.2.2.1 x313.toNat x314) x315.toNat (45:Int)) 0 (0:Int),Vec.getD 65 (Vec.set 65 (Vec.set 65 s306.2.2.1 x313.toNat x314) x315.toNat (45:Int)) 1 (0:Int),Vec.getD 65 (Vec.set 65 (Vec.set 65 s306.2.2.1 x313.toNat x314) x315.toNat (45:Int)) 2 (0:Int),Vec.getD 65 (Vec.set 65 (Vec.set 65 s306.2.2.1 x313.toNat x314) x315.toNat (45:Int)) 3 (0:Int),Vec.getD 65 (Vec.set 65 (Vec.set 65 s306.2.2.1 x313.toNat x314) x315.toNat (45:Int)) 4 (0:Int),Vec.getD 65 (Vec.set 65 (Vec.set 65 s306.2.2.1 x313.toNat x314) x315.toNat (45:Int)) 5 (0:Int),Vec.getD 65 (Vec.set 65 (Vec.set 65 s306.2.2.1 x313.toNat x314) x315.toNat (45:Int)) 6 (0:Int),Vec.getD 65 (Vec.set 65 (Vec.set 65 s306.2.2.1 x313.toNat x314) x315.toNat (45:Int)) 7 (0:Int),Vec.getD 65 (Vec.set 65 (Vec.set 65 s306.2.2.1 x313.toNat x314) x315.toNat (45:Int)) 8 (0:Int),Vec.getD 65 (Vec.set 65 (Vec.set 65 s306.2.2.1 x313.toNat x314) x315.toNat (45:Int)) 9 (0:Int),Vec.getD 65 (Vec.set 65 (Vec.set 65 s306.2.2.1 x313.toNat x314) x315.toNat (45:Int)) 10 (0:Int),Vec.getD 65 (Vec.set 65 (Vec.set 65 s306.2.2.1 x313.toNat x314) x315.toNat (45:Int)) 11 (0:Int),Vec.getD 65 (Vec.set 65 (Vec.set 65 s306.2.2.1 x313.toNat x314) x315.toNat (45:Int)) 12 (0:Int),Vec.getD 65 (Vec.set 65 (Vec.set 65 s306.2.2.1 x313.toNat x314) x315.toNat (45:Int)) 13 (0:Int),Vec.getD 65 (Vec.set 65 (Vec.set 65 s306.2.2.1 x313.toNat x314) x315.toNat (45:Int)) 14 (0:Int),Vec.getD 65 (Vec.set 65 (Vec.set 65 s306.2.2.1 x313.toNat x314) x315.toNat (45:Int)) 15 (0:Int),Vec.getD 65 (Vec.set 65 (Vec.set 65 s306.2.2.1 x313.toNat x314) x315.toNat (45:Int)) 16 (0:Int),Vec.getD 65 (Vec.set 65 (Vec.set 65 s306.2.2.1 x313.toNat x314) x315.toNat (45:Int)) 17 (0:Int),Vec.getD 65 (Vec.set 65 (Vec.set 65 s306.2.2.1 x313.toNat x314) x315.toNat (45:Int)) 18 (0:Int),Vec.getD 65 (Vec.set 65 (Vec.set 65 s306.2.2.1 x313.toNat x314) x315.toNat (45:Int)) 19 (0:Int),Vec.getD 65 (Vec.set 65 (Vec.set 65 s306.2.2.1 x313.toNat x314) x315.toNat (45:Int)) 20 (0:Int),Vec.getD 65 (Vec.set 65 (Vec.set 65 s306.2.2.1 x313.toNat x314) x315.toNat (45:Int)) 21 (0:Int),Vec.getD 65 (Vec.set 65 (Vec.set 65 s306.2.2.1 x313.toNat x314) x315.toNat (45:Int)) 22 (0:Int),Vec.getD 65 (Vec.set 65 (Vec.set 65 s306.2.2.1 x313.toNat x314) x315.toNat (45:Int)) 23 (0:Int),Vec.getD 65 (Vec.set 65 (Vec.set 65 s306.2.2.1 x313.toNat x314) x315.toNat (45:Int)) 24 (0:Int),Vec.getD 65 (Vec.set 65 (Vec.set 65 s306.2.2.1 x313.toNat x314) x315.toNat (45:Int)) 25 (0:Int),Vec.getD 65 (Vec.set 65 (Vec.set 65 s306.2.2.1 x313.toNat x314) x315.toNat (45:Int)) 26 (0:Int),Vec.getD 65 (Vec.set 65 (Vec.set 65 s306.2.2.1 x313.toNat x314) x315.toNat (45:Int)) 27 (0:Int),Vec.getD 65 (Vec.set 65 (Vec.set 65 s306.2.2.1 x313.toNat x314) x315.toNat (45:Int)) 28 (0:Int),Vec.getD 65 (Vec.set 65 (Vec.set 65 s306.2.2.1 x313.toNat x314) x315.toNat (45:Int)) 29 (0:Int),Vec.getD 65 (Vec.set 65 (Vec.set 65 s306.2.2.1 x313.toNat x314) x315.toNat (45:Int)) 30 (0:Int),Vec.getD 65 (Vec.set 65 (Vec.set 65 s306.2.2.1 x313.toNat x314) x315.toNat (45:Int)) 31 (0:Int),Vec.getD 65 (Vec.set 65 (Vec.set 65 s306.2.2.1 x313.toNat x314) x315.toNat (45:Int)) 32 (0:Int),Vec.getD 65 (Vec.set 65 (Vec.set 65 s306.2.2.1 x313.toNat x314) x315.toNat (45:Int)) 33 (0:Int),Vec.getD 65 (Vec.set 65 (Vec.set 65 s306.2.2.1 x313.toNat x314) x315.toNat (45:Int)) 34 (0:Int),Vec.getD 65 (Vec.set 65 (Vec.set 65 s306.2.2.1 x313.toNat x314) x315.toNat (45:Int)) 35 (0:Int),Vec.getD 65 (Vec.set 65 (Vec.set 65 s306.2.2.1 x313.toNat x314) x315.toNat (45:Int)) 36 (0:Int),Vec.getD 65 (Vec.set 65 (Vec.set 65 s306.2.2.1 x313.toNat x314) x315.toNat (45:Int)) 37 (0:Int),Vec.getD 65 (Vec.set 65 (Vec.set 65 s306.2.2.1 x313.toNat x314) x315.toNat (45:Int)) 38 (0:Int),Vec.getD 65 (Vec.set 65 (Vec.set 65 s306.2.2.1 x313.toNat x314) x315.toNat (45:Int)) 39 (0:Int),Vec.getD 65 (Vec.set 65 (Vec.set 65 s306.2.2.1 x313.toNat x314) x315.toNat (45:Int)) 40 (0:Int),Vec.getD 65 (Vec.set 65 (Vec.set 65 s306.2.2.1 x313.toNat x314) x315.toNat (45:Int)) 41 (0:Int),Vec.getD 65 (Vec.set 65 (Vec.set 65 s306.2.2.1 x313.toNat x314) x315.toNat (45:Int)) 42 (0:Int),Vec.getD 65 (Vec.set 65 (Vec.set 65 s306.2.2.1 x313.toNat x314) x315.toNat (45:Int)) 43 (0:Int),Vec.getD 65 (Vec.set 65 (Vec.set 65 s306.2.2.1 x313.toNat x314) x315.toNat (45:Int)) 44 (0:Int),Vec.getD 65 (Vec.set 65 (Vec.set 65 s306.2.2.1 x313.toNat x314) x315.toNat (45:Int)) 45 (0:Int),Vec.getD 65 (Vec.set 65 (Vec.set 65 s306.2.2.1 x313.toNat x314) x315.toNat (45:Int)) 46 (0:Int),Vec.getD 65 (Vec.set 65 (Vec.set 65 s306.2.2.1 x313.toNat x314) x315.toNat (45:Int)) 47 (0:Int),Vec.getD 65 (Vec.set 65 (Vec.set 65 s306.2.2.1 x313.toNat x314) x315.toNat (45:Int)) 48 (0:Int),Vec.getD 65 (Vec.set 65 (Vec.set 65 s306.2.2.1 x313.toNat x314) x315.toNat (45:Int)) 49 (0:Int),Vec.getD 65 (Vec.set 65 (Vec.set 65 s306.2.2.1 x313.toNat x314) x315.toNat (45:Int)) 50 (0:Int),Vec.getD 65 (Vec.set 65 (Vec.set 65 s306.2.2.1 x313.toNat x314) x315.toNat (45:Int)) 51 (0:Int),Vec.getD 65 (Vec.set 65 (Vec.set 65 s306.2.2.1 x313.toNat x314) x315.toNat (45:Int)) 52 (0:Int),Vec.getD 65 (Vec.set 65 (Vec.set 65 s306.2.2.1 x313.toNat x314) x315.toNat (45:Int)) 53 (0:Int),Vec.getD 65 (Vec.set 65 (Vec.set 65 s306.2.2.1 x313.toNat x314) x315.toNat (45:Int)) 54 (0:Int),Vec.getD 65 (Vec.set 65 (Vec.set 65 s306.2.2.1 x313.toNat x314) x315.toNat (45:Int)) 55 (0:Int),Vec.getD 65 (Vec.set 65 (Vec.set 65 s306.2.2.1 x313.toNat x314) x315.toNat (45:Int)) 56 (0:Int),Vec.getD 65 (Vec.set 65 (Vec.set 65 s306.2.2.1 x313.toNat x314) x315.toNat (45:Int)) 57 (0:Int),Vec.getD 65 (Vec.set 65 (Vec.set 65 s306.2.2.1 x313.toNat x314) x315.toNat (45:Int)) 58 (0:Int),Vec.getD 65 (Vec.set 65 (Vec.set 65 s306.2.2.1 x313.toNat x314) x315.toNat (45:Int)) 59 (0:Int),Vec.getD 65 (Vec.set 65 (Vec.set 65 s306.2.2.1 x313.toNat x314) x315.toNat (45:Int)) 60 (0:Int),Vec.getD 65 (Vec.set 65 (Vec.set 65 s306.2.2.1 x313.toNat x314) x315.toNat (45:Int)) 61 (0:Int),Vec.getD 65 (Vec.set 65 (Vec.set 65 s306.2.2.1 x313.toNat x314) x315.toNat (45:Int)) 62 (0:Int),Vec.getD 65 (Vec.set 65 (Vec.set 65 s306.2.2.1 x313.toNat x314) x315.toNat (45:Int)) 63 (0:Int),Vec.getD 65 (Vec.set 65 (Vec.set 65 s306.2.2.1 x313.toNat x314) x315.toNat (45:Int)) 64 (0:Int)]:(List Int))))),()),())
      else none
     else none
    else
    bif a4 then
     bif inS x313 Lq11 65 then none else none
    else
    bif inS x313 Lq11 65 then
     some ((([]:(List Int)),(ofBytes (List.take (65-x313.toNat) (List.drop x313.toNat ([Vec.getD 65 (Vec.set 65 s306.2.2.1 x313.toNat x314) 0 (0:Int),Vec.getD 65 (Vec.set 65 s306.2.2.1 x313.toNat x314) 1 (0:Int),Vec.getD 65 (Vec.set 65 s306.2.2.1 x313.toNat x314) 2 (0:Int),Vec.getD 65 (Vec.set 65 s306.2.2.1 x313.toNat x314) 3 (0:Int),Vec.getD 65 (Vec.set 65 s306.2.2.1 x313.toNat x314) 4 (0:Int),Vec.getD 65 (Vec.set 65 s306.2.2.1 x313.toNat x314) 5 (0:Int),Vec.getD 65 (Vec.set 65 s306.2.2.1 x313.toNat x314) 6 (0:Int),Vec.getD 65 (Vec.set 65 s306.2.2.1 x313.toNat x314) 7 (0:Int),Vec.getD 65 (Vec.set 65 s306.2.2.1 x313.toNat x314) 8 (0:Int),Vec.getD 65 (Vec.set 65 s306.2.2.1 x313.toNat x314) 9 (0:Int),Vec.getD 65 (Vec.set 65 s306.2.2.1 x313.toNat x314) 10 (0:Int),Vec.getD 65 (Vec.set 65 s306.2.2.1 x313.toNat x314) 11 (0:Int),Vec.getD 65 (Vec.set 65 s306.2.2.1 x313.toNat x314) 12 (0:Int),Vec.getD 65 (Vec.set 65 s306.2.2.1 x313.toNat x314) 13 (0:Int),Vec.getD 65 (Vec.set 65 s306.2.2.1 x313.toNat x314) 14 (0:Int),Vec.getD 65 (Vec.set 65 s306.2.2.1 x313.toNat x314) 15 (0:Int),Vec.getD 65 (Vec.set 65 s306.2.2.1 x313.toNat x314) 16 (0:Int),Vec.getD 65 (Vec.set 65 s306.2.2.1 x313.toNat x314) 17 (0:Int),Vec.getD 65 (Vec.set 65 s306.2.2.1 x313.toNat x314) 18 (0:Int),Vec.getD 65 (Vec.set 65 s306.2.2.1 x313.toNat x314) 19 (0:Int),Vec.getD 65 (Vec.set 65 s306.2.2.1 x313.toNat x314) 20 (0:Int),Vec.getD 65 (Vec.set 65 s306.2.2.1 x313.toNat x314) 21 (0:Int),Vec.getD 65 (Vec.set 65 s306.2.2.1 x313.toNat x314) 22 (0:Int),Vec.getD 65 (Vec.set 65 s306.2.2.1 x313.toNat x314) 23 (0:Int),Vec.getD 65 (Vec.set 65 s306.2.2.1 x313.toNat x314) 24 (0:Int),Vec.getD 65 (Vec.set 65 s306.2.2.1 x313.toNat x314) 25 (0:Int),Vec.getD 65 (Vec.set 65 s306.2.2.1 x313.toNat x314) 26 (0:Int),Vec.getD 65 (Vec.set 65 s306.2.2.1 x313.toNat x314) 27 (0:Int),Vec.getD 65 (Vec.set 65 s306.2.2.1 x313.toNat x314) 28 (0:Int),Vec.getD 65 (Vec.set 65 s306.2.2.1 x313.toNat x314) 29 (0:Int),Vec.getD 65 (Vec.set 65 s306.2.2.1 x313.toNat x314) 30 (0:Int),Vec.getD 65 (Vec.set 65 s306.2.2.1 x313.toNat x314) 31 (0:Int),Vec.getD 65 (Vec.set 65 s306.2.2.1 x313.toNat x314) 32 (0:Int),Vec.getD 65 (Vec.set 65 s306.2.2.1 x313.toNat x314) 33 (0:Int),Vec.getD 65 (Vec.set 65 s306.2.2.1 x313.toNat x314) 34 (0:Int),Vec.getD 65 (Vec.set 65 s306.2.2.1 x313.toNat x314) 35 (0:Int),Vec.getD 65 (Vec.set 65 s306.2.2.1 x313.toNat x314) 36 (0:Int),Vec.getD 65 (Vec.set 65 s306.2.2.1 x313.toNat x314) 37 (0:Int),Vec.getD 65 (Vec.set 65 s306.2.2.1 x313.toNat x314) 38 (0:Int),Vec.getD 65 (Vec.set 65 s306.2.2.1 x313.toNat x314) 39 (0:Int),Vec.getD 65 (Vec.set 65 s306.2.2.1 x313.toNat x314) 40 (0:Int),Vec.getD 65 (Vec.set 65 s306.2.2.1 x313.toNat x314) 41 (0:Int),Vec.getD 65 (Vec.set 65 s306.2.2.1 x313.toNat x314) 42 (0:Int),Vec.getD 65 (Vec.set 65 s306.2.2.1 x313.toNat x314) 43 (0:Int),Vec.getD 65 (Vec.set 65 s306.2.2.1 x313.toNat x314) 44 (0:Int),Vec.getD 65 (Vec.set 65 s306.2.2.1 x313.toNat x314) 45 (0:Int),Vec.getD 65 (Vec.set 65 s306.2.2.1 x313.toNat x314) 46 (0:Int),Vec.getD 65 (Vec.set 65 s306.2.2.1 x313.toNat x314) 47 (0:Int),Vec.getD 65 (Vec.set 65 s306.2.2.1 x313.toNat x314) 48 (0:Int),Vec.getD 65 (Vec.set 65 s306.2.2.1 x313.toNat x314) 49 (0:Int),Vec.getD 65 (Vec.set 65 s306.2.2.1 x313.toNat x314) 50 (0:Int),Vec.getD 65 (Vec.set 65 s306.2.2.1 x313.toNat x314) 51 (0:Int),Vec.getD 65 (Vec.set 65 s306.2.2.1 x313.toNat x314) 52 (0:Int),Vec.getD 65 (Vec.set 65 s306.2.2.1 x313.toNat x314) 53 (0:Int),Vec.getD 65 (Vec.set 65 s306.2.2.1 x313.toNat x314) 54 (0:Int),Vec.getD 65 (Vec.set 65 s306.2.2.1 x313.toNat x314) 55 (0:Int),Vec.getD 65 (Vec.set 65 s306.2.2.1 x313.toNat x314) 56 (0:Int),Vec.getD 65 (Vec.set 65 s306.2.2.1 x313.toNat x314) 57 (0:Int),Vec.getD 65 (Vec.set 65 s306.2.2.1 x313.toNat x314) 58 (0:Int),Vec.getD 65 (Vec.set 65 s306.2.2.1 x313.toNat x314) 59 (0:Int),Vec.getD 65 (Vec.set 65 s306.2.2.1 x313.toNat x314) 60 (0:Int),Vec.getD 65 (Vec.set 65 s306.2.2.1 x313.toNat x314) 61 (0:Int),Vec.getD 65 (Vec.set 65 s306.2.2.1 x313.toNat x314) 62 (0:Int),Vec.getD 65 (Vec.set 65 s306.2.2.1 x313.toNat x314) 63 (0:Int),Vec.getD 65 (Vec.set 65 s306.2.2.1 x313.toNat x314) 64 (0:Int)]:(List Int))))),()),())
    else none
   else none
  else none)
def qb0 (x322:Int) (x324:Int) (x321:Int) (a3:Bool) (a4:Bool) (s331:Dq20):Option (Dq20⊕Dq23) :=
 bif (iLe x322 s331.1) then
  let x333:=iSub .i64 s331.2.1 1
  let x334:=iAnd .u64 s331.1 x324
  bif inB x334 (List.length ([48,49,50,51,52,53,54,55,56,57,97,98,99,100,101,102,103,104,105,106,107,108,109,110,111,112,113,114,115,116,117,118,119,120,121,122])) then
   bif inB x333 65 then
    bif iLe 0 x321 then
     some (Sum.inl ((iShr .u64 s331.1 x321),x333,Vec.set 65 s331.2.2.1 x333.toNat (strAt ([48,49,50,51,52,53,54,55,56,57,97,98,99,100,101,102,103,104,105,106,107,108,109,110,111,112,113,114,115,116,117,118,119,120,121,122]) x334),()))
    else none
   else none
  else none
 else
 Option.map Sum.inr (
  let x337:=iSub .i64 s331.2.1 1
  bif inB s331.1 (List.length ([48,49,50,51,52,53,54,55,56,57,97,98,99,100,101,102,103,104,105,106,107,108,109,110,111,112,113,114,115,116,117,118,119,120,121,122])) then
   let x338:=strAt ([48,49,50,51,52,53,54,55,56,57,97,98,99,100,101,102,103,104,105,106,107,108,109,110,111,112,113,114,115,116,117,118,119,120,121,122]) s331.1
   bif inB x337 65 then
    bif a3 then
     let x339:=iSub .i64 x337 1
     bif inB x339 65 then
      bif a4 then
       bif inS x339 Lq11 65 then none else none
      else
      bif inS x339 Lq11 65 then
       some ((([]:(List Int)),(ofBytes (List.take (65-x339.toNat) (List.drop x339.toNat ([Vec.getD 65 (Vec.set 65 (Vec.set 65 s331.2.2.1 x337.toNat x338) x339.toNat (45:Int)) 0 (0:Int),Vec.getD 65 (Vec.set 65 (Vec.set 65 s331.2.2.1 x337.toNat x338) x339.toNat (45:Int)) 1 (0:Int),Vec.getD 65 (Vec.set 65 (Vec.set 65 s331.2.2.1 x337.toNat x338) x339.toNat (45:Int)) 2 (0:Int),Vec.getD 65 (Vec.set 65 (Vec.set 65 s331.2.2.1 x337.toNat x338) x339.toNat (45:Int)) 3 (0:Int),Vec.getD 65 (Vec.set 65 (Vec.set 65 s331.2.2.1 x337.toNat x338) x339.toNat (45:Int)) 4 (0:Int),Vec.getD 65 (Vec.set 65 (Vec.set 65 s331.2.2.1 x337.toNat x338) x339.toNat (45:Int)) 5 (0:Int),Vec.getD 65 (Vec.set 65 (Vec.set 65 s331.2.2.1 x337.toNat x338) x339.toNat (45:Int)) 6 (0:Int),Vec.getD 65 (Vec.set 65 (Vec.set 65 s331.2.2.1 x337.toNat x338) x339.toNat (45:Int)) 7 (0:Int),Vec.getD 65 (Vec.set 65 (Vec.set 65 s331.2.2.1 x337.toNat x338) x339.toNat (45:Int)) 8 (0:Int),Vec.getD 65 (Vec.set 65 (Vec.set 65 s331.2.2.1 x337.toNat x338) x339.toNat (45:Int)) 9 (0:Int),Vec.getD 65 (Vec.set 65 (Vec.set 65 s331.2.2.1 x337.toNat x338) x339.toNat (45:Int)) 10 (0:Int),Vec.getD 65 (Vec.set 65 (Vec.set 65 s331.2.2.1 x337.toNat x338) x339.toNat (45:Int)) 11 (0:Int),Vec.getD 65 (Vec.set 65 (Vec.set 65 s331.2.2.1 x337.toNat x338) x339.toNat (45:Int)) 12 (0:Int),Vec.getD 65 (Vec.set 65 (Vec.set 65 s331.2.2.1 x337.toNat x338) x339.toNat (45:Int)) 13 (0:Int),Vec.getD 65 (Vec.set 65 (Vec.set 65 s331.2.2.1 x337.toNat x338) x339.toNat (45:Int)) 14 (0:Int),Vec.getD 65 (Vec.set 65 (Vec.set 65 s331.2.2.1 x337.toNat x338) x339.toNat (45:Int)) 15 (0:Int),Vec.getD 65 (Vec.set 65 (Vec.set 65 s331.2.2.1 x337.toNat x338) x339.toNat (45:Int)) 16 (0:Int),Vec.getD 65 (Vec.set 65 (Vec.set 65 s331.2.2.1 x337.toNat x338) x339.toNat (45:Int)) 17 (0:Int),Vec.getD 65 (Vec.set 65 (Vec.set 65 s331.2.2.1 x337.toNat x338) x339.toNat (45:Int)) 18 (0:Int),Vec.getD 65 (Vec.set 65 (Vec.set 65 s331.2.2.1 x337.toNat x338) x339.toNat (45:Int)) 19 (0:Int),Vec.getD 65 (Vec.set 65 (Vec.set 65 s331.2.2.1 x337.toNat x338) x339.toNat (45:Int)) 20 (0:Int),Vec.getD 65 (Vec.set 65 (Vec.set 65 s331.2.2.1 x337.toNat x338) x339.toNat (45:Int)) 21 (0:Int),Vec.getD 65 (Vec.set 65 (Vec.set 65 s331.2.2.1 x337.toNat x338) x339.toNat (45:Int)) 22 (0:Int),Vec.getD 65 (Vec.set 65 (Vec.set 65 s331.2.2.1 x337.toNat x338) x339.toNat (45:Int)) 23 (0:Int),Vec.getD 65 (Vec.set 65 (Vec.set 65 s331.2.2.1 x337.toNat x338) x339.toNat (45:Int)) 24 (0:Int),Vec.getD 65 (Vec.set 65 (Vec.set 65 s331.2.2.1 x337.toNat x338) x339.toNat (45:Int)) 25 (0:Int),Vec.getD 65 (Vec.set 65 (Vec.set 65 s331.2.2.1 x337.toNat x338) x339.toNat (45:Int)) 26 (0:Int),Vec.getD 65 (Vec.set 65 (Vec.set 65 s331.2.2.1 x337.toNat x338) x339.toNat (45:Int)) 27 (0:Int),Vec.getD 65 (Vec.set 65 (Vec.set 65 s331.2.2.1 x337.toNat x338) x339.toNat (45:Int)) 28 (0:Int),Vec.getD 65 (Vec.set 65 (Vec.set 65 s331.2.2.1 x337.toNat x338) x339.toNat (45:Int)) 29 (0:Int),Vec.getD 65 (Vec.set 65 (Vec.set 65 s331.2.2.1 x337.toNat x338) x339.toNat (45:Int)) 30 (0:Int),Vec.getD 65 (Vec.set 65 (Vec.set 65 s331.2.2.1 x337.toNat x338) x339.toNat (45:Int)) 31 (0:Int),Vec.getD 65 (Vec.set 65 (Vec.set 65 s331.2.2.1 x337.toNat x338) x339.toNat (45:Int)) 32 (0:Int),Vec.getD 65 (Vec.set 65 (Vec.set 65 s331.2.2.1 x337.toNat x338) x339.toNat (45:Int)) 33 (0:Int),Vec.getD 65 (Vec.set 65 (Vec.set 65 s331.2.2.1 x337.toNat x338) x339.toNat (45:Int)) 34 (0:Int),Vec.getD 65 (Vec.set 65 (Vec.set 65 s331.2.2.1 x337.toNat x338) x339.toNat (45:Int)) 35 (0:Int),Vec.getD 65 (Vec.set 65 (Vec.set 65 s331.2.2.1 x337.toNat x338) x339.toNat (45:Int)) 36 (0:Int),Vec.getD 65 (Vec.set 65 (Vec.set 65 s331.2.2.1 x337.toNat x338) x339.toNat (45:Int)) 37 (0:Int),Vec.getD 65 (Vec.set 65 (Vec.set 65 s331.2.2.1 x337.toNat x338) x339.toNat (45:Int)) 38 (0:Int),Vec.getD 65 (Vec.set 65 (Vec.set 65 s331.2.2.1 x337.toNat x338) x339.toNat (45:Int)) 39 (0:Int),Vec.getD 65 (Vec.set 65 (Vec.set 65 s331.2.2.1 x337.toNat x338) x339.toNat (45:Int)) 40 (0:Int),Vec.getD 65 (Vec.set 65 (Vec.set 65 s331.2.2.1 x337.toNat x338) x339.toNat (45:Int)) 41 (0:Int),Vec.getD 65 (Vec.set 65 (Vec.set 65 s331.2.2.1 x337.toNat x338) x339.toNat (45:Int)) 42 (0:Int),Vec.getD 65 (Vec.set 65 (Vec.set 65 s331.2.2.1 x337.toNat x338) x339.toNat (45:Int)) 43 (0:Int),Vec.getD 65 (Vec.set 65 (Vec.set 65 s331.2.2.1 x337.toNat x338) x339.toNat (45:Int)) 44 (0:Int),Vec.getD 65 (Vec.set 65 (Vec.set 65 s331.2.2.1 x337.toNat x338) x339.toNat (45:Int)) 45 (0:Int),Vec.getD 65 (Vec.set 65 (Vec.set 65 s331.2.2.1 x337.toNat x338) x339.toNat (45:Int)) 46 (0:Int),Vec.getD 65 (Vec.set 65 (Vec.set 65 s331.2.2.1 x337.toNat x338) x339.toNat (45:Int)) 47 (0:Int),Vec.getD 65 (Vec.set 65 (Vec.set 65 s331.2.2.1 x337.toNat x338) x339.toNat (45:Int)) 48 (0:Int),Vec.getD 65 (Vec.set 65 (Vec.set 65 s331.2.2.1 x337.toNat x338) x339.toNat (45:Int)) 49 (0:Int),Vec.getD 65 (Vec.set 65 (Vec.set 65 s331.2.2.1 x337.toNat x338) x339.toNat (45:Int)) 50 (0:Int),Vec.getD 65 (Vec.set 65 (Vec.set 65 s331.2.2.1 x337.toNat x338) x339.toNat (45:Int)) 51 (0:Int),Vec.getD 65 (Vec.set 65 (Vec.set 65 s331.2.2.1 x337.toNat x338) x339.toNat (45:Int)) 52 (0:Int),Vec.getD 65 (Vec.set 65 (Vec.set 65 s331.2.2.1 x337.toNat x338) x339.toNat (45:Int)) 53 (0:Int),Vec.getD 65 (Vec.set 65 (Vec.set 65 s331.2.2.1 x337.toNat x338) x339.toNat (45:Int)) 54 (0:Int),Vec.getD 65 (Vec.set 65 (Vec.set 65 s331.2.2.1 x337.toNat x338) x339.toNat (45:Int)) 55 (0:Int),Vec.getD 65 (Vec.set 65 (Vec.set 65 s331.2.2.1 x337.toNat x338) x339.toNat (45:Int)) 56 (0:Int),Vec.getD 65 (Vec.set 65 (Vec.set 65 s331.2.2.1 x337.toNat x338) x339.toNat (45:Int)) 57 (0:Int),Vec.getD 65 (Vec.set 65 (Vec.set 65 s331.2.2.1 x337.toNat x338) x339.toNat (45:Int)) 58 (0:Int),Vec.getD 65 (Vec.set 65 (Vec.set 65 s331.2.2.1 x337.toNat x338) x339.toNat (45:Int)) 59 (0:Int),Vec.getD 65 (Vec.set 65 (Vec.set 65 s331.2.2.1 x337.toNat x338) x339.toNat (45:Int)) 60 (0:Int),Vec.getD 65 (Vec.set 65 (Vec.set 65 s331.2.2.1 x337.toNat x338) x339.toNat (45:Int)) 61 (0:Int),Vec.getD 65 (Vec.set 65 (Vec.set 65 s331.2.2.1 x337.toNat x338) x339.toNat (45:Int)) 62 (0:Int),Vec.getD 65 (Vec.set 65 (Vec.set 65 s331.2.2.1 x337.toNat x338) x339.toNat (45:Int)) 63 (0:Int),Vec.getD 65 (Vec.set 65 (Vec.set 65 s331.2.2.1 x337.toNat x338) x339.toNat (45:Int)) 64 (0:Int)]:(List Int))))),()),())
      else none
     else none
    else
    bif a4 then
     bif inS x337 Lq11 65 then none else none
    else
    bif inS x337 Lq11 65 then
     some ((([]:(List Int)),(ofBytes (List.take (65-x337.toNat) (List.drop x337.toNat ([Vec.getD 65 (Vec.set 65 s331.2.2.1 x337.toNat x338) 0 (0:Int),Vec.getD 65 (Vec.set 65 s331.2.2.1 x337.toNat x338) 1 (0:Int),Vec.getD 65 (Vec.set 65 s331.2.2.1 x337.toNat x338) 2 (0:Int),Vec.getD 65 (Vec.set 65 s331.2.2.1 x337.toNat x338) 3 (0:Int),Vec.getD 65 (Vec.set 65 s331.2.2.1 x337.toNat x338) 4 (0:Int),Vec.getD 65 (Vec.set 65 s331.2.2.1 x337.toNat x338) 5 (0:Int),Vec.getD 65 (Vec.set 65 s331.2.2.1 x337.toNat x338) 6 (0:Int),Vec.getD 65 (Vec.set 65 s331.2.2.1 x337.toNat x338) 7 (0:Int),Vec.getD 65 (Vec.set 65 s331.2.2.1 x337.toNat x338) 8 (0:Int),Vec.getD 65 (Vec.set 65 s331.2.2.1 x337.toNat x338) 9 (0:Int),Vec.getD 65 (Vec.set 65 s331.2.2.1 x337.toNat x338) 10 (0:Int),Vec.getD 65 (Vec.set 65 s331.2.2.1 x337.toNat x338) 11 (0:Int),Vec.getD 65 (Vec.set 65 s331.2.2.1 x337.toNat x338) 12 (0:Int),Vec.getD 65 (Vec.set 65 s331.2.2.1 x337.toNat x338) 13 (0:Int),Vec.getD 65 (Vec.set 65 s331.2.2.1 x337.toNat x338) 14 (0:Int),Vec.getD 65 (Vec.set 65 s331.2.2.1 x337.toNat x338) 15 (0:Int),Vec.getD 65 (Vec.set 65 s331.2.2.1 x337.toNat x338) 16 (0:Int),Vec.getD 65 (Vec.set 65 s331.2.2.1 x337.toNat x338) 17 (0:Int),Vec.getD 65 (Vec.set 65 s331.2.2.1 x337.toNat x338) 18 (0:Int),Vec.getD 65 (Vec.set 65 s331.2.2.1 x337.toNat x338) 19 (0:Int),Vec.getD 65 (Vec.set 65 s331.2.2.1 x337.toNat x338) 20 (0:Int),Vec.getD 65 (Vec.set 65 s331.2.2.1 x337.toNat x338) 21 (0:Int),Vec.getD 65 (Vec.set 65 s331.2.2.1 x337.toNat x338) 22 (0:Int),Vec.getD 65 (Vec.set 65 s331.2.2.1 x337.toNat x338) 23 (0:Int),Vec.getD 65 (Vec.set 65 s331.2.2.1 x337.toNat x338) 24 (0:Int),Vec.getD 65 (Vec.set 65 s331.2.2.1 x337.toNat x338) 25 (0:Int),Vec.getD 65 (Vec.set 65 s331.2.2.1 x337.toNat x338) 26 (0:Int),Vec.getD 65 (Vec.set 65 s331.2.2.1 x337.toNat x338) 27 (0:Int),Vec.getD 65 (Vec.set 65 s331.2.2.1 x337.toNat x338) 28 (0:Int),Vec.getD 65 (Vec.set 65 s331.2.2.1 x337.toNat x338) 29 (0:Int),Vec.getD 65 (Vec.set 65 s331.2.2.1 x337.toNat x338) 30 (0:Int),Vec.getD 65 (Vec.set 65 s331.2.2.1 x337.toNat x338) 31 (0:Int),Vec.getD 65 (Vec.set 65 s331.2.2.1 x337.toNat x338) 32 (0:Int),Vec.getD 65 (Vec.set 65 s331.2.2.1 x337.toNat x338) 33 (0:Int),Vec.getD 65 (Vec.set 65 s331.2.2.1 x337.toNat x338) 34 (0:Int),Vec.getD 65 (Vec.set 65 s331.2.2.1 x337.toNat x338) 35 (0:Int),Vec.getD 65 (Vec.set 65 s331.2.2.1 x337.toNat x338) 36 (0:Int),Vec.getD 65 (Vec.set 65 s331.2.2.1 x337.toNat x338) 37 (0:Int),Vec.getD 65 (Vec.set 65 s331.2.2.1 x337.toNat x338) 38 (0:Int),Vec.getD 65 (Vec.set 65 s331.2.2.1 x337.toNat x338) 39 (0:Int),Vec.getD 65 (Vec.set 65 s331.2.2.1 x337.toNat x338) 40 (0:Int),Vec.getD 65 (Vec.set 65 s331.2.2.1 x337.toNat x338) 41 (0:Int),Vec.getD 65 (Vec.set 65 s331.2.2.1 x337.toNat x338) 42 (0:Int),Vec.getD 65 (Vec.set 65 s331.2.2.1 x337.toNat x338) 43 (0:Int),Vec.getD 65 (Vec.set 65 s331.2.2.1 x337.toNat x338) 44 (0:Int),Vec.getD 65 (Vec.set 65 s331.2.2.1 x337.toNat x338) 45 (0:Int),Vec.getD 65 (Vec.set 65 s331.2.2.1 x337.toNat x338) 46 (0:Int),Vec.getD 65 (Vec.set 65 s331.2.2.1 x337.toNat x338) 47 (0:Int),Vec.getD 65 (Vec.set 65 s331.2.2.1 x337.toNat x338) 48 (0:Int),Vec.getD 65 (Vec.set 65 s331.2.2.1 x337.toNat x338) 49 (0:Int),Vec.getD 65 (Vec.set 65 s331.2.2.1 x337.toNat x338) 50 (0:Int),Vec.getD 65 (Vec.set 65 s331.2.2.1 x337.toNat x338) 51 (0:Int),Vec.getD 65 (Vec.set 65 s331.2.2.1 x337.toNat x338) 52 (0:Int),Vec.getD 65 (Vec.set 65 s331.2.2.1 x337.toNat x338) 53 (0:Int),Vec.getD 65 (Vec.set 65 s331.2.2.1 x337.toNat x338) 54 (0:Int),Vec.getD 65 (Vec.set 65 s331.2.2.1 x337.toNat x338) 55 (0:Int),Vec.getD 65 (Vec.set 65 s331.2.2.1 x337.toNat x338) 56 (0:Int),Vec.getD 65 (Vec.set 65 s331.2.2.1 x337.toNat x338) 57 (0:Int),Vec.getD 65 (Vec.set 65 s331.2.2.1 x337.toNat x338) 58 (0:Int),Vec.getD 65 (Vec.set 65 s331.2.2.1 x337.toNat x338) 59 (0:Int),Vec.getD 65 (Vec.set 65 s331.2.2.1 x337.toNat x338) 60 (0:Int),Vec.getD 65 (Vec.set 65 s331.2.2.1 x337.toNat x338) 61 (0:Int),Vec.getD 65 (Vec.set 65 s331.2.2.1 x337.toNat x338) 62 (0:Int),Vec.getD 65 (Vec.set 65 s331.2.2.1 x337.toNat x338) 63 (0:Int),Vec.getD 65 (Vec.set 65 s331.2.2.1 x337.toNat x338) 64 (0:Int)]:(List Int))))),()),())
    else none
   else none
  else none)
def qkn (x342:Int) (a3:Bool) (a4:Bool) (s350:Dq20):Option (Dq20⊕Dq23) :=
 bif (iLe x342 s350.1) then
  let x352:=iSub .i64 s350.2.1 1
  bif iEq x342 0 then none else
  let x353:=iQuo .u64 s350.1 x342
  let x355:=iSub .u64 s350.1 (iMul .u64 x353 x342)
  bif inB x355 (List.length ([48,49,50,51,52,53,54,55,56,57,97,98,99,100,101,102,103,104,105,106,107,108,109,110,111,112,113,114,115,116,117,118,119,120,121,122])) then
   bif inB x352 65 then some (Sum.inl (x353,x352,Vec.set 65 s350.2.2.1 x352.toNat (strAt ([48,49,50,51,52,53,54,55,56,57,97,98,99,100,101,102,103,104,105,106,107,108,109,110,111,112,113,114,115,116,117,118,119,120,121,122]) x355),())) else none
  else none
 else
 Option.map Sum.inr (
  let x357:=iSub .i64 s350.2.1 1
  bif inB s350.1 (List.length ([48,49,50,51,52,53,54,55,56,57,97,98,99,100,101,102,103,104,105,106,107,108,109,110,111,112,113,114,115,116,117,118,119,120,121,122])) then
   let x358:=strAt ([48,49,50,51,52,53,54,55,56,57,97,98,99,100,101,102,103,104,105,106,107,108,109,110,111,112,113,114,115,116,117,118,119,120,121,122]) s350.1
   bif inB x357 65 then
    bif a3 then
     let x359:=iSub .i64 x357 1
     bif inB x359 65 then
      bif a4 then
       bif inS x359 Lq11 65 then none else none
      else
      bif inS x359 Lq11 65 then
       some ((([]:(List Int)),(ofBytes (List.take (65-x359.toNat) (List.drop x359.toNat ([Vec.getD 65 (Vec.set 65 (Vec.set 65 s350.2.2.1 x357.toNat x358) x359.toNat (45:Int)) 0 (0:Int),Vec.getD 65 (Vec.set 65 (Vec.set 65 s350.2.2.1 x357.toNat x358) x359.toNat (45:Int)) 1 (0:Int),Vec.getD 65 (Vec.set 65 (Vec.set 65 s350.2.2.1 x357.toNat x358) x359.toNat (45:Int)) 2 (0:Int),Vec.getD 65 (Vec.set 65 (Vec.set 65 s350.2.2.1 x357.toNat x358) x359.toNat (45:Int)) 3 (0:Int),Vec.getD 65 (Vec.set 65 (Vec.set 65 s350.2.2.1 x357.toNat x358) x359.toNat (45:Int)) 4 (0:Int),Vec.getD 65 (Vec.set 65 (Vec.set 65 s350.2.2.1 x357.toNat x358) x359.toNat (45:Int)) 5 (0:Int),Vec.getD 65 (Vec.set 65 (Vec.set 65 s350.2.2.1 x357.toNat x358) x359.toNat (45:Int)) 6 (0:Int),Vec.getD 65 (Vec.set 65 (Vec.set 65 s350.2.2.1 x357.toNat x358) x359.toNat (45:Int)) 7 (0:Int),Vec.getD 65 (Vec.set 65 (Vec.set 65 s350.2.2.1 x357.toNat x358) x359.toNat (45:Int)) 8 (0:Int),Vec.getD 65 (Vec.set 65 (Vec.set 65 s350.2.2.1 x357.toNat x358) x359.toNat (45:Int)) 9 (0:Int),Vec.getD 65 (Vec.set 65 (Vec.set 65 s350.2.2.1 x357.toNat x358) x359.toNat (45:Int)) 10 (0:Int),Vec.getD 65 (Vec.set 65 (Vec.set 65 s350.2.2.1 x357.toNat x358) x359.toNat (45:Int)) 11 (0:Int),Vec.getD 65 (Vec.set 65 (Vec.set 65 s350.2.2.1 x357.toNat x358) x359.toNat (45:Int)) 12 (0:Int),Vec.getD 65 (Vec.set 65 (Vec.set 65 s350.2.2.1 x357.toNat x358) x359.toNat (45:Int)) 13 (0:Int),Vec.getD 65 (Vec.set 65 (Vec.set 65 s350.2.2.1 x357.toNat x358) x359.toNat (45:Int)) 14 (0:Int),Vec.getD 65 (Vec.set 65 (Vec.set 65 s350.2.2.1 x357.toNat x358) x359.toNat (45:Int)) 15 (0:Int),Vec.getD 65 (Vec.set 65 (Vec.set 65 s350.2.2.1 x357.toNat x358) x359.toNat (45:Int)) 16 (0:Int),Vec.getD 65 (Vec.set 65 (Vec.set 65 s350.2.2.1 x357.toNat x358) x359.toNat (45:Int)) 17 (0:Int),Vec.getD 65 (Vec.set 65 (Vec.set 65 s350.2.2.1 x357.toNat x358) x359.toNat (45:Int)) 18 (0:Int),Vec.getD 65 (Vec.set 65 (Vec.set 65 s350.2.2.1 x357.toNat x358) x359.toNat (45:Int)) 19 (0:Int),Vec.getD 65 (Vec.set 65 (Vec.set 65 s350.2.2.1 x357.toNat x358) x359.toNat (45:Int)) 20 (0:Int),Vec.getD 65 (Vec.set 65 (Vec.set 65 s350.2.2.1 x357.toNat x358) x359.toNat (45:Int)) 21 (0:Int),Vec.getD 65 (Vec.set 65 (Vec.set 65 s350.2.2.1 x357.toNat x358) x359.toNat (45:Int)) 22 (0:Int),Vec.getD 65 (Vec.set 65 (Vec.set 65 s350.2.2.1 x357.toNat x358) x359.toNat (45:Int)) 23 (0:Int),Vec.getD 65 (Vec.set 65 (Vec.set 65 s350.2.2.1 x357.toNat x358) x359.toNat (45:Int)) 24 (0:Int),Vec.getD 65 (Vec.set 65 (Vec.set 65 s350.2.2.1 x357.toNat x358) x359.toNat (45:Int)) 25 (0:Int),Vec.getD 65 (Vec.set 65 (Vec.set 65 s350.2.2.1 x357.toNat x358) x359.toNat (45:Int)) 26 (0:Int),Vec.getD 65 (Vec.set 65 (Vec.set 65 s350.2.2.1 x357.toNat x358) x359.toNat (45:Int)) 27 (0:Int),Vec.getD 65 (Vec.set 65 (Vec.set 65 s350.2.2.1 x357.toNat x358) x359.toNat (45:Int)) 28 (0:Int),Vec.getD 65 (Vec.set 65 (Vec.set 65 s350.2.2.1 x357.toNat x358) x359.toNat (45:Int)) 29 (0:Int),Vec.getD 65 (Vec.set 65 (Vec.set 65 s350.2.2.1 x357.toNat x358) x359.toNat (45:Int)) 30 (0:Int),Vec.getD 65 (Vec.set 65 (Vec.set 65 s350.2.2.1 x357.toNat x358) x359.toNat (45:Int)) 31 (0:Int),Vec.getD 65 (Vec.set 65 (Vec.set 65 s350.2.2.1 x357.toNat x358) x359.toNat (45:Int)) 32 (0:Int),Vec.getD 65 (Vec.set 65 (Vec.set 65 s350.2.2.1 x357.toNat x358) x359.toNat (45:Int)) 33 (0:Int),Vec.getD 65 (Vec.set 65 (Vec.set 65 s350.2.2.1 x357.toNat x358) x359.toNat (45:Int)) 34 (0:Int),Vec.getD 65 (Vec.set 65 (Vec.set 65 s350.2.2.1 x357.toNat x358) x359.toNat (45:Int)) 35 (0:Int),Vec.getD 65 (Vec.set 65 (Vec.set 65 s350.2.2.1 x357.toNat x358) x359.toNat (45:Int)) 36 (0:Int),Vec.getD 65 (Vec.set 65 (Vec.set 65 s350.2.2.1 x357.toNat x358) x359.toNat (45:Int)) 37 (0:Int),Vec.getD 65 (Vec.set 65 (Vec.set 65 s350.2.2.1 x357.toNat x358) x359.toNat (45:Int)) 38 (0:Int),Vec.getD 65 (Vec.set 65 (Vec.set 65 s350.2.2.1 x357.toNat x358) x359.toNat (45:Int)) 39 (0:Int),Vec.getD 65 (Vec.set 65 (Vec.set 65 s350.2.2.1 x357.toNat x358) x359.toNat (45:Int)) 40 (0:Int),Vec.getD 65 (Vec.set 65 (Vec.set 65 s350.2.2.1 x357.toNat x358) x359.toNat (45:Int)) 41 (0:Int),Vec.getD 65 (Vec.set 65 (Vec.set 65 s350.2.2.1 x357.toNat x358) x359.toNat (45:Int)) 42 (0:Int),Vec.getD 65 (Vec.set 65 (Vec.set 65 s350.2.2.1 x357.toNat x358) x359.toNat (45:Int)) 43 (0:Int),Vec.getD 65 (Vec.set 65 (Vec.set 65 s350.2.2.1 x357.toNat x358) x359.toNat (45:Int)) 44 (0:Int),Vec.getD 65 (Vec.set 65 (Vec.set 65 s350.2.2.1 x357.toNat x358) x359.toNat (45:Int)) 45 (0:Int),Vec.getD 65 (Vec.set 65 (Vec.set 65 s350.2.2.1 x357.toNat x358) x359.toNat (45:Int)) 46 (0:Int),Vec.getD 65 (Vec.set 65 (Vec.set 65 s350.2.2.1 x357.toNat x358) x359.toNat (45:Int)) 47 (0:Int),Vec.getD 65 (Vec.set 65 (Vec.set 65 s350.2.2.1 x357.toNat x358) x359.toNat (45:Int)) 48 (0:Int),Vec.getD 65 (Vec.set 65 (Vec.set 65 s350.2.2.1 x357.toNat x358) x359.toNat (45:Int)) 49 (0:Int),Vec.getD 65 (Vec.set 65 (Vec.set 65 s350.2.2.1 x357.toNat x358) x359.toNat (45:Int)) 50 (0:Int),Vec.getD 65 (Vec.set 65 (Vec.set 65 s350.2.2.1 x357.toNat x358) x359.toNat (45:Int)) 51 (0:Int),Vec.getD 65 (Vec.set 65 (Vec.set 65 s350.2.2.1 x357.toNat x358) x359.toNat (45:Int)) 52 (0:Int),Vec.getD 65 (Vec.set 65 (Vec.set 65 s350.2.2.1 x357.toNat x358) x359.toNat (45:Int)) 53 (0:Int),Vec.getD 65 (Vec.set 65 (Vec.set 65 s350.2.2.1 x357.toNat x358) x359.toNat (45:Int)) 54 (0:Int),Vec.getD 65 (Vec.set 65 (Vec.set 65 s350.2.2.1 x357.toNat x358) x359.toNat (45:Int)) 55 (0:Int),Vec.getD 65 (Vec.set 65 (Vec.set 65 s350.2.2.1 x357.toNat x358) x359.toNat (45:Int)) 56 (0:Int),Vec.getD 65 (Vec.set 65 (Vec.set 65 s350.2.2.1 x357.toNat x358) x359.toNat (45:Int)) 57 (0:Int),Vec.getD 65 (Vec.set 65 (Vec.set 65 s350.2.2.1 x357.toNat x358) x359.toNat (45:Int)) 58 (0:Int),Vec.getD 65 (Vec.set 65 (Vec.set 65 s350.2.2.1 x357.toNat x358) x359.toNat (45:Int)) 59 (0:Int),Vec.getD 65 (Vec.set 65 (Vec.set 65 s350.2.2.1 x357.toNat x358) x359.toNat (45:Int)) 60 (0:Int),Vec.getD 65 (Vec.set 65 (Vec.set 65 s350.2.2.1 x357.toNat x358) x359.toNat (45:Int)) 61 (0:Int),Vec.getD 65 (Vec.set 65 (Vec.set 65 s350.2.2.1 x357.toNat x358) x359.toNat (45:Int)) 62 (0:Int),Vec.getD 65 (Vec.set 65 (Vec.set 65 s350.2.2.1 x357.toNat x358) x359.toNat (45:Int)) 63 (0:Int),Vec.getD 65 (Vec.set 65 (Vec.set 65 s350.2.2.1 x357.toNat x358) x359.toNat (45:Int)) 64 (0:Int)]:(List Int))))),()),())
      else none
     else none
    else
    bif a4 then
     bif inS x357 Lq11 65 then none else none
    else
    bif inS x357 Lq11 65 then
     some ((([]:(List Int)),(ofBytes (List.take (65-x357.toNat) (List.drop x357.toNat ([Vec.getD 65 (Vec.set 65 s350.2.2.1 x357.toNat x358) 0 (0:Int),Vec.getD 65 (Vec.set 65 s350.2.2.1 x357.toNat x358) 1 (0:Int),Vec.getD 65 (Vec.set 65 s350.2.2.1 x357.toNat x358) 2 (0:Int),Vec.getD 65 (Vec.set 65 s350.2.2.1 x357.toNat x358) 3 (0:Int),Vec.getD 65 (Vec.set 65 s350.2.2.1 x357.toNat x358) 4 (0:Int),Vec.getD 65 (Vec.set 65 s350.2.2.1 x357.toNat x358) 5 (0:Int),Vec.getD 65 (Vec.set 65 s350.2.2.1 x357.toNat x358) 6 (0:Int),Vec.getD 65 (Vec.set 65 s350.2.2.1 x357.toNat x358) 7 (0:Int),Vec.getD 65 (Vec.set 65 s350.2.2.1 x357.toNat x358) 8 (0:Int),Vec.getD 65 (Vec.set 65 s350.2.2.1 x357.toNat x358) 9 (0:Int),Vec.getD 65 (Vec.set 65 s350.2.2.1 x357.toNat x358) 10 (0:Int),Vec.getD 65 (Vec.set 65 s350.2.2.1 x357.toNat x358) 11 (0:Int),Vec.getD 65 (Vec.set 65 s350.2.2.1 x357.toNat x358) 12 (0:Int),Vec.getD 65 (Vec.set 65 s350.2.2.1 x357.toNat x358) 13 (0:Int),Vec.getD 65 (Vec.set 65 s350.2.2.1 x357.toNat x358) 14 (0:Int),Vec.getD 65 (Vec.set 65 s350.2.2.1 x357.toNat x358) 15 (0:Int),Vec.getD 65 (Vec.set 65 s350.2.2.1 x357.toNat x358) 16 (0:Int),Vec.getD 65 (Vec.set 65 s350.2.2.1 x357.toNat x358) 17 (0:Int),Vec.getD 65 (Vec.set 65 s350.2.2.1 x357.toNat x358) 18 (0:Int),Vec.getD 65 (Vec.set 65 s350.2.2.1 x357.toNat x358) 19 (0:Int),Vec.getD 65 (Vec.set 65 s350.2.2.1 x357.toNat x358) 20 (0:Int),Vec.getD 65 (Vec.set 65 s350.2.2.1 x357.toNat x358) 21 (0:Int),Vec.getD 65 (Vec.set 65 s350.2.2.1 x357.toNat x358) 22 (0:Int),Vec.getD 65 (Vec.set 65 s350.2.2.1 x357.toNat x358) 23 (0:Int),Vec.getD 65 (Vec.set 65 s350.2.2.1 x357.toNat x358) 24 (0:Int),Vec.getD 65 (Vec.set 65 s350.2.2.1 x357.toNat x358) 25 (0:Int),Vec.getD 65 (Vec.set 65 s350.2.2.1 x357.toNat x358) 26 (0:Int),Vec.getD 65 (Vec.set 65 s350.2.2.1 x357.toNat x358) 27 (0:Int),Vec.getD 65 (Vec.set 65 s350.2.2.1 x357.toNat x358) 28 (0:Int),Vec.getD 65 (Vec.set 65 s350.2.2.1 x357.toNat x358) 29 (0:Int),Vec.getD 65 (Vec.set 65 s350.2.2.1 x357.toNat x358) 30 (0:Int),Vec.getD 65 (Vec.set 65 s350.2.2.1 x357.toNat x358) 31 (0:Int),Vec.getD 65 (Vec.set 65 s350.2.2.1 x357.toNat x358) 32 (0:Int),Vec.getD 65 (Vec.set 65 s350.2.2.1 x357.toNat x358) 33 (0:Int),Vec.getD 65 (Vec.set 65 s350.2.2.1 x357.toNat x358) 34 (0:Int),Vec.getD 65 (Vec.set 65 s350.2.2.1 x357.toNat x358) 35 (0:Int),Vec.getD 65 (Vec.set 65 s350.2.2.1 x357.toNat x358) 36 (0:Int),Vec.getD 65 (Vec.set 65 s350.2.2.1 x357.toNat x358) 37 (0:Int),Vec.getD 65 (Vec.set 65 s350.2.2.1 x357.toNat x358) 38 (0:Int),Vec.getD 65 (Vec.set 65 s350.2.2.1 x357.toNat x358) 39 (0:Int),Vec.getD 65 (Vec.set 65 s350.2.2.1 x357.toNat x358) 40 (0:Int),Vec.getD 65 (Vec.set 65 s350.2.2.1 x357.toNat x358) 41 (0:Int),Vec.getD 65 (Vec.set 65 s350.2.2.1 x357.toNat x358) 42 (0:Int),Vec.getD 65 (Vec.set 65 s350.2.2.1 x357.toNat x358) 43 (0:Int),Vec.getD 65 (Vec.set 65 s350.2.2.1 x357.toNat x358) 44 (0:Int),Vec.getD 65 (Vec.set 65 s350.2.2.1 x357.toNat x358) 45 (0:Int),Vec.getD 65 (Vec.set 65 s350.2.2.1 x357.toNat x358) 46 (0:Int),Vec.getD 65 (Vec.set 65 s350.2.2.1 x357.toNat x358) 47 (0:Int),Vec.getD 65 (Vec.set 65 s350.2.2.1 x357.toNat x358) 48 (0:Int),Vec.getD 65 (Vec.set 65 s350.2.2.1 x357.toNat x358) 49 (0:Int),Vec.getD 65 (Vec.set 65 s350.2.2.1 x357.toNat x358) 50 (0:Int),Vec.getD 65 (Vec.set 65 s350.2.2.1 x357.toNat x358) 51 (0:Int),Vec.getD 65 (Vec.set 65 s350.2.2.1 x357.toNat x358) 52 (0:Int),Vec.getD 65 (Vec.set 65 s350.2.2.1 x357.toNat x358) 53 (0:Int),Vec.getD 65 (Vec.set 65 s350.2.2.1 x357.toNat x358) 54 (0:Int),Vec.getD 65 (Vec.set 65 s350.2.2.1 x357.toNat x358) 55 (0:Int),Vec.getD 65 (Vec.set 65 s350.2.2.1 x357.toNat x358) 56 (0:Int),Vec.getD 65 (Vec.set 65 s350.2.2.1 x357.toNat x358) 57 (0:Int),Vec.getD 65 (Vec.set 65 s350.2.2.1 x357.toNat x358) 58 (0:Int),Vec.getD 65 (Vec.set 65 s350.2.2.1 x357.toNat x358) 59 (0:Int),Vec.getD 65 (Vec.set 65 s350.2.2.1 x357.toNat x358) 60 (0:Int),Vec.getD 65 (Vec.set 65 s350.2.2.1 x357.toNat x358) 61 (0:Int),Vec.getD 65 (Vec.set 65 s350.2.2.1 x357.toNat x358) 62 (0:Int),Vec.getD 65 (Vec.set 65 s350.2.2.1 x357.toNat x358) 63 (0:Int),Vec.getD 65 (Vec.set 65 s350.2.2.1 x357.toNat x358) 64 (0:Int)]:(List Int))))),()),())
    else none
   else none
  else none)
def qc0 (a0:(List Int)) (a1:Int) (a2:Int) (a3:Bool) (a4:Bool):Option Dq23 :=
 bif (iLt a2 2) then none else
 bif (iEq a2 10) then none else
 bif (iLt 36 a2) then none else
 bif a3 then
  let x273:=iSub .u64 0 a1
  (qch a2).bind fun y274 =>
  bif y274.1.1 then
   (qbr (iWrap .u64 a2)).bind fun y276 =>
   let x277:=iWrap .u64 y276.1.1
   let x278:=iWrap .u64 a2
   let x280:=iSub .u64 (iWrap .u64 a2) 1
   run (ql1 x278 x280 x277 a3 a4) (x273,(65:Int),Lq5,())
  else
  let x298:=iWrap .u64 a2
  run (ql2 x298 a3 a4) (x273,(65:Int),Lq5,())
 else
 (qch a2).bind fun y318 =>
 bif y318.1.1 then
  (qbr (iWrap .u64 a2)).bind fun y320 =>
  let x321:=iWrap .u64 y320.1.1
  let x322:=iWrap .u64 a2
  let x324:=iSub .u64 (iWrap .u64 a2) 1
  run (qb0 x322 x324 x321 a3 a4) (a1,(65:Int),Lq5,())
 else
 let x342:=iWrap .u64 a2
 run (qkn x342 a3 a4) (a1,(65:Int),Lq5,())
def qge:Entry:=⟨⟨[.v (.list (.int .u8)),.v (.int .u64),.v (.int .i64),.v (.bool),.v (.bool)],[.v (.rows (.int .u8)),.v (.val (.str))],false⟩,fun x=>qc0 x.1 x.2.1 x.2.2.1 x.2.2.2.1 x.2.2.2.2.1⟩
theorem qmj (db:GDeb Tryz.prog G):Sound Tryz.prog G 199 qge:=qab (envS (l:=[(243,qfy),(244,qez)]) ⟨(qlg),(qpe db),trivial⟩) [(11,.vary [(1,.sc (.int .u64)),(13,.sc (.int .i64)),(12,.box (.val (.arr 65 (.int .u8))))]),(18,.vary [(1,.sc (.int .u64)),(13,.sc (.int .i64)),(12,.box (.val (.arr 65 (.int .u8))))])] Tryz.func199 (by kernel_rfl) rfl fun _=>by kernel_rfl
def qei (a0:Int) (a1:Int):Option Dq16 :=
 bif (iEq a1 10) then
  bif (iLt a0 100) then
   none
  else none
 else
 (qc0 ([]:(List Int)) a0 a1 false false).bind fun y269 =>
 some ((y269.1.2.1,()),())
def qgd:Entry:=⟨⟨[.v (.int .u64),.v (.int .i64)],[.v (.val (.str))],false⟩,fun x=>qei x.1 x.2.1⟩
theorem qmi (db:GDeb Tryz.prog G):Sound Tryz.prog G 166 qgd:=qab (envS (l:=[(199,qge)]) ⟨(qmj db),trivial⟩) [] Tryz.func166 (by kernel_rfl) rfl fun _=>by kernel_rfl
def qgr (a0:Int) (a1:Int):Option Dq16 :=
 (qei a0 a1).bind fun y265 =>
 some ((y265.1.1,()),())
def ql0:Entry:=⟨⟨[.v (.int .u64),.v (.int .i64)],[.v (.val (.str))],false⟩,fun x=>qgr x.1 x.2.1⟩
theorem quj (db:GDeb Tryz.prog G):Sound Tryz.prog G 131 ql0:=qab (envS (l:=[(166,qgd)]) ⟨(qmi db),trivial⟩) [] Tryz.func131 (by kernel_rfl) rfl fun _=>by kernel_rfl
def qeg (s262:(List UInt8×Unit)):Option ((List UInt8×Unit)⊕Dq16) :=
 bif (iLt (lenI s262.1) 8) then
  bif strRoom ([48]) s262.1 then
   some (Sum.inl ((strCat ([48]) s262.1),()))
  else none
 else
 Option.map Sum.inr (some ((s262.1,()),()))
def qdk (a0:Nat):Option Dq16 :=
 (qfa a0).bind fun y257 =>
 bif y257.1.1 then some ((([55,102,99,48,48,48,48,48]:List UInt8),()),()) else
 allSame fun (q258:Nat) =>
 (qgr (iWrap .u64 (bitsF .f32 a0 q258)) (16:Int)).bind fun y261 =>
 run (qeg) (y261.1.1,())
def qf9:Entry:=⟨⟨[.v (.flt .f32)],[.v (.val (.str))],false⟩,fun x=>qdk x.1⟩
theorem qjh (db:GDeb Tryz.prog G):Sound Tryz.prog G 72 qf9:=qab (envS (l:=[(90,qk0),(131,ql0)]) ⟨(qpa),(quj db),trivial⟩) [(4,.vary [(3,.sc (.str))])] Tryz.func72 (by kernel_rfl) rfl fun _=>by kernel_rfl
theorem qabp:Sound Tryz.prog G 165 strings_Join_en:=qahm Tryz.func165 (by kernel_rfl) (by kernel_rfl) Tryz.strings_Join_none Tryz.strings_Join
def qa2 (a0:(List Nat)) (s366:((List (List UInt8))×Int×Unit)):Option (((List (List UInt8))×Int×Unit)⊕Dq16) :=
 bif (iLt s366.2.1 (lenI a0)) then
  bif inB s366.2.1 (List.length a0) then
   (qdk (List.getD a0 s366.2.1.toNat (0:Nat))).bind fun y369 =>
   bif room (List.length s366.1+1) 16 then
    some (Sum.inl ((s366.1++([y369.1.1]:(List (List UInt8)))),(iAdd .i64 s366.2.1 1),()))
   else none
  else none
 else
 Option.map Sum.inr (
  (strings_Join s366.1 ([32]:List UInt8)).bind fun y372 =>
  some ((y372.1.1,()),()))
def qa5 (a0:(List Nat)):Option Dq16 :=
 run (qa2 a0) (([]:(List (List UInt8))),(0:Int),())
def qiy:Entry:=⟨⟨[.v (.list (.flt .f32))],[.v (.val (.str))],false⟩,fun x=>qa5 x.1⟩
theorem qm3 (db:GDeb Tryz.prog G):Sound Tryz.prog G 130 qiy:=qab (envS (l:=[(72,qf9),(165,strings_Join_en)]) ⟨(qjh db),(qabp),trivial⟩) [(3,.vary [(3,.rows (.str)),(9,.sc (.int .i64))])] Tryz.func130 (by kernel_rfl) rfl fun _=>by kernel_rfl
def qg8 (a0:(Vec 3 Nat)):Option Dq16 :=
 (qa5 ([Vec.getD 3 a0 0 (0:Nat),Vec.getD 3 a0 1 (0:Nat),Vec.getD 3 a0 2 (0:Nat)]:(List Nat))).bind fun y365 =>
 some ((y365.1.1,()),())
def qsa:Entry:=⟨⟨[.v (.arr 3 (.flt .f32))],[.v (.val (.str))],false⟩,fun x=>qg8 x.1⟩
theorem qaaq (db:GDeb Tryz.prog G):Sound Tryz.prog G 70 qsa:=qab (envS (l:=[(130,qiy)]) ⟨(qm3 db),trivial⟩) [] Tryz.func70 (by kernel_rfl) rfl fun _=>by kernel_rfl
theorem qmw (tb:GTab Tryz.prog G):Sound Tryz.prog G 129 qfc:=qaab Tryz.func129 (by kernel_rfl) (by kernel_rfl) tb Tryz.strconv_FormatInt_10
def qde (a0:Int):Option Dq16 :=
 (qby (iWrap .i64 a0) (10:Int)).bind fun y374 =>
 some ((y374.1.1,()),())
def qlv:Entry:=⟨⟨[.v (.int .i16)],[.v (.val (.str))],false⟩,fun x=>qde x.1⟩
theorem qtk (tb:GTab Tryz.prog G):Sound Tryz.prog G 71 qlv:=qab (envS (l:=[(129,qfc)]) ⟨(qmw tb),trivial⟩) [] Tryz.func71 (by kernel_rfl) rfl fun _=>by kernel_rfl
def qdf (a0:Int):Option Dq16 :=
 (qby a0 (10:Int)).bind fun y375 =>
 some ((y375.1.1,()),())
def qha:Entry:=⟨⟨[.v (.int .i64)],[.v (.val (.str))],false⟩,fun x=>qdf x.1⟩
theorem qlw (tb:GTab Tryz.prog G):Sound Tryz.prog G 69 qha:=qab (envS (l:=[(129,qfc)]) ⟨(qmw tb),trivial⟩) [] Tryz.func69 (by kernel_rfl) rfl fun _=>by kernel_rfl
def qda (a0:Dq1) (s217:(Int×Dq10×Unit)):Option ((Int×Dq10×Unit)⊕Dq16) :=
 bif (iLt s217.1 (lenI a0.2.2.2.1)) then
  bif inB s217.1 (List.length a0.2.2.2.1) then
   let x219:=List.getD a0.2.2.2.1 s217.1.toNat Lq10
   bif (iEq x219.1 1) then
    (qap ((s217.2.1.1,s217.2.1.2.1,s217.2.1.2.2):Dq10) ([116,105,99,107,10]:List UInt8)).bind fun y221 =>
    some (Sum.inl ((iAdd .i64 s217.1 1),((y221.2.1.1,y221.2.1.2.1,y221.2.1.2.2):Dq10),()))
   else
   bif (iEq x219.1 2) then
    (qg8 x219.2.1).bind fun y224 =>
    bif strRoom ([109,111,118,101,32]) y224.1.1 then
     let x225:=strCat ([109,111,118,101,32]) y224.1.1
     bif strRoom x225 ([10]) then
      (qap ((s217.2.1.1,s217.2.1.2.1,s217.2.1.2.2):Dq10) (strCat x225 ([10]))).bind fun y227 =>
      some (Sum.inl ((iAdd .i64 s217.1 1),((y227.2.1.1,y227.2.1.2.1,y227.2.1.2.2):Dq10),()))
     else none
    else none
   else
   bif (iEq x219.1 3) then
    (qde (Vec.getD 3 x219.2.2.1 0 (0:Int))).bind fun y231 =>
    bif strRoom ([102,105,120,32]) y231.1.1 then
     let x232:=strCat ([102,105,120,32]) y231.1.1
     bif strRoom x232 ([32]) then
      let x233:=strCat x232 ([32])
      (qde (Vec.getD 3 x219.2.2.1 1 (0:Int))).bind fun y235 =>
      bif strRoom x233 y235.1.1 then
       let x236:=strCat x233 y235.1.1
       bif strRoom x236 ([32]) then
        let x237:=strCat x236 ([32])
        (qde (Vec.getD 3 x219.2.2.1 2 (0:Int))).bind fun y239 =>
        bif strRoom x237 y239.1.1 then
         let x240:=strCat x237 y239.1.1
         bif strRoom x240 ([10]) then
          (qap ((s217.2.1.1,s217.2.1.2.1,s217.2.1.2.2):Dq10) (strCat x240 ([10]))).bind fun y242 =>
          some (Sum.inl ((iAdd .i64 s217.1 1),((y242.2.1.1,y242.2.1.2.1,y242.2.1.2.2):Dq10),()))
         else none
        else none
       else none
      else none
     else none
    else none
   else
   bif (iEq x219.1 4) then
    (qdf x219.2.2.2.1).bind fun y245 =>
    bif strRoom ([114,97,110,103,101,32]) y245.1.1 then
     let x246:=strCat ([114,97,110,103,101,32]) y245.1.1
     bif strRoom x246 ([32]) then
      let x247:=strCat x246 ([32])
      (qdk x219.2.2.2.2.1).bind fun y248 =>
      bif strRoom x247 y248.1.1 then
       let x249:=strCat x247 y248.1.1
       bif strRoom x249 ([10]) then
        (qap ((s217.2.1.1,s217.2.1.2.1,s217.2.1.2.2):Dq10) (strCat x249 ([10]))).bind fun y251 =>
        some (Sum.inl ((iAdd .i64 s217.1 1),((y251.2.1.1,y251.2.1.2.1,y251.2.1.2.2):Dq10),()))
       else none
      else none
     else none
    else none
   else
   some (Sum.inl ((iAdd .i64 s217.1 1),((s217.2.1.1,s217.2.1.2.1,s217.2.1.2.2):Dq10),()))
  else none
 else
 Option.map Sum.inr (
  (bldStr ((s217.2.1.1,s217.2.1.2.1,s217.2.1.2.2):Dq10)).bind fun y254 =>
  some ((y254,()),()))
def qeo (a0:Dq1) (s203:(Int×Dq10×Unit)):Option ((Int×Dq10×Unit)⊕Dq16) :=
 bif (iLt s203.1 (lenI a0.2.2.1)) then
  bif inB s203.1 (List.length a0.2.2.1) then
   (qg8 (List.getD a0.2.2.1 s203.1.toNat Lq6)).bind fun y206 =>
   bif strRoom ([98,101,97,99,111,110,32]) y206.1.1 then
    let x207:=strCat ([98,101,97,99,111,110,32]) y206.1.1
    bif strRoom x207 ([10]) then
     (qap ((s203.2.1.1,s203.2.1.2.1,s203.2.1.2.2):Dq10) (strCat x207 ([10]))).bind fun y209 =>
     some (Sum.inl ((iAdd .i64 s203.1 1),((y209.2.1.1,y209.2.1.2.1,y209.2.1.2.2):Dq10),()))
    else none
   else none
  else none
 else
 Option.map Sum.inr (run (qda a0) ((0:Int),((s203.2.1.1,s203.2.1.2.1,s203.2.1.2.2):Dq10),()))
def qg4 (a0:Dq1):Option Dq16 :=
 (qdv a0).bind fun y186 =>
 bif (! y186.1.1) then some ((([]:List UInt8),()),()) else
 (qdf a0.1).bind fun y188 =>
 bif strRoom ([108,111,103,32]) y188.1.1 then
  let x189:=strCat ([108,111,103,32]) y188.1.1
  bif strRoom x189 ([32]) then
   let x190:=strCat x189 ([32])
   (qg8 a0.2.1).bind fun y191 =>
   bif strRoom x190 y191.1.1 then
    let x192:=strCat x190 y191.1.1
    bif strRoom x192 ([10]) then
     (qap (((),[],()):Dq10) (strCat x192 ([10]))).bind fun y194 =>
     run (qeo a0) ((0:Int),((y194.2.1.1,y194.2.1.2.1,y194.2.1.2.2):Dq10),())
    else none
   else none
  else none
 else none
def qr2:Entry:=⟨⟨[.v Uq4],[.v (.val (.str))],false⟩,fun x=>qg4 x.1⟩
theorem qaag (tb:GTab Tryz.prog G) (db:GDeb Tryz.prog G):Sound Tryz.prog G 16 qr2:=qab (envS (l:=[(12,qd5),(68,qgs),(69,qha),(70,qsa),(71,qlv),(72,qf9)]) ⟨(qfu),(qmx),(qlw tb),(qaaq db),(qtk tb),(qjh db),trivial⟩) [(6,.vary [(25,.sc (.int .i64)),(3,.box (.pair (.val (.ref 122)) (.pair (.rows (.int .u8)) (.val (.unit)))))]),(11,.vary [(38,.sc (.int .i64)),(3,.box (.pair (.val (.ref 122)) (.pair (.rows (.int .u8)) (.val (.unit)))))])] Tryz.func16 (by kernel_rfl) rfl fun _=>by kernel_rfl
def qaq (a0:Dq4):Option Dq7 :=
 bif (! a0.2.1) then
  some (((iEq (lenI a0.1) 0),()),())
 else some ((false,()),())
def qjn:Entry:=⟨⟨[.ro (.pair (.list (.str)) Uq7)],[.v (.val (.bool))],false⟩,fun x=>qaq x.1⟩
theorem qq1:Sound Tryz.prog G 65 qjn:=qab (envS (l:=[]) trivial) [] Tryz.func65 (by kernel_rfl) rfl fun _=>by kernel_rfl
def qbb (a0:Dq4):Option ((List UInt8×Unit)×(Dq4×Unit)) :=
 bif (iEq (lenI a0.1) 0) then some ((([]:List UInt8),()),(((a0.1,true,a0.2.2):Dq4),())) else
 bif inB 0 (List.length a0.1) then
  bif inS 1 ((List.length a0.1:Nat):Int) (List.length a0.1) then some (((List.getD a0.1 0 ([]:List UInt8)),()),(((List.take ((List.length a0.1)-1) (List.drop 1 a0.1),a0.2):Dq4),())) else none
 else none
def qcu:Entry:=⟨⟨[.io (.pair (.rows (.str)) (.val Uq7))],[.v (.val (.str))],false⟩,fun x=>qbb x.1⟩
theorem qdz:Sound Tryz.prog G 66 qcu:=qab (envS (l:=[]) trivial) [] Tryz.func66 (by kernel_rfl) rfl fun _=>by kernel_rfl
theorem qv1 (sy:GErr 2 G) (ra:GErr 3 G):Sound Tryz.prog G 126 strconv_ParseInt_en:=qab6 Tryz.func126 (by kernel_rfl) (by kernel_rfl) sy ra Tryz.strconv_ParseInt_10_at64_ok (fun s hl h1 h2 ev w he hev=>(Tryz.strconv_ParseInt_10_at64_syntax s hl h1 h2 ev w he hev).mono fun e w' ⟨N,h1,_,_,h2⟩=>⟨N,h1,h2⟩) (fun s hl h ev w he hev=>(Tryz.strconv_ParseInt_10_at64_range s hl h ev w he hev).mono fun e w' ⟨N,h1,_,_,h2⟩=>⟨N,h1,h2⟩)
def qag (a0:Dq4):Option ((Int×Unit)×(Dq4×Unit)) :=
 (qbb ((a0.1,a0.2):Dq4)).bind fun y421 =>
 (qdb y421.1.1 (10:Int) (64:Int)).bind fun y422 =>
 bif y421.2.1.2.1 then some ((y422.1.1,()),(((y421.2.1.1,true,y421.2.1.2.2):Dq4),())) else
 bif (! y422.1.2.1) then some ((y422.1.1,()),(((y421.2.1.1,true,y421.2.1.2.2):Dq4),())) else
 (qdf y422.1.1).bind fun y424 =>
 some ((y422.1.1,()),(((y421.2.1.1,(! (sEq y424.1.1 y421.1.1)),y421.2.1.2.2):Dq4),()))
def qex:Entry:=⟨⟨[.io (.pair (.rows (.str)) (.val Uq7))],[.v (.val (.int .i64))],false⟩,fun x=>qag x.1⟩
theorem qid (tb:GTab Tryz.prog G) (sy:GErr 2 G) (ra:GErr 3 G):Sound Tryz.prog G 63 qex:=qab (envS (l:=[(66,qcu),(69,qha),(126,strconv_ParseInt_en)]) ⟨(qdz),(qlw tb),(qv1 sy ra),trivial⟩) [] Tryz.func63 (by kernel_rfl) rfl fun _=>by kernel_rfl
def qcq (a0:Dq4) (a1:List UInt8):Option ((Unit)×(Dq4×Unit)) :=
 (qbb ((a0.1,a0.2):Dq4)).bind fun y428 =>
 bif (! (sEq y428.1.1 a1)) then some ((),(((y428.2.1.1,true,y428.2.1.2.2):Dq4),())) else some ((),(((y428.2.1.1,y428.2.1.2.1,y428.2.1.2.2):Dq4),()))
def qkc:Entry:=⟨⟨[.io (.pair (.rows (.str)) (.val Uq7)),.v (.str)],[],false⟩,fun x=>qcq x.1 x.2.1⟩
theorem qru:Sound Tryz.prog G 62 qkc:=qab (envS (l:=[(66,qcu)]) ⟨(qdz),trivial⟩) [] Tryz.func62 (by kernel_rfl) rfl fun _=>by kernel_rfl
theorem qrv:Sound Tryz.prog G 195 qf4:=qpd Tryz.func195 (by kernel_rfl) (by kernel_rfl) (by kernel_rfl) (by kernel_rfl)
theorem qvh (sy:GErr 2 G) (ra:GErr 3 G):Sound Tryz.prog G 194 qia:=qaa7 Tryz.func194 (by kernel_rfl) (by kernel_rfl) sy ra Tryz.hex_call
def qga (a0:List UInt8):Option ((Nat×Int×Unit)×Unit) :=
 (qcz a0 (16:Int) (32:Int)).bind fun y436 =>
 (qdm (iWrap .u32 y436.1.1)).bind fun y438 =>
 bif (! y436.1.2.1) then some (((0:Nat),(5:Int),()),()) else
 (qdk y438.1.1).bind fun y440 =>
 bif (! (sEq y440.1.1 a0)) then some (((0:Nat),(5:Int),()),()) else some ((y438.1.1,(0:Int),()),())
def qjj:Entry:=⟨⟨[.v (.str)],[.v (.val (.flt .f32)),.v (.val (.int .i64))],false⟩,fun x=>qga x.1⟩
theorem qoo (sy:GErr 2 G) (ra:GErr 3 G) (db:GDeb Tryz.prog G):Sound Tryz.prog G 162 qjj:=qab (envS (l:=[(72,qf9),(194,qia),(195,qf4)]) ⟨(qjh db),(qvh sy ra),(qrv),trivial⟩) [] Tryz.func162 (by kernel_rfl) rfl fun _=>by kernel_rfl
def qat (a0:Dq4):Option ((Nat×Unit)×(Dq4×Unit)) :=
 (qbb ((a0.1,a0.2):Dq4)).bind fun y433 =>
 (qga y433.1.1).bind fun y434 =>
 bif y433.2.1.2.1 then some ((y434.1.1,()),(((y433.2.1.1,true,y433.2.1.2.2):Dq4),())) else
 some ((y434.1.1,()),(((y433.2.1.1,(! (iEq y434.1.2.1 0)),y433.2.1.2.2):Dq4),()))
def qfb:Entry:=⟨⟨[.io (.pair (.rows (.str)) (.val Uq7))],[.v (.val (.flt .f32))],false⟩,fun x=>qat x.1⟩
theorem qi7 (sy:GErr 2 G) (ra:GErr 3 G) (db:GDeb Tryz.prog G):Sound Tryz.prog G 127 qfb:=qab (envS (l:=[(66,qcu),(162,qjj)]) ⟨(qdz),(qoo sy ra db),trivial⟩) [] Tryz.func127 (by kernel_rfl) rfl fun _=>by kernel_rfl
def qa7 (a0:Dq4):Option (Dq18×(Dq4×Unit)) :=
 (qat ((a0.1,a0.2):Dq4)).bind fun y430 =>
 (qat ((y430.2.1.1,y430.2.1.2):Dq4)).bind fun y431 =>
 (qat ((y431.2.1.1,y431.2.1.2):Dq4)).bind fun y432 =>
 some ((((y430.1.1,y431.1.1,y432.1.1,()):(Vec 3 Nat)),()),(((y432.2.1.1,y432.2.1.2):Dq4),()))
def qfw:Entry:=⟨⟨[.io (.pair (.rows (.str)) (.val Uq7))],[.v (.val (.arr 3 (.flt .f32)))],false⟩,fun x=>qa7 x.1⟩
theorem qjo (sy:GErr 2 G) (ra:GErr 3 G) (db:GDeb Tryz.prog G):Sound Tryz.prog G 64 qfw:=qab (envS (l:=[(127,qfb)]) ⟨(qi7 sy ra db),trivial⟩) [(3,.unroll 4)] Tryz.func64 (by kernel_rfl) rfl fun _=>by kernel_rfl
theorem qic (mx:GMax 1 G):Sound Tryz.prog G 108 qeb:=qaf9 Tryz.func108 (by kernel_rfl) (by kernel_rfl) mx (fun s sep m w h1 h2 h3=>Tryz.strings_Split s sep m w h1 h2 h3)
def qmd (a0:List UInt8):Option (((List (List UInt8))×Bool×Unit)×Unit) :=
 (strings_Split a0 ([10]:List UInt8)).bind fun y442 =>
 let x443:=iSub .i64 (lenI y442.1.1) 1
 bif inS 0 x443 (List.length y442.1.1) then
  bif (iLt 0 x443) then
   bif inB x443 (List.length y442.1.1) then
    some ((List.take x443.toNat (List.drop 0 y442.1.1),(sEq (List.getD y442.1.1 x443.toNat ([]:List UInt8)) ([])),()),())
   else none
  else some ((List.take x443.toNat (List.drop 0 y442.1.1),false,()),())
 else none
def qsd:Entry:=⟨⟨[.v (.str)],[.v (.rows (.str)),.v (.val (.bool))],false⟩,fun x=>qmd x.1⟩
theorem qaaw (mx:GMax 1 G):Sound Tryz.prog G 60 qsd:=qab (envS (l:=[(108,qeb)]) ⟨(qic mx),trivial⟩) [] Tryz.func60 (by kernel_rfl) rfl fun _=>by kernel_rfl
def qbz (a0:Dq4) (a1:List UInt8):Option ((Dq3×Unit)×(Dq4×Unit)) :=
 bif (sEq a1 ([116,105,99,107])) then some ((((1,(0,0,0,()),(0,0,0,()),0,0,()):Dq3),()),(((a0.1,a0.2):Dq4),())) else
 bif (sEq a1 ([109,111,118,101])) then
  (qa7 ((a0.1,a0.2):Dq4)).bind fun y449 =>
  some ((((2,y449.1.1,(0,0,0,()),0,0,()):Dq3),()),(((y449.2.1.1,y449.2.1.2):Dq4),()))
 else
 bif (sEq a1 ([102,105,120])) then
  (qag ((a0.1,a0.2):Dq4)).bind fun y451 =>
  bif y451.2.1.2.1 then
   let x452:=iWrap .i16 y451.1.1
   (qag ((y451.2.1.1,true,y451.2.1.2.2):Dq4)).bind fun y453 =>
   bif y453.2.1.2.1 then
    let x454:=iWrap .i16 y453.1.1
    (qag ((y453.2.1.1,true,y453.2.1.2.2):Dq4)).bind fun y455 =>
    bif y455.2.1.2.1 then
     some ((((3,(0,0,0,()),(x452,x454,(iWrap .i16 y455.1.1),()),0,0,()):Dq3),()),(((y455.2.1.1,true,y455.2.1.2.2):Dq4),()))
    else
    (qbh y455.1.1 Lq12 (32767:Int)).bind fun y457 =>
    some ((((3,(0,0,0,()),(x452,x454,(iWrap .i16 y455.1.1),()),0,0,()):Dq3),()),(((y455.2.1.1,(! y457.1.1),y455.2.1.2.2):Dq4),()))
   else
   (qbh y453.1.1 Lq12 (32767:Int)).bind fun y460 =>
   let x462:=iWrap .i16 y453.1.1
   (qag ((y453.2.1.1,(! y460.1.1),y453.2.1.2.2):Dq4)).bind fun y463 =>
   bif y463.2.1.2.1 then
    some ((((3,(0,0,0,()),(x452,x462,(iWrap .i16 y463.1.1),()),0,0,()):Dq3),()),(((y463.2.1.1,true,y463.2.1.2.2):Dq4),()))
   else
   (qbh y463.1.1 Lq12 (32767:Int)).bind fun y465 =>
   some ((((3,(0,0,0,()),(x452,x462,(iWrap .i16 y463.1.1),()),0,0,()):Dq3),()),(((y463.2.1.1,(! y465.1.1),y463.2.1.2.2):Dq4),()))
  else
  (qbh y451.1.1 Lq12 (32767:Int)).bind fun y468 =>
  let x470:=iWrap .i16 y451.1.1
  (qag ((y451.2.1.1,(! y468.1.1),y451.2.1.2.2):Dq4)).bind fun y471 =>
  bif y471.2.1.2.1 then
   let x472:=iWrap .i16 y471.1.1
   (qag ((y471.2.1.1,true,y471.2.1.2.2):Dq4)).bind fun y473 =>
   bif y473.2.1.2.1 then
    some ((((3,(0,0,0,()),(x470,x472,(iWrap .i16 y473.1.1),()),0,0,()):Dq3),()),(((y473.2.1.1,true,y473.2.1.2.2):Dq4),()))
   else
   (qbh y473.1.1 Lq12 (32767:Int)).bind fun y475 =>
   some ((((3,(0,0,0,()),(x470,x472,(iWrap .i16 y473.1.1),()),0,0,()):Dq3),()),(((y473.2.1.1,(! y475.1.1),y473.2.1.2.2):Dq4),()))
  else
  (qbh y471.1.1 Lq12 (32767:Int)).bind fun y478 =>
  let x480:=iWrap .i16 y471.1.1
  (qag ((y471.2.1.1,(! y478.1.1),y471.2.1.2.2):Dq4)).bind fun y481 =>
  bif y481.2.1.2.1 then
   some ((((3,(0,0,0,()),(x470,x480,(iWrap .i16 y481.1.1),()),0,0,()):Dq3),()),(((y481.2.1.1,true,y481.2.1.2.2):Dq4),()))
  else
  (qbh y481.1.1 Lq12 (32767:Int)).bind fun y483 =>
  some ((((3,(0,0,0,()),(x470,x480,(iWrap .i16 y481.1.1),()),0,0,()):Dq3),()),(((y481.2.1.1,(! y483.1.1),y481.2.1.2.2):Dq4),()))
 else
 bif (sEq a1 ([114,97,110,103,101])) then
  (qag ((a0.1,a0.2):Dq4)).bind fun y487 =>
  (qat ((y487.2.1.1,y487.2.1.2):Dq4)).bind fun y488 =>
  some ((((4,(0,0,0,()),(0,0,0,()),y487.1.1,y488.1.1,()):Dq3),()),(((y488.2.1.1,y488.2.1.2):Dq4),()))
 else some ((Lq10,()),(((a0.1,a0.2):Dq4),()))
def qps:Entry:=⟨⟨[.io (.pair (.rows (.str)) (.val Uq7)),.v (.str)],[.v (.val Uq1)],false⟩,fun x=>qbz x.1 x.2.1⟩
theorem qx5 (tb:GTab Tryz.prog G) (sy:GErr 2 G) (ra:GErr 3 G) (db:GDeb Tryz.prog G):Sound Tryz.prog G 67 qps:=qab (envS (l:=[(63,qex),(64,qfw),(97,qfl),(127,qfb)]) ⟨(qid tb sy ra),(qjo sy ra db),(qhd),(qi7 sy ra db),trivial⟩) [(10,.unroll 4)] Tryz.func67 (by kernel_rfl) rfl fun _=>by kernel_rfl
def qie (a0:List UInt8):Option ((Dq4×Unit)×Unit) :=
 (strings_Split a0 ([32]:List UInt8)).bind fun y489 =>
 some ((((y489.1.1,false,()):Dq4),()),())
def qq3:Entry:=⟨⟨[.v (.str)],[.p (.pair (.rows (.str)) (.val Uq7))],false⟩,fun x=>qie x.1⟩
theorem qy8 (mx:GMax 1 G):Sound Tryz.prog G 61 qq3:=qab (envS (l:=[(108,qeb)]) ⟨(qic mx),trivial⟩) [] Tryz.func61 (by kernel_rfl) rfl fun _=>by kernel_rfl
def qa8 (y376:(((List (List UInt8))×Bool×Unit)×Unit)) (s395:(Int×Dq1×Unit)):Option ((Int×Dq1×Unit)⊕Dq21) :=
 bif (iLt s395.1 (((List.length y376.1.1)-1:Nat):Int)) then
  bif inB s395.1 ((List.length y376.1.1)-1) then
   (qie (List.getD y376.1.1 (1+s395.1.toNat) ([]:List UInt8))).bind fun y398 =>
   (qbb ((y398.1.1.1,y398.1.1.2):Dq4)).bind fun y399 =>
   bif (sEq y399.1.1 ([98,101,97,99,111,110])) then
    bif (iEq (lenI s395.2.1.2.2.2.1) 0) then
     (qa7 ((y399.2.1.1,y399.2.1.2):Dq4)).bind fun y402 =>
     bif room (List.length s395.2.1.2.2.1+1) 12 then
      (qaq ((y402.2.1.1,y402.2.1.2):Dq4)).bind fun y404 =>
      bif (! y404.1.1) then
       Option.map Sum.inr (some ((Lq9,(5:Int),()),()))
      else
      some (Sum.inl ((iAdd .i64 s395.1 1),((s395.2.1.1,s395.2.1.2.1,(s395.2.1.2.2.1++([y402.1.1]:(List (Vec 3 Nat)))),s395.2.1.2.2.2.1,s395.2.1.2.2.2.2):Dq1),()))
     else none
    else
    (qbz ((y399.2.1.1,y399.2.1.2):Dq4) y399.1.1).bind fun y407 =>
    bif room (List.length s395.2.1.2.2.2.1+1) 48 then
     (qaq ((y407.2.1.1,y407.2.1.2):Dq4)).bind fun y409 =>
     bif (! y409.1.1) then
      Option.map Sum.inr (some ((Lq9,(5:Int),()),()))
     else
     some (Sum.inl ((iAdd .i64 s395.1 1),((s395.2.1.1,s395.2.1.2.1,s395.2.1.2.2.1,(s395.2.1.2.2.2.1++([y407.1.1]:(List Dq3))),s395.2.1.2.2.2.2):Dq1),()))
    else none
   else
   (qbz ((y399.2.1.1,y399.2.1.2):Dq4) y399.1.1).bind fun y412 =>
   bif room (List.length s395.2.1.2.2.2.1+1) 48 then
    (qaq ((y412.2.1.1,y412.2.1.2):Dq4)).bind fun y414 =>
    bif (! y414.1.1) then
     Option.map Sum.inr (some ((Lq9,(5:Int),()),()))
    else
    some (Sum.inl ((iAdd .i64 s395.1 1),((s395.2.1.1,s395.2.1.2.1,s395.2.1.2.2.1,(s395.2.1.2.2.2.1++([y412.1.1]:(List Dq3))),s395.2.1.2.2.2.2):Dq1),()))
   else none
  else none
 else
 Option.map Sum.inr (
  (qdv ((s395.2.1.1,s395.2.1.2.1,s395.2.1.2.2.1,s395.2.1.2.2.2.1,s395.2.1.2.2.2.2):Dq1)).bind fun y417 =>
  bif (! y417.1.1) then some ((Lq9,(5:Int),()),()) else
  some ((((s395.2.1.1,s395.2.1.2.1,s395.2.1.2.2.1,s395.2.1.2.2.2.1,s395.2.1.2.2.2.2):Dq1),(0:Int),()),()))
def qji (a0:List UInt8):Option Dq21 :=
 (qmd a0).bind fun y376 =>
 bif (! y376.1.2.1) then some ((Lq9,(5:Int),()),()) else
 bif inB 0 (List.length y376.1.1) then
  (qie (List.getD y376.1.1 0 ([]:List UInt8))).bind fun y379 =>
  (qcq ((y379.1.1.1,y379.1.1.2):Dq4) ([108,111,103]:List UInt8)).bind fun y380 =>
  (qag ((y380.2.1.1,y380.2.1.2):Dq4)).bind fun y381 =>
  (qa7 ((y381.2.1.1,y381.2.1.2):Dq4)).bind fun y382 =>
  (qaq ((y382.2.1.1,y382.2.1.2):Dq4)).bind fun y383 =>
  bif (! y383.1.1) then some ((Lq9,(5:Int),()),()) else
  bif inS 1 ((List.length y376.1.1:Nat):Int) (List.length y376.1.1) then
   run (qa8 y376) ((0:Int),((y381.1.1,y382.1.1,[],[],()):Dq1),())
  else none
 else none
def qr5:Entry:=⟨⟨[.v (.str)],[.v (.pair (.val (.int .i64)) (.pair (.val (.arr 3 (.flt .f32))) (.pair (.rows (.arr 3 (.flt .f32))) (.pair (.rows Uq1) (.val (.unit)))))),.v (.val (.int .i64))],false⟩,fun x=>qji x.1⟩
theorem qaak (mx:GMax 1 G) (tb:GTab Tryz.prog G) (sy:GErr 2 G) (ra:GErr 3 G) (db:GDeb Tryz.prog G):Sound Tryz.prog G 15 qr5:=qab (envS (l:=[(12,qd5),(60,qsd),(61,qq3),(62,qkc),(63,qex),(64,qfw),(65,qjn),(66,qcu),(67,qps)]) ⟨(qfu),(qaaw mx),(qy8 mx),(qru),(qid tb sy ra),(qjo sy ra db),(qq1),(qdz),(qx5 tb sy ra db),trivial⟩) [(11,.vary [(39,.sc (.int .i64)),(7,.box (.pair (.val (.int .i64)) (.pair (.val (.arr 3 (.flt .f32))) (.pair (.rows (.arr 3 (.flt .f32))) (.pair (.rows Uq1) (.val (.unit)))))))])] Tryz.func15 (by kernel_rfl) rfl fun _=>by kernel_rfl
end
end Go.Proofs.YtnndahnmlmgenaaGreatDoor
