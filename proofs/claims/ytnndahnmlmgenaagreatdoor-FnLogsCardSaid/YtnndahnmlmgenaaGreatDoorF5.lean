import Derived.Test.YtnndahnmlmgenaaGreatDoorF4
/- Functions on typed data: what the evaluation of each Go function is, and that it is sound. -/
set_option linter.unusedVariables false
namespace Go.Proofs.YtnndahnmlmgenaaGreatDoor
open Go Go.Tm
noncomputable section
set_option maxRecDepth 100000
variable {G : List (Nat × Obj)}
def qh7 (a0:Dq5) (a1:Dq5):Option Dq9 :=
 bif (iEq a0.1 a1.1) then
  (qbk a0.2.1 a1.2.1).bind fun y3627 =>
  bif y3627.1.1 then
   bif (iEq (Vec.getD 3 a0.2.2.1 0 (0:Int)) (Vec.getD 3 a1.2.2.1 0 (0:Int))&&(iEq (Vec.getD 3 a0.2.2.1 1 (0:Int)) (Vec.getD 3 a1.2.2.1 1 (0:Int))&&(iEq (Vec.getD 3 a0.2.2.1 2 (0:Int)) (Vec.getD 3 a1.2.2.1 2 (0:Int))&&true))) then
    bif (iEq a0.2.2.2.1 a1.2.2.2.1) then
     (qbz a0.2.2.2.2.1 a1.2.2.2.2.1).bind fun y3630 =>
     some ((y3630.1.1,()),())
    else some ((false,()),())
   else some ((false,()),())
  else some ((false,()),())
 else some ((false,()),())
def qo8:Entry:=⟨⟨[.ro Uq1,.ro Uq1],[.v (.val (.bool))],false⟩,fun x=>qh7 x.1 x.2.1⟩
theorem qyt:Sound Tryz.prog G 53 qo8:=qab (envS (l:=[(51,qff),(122,qkr)]) ⟨(qhv),(qo3),trivial⟩) [] Tryz.func53 (by kernel_rfl) rfl fun _=>by kernel_rfl
def qki (a0:(List (Vec 3 Nat))) (a1:(List (Vec 3 Nat))) (s3632:(Int×Unit)):Option ((Int×Unit)⊕Dq9) :=
 bif (iLt s3632.1 (lenI a0)) then
  bif inB s3632.1 (List.length a0) then
   bif inB s3632.1 (List.length a1) then
    (qbk (List.getD a0 s3632.1.toNat Lq6) (List.getD a1 s3632.1.toNat Lq6)).bind fun y3636 =>
    bif (! y3636.1.1) then
     Option.map Sum.inr (some ((false,()),()))
    else
    some (Sum.inl ((iAdd .i64 s3632.1 1),()))
   else none
  else none
 else
 Option.map Sum.inr (some ((true,()),()))
def qjm (a0:(List (Vec 3 Nat))) (a1:(List (Vec 3 Nat))):Option Dq9 :=
 bif (! (iEq (lenI a0) (lenI a1))) then some ((false,()),()) else run (qki a0 a1) ((0:Int),())
def qpw:Entry:=⟨⟨[.v (.list (.arr 3 (.flt .f32))),.v (.list (.arr 3 (.flt .f32)))],[.v (.val (.bool))],false⟩,fun x=>qjm x.1 x.2.1⟩
theorem qzi:Sound Tryz.prog G 52 qpw:=qab (envS (l:=[(51,qff)]) ⟨(qhv),trivial⟩) [(4,.vary [(5,.sc (.int .i64))])] Tryz.func52 (by kernel_rfl) rfl fun _=>by kernel_rfl
def qoz (a0:Dq2) (a1:Dq2) (s3621:(Int×Unit)):Option ((Int×Unit)⊕Dq9) :=
 bif (iLt s3621.1 (lenI a0.2.2.2.1)) then
  bif inB s3621.1 (List.length a0.2.2.2.1) then
   bif inB s3621.1 (List.length a1.2.2.2.1) then
    (qh7 (List.getD a0.2.2.2.1 s3621.1.toNat Lq7) (List.getD a1.2.2.2.1 s3621.1.toNat Lq7)).bind fun y3623 =>
    bif (! y3623.1.1) then
     Option.map Sum.inr (some ((false,()),()))
    else
    some (Sum.inl ((iAdd .i64 s3621.1 1),()))
   else none
  else none
 else
 Option.map Sum.inr (some ((true,()),()))
def qlg (a0:Dq2) (a1:Dq2):Option Dq9 :=
 bif (! (iEq a0.1 a1.1)) then some ((false,()),()) else
 (qbk a0.2.1 a1.2.1).bind fun y3616 =>
 bif (! y3616.1.1) then some ((false,()),()) else
 (qjm a0.2.2.1 a1.2.2.1).bind fun y3618 =>
 bif (! y3618.1.1) then some ((false,()),()) else
 bif (! (iEq (lenI a0.2.2.2.1) (lenI a1.2.2.2.1))) then some ((false,()),()) else run (qoz a0 a1) ((0:Int),())
def qvv:Entry:=⟨⟨[.v Uq5,.v Uq5],[.v (.val (.bool))],false⟩,fun x=>qlg x.1 x.2.1⟩
theorem qae7:Sound Tryz.prog G 11 qvv:=qab (envS (l:=[(51,qff),(52,qpw),(53,qo8)]) ⟨(qhv),(qzi),(qyt),trivial⟩) [(4,.vary [(5,.sc (.int .i64))])] Tryz.func11 (by kernel_rfl) rfl fun _=>by kernel_rfl
def qdd (y68:Dq34) (y67:Dq34) (y64:((Dq2×Unit)×Unit)) (y2:((Dq4×Unit)×Unit)) (x7:Int) (s76:(Int×Unit)):Option ((Int×Unit)⊕Dq9) :=
 bif (iLt s76.1 (lenI y68.1.1)) then
  bif inB s76.1 (List.length y67.1.1) then
   bif inB s76.1 (List.length y68.1.1) then
    bif (! (iEq (List.getD y67.1.1 s76.1.toNat (0:Int)) (List.getD y68.1.1 s76.1.toNat (0:Int)))) then
     Option.map Sum.inr (some ((false,()),()))
    else
    bif inB s76.1 (List.length y68.1.1) then
     let x81:=List.getD y68.1.1 s76.1.toNat (0:Int)
     bif inB x81 (List.length y64.1.1.2.2.2.1) then
      bif (iLt ((List.getD y64.1.1.2.2.2.1 x81.toNat Lq7).1) 3) then
       Option.map Sum.inr (some ((false,()),()))
      else
      some (Sum.inl ((iAdd .i64 s76.1 1),()))
     else none
    else none
   else none
  else none
 else
 Option.map Sum.inr (
  (qmb ((y2.1.1.1,y2.1.1.2.1,y2.1.1.2.2.1,y2.1.1.2.2.2.1,y2.1.1.2.2.2.2):Dq4) x7).bind fun y85 =>
  (qmn ((y2.1.1.1,y2.1.1.2.1,y2.1.1.2.2.1,y2.1.1.2.2.2.1,y2.1.1.2.2.2.2):Dq4) x7).bind fun y86 =>
  bif (iEq y85.1.2.1 y86.1.2.1) then
   (qdb y85.1.1 y86.1.1).bind fun y88 =>
   some ((y88.1.1,()),())
  else some ((false,()),()))
def qea (y2:((Dq4×Unit)×Unit)) (y36:(Dq26×Unit)) (s26:(Int×(Vec 5 Int)×Unit)) (a1:(List Int)) (x7:Int) (s37:(Int×Int×Int×Unit)):Option ((Int×Int×Int×Unit)⊕Dq9) :=
 bif (iLt s37.2.2.1 (lenI y2.1.1.2.2.2.1)) then
  bif inB s37.2.2.1 (List.length y2.1.1.2.2.2.1) then
   bif (iLt 0 ((((List.getD y2.1.1.2.2.2.1 s37.2.2.1.toNat Lq5).2).2).1)) then
    bif inB s37.2.2.1 (List.length y2.1.1.2.2.2.1) then
     bif inB s37.2.2.1 (List.length y2.1.1.2.2.2.1) then
      let x42:=(((List.getD y2.1.1.2.2.2.1 s37.2.2.1.toNat Lq5).2).2).1
      bif iEq x42 0 then none else
      let x44:=iAdd .i64 s37.1 (iQuo .i64 ((List.getD y2.1.1.2.2.2.1 s37.2.2.1.toNat Lq5).1) x42)
      bif inB s37.2.2.1 (List.length y2.1.1.2.2.2.1) then
       bif (iLe 0 (((((List.getD y2.1.1.2.2.2.1 s37.2.2.1.toNat Lq5).2).2).2).1)) then
        some (Sum.inl (x44,(iAdd .i64 s37.2.1 1),(iAdd .i64 s37.2.2.1 1),()))
       else
       some (Sum.inl (x44,s37.2.1,(iAdd .i64 s37.2.2.1 1),()))
      else none
     else none
    else none
   else
   bif inB s37.2.2.1 (List.length y2.1.1.2.2.2.1) then
    bif (iLe 0 (((((List.getD y2.1.1.2.2.2.1 s37.2.2.1.toNat Lq5).2).2).2).1)) then
     some (Sum.inl (s37.1,(iAdd .i64 s37.2.1 1),(iAdd .i64 s37.2.2.1 1),()))
    else
    some (Sum.inl (s37.1,s37.2.1,(iAdd .i64 s37.2.2.1 1),()))
   else none
  else none
 else
 Option.map Sum.inr (
  bif (! (iEq y36.1.2.1 0)) then some ((false,()),()) else
  bif (! (iEq (Vec.getD 5 s26.2.1 1 (0:Int)) y36.1.1)) then some ((false,()),()) else
  bif (! (iEq (Vec.getD 5 s26.2.1 2 (0:Int)) (lenI y2.1.1.2.2.2.1))) then some ((false,()),()) else
  bif (! (iEq (Vec.getD 5 s26.2.1 3 (0:Int)) s37.1)) then some ((false,()),()) else
  bif (! (iEq (Vec.getD 5 s26.2.1 4 (0:Int)) s37.2.1)) then some ((false,()),()) else
  (qtf a1).bind fun y64 =>
  (qh9 ((y64.1.1.1,y64.1.1.2.1,y64.1.1.2.2.1,y64.1.1.2.2.2.1,y64.1.1.2.2.2.2):Dq2)).bind fun y65 =>
  (qkx y65.1.1).bind fun y66 =>
  (qg4 ((y64.1.1.1,y64.1.1.2.1,y64.1.1.2.2.1,y64.1.1.2.2.2.1,y64.1.1.2.2.2.2):Dq2)).bind fun y67 =>
  (qg5 ((y64.1.1.1,y64.1.1.2.1,y64.1.1.2.2.1,y64.1.1.2.2.2.1,y64.1.1.2.2.2.2):Dq2)).bind fun y68 =>
  bif (! (iEq y66.1.2.1 0)) then some ((false,()),()) else
  (qlg ((y66.1.1.1,y66.1.1.2.1,y66.1.1.2.2.1,y66.1.1.2.2.2.1,y66.1.1.2.2.2.2):Dq2) ((y64.1.1.1,y64.1.1.2.1,y64.1.1.2.2.1,y64.1.1.2.2.2.1,y64.1.1.2.2.2.2):Dq2)).bind fun y70 =>
  bif (! y70.1.1) then some ((false,()),()) else
  (qob ((y66.1.1.1,y66.1.1.2.1,y66.1.1.2.2.1,y66.1.1.2.2.2.1,y66.1.1.2.2.2.2):Dq2) ((y64.1.1.1,y64.1.1.2.1,y64.1.1.2.2.1,y64.1.1.2.2.2.1,y64.1.1.2.2.2.2):Dq2)).bind fun y72 =>
  bif (! y72.1.1) then some ((false,()),()) else
  bif (! (iEq y67.1.2.1 y68.1.2.1)) then some ((false,()),()) else
  bif (! (iEq (lenI y67.1.1) (lenI y68.1.1))) then some ((false,()),()) else run (qdd y68 y67 y64 y2 x7) ((0:Int),()))
def qd9 (y8:Dq22) (y2:((Dq4×Unit)×Unit)) (a1:(List Int)) (x7:Int) (s26:(Int×(Vec 5 Int)×Unit)):Option ((Int×(Vec 5 Int)×Unit)⊕Dq9) :=
 bif (iLt s26.1 (lenI y8.1.1.2.2.2.1)) then
  bif inB s26.1 (List.length y8.1.1.2.2.2.1) then
   bif (iLt ((List.getD y8.1.1.2.2.2.1 s26.1.toNat Lq7).1) 1) then
    Option.map Sum.inr (some ((false,()),()))
   else
   bif inB s26.1 (List.length y8.1.1.2.2.2.1) then
    bif (iLt 4 ((List.getD y8.1.1.2.2.2.1 s26.1.toNat Lq7).1)) then
     Option.map Sum.inr (some ((false,()),()))
    else
    bif inB s26.1 (List.length y8.1.1.2.2.2.1) then
     let x32:=(List.getD y8.1.1.2.2.2.1 s26.1.toNat Lq7).1
     bif inB x32 5 then
      bif inB x32 5 then
       some (Sum.inl ((iAdd .i64 s26.1 1),Vec.set 5 s26.2.1 x32.toNat (iAdd .i64 (Vec.getD 5 s26.2.1 x32.toNat (0:Int)) 1),()))
      else none
     else none
    else none
   else none
  else none
 else
 Option.map Sum.inr (
  (qof ((y2.1.1.1,y2.1.1.2.1,y2.1.1.2.2.1,y2.1.1.2.2.2.1,y2.1.1.2.2.2.2):Dq4)).bind fun y36 =>
  run (qea y2 y36 s26 a1 x7) ((0:Int),(0:Int),(0:Int),()))
def qwa (a0:(List Int)) (a1:(List Int)):Option Dq9 :=
 (qwb a0 a1).bind fun y1 =>
 bif y1.1.1 then some ((true,()),()) else
 (qlu a0).bind fun y2 =>
 (qk9 a1 (0:Int) (256:Int)).bind fun y3 =>
 (qk9 a1 (1:Int) (256:Int)).bind fun y5 =>
 let x7:=iWrap .u32 (iAdd .i64 (iMul .i64 y3.1.1 65536) y5.1.1)
 (qfj ((y2.1.1.1,y2.1.1.2.1,y2.1.1.2.2.1,y2.1.1.2.2.2.1,y2.1.1.2.2.2.2):Dq4) x7).bind fun y8 =>
 (qkp ((y2.1.1.1,y2.1.1.2.1,y2.1.1.2.2.1,y2.1.1.2.2.2.1,y2.1.1.2.2.2.2):Dq4) x7).bind fun y9 =>
 bif (! (iEq y8.1.2.1 y9.1.2.1)) then some ((false,()),()) else
 bif (! (iEq y8.1.2.1 0)) then some ((false,()),()) else
 (qlg ((y8.1.1.1,y8.1.1.2.1,y8.1.1.2.2.1,y8.1.1.2.2.2.1,y8.1.1.2.2.2.2):Dq2) ((y9.1.1.1,y9.1.1.2.1,y9.1.1.2.2.1,y9.1.1.2.2.2.1,y9.1.1.2.2.2.2):Dq2)).bind fun y12 =>
 bif (! y12.1.1) then some ((false,()),()) else
 (qel ((y8.1.1.1,y8.1.1.2.1,y8.1.1.2.2.1,y8.1.1.2.2.2.1,y8.1.1.2.2.2.2):Dq2)).bind fun y14 =>
 bif (! y14.1.1) then some ((false,()),()) else run (qd9 y8 y2 a1 x7) ((0:Int),((0,0,0,0,0,()):(Vec 5 Int)),())
def qw6:Entry:=⟨⟨[.v (.list (.int .u8)),.v (.list (.int .u8))],[.v (.val (.bool))],false⟩,fun x=>qwa x.1 x.2.1⟩
theorem qafs (mx:GMax 1 G) (tb:GTab Tryz.prog G) (sy:GErr 2 G) (ra:GErr 3 G) (db:GDeb Tryz.prog G):Sound Tryz.prog G 3 qw6:=qab (envS (l:=[(6,qw7),(7,qsq),(8,qaad),(9,qky),(10,qry),(11,qvv),(12,qe0),(13,qvd),(14,qy5),(15,qu9),(16,qu6),(17,qmc),(18,qmo),(19,qva),(20,qww),(21,qxj),(22,qhh)]) ⟨(qaft),(qabq),(qai4),(qrk),(qaaz),(qae7),(qgq),(qad9),(qah7),(qad4 mx tb sy ra db),(qad0 tb db),(qv9),(qwh),(qad6),(qafq),(qaf6),(qk0),trivial⟩) [(11,.vary [(12,.sc (.int .i64)),(11,.box (.val (.arr 5 (.int .i64))))]),(20,.vary [(15,.sc (.int .i64)),(16,.sc (.int .i64)),(17,.sc (.int .i64))]),(35,.vary [(25,.sc (.int .i64))])] Tryz.func3 (by kernel_rfl) rfl fun _=>by kernel_rfl
end
end Go.Proofs.YtnndahnmlmgenaaGreatDoor
