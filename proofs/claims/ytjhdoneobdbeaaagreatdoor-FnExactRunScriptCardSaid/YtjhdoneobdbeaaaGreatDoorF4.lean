import Derived.Test.YtjhdoneobdbeaaaGreatDoorF3
/- Functions on typed data: what the evaluation of each Go function is, and that it is sound. -/
set_option linter.unusedVariables false
namespace Go.Proofs.YtjhdoneobdbeaaaGreatDoor
open Go Go.Tm
noncomputable section
set_option maxRecDepth 100000
variable {G : List (Nat × Obj)}
def qfz (a0:Dq8) (s1870:(Int×Dq1×Unit)):Option ((Int×Dq1×Unit)⊕((Dq1×Unit)×Unit)) :=
 bif (iLt s1870.1 (lenI a0.2.2.1)) then
  bif room (List.length s1870.2.1.2.1.1+1) 40 then
   bif room (List.length s1870.2.1.2.1.2.1+1) 40 then
    some (Sum.inl ((iAdd .i64 s1870.1 1),((s1870.2.1.1,((s1870.2.1.2.1.1++([((a0.1,[],()),0,())]:(List Dq6))),(s1870.2.1.2.1.2.1++([((a0.1,[],()),0,())]:(List Dq6))),s1870.2.1.2.1.2.2.1,s1870.2.1.2.1.2.2.2),s1870.2.1.2.2):Dq1),()))
   else none
  else none
 else
 Option.map Sum.inr (some ((((s1870.2.1.1,(s1870.2.1.2.1.1,s1870.2.1.2.1.2.1,s1870.2.1.2.1.2.2.1,s1870.2.1.2.1.2.2.2),s1870.2.1.2.2):Dq1),()),()))
def qi0 (a0:Dq8):Option ((Dq1×Unit)×Unit) :=
 run (qfz a0) ((0:Int),((a0,([],[],[],()),()):Dq1),())
def qrz:Entry:=⟨⟨[.ro Uq2],[.p (.pair (.ro Uq2) (.pair (.pair (.rows Uq3) (.pair (.rows Uq3) (.pair (.rows Uq6) (.val (.unit))))) (.val (.unit))))],true⟩,fun x=>qi0 x.1⟩
theorem qaah:Sound Tryz.prog G 80 qrz:=qab (envS (l:=[]) trivial) [(3,.vary [(4,.sc (.int .i64)),(3,.box (.pair (.ro Uq2) (.pair (.pair (.rows Uq3) (.pair (.rows Uq3) (.pair (.rows Uq6) (.val (.unit))))) (.val (.unit)))))])] Tryz.func80 (by kernel_rfl) rfl fun _=>by kernel_rfl
def qo8 (a0:Nat) (a1:(Vec 3 Nat)):Option Dq23 :=
 (qdr a0 a1).bind fun y1899 =>
 some ((y1899.1.1,y1899.1.2.1,()),())
def quj:Entry:=⟨⟨[.v (.flt .f32),.v (.arr 3 (.flt .f32))],[.v (.val (.arr 3 (.int .i32))),.v (.val (.int .i64))],false⟩,fun x=>qo8 x.1 x.2.1⟩
theorem qadc:Sound Tryz.prog G 118 quj:=qab (envS (l:=[(154,qjk)]) ⟨(qnj),trivial⟩) [] Tryz.func118 (by kernel_rfl) rfl fun _=>by kernel_rfl
def qli (a0:Nat):Option Dq7 :=
 bif (fLe .f32 0 a0) then
  (qb9 a0).bind fun y1901 =>
  some ((y1901.1.1,()),())
 else some ((false,()),())
def qrx:Entry:=⟨⟨[.v (.flt .f32)],[.v (.val (.bool))],false⟩,fun x=>qli x.1⟩
theorem qaaf:Sound Tryz.prog G 117 qrx:=qab (envS (l:=[(153,qdw)]) ⟨(qe5),trivial⟩) [] Tryz.func117 (by kernel_rfl) rfl fun _=>by kernel_rfl
def qlm (s1881:(Int×Unit)) (a0:Dq8) (s1885:(Int×Unit)):Option ((Int×Unit)⊕((Int×Unit)⊕Dq7)) :=
 bif inB s1881.1 (List.length a0.2.2.1) then
  bif (iLt s1885.1 (lenI (List.getD a0.2.2.1 s1881.1.toNat ([]:(List Dq4))))) then
   bif inB s1881.1 (List.length a0.2.2.1) then
    let x1888:=List.getD a0.2.2.1 s1881.1.toNat ([]:(List Dq4))
    bif inB s1885.1 (List.length x1888) then
     let x1889:=List.getD x1888 s1885.1.toNat Lq7
     (qo8 a0.1 x1889.1).bind fun y1890 =>
     bif (! (iEq y1890.1.2.1 0)) then
      Option.map Sum.inr (Option.map Sum.inr (some ((false,()),())))
     else
     bif (fLt .f32 0 x1889.2.1) then
      bif (! (fLe .f32 x1889.2.1 1232348160)) then
       Option.map Sum.inr (Option.map Sum.inr (some ((false,()),())))
      else
      (qhu x1889.2.2.1).bind fun y1895 =>
      bif (! y1895.1.1) then
       Option.map Sum.inr (Option.map Sum.inr (some ((false,()),())))
      else
      some (Sum.inl ((iAdd .i64 s1885.1 1),()))
     else
     Option.map Sum.inr (Option.map Sum.inr (some ((false,()),())))
    else none
   else none
  else
  Option.map Sum.inr (some (Sum.inl ((iAdd .i64 s1881.1 1),())))
 else none
def qll (a0:Dq8) (s1881:(Int×Unit)):Option ((Int×Unit)⊕Dq7) :=
 bif (iLt s1881.1 (lenI a0.2.2.1)) then
  bif inB s1881.1 (List.length a0.2.2.1) then
   bif (iLt 16 (lenI (List.getD a0.2.2.1 s1881.1.toNat ([]:(List Dq4))))) then
    Option.map Sum.inr (some ((false,()),()))
   else run (qlm s1881 a0) ((0:Int),())
  else none
 else
 Option.map Sum.inr (some ((true,()),()))
def qq3 (a0:Dq8):Option Dq7 :=
 (qhw a0.1).bind fun y1875 =>
 bif (! y1875.1.1) then some ((false,()),()) else
 (qli a0.2.1).bind fun y1877 =>
 bif (! y1877.1.1) then some ((false,()),()) else
 (qb3 (lenI a0.2.2.1) (1:Int) (4:Int)).bind fun y1879 =>
 bif (! y1879.1.1) then some ((false,()),()) else run (qll a0) ((0:Int),())
def qwb:Entry:=⟨⟨[.ro Uq2],[.v (.val (.bool))],false⟩,fun x=>qq3 x.1⟩
theorem qafh:Sound Tryz.prog G 78 qwb:=qab (envS (l:=[(112,qdy),(116,qjm),(117,qrx),(118,quj),(119,qjj)]) ⟨(qe1),(qnq),(qaaf),(qadc),(qnh),trivial⟩) [(4,.vary [(3,.sc (.int .i64))]),(9,.vary [(4,.sc (.int .i64))])] Tryz.func78 (by kernel_rfl) rfl fun _=>by kernel_rfl
def qen (x1075:Int) (y1071:Dq13) (s1089:(List UInt8×Int×Dq1×Unit)):Option ((List UInt8×Int×Dq1×Unit)⊕(Dq15×Unit)) :=
 bif (iLt s1089.2.1 ((x1075.toNat:Nat):Int)) then
  bif inB s1089.2.1 x1075.toNat then
   (qbh (List.getD y1071.1.1 (0+s1089.2.1.toNat) ([]:List UInt8))).bind fun y1092 =>
   bif (! (iEq y1092.1.2.1 0)) then
    bif inB s1089.2.1 x1075.toNat then
     (qb0 ((s1089.2.2.1.1,(s1089.2.2.1.2.1.1,s1089.2.2.1.2.1.2.1,s1089.2.2.1.2.1.2.2.1,s1089.2.2.1.2.1.2.2.2),s1089.2.2.1.2.2):Dq1) (List.getD y1071.1.1 (0+s1089.2.1.toNat) ([]:List UInt8))).bind fun y1095 =>
     bif strRoom y1095.1.1 ([10]) then
      let x1096:=strCat y1095.1.1 ([10])
      bif strRoom s1089.1 x1096 then
       some (Sum.inl ((strCat s1089.1 x1096),(iAdd .i64 s1089.2.1 1),((y1095.2.1.1,(y1095.2.1.2.1.1,y1095.2.1.2.1.2.1,y1095.2.1.2.1.2.2.1,y1095.2.1.2.1.2.2.2),y1095.2.1.2.2):Dq1),()))
      else none
     else none
    else none
   else
   (qbv ((s1089.2.2.1.1,(s1089.2.2.1.2.1.1,s1089.2.2.1.2.1.2.1,s1089.2.2.1.2.1.2.2.1,s1089.2.2.1.2.1.2.2.2),s1089.2.2.1.2.2):Dq1) y1092.1.1).bind fun y1099 =>
   bif (! (iEq y1099.1.1 0)) then
    (qe0 y1099.1.1).bind fun y1101 =>
    bif strRoom ([101,114,114,111,114,32]) y1101.1.1 then
     let x1102:=strCat ([101,114,114,111,114,32]) y1101.1.1
     bif strRoom x1102 ([10]) then
      let x1103:=strCat x1102 ([10])
      bif strRoom s1089.1 x1103 then
       some (Sum.inl ((strCat s1089.1 x1103),(iAdd .i64 s1089.2.1 1),((y1099.2.1.1,(y1099.2.1.2.1.1,y1099.2.1.2.1.2.1,y1099.2.1.2.1.2.2.1,y1099.2.1.2.1.2.2.2),y1099.2.1.2.2):Dq1),()))
      else none
     else none
    else none
   else
   bif strRoom ([111,107]) ([10]) then
    let x1106:=strCat ([111,107]) ([10])
    bif strRoom s1089.1 x1106 then
     some (Sum.inl ((strCat s1089.1 x1106),(iAdd .i64 s1089.2.1 1),((y1099.2.1.1,(y1099.2.1.2.1.1,y1099.2.1.2.1.2.1,y1099.2.1.2.1.2.2.1,y1099.2.1.2.1.2.2.2),y1099.2.1.2.2):Dq1),()))
    else none
   else none
  else none
 else
 Option.map Sum.inr (some ((s1089.1,(0:Int),()),()))
def qdq (y1071:Dq13) (s1122:(List UInt8×Int×Dq1×Unit)):Option ((List UInt8×Int×Dq1×Unit)⊕(Dq15×Unit)) :=
 bif (iLt s1122.2.1 (lenI y1071.1.1)) then
  bif inB s1122.2.1 (List.length y1071.1.1) then
   (qbh (List.getD y1071.1.1 s1122.2.1.toNat ([]:List UInt8))).bind fun y1125 =>
   bif (! (iEq y1125.1.2.1 0)) then
    bif inB s1122.2.1 (List.length y1071.1.1) then
     (qb0 ((s1122.2.2.1.1,(s1122.2.2.1.2.1.1,s1122.2.2.1.2.1.2.1,s1122.2.2.1.2.1.2.2.1,s1122.2.2.1.2.1.2.2.2),s1122.2.2.1.2.2):Dq1) (List.getD y1071.1.1 s1122.2.1.toNat ([]:List UInt8))).bind fun y1128 =>
     bif strRoom y1128.1.1 ([10]) then
      let x1129:=strCat y1128.1.1 ([10])
      bif strRoom s1122.1 x1129 then
       some (Sum.inl ((strCat s1122.1 x1129),(iAdd .i64 s1122.2.1 1),((y1128.2.1.1,(y1128.2.1.2.1.1,y1128.2.1.2.1.2.1,y1128.2.1.2.1.2.2.1,y1128.2.1.2.1.2.2.2),y1128.2.1.2.2):Dq1),()))
      else none
     else none
    else none
   else
   (qbv ((s1122.2.2.1.1,(s1122.2.2.1.2.1.1,s1122.2.2.1.2.1.2.1,s1122.2.2.1.2.1.2.2.1,s1122.2.2.1.2.1.2.2.2),s1122.2.2.1.2.2):Dq1) y1125.1.1).bind fun y1132 =>
   bif (! (iEq y1132.1.1 0)) then
    (qe0 y1132.1.1).bind fun y1134 =>
    bif strRoom ([101,114,114,111,114,32]) y1134.1.1 then
     let x1135:=strCat ([101,114,114,111,114,32]) y1134.1.1
     bif strRoom x1135 ([10]) then
      let x1136:=strCat x1135 ([10])
      bif strRoom s1122.1 x1136 then
       some (Sum.inl ((strCat s1122.1 x1136),(iAdd .i64 s1122.2.1 1),((y1132.2.1.1,(y1132.2.1.2.1.1,y1132.2.1.2.1.2.1,y1132.2.1.2.1.2.2.1,y1132.2.1.2.1.2.2.2),y1132.2.1.2.2):Dq1),()))
      else none
     else none
    else none
   else
   bif strRoom ([111,107]) ([10]) then
    let x1139:=strCat ([111,107]) ([10])
    bif strRoom s1122.1 x1139 then
     some (Sum.inl ((strCat s1122.1 x1139),(iAdd .i64 s1122.2.1 1),((y1132.2.1.1,(y1132.2.1.2.1.1,y1132.2.1.2.1.2.1,y1132.2.1.2.1.2.2.1,y1132.2.1.2.1.2.2.2),y1132.2.1.2.2):Dq1),()))
    else none
   else none
  else none
 else
 Option.map Sum.inr (some ((s1122.1,(0:Int),()),()))
def qht (a0:Dq8) (a1:List UInt8):Option (Dq15×Unit) :=
 (qq3 a0).bind fun y1069 =>
 bif (! y1069.1.1) then some ((([]:List UInt8),(1:Int),()),()) else
 (qbr a1 (10:Int)).bind fun y1071 =>
 let x1072:=iSub .i64 (lenI y1071.1.1) 1
 bif inB x1072 (List.length y1071.1.1) then
  bif (sEq (List.getD y1071.1.1 x1072.toNat ([]:List UInt8)) ([])) then
   let x1075:=iSub .i64 (lenI y1071.1.1) 1
   bif inS 0 x1075 (List.length y1071.1.1) then
    bif (iLt 10000 (lenI a1)) then some ((([]:List UInt8),(2:Int),()),()) else
    bif (iLt 120 ((x1075.toNat:Nat):Int)) then some ((([]:List UInt8),(2:Int),()),()) else
    (qi0 a0).bind fun y1078 =>
    run (qen x1075 y1071) (([]:List UInt8),(0:Int),((y1078.1.1.1,(y1078.1.1.2.1.1,y1078.1.1.2.1.2.1,y1078.1.1.2.1.2.2.1,y1078.1.1.2.1.2.2.2),y1078.1.1.2.2):Dq1),())
   else none
  else
  bif (iLt 10000 (lenI a1)) then some ((([]:List UInt8),(2:Int),()),()) else
  bif (iLt 120 (lenI y1071.1.1)) then some ((([]:List UInt8),(2:Int),()),()) else
  (qi0 a0).bind fun y1111 =>
  run (qdq y1071) (([]:List UInt8),(0:Int),((y1111.1.1.1,(y1111.1.1.2.1.1,y1111.1.1.2.1.2.1,y1111.1.1.2.1.2.2.1,y1111.1.1.2.1.2.2.2),y1111.1.1.2.2):Dq1),())
 else none
def qqn:Entry:=⟨⟨[.v Uq2,.v (.str)],[.v (.val (.str)),.v (.val (.int .i64))],false⟩,fun x=>qht x.1 x.2.1⟩
theorem qy0:Sound Tryz.prog G 37 qqn:=qab (envS (l:=[(78,qwb),(79,qd8),(80,qrz),(81,qrv),(82,qmg),(83,qqs),(84,qru)]) ⟨(qafh),(qfy),(qaah),(qaad),(quw),(qy7),(qaac),trivial⟩) [(1000008,.frz [2]),(11,.vary [(8,.sc (.str)),(9,.sc (.int .i64)),(7,.box (.pair (.ro Uq2) (.pair (.pair (.rows Uq3) (.pair (.rows Uq3) (.pair (.rows Uq6) (.val (.unit))))) (.val (.unit)))))])] Tryz.func37 (by kernel_rfl) rfl fun _=>by kernel_rfl
def qhp (a0:Dq8) (a1:List UInt8):Option Dq7 :=
 bif (iLt 1048576 (lenI a1)) then some ((true,()),()) else
 (qm1 a0 (1048576:Int)).bind fun y2 =>
 bif (iLt y2.1.1 0) then some ((true,()),()) else
 (qhq a0).bind fun y4 =>
 (qht ((y4.1.1.1,y4.1.1.2.1,y4.1.1.2.2.1,y4.1.1.2.2.2):Dq8) a1).bind fun y5 =>
 (qhq a0).bind fun y6 =>
 (qh9 ((y6.1.1.1,y6.1.1.2.1,y6.1.1.2.2.1,y6.1.1.2.2.2):Dq8) a1).bind fun y7 =>
 bif (! (sEq y7.1.1 y5.1.1)) then some ((false,()),()) else
 bif (! (iEq y7.1.2.1 y5.1.2.1)) then some ((false,()),()) else
 (qhq a0).bind fun y10 =>
 (qmz ((y6.1.1.1,y6.1.1.2.1,y6.1.1.2.2.1,y6.1.1.2.2.2):Dq8) ((y10.1.1.1,y10.1.1.2.1,y10.1.1.2.2.1,y10.1.1.2.2.2):Dq8)).bind fun y11 =>
 bif (! y11.1.1) then some ((false,()),()) else some ((true,()),())
def qjy:Entry:=⟨⟨[.v Uq2,.v (.str)],[.v (.val (.bool))],false⟩,fun x=>qhp x.1 x.2.1⟩
theorem qrk (mx:GMax 4 G) (tb:GTab Tryz.prog G) (sy:GErr 1 G) (ra:GErr 2 G) (db:GDeb Tryz.prog G):Sound Tryz.prog G 8 qjy:=qab (envS (l:=[(23,qsq),(26,qsr),(29,qso),(36,qn3),(37,qqn)]) ⟨(qabp),(qabr),(qabl),(qwj mx tb sy ra db),(qy0),trivial⟩) [] Tryz.func8 (by kernel_rfl) rfl fun _=>by kernel_rfl
end
end Go.Proofs.YtjhdoneobdbeaaaGreatDoor
