import Derived.Test.YtjhdoneobdbeaaaGreatDoorF2
/- Functions on typed data: what the evaluation of each Go function is, and that it is sound. -/
set_option linter.unusedVariables false
namespace Go.Proofs.YtjhdoneobdbeaaaGreatDoor
open Go Go.Tm
noncomputable section
set_option maxRecDepth 100000
variable {G : List (Nat × Obj)}
def qdj (rec_:Int→Option Dq10) (a0:Int):Option Dq10 :=
 bif (iLe 10 a0) then
  (rec_ (iQuo .i64 a0 10)).bind fun y1197 =>
  let x1201:=ofBytes ([(iWrap .u8 (iAdd .i64 48 (iRem .i64 a0 10)))])
  bif strRoom y1197.1.1 x1201 then
   some (((strCat y1197.1.1 x1201),()),())
  else none
 else
 some (((ofBytes ([(iWrap .u8 (iAdd .i64 48 a0))])),()),())
def qb8:Nat→Int→Option Dq10
 | 0=>fun _=>none
 | k+1=>qdj (qb8 k)
def qch:Int→Option Dq10:=qb8 64
def spec_Decimal_sg:Sig:=⟨[.v (.int .i64)],[.v (.val (.str))],false⟩
def qjf:Entry:=⟨spec_Decimal_sg,fun x=>qch x.1⟩
theorem qaca (rec_:Int→Option Dq10) {G:List (Nat×Obj)} (x:spec_Decimal_sg.dom):body (env G [(73,⟨spec_Decimal_sg,fun x=>rec_ x.1⟩)]) [] Tryz.f73 spec_Decimal_sg x=qdj rec_ x.1:=by kernel_rfl
theorem qnb:Sound Tryz.prog G 73 qjf:=by
 have h : ∀ k,Sound Tryz.prog G 73 ⟨spec_Decimal_sg,fun x=>qb8 k x.1⟩:=by
  intro k
  induction k with
  | zero=>exact ⟨rfl,fun _ _ _ _ _ _ _ _ _ _ _ _ h=>by cases h⟩
  | succ k ih=>exact qwa (envS (l:=[(73,⟨spec_Decimal_sg,fun x=>qb8 k x.1⟩)]) (⟨ih,trivial⟩)) Tryz.func73 (by kernel_rfl) rfl (fun x y h=>(qaca (qb8 k) (G:=G) x).trans h)
 exact h 64
def qbf (a0:List UInt8) (s1211:Dq19):Option (Dq19⊕Dq14) :=
 bif (iLt s1211.2.1 (lenI a0)) then
  bif inB s1211.2.1 (List.length a0) then
   bif (iLt (strAt a0 s1211.2.1) 48) then
    Option.map Sum.inr (some (((0:Int),false,()),()))
   else
   bif inB s1211.2.1 (List.length a0) then
    bif (iLt 57 (strAt a0 s1211.2.1)) then
     Option.map Sum.inr (some (((0:Int),false,()),()))
    else
    bif inB s1211.2.1 (List.length a0) then
     some (Sum.inl ((iAdd .i64 (iMul .i64 s1211.1 10) (iWrap .i64 (iSub .u8 (strAt a0 s1211.2.1) 48))),(iAdd .i64 s1211.2.1 1),()))
    else none
   else none
  else none
 else
 Option.map Sum.inr (some ((s1211.1,true,()),()))
def qn8 (a0:List UInt8) (s1223:Dq19):Option (Dq19⊕Dq14) :=
 bif (iLt s1223.2.1 (lenI a0)) then
  bif inB s1223.2.1 (List.length a0) then
   bif (iLt (strAt a0 s1223.2.1) 48) then
    Option.map Sum.inr (some (((0:Int),false,()),()))
   else
   bif inB s1223.2.1 (List.length a0) then
    bif (iLt 57 (strAt a0 s1223.2.1)) then
     Option.map Sum.inr (some (((0:Int),false,()),()))
    else
    bif inB s1223.2.1 (List.length a0) then
     some (Sum.inl ((iAdd .i64 (iMul .i64 s1223.1 10) (iWrap .i64 (iSub .u8 (strAt a0 s1223.2.1) 48))),(iAdd .i64 s1223.2.1 1),()))
    else none
   else none
  else none
 else
 Option.map Sum.inr (some ((s1223.1,true,()),()))
def qbd (a0:List UInt8):Option Dq14 :=
 bif (iLt (lenI a0) 1) then some (((0:Int),false,()),()) else
 bif (iLt 9 (lenI a0)) then some (((0:Int),false,()),()) else
 bif inB 0 (List.length a0) then
  bif (iEq (strAt a0 0) 48) then
   bif (iLt 1 (lenI a0)) then some (((0:Int),false,()),()) else run (qbf a0) ((0:Int),(0:Int),())
  else run (qn8 a0) ((0:Int),(0:Int),())
 else none
def qe6:Entry:=⟨⟨[.v (.str)],[.v (.val (.int .i64)),.v (.val (.bool))],false⟩,fun x=>qbd x.1⟩
theorem qhe:Sound Tryz.prog G 120 qe6:=qab (envS (l:=[]) trivial) [(5,.vary [(4,.sc (.int .i64)),(5,.sc (.int .i64))])] Tryz.func120 (by kernel_rfl) rfl fun _=>by kernel_rfl
def qc5 (a0:List UInt8) (a1:Int) (s1235:((List (List UInt8))×Int×Int×Unit)):Option (((List (List UInt8))×Int×Int×Unit)⊕Dq13) :=
 bif (iLt s1235.2.2.1 (lenI a0)) then
  bif inB s1235.2.2.1 (List.length a0) then
   bif (iEq (strAt a0 s1235.2.2.1) a1) then
    bif inS s1235.2.1 s1235.2.2.1 (List.length a0) then
     bif room (List.length s1235.1+1) 16 then
      some (Sum.inl ((s1235.1++([(subL a0 s1235.2.1 s1235.2.2.1)]:(List (List UInt8)))),(iAdd .i64 s1235.2.2.1 1),(iAdd .i64 s1235.2.2.1 1),()))
     else none
    else none
   else
   some (Sum.inl (s1235.1,s1235.2.1,(iAdd .i64 s1235.2.2.1 1),()))
  else none
 else
 Option.map Sum.inr (
  bif inS s1235.2.1 (lenI a0) (List.length a0) then
   bif room (List.length s1235.1+1) 16 then
    some (((s1235.1++([(dropL a0 s1235.2.1)]:(List (List UInt8)))),()),())
   else none
  else none)
def qbr (a0:List UInt8) (a1:Int):Option Dq13 :=
 run (qc5 a0 a1) (([]:(List (List UInt8))),(0:Int),(0:Int),())
def qd8:Entry:=⟨⟨[.v (.str),.v (.int .u8)],[.v (.rows (.str))],false⟩,fun x=>qbr x.1 x.2.1⟩
theorem qfy:Sound Tryz.prog G 79 qd8:=qab (envS (l:=[]) trivial) [(4,.vary [(5,.rows (.str)),(6,.sc (.int .i64)),(7,.sc (.int .i64))])] Tryz.func79 (by kernel_rfl) rfl fun _=>by kernel_rfl
def qb0 (a0:Dq1) (a1:List UInt8):Option (Dq17×(Dq1×Unit)) :=
 bif (sEq a1 ([97,103,114,101,101,100])) then
  (qgx ((a0.1,(a0.2.1.1,a0.2.1.2.1,a0.2.1.2.2.1,a0.2.1.2.2.2),a0.2.2):Dq1)).bind fun y1143 =>
  bif y1143.1.1 then
   some ((([121,101,115]:List UInt8),()),(((y1143.2.1.1,(y1143.2.1.2.1.1,y1143.2.1.2.1.2.1,y1143.2.1.2.1.2.2.1,y1143.2.1.2.1.2.2.2),y1143.2.1.2.2):Dq1),()))
  else
  some ((([110,111]:List UInt8),()),(((y1143.2.1.1,(y1143.2.1.2.1.1,y1143.2.1.2.1.2.1,y1143.2.1.2.1.2.2.1,y1143.2.1.2.1.2.2.2),y1143.2.1.2.2):Dq1),()))
 else
 (qbr a1 (32:Int)).bind fun y1144 =>
 bif (! (iEq (lenI y1144.1.1) 2)) then
  some ((([119,104,97,116]:List UInt8),()),(((a0.1,(a0.2.1.1,a0.2.1.2.1,a0.2.1.2.2.1,a0.2.1.2.2.2),a0.2.2):Dq1),()))
 else
 bif inB 0 (List.length y1144.1.1) then
  bif (! (sEq (List.getD y1144.1.1 0 ([]:List UInt8)) ([109,97,114,107,115]))) then
   some ((([119,104,97,116]:List UInt8),()),(((a0.1,(a0.2.1.1,a0.2.1.2.1,a0.2.1.2.2.1,a0.2.1.2.2.2),a0.2.2):Dq1),()))
  else
  bif inB 1 (List.length y1144.1.1) then
   (qbd (List.getD y1144.1.1 1 ([]:List UInt8))).bind fun y1149 =>
   bif (! y1149.1.2.1) then
    some ((([119,104,97,116]:List UInt8),()),(((a0.1,(a0.2.1.1,a0.2.1.2.1,a0.2.1.2.2.1,a0.2.1.2.2.2),a0.2.2):Dq1),()))
   else
   bif (iLe (lenI a0.2.1.1) y1149.1.1) then
    some ((([119,104,97,116]:List UInt8),()),(((a0.1,(a0.2.1.1,a0.2.1.2.1,a0.2.1.2.2.1,a0.2.1.2.2.2),a0.2.2):Dq1),()))
   else
   bif inB y1149.1.1 (List.length a0.2.1.1) then
    let x1152:=List.getD a0.2.1.1 y1149.1.1.toNat Lq3
    (qch (lenI x1152.1.2.1)).bind fun y1153 =>
    bif strRoom y1153.1.1 ([32]) then
     let x1154:=strCat y1153.1.1 ([32])
     (qch x1152.2.1).bind fun y1155 =>
     bif strRoom x1154 y1155.1.1 then
      some (((strCat x1154 y1155.1.1),()),(((a0.1,(a0.2.1.1,a0.2.1.2.1,a0.2.1.2.2.1,a0.2.1.2.2.2),a0.2.2):Dq1),()))
     else none
    else none
   else none
  else none
 else none
def qmg:Entry:=⟨⟨[.io (.pair (.ro Uq2) (.pair (.pair (.rows Uq3) (.pair (.rows Uq3) (.pair (.rows Uq6) (.val (.unit))))) (.val (.unit)))),.v (.str)],[.v (.val (.str))],true⟩,fun x=>qb0 x.1 x.2.1⟩
theorem quw:Sound Tryz.prog G 82 qmg:=qab (envS (l:=[(63,qmf),(73,qjf),(79,qd8),(120,qe6)]) ⟨(quv),(qnb),(qfy),(qhe),trivial⟩) [] Tryz.func82 (by kernel_rfl) rfl fun _=>by kernel_rfl
def qgu (a0:(Vec 3 Int)) (a1:(Vec 3 Int)):Option Dq12 :=
 bif (iLt (Vec.getD 3 a0 0 (0:Int)) (Vec.getD 3 a1 0 (0:Int))) then some ((Lq6,()),()) else
 bif (iLt (Vec.getD 3 a1 0 (0:Int)) (Vec.getD 3 a0 0 (0:Int))) then some (((1:Int),()),()) else
 bif (iLt (Vec.getD 3 a0 1 (0:Int)) (Vec.getD 3 a1 1 (0:Int))) then some ((Lq6,()),()) else
 bif (iLt (Vec.getD 3 a1 1 (0:Int)) (Vec.getD 3 a0 1 (0:Int))) then some (((1:Int),()),()) else
 bif (iLt (Vec.getD 3 a0 2 (0:Int)) (Vec.getD 3 a1 2 (0:Int))) then some ((Lq6,()),()) else
 bif (iLt (Vec.getD 3 a1 2 (0:Int)) (Vec.getD 3 a0 2 (0:Int))) then some (((1:Int),()),()) else some (((0:Int),()),())
def qj4:Entry:=⟨⟨[.v (.arr 3 (.int .i32)),.v (.arr 3 (.int .i32))],[.v (.val (.int .i64))],false⟩,fun x=>qgu x.1 x.2.1⟩
theorem qpr:Sound Tryz.prog G 191 qj4:=qab (envS (l:=[]) trivial) [(2,.unroll 4)] Tryz.func191 (by kernel_rfl) rfl fun _=>by kernel_rfl
def qb3 (a0:Int) (a1:Int) (a2:Int):Option Dq7 :=
 bif (iLe a1 a0) then
  some (((iLe a0 a2),()),())
 else some ((false,()),())
def qdy:Entry:=⟨⟨[.v (.int .i64),.v (.int .i64),.v (.int .i64)],[.v (.val (.bool))],false⟩,fun x=>qb3 x.1 x.2.1 x.2.2.1⟩
theorem qe1:Sound Tryz.prog G 112 qdy:=qab (envS (l:=[]) trivial) [] Tryz.func112 (by kernel_rfl) rfl fun _=>by kernel_rfl
def qb9 (a0:Nat):Option Dq7 :=
 some (((fEq .f32 (fSub .f32 a0 a0) 0),()),())
def qdw:Entry:=⟨⟨[.v (.flt .f32)],[.v (.val (.bool))],false⟩,fun x=>qb9 x.1⟩
theorem qe5:Sound Tryz.prog G 153 qdw:=qab (envS (l:=[]) trivial) [] Tryz.func153 (by kernel_rfl) rfl fun _=>by kernel_rfl
def qlc (a0:(Vec 3 Nat)):Option Dq7 :=
 (qb9 (Vec.getD 3 a0 0 (0:Nat))).bind fun y1344 =>
 bif y1344.1.1 then
  (qb9 (Vec.getD 3 a0 1 (0:Nat))).bind fun y1346 =>
  bif y1346.1.1 then
   (qb9 (Vec.getD 3 a0 2 (0:Nat))).bind fun y1348 =>
   some ((y1348.1.1,()),())
  else some ((false,()),())
 else some ((false,()),())
def qos:Entry:=⟨⟨[.v (.arr 3 (.flt .f32))],[.v (.val (.bool))],false⟩,fun x=>qlc x.1⟩
theorem qur:Sound Tryz.prog G 186 qos:=qab (envS (l:=[(153,qdw)]) ⟨(qe5),trivial⟩) [] Tryz.func186 (by kernel_rfl) rfl fun _=>by kernel_rfl
def qhu (a0:Int):Option Dq7 :=
 (qb3 a0 (0:Int) (1000000000:Int)).bind fun y1349 =>
 some ((y1349.1.1,()),())
def qjj:Entry:=⟨⟨[.v (.int .i64)],[.v (.val (.bool))],false⟩,fun x=>qhu x.1⟩
theorem qnh:Sound Tryz.prog G 119 qjj:=qab (envS (l:=[(112,qdy)]) ⟨(qe1),trivial⟩) [] Tryz.func119 (by kernel_rfl) rfl fun _=>by kernel_rfl
def qnl (a0:Dq2):Option Dq7 :=
 (qlc a0.2.1).bind fun y1334 =>
 bif y1334.1.1 then
  (qb9 a0.2.2.1).bind fun y1335 =>
  bif y1335.1.1 then
   bif (fLt .f32 0 a0.2.2.1) then
    (qb3 a0.2.2.2.1 (1:Int) (1000000:Int)).bind fun y1337 =>
    bif y1337.1.1 then
     (qhu a0.2.2.2.2.1).bind fun y1338 =>
     some ((y1338.1.1,()),())
    else some ((false,()),())
   else some ((false,()),())
  else some ((false,()),())
 else some ((false,()),())
def qtd:Entry:=⟨⟨[.ro Uq1],[.v (.val (.bool))],false⟩,fun x=>qnl x.1⟩
theorem qacn:Sound Tryz.prog G 190 qtd:=qab (envS (l:=[(112,qdy),(119,qjj),(153,qdw),(186,qos)]) ⟨(qe1),(qnh),(qe5),(qur),trivial⟩) [] Tryz.func190 (by kernel_rfl) rfl fun _=>by kernel_rfl
def qhw (a0:Nat):Option Dq7 :=
 (qb9 a0).bind fun y1350 =>
 bif y1350.1.1 then
  some (((fLt .f32 0 a0),()),())
 else some ((false,()),())
def qjm:Entry:=⟨⟨[.v (.flt .f32)],[.v (.val (.bool))],false⟩,fun x=>qhw x.1⟩
theorem qnq:Sound Tryz.prog G 116 qjm:=qab (envS (l:=[(153,qdw)]) ⟨(qe5),trivial⟩) [] Tryz.func116 (by kernel_rfl) rfl fun _=>by kernel_rfl
def qlj (a0:Dq3) (s1304:(Int×Unit)):Option ((Int×Unit)⊕Dq7) :=
 bif (iLt s1304.1 (lenI a0.2.1)) then
  bif inB s1304.1 (List.length a0.2.1) then
   (qnl (List.getD a0.2.1 s1304.1.toNat Lq1)).bind fun y1306 =>
   bif (! y1306.1.1) then
    Option.map Sum.inr (some ((false,()),()))
   else
   bif (iLt 0 s1304.1) then
    let x1309:=iSub .i64 s1304.1 1
    bif inB x1309 (List.length a0.2.1) then
     bif inB s1304.1 (List.length a0.2.1) then
      (qgu ((List.getD a0.2.1 x1309.toNat Lq1).1) ((List.getD a0.2.1 s1304.1.toNat Lq1).1)).bind fun y1312 =>
      bif (iLe 0 y1312.1.1) then
       Option.map Sum.inr (some ((false,()),()))
      else
      some (Sum.inl ((iAdd .i64 s1304.1 1),()))
     else none
    else none
   else
   some (Sum.inl ((iAdd .i64 s1304.1 1),()))
  else none
 else
 Option.map Sum.inr (some ((true,()),()))
def qfa (a0:Dq3):Option Dq7 :=
 (qhw a0.1).bind fun y1301 =>
 bif (! y1301.1.1) then some ((false,()),()) else
 bif (iLt 200 (lenI a0.2.1)) then some ((false,()),()) else run (qlj a0) ((0:Int),())
def qiy:Entry:=⟨⟨[.ro Uq5],[.v (.val (.bool))],false⟩,fun x=>qfa x.1⟩
theorem qlk:Sound Tryz.prog G 157 qiy:=qab (envS (l:=[(116,qjm),(190,qtd),(191,qj4)]) ⟨(qnq),(qacn),(qpr),trivial⟩) [(4,.vary [(3,.sc (.int .i64))])] Tryz.func157 (by kernel_rfl) rfl fun _=>by kernel_rfl
def qk9 (a0:Int) (a1:Int):Option Dq12 :=
 bif (iLt a1 a0) then some ((a0,()),()) else some ((a1,()),())
def quk:Entry:=⟨⟨[.v (.int .i64),.v (.int .i64)],[.v (.val (.int .i64))],false⟩,fun x=>qk9 x.1 x.2.1⟩
theorem qade:Sound Tryz.prog G 88 quk:=qab (envS (l:=[]) trivial) [] Tryz.func88 (by kernel_rfl) rfl fun _=>by kernel_rfl
def qla (a0:Int) (a1:Int):Option Dq12 :=
 bif (iLt a0 a1) then some ((a0,()),()) else some ((a1,()),())
def qul:Entry:=⟨⟨[.v (.int .i64),.v (.int .i64)],[.v (.val (.int .i64))],false⟩,fun x=>qla x.1 x.2.1⟩
theorem qadg:Sound Tryz.prog G 227 qul:=qab (envS (l:=[]) trivial) [] Tryz.func227 (by kernel_rfl) rfl fun _=>by kernel_rfl
def qdr (a0:Nat) (a1:(Vec 3 Nat)):Option Dq23 :=
 (qhw a0).bind fun y1414 =>
 bif (! y1414.1.1) then some ((Lq2,(2:Int),()),()) else
 (qlc a1).bind fun y1416 =>
 bif (! y1416.1.1) then some ((Lq2,(2:Int),()),()) else
 (fConv .f32 .f64 (fDiv .f32 (Vec.getD 3 a1 0 (0:Nat)) a0)).bind fun y1420 =>
 (qgn y1420).bind fun y1421 =>
 bif (fLe .f64 13920209183539462144 y1421.1.1) then
  bif (! (fLe .f64 y1421.1.1 4696837146684686336)) then some ((Lq2,(3:Int),()),()) else
  (fToInt .f64 y1421.1.1 .i32).bind fun n1425 =>
  (fConv .f32 .f64 (fDiv .f32 (Vec.getD 3 a1 1 (0:Nat)) a0)).bind fun y1428 =>
  (qgn y1428).bind fun y1429 =>
  bif (fLe .f64 13920209183539462144 y1429.1.1) then
   bif (! (fLe .f64 y1429.1.1 4696837146684686336)) then some ((Lq2,(3:Int),()),()) else
   (fToInt .f64 y1429.1.1 .i32).bind fun n1433 =>
   (fConv .f32 .f64 (fDiv .f32 (Vec.getD 3 a1 2 (0:Nat)) a0)).bind fun y1436 =>
   (qgn y1436).bind fun y1437 =>
   bif (fLe .f64 13920209183539462144 y1437.1.1) then
    bif (! (fLe .f64 y1437.1.1 4696837146684686336)) then some ((Lq2,(3:Int),()),()) else
    (fToInt .f64 y1437.1.1 .i32).bind fun n1441 =>
    some ((((n1425,n1433,n1441,()):(Vec 3 Int)),(0:Int),()),())
   else some ((Lq2,(3:Int),()),())
  else some ((Lq2,(3:Int),()),())
 else some ((Lq2,(3:Int),()),())
def qjk:Entry:=⟨⟨[.v (.flt .f32),.v (.arr 3 (.flt .f32))],[.v (.val (.arr 3 (.int .i32))),.v (.val (.int .i64))],false⟩,fun x=>qdr x.1 x.2.1⟩
theorem qnj:Sound Tryz.prog G 154 qjk:=qab (envS (l:=[(99,qpz),(116,qjm),(186,qos)]) ⟨(qv6),(qnq),(qur),trivial⟩) [(5,.unroll 4)] Tryz.func154 (by kernel_rfl) rfl fun _=>by kernel_rfl
def qtx (a0:(Vec 3 Nat)) (a1:(Vec 3 Nat)):Option Dq18 :=
 some (((fAdd .f32 (fAdd .f32 (fMul .f32 (Vec.getD 3 a0 0 (0:Nat)) (Vec.getD 3 a1 0 (0:Nat))) (fMul .f32 (Vec.getD 3 a0 1 (0:Nat)) (Vec.getD 3 a1 1 (0:Nat)))) (fMul .f32 (Vec.getD 3 a0 2 (0:Nat)) (Vec.getD 3 a1 2 (0:Nat)))),()),())
def qum:Entry:=⟨⟨[.v (.arr 3 (.flt .f32)),.v (.arr 3 (.flt .f32))],[.v (.val (.flt .f32))],false⟩,fun x=>qtx x.1 x.2.1⟩
theorem qadh:Sound Tryz.prog G 268 qum:=qab (envS (l:=[]) trivial) [] Tryz.func268 (by kernel_rfl) rfl fun _=>by kernel_rfl
def qng (a0:Nat):Option Dq18 :=
 (fConv .f32 .f64 a0).bind fun y1483 =>
 (qsw y1483).bind fun y1484 =>
 (fConv .f64 .f32 y1484.1.1).bind fun y1485 =>
 some ((y1485,()),())
def qs9:Entry:=⟨⟨[.v (.flt .f32)],[.v (.val (.flt .f32))],false⟩,fun x=>qng x.1⟩
theorem qacj:Sound Tryz.prog G 267 qs9:=qab (envS (l:=[(274,qro)]) ⟨(qxo),trivial⟩) [] Tryz.func267 (by kernel_rfl) rfl fun _=>by kernel_rfl
def qj3 (a0:Dq2) (a1:(Vec 3 Nat)):Option Dq18 :=
 let x1463:=fSub .f32 (Vec.getD 3 a0.2.1 0 (0:Nat)) (Vec.getD 3 a1 0 (0:Nat))
 let x1466:=fSub .f32 (Vec.getD 3 a0.2.1 1 (0:Nat)) (Vec.getD 3 a1 1 (0:Nat))
 let x1469:=fSub .f32 (Vec.getD 3 a0.2.1 2 (0:Nat)) (Vec.getD 3 a1 2 (0:Nat))
 (qtx ((x1463,x1466,x1469,()):(Vec 3 Nat)) ((x1463,x1466,x1469,()):(Vec 3 Nat))).bind fun y1470 =>
 (qng y1470.1.1).bind fun y1471 =>
 some ((y1471.1.1,()),())
def qta:Entry:=⟨⟨[.ro Uq1,.v (.arr 3 (.flt .f32))],[.v (.val (.flt .f32))],false⟩,fun x=>qj3 x.1 x.2.1⟩
theorem qack:Sound Tryz.prog G 254 qta:=qab (envS (l:=[(267,qs9),(268,qum)]) ⟨(qacj),(qadh),trivial⟩) [] Tryz.func254 (by kernel_rfl) rfl fun _=>by kernel_rfl
def qhv (a0:(Vec 3 Int)) (a1:(Vec 3 Int)):Option Dq7 :=
 let x1490:=iSub .i64 (iWrap .i64 (Vec.getD 3 a0 0 (0:Int))) (iWrap .i64 (Vec.getD 3 a1 0 (0:Int)))
 bif (iLt 1 x1490) then some ((false,()),()) else
 bif (iLt x1490 (-1:Int)) then some ((false,()),()) else
 let x1497:=iSub .i64 (iWrap .i64 (Vec.getD 3 a0 1 (0:Int))) (iWrap .i64 (Vec.getD 3 a1 1 (0:Int)))
 bif (iLt 1 x1497) then some ((false,()),()) else
 bif (iLt x1497 (-1:Int)) then some ((false,()),()) else
 let x1504:=iSub .i64 (iWrap .i64 (Vec.getD 3 a0 2 (0:Int))) (iWrap .i64 (Vec.getD 3 a1 2 (0:Int)))
 bif (iLt 1 x1504) then some ((false,()),()) else
 bif (iLt x1504 (-1:Int)) then some ((false,()),()) else some ((true,()),())
def qqo:Entry:=⟨⟨[.v (.arr 3 (.int .i32)),.v (.arr 3 (.int .i32))],[.v (.val (.bool))],false⟩,fun x=>qhv x.1 x.2.1⟩
theorem qy2:Sound Tryz.prog G 253 qqo:=qab (envS (l:=[]) trivial) [(2,.unroll 4)] Tryz.func253 (by kernel_rfl) rfl fun _=>by kernel_rfl
def qgv (a0:Dq3) (y1442:Dq23) (a1:(Vec 3 Nat)) (a2:Nat) (s1447:(Int×Nat×Int×Unit)):Option ((Int×Nat×Int×Unit)⊕(Dq19×Unit)) :=
 bif (iLt s1447.2.2.1 (lenI a0.2.1)) then
  bif inB s1447.2.2.1 (List.length a0.2.1) then
   (qhv ((List.getD a0.2.1 s1447.2.2.1.toNat Lq1).1) y1442.1.1).bind fun y1450 =>
   bif (! y1450.1.1) then
    some (Sum.inl (s1447.1,s1447.2.1,(iAdd .i64 s1447.2.2.1 1),()))
   else
   bif inB s1447.2.2.1 (List.length a0.2.1) then
    (qj3 (List.getD a0.2.1 s1447.2.2.1.toNat Lq1) a1).bind fun y1453 =>
    bif (fLe .f32 y1453.1.1 a2) then
     bif (iLt s1447.1 0) then
      some (Sum.inl (s1447.2.2.1,y1453.1.1,(iAdd .i64 s1447.2.2.1 1),()))
     else
     bif (fLt .f32 y1453.1.1 s1447.2.1) then
      some (Sum.inl (s1447.2.2.1,y1453.1.1,(iAdd .i64 s1447.2.2.1 1),()))
     else
     some (Sum.inl (s1447.1,s1447.2.1,(iAdd .i64 s1447.2.2.1 1),()))
    else
    some (Sum.inl (s1447.1,s1447.2.1,(iAdd .i64 s1447.2.2.1 1),()))
   else none
  else none
 else
 Option.map Sum.inr (some ((s1447.1,(0:Int),()),()))
def qjl (a0:Dq3) (a1:(Vec 3 Nat)) (a2:Nat):Option (Dq19×Unit) :=
 (qdr a0.1 a1).bind fun y1442 =>
 bif (iEq y1442.1.2.1 2) then some ((Lq6,(2:Int),()),()) else
 bif (! (fLe .f32 0 a2)) then some ((Lq6,(2:Int),()),()) else
 bif (! (iEq y1442.1.2.1 0)) then some ((Lq6,y1442.1.2.1,()),()) else run (qgv a0 y1442 a1 a2) (Lq6,(0:Nat),(0:Int),())
def qps:Entry:=⟨⟨[.ro Uq5,.v (.arr 3 (.flt .f32)),.v (.flt .f32)],[.v (.val (.int .i64)),.v (.val (.int .i64))],false⟩,fun x=>qjl x.1 x.2.1 x.2.2.1⟩
theorem qx6:Sound Tryz.prog G 226 qps:=qab (envS (l:=[(154,qjk),(253,qqo),(254,qta)]) ⟨(qnj),(qy2),(qack),trivial⟩) [(9,.vary [(10,.sc (.int .i64)),(11,.sc (.flt .f32)),(12,.sc (.int .i64))])] Tryz.func226 (by kernel_rfl) rfl fun _=>by kernel_rfl
def qfl (a0:Dq2) (a1:Dq2):Option Dq7 :=
 bif (! (iEq a0.2.2.2.2.1 a1.2.2.2.2.1)) then
  some (((iLt a1.2.2.2.2.1 a0.2.2.2.2.1),()),())
 else
 bif (! (fEq .f32 a0.2.2.1 a1.2.2.1)) then
  some (((fLt .f32 a1.2.2.1 a0.2.2.1),()),())
 else
 bif (! (iEq a0.2.2.2.1 a1.2.2.2.1)) then
  some (((iLt a1.2.2.2.1 a0.2.2.2.1),()),())
 else
 bif (! (fEq .f32 (Vec.getD 3 a0.2.1 0 (0:Nat)) (Vec.getD 3 a1.2.1 0 (0:Nat)))) then
  some (((fLt .f32 (Vec.getD 3 a1.2.1 0 (0:Nat)) (Vec.getD 3 a0.2.1 0 (0:Nat))),()),())
 else
 (qbl (Vec.getD 3 a0.2.1 0 (0:Nat)) (Vec.getD 3 a1.2.1 0 (0:Nat))).bind fun y1534 =>
 bif (! y1534.1.1) then
  (qbl (Vec.getD 3 a0.2.1 0 (0:Nat)) (0:Nat)).bind fun y1537 =>
  some ((y1537.1.1,()),())
 else
 bif (! (fEq .f32 (Vec.getD 3 a0.2.1 1 (0:Nat)) (Vec.getD 3 a1.2.1 1 (0:Nat)))) then
  some (((fLt .f32 (Vec.getD 3 a1.2.1 1 (0:Nat)) (Vec.getD 3 a0.2.1 1 (0:Nat))),()),())
 else
 (qbl (Vec.getD 3 a0.2.1 1 (0:Nat)) (Vec.getD 3 a1.2.1 1 (0:Nat))).bind fun y1546 =>
 bif (! y1546.1.1) then
  (qbl (Vec.getD 3 a0.2.1 1 (0:Nat)) (0:Nat)).bind fun y1549 =>
  some ((y1549.1.1,()),())
 else
 bif (! (fEq .f32 (Vec.getD 3 a0.2.1 2 (0:Nat)) (Vec.getD 3 a1.2.1 2 (0:Nat)))) then
  some (((fLt .f32 (Vec.getD 3 a1.2.1 2 (0:Nat)) (Vec.getD 3 a0.2.1 2 (0:Nat))),()),())
 else
 (qbl (Vec.getD 3 a0.2.1 2 (0:Nat)) (Vec.getD 3 a1.2.1 2 (0:Nat))).bind fun y1558 =>
 bif (! y1558.1.1) then
  (qbl (Vec.getD 3 a0.2.1 2 (0:Nat)) (0:Nat)).bind fun y1561 =>
  some ((y1561.1.1,()),())
 else some ((false,()),())
def qqp:Entry:=⟨⟨[.ro Uq1,.ro Uq1],[.v (.val (.bool))],false⟩,fun x=>qfl x.1 x.2.1⟩
theorem qy4:Sound Tryz.prog G 252 qqp:=qab (envS (l:=[(104,qgr)]) ⟨(qji),trivial⟩) [(8,.unroll 4)] Tryz.func252 (by kernel_rfl) rfl fun _=>by kernel_rfl
def qeq (a0:(List Dq2)) (a1:(Vec 3 Int)) (s1562:(Int×Unit)):Option ((Int×Unit)⊕Dq14) :=
 bif (iLt s1562.1 (lenI a0)) then
  bif inB s1562.1 (List.length a0) then
   (qgu ((List.getD a0 s1562.1.toNat Lq1).1) a1).bind fun y1565 =>
   bif (iLt y1565.1.1 0) then
    some (Sum.inl ((iAdd .i64 s1562.1 1),()))
   else
   Option.map Sum.inr (
    bif (iLt s1562.1 (lenI a0)) then
     bif inB s1562.1 (List.length a0) then
      let x1569:=(List.getD a0 s1562.1.toNat Lq1).1
      some ((s1562.1,(iEq (Vec.getD 3 x1569 0 (0:Int)) (Vec.getD 3 a1 0 (0:Int))&&(iEq (Vec.getD 3 x1569 1 (0:Int)) (Vec.getD 3 a1 1 (0:Int))&&(iEq (Vec.getD 3 x1569 2 (0:Int)) (Vec.getD 3 a1 2 (0:Int))&&true))),()),())
     else none
    else some ((s1562.1,false,()),()))
  else none
 else
 Option.map Sum.inr (
  bif (iLt s1562.1 (lenI a0)) then
   bif inB s1562.1 (List.length a0) then
    let x1572:=(List.getD a0 s1562.1.toNat Lq1).1
    some ((s1562.1,(iEq (Vec.getD 3 x1572 0 (0:Int)) (Vec.getD 3 a1 0 (0:Int))&&(iEq (Vec.getD 3 x1572 1 (0:Int)) (Vec.getD 3 a1 1 (0:Int))&&(iEq (Vec.getD 3 x1572 2 (0:Int)) (Vec.getD 3 a1 2 (0:Int))&&true))),()),())
   else none
  else some ((s1562.1,false,()),()))
def qnk (a0:(List Dq2)) (a1:(Vec 3 Int)):Option Dq14 :=
 run (qeq a0 a1) ((0:Int),())
def qtb:Entry:=⟨⟨[.v (.list Uq1),.v (.arr 3 (.int .i32))],[.v (.val (.int .i64)),.v (.val (.bool))],false⟩,fun x=>qnk x.1 x.2.1⟩
theorem qacl:Sound Tryz.prog G 251 qtb:=qab (envS (l:=[(191,qj4)]) ⟨(qpr),trivial⟩) [(2,.vary [(6,.sc (.int .i64))])] Tryz.func251 (by kernel_rfl) rfl fun _=>by kernel_rfl
def qdl (a0:(List Dq2)) (a1:Dq2):Option (((List Dq2)×Unit)×Unit) :=
 (qnk a0 a1.1).bind fun y1507 =>
 bif inS 0 y1507.1.1 (List.length a0) then
  let x1508:=takeL a0 y1507.1.1
  bif room (0+List.length x1508) 48 then
   let l1509:=([]:(List Dq2))++x1508
   bif y1507.1.2.1 then
    bif inB y1507.1.1 (List.length a0) then
     (qfl a1 (List.getD a0 y1507.1.1.toNat Lq1)).bind fun y1510 =>
     bif y1510.1.1 then
      bif room (List.length l1509+1) 48 then
       let l1511:=l1509++([a1]:(List Dq2))
       let x1512:=iAdd .i64 y1507.1.1 1
       bif inS x1512 (lenI a0) (List.length a0) then
        let x1513:=dropL a0 x1512
        bif room (List.length l1511+List.length x1513) 48 then
         some (((l1511++x1513),()),())
        else none
       else none
      else none
     else
     bif inS y1507.1.1 (lenI a0) (List.length a0) then
      let x1515:=dropL a0 y1507.1.1
      bif room (List.length l1509+List.length x1515) 48 then
       some (((l1509++x1515),()),())
      else none
     else none
    else none
   else
   bif room (List.length l1509+1) 48 then
    let l1517:=l1509++([a1]:(List Dq2))
    bif inS y1507.1.1 (lenI a0) (List.length a0) then
     let x1518:=dropL a0 y1507.1.1
     bif room (List.length l1517+List.length x1518) 48 then
      some (((l1517++x1518),()),())
     else none
    else none
   else none
  else none
 else none
def qot:Entry:=⟨⟨[.v (.list Uq1),.v Uq1],[.v (.rows Uq1)],false⟩,fun x=>qdl x.1 x.2.1⟩
theorem qus:Sound Tryz.prog G 224 qot:=qab (envS (l:=[(251,qtb),(252,qqp)]) ⟨(qacl),(qy4),trivial⟩) [] Tryz.func224 (by kernel_rfl) rfl fun _=>by kernel_rfl
def qci (a0:Nat) (a1:(List Dq2)):Option Dq20 :=
 bif (iLt 200 (lenI a1)) then some ((Lq4,(3:Int),()),()) else some ((((a0,a1,()):Dq3),(0:Int),()),())
def qns:Entry:=⟨⟨[.v (.flt .f32),.v (.list Uq1)],[.v (.val Uq5),.v (.val (.int .i64))],true⟩,fun x=>qci x.1 x.2.1⟩
theorem qti:Sound Tryz.prog G 225 qns:=qab (envS (l:=[]) trivial) [] Tryz.func225 (by kernel_rfl) rfl fun _=>by kernel_rfl
def qi5 (a0:Dq3) (a1:(Vec 3 Nat)) (a2:Nat) (a3:Int) (a4:Nat):Option ((Dq3×(Vec 3 Int)×Bool×Int×Unit)×(Dq3×Unit)) :=
 (qb9 a2).bind fun y1352 =>
 bif (! y1352.1.1) then some ((Lq4,Lq2,false,(2:Int),()),(a0,())) else
 bif (! (fLt .f32 0 a2)) then some ((Lq4,Lq2,false,(2:Int),()),(a0,())) else
 (qhu a3).bind fun y1356 =>
 bif (! y1356.1.1) then some ((Lq4,Lq2,false,(2:Int),()),(a0,())) else
 (qjl a0 a1 a4).bind fun y1358 =>
 bif (! (iEq y1358.1.2.1 0)) then some ((Lq4,Lq2,false,y1358.1.2.1,()),(a0,())) else
 bif room (0+List.length a0.2.1) 48 then
  bif (iLe 0 y1358.1.1) then
   bif inB y1358.1.1 (List.length a0.2.1) then
    let x1362:=List.getD a0.2.1 y1358.1.1.toNat Lq1
    bif inS 0 y1358.1.1 (List.length a0.2.1) then
     let x1363:=takeL a0.2.1 y1358.1.1
     bif room (0+List.length x1363) 48 then
      let l1364:=([]:(List Dq2))++x1363
      let x1365:=iAdd .i64 y1358.1.1 1
      bif inS x1365 (lenI a0.2.1) (List.length a0.2.1) then
       let x1366:=dropL a0.2.1 x1365
       bif room (List.length l1364+List.length x1366) 48 then
        let l1367:=l1364++x1366
        let x1368:=fAdd .f32 x1362.2.2.1 a2
        let x1374:=fDiv .f32 (fAdd .f32 (fMul .f32 x1362.2.2.1 (Vec.getD 3 x1362.2.1 0 (0:Nat))) (fMul .f32 a2 (Vec.getD 3 a1 0 (0:Nat)))) x1368
        let x1380:=fDiv .f32 (fAdd .f32 (fMul .f32 x1362.2.2.1 (Vec.getD 3 x1362.2.1 1 (0:Nat))) (fMul .f32 a2 (Vec.getD 3 a1 1 (0:Nat)))) x1368
        let x1386:=fDiv .f32 (fAdd .f32 (fMul .f32 x1362.2.2.1 (Vec.getD 3 x1362.2.1 2 (0:Nat))) (fMul .f32 a2 (Vec.getD 3 a1 2 (0:Nat)))) x1368
        (qb9 x1368).bind fun y1387 =>
        bif (! y1387.1.1) then
         (qla (iAdd .i64 x1362.2.2.2.1 1) (1000000:Int)).bind fun y1390 =>
         (qk9 x1362.2.2.2.2.1 a3).bind fun y1391 =>
         (qdr a0.1 (Vec.set 3 (Vec.set 3 (Vec.set 3 a1 0 x1374) 1 x1380) 2 x1386)).bind fun y1393 =>
         bif (! (iEq y1393.1.2.1 0)) then some ((Lq4,Lq2,false,(3:Int),()),(a0,())) else
         (qdl l1367 ((y1393.1.1,Vec.set 3 (Vec.set 3 (Vec.set 3 a1 0 x1374) 1 x1380) 2 x1386,x1362.2.2.1,y1390.1.1,y1391.1.1,()):Dq2)).bind fun y1395 =>
         (qci a0.1 y1395.1.1).bind fun y1396 =>
         some ((y1396.1.1,y1393.1.1,(iLe 0 y1358.1.1),y1396.1.2.1,()),(a0,()))
        else
        (qla (iAdd .i64 x1362.2.2.2.1 1) (1000000:Int)).bind fun y1399 =>
        (qk9 x1362.2.2.2.2.1 a3).bind fun y1400 =>
        (qdr a0.1 (Vec.set 3 (Vec.set 3 (Vec.set 3 a1 0 x1374) 1 x1380) 2 x1386)).bind fun y1402 =>
        bif (! (iEq y1402.1.2.1 0)) then some ((Lq4,Lq2,false,(3:Int),()),(a0,())) else
        (qdl l1367 ((y1402.1.1,Vec.set 3 (Vec.set 3 (Vec.set 3 a1 0 x1374) 1 x1380) 2 x1386,x1368,y1399.1.1,y1400.1.1,()):Dq2)).bind fun y1404 =>
        (qci a0.1 y1404.1.1).bind fun y1405 =>
        some ((y1405.1.1,y1402.1.1,(iLe 0 y1358.1.1),y1405.1.2.1,()),(a0,()))
       else none
      else none
     else none
    else none
   else none
  else
  (qdr a0.1 a1).bind fun y1407 =>
  bif (! (iEq y1407.1.2.1 0)) then some ((Lq4,Lq2,false,(3:Int),()),(a0,())) else
  (qdl (([]:(List Dq2))++a0.2.1) ((y1407.1.1,a1,a2,1,a3,()):Dq2)).bind fun y1409 =>
  (qci a0.1 y1409.1.1).bind fun y1410 =>
  some ((y1410.1.1,y1407.1.1,(iLe 0 y1358.1.1),y1410.1.2.1,()),(a0,()))
 else none
def qut:Entry:=⟨⟨[.io (.val Uq5),.v (.arr 3 (.flt .f32)),.v (.flt .f32),.v (.int .i64),.v (.flt .f32)],[.v (.val Uq5),.v (.val (.arr 3 (.int .i32))),.v (.val (.bool)),.v (.val (.int .i64))],true⟩,fun x=>qi5 x.1 x.2.1 x.2.2.1 x.2.2.2.1 x.2.2.2.2.1⟩
theorem qadk:Sound Tryz.prog G 189 qut:=qab (envS (l:=[(88,quk),(119,qjj),(153,qdw),(154,qjk),(224,qot),(225,qns),(226,qps),(227,qul)]) ⟨(qade),(qnh),(qe5),(qnj),(qus),(qti),(qx6),(qadg),trivial⟩) [(13,.unroll 4)] Tryz.func189 (by kernel_rfl) rfl fun _=>by kernel_rfl
def qio (a0:Dq3) (a1:(Vec 3 Nat)) (a2:Nat) (a3:Int) (a4:Nat):Option ((Dq3×(Vec 3 Int)×Int×Unit)×Unit) :=
 (qfa a0).bind fun y1297 =>
 bif (! y1297.1.1) then some ((Lq4,Lq2,(1:Int),()),()) else
 (qi5 a0 a1 a2 a3 a4).bind fun y1299 =>
 bif (! (iEq y1299.1.2.2.2.1 0)) then some ((Lq4,Lq2,y1299.1.2.2.2.1,()),()) else some ((y1299.1.1,y1299.1.2.1,(0:Int),()),())
def qn7:Entry:=⟨⟨[.v Uq5,.v (.arr 3 (.flt .f32)),.v (.flt .f32),.v (.int .i64),.v (.flt .f32)],[.v (.val Uq5),.v (.val (.arr 3 (.int .i32))),.v (.val (.int .i64))],true⟩,fun x=>qio x.1 x.2.1 x.2.2.1 x.2.2.2.1 x.2.2.2.2.1⟩
theorem qwp:Sound Tryz.prog G 156 qn7:=qab (envS (l:=[(157,qiy),(189,qut)]) ⟨(qlk),(qadk),trivial⟩) [] Tryz.func156 (by kernel_rfl) rfl fun _=>by kernel_rfl
def qgy (a0:Dq1) (a1:Int):Option Dq22 :=
 bif inB a1 (List.length a0.2.1.1) then
  bif inB a1 (List.length a0.1.2.2.1) then
   bif (iEq (((List.getD a0.2.1.1 a1.toNat Lq3).2).1) (lenI (List.getD a0.1.2.2.1 a1.toNat ([]:(List Dq4))))) then
    some (((4:Int),()),(((a0.1,(a0.2.1.1,a0.2.1.2.1,a0.2.1.2.2.1,a0.2.1.2.2.2),a0.2.2):Dq1),()))
   else
   bif inB a1 (List.length a0.1.2.2.1) then
    let x1287:=List.getD a0.1.2.2.1 a1.toNat ([]:(List Dq4))
    let x1288:=((List.getD a0.2.1.1 a1.toNat Lq3).2).1
    bif inB x1288 (List.length x1287) then
     let x1289:=List.getD x1287 x1288.toNat Lq7
     (qio ((List.getD a0.2.1.1 a1.toNat Lq3).1) x1289.1 x1289.2.1 x1289.2.2.1 a0.1.2.1).bind fun y1291 =>
     bif (! (iEq y1291.1.2.2.1 0)) then
      some (((3:Int),()),(((a0.1,(a0.2.1.1,a0.2.1.2.1,a0.2.1.2.2.1,a0.2.1.2.2.2),a0.2.2):Dq1),()))
     else
     let w1293:=List.set a0.2.1.1 a1.toNat ((y1291.1.1,(List.getD a0.2.1.1 a1.toNat Lq3).2):Dq6)
     some (((0:Int),()),(((a0.1,((List.set w1293 a1.toNat (((List.getD w1293 a1.toNat Lq3).1,(iAdd .i64 (((List.getD w1293 a1.toNat Lq3).2).1) 1),((List.getD w1293 a1.toNat Lq3).2).2):Dq6)),a0.2.1.2.1,a0.2.1.2.2.1,a0.2.1.2.2.2),a0.2.2):Dq1),()))
    else none
   else none
  else none
 else none
def qpt:Entry:=⟨⟨[.io (.pair (.ro Uq2) (.pair (.pair (.rows Uq3) (.pair (.rows Uq3) (.pair (.rows Uq6) (.val (.unit))))) (.val (.unit)))),.v (.int .i64)],[.v (.val (.int .i64))],true⟩,fun x=>qgy x.1 x.2.1⟩
theorem qx7:Sound Tryz.prog G 122 qpt:=qab (envS (l:=[(156,qn7)]) ⟨(qwp),trivial⟩) [] Tryz.func122 (by kernel_rfl) rfl fun _=>by kernel_rfl
def qo9 (a0:Dq3) (a1:Dq3):Option Dq12 :=
 (qfa a0).bind fun y1601 =>
 bif (! y1601.1.1) then some (((1:Int),()),()) else
 (qfa a1).bind fun y1603 =>
 bif (! y1603.1.1) then some (((1:Int),()),()) else
 bif (! (fEq .f32 a0.1 a1.1)) then some (((4:Int),()),()) else some (((0:Int),()),())
def quu:Entry:=⟨⟨[.ro Uq5,.ro Uq5],[.v (.val (.int .i64))],false⟩,fun x=>qo9 x.1 x.2.1⟩
theorem qadl:Sound Tryz.prog G 223 quu:=qab (envS (l:=[(157,qiy)]) ⟨(qlk),trivial⟩) [] Tryz.func223 (by kernel_rfl) rfl fun _=>by kernel_rfl
def qdv (a1:Dq3) (a0:Dq3) (s1595:((List Dq2)×Int×Unit)):Option (((List Dq2)×Int×Unit)⊕Dq20) :=
 bif (iLt s1595.2.1 (lenI a1.2.1)) then
  bif inB s1595.2.1 (List.length a1.2.1) then
   (qdl s1595.1 (List.getD a1.2.1 s1595.2.1.toNat Lq1)).bind fun y1598 =>
   some (Sum.inl (y1598.1.1,(iAdd .i64 s1595.2.1 1),()))
  else none
 else
 Option.map Sum.inr (
  (qci a0.1 s1595.1).bind fun y1600 =>
  some ((y1600.1.1,y1600.1.2.1,()),()))
def qhs (a0:Dq3) (a1:Dq3):Option Dq20 :=
 (qo9 a0 a1).bind fun y1592 =>
 bif (! (iEq y1592.1.1 0)) then some ((Lq4,y1592.1.1,()),()) else
 bif room (0+List.length a0.2.1) 48 then
  run (qdv a1 a0) ((([]:(List Dq2))++a0.2.1),(0:Int),())
 else none
def qqm:Entry:=⟨⟨[.v Uq5,.v Uq5],[.v (.val Uq5),.v (.val (.int .i64))],true⟩,fun x=>qhs x.1 x.2.1⟩
theorem qyy:Sound Tryz.prog G 188 qqm:=qab (envS (l:=[(223,quu),(224,qot),(225,qns)]) ⟨(qadl),(qus),(qti),trivial⟩) [(6,.vary [(7,.rows Uq1),(8,.sc (.int .i64))])] Tryz.func188 (by kernel_rfl) rfl fun _=>by kernel_rfl
def qj2 (a0:Nat):Option Dq12 :=
 bif (! (fEq .f32 a0 a0)) then some (((2143289344:Int),()),()) else
 allSame fun (q1674:Nat) =>
 some (((bitsF .f32 a0 q1674),()),())
def qne:Entry:=⟨⟨[.v (.flt .f32)],[.v (.val (.int .u32))],false⟩,fun x=>qj2 x.1⟩
theorem qs7:Sound Tryz.prog G 228 qne:=qab (envS (l:=[]) trivial) [] Tryz.func228 (by kernel_rfl) rfl fun _=>by kernel_rfl
def qbk (a0:List UInt8) (s1644:Dq19):Option (Dq19⊕((Nat×Bool×Unit)×Unit)) :=
 bif (iLt s1644.2.1 8) then
  bif inB s1644.2.1 (List.length a0) then
   let x1646:=strAt a0 s1644.2.1
   bif (iLe 48 x1646) then
    bif (iLe x1646 57) then
     some (Sum.inl ((iAdd .u32 (iMul .u32 s1644.1 16) (iWrap .u32 (iSub .u8 x1646 48))),(iAdd .i64 s1644.2.1 1),()))
    else
    bif (iLe 97 x1646) then
     bif (iLe x1646 102) then
      some (Sum.inl ((iAdd .u32 (iAdd .u32 (iMul .u32 s1644.1 16) (iWrap .u32 (iSub .u8 x1646 97))) 10),(iAdd .i64 s1644.2.1 1),()))
     else
     Option.map Sum.inr (some (((0:Nat),false,()),()))
    else
    Option.map Sum.inr (some (((0:Nat),false,()),()))
   else
   bif (iLe 97 x1646) then
    bif (iLe x1646 102) then
     some (Sum.inl ((iAdd .u32 (iAdd .u32 (iMul .u32 s1644.1 16) (iWrap .u32 (iSub .u8 x1646 97))) 10),(iAdd .i64 s1644.2.1 1),()))
    else
    Option.map Sum.inr (some (((0:Nat),false,()),()))
   else
   Option.map Sum.inr (some (((0:Nat),false,()),()))
  else none
 else
 Option.map Sum.inr (
  (qbj s1644.1).bind fun y1670 =>
  (qj2 y1670.1.1).bind fun y1671 =>
  some ((y1670.1.1,(iEq y1671.1.1 s1644.1),()),()))
def qba (a0:List UInt8):Option ((Nat×Bool×Unit)×Unit) :=
 bif (! (iEq (lenI a0) 8)) then some (((0:Nat),false,()),()) else run (qbk a0) ((0:Int),(0:Int),())
def qnf:Entry:=⟨⟨[.v (.str)],[.v (.val (.flt .f32)),.v (.val (.bool))],false⟩,fun x=>qba x.1⟩
theorem qs8:Sound Tryz.prog G 221 qnf:=qab (envS (l:=[(228,qne),(249,qd3)]) ⟨(qs7),(qkq),trivial⟩) [(5,.vary [(4,.sc (.int .u32)),(5,.sc (.int .i64))])] Tryz.func221 (by kernel_rfl) rfl fun _=>by kernel_rfl
def qea (a0:List UInt8):Option Dq14 :=
 bif (! (iEq (lenI a0) 10)) then
  (qbd a0).bind fun y1721 =>
  some ((y1721.1.1,y1721.1.2.1,()),())
 else
 bif inS 0 9 (List.length a0) then
  (qbd (takeL a0 9)).bind fun y1723 =>
  bif inB 9 (List.length a0) then
   let x1726:=iSub .i64 (iWrap .i64 (strAt a0 9)) 48
   let x1728:=iAdd .i64 (iMul .i64 y1723.1.1 10) x1726
   bif y1723.1.2.1 then
    bif (iLt 0 y1723.1.1) then
     (qb3 x1726 (0:Int) (9:Int)).bind fun y1730 =>
     some ((x1728,y1730.1.1,()),())
    else some ((x1728,false,()),())
   else some ((x1728,false,()),())
  else none
 else none
def qqq:Entry:=⟨⟨[.v (.str)],[.v (.val (.int .i64)),.v (.val (.bool))],false⟩,fun x=>qea x.1⟩
theorem qy5:Sound Tryz.prog G 266 qqq:=qab (envS (l:=[(112,qdy),(120,qe6)]) ⟨(qe1),(qhe),trivial⟩) [] Tryz.func266 (by kernel_rfl) rfl fun _=>by kernel_rfl
def qb5 (a0:List UInt8):Option Dq14 :=
 bif (iLt 1 (lenI a0)) then
  bif inB 0 (List.length a0) then
   bif (iEq (strAt a0 0) 45) then
    bif inS 1 (lenI a0) (List.length a0) then
     (qea (dropL a0 1)).bind fun y1715 =>
     let x1716:=iSub .i64 0 y1715.1.1
     bif y1715.1.2.1 then
      some ((x1716,(iLt 0 y1715.1.1),()),())
     else some ((x1716,false,()),())
    else none
   else
   (qea a0).bind fun y1718 =>
   some ((y1718.1.1,y1718.1.2.1,()),())
  else none
 else
 (qea a0).bind fun y1719 =>
 some ((y1719.1.1,y1719.1.2.1,()),())
def qry:Entry:=⟨⟨[.v (.str)],[.v (.val (.int .i64)),.v (.val (.bool))],false⟩,fun x=>qb5 x.1⟩
theorem qaag:Sound Tryz.prog G 250 qry:=qab (envS (l:=[(266,qqq)]) ⟨(qy5),trivial⟩) [] Tryz.func250 (by kernel_rfl) rfl fun _=>by kernel_rfl
def qnm (a0:List UInt8):Option ((Dq2×Bool×Unit)×Unit) :=
 (qbr a0 (32:Int)).bind fun y1676 =>
 bif (! (iEq (lenI y1676.1.1) 9)) then some ((Lq1,false,()),()) else
 bif inB 0 (List.length y1676.1.1) then
  (qb5 (List.getD y1676.1.1 0 ([]:List UInt8))).bind fun y1679 =>
  bif inB 3 (List.length y1676.1.1) then
   (qba (List.getD y1676.1.1 3 ([]:List UInt8))).bind fun y1681 =>
   bif (! y1679.1.2.1) then some ((Lq1,false,()),()) else
   bif (! y1681.1.2.1) then some ((Lq1,false,()),()) else
   (qb3 y1679.1.1 Lq9 (2147483647:Int)).bind fun y1684 =>
   bif (! y1684.1.1) then some ((Lq1,false,()),()) else
   let x1686:=iWrap .i32 y1679.1.1
   bif inB 1 (List.length y1676.1.1) then
    (qb5 (List.getD y1676.1.1 1 ([]:List UInt8))).bind fun y1688 =>
    bif inB 4 (List.length y1676.1.1) then
     (qba (List.getD y1676.1.1 4 ([]:List UInt8))).bind fun y1690 =>
     bif (! y1688.1.2.1) then some ((Lq1,false,()),()) else
     bif (! y1690.1.2.1) then some ((Lq1,false,()),()) else
     (qb3 y1688.1.1 Lq9 (2147483647:Int)).bind fun y1693 =>
     bif (! y1693.1.1) then some ((Lq1,false,()),()) else
     let x1695:=iWrap .i32 y1688.1.1
     bif inB 2 (List.length y1676.1.1) then
      (qb5 (List.getD y1676.1.1 2 ([]:List UInt8))).bind fun y1697 =>
      bif inB 5 (List.length y1676.1.1) then
       (qba (List.getD y1676.1.1 5 ([]:List UInt8))).bind fun y1699 =>
       bif (! y1697.1.2.1) then some ((Lq1,false,()),()) else
       bif (! y1699.1.2.1) then some ((Lq1,false,()),()) else
       (qb3 y1697.1.1 Lq9 (2147483647:Int)).bind fun y1702 =>
       bif (! y1702.1.1) then some ((Lq1,false,()),()) else
       let x1704:=iWrap .i32 y1697.1.1
       bif inB 6 (List.length y1676.1.1) then
        (qba (List.getD y1676.1.1 6 ([]:List UInt8))).bind fun y1706 =>
        bif inB 7 (List.length y1676.1.1) then
         (qbd (List.getD y1676.1.1 7 ([]:List UInt8))).bind fun y1708 =>
         bif inB 8 (List.length y1676.1.1) then
          (qb5 (List.getD y1676.1.1 8 ([]:List UInt8))).bind fun y1710 =>
          bif y1706.1.2.1 then
           bif y1708.1.2.1 then
            some (((((x1686,x1695,x1704,()),(y1681.1.1,y1690.1.1,y1699.1.1,()),y1706.1.1,y1708.1.1,y1710.1.1,()):Dq2),y1710.1.2.1,()),())
           else
           some (((((x1686,x1695,x1704,()),(y1681.1.1,y1690.1.1,y1699.1.1,()),y1706.1.1,y1708.1.1,y1710.1.1,()):Dq2),false,()),())
          else
          some (((((x1686,x1695,x1704,()),(y1681.1.1,y1690.1.1,y1699.1.1,()),y1706.1.1,y1708.1.1,y1710.1.1,()):Dq2),false,()),())
         else none
        else none
       else none
      else none
     else none
    else none
   else none
  else none
 else none
def qte:Entry:=⟨⟨[.v (.str)],[.v (.val Uq1),.v (.val (.bool))],false⟩,fun x=>qnm x.1⟩
theorem qacp:Sound Tryz.prog G 222 qte:=qab (envS (l:=[(79,qd8),(112,qdy),(120,qe6),(221,qnf),(250,qry)]) ⟨(qfy),(qe1),(qhe),(qs8),(qaag),trivial⟩) [(6,.unroll 4)] Tryz.func222 (by kernel_rfl) rfl fun _=>by kernel_rfl
def qfh (a0:Nat):Option Dq10 :=
 (qj2 a0).bind fun y1781 =>
 bif (iLe 0 8&&iLe 8 8&&room ((8:Int)).toNat 1) then
  let x1782:=iRem .u32 y1781.1.1 16
  bif inB x1782 (List.length ([48,49,50,51,52,53,54,55,56,57,97,98,99,100,101,102])) then
   bif inB 7 (List.length (List.replicate (((8:Int)).toNat) (0:Int))) then
    let w1784:=List.set (List.replicate (((8:Int)).toNat) (0:Int)) 7 (strAt ([48,49,50,51,52,53,54,55,56,57,97,98,99,100,101,102]) x1782)
    let x1785:=iQuo .u32 y1781.1.1 16
    let x1786:=iRem .u32 x1785 16
    bif inB x1786 (List.length ([48,49,50,51,52,53,54,55,56,57,97,98,99,100,101,102])) then
     let x1787:=strAt ([48,49,50,51,52,53,54,55,56,57,97,98,99,100,101,102]) x1786
     bif inB 6 (List.length w1784) then
      let x1788:=iQuo .u32 x1785 16
      let x1789:=iRem .u32 x1788 16
      bif inB x1789 (List.length ([48,49,50,51,52,53,54,55,56,57,97,98,99,100,101,102])) then
       bif inB 5 (List.length (List.set w1784 6 x1787)) then
        let w1791:=List.set (List.set w1784 6 x1787) 5 (strAt ([48,49,50,51,52,53,54,55,56,57,97,98,99,100,101,102]) x1789)
        let x1792:=iQuo .u32 x1788 16
        let x1793:=iRem .u32 x1792 16
        bif inB x1793 (List.length ([48,49,50,51,52,53,54,55,56,57,97,98,99,100,101,102])) then
         let x1794:=strAt ([48,49,50,51,52,53,54,55,56,57,97,98,99,100,101,102]) x1793
         bif inB 4 (List.length w1791) then
          let x1795:=iQuo .u32 x1792 16
          let x1796:=iRem .u32 x1795 16
          bif inB x1796 (List.length ([48,49,50,51,52,53,54,55,56,57,97,98,99,100,101,102])) then
           bif inB 3 (List.length (List.set w1791 4 x1794)) then
            let w1798:=List.set (List.set w1791 4 x1794) 3 (strAt ([48,49,50,51,52,53,54,55,56,57,97,98,99,100,101,102]) x1796)
            let x1799:=iQuo .u32 x1795 16
            let x1800:=iRem .u32 x1799 16
            bif inB x1800 (List.length ([48,49,50,51,52,53,54,55,56,57,97,98,99,100,101,102])) then
             let x1801:=strAt ([48,49,50,51,52,53,54,55,56,57,97,98,99,100,101,102]) x1800
             bif inB 2 (List.length w1798) then
              let x1802:=iQuo .u32 x1799 16
              let x1803:=iRem .u32 x1802 16
              bif inB x1803 (List.length ([48,49,50,51,52,53,54,55,56,57,97,98,99,100,101,102])) then
               bif inB 1 (List.length (List.set w1798 2 x1801)) then
                let w1805:=List.set (List.set w1798 2 x1801) 1 (strAt ([48,49,50,51,52,53,54,55,56,57,97,98,99,100,101,102]) x1803)
                let x1807:=iRem .u32 (iQuo .u32 x1802 16) 16
                bif inB x1807 (List.length ([48,49,50,51,52,53,54,55,56,57,97,98,99,100,101,102])) then
                 bif inB 0 (List.length w1805) then
                  some (((ofBytes (List.set w1805 0 (strAt ([48,49,50,51,52,53,54,55,56,57,97,98,99,100,101,102]) x1807))),()),())
                 else none
                else none
               else none
              else none
             else none
            else none
           else none
          else none
         else none
        else none
       else none
      else none
     else none
    else none
   else none
  else none
 else none
def qor:Entry:=⟨⟨[.v (.flt .f32)],[.v (.val (.str))],false⟩,fun x=>qfh x.1⟩
theorem qun:Sound Tryz.prog G 192 qor:=qab (envS (l:=[(228,qne)]) ⟨(qs7),trivial⟩) [(4,.unroll 9)] Tryz.func192 (by kernel_rfl) rfl fun _=>by kernel_rfl
def qcp (a0:(List Nat)) (s1769:Dq15):Option (Dq15⊕Dq10) :=
 bif (iLt s1769.2.1 (lenI a0)) then
  bif (iLt 0 s1769.2.1) then
   bif strRoom s1769.1 ([32]) then
    let x1772:=strCat s1769.1 ([32])
    bif inB s1769.2.1 (List.length a0) then
     (qfh (List.getD a0 s1769.2.1.toNat (0:Nat))).bind fun y1774 =>
     bif strRoom x1772 y1774.1.1 then
      some (Sum.inl ((strCat x1772 y1774.1.1),(iAdd .i64 s1769.2.1 1),()))
     else none
    else none
   else none
  else
  bif inB s1769.2.1 (List.length a0) then
   (qfh (List.getD a0 s1769.2.1.toNat (0:Nat))).bind fun y1778 =>
   bif strRoom s1769.1 y1778.1.1 then
    some (Sum.inl ((strCat s1769.1 y1778.1.1),(iAdd .i64 s1769.2.1 1),()))
   else none
  else none
 else
 Option.map Sum.inr (some ((s1769.1,()),()))
def qlb (a0:(List Nat)):Option Dq10 :=
 run (qcp a0) (([]:List UInt8),(0:Int),())
def qup:Entry:=⟨⟨[.v (.list (.flt .f32))],[.v (.val (.str))],false⟩,fun x=>qlb x.1⟩
theorem qadj:Sound Tryz.prog G 229 qup:=qab (envS (l:=[(192,qor)]) ⟨(qun),trivial⟩) [(3,.vary [(3,.sc (.str)),(4,.sc (.int .i64))])] Tryz.func229 (by kernel_rfl) rfl fun _=>by kernel_rfl
def qnd (a0:(Vec 3 Nat)):Option Dq10 :=
 (qlb ([Vec.getD 3 a0 0 (0:Nat),Vec.getD 3 a0 1 (0:Nat),Vec.getD 3 a0 2 (0:Nat)]:(List Nat))).bind fun y1768 =>
 some ((y1768.1.1,()),())
def qs5:Entry:=⟨⟨[.v (.arr 3 (.flt .f32))],[.v (.val (.str))],false⟩,fun x=>qnd x.1⟩
theorem qacg:Sound Tryz.prog G 194 qs5:=qab (envS (l:=[(229,qup)]) ⟨(qadj),trivial⟩) [] Tryz.func194 (by kernel_rfl) rfl fun _=>by kernel_rfl
def qfm (a0:Int):Option Dq10 :=
 bif (iLt a0 0) then
  (qch (iSub .i64 0 a0)).bind fun y1813 =>
  bif strRoom ([45]) y1813.1.1 then
   some (((strCat ([45]) y1813.1.1),()),())
  else none
 else
 (qch a0).bind fun y1815 =>
 some ((y1815.1.1,()),())
def qqr:Entry:=⟨⟨[.v (.int .i64)],[.v (.val (.str))],false⟩,fun x=>qfm x.1⟩
theorem qy6:Sound Tryz.prog G 193 qqr:=qab (envS (l:=[(73,qjf)]) ⟨(qnb),trivial⟩) [] Tryz.func193 (by kernel_rfl) rfl fun _=>by kernel_rfl
def qgw (a0:Dq3) (s1734:Dq15):Option (Dq15⊕Dq10) :=
 bif (iLt s1734.2.1 (lenI a0.2.1)) then
  bif inB s1734.2.1 (List.length a0.2.1) then
   (qfm (iWrap .i64 (Vec.getD 3 ((List.getD a0.2.1 s1734.2.1.toNat Lq1).1) 0 (0:Int)))).bind fun y1738 =>
   bif strRoom y1738.1.1 ([32]) then
    let x1739:=strCat y1738.1.1 ([32])
    bif strRoom s1734.1 x1739 then
     let x1740:=strCat s1734.1 x1739
     (qfm (iWrap .i64 (Vec.getD 3 ((List.getD a0.2.1 s1734.2.1.toNat Lq1).1) 1 (0:Int)))).bind fun y1743 =>
     bif strRoom y1743.1.1 ([32]) then
      let x1744:=strCat y1743.1.1 ([32])
      bif strRoom x1740 x1744 then
       let x1745:=strCat x1740 x1744
       (qfm (iWrap .i64 (Vec.getD 3 ((List.getD a0.2.1 s1734.2.1.toNat Lq1).1) 2 (0:Int)))).bind fun y1748 =>
       bif strRoom y1748.1.1 ([32]) then
        let x1749:=strCat y1748.1.1 ([32])
        bif strRoom x1745 x1749 then
         let x1750:=strCat x1745 x1749
         (qnd (((List.getD a0.2.1 s1734.2.1.toNat Lq1).2).1)).bind fun y1752 =>
         bif strRoom y1752.1.1 ([32]) then
          let x1753:=strCat y1752.1.1 ([32])
          (qfh ((((List.getD a0.2.1 s1734.2.1.toNat Lq1).2).2).1)).bind fun y1755 =>
          bif strRoom x1753 y1755.1.1 then
           let x1756:=strCat x1753 y1755.1.1
           bif strRoom x1756 ([32]) then
            let x1757:=strCat x1756 ([32])
            (qch (((((List.getD a0.2.1 s1734.2.1.toNat Lq1).2).2).2).1)).bind fun y1759 =>
            bif strRoom x1757 y1759.1.1 then
             let x1760:=strCat x1757 y1759.1.1
             bif strRoom x1760 ([32]) then
              let x1761:=strCat x1760 ([32])
              (qch ((((((List.getD a0.2.1 s1734.2.1.toNat Lq1).2).2).2).2).1)).bind fun y1763 =>
              bif strRoom x1761 y1763.1.1 then
               let x1764:=strCat x1761 y1763.1.1
               bif strRoom x1764 ([10]) then
                let x1765:=strCat x1764 ([10])
                bif strRoom x1750 x1765 then
                 some (Sum.inl ((strCat x1750 x1765),(iAdd .i64 s1734.2.1 1),()))
                else none
               else none
              else none
             else none
            else none
           else none
          else none
         else none
        else none
       else none
      else none
     else none
    else none
   else none
  else none
 else
 Option.map Sum.inr (some ((s1734.1,()),()))
def qhx (a0:Dq3):Option Dq10 :=
 (qfh a0.1).bind fun y1731 =>
 bif strRoom ([109,97,112,32]) y1731.1.1 then
  let x1732:=strCat ([109,97,112,32]) y1731.1.1
  bif strRoom x1732 ([10]) then
   run (qgw a0) ((strCat x1732 ([10])),(0:Int),())
  else none
 else none
def qnr:Entry:=⟨⟨[.ro Uq5],[.v (.val (.str))],false⟩,fun x=>qhx x.1⟩
theorem qth:Sound Tryz.prog G 158 qnr:=qab (envS (l:=[(73,qjf),(192,qor),(193,qqr),(194,qs5)]) ⟨(qnb),(qun),(qy6),(qacg),trivial⟩) [(3,.vary [(3,.sc (.str)),(4,.sc (.int .i64))]),(7,.unroll 4)] Tryz.func158 (by kernel_rfl) rfl fun _=>by kernel_rfl
def qfx (y1607:Dq13) (a0:List UInt8) (s1626:(Bool×Int×Dq3×Unit)):Option ((Bool×Int×Dq3×Unit)⊕Dq20) :=
 bif (iLt s1626.2.1 (iSub .i64 (lenI y1607.1.1) 1)) then
  bif s1626.1 then
   bif inB s1626.2.1 (List.length y1607.1.1) then
    (qnm (List.getD y1607.1.1 s1626.2.1.toNat ([]:List UInt8))).bind fun y1630 =>
    bif room (List.length s1626.2.2.1.2.1+1) 48 then
     some (Sum.inl (y1630.1.2.1,(iAdd .i64 s1626.2.1 1),((s1626.2.2.1.1,(s1626.2.2.1.2.1++([y1630.1.1]:(List Dq2))),s1626.2.2.1.2.2):Dq3),()))
    else none
   else none
  else
  Option.map Sum.inr (
   bif (! s1626.1) then some ((Lq4,(5:Int),()),()) else
   (qfa ((s1626.2.2.1.1,s1626.2.2.1.2.1,s1626.2.2.1.2.2):Dq3)).bind fun y1634 =>
   bif (! y1634.1.1) then some ((Lq4,(5:Int),()),()) else
   (qhx ((s1626.2.2.1.1,s1626.2.2.1.2.1,s1626.2.2.1.2.2):Dq3)).bind fun y1636 =>
   bif (! (sEq y1636.1.1 a0)) then some ((Lq4,(5:Int),()),()) else some ((((s1626.2.2.1.1,s1626.2.2.1.2.1,s1626.2.2.1.2.2):Dq3),(0:Int),()),()))
 else
 Option.map Sum.inr (
  bif (! s1626.1) then some ((Lq4,(5:Int),()),()) else
  (qfa ((s1626.2.2.1.1,s1626.2.2.1.2.1,s1626.2.2.1.2.2):Dq3)).bind fun y1639 =>
  bif (! y1639.1.1) then some ((Lq4,(5:Int),()),()) else
  (qhx ((s1626.2.2.1.1,s1626.2.2.1.2.1,s1626.2.2.1.2.2):Dq3)).bind fun y1641 =>
  bif (! (sEq y1641.1.1 a0)) then some ((Lq4,(5:Int),()),()) else some ((((s1626.2.2.1.1,s1626.2.2.1.2.1,s1626.2.2.1.2.2):Dq3),(0:Int),()),()))
def qnc (a0:List UInt8):Option Dq20 :=
 bif (iLt 40000 (lenI a0)) then some ((Lq4,(2:Int),()),()) else
 (qbr a0 (10:Int)).bind fun y1607 =>
 bif (iLt (lenI y1607.1.1) 2) then some ((Lq4,(5:Int),()),()) else
 let x1609:=iSub .i64 (lenI y1607.1.1) 1
 bif inB x1609 (List.length y1607.1.1) then
  bif (! (sEq (List.getD y1607.1.1 x1609.toNat ([]:List UInt8)) ([]))) then some ((Lq4,(5:Int),()),()) else
  bif inB 0 (List.length y1607.1.1) then
   bif (! (iEq (lenI (List.getD y1607.1.1 0 ([]:List UInt8))) 12)) then some ((Lq4,(5:Int),()),()) else
   bif inB 0 (List.length y1607.1.1) then
    let x1614:=List.getD y1607.1.1 0 ([]:List UInt8)
    bif inS 0 4 (List.length x1614) then
     bif (! (sEq (takeL x1614 4) ([109,97,112,32]))) then some ((Lq4,(5:Int),()),()) else
     bif inB 0 (List.length y1607.1.1) then
      let x1617:=List.getD y1607.1.1 0 ([]:List UInt8)
      bif inS 4 (lenI x1617) (List.length x1617) then
       (qba (dropL x1617 4)).bind fun y1619 =>
       run (qfx y1607 a0) (y1619.1.2.1,(1:Int),((y1619.1.1,[],()):Dq3),())
      else none
     else none
    else none
   else none
  else none
 else none
def qs4:Entry:=⟨⟨[.v (.str)],[.v (.pair (.val (.flt .f32)) (.pair (.rows Uq1) (.val (.unit)))),.v (.val (.int .i64))],false⟩,fun x=>qnc x.1⟩
theorem qace:Sound Tryz.prog G 187 qs4:=qab (envS (l:=[(79,qd8),(157,qiy),(158,qnr),(221,qnf),(222,qte)]) ⟨(qfy),(qlk),(qth),(qs8),(qacp),trivial⟩) [(10,.vary [(7,.sc (.bool)),(9,.sc (.int .i64)),(8,.box (.pair (.val (.flt .f32)) (.pair (.rows Uq1) (.val (.unit)))))])] Tryz.func187 (by kernel_rfl) rfl fun _=>by kernel_rfl
def qf1 (a0:Dq1) (a1:(Int×Dq17)):Option ((Unit)×(Dq1×Unit)) :=
 (qnc a1.2.1).bind fun y1586 =>
 bif (! (iEq y1586.1.2.1 0)) then
  some ((),(((a0.1,(a0.2.1.1,a0.2.1.2.1,a0.2.1.2.2.1,a0.2.1.2.2.2),a0.2.2):Dq1),()))
 else
 bif inB a1.1 (List.length a0.2.1.1) then
  (qhs ((List.getD a0.2.1.1 a1.1.toNat Lq3).1) ((y1586.1.1.1,y1586.1.1.2.1,y1586.1.1.2.2):Dq3)).bind fun y1589 =>
  bif (iEq y1589.1.2.1 0) then
   bif inB a1.1 (List.length a0.2.1.1) then
    some ((),(((a0.1,((List.set a0.2.1.1 a1.1.toNat ((y1589.1.1,(List.getD a0.2.1.1 a1.1.toNat Lq3).2):Dq6)),a0.2.1.2.1,a0.2.1.2.2.1,a0.2.1.2.2.2),a0.2.2):Dq1),()))
   else none
  else
  some ((),(((a0.1,(a0.2.1.1,a0.2.1.2.1,a0.2.1.2.2.1,a0.2.1.2.2.2),a0.2.2):Dq1),()))
 else none
def qoa:Entry:=⟨⟨[.io (.pair (.ro Uq2) (.pair (.pair (.rows Uq3) (.pair (.rows Uq3) (.pair (.rows Uq6) (.val (.unit))))) (.val (.unit)))),.v Uq6],[],true⟩,fun x=>qf1 x.1 x.2.1⟩
theorem qws:Sound Tryz.prog G 155 qoa:=qab (envS (l:=[(187,qs4),(188,qqm)]) ⟨(qace),(qyy),trivial⟩) [] Tryz.func155 (by kernel_rfl) rfl fun _=>by kernel_rfl
def qc6 (a0:Dq1) (a1:Dq9):Option Dq22 :=
 bif (iLe (lenI a0.2.1.2.2.1) a1.2.1) then
  some (((2:Int),()),(((a0.1,(a0.2.1.1,a0.2.1.2.1,a0.2.1.2.2.1,a0.2.1.2.2.2),a0.2.2):Dq1),()))
 else
 bif inB a1.2.1 (List.length a0.2.1.2.2.1) then
  let x1576:=List.getD a0.2.1.2.2.1 a1.2.1.toNat ((0,[],()):(Int×Dq17))
  bif (! (iEq a1.1 4)) then
   let x1578:=iAdd .i64 a1.2.1 1
   bif inS x1578 ((List.length a0.2.1.2.2.1:Nat):Int) (List.length a0.2.1.2.2.1) then
    bif room (0+List.length (List.take ((List.length a0.2.1.2.2.1)-x1578.toNat) (List.drop x1578.toNat a0.2.1.2.2.1))) 24 then
     let l1579:=([]:(List (Int×Dq17)))++(List.take ((List.length a0.2.1.2.2.1)-x1578.toNat) (List.drop x1578.toNat a0.2.1.2.2.1))
     bif inS 0 a1.2.1 (List.length a0.2.1.2.2.1) then
      bif room (0+List.length (List.take a1.2.1.toNat (List.drop 0 a0.2.1.2.2.1))) 24 then
       let l1580:=([]:(List (Int×Dq17)))++(List.take a1.2.1.toNat (List.drop 0 a0.2.1.2.2.1))
       bif room (List.length l1580+List.length l1579) 24 then
        let l1581:=l1580++l1579
        bif (! (iEq a1.1 5)) then
         (qf1 ((a0.1,(a0.2.1.1,a0.2.1.2.1,l1581,a0.2.1.2.2.2),a0.2.2):Dq1) x1576).bind fun y1583 =>
         some (((0:Int),()),(((y1583.2.1.1,(y1583.2.1.2.1.1,y1583.2.1.2.1.2.1,y1583.2.1.2.1.2.2.1,y1583.2.1.2.1.2.2.2),y1583.2.1.2.2):Dq1),()))
        else
        some (((0:Int),()),(((a0.1,(a0.2.1.1,a0.2.1.2.1,l1581,a0.2.1.2.2.2),a0.2.2):Dq1),()))
       else none
      else none
     else none
    else none
   else none
  else
  bif (! (iEq a1.1 5)) then
   (qf1 ((a0.1,(a0.2.1.1,a0.2.1.2.1,a0.2.1.2.2.1,a0.2.1.2.2.2),a0.2.2):Dq1) x1576).bind fun y1585 =>
   some (((0:Int),()),(((y1585.2.1.1,(y1585.2.1.2.1.1,y1585.2.1.2.1.2.1,y1585.2.1.2.1.2.2.1,y1585.2.1.2.1.2.2.2),y1585.2.1.2.2):Dq1),()))
  else
  some (((0:Int),()),(((a0.1,(a0.2.1.1,a0.2.1.2.1,a0.2.1.2.2.1,a0.2.1.2.2.2),a0.2.2):Dq1),()))
 else none
def qob:Entry:=⟨⟨[.io (.pair (.ro Uq2) (.pair (.pair (.rows Uq3) (.pair (.rows Uq3) (.pair (.rows Uq6) (.val (.unit))))) (.val (.unit)))),.v Uq7],[.v (.val (.int .i64))],true⟩,fun x=>qc6 x.1 x.2.1⟩
theorem qwt:Sound Tryz.prog G 121 qob:=qab (envS (l:=[(155,qoa)]) ⟨(qws),trivial⟩) [] Tryz.func121 (by kernel_rfl) rfl fun _=>by kernel_rfl
def qj1 (a0:Dq3):Option Dq10 :=
 (qfa a0).bind fun y1816 =>
 bif (! y1816.1.1) then some ((([]:List UInt8),()),()) else
 (qhx a0).bind fun y1818 =>
 some ((y1818.1.1,()),())
def qs3:Entry:=⟨⟨[.v Uq5],[.v (.val (.str))],false⟩,fun x=>qj1 x.1⟩
theorem qacc:Sound Tryz.prog G 124 qs3:=qab (envS (l:=[(157,qiy),(158,qnr)]) ⟨(qlk),(qth),trivial⟩) [] Tryz.func124 (by kernel_rfl) rfl fun _=>by kernel_rfl
def qf0 (a0:Dq6):Option ((Dq6×Unit)×Unit) :=
 bif room (0+List.length a0.1.2.1) 48 then
  some (((((a0.1.1,(([]:(List Dq2))++a0.1.2.1),()),a0.2.1,()):Dq6),()),())
 else none
def qtj:Entry:=⟨⟨[.v Uq3],[.v (.pair (.pair (.val (.flt .f32)) (.pair (.rows Uq1) (.val (.unit)))) (.val (.pair (.int .i64) (.unit))))],false⟩,fun x=>qf0 x.1⟩
theorem qacs:Sound Tryz.prog G 123 qtj:=qab (envS (l:=[]) trivial) [] Tryz.func123 (by kernel_rfl) rfl fun _=>by kernel_rfl
def qbv (a0:Dq1) (a1:Dq9):Option Dq22 :=
 bif (iEq a1.1 3) then
  (qc6 ((a0.1,(a0.2.1.1,a0.2.1.2.1,a0.2.1.2.2.1,a0.2.1.2.2.2),a0.2.2):Dq1) a1).bind fun y1247 =>
  some ((y1247.1.1,()),(((y1247.2.1.1,(y1247.2.1.2.1.1,y1247.2.1.2.1.2.1,y1247.2.1.2.1.2.2.1,y1247.2.1.2.1.2.2.2),y1247.2.1.2.2):Dq1),()))
 else
 bif (iEq a1.1 4) then
  (qc6 ((a0.1,(a0.2.1.1,a0.2.1.2.1,a0.2.1.2.2.1,a0.2.1.2.2.2),a0.2.2):Dq1) a1).bind fun y1249 =>
  some ((y1249.1.1,()),(((y1249.2.1.1,(y1249.2.1.2.1.1,y1249.2.1.2.1.2.1,y1249.2.1.2.1.2.2.1,y1249.2.1.2.1.2.2.2),y1249.2.1.2.2):Dq1),()))
 else
 bif (iEq a1.1 5) then
  (qc6 ((a0.1,(a0.2.1.1,a0.2.1.2.1,a0.2.1.2.2.1,a0.2.1.2.2.2),a0.2.2):Dq1) a1).bind fun y1251 =>
  some ((y1251.1.1,()),(((y1251.2.1.1,(y1251.2.1.2.1.1,y1251.2.1.2.1.2.1,y1251.2.1.2.1.2.2.1,y1251.2.1.2.1.2.2.2),y1251.2.1.2.2):Dq1),()))
 else
 bif (iLe (lenI a0.2.1.1) a1.2.1) then
  some (((2:Int),()),(((a0.1,(a0.2.1.1,a0.2.1.2.1,a0.2.1.2.2.1,a0.2.1.2.2.2),a0.2.2):Dq1),()))
 else
 bif (iEq a1.1 2) then
  bif (iLe (lenI a0.2.1.1) a1.2.2.1) then
   some (((2:Int),()),(((a0.1,(a0.2.1.1,a0.2.1.2.1,a0.2.1.2.2.1,a0.2.1.2.2.2),a0.2.2):Dq1),()))
  else
  bif (iEq a1.2.1 a1.2.2.1) then
   some (((2:Int),()),(((a0.1,(a0.2.1.1,a0.2.1.2.1,a0.2.1.2.2.1,a0.2.1.2.2.2),a0.2.2):Dq1),()))
  else
  bif (iEq a1.1 1) then
   (qgy ((a0.1,(a0.2.1.1,a0.2.1.2.1,a0.2.1.2.2.1,a0.2.1.2.2.2),a0.2.2):Dq1) a1.2.1).bind fun y1257 =>
   some ((y1257.1.1,()),(((y1257.2.1.1,(y1257.2.1.2.1.1,y1257.2.1.2.1.2.1,y1257.2.1.2.1.2.2.1,y1257.2.1.2.1.2.2.2),y1257.2.1.2.2):Dq1),()))
  else
  bif (iEq a1.1 6) then
   bif inB a1.2.1 (List.length a0.2.1.1) then
    (qf0 (List.getD a0.2.1.1 a1.2.1.toNat Lq3)).bind fun y1260 =>
    bif inB a1.2.1 (List.length a0.2.1.2.1) then
     some (((0:Int),()),(((a0.1,(a0.2.1.1,(List.set a0.2.1.2.1 a1.2.1.toNat (((y1260.1.1.1.1,y1260.1.1.1.2.1,y1260.1.1.1.2.2),y1260.1.1.2):Dq6)),a0.2.1.2.2.1,a0.2.1.2.2.2),a0.2.2):Dq1),()))
    else none
   else none
  else
  bif (iEq a1.1 7) then
   bif inB a1.2.1 (List.length a0.2.1.2.1) then
    (qf0 (List.getD a0.2.1.2.1 a1.2.1.toNat Lq3)).bind fun y1264 =>
    bif inB a1.2.1 (List.length a0.2.1.1) then
     some (((0:Int),()),(((a0.1,((List.set a0.2.1.1 a1.2.1.toNat (((y1264.1.1.1.1,y1264.1.1.1.2.1,y1264.1.1.1.2.2),y1264.1.1.2):Dq6)),a0.2.1.2.1,a0.2.1.2.2.1,a0.2.1.2.2.2),a0.2.2):Dq1),()))
    else none
   else none
  else
  bif (iLe 10 (lenI a0.2.1.2.2.1)) then
   some (((3:Int),()),(((a0.1,(a0.2.1.1,a0.2.1.2.1,a0.2.1.2.2.1,a0.2.1.2.2.2),a0.2.2):Dq1),()))
  else
  bif inB a1.2.1 (List.length a0.2.1.1) then
   (qj1 ((List.getD a0.2.1.1 a1.2.1.toNat Lq3).1)).bind fun y1268 =>
   bif room (List.length a0.2.1.2.2.1+1) 24 then
    some (((0:Int),()),(((a0.1,(a0.2.1.1,a0.2.1.2.1,(a0.2.1.2.2.1++([(a1.2.2.1,y1268.1.1,())]:(List (Int×Dq17)))),a0.2.1.2.2.2),a0.2.2):Dq1),()))
   else none
  else none
 else
 bif (iEq a1.1 1) then
  (qgy ((a0.1,(a0.2.1.1,a0.2.1.2.1,a0.2.1.2.2.1,a0.2.1.2.2.2),a0.2.2):Dq1) a1.2.1).bind fun y1271 =>
  some ((y1271.1.1,()),(((y1271.2.1.1,(y1271.2.1.2.1.1,y1271.2.1.2.1.2.1,y1271.2.1.2.1.2.2.1,y1271.2.1.2.1.2.2.2),y1271.2.1.2.2):Dq1),()))
 else
 bif (iEq a1.1 6) then
  bif inB a1.2.1 (List.length a0.2.1.1) then
   (qf0 (List.getD a0.2.1.1 a1.2.1.toNat Lq3)).bind fun y1274 =>
   bif inB a1.2.1 (List.length a0.2.1.2.1) then
    some (((0:Int),()),(((a0.1,(a0.2.1.1,(List.set a0.2.1.2.1 a1.2.1.toNat (((y1274.1.1.1.1,y1274.1.1.1.2.1,y1274.1.1.1.2.2),y1274.1.1.2):Dq6)),a0.2.1.2.2.1,a0.2.1.2.2.2),a0.2.2):Dq1),()))
   else none
  else none
 else
 bif (iEq a1.1 7) then
  bif inB a1.2.1 (List.length a0.2.1.2.1) then
   (qf0 (List.getD a0.2.1.2.1 a1.2.1.toNat Lq3)).bind fun y1278 =>
   bif inB a1.2.1 (List.length a0.2.1.1) then
    some (((0:Int),()),(((a0.1,((List.set a0.2.1.1 a1.2.1.toNat (((y1278.1.1.1.1,y1278.1.1.1.2.1,y1278.1.1.1.2.2),y1278.1.1.2):Dq6)),a0.2.1.2.1,a0.2.1.2.2.1,a0.2.1.2.2.2),a0.2.2):Dq1),()))
   else none
  else none
 else
 bif (iLe 10 (lenI a0.2.1.2.2.1)) then
  some (((3:Int),()),(((a0.1,(a0.2.1.1,a0.2.1.2.1,a0.2.1.2.2.1,a0.2.1.2.2.2),a0.2.2):Dq1),()))
 else
 bif inB a1.2.1 (List.length a0.2.1.1) then
  (qj1 ((List.getD a0.2.1.1 a1.2.1.toNat Lq3).1)).bind fun y1282 =>
  bif room (List.length a0.2.1.2.2.1+1) 24 then
   some (((0:Int),()),(((a0.1,(a0.2.1.1,a0.2.1.2.1,(a0.2.1.2.2.1++([(a1.2.2.1,y1282.1.1,())]:(List (Int×Dq17)))),a0.2.1.2.2.2),a0.2.2):Dq1),()))
  else none
 else none
def qqs:Entry:=⟨⟨[.io (.pair (.ro Uq2) (.pair (.pair (.rows Uq3) (.pair (.rows Uq3) (.pair (.rows Uq6) (.val (.unit))))) (.val (.unit)))),.v Uq7],[.v (.val (.int .i64))],true⟩,fun x=>qbv x.1 x.2.1⟩
theorem qy7:Sound Tryz.prog G 83 qqs:=qab (envS (l:=[(121,qob),(122,qpt),(123,qtj),(124,qs3)]) ⟨(qwt),(qx7),(qacs),(qacc),trivial⟩) [] Tryz.func83 (by kernel_rfl) rfl fun _=>by kernel_rfl
def qe0 (a0:Int):Option Dq10 :=
 (qb3 a0 (0:Int) (8:Int)).bind fun y1820 =>
 bif (! y1820.1.1) then some ((([]:List UInt8),()),()) else
 bif inB a0 9 then
  some (((List.getD ([[111,107],[105,110,118,97,108,105,100],[114,97,110,103,101],[108,105,109,105,116],[115,116,97,116,101],[115,121,110,116,97,120],[110,111,116,102,111,117,110,100],[98,117,100,103,101,116],[112,114,111,111,102]]:(List (List UInt8))) a0.toNat ([]:List UInt8)),()),())
 else none
def qru:Entry:=⟨⟨[.v (.int .i64)],[.v (.val (.str))],false⟩,fun x=>qe0 x.1⟩
theorem qaac:Sound Tryz.prog G 84 qru:=qab (envS (l:=[(112,qdy)]) ⟨(qe1),trivial⟩) [] Tryz.func84 (by kernel_rfl) rfl fun _=>by kernel_rfl
def qnt (a0:Dq9):Option Dq7 :=
 (qb3 a0.1 (1:Int) (7:Int)).bind fun y1859 =>
 bif (! y1859.1.1) then some ((false,()),()) else
 (qb3 a0.2.1 (0:Int) (999:Int)).bind fun y1861 =>
 bif (! y1861.1.1) then some ((false,()),()) else
 (qb3 a0.2.2.1 (0:Int) (999:Int)).bind fun y1863 =>
 bif (! y1863.1.1) then some ((false,()),()) else
 bif (iEq a0.1 2) then some ((true,()),()) else
 some (((iEq a0.2.2.1 0),()),())
def qtk:Entry:=⟨⟨[.v Uq7],[.v (.val (.bool))],false⟩,fun x=>qnt x.1⟩
theorem qacu:Sound Tryz.prog G 71 qtk:=qab (envS (l:=[(112,qdy)]) ⟨(qe1),trivial⟩) [] Tryz.func71 (by kernel_rfl) rfl fun _=>by kernel_rfl
def qp5:Option (((List (List UInt8))×(List Int)×Unit)×Unit) :=
 some ((([[],[115,101,101],[115,101,110,100],[100,101,108,105,118,101,114],[99,111,112,121],[100,114,111,112],[115,97,118,101],[99,114,97,115,104]]:(List (List UInt8))),([0,1,2,1,1,1,1,1]:(List Int)),()),())
def qr0:Entry:=⟨⟨[],[.v (.rows (.str)),.v (.rows (.int .i64))],false⟩,fun _=>qp5⟩
theorem qaai:Sound Tryz.prog G 72 qr0:=qab (envS (l:=[]) trivial) [] Tryz.func72 (by kernel_rfl) rfl fun _=>by kernel_rfl
def qaz (y1823:Dq13) (s1849:(Int×Dq9×Unit)):Option ((Int×Dq9×Unit)⊕((Dq9×Int×Unit)×Unit)) :=
 bif (iLt s1849.1 (lenI y1823.1.1)) then
  bif inB s1849.1 (List.length y1823.1.1) then
   (qbd (List.getD y1823.1.1 s1849.1.toNat ([]:List UInt8))).bind fun y1852 =>
   bif (! y1852.1.2.1) then
    Option.map Sum.inr (some ((Lq10,(5:Int),()),()))
   else
   bif (iEq s1849.1 1) then
    some (Sum.inl ((iAdd .i64 s1849.1 1),((s1849.2.1.1,y1852.1.1,s1849.2.1.2.2):Dq9),()))
   else
   some (Sum.inl ((iAdd .i64 s1849.1 1),((s1849.2.1.1,s1849.2.1.2.1,y1852.1.1,s1849.2.1.2.2.2):Dq9),()))
  else none
 else
 Option.map Sum.inr (
  (qnt s1849.2.1).bind fun y1857 =>
  bif (! y1857.1.1) then some ((Lq10,(5:Int),()),()) else some ((s1849.2.1,(0:Int),()),()))
def qd7 (y1824:(((List (List UInt8))×(List Int)×Unit)×Unit)) (y1823:Dq13) (s1831:(Int×Dq9×Unit)):Option ((Int×Dq9×Unit)⊕((Dq9×Int×Unit)×Unit)) :=
 bif (iLt s1831.1 (lenI y1824.1.1)) then
  bif inB s1831.1 (List.length y1824.1.1) then
   bif inB 0 (List.length y1823.1.1) then
    bif (sEq (List.getD y1824.1.1 s1831.1.toNat ([]:List UInt8)) (List.getD y1823.1.1 0 ([]:List UInt8))) then
     some (Sum.inl ((iAdd .i64 s1831.1 1),((s1831.1,s1831.2.1.2):Dq9),()))
    else
    some (Sum.inl ((iAdd .i64 s1831.1 1),s1831.2.1,()))
   else none
  else none
 else
 Option.map Sum.inr (
  bif (iEq s1831.2.1.1 0) then some ((Lq10,(5:Int),()),()) else
  bif inB s1831.2.1.1 (List.length y1824.1.2.1) then
   bif (! (iEq (lenI y1823.1.1) (iAdd .i64 (List.getD y1824.1.2.1 s1831.2.1.1.toNat (0:Int)) 1))) then some ((Lq10,(5:Int),()),()) else run (qaz y1823) ((1:Int),s1831.2.1,())
  else none)
def qbh (a0:List UInt8):Option ((Dq9×Int×Unit)×Unit) :=
 (qbr a0 (32:Int)).bind fun y1823 =>
 (qp5).bind fun y1824 =>
 run (qd7 y1824 y1823) ((1:Int),Lq10,())
def qrv:Entry:=⟨⟨[.v (.str)],[.v (.val Uq7),.v (.val (.int .i64))],false⟩,fun x=>qbh x.1⟩
theorem qaad:Sound Tryz.prog G 81 qrv:=qab (envS (l:=[(71,qtk),(72,qr0),(79,qd8),(120,qe6)]) ⟨(qacu),(qaai),(qfy),(qhe),trivial⟩) [(5,.vary [(8,.sc (.int .i64)),(7,.box (.val Uq7))]),(12,.vary [(9,.sc (.int .i64)),(7,.box (.val Uq7))])] Tryz.func81 (by kernel_rfl) rfl fun _=>by kernel_rfl
end
end Go.Proofs.YtjhdoneobdbeaaaGreatDoor
