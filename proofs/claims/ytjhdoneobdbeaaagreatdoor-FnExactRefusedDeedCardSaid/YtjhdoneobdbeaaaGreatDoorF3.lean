import Derived.Test.YtjhdoneobdbeaaaGreatDoorF2
/- Functions on typed data: what the evaluation of each Go function is, and that it is sound. -/
set_option linter.unusedVariables false
namespace Go.Proofs.YtjhdoneobdbeaaaGreatDoor
open Go Go.Tm
noncomputable section
set_option maxRecDepth 100000
variable {G : List (Nat × Obj)}
def qr3 (a0:(Vec 3 Nat)) (a1:(Vec 3 Nat)):Option Dq15 :=
 some (((fAdd .f32 (fAdd .f32 (fMul .f32 (Vec.getD 3 a0 0 (0:Nat)) (Vec.getD 3 a1 0 (0:Nat))) (fMul .f32 (Vec.getD 3 a0 1 (0:Nat)) (Vec.getD 3 a1 1 (0:Nat)))) (fMul .f32 (Vec.getD 3 a0 2 (0:Nat)) (Vec.getD 3 a1 2 (0:Nat)))),()),())
def qsr:Entry:=⟨⟨[.v (.arr 3 (.flt .f32)),.v (.arr 3 (.flt .f32))],[.v (.val (.flt .f32))],false⟩,fun x=>qr3 x.1 x.2.1⟩
theorem qaa7:Sound Tryz.prog G 268 qsr:=qab (envS (l:=[]) trivial) [] Tryz.func268 (by kernel_rfl) rfl fun _=>by kernel_rfl
def qlp (a0:Nat):Option Dq15 :=
 (fConv .f32 .f64 a0).bind fun y1283 =>
 (qq1 y1283).bind fun y1284 =>
 (fConv .f64 .f32 y1284.1.1).bind fun y1285 =>
 some ((y1285,()),())
def qre:Entry:=⟨⟨[.v (.flt .f32)],[.v (.val (.flt .f32))],false⟩,fun x=>qlp x.1⟩
theorem qz9:Sound Tryz.prog G 267 qre:=qab (envS (l:=[(274,qps)]) ⟨(qvl),trivial⟩) [] Tryz.func267 (by kernel_rfl) rfl fun _=>by kernel_rfl
def qii (a0:Dq2) (a1:(Vec 3 Nat)):Option Dq15 :=
 let x1263:=fSub .f32 (Vec.getD 3 a0.2.1 0 (0:Nat)) (Vec.getD 3 a1 0 (0:Nat))
 let x1266:=fSub .f32 (Vec.getD 3 a0.2.1 1 (0:Nat)) (Vec.getD 3 a1 1 (0:Nat))
 let x1269:=fSub .f32 (Vec.getD 3 a0.2.1 2 (0:Nat)) (Vec.getD 3 a1 2 (0:Nat))
 (qr3 ((x1263,x1266,x1269,()):(Vec 3 Nat)) ((x1263,x1266,x1269,()):(Vec 3 Nat))).bind fun y1270 =>
 (qlp y1270.1.1).bind fun y1271 =>
 some ((y1271.1.1,()),())
def qrh:Entry:=⟨⟨[.ro Uq1,.v (.arr 3 (.flt .f32))],[.v (.val (.flt .f32))],false⟩,fun x=>qii x.1 x.2.1⟩
theorem qaab:Sound Tryz.prog G 254 qrh:=qab (envS (l:=[(267,qre),(268,qsr)]) ⟨(qz9),(qaa7),trivial⟩) [] Tryz.func254 (by kernel_rfl) rfl fun _=>by kernel_rfl
def qgc (a0:(Vec 3 Int)) (a1:(Vec 3 Int)):Option Dq8 :=
 let x1290:=iSub .i64 (iWrap .i64 (Vec.getD 3 a0 0 (0:Int))) (iWrap .i64 (Vec.getD 3 a1 0 (0:Int)))
 bif (iLt 1 x1290) then some ((false,()),()) else
 bif (iLt x1290 (-1:Int)) then some ((false,()),()) else
 let x1297:=iSub .i64 (iWrap .i64 (Vec.getD 3 a0 1 (0:Int))) (iWrap .i64 (Vec.getD 3 a1 1 (0:Int)))
 bif (iLt 1 x1297) then some ((false,()),()) else
 bif (iLt x1297 (-1:Int)) then some ((false,()),()) else
 let x1304:=iSub .i64 (iWrap .i64 (Vec.getD 3 a0 2 (0:Int))) (iWrap .i64 (Vec.getD 3 a1 2 (0:Int)))
 bif (iLt 1 x1304) then some ((false,()),()) else
 bif (iLt x1304 (-1:Int)) then some ((false,()),()) else some ((true,()),())
def qox:Entry:=⟨⟨[.v (.arr 3 (.int .i32)),.v (.arr 3 (.int .i32))],[.v (.val (.bool))],false⟩,fun x=>qgc x.1 x.2.1⟩
theorem qwt:Sound Tryz.prog G 253 qox:=qab (envS (l:=[]) trivial) [(2,.unroll 4)] Tryz.func253 (by kernel_rfl) rfl fun _=>by kernel_rfl
def qfj (a0:Dq3) (y1242:Dq21) (a1:(Vec 3 Nat)) (a2:Nat) (s1247:(Int×Nat×Int×Unit)):Option ((Int×Nat×Int×Unit)⊕(Dq17×Unit)) :=
 bif (iLt s1247.2.2.1 (lenI a0.2.1)) then
  bif inB s1247.2.2.1 (List.length a0.2.1) then
   (qgc ((List.getD a0.2.1 s1247.2.2.1.toNat Lq1).1) y1242.1.1).bind fun y1250 =>
   bif (! y1250.1.1) then
    some (Sum.inl (s1247.1,s1247.2.1,(iAdd .i64 s1247.2.2.1 1),()))
   else
   bif inB s1247.2.2.1 (List.length a0.2.1) then
    (qii (List.getD a0.2.1 s1247.2.2.1.toNat Lq1) a1).bind fun y1253 =>
    bif (fLe .f32 y1253.1.1 a2) then
     bif (iLt s1247.1 0) then
      some (Sum.inl (s1247.2.2.1,y1253.1.1,(iAdd .i64 s1247.2.2.1 1),()))
     else
     bif (fLt .f32 y1253.1.1 s1247.2.1) then
      some (Sum.inl (s1247.2.2.1,y1253.1.1,(iAdd .i64 s1247.2.2.1 1),()))
     else
     some (Sum.inl (s1247.1,s1247.2.1,(iAdd .i64 s1247.2.2.1 1),()))
    else
    some (Sum.inl (s1247.1,s1247.2.1,(iAdd .i64 s1247.2.2.1 1),()))
   else none
  else none
 else
 Option.map Sum.inr (some ((s1247.1,(0:Int),()),()))
def qhy (a0:Dq3) (a1:(Vec 3 Nat)) (a2:Nat):Option (Dq17×Unit) :=
 (qc0 a0.1 a1).bind fun y1242 =>
 bif (iEq y1242.1.2.1 2) then some ((Lq6,(2:Int),()),()) else
 bif (! (fLe .f32 0 a2)) then some ((Lq6,(2:Int),()),()) else
 bif (! (iEq y1242.1.2.1 0)) then some ((Lq6,y1242.1.2.1,()),()) else run (qfj a0 y1242 a1 a2) (Lq6,(0:Nat),(0:Int),())
def qn2:Entry:=⟨⟨[.ro Uq6,.v (.arr 3 (.flt .f32)),.v (.flt .f32)],[.v (.val (.int .i64)),.v (.val (.int .i64))],false⟩,fun x=>qhy x.1 x.2.1 x.2.2.1⟩
theorem qv0:Sound Tryz.prog G 226 qn2:=qab (envS (l:=[(154,qhx),(253,qox),(254,qrh)]) ⟨(qls),(qwt),(qaab),trivial⟩) [(9,.vary [(10,.sc (.int .i64)),(11,.sc (.flt .f32)),(12,.sc (.int .i64))])] Tryz.func226 (by kernel_rfl) rfl fun _=>by kernel_rfl
def qcz (a0:Nat) (a1:Nat):Option Dq8 :=
 bif (! (fEq .f32 a0 a0)) then
  bif (! (fEq .f32 a0 a0)) then
   some (((! (fEq .f32 a1 a1)),()),())
  else some ((false,()),())
 else
 bif (! (fEq .f32 a1 a1)) then
  bif (! (fEq .f32 a0 a0)) then
   some (((! (fEq .f32 a1 a1)),()),())
  else some ((false,()),())
 else
 allSame fun (q1368:Nat) =>
 allSame fun (q1370:Nat) =>
 some (((iEq (bitsF .f32 a0 q1368) (bitsF .f32 a1 q1370)),()),())
def qrf:Entry:=⟨⟨[.v (.flt .f32),.v (.flt .f32)],[.v (.val (.bool))],false⟩,fun x=>qcz x.1 x.2.1⟩
theorem qaaa:Sound Tryz.prog G 104 qrf:=qab (envS (l:=[]) trivial) [] Tryz.func104 (by kernel_rfl) rfl fun _=>by kernel_rfl
def qee (a0:Dq2) (a1:Dq2):Option Dq8 :=
 bif (! (iEq a0.2.2.2.2.1 a1.2.2.2.2.1)) then
  some (((iLt a1.2.2.2.2.1 a0.2.2.2.2.1),()),())
 else
 bif (! (fEq .f32 a0.2.2.1 a1.2.2.1)) then
  some (((fLt .f32 a1.2.2.1 a0.2.2.1),()),())
 else
 bif (! (iEq a0.2.2.2.1 a1.2.2.2.1)) then
  some (((iLt a1.2.2.2.1 a0.2.2.2.1),()),())
 else
 bif (! (fEq .f32 (Vec.getD 3 a0.2.1 0 (0:Nat)) (Vec.getD 3 a1.2.1 0 (0:Nat)))) then
  some (((fLt .f32 (Vec.getD 3 a1.2.1 0 (0:Nat)) (Vec.getD 3 a0.2.1 0 (0:Nat))),()),())
 else
 (qcz (Vec.getD 3 a0.2.1 0 (0:Nat)) (Vec.getD 3 a1.2.1 0 (0:Nat))).bind fun y1334 =>
 bif (! y1334.1.1) then
  (qcz (Vec.getD 3 a0.2.1 0 (0:Nat)) (0:Nat)).bind fun y1337 =>
  some ((y1337.1.1,()),())
 else
 bif (! (fEq .f32 (Vec.getD 3 a0.2.1 1 (0:Nat)) (Vec.getD 3 a1.2.1 1 (0:Nat)))) then
  some (((fLt .f32 (Vec.getD 3 a1.2.1 1 (0:Nat)) (Vec.getD 3 a0.2.1 1 (0:Nat))),()),())
 else
 (qcz (Vec.getD 3 a0.2.1 1 (0:Nat)) (Vec.getD 3 a1.2.1 1 (0:Nat))).bind fun y1346 =>
 bif (! y1346.1.1) then
  (qcz (Vec.getD 3 a0.2.1 1 (0:Nat)) (0:Nat)).bind fun y1349 =>
  some ((y1349.1.1,()),())
 else
 bif (! (fEq .f32 (Vec.getD 3 a0.2.1 2 (0:Nat)) (Vec.getD 3 a1.2.1 2 (0:Nat)))) then
  some (((fLt .f32 (Vec.getD 3 a1.2.1 2 (0:Nat)) (Vec.getD 3 a0.2.1 2 (0:Nat))),()),())
 else
 (qcz (Vec.getD 3 a0.2.1 2 (0:Nat)) (Vec.getD 3 a1.2.1 2 (0:Nat))).bind fun y1358 =>
 bif (! y1358.1.1) then
  (qcz (Vec.getD 3 a0.2.1 2 (0:Nat)) (0:Nat)).bind fun y1361 =>
  some ((y1361.1.1,()),())
 else some ((false,()),())
def qoy:Entry:=⟨⟨[.ro Uq1,.ro Uq1],[.v (.val (.bool))],false⟩,fun x=>qee x.1 x.2.1⟩
theorem qwv:Sound Tryz.prog G 252 qoy:=qab (envS (l:=[(104,qrf)]) ⟨(qaaa),trivial⟩) [(8,.unroll 4)] Tryz.func252 (by kernel_rfl) rfl fun _=>by kernel_rfl
def qdq (a0:(List Dq2)) (a1:(Vec 3 Int)) (s1373:(Int×Unit)):Option ((Int×Unit)⊕Dq13) :=
 bif (iLt s1373.1 (lenI a0)) then
  bif inB s1373.1 (List.length a0) then
   (qfi ((List.getD a0 s1373.1.toNat Lq1).1) a1).bind fun y1376 =>
   bif (iLt y1376.1.1 0) then
    some (Sum.inl ((iAdd .i64 s1373.1 1),()))
   else
   Option.map Sum.inr (
    bif (iLt s1373.1 (lenI a0)) then
     bif inB s1373.1 (List.length a0) then
      let x1380:=(List.getD a0 s1373.1.toNat Lq1).1
      some ((s1373.1,(iEq (Vec.getD 3 x1380 0 (0:Int)) (Vec.getD 3 a1 0 (0:Int))&&(iEq (Vec.getD 3 x1380 1 (0:Int)) (Vec.getD 3 a1 1 (0:Int))&&(iEq (Vec.getD 3 x1380 2 (0:Int)) (Vec.getD 3 a1 2 (0:Int))&&true))),()),())
     else none
    else some ((s1373.1,false,()),()))
  else none
 else
 Option.map Sum.inr (
  bif (iLt s1373.1 (lenI a0)) then
   bif inB s1373.1 (List.length a0) then
    let x1383:=(List.getD a0 s1373.1.toNat Lq1).1
    some ((s1373.1,(iEq (Vec.getD 3 x1383 0 (0:Int)) (Vec.getD 3 a1 0 (0:Int))&&(iEq (Vec.getD 3 x1383 1 (0:Int)) (Vec.getD 3 a1 1 (0:Int))&&(iEq (Vec.getD 3 x1383 2 (0:Int)) (Vec.getD 3 a1 2 (0:Int))&&true))),()),())
   else none
  else some ((s1373.1,false,()),()))
def qlt (a0:(List Dq2)) (a1:(Vec 3 Int)):Option Dq13 :=
 run (qdq a0 a1) ((0:Int),())
def qri:Entry:=⟨⟨[.v (.list Uq1),.v (.arr 3 (.int .i32))],[.v (.val (.int .i64)),.v (.val (.bool))],false⟩,fun x=>qlt x.1 x.2.1⟩
theorem qaac:Sound Tryz.prog G 251 qri:=qab (envS (l:=[(191,qij)]) ⟨(qn1),trivial⟩) [(2,.vary [(6,.sc (.int .i64))])] Tryz.func251 (by kernel_rfl) rfl fun _=>by kernel_rfl
def qcu (a0:(List Dq2)) (a1:Dq2):Option (((List Dq2)×Unit)×Unit) :=
 (qlt a0 a1.1).bind fun y1307 =>
 bif inS 0 y1307.1.1 (List.length a0) then
  let x1308:=takeL a0 y1307.1.1
  bif room (0+List.length x1308) 48 then
   let l1309:=([]:(List Dq2))++x1308
   bif y1307.1.2.1 then
    bif inB y1307.1.1 (List.length a0) then
     (qee a1 (List.getD a0 y1307.1.1.toNat Lq1)).bind fun y1310 =>
     bif y1310.1.1 then
      bif room (List.length l1309+1) 48 then
       let l1311:=l1309++([a1]:(List Dq2))
       let x1312:=iAdd .i64 y1307.1.1 1
       bif inS x1312 (lenI a0) (List.length a0) then
        let x1313:=dropL a0 x1312
        bif room (List.length l1311+List.length x1313) 48 then
         some (((l1311++x1313),()),())
        else none
       else none
      else none
     else
     bif inS y1307.1.1 (lenI a0) (List.length a0) then
      let x1315:=dropL a0 y1307.1.1
      bif room (List.length l1309+List.length x1315) 48 then
       some (((l1309++x1315),()),())
      else none
     else none
    else none
   else
   bif room (List.length l1309+1) 48 then
    let l1317:=l1309++([a1]:(List Dq2))
    bif inS y1307.1.1 (lenI a0) (List.length a0) then
     let x1318:=dropL a0 y1307.1.1
     bif room (List.length l1317+List.length x1318) 48 then
      some (((l1317++x1318),()),())
     else none
    else none
   else none
  else none
 else none
def qm3:Entry:=⟨⟨[.v (.list Uq1),.v Uq1],[.v (.rows Uq1)],false⟩,fun x=>qcu x.1 x.2.1⟩
theorem qsw:Sound Tryz.prog G 224 qm3:=qab (envS (l:=[(251,qri),(252,qoy)]) ⟨(qaac),(qwv),trivial⟩) [] Tryz.func224 (by kernel_rfl) rfl fun _=>by kernel_rfl
def qbx (a0:Nat) (a1:(List Dq2)):Option Dq18 :=
 bif (iLt 200 (lenI a1)) then some ((Lq3,(3:Int),()),()) else some ((((a0,a1,()):Dq3),(0:Int),()),())
def qlz:Entry:=⟨⟨[.v (.flt .f32),.v (.list Uq1)],[.v (.val Uq6),.v (.val (.int .i64))],true⟩,fun x=>qbx x.1 x.2.1⟩
theorem qro:Sound Tryz.prog G 225 qlz:=qab (envS (l:=[]) trivial) [] Tryz.func225 (by kernel_rfl) rfl fun _=>by kernel_rfl
def qhj (a0:Dq3) (a1:(Vec 3 Nat)) (a2:Nat) (a3:Int) (a4:Nat):Option ((Dq3×(Vec 3 Int)×Bool×Int×Unit)×(Dq3×Unit)) :=
 (qbo a2).bind fun y1180 =>
 bif (! y1180.1.1) then some ((Lq3,Lq2,false,(2:Int),()),(a0,())) else
 bif (! (fLt .f32 0 a2)) then some ((Lq3,Lq2,false,(2:Int),()),(a0,())) else
 (qgb a3).bind fun y1184 =>
 bif (! y1184.1.1) then some ((Lq3,Lq2,false,(2:Int),()),(a0,())) else
 (qhy a0 a1 a4).bind fun y1186 =>
 bif (! (iEq y1186.1.2.1 0)) then some ((Lq3,Lq2,false,y1186.1.2.1,()),(a0,())) else
 bif room (0+List.length a0.2.1) 48 then
  bif (iLe 0 y1186.1.1) then
   bif inB y1186.1.1 (List.length a0.2.1) then
    let x1190:=List.getD a0.2.1 y1186.1.1.toNat Lq1
    bif inS 0 y1186.1.1 (List.length a0.2.1) then
     let x1191:=takeL a0.2.1 y1186.1.1
     bif room (0+List.length x1191) 48 then
      let l1192:=([]:(List Dq2))++x1191
      let x1193:=iAdd .i64 y1186.1.1 1
      bif inS x1193 (lenI a0.2.1) (List.length a0.2.1) then
       let x1194:=dropL a0.2.1 x1193
       bif room (List.length l1192+List.length x1194) 48 then
        let l1195:=l1192++x1194
        let x1196:=fAdd .f32 x1190.2.2.1 a2
        let x1202:=fDiv .f32 (fAdd .f32 (fMul .f32 x1190.2.2.1 (Vec.getD 3 x1190.2.1 0 (0:Nat))) (fMul .f32 a2 (Vec.getD 3 a1 0 (0:Nat)))) x1196
        let x1208:=fDiv .f32 (fAdd .f32 (fMul .f32 x1190.2.2.1 (Vec.getD 3 x1190.2.1 1 (0:Nat))) (fMul .f32 a2 (Vec.getD 3 a1 1 (0:Nat)))) x1196
        let x1214:=fDiv .f32 (fAdd .f32 (fMul .f32 x1190.2.2.1 (Vec.getD 3 x1190.2.1 2 (0:Nat))) (fMul .f32 a2 (Vec.getD 3 a1 2 (0:Nat)))) x1196
        (qbo x1196).bind fun y1215 =>
        bif (! y1215.1.1) then
         (qjj (iAdd .i64 x1190.2.2.2.1 1) (1000000:Int)).bind fun y1218 =>
         (qji x1190.2.2.2.2.1 a3).bind fun y1219 =>
         (qc0 a0.1 (Vec.set 3 (Vec.set 3 (Vec.set 3 a1 0 x1202) 1 x1208) 2 x1214)).bind fun y1221 =>
         bif (! (iEq y1221.1.2.1 0)) then some ((Lq3,Lq2,false,(3:Int),()),(a0,())) else
         (qcu l1195 ((y1221.1.1,Vec.set 3 (Vec.set 3 (Vec.set 3 a1 0 x1202) 1 x1208) 2 x1214,x1190.2.2.1,y1218.1.1,y1219.1.1,()):Dq2)).bind fun y1223 =>
         (qbx a0.1 y1223.1.1).bind fun y1224 =>
         some ((y1224.1.1,y1221.1.1,(iLe 0 y1186.1.1),y1224.1.2.1,()),(a0,()))
        else
        (qjj (iAdd .i64 x1190.2.2.2.1 1) (1000000:Int)).bind fun y1227 =>
        (qji x1190.2.2.2.2.1 a3).bind fun y1228 =>
        (qc0 a0.1 (Vec.set 3 (Vec.set 3 (Vec.set 3 a1 0 x1202) 1 x1208) 2 x1214)).bind fun y1230 =>
        bif (! (iEq y1230.1.2.1 0)) then some ((Lq3,Lq2,false,(3:Int),()),(a0,())) else
        (qcu l1195 ((y1230.1.1,Vec.set 3 (Vec.set 3 (Vec.set 3 a1 0 x1202) 1 x1208) 2 x1214,x1196,y1227.1.1,y1228.1.1,()):Dq2)).bind fun y1232 =>
        (qbx a0.1 y1232.1.1).bind fun y1233 =>
        some ((y1233.1.1,y1230.1.1,(iLe 0 y1186.1.1),y1233.1.2.1,()),(a0,()))
       else none
      else none
     else none
    else none
   else none
  else
  (qc0 a0.1 a1).bind fun y1235 =>
  bif (! (iEq y1235.1.2.1 0)) then some ((Lq3,Lq2,false,(3:Int),()),(a0,())) else
  (qcu (([]:(List Dq2))++a0.2.1) ((y1235.1.1,a1,a2,1,a3,()):Dq2)).bind fun y1237 =>
  (qbx a0.1 y1237.1.1).bind fun y1238 =>
  some ((y1238.1.1,y1235.1.1,(iLe 0 y1186.1.1),y1238.1.2.1,()),(a0,()))
 else none
def qsx:Entry:=⟨⟨[.io (.val Uq6),.v (.arr 3 (.flt .f32)),.v (.flt .f32),.v (.int .i64),.v (.flt .f32)],[.v (.val Uq6),.v (.val (.arr 3 (.int .i32))),.v (.val (.bool)),.v (.val (.int .i64))],true⟩,fun x=>qhj x.1 x.2.1 x.2.2.1 x.2.2.2.1 x.2.2.2.2.1⟩
theorem qaba:Sound Tryz.prog G 189 qsx:=qab (envS (l:=[(88,qsp),(119,qhw),(153,qc4),(154,qhx),(224,qm3),(225,qlz),(226,qn2),(227,qsq)]) ⟨(qaa4),(qlq),(qd1),(qls),(qsw),(qro),(qv0),(qaa6),trivial⟩) [(13,.unroll 4)] Tryz.func189 (by kernel_rfl) rfl fun _=>by kernel_rfl
def qg3 (a0:Dq3) (a1:(Vec 3 Nat)) (a2:Nat) (a3:Int) (a4:Nat):Option ((Dq3×(Vec 3 Int)×Int×Unit)×Unit) :=
 (qd4 a0).bind fun y1138 =>
 bif (! y1138.1.1) then some ((Lq3,Lq2,(1:Int),()),()) else
 (qhj a0 a1 a2 a3 a4).bind fun y1140 =>
 bif (! (iEq y1140.1.2.2.2.1 0)) then some ((Lq3,Lq2,y1140.1.2.2.2.1,()),()) else some ((y1140.1.1,y1140.1.2.1,(0:Int),()),())
def qmg:Entry:=⟨⟨[.v Uq6,.v (.arr 3 (.flt .f32)),.v (.flt .f32),.v (.int .i64),.v (.flt .f32)],[.v (.val Uq6),.v (.val (.arr 3 (.int .i32))),.v (.val (.int .i64))],true⟩,fun x=>qg3 x.1 x.2.1 x.2.2.1 x.2.2.2.1 x.2.2.2.2.1⟩
theorem quj:Sound Tryz.prog G 156 qmg:=qab (envS (l:=[(157,qhe),(189,qsx)]) ⟨(qjt),(qaba),trivial⟩) [] Tryz.func156 (by kernel_rfl) rfl fun _=>by kernel_rfl
def qfm (a0:Dq1) (a1:Int):Option Dq20 :=
 bif inB a1 (List.length a0.2.1.1) then
  bif inB a1 (List.length a0.1.2.2.1) then
   bif (iEq (((List.getD a0.2.1.1 a1.toNat Lq4).2).1) (lenI (List.getD a0.1.2.2.1 a1.toNat ([]:(List Dq4))))) then
    some (((4:Int),()),(((a0.1,(a0.2.1.1,a0.2.1.2.1,a0.2.1.2.2.1,a0.2.1.2.2.2),a0.2.2):Dq1),()))
   else
   bif inB a1 (List.length a0.1.2.2.1) then
    let x1128:=List.getD a0.1.2.2.1 a1.toNat ([]:(List Dq4))
    let x1129:=((List.getD a0.2.1.1 a1.toNat Lq4).2).1
    bif inB x1129 (List.length x1128) then
     let x1130:=List.getD x1128 x1129.toNat Lq7
     (qg3 ((List.getD a0.2.1.1 a1.toNat Lq4).1) x1130.1 x1130.2.1 x1130.2.2.1 a0.1.2.1).bind fun y1132 =>
     bif (! (iEq y1132.1.2.2.1 0)) then
      some (((3:Int),()),(((a0.1,(a0.2.1.1,a0.2.1.2.1,a0.2.1.2.2.1,a0.2.1.2.2.2),a0.2.2):Dq1),()))
     else
     let w1134:=List.set a0.2.1.1 a1.toNat ((y1132.1.1,(List.getD a0.2.1.1 a1.toNat Lq4).2):Dq9)
     some (((0:Int),()),(((a0.1,((List.set w1134 a1.toNat (((List.getD w1134 a1.toNat Lq4).1,(iAdd .i64 (((List.getD w1134 a1.toNat Lq4).2).1) 1),((List.getD w1134 a1.toNat Lq4).2).2):Dq9)),a0.2.1.2.1,a0.2.1.2.2.1,a0.2.1.2.2.2),a0.2.2):Dq1),()))
    else none
   else none
  else none
 else none
def qn3:Entry:=⟨⟨[.io (.pair (.ro Uq2) (.pair (.pair (.rows Uq3) (.pair (.rows Uq3) (.pair (.rows Uq7) (.val (.unit))))) (.val (.unit)))),.v (.int .i64)],[.v (.val (.int .i64))],true⟩,fun x=>qfm x.1 x.2.1⟩
theorem qv1:Sound Tryz.prog G 122 qn3:=qab (envS (l:=[(156,qmg)]) ⟨(quj),trivial⟩) [] Tryz.func122 (by kernel_rfl) rfl fun _=>by kernel_rfl
def qni (a0:Dq3) (a1:Dq3):Option Dq11 :=
 (qd4 a0).bind fun y1412 =>
 bif (! y1412.1.1) then some (((1:Int),()),()) else
 (qd4 a1).bind fun y1414 =>
 bif (! y1414.1.1) then some (((1:Int),()),()) else
 bif (! (fEq .f32 a0.1 a1.1)) then some (((4:Int),()),()) else some (((0:Int),()),())
def qsy:Entry:=⟨⟨[.ro Uq6,.ro Uq6],[.v (.val (.int .i64))],false⟩,fun x=>qni x.1 x.2.1⟩
theorem qabb:Sound Tryz.prog G 223 qsy:=qab (envS (l:=[(157,qhe)]) ⟨(qjt),trivial⟩) [] Tryz.func223 (by kernel_rfl) rfl fun _=>by kernel_rfl
def qc3 (a1:Dq3) (a0:Dq3) (s1406:((List Dq2)×Int×Unit)):Option (((List Dq2)×Int×Unit)⊕Dq18) :=
 bif (iLt s1406.2.1 (lenI a1.2.1)) then
  bif inB s1406.2.1 (List.length a1.2.1) then
   (qcu s1406.1 (List.getD a1.2.1 s1406.2.1.toNat Lq1)).bind fun y1409 =>
   some (Sum.inl (y1409.1.1,(iAdd .i64 s1406.2.1 1),()))
  else none
 else
 Option.map Sum.inr (
  (qbx a0.1 s1406.1).bind fun y1411 =>
  some ((y1411.1.1,y1411.1.2.1,()),()))
def qga (a0:Dq3) (a1:Dq3):Option Dq18 :=
 (qni a0 a1).bind fun y1403 =>
 bif (! (iEq y1403.1.1 0)) then some ((Lq3,y1403.1.1,()),()) else
 bif room (0+List.length a0.2.1) 48 then
  run (qc3 a1 a0) ((([]:(List Dq2))++a0.2.1),(0:Int),())
 else none
def qov:Entry:=⟨⟨[.v Uq6,.v Uq6],[.v (.val Uq6),.v (.val (.int .i64))],true⟩,fun x=>qga x.1 x.2.1⟩
theorem qwr:Sound Tryz.prog G 188 qov:=qab (envS (l:=[(223,qsy),(224,qm3),(225,qlz)]) ⟨(qabb),(qsw),(qro),trivial⟩) [(6,.vary [(7,.rows Uq1),(8,.sc (.int .i64))])] Tryz.func188 (by kernel_rfl) rfl fun _=>by kernel_rfl
def qih (a0:Nat):Option Dq11 :=
 bif (! (fEq .f32 a0 a0)) then some (((2143289344:Int),()),()) else
 allSame fun (q1485:Nat) =>
 some (((bitsF .f32 a0 q1485),()),())
def qln:Entry:=⟨⟨[.v (.flt .f32)],[.v (.val (.int .u32))],false⟩,fun x=>qih x.1⟩
theorem qrc:Sound Tryz.prog G 228 qln:=qab (envS (l:=[]) trivial) [] Tryz.func228 (by kernel_rfl) rfl fun _=>by kernel_rfl
def qba (a0:List UInt8) (s1455:Dq17):Option (Dq17⊕((Nat×Bool×Unit)×Unit)) :=
 bif (iLt s1455.2.1 8) then
  bif inB s1455.2.1 (List.length a0) then
   let x1457:=strAt a0 s1455.2.1
   bif (iLe 48 x1457) then
    bif (iLe x1457 57) then
     some (Sum.inl ((iAdd .u32 (iMul .u32 s1455.1 16) (iWrap .u32 (iSub .u8 x1457 48))),(iAdd .i64 s1455.2.1 1),()))
    else
    bif (iLe 97 x1457) then
     bif (iLe x1457 102) then
      some (Sum.inl ((iAdd .u32 (iAdd .u32 (iMul .u32 s1455.1 16) (iWrap .u32 (iSub .u8 x1457 97))) 10),(iAdd .i64 s1455.2.1 1),()))
     else
     Option.map Sum.inr (some (((0:Nat),false,()),()))
    else
    Option.map Sum.inr (some (((0:Nat),false,()),()))
   else
   bif (iLe 97 x1457) then
    bif (iLe x1457 102) then
     some (Sum.inl ((iAdd .u32 (iAdd .u32 (iMul .u32 s1455.1 16) (iWrap .u32 (iSub .u8 x1457 97))) 10),(iAdd .i64 s1455.2.1 1),()))
    else
    Option.map Sum.inr (some (((0:Nat),false,()),()))
   else
   Option.map Sum.inr (some (((0:Nat),false,()),()))
  else none
 else
 Option.map Sum.inr (
  (qa9 s1455.1).bind fun y1481 =>
  (qih y1481.1.1).bind fun y1482 =>
  some ((y1481.1.1,(iEq y1482.1.1 s1455.1),()),()))
def qa3 (a0:List UInt8):Option ((Nat×Bool×Unit)×Unit) :=
 bif (! (iEq (lenI a0) 8)) then some (((0:Nat),false,()),()) else run (qba a0) ((0:Int),(0:Int),())
def qlo:Entry:=⟨⟨[.v (.str)],[.v (.val (.flt .f32)),.v (.val (.bool))],false⟩,fun x=>qa3 x.1⟩
theorem qrd:Sound Tryz.prog G 221 qlo:=qab (envS (l:=[(228,qln),(249,qc9)]) ⟨(qrc),(qi4),trivial⟩) [(5,.vary [(4,.sc (.int .u32)),(5,.sc (.int .i64))])] Tryz.func221 (by kernel_rfl) rfl fun _=>by kernel_rfl
def qch (a0:List UInt8) (a1:Int) (s1487:((List (List UInt8))×Int×Int×Unit)):Option (((List (List UInt8))×Int×Int×Unit)⊕(((List (List UInt8))×Unit)×Unit)) :=
 bif (iLt s1487.2.2.1 (lenI a0)) then
  bif inB s1487.2.2.1 (List.length a0) then
   bif (iEq (strAt a0 s1487.2.2.1) a1) then
    bif inS s1487.2.1 s1487.2.2.1 (List.length a0) then
     bif room (List.length s1487.1+1) 16 then
      some (Sum.inl ((s1487.1++([(subL a0 s1487.2.1 s1487.2.2.1)]:(List (List UInt8)))),(iAdd .i64 s1487.2.2.1 1),(iAdd .i64 s1487.2.2.1 1),()))
     else none
    else none
   else
   some (Sum.inl (s1487.1,s1487.2.1,(iAdd .i64 s1487.2.2.1 1),()))
  else none
 else
 Option.map Sum.inr (
  bif inS s1487.2.1 (lenI a0) (List.length a0) then
   bif room (List.length s1487.1+1) 16 then
    some (((s1487.1++([(dropL a0 s1487.2.1)]:(List (List UInt8)))),()),())
   else none
  else none)
def qdy (a0:List UInt8) (a1:Int):Option (((List (List UInt8))×Unit)×Unit) :=
 run (qch a0 a1) (([]:(List (List UInt8))),(0:Int),(0:Int),())
def qke:Entry:=⟨⟨[.v (.str),.v (.int .u8)],[.v (.rows (.str))],false⟩,fun x=>qdy x.1 x.2.1⟩
theorem qpz:Sound Tryz.prog G 79 qke:=qab (envS (l:=[]) trivial) [(4,.vary [(5,.rows (.str)),(6,.sc (.int .i64)),(7,.sc (.int .i64))])] Tryz.func79 (by kernel_rfl) rfl fun _=>by kernel_rfl
def qa6 (a0:List UInt8) (s1538:Dq17):Option (Dq17⊕Dq13) :=
 bif (iLt s1538.2.1 (lenI a0)) then
  bif inB s1538.2.1 (List.length a0) then
   bif (iLt (strAt a0 s1538.2.1) 48) then
    Option.map Sum.inr (some (((0:Int),false,()),()))
   else
   bif inB s1538.2.1 (List.length a0) then
    bif (iLt 57 (strAt a0 s1538.2.1)) then
     Option.map Sum.inr (some (((0:Int),false,()),()))
    else
    bif inB s1538.2.1 (List.length a0) then
     some (Sum.inl ((iAdd .i64 (iMul .i64 s1538.1 10) (iWrap .i64 (iSub .u8 (strAt a0 s1538.2.1) 48))),(iAdd .i64 s1538.2.1 1),()))
    else none
   else none
  else none
 else
 Option.map Sum.inr (some ((s1538.1,true,()),()))
def qmi (a0:List UInt8) (s1550:Dq17):Option (Dq17⊕Dq13) :=
 bif (iLt s1550.2.1 (lenI a0)) then
  bif inB s1550.2.1 (List.length a0) then
   bif (iLt (strAt a0 s1550.2.1) 48) then
    Option.map Sum.inr (some (((0:Int),false,()),()))
   else
   bif inB s1550.2.1 (List.length a0) then
    bif (iLt 57 (strAt a0 s1550.2.1)) then
     Option.map Sum.inr (some (((0:Int),false,()),()))
    else
    bif inB s1550.2.1 (List.length a0) then
     some (Sum.inl ((iAdd .i64 (iMul .i64 s1550.1 10) (iWrap .i64 (iSub .u8 (strAt a0 s1550.2.1) 48))),(iAdd .i64 s1550.2.1 1),()))
    else none
   else none
  else none
 else
 Option.map Sum.inr (some ((s1550.1,true,()),()))
def qbp (a0:List UInt8):Option Dq13 :=
 bif (iLt (lenI a0) 1) then some (((0:Int),false,()),()) else
 bif (iLt 9 (lenI a0)) then some (((0:Int),false,()),()) else
 bif inB 0 (List.length a0) then
  bif (iEq (strAt a0 0) 48) then
   bif (iLt 1 (lenI a0)) then some (((0:Int),false,()),()) else run (qa6 a0) ((0:Int),(0:Int),())
  else run (qmi a0) ((0:Int),(0:Int),())
 else none
def qjb:Entry:=⟨⟨[.v (.str)],[.v (.val (.int .i64)),.v (.val (.bool))],false⟩,fun x=>qbp x.1⟩
theorem qow:Sound Tryz.prog G 120 qjb:=qab (envS (l:=[]) trivial) [(5,.vary [(4,.sc (.int .i64)),(5,.sc (.int .i64))])] Tryz.func120 (by kernel_rfl) rfl fun _=>by kernel_rfl
def qde (a0:List UInt8):Option Dq13 :=
 bif (! (iEq (lenI a0) 10)) then
  (qbp a0).bind fun y1572 =>
  some ((y1572.1.1,y1572.1.2.1,()),())
 else
 bif inS 0 9 (List.length a0) then
  (qbp (takeL a0 9)).bind fun y1574 =>
  bif inB 9 (List.length a0) then
   let x1577:=iSub .i64 (iWrap .i64 (strAt a0 9)) 48
   let x1579:=iAdd .i64 (iMul .i64 y1574.1.1 10) x1577
   bif y1574.1.2.1 then
    bif (iLt 0 y1574.1.1) then
     (qbs x1577 (0:Int) (9:Int)).bind fun y1581 =>
     some ((x1579,y1581.1.1,()),())
    else some ((x1579,false,()),())
   else some ((x1579,false,()),())
  else none
 else none
def qoz:Entry:=⟨⟨[.v (.str)],[.v (.val (.int .i64)),.v (.val (.bool))],false⟩,fun x=>qde x.1⟩
theorem qww:Sound Tryz.prog G 266 qoz:=qab (envS (l:=[(112,qdx),(120,qjb)]) ⟨(qe3),(qow),trivial⟩) [] Tryz.func266 (by kernel_rfl) rfl fun _=>by kernel_rfl
def qbm (a0:List UInt8):Option Dq13 :=
 bif (iLt 1 (lenI a0)) then
  bif inB 0 (List.length a0) then
   bif (iEq (strAt a0 0) 45) then
    bif inS 1 (lenI a0) (List.length a0) then
     (qde (dropL a0 1)).bind fun y1566 =>
     let x1567:=iSub .i64 0 y1566.1.1
     bif y1566.1.2.1 then
      some ((x1567,(iLt 0 y1566.1.1),()),())
     else some ((x1567,false,()),())
    else none
   else
   (qde a0).bind fun y1569 =>
   some ((y1569.1.1,y1569.1.2.1,()),())
  else none
 else
 (qde a0).bind fun y1570 =>
 some ((y1570.1.1,y1570.1.2.1,()),())
def qp1:Entry:=⟨⟨[.v (.str)],[.v (.val (.int .i64)),.v (.val (.bool))],false⟩,fun x=>qbm x.1⟩
theorem qx5:Sound Tryz.prog G 250 qp1:=qab (envS (l:=[(266,qoz)]) ⟨(qww),trivial⟩) [] Tryz.func250 (by kernel_rfl) rfl fun _=>by kernel_rfl
def qlv (a0:List UInt8):Option ((Dq2×Bool×Unit)×Unit) :=
 (qdy a0 (32:Int)).bind fun y1498 =>
 bif (! (iEq (lenI y1498.1.1) 9)) then some ((Lq1,false,()),()) else
 bif inB 0 (List.length y1498.1.1) then
  (qbm (List.getD y1498.1.1 0 ([]:List UInt8))).bind fun y1501 =>
  bif inB 3 (List.length y1498.1.1) then
   (qa3 (List.getD y1498.1.1 3 ([]:List UInt8))).bind fun y1503 =>
   bif (! y1501.1.2.1) then some ((Lq1,false,()),()) else
   bif (! y1503.1.2.1) then some ((Lq1,false,()),()) else
   (qbs y1501.1.1 Lq9 (2147483647:Int)).bind fun y1506 =>
   bif (! y1506.1.1) then some ((Lq1,false,()),()) else
   let x1508:=iWrap .i32 y1501.1.1
   bif inB 1 (List.length y1498.1.1) then
    (qbm (List.getD y1498.1.1 1 ([]:List UInt8))).bind fun y1510 =>
    bif inB 4 (List.length y1498.1.1) then
     (qa3 (List.getD y1498.1.1 4 ([]:List UInt8))).bind fun y1512 =>
     bif (! y1510.1.2.1) then some ((Lq1,false,()),()) else
     bif (! y1512.1.2.1) then some ((Lq1,false,()),()) else
     (qbs y1510.1.1 Lq9 (2147483647:Int)).bind fun y1515 =>
     bif (! y1515.1.1) then some ((Lq1,false,()),()) else
     let x1517:=iWrap .i32 y1510.1.1
     bif inB 2 (List.length y1498.1.1) then
      (qbm (List.getD y1498.1.1 2 ([]:List UInt8))).bind fun y1519 =>
      bif inB 5 (List.length y1498.1.1) then
       (qa3 (List.getD y1498.1.1 5 ([]:List UInt8))).bind fun y1521 =>
       bif (! y1519.1.2.1) then some ((Lq1,false,()),()) else
       bif (! y1521.1.2.1) then some ((Lq1,false,()),()) else
       (qbs y1519.1.1 Lq9 (2147483647:Int)).bind fun y1524 =>
       bif (! y1524.1.1) then some ((Lq1,false,()),()) else
       let x1526:=iWrap .i32 y1519.1.1
       bif inB 6 (List.length y1498.1.1) then
        (qa3 (List.getD y1498.1.1 6 ([]:List UInt8))).bind fun y1528 =>
        bif inB 7 (List.length y1498.1.1) then
         (qbp (List.getD y1498.1.1 7 ([]:List UInt8))).bind fun y1530 =>
         bif inB 8 (List.length y1498.1.1) then
          (qbm (List.getD y1498.1.1 8 ([]:List UInt8))).bind fun y1532 =>
          bif y1528.1.2.1 then
           bif y1530.1.2.1 then
            some (((((x1508,x1517,x1526,()),(y1503.1.1,y1512.1.1,y1521.1.1,()),y1528.1.1,y1530.1.1,y1532.1.1,()):Dq2),y1532.1.2.1,()),())
           else
           some (((((x1508,x1517,x1526,()),(y1503.1.1,y1512.1.1,y1521.1.1,()),y1528.1.1,y1530.1.1,y1532.1.1,()):Dq2),false,()),())
          else
          some (((((x1508,x1517,x1526,()),(y1503.1.1,y1512.1.1,y1521.1.1,()),y1528.1.1,y1530.1.1,y1532.1.1,()):Dq2),false,()),())
         else none
        else none
       else none
      else none
     else none
    else none
   else none
  else none
 else none
def qrl:Entry:=⟨⟨[.v (.str)],[.v (.val Uq1),.v (.val (.bool))],false⟩,fun x=>qlv x.1⟩
theorem qaag:Sound Tryz.prog G 222 qrl:=qab (envS (l:=[(79,qke),(112,qdx),(120,qjb),(221,qlo),(250,qp1)]) ⟨(qpz),(qe3),(qow),(qrd),(qx5),trivial⟩) [(6,.unroll 4)] Tryz.func222 (by kernel_rfl) rfl fun _=>by kernel_rfl
def qct (rec_:Int→Option Dq10) (a0:Int):Option Dq10 :=
 bif (iLe 10 a0) then
  (rec_ (iQuo .i64 a0 10)).bind fun y1621 =>
  let x1625:=ofBytes ([(iWrap .u8 (iAdd .i64 48 (iRem .i64 a0 10)))])
  bif strRoom y1621.1.1 x1625 then
   some (((strCat y1621.1.1 x1625),()),())
  else none
 else
 some (((ofBytes ([(iWrap .u8 (iAdd .i64 48 a0))])),()),())
def qbn:Nat→Int→Option Dq10
 | 0=>fun _=>none
 | k+1=>qct (qbn k)
def qep:Int→Option Dq10:=qbn 64
def spec_Decimal_sg:Sig:=⟨[.v (.int .i64)],[.v (.val (.str))],false⟩
def qlk:Entry:=⟨spec_Decimal_sg,fun x=>qep x.1⟩
theorem qzz (rec_:Int→Option Dq10) {G:List (Nat×Obj)} (x:spec_Decimal_sg.dom):body (env G [(73,⟨spec_Decimal_sg,fun x=>rec_ x.1⟩)]) [] Tryz.f73 spec_Decimal_sg x=qct rec_ x.1:=by kernel_rfl
theorem qq7:Sound Tryz.prog G 73 qlk:=by
 have h : ∀ k,Sound Tryz.prog G 73 ⟨spec_Decimal_sg,fun x=>qbn k x.1⟩:=by
  intro k
  induction k with
  | zero=>exact ⟨rfl,fun _ _ _ _ _ _ _ _ _ _ _ _ h=>by cases h⟩
  | succ k ih=>exact qt9 (envS (l:=[(73,⟨spec_Decimal_sg,fun x=>qbn k x.1⟩)]) (⟨ih,trivial⟩)) Tryz.func73 (by kernel_rfl) rfl (fun x y h=>(qzz (qbn k) (G:=G) x).trans h)
 exact h 64
def qeb (a0:Nat):Option Dq10 :=
 (qih a0).bind fun y1643 =>
 bif (iLe 0 8&&iLe 8 8&&room ((8:Int)).toNat 1) then
  let x1644:=iRem .u32 y1643.1.1 16
  bif inB x1644 (List.length ([48,49,50,51,52,53,54,55,56,57,97,98,99,100,101,102])) then
   bif inB 7 (List.length (List.replicate (((8:Int)).toNat) (0:Int))) then
    let w1646:=List.set (List.replicate (((8:Int)).toNat) (0:Int)) 7 (strAt ([48,49,50,51,52,53,54,55,56,57,97,98,99,100,101,102]) x1644)
    let x1647:=iQuo .u32 y1643.1.1 16
    let x1648:=iRem .u32 x1647 16
    bif inB x1648 (List.length ([48,49,50,51,52,53,54,55,56,57,97,98,99,100,101,102])) then
     let x1649:=strAt ([48,49,50,51,52,53,54,55,56,57,97,98,99,100,101,102]) x1648
     bif inB 6 (List.length w1646) then
      let x1650:=iQuo .u32 x1647 16
      let x1651:=iRem .u32 x1650 16
      bif inB x1651 (List.length ([48,49,50,51,52,53,54,55,56,57,97,98,99,100,101,102])) then
       bif inB 5 (List.length (List.set w1646 6 x1649)) then
        let w1653:=List.set (List.set w1646 6 x1649) 5 (strAt ([48,49,50,51,52,53,54,55,56,57,97,98,99,100,101,102]) x1651)
        let x1654:=iQuo .u32 x1650 16
        let x1655:=iRem .u32 x1654 16
        bif inB x1655 (List.length ([48,49,50,51,52,53,54,55,56,57,97,98,99,100,101,102])) then
         let x1656:=strAt ([48,49,50,51,52,53,54,55,56,57,97,98,99,100,101,102]) x1655
         bif inB 4 (List.length w1653) then
          let x1657:=iQuo .u32 x1654 16
          let x1658:=iRem .u32 x1657 16
          bif inB x1658 (List.length ([48,49,50,51,52,53,54,55,56,57,97,98,99,100,101,102])) then
           bif inB 3 (List.length (List.set w1653 4 x1656)) then
            let w1660:=List.set (List.set w1653 4 x1656) 3 (strAt ([48,49,50,51,52,53,54,55,56,57,97,98,99,100,101,102]) x1658)
            let x1661:=iQuo .u32 x1657 16
            let x1662:=iRem .u32 x1661 16
            bif inB x1662 (List.length ([48,49,50,51,52,53,54,55,56,57,97,98,99,100,101,102])) then
             let x1663:=strAt ([48,49,50,51,52,53,54,55,56,57,97,98,99,100,101,102]) x1662
             bif inB 2 (List.length w1660) then
              let x1664:=iQuo .u32 x1661 16
              let x1665:=iRem .u32 x1664 16
              bif inB x1665 (List.length ([48,49,50,51,52,53,54,55,56,57,97,98,99,100,101,102])) then
               bif inB 1 (List.length (List.set w1660 2 x1663)) then
                let w1667:=List.set (List.set w1660 2 x1663) 1 (strAt ([48,49,50,51,52,53,54,55,56,57,97,98,99,100,101,102]) x1665)
                let x1669:=iRem .u32 (iQuo .u32 x1664 16) 16
                bif inB x1669 (List.length ([48,49,50,51,52,53,54,55,56,57,97,98,99,100,101,102])) then
                 bif inB 0 (List.length w1667) then
                  some (((ofBytes (List.set w1667 0 (strAt ([48,49,50,51,52,53,54,55,56,57,97,98,99,100,101,102]) x1669))),()),())
                 else none
                else none
               else none
              else none
             else none
            else none
           else none
          else none
         else none
        else none
       else none
      else none
     else none
    else none
   else none
  else none
 else none
def qm1:Entry:=⟨⟨[.v (.flt .f32)],[.v (.val (.str))],false⟩,fun x=>qeb x.1⟩
theorem qss:Sound Tryz.prog G 192 qm1:=qab (envS (l:=[(228,qln)]) ⟨(qrc),trivial⟩) [(4,.unroll 9)] Tryz.func192 (by kernel_rfl) rfl fun _=>by kernel_rfl
def qb4 (a0:(List Nat)) (s1631:(List UInt8×Int×Unit)):Option ((List UInt8×Int×Unit)⊕Dq10) :=
 bif (iLt s1631.2.1 (lenI a0)) then
  bif (iLt 0 s1631.2.1) then
   bif strRoom s1631.1 ([32]) then
    let x1634:=strCat s1631.1 ([32])
    bif inB s1631.2.1 (List.length a0) then
     (qeb (List.getD a0 s1631.2.1.toNat (0:Nat))).bind fun y1636 =>
     bif strRoom x1634 y1636.1.1 then
      some (Sum.inl ((strCat x1634 y1636.1.1),(iAdd .i64 s1631.2.1 1),()))
     else none
    else none
   else none
  else
  bif inB s1631.2.1 (List.length a0) then
   (qeb (List.getD a0 s1631.2.1.toNat (0:Nat))).bind fun y1640 =>
   bif strRoom s1631.1 y1640.1.1 then
    some (Sum.inl ((strCat s1631.1 y1640.1.1),(iAdd .i64 s1631.2.1 1),()))
   else none
  else none
 else
 Option.map Sum.inr (some ((s1631.1,()),()))
def qjk (a0:(List Nat)):Option Dq10 :=
 run (qb4 a0) (([]:List UInt8),(0:Int),())
def qst:Entry:=⟨⟨[.v (.list (.flt .f32))],[.v (.val (.str))],false⟩,fun x=>qjk x.1⟩
theorem qaa9:Sound Tryz.prog G 229 qst:=qab (envS (l:=[(192,qm1)]) ⟨(qss),trivial⟩) [(3,.vary [(3,.sc (.str)),(4,.sc (.int .i64))])] Tryz.func229 (by kernel_rfl) rfl fun _=>by kernel_rfl
def qlm (a0:(Vec 3 Nat)):Option Dq10 :=
 (qjk ([Vec.getD 3 a0 0 (0:Nat),Vec.getD 3 a0 1 (0:Nat),Vec.getD 3 a0 2 (0:Nat)]:(List Nat))).bind fun y1630 =>
 some ((y1630.1.1,()),())
def qra:Entry:=⟨⟨[.v (.arr 3 (.flt .f32))],[.v (.val (.str))],false⟩,fun x=>qlm x.1⟩
theorem qz6:Sound Tryz.prog G 194 qra:=qab (envS (l:=[(229,qst)]) ⟨(qaa9),trivial⟩) [] Tryz.func194 (by kernel_rfl) rfl fun _=>by kernel_rfl
def qef (a0:Int):Option Dq10 :=
 bif (iLt a0 0) then
  (qep (iSub .i64 0 a0)).bind fun y1675 =>
  bif strRoom ([45]) y1675.1.1 then
   some (((strCat ([45]) y1675.1.1),()),())
  else none
 else
 (qep a0).bind fun y1677 =>
 some ((y1677.1.1,()),())
def qo0:Entry:=⟨⟨[.v (.int .i64)],[.v (.val (.str))],false⟩,fun x=>qef x.1⟩
theorem qwx:Sound Tryz.prog G 193 qo0:=qab (envS (l:=[(73,qlk)]) ⟨(qq7),trivial⟩) [] Tryz.func193 (by kernel_rfl) rfl fun _=>by kernel_rfl
def qfk (a0:Dq3) (s1585:(List UInt8×Int×Unit)):Option ((List UInt8×Int×Unit)⊕Dq10) :=
 bif (iLt s1585.2.1 (lenI a0.2.1)) then
  bif inB s1585.2.1 (List.length a0.2.1) then
   (qef (iWrap .i64 (Vec.getD 3 ((List.getD a0.2.1 s1585.2.1.toNat Lq1).1) 0 (0:Int)))).bind fun y1589 =>
   bif strRoom y1589.1.1 ([32]) then
    let x1590:=strCat y1589.1.1 ([32])
    bif strRoom s1585.1 x1590 then
     let x1591:=strCat s1585.1 x1590
     (qef (iWrap .i64 (Vec.getD 3 ((List.getD a0.2.1 s1585.2.1.toNat Lq1).1) 1 (0:Int)))).bind fun y1594 =>
     bif strRoom y1594.1.1 ([32]) then
      let x1595:=strCat y1594.1.1 ([32])
      bif strRoom x1591 x1595 then
       let x1596:=strCat x1591 x1595
       (qef (iWrap .i64 (Vec.getD 3 ((List.getD a0.2.1 s1585.2.1.toNat Lq1).1) 2 (0:Int)))).bind fun y1599 =>
       bif strRoom y1599.1.1 ([32]) then
        let x1600:=strCat y1599.1.1 ([32])
        bif strRoom x1596 x1600 then
         let x1601:=strCat x1596 x1600
         (qlm (((List.getD a0.2.1 s1585.2.1.toNat Lq1).2).1)).bind fun y1603 =>
         bif strRoom y1603.1.1 ([32]) then
          let x1604:=strCat y1603.1.1 ([32])
          (qeb ((((List.getD a0.2.1 s1585.2.1.toNat Lq1).2).2).1)).bind fun y1606 =>
          bif strRoom x1604 y1606.1.1 then
           let x1607:=strCat x1604 y1606.1.1
           bif strRoom x1607 ([32]) then
            let x1608:=strCat x1607 ([32])
            (qep (((((List.getD a0.2.1 s1585.2.1.toNat Lq1).2).2).2).1)).bind fun y1610 =>
            bif strRoom x1608 y1610.1.1 then
             let x1611:=strCat x1608 y1610.1.1
             bif strRoom x1611 ([32]) then
              let x1612:=strCat x1611 ([32])
              (qep ((((((List.getD a0.2.1 s1585.2.1.toNat Lq1).2).2).2).2).1)).bind fun y1614 =>
              bif strRoom x1612 y1614.1.1 then
               let x1615:=strCat x1612 y1614.1.1
               bif strRoom x1615 ([10]) then
                let x1616:=strCat x1615 ([10])
                bif strRoom x1601 x1616 then
                 some (Sum.inl ((strCat x1601 x1616),(iAdd .i64 s1585.2.1 1),()))
                else none
               else none
              else none
             else none
            else none
           else none
          else none
         else none
        else none
       else none
      else none
     else none
    else none
   else none
  else none
 else
 Option.map Sum.inr (some ((s1585.1,()),()))
def qge (a0:Dq3):Option Dq10 :=
 (qeb a0.1).bind fun y1582 =>
 bif strRoom ([109,97,112,32]) y1582.1.1 then
  let x1583:=strCat ([109,97,112,32]) y1582.1.1
  bif strRoom x1583 ([10]) then
   run (qfk a0) ((strCat x1583 ([10])),(0:Int),())
  else none
 else none
def qly:Entry:=⟨⟨[.ro Uq6],[.v (.val (.str))],false⟩,fun x=>qge x.1⟩
theorem qrn:Sound Tryz.prog G 158 qly:=qab (envS (l:=[(73,qlk),(192,qm1),(193,qo0),(194,qra)]) ⟨(qq7),(qss),(qwx),(qz6),trivial⟩) [(3,.vary [(3,.sc (.str)),(4,.sc (.int .i64))]),(7,.unroll 4)] Tryz.func158 (by kernel_rfl) rfl fun _=>by kernel_rfl
def qeq (y1418:(((List (List UInt8))×Unit)×Unit)) (a0:List UInt8) (s1437:(Bool×Int×Dq3×Unit)):Option ((Bool×Int×Dq3×Unit)⊕Dq18) :=
 bif (iLt s1437.2.1 (iSub .i64 (lenI y1418.1.1) 1)) then
  bif s1437.1 then
   bif inB s1437.2.1 (List.length y1418.1.1) then
    (qlv (List.getD y1418.1.1 s1437.2.1.toNat ([]:List UInt8))).bind fun y1441 =>
    bif room (List.length s1437.2.2.1.2.1+1) 48 then
     some (Sum.inl (y1441.1.2.1,(iAdd .i64 s1437.2.1 1),((s1437.2.2.1.1,(s1437.2.2.1.2.1++([y1441.1.1]:(List Dq2))),s1437.2.2.1.2.2):Dq3),()))
    else none
   else none
  else
  Option.map Sum.inr (
   bif (! s1437.1) then some ((Lq3,(5:Int),()),()) else
   (qd4 ((s1437.2.2.1.1,s1437.2.2.1.2.1,s1437.2.2.1.2.2):Dq3)).bind fun y1445 =>
   bif (! y1445.1.1) then some ((Lq3,(5:Int),()),()) else
   (qge ((s1437.2.2.1.1,s1437.2.2.1.2.1,s1437.2.2.1.2.2):Dq3)).bind fun y1447 =>
   bif (! (sEq y1447.1.1 a0)) then some ((Lq3,(5:Int),()),()) else some ((((s1437.2.2.1.1,s1437.2.2.1.2.1,s1437.2.2.1.2.2):Dq3),(0:Int),()),()))
 else
 Option.map Sum.inr (
  bif (! s1437.1) then some ((Lq3,(5:Int),()),()) else
  (qd4 ((s1437.2.2.1.1,s1437.2.2.1.2.1,s1437.2.2.1.2.2):Dq3)).bind fun y1450 =>
  bif (! y1450.1.1) then some ((Lq3,(5:Int),()),()) else
  (qge ((s1437.2.2.1.1,s1437.2.2.1.2.1,s1437.2.2.1.2.2):Dq3)).bind fun y1452 =>
  bif (! (sEq y1452.1.1 a0)) then some ((Lq3,(5:Int),()),()) else some ((((s1437.2.2.1.1,s1437.2.2.1.2.1,s1437.2.2.1.2.2):Dq3),(0:Int),()),()))
def qll (a0:List UInt8):Option Dq18 :=
 bif (iLt 40000 (lenI a0)) then some ((Lq3,(2:Int),()),()) else
 (qdy a0 (10:Int)).bind fun y1418 =>
 bif (iLt (lenI y1418.1.1) 2) then some ((Lq3,(5:Int),()),()) else
 let x1420:=iSub .i64 (lenI y1418.1.1) 1
 bif inB x1420 (List.length y1418.1.1) then
  bif (! (sEq (List.getD y1418.1.1 x1420.toNat ([]:List UInt8)) ([]))) then some ((Lq3,(5:Int),()),()) else
  bif inB 0 (List.length y1418.1.1) then
   bif (! (iEq (lenI (List.getD y1418.1.1 0 ([]:List UInt8))) 12)) then some ((Lq3,(5:Int),()),()) else
   bif inB 0 (List.length y1418.1.1) then
    let x1425:=List.getD y1418.1.1 0 ([]:List UInt8)
    bif inS 0 4 (List.length x1425) then
     bif (! (sEq (takeL x1425 4) ([109,97,112,32]))) then some ((Lq3,(5:Int),()),()) else
     bif inB 0 (List.length y1418.1.1) then
      let x1428:=List.getD y1418.1.1 0 ([]:List UInt8)
      bif inS 4 (lenI x1428) (List.length x1428) then
       (qa3 (dropL x1428 4)).bind fun y1430 =>
       run (qeq y1418 a0) (y1430.1.2.1,(1:Int),((y1430.1.1,[],()):Dq3),())
      else none
     else none
    else none
   else none
  else none
 else none
def qq9:Entry:=⟨⟨[.v (.str)],[.v (.pair (.val (.flt .f32)) (.pair (.rows Uq1) (.val (.unit)))),.v (.val (.int .i64))],false⟩,fun x=>qll x.1⟩
theorem qz4:Sound Tryz.prog G 187 qq9:=qab (envS (l:=[(79,qke),(157,qhe),(158,qly),(221,qlo),(222,qrl)]) ⟨(qpz),(qjt),(qrn),(qrd),(qaag),trivial⟩) [(10,.vary [(7,.sc (.bool)),(9,.sc (.int .i64)),(8,.box (.pair (.val (.flt .f32)) (.pair (.rows Uq1) (.val (.unit)))))])] Tryz.func187 (by kernel_rfl) rfl fun _=>by kernel_rfl
def qeu (a0:Dq1) (a1:Dq16):Option ((Unit)×(Dq1×Unit)) :=
 (qll a1.2.1).bind fun y1397 =>
 bif (! (iEq y1397.1.2.1 0)) then
  some ((),(((a0.1,(a0.2.1.1,a0.2.1.2.1,a0.2.1.2.2.1,a0.2.1.2.2.2),a0.2.2):Dq1),()))
 else
 bif inB a1.1 (List.length a0.2.1.1) then
  (qga ((List.getD a0.2.1.1 a1.1.toNat Lq4).1) ((y1397.1.1.1,y1397.1.1.2.1,y1397.1.1.2.2):Dq3)).bind fun y1400 =>
  bif (iEq y1400.1.2.1 0) then
   bif inB a1.1 (List.length a0.2.1.1) then
    some ((),(((a0.1,((List.set a0.2.1.1 a1.1.toNat ((y1400.1.1,(List.getD a0.2.1.1 a1.1.toNat Lq4).2):Dq9)),a0.2.1.2.1,a0.2.1.2.2.1,a0.2.1.2.2.2),a0.2.2):Dq1),()))
   else none
  else
  some ((),(((a0.1,(a0.2.1.1,a0.2.1.2.1,a0.2.1.2.2.1,a0.2.1.2.2.2),a0.2.2):Dq1),()))
 else none
def qmj:Entry:=⟨⟨[.io (.pair (.ro Uq2) (.pair (.pair (.rows Uq3) (.pair (.rows Uq3) (.pair (.rows Uq7) (.val (.unit))))) (.val (.unit)))),.v Uq7],[],true⟩,fun x=>qeu x.1 x.2.1⟩
theorem qul:Sound Tryz.prog G 155 qmj:=qab (envS (l:=[(187,qq9),(188,qov)]) ⟨(qz4),(qwr),trivial⟩) [] Tryz.func155 (by kernel_rfl) rfl fun _=>by kernel_rfl
def qci (a0:Dq1) (a1:Dq6):Option Dq20 :=
 bif (iLe (lenI a0.2.1.2.2.1) a1.2.1) then
  some (((2:Int),()),(((a0.1,(a0.2.1.1,a0.2.1.2.1,a0.2.1.2.2.1,a0.2.1.2.2.2),a0.2.2):Dq1),()))
 else
 bif inB a1.2.1 (List.length a0.2.1.2.2.1) then
  let x1387:=List.getD a0.2.1.2.2.1 a1.2.1.toNat ((0,[],()):Dq16)
  bif (! (iEq a1.1 4)) then
   let x1389:=iAdd .i64 a1.2.1 1
   bif inS x1389 ((List.length a0.2.1.2.2.1:Nat):Int) (List.length a0.2.1.2.2.1) then
    bif room (0+List.length (List.take ((List.length a0.2.1.2.2.1)-x1389.toNat) (List.drop x1389.toNat a0.2.1.2.2.1))) 24 then
     let l1390:=([]:(List Dq16))++(List.take ((List.length a0.2.1.2.2.1)-x1389.toNat) (List.drop x1389.toNat a0.2.1.2.2.1))
     bif inS 0 a1.2.1 (List.length a0.2.1.2.2.1) then
      bif room (0+List.length (List.take a1.2.1.toNat (List.drop 0 a0.2.1.2.2.1))) 24 then
       let l1391:=([]:(List Dq16))++(List.take a1.2.1.toNat (List.drop 0 a0.2.1.2.2.1))
       bif room (List.length l1391+List.length l1390) 24 then
        let l1392:=l1391++l1390
        bif (! (iEq a1.1 5)) then
         (qeu ((a0.1,(a0.2.1.1,a0.2.1.2.1,l1392,a0.2.1.2.2.2),a0.2.2):Dq1) x1387).bind fun y1394 =>
         some (((0:Int),()),(((y1394.2.1.1,(y1394.2.1.2.1.1,y1394.2.1.2.1.2.1,y1394.2.1.2.1.2.2.1,y1394.2.1.2.1.2.2.2),y1394.2.1.2.2):Dq1),()))
        else
        some (((0:Int),()),(((a0.1,(a0.2.1.1,a0.2.1.2.1,l1392,a0.2.1.2.2.2),a0.2.2):Dq1),()))
       else none
      else none
     else none
    else none
   else none
  else
  bif (! (iEq a1.1 5)) then
   (qeu ((a0.1,(a0.2.1.1,a0.2.1.2.1,a0.2.1.2.2.1,a0.2.1.2.2.2),a0.2.2):Dq1) x1387).bind fun y1396 =>
   some (((0:Int),()),(((y1396.2.1.1,(y1396.2.1.2.1.1,y1396.2.1.2.1.2.1,y1396.2.1.2.1.2.2.1,y1396.2.1.2.1.2.2.2),y1396.2.1.2.2):Dq1),()))
  else
  some (((0:Int),()),(((a0.1,(a0.2.1.1,a0.2.1.2.1,a0.2.1.2.2.1,a0.2.1.2.2.2),a0.2.2):Dq1),()))
 else none
def qmk:Entry:=⟨⟨[.io (.pair (.ro Uq2) (.pair (.pair (.rows Uq3) (.pair (.rows Uq3) (.pair (.rows Uq7) (.val (.unit))))) (.val (.unit)))),.v Uq5],[.v (.val (.int .i64))],true⟩,fun x=>qci x.1 x.2.1⟩
theorem qum:Sound Tryz.prog G 121 qmk:=qab (envS (l:=[(155,qmj)]) ⟨(qul),trivial⟩) [] Tryz.func121 (by kernel_rfl) rfl fun _=>by kernel_rfl
def qig (a0:Dq3):Option Dq10 :=
 (qd4 a0).bind fun y1678 =>
 bif (! y1678.1.1) then some ((([]:List UInt8),()),()) else
 (qge a0).bind fun y1680 =>
 some ((y1680.1.1,()),())
def qq8:Entry:=⟨⟨[.v Uq6],[.v (.val (.str))],false⟩,fun x=>qig x.1⟩
theorem qz2:Sound Tryz.prog G 124 qq8:=qab (envS (l:=[(157,qhe),(158,qly)]) ⟨(qjt),(qrn),trivial⟩) [] Tryz.func124 (by kernel_rfl) rfl fun _=>by kernel_rfl
def qes (a0:Dq9):Option ((Dq9×Unit)×Unit) :=
 bif room (0+List.length a0.1.2.1) 48 then
  some (((((a0.1.1,(([]:(List Dq2))++a0.1.2.1),()),a0.2.1,()):Dq9),()),())
 else none
def qrp:Entry:=⟨⟨[.v Uq3],[.v (.pair (.pair (.val (.flt .f32)) (.pair (.rows Uq1) (.val (.unit)))) (.val Uq9))],false⟩,fun x=>qes x.1⟩
theorem qaah:Sound Tryz.prog G 123 qrp:=qab (envS (l:=[]) trivial) [] Tryz.func123 (by kernel_rfl) rfl fun _=>by kernel_rfl
def qb5 (a0:Dq1) (a1:Dq6):Option Dq20 :=
 bif (iEq a1.1 3) then
  (qci ((a0.1,(a0.2.1.1,a0.2.1.2.1,a0.2.1.2.2.1,a0.2.1.2.2.2),a0.2.2):Dq1) a1).bind fun y1088 =>
  some ((y1088.1.1,()),(((y1088.2.1.1,(y1088.2.1.2.1.1,y1088.2.1.2.1.2.1,y1088.2.1.2.1.2.2.1,y1088.2.1.2.1.2.2.2),y1088.2.1.2.2):Dq1),()))
 else
 bif (iEq a1.1 4) then
  (qci ((a0.1,(a0.2.1.1,a0.2.1.2.1,a0.2.1.2.2.1,a0.2.1.2.2.2),a0.2.2):Dq1) a1).bind fun y1090 =>
  some ((y1090.1.1,()),(((y1090.2.1.1,(y1090.2.1.2.1.1,y1090.2.1.2.1.2.1,y1090.2.1.2.1.2.2.1,y1090.2.1.2.1.2.2.2),y1090.2.1.2.2):Dq1),()))
 else
 bif (iEq a1.1 5) then
  (qci ((a0.1,(a0.2.1.1,a0.2.1.2.1,a0.2.1.2.2.1,a0.2.1.2.2.2),a0.2.2):Dq1) a1).bind fun y1092 =>
  some ((y1092.1.1,()),(((y1092.2.1.1,(y1092.2.1.2.1.1,y1092.2.1.2.1.2.1,y1092.2.1.2.1.2.2.1,y1092.2.1.2.1.2.2.2),y1092.2.1.2.2):Dq1),()))
 else
 bif (iLe (lenI a0.2.1.1) a1.2.1) then
  some (((2:Int),()),(((a0.1,(a0.2.1.1,a0.2.1.2.1,a0.2.1.2.2.1,a0.2.1.2.2.2),a0.2.2):Dq1),()))
 else
 bif (iEq a1.1 2) then
  bif (iLe (lenI a0.2.1.1) a1.2.2.1) then
   some (((2:Int),()),(((a0.1,(a0.2.1.1,a0.2.1.2.1,a0.2.1.2.2.1,a0.2.1.2.2.2),a0.2.2):Dq1),()))
  else
  bif (iEq a1.2.1 a1.2.2.1) then
   some (((2:Int),()),(((a0.1,(a0.2.1.1,a0.2.1.2.1,a0.2.1.2.2.1,a0.2.1.2.2.2),a0.2.2):Dq1),()))
  else
  bif (iEq a1.1 1) then
   (qfm ((a0.1,(a0.2.1.1,a0.2.1.2.1,a0.2.1.2.2.1,a0.2.1.2.2.2),a0.2.2):Dq1) a1.2.1).bind fun y1098 =>
   some ((y1098.1.1,()),(((y1098.2.1.1,(y1098.2.1.2.1.1,y1098.2.1.2.1.2.1,y1098.2.1.2.1.2.2.1,y1098.2.1.2.1.2.2.2),y1098.2.1.2.2):Dq1),()))
  else
  bif (iEq a1.1 6) then
   bif inB a1.2.1 (List.length a0.2.1.1) then
    (qes (List.getD a0.2.1.1 a1.2.1.toNat Lq4)).bind fun y1101 =>
    bif inB a1.2.1 (List.length a0.2.1.2.1) then
     some (((0:Int),()),(((a0.1,(a0.2.1.1,(List.set a0.2.1.2.1 a1.2.1.toNat (((y1101.1.1.1.1,y1101.1.1.1.2.1,y1101.1.1.1.2.2),y1101.1.1.2):Dq9)),a0.2.1.2.2.1,a0.2.1.2.2.2),a0.2.2):Dq1),()))
    else none
   else none
  else
  bif (iEq a1.1 7) then
   bif inB a1.2.1 (List.length a0.2.1.2.1) then
    (qes (List.getD a0.2.1.2.1 a1.2.1.toNat Lq4)).bind fun y1105 =>
    bif inB a1.2.1 (List.length a0.2.1.1) then
     some (((0:Int),()),(((a0.1,((List.set a0.2.1.1 a1.2.1.toNat (((y1105.1.1.1.1,y1105.1.1.1.2.1,y1105.1.1.1.2.2),y1105.1.1.2):Dq9)),a0.2.1.2.1,a0.2.1.2.2.1,a0.2.1.2.2.2),a0.2.2):Dq1),()))
    else none
   else none
  else
  bif (iLe 10 (lenI a0.2.1.2.2.1)) then
   some (((3:Int),()),(((a0.1,(a0.2.1.1,a0.2.1.2.1,a0.2.1.2.2.1,a0.2.1.2.2.2),a0.2.2):Dq1),()))
  else
  bif inB a1.2.1 (List.length a0.2.1.1) then
   (qig ((List.getD a0.2.1.1 a1.2.1.toNat Lq4).1)).bind fun y1109 =>
   bif room (List.length a0.2.1.2.2.1+1) 24 then
    some (((0:Int),()),(((a0.1,(a0.2.1.1,a0.2.1.2.1,(a0.2.1.2.2.1++([(a1.2.2.1,y1109.1.1,())]:(List Dq16))),a0.2.1.2.2.2),a0.2.2):Dq1),()))
   else none
  else none
 else
 bif (iEq a1.1 1) then
  (qfm ((a0.1,(a0.2.1.1,a0.2.1.2.1,a0.2.1.2.2.1,a0.2.1.2.2.2),a0.2.2):Dq1) a1.2.1).bind fun y1112 =>
  some ((y1112.1.1,()),(((y1112.2.1.1,(y1112.2.1.2.1.1,y1112.2.1.2.1.2.1,y1112.2.1.2.1.2.2.1,y1112.2.1.2.1.2.2.2),y1112.2.1.2.2):Dq1),()))
 else
 bif (iEq a1.1 6) then
  bif inB a1.2.1 (List.length a0.2.1.1) then
   (qes (List.getD a0.2.1.1 a1.2.1.toNat Lq4)).bind fun y1115 =>
   bif inB a1.2.1 (List.length a0.2.1.2.1) then
    some (((0:Int),()),(((a0.1,(a0.2.1.1,(List.set a0.2.1.2.1 a1.2.1.toNat (((y1115.1.1.1.1,y1115.1.1.1.2.1,y1115.1.1.1.2.2),y1115.1.1.2):Dq9)),a0.2.1.2.2.1,a0.2.1.2.2.2),a0.2.2):Dq1),()))
   else none
  else none
 else
 bif (iEq a1.1 7) then
  bif inB a1.2.1 (List.length a0.2.1.2.1) then
   (qes (List.getD a0.2.1.2.1 a1.2.1.toNat Lq4)).bind fun y1119 =>
   bif inB a1.2.1 (List.length a0.2.1.1) then
    some (((0:Int),()),(((a0.1,((List.set a0.2.1.1 a1.2.1.toNat (((y1119.1.1.1.1,y1119.1.1.1.2.1,y1119.1.1.1.2.2),y1119.1.1.2):Dq9)),a0.2.1.2.1,a0.2.1.2.2.1,a0.2.1.2.2.2),a0.2.2):Dq1),()))
   else none
  else none
 else
 bif (iLe 10 (lenI a0.2.1.2.2.1)) then
  some (((3:Int),()),(((a0.1,(a0.2.1.1,a0.2.1.2.1,a0.2.1.2.2.1,a0.2.1.2.2.2),a0.2.2):Dq1),()))
 else
 bif inB a1.2.1 (List.length a0.2.1.1) then
  (qig ((List.getD a0.2.1.1 a1.2.1.toNat Lq4).1)).bind fun y1123 =>
  bif room (List.length a0.2.1.2.2.1+1) 24 then
   some (((0:Int),()),(((a0.1,(a0.2.1.1,a0.2.1.2.1,(a0.2.1.2.2.1++([(a1.2.2.1,y1123.1.1,())]:(List Dq16))),a0.2.1.2.2.2),a0.2.2):Dq1),()))
  else none
 else none
def qo1:Entry:=⟨⟨[.io (.pair (.ro Uq2) (.pair (.pair (.rows Uq3) (.pair (.rows Uq3) (.pair (.rows Uq7) (.val (.unit))))) (.val (.unit)))),.v Uq5],[.v (.val (.int .i64))],true⟩,fun x=>qb5 x.1 x.2.1⟩
theorem qwy:Sound Tryz.prog G 83 qo1:=qab (envS (l:=[(121,qmk),(122,qn3),(123,qrp),(124,qq8)]) ⟨(qum),(qv1),(qaah),(qz2),trivial⟩) [] Tryz.func83 (by kernel_rfl) rfl fun _=>by kernel_rfl
def qer (a0:Dq7) (s1685:(Int×Dq1×Unit)):Option ((Int×Dq1×Unit)⊕((Dq1×Unit)×Unit)) :=
 bif (iLt s1685.1 (lenI a0.2.2.1)) then
  bif room (List.length s1685.2.1.2.1.1+1) 40 then
   bif room (List.length s1685.2.1.2.1.2.1+1) 40 then
    some (Sum.inl ((iAdd .i64 s1685.1 1),((s1685.2.1.1,((s1685.2.1.2.1.1++([((a0.1,[],()),0,())]:(List Dq9))),(s1685.2.1.2.1.2.1++([((a0.1,[],()),0,())]:(List Dq9))),s1685.2.1.2.1.2.2.1,s1685.2.1.2.1.2.2.2),s1685.2.1.2.2):Dq1),()))
   else none
  else none
 else
 Option.map Sum.inr (some ((((s1685.2.1.1,(s1685.2.1.2.1.1,s1685.2.1.2.1.2.1,s1685.2.1.2.1.2.2.1,s1685.2.1.2.1.2.2.2),s1685.2.1.2.2):Dq1),()),()))
def qju (a0:Dq7):Option ((Dq1×Unit)×Unit) :=
 run (qer a0) ((0:Int),((a0,([],[],[],()),()):Dq1),())
def qp2:Entry:=⟨⟨[.ro Uq2],[.p (.pair (.ro Uq2) (.pair (.pair (.rows Uq3) (.pair (.rows Uq3) (.pair (.rows Uq7) (.val (.unit))))) (.val (.unit))))],true⟩,fun x=>qju x.1⟩
theorem qx6:Sound Tryz.prog G 80 qp2:=qab (envS (l:=[]) trivial) [(3,.vary [(4,.sc (.int .i64)),(3,.box (.pair (.ro Uq2) (.pair (.pair (.rows Uq3) (.pair (.rows Uq3) (.pair (.rows Uq7) (.val (.unit))))) (.val (.unit)))))])] Tryz.func80 (by kernel_rfl) rfl fun _=>by kernel_rfl
def qfl (a1:(List Dq6)) (s1081:((List Int)×Int×Dq1×Unit)):Option (((List Int)×Int×Dq1×Unit)⊕((Dq1×(List Int)×Unit)×Unit)) :=
 bif (iLt s1081.2.1 (lenI a1)) then
  bif inB s1081.2.1 (List.length a1) then
   (qb5 ((s1081.2.2.1.1,(s1081.2.2.1.2.1.1,s1081.2.2.1.2.1.2.1,s1081.2.2.1.2.1.2.2.1,s1081.2.2.1.2.1.2.2.2),s1081.2.2.1.2.2):Dq1) (List.getD a1 s1081.2.1.toNat Lq10)).bind fun y1084 =>
   bif room (List.length s1081.1+1) 8 then
    some (Sum.inl ((s1081.1++([y1084.1.1]:(List Int))),(iAdd .i64 s1081.2.1 1),((y1084.2.1.1,(y1084.2.1.2.1.1,y1084.2.1.2.1.2.1,y1084.2.1.2.1.2.2.1,y1084.2.1.2.1.2.2.2),y1084.2.1.2.2):Dq1),()))
   else none
  else none
 else
 Option.map Sum.inr (some ((((s1081.2.2.1.1,(s1081.2.2.1.2.1.1,s1081.2.2.1.2.1.2.1,s1081.2.2.1.2.1.2.2.1,s1081.2.2.1.2.1.2.2.2),s1081.2.2.1.2.2):Dq1),s1081.1,()),()))
def ql1 (a0:Dq7) (a1:(List Dq6)):Option ((Dq1×(List Int)×Unit)×Unit) :=
 (qju a0).bind fun y1074 =>
 run (qfl a1) (([]:(List Int)),(0:Int),((y1074.1.1.1,(y1074.1.1.2.1.1,y1074.1.1.2.1.2.1,y1074.1.1.2.1.2.2.1,y1074.1.1.2.1.2.2.2),y1074.1.1.2.2):Dq1),())
def qrr:Entry:=⟨⟨[.ro Uq2,.v (.list Uq5)],[.p (.pair (.ro Uq2) (.pair (.pair (.rows Uq3) (.pair (.rows Uq3) (.pair (.rows Uq7) (.val (.unit))))) (.val (.unit)))),.v (.rows (.int .i64))],true⟩,fun x=>ql1 x.1 x.2.1⟩
theorem qaak:Sound Tryz.prog G 44 qrr:=qab (envS (l:=[(80,qp2),(83,qo1)]) ⟨(qx6),(qwy),trivial⟩) [(4,.vary [(7,.rows (.int .i64)),(8,.sc (.int .i64)),(6,.box (.pair (.ro Uq2) (.pair (.pair (.rows Uq3) (.pair (.rows Uq3) (.pair (.rows Uq7) (.val (.unit))))) (.val (.unit)))))])] Tryz.func44 (by kernel_rfl) rfl fun _=>by kernel_rfl
def qdc (y982:((Dq1×(List Int)×Unit)×Unit)) (s983:(Int×Unit)):Option ((Int×Unit)⊕((Int×Int×Int×Unit)×Unit)) :=
 bif (iLt s983.1 (lenI y982.1.2.1)) then
  bif inB s983.1 (List.length y982.1.2.1) then
   bif (! (iEq (List.getD y982.1.2.1 s983.1.toNat (0:Int)) 0)) then
    bif inB s983.1 (List.length y982.1.2.1) then
     Option.map Sum.inr (some ((s983.1,(List.getD y982.1.2.1 s983.1.toNat (0:Int)),(0:Int),()),()))
    else none
   else
   some (Sum.inl ((iAdd .i64 s983.1 1),()))
  else none
 else
 Option.map Sum.inr (some (((0:Int),(0:Int),(6:Int),()),()))
def qg4 (a0:Dq7) (a1:(List Dq6)):Option ((Int×Int×Int×Unit)×Unit) :=
 (qjv a0 a1).bind fun y980 =>
 bif (! (iEq y980.1.1 0)) then some (((0:Int),(0:Int),y980.1.1,()),()) else
 (ql1 a0 a1).bind fun y982 =>
 run (qdc y982) ((0:Int),())
def qmh:Entry:=⟨⟨[.v Uq2,.v (.list Uq5)],[.v (.val (.int .i64)),.v (.val (.int .i64)),.v (.val (.int .i64))],false⟩,fun x=>qg4 x.1 x.2.1⟩
theorem quk:Sound Tryz.prog G 25 qmh:=qab (envS (l:=[(43,qp3),(44,qrr)]) ⟨(qx7),(qaak),trivial⟩) [(1000004,.frz [2]),(6,.vary [(10,.sc (.int .i64))])] Tryz.func25 (by kernel_rfl) rfl fun _=>by kernel_rfl
def qey (a0:Dq7) (a1:(List Dq6)):Option Dq8 :=
 (qlc a0 (1048576:Int)).bind fun y1 =>
 bif (iLt y1.1.1 0) then some ((true,()),()) else
 (qlb a1 y1.1.1).bind fun y3 =>
 bif (iLt y3.1.1 0) then some ((true,()),()) else
 (qf8 a0).bind fun y5 =>
 (qf7 a1).bind fun y6 =>
 (qg4 ((y5.1.1.1,y5.1.1.2.1,y5.1.1.2.2.1,y5.1.1.2.2.2):Dq7) y6.1.1).bind fun y7 =>
 (qf8 a0).bind fun y8 =>
 (qf7 a1).bind fun y9 =>
 (qgq ((y8.1.1.1,y8.1.1.2.1,y8.1.1.2.2.1,y8.1.1.2.2.2):Dq7) y9.1.1).bind fun y10 =>
 bif (! (iEq y10.1.1 y7.1.1)) then some ((false,()),()) else
 bif (! (iEq y10.1.2.1 y7.1.2.1)) then some ((false,()),()) else
 bif (! (iEq y10.1.2.2.1 y7.1.2.2.1)) then some ((false,()),()) else
 (qf8 a0).bind fun y14 =>
 (qk9 ((y8.1.1.1,y8.1.1.2.1,y8.1.1.2.2.1,y8.1.1.2.2.2):Dq7) ((y14.1.1.1,y14.1.1.2.1,y14.1.1.2.2.1,y14.1.1.2.2.2):Dq7)).bind fun y15 =>
 bif (! y15.1.1) then some ((false,()),()) else
 (qf7 a1).bind fun y17 =>
 (qk7 y9.1.1 y17.1.1).bind fun y18 =>
 bif (! y18.1.1) then some ((false,()),()) else some ((true,()),())
def qhb:Entry:=⟨⟨[.v Uq2,.v (.list Uq5)],[.v (.val (.bool))],false⟩,fun x=>qey x.1 x.2.1⟩
theorem qn9 (mx:GMax 4 G) (tb:GTab Tryz.prog G) (sy:GErr 1 G) (ra:GErr 2 G) (db:GDeb Tryz.prog G):Sound Tryz.prog G 5 qhb:=qab (envS (l:=[(23,qqu),(24,qqt),(25,qmh),(26,qqw),(27,qqv),(28,qmc),(29,qqr),(30,qqq)]) ⟨(qzc),(qza),(quk),(qzg),(qze),(quf mx tb sy ra db),(qy6),(qy4),trivial⟩) [] Tryz.func5 (by kernel_rfl) rfl fun _=>by kernel_rfl
end
end Go.Proofs.YtjhdoneobdbeaaaGreatDoor
