import Derived.Test.YtjhdoneobdbeaaaGreatDoorF2
/- Functions on typed data: what the evaluation of each Go function is, and that it is sound. -/
set_option linter.unusedVariables false
namespace Go.Proofs.YtjhdoneobdbeaaaGreatDoor
open Go Go.Tm
noncomputable section
set_option maxRecDepth 100000
variable {G : List (Nat × Obj)}
def qu7 (a0:(Vec 3 Nat)) (a1:(Vec 3 Nat)):Option Dq19 :=
 some (((fAdd .f32 (fAdd .f32 (fMul .f32 (Vec.getD 3 a0 0 (0:Nat)) (Vec.getD 3 a1 0 (0:Nat))) (fMul .f32 (Vec.getD 3 a0 1 (0:Nat)) (Vec.getD 3 a1 1 (0:Nat)))) (fMul .f32 (Vec.getD 3 a0 2 (0:Nat)) (Vec.getD 3 a1 2 (0:Nat)))),()),())
def qvy:Entry:=⟨⟨[.v (.arr 3 (.flt .f32)),.v (.arr 3 (.flt .f32))],[.v (.val (.flt .f32))],false⟩,fun x=>qu7 x.1 x.2.1⟩
theorem qaed:Sound Tryz.prog G 268 qvy:=qab (envS (l:=[]) trivial) [] Tryz.func268 (by kernel_rfl) rfl fun _=>by kernel_rfl
def qoc (a0:Nat):Option Dq19 :=
 (fConv .f32 .f64 a0).bind fun y1283 =>
 (qt2 y1283).bind fun y1284 =>
 (fConv .f64 .f32 y1284.1.1).bind fun y1285 =>
 some ((y1285,()),())
def qui:Entry:=⟨⟨[.v (.flt .f32)],[.v (.val (.flt .f32))],false⟩,fun x=>qoc x.1⟩
theorem qadd:Sound Tryz.prog G 267 qui:=qab (envS (l:=[(274,qsq)]) ⟨(qyy),trivial⟩) [] Tryz.func267 (by kernel_rfl) rfl fun _=>by kernel_rfl
def qku (a0:Dq2) (a1:(Vec 3 Nat)):Option Dq19 :=
 let x1263:=fSub .f32 (Vec.getD 3 a0.2.1 0 (0:Nat)) (Vec.getD 3 a1 0 (0:Nat))
 let x1266:=fSub .f32 (Vec.getD 3 a0.2.1 1 (0:Nat)) (Vec.getD 3 a1 1 (0:Nat))
 let x1269:=fSub .f32 (Vec.getD 3 a0.2.1 2 (0:Nat)) (Vec.getD 3 a1 2 (0:Nat))
 (qu7 ((x1263,x1266,x1269,()):(Vec 3 Nat)) ((x1263,x1266,x1269,()):(Vec 3 Nat))).bind fun y1270 =>
 (qoc y1270.1.1).bind fun y1271 =>
 some ((y1271.1.1,()),())
def quj:Entry:=⟨⟨[.ro Uq1,.v (.arr 3 (.flt .f32))],[.v (.val (.flt .f32))],false⟩,fun x=>qku x.1 x.2.1⟩
theorem qade:Sound Tryz.prog G 254 quj:=qab (envS (l:=[(267,qui),(268,qvy)]) ⟨(qadd),(qaed),trivial⟩) [] Tryz.func254 (by kernel_rfl) rfl fun _=>by kernel_rfl
def qio (a0:(Vec 3 Int)) (a1:(Vec 3 Int)):Option Dq8 :=
 let x1290:=iSub .i64 (iWrap .i64 (Vec.getD 3 a0 0 (0:Int))) (iWrap .i64 (Vec.getD 3 a1 0 (0:Int)))
 bif (iLt 1 x1290) then some ((false,()),()) else
 bif (iLt x1290 (-1:Int)) then some ((false,()),()) else
 let x1297:=iSub .i64 (iWrap .i64 (Vec.getD 3 a0 1 (0:Int))) (iWrap .i64 (Vec.getD 3 a1 1 (0:Int)))
 bif (iLt 1 x1297) then some ((false,()),()) else
 bif (iLt x1297 (-1:Int)) then some ((false,()),()) else
 let x1304:=iSub .i64 (iWrap .i64 (Vec.getD 3 a0 2 (0:Int))) (iWrap .i64 (Vec.getD 3 a1 2 (0:Int)))
 bif (iLt 1 x1304) then some ((false,()),()) else
 bif (iLt x1304 (-1:Int)) then some ((false,()),()) else some ((true,()),())
def qrs:Entry:=⟨⟨[.v (.arr 3 (.int .i32)),.v (.arr 3 (.int .i32))],[.v (.val (.bool))],false⟩,fun x=>qio x.1 x.2.1⟩
theorem qz8:Sound Tryz.prog G 253 qrs:=qab (envS (l:=[]) trivial) [(2,.unroll 4)] Tryz.func253 (by kernel_rfl) rfl fun _=>by kernel_rfl
def qhm (a0:Dq3) (y1242:Dq25) (a1:(Vec 3 Nat)) (a2:Nat) (s1247:(Int×Nat×Int×Unit)):Option ((Int×Nat×Int×Unit)⊕(Dq21×Unit)) :=
 bif (iLt s1247.2.2.1 (lenI a0.2.1)) then
  bif inB s1247.2.2.1 (List.length a0.2.1) then
   (qio ((List.getD a0.2.1 s1247.2.2.1.toNat Lq1).1) y1242.1.1).bind fun y1250 =>
   bif (! y1250.1.1) then
    some (Sum.inl (s1247.1,s1247.2.1,(iAdd .i64 s1247.2.2.1 1),()))
   else
   bif inB s1247.2.2.1 (List.length a0.2.1) then
    (qku (List.getD a0.2.1 s1247.2.2.1.toNat Lq1) a1).bind fun y1253 =>
    bif (fLe .f32 y1253.1.1 a2) then
     bif (iLt s1247.1 0) then
      some (Sum.inl (s1247.2.2.1,y1253.1.1,(iAdd .i64 s1247.2.2.1 1),()))
     else
     bif (fLt .f32 y1253.1.1 s1247.2.1) then
      some (Sum.inl (s1247.2.2.1,y1253.1.1,(iAdd .i64 s1247.2.2.1 1),()))
     else
     some (Sum.inl (s1247.1,s1247.2.1,(iAdd .i64 s1247.2.2.1 1),()))
    else
    some (Sum.inl (s1247.1,s1247.2.1,(iAdd .i64 s1247.2.2.1 1),()))
   else none
  else none
 else
 Option.map Sum.inr (some ((s1247.1,(0:Int),()),()))
def qkd (a0:Dq3) (a1:(Vec 3 Nat)) (a2:Nat):Option (Dq21×Unit) :=
 (qd1 a0.1 a1).bind fun y1242 =>
 bif (iEq y1242.1.2.1 2) then some ((Lq7,(2:Int),()),()) else
 bif (! (fLe .f32 0 a2)) then some ((Lq7,(2:Int),()),()) else
 bif (! (iEq y1242.1.2.1 0)) then some ((Lq7,y1242.1.2.1,()),()) else run (qhm a0 y1242 a1 a2) (Lq7,(0:Nat),(0:Int),())
def qqw:Entry:=⟨⟨[.ro Uq4,.v (.arr 3 (.flt .f32)),.v (.flt .f32)],[.v (.val (.int .i64)),.v (.val (.int .i64))],false⟩,fun x=>qkd x.1 x.2.1 x.2.2.1⟩
theorem qzi:Sound Tryz.prog G 226 qqw:=qab (envS (l:=[(154,qkc),(253,qrs),(254,quj)]) ⟨(qof),(qz8),(qade),trivial⟩) [(9,.vary [(10,.sc (.int .i64)),(11,.sc (.flt .f32)),(12,.sc (.int .i64))])] Tryz.func226 (by kernel_rfl) rfl fun _=>by kernel_rfl
def qbq (a0:Nat) (a1:Nat):Option Dq8 :=
 bif (! (fEq .f32 a0 a0)) then
  bif (! (fEq .f32 a0 a0)) then
   some (((! (fEq .f32 a1 a1)),()),())
  else some ((false,()),())
 else
 bif (! (fEq .f32 a1 a1)) then
  bif (! (fEq .f32 a0 a0)) then
   some (((! (fEq .f32 a1 a1)),()),())
  else some ((false,()),())
 else
 allSame fun (q1368:Nat) =>
 allSame fun (q1370:Nat) =>
 some (((iEq (bitsF .f32 a0 q1368) (bitsF .f32 a1 q1370)),()),())
def qhi:Entry:=⟨⟨[.v (.flt .f32),.v (.flt .f32)],[.v (.val (.bool))],false⟩,fun x=>qbq x.1 x.2.1⟩
theorem qka:Sound Tryz.prog G 104 qhi:=qab (envS (l:=[]) trivial) [] Tryz.func104 (by kernel_rfl) rfl fun _=>by kernel_rfl
def qf4 (a0:Dq2) (a1:Dq2):Option Dq8 :=
 bif (! (iEq a0.2.2.2.2.1 a1.2.2.2.2.1)) then
  some (((iLt a1.2.2.2.2.1 a0.2.2.2.2.1),()),())
 else
 bif (! (fEq .f32 a0.2.2.1 a1.2.2.1)) then
  some (((fLt .f32 a1.2.2.1 a0.2.2.1),()),())
 else
 bif (! (iEq a0.2.2.2.1 a1.2.2.2.1)) then
  some (((iLt a1.2.2.2.1 a0.2.2.2.1),()),())
 else
 bif (! (fEq .f32 (Vec.getD 3 a0.2.1 0 (0:Nat)) (Vec.getD 3 a1.2.1 0 (0:Nat)))) then
  some (((fLt .f32 (Vec.getD 3 a1.2.1 0 (0:Nat)) (Vec.getD 3 a0.2.1 0 (0:Nat))),()),())
 else
 (qbq (Vec.getD 3 a0.2.1 0 (0:Nat)) (Vec.getD 3 a1.2.1 0 (0:Nat))).bind fun y1334 =>
 bif (! y1334.1.1) then
  (qbq (Vec.getD 3 a0.2.1 0 (0:Nat)) (0:Nat)).bind fun y1337 =>
  some ((y1337.1.1,()),())
 else
 bif (! (fEq .f32 (Vec.getD 3 a0.2.1 1 (0:Nat)) (Vec.getD 3 a1.2.1 1 (0:Nat)))) then
  some (((fLt .f32 (Vec.getD 3 a1.2.1 1 (0:Nat)) (Vec.getD 3 a0.2.1 1 (0:Nat))),()),())
 else
 (qbq (Vec.getD 3 a0.2.1 1 (0:Nat)) (Vec.getD 3 a1.2.1 1 (0:Nat))).bind fun y1346 =>
 bif (! y1346.1.1) then
  (qbq (Vec.getD 3 a0.2.1 1 (0:Nat)) (0:Nat)).bind fun y1349 =>
  some ((y1349.1.1,()),())
 else
 bif (! (fEq .f32 (Vec.getD 3 a0.2.1 2 (0:Nat)) (Vec.getD 3 a1.2.1 2 (0:Nat)))) then
  some (((fLt .f32 (Vec.getD 3 a1.2.1 2 (0:Nat)) (Vec.getD 3 a0.2.1 2 (0:Nat))),()),())
 else
 (qbq (Vec.getD 3 a0.2.1 2 (0:Nat)) (Vec.getD 3 a1.2.1 2 (0:Nat))).bind fun y1358 =>
 bif (! y1358.1.1) then
  (qbq (Vec.getD 3 a0.2.1 2 (0:Nat)) (0:Nat)).bind fun y1361 =>
  some ((y1361.1.1,()),())
 else some ((false,()),())
def qrt:Entry:=⟨⟨[.ro Uq1,.ro Uq1],[.v (.val (.bool))],false⟩,fun x=>qf4 x.1 x.2.1⟩
theorem qaaa:Sound Tryz.prog G 252 qrt:=qab (envS (l:=[(104,qhi)]) ⟨(qka),trivial⟩) [(8,.unroll 4)] Tryz.func252 (by kernel_rfl) rfl fun _=>by kernel_rfl
def qe6 (a0:(List Dq2)) (a1:(Vec 3 Int)) (s1373:(Int×Unit)):Option ((Int×Unit)⊕Dq16) :=
 bif (iLt s1373.1 (lenI a0)) then
  bif inB s1373.1 (List.length a0) then
   (qhl ((List.getD a0 s1373.1.toNat Lq1).1) a1).bind fun y1376 =>
   bif (iLt y1376.1.1 0) then
    some (Sum.inl ((iAdd .i64 s1373.1 1),()))
   else
   Option.map Sum.inr (
    bif (iLt s1373.1 (lenI a0)) then
     bif inB s1373.1 (List.length a0) then
      let x1380:=(List.getD a0 s1373.1.toNat Lq1).1
      some ((s1373.1,(iEq (Vec.getD 3 x1380 0 (0:Int)) (Vec.getD 3 a1 0 (0:Int))&&(iEq (Vec.getD 3 x1380 1 (0:Int)) (Vec.getD 3 a1 1 (0:Int))&&(iEq (Vec.getD 3 x1380 2 (0:Int)) (Vec.getD 3 a1 2 (0:Int))&&true))),()),())
     else none
    else some ((s1373.1,false,()),()))
  else none
 else
 Option.map Sum.inr (
  bif (iLt s1373.1 (lenI a0)) then
   bif inB s1373.1 (List.length a0) then
    let x1383:=(List.getD a0 s1373.1.toNat Lq1).1
    some ((s1373.1,(iEq (Vec.getD 3 x1383 0 (0:Int)) (Vec.getD 3 a1 0 (0:Int))&&(iEq (Vec.getD 3 x1383 1 (0:Int)) (Vec.getD 3 a1 1 (0:Int))&&(iEq (Vec.getD 3 x1383 2 (0:Int)) (Vec.getD 3 a1 2 (0:Int))&&true))),()),())
   else none
  else some ((s1373.1,false,()),()))
def qog (a0:(List Dq2)) (a1:(Vec 3 Int)):Option Dq16 :=
 run (qe6 a0 a1) ((0:Int),())
def quk:Entry:=⟨⟨[.v (.list Uq1),.v (.arr 3 (.int .i32))],[.v (.val (.int .i64)),.v (.val (.bool))],false⟩,fun x=>qog x.1 x.2.1⟩
theorem qadf:Sound Tryz.prog G 251 quk:=qab (envS (l:=[(191,qkv)]) ⟨(qqv),trivial⟩) [(2,.vary [(6,.sc (.int .i64))])] Tryz.func251 (by kernel_rfl) rfl fun _=>by kernel_rfl
def qdr (a0:(List Dq2)) (a1:Dq2):Option (((List Dq2)×Unit)×Unit) :=
 (qog a0 a1.1).bind fun y1307 =>
 bif inS 0 y1307.1.1 (List.length a0) then
  let x1308:=takeL a0 y1307.1.1
  bif room (0+List.length x1308) 48 then
   let l1309:=([]:(List Dq2))++x1308
   bif y1307.1.2.1 then
    bif inB y1307.1.1 (List.length a0) then
     (qf4 a1 (List.getD a0 y1307.1.1.toNat Lq1)).bind fun y1310 =>
     bif y1310.1.1 then
      bif room (List.length l1309+1) 48 then
       let l1311:=l1309++([a1]:(List Dq2))
       let x1312:=iAdd .i64 y1307.1.1 1
       bif inS x1312 (lenI a0) (List.length a0) then
        let x1313:=dropL a0 x1312
        bif room (List.length l1311+List.length x1313) 48 then
         some (((l1311++x1313),()),())
        else none
       else none
      else none
     else
     bif inS y1307.1.1 (lenI a0) (List.length a0) then
      let x1315:=dropL a0 y1307.1.1
      bif room (List.length l1309+List.length x1315) 48 then
       some (((l1309++x1315),()),())
      else none
     else none
    else none
   else
   bif room (List.length l1309+1) 48 then
    let l1317:=l1309++([a1]:(List Dq2))
    bif inS y1307.1.1 (lenI a0) (List.length a0) then
     let x1318:=dropL a0 y1307.1.1
     bif room (List.length l1317+List.length x1318) 48 then
      some (((l1317++x1318),()),())
     else none
    else none
   else none
  else none
 else none
def qpw:Entry:=⟨⟨[.v (.list Uq1),.v Uq1],[.v (.rows Uq1)],false⟩,fun x=>qdr x.1 x.2.1⟩
theorem qv3:Sound Tryz.prog G 224 qpw:=qab (envS (l:=[(251,quk),(252,qrt)]) ⟨(qadf),(qaaa),trivial⟩) [] Tryz.func224 (by kernel_rfl) rfl fun _=>by kernel_rfl
def qcm (a0:Nat) (a1:(List Dq2)):Option Dq20 :=
 bif (iLt 200 (lenI a1)) then some ((Lq4,(3:Int),()),()) else some ((((a0,a1,()):Dq3),(0:Int),()),())
def qop:Entry:=⟨⟨[.v (.flt .f32),.v (.list Uq1)],[.v (.val Uq4),.v (.val (.int .i64))],true⟩,fun x=>qcm x.1 x.2.1⟩
theorem qus:Sound Tryz.prog G 225 qop:=qab (envS (l:=[]) trivial) [] Tryz.func225 (by kernel_rfl) rfl fun _=>by kernel_rfl
def qjx (a0:Dq3) (a1:(Vec 3 Nat)) (a2:Nat) (a3:Int) (a4:Nat):Option ((Dq3×(Vec 3 Int)×Bool×Int×Unit)×(Dq3×Unit)) :=
 (qce a2).bind fun y1180 =>
 bif (! y1180.1.1) then some ((Lq4,Lq2,false,(2:Int),()),(a0,())) else
 bif (! (fLt .f32 0 a2)) then some ((Lq4,Lq2,false,(2:Int),()),(a0,())) else
 (qin a3).bind fun y1184 =>
 bif (! y1184.1.1) then some ((Lq4,Lq2,false,(2:Int),()),(a0,())) else
 (qkd a0 a1 a4).bind fun y1186 =>
 bif (! (iEq y1186.1.2.1 0)) then some ((Lq4,Lq2,false,y1186.1.2.1,()),(a0,())) else
 bif room (0+List.length a0.2.1) 48 then
  bif (iLe 0 y1186.1.1) then
   bif inB y1186.1.1 (List.length a0.2.1) then
    let x1190:=List.getD a0.2.1 y1186.1.1.toNat Lq1
    bif inS 0 y1186.1.1 (List.length a0.2.1) then
     let x1191:=takeL a0.2.1 y1186.1.1
     bif room (0+List.length x1191) 48 then
      let l1192:=([]:(List Dq2))++x1191
      let x1193:=iAdd .i64 y1186.1.1 1
      bif inS x1193 (lenI a0.2.1) (List.length a0.2.1) then
       let x1194:=dropL a0.2.1 x1193
       bif room (List.length l1192+List.length x1194) 48 then
        let l1195:=l1192++x1194
        let x1196:=fAdd .f32 x1190.2.2.1 a2
        let x1202:=fDiv .f32 (fAdd .f32 (fMul .f32 x1190.2.2.1 (Vec.getD 3 x1190.2.1 0 (0:Nat))) (fMul .f32 a2 (Vec.getD 3 a1 0 (0:Nat)))) x1196
        let x1208:=fDiv .f32 (fAdd .f32 (fMul .f32 x1190.2.2.1 (Vec.getD 3 x1190.2.1 1 (0:Nat))) (fMul .f32 a2 (Vec.getD 3 a1 1 (0:Nat)))) x1196
        let x1214:=fDiv .f32 (fAdd .f32 (fMul .f32 x1190.2.2.1 (Vec.getD 3 x1190.2.1 2 (0:Nat))) (fMul .f32 a2 (Vec.getD 3 a1 2 (0:Nat)))) x1196
        (qce x1196).bind fun y1215 =>
        bif (! y1215.1.1) then
         (qlz (iAdd .i64 x1190.2.2.2.1 1) (1000000:Int)).bind fun y1218 =>
         (qdq x1190.2.2.2.2.1 a3).bind fun y1219 =>
         (qd1 a0.1 (Vec.set 3 (Vec.set 3 (Vec.set 3 a1 0 x1202) 1 x1208) 2 x1214)).bind fun y1221 =>
         bif (! (iEq y1221.1.2.1 0)) then some ((Lq4,Lq2,false,(3:Int),()),(a0,())) else
         (qdr l1195 ((y1221.1.1,Vec.set 3 (Vec.set 3 (Vec.set 3 a1 0 x1202) 1 x1208) 2 x1214,x1190.2.2.1,y1218.1.1,y1219.1.1,()):Dq2)).bind fun y1223 =>
         (qcm a0.1 y1223.1.1).bind fun y1224 =>
         some ((y1224.1.1,y1221.1.1,(iLe 0 y1186.1.1),y1224.1.2.1,()),(a0,()))
        else
        (qlz (iAdd .i64 x1190.2.2.2.1 1) (1000000:Int)).bind fun y1227 =>
        (qdq x1190.2.2.2.2.1 a3).bind fun y1228 =>
        (qd1 a0.1 (Vec.set 3 (Vec.set 3 (Vec.set 3 a1 0 x1202) 1 x1208) 2 x1214)).bind fun y1230 =>
        bif (! (iEq y1230.1.2.1 0)) then some ((Lq4,Lq2,false,(3:Int),()),(a0,())) else
        (qdr l1195 ((y1230.1.1,Vec.set 3 (Vec.set 3 (Vec.set 3 a1 0 x1202) 1 x1208) 2 x1214,x1196,y1227.1.1,y1228.1.1,()):Dq2)).bind fun y1232 =>
        (qcm a0.1 y1232.1.1).bind fun y1233 =>
        some ((y1233.1.1,y1230.1.1,(iLe 0 y1186.1.1),y1233.1.2.1,()),(a0,()))
       else none
      else none
     else none
    else none
   else none
  else
  (qd1 a0.1 a1).bind fun y1235 =>
  bif (! (iEq y1235.1.2.1 0)) then some ((Lq4,Lq2,false,(3:Int),()),(a0,())) else
  (qdr (([]:(List Dq2))++a0.2.1) ((y1235.1.1,a1,a2,1,a3,()):Dq2)).bind fun y1237 =>
  (qcm a0.1 y1237.1.1).bind fun y1238 =>
  some ((y1238.1.1,y1235.1.1,(iLe 0 y1186.1.1),y1238.1.2.1,()),(a0,()))
 else none
def qv4:Entry:=⟨⟨[.io (.val Uq4),.v (.arr 3 (.flt .f32)),.v (.flt .f32),.v (.int .i64),.v (.flt .f32)],[.v (.val Uq4),.v (.val (.arr 3 (.int .i32))),.v (.val (.bool)),.v (.val (.int .i64))],true⟩,fun x=>qjx x.1 x.2.1 x.2.2.1 x.2.2.2.1 x.2.2.2.2.1⟩
theorem qaeg:Sound Tryz.prog G 189 qv4:=qab (envS (l:=[(88,qpt),(119,qkb),(153,qd6),(154,qkc),(224,qpw),(225,qop),(226,qqw),(227,qvx)]) ⟨(qvw),(qod),(qfl),(qof),(qv3),(qus),(qzi),(qaec),trivial⟩) [(13,.unroll 4)] Tryz.func189 (by kernel_rfl) rfl fun _=>by kernel_rfl
def qjh (a0:Dq3) (a1:(Vec 3 Nat)) (a2:Nat) (a3:Int) (a4:Nat):Option ((Dq3×(Vec 3 Int)×Int×Unit)×Unit) :=
 (qfp a0).bind fun y1138 =>
 bif (! y1138.1.1) then some ((Lq4,Lq2,(1:Int),()),()) else
 (qjx a0 a1 a2 a3 a4).bind fun y1140 =>
 bif (! (iEq y1140.1.2.2.2.1 0)) then some ((Lq4,Lq2,y1140.1.2.2.2.1,()),()) else some ((y1140.1.1,y1140.1.2.1,(0:Int),()),())
def qo8:Entry:=⟨⟨[.v Uq4,.v (.arr 3 (.flt .f32)),.v (.flt .f32),.v (.int .i64),.v (.flt .f32)],[.v (.val Uq4),.v (.val (.arr 3 (.int .i32))),.v (.val (.int .i64))],true⟩,fun x=>qjh x.1 x.2.1 x.2.2.1 x.2.2.2.1 x.2.2.2.2.1⟩
theorem qxw:Sound Tryz.prog G 156 qo8:=qab (envS (l:=[(157,qjr),(189,qv4)]) ⟨(ql9),(qaeg),trivial⟩) [] Tryz.func156 (by kernel_rfl) rfl fun _=>by kernel_rfl
def qhq (a0:Dq1) (a1:Int):Option Dq24 :=
 bif inB a1 (List.length a0.2.1.1) then
  bif inB a1 (List.length a0.1.2.2.1) then
   bif (iEq (((List.getD a0.2.1.1 a1.toNat Lq3).2).1) (lenI (List.getD a0.1.2.2.1 a1.toNat ([]:(List Dq11))))) then
    some (((4:Int),()),(((a0.1,(a0.2.1.1,a0.2.1.2.1,a0.2.1.2.2.1,a0.2.1.2.2.2),a0.2.2):Dq1),()))
   else
   bif inB a1 (List.length a0.1.2.2.1) then
    let x1128:=List.getD a0.1.2.2.1 a1.toNat ([]:(List Dq11))
    let x1129:=((List.getD a0.2.1.1 a1.toNat Lq3).2).1
    bif inB x1129 (List.length x1128) then
     let x1130:=List.getD x1128 x1129.toNat (((0,0,0,()),0,0,()):Dq11)
     (qjh ((List.getD a0.2.1.1 a1.toNat Lq3).1) x1130.1 x1130.2.1 x1130.2.2.1 a0.1.2.1).bind fun y1132 =>
     bif (! (iEq y1132.1.2.2.1 0)) then
      some (((3:Int),()),(((a0.1,(a0.2.1.1,a0.2.1.2.1,a0.2.1.2.2.1,a0.2.1.2.2.2),a0.2.2):Dq1),()))
     else
     let w1134:=List.set a0.2.1.1 a1.toNat ((y1132.1.1,(List.getD a0.2.1.1 a1.toNat Lq3).2):Dq7)
     some (((0:Int),()),(((a0.1,((List.set w1134 a1.toNat (((List.getD w1134 a1.toNat Lq3).1,(iAdd .i64 (((List.getD w1134 a1.toNat Lq3).2).1) 1),((List.getD w1134 a1.toNat Lq3).2).2):Dq7)),a0.2.1.2.1,a0.2.1.2.2.1,a0.2.1.2.2.2),a0.2.2):Dq1),()))
    else none
   else none
  else none
 else none
def qqx:Entry:=⟨⟨[.io (.pair (.ro Uq2) (.pair (.pair (.rows Uq3) (.pair (.rows Uq3) (.pair (.rows Uq6) (.val (.unit))))) (.val (.unit)))),.v (.int .i64)],[.v (.val (.int .i64))],true⟩,fun x=>qhq x.1 x.2.1⟩
theorem qzj:Sound Tryz.prog G 122 qqx:=qab (envS (l:=[(156,qo8)]) ⟨(qxw),trivial⟩) [] Tryz.func122 (by kernel_rfl) rfl fun _=>by kernel_rfl
def qqc (a0:Dq3) (a1:Dq3):Option Dq13 :=
 (qfp a0).bind fun y1412 =>
 bif (! y1412.1.1) then some (((1:Int),()),()) else
 (qfp a1).bind fun y1414 =>
 bif (! y1414.1.1) then some (((1:Int),()),()) else
 bif (! (fEq .f32 a0.1 a1.1)) then some (((4:Int),()),()) else some (((0:Int),()),())
def qv5:Entry:=⟨⟨[.ro Uq4,.ro Uq4],[.v (.val (.int .i64))],false⟩,fun x=>qqc x.1 x.2.1⟩
theorem qaeh:Sound Tryz.prog G 223 qv5:=qab (envS (l:=[(157,qjr)]) ⟨(ql9),trivial⟩) [] Tryz.func223 (by kernel_rfl) rfl fun _=>by kernel_rfl
def qd5 (a1:Dq3) (a0:Dq3) (s1406:((List Dq2)×Int×Unit)):Option (((List Dq2)×Int×Unit)⊕Dq20) :=
 bif (iLt s1406.2.1 (lenI a1.2.1)) then
  bif inB s1406.2.1 (List.length a1.2.1) then
   (qdr s1406.1 (List.getD a1.2.1 s1406.2.1.toNat Lq1)).bind fun y1409 =>
   some (Sum.inl (y1409.1.1,(iAdd .i64 s1406.2.1 1),()))
  else none
 else
 Option.map Sum.inr (
  (qcm a0.1 s1406.1).bind fun y1411 =>
  some ((y1411.1.1,y1411.1.2.1,()),()))
def qil (a0:Dq3) (a1:Dq3):Option Dq20 :=
 (qqc a0 a1).bind fun y1403 =>
 bif (! (iEq y1403.1.1 0)) then some ((Lq4,y1403.1.1,()),()) else
 bif room (0+List.length a0.2.1) 48 then
  run (qd5 a1 a0) ((([]:(List Dq2))++a0.2.1),(0:Int),())
 else none
def qrq:Entry:=⟨⟨[.v Uq4,.v Uq4],[.v (.val Uq4),.v (.val (.int .i64))],true⟩,fun x=>qil x.1 x.2.1⟩
theorem qz4:Sound Tryz.prog G 188 qrq:=qab (envS (l:=[(223,qv5),(224,qpw),(225,qop)]) ⟨(qaeh),(qv3),(qus),trivial⟩) [(6,.vary [(7,.rows Uq1),(8,.sc (.int .i64))])] Tryz.func188 (by kernel_rfl) rfl fun _=>by kernel_rfl
def qkt (a0:Nat):Option Dq13 :=
 bif (! (fEq .f32 a0 a0)) then some (((2143289344:Int),()),()) else
 allSame fun (q1485:Nat) =>
 some (((bitsF .f32 a0 q1485),()),())
def qoa:Entry:=⟨⟨[.v (.flt .f32)],[.v (.val (.int .u32))],false⟩,fun x=>qkt x.1⟩
theorem qug:Sound Tryz.prog G 228 qoa:=qab (envS (l:=[]) trivial) [] Tryz.func228 (by kernel_rfl) rfl fun _=>by kernel_rfl
def qbp (a0:List UInt8) (s1455:Dq21):Option (Dq21⊕((Nat×Bool×Unit)×Unit)) :=
 bif (iLt s1455.2.1 8) then
  bif inB s1455.2.1 (List.length a0) then
   let x1457:=strAt a0 s1455.2.1
   bif (iLe 48 x1457) then
    bif (iLe x1457 57) then
     some (Sum.inl ((iAdd .u32 (iMul .u32 s1455.1 16) (iWrap .u32 (iSub .u8 x1457 48))),(iAdd .i64 s1455.2.1 1),()))
    else
    bif (iLe 97 x1457) then
     bif (iLe x1457 102) then
      some (Sum.inl ((iAdd .u32 (iAdd .u32 (iMul .u32 s1455.1 16) (iWrap .u32 (iSub .u8 x1457 97))) 10),(iAdd .i64 s1455.2.1 1),()))
     else
     Option.map Sum.inr (some (((0:Nat),false,()),()))
    else
    Option.map Sum.inr (some (((0:Nat),false,()),()))
   else
   bif (iLe 97 x1457) then
    bif (iLe x1457 102) then
     some (Sum.inl ((iAdd .u32 (iAdd .u32 (iMul .u32 s1455.1 16) (iWrap .u32 (iSub .u8 x1457 97))) 10),(iAdd .i64 s1455.2.1 1),()))
    else
    Option.map Sum.inr (some (((0:Nat),false,()),()))
   else
   Option.map Sum.inr (some (((0:Nat),false,()),()))
  else none
 else
 Option.map Sum.inr (
  (qbn s1455.1).bind fun y1481 =>
  (qkt y1481.1.1).bind fun y1482 =>
  some ((y1481.1.1,(iEq y1482.1.1 s1455.1),()),()))
def qbd (a0:List UInt8):Option ((Nat×Bool×Unit)×Unit) :=
 bif (! (iEq (lenI a0) 8)) then some (((0:Nat),false,()),()) else run (qbp a0) ((0:Int),(0:Int),())
def qob:Entry:=⟨⟨[.v (.str)],[.v (.val (.flt .f32)),.v (.val (.bool))],false⟩,fun x=>qbd x.1⟩
theorem quh:Sound Tryz.prog G 221 qob:=qab (envS (l:=[(228,qoa),(249,qee)]) ⟨(qug),(qlg),trivial⟩) [(5,.vary [(4,.sc (.int .u32)),(5,.sc (.int .i64))])] Tryz.func221 (by kernel_rfl) rfl fun _=>by kernel_rfl
def qda (a0:List UInt8) (a1:Int) (s1487:((List (List UInt8))×Int×Int×Unit)):Option (((List (List UInt8))×Int×Int×Unit)⊕Dq14) :=
 bif (iLt s1487.2.2.1 (lenI a0)) then
  bif inB s1487.2.2.1 (List.length a0) then
   bif (iEq (strAt a0 s1487.2.2.1) a1) then
    bif inS s1487.2.1 s1487.2.2.1 (List.length a0) then
     bif room (List.length s1487.1+1) 16 then
      some (Sum.inl ((s1487.1++([(subL a0 s1487.2.1 s1487.2.2.1)]:(List (List UInt8)))),(iAdd .i64 s1487.2.2.1 1),(iAdd .i64 s1487.2.2.1 1),()))
     else none
    else none
   else
   some (Sum.inl (s1487.1,s1487.2.1,(iAdd .i64 s1487.2.2.1 1),()))
  else none
 else
 Option.map Sum.inr (
  bif inS s1487.2.1 (lenI a0) (List.length a0) then
   bif room (List.length s1487.1+1) 16 then
    some (((s1487.1++([(dropL a0 s1487.2.1)]:(List (List UInt8)))),()),())
   else none
  else none)
def qbz (a0:List UInt8) (a1:Int):Option Dq14 :=
 run (qda a0 a1) (([]:(List (List UInt8))),(0:Int),(0:Int),())
def qeo:Entry:=⟨⟨[.v (.str),.v (.int .u8)],[.v (.rows (.str))],false⟩,fun x=>qbz x.1 x.2.1⟩
theorem qgi:Sound Tryz.prog G 79 qeo:=qab (envS (l:=[]) trivial) [(4,.vary [(5,.rows (.str)),(6,.sc (.int .i64)),(7,.sc (.int .i64))])] Tryz.func79 (by kernel_rfl) rfl fun _=>by kernel_rfl
def qbh (a0:List UInt8) (s1538:Dq21):Option (Dq21⊕Dq16) :=
 bif (iLt s1538.2.1 (lenI a0)) then
  bif inB s1538.2.1 (List.length a0) then
   bif (iLt (strAt a0 s1538.2.1) 48) then
    Option.map Sum.inr (some (((0:Int),false,()),()))
   else
   bif inB s1538.2.1 (List.length a0) then
    bif (iLt 57 (strAt a0 s1538.2.1)) then
     Option.map Sum.inr (some (((0:Int),false,()),()))
    else
    bif inB s1538.2.1 (List.length a0) then
     some (Sum.inl ((iAdd .i64 (iMul .i64 s1538.1 10) (iWrap .i64 (iSub .u8 (strAt a0 s1538.2.1) 48))),(iAdd .i64 s1538.2.1 1),()))
    else none
   else none
  else none
 else
 Option.map Sum.inr (some ((s1538.1,true,()),()))
def qpa (a0:List UInt8) (s1550:Dq21):Option (Dq21⊕Dq16) :=
 bif (iLt s1550.2.1 (lenI a0)) then
  bif inB s1550.2.1 (List.length a0) then
   bif (iLt (strAt a0 s1550.2.1) 48) then
    Option.map Sum.inr (some (((0:Int),false,()),()))
   else
   bif inB s1550.2.1 (List.length a0) then
    bif (iLt 57 (strAt a0 s1550.2.1)) then
     Option.map Sum.inr (some (((0:Int),false,()),()))
    else
    bif inB s1550.2.1 (List.length a0) then
     some (Sum.inl ((iAdd .i64 (iMul .i64 s1550.1 10) (iWrap .i64 (iSub .u8 (strAt a0 s1550.2.1) 48))),(iAdd .i64 s1550.2.1 1),()))
    else none
   else none
  else none
 else
 Option.map Sum.inr (some ((s1550.1,true,()),()))
def qbg (a0:List UInt8):Option Dq16 :=
 bif (iLt (lenI a0) 1) then some (((0:Int),false,()),()) else
 bif (iLt 9 (lenI a0)) then some (((0:Int),false,()),()) else
 bif inB 0 (List.length a0) then
  bif (iEq (strAt a0 0) 48) then
   bif (iLt 1 (lenI a0)) then some (((0:Int),false,()),()) else run (qbh a0) ((0:Int),(0:Int),())
  else run (qpa a0) ((0:Int),(0:Int),())
 else none
def qfm:Entry:=⟨⟨[.v (.str)],[.v (.val (.int .i64)),.v (.val (.bool))],false⟩,fun x=>qbg x.1⟩
theorem qib:Sound Tryz.prog G 120 qfm:=qab (envS (l:=[]) trivial) [(5,.vary [(4,.sc (.int .i64)),(5,.sc (.int .i64))])] Tryz.func120 (by kernel_rfl) rfl fun _=>by kernel_rfl
def qeq (a0:List UInt8):Option Dq16 :=
 bif (! (iEq (lenI a0) 10)) then
  (qbg a0).bind fun y1572 =>
  some ((y1572.1.1,y1572.1.2.1,()),())
 else
 bif inS 0 9 (List.length a0) then
  (qbg (takeL a0 9)).bind fun y1574 =>
  bif inB 9 (List.length a0) then
   let x1577:=iSub .i64 (iWrap .i64 (strAt a0 9)) 48
   let x1579:=iAdd .i64 (iMul .i64 y1574.1.1 10) x1577
   bif y1574.1.2.1 then
    bif (iLt 0 y1574.1.1) then
     (qb8 x1577 (0:Int) (9:Int)).bind fun y1581 =>
     some ((x1579,y1581.1.1,()),())
    else some ((x1579,false,()),())
   else some ((x1579,false,()),())
  else none
 else none
def qru:Entry:=⟨⟨[.v (.str)],[.v (.val (.int .i64)),.v (.val (.bool))],false⟩,fun x=>qeq x.1⟩
theorem qaab:Sound Tryz.prog G 266 qru:=qab (envS (l:=[(112,qd8),(120,qfm)]) ⟨(qfg),(qib),trivial⟩) [] Tryz.func266 (by kernel_rfl) rfl fun _=>by kernel_rfl
def qcb (a0:List UInt8):Option Dq16 :=
 bif (iLt 1 (lenI a0)) then
  bif inB 0 (List.length a0) then
   bif (iEq (strAt a0 0) 45) then
    bif inS 1 (lenI a0) (List.length a0) then
     (qeq (dropL a0 1)).bind fun y1566 =>
     let x1567:=iSub .i64 0 y1566.1.1
     bif y1566.1.2.1 then
      some ((x1567,(iLt 0 y1566.1.1),()),())
     else some ((x1567,false,()),())
    else none
   else
   (qeq a0).bind fun y1569 =>
   some ((y1569.1.1,y1569.1.2.1,()),())
  else none
 else
 (qeq a0).bind fun y1570 =>
 some ((y1570.1.1,y1570.1.2.1,()),())
def qs4:Entry:=⟨⟨[.v (.str)],[.v (.val (.int .i64)),.v (.val (.bool))],false⟩,fun x=>qcb x.1⟩
theorem qabi:Sound Tryz.prog G 250 qs4:=qab (envS (l:=[(266,qru)]) ⟨(qaab),trivial⟩) [] Tryz.func250 (by kernel_rfl) rfl fun _=>by kernel_rfl
def qoi (a0:List UInt8):Option ((Dq2×Bool×Unit)×Unit) :=
 (qbz a0 (32:Int)).bind fun y1498 =>
 bif (! (iEq (lenI y1498.1.1) 9)) then some ((Lq1,false,()),()) else
 bif inB 0 (List.length y1498.1.1) then
  (qcb (List.getD y1498.1.1 0 ([]:List UInt8))).bind fun y1501 =>
  bif inB 3 (List.length y1498.1.1) then
   (qbd (List.getD y1498.1.1 3 ([]:List UInt8))).bind fun y1503 =>
   bif (! y1501.1.2.1) then some ((Lq1,false,()),()) else
   bif (! y1503.1.2.1) then some ((Lq1,false,()),()) else
   (qb8 y1501.1.1 Lq9 (2147483647:Int)).bind fun y1506 =>
   bif (! y1506.1.1) then some ((Lq1,false,()),()) else
   let x1508:=iWrap .i32 y1501.1.1
   bif inB 1 (List.length y1498.1.1) then
    (qcb (List.getD y1498.1.1 1 ([]:List UInt8))).bind fun y1510 =>
    bif inB 4 (List.length y1498.1.1) then
     (qbd (List.getD y1498.1.1 4 ([]:List UInt8))).bind fun y1512 =>
     bif (! y1510.1.2.1) then some ((Lq1,false,()),()) else
     bif (! y1512.1.2.1) then some ((Lq1,false,()),()) else
     (qb8 y1510.1.1 Lq9 (2147483647:Int)).bind fun y1515 =>
     bif (! y1515.1.1) then some ((Lq1,false,()),()) else
     let x1517:=iWrap .i32 y1510.1.1
     bif inB 2 (List.length y1498.1.1) then
      (qcb (List.getD y1498.1.1 2 ([]:List UInt8))).bind fun y1519 =>
      bif inB 5 (List.length y1498.1.1) then
       (qbd (List.getD y1498.1.1 5 ([]:List UInt8))).bind fun y1521 =>
       bif (! y1519.1.2.1) then some ((Lq1,false,()),()) else
       bif (! y1521.1.2.1) then some ((Lq1,false,()),()) else
       (qb8 y1519.1.1 Lq9 (2147483647:Int)).bind fun y1524 =>
       bif (! y1524.1.1) then some ((Lq1,false,()),()) else
       let x1526:=iWrap .i32 y1519.1.1
       bif inB 6 (List.length y1498.1.1) then
        (qbd (List.getD y1498.1.1 6 ([]:List UInt8))).bind fun y1528 =>
        bif inB 7 (List.length y1498.1.1) then
         (qbg (List.getD y1498.1.1 7 ([]:List UInt8))).bind fun y1530 =>
         bif inB 8 (List.length y1498.1.1) then
          (qcb (List.getD y1498.1.1 8 ([]:List UInt8))).bind fun y1532 =>
          bif y1528.1.2.1 then
           bif y1530.1.2.1 then
            some (((((x1508,x1517,x1526,()),(y1503.1.1,y1512.1.1,y1521.1.1,()),y1528.1.1,y1530.1.1,y1532.1.1,()):Dq2),y1532.1.2.1,()),())
           else
           some (((((x1508,x1517,x1526,()),(y1503.1.1,y1512.1.1,y1521.1.1,()),y1528.1.1,y1530.1.1,y1532.1.1,()):Dq2),false,()),())
          else
          some (((((x1508,x1517,x1526,()),(y1503.1.1,y1512.1.1,y1521.1.1,()),y1528.1.1,y1530.1.1,y1532.1.1,()):Dq2),false,()),())
         else none
        else none
       else none
      else none
     else none
    else none
   else none
  else none
 else none
def qun:Entry:=⟨⟨[.v (.str)],[.v (.val Uq1),.v (.val (.bool))],false⟩,fun x=>qoi x.1⟩
theorem qadj:Sound Tryz.prog G 222 qun:=qab (envS (l:=[(79,qeo),(112,qd8),(120,qfm),(221,qob),(250,qs4)]) ⟨(qgi),(qfg),(qib),(quh),(qabi),trivial⟩) [(6,.unroll 4)] Tryz.func222 (by kernel_rfl) rfl fun _=>by kernel_rfl
def qdo (rec_:Int→Option (Dq10×Unit)) (a0:Int):Option (Dq10×Unit) :=
 bif (iLe 10 a0) then
  (rec_ (iQuo .i64 a0 10)).bind fun y1621 =>
  let x1625:=ofBytes ([(iWrap .u8 (iAdd .i64 48 (iRem .i64 a0 10)))])
  bif strRoom y1621.1.1 x1625 then
   some (((strCat y1621.1.1 x1625),()),())
  else none
 else
 some (((ofBytes ([(iWrap .u8 (iAdd .i64 48 a0))])),()),())
def qcd:Nat→Int→Option (Dq10×Unit)
 | 0=>fun _=>none
 | k+1=>qdo (qcd k)
def qb2:Int→Option (Dq10×Unit):=qcd 64
def spec_Decimal_sg:Sig:=⟨[.v (.int .i64)],[.v (.val (.str))],false⟩
def qhh:Entry:=⟨spec_Decimal_sg,fun x=>qb2 x.1⟩
theorem qac4 (rec_:Int→Option (Dq10×Unit)) {G:List (Nat×Obj)} (x:spec_Decimal_sg.dom):body (env G [(73,⟨spec_Decimal_sg,fun x=>rec_ x.1⟩)]) [] Tryz.f73 spec_Decimal_sg x=qdo rec_ x.1:=by kernel_rfl
theorem qj8:Sound Tryz.prog G 73 qhh:=by
 have h : ∀ k,Sound Tryz.prog G 73 ⟨spec_Decimal_sg,fun x=>qcd k x.1⟩:=by
  intro k
  induction k with
  | zero=>exact ⟨rfl,fun _ _ _ _ _ _ _ _ _ _ _ _ h=>by cases h⟩
  | succ k ih=>exact qxm (envS (l:=[(73,⟨spec_Decimal_sg,fun x=>qcd k x.1⟩)]) (⟨ih,trivial⟩)) Tryz.func73 (by kernel_rfl) rfl (fun x y h=>(qac4 (qcd k) (G:=G) x).trans h)
 exact h 64
def qfy (a0:Nat):Option (Dq10×Unit) :=
 (qkt a0).bind fun y1643 =>
 bif (iLe 0 8&&iLe 8 8&&room ((8:Int)).toNat 1) then
  let x1644:=iRem .u32 y1643.1.1 16
  bif inB x1644 (List.length ([48,49,50,51,52,53,54,55,56,57,97,98,99,100,101,102])) then
   bif inB 7 (List.length (List.replicate (((8:Int)).toNat) (0:Int))) then
    let w1646:=List.set (List.replicate (((8:Int)).toNat) (0:Int)) 7 (strAt ([48,49,50,51,52,53,54,55,56,57,97,98,99,100,101,102]) x1644)
    let x1647:=iQuo .u32 y1643.1.1 16
    let x1648:=iRem .u32 x1647 16
    bif inB x1648 (List.length ([48,49,50,51,52,53,54,55,56,57,97,98,99,100,101,102])) then
     let x1649:=strAt ([48,49,50,51,52,53,54,55,56,57,97,98,99,100,101,102]) x1648
     bif inB 6 (List.length w1646) then
      let x1650:=iQuo .u32 x1647 16
      let x1651:=iRem .u32 x1650 16
      bif inB x1651 (List.length ([48,49,50,51,52,53,54,55,56,57,97,98,99,100,101,102])) then
       bif inB 5 (List.length (List.set w1646 6 x1649)) then
        let w1653:=List.set (List.set w1646 6 x1649) 5 (strAt ([48,49,50,51,52,53,54,55,56,57,97,98,99,100,101,102]) x1651)
        let x1654:=iQuo .u32 x1650 16
        let x1655:=iRem .u32 x1654 16
        bif inB x1655 (List.length ([48,49,50,51,52,53,54,55,56,57,97,98,99,100,101,102])) then
         let x1656:=strAt ([48,49,50,51,52,53,54,55,56,57,97,98,99,100,101,102]) x1655
         bif inB 4 (List.length w1653) then
          let x1657:=iQuo .u32 x1654 16
          let x1658:=iRem .u32 x1657 16
          bif inB x1658 (List.length ([48,49,50,51,52,53,54,55,56,57,97,98,99,100,101,102])) then
           bif inB 3 (List.length (List.set w1653 4 x1656)) then
            let w1660:=List.set (List.set w1653 4 x1656) 3 (strAt ([48,49,50,51,52,53,54,55,56,57,97,98,99,100,101,102]) x1658)
            let x1661:=iQuo .u32 x1657 16
            let x1662:=iRem .u32 x1661 16
            bif inB x1662 (List.length ([48,49,50,51,52,53,54,55,56,57,97,98,99,100,101,102])) then
             let x1663:=strAt ([48,49,50,51,52,53,54,55,56,57,97,98,99,100,101,102]) x1662
             bif inB 2 (List.length w1660) then
              let x1664:=iQuo .u32 x1661 16
              let x1665:=iRem .u32 x1664 16
              bif inB x1665 (List.length ([48,49,50,51,52,53,54,55,56,57,97,98,99,100,101,102])) then
               bif inB 1 (List.length (List.set w1660 2 x1663)) then
                let w1667:=List.set (List.set w1660 2 x1663) 1 (strAt ([48,49,50,51,52,53,54,55,56,57,97,98,99,100,101,102]) x1665)
                let x1669:=iRem .u32 (iQuo .u32 x1664 16) 16
                bif inB x1669 (List.length ([48,49,50,51,52,53,54,55,56,57,97,98,99,100,101,102])) then
                 bif inB 0 (List.length w1667) then
                  some (((ofBytes (List.set w1667 0 (strAt ([48,49,50,51,52,53,54,55,56,57,97,98,99,100,101,102]) x1669))),()),())
                 else none
                else none
               else none
              else none
             else none
            else none
           else none
          else none
         else none
        else none
       else none
      else none
     else none
    else none
   else none
  else none
 else none
def qpu:Entry:=⟨⟨[.v (.flt .f32)],[.v (.val (.str))],false⟩,fun x=>qfy x.1⟩
theorem qvz:Sound Tryz.prog G 192 qpu:=qab (envS (l:=[(228,qoa)]) ⟨(qug),trivial⟩) [(4,.unroll 9)] Tryz.func192 (by kernel_rfl) rfl fun _=>by kernel_rfl
def qct (a0:(List Nat)) (s1631:Dq15):Option (Dq15⊕(Dq10×Unit)) :=
 bif (iLt s1631.2.1 (lenI a0)) then
  bif (iLt 0 s1631.2.1) then
   bif strRoom s1631.1 ([32]) then
    let x1634:=strCat s1631.1 ([32])
    bif inB s1631.2.1 (List.length a0) then
     (qfy (List.getD a0 s1631.2.1.toNat (0:Nat))).bind fun y1636 =>
     bif strRoom x1634 y1636.1.1 then
      some (Sum.inl ((strCat x1634 y1636.1.1),(iAdd .i64 s1631.2.1 1),()))
     else none
    else none
   else none
  else
  bif inB s1631.2.1 (List.length a0) then
   (qfy (List.getD a0 s1631.2.1.toNat (0:Nat))).bind fun y1640 =>
   bif strRoom s1631.1 y1640.1.1 then
    some (Sum.inl ((strCat s1631.1 y1640.1.1),(iAdd .i64 s1631.2.1 1),()))
   else none
  else none
 else
 Option.map Sum.inr (some ((s1631.1,()),()))
def ql0 (a0:(List Nat)):Option (Dq10×Unit) :=
 run (qct a0) (([]:List UInt8),(0:Int),())
def qv0:Entry:=⟨⟨[.v (.list (.flt .f32))],[.v (.val (.str))],false⟩,fun x=>ql0 x.1⟩
theorem qaef:Sound Tryz.prog G 229 qv0:=qab (envS (l:=[(192,qpu)]) ⟨(qvz),trivial⟩) [(3,.vary [(3,.sc (.str)),(4,.sc (.int .i64))])] Tryz.func229 (by kernel_rfl) rfl fun _=>by kernel_rfl
def qn6 (a0:(Vec 3 Nat)):Option (Dq10×Unit) :=
 (ql0 ([Vec.getD 3 a0 0 (0:Nat),Vec.getD 3 a0 1 (0:Nat),Vec.getD 3 a0 2 (0:Nat)]:(List Nat))).bind fun y1630 =>
 some ((y1630.1.1,()),())
def quc:Entry:=⟨⟨[.v (.arr 3 (.flt .f32))],[.v (.val (.str))],false⟩,fun x=>qn6 x.1⟩
theorem qada:Sound Tryz.prog G 194 quc:=qab (envS (l:=[(229,qv0)]) ⟨(qaef),trivial⟩) [] Tryz.func194 (by kernel_rfl) rfl fun _=>by kernel_rfl
def qf5 (a0:Int):Option (Dq10×Unit) :=
 bif (iLt a0 0) then
  (qb2 (iSub .i64 0 a0)).bind fun y1675 =>
  bif strRoom ([45]) y1675.1.1 then
   some (((strCat ([45]) y1675.1.1),()),())
  else none
 else
 (qb2 a0).bind fun y1677 =>
 some ((y1677.1.1,()),())
def qrv:Entry:=⟨⟨[.v (.int .i64)],[.v (.val (.str))],false⟩,fun x=>qf5 x.1⟩
theorem qaac:Sound Tryz.prog G 193 qrv:=qab (envS (l:=[(73,qhh)]) ⟨(qj8),trivial⟩) [] Tryz.func193 (by kernel_rfl) rfl fun _=>by kernel_rfl
def qhn (a0:Dq3) (s1585:Dq15):Option (Dq15⊕(Dq10×Unit)) :=
 bif (iLt s1585.2.1 (lenI a0.2.1)) then
  bif inB s1585.2.1 (List.length a0.2.1) then
   (qf5 (iWrap .i64 (Vec.getD 3 ((List.getD a0.2.1 s1585.2.1.toNat Lq1).1) 0 (0:Int)))).bind fun y1589 =>
   bif strRoom y1589.1.1 ([32]) then
    let x1590:=strCat y1589.1.1 ([32])
    bif strRoom s1585.1 x1590 then
     let x1591:=strCat s1585.1 x1590
     (qf5 (iWrap .i64 (Vec.getD 3 ((List.getD a0.2.1 s1585.2.1.toNat Lq1).1) 1 (0:Int)))).bind fun y1594 =>
     bif strRoom y1594.1.1 ([32]) then
      let x1595:=strCat y1594.1.1 ([32])
      bif strRoom x1591 x1595 then
       let x1596:=strCat x1591 x1595
       (qf5 (iWrap .i64 (Vec.getD 3 ((List.getD a0.2.1 s1585.2.1.toNat Lq1).1) 2 (0:Int)))).bind fun y1599 =>
       bif strRoom y1599.1.1 ([32]) then
        let x1600:=strCat y1599.1.1 ([32])
        bif strRoom x1596 x1600 then
         let x1601:=strCat x1596 x1600
         (qn6 (((List.getD a0.2.1 s1585.2.1.toNat Lq1).2).1)).bind fun y1603 =>
         bif strRoom y1603.1.1 ([32]) then
          let x1604:=strCat y1603.1.1 ([32])
          (qfy ((((List.getD a0.2.1 s1585.2.1.toNat Lq1).2).2).1)).bind fun y1606 =>
          bif strRoom x1604 y1606.1.1 then
           let x1607:=strCat x1604 y1606.1.1
           bif strRoom x1607 ([32]) then
            let x1608:=strCat x1607 ([32])
            (qb2 (((((List.getD a0.2.1 s1585.2.1.toNat Lq1).2).2).2).1)).bind fun y1610 =>
            bif strRoom x1608 y1610.1.1 then
             let x1611:=strCat x1608 y1610.1.1
             bif strRoom x1611 ([32]) then
              let x1612:=strCat x1611 ([32])
              (qb2 ((((((List.getD a0.2.1 s1585.2.1.toNat Lq1).2).2).2).2).1)).bind fun y1614 =>
              bif strRoom x1612 y1614.1.1 then
               let x1615:=strCat x1612 y1614.1.1
               bif strRoom x1615 ([10]) then
                let x1616:=strCat x1615 ([10])
                bif strRoom x1601 x1616 then
                 some (Sum.inl ((strCat x1601 x1616),(iAdd .i64 s1585.2.1 1),()))
                else none
               else none
              else none
             else none
            else none
           else none
          else none
         else none
        else none
       else none
      else none
     else none
    else none
   else none
  else none
 else
 Option.map Sum.inr (some ((s1585.1,()),()))
def qiq (a0:Dq3):Option (Dq10×Unit) :=
 (qfy a0.1).bind fun y1582 =>
 bif strRoom ([109,97,112,32]) y1582.1.1 then
  let x1583:=strCat ([109,97,112,32]) y1582.1.1
  bif strRoom x1583 ([10]) then
   run (qhn a0) ((strCat x1583 ([10])),(0:Int),())
  else none
 else none
def qoo:Entry:=⟨⟨[.ro Uq4],[.v (.val (.str))],false⟩,fun x=>qiq x.1⟩
theorem qur:Sound Tryz.prog G 158 qoo:=qab (envS (l:=[(73,qhh),(192,qpu),(193,qrv),(194,quc)]) ⟨(qj8),(qvz),(qaac),(qada),trivial⟩) [(3,.vary [(3,.sc (.str)),(4,.sc (.int .i64))]),(7,.unroll 4)] Tryz.func158 (by kernel_rfl) rfl fun _=>by kernel_rfl
def qgh (y1418:Dq14) (a0:List UInt8) (s1437:(Bool×Int×Dq3×Unit)):Option ((Bool×Int×Dq3×Unit)⊕Dq20) :=
 bif (iLt s1437.2.1 (iSub .i64 (lenI y1418.1.1) 1)) then
  bif s1437.1 then
   bif inB s1437.2.1 (List.length y1418.1.1) then
    (qoi (List.getD y1418.1.1 s1437.2.1.toNat ([]:List UInt8))).bind fun y1441 =>
    bif room (List.length s1437.2.2.1.2.1+1) 48 then
     some (Sum.inl (y1441.1.2.1,(iAdd .i64 s1437.2.1 1),((s1437.2.2.1.1,(s1437.2.2.1.2.1++([y1441.1.1]:(List Dq2))),s1437.2.2.1.2.2):Dq3),()))
    else none
   else none
  else
  Option.map Sum.inr (
   bif (! s1437.1) then some ((Lq4,(5:Int),()),()) else
   (qfp ((s1437.2.2.1.1,s1437.2.2.1.2.1,s1437.2.2.1.2.2):Dq3)).bind fun y1445 =>
   bif (! y1445.1.1) then some ((Lq4,(5:Int),()),()) else
   (qiq ((s1437.2.2.1.1,s1437.2.2.1.2.1,s1437.2.2.1.2.2):Dq3)).bind fun y1447 =>
   bif (! (sEq y1447.1.1 a0)) then some ((Lq4,(5:Int),()),()) else some ((((s1437.2.2.1.1,s1437.2.2.1.2.1,s1437.2.2.1.2.2):Dq3),(0:Int),()),()))
 else
 Option.map Sum.inr (
  bif (! s1437.1) then some ((Lq4,(5:Int),()),()) else
  (qfp ((s1437.2.2.1.1,s1437.2.2.1.2.1,s1437.2.2.1.2.2):Dq3)).bind fun y1450 =>
  bif (! y1450.1.1) then some ((Lq4,(5:Int),()),()) else
  (qiq ((s1437.2.2.1.1,s1437.2.2.1.2.1,s1437.2.2.1.2.2):Dq3)).bind fun y1452 =>
  bif (! (sEq y1452.1.1 a0)) then some ((Lq4,(5:Int),()),()) else some ((((s1437.2.2.1.1,s1437.2.2.1.2.1,s1437.2.2.1.2.2):Dq3),(0:Int),()),()))
def qn5 (a0:List UInt8):Option Dq20 :=
 bif (iLt 40000 (lenI a0)) then some ((Lq4,(2:Int),()),()) else
 (qbz a0 (10:Int)).bind fun y1418 =>
 bif (iLt (lenI y1418.1.1) 2) then some ((Lq4,(5:Int),()),()) else
 let x1420:=iSub .i64 (lenI y1418.1.1) 1
 bif inB x1420 (List.length y1418.1.1) then
  bif (! (sEq (List.getD y1418.1.1 x1420.toNat ([]:List UInt8)) ([]))) then some ((Lq4,(5:Int),()),()) else
  bif inB 0 (List.length y1418.1.1) then
   bif (! (iEq (lenI (List.getD y1418.1.1 0 ([]:List UInt8))) 12)) then some ((Lq4,(5:Int),()),()) else
   bif inB 0 (List.length y1418.1.1) then
    let x1425:=List.getD y1418.1.1 0 ([]:List UInt8)
    bif inS 0 4 (List.length x1425) then
     bif (! (sEq (takeL x1425 4) ([109,97,112,32]))) then some ((Lq4,(5:Int),()),()) else
     bif inB 0 (List.length y1418.1.1) then
      let x1428:=List.getD y1418.1.1 0 ([]:List UInt8)
      bif inS 4 (lenI x1428) (List.length x1428) then
       (qbd (dropL x1428 4)).bind fun y1430 =>
       run (qgh y1418 a0) (y1430.1.2.1,(1:Int),((y1430.1.1,[],()):Dq3),())
      else none
     else none
    else none
   else none
  else none
 else none
def qub:Entry:=⟨⟨[.v (.str)],[.v (.pair (.val (.flt .f32)) (.pair (.rows Uq1) (.val (.unit)))),.v (.val (.int .i64))],false⟩,fun x=>qn5 x.1⟩
theorem qac8:Sound Tryz.prog G 187 qub:=qab (envS (l:=[(79,qeo),(157,qjr),(158,qoo),(221,qob),(222,qun)]) ⟨(qgi),(ql9),(qur),(quh),(qadj),trivial⟩) [(10,.vary [(7,.sc (.bool)),(9,.sc (.int .i64)),(8,.box (.pair (.val (.flt .f32)) (.pair (.rows Uq1) (.val (.unit)))))])] Tryz.func187 (by kernel_rfl) rfl fun _=>by kernel_rfl
def qgp (a0:Dq1) (a1:(Int×Dq10)):Option ((Unit)×(Dq1×Unit)) :=
 (qn5 a1.2.1).bind fun y1397 =>
 bif (! (iEq y1397.1.2.1 0)) then
  some ((),(((a0.1,(a0.2.1.1,a0.2.1.2.1,a0.2.1.2.2.1,a0.2.1.2.2.2),a0.2.2):Dq1),()))
 else
 bif inB a1.1 (List.length a0.2.1.1) then
  (qil ((List.getD a0.2.1.1 a1.1.toNat Lq3).1) ((y1397.1.1.1,y1397.1.1.2.1,y1397.1.1.2.2):Dq3)).bind fun y1400 =>
  bif (iEq y1400.1.2.1 0) then
   bif inB a1.1 (List.length a0.2.1.1) then
    some ((),(((a0.1,((List.set a0.2.1.1 a1.1.toNat ((y1400.1.1,(List.getD a0.2.1.1 a1.1.toNat Lq3).2):Dq7)),a0.2.1.2.1,a0.2.1.2.2.1,a0.2.1.2.2.2),a0.2.2):Dq1),()))
   else none
  else
  some ((),(((a0.1,(a0.2.1.1,a0.2.1.2.1,a0.2.1.2.2.1,a0.2.1.2.2.2),a0.2.2):Dq1),()))
 else none
def qpc:Entry:=⟨⟨[.io (.pair (.ro Uq2) (.pair (.pair (.rows Uq3) (.pair (.rows Uq3) (.pair (.rows Uq6) (.val (.unit))))) (.val (.unit)))),.v Uq6],[],true⟩,fun x=>qgp x.1 x.2.1⟩
theorem qx0:Sound Tryz.prog G 155 qpc:=qab (envS (l:=[(187,qub),(188,qrq)]) ⟨(qac8),(qz4),trivial⟩) [] Tryz.func155 (by kernel_rfl) rfl fun _=>by kernel_rfl
def qdb (a0:Dq1) (a1:Dq6):Option Dq24 :=
 bif (iLe (lenI a0.2.1.2.2.1) a1.2.1) then
  some (((2:Int),()),(((a0.1,(a0.2.1.1,a0.2.1.2.1,a0.2.1.2.2.1,a0.2.1.2.2.2),a0.2.2):Dq1),()))
 else
 bif inB a1.2.1 (List.length a0.2.1.2.2.1) then
  let x1387:=List.getD a0.2.1.2.2.1 a1.2.1.toNat ((0,[],()):(Int×Dq10))
  bif (! (iEq a1.1 4)) then
   let x1389:=iAdd .i64 a1.2.1 1
   bif inS x1389 ((List.length a0.2.1.2.2.1:Nat):Int) (List.length a0.2.1.2.2.1) then
    bif room (0+List.length (List.take ((List.length a0.2.1.2.2.1)-x1389.toNat) (List.drop x1389.toNat a0.2.1.2.2.1))) 24 then
     let l1390:=([]:(List (Int×Dq10)))++(List.take ((List.length a0.2.1.2.2.1)-x1389.toNat) (List.drop x1389.toNat a0.2.1.2.2.1))
     bif inS 0 a1.2.1 (List.length a0.2.1.2.2.1) then
      bif room (0+List.length (List.take a1.2.1.toNat (List.drop 0 a0.2.1.2.2.1))) 24 then
       let l1391:=([]:(List (Int×Dq10)))++(List.take a1.2.1.toNat (List.drop 0 a0.2.1.2.2.1))
       bif room (List.length l1391+List.length l1390) 24 then
        let l1392:=l1391++l1390
        bif (! (iEq a1.1 5)) then
         (qgp ((a0.1,(a0.2.1.1,a0.2.1.2.1,l1392,a0.2.1.2.2.2),a0.2.2):Dq1) x1387).bind fun y1394 =>
         some (((0:Int),()),(((y1394.2.1.1,(y1394.2.1.2.1.1,y1394.2.1.2.1.2.1,y1394.2.1.2.1.2.2.1,y1394.2.1.2.1.2.2.2),y1394.2.1.2.2):Dq1),()))
        else
        some (((0:Int),()),(((a0.1,(a0.2.1.1,a0.2.1.2.1,l1392,a0.2.1.2.2.2),a0.2.2):Dq1),()))
       else none
      else none
     else none
    else none
   else none
  else
  bif (! (iEq a1.1 5)) then
   (qgp ((a0.1,(a0.2.1.1,a0.2.1.2.1,a0.2.1.2.2.1,a0.2.1.2.2.2),a0.2.2):Dq1) x1387).bind fun y1396 =>
   some (((0:Int),()),(((y1396.2.1.1,(y1396.2.1.2.1.1,y1396.2.1.2.1.2.1,y1396.2.1.2.1.2.2.1,y1396.2.1.2.1.2.2.2),y1396.2.1.2.2):Dq1),()))
  else
  some (((0:Int),()),(((a0.1,(a0.2.1.1,a0.2.1.2.1,a0.2.1.2.2.1,a0.2.1.2.2.2),a0.2.2):Dq1),()))
 else none
def qpd:Entry:=⟨⟨[.io (.pair (.ro Uq2) (.pair (.pair (.rows Uq3) (.pair (.rows Uq3) (.pair (.rows Uq6) (.val (.unit))))) (.val (.unit)))),.v Uq5],[.v (.val (.int .i64))],true⟩,fun x=>qdb x.1 x.2.1⟩
theorem qx1:Sound Tryz.prog G 121 qpd:=qab (envS (l:=[(155,qpc)]) ⟨(qx0),trivial⟩) [] Tryz.func121 (by kernel_rfl) rfl fun _=>by kernel_rfl
def qks (a0:Dq3):Option (Dq10×Unit) :=
 (qfp a0).bind fun y1678 =>
 bif (! y1678.1.1) then some ((([]:List UInt8),()),()) else
 (qiq a0).bind fun y1680 =>
 some ((y1680.1.1,()),())
def qua:Entry:=⟨⟨[.v Uq4],[.v (.val (.str))],false⟩,fun x=>qks x.1⟩
theorem qac6:Sound Tryz.prog G 124 qua:=qab (envS (l:=[(157,qjr),(158,qoo)]) ⟨(ql9),(qur),trivial⟩) [] Tryz.func124 (by kernel_rfl) rfl fun _=>by kernel_rfl
def qgk (a0:Dq7):Option ((Dq7×Unit)×Unit) :=
 bif room (0+List.length a0.1.2.1) 48 then
  some (((((a0.1.1,(([]:(List Dq2))++a0.1.2.1),()),a0.2.1,()):Dq7),()),())
 else none
def qut:Entry:=⟨⟨[.v Uq3],[.v (.pair (.pair (.val (.flt .f32)) (.pair (.rows Uq1) (.val (.unit)))) (.val Uq8))],false⟩,fun x=>qgk x.1⟩
theorem qadm:Sound Tryz.prog G 123 qut:=qab (envS (l:=[]) trivial) [] Tryz.func123 (by kernel_rfl) rfl fun _=>by kernel_rfl
def qap (a0:Dq1) (a1:Dq6):Option Dq24 :=
 bif (iEq a1.1 3) then
  (qdb ((a0.1,(a0.2.1.1,a0.2.1.2.1,a0.2.1.2.2.1,a0.2.1.2.2.2),a0.2.2):Dq1) a1).bind fun y1088 =>
  some ((y1088.1.1,()),(((y1088.2.1.1,(y1088.2.1.2.1.1,y1088.2.1.2.1.2.1,y1088.2.1.2.1.2.2.1,y1088.2.1.2.1.2.2.2),y1088.2.1.2.2):Dq1),()))
 else
 bif (iEq a1.1 4) then
  (qdb ((a0.1,(a0.2.1.1,a0.2.1.2.1,a0.2.1.2.2.1,a0.2.1.2.2.2),a0.2.2):Dq1) a1).bind fun y1090 =>
  some ((y1090.1.1,()),(((y1090.2.1.1,(y1090.2.1.2.1.1,y1090.2.1.2.1.2.1,y1090.2.1.2.1.2.2.1,y1090.2.1.2.1.2.2.2),y1090.2.1.2.2):Dq1),()))
 else
 bif (iEq a1.1 5) then
  (qdb ((a0.1,(a0.2.1.1,a0.2.1.2.1,a0.2.1.2.2.1,a0.2.1.2.2.2),a0.2.2):Dq1) a1).bind fun y1092 =>
  some ((y1092.1.1,()),(((y1092.2.1.1,(y1092.2.1.2.1.1,y1092.2.1.2.1.2.1,y1092.2.1.2.1.2.2.1,y1092.2.1.2.1.2.2.2),y1092.2.1.2.2):Dq1),()))
 else
 bif (iLe (lenI a0.2.1.1) a1.2.1) then
  some (((2:Int),()),(((a0.1,(a0.2.1.1,a0.2.1.2.1,a0.2.1.2.2.1,a0.2.1.2.2.2),a0.2.2):Dq1),()))
 else
 bif (iEq a1.1 2) then
  bif (iLe (lenI a0.2.1.1) a1.2.2.1) then
   some (((2:Int),()),(((a0.1,(a0.2.1.1,a0.2.1.2.1,a0.2.1.2.2.1,a0.2.1.2.2.2),a0.2.2):Dq1),()))
  else
  bif (iEq a1.2.1 a1.2.2.1) then
   some (((2:Int),()),(((a0.1,(a0.2.1.1,a0.2.1.2.1,a0.2.1.2.2.1,a0.2.1.2.2.2),a0.2.2):Dq1),()))
  else
  bif (iEq a1.1 1) then
   (qhq ((a0.1,(a0.2.1.1,a0.2.1.2.1,a0.2.1.2.2.1,a0.2.1.2.2.2),a0.2.2):Dq1) a1.2.1).bind fun y1098 =>
   some ((y1098.1.1,()),(((y1098.2.1.1,(y1098.2.1.2.1.1,y1098.2.1.2.1.2.1,y1098.2.1.2.1.2.2.1,y1098.2.1.2.1.2.2.2),y1098.2.1.2.2):Dq1),()))
  else
  bif (iEq a1.1 6) then
   bif inB a1.2.1 (List.length a0.2.1.1) then
    (qgk (List.getD a0.2.1.1 a1.2.1.toNat Lq3)).bind fun y1101 =>
    bif inB a1.2.1 (List.length a0.2.1.2.1) then
     some (((0:Int),()),(((a0.1,(a0.2.1.1,(List.set a0.2.1.2.1 a1.2.1.toNat (((y1101.1.1.1.1,y1101.1.1.1.2.1,y1101.1.1.1.2.2),y1101.1.1.2):Dq7)),a0.2.1.2.2.1,a0.2.1.2.2.2),a0.2.2):Dq1),()))
    else none
   else none
  else
  bif (iEq a1.1 7) then
   bif inB a1.2.1 (List.length a0.2.1.2.1) then
    (qgk (List.getD a0.2.1.2.1 a1.2.1.toNat Lq3)).bind fun y1105 =>
    bif inB a1.2.1 (List.length a0.2.1.1) then
     some (((0:Int),()),(((a0.1,((List.set a0.2.1.1 a1.2.1.toNat (((y1105.1.1.1.1,y1105.1.1.1.2.1,y1105.1.1.1.2.2),y1105.1.1.2):Dq7)),a0.2.1.2.1,a0.2.1.2.2.1,a0.2.1.2.2.2),a0.2.2):Dq1),()))
    else none
   else none
  else
  bif (iLe 10 (lenI a0.2.1.2.2.1)) then
   some (((3:Int),()),(((a0.1,(a0.2.1.1,a0.2.1.2.1,a0.2.1.2.2.1,a0.2.1.2.2.2),a0.2.2):Dq1),()))
  else
  bif inB a1.2.1 (List.length a0.2.1.1) then
   (qks ((List.getD a0.2.1.1 a1.2.1.toNat Lq3).1)).bind fun y1109 =>
   bif room (List.length a0.2.1.2.2.1+1) 24 then
    some (((0:Int),()),(((a0.1,(a0.2.1.1,a0.2.1.2.1,(a0.2.1.2.2.1++([(a1.2.2.1,y1109.1.1,())]:(List (Int×Dq10)))),a0.2.1.2.2.2),a0.2.2):Dq1),()))
   else none
  else none
 else
 bif (iEq a1.1 1) then
  (qhq ((a0.1,(a0.2.1.1,a0.2.1.2.1,a0.2.1.2.2.1,a0.2.1.2.2.2),a0.2.2):Dq1) a1.2.1).bind fun y1112 =>
  some ((y1112.1.1,()),(((y1112.2.1.1,(y1112.2.1.2.1.1,y1112.2.1.2.1.2.1,y1112.2.1.2.1.2.2.1,y1112.2.1.2.1.2.2.2),y1112.2.1.2.2):Dq1),()))
 else
 bif (iEq a1.1 6) then
  bif inB a1.2.1 (List.length a0.2.1.1) then
   (qgk (List.getD a0.2.1.1 a1.2.1.toNat Lq3)).bind fun y1115 =>
   bif inB a1.2.1 (List.length a0.2.1.2.1) then
    some (((0:Int),()),(((a0.1,(a0.2.1.1,(List.set a0.2.1.2.1 a1.2.1.toNat (((y1115.1.1.1.1,y1115.1.1.1.2.1,y1115.1.1.1.2.2),y1115.1.1.2):Dq7)),a0.2.1.2.2.1,a0.2.1.2.2.2),a0.2.2):Dq1),()))
   else none
  else none
 else
 bif (iEq a1.1 7) then
  bif inB a1.2.1 (List.length a0.2.1.2.1) then
   (qgk (List.getD a0.2.1.2.1 a1.2.1.toNat Lq3)).bind fun y1119 =>
   bif inB a1.2.1 (List.length a0.2.1.1) then
    some (((0:Int),()),(((a0.1,((List.set a0.2.1.1 a1.2.1.toNat (((y1119.1.1.1.1,y1119.1.1.1.2.1,y1119.1.1.1.2.2),y1119.1.1.2):Dq7)),a0.2.1.2.1,a0.2.1.2.2.1,a0.2.1.2.2.2),a0.2.2):Dq1),()))
   else none
  else none
 else
 bif (iLe 10 (lenI a0.2.1.2.2.1)) then
  some (((3:Int),()),(((a0.1,(a0.2.1.1,a0.2.1.2.1,a0.2.1.2.2.1,a0.2.1.2.2.2),a0.2.2):Dq1),()))
 else
 bif inB a1.2.1 (List.length a0.2.1.1) then
  (qks ((List.getD a0.2.1.1 a1.2.1.toNat Lq3).1)).bind fun y1123 =>
  bif room (List.length a0.2.1.2.2.1+1) 24 then
   some (((0:Int),()),(((a0.1,(a0.2.1.1,a0.2.1.2.1,(a0.2.1.2.2.1++([(a1.2.2.1,y1123.1.1,())]:(List (Int×Dq10)))),a0.2.1.2.2.2),a0.2.2):Dq1),()))
  else none
 else none
def qlr:Entry:=⟨⟨[.io (.pair (.ro Uq2) (.pair (.pair (.rows Uq3) (.pair (.rows Uq3) (.pair (.rows Uq6) (.val (.unit))))) (.val (.unit)))),.v Uq5],[.v (.val (.int .i64))],true⟩,fun x=>qap x.1 x.2.1⟩
theorem qrw:Sound Tryz.prog G 83 qlr:=qab (envS (l:=[(121,qpd),(122,qqx),(123,qut),(124,qua)]) ⟨(qx1),(qzj),(qadm),(qac6),trivial⟩) [] Tryz.func83 (by kernel_rfl) rfl fun _=>by kernel_rfl
def qgj (a0:Dq5) (s1685:(Int×Dq1×Unit)):Option ((Int×Dq1×Unit)⊕((Dq1×Unit)×Unit)) :=
 bif (iLt s1685.1 (lenI a0.2.2.1)) then
  bif room (List.length s1685.2.1.2.1.1+1) 40 then
   bif room (List.length s1685.2.1.2.1.2.1+1) 40 then
    some (Sum.inl ((iAdd .i64 s1685.1 1),((s1685.2.1.1,((s1685.2.1.2.1.1++([((a0.1,[],()),0,())]:(List Dq7))),(s1685.2.1.2.1.2.1++([((a0.1,[],()),0,())]:(List Dq7))),s1685.2.1.2.1.2.2.1,s1685.2.1.2.1.2.2.2),s1685.2.1.2.2):Dq1),()))
   else none
  else none
 else
 Option.map Sum.inr (some ((((s1685.2.1.1,(s1685.2.1.2.1.1,s1685.2.1.2.1.2.1,s1685.2.1.2.1.2.2.1,s1685.2.1.2.1.2.2.2),s1685.2.1.2.2):Dq1),()),()))
def qfh (a0:Dq5):Option ((Dq1×Unit)×Unit) :=
 run (qgj a0) ((0:Int),((a0,([],[],[],()),()):Dq1),())
def qmy:Entry:=⟨⟨[.ro Uq2],[.p (.pair (.ro Uq2) (.pair (.pair (.rows Uq3) (.pair (.rows Uq3) (.pair (.rows Uq6) (.val (.unit))))) (.val (.unit))))],true⟩,fun x=>qfh x.1⟩
theorem qs5:Sound Tryz.prog G 80 qmy:=qab (envS (l:=[]) trivial) [(3,.vary [(4,.sc (.int .i64)),(3,.box (.pair (.ro Uq2) (.pair (.pair (.rows Uq3) (.pair (.rows Uq3) (.pair (.rows Uq6) (.val (.unit))))) (.val (.unit)))))])] Tryz.func80 (by kernel_rfl) rfl fun _=>by kernel_rfl
def qho (a1:(List Dq6)) (s1081:((List Int)×Int×Dq1×Unit)):Option (((List Int)×Int×Dq1×Unit)⊕((Dq1×(List Int)×Unit)×Unit)) :=
 bif (iLt s1081.2.1 (lenI a1)) then
  bif inB s1081.2.1 (List.length a1) then
   (qap ((s1081.2.2.1.1,(s1081.2.2.1.2.1.1,s1081.2.2.1.2.1.2.1,s1081.2.2.1.2.1.2.2.1,s1081.2.2.1.2.1.2.2.2),s1081.2.2.1.2.2):Dq1) (List.getD a1 s1081.2.1.toNat Lq6)).bind fun y1084 =>
   bif room (List.length s1081.1+1) 8 then
    some (Sum.inl ((s1081.1++([y1084.1.1]:(List Int))),(iAdd .i64 s1081.2.1 1),((y1084.2.1.1,(y1084.2.1.2.1.1,y1084.2.1.2.1.2.1,y1084.2.1.2.1.2.2.1,y1084.2.1.2.1.2.2.2),y1084.2.1.2.2):Dq1),()))
   else none
  else none
 else
 Option.map Sum.inr (some ((((s1081.2.2.1.1,(s1081.2.2.1.2.1.1,s1081.2.2.1.2.1.2.1,s1081.2.2.1.2.1.2.2.1,s1081.2.2.1.2.1.2.2.2),s1081.2.2.1.2.2):Dq1),s1081.1,()),()))
def qs8 (a0:Dq5) (a1:(List Dq6)):Option ((Dq1×(List Int)×Unit)×Unit) :=
 (qfh a0).bind fun y1074 =>
 run (qho a1) (([]:(List Int)),(0:Int),((y1074.1.1.1,(y1074.1.1.2.1.1,y1074.1.1.2.1.2.1,y1074.1.1.2.1.2.2.1,y1074.1.1.2.1.2.2.2),y1074.1.1.2.2):Dq1),())
def qei (y982:((Dq1×(List Int)×Unit)×Unit)) (s983:(Int×Unit)):Option ((Int×Unit)⊕Dq23) :=
 bif (iLt s983.1 (lenI y982.1.2.1)) then
  bif inB s983.1 (List.length y982.1.2.1) then
   bif (! (iEq (List.getD y982.1.2.1 s983.1.toNat (0:Int)) 0)) then
    bif inB s983.1 (List.length y982.1.2.1) then
     Option.map Sum.inr (some ((s983.1,(List.getD y982.1.2.1 s983.1.toNat (0:Int)),(0:Int),()),()))
    else none
   else
   some (Sum.inl ((iAdd .i64 s983.1 1),()))
  else none
 else
 Option.map Sum.inr (some (((0:Int),(0:Int),(6:Int),()),()))
def qs2 (a0:Dq5) (a1:(List Dq6)):Option Dq23 :=
 (qrc a0 a1).bind fun y980 =>
 bif (! (iEq y980.1.1 0)) then some (((0:Int),(0:Int),y980.1.1,()),()) else
 (qs8 a0 a1).bind fun y982 =>
 run (qei y982) ((0:Int),())
def qnl (a0:(Vec 3 Nat)) (a1:(Vec 3 Nat)):Option Dq8 :=
 (qa8 (Vec.getD 3 a0 0 (0:Nat)) (Vec.getD 3 a1 0 (0:Nat))).bind fun y1728 =>
 bif (! y1728.1.1) then some ((false,()),()) else
 (qa8 (Vec.getD 3 a0 1 (0:Nat)) (Vec.getD 3 a1 1 (0:Nat))).bind fun y1732 =>
 bif (! y1732.1.1) then some ((false,()),()) else
 (qa8 (Vec.getD 3 a0 2 (0:Nat)) (Vec.getD 3 a1 2 (0:Nat))).bind fun y1736 =>
 bif (! y1736.1.1) then some ((false,()),()) else some ((true,()),())
def qtp:Entry:=⟨⟨[.v (.arr 3 (.flt .f32)),.v (.arr 3 (.flt .f32))],[.v (.val (.bool))],false⟩,fun x=>qnl x.1 x.2.1⟩
theorem qab7:Sound Tryz.prog G 171 qtp:=qab (envS (l:=[(141,qdh)]) ⟨(qex),trivial⟩) [(2,.unroll 4)] Tryz.func171 (by kernel_rfl) rfl fun _=>by kernel_rfl
def qjm (a0:Dq2) (a1:Dq2):Option Dq8 :=
 bif (iEq (Vec.getD 3 a0.1 0 (0:Int)) (Vec.getD 3 a1.1 0 (0:Int))&&(iEq (Vec.getD 3 a0.1 1 (0:Int)) (Vec.getD 3 a1.1 1 (0:Int))&&(iEq (Vec.getD 3 a0.1 2 (0:Int)) (Vec.getD 3 a1.1 2 (0:Int))&&true))) then
  (qnl a0.2.1 a1.2.1).bind fun y1722 =>
  bif y1722.1.1 then
   (qa8 a0.2.2.1 a1.2.2.1).bind fun y1723 =>
   bif y1723.1.1 then
    bif (iEq a0.2.2.2.1 a1.2.2.2.1) then
     some (((iEq a0.2.2.2.2.1 a1.2.2.2.2.1),()),())
    else some ((false,()),())
   else some ((false,()),())
  else some ((false,()),())
 else some ((false,()),())
def qso:Entry:=⟨⟨[.v Uq1,.v Uq1],[.v (.val (.bool))],false⟩,fun x=>qjm x.1 x.2.1⟩
theorem qaa6:Sound Tryz.prog G 143 qso:=qab (envS (l:=[(141,qdh),(171,qtp)]) ⟨(qex),(qab7),trivial⟩) [] Tryz.func143 (by kernel_rfl) rfl fun _=>by kernel_rfl
def qea (a0:(List Dq2)) (a1:(List Dq2)) (a2:((Dq2×Dq2×Unit)→Option Bool)) (s1739:(Int×Unit)):Option ((Int×Unit)⊕Dq8) :=
 bif (iLt s1739.1 (lenI a0)) then
  bif inB s1739.1 (List.length a0) then
   bif inB s1739.1 (List.length a1) then
    (a2 ((List.getD a0 s1739.1.toNat Lq1),(List.getD a1 s1739.1.toNat Lq1),())).bind fun y1743 =>
    bif (! y1743) then
     Option.map Sum.inr (some ((false,()),()))
    else
    some (Sum.inl ((iAdd .i64 s1739.1 1),()))
   else none
  else none
 else
 Option.map Sum.inr (some ((true,()),()))
def qca (a0:(List Dq2)) (a1:(List Dq2)) (a2:((Dq2×Dq2×Unit)→Option Bool)):Option Dq8 :=
 bif (! (iEq (lenI a0) (lenI a1))) then some ((false,()),()) else run (qea a0 a1 a2) ((0:Int),())
def qh2:Entry:=⟨⟨[.v (.list Uq1),.v (.list Uq1),.fn ⟨[.pair (.arr 3 (.int .i32)) Uq9,.pair (.arr 3 (.int .i32)) Uq9],.bool⟩],[.v (.val (.bool))],false⟩,fun x=>qca x.1 x.2.1 x.2.2.1⟩
theorem qov:Sound Tryz.prog G 142 qh2:=qab (envS (l:=[]) trivial) [(4,.vary [(17,.sc (.int .i64))])] Tryz.func142 (by kernel_rfl) rfl fun _=>by kernel_rfl
end
end Go.Proofs.YtjhdoneobdbeaaaGreatDoor
