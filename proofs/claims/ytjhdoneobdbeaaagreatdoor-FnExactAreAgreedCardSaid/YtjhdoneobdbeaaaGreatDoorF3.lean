import Derived.Test.YtjhdoneobdbeaaaGreatDoorF2
/- Functions on typed data: what the evaluation of each Go function is, and that it is sound. -/
set_option linter.unusedVariables false
namespace Go.Proofs.YtjhdoneobdbeaaaGreatDoor
open Go Go.Tm
noncomputable section
set_option maxRecDepth 100000
variable {G : List (Nat × Obj)}
def qs7 (a0:(Vec 3 Nat)) (a1:(Vec 3 Nat)):Option Dq15 :=
 some (((fAdd .f32 (fAdd .f32 (fMul .f32 (Vec.getD 3 a0 0 (0:Nat)) (Vec.getD 3 a1 0 (0:Nat))) (fMul .f32 (Vec.getD 3 a0 1 (0:Nat)) (Vec.getD 3 a1 1 (0:Nat)))) (fMul .f32 (Vec.getD 3 a0 2 (0:Nat)) (Vec.getD 3 a1 2 (0:Nat)))),()),())
def qtw:Entry:=⟨⟨[.v (.arr 3 (.flt .f32)),.v (.arr 3 (.flt .f32))],[.v (.val (.flt .f32))],false⟩,fun x=>qs7 x.1 x.2.1⟩
theorem qacv:Sound Tryz.prog G 268 qtw:=qab (envS (l:=[]) trivial) [] Tryz.func268 (by kernel_rfl) rfl fun _=>by kernel_rfl
def qmj (a0:Nat):Option Dq15 :=
 (fConv .f32 .f64 a0).bind fun y1283 =>
 (qr7 y1283).bind fun y1284 =>
 (fConv .f64 .f32 y1284.1.1).bind fun y1285 =>
 some ((y1285,()),())
def qsk:Entry:=⟨⟨[.v (.flt .f32)],[.v (.val (.flt .f32))],false⟩,fun x=>qmj x.1⟩
theorem qabt:Sound Tryz.prog G 267 qsk:=qab (envS (l:=[(274,qqv)]) ⟨(qwu),trivial⟩) [] Tryz.func267 (by kernel_rfl) rfl fun _=>by kernel_rfl
def qiz (a0:Dq2) (a1:(Vec 3 Nat)):Option Dq15 :=
 let x1263:=fSub .f32 (Vec.getD 3 a0.2.1 0 (0:Nat)) (Vec.getD 3 a1 0 (0:Nat))
 let x1266:=fSub .f32 (Vec.getD 3 a0.2.1 1 (0:Nat)) (Vec.getD 3 a1 1 (0:Nat))
 let x1269:=fSub .f32 (Vec.getD 3 a0.2.1 2 (0:Nat)) (Vec.getD 3 a1 2 (0:Nat))
 (qs7 ((x1263,x1266,x1269,()):(Vec 3 Nat)) ((x1263,x1266,x1269,()):(Vec 3 Nat))).bind fun y1270 =>
 (qmj y1270.1.1).bind fun y1271 =>
 some ((y1271.1.1,()),())
def qsl:Entry:=⟨⟨[.ro Uq1,.v (.arr 3 (.flt .f32))],[.v (.val (.flt .f32))],false⟩,fun x=>qiz x.1 x.2.1⟩
theorem qabu:Sound Tryz.prog G 254 qsl:=qab (envS (l:=[(267,qsk),(268,qtw)]) ⟨(qabt),(qacv),trivial⟩) [] Tryz.func254 (by kernel_rfl) rfl fun _=>by kernel_rfl
def qgr (a0:(Vec 3 Int)) (a1:(Vec 3 Int)):Option Dq7 :=
 let x1290:=iSub .i64 (iWrap .i64 (Vec.getD 3 a0 0 (0:Int))) (iWrap .i64 (Vec.getD 3 a1 0 (0:Int)))
 bif (iLt 1 x1290) then some ((false,()),()) else
 bif (iLt x1290 (-1:Int)) then some ((false,()),()) else
 let x1297:=iSub .i64 (iWrap .i64 (Vec.getD 3 a0 1 (0:Int))) (iWrap .i64 (Vec.getD 3 a1 1 (0:Int)))
 bif (iLt 1 x1297) then some ((false,()),()) else
 bif (iLt x1297 (-1:Int)) then some ((false,()),()) else
 let x1304:=iSub .i64 (iWrap .i64 (Vec.getD 3 a0 2 (0:Int))) (iWrap .i64 (Vec.getD 3 a1 2 (0:Int)))
 bif (iLt 1 x1304) then some ((false,()),()) else
 bif (iLt x1304 (-1:Int)) then some ((false,()),()) else some ((true,()),())
def qpy:Entry:=⟨⟨[.v (.arr 3 (.int .i32)),.v (.arr 3 (.int .i32))],[.v (.val (.bool))],false⟩,fun x=>qgr x.1 x.2.1⟩
theorem qx8:Sound Tryz.prog G 253 qpy:=qab (envS (l:=[]) trivial) [(2,.unroll 4)] Tryz.func253 (by kernel_rfl) rfl fun _=>by kernel_rfl
def qfu (a0:Dq3) (y1242:Dq21) (a1:(Vec 3 Nat)) (a2:Nat) (s1247:(Int×Nat×Int×Unit)):Option ((Int×Nat×Int×Unit)⊕(Dq17×Unit)) :=
 bif (iLt s1247.2.2.1 (lenI a0.2.1)) then
  bif inB s1247.2.2.1 (List.length a0.2.1) then
   (qgr ((List.getD a0.2.1 s1247.2.2.1.toNat Lq1).1) y1242.1.1).bind fun y1250 =>
   bif (! y1250.1.1) then
    some (Sum.inl (s1247.1,s1247.2.1,(iAdd .i64 s1247.2.2.1 1),()))
   else
   bif inB s1247.2.2.1 (List.length a0.2.1) then
    (qiz (List.getD a0.2.1 s1247.2.2.1.toNat Lq1) a1).bind fun y1253 =>
    bif (fLe .f32 y1253.1.1 a2) then
     bif (iLt s1247.1 0) then
      some (Sum.inl (s1247.2.2.1,y1253.1.1,(iAdd .i64 s1247.2.2.1 1),()))
     else
     bif (fLt .f32 y1253.1.1 s1247.2.1) then
      some (Sum.inl (s1247.2.2.1,y1253.1.1,(iAdd .i64 s1247.2.2.1 1),()))
     else
     some (Sum.inl (s1247.1,s1247.2.1,(iAdd .i64 s1247.2.2.1 1),()))
    else
    some (Sum.inl (s1247.1,s1247.2.1,(iAdd .i64 s1247.2.2.1 1),()))
   else none
  else none
 else
 Option.map Sum.inr (some ((s1247.1,(0:Int),()),()))
def qif (a0:Dq3) (a1:(Vec 3 Nat)) (a2:Nat):Option (Dq17×Unit) :=
 (qc6 a0.1 a1).bind fun y1242 =>
 bif (iEq y1242.1.2.1 2) then some ((Lq6,(2:Int),()),()) else
 bif (! (fLe .f32 0 a2)) then some ((Lq6,(2:Int),()),()) else
 bif (! (iEq y1242.1.2.1 0)) then some ((Lq6,y1242.1.2.1,()),()) else run (qfu a0 y1242 a1 a2) (Lq6,(0:Nat),(0:Int),())
def qo2:Entry:=⟨⟨[.ro Uq6,.v (.arr 3 (.flt .f32)),.v (.flt .f32)],[.v (.val (.int .i64)),.v (.val (.int .i64))],false⟩,fun x=>qif x.1 x.2.1 x.2.2.1⟩
theorem qxb:Sound Tryz.prog G 226 qo2:=qab (envS (l:=[(154,qie),(253,qpy),(254,qsl)]) ⟨(qmm),(qx8),(qabu),trivial⟩) [(9,.vary [(10,.sc (.int .i64)),(11,.sc (.flt .f32)),(12,.sc (.int .i64))])] Tryz.func226 (by kernel_rfl) rfl fun _=>by kernel_rfl
def qbc (a0:Nat) (a1:Nat):Option Dq7 :=
 bif (! (fEq .f32 a0 a0)) then
  bif (! (fEq .f32 a0 a0)) then
   some (((! (fEq .f32 a1 a1)),()),())
  else some ((false,()),())
 else
 bif (! (fEq .f32 a1 a1)) then
  bif (! (fEq .f32 a0 a0)) then
   some (((! (fEq .f32 a1 a1)),()),())
  else some ((false,()),())
 else
 allSame fun (q1368:Nat) =>
 allSame fun (q1370:Nat) =>
 some (((iEq (bitsF .f32 a0 q1368) (bitsF .f32 a1 q1370)),()),())
def qfq:Entry:=⟨⟨[.v (.flt .f32),.v (.flt .f32)],[.v (.val (.bool))],false⟩,fun x=>qbc x.1 x.2.1⟩
theorem qic:Sound Tryz.prog G 104 qfq:=qab (envS (l:=[]) trivial) [] Tryz.func104 (by kernel_rfl) rfl fun _=>by kernel_rfl
def qen (a0:Dq2) (a1:Dq2):Option Dq7 :=
 bif (! (iEq a0.2.2.2.2.1 a1.2.2.2.2.1)) then
  some (((iLt a1.2.2.2.2.1 a0.2.2.2.2.1),()),())
 else
 bif (! (fEq .f32 a0.2.2.1 a1.2.2.1)) then
  some (((fLt .f32 a1.2.2.1 a0.2.2.1),()),())
 else
 bif (! (iEq a0.2.2.2.1 a1.2.2.2.1)) then
  some (((iLt a1.2.2.2.1 a0.2.2.2.1),()),())
 else
 bif (! (fEq .f32 (Vec.getD 3 a0.2.1 0 (0:Nat)) (Vec.getD 3 a1.2.1 0 (0:Nat)))) then
  some (((fLt .f32 (Vec.getD 3 a1.2.1 0 (0:Nat)) (Vec.getD 3 a0.2.1 0 (0:Nat))),()),())
 else
 (qbc (Vec.getD 3 a0.2.1 0 (0:Nat)) (Vec.getD 3 a1.2.1 0 (0:Nat))).bind fun y1334 =>
 bif (! y1334.1.1) then
  (qbc (Vec.getD 3 a0.2.1 0 (0:Nat)) (0:Nat)).bind fun y1337 =>
  some ((y1337.1.1,()),())
 else
 bif (! (fEq .f32 (Vec.getD 3 a0.2.1 1 (0:Nat)) (Vec.getD 3 a1.2.1 1 (0:Nat)))) then
  some (((fLt .f32 (Vec.getD 3 a1.2.1 1 (0:Nat)) (Vec.getD 3 a0.2.1 1 (0:Nat))),()),())
 else
 (qbc (Vec.getD 3 a0.2.1 1 (0:Nat)) (Vec.getD 3 a1.2.1 1 (0:Nat))).bind fun y1346 =>
 bif (! y1346.1.1) then
  (qbc (Vec.getD 3 a0.2.1 1 (0:Nat)) (0:Nat)).bind fun y1349 =>
  some ((y1349.1.1,()),())
 else
 bif (! (fEq .f32 (Vec.getD 3 a0.2.1 2 (0:Nat)) (Vec.getD 3 a1.2.1 2 (0:Nat)))) then
  some (((fLt .f32 (Vec.getD 3 a1.2.1 2 (0:Nat)) (Vec.getD 3 a0.2.1 2 (0:Nat))),()),())
 else
 (qbc (Vec.getD 3 a0.2.1 2 (0:Nat)) (Vec.getD 3 a1.2.1 2 (0:Nat))).bind fun y1358 =>
 bif (! y1358.1.1) then
  (qbc (Vec.getD 3 a0.2.1 2 (0:Nat)) (0:Nat)).bind fun y1361 =>
  some ((y1361.1.1,()),())
 else some ((false,()),())
def qpz:Entry:=⟨⟨[.ro Uq1,.ro Uq1],[.v (.val (.bool))],false⟩,fun x=>qen x.1 x.2.1⟩
theorem qya:Sound Tryz.prog G 252 qpz:=qab (envS (l:=[(104,qfq)]) ⟨(qic),trivial⟩) [(8,.unroll 4)] Tryz.func252 (by kernel_rfl) rfl fun _=>by kernel_rfl
def qdy (a0:(List Dq2)) (a1:(Vec 3 Int)) (s1373:(Int×Unit)):Option ((Int×Unit)⊕Dq13) :=
 bif (iLt s1373.1 (lenI a0)) then
  bif inB s1373.1 (List.length a0) then
   (qft ((List.getD a0 s1373.1.toNat Lq1).1) a1).bind fun y1376 =>
   bif (iLt y1376.1.1 0) then
    some (Sum.inl ((iAdd .i64 s1373.1 1),()))
   else
   Option.map Sum.inr (
    bif (iLt s1373.1 (lenI a0)) then
     bif inB s1373.1 (List.length a0) then
      let x1380:=(List.getD a0 s1373.1.toNat Lq1).1
      some ((s1373.1,(iEq (Vec.getD 3 x1380 0 (0:Int)) (Vec.getD 3 a1 0 (0:Int))&&(iEq (Vec.getD 3 x1380 1 (0:Int)) (Vec.getD 3 a1 1 (0:Int))&&(iEq (Vec.getD 3 x1380 2 (0:Int)) (Vec.getD 3 a1 2 (0:Int))&&true))),()),())
     else none
    else some ((s1373.1,false,()),()))
  else none
 else
 Option.map Sum.inr (
  bif (iLt s1373.1 (lenI a0)) then
   bif inB s1373.1 (List.length a0) then
    let x1383:=(List.getD a0 s1373.1.toNat Lq1).1
    some ((s1373.1,(iEq (Vec.getD 3 x1383 0 (0:Int)) (Vec.getD 3 a1 0 (0:Int))&&(iEq (Vec.getD 3 x1383 1 (0:Int)) (Vec.getD 3 a1 1 (0:Int))&&(iEq (Vec.getD 3 x1383 2 (0:Int)) (Vec.getD 3 a1 2 (0:Int))&&true))),()),())
   else none
  else some ((s1373.1,false,()),()))
def qmn (a0:(List Dq2)) (a1:(Vec 3 Int)):Option Dq13 :=
 run (qdy a0 a1) ((0:Int),())
def qsm:Entry:=⟨⟨[.v (.list Uq1),.v (.arr 3 (.int .i32))],[.v (.val (.int .i64)),.v (.val (.bool))],false⟩,fun x=>qmn x.1 x.2.1⟩
theorem qabv:Sound Tryz.prog G 251 qsm:=qab (envS (l:=[(191,qi0)]) ⟨(qo1),trivial⟩) [(2,.vary [(6,.sc (.int .i64))])] Tryz.func251 (by kernel_rfl) rfl fun _=>by kernel_rfl
def qc1 (a0:(List Dq2)) (a1:Dq2):Option (((List Dq2)×Unit)×Unit) :=
 (qmn a0 a1.1).bind fun y1307 =>
 bif inS 0 y1307.1.1 (List.length a0) then
  let x1308:=takeL a0 y1307.1.1
  bif room (0+List.length x1308) 48 then
   let l1309:=([]:(List Dq2))++x1308
   bif y1307.1.2.1 then
    bif inB y1307.1.1 (List.length a0) then
     (qen a1 (List.getD a0 y1307.1.1.toNat Lq1)).bind fun y1310 =>
     bif y1310.1.1 then
      bif room (List.length l1309+1) 48 then
       let l1311:=l1309++([a1]:(List Dq2))
       let x1312:=iAdd .i64 y1307.1.1 1
       bif inS x1312 (lenI a0) (List.length a0) then
        let x1313:=dropL a0 x1312
        bif room (List.length l1311+List.length x1313) 48 then
         some (((l1311++x1313),()),())
        else none
       else none
      else none
     else
     bif inS y1307.1.1 (lenI a0) (List.length a0) then
      let x1315:=dropL a0 y1307.1.1
      bif room (List.length l1309+List.length x1315) 48 then
       some (((l1309++x1315),()),())
      else none
     else none
    else none
   else
   bif room (List.length l1309+1) 48 then
    let l1317:=l1309++([a1]:(List Dq2))
    bif inS y1307.1.1 (lenI a0) (List.length a0) then
     let x1318:=dropL a0 y1307.1.1
     bif room (List.length l1317+List.length x1318) 48 then
      some (((l1317++x1318),()),())
     else none
    else none
   else none
  else none
 else none
def qn2:Entry:=⟨⟨[.v (.list Uq1),.v Uq1],[.v (.rows Uq1)],false⟩,fun x=>qc1 x.1 x.2.1⟩
theorem qt1:Sound Tryz.prog G 224 qn2:=qab (envS (l:=[(251,qsm),(252,qpz)]) ⟨(qabv),(qya),trivial⟩) [] Tryz.func224 (by kernel_rfl) rfl fun _=>by kernel_rfl
def qb1 (a0:Nat) (a1:(List Dq2)):Option Dq18 :=
 bif (iLt 200 (lenI a1)) then some ((Lq4,(3:Int),()),()) else some ((((a0,a1,()):Dq3),(0:Int),()),())
def qmv:Entry:=⟨⟨[.v (.flt .f32),.v (.list Uq1)],[.v (.val Uq6),.v (.val (.int .i64))],true⟩,fun x=>qb1 x.1 x.2.1⟩
theorem qst:Sound Tryz.prog G 225 qmv:=qab (envS (l:=[]) trivial) [] Tryz.func225 (by kernel_rfl) rfl fun _=>by kernel_rfl
def qhy (a0:Dq3) (a1:(Vec 3 Nat)) (a2:Nat) (a3:Int) (a4:Nat):Option ((Dq3×(Vec 3 Int)×Bool×Int×Unit)×(Dq3×Unit)) :=
 (qbt a2).bind fun y1180 =>
 bif (! y1180.1.1) then some ((Lq4,Lq2,false,(2:Int),()),(a0,())) else
 bif (! (fLt .f32 0 a2)) then some ((Lq4,Lq2,false,(2:Int),()),(a0,())) else
 (qgq a3).bind fun y1184 =>
 bif (! y1184.1.1) then some ((Lq4,Lq2,false,(2:Int),()),(a0,())) else
 (qif a0 a1 a4).bind fun y1186 =>
 bif (! (iEq y1186.1.2.1 0)) then some ((Lq4,Lq2,false,y1186.1.2.1,()),(a0,())) else
 bif room (0+List.length a0.2.1) 48 then
  bif (iLe 0 y1186.1.1) then
   bif inB y1186.1.1 (List.length a0.2.1) then
    let x1190:=List.getD a0.2.1 y1186.1.1.toNat Lq1
    bif inS 0 y1186.1.1 (List.length a0.2.1) then
     let x1191:=takeL a0.2.1 y1186.1.1
     bif room (0+List.length x1191) 48 then
      let l1192:=([]:(List Dq2))++x1191
      let x1193:=iAdd .i64 y1186.1.1 1
      bif inS x1193 (lenI a0.2.1) (List.length a0.2.1) then
       let x1194:=dropL a0.2.1 x1193
       bif room (List.length l1192+List.length x1194) 48 then
        let l1195:=l1192++x1194
        let x1196:=fAdd .f32 x1190.2.2.1 a2
        let x1202:=fDiv .f32 (fAdd .f32 (fMul .f32 x1190.2.2.1 (Vec.getD 3 x1190.2.1 0 (0:Nat))) (fMul .f32 a2 (Vec.getD 3 a1 0 (0:Nat)))) x1196
        let x1208:=fDiv .f32 (fAdd .f32 (fMul .f32 x1190.2.2.1 (Vec.getD 3 x1190.2.1 1 (0:Nat))) (fMul .f32 a2 (Vec.getD 3 a1 1 (0:Nat)))) x1196
        let x1214:=fDiv .f32 (fAdd .f32 (fMul .f32 x1190.2.2.1 (Vec.getD 3 x1190.2.1 2 (0:Nat))) (fMul .f32 a2 (Vec.getD 3 a1 2 (0:Nat)))) x1196
        (qbt x1196).bind fun y1215 =>
        bif (! y1215.1.1) then
         (qj4 (iAdd .i64 x1190.2.2.2.1 1) (1000000:Int)).bind fun y1218 =>
         (qj3 x1190.2.2.2.2.1 a3).bind fun y1219 =>
         (qc6 a0.1 (Vec.set 3 (Vec.set 3 (Vec.set 3 a1 0 x1202) 1 x1208) 2 x1214)).bind fun y1221 =>
         bif (! (iEq y1221.1.2.1 0)) then some ((Lq4,Lq2,false,(3:Int),()),(a0,())) else
         (qc1 l1195 ((y1221.1.1,Vec.set 3 (Vec.set 3 (Vec.set 3 a1 0 x1202) 1 x1208) 2 x1214,x1190.2.2.1,y1218.1.1,y1219.1.1,()):Dq2)).bind fun y1223 =>
         (qb1 a0.1 y1223.1.1).bind fun y1224 =>
         some ((y1224.1.1,y1221.1.1,(iLe 0 y1186.1.1),y1224.1.2.1,()),(a0,()))
        else
        (qj4 (iAdd .i64 x1190.2.2.2.1 1) (1000000:Int)).bind fun y1227 =>
        (qj3 x1190.2.2.2.2.1 a3).bind fun y1228 =>
        (qc6 a0.1 (Vec.set 3 (Vec.set 3 (Vec.set 3 a1 0 x1202) 1 x1208) 2 x1214)).bind fun y1230 =>
        bif (! (iEq y1230.1.2.1 0)) then some ((Lq4,Lq2,false,(3:Int),()),(a0,())) else
        (qc1 l1195 ((y1230.1.1,Vec.set 3 (Vec.set 3 (Vec.set 3 a1 0 x1202) 1 x1208) 2 x1214,x1196,y1227.1.1,y1228.1.1,()):Dq2)).bind fun y1232 =>
        (qb1 a0.1 y1232.1.1).bind fun y1233 =>
        some ((y1233.1.1,y1230.1.1,(iLe 0 y1186.1.1),y1233.1.2.1,()),(a0,()))
       else none
      else none
     else none
    else none
   else none
  else
  (qc6 a0.1 a1).bind fun y1235 =>
  bif (! (iEq y1235.1.2.1 0)) then some ((Lq4,Lq2,false,(3:Int),()),(a0,())) else
  (qc1 (([]:(List Dq2))++a0.2.1) ((y1235.1.1,a1,a2,1,a3,()):Dq2)).bind fun y1237 =>
  (qb1 a0.1 y1237.1.1).bind fun y1238 =>
  some ((y1238.1.1,y1235.1.1,(iLe 0 y1186.1.1),y1238.1.2.1,()),(a0,()))
 else none
def qt2:Entry:=⟨⟨[.io (.val Uq6),.v (.arr 3 (.flt .f32)),.v (.flt .f32),.v (.int .i64),.v (.flt .f32)],[.v (.val Uq6),.v (.val (.arr 3 (.int .i32))),.v (.val (.bool)),.v (.val (.int .i64))],true⟩,fun x=>qhy x.1 x.2.1 x.2.2.1 x.2.2.2.1 x.2.2.2.2.1⟩
theorem qacy:Sound Tryz.prog G 189 qt2:=qab (envS (l:=[(88,qtu),(119,qid),(153,qda),(154,qie),(224,qn2),(225,qmv),(226,qo2),(227,qtv)]) ⟨(qacs),(qmk),(qd9),(qmm),(qt1),(qst),(qxb),(qacu),trivial⟩) [(13,.unroll 4)] Tryz.func189 (by kernel_rfl) rfl fun _=>by kernel_rfl
def qhh (a0:Dq3) (a1:(Vec 3 Nat)) (a2:Nat) (a3:Int) (a4:Nat):Option ((Dq3×(Vec 3 Int)×Int×Unit)×Unit) :=
 (qed a0).bind fun y1138 =>
 bif (! y1138.1.1) then some ((Lq4,Lq2,(1:Int),()),()) else
 (qhy a0 a1 a2 a3 a4).bind fun y1140 =>
 bif (! (iEq y1140.1.2.2.2.1 0)) then some ((Lq4,Lq2,y1140.1.2.2.2.1,()),()) else some ((y1140.1.1,y1140.1.2.1,(0:Int),()),())
def qne:Entry:=⟨⟨[.v Uq6,.v (.arr 3 (.flt .f32)),.v (.flt .f32),.v (.int .i64),.v (.flt .f32)],[.v (.val Uq6),.v (.val (.arr 3 (.int .i32))),.v (.val (.int .i64))],true⟩,fun x=>qhh x.1 x.2.1 x.2.2.1 x.2.2.2.1 x.2.2.2.2.1⟩
theorem qvs:Sound Tryz.prog G 156 qne:=qab (envS (l:=[(157,qht),(189,qt2)]) ⟨(qke),(qacy),trivial⟩) [] Tryz.func156 (by kernel_rfl) rfl fun _=>by kernel_rfl
def qfy (a0:Dq1) (a1:Int):Option Dq20 :=
 bif inB a1 (List.length a0.2.1.1) then
  bif inB a1 (List.length a0.1.2.2.1) then
   bif (iEq (((List.getD a0.2.1.1 a1.toNat Lq3).2).1) (lenI (List.getD a0.1.2.2.1 a1.toNat ([]:(List Dq4))))) then
    some (((4:Int),()),(((a0.1,(a0.2.1.1,a0.2.1.2.1,a0.2.1.2.2.1,a0.2.1.2.2.2),a0.2.2):Dq1),()))
   else
   bif inB a1 (List.length a0.1.2.2.1) then
    let x1128:=List.getD a0.1.2.2.1 a1.toNat ([]:(List Dq4))
    let x1129:=((List.getD a0.2.1.1 a1.toNat Lq3).2).1
    bif inB x1129 (List.length x1128) then
     let x1130:=List.getD x1128 x1129.toNat Lq7
     (qhh ((List.getD a0.2.1.1 a1.toNat Lq3).1) x1130.1 x1130.2.1 x1130.2.2.1 a0.1.2.1).bind fun y1132 =>
     bif (! (iEq y1132.1.2.2.1 0)) then
      some (((3:Int),()),(((a0.1,(a0.2.1.1,a0.2.1.2.1,a0.2.1.2.2.1,a0.2.1.2.2.2),a0.2.2):Dq1),()))
     else
     let w1134:=List.set a0.2.1.1 a1.toNat ((y1132.1.1,(List.getD a0.2.1.1 a1.toNat Lq3).2):Dq8)
     some (((0:Int),()),(((a0.1,((List.set w1134 a1.toNat (((List.getD w1134 a1.toNat Lq3).1,(iAdd .i64 (((List.getD w1134 a1.toNat Lq3).2).1) 1),((List.getD w1134 a1.toNat Lq3).2).2):Dq8)),a0.2.1.2.1,a0.2.1.2.2.1,a0.2.1.2.2.2),a0.2.2):Dq1),()))
    else none
   else none
  else none
 else none
def qo3:Entry:=⟨⟨[.io (.pair (.ro Uq2) (.pair (.pair (.rows Uq3) (.pair (.rows Uq3) (.pair (.rows Uq7) (.val (.unit))))) (.val (.unit)))),.v (.int .i64)],[.v (.val (.int .i64))],true⟩,fun x=>qfy x.1 x.2.1⟩
theorem qxc:Sound Tryz.prog G 122 qo3:=qab (envS (l:=[(156,qne)]) ⟨(qvs),trivial⟩) [] Tryz.func122 (by kernel_rfl) rfl fun _=>by kernel_rfl
def qoi (a0:Dq3) (a1:Dq3):Option Dq11 :=
 (qed a0).bind fun y1412 =>
 bif (! y1412.1.1) then some (((1:Int),()),()) else
 (qed a1).bind fun y1414 =>
 bif (! y1414.1.1) then some (((1:Int),()),()) else
 bif (! (fEq .f32 a0.1 a1.1)) then some (((4:Int),()),()) else some (((0:Int),()),())
def qt3:Entry:=⟨⟨[.ro Uq6,.ro Uq6],[.v (.val (.int .i64))],false⟩,fun x=>qoi x.1 x.2.1⟩
theorem qacz:Sound Tryz.prog G 223 qt3:=qab (envS (l:=[(157,qht)]) ⟨(qke),trivial⟩) [] Tryz.func223 (by kernel_rfl) rfl fun _=>by kernel_rfl
def qc9 (a1:Dq3) (a0:Dq3) (s1406:((List Dq2)×Int×Unit)):Option (((List Dq2)×Int×Unit)⊕Dq18) :=
 bif (iLt s1406.2.1 (lenI a1.2.1)) then
  bif inB s1406.2.1 (List.length a1.2.1) then
   (qc1 s1406.1 (List.getD a1.2.1 s1406.2.1.toNat Lq1)).bind fun y1409 =>
   some (Sum.inl (y1409.1.1,(iAdd .i64 s1406.2.1 1),()))
  else none
 else
 Option.map Sum.inr (
  (qb1 a0.1 s1406.1).bind fun y1411 =>
  some ((y1411.1.1,y1411.1.2.1,()),()))
def qgp (a0:Dq3) (a1:Dq3):Option Dq18 :=
 (qoi a0 a1).bind fun y1403 =>
 bif (! (iEq y1403.1.1 0)) then some ((Lq4,y1403.1.1,()),()) else
 bif room (0+List.length a0.2.1) 48 then
  run (qc9 a1 a0) ((([]:(List Dq2))++a0.2.1),(0:Int),())
 else none
def qpw:Entry:=⟨⟨[.v Uq6,.v Uq6],[.v (.val Uq6),.v (.val (.int .i64))],true⟩,fun x=>qgp x.1 x.2.1⟩
theorem qx6:Sound Tryz.prog G 188 qpw:=qab (envS (l:=[(223,qt3),(224,qn2),(225,qmv)]) ⟨(qacz),(qt1),(qst),trivial⟩) [(6,.vary [(7,.rows Uq1),(8,.sc (.int .i64))])] Tryz.func188 (by kernel_rfl) rfl fun _=>by kernel_rfl
def qiy (a0:Nat):Option Dq11 :=
 bif (! (fEq .f32 a0 a0)) then some (((2143289344:Int),()),()) else
 allSame fun (q1485:Nat) =>
 some (((bitsF .f32 a0 q1485),()),())
def qmh:Entry:=⟨⟨[.v (.flt .f32)],[.v (.val (.int .u32))],false⟩,fun x=>qiy x.1⟩
theorem qsi:Sound Tryz.prog G 228 qmh:=qab (envS (l:=[]) trivial) [] Tryz.func228 (by kernel_rfl) rfl fun _=>by kernel_rfl
def qbb (a0:List UInt8) (s1455:Dq17):Option (Dq17⊕((Nat×Bool×Unit)×Unit)) :=
 bif (iLt s1455.2.1 8) then
  bif inB s1455.2.1 (List.length a0) then
   let x1457:=strAt a0 s1455.2.1
   bif (iLe 48 x1457) then
    bif (iLe x1457 57) then
     some (Sum.inl ((iAdd .u32 (iMul .u32 s1455.1 16) (iWrap .u32 (iSub .u8 x1457 48))),(iAdd .i64 s1455.2.1 1),()))
    else
    bif (iLe 97 x1457) then
     bif (iLe x1457 102) then
      some (Sum.inl ((iAdd .u32 (iAdd .u32 (iMul .u32 s1455.1 16) (iWrap .u32 (iSub .u8 x1457 97))) 10),(iAdd .i64 s1455.2.1 1),()))
     else
     Option.map Sum.inr (some (((0:Nat),false,()),()))
    else
    Option.map Sum.inr (some (((0:Nat),false,()),()))
   else
   bif (iLe 97 x1457) then
    bif (iLe x1457 102) then
     some (Sum.inl ((iAdd .u32 (iAdd .u32 (iMul .u32 s1455.1 16) (iWrap .u32 (iSub .u8 x1457 97))) 10),(iAdd .i64 s1455.2.1 1),()))
    else
    Option.map Sum.inr (some (((0:Nat),false,()),()))
   else
   Option.map Sum.inr (some (((0:Nat),false,()),()))
  else none
 else
 Option.map Sum.inr (
  (qba s1455.1).bind fun y1481 =>
  (qiy y1481.1.1).bind fun y1482 =>
  some ((y1481.1.1,(iEq y1482.1.1 s1455.1),()),()))
def qa4 (a0:List UInt8):Option ((Nat×Bool×Unit)×Unit) :=
 bif (! (iEq (lenI a0) 8)) then some (((0:Nat),false,()),()) else run (qbb a0) ((0:Int),(0:Int),())
def qmi:Entry:=⟨⟨[.v (.str)],[.v (.val (.flt .f32)),.v (.val (.bool))],false⟩,fun x=>qa4 x.1⟩
theorem qsj:Sound Tryz.prog G 221 qmi:=qab (envS (l:=[(228,qmh),(249,qdh)]) ⟨(qsi),(qjp),trivial⟩) [(5,.vary [(4,.sc (.int .u32)),(5,.sc (.int .i64))])] Tryz.func221 (by kernel_rfl) rfl fun _=>by kernel_rfl
def qcm (a0:List UInt8) (a1:Int) (s1487:((List (List UInt8))×Int×Int×Unit)):Option (((List (List UInt8))×Int×Int×Unit)⊕(((List (List UInt8))×Unit)×Unit)) :=
 bif (iLt s1487.2.2.1 (lenI a0)) then
  bif inB s1487.2.2.1 (List.length a0) then
   bif (iEq (strAt a0 s1487.2.2.1) a1) then
    bif inS s1487.2.1 s1487.2.2.1 (List.length a0) then
     bif room (List.length s1487.1+1) 16 then
      some (Sum.inl ((s1487.1++([(subL a0 s1487.2.1 s1487.2.2.1)]:(List (List UInt8)))),(iAdd .i64 s1487.2.2.1 1),(iAdd .i64 s1487.2.2.1 1),()))
     else none
    else none
   else
   some (Sum.inl (s1487.1,s1487.2.1,(iAdd .i64 s1487.2.2.1 1),()))
  else none
 else
 Option.map Sum.inr (
  bif inS s1487.2.1 (lenI a0) (List.length a0) then
   bif room (List.length s1487.1+1) 16 then
    some (((s1487.1++([(dropL a0 s1487.2.1)]:(List (List UInt8)))),()),())
   else none
  else none)
def qd6 (a0:List UInt8) (a1:Int):Option (((List (List UInt8))×Unit)×Unit) :=
 run (qcm a0 a1) (([]:(List (List UInt8))),(0:Int),(0:Int),())
def qk3:Entry:=⟨⟨[.v (.str),.v (.int .u8)],[.v (.rows (.str))],false⟩,fun x=>qd6 x.1 x.2.1⟩
theorem qq2:Sound Tryz.prog G 79 qk3:=qab (envS (l:=[]) trivial) [(4,.vary [(5,.rows (.str)),(6,.sc (.int .i64)),(7,.sc (.int .i64))])] Tryz.func79 (by kernel_rfl) rfl fun _=>by kernel_rfl
def qa7 (a0:List UInt8) (s1538:Dq17):Option (Dq17⊕Dq13) :=
 bif (iLt s1538.2.1 (lenI a0)) then
  bif inB s1538.2.1 (List.length a0) then
   bif (iLt (strAt a0 s1538.2.1) 48) then
    Option.map Sum.inr (some (((0:Int),false,()),()))
   else
   bif inB s1538.2.1 (List.length a0) then
    bif (iLt 57 (strAt a0 s1538.2.1)) then
     Option.map Sum.inr (some (((0:Int),false,()),()))
    else
    bif inB s1538.2.1 (List.length a0) then
     some (Sum.inl ((iAdd .i64 (iMul .i64 s1538.1 10) (iWrap .i64 (iSub .u8 (strAt a0 s1538.2.1) 48))),(iAdd .i64 s1538.2.1 1),()))
    else none
   else none
  else none
 else
 Option.map Sum.inr (some ((s1538.1,true,()),()))
def qnf (a0:List UInt8) (s1550:Dq17):Option (Dq17⊕Dq13) :=
 bif (iLt s1550.2.1 (lenI a0)) then
  bif inB s1550.2.1 (List.length a0) then
   bif (iLt (strAt a0 s1550.2.1) 48) then
    Option.map Sum.inr (some (((0:Int),false,()),()))
   else
   bif inB s1550.2.1 (List.length a0) then
    bif (iLt 57 (strAt a0 s1550.2.1)) then
     Option.map Sum.inr (some (((0:Int),false,()),()))
    else
    bif inB s1550.2.1 (List.length a0) then
     some (Sum.inl ((iAdd .i64 (iMul .i64 s1550.1 10) (iWrap .i64 (iSub .u8 (strAt a0 s1550.2.1) 48))),(iAdd .i64 s1550.2.1 1),()))
    else none
   else none
  else none
 else
 Option.map Sum.inr (some ((s1550.1,true,()),()))
def qbu (a0:List UInt8):Option Dq13 :=
 bif (iLt (lenI a0) 1) then some (((0:Int),false,()),()) else
 bif (iLt 9 (lenI a0)) then some (((0:Int),false,()),()) else
 bif inB 0 (List.length a0) then
  bif (iEq (strAt a0 0) 48) then
   bif (iLt 1 (lenI a0)) then some (((0:Int),false,()),()) else run (qa7 a0) ((0:Int),(0:Int),())
  else run (qnf a0) ((0:Int),(0:Int),())
 else none
def qjw:Entry:=⟨⟨[.v (.str)],[.v (.val (.int .i64)),.v (.val (.bool))],false⟩,fun x=>qbu x.1⟩
theorem qpx:Sound Tryz.prog G 120 qjw:=qab (envS (l:=[]) trivial) [(5,.vary [(4,.sc (.int .i64)),(5,.sc (.int .i64))])] Tryz.func120 (by kernel_rfl) rfl fun _=>by kernel_rfl
def qdk (a0:List UInt8):Option Dq13 :=
 bif (! (iEq (lenI a0) 10)) then
  (qbu a0).bind fun y1572 =>
  some ((y1572.1.1,y1572.1.2.1,()),())
 else
 bif inS 0 9 (List.length a0) then
  (qbu (takeL a0 9)).bind fun y1574 =>
  bif inB 9 (List.length a0) then
   let x1577:=iSub .i64 (iWrap .i64 (strAt a0 9)) 48
   let x1579:=iAdd .i64 (iMul .i64 y1574.1.1 10) x1577
   bif y1574.1.2.1 then
    bif (iLt 0 y1574.1.1) then
     (qbx x1577 (0:Int) (9:Int)).bind fun y1581 =>
     some ((x1579,y1581.1.1,()),())
    else some ((x1579,false,()),())
   else some ((x1579,false,()),())
  else none
 else none
def qp0:Entry:=⟨⟨[.v (.str)],[.v (.val (.int .i64)),.v (.val (.bool))],false⟩,fun x=>qdk x.1⟩
theorem qyb:Sound Tryz.prog G 266 qp0:=qab (envS (l:=[(112,qd5),(120,qjw)]) ⟨(qfc),(qpx),trivial⟩) [] Tryz.func266 (by kernel_rfl) rfl fun _=>by kernel_rfl
def qbr (a0:List UInt8):Option Dq13 :=
 bif (iLt 1 (lenI a0)) then
  bif inB 0 (List.length a0) then
   bif (iEq (strAt a0 0) 45) then
    bif inS 1 (lenI a0) (List.length a0) then
     (qdk (dropL a0 1)).bind fun y1566 =>
     let x1567:=iSub .i64 0 y1566.1.1
     bif y1566.1.2.1 then
      some ((x1567,(iLt 0 y1566.1.1),()),())
     else some ((x1567,false,()),())
    else none
   else
   (qdk a0).bind fun y1569 =>
   some ((y1569.1.1,y1569.1.2.1,()),())
  else none
 else
 (qdk a0).bind fun y1570 =>
 some ((y1570.1.1,y1570.1.2.1,()),())
def qq4:Entry:=⟨⟨[.v (.str)],[.v (.val (.int .i64)),.v (.val (.bool))],false⟩,fun x=>qbr x.1⟩
theorem qzl:Sound Tryz.prog G 250 qq4:=qab (envS (l:=[(266,qp0)]) ⟨(qyb),trivial⟩) [] Tryz.func250 (by kernel_rfl) rfl fun _=>by kernel_rfl
def qmp (a0:List UInt8):Option ((Dq2×Bool×Unit)×Unit) :=
 (qd6 a0 (32:Int)).bind fun y1498 =>
 bif (! (iEq (lenI y1498.1.1) 9)) then some ((Lq1,false,()),()) else
 bif inB 0 (List.length y1498.1.1) then
  (qbr (List.getD y1498.1.1 0 ([]:List UInt8))).bind fun y1501 =>
  bif inB 3 (List.length y1498.1.1) then
   (qa4 (List.getD y1498.1.1 3 ([]:List UInt8))).bind fun y1503 =>
   bif (! y1501.1.2.1) then some ((Lq1,false,()),()) else
   bif (! y1503.1.2.1) then some ((Lq1,false,()),()) else
   (qbx y1501.1.1 Lq9 (2147483647:Int)).bind fun y1506 =>
   bif (! y1506.1.1) then some ((Lq1,false,()),()) else
   let x1508:=iWrap .i32 y1501.1.1
   bif inB 1 (List.length y1498.1.1) then
    (qbr (List.getD y1498.1.1 1 ([]:List UInt8))).bind fun y1510 =>
    bif inB 4 (List.length y1498.1.1) then
     (qa4 (List.getD y1498.1.1 4 ([]:List UInt8))).bind fun y1512 =>
     bif (! y1510.1.2.1) then some ((Lq1,false,()),()) else
     bif (! y1512.1.2.1) then some ((Lq1,false,()),()) else
     (qbx y1510.1.1 Lq9 (2147483647:Int)).bind fun y1515 =>
     bif (! y1515.1.1) then some ((Lq1,false,()),()) else
     let x1517:=iWrap .i32 y1510.1.1
     bif inB 2 (List.length y1498.1.1) then
      (qbr (List.getD y1498.1.1 2 ([]:List UInt8))).bind fun y1519 =>
      bif inB 5 (List.length y1498.1.1) then
       (qa4 (List.getD y1498.1.1 5 ([]:List UInt8))).bind fun y1521 =>
       bif (! y1519.1.2.1) then some ((Lq1,false,()),()) else
       bif (! y1521.1.2.1) then some ((Lq1,false,()),()) else
       (qbx y1519.1.1 Lq9 (2147483647:Int)).bind fun y1524 =>
       bif (! y1524.1.1) then some ((Lq1,false,()),()) else
       let x1526:=iWrap .i32 y1519.1.1
       bif inB 6 (List.length y1498.1.1) then
        (qa4 (List.getD y1498.1.1 6 ([]:List UInt8))).bind fun y1528 =>
        bif inB 7 (List.length y1498.1.1) then
         (qbu (List.getD y1498.1.1 7 ([]:List UInt8))).bind fun y1530 =>
         bif inB 8 (List.length y1498.1.1) then
          (qbr (List.getD y1498.1.1 8 ([]:List UInt8))).bind fun y1532 =>
          bif y1528.1.2.1 then
           bif y1530.1.2.1 then
            some (((((x1508,x1517,x1526,()),(y1503.1.1,y1512.1.1,y1521.1.1,()),y1528.1.1,y1530.1.1,y1532.1.1,()):Dq2),y1532.1.2.1,()),())
           else
           some (((((x1508,x1517,x1526,()),(y1503.1.1,y1512.1.1,y1521.1.1,()),y1528.1.1,y1530.1.1,y1532.1.1,()):Dq2),false,()),())
          else
          some (((((x1508,x1517,x1526,()),(y1503.1.1,y1512.1.1,y1521.1.1,()),y1528.1.1,y1530.1.1,y1532.1.1,()):Dq2),false,()),())
         else none
        else none
       else none
      else none
     else none
    else none
   else none
  else none
 else none
def qsp:Entry:=⟨⟨[.v (.str)],[.v (.val Uq1),.v (.val (.bool))],false⟩,fun x=>qmp x.1⟩
theorem qabz:Sound Tryz.prog G 222 qsp:=qab (envS (l:=[(79,qk3),(112,qd5),(120,qjw),(221,qmi),(250,qq4)]) ⟨(qq2),(qfc),(qpx),(qsj),(qzl),trivial⟩) [(6,.unroll 4)] Tryz.func222 (by kernel_rfl) rfl fun _=>by kernel_rfl
def qcz (rec_:Int→Option Dq10) (a0:Int):Option Dq10 :=
 bif (iLe 10 a0) then
  (rec_ (iQuo .i64 a0 10)).bind fun y1621 =>
  let x1625:=ofBytes ([(iWrap .u8 (iAdd .i64 48 (iRem .i64 a0 10)))])
  bif strRoom y1621.1.1 x1625 then
   some (((strCat y1621.1.1 x1625),()),())
  else none
 else
 some (((ofBytes ([(iWrap .u8 (iAdd .i64 48 a0))])),()),())
def qbs:Nat→Int→Option Dq10
 | 0=>fun _=>none
 | k+1=>qcz (qbs k)
def qez:Int→Option Dq10:=qbs 64
def spec_Decimal_sg:Sig:=⟨[.v (.int .i64)],[.v (.val (.str))],false⟩
def qme:Entry:=⟨spec_Decimal_sg,fun x=>qez x.1⟩
theorem qabj (rec_:Int→Option Dq10) {G:List (Nat×Obj)} (x:spec_Decimal_sg.dom):body (env G [(73,⟨spec_Decimal_sg,fun x=>rec_ x.1⟩)]) [] Tryz.f73 spec_Decimal_sg x=qcz rec_ x.1:=by kernel_rfl
theorem qsd:Sound Tryz.prog G 73 qme:=by
 have h : ∀ k,Sound Tryz.prog G 73 ⟨spec_Decimal_sg,fun x=>qbs k x.1⟩:=by
  intro k
  induction k with
  | zero=>exact ⟨rfl,fun _ _ _ _ _ _ _ _ _ _ _ _ h=>by cases h⟩
  | succ k ih=>exact qvj (envS (l:=[(73,⟨spec_Decimal_sg,fun x=>qbs k x.1⟩)]) (⟨ih,trivial⟩)) Tryz.func73 (by kernel_rfl) rfl (fun x y h=>(qabj (qbs k) (G:=G) x).trans h)
 exact h 64
def qek (a0:Nat):Option Dq10 :=
 (qiy a0).bind fun y1643 =>
 bif (iLe 0 8&&iLe 8 8&&room ((8:Int)).toNat 1) then
  let x1644:=iRem .u32 y1643.1.1 16
  bif inB x1644 (List.length ([48,49,50,51,52,53,54,55,56,57,97,98,99,100,101,102])) then
   bif inB 7 (List.length (List.replicate (((8:Int)).toNat) (0:Int))) then
    let w1646:=List.set (List.replicate (((8:Int)).toNat) (0:Int)) 7 (strAt ([48,49,50,51,52,53,54,55,56,57,97,98,99,100,101,102]) x1644)
    let x1647:=iQuo .u32 y1643.1.1 16
    let x1648:=iRem .u32 x1647 16
    bif inB x1648 (List.length ([48,49,50,51,52,53,54,55,56,57,97,98,99,100,101,102])) then
     let x1649:=strAt ([48,49,50,51,52,53,54,55,56,57,97,98,99,100,101,102]) x1648
     bif inB 6 (List.length w1646) then
      let x1650:=iQuo .u32 x1647 16
      let x1651:=iRem .u32 x1650 16
      bif inB x1651 (List.length ([48,49,50,51,52,53,54,55,56,57,97,98,99,100,101,102])) then
       bif inB 5 (List.length (List.set w1646 6 x1649)) then
        let w1653:=List.set (List.set w1646 6 x1649) 5 (strAt ([48,49,50,51,52,53,54,55,56,57,97,98,99,100,101,102]) x1651)
        let x1654:=iQuo .u32 x1650 16
        let x1655:=iRem .u32 x1654 16
        bif inB x1655 (List.length ([48,49,50,51,52,53,54,55,56,57,97,98,99,100,101,102])) then
         let x1656:=strAt ([48,49,50,51,52,53,54,55,56,57,97,98,99,100,101,102]) x1655
         bif inB 4 (List.length w1653) then
          let x1657:=iQuo .u32 x1654 16
          let x1658:=iRem .u32 x1657 16
          bif inB x1658 (List.length ([48,49,50,51,52,53,54,55,56,57,97,98,99,100,101,102])) then
           bif inB 3 (List.length (List.set w1653 4 x1656)) then
            let w1660:=List.set (List.set w1653 4 x1656) 3 (strAt ([48,49,50,51,52,53,54,55,56,57,97,98,99,100,101,102]) x1658)
            let x1661:=iQuo .u32 x1657 16
            let x1662:=iRem .u32 x1661 16
            bif inB x1662 (List.length ([48,49,50,51,52,53,54,55,56,57,97,98,99,100,101,102])) then
             let x1663:=strAt ([48,49,50,51,52,53,54,55,56,57,97,98,99,100,101,102]) x1662
             bif inB 2 (List.length w1660) then
              let x1664:=iQuo .u32 x1661 16
              let x1665:=iRem .u32 x1664 16
              bif inB x1665 (List.length ([48,49,50,51,52,53,54,55,56,57,97,98,99,100,101,102])) then
               bif inB 1 (List.length (List.set w1660 2 x1663)) then
                let w1667:=List.set (List.set w1660 2 x1663) 1 (strAt ([48,49,50,51,52,53,54,55,56,57,97,98,99,100,101,102]) x1665)
                let x1669:=iRem .u32 (iQuo .u32 x1664 16) 16
                bif inB x1669 (List.length ([48,49,50,51,52,53,54,55,56,57,97,98,99,100,101,102])) then
                 bif inB 0 (List.length w1667) then
                  some (((ofBytes (List.set w1667 0 (strAt ([48,49,50,51,52,53,54,55,56,57,97,98,99,100,101,102]) x1669))),()),())
                 else none
                else none
               else none
              else none
             else none
            else none
           else none
          else none
         else none
        else none
       else none
      else none
     else none
    else none
   else none
  else none
 else none
def qn0:Entry:=⟨⟨[.v (.flt .f32)],[.v (.val (.str))],false⟩,fun x=>qek x.1⟩
theorem qtx:Sound Tryz.prog G 192 qn0:=qab (envS (l:=[(228,qmh)]) ⟨(qsi),trivial⟩) [(4,.unroll 9)] Tryz.func192 (by kernel_rfl) rfl fun _=>by kernel_rfl
def qb8 (a0:(List Nat)) (s1631:(List UInt8×Int×Unit)):Option ((List UInt8×Int×Unit)⊕Dq10) :=
 bif (iLt s1631.2.1 (lenI a0)) then
  bif (iLt 0 s1631.2.1) then
   bif strRoom s1631.1 ([32]) then
    let x1634:=strCat s1631.1 ([32])
    bif inB s1631.2.1 (List.length a0) then
     (qek (List.getD a0 s1631.2.1.toNat (0:Nat))).bind fun y1636 =>
     bif strRoom x1634 y1636.1.1 then
      some (Sum.inl ((strCat x1634 y1636.1.1),(iAdd .i64 s1631.2.1 1),()))
     else none
    else none
   else none
  else
  bif inB s1631.2.1 (List.length a0) then
   (qek (List.getD a0 s1631.2.1.toNat (0:Nat))).bind fun y1640 =>
   bif strRoom s1631.1 y1640.1.1 then
    some (Sum.inl ((strCat s1631.1 y1640.1.1),(iAdd .i64 s1631.2.1 1),()))
   else none
  else none
 else
 Option.map Sum.inr (some ((s1631.1,()),()))
def qj5 (a0:(List Nat)):Option Dq10 :=
 run (qb8 a0) (([]:List UInt8),(0:Int),())
def qty:Entry:=⟨⟨[.v (.list (.flt .f32))],[.v (.val (.str))],false⟩,fun x=>qj5 x.1⟩
theorem qacx:Sound Tryz.prog G 229 qty:=qab (envS (l:=[(192,qn0)]) ⟨(qtx),trivial⟩) [(3,.vary [(3,.sc (.str)),(4,.sc (.int .i64))])] Tryz.func229 (by kernel_rfl) rfl fun _=>by kernel_rfl
def qmg (a0:(Vec 3 Nat)):Option Dq10 :=
 (qj5 ([Vec.getD 3 a0 0 (0:Nat),Vec.getD 3 a0 1 (0:Nat),Vec.getD 3 a0 2 (0:Nat)]:(List Nat))).bind fun y1630 =>
 some ((y1630.1.1,()),())
def qsg:Entry:=⟨⟨[.v (.arr 3 (.flt .f32))],[.v (.val (.str))],false⟩,fun x=>qmg x.1⟩
theorem qabq:Sound Tryz.prog G 194 qsg:=qab (envS (l:=[(229,qty)]) ⟨(qacx),trivial⟩) [] Tryz.func194 (by kernel_rfl) rfl fun _=>by kernel_rfl
def qeo (a0:Int):Option Dq10 :=
 bif (iLt a0 0) then
  (qez (iSub .i64 0 a0)).bind fun y1675 =>
  bif strRoom ([45]) y1675.1.1 then
   some (((strCat ([45]) y1675.1.1),()),())
  else none
 else
 (qez a0).bind fun y1677 =>
 some ((y1677.1.1,()),())
def qp1:Entry:=⟨⟨[.v (.int .i64)],[.v (.val (.str))],false⟩,fun x=>qeo x.1⟩
theorem qyc:Sound Tryz.prog G 193 qp1:=qab (envS (l:=[(73,qme)]) ⟨(qsd),trivial⟩) [] Tryz.func193 (by kernel_rfl) rfl fun _=>by kernel_rfl
def qfv (a0:Dq3) (s1585:(List UInt8×Int×Unit)):Option ((List UInt8×Int×Unit)⊕Dq10) :=
 bif (iLt s1585.2.1 (lenI a0.2.1)) then
  bif inB s1585.2.1 (List.length a0.2.1) then
   (qeo (iWrap .i64 (Vec.getD 3 ((List.getD a0.2.1 s1585.2.1.toNat Lq1).1) 0 (0:Int)))).bind fun y1589 =>
   bif strRoom y1589.1.1 ([32]) then
    let x1590:=strCat y1589.1.1 ([32])
    bif strRoom s1585.1 x1590 then
     let x1591:=strCat s1585.1 x1590
     (qeo (iWrap .i64 (Vec.getD 3 ((List.getD a0.2.1 s1585.2.1.toNat Lq1).1) 1 (0:Int)))).bind fun y1594 =>
     bif strRoom y1594.1.1 ([32]) then
      let x1595:=strCat y1594.1.1 ([32])
      bif strRoom x1591 x1595 then
       let x1596:=strCat x1591 x1595
       (qeo (iWrap .i64 (Vec.getD 3 ((List.getD a0.2.1 s1585.2.1.toNat Lq1).1) 2 (0:Int)))).bind fun y1599 =>
       bif strRoom y1599.1.1 ([32]) then
        let x1600:=strCat y1599.1.1 ([32])
        bif strRoom x1596 x1600 then
         let x1601:=strCat x1596 x1600
         (qmg (((List.getD a0.2.1 s1585.2.1.toNat Lq1).2).1)).bind fun y1603 =>
         bif strRoom y1603.1.1 ([32]) then
          let x1604:=strCat y1603.1.1 ([32])
          (qek ((((List.getD a0.2.1 s1585.2.1.toNat Lq1).2).2).1)).bind fun y1606 =>
          bif strRoom x1604 y1606.1.1 then
           let x1607:=strCat x1604 y1606.1.1
           bif strRoom x1607 ([32]) then
            let x1608:=strCat x1607 ([32])
            (qez (((((List.getD a0.2.1 s1585.2.1.toNat Lq1).2).2).2).1)).bind fun y1610 =>
            bif strRoom x1608 y1610.1.1 then
             let x1611:=strCat x1608 y1610.1.1
             bif strRoom x1611 ([32]) then
              let x1612:=strCat x1611 ([32])
              (qez ((((((List.getD a0.2.1 s1585.2.1.toNat Lq1).2).2).2).2).1)).bind fun y1614 =>
              bif strRoom x1612 y1614.1.1 then
               let x1615:=strCat x1612 y1614.1.1
               bif strRoom x1615 ([10]) then
                let x1616:=strCat x1615 ([10])
                bif strRoom x1601 x1616 then
                 some (Sum.inl ((strCat x1601 x1616),(iAdd .i64 s1585.2.1 1),()))
                else none
               else none
              else none
             else none
            else none
           else none
          else none
         else none
        else none
       else none
      else none
     else none
    else none
   else none
  else none
 else
 Option.map Sum.inr (some ((s1585.1,()),()))
def qgt (a0:Dq3):Option Dq10 :=
 (qek a0.1).bind fun y1582 =>
 bif strRoom ([109,97,112,32]) y1582.1.1 then
  let x1583:=strCat ([109,97,112,32]) y1582.1.1
  bif strRoom x1583 ([10]) then
   run (qfv a0) ((strCat x1583 ([10])),(0:Int),())
  else none
 else none
def qmu:Entry:=⟨⟨[.ro Uq6],[.v (.val (.str))],false⟩,fun x=>qgt x.1⟩
theorem qss:Sound Tryz.prog G 158 qmu:=qab (envS (l:=[(73,qme),(192,qn0),(193,qp1),(194,qsg)]) ⟨(qsd),(qtx),(qyc),(qabq),trivial⟩) [(3,.vary [(3,.sc (.str)),(4,.sc (.int .i64))]),(7,.unroll 4)] Tryz.func158 (by kernel_rfl) rfl fun _=>by kernel_rfl
def qe0 (y1418:(((List (List UInt8))×Unit)×Unit)) (a0:List UInt8) (s1437:(Bool×Int×Dq3×Unit)):Option ((Bool×Int×Dq3×Unit)⊕Dq18) :=
 bif (iLt s1437.2.1 (iSub .i64 (lenI y1418.1.1) 1)) then
  bif s1437.1 then
   bif inB s1437.2.1 (List.length y1418.1.1) then
    (qmp (List.getD y1418.1.1 s1437.2.1.toNat ([]:List UInt8))).bind fun y1441 =>
    bif room (List.length s1437.2.2.1.2.1+1) 48 then
     some (Sum.inl (y1441.1.2.1,(iAdd .i64 s1437.2.1 1),((s1437.2.2.1.1,(s1437.2.2.1.2.1++([y1441.1.1]:(List Dq2))),s1437.2.2.1.2.2):Dq3),()))
    else none
   else none
  else
  Option.map Sum.inr (
   bif (! s1437.1) then some ((Lq4,(5:Int),()),()) else
   (qed ((s1437.2.2.1.1,s1437.2.2.1.2.1,s1437.2.2.1.2.2):Dq3)).bind fun y1445 =>
   bif (! y1445.1.1) then some ((Lq4,(5:Int),()),()) else
   (qgt ((s1437.2.2.1.1,s1437.2.2.1.2.1,s1437.2.2.1.2.2):Dq3)).bind fun y1447 =>
   bif (! (sEq y1447.1.1 a0)) then some ((Lq4,(5:Int),()),()) else some ((((s1437.2.2.1.1,s1437.2.2.1.2.1,s1437.2.2.1.2.2):Dq3),(0:Int),()),()))
 else
 Option.map Sum.inr (
  bif (! s1437.1) then some ((Lq4,(5:Int),()),()) else
  (qed ((s1437.2.2.1.1,s1437.2.2.1.2.1,s1437.2.2.1.2.2):Dq3)).bind fun y1450 =>
  bif (! y1450.1.1) then some ((Lq4,(5:Int),()),()) else
  (qgt ((s1437.2.2.1.1,s1437.2.2.1.2.1,s1437.2.2.1.2.2):Dq3)).bind fun y1452 =>
  bif (! (sEq y1452.1.1 a0)) then some ((Lq4,(5:Int),()),()) else some ((((s1437.2.2.1.1,s1437.2.2.1.2.1,s1437.2.2.1.2.2):Dq3),(0:Int),()),()))
def qmf (a0:List UInt8):Option Dq18 :=
 bif (iLt 40000 (lenI a0)) then some ((Lq4,(2:Int),()),()) else
 (qd6 a0 (10:Int)).bind fun y1418 =>
 bif (iLt (lenI y1418.1.1) 2) then some ((Lq4,(5:Int),()),()) else
 let x1420:=iSub .i64 (lenI y1418.1.1) 1
 bif inB x1420 (List.length y1418.1.1) then
  bif (! (sEq (List.getD y1418.1.1 x1420.toNat ([]:List UInt8)) ([]))) then some ((Lq4,(5:Int),()),()) else
  bif inB 0 (List.length y1418.1.1) then
   bif (! (iEq (lenI (List.getD y1418.1.1 0 ([]:List UInt8))) 12)) then some ((Lq4,(5:Int),()),()) else
   bif inB 0 (List.length y1418.1.1) then
    let x1425:=List.getD y1418.1.1 0 ([]:List UInt8)
    bif inS 0 4 (List.length x1425) then
     bif (! (sEq (takeL x1425 4) ([109,97,112,32]))) then some ((Lq4,(5:Int),()),()) else
     bif inB 0 (List.length y1418.1.1) then
      let x1428:=List.getD y1418.1.1 0 ([]:List UInt8)
      bif inS 4 (lenI x1428) (List.length x1428) then
       (qa4 (dropL x1428 4)).bind fun y1430 =>
       run (qe0 y1418 a0) (y1430.1.2.1,(1:Int),((y1430.1.1,[],()):Dq3),())
      else none
     else none
    else none
   else none
  else none
 else none
def qsf:Entry:=⟨⟨[.v (.str)],[.v (.pair (.val (.flt .f32)) (.pair (.rows Uq1) (.val (.unit)))),.v (.val (.int .i64))],false⟩,fun x=>qmf x.1⟩
theorem qabo:Sound Tryz.prog G 187 qsf:=qab (envS (l:=[(79,qk3),(157,qht),(158,qmu),(221,qmi),(222,qsp)]) ⟨(qq2),(qke),(qss),(qsj),(qabz),trivial⟩) [(10,.vary [(7,.sc (.bool)),(9,.sc (.int .i64)),(8,.box (.pair (.val (.flt .f32)) (.pair (.rows Uq1) (.val (.unit)))))])] Tryz.func187 (by kernel_rfl) rfl fun _=>by kernel_rfl
def qe4 (a0:Dq1) (a1:Dq16):Option ((Unit)×(Dq1×Unit)) :=
 (qmf a1.2.1).bind fun y1397 =>
 bif (! (iEq y1397.1.2.1 0)) then
  some ((),(((a0.1,(a0.2.1.1,a0.2.1.2.1,a0.2.1.2.2.1,a0.2.1.2.2.2),a0.2.2):Dq1),()))
 else
 bif inB a1.1 (List.length a0.2.1.1) then
  (qgp ((List.getD a0.2.1.1 a1.1.toNat Lq3).1) ((y1397.1.1.1,y1397.1.1.2.1,y1397.1.1.2.2):Dq3)).bind fun y1400 =>
  bif (iEq y1400.1.2.1 0) then
   bif inB a1.1 (List.length a0.2.1.1) then
    some ((),(((a0.1,((List.set a0.2.1.1 a1.1.toNat ((y1400.1.1,(List.getD a0.2.1.1 a1.1.toNat Lq3).2):Dq8)),a0.2.1.2.1,a0.2.1.2.2.1,a0.2.1.2.2.2),a0.2.2):Dq1),()))
   else none
  else
  some ((),(((a0.1,(a0.2.1.1,a0.2.1.2.1,a0.2.1.2.2.1,a0.2.1.2.2.2),a0.2.2):Dq1),()))
 else none
def qnh:Entry:=⟨⟨[.io (.pair (.ro Uq2) (.pair (.pair (.rows Uq3) (.pair (.rows Uq3) (.pair (.rows Uq7) (.val (.unit))))) (.val (.unit)))),.v Uq7],[],true⟩,fun x=>qe4 x.1 x.2.1⟩
theorem qvv:Sound Tryz.prog G 155 qnh:=qab (envS (l:=[(187,qsf),(188,qpw)]) ⟨(qabo),(qx6),trivial⟩) [] Tryz.func155 (by kernel_rfl) rfl fun _=>by kernel_rfl
def qcn (a0:Dq1) (a1:Dq6):Option Dq20 :=
 bif (iLe (lenI a0.2.1.2.2.1) a1.2.1) then
  some (((2:Int),()),(((a0.1,(a0.2.1.1,a0.2.1.2.1,a0.2.1.2.2.1,a0.2.1.2.2.2),a0.2.2):Dq1),()))
 else
 bif inB a1.2.1 (List.length a0.2.1.2.2.1) then
  let x1387:=List.getD a0.2.1.2.2.1 a1.2.1.toNat ((0,[],()):Dq16)
  bif (! (iEq a1.1 4)) then
   let x1389:=iAdd .i64 a1.2.1 1
   bif inS x1389 ((List.length a0.2.1.2.2.1:Nat):Int) (List.length a0.2.1.2.2.1) then
    bif room (0+List.length (List.take ((List.length a0.2.1.2.2.1)-x1389.toNat) (List.drop x1389.toNat a0.2.1.2.2.1))) 24 then
     let l1390:=([]:(List Dq16))++(List.take ((List.length a0.2.1.2.2.1)-x1389.toNat) (List.drop x1389.toNat a0.2.1.2.2.1))
     bif inS 0 a1.2.1 (List.length a0.2.1.2.2.1) then
      bif room (0+List.length (List.take a1.2.1.toNat (List.drop 0 a0.2.1.2.2.1))) 24 then
       let l1391:=([]:(List Dq16))++(List.take a1.2.1.toNat (List.drop 0 a0.2.1.2.2.1))
       bif room (List.length l1391+List.length l1390) 24 then
        let l1392:=l1391++l1390
        bif (! (iEq a1.1 5)) then
         (qe4 ((a0.1,(a0.2.1.1,a0.2.1.2.1,l1392,a0.2.1.2.2.2),a0.2.2):Dq1) x1387).bind fun y1394 =>
         some (((0:Int),()),(((y1394.2.1.1,(y1394.2.1.2.1.1,y1394.2.1.2.1.2.1,y1394.2.1.2.1.2.2.1,y1394.2.1.2.1.2.2.2),y1394.2.1.2.2):Dq1),()))
        else
        some (((0:Int),()),(((a0.1,(a0.2.1.1,a0.2.1.2.1,l1392,a0.2.1.2.2.2),a0.2.2):Dq1),()))
       else none
      else none
     else none
    else none
   else none
  else
  bif (! (iEq a1.1 5)) then
   (qe4 ((a0.1,(a0.2.1.1,a0.2.1.2.1,a0.2.1.2.2.1,a0.2.1.2.2.2),a0.2.2):Dq1) x1387).bind fun y1396 =>
   some (((0:Int),()),(((y1396.2.1.1,(y1396.2.1.2.1.1,y1396.2.1.2.1.2.1,y1396.2.1.2.1.2.2.1,y1396.2.1.2.1.2.2.2),y1396.2.1.2.2):Dq1),()))
  else
  some (((0:Int),()),(((a0.1,(a0.2.1.1,a0.2.1.2.1,a0.2.1.2.2.1,a0.2.1.2.2.2),a0.2.2):Dq1),()))
 else none
def qni:Entry:=⟨⟨[.io (.pair (.ro Uq2) (.pair (.pair (.rows Uq3) (.pair (.rows Uq3) (.pair (.rows Uq7) (.val (.unit))))) (.val (.unit)))),.v Uq4],[.v (.val (.int .i64))],true⟩,fun x=>qcn x.1 x.2.1⟩
theorem qvw:Sound Tryz.prog G 121 qni:=qab (envS (l:=[(155,qnh)]) ⟨(qvv),trivial⟩) [] Tryz.func121 (by kernel_rfl) rfl fun _=>by kernel_rfl
def qix (a0:Dq3):Option Dq10 :=
 (qed a0).bind fun y1678 =>
 bif (! y1678.1.1) then some ((([]:List UInt8),()),()) else
 (qgt a0).bind fun y1680 =>
 some ((y1680.1.1,()),())
def qse:Entry:=⟨⟨[.v Uq6],[.v (.val (.str))],false⟩,fun x=>qix x.1⟩
theorem qabm:Sound Tryz.prog G 124 qse:=qab (envS (l:=[(157,qht),(158,qmu)]) ⟨(qke),(qss),trivial⟩) [] Tryz.func124 (by kernel_rfl) rfl fun _=>by kernel_rfl
def qe2 (a0:Dq8):Option ((Dq8×Unit)×Unit) :=
 bif room (0+List.length a0.1.2.1) 48 then
  some (((((a0.1.1,(([]:(List Dq2))++a0.1.2.1),()),a0.2.1,()):Dq8),()),())
 else none
def qsu:Entry:=⟨⟨[.v Uq3],[.v (.pair (.pair (.val (.flt .f32)) (.pair (.rows Uq1) (.val (.unit)))) (.val Uq8))],false⟩,fun x=>qe2 x.1⟩
theorem qab2:Sound Tryz.prog G 123 qsu:=qab (envS (l:=[]) trivial) [] Tryz.func123 (by kernel_rfl) rfl fun _=>by kernel_rfl
def qb9 (a0:Dq1) (a1:Dq6):Option Dq20 :=
 bif (iEq a1.1 3) then
  (qcn ((a0.1,(a0.2.1.1,a0.2.1.2.1,a0.2.1.2.2.1,a0.2.1.2.2.2),a0.2.2):Dq1) a1).bind fun y1088 =>
  some ((y1088.1.1,()),(((y1088.2.1.1,(y1088.2.1.2.1.1,y1088.2.1.2.1.2.1,y1088.2.1.2.1.2.2.1,y1088.2.1.2.1.2.2.2),y1088.2.1.2.2):Dq1),()))
 else
 bif (iEq a1.1 4) then
  (qcn ((a0.1,(a0.2.1.1,a0.2.1.2.1,a0.2.1.2.2.1,a0.2.1.2.2.2),a0.2.2):Dq1) a1).bind fun y1090 =>
  some ((y1090.1.1,()),(((y1090.2.1.1,(y1090.2.1.2.1.1,y1090.2.1.2.1.2.1,y1090.2.1.2.1.2.2.1,y1090.2.1.2.1.2.2.2),y1090.2.1.2.2):Dq1),()))
 else
 bif (iEq a1.1 5) then
  (qcn ((a0.1,(a0.2.1.1,a0.2.1.2.1,a0.2.1.2.2.1,a0.2.1.2.2.2),a0.2.2):Dq1) a1).bind fun y1092 =>
  some ((y1092.1.1,()),(((y1092.2.1.1,(y1092.2.1.2.1.1,y1092.2.1.2.1.2.1,y1092.2.1.2.1.2.2.1,y1092.2.1.2.1.2.2.2),y1092.2.1.2.2):Dq1),()))
 else
 bif (iLe (lenI a0.2.1.1) a1.2.1) then
  some (((2:Int),()),(((a0.1,(a0.2.1.1,a0.2.1.2.1,a0.2.1.2.2.1,a0.2.1.2.2.2),a0.2.2):Dq1),()))
 else
 bif (iEq a1.1 2) then
  bif (iLe (lenI a0.2.1.1) a1.2.2.1) then
   some (((2:Int),()),(((a0.1,(a0.2.1.1,a0.2.1.2.1,a0.2.1.2.2.1,a0.2.1.2.2.2),a0.2.2):Dq1),()))
  else
  bif (iEq a1.2.1 a1.2.2.1) then
   some (((2:Int),()),(((a0.1,(a0.2.1.1,a0.2.1.2.1,a0.2.1.2.2.1,a0.2.1.2.2.2),a0.2.2):Dq1),()))
  else
  bif (iEq a1.1 1) then
   (qfy ((a0.1,(a0.2.1.1,a0.2.1.2.1,a0.2.1.2.2.1,a0.2.1.2.2.2),a0.2.2):Dq1) a1.2.1).bind fun y1098 =>
   some ((y1098.1.1,()),(((y1098.2.1.1,(y1098.2.1.2.1.1,y1098.2.1.2.1.2.1,y1098.2.1.2.1.2.2.1,y1098.2.1.2.1.2.2.2),y1098.2.1.2.2):Dq1),()))
  else
  bif (iEq a1.1 6) then
   bif inB a1.2.1 (List.length a0.2.1.1) then
    (qe2 (List.getD a0.2.1.1 a1.2.1.toNat Lq3)).bind fun y1101 =>
    bif inB a1.2.1 (List.length a0.2.1.2.1) then
     some (((0:Int),()),(((a0.1,(a0.2.1.1,(List.set a0.2.1.2.1 a1.2.1.toNat (((y1101.1.1.1.1,y1101.1.1.1.2.1,y1101.1.1.1.2.2),y1101.1.1.2):Dq8)),a0.2.1.2.2.1,a0.2.1.2.2.2),a0.2.2):Dq1),()))
    else none
   else none
  else
  bif (iEq a1.1 7) then
   bif inB a1.2.1 (List.length a0.2.1.2.1) then
    (qe2 (List.getD a0.2.1.2.1 a1.2.1.toNat Lq3)).bind fun y1105 =>
    bif inB a1.2.1 (List.length a0.2.1.1) then
     some (((0:Int),()),(((a0.1,((List.set a0.2.1.1 a1.2.1.toNat (((y1105.1.1.1.1,y1105.1.1.1.2.1,y1105.1.1.1.2.2),y1105.1.1.2):Dq8)),a0.2.1.2.1,a0.2.1.2.2.1,a0.2.1.2.2.2),a0.2.2):Dq1),()))
    else none
   else none
  else
  bif (iLe 10 (lenI a0.2.1.2.2.1)) then
   some (((3:Int),()),(((a0.1,(a0.2.1.1,a0.2.1.2.1,a0.2.1.2.2.1,a0.2.1.2.2.2),a0.2.2):Dq1),()))
  else
  bif inB a1.2.1 (List.length a0.2.1.1) then
   (qix ((List.getD a0.2.1.1 a1.2.1.toNat Lq3).1)).bind fun y1109 =>
   bif room (List.length a0.2.1.2.2.1+1) 24 then
    some (((0:Int),()),(((a0.1,(a0.2.1.1,a0.2.1.2.1,(a0.2.1.2.2.1++([(a1.2.2.1,y1109.1.1,())]:(List Dq16))),a0.2.1.2.2.2),a0.2.2):Dq1),()))
   else none
  else none
 else
 bif (iEq a1.1 1) then
  (qfy ((a0.1,(a0.2.1.1,a0.2.1.2.1,a0.2.1.2.2.1,a0.2.1.2.2.2),a0.2.2):Dq1) a1.2.1).bind fun y1112 =>
  some ((y1112.1.1,()),(((y1112.2.1.1,(y1112.2.1.2.1.1,y1112.2.1.2.1.2.1,y1112.2.1.2.1.2.2.1,y1112.2.1.2.1.2.2.2),y1112.2.1.2.2):Dq1),()))
 else
 bif (iEq a1.1 6) then
  bif inB a1.2.1 (List.length a0.2.1.1) then
   (qe2 (List.getD a0.2.1.1 a1.2.1.toNat Lq3)).bind fun y1115 =>
   bif inB a1.2.1 (List.length a0.2.1.2.1) then
    some (((0:Int),()),(((a0.1,(a0.2.1.1,(List.set a0.2.1.2.1 a1.2.1.toNat (((y1115.1.1.1.1,y1115.1.1.1.2.1,y1115.1.1.1.2.2),y1115.1.1.2):Dq8)),a0.2.1.2.2.1,a0.2.1.2.2.2),a0.2.2):Dq1),()))
   else none
  else none
 else
 bif (iEq a1.1 7) then
  bif inB a1.2.1 (List.length a0.2.1.2.1) then
   (qe2 (List.getD a0.2.1.2.1 a1.2.1.toNat Lq3)).bind fun y1119 =>
   bif inB a1.2.1 (List.length a0.2.1.1) then
    some (((0:Int),()),(((a0.1,((List.set a0.2.1.1 a1.2.1.toNat (((y1119.1.1.1.1,y1119.1.1.1.2.1,y1119.1.1.1.2.2),y1119.1.1.2):Dq8)),a0.2.1.2.1,a0.2.1.2.2.1,a0.2.1.2.2.2),a0.2.2):Dq1),()))
   else none
  else none
 else
 bif (iLe 10 (lenI a0.2.1.2.2.1)) then
  some (((3:Int),()),(((a0.1,(a0.2.1.1,a0.2.1.2.1,a0.2.1.2.2.1,a0.2.1.2.2.2),a0.2.2):Dq1),()))
 else
 bif inB a1.2.1 (List.length a0.2.1.1) then
  (qix ((List.getD a0.2.1.1 a1.2.1.toNat Lq3).1)).bind fun y1123 =>
  bif room (List.length a0.2.1.2.2.1+1) 24 then
   some (((0:Int),()),(((a0.1,(a0.2.1.1,a0.2.1.2.1,(a0.2.1.2.2.1++([(a1.2.2.1,y1123.1.1,())]:(List Dq16))),a0.2.1.2.2.2),a0.2.2):Dq1),()))
  else none
 else none
def qp2:Entry:=⟨⟨[.io (.pair (.ro Uq2) (.pair (.pair (.rows Uq3) (.pair (.rows Uq3) (.pair (.rows Uq7) (.val (.unit))))) (.val (.unit)))),.v Uq4],[.v (.val (.int .i64))],true⟩,fun x=>qb9 x.1 x.2.1⟩
theorem qyd:Sound Tryz.prog G 83 qp2:=qab (envS (l:=[(121,qni),(122,qo3),(123,qsu),(124,qse)]) ⟨(qvw),(qxc),(qab2),(qabm),trivial⟩) [] Tryz.func83 (by kernel_rfl) rfl fun _=>by kernel_rfl
def qe1 (a0:Dq9) (s1685:(Int×Dq1×Unit)):Option ((Int×Dq1×Unit)⊕((Dq1×Unit)×Unit)) :=
 bif (iLt s1685.1 (lenI a0.2.2.1)) then
  bif room (List.length s1685.2.1.2.1.1+1) 40 then
   bif room (List.length s1685.2.1.2.1.2.1+1) 40 then
    some (Sum.inl ((iAdd .i64 s1685.1 1),((s1685.2.1.1,((s1685.2.1.2.1.1++([((a0.1,[],()),0,())]:(List Dq8))),(s1685.2.1.2.1.2.1++([((a0.1,[],()),0,())]:(List Dq8))),s1685.2.1.2.1.2.2.1,s1685.2.1.2.1.2.2.2),s1685.2.1.2.2):Dq1),()))
   else none
  else none
 else
 Option.map Sum.inr (some ((((s1685.2.1.1,(s1685.2.1.2.1.1,s1685.2.1.2.1.2.1,s1685.2.1.2.1.2.2.1,s1685.2.1.2.1.2.2.2),s1685.2.1.2.2):Dq1),()),()))
def qkf (a0:Dq9):Option ((Dq1×Unit)×Unit) :=
 run (qe1 a0) ((0:Int),((a0,([],[],[],()),()):Dq1),())
def qq5:Entry:=⟨⟨[.ro Uq2],[.p (.pair (.ro Uq2) (.pair (.pair (.rows Uq3) (.pair (.rows Uq3) (.pair (.rows Uq7) (.val (.unit))))) (.val (.unit))))],true⟩,fun x=>qkf x.1⟩
theorem qzm:Sound Tryz.prog G 80 qq5:=qab (envS (l:=[]) trivial) [(3,.vary [(4,.sc (.int .i64)),(3,.box (.pair (.ro Uq2) (.pair (.pair (.rows Uq3) (.pair (.rows Uq3) (.pair (.rows Uq7) (.val (.unit))))) (.val (.unit)))))])] Tryz.func80 (by kernel_rfl) rfl fun _=>by kernel_rfl
def qfw (a1:(List Dq6)) (s1081:((List Int)×Int×Dq1×Unit)):Option (((List Int)×Int×Dq1×Unit)⊕((Dq1×(List Int)×Unit)×Unit)) :=
 bif (iLt s1081.2.1 (lenI a1)) then
  bif inB s1081.2.1 (List.length a1) then
   (qb9 ((s1081.2.2.1.1,(s1081.2.2.1.2.1.1,s1081.2.2.1.2.1.2.1,s1081.2.2.1.2.1.2.2.1,s1081.2.2.1.2.1.2.2.2),s1081.2.2.1.2.2):Dq1) (List.getD a1 s1081.2.1.toNat Lq10)).bind fun y1084 =>
   bif room (List.length s1081.1+1) 8 then
    some (Sum.inl ((s1081.1++([y1084.1.1]:(List Int))),(iAdd .i64 s1081.2.1 1),((y1084.2.1.1,(y1084.2.1.2.1.1,y1084.2.1.2.1.2.1,y1084.2.1.2.1.2.2.1,y1084.2.1.2.1.2.2.2),y1084.2.1.2.2):Dq1),()))
   else none
  else none
 else
 Option.map Sum.inr (some ((((s1081.2.2.1.1,(s1081.2.2.1.2.1.1,s1081.2.2.1.2.1.2.1,s1081.2.2.1.2.1.2.2.1,s1081.2.2.1.2.1.2.2.2),s1081.2.2.1.2.2):Dq1),s1081.1,()),()))
def qmx (a0:Dq9) (a1:(List Dq6)):Option ((Dq1×(List Int)×Unit)×Unit) :=
 (qkf a0).bind fun y1074 =>
 run (qfw a1) (([]:(List Int)),(0:Int),((y1074.1.1.1,(y1074.1.1.2.1.1,y1074.1.1.2.1.2.1,y1074.1.1.2.1.2.2.1,y1074.1.1.2.1.2.2.2),y1074.1.1.2.2):Dq1),())
def qsw:Entry:=⟨⟨[.ro Uq2,.v (.list Uq4)],[.p (.pair (.ro Uq2) (.pair (.pair (.rows Uq3) (.pair (.rows Uq3) (.pair (.rows Uq7) (.val (.unit))))) (.val (.unit)))),.v (.rows (.int .i64))],true⟩,fun x=>qmx x.1 x.2.1⟩
theorem qab5:Sound Tryz.prog G 44 qsw:=qab (envS (l:=[(80,qq5),(83,qp2)]) ⟨(qzm),(qyd),trivial⟩) [(4,.vary [(7,.rows (.int .i64)),(8,.sc (.int .i64)),(6,.box (.pair (.ro Uq2) (.pair (.pair (.rows Uq3) (.pair (.rows Uq3) (.pair (.rows Uq7) (.val (.unit))))) (.val (.unit)))))])] Tryz.func44 (by kernel_rfl) rfl fun _=>by kernel_rfl
def qlp (a0:(Vec 3 Nat)) (a1:(Vec 3 Nat)):Option Dq7 :=
 (qa1 (Vec.getD 3 a0 0 (0:Nat)) (Vec.getD 3 a1 0 (0:Nat))).bind fun y1728 =>
 bif (! y1728.1.1) then some ((false,()),()) else
 (qa1 (Vec.getD 3 a0 1 (0:Nat)) (Vec.getD 3 a1 1 (0:Nat))).bind fun y1732 =>
 bif (! y1732.1.1) then some ((false,()),()) else
 (qa1 (Vec.getD 3 a0 2 (0:Nat)) (Vec.getD 3 a1 2 (0:Nat))).bind fun y1736 =>
 bif (! y1736.1.1) then some ((false,()),()) else some ((true,()),())
def qrm:Entry:=⟨⟨[.v (.arr 3 (.flt .f32)),.v (.arr 3 (.flt .f32))],[.v (.val (.bool))],false⟩,fun x=>qlp x.1 x.2.1⟩
theorem qaaa:Sound Tryz.prog G 171 qrm:=qab (envS (l:=[(141,qcr)]) ⟨(qdr),trivial⟩) [(2,.unroll 4)] Tryz.func171 (by kernel_rfl) rfl fun _=>by kernel_rfl
def qhp (a0:Dq2) (a1:Dq2):Option Dq7 :=
 bif (iEq (Vec.getD 3 a0.1 0 (0:Int)) (Vec.getD 3 a1.1 0 (0:Int))&&(iEq (Vec.getD 3 a0.1 1 (0:Int)) (Vec.getD 3 a1.1 1 (0:Int))&&(iEq (Vec.getD 3 a0.1 2 (0:Int)) (Vec.getD 3 a1.1 2 (0:Int))&&true))) then
  (qlp a0.2.1 a1.2.1).bind fun y1722 =>
  bif y1722.1.1 then
   (qa1 a0.2.2.1 a1.2.2.1).bind fun y1723 =>
   bif y1723.1.1 then
    bif (iEq a0.2.2.2.1 a1.2.2.2.1) then
     some (((iEq a0.2.2.2.2.1 a1.2.2.2.2.1),()),())
    else some ((false,()),())
   else some ((false,()),())
  else some ((false,()),())
 else some ((false,()),())
def qqq:Entry:=⟨⟨[.v Uq1,.v Uq1],[.v (.val (.bool))],false⟩,fun x=>qhp x.1 x.2.1⟩
theorem qy7:Sound Tryz.prog G 143 qqq:=qab (envS (l:=[(141,qcr),(171,qrm)]) ⟨(qdr),(qaaa),trivial⟩) [] Tryz.func143 (by kernel_rfl) rfl fun _=>by kernel_rfl
def qdd (a0:(List Dq2)) (a1:(List Dq2)) (a2:((Dq2×Dq2×Unit)→Option Bool)) (s1739:(Int×Unit)):Option ((Int×Unit)⊕Dq7) :=
 bif (iLt s1739.1 (lenI a0)) then
  bif inB s1739.1 (List.length a0) then
   bif inB s1739.1 (List.length a1) then
    (a2 ((List.getD a0 s1739.1.toNat Lq1),(List.getD a1 s1739.1.toNat Lq1),())).bind fun y1743 =>
    bif (! y1743) then
     Option.map Sum.inr (some ((false,()),()))
    else
    some (Sum.inl ((iAdd .i64 s1739.1 1),()))
   else none
  else none
 else
 Option.map Sum.inr (some ((true,()),()))
def qbq (a0:(List Dq2)) (a1:(List Dq2)) (a2:((Dq2×Dq2×Unit)→Option Bool)):Option Dq7 :=
 bif (! (iEq (lenI a0) (lenI a1))) then some ((false,()),()) else run (qdd a0 a1 a2) ((0:Int),())
def qf6:Entry:=⟨⟨[.v (.list Uq1),.v (.list Uq1),.fn ⟨[.pair (.arr 3 (.int .i32)) Uq9,.pair (.arr 3 (.int .i32)) Uq9],.bool⟩],[.v (.val (.bool))],false⟩,fun x=>qbq x.1 x.2.1 x.2.2.1⟩
theorem qm2:Sound Tryz.prog G 142 qf6:=qab (envS (l:=[]) trivial) [(4,.vary [(17,.sc (.int .i64))])] Tryz.func142 (by kernel_rfl) rfl fun _=>by kernel_rfl
end
end Go.Proofs.YtjhdoneobdbeaaaGreatDoor
