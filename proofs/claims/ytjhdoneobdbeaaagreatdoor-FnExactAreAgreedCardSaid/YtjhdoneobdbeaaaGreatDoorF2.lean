import Derived.Test.YtjhdoneobdbeaaaGreatDoorF1
/- Functions on typed data: what the evaluation of each Go function is, and that it is sound. -/
set_option linter.unusedVariables false
namespace Go.Proofs.YtjhdoneobdbeaaaGreatDoor
open Go Go.Tm
noncomputable section
set_option maxRecDepth 100000
variable {G : List (Nat × Obj)}
def qdv (a0:Int) (a1:Int):Option Dq10 :=
 bif (iEq a1 10) then
  bif (iLt a0 100) then
   none
  else none
 else
 (qce ([]:(List Int)) a0 a1 false false).bind fun y636 =>
 some ((y636.1.2.1,()),())
def qfl:Entry:=⟨⟨[.v (.int .u64),.v (.int .i64)],[.v (.val (.str))],false⟩,fun x=>qdv x.1 x.2.1⟩
theorem qlx (db:GDeb Tryz.prog G):Sound Tryz.prog G 200 qfl:=qab (envS (l:=[(185,qfm)]) ⟨(qly db),trivial⟩) [] Tryz.func200 (by kernel_rfl) rfl fun _=>by kernel_rfl
def qfz (a0:Int) (a1:Int):Option Dq10 :=
 (qdv a0 a1).bind fun y632 =>
 some ((y632.1.1,()),())
def qlg:Entry:=⟨⟨[.v (.int .u64),.v (.int .i64)],[.v (.val (.str))],false⟩,fun x=>qfz x.1 x.2.1⟩
theorem qt7 (db:GDeb Tryz.prog G):Sound Tryz.prog G 162 qlg:=qab (envS (l:=[(200,qfl)]) ⟨(qlx db),trivial⟩) [] Tryz.func162 (by kernel_rfl) rfl fun _=>by kernel_rfl
def qdp (s629:(List UInt8×Unit)):Option ((List UInt8×Unit)⊕Dq10) :=
 bif (iLt (lenI s629.1) 8) then
  bif strRoom ([48]) s629.1 then
   some (Sum.inl ((strCat ([48]) s629.1),()))
  else none
 else
 Option.map Sum.inr (some ((s629.1,()),()))
def qc3 (a0:Nat):Option Dq10 :=
 (qje a0).bind fun y624 =>
 bif y624.1.1 then some ((([55,102,99,48,48,48,48,48]:List UInt8),()),()) else
 allSame fun (q625:Nat) =>
 (qfz (iWrap .u64 (bitsF .f32 a0 q625)) (16:Int)).bind fun y628 =>
 run (qdp) (y628.1.1,())
def qff:Entry:=⟨⟨[.v (.flt .f32)],[.v (.val (.str))],false⟩,fun x=>qc3 x.1⟩
theorem qin (db:GDeb Tryz.prog G):Sound Tryz.prog G 128 qff:=qab (envS (l:=[(161,qo6),(162,qlg)]) ⟨(qu9),(qt7 db),trivial⟩) [(4,.vary [(3,.sc (.str))])] Tryz.func128 (by kernel_rfl) rfl fun _=>by kernel_rfl
theorem qjp:Sound Tryz.prog G 249 qdh:=qo9 Tryz.func249 (by kernel_rfl) (by kernel_rfl) (by kernel_rfl) (by kernel_rfl)
theorem qu3 (sy:GErr 1 G) (ra:GErr 2 G):Sound Tryz.prog G 273 qhj:=qabb Tryz.func273 (by kernel_rfl) (by kernel_rfl) sy ra Tryz.hex_call
def qh3 (a0:List UInt8):Option ((Nat×Int×Unit)×Unit) :=
 (qcd a0 (16:Int) (32:Int)).bind fun y618 =>
 (qba (iWrap .u32 y618.1.1)).bind fun y620 =>
 bif (! y618.1.2.1) then some (((0:Nat),(5:Int),()),()) else
 (qc3 y620.1.1).bind fun y622 =>
 bif (! (sEq y622.1.1 a0)) then some (((0:Nat),(5:Int),()),()) else some ((y620.1.1,(0:Int),()),())
def qoq:Entry:=⟨⟨[.v (.str)],[.v (.val (.flt .f32)),.v (.val (.int .i64))],false⟩,fun x=>qh3 x.1⟩
theorem qwh (sy:GErr 1 G) (ra:GErr 2 G) (db:GDeb Tryz.prog G):Sound Tryz.prog G 263 qoq:=qab (envS (l:=[(128,qff),(249,qdh),(273,qhj)]) ⟨(qin db),(qjp),(qu3 sy ra),trivial⟩) [] Tryz.func263 (by kernel_rfl) rfl fun _=>by kernel_rfl
def qai (a0:Dq5):Option ((Nat×Unit)×(Dq5×Unit)) :=
 (qbn ((a0.1,a0.2):Dq5)).bind fun y615 =>
 (qh3 y615.1.1).bind fun y616 =>
 bif y615.2.1.2.1 then some ((y616.1.1,()),(((y615.2.1.1,true,y615.2.1.2.2):Dq5),())) else
 some ((y616.1.1,()),(((y615.2.1.1,(! (iEq y616.1.2.1 0)),y615.2.1.2.2):Dq5),()))
def qeb:Entry:=⟨⟨[.io (.pair (.rows (.str)) (.val Uq10))],[.v (.val (.flt .f32))],false⟩,fun x=>qai x.1⟩
theorem qh6 (sy:GErr 1 G) (ra:GErr 2 G) (db:GDeb Tryz.prog G):Sound Tryz.prog G 237 qeb:=qab (envS (l:=[(67,qdg),(263,qoq)]) ⟨(qe7),(qwh sy ra db),trivial⟩) [] Tryz.func237 (by kernel_rfl) rfl fun _=>by kernel_rfl
def qas (a0:Dq5):Option (((Vec 3 Nat)×Unit)×(Dq5×Unit)) :=
 (qai ((a0.1,a0.2):Dq5)).bind fun y732 =>
 (qai ((y732.2.1.1,y732.2.1.2):Dq5)).bind fun y733 =>
 (qai ((y733.2.1.1,y733.2.1.2):Dq5)).bind fun y734 =>
 some ((((y732.1.1,y733.1.1,y734.1.1,()):(Vec 3 Nat)),()),(((y734.2.1.1,y734.2.1.2):Dq5),()))
def qir:Entry:=⟨⟨[.io (.pair (.rows (.str)) (.val Uq10))],[.v (.val (.arr 3 (.flt .f32)))],false⟩,fun x=>qas x.1⟩
theorem qqo (sy:GErr 1 G) (ra:GErr 2 G) (db:GDeb Tryz.prog G):Sound Tryz.prog G 238 qir:=qab (envS (l:=[(237,qeb)]) ⟨(qh6 sy ra db),trivial⟩) [(3,.unroll 4)] Tryz.func238 (by kernel_rfl) rfl fun _=>by kernel_rfl
def qho (a0:List UInt8):Option ((Dq5×Unit)×Unit) :=
 (strings_Split a0 ([32]:List UInt8)).bind fun y735 =>
 some ((((y735.1.1,false,()):Dq5),()),())
def qqp:Entry:=⟨⟨[.v (.str)],[.p (.pair (.rows (.str)) (.val Uq10))],false⟩,fun x=>qho x.1⟩
theorem qy5 (mx:GMax 4 G):Sound Tryz.prog G 64 qqp:=qab (envS (l:=[(109,qhk)]) ⟨(qq8 mx),trivial⟩) [] Tryz.func64 (by kernel_rfl) rfl fun _=>by kernel_rfl
def qfj (x481:(List (List UInt8))) (s499:(Int×Dq3×Unit)):Option ((Int×Dq3×Unit)⊕((Dq3×Bool×Unit)×Unit)) :=
 bif (iLt s499.1 (lenI x481)) then
  bif inB s499.1 (List.length x481) then
   (qho (List.getD x481 s499.1.toNat ([]:List UInt8))).bind fun y502 =>
   (qad ((y502.1.1.1,y502.1.1.2):Dq5)).bind fun y503 =>
   bif y503.2.1.2.1 then
    let x504:=iWrap .i32 y503.1.1
    (qad ((y503.2.1.1,true,y503.2.1.2.2):Dq5)).bind fun y505 =>
    bif y505.2.1.2.1 then
     let x506:=iWrap .i32 y505.1.1
     (qad ((y505.2.1.1,true,y505.2.1.2.2):Dq5)).bind fun y507 =>
     bif y507.2.1.2.1 then
      (qas ((y507.2.1.1,true,y507.2.1.2.2):Dq5)).bind fun y509 =>
      (qai ((y509.2.1.1,y509.2.1.2):Dq5)).bind fun y510 =>
      (qad ((y510.2.1.1,y510.2.1.2):Dq5)).bind fun y511 =>
      (qad ((y511.2.1.1,y511.2.1.2):Dq5)).bind fun y512 =>
      (qap ((y512.2.1.1,y512.2.1.2):Dq5)).bind fun y513 =>
      bif (! y513.1.1) then
       Option.map Sum.inr (some ((Lq4,false,()),()))
      else
      bif room (List.length s499.2.1.2.1+1) 48 then
       some (Sum.inl ((iAdd .i64 s499.1 1),((s499.2.1.1,(s499.2.1.2.1++([((x504,x506,(iWrap .i32 y507.1.1),()),y509.1.1,y510.1.1,y511.1.1,y512.1.1,())]:(List Dq2))),s499.2.1.2.2):Dq3),()))
      else none
     else
     (qax y507.1.1 Lq9 (2147483647:Int)).bind fun y517 =>
     (qas ((y507.2.1.1,(! y517.1.1),y507.2.1.2.2):Dq5)).bind fun y520 =>
     (qai ((y520.2.1.1,y520.2.1.2):Dq5)).bind fun y521 =>
     (qad ((y521.2.1.1,y521.2.1.2):Dq5)).bind fun y522 =>
     (qad ((y522.2.1.1,y522.2.1.2):Dq5)).bind fun y523 =>
     (qap ((y523.2.1.1,y523.2.1.2):Dq5)).bind fun y524 =>
     bif (! y524.1.1) then
      Option.map Sum.inr (some ((Lq4,false,()),()))
     else
     bif room (List.length s499.2.1.2.1+1) 48 then
      some (Sum.inl ((iAdd .i64 s499.1 1),((s499.2.1.1,(s499.2.1.2.1++([((x504,x506,(iWrap .i32 y507.1.1),()),y520.1.1,y521.1.1,y522.1.1,y523.1.1,())]:(List Dq2))),s499.2.1.2.2):Dq3),()))
     else none
    else
    (qax y505.1.1 Lq9 (2147483647:Int)).bind fun y528 =>
    let x530:=iWrap .i32 y505.1.1
    (qad ((y505.2.1.1,(! y528.1.1),y505.2.1.2.2):Dq5)).bind fun y531 =>
    bif y531.2.1.2.1 then
     (qas ((y531.2.1.1,true,y531.2.1.2.2):Dq5)).bind fun y533 =>
     (qai ((y533.2.1.1,y533.2.1.2):Dq5)).bind fun y534 =>
     (qad ((y534.2.1.1,y534.2.1.2):Dq5)).bind fun y535 =>
     (qad ((y535.2.1.1,y535.2.1.2):Dq5)).bind fun y536 =>
     (qap ((y536.2.1.1,y536.2.1.2):Dq5)).bind fun y537 =>
     bif (! y537.1.1) then
      Option.map Sum.inr (some ((Lq4,false,()),()))
     else
     bif room (List.length s499.2.1.2.1+1) 48 then
      some (Sum.inl ((iAdd .i64 s499.1 1),((s499.2.1.1,(s499.2.1.2.1++([((x504,x530,(iWrap .i32 y531.1.1),()),y533.1.1,y534.1.1,y535.1.1,y536.1.1,())]:(List Dq2))),s499.2.1.2.2):Dq3),()))
     else none
    else
    (qax y531.1.1 Lq9 (2147483647:Int)).bind fun y541 =>
    (qas ((y531.2.1.1,(! y541.1.1),y531.2.1.2.2):Dq5)).bind fun y544 =>
    (qai ((y544.2.1.1,y544.2.1.2):Dq5)).bind fun y545 =>
    (qad ((y545.2.1.1,y545.2.1.2):Dq5)).bind fun y546 =>
    (qad ((y546.2.1.1,y546.2.1.2):Dq5)).bind fun y547 =>
    (qap ((y547.2.1.1,y547.2.1.2):Dq5)).bind fun y548 =>
    bif (! y548.1.1) then
     Option.map Sum.inr (some ((Lq4,false,()),()))
    else
    bif room (List.length s499.2.1.2.1+1) 48 then
     some (Sum.inl ((iAdd .i64 s499.1 1),((s499.2.1.1,(s499.2.1.2.1++([((x504,x530,(iWrap .i32 y531.1.1),()),y544.1.1,y545.1.1,y546.1.1,y547.1.1,())]:(List Dq2))),s499.2.1.2.2):Dq3),()))
    else none
   else
   (qax y503.1.1 Lq9 (2147483647:Int)).bind fun y552 =>
   let x554:=iWrap .i32 y503.1.1
   (qad ((y503.2.1.1,(! y552.1.1),y503.2.1.2.2):Dq5)).bind fun y555 =>
   bif y555.2.1.2.1 then
    let x556:=iWrap .i32 y555.1.1
    (qad ((y555.2.1.1,true,y555.2.1.2.2):Dq5)).bind fun y557 =>
    bif y557.2.1.2.1 then
     (qas ((y557.2.1.1,true,y557.2.1.2.2):Dq5)).bind fun y559 =>
     (qai ((y559.2.1.1,y559.2.1.2):Dq5)).bind fun y560 =>
     (qad ((y560.2.1.1,y560.2.1.2):Dq5)).bind fun y561 =>
     (qad ((y561.2.1.1,y561.2.1.2):Dq5)).bind fun y562 =>
     (qap ((y562.2.1.1,y562.2.1.2):Dq5)).bind fun y563 =>
     bif (! y563.1.1) then
      Option.map Sum.inr (some ((Lq4,false,()),()))
     else
     bif room (List.length s499.2.1.2.1+1) 48 then
      some (Sum.inl ((iAdd .i64 s499.1 1),((s499.2.1.1,(s499.2.1.2.1++([((x554,x556,(iWrap .i32 y557.1.1),()),y559.1.1,y560.1.1,y561.1.1,y562.1.1,())]:(List Dq2))),s499.2.1.2.2):Dq3),()))
     else none
    else
    (qax y557.1.1 Lq9 (2147483647:Int)).bind fun y567 =>
    (qas ((y557.2.1.1,(! y567.1.1),y557.2.1.2.2):Dq5)).bind fun y570 =>
    (qai ((y570.2.1.1,y570.2.1.2):Dq5)).bind fun y571 =>
    (qad ((y571.2.1.1,y571.2.1.2):Dq5)).bind fun y572 =>
    (qad ((y572.2.1.1,y572.2.1.2):Dq5)).bind fun y573 =>
    (qap ((y573.2.1.1,y573.2.1.2):Dq5)).bind fun y574 =>
    bif (! y574.1.1) then
     Option.map Sum.inr (some ((Lq4,false,()),()))
    else
    bif room (List.length s499.2.1.2.1+1) 48 then
     some (Sum.inl ((iAdd .i64 s499.1 1),((s499.2.1.1,(s499.2.1.2.1++([((x554,x556,(iWrap .i32 y557.1.1),()),y570.1.1,y571.1.1,y572.1.1,y573.1.1,())]:(List Dq2))),s499.2.1.2.2):Dq3),()))
    else none
   else
   (qax y555.1.1 Lq9 (2147483647:Int)).bind fun y578 =>
   let x580:=iWrap .i32 y555.1.1
   (qad ((y555.2.1.1,(! y578.1.1),y555.2.1.2.2):Dq5)).bind fun y581 =>
   bif y581.2.1.2.1 then
    (qas ((y581.2.1.1,true,y581.2.1.2.2):Dq5)).bind fun y583 =>
    (qai ((y583.2.1.1,y583.2.1.2):Dq5)).bind fun y584 =>
    (qad ((y584.2.1.1,y584.2.1.2):Dq5)).bind fun y585 =>
    (qad ((y585.2.1.1,y585.2.1.2):Dq5)).bind fun y586 =>
    (qap ((y586.2.1.1,y586.2.1.2):Dq5)).bind fun y587 =>
    bif (! y587.1.1) then
     Option.map Sum.inr (some ((Lq4,false,()),()))
    else
    bif room (List.length s499.2.1.2.1+1) 48 then
     some (Sum.inl ((iAdd .i64 s499.1 1),((s499.2.1.1,(s499.2.1.2.1++([((x554,x580,(iWrap .i32 y581.1.1),()),y583.1.1,y584.1.1,y585.1.1,y586.1.1,())]:(List Dq2))),s499.2.1.2.2):Dq3),()))
    else none
   else
   (qax y581.1.1 Lq9 (2147483647:Int)).bind fun y591 =>
   (qas ((y581.2.1.1,(! y591.1.1),y581.2.1.2.2):Dq5)).bind fun y594 =>
   (qai ((y594.2.1.1,y594.2.1.2):Dq5)).bind fun y595 =>
   (qad ((y595.2.1.1,y595.2.1.2):Dq5)).bind fun y596 =>
   (qad ((y596.2.1.1,y596.2.1.2):Dq5)).bind fun y597 =>
   (qap ((y597.2.1.1,y597.2.1.2):Dq5)).bind fun y598 =>
   bif (! y598.1.1) then
    Option.map Sum.inr (some ((Lq4,false,()),()))
   else
   bif room (List.length s499.2.1.2.1+1) 48 then
    some (Sum.inl ((iAdd .i64 s499.1 1),((s499.2.1.1,(s499.2.1.2.1++([((x554,x580,(iWrap .i32 y581.1.1),()),y594.1.1,y595.1.1,y596.1.1,y597.1.1,())]:(List Dq2))),s499.2.1.2.2):Dq3),()))
   else none
  else none
 else
 Option.map Sum.inr (
  (qdz ((s499.2.1.1,s499.2.1.2.1,s499.2.1.2.2):Dq3)).bind fun y602 =>
  some ((((s499.2.1.1,s499.2.1.2.1,s499.2.1.2.2):Dq3),y602.1.1,()),()))
def qlv (a0:(List (List UInt8))):Option ((Dq3×Bool×Unit)×Unit) :=
 bif inB 0 (List.length a0) then
  (qho (List.getD a0 0 ([]:List UInt8))).bind fun y476 =>
  (qea ((y476.1.1.1,y476.1.1.2):Dq5) ([109,97,112]:List UInt8)).bind fun y477 =>
  (qai ((y477.2.1.1,y477.2.1.2):Dq5)).bind fun y478 =>
  (qap ((y478.2.1.1,y478.2.1.2):Dq5)).bind fun y479 =>
  bif (! y479.1.1) then some ((Lq4,false,()),()) else
  bif inS 1 (lenI a0) (List.length a0) then
   let x481:=dropL a0 1
   run (qfj x481) ((0:Int),((y478.1.1,[],()):Dq3),())
  else none
 else none
def qru:Entry:=⟨⟨[.v (.list (.str))],[.v (.pair (.val (.flt .f32)) (.pair (.rows Uq1) (.val (.unit)))),.v (.val (.bool))],false⟩,fun x=>qlv x.1⟩
theorem qaal (mx:GMax 4 G) (tb:GTab Tryz.prog G) (sy:GErr 1 G) (ra:GErr 2 G) (db:GDeb Tryz.prog G):Sound Tryz.prog G 203 qru:=qab (envS (l:=[(50,qb6),(64,qqp),(68,qhn),(69,qip),(115,qjn),(159,qg5),(237,qeb),(238,qir)]) ⟨(qcw),(qy5 mx),(qo8 tb sy ra),(qqn),(qrb),(qkr),(qh6 sy ra db),(qqo sy ra db),trivial⟩) [(7,.vary [(28,.sc (.int .i64)),(5,.box (.pair (.val (.flt .f32)) (.pair (.rows Uq1) (.val (.unit)))))]),(12,.unroll 4)] Tryz.func203 (by kernel_rfl) rfl fun _=>by kernel_rfl
def qln (a0:List UInt8):Option Dq18 :=
 bif (iLt 40000 (lenI a0)) then some ((Lq4,(2:Int),()),()) else
 (qlt a0).bind fun y466 =>
 bif (! y466.1.2.1) then some ((Lq4,(5:Int),()),()) else
 (qlv y466.1.1).bind fun y468 =>
 bif (! y468.1.2.1) then some ((Lq4,(5:Int),()),()) else some ((((y468.1.1.1,y468.1.1.2.1,y468.1.1.2.2):Dq3),(0:Int),()),())
def qrk:Entry:=⟨⟨[.v (.str)],[.v (.pair (.val (.flt .f32)) (.pair (.rows Uq1) (.val (.unit)))),.v (.val (.int .i64))],false⟩,fun x=>qln x.1⟩
theorem qz6 (mx:GMax 4 G) (tb:GTab Tryz.prog G) (sy:GErr 1 G) (ra:GErr 2 G) (db:GDeb Tryz.prog G):Sound Tryz.prog G 166 qrk:=qab (envS (l:=[(202,qrq),(203,qru)]) ⟨(qaag mx),(qaal mx tb sy ra db),trivial⟩) [] Tryz.func166 (by kernel_rfl) rfl fun _=>by kernel_rfl
def qdu (a0:Dq1) (a1:Dq16):Option ((Unit)×(Dq1×Unit)) :=
 (qln a1.2.1).bind fun y438 =>
 bif (! (iEq y438.1.2.1 0)) then
  some ((),(((a0.1,(a0.2.1.1,a0.2.1.2.1,a0.2.1.2.2.1,a0.2.1.2.2.2),a0.2.2):Dq1),()))
 else
 bif inB a1.1 (List.length a0.2.1.1) then
  (qgd ((List.getD a0.2.1.1 a1.1.toNat Lq3).1) ((y438.1.1.1,y438.1.1.2.1,y438.1.1.2.2):Dq3)).bind fun y441 =>
  bif (iEq y441.1.2.1 0) then
   some ((),(((a0.1,((List.set a0.2.1.1 a1.1.toNat (((y441.1.1.1,y441.1.1.2.1,y441.1.1.2.2),(List.getD a0.2.1.1 a1.1.toNat Lq3).2):Dq8)),a0.2.1.2.1,a0.2.1.2.2.1,a0.2.1.2.2.2),a0.2.2):Dq1),()))
  else
  some ((),(((a0.1,(a0.2.1.1,a0.2.1.2.1,a0.2.1.2.2.1,a0.2.1.2.2.2),a0.2.2):Dq1),()))
 else none
def qlb:Entry:=⟨⟨[.io (.pair (.val Uq2) (.pair (.pair (.rows Uq3) (.pair (.rows Uq3) (.pair (.rows Uq7) (.val (.unit))))) (.val (.unit)))),.v Uq7],[],true⟩,fun x=>qdu x.1 x.2.1⟩
theorem qtj (mx:GMax 4 G) (tb:GTab Tryz.prog G) (sy:GErr 1 G) (ra:GErr 2 G) (db:GDeb Tryz.prog G):Sound Tryz.prog G 134 qlb:=qab (envS (l:=[(166,qrk),(167,qpj)]) ⟨(qz6 mx tb sy ra db),(qxn),trivial⟩) [] Tryz.func134 (by kernel_rfl) rfl fun _=>by kernel_rfl
theorem qny:Sound Tryz.prog G 133 qgo:=qang
def qdj (a0:Dq1) (a1:Dq6):Option Dq20 :=
 (qax a1.2.1 (0:Int) (iSub .i64 (lenI a0.2.1.2.2.1) 1)).bind fun y428 =>
 bif (! y428.1.1) then
  some (((2:Int),()),(((a0.1,(a0.2.1.1,a0.2.1.2.1,a0.2.1.2.2.1,a0.2.1.2.2.2),a0.2.2):Dq1),()))
 else
 bif inB a1.2.1 (List.length a0.2.1.2.2.1) then
  let x430:=List.getD a0.2.1.2.2.1 a1.2.1.toNat ((0,[],()):Dq16)
  bif (! (iEq a1.1 4)) then
   (qh9 a0.2.1.2.2.1 a1.2.1 (iAdd .i64 a1.2.1 1)).bind fun y433 =>
   bif (! (iEq a1.1 5)) then
    (qdu ((a0.1,(a0.2.1.1,a0.2.1.2.1,y433.1.1,a0.2.1.2.2.2),a0.2.2):Dq1) x430).bind fun y435 =>
    some (((0:Int),()),(((y435.2.1.1,(y435.2.1.2.1.1,y435.2.1.2.1.2.1,y435.2.1.2.1.2.2.1,y435.2.1.2.1.2.2.2),y435.2.1.2.2):Dq1),()))
   else
   some (((0:Int),()),(((a0.1,(a0.2.1.1,a0.2.1.2.1,y433.1.1,a0.2.1.2.2.2),a0.2.2):Dq1),()))
  else
  bif (! (iEq a1.1 5)) then
   (qdu ((a0.1,(a0.2.1.1,a0.2.1.2.1,a0.2.1.2.2.1,a0.2.1.2.2.2),a0.2.2):Dq1) x430).bind fun y437 =>
   some (((0:Int),()),(((y437.2.1.1,(y437.2.1.2.1.1,y437.2.1.2.1.2.1,y437.2.1.2.1.2.2.1,y437.2.1.2.1.2.2.2),y437.2.1.2.2):Dq1),()))
  else
  some (((0:Int),()),(((a0.1,(a0.2.1.1,a0.2.1.2.1,a0.2.1.2.2.1,a0.2.1.2.2.2),a0.2.2):Dq1),()))
 else none
def qnd:Entry:=⟨⟨[.io (.pair (.val Uq2) (.pair (.pair (.rows Uq3) (.pair (.rows Uq3) (.pair (.rows Uq7) (.val (.unit))))) (.val (.unit)))),.v Uq4],[.v (.val (.int .i64))],true⟩,fun x=>qdj x.1 x.2.1⟩
theorem qvr (mx:GMax 4 G) (tb:GTab Tryz.prog G) (sy:GErr 1 G) (ra:GErr 2 G) (db:GDeb Tryz.prog G):Sound Tryz.prog G 94 qnd:=qab (envS (l:=[(50,qb6),(133,qgo),(134,qlb)]) ⟨(qcw),(qny),(qtj mx tb sy ra db),trivial⟩) [] Tryz.func94 (by kernel_rfl) rfl fun _=>by kernel_rfl
theorem qn3:Sound Tryz.prog G 113 qgu:=qzv (by decide) Tryz.func113 (by kernel_rfl) (by kernel_rfl) (Any.Builder_copyCheck_fresh Tryz.lays240 Tryz.Builder_X72_240) (Any.Builder_copyCheck_used Tryz.lays240 Tryz.Builder_X72_240)
def qa6 (a0:Dq12) (a1:List UInt8):Option ((Int×Bool×Unit)×(Dq12×Unit)) :=
 (qef ((a0.1,a0.2.1,a0.2.2):Dq12)).bind fun y775 =>
 bif room (List.length y775.2.1.2.1+List.length (bytesOf a1)) 1 then
  some ((lenI a1,true,()),(((y775.2.1.1,(y775.2.1.2.1++(bytesOf a1)),y775.2.1.2.2):Dq12),()))
 else none
def qf0:Entry:=⟨⟨[.io (.pair (.val (.ref 138)) (.pair (.rows (.int .u8)) (.val (.unit)))),.v (.str)],[.v (.val (.int .i64)),.v (.val (.err))],true⟩,fun x=>qa6 x.1 x.2.1⟩
theorem qm0:Sound Tryz.prog G 75 qf0:=qab (envS (l:=[(113,qgu)]) ⟨(qn3),trivial⟩) [] Tryz.func75 (by kernel_rfl) rfl fun _=>by kernel_rfl
theorem qsz:Sound Tryz.prog G 131 strings_Join_en:=qaih Tryz.func131 (by kernel_rfl) (by kernel_rfl) Tryz.strings_Join_none Tryz.strings_Join
def qbg (a0:(List Nat)) (s778:((List (List UInt8))×Int×Unit)):Option (((List (List UInt8))×Int×Unit)⊕Dq10) :=
 bif (iLt s778.2.1 (lenI a0)) then
  bif inB s778.2.1 (List.length a0) then
   (qc3 (List.getD a0 s778.2.1.toNat (0:Nat))).bind fun y781 =>
   bif room (List.length s778.1+1) 16 then
    some (Sum.inl ((s778.1++([y781.1.1]:(List (List UInt8)))),(iAdd .i64 s778.2.1 1),()))
   else none
  else none
 else
 Option.map Sum.inr (
  (strings_Join s778.1 ([32]:List UInt8)).bind fun y784 =>
  some ((y784.1.1,()),()))
def qha (a0:(List Nat)):Option Dq10 :=
 run (qbg a0) (([]:(List (List UInt8))),(0:Int),())
def qnc:Entry:=⟨⟨[.v (.list (.flt .f32))],[.v (.val (.str))],false⟩,fun x=>qha x.1⟩
theorem qvq (db:GDeb Tryz.prog G):Sound Tryz.prog G 163 qnc:=qab (envS (l:=[(128,qff),(131,strings_Join_en)]) ⟨(qin db),(qsz),trivial⟩) [(3,.vary [(3,.rows (.str)),(9,.sc (.int .i64))])] Tryz.func163 (by kernel_rfl) rfl fun _=>by kernel_rfl
def qlq (a0:(Vec 3 Nat)):Option Dq10 :=
 (qha ([Vec.getD 3 a0 0 (0:Nat),Vec.getD 3 a0 1 (0:Nat),Vec.getD 3 a0 2 (0:Nat)]:(List Nat))).bind fun y777 =>
 some ((y777.1.1,()),())
def qrn:Entry:=⟨⟨[.v (.arr 3 (.flt .f32))],[.v (.val (.str))],false⟩,fun x=>qlq x.1⟩
theorem qaac (db:GDeb Tryz.prog G):Sound Tryz.prog G 130 qrn:=qab (envS (l:=[(163,qnc)]) ⟨(qvq db),trivial⟩) [] Tryz.func130 (by kernel_rfl) rfl fun _=>by kernel_rfl
def qcs (a0:Int):Option Dq10 :=
 (qbh (iWrap .i64 a0) (10:Int)).bind fun y786 =>
 some ((y786.1.1,()),())
def qk8:Entry:=⟨⟨[.v (.int .i32)],[.v (.val (.str))],false⟩,fun x=>qcs x.1⟩
theorem qth (tb:GTab Tryz.prog G):Sound Tryz.prog G 129 qk8:=qab (envS (l:=[(111,qee)]) ⟨(qmz tb),trivial⟩) [] Tryz.func129 (by kernel_rfl) rfl fun _=>by kernel_rfl
def qfi (a0:Dq3) (s757:(Int×Dq12×Unit)):Option ((Int×Dq12×Unit)⊕Dq10) :=
 bif (iLt s757.1 (lenI a0.2.1)) then
  bif inB s757.1 (List.length a0.2.1) then
   let x759:=List.getD a0.2.1 s757.1.toNat Lq1
   (qcs (Vec.getD 3 x759.1 0 (0:Int))).bind fun y761 =>
   (qcs (Vec.getD 3 x759.1 1 (0:Int))).bind fun y763 =>
   (qcs (Vec.getD 3 x759.1 2 (0:Int))).bind fun y765 =>
   (qlq x759.2.1).bind fun y766 =>
   (qc3 x759.2.2.1).bind fun y767 =>
   (qct x759.2.2.2.1).bind fun y768 =>
   (qct x759.2.2.2.2.1).bind fun y769 =>
   (strings_Join ([y761.1.1,y763.1.1,y765.1.1,y766.1.1,y767.1.1,y768.1.1,y769.1.1]:(List (List UInt8))) ([32]:List UInt8)).bind fun y770 =>
   bif strRoom y770.1.1 ([10]) then
    (qa6 ((s757.2.1.1,s757.2.1.2.1,s757.2.1.2.2):Dq12) (strCat y770.1.1 ([10]))).bind fun y772 =>
    some (Sum.inl ((iAdd .i64 s757.1 1),((y772.2.1.1,y772.2.1.2.1,y772.2.1.2.2):Dq12),()))
   else none
  else none
 else
 Option.map Sum.inr (
  (bldStr ((s757.2.1.1,s757.2.1.2.1,s757.2.1.2.2):Dq12)).bind fun y774 =>
  some ((y774,()),()))
def qlu (a0:Dq3):Option Dq10 :=
 (qc3 a0.1).bind fun y736 =>
 bif strRoom ([109,97,112,32]) y736.1.1 then
  let x737:=strCat ([109,97,112,32]) y736.1.1
  bif strRoom x737 ([10]) then
   (qa6 (((),[],()):Dq12) (strCat x737 ([10]))).bind fun y739 =>
   run (qfi a0) ((0:Int),((y739.2.1.1,y739.2.1.2.1,y739.2.1.2.2):Dq12),())
  else none
 else none
def qrr:Entry:=⟨⟨[.v Uq6],[.v (.val (.str))],false⟩,fun x=>qlu x.1⟩
theorem qaai (tb:GTab Tryz.prog G) (db:GDeb Tryz.prog G):Sound Tryz.prog G 92 qrr:=qab (envS (l:=[(70,qgg),(75,qf0),(128,qff),(129,qk8),(130,qrn),(131,strings_Join_en)]) ⟨(qk9 tb),(qm0),(qin db),(qth tb),(qaac db),(qsz),trivial⟩) [(4,.vary [(16,.sc (.int .i64)),(3,.box (.pair (.val (.ref 138)) (.pair (.rows (.int .u8)) (.val (.unit)))))])] Tryz.func92 (by kernel_rfl) rfl fun _=>by kernel_rfl
def qes (a0:Dq8):Option ((Dq8×Unit)×Unit) :=
 (qf2 a0.1).bind fun y787 =>
 some (((((y787.1.1.1,y787.1.1.2.1,y787.1.1.2.2),a0.2.1,()):Dq8),()),())
def qrt:Entry:=⟨⟨[.v Uq3],[.v (.pair (.pair (.val (.flt .f32)) (.pair (.rows Uq1) (.val (.unit)))) (.val Uq8))],false⟩,fun x=>qes x.1⟩
theorem qaak:Sound Tryz.prog G 93 qrt:=qab (envS (l:=[(132,qjh)]) ⟨(qnu),trivial⟩) [] Tryz.func93 (by kernel_rfl) rfl fun _=>by kernel_rfl
def qcv (a0:Dq1) (a1:Dq6):Option Dq20 :=
 bif (iEq a1.1 1) then
  (qfk ((a0.1,(a0.2.1.1,a0.2.1.2.1,a0.2.1.2.2.1,a0.2.1.2.2.2),a0.2.2):Dq1) a1.2.1).bind fun y36 =>
  some ((y36.1.1,()),(((y36.2.1.1,(y36.2.1.2.1.1,y36.2.1.2.1.2.1,y36.2.1.2.1.2.2.1,y36.2.1.2.1.2.2.2),y36.2.1.2.2):Dq1),()))
 else
 bif (iEq a1.1 2) then
  (qbw ((a0.1,(a0.2.1.1,a0.2.1.2.1,a0.2.1.2.2.1,a0.2.1.2.2.2),a0.2.2):Dq1) a1.2.1).bind fun y38 =>
  bif (! y38.1.1) then
   some (((2:Int),()),(((y38.2.1.1,(y38.2.1.2.1.1,y38.2.1.2.1.2.1,y38.2.1.2.1.2.2.1,y38.2.1.2.1.2.2.2),y38.2.1.2.2):Dq1),()))
  else
  (qbw ((y38.2.1.1,(y38.2.1.2.1.1,y38.2.1.2.1.2.1,y38.2.1.2.1.2.2.1,y38.2.1.2.1.2.2.2),y38.2.1.2.2):Dq1) a1.2.2.1).bind fun y40 =>
  bif (! y40.1.1) then
   some (((2:Int),()),(((y40.2.1.1,(y40.2.1.2.1.1,y40.2.1.2.1.2.1,y40.2.1.2.1.2.2.1,y40.2.1.2.1.2.2.2),y40.2.1.2.2):Dq1),()))
  else
  bif (iEq a1.2.1 a1.2.2.1) then
   some (((2:Int),()),(((y40.2.1.1,(y40.2.1.2.1.1,y40.2.1.2.1.2.1,y40.2.1.2.1.2.2.1,y40.2.1.2.1.2.2.2),y40.2.1.2.2):Dq1),()))
  else
  bif (iEq (lenI y40.2.1.2.1.2.2.1) 10) then
   some (((3:Int),()),(((y40.2.1.1,(y40.2.1.2.1.1,y40.2.1.2.1.2.1,y40.2.1.2.1.2.2.1,y40.2.1.2.1.2.2.2),y40.2.1.2.2):Dq1),()))
  else
  bif inB a1.2.1 (List.length y40.2.1.2.1.1) then
   (qlu ((List.getD y40.2.1.2.1.1 a1.2.1.toNat Lq3).1)).bind fun y45 =>
   bif room (List.length y40.2.1.2.1.2.2.1+1) 24 then
    some (((0:Int),()),(((y40.2.1.1,(y40.2.1.2.1.1,y40.2.1.2.1.2.1,(y40.2.1.2.1.2.2.1++([(a1.2.2.1,y45.1.1,())]:(List Dq16))),y40.2.1.2.1.2.2.2),y40.2.1.2.2):Dq1),()))
   else none
  else none
 else
 let x47:=iEq a1.1 6
 bif x47 then
  bif x47 then
   (qbw ((a0.1,(a0.2.1.1,a0.2.1.2.1,a0.2.1.2.2.1,a0.2.1.2.2.2),a0.2.2):Dq1) a1.2.1).bind fun y48 =>
   bif (! y48.1.1) then
    some (((2:Int),()),(((y48.2.1.1,(y48.2.1.2.1.1,y48.2.1.2.1.2.1,y48.2.1.2.1.2.2.1,y48.2.1.2.1.2.2.2),y48.2.1.2.2):Dq1),()))
   else
   bif (iEq a1.1 6) then
    bif inB a1.2.1 (List.length y48.2.1.2.1.1) then
     (qes (List.getD y48.2.1.2.1.1 a1.2.1.toNat Lq3)).bind fun y52 =>
     bif inB a1.2.1 (List.length y48.2.1.2.1.2.1) then
      some (((0:Int),()),(((y48.2.1.1,(y48.2.1.2.1.1,(List.set y48.2.1.2.1.2.1 a1.2.1.toNat (((y52.1.1.1.1,y52.1.1.1.2.1,y52.1.1.1.2.2),y52.1.1.2):Dq8)),y48.2.1.2.1.2.2.1,y48.2.1.2.1.2.2.2),y48.2.1.2.2):Dq1),()))
     else none
    else none
   else
   bif inB a1.2.1 (List.length y48.2.1.2.1.2.1) then
    (qes (List.getD y48.2.1.2.1.2.1 a1.2.1.toNat Lq3)).bind fun y55 =>
    bif inB a1.2.1 (List.length y48.2.1.2.1.1) then
     some (((0:Int),()),(((y48.2.1.1,((List.set y48.2.1.2.1.1 a1.2.1.toNat (((y55.1.1.1.1,y55.1.1.1.2.1,y55.1.1.1.2.2),y55.1.1.2):Dq8)),y48.2.1.2.1.2.1,y48.2.1.2.1.2.2.1,y48.2.1.2.1.2.2.2),y48.2.1.2.2):Dq1),()))
    else none
   else none
  else
  (qdj ((a0.1,(a0.2.1.1,a0.2.1.2.1,a0.2.1.2.2.1,a0.2.1.2.2.2),a0.2.2):Dq1) a1).bind fun y57 =>
  some ((y57.1.1,()),(((y57.2.1.1,(y57.2.1.2.1.1,y57.2.1.2.1.2.1,y57.2.1.2.1.2.2.1,y57.2.1.2.1.2.2.2),y57.2.1.2.2):Dq1),()))
 else
 bif (iEq a1.1 7) then
  (qbw ((a0.1,(a0.2.1.1,a0.2.1.2.1,a0.2.1.2.2.1,a0.2.1.2.2.2),a0.2.2):Dq1) a1.2.1).bind fun y59 =>
  bif (! y59.1.1) then
   some (((2:Int),()),(((y59.2.1.1,(y59.2.1.2.1.1,y59.2.1.2.1.2.1,y59.2.1.2.1.2.2.1,y59.2.1.2.1.2.2.2),y59.2.1.2.2):Dq1),()))
  else
  bif (iEq a1.1 6) then
   bif inB a1.2.1 (List.length y59.2.1.2.1.1) then
    (qes (List.getD y59.2.1.2.1.1 a1.2.1.toNat Lq3)).bind fun y63 =>
    bif inB a1.2.1 (List.length y59.2.1.2.1.2.1) then
     some (((0:Int),()),(((y59.2.1.1,(y59.2.1.2.1.1,(List.set y59.2.1.2.1.2.1 a1.2.1.toNat (((y63.1.1.1.1,y63.1.1.1.2.1,y63.1.1.1.2.2),y63.1.1.2):Dq8)),y59.2.1.2.1.2.2.1,y59.2.1.2.1.2.2.2),y59.2.1.2.2):Dq1),()))
    else none
   else none
  else
  bif inB a1.2.1 (List.length y59.2.1.2.1.2.1) then
   (qes (List.getD y59.2.1.2.1.2.1 a1.2.1.toNat Lq3)).bind fun y66 =>
   bif inB a1.2.1 (List.length y59.2.1.2.1.1) then
    some (((0:Int),()),(((y59.2.1.1,((List.set y59.2.1.2.1.1 a1.2.1.toNat (((y66.1.1.1.1,y66.1.1.1.2.1,y66.1.1.1.2.2),y66.1.1.2):Dq8)),y59.2.1.2.1.2.1,y59.2.1.2.1.2.2.1,y59.2.1.2.1.2.2.2),y59.2.1.2.2):Dq1),()))
   else none
  else none
 else
 (qdj ((a0.1,(a0.2.1.1,a0.2.1.2.1,a0.2.1.2.2.1,a0.2.1.2.2.2),a0.2.2):Dq1) a1).bind fun y68 =>
 some ((y68.1.1,()),(((y68.2.1.1,(y68.2.1.2.1.1,y68.2.1.2.1.2.1,y68.2.1.2.1.2.2.1,y68.2.1.2.1.2.2.2),y68.2.1.2.2):Dq1),()))
def qpo:Entry:=⟨⟨[.io (.pair (.val Uq2) (.pair (.pair (.rows Uq3) (.pair (.rows Uq3) (.pair (.rows Uq7) (.val (.unit))))) (.val (.unit)))),.v Uq4],[.v (.val (.int .i64))],true⟩,fun x=>qcv x.1 x.2.1⟩
theorem qxt (mx:GMax 4 G) (tb:GTab Tryz.prog G) (sy:GErr 1 G) (ra:GErr 2 G) (db:GDeb Tryz.prog G):Sound Tryz.prog G 46 qpo:=qab (envS (l:=[(54,qis),(91,qou),(92,qrr),(93,qrt),(94,qnd)]) ⟨(qot),(qwm),(qaai tb db),(qaak),(qvr mx tb sy ra db),trivial⟩) [] Tryz.func46 (by kernel_rfl) rfl fun _=>by kernel_rfl
def qns (a0:Nat):Option Dq7 :=
 some (((fLt .f32 a0 0),()),())
def qpm:Entry:=⟨⟨[.v (.flt .f32)],[.v (.val (.bool))],false⟩,fun x=>qns x.1⟩
theorem qxr:Sound Tryz.prog G 97 qpm:=qab (envS (l:=[]) trivial) [] Tryz.func97 (by kernel_rfl) rfl fun _=>by kernel_rfl
def qdw (a0:(List Nat)) (a1:((Nat×Unit)→Option Bool)) (s822:(Int×Unit)):Option ((Int×Unit)⊕Dq11) :=
 bif (iLt s822.1 (lenI a0)) then
  bif inB s822.1 (List.length a0) then
   (a1 ((List.getD a0 s822.1.toNat (0:Nat)),())).bind fun y825 =>
   bif y825 then
    Option.map Sum.inr (some ((s822.1,()),()))
   else
   some (Sum.inl ((iAdd .i64 s822.1 1),()))
  else none
 else
 Option.map Sum.inr (some ((Lq6,()),()))
def qc5 (a0:(List Nat)) (a1:((Nat×Unit)→Option Bool)):Option Dq11 :=
 run (qdw a0 a1) ((0:Int),())
def qgy:Entry:=⟨⟨[.v (.list (.flt .f32)),.fn ⟨[.flt .f32],.bool⟩],[.v (.val (.int .i64))],false⟩,fun x=>qc5 x.1 x.2.1⟩
theorem qoz:Sound Tryz.prog G 135 qgy:=qab (envS (l:=[]) trivial) [(2,.vary [(8,.sc (.int .i64))])] Tryz.func135 (by kernel_rfl) rfl fun _=>by kernel_rfl
def qcf (a0:(List Nat)) (a1:((Nat×Unit)→Option Bool)):Option Dq7 :=
 (qc5 a0 a1).bind fun y820 =>
 some (((iLe 0 y820.1.1),()),())
def qfp:Entry:=⟨⟨[.v (.list (.flt .f32)),.fn ⟨[.flt .f32],.bool⟩],[.v (.val (.bool))],false⟩,fun x=>qcf x.1 x.2.1⟩
theorem qmd:Sound Tryz.prog G 96 qfp:=qab (envS (l:=[(135,qgy)]) ⟨(qoz),trivial⟩) [] Tryz.func96 (by kernel_rfl) rfl fun _=>by kernel_rfl
def qls (a0:(List Nat)):Option Dq7 :=
 (qci a0).bind fun y815 =>
 bif y815.1.1 then
  (qcf a0 (fun (z816:(Nat×Unit))=>(qns z816.1).map fun y=>y.1.1)).bind fun y817 =>
  some (((! y817.1.1),()),())
 else some ((false,()),())
def qrp:Entry:=⟨⟨[.v (.list (.flt .f32))],[.v (.val (.bool))],false⟩,fun x=>qls x.1⟩
theorem qaaf:Sound Tryz.prog G 49 qrp:=qab (envS (l:=[(95,qer),(96,qfp),(97,qpm)]) ⟨(qg9),(qmd),(qxr),trivial⟩) [] Tryz.func49 (by kernel_rfl) rfl fun _=>by kernel_rfl
def qfh (x801:(List Dq4)) (a0:Dq9) (s799:(Int×Unit)) (s803:(Int×Unit)):Option ((Int×Unit)⊕((Int×Unit)⊕Dq7)) :=
 bif (iLt s803.1 (lenI x801)) then
  bif inB s803.1 (List.length x801) then
   let x805:=List.getD x801 s803.1.toNat Lq7
   (qb3 a0.1 x805.1).bind fun y806 =>
   bif (! (iEq y806.1.2.1 0)) then
    Option.map Sum.inr (Option.map Sum.inr (some ((false,()),())))
   else
   (qdn x805.2.1).bind fun y808 =>
   bif (! y808.1.1) then
    Option.map Sum.inr (Option.map Sum.inr (some ((false,()),())))
   else
   bif (fLt .f32 1232348160 x805.2.1) then
    Option.map Sum.inr (Option.map Sum.inr (some ((false,()),())))
   else
   (qhx x805.2.2.1).bind fun y811 =>
   bif (! y811.1.1) then
    Option.map Sum.inr (Option.map Sum.inr (some ((false,()),())))
   else
   some (Sum.inl ((iAdd .i64 s803.1 1),()))
  else none
 else
 Option.map Sum.inr (some (Sum.inl ((iAdd .i64 s799.1 1),())))
def qfg (a0:Dq9) (s799:(Int×Unit)):Option ((Int×Unit)⊕Dq7) :=
 bif (iLt s799.1 (lenI a0.2.2.1)) then
  bif inB s799.1 (List.length a0.2.2.1) then
   let x801:=List.getD a0.2.2.1 s799.1.toNat ([]:(List Dq4))
   bif (iLt 16 (lenI x801)) then
    Option.map Sum.inr (some ((false,()),()))
   else run (qfh x801 a0 s799) ((0:Int),())
  else none
 else
 Option.map Sum.inr (some ((true,()),()))
def qh4 (a0:Dq9):Option Dq7 :=
 (qdn a0.1).bind fun y793 =>
 bif (! y793.1.1) then some ((false,()),()) else
 (qls ([a0.2.1]:(List Nat))).bind fun y795 =>
 bif (! y795.1.1) then some ((false,()),()) else
 (qax (lenI a0.2.2.1) (1:Int) (4:Int)).bind fun y797 =>
 bif (! y797.1.1) then some ((false,()),()) else run (qfg a0) ((0:Int),())
def qor:Entry:=⟨⟨[.v Uq2],[.v (.val (.bool))],false⟩,fun x=>qh4 x.1⟩
theorem qwj:Sound Tryz.prog G 17 qor:=qab (envS (l:=[(48,qel),(49,qrp),(50,qb6),(51,qjb),(52,qjf)]) ⟨(qgi),(qaaf),(qcw),(qnr),(qnt),trivial⟩) [(4,.vary [(30,.sc (.int .i64))]),(9,.vary [(39,.sc (.int .i64))])] Tryz.func17 (by kernel_rfl) rfl fun _=>by kernel_rfl
def qjc (a0:Dq6):Option Dq7 :=
 (qax a0.1 (1:Int) (7:Int)).bind fun y829 =>
 bif y829.1.1 then
  (qax a0.2.1 (0:Int) (999:Int)).bind fun y830 =>
  bif y830.1.1 then
   (qax a0.2.2.1 (0:Int) (999:Int)).bind fun y831 =>
   bif y831.1.1 then
    bif (iEq a0.1 2) then some ((true,()),()) else
    some (((iEq a0.2.2.1 0),()),())
   else some ((false,()),())
  else some ((false,()),())
 else some ((false,()),())
def qpk:Entry:=⟨⟨[.v Uq4],[.v (.val (.bool))],false⟩,fun x=>qjc x.1⟩
theorem qxp:Sound Tryz.prog G 34 qpk:=qab (envS (l:=[(50,qb6)]) ⟨(qcw),trivial⟩) [] Tryz.func34 (by kernel_rfl) rfl fun _=>by kernel_rfl
def qga (a0:Dq6):Option Dq7 :=
 (qjc a0).bind fun y827 =>
 some (((! y827.1.1),()),())
def qlr:Entry:=⟨⟨[.v Uq4],[.v (.val (.bool))],false⟩,fun x=>qga x.1⟩
theorem qun:Sound Tryz.prog G 90 qlr:=qab (envS (l:=[(34,qpk)]) ⟨(qxp),trivial⟩) [] Tryz.func90 (by kernel_rfl) rfl fun _=>by kernel_rfl
def qde (a0:(List Dq6)) (a1:((Dq6×Unit)→Option Bool)) (s836:(Int×Unit)):Option ((Int×Unit)⊕Dq11) :=
 bif (iLt s836.1 (lenI a0)) then
  bif inB s836.1 (List.length a0) then
   (a1 ((List.getD a0 s836.1.toNat Lq10),())).bind fun y839 =>
   bif y839 then
    Option.map Sum.inr (some ((s836.1,()),()))
   else
   some (Sum.inl ((iAdd .i64 s836.1 1),()))
  else none
 else
 Option.map Sum.inr (some ((Lq6,()),()))
def qcj (a0:(List Dq6)) (a1:((Dq6×Unit)→Option Bool)):Option Dq11 :=
 run (qde a0 a1) ((0:Int),())
def qf7:Entry:=⟨⟨[.v (.list Uq4),.fn ⟨[.pair (.int .i64) (.pair (.int .i64) Uq8)],.bool⟩],[.v (.val (.int .i64))],false⟩,fun x=>qcj x.1 x.2.1⟩
theorem qm4:Sound Tryz.prog G 126 qf7:=qab (envS (l:=[]) trivial) [(2,.vary [(8,.sc (.int .i64))])] Tryz.func126 (by kernel_rfl) rfl fun _=>by kernel_rfl
def qbe (a0:(List Dq6)) (a1:((Dq6×Unit)→Option Bool)):Option Dq7 :=
 (qcj a0 a1).bind fun y834 =>
 some (((iLe 0 y834.1.1),()),())
def qex:Entry:=⟨⟨[.v (.list Uq4),.fn ⟨[.pair (.int .i64) (.pair (.int .i64) Uq8)],.bool⟩],[.v (.val (.bool))],false⟩,fun x=>qbe x.1 x.2.1⟩
theorem qk0:Sound Tryz.prog G 89 qex:=qab (envS (l:=[(126,qf7)]) ⟨(qm4),trivial⟩) [] Tryz.func89 (by kernel_rfl) rfl fun _=>by kernel_rfl
def qh5 (a0:Dq9) (a1:(List Dq6)):Option Dq11 :=
 (qh4 a0).bind fun y788 =>
 bif (! y788.1.1) then some (((1:Int),()),()) else
 (qbe a1 (fun (z790:(Dq6×Unit))=>(qga z790.1).map fun y=>y.1.1)).bind fun y791 =>
 bif y791.1.1 then some (((1:Int),()),()) else
 bif (iLt 200 (lenI a1)) then some (((2:Int),()),()) else some (((0:Int),()),())
def qos:Entry:=⟨⟨[.v Uq2,.v (.list Uq4)],[.v (.val (.int .i64))],false⟩,fun x=>qh5 x.1 x.2.1⟩
theorem qwk:Sound Tryz.prog G 41 qos:=qab (envS (l:=[(17,qor),(89,qex),(90,qlr)]) ⟨(qwj),(qk0),(qun),trivial⟩) [] Tryz.func41 (by kernel_rfl) rfl fun _=>by kernel_rfl
def qd8 (a0:Dq9) (s844:(Int×Dq1×Unit)):Option ((Int×Dq1×Unit)⊕((Dq1×Unit)×Unit)) :=
 bif (iLt s844.1 (lenI a0.2.2.1)) then
  bif room (List.length s844.2.1.2.1.1+1) 40 then
   bif room (List.length s844.2.1.2.1.2.1+1) 40 then
    some (Sum.inl ((iAdd .i64 s844.1 1),((s844.2.1.1,((s844.2.1.2.1.1++([((a0.1,[],()),0,())]:(List Dq8))),(s844.2.1.2.1.2.1++([((a0.1,[],()),0,())]:(List Dq8))),s844.2.1.2.1.2.2.1,s844.2.1.2.1.2.2.2),s844.2.1.2.2):Dq1),()))
   else none
  else none
 else
 Option.map Sum.inr (some ((((s844.2.1.1,(s844.2.1.2.1.1,s844.2.1.2.1.2.1,s844.2.1.2.1.2.2.1,s844.2.1.2.1.2.2.2),s844.2.1.2.2):Dq1),()),()))
def qjg (a0:Dq9):Option ((Dq1×Unit)×Unit) :=
 run (qd8 a0) ((0:Int),((a0,([],[],[],()),()):Dq1),())
def qpn:Entry:=⟨⟨[.v Uq2],[.p (.pair (.val Uq2) (.pair (.pair (.rows Uq3) (.pair (.rows Uq3) (.pair (.rows Uq7) (.val (.unit))))) (.val (.unit))))],true⟩,fun x=>qjg x.1⟩
theorem qxs:Sound Tryz.prog G 59 qpn:=qab (envS (l:=[]) trivial) [(3,.vary [(10,.sc (.int .i64)),(3,.box (.pair (.val Uq2) (.pair (.pair (.rows Uq3) (.pair (.rows Uq3) (.pair (.rows Uq7) (.val (.unit))))) (.val (.unit)))))])] Tryz.func59 (by kernel_rfl) rfl fun _=>by kernel_rfl
def qoe (a0:Dq6) (a1:Dq6):Option Dq7 :=
 bif (! (iEq a0.1 a1.1)) then some ((false,()),()) else
 bif (! (iEq a0.2.1 a1.2.1)) then some ((false,()),()) else
 bif (! (iEq a0.2.2.1 a1.2.2.1)) then some ((false,()),()) else some ((true,()),())
def qtk:Entry:=⟨⟨[.v Uq4,.v Uq4],[.v (.val (.bool))],false⟩,fun x=>qoe x.1 x.2.1⟩
theorem qacg:Sound Tryz.prog G 62 qtk:=qab (envS (l:=[]) trivial) [] Tryz.func62 (by kernel_rfl) rfl fun _=>by kernel_rfl
def ql0 (a0:(List Dq6)) (a1:(List Dq6)) (s850:(Int×Unit)):Option ((Int×Unit)⊕Dq7) :=
 bif (iLt s850.1 (lenI a0)) then
  bif inB s850.1 (List.length a0) then
   bif inB s850.1 (List.length a1) then
    (qoe (List.getD a0 s850.1.toNat Lq10) (List.getD a1 s850.1.toNat Lq10)).bind fun y854 =>
    bif (! y854.1.1) then
     Option.map Sum.inr (some ((false,()),()))
    else
    some (Sum.inl ((iAdd .i64 s850.1 1),()))
   else none
  else none
 else
 Option.map Sum.inr (some ((true,()),()))
def qlz (a0:(List Dq6)) (a1:(List Dq6)):Option Dq7 :=
 bif (! (iEq (lenI a0) (lenI a1))) then some ((false,()),()) else run (ql0 a0 a1) ((0:Int),())
def qrw:Entry:=⟨⟨[.v (.list Uq4),.v (.list Uq4)],[.v (.val (.bool))],false⟩,fun x=>qlz x.1 x.2.1⟩
theorem qaap:Sound Tryz.prog G 30 qrw:=qab (envS (l:=[(62,qtk)]) ⟨(qacg),trivial⟩) [(4,.vary [(5,.sc (.int .i64))])] Tryz.func30 (by kernel_rfl) rfl fun _=>by kernel_rfl
def qb7 (a0:Nat) (a1:Nat):Option Dq7 :=
 bif (! (fEq .f64 a0 a0)) then
  bif (! (fEq .f64 a0 a0)) then
   some (((! (fEq .f64 a1 a1)),()),())
  else some ((false,()),())
 else
 bif (! (fEq .f64 a1 a1)) then
  bif (! (fEq .f64 a0 a0)) then
   some (((! (fEq .f64 a1 a1)),()),())
  else some ((false,()),())
 else
 bif (fEq .f64 a0 0) then
  bif (fEq .f64 a1 0) then
   some (((bEq (fLt .f64 0 (fDiv .f64 4607182418800017408 a0)) (fLt .f64 0 (fDiv .f64 4607182418800017408 a1))),()),())
  else
  some (((fEq .f64 a0 a1),()),())
 else
 some (((fEq .f64 a0 a1),()),())
def qgb:Entry:=⟨⟨[.v (.flt .f64),.v (.flt .f64)],[.v (.val (.bool))],false⟩,fun x=>qb7 x.1 x.2.1⟩
theorem qju:Sound Tryz.prog G 60 qgb:=qab (envS (l:=[]) trivial) [] Tryz.func60 (by kernel_rfl) rfl fun _=>by kernel_rfl
def qp9 (a0:(Vec 3 Nat)) (a1:(Vec 3 Nat)):Option Dq7 :=
 (fConv .f32 .f64 (Vec.getD 3 a0 0 (0:Nat))).bind fun y894 =>
 (fConv .f32 .f64 (Vec.getD 3 a1 0 (0:Nat))).bind fun y896 =>
 (qb7 y894 y896).bind fun y897 =>
 bif (! y897.1.1) then some ((false,()),()) else
 (fConv .f32 .f64 (Vec.getD 3 a0 1 (0:Nat))).bind fun y900 =>
 (fConv .f32 .f64 (Vec.getD 3 a1 1 (0:Nat))).bind fun y902 =>
 (qb7 y900 y902).bind fun y903 =>
 bif (! y903.1.1) then some ((false,()),()) else
 (fConv .f32 .f64 (Vec.getD 3 a0 2 (0:Nat))).bind fun y906 =>
 (fConv .f32 .f64 (Vec.getD 3 a1 2 (0:Nat))).bind fun y908 =>
 (qb7 y906 y908).bind fun y909 =>
 bif (! y909.1.1) then some ((false,()),()) else some ((true,()),())
def qvb:Entry:=⟨⟨[.v (.arr 3 (.flt .f32)),.v (.arr 3 (.flt .f32))],[.v (.val (.bool))],false⟩,fun x=>qp9 x.1 x.2.1⟩
theorem qaer:Sound Tryz.prog G 173 qvb:=qab (envS (l:=[(60,qgb)]) ⟨(qju),trivial⟩) [(2,.unroll 4)] Tryz.func173 (by kernel_rfl) rfl fun _=>by kernel_rfl
def ql2 (a0:Dq4) (a1:Dq4):Option Dq7 :=
 (qp9 a0.1 a1.1).bind fun y886 =>
 bif (! y886.1.1) then some ((false,()),()) else
 (fConv .f32 .f64 a0.2.1).bind fun y888 =>
 (fConv .f32 .f64 a1.2.1).bind fun y889 =>
 (qb7 y888 y889).bind fun y890 =>
 bif (! y890.1.1) then some ((false,()),()) else
 bif (! (iEq a0.2.2.1 a1.2.2.1)) then some ((false,()),()) else some ((true,()),())
def qry:Entry:=⟨⟨[.v Uq5,.v Uq5],[.v (.val (.bool))],false⟩,fun x=>ql2 x.1 x.2.1⟩
theorem qaat:Sound Tryz.prog G 147 qry:=qab (envS (l:=[(60,qgb),(173,qvb)]) ⟨(qju),(qaer),trivial⟩) [] Tryz.func147 (by kernel_rfl) rfl fun _=>by kernel_rfl
def qkv (a0:(List Dq4)) (a1:(List Dq4)) (s879:(Int×Unit)):Option ((Int×Unit)⊕Dq7) :=
 bif (iLt s879.1 (lenI a0)) then
  bif inB s879.1 (List.length a0) then
   bif inB s879.1 (List.length a1) then
    (ql2 (List.getD a0 s879.1.toNat Lq7) (List.getD a1 s879.1.toNat Lq7)).bind fun y883 =>
    bif (! y883.1.1) then
     Option.map Sum.inr (some ((false,()),()))
    else
    some (Sum.inl ((iAdd .i64 s879.1 1),()))
   else none
  else none
 else
 Option.map Sum.inr (some ((true,()),()))
def qj9 (a0:(List Dq4)) (a1:(List Dq4)):Option Dq7 :=
 bif (! (iEq (lenI a0) (lenI a1))) then some ((false,()),()) else run (qkv a0 a1) ((0:Int),())
def qqs:Entry:=⟨⟨[.v (.list Uq5),.v (.list Uq5)],[.v (.val (.bool))],false⟩,fun x=>qj9 x.1 x.2.1⟩
theorem qza:Sound Tryz.prog G 108 qqs:=qab (envS (l:=[(147,qry)]) ⟨(qaat),trivial⟩) [(4,.vary [(5,.sc (.int .i64))])] Tryz.func108 (by kernel_rfl) rfl fun _=>by kernel_rfl
def qjs (a0:(List (List Dq4))) (a1:(List (List Dq4))) (s871:(Int×Unit)):Option ((Int×Unit)⊕Dq7) :=
 bif (iLt s871.1 (lenI a0)) then
  bif inB s871.1 (List.length a0) then
   bif inB s871.1 (List.length a1) then
    (qj9 (List.getD a0 s871.1.toNat ([]:(List Dq4))) (List.getD a1 s871.1.toNat ([]:(List Dq4)))).bind fun y875 =>
    bif (! y875.1.1) then
     Option.map Sum.inr (some ((false,()),()))
    else
    some (Sum.inl ((iAdd .i64 s871.1 1),()))
   else none
  else none
 else
 Option.map Sum.inr (some ((true,()),()))
def qji (a0:(List (List Dq4))) (a1:(List (List Dq4))):Option Dq7 :=
 bif (! (iEq (lenI a0) (lenI a1))) then some ((false,()),()) else run (qjs a0 a1) ((0:Int),())
def qpr:Entry:=⟨⟨[.v (.list (.list Uq5)),.v (.list (.list Uq5))],[.v (.val (.bool))],false⟩,fun x=>qji x.1 x.2.1⟩
theorem qxv:Sound Tryz.prog G 61 qpr:=qab (envS (l:=[(108,qqs)]) ⟨(qza),trivial⟩) [(4,.vary [(5,.sc (.int .i64))])] Tryz.func61 (by kernel_rfl) rfl fun _=>by kernel_rfl
def ql1 (a0:Dq9) (a1:Dq9):Option Dq7 :=
 (fConv .f32 .f64 a0.1).bind fun y860 =>
 (fConv .f32 .f64 a1.1).bind fun y861 =>
 (qb7 y860 y861).bind fun y862 =>
 bif (! y862.1.1) then some ((false,()),()) else
 (fConv .f32 .f64 a0.2.1).bind fun y864 =>
 (fConv .f32 .f64 a1.2.1).bind fun y865 =>
 (qb7 y864 y865).bind fun y866 =>
 bif (! y866.1.1) then some ((false,()),()) else
 (qji a0.2.2.1 a1.2.2.1).bind fun y868 =>
 bif (! y868.1.1) then some ((false,()),()) else some ((true,()),())
def qrx:Entry:=⟨⟨[.v Uq2,.v Uq2],[.v (.val (.bool))],false⟩,fun x=>ql1 x.1 x.2.1⟩
theorem qaar:Sound Tryz.prog G 29 qrx:=qab (envS (l:=[(60,qgb),(61,qpr)]) ⟨(qju),(qxv),trivial⟩) [] Tryz.func29 (by kernel_rfl) rfl fun _=>by kernel_rfl
def ql3 (a0:(List Dq6)) (a1:Int):Option Dq11 :=
 let x926:=iSub .i64 a1 (lenI a0)
 bif (iLt x926 0) then some ((Lq6,()),()) else some ((x926,()),())
def qrz:Entry:=⟨⟨[.v (.list Uq4),.v (.int .i64)],[.v (.val (.int .i64))],false⟩,fun x=>ql3 x.1 x.2.1⟩
theorem qaav:Sound Tryz.prog G 24 qrz:=qab (envS (l:=[]) trivial) [] Tryz.func24 (by kernel_rfl) rfl fun _=>by kernel_rfl
def qka (a0:(List Dq4)) (a1:Int):Option Dq11 :=
 let x938:=iSub .i64 a1 (lenI a0)
 bif (iLt x938 0) then some ((Lq6,()),()) else some ((x938,()),())
def qqt:Entry:=⟨⟨[.v (.list Uq5),.v (.int .i64)],[.v (.val (.int .i64))],false⟩,fun x=>qka x.1 x.2.1⟩
theorem qzc:Sound Tryz.prog G 106 qqt:=qab (envS (l:=[]) trivial) [] Tryz.func106 (by kernel_rfl) rfl fun _=>by kernel_rfl
def qgc (a0:(List (List Dq4))) (s932:Dq17):Option (Dq17⊕Dq11) :=
 bif (iLt s932.2.1 (lenI a0)) then
  bif inB s932.2.1 (List.length a0) then
   (qka (List.getD a0 s932.2.1.toNat ([]:(List Dq4))) s932.1).bind fun y935 =>
   bif (iLt y935.1.1 0) then
    Option.map Sum.inr (some ((Lq6,()),()))
   else
   some (Sum.inl (y935.1.1,(iAdd .i64 s932.2.1 1),()))
  else none
 else
 Option.map Sum.inr (some ((s932.1,()),()))
def qjj (a0:(List (List Dq4))) (a1:Int):Option Dq11 :=
 let x930:=iSub .i64 a1 (lenI a0)
 bif (iLt x930 0) then some ((Lq6,()),()) else run (qgc a0) (x930,(0:Int),())
def qps:Entry:=⟨⟨[.v (.list (.list Uq5)),.v (.int .i64)],[.v (.val (.int .i64))],false⟩,fun x=>qjj x.1 x.2.1⟩
theorem qxx:Sound Tryz.prog G 56 qps:=qab (envS (l:=[(106,qqt)]) ⟨(qzc),trivial⟩) [(5,.vary [(1,.sc (.int .i64)),(5,.sc (.int .i64))])] Tryz.func56 (by kernel_rfl) rfl fun _=>by kernel_rfl
def ql4 (a0:Dq9) (a1:Int):Option Dq11 :=
 (qjj a0.2.2.1 a1).bind fun y928 =>
 bif (iLt y928.1.1 0) then some ((Lq6,()),()) else some ((y928.1.1,()),())
def qr0:Entry:=⟨⟨[.v Uq2,.v (.int .i64)],[.v (.val (.int .i64))],false⟩,fun x=>ql4 x.1 x.2.1⟩
theorem qaax:Sound Tryz.prog G 23 qr0:=qab (envS (l:=[(56,qps)]) ⟨(qxx),trivial⟩) [] Tryz.func23 (by kernel_rfl) rfl fun _=>by kernel_rfl
def qs2 (a0:Dq6):Option ((Dq6×Unit)×Unit) :=
 some ((((a0.1,a0.2.1,a0.2.2.1,()):Dq6),()),())
def qtl:Entry:=⟨⟨[.v Uq4],[.v (.val Uq4)],false⟩,fun x=>qs2 x.1⟩
theorem qaci:Sound Tryz.prog G 58 qtl:=qab (envS (l:=[]) trivial) [] Tryz.func58 (by kernel_rfl) rfl fun _=>by kernel_rfl
def ql5 (a0:(List Dq6)) (s946:(Int×(List Dq6)×Unit)):Option ((Int×(List Dq6)×Unit)⊕(((List Dq6)×Unit)×Unit)) :=
 bif (iLt s946.1 (lenI a0)) then
  bif inB s946.1 (List.length a0) then
   (qs2 (List.getD a0 s946.1.toNat Lq10)).bind fun y949 =>
   bif inB s946.1 (List.length s946.2.1) then
    some (Sum.inl ((iAdd .i64 s946.1 1),List.set s946.2.1 s946.1.toNat y949.1.1,()))
   else none
  else none
 else
 Option.map Sum.inr (some ((s946.2.1,()),()))
def qgm (a0:(List Dq6)):Option (((List Dq6)×Unit)×Unit) :=
 bif (iLe 0 (lenI a0)&&iLe (lenI a0) (lenI a0)&&room (lenI a0).toNat 24) then run (ql5 a0) ((0:Int),List.replicate (lenI a0).toNat Lq10,()) else none
def qr1:Entry:=⟨⟨[.v (.list Uq4)],[.v (.rows Uq4)],false⟩,fun x=>qgm x.1⟩
theorem qaaz:Sound Tryz.prog G 27 qr1:=qab (envS (l:=[(58,qtl)]) ⟨(qaci),trivial⟩) [(3,.vary [(4,.sc (.int .i64)),(3,.mrows Uq4)])] Tryz.func27 (by kernel_rfl) rfl fun _=>by kernel_rfl
def qus (a0:(Vec 3 Nat)):Option (((Vec 3 Nat)×Unit)×Unit) :=
 some (((((Vec.getD 3 a0 0 (0:Nat)),(Vec.getD 3 a0 1 (0:Nat)),(Vec.getD 3 a0 2 (0:Nat)),()):(Vec 3 Nat)),()),())
def qvc:Entry:=⟨⟨[.v (.arr 3 (.flt .f32))],[.v (.val (.arr 3 (.flt .f32)))],false⟩,fun x=>qus x.1⟩
theorem qaet:Sound Tryz.prog G 172 qvc:=qab (envS (l:=[]) trivial) [(3,.unroll 4)] Tryz.func172 (by kernel_rfl) rfl fun _=>by kernel_rfl
def ql6 (a0:Dq4):Option ((Dq4×Unit)×Unit) :=
 (qus a0.1).bind fun y974 =>
 some ((((y974.1.1,a0.2.1,a0.2.2.1,()):Dq4),()),())
def qr3:Entry:=⟨⟨[.v Uq5],[.v (.val Uq5)],false⟩,fun x=>ql6 x.1⟩
theorem qaa3:Sound Tryz.prog G 146 qr3:=qab (envS (l:=[(172,qvc)]) ⟨(qaet),trivial⟩) [] Tryz.func146 (by kernel_rfl) rfl fun _=>by kernel_rfl
def qkw (a0:(List Dq4)) (s969:(Int×(List Dq4)×Unit)):Option ((Int×(List Dq4)×Unit)⊕(((List Dq4)×Unit)×Unit)) :=
 bif (iLt s969.1 (lenI a0)) then
  bif inB s969.1 (List.length a0) then
   (ql6 (List.getD a0 s969.1.toNat Lq7)).bind fun y972 =>
   bif inB s969.1 (List.length s969.2.1) then
    some (Sum.inl ((iAdd .i64 s969.1 1),List.set s969.2.1 s969.1.toNat y972.1.1,()))
   else none
  else none
 else
 Option.map Sum.inr (some ((s969.2.1,()),()))
def qkb (a0:(List Dq4)):Option (((List Dq4)×Unit)×Unit) :=
 bif (iLe 0 (lenI a0)&&iLe (lenI a0) (lenI a0)&&room (lenI a0).toNat 24) then run (qkw a0) ((0:Int),List.replicate (lenI a0).toNat Lq7,()) else none
def qqu:Entry:=⟨⟨[.v (.list Uq5)],[.v (.rows Uq5)],false⟩,fun x=>qkb x.1⟩
theorem qze:Sound Tryz.prog G 107 qqu:=qab (envS (l:=[(146,qr3)]) ⟨(qaa3),trivial⟩) [(3,.vary [(4,.sc (.int .i64)),(3,.mrows Uq5)])] Tryz.func107 (by kernel_rfl) rfl fun _=>by kernel_rfl
def qjv (a0:(List (List Dq4))) (s958:(Int×(List (List Dq4))×Unit)):Option ((Int×(List (List Dq4))×Unit)⊕(((List (List Dq4))×Unit)×Unit)) :=
 bif (iLt s958.1 (lenI a0)) then
  bif inB s958.1 (List.length a0) then
   (qkb (List.getD a0 s958.1.toNat ([]:(List Dq4)))).bind fun y961 =>
   bif inB s958.1 (List.length s958.2.1) then
    some (Sum.inl ((iAdd .i64 s958.1 1),List.set s958.2.1 s958.1.toNat y961.1.1,()))
   else none
  else none
 else
 Option.map Sum.inr (some ((s958.2.1,()),()))
def qjk (a0:(List (List Dq4))):Option (((List (List Dq4))×Unit)×Unit) :=
 bif (iLe 0 (lenI a0)&&iLe (lenI a0) (lenI a0)&&room (lenI a0).toNat 24) then run (qjv a0) ((0:Int),List.replicate (lenI a0).toNat ([]:(List Dq4)),()) else none
def qpt:Entry:=⟨⟨[.v (.list (.list Uq5))],[.v (.rows (.list Uq5))],true⟩,fun x=>qjk x.1⟩
theorem qxz:Sound Tryz.prog G 57 qpt:=qab (envS (l:=[(107,qqu)]) ⟨(qze),trivial⟩) [(3,.vary [(4,.sc (.int .i64)),(3,.mrows (.list Uq5))])] Tryz.func57 (by kernel_rfl) rfl fun _=>by kernel_rfl
def qgn (a0:Dq9):Option ((Dq9×Unit)×Unit) :=
 (qjk a0.2.2.1).bind fun y951 =>
 some ((((a0.1,a0.2.1,y951.1.1,()):Dq9),()),())
def qr2:Entry:=⟨⟨[.v Uq2],[.v (.pair (.val (.flt .f32)) (.pair (.val (.flt .f32)) (.pair (.rows (.list Uq5)) (.val (.unit)))))],true⟩,fun x=>qgn x.1⟩
theorem qaa1:Sound Tryz.prog G 26 qr2:=qab (envS (l:=[(57,qpt)]) ⟨(qxz),trivial⟩) [] Tryz.func26 (by kernel_rfl) rfl fun _=>by kernel_rfl
def qbx (a0:Int) (a1:Int) (a2:Int):Option Dq7 :=
 bif (iLe a1 a0) then
  some (((iLe a0 a2),()),())
 else some ((false,()),())
def qd5:Entry:=⟨⟨[.v (.int .i64),.v (.int .i64),.v (.int .i64)],[.v (.val (.bool))],false⟩,fun x=>qbx x.1 x.2.1 x.2.2.1⟩
theorem qfc:Sound Tryz.prog G 112 qd5:=qab (envS (l:=[]) trivial) [] Tryz.func112 (by kernel_rfl) rfl fun _=>by kernel_rfl
def qmw (a0:Dq6):Option Dq7 :=
 (qbx a0.1 (1:Int) (7:Int)).bind fun y998 =>
 bif (! y998.1.1) then some ((false,()),()) else
 (qbx a0.2.1 (0:Int) (999:Int)).bind fun y1000 =>
 bif (! y1000.1.1) then some ((false,()),()) else
 (qbx a0.2.2.1 (0:Int) (999:Int)).bind fun y1002 =>
 bif (! y1002.1.1) then some ((false,()),()) else
 bif (iEq a0.1 2) then some ((true,()),()) else
 some (((iEq a0.2.2.1 0),()),())
def qsv:Entry:=⟨⟨[.v Uq4],[.v (.val (.bool))],false⟩,fun x=>qmw x.1⟩
theorem qab4:Sound Tryz.prog G 71 qsv:=qab (envS (l:=[(112,qd5)]) ⟨(qfc),trivial⟩) [] Tryz.func71 (by kernel_rfl) rfl fun _=>by kernel_rfl
def qbt (a0:Nat):Option Dq7 :=
 some (((fEq .f32 (fSub .f32 a0 a0) 0),()),())
def qda:Entry:=⟨⟨[.v (.flt .f32)],[.v (.val (.bool))],false⟩,fun x=>qbt x.1⟩
theorem qd9:Sound Tryz.prog G 153 qda:=qab (envS (l:=[]) trivial) [] Tryz.func153 (by kernel_rfl) rfl fun _=>by kernel_rfl
def qj6 (a0:(Vec 3 Nat)):Option Dq7 :=
 (qbt (Vec.getD 3 a0 0 (0:Nat))).bind fun y1062 =>
 bif y1062.1.1 then
  (qbt (Vec.getD 3 a0 1 (0:Nat))).bind fun y1064 =>
  bif y1064.1.1 then
   (qbt (Vec.getD 3 a0 2 (0:Nat))).bind fun y1066 =>
   some ((y1066.1.1,()),())
  else some ((false,()),())
 else some ((false,()),())
def qn1:Entry:=⟨⟨[.v (.arr 3 (.flt .f32))],[.v (.val (.bool))],false⟩,fun x=>qj6 x.1⟩
theorem qt0:Sound Tryz.prog G 186 qn1:=qab (envS (l:=[(153,qda)]) ⟨(qd9),trivial⟩) [] Tryz.func186 (by kernel_rfl) rfl fun _=>by kernel_rfl
def qgs (a0:Nat):Option Dq7 :=
 (qbt a0).bind fun y1069 =>
 bif y1069.1.1 then
  some (((fLt .f32 0 a0),()),())
 else some ((false,()),())
def qig:Entry:=⟨⟨[.v (.flt .f32)],[.v (.val (.bool))],false⟩,fun x=>qgs x.1⟩
theorem qmt:Sound Tryz.prog G 116 qig:=qab (envS (l:=[(153,qda)]) ⟨(qd9),trivial⟩) [] Tryz.func116 (by kernel_rfl) rfl fun _=>by kernel_rfl
def qc6 (a0:Nat) (a1:(Vec 3 Nat)):Option Dq21 :=
 (qgs a0).bind fun y1033 =>
 bif (! y1033.1.1) then some ((Lq2,(2:Int),()),()) else
 (qj6 a1).bind fun y1035 =>
 bif (! y1035.1.1) then some ((Lq2,(2:Int),()),()) else
 (fConv .f32 .f64 (fDiv .f32 (Vec.getD 3 a1 0 (0:Nat)) a0)).bind fun y1039 =>
 (qfo y1039).bind fun y1040 =>
 bif (fLe .f64 13920209183539462144 y1040.1.1) then
  bif (! (fLe .f64 y1040.1.1 4696837146684686336)) then some ((Lq2,(3:Int),()),()) else
  (fToInt .f64 y1040.1.1 .i32).bind fun n1044 =>
  (fConv .f32 .f64 (fDiv .f32 (Vec.getD 3 a1 1 (0:Nat)) a0)).bind fun y1047 =>
  (qfo y1047).bind fun y1048 =>
  bif (fLe .f64 13920209183539462144 y1048.1.1) then
   bif (! (fLe .f64 y1048.1.1 4696837146684686336)) then some ((Lq2,(3:Int),()),()) else
   (fToInt .f64 y1048.1.1 .i32).bind fun n1052 =>
   (fConv .f32 .f64 (fDiv .f32 (Vec.getD 3 a1 2 (0:Nat)) a0)).bind fun y1055 =>
   (qfo y1055).bind fun y1056 =>
   bif (fLe .f64 13920209183539462144 y1056.1.1) then
    bif (! (fLe .f64 y1056.1.1 4696837146684686336)) then some ((Lq2,(3:Int),()),()) else
    (fToInt .f64 y1056.1.1 .i32).bind fun n1060 =>
    some ((((n1044,n1052,n1060,()):(Vec 3 Int)),(0:Int),()),())
   else some ((Lq2,(3:Int),()),())
  else some ((Lq2,(3:Int),()),())
 else some ((Lq2,(3:Int),()),())
def qie:Entry:=⟨⟨[.v (.flt .f32),.v (.arr 3 (.flt .f32))],[.v (.val (.arr 3 (.int .i32))),.v (.val (.int .i64))],false⟩,fun x=>qc6 x.1 x.2.1⟩
theorem qmm:Sound Tryz.prog G 154 qie:=qab (envS (l:=[(99,qpb),(116,qig),(186,qn1)]) ⟨(qvf),(qmt),(qt0),trivial⟩) [(5,.unroll 4)] Tryz.func154 (by kernel_rfl) rfl fun _=>by kernel_rfl
def qoh (a0:Nat) (a1:(Vec 3 Nat)):Option Dq21 :=
 (qc6 a0 a1).bind fun y1032 =>
 some ((y1032.1.1,y1032.1.2.1,()),())
def qtt:Entry:=⟨⟨[.v (.flt .f32),.v (.arr 3 (.flt .f32))],[.v (.val (.arr 3 (.int .i32))),.v (.val (.int .i64))],false⟩,fun x=>qoh x.1 x.2.1⟩
theorem qacq:Sound Tryz.prog G 118 qtt:=qab (envS (l:=[(154,qie)]) ⟨(qmm),trivial⟩) [] Tryz.func118 (by kernel_rfl) rfl fun _=>by kernel_rfl
def qkc (a0:Nat):Option Dq7 :=
 bif (fLe .f32 0 a0) then
  (qbt a0).bind fun y1072 =>
  some ((y1072.1.1,()),())
 else some ((false,()),())
def qq3:Entry:=⟨⟨[.v (.flt .f32)],[.v (.val (.bool))],false⟩,fun x=>qkc x.1⟩
theorem qzk:Sound Tryz.prog G 117 qq3:=qab (envS (l:=[(153,qda)]) ⟨(qd9),trivial⟩) [] Tryz.func117 (by kernel_rfl) rfl fun _=>by kernel_rfl
def qgq (a0:Int):Option Dq7 :=
 (qbx a0 (0:Int) (1000000000:Int)).bind fun y1073 =>
 some ((y1073.1.1,()),())
def qid:Entry:=⟨⟨[.v (.int .i64)],[.v (.val (.bool))],false⟩,fun x=>qgq x.1⟩
theorem qmk:Sound Tryz.prog G 119 qid:=qab (envS (l:=[(112,qd5)]) ⟨(qfc),trivial⟩) [] Tryz.func119 (by kernel_rfl) rfl fun _=>by kernel_rfl
def qki (s1014:(Int×Unit)) (a0:Dq9) (s1018:(Int×Unit)):Option ((Int×Unit)⊕((Int×Unit)⊕Dq7)) :=
 bif inB s1014.1 (List.length a0.2.2.1) then
  bif (iLt s1018.1 (lenI (List.getD a0.2.2.1 s1014.1.toNat ([]:(List Dq4))))) then
   bif inB s1014.1 (List.length a0.2.2.1) then
    let x1021:=List.getD a0.2.2.1 s1014.1.toNat ([]:(List Dq4))
    bif inB s1018.1 (List.length x1021) then
     let x1022:=List.getD x1021 s1018.1.toNat Lq7
     (qoh a0.1 x1022.1).bind fun y1023 =>
     bif (! (iEq y1023.1.2.1 0)) then
      Option.map Sum.inr (Option.map Sum.inr (some ((false,()),())))
     else
     bif (fLt .f32 0 x1022.2.1) then
      bif (! (fLe .f32 x1022.2.1 1232348160)) then
       Option.map Sum.inr (Option.map Sum.inr (some ((false,()),())))
      else
      (qgq x1022.2.2.1).bind fun y1028 =>
      bif (! y1028.1.1) then
       Option.map Sum.inr (Option.map Sum.inr (some ((false,()),())))
      else
      some (Sum.inl ((iAdd .i64 s1018.1 1),()))
     else
     Option.map Sum.inr (Option.map Sum.inr (some ((false,()),())))
    else none
   else none
  else
  Option.map Sum.inr (some (Sum.inl ((iAdd .i64 s1014.1 1),())))
 else none
def qkh (a0:Dq9) (s1014:(Int×Unit)):Option ((Int×Unit)⊕Dq7) :=
 bif (iLt s1014.1 (lenI a0.2.2.1)) then
  bif inB s1014.1 (List.length a0.2.2.1) then
   bif (iLt 16 (lenI (List.getD a0.2.2.1 s1014.1.toNat ([]:(List Dq4))))) then
    Option.map Sum.inr (some ((false,()),()))
   else run (qki s1014 a0) ((0:Int),())
  else none
 else
 Option.map Sum.inr (some ((true,()),()))
def qqd (a0:Dq9):Option Dq7 :=
 (qgs a0.1).bind fun y1008 =>
 bif (! y1008.1.1) then some ((false,()),()) else
 (qkc a0.2.1).bind fun y1010 =>
 bif (! y1010.1.1) then some ((false,()),()) else
 (qbx (lenI a0.2.2.1) (1:Int) (4:Int)).bind fun y1012 =>
 bif (! y1012.1.1) then some ((false,()),()) else run (qkh a0) ((0:Int),())
def qvk:Entry:=⟨⟨[.ro Uq2],[.v (.val (.bool))],false⟩,fun x=>qqd x.1⟩
theorem qaez:Sound Tryz.prog G 78 qvk:=qab (envS (l:=[(112,qd5),(116,qig),(117,qq3),(118,qtt),(119,qid)]) ⟨(qfc),(qmt),(qzk),(qacq),(qmk),trivial⟩) [(4,.vary [(3,.sc (.int .i64))]),(9,.vary [(4,.sc (.int .i64))])] Tryz.func78 (by kernel_rfl) rfl fun _=>by kernel_rfl
def qe3 (a1:(List Dq6)) (s991:(Int×Unit)):Option ((Int×Unit)⊕Dq11) :=
 bif (iLt s991.1 (lenI a1)) then
  bif inB s991.1 (List.length a1) then
   (qmw (List.getD a1 s991.1.toNat Lq10)).bind fun y994 =>
   bif (! y994.1.1) then
    Option.map Sum.inr (some (((1:Int),()),()))
   else
   some (Sum.inl ((iAdd .i64 s991.1 1),()))
  else none
 else
 Option.map Sum.inr (bif (iLt 200 (lenI a1)) then some (((2:Int),()),()) else some (((0:Int),()),()))
def qkg (a0:Dq9) (a1:(List Dq6)):Option Dq11 :=
 (qqd a0).bind fun y989 =>
 bif (! y989.1.1) then some (((1:Int),()),()) else run (qe3 a1) ((0:Int),())
def qq6:Entry:=⟨⟨[.ro Uq2,.v (.list Uq4)],[.v (.val (.int .i64))],false⟩,fun x=>qkg x.1 x.2.1⟩
theorem qzn:Sound Tryz.prog G 43 qq6:=qab (envS (l:=[(71,qsv),(78,qvk)]) ⟨(qab4),(qaez),trivial⟩) [(4,.vary [(5,.sc (.int .i64))])] Tryz.func43 (by kernel_rfl) rfl fun _=>by kernel_rfl
def qft (a0:(Vec 3 Int)) (a1:(Vec 3 Int)):Option Dq11 :=
 bif (iLt (Vec.getD 3 a0 0 (0:Int)) (Vec.getD 3 a1 0 (0:Int))) then some ((Lq6,()),()) else
 bif (iLt (Vec.getD 3 a1 0 (0:Int)) (Vec.getD 3 a0 0 (0:Int))) then some (((1:Int),()),()) else
 bif (iLt (Vec.getD 3 a0 1 (0:Int)) (Vec.getD 3 a1 1 (0:Int))) then some ((Lq6,()),()) else
 bif (iLt (Vec.getD 3 a1 1 (0:Int)) (Vec.getD 3 a0 1 (0:Int))) then some (((1:Int),()),()) else
 bif (iLt (Vec.getD 3 a0 2 (0:Int)) (Vec.getD 3 a1 2 (0:Int))) then some ((Lq6,()),()) else
 bif (iLt (Vec.getD 3 a1 2 (0:Int)) (Vec.getD 3 a0 2 (0:Int))) then some (((1:Int),()),()) else some (((0:Int),()),())
def qi0:Entry:=⟨⟨[.v (.arr 3 (.int .i32)),.v (.arr 3 (.int .i32))],[.v (.val (.int .i64))],false⟩,fun x=>qft x.1 x.2.1⟩
theorem qo1:Sound Tryz.prog G 191 qi0:=qab (envS (l:=[]) trivial) [(2,.unroll 4)] Tryz.func191 (by kernel_rfl) rfl fun _=>by kernel_rfl
def qmo (a0:Dq2):Option Dq7 :=
 (qj6 a0.2.1).bind fun y1175 =>
 bif y1175.1.1 then
  (qbt a0.2.2.1).bind fun y1176 =>
  bif y1176.1.1 then
   bif (fLt .f32 0 a0.2.2.1) then
    (qbx a0.2.2.2.1 (1:Int) (1000000:Int)).bind fun y1178 =>
    bif y1178.1.1 then
     (qgq a0.2.2.2.2.1).bind fun y1179 =>
     some ((y1179.1.1,()),())
    else some ((false,()),())
   else some ((false,()),())
  else some ((false,()),())
 else some ((false,()),())
def qso:Entry:=⟨⟨[.ro Uq1],[.v (.val (.bool))],false⟩,fun x=>qmo x.1⟩
theorem qabx:Sound Tryz.prog G 190 qso:=qab (envS (l:=[(112,qd5),(119,qid),(153,qda),(186,qn1)]) ⟨(qfc),(qmk),(qd9),(qt0),trivial⟩) [] Tryz.func190 (by kernel_rfl) rfl fun _=>by kernel_rfl
def qkd (a0:Dq3) (s1145:(Int×Unit)):Option ((Int×Unit)⊕Dq7) :=
 bif (iLt s1145.1 (lenI a0.2.1)) then
  bif inB s1145.1 (List.length a0.2.1) then
   (qmo (List.getD a0.2.1 s1145.1.toNat Lq1)).bind fun y1147 =>
   bif (! y1147.1.1) then
    Option.map Sum.inr (some ((false,()),()))
   else
   bif (iLt 0 s1145.1) then
    let x1150:=iSub .i64 s1145.1 1
    bif inB x1150 (List.length a0.2.1) then
     bif inB s1145.1 (List.length a0.2.1) then
      (qft ((List.getD a0.2.1 x1150.toNat Lq1).1) ((List.getD a0.2.1 s1145.1.toNat Lq1).1)).bind fun y1153 =>
      bif (iLe 0 y1153.1.1) then
       Option.map Sum.inr (some ((false,()),()))
      else
      some (Sum.inl ((iAdd .i64 s1145.1 1),()))
     else none
    else none
   else
   some (Sum.inl ((iAdd .i64 s1145.1 1),()))
  else none
 else
 Option.map Sum.inr (some ((true,()),()))
def qed (a0:Dq3):Option Dq7 :=
 (qgs a0.1).bind fun y1142 =>
 bif (! y1142.1.1) then some ((false,()),()) else
 bif (iLt 200 (lenI a0.2.1)) then some ((false,()),()) else run (qkd a0) ((0:Int),())
def qht:Entry:=⟨⟨[.ro Uq6],[.v (.val (.bool))],false⟩,fun x=>qed x.1⟩
theorem qke:Sound Tryz.prog G 157 qht:=qab (envS (l:=[(116,qig),(190,qso),(191,qi0)]) ⟨(qmt),(qabx),(qo1),trivial⟩) [(4,.vary [(3,.sc (.int .i64))])] Tryz.func157 (by kernel_rfl) rfl fun _=>by kernel_rfl
def qj3 (a0:Int) (a1:Int):Option Dq11 :=
 bif (iLt a1 a0) then some ((a0,()),()) else some ((a1,()),())
def qtu:Entry:=⟨⟨[.v (.int .i64),.v (.int .i64)],[.v (.val (.int .i64))],false⟩,fun x=>qj3 x.1 x.2.1⟩
theorem qacs:Sound Tryz.prog G 88 qtu:=qab (envS (l:=[]) trivial) [] Tryz.func88 (by kernel_rfl) rfl fun _=>by kernel_rfl
def qj4 (a0:Int) (a1:Int):Option Dq11 :=
 bif (iLt a0 a1) then some ((a0,()),()) else some ((a1,()),())
def qtv:Entry:=⟨⟨[.v (.int .i64),.v (.int .i64)],[.v (.val (.int .i64))],false⟩,fun x=>qj4 x.1 x.2.1⟩
theorem qacu:Sound Tryz.prog G 227 qtv:=qab (envS (l:=[]) trivial) [] Tryz.func227 (by kernel_rfl) rfl fun _=>by kernel_rfl
end
end Go.Proofs.YtjhdoneobdbeaaaGreatDoor
