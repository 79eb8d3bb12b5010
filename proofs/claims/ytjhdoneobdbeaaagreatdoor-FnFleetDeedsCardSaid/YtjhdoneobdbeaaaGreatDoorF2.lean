import Derived.Test.YtjhdoneobdbeaaaGreatDoorF1
/- Functions on typed data: what the evaluation of each Go function is, and that it is sound. -/
set_option linter.unusedVariables false
namespace Go.Proofs.YtjhdoneobdbeaaaGreatDoor
open Go Go.Tm
noncomputable section
set_option maxRecDepth 100000
variable {G : List (Nat × Obj)}
def qe1 (a0:Int) (a1:Int):Option (Dq10×Unit) :=
 bif (iEq a1 10) then
  bif (iLt a0 100) then
   none
  else none
 else
 (qcz ([]:(List Int)) a0 a1 false false).bind fun y636 =>
 some ((y636.1.2.1,()),())
def qhb:Entry:=⟨⟨[.v (.int .u64),.v (.int .i64)],[.v (.val (.str))],false⟩,fun x=>qe1 x.1 x.2.1⟩
theorem qnt (db:GDeb Tryz.prog G):Sound Tryz.prog G 200 qhb:=qab (envS (l:=[(185,qhc)]) ⟨(qnu db),trivial⟩) [] Tryz.func200 (by kernel_rfl) rfl fun _=>by kernel_rfl
def qhr (a0:Int) (a1:Int):Option (Dq10×Unit) :=
 (qe1 a0 a1).bind fun y632 =>
 some ((y632.1.1,()),())
def qnc:Entry:=⟨⟨[.v (.int .u64),.v (.int .i64)],[.v (.val (.str))],false⟩,fun x=>qhr x.1 x.2.1⟩
theorem qwb (db:GDeb Tryz.prog G):Sound Tryz.prog G 162 qnc:=qab (envS (l:=[(200,qhb)]) ⟨(qnt db),trivial⟩) [] Tryz.func162 (by kernel_rfl) rfl fun _=>by kernel_rfl
def qev (s629:Dq10):Option (Dq10⊕(Dq10×Unit)) :=
 bif (iLt (lenI s629.1) 8) then
  bif strRoom ([48]) s629.1 then
   some (Sum.inl ((strCat ([48]) s629.1),()))
  else none
 else
 Option.map Sum.inr (some ((s629.1,()),()))
def qdt (a0:Nat):Option (Dq10×Unit) :=
 (qk8 a0).bind fun y624 =>
 bif y624.1.1 then some ((([55,102,99,48,48,48,48,48]:List UInt8),()),()) else
 allSame fun (q625:Nat) =>
 (qhr (iWrap .u64 (bitsF .f32 a0 q625)) (16:Int)).bind fun y628 =>
 run (qev) (y628.1.1,())
def qg2:Entry:=⟨⟨[.v (.flt .f32)],[.v (.val (.str))],false⟩,fun x=>qdt x.1⟩
theorem qkk (db:GDeb Tryz.prog G):Sound Tryz.prog G 128 qg2:=qab (envS (l:=[(161,qq1),(162,qnc)]) ⟨(qxe),(qwb db),trivial⟩) [(4,.vary [(3,.sc (.str))])] Tryz.func128 (by kernel_rfl) rfl fun _=>by kernel_rfl
theorem qlg:Sound Tryz.prog G 249 qee:=qq2 Tryz.func249 (by kernel_rfl) (by kernel_rfl) (by kernel_rfl) (by kernel_rfl)
theorem qw9 (sy:GErr 1 G) (ra:GErr 2 G):Sound Tryz.prog G 273 qjj:=qact Tryz.func273 (by kernel_rfl) (by kernel_rfl) sy ra Tryz.hex_call
def qj2 (a0:List UInt8):Option ((Nat×Int×Unit)×Unit) :=
 (qcy a0 (16:Int) (32:Int)).bind fun y618 =>
 (qbn (iWrap .u32 y618.1.1)).bind fun y620 =>
 bif (! y618.1.2.1) then some (((0:Nat),(5:Int),()),()) else
 (qdt y620.1.1).bind fun y622 =>
 bif (! (sEq y622.1.1 a0)) then some (((0:Nat),(5:Int),()),()) else some ((y620.1.1,(0:Int),()),())
def qql:Entry:=⟨⟨[.v (.str)],[.v (.val (.flt .f32)),.v (.val (.int .i64))],false⟩,fun x=>qj2 x.1⟩
theorem qyo (sy:GErr 1 G) (ra:GErr 2 G) (db:GDeb Tryz.prog G):Sound Tryz.prog G 263 qql:=qab (envS (l:=[(128,qg2),(249,qee),(273,qjj)]) ⟨(qkk db),(qlg),(qw9 sy ra),trivial⟩) [] Tryz.func263 (by kernel_rfl) rfl fun _=>by kernel_rfl
def qan (a0:Dq4):Option ((Nat×Unit)×(Dq4×Unit)) :=
 (qbm ((a0.1,a0.2):Dq4)).bind fun y615 =>
 (qj2 y615.1.1).bind fun y616 =>
 bif y615.2.1.2.1 then some ((y616.1.1,()),(((y615.2.1.1,true,y615.2.1.2.2):Dq4),())) else
 some ((y616.1.1,()),(((y615.2.1.1,(! (iEq y616.1.2.1 0)),y615.2.1.2.2):Dq4),()))
def qfn:Entry:=⟨⟨[.io (.pair (.rows (.str)) (.val Uq10))],[.v (.val (.flt .f32))],false⟩,fun x=>qan x.1⟩
theorem qj3 (sy:GErr 1 G) (ra:GErr 2 G) (db:GDeb Tryz.prog G):Sound Tryz.prog G 237 qfn:=qab (envS (l:=[(67,qcu),(263,qql)]) ⟨(qed),(qyo sy ra db),trivial⟩) [] Tryz.func237 (by kernel_rfl) rfl fun _=>by kernel_rfl
def qaz (a0:Dq4):Option (((Vec 3 Nat)×Unit)×(Dq4×Unit)) :=
 (qan ((a0.1,a0.2):Dq4)).bind fun y732 =>
 (qan ((y732.2.1.1,y732.2.1.2):Dq4)).bind fun y733 =>
 (qan ((y733.2.1.1,y733.2.1.2):Dq4)).bind fun y734 =>
 some ((((y732.1.1,y733.1.1,y734.1.1,()):(Vec 3 Nat)),()),(((y734.2.1.1,y734.2.1.2):Dq4),()))
def qko:Entry:=⟨⟨[.io (.pair (.rows (.str)) (.val Uq10))],[.v (.val (.arr 3 (.flt .f32)))],false⟩,fun x=>qaz x.1⟩
theorem qsn (sy:GErr 1 G) (ra:GErr 2 G) (db:GDeb Tryz.prog G):Sound Tryz.prog G 238 qko:=qab (envS (l:=[(237,qfn)]) ⟨(qj3 sy ra db),trivial⟩) [(3,.unroll 4)] Tryz.func238 (by kernel_rfl) rfl fun _=>by kernel_rfl
def qby (a0:List UInt8):Option ((Dq4×Unit)×Unit) :=
 (strings_Split a0 ([32]:List UInt8)).bind fun y735 =>
 some ((((y735.1.1,false,()):Dq4),()),())
def qja:Entry:=⟨⟨[.v (.str)],[.p (.pair (.rows (.str)) (.val Uq10))],false⟩,fun x=>qby x.1⟩
theorem qmp (mx:GMax 4 G):Sound Tryz.prog G 64 qja:=qab (envS (l:=[(109,qdd)]) ⟨(qgq mx),trivial⟩) [] Tryz.func64 (by kernel_rfl) rfl fun _=>by kernel_rfl
def qg8 (x481:(List (List UInt8))) (s499:(Int×Dq3×Unit)):Option ((Int×Dq3×Unit)⊕((Dq3×Bool×Unit)×Unit)) :=
 bif (iLt s499.1 (lenI x481)) then
  bif inB s499.1 (List.length x481) then
   (qby (List.getD x481 s499.1.toNat ([]:List UInt8))).bind fun y502 =>
   (qac ((y502.1.1.1,y502.1.1.2):Dq4)).bind fun y503 =>
   bif y503.2.1.2.1 then
    let x504:=iWrap .i32 y503.1.1
    (qac ((y503.2.1.1,true,y503.2.1.2.2):Dq4)).bind fun y505 =>
    bif y505.2.1.2.1 then
     let x506:=iWrap .i32 y505.1.1
     (qac ((y505.2.1.1,true,y505.2.1.2.2):Dq4)).bind fun y507 =>
     bif y507.2.1.2.1 then
      (qaz ((y507.2.1.1,true,y507.2.1.2.2):Dq4)).bind fun y509 =>
      (qan ((y509.2.1.1,y509.2.1.2):Dq4)).bind fun y510 =>
      (qac ((y510.2.1.1,y510.2.1.2):Dq4)).bind fun y511 =>
      (qac ((y511.2.1.1,y511.2.1.2):Dq4)).bind fun y512 =>
      (qam ((y512.2.1.1,y512.2.1.2):Dq4)).bind fun y513 =>
      bif (! y513.1.1) then
       Option.map Sum.inr (some ((Lq4,false,()),()))
      else
      bif room (List.length s499.2.1.2.1+1) 48 then
       some (Sum.inl ((iAdd .i64 s499.1 1),((s499.2.1.1,(s499.2.1.2.1++([((x504,x506,(iWrap .i32 y507.1.1),()),y509.1.1,y510.1.1,y511.1.1,y512.1.1,())]:(List Dq2))),s499.2.1.2.2):Dq3),()))
      else none
     else
     (qa5 y507.1.1 Lq9 (2147483647:Int)).bind fun y517 =>
     (qaz ((y507.2.1.1,(! y517.1.1),y507.2.1.2.2):Dq4)).bind fun y520 =>
     (qan ((y520.2.1.1,y520.2.1.2):Dq4)).bind fun y521 =>
     (qac ((y521.2.1.1,y521.2.1.2):Dq4)).bind fun y522 =>
     (qac ((y522.2.1.1,y522.2.1.2):Dq4)).bind fun y523 =>
     (qam ((y523.2.1.1,y523.2.1.2):Dq4)).bind fun y524 =>
     bif (! y524.1.1) then
      Option.map Sum.inr (some ((Lq4,false,()),()))
     else
     bif room (List.length s499.2.1.2.1+1) 48 then
      some (Sum.inl ((iAdd .i64 s499.1 1),((s499.2.1.1,(s499.2.1.2.1++([((x504,x506,(iWrap .i32 y507.1.1),()),y520.1.1,y521.1.1,y522.1.1,y523.1.1,())]:(List Dq2))),s499.2.1.2.2):Dq3),()))
     else none
    else
    (qa5 y505.1.1 Lq9 (2147483647:Int)).bind fun y528 =>
    let x530:=iWrap .i32 y505.1.1
    (qac ((y505.2.1.1,(! y528.1.1),y505.2.1.2.2):Dq4)).bind fun y531 =>
    bif y531.2.1.2.1 then
     (qaz ((y531.2.1.1,true,y531.2.1.2.2):Dq4)).bind fun y533 =>
     (qan ((y533.2.1.1,y533.2.1.2):Dq4)).bind fun y534 =>
     (qac ((y534.2.1.1,y534.2.1.2):Dq4)).bind fun y535 =>
     (qac ((y535.2.1.1,y535.2.1.2):Dq4)).bind fun y536 =>
     (qam ((y536.2.1.1,y536.2.1.2):Dq4)).bind fun y537 =>
     bif (! y537.1.1) then
      Option.map Sum.inr (some ((Lq4,false,()),()))
     else
     bif room (List.length s499.2.1.2.1+1) 48 then
      some (Sum.inl ((iAdd .i64 s499.1 1),((s499.2.1.1,(s499.2.1.2.1++([((x504,x530,(iWrap .i32 y531.1.1),()),y533.1.1,y534.1.1,y535.1.1,y536.1.1,())]:(List Dq2))),s499.2.1.2.2):Dq3),()))
     else none
    else
    (qa5 y531.1.1 Lq9 (2147483647:Int)).bind fun y541 =>
    (qaz ((y531.2.1.1,(! y541.1.1),y531.2.1.2.2):Dq4)).bind fun y544 =>
    (qan ((y544.2.1.1,y544.2.1.2):Dq4)).bind fun y545 =>
    (qac ((y545.2.1.1,y545.2.1.2):Dq4)).bind fun y546 =>
    (qac ((y546.2.1.1,y546.2.1.2):Dq4)).bind fun y547 =>
    (qam ((y547.2.1.1,y547.2.1.2):Dq4)).bind fun y548 =>
    bif (! y548.1.1) then
     Option.map Sum.inr (some ((Lq4,false,()),()))
    else
    bif room (List.length s499.2.1.2.1+1) 48 then
     some (Sum.inl ((iAdd .i64 s499.1 1),((s499.2.1.1,(s499.2.1.2.1++([((x504,x530,(iWrap .i32 y531.1.1),()),y544.1.1,y545.1.1,y546.1.1,y547.1.1,())]:(List Dq2))),s499.2.1.2.2):Dq3),()))
    else none
   else
   (qa5 y503.1.1 Lq9 (2147483647:Int)).bind fun y552 =>
   let x554:=iWrap .i32 y503.1.1
   (qac ((y503.2.1.1,(! y552.1.1),y503.2.1.2.2):Dq4)).bind fun y555 =>
   bif y555.2.1.2.1 then
    let x556:=iWrap .i32 y555.1.1
    (qac ((y555.2.1.1,true,y555.2.1.2.2):Dq4)).bind fun y557 =>
    bif y557.2.1.2.1 then
     (qaz ((y557.2.1.1,true,y557.2.1.2.2):Dq4)).bind fun y559 =>
     (qan ((y559.2.1.1,y559.2.1.2):Dq4)).bind fun y560 =>
     (qac ((y560.2.1.1,y560.2.1.2):Dq4)).bind fun y561 =>
     (qac ((y561.2.1.1,y561.2.1.2):Dq4)).bind fun y562 =>
     (qam ((y562.2.1.1,y562.2.1.2):Dq4)).bind fun y563 =>
     bif (! y563.1.1) then
      Option.map Sum.inr (some ((Lq4,false,()),()))
     else
     bif room (List.length s499.2.1.2.1+1) 48 then
      some (Sum.inl ((iAdd .i64 s499.1 1),((s499.2.1.1,(s499.2.1.2.1++([((x554,x556,(iWrap .i32 y557.1.1),()),y559.1.1,y560.1.1,y561.1.1,y562.1.1,())]:(List Dq2))),s499.2.1.2.2):Dq3),()))
     else none
    else
    (qa5 y557.1.1 Lq9 (2147483647:Int)).bind fun y567 =>
    (qaz ((y557.2.1.1,(! y567.1.1),y557.2.1.2.2):Dq4)).bind fun y570 =>
    (qan ((y570.2.1.1,y570.2.1.2):Dq4)).bind fun y571 =>
    (qac ((y571.2.1.1,y571.2.1.2):Dq4)).bind fun y572 =>
    (qac ((y572.2.1.1,y572.2.1.2):Dq4)).bind fun y573 =>
    (qam ((y573.2.1.1,y573.2.1.2):Dq4)).bind fun y574 =>
    bif (! y574.1.1) then
     Option.map Sum.inr (some ((Lq4,false,()),()))
    else
    bif room (List.length s499.2.1.2.1+1) 48 then
     some (Sum.inl ((iAdd .i64 s499.1 1),((s499.2.1.1,(s499.2.1.2.1++([((x554,x556,(iWrap .i32 y557.1.1),()),y570.1.1,y571.1.1,y572.1.1,y573.1.1,())]:(List Dq2))),s499.2.1.2.2):Dq3),()))
    else none
   else
   (qa5 y555.1.1 Lq9 (2147483647:Int)).bind fun y578 =>
   let x580:=iWrap .i32 y555.1.1
   (qac ((y555.2.1.1,(! y578.1.1),y555.2.1.2.2):Dq4)).bind fun y581 =>
   bif y581.2.1.2.1 then
    (qaz ((y581.2.1.1,true,y581.2.1.2.2):Dq4)).bind fun y583 =>
    (qan ((y583.2.1.1,y583.2.1.2):Dq4)).bind fun y584 =>
    (qac ((y584.2.1.1,y584.2.1.2):Dq4)).bind fun y585 =>
    (qac ((y585.2.1.1,y585.2.1.2):Dq4)).bind fun y586 =>
    (qam ((y586.2.1.1,y586.2.1.2):Dq4)).bind fun y587 =>
    bif (! y587.1.1) then
     Option.map Sum.inr (some ((Lq4,false,()),()))
    else
    bif room (List.length s499.2.1.2.1+1) 48 then
     some (Sum.inl ((iAdd .i64 s499.1 1),((s499.2.1.1,(s499.2.1.2.1++([((x554,x580,(iWrap .i32 y581.1.1),()),y583.1.1,y584.1.1,y585.1.1,y586.1.1,())]:(List Dq2))),s499.2.1.2.2):Dq3),()))
    else none
   else
   (qa5 y581.1.1 Lq9 (2147483647:Int)).bind fun y591 =>
   (qaz ((y581.2.1.1,(! y591.1.1),y581.2.1.2.2):Dq4)).bind fun y594 =>
   (qan ((y594.2.1.1,y594.2.1.2):Dq4)).bind fun y595 =>
   (qac ((y595.2.1.1,y595.2.1.2):Dq4)).bind fun y596 =>
   (qac ((y596.2.1.1,y596.2.1.2):Dq4)).bind fun y597 =>
   (qam ((y597.2.1.1,y597.2.1.2):Dq4)).bind fun y598 =>
   bif (! y598.1.1) then
    Option.map Sum.inr (some ((Lq4,false,()),()))
   else
   bif room (List.length s499.2.1.2.1+1) 48 then
    some (Sum.inl ((iAdd .i64 s499.1 1),((s499.2.1.1,(s499.2.1.2.1++([((x554,x580,(iWrap .i32 y581.1.1),()),y594.1.1,y595.1.1,y596.1.1,y597.1.1,())]:(List Dq2))),s499.2.1.2.2):Dq3),()))
   else none
  else none
 else
 Option.map Sum.inr (
  (qe7 ((s499.2.1.1,s499.2.1.2.1,s499.2.1.2.2):Dq3)).bind fun y602 =>
  some ((((s499.2.1.1,s499.2.1.2.1,s499.2.1.2.2):Dq3),y602.1.1,()),()))
def qnr (a0:(List (List UInt8))):Option ((Dq3×Bool×Unit)×Unit) :=
 bif inB 0 (List.length a0) then
  (qby (List.getD a0 0 ([]:List UInt8))).bind fun y476 =>
  (qbe ((y476.1.1.1,y476.1.1.2):Dq4) ([109,97,112]:List UInt8)).bind fun y477 =>
  (qan ((y477.2.1.1,y477.2.1.2):Dq4)).bind fun y478 =>
  (qam ((y478.2.1.1,y478.2.1.2):Dq4)).bind fun y479 =>
  bif (! y479.1.1) then some ((Lq4,false,()),()) else
  bif inS 1 (lenI a0) (List.length a0) then
   let x481:=dropL a0 1
   run (qg8 x481) ((0:Int),((y478.1.1,[],()):Dq3),())
  else none
 else none
def qtx:Entry:=⟨⟨[.v (.list (.str))],[.v (.pair (.val (.flt .f32)) (.pair (.rows Uq1) (.val (.unit)))),.v (.val (.bool))],false⟩,fun x=>qnr x.1⟩
theorem qaci (mx:GMax 4 G) (tb:GTab Tryz.prog G) (sy:GErr 1 G) (ra:GErr 2 G) (db:GDeb Tryz.prog G):Sound Tryz.prog G 203 qtx:=qab (envS (l:=[(50,qcs),(64,qja),(68,qc5),(69,qdu),(115,qgu),(159,qi4),(237,qfn),(238,qko)]) ⟨(qdl),(qmp mx),(qe8 tb sy ra),(qf9),(qle),(qmn),(qj3 sy ra db),(qsn sy ra db),trivial⟩) [(7,.vary [(28,.sc (.int .i64)),(5,.box (.pair (.val (.flt .f32)) (.pair (.rows Uq1) (.val (.unit)))))]),(12,.unroll 4)] Tryz.func203 (by kernel_rfl) rfl fun _=>by kernel_rfl
def qnj (a0:List UInt8):Option Dq20 :=
 bif (iLt 40000 (lenI a0)) then some ((Lq4,(2:Int),()),()) else
 (qnp a0).bind fun y466 =>
 bif (! y466.1.2.1) then some ((Lq4,(5:Int),()),()) else
 (qnr y466.1.1).bind fun y468 =>
 bif (! y468.1.2.1) then some ((Lq4,(5:Int),()),()) else some ((((y468.1.1.1,y468.1.1.2.1,y468.1.1.2.2):Dq3),(0:Int),()),())
def qtn:Entry:=⟨⟨[.v (.str)],[.v (.pair (.val (.flt .f32)) (.pair (.rows Uq1) (.val (.unit)))),.v (.val (.int .i64))],false⟩,fun x=>qnj x.1⟩
theorem qab3 (mx:GMax 4 G) (tb:GTab Tryz.prog G) (sy:GErr 1 G) (ra:GErr 2 G) (db:GDeb Tryz.prog G):Sound Tryz.prog G 166 qtn:=qab (envS (l:=[(202,qtt),(203,qtx)]) ⟨(qacd mx),(qaci mx tb sy ra db),trivial⟩) [] Tryz.func166 (by kernel_rfl) rfl fun _=>by kernel_rfl
def qe0 (a0:Dq1) (a1:(Int×Dq10)):Option ((Unit)×(Dq1×Unit)) :=
 (qnj a1.2.1).bind fun y438 =>
 bif (! (iEq y438.1.2.1 0)) then
  some ((),(((a0.1,(a0.2.1.1,a0.2.1.2.1,a0.2.1.2.2.1,a0.2.1.2.2.2),a0.2.2):Dq1),()))
 else
 bif inB a1.1 (List.length a0.2.1.1) then
  (qic ((List.getD a0.2.1.1 a1.1.toNat Lq3).1) ((y438.1.1.1,y438.1.1.2.1,y438.1.1.2.2):Dq3)).bind fun y441 =>
  bif (iEq y441.1.2.1 0) then
   some ((),(((a0.1,((List.set a0.2.1.1 a1.1.toNat (((y441.1.1.1,y441.1.1.2.1,y441.1.1.2.2),(List.getD a0.2.1.1 a1.1.toNat Lq3).2):Dq7)),a0.2.1.2.1,a0.2.1.2.2.1,a0.2.1.2.2.2),a0.2.2):Dq1),()))
  else
  some ((),(((a0.1,(a0.2.1.1,a0.2.1.2.1,a0.2.1.2.2.1,a0.2.1.2.2.2),a0.2.2):Dq1),()))
 else none
def qm7:Entry:=⟨⟨[.io (.pair (.val Uq2) (.pair (.pair (.rows Uq3) (.pair (.rows Uq3) (.pair (.rows Uq6) (.val (.unit))))) (.val (.unit)))),.v Uq6],[],true⟩,fun x=>qe0 x.1 x.2.1⟩
theorem qvm (mx:GMax 4 G) (tb:GTab Tryz.prog G) (sy:GErr 1 G) (ra:GErr 2 G) (db:GDeb Tryz.prog G):Sound Tryz.prog G 134 qm7:=qab (envS (l:=[(166,qtn),(167,qrg)]) ⟨(qab3 mx tb sy ra db),(qzu),trivial⟩) [] Tryz.func134 (by kernel_rfl) rfl fun _=>by kernel_rfl
theorem qpr:Sound Tryz.prog G 133 qik:=qapy
def qel (a0:Dq1) (a1:Dq6):Option Dq24 :=
 (qa5 a1.2.1 (0:Int) (iSub .i64 (lenI a0.2.1.2.2.1) 1)).bind fun y428 =>
 bif (! y428.1.1) then
  some (((2:Int),()),(((a0.1,(a0.2.1.1,a0.2.1.2.1,a0.2.1.2.2.1,a0.2.1.2.2.2),a0.2.2):Dq1),()))
 else
 bif inB a1.2.1 (List.length a0.2.1.2.2.1) then
  let x430:=List.getD a0.2.1.2.2.1 a1.2.1.toNat ((0,[],()):(Int×Dq10))
  bif (! (iEq a1.1 4)) then
   (qj6 a0.2.1.2.2.1 a1.2.1 (iAdd .i64 a1.2.1 1)).bind fun y433 =>
   bif (! (iEq a1.1 5)) then
    (qe0 ((a0.1,(a0.2.1.1,a0.2.1.2.1,y433.1.1,a0.2.1.2.2.2),a0.2.2):Dq1) x430).bind fun y435 =>
    some (((0:Int),()),(((y435.2.1.1,(y435.2.1.2.1.1,y435.2.1.2.1.2.1,y435.2.1.2.1.2.2.1,y435.2.1.2.1.2.2.2),y435.2.1.2.2):Dq1),()))
   else
   some (((0:Int),()),(((a0.1,(a0.2.1.1,a0.2.1.2.1,y433.1.1,a0.2.1.2.2.2),a0.2.2):Dq1),()))
  else
  bif (! (iEq a1.1 5)) then
   (qe0 ((a0.1,(a0.2.1.1,a0.2.1.2.1,a0.2.1.2.2.1,a0.2.1.2.2.2),a0.2.2):Dq1) x430).bind fun y437 =>
   some (((0:Int),()),(((y437.2.1.1,(y437.2.1.2.1.1,y437.2.1.2.1.2.1,y437.2.1.2.1.2.2.1,y437.2.1.2.1.2.2.2),y437.2.1.2.2):Dq1),()))
  else
  some (((0:Int),()),(((a0.1,(a0.2.1.1,a0.2.1.2.1,a0.2.1.2.2.1,a0.2.1.2.2.2),a0.2.2):Dq1),()))
 else none
def qo7:Entry:=⟨⟨[.io (.pair (.val Uq2) (.pair (.pair (.rows Uq3) (.pair (.rows Uq3) (.pair (.rows Uq6) (.val (.unit))))) (.val (.unit)))),.v Uq5],[.v (.val (.int .i64))],true⟩,fun x=>qel x.1 x.2.1⟩
theorem qxv (mx:GMax 4 G) (tb:GTab Tryz.prog G) (sy:GErr 1 G) (ra:GErr 2 G) (db:GDeb Tryz.prog G):Sound Tryz.prog G 94 qo7:=qab (envS (l:=[(50,qcs),(133,qik),(134,qm7)]) ⟨(qdl),(qpr),(qvm mx tb sy ra db),trivial⟩) [] Tryz.func94 (by kernel_rfl) rfl fun _=>by kernel_rfl
theorem qpx:Sound Tryz.prog G 113 qis:=qabt (by decide) Tryz.func113 (by kernel_rfl) (by kernel_rfl) (Any.Builder_copyCheck_fresh Tryz.lays240 Tryz.Builder_X72_240) (Any.Builder_copyCheck_used Tryz.lays240 Tryz.Builder_X72_240)
def qav (a0:Dq12) (a1:List UInt8):Option ((Int×Bool×Unit)×(Dq12×Unit)) :=
 (qfs ((a0.1,a0.2.1,a0.2.2):Dq12)).bind fun y775 =>
 bif room (List.length y775.2.1.2.1+List.length (bytesOf a1)) 1 then
  some ((lenI a1,true,()),(((y775.2.1.1,(y775.2.1.2.1++(bytesOf a1)),y775.2.1.2.2):Dq12),()))
 else none
def qd2:Entry:=⟨⟨[.io (.pair (.val (.ref 138)) (.pair (.rows (.int .u8)) (.val (.unit)))),.v (.str)],[.v (.val (.int .i64)),.v (.val (.err))],true⟩,fun x=>qav x.1 x.2.1⟩
theorem qhs:Sound Tryz.prog G 75 qd2:=qab (envS (l:=[(113,qis)]) ⟨(qpx),trivial⟩) [] Tryz.func75 (by kernel_rfl) rfl fun _=>by kernel_rfl
theorem qux:Sound Tryz.prog G 131 strings_Join_en:=qako Tryz.func131 (by kernel_rfl) (by kernel_rfl) Tryz.strings_Join_none Tryz.strings_Join
def qbw (a0:(List Nat)) (s778:((List (List UInt8))×Int×Unit)):Option (((List (List UInt8))×Int×Unit)⊕(Dq10×Unit)) :=
 bif (iLt s778.2.1 (lenI a0)) then
  bif inB s778.2.1 (List.length a0) then
   (qdt (List.getD a0 s778.2.1.toNat (0:Nat))).bind fun y781 =>
   bif room (List.length s778.1+1) 16 then
    some (Sum.inl ((s778.1++([y781.1.1]:(List (List UInt8)))),(iAdd .i64 s778.2.1 1),()))
   else none
  else none
 else
 Option.map Sum.inr (
  (strings_Join s778.1 ([32]:List UInt8)).bind fun y784 =>
  some ((y784.1.1,()),()))
def qi9 (a0:(List Nat)):Option (Dq10×Unit) :=
 run (qbw a0) (([]:(List (List UInt8))),(0:Int),())
def qo6:Entry:=⟨⟨[.v (.list (.flt .f32))],[.v (.val (.str))],false⟩,fun x=>qi9 x.1⟩
theorem qxu (db:GDeb Tryz.prog G):Sound Tryz.prog G 163 qo6:=qab (envS (l:=[(128,qg2),(131,strings_Join_en)]) ⟨(qkk db),(qux),trivial⟩) [(3,.vary [(3,.rows (.str)),(9,.sc (.int .i64))])] Tryz.func163 (by kernel_rfl) rfl fun _=>by kernel_rfl
def qnm (a0:(Vec 3 Nat)):Option (Dq10×Unit) :=
 (qi9 ([Vec.getD 3 a0 0 (0:Nat),Vec.getD 3 a0 1 (0:Nat),Vec.getD 3 a0 2 (0:Nat)]:(List Nat))).bind fun y777 =>
 some ((y777.1.1,()),())
def qtq:Entry:=⟨⟨[.v (.arr 3 (.flt .f32))],[.v (.val (.str))],false⟩,fun x=>qnm x.1⟩
theorem qab9 (db:GDeb Tryz.prog G):Sound Tryz.prog G 130 qtq:=qab (envS (l:=[(163,qo6)]) ⟨(qxu db),trivial⟩) [] Tryz.func130 (by kernel_rfl) rfl fun _=>by kernel_rfl
def qdi (a0:Int):Option (Dq10×Unit) :=
 (qbx (iWrap .i64 a0) (10:Int)).bind fun y786 =>
 some ((y786.1.1,()),())
def qm4:Entry:=⟨⟨[.v (.int .i32)],[.v (.val (.str))],false⟩,fun x=>qdi x.1⟩
theorem qvj (tb:GTab Tryz.prog G):Sound Tryz.prog G 129 qm4:=qab (envS (l:=[(111,qfr)]) ⟨(qot tb),trivial⟩) [] Tryz.func129 (by kernel_rfl) rfl fun _=>by kernel_rfl
def qg7 (a0:Dq3) (s757:(Int×Dq12×Unit)):Option ((Int×Dq12×Unit)⊕(Dq10×Unit)) :=
 bif (iLt s757.1 (lenI a0.2.1)) then
  bif inB s757.1 (List.length a0.2.1) then
   let x759:=List.getD a0.2.1 s757.1.toNat Lq1
   (qdi (Vec.getD 3 x759.1 0 (0:Int))).bind fun y761 =>
   (qdi (Vec.getD 3 x759.1 1 (0:Int))).bind fun y763 =>
   (qdi (Vec.getD 3 x759.1 2 (0:Int))).bind fun y765 =>
   (qnm x759.2.1).bind fun y766 =>
   (qdt x759.2.2.1).bind fun y767 =>
   (qa3 x759.2.2.2.1).bind fun y768 =>
   (qa3 x759.2.2.2.2.1).bind fun y769 =>
   (strings_Join ([y761.1.1,y763.1.1,y765.1.1,y766.1.1,y767.1.1,y768.1.1,y769.1.1]:(List (List UInt8))) ([32]:List UInt8)).bind fun y770 =>
   bif strRoom y770.1.1 ([10]) then
    (qav ((s757.2.1.1,s757.2.1.2.1,s757.2.1.2.2):Dq12) (strCat y770.1.1 ([10]))).bind fun y772 =>
    some (Sum.inl ((iAdd .i64 s757.1 1),((y772.2.1.1,y772.2.1.2.1,y772.2.1.2.2):Dq12),()))
   else none
  else none
 else
 Option.map Sum.inr (
  (bldStr ((s757.2.1.1,s757.2.1.2.1,s757.2.1.2.2):Dq12)).bind fun y774 =>
  some ((y774,()),()))
def qnq (a0:Dq3):Option (Dq10×Unit) :=
 (qdt a0.1).bind fun y736 =>
 bif strRoom ([109,97,112,32]) y736.1.1 then
  let x737:=strCat ([109,97,112,32]) y736.1.1
  bif strRoom x737 ([10]) then
   (qav (((),[],()):Dq12) (strCat x737 ([10]))).bind fun y739 =>
   run (qg7 a0) ((0:Int),((y739.2.1.1,y739.2.1.2.1,y739.2.1.2.2):Dq12),())
  else none
 else none
def qtu:Entry:=⟨⟨[.v Uq4],[.v (.val (.str))],false⟩,fun x=>qnq x.1⟩
theorem qacf (tb:GTab Tryz.prog G) (db:GDeb Tryz.prog G):Sound Tryz.prog G 92 qtu:=qab (envS (l:=[(70,qdj),(75,qd2),(128,qg2),(129,qm4),(130,qtq),(131,strings_Join_en)]) ⟨(qe4 tb),(qhs),(qkk db),(qvj tb),(qab9 db),(qux),trivial⟩) [(4,.vary [(16,.sc (.int .i64)),(3,.box (.pair (.val (.ref 138)) (.pair (.rows (.int .u8)) (.val (.unit)))))])] Tryz.func92 (by kernel_rfl) rfl fun _=>by kernel_rfl
def qga (a0:Dq7):Option ((Dq7×Unit)×Unit) :=
 (qhx a0.1).bind fun y787 =>
 some (((((y787.1.1.1,y787.1.1.2.1,y787.1.1.2.2),a0.2.1,()):Dq7),()),())
def qtw:Entry:=⟨⟨[.v Uq3],[.v (.pair (.pair (.val (.flt .f32)) (.pair (.rows Uq1) (.val (.unit)))) (.val Uq8))],false⟩,fun x=>qga x.1⟩
theorem qach:Sound Tryz.prog G 93 qtw:=qab (envS (l:=[(132,qla)]) ⟨(qpn),trivial⟩) [] Tryz.func93 (by kernel_rfl) rfl fun _=>by kernel_rfl
def qbj (a0:Dq1) (a1:Dq6):Option Dq24 :=
 bif (iEq a1.1 1) then
  (qha ((a0.1,(a0.2.1.1,a0.2.1.2.1,a0.2.1.2.2.1,a0.2.1.2.2.2),a0.2.2):Dq1) a1.2.1).bind fun y36 =>
  some ((y36.1.1,()),(((y36.2.1.1,(y36.2.1.2.1.1,y36.2.1.2.1.2.1,y36.2.1.2.1.2.2.1,y36.2.1.2.1.2.2.2),y36.2.1.2.2):Dq1),()))
 else
 bif (iEq a1.1 2) then
  (qa9 ((a0.1,(a0.2.1.1,a0.2.1.2.1,a0.2.1.2.2.1,a0.2.1.2.2.2),a0.2.2):Dq1) a1.2.1).bind fun y38 =>
  bif (! y38.1.1) then
   some (((2:Int),()),(((y38.2.1.1,(y38.2.1.2.1.1,y38.2.1.2.1.2.1,y38.2.1.2.1.2.2.1,y38.2.1.2.1.2.2.2),y38.2.1.2.2):Dq1),()))
  else
  (qa9 ((y38.2.1.1,(y38.2.1.2.1.1,y38.2.1.2.1.2.1,y38.2.1.2.1.2.2.1,y38.2.1.2.1.2.2.2),y38.2.1.2.2):Dq1) a1.2.2.1).bind fun y40 =>
  bif (! y40.1.1) then
   some (((2:Int),()),(((y40.2.1.1,(y40.2.1.2.1.1,y40.2.1.2.1.2.1,y40.2.1.2.1.2.2.1,y40.2.1.2.1.2.2.2),y40.2.1.2.2):Dq1),()))
  else
  bif (iEq a1.2.1 a1.2.2.1) then
   some (((2:Int),()),(((y40.2.1.1,(y40.2.1.2.1.1,y40.2.1.2.1.2.1,y40.2.1.2.1.2.2.1,y40.2.1.2.1.2.2.2),y40.2.1.2.2):Dq1),()))
  else
  bif (iEq (lenI y40.2.1.2.1.2.2.1) 10) then
   some (((3:Int),()),(((y40.2.1.1,(y40.2.1.2.1.1,y40.2.1.2.1.2.1,y40.2.1.2.1.2.2.1,y40.2.1.2.1.2.2.2),y40.2.1.2.2):Dq1),()))
  else
  bif inB a1.2.1 (List.length y40.2.1.2.1.1) then
   (qnq ((List.getD y40.2.1.2.1.1 a1.2.1.toNat Lq3).1)).bind fun y45 =>
   bif room (List.length y40.2.1.2.1.2.2.1+1) 24 then
    some (((0:Int),()),(((y40.2.1.1,(y40.2.1.2.1.1,y40.2.1.2.1.2.1,(y40.2.1.2.1.2.2.1++([(a1.2.2.1,y45.1.1,())]:(List (Int×Dq10)))),y40.2.1.2.1.2.2.2),y40.2.1.2.2):Dq1),()))
   else none
  else none
 else
 let x47:=iEq a1.1 6
 bif x47 then
  bif x47 then
   (qa9 ((a0.1,(a0.2.1.1,a0.2.1.2.1,a0.2.1.2.2.1,a0.2.1.2.2.2),a0.2.2):Dq1) a1.2.1).bind fun y48 =>
   bif (! y48.1.1) then
    some (((2:Int),()),(((y48.2.1.1,(y48.2.1.2.1.1,y48.2.1.2.1.2.1,y48.2.1.2.1.2.2.1,y48.2.1.2.1.2.2.2),y48.2.1.2.2):Dq1),()))
   else
   bif (iEq a1.1 6) then
    bif inB a1.2.1 (List.length y48.2.1.2.1.1) then
     (qga (List.getD y48.2.1.2.1.1 a1.2.1.toNat Lq3)).bind fun y52 =>
     bif inB a1.2.1 (List.length y48.2.1.2.1.2.1) then
      some (((0:Int),()),(((y48.2.1.1,(y48.2.1.2.1.1,(List.set y48.2.1.2.1.2.1 a1.2.1.toNat (((y52.1.1.1.1,y52.1.1.1.2.1,y52.1.1.1.2.2),y52.1.1.2):Dq7)),y48.2.1.2.1.2.2.1,y48.2.1.2.1.2.2.2),y48.2.1.2.2):Dq1),()))
     else none
    else none
   else
   bif inB a1.2.1 (List.length y48.2.1.2.1.2.1) then
    (qga (List.getD y48.2.1.2.1.2.1 a1.2.1.toNat Lq3)).bind fun y55 =>
    bif inB a1.2.1 (List.length y48.2.1.2.1.1) then
     some (((0:Int),()),(((y48.2.1.1,((List.set y48.2.1.2.1.1 a1.2.1.toNat (((y55.1.1.1.1,y55.1.1.1.2.1,y55.1.1.1.2.2),y55.1.1.2):Dq7)),y48.2.1.2.1.2.1,y48.2.1.2.1.2.2.1,y48.2.1.2.1.2.2.2),y48.2.1.2.2):Dq1),()))
    else none
   else none
  else
  (qel ((a0.1,(a0.2.1.1,a0.2.1.2.1,a0.2.1.2.2.1,a0.2.1.2.2.2),a0.2.2):Dq1) a1).bind fun y57 =>
  some ((y57.1.1,()),(((y57.2.1.1,(y57.2.1.2.1.1,y57.2.1.2.1.2.1,y57.2.1.2.1.2.2.1,y57.2.1.2.1.2.2.2),y57.2.1.2.2):Dq1),()))
 else
 bif (iEq a1.1 7) then
  (qa9 ((a0.1,(a0.2.1.1,a0.2.1.2.1,a0.2.1.2.2.1,a0.2.1.2.2.2),a0.2.2):Dq1) a1.2.1).bind fun y59 =>
  bif (! y59.1.1) then
   some (((2:Int),()),(((y59.2.1.1,(y59.2.1.2.1.1,y59.2.1.2.1.2.1,y59.2.1.2.1.2.2.1,y59.2.1.2.1.2.2.2),y59.2.1.2.2):Dq1),()))
  else
  bif (iEq a1.1 6) then
   bif inB a1.2.1 (List.length y59.2.1.2.1.1) then
    (qga (List.getD y59.2.1.2.1.1 a1.2.1.toNat Lq3)).bind fun y63 =>
    bif inB a1.2.1 (List.length y59.2.1.2.1.2.1) then
     some (((0:Int),()),(((y59.2.1.1,(y59.2.1.2.1.1,(List.set y59.2.1.2.1.2.1 a1.2.1.toNat (((y63.1.1.1.1,y63.1.1.1.2.1,y63.1.1.1.2.2),y63.1.1.2):Dq7)),y59.2.1.2.1.2.2.1,y59.2.1.2.1.2.2.2),y59.2.1.2.2):Dq1),()))
    else none
   else none
  else
  bif inB a1.2.1 (List.length y59.2.1.2.1.2.1) then
   (qga (List.getD y59.2.1.2.1.2.1 a1.2.1.toNat Lq3)).bind fun y66 =>
   bif inB a1.2.1 (List.length y59.2.1.2.1.1) then
    some (((0:Int),()),(((y59.2.1.1,((List.set y59.2.1.2.1.1 a1.2.1.toNat (((y66.1.1.1.1,y66.1.1.1.2.1,y66.1.1.1.2.2),y66.1.1.2):Dq7)),y59.2.1.2.1.2.1,y59.2.1.2.1.2.2.1,y59.2.1.2.1.2.2.2),y59.2.1.2.2):Dq1),()))
   else none
  else none
 else
 (qel ((a0.1,(a0.2.1.1,a0.2.1.2.1,a0.2.1.2.2.1,a0.2.1.2.2.2),a0.2.2):Dq1) a1).bind fun y68 =>
 some ((y68.1.1,()),(((y68.2.1.1,(y68.2.1.2.1.1,y68.2.1.2.1.2.1,y68.2.1.2.1.2.2.1,y68.2.1.2.1.2.2.2),y68.2.1.2.2):Dq1),()))
def qh9:Entry:=⟨⟨[.io (.pair (.val Uq2) (.pair (.pair (.rows Uq3) (.pair (.rows Uq3) (.pair (.rows Uq6) (.val (.unit))))) (.val (.unit)))),.v Uq5],[.v (.val (.int .i64))],true⟩,fun x=>qbj x.1 x.2.1⟩
theorem qln (mx:GMax 4 G) (tb:GTab Tryz.prog G) (sy:GErr 1 G) (ra:GErr 2 G) (db:GDeb Tryz.prog G):Sound Tryz.prog G 46 qh9:=qab (envS (l:=[(54,qg9),(91,qqp),(92,qtu),(93,qtw),(94,qo7)]) ⟨(qkp),(qyq),(qacf tb db),(qach),(qxv mx tb sy ra db),trivial⟩) [] Tryz.func46 (by kernel_rfl) rfl fun _=>by kernel_rfl
def qpl (a0:Nat):Option Dq8 :=
 some (((fLt .f32 a0 0),()),())
def qrl:Entry:=⟨⟨[.v (.flt .f32)],[.v (.val (.bool))],false⟩,fun x=>qpl x.1⟩
theorem qzz:Sound Tryz.prog G 97 qrl:=qab (envS (l:=[]) trivial) [] Tryz.func97 (by kernel_rfl) rfl fun _=>by kernel_rfl
def qe2 (a0:(List Nat)) (a1:((Nat×Unit)→Option Bool)) (s822:(Int×Unit)):Option ((Int×Unit)⊕Dq13) :=
 bif (iLt s822.1 (lenI a0)) then
  bif inB s822.1 (List.length a0) then
   (a1 ((List.getD a0 s822.1.toNat (0:Nat)),())).bind fun y825 =>
   bif y825 then
    Option.map Sum.inr (some ((s822.1,()),()))
   else
   some (Sum.inl ((iAdd .i64 s822.1 1),()))
  else none
 else
 Option.map Sum.inr (some ((Lq7,()),()))
def qdz (a0:(List Nat)) (a1:((Nat×Unit)→Option Bool)):Option Dq13 :=
 run (qe2 a0 a1) ((0:Int),())
def qiw:Entry:=⟨⟨[.v (.list (.flt .f32)),.fn ⟨[.flt .f32],.bool⟩],[.v (.val (.int .i64))],false⟩,fun x=>qdz x.1 x.2.1⟩
theorem qqt:Sound Tryz.prog G 135 qiw:=qab (envS (l:=[]) trivial) [(2,.vary [(8,.sc (.int .i64))])] Tryz.func135 (by kernel_rfl) rfl fun _=>by kernel_rfl
def qc0 (a0:(List Nat)) (a1:((Nat×Unit)→Option Bool)):Option Dq8 :=
 (qdz a0 a1).bind fun y820 =>
 some (((iLe 0 y820.1.1),()),())
def qhg:Entry:=⟨⟨[.v (.list (.flt .f32)),.fn ⟨[.flt .f32],.bool⟩],[.v (.val (.bool))],false⟩,fun x=>qc0 x.1 x.2.1⟩
theorem qn2:Sound Tryz.prog G 96 qhg:=qab (envS (l:=[(135,qiw)]) ⟨(qqt),trivial⟩) [] Tryz.func96 (by kernel_rfl) rfl fun _=>by kernel_rfl
def qno (a0:(List Nat)):Option Dq8 :=
 (qc4 a0).bind fun y815 =>
 bif y815.1.1 then
  (qc0 a0 (fun (z816:(Nat×Unit))=>(qpl z816.1).map fun y=>y.1.1)).bind fun y817 =>
  some (((! y817.1.1),()),())
 else some ((false,()),())
def qts:Entry:=⟨⟨[.v (.list (.flt .f32))],[.v (.val (.bool))],false⟩,fun x=>qno x.1⟩
theorem qacc:Sound Tryz.prog G 49 qts:=qab (envS (l:=[(95,qf8),(96,qhg),(97,qrl)]) ⟨(qi8),(qn2),(qzz),trivial⟩) [] Tryz.func49 (by kernel_rfl) rfl fun _=>by kernel_rfl
def qg5 (x801:(List Dq11)) (a0:Dq5) (s799:(Int×Unit)) (s803:(Int×Unit)):Option ((Int×Unit)⊕((Int×Unit)⊕Dq8)) :=
 bif (iLt s803.1 (lenI x801)) then
  bif inB s803.1 (List.length x801) then
   let x805:=List.getD x801 s803.1.toNat (((0,0,0,()),0,0,()):Dq11)
   (qco a0.1 x805.1).bind fun y806 =>
   bif (! (iEq y806.1.2.1 0)) then
    Option.map Sum.inr (Option.map Sum.inr (some ((false,()),())))
   else
   (qet x805.2.1).bind fun y808 =>
   bif (! y808.1.1) then
    Option.map Sum.inr (Option.map Sum.inr (some ((false,()),())))
   else
   bif (fLt .f32 1232348160 x805.2.1) then
    Option.map Sum.inr (Option.map Sum.inr (some ((false,()),())))
   else
   (qjw x805.2.2.1).bind fun y811 =>
   bif (! y811.1.1) then
    Option.map Sum.inr (Option.map Sum.inr (some ((false,()),())))
   else
   some (Sum.inl ((iAdd .i64 s803.1 1),()))
  else none
 else
 Option.map Sum.inr (some (Sum.inl ((iAdd .i64 s799.1 1),())))
def qg4 (a0:Dq5) (s799:(Int×Unit)):Option ((Int×Unit)⊕Dq8) :=
 bif (iLt s799.1 (lenI a0.2.2.1)) then
  bif inB s799.1 (List.length a0.2.2.1) then
   let x801:=List.getD a0.2.2.1 s799.1.toNat ([]:(List Dq11))
   bif (iLt 16 (lenI x801)) then
    Option.map Sum.inr (some ((false,()),()))
   else run (qg5 x801 a0 s799) ((0:Int),())
  else none
 else
 Option.map Sum.inr (some ((true,()),()))
def qg3 (a0:Dq5):Option Dq8 :=
 (qet a0.1).bind fun y793 =>
 bif (! y793.1.1) then some ((false,()),()) else
 (qno ([a0.2.1]:(List Nat))).bind fun y795 =>
 bif (! y795.1.1) then some ((false,()),()) else
 (qa5 (lenI a0.2.2.1) (1:Int) (4:Int)).bind fun y797 =>
 bif (! y797.1.1) then some ((false,()),()) else run (qg4 a0) ((0:Int),())
def qkl:Entry:=⟨⟨[.v Uq2],[.v (.val (.bool))],false⟩,fun x=>qg3 x.1⟩
theorem qqn:Sound Tryz.prog G 17 qkl:=qab (envS (l:=[(48,qf1),(49,qts),(50,qcs),(51,qk5),(52,qk9)]) ⟨(qih),(qacc),(qdl),(qpk),(qpm),trivial⟩) [(4,.vary [(30,.sc (.int .i64))]),(9,.vary [(39,.sc (.int .i64))])] Tryz.func17 (by kernel_rfl) rfl fun _=>by kernel_rfl
def qf0 (a0:Dq6):Option Dq8 :=
 (qa5 a0.1 (1:Int) (7:Int)).bind fun y829 =>
 bif y829.1.1 then
  (qa5 a0.2.1 (0:Int) (999:Int)).bind fun y830 =>
  bif y830.1.1 then
   (qa5 a0.2.2.1 (0:Int) (999:Int)).bind fun y831 =>
   bif y831.1.1 then
    bif (iEq a0.1 2) then some ((true,()),()) else
    some (((iEq a0.2.2.1 0),()),())
   else some ((false,()),())
  else some ((false,()),())
 else some ((false,()),())
def qh6:Entry:=⟨⟨[.v Uq5],[.v (.val (.bool))],false⟩,fun x=>qf0 x.1⟩
theorem qlj:Sound Tryz.prog G 34 qh6:=qab (envS (l:=[(50,qcs)]) ⟨(qdl),trivial⟩) [] Tryz.func34 (by kernel_rfl) rfl fun _=>by kernel_rfl
def qh7 (a0:Dq6):Option Dq8 :=
 (qf0 a0).bind fun y827 =>
 some (((! y827.1.1),()),())
def qnn:Entry:=⟨⟨[.v Uq5],[.v (.val (.bool))],false⟩,fun x=>qh7 x.1⟩
theorem qwt:Sound Tryz.prog G 90 qnn:=qab (envS (l:=[(34,qh6)]) ⟨(qlj),trivial⟩) [] Tryz.func90 (by kernel_rfl) rfl fun _=>by kernel_rfl
def qeb (a0:(List Dq6)) (a1:((Dq6×Unit)→Option Bool)) (s836:(Int×Unit)):Option ((Int×Unit)⊕Dq13) :=
 bif (iLt s836.1 (lenI a0)) then
  bif inB s836.1 (List.length a0) then
   (a1 ((List.getD a0 s836.1.toNat Lq6),())).bind fun y839 =>
   bif y839 then
    Option.map Sum.inr (some ((s836.1,()),()))
   else
   some (Sum.inl ((iAdd .i64 s836.1 1),()))
  else none
 else
 Option.map Sum.inr (some ((Lq7,()),()))
def qc7 (a0:(List Dq6)) (a1:((Dq6×Unit)→Option Bool)):Option Dq13 :=
 run (qeb a0 a1) ((0:Int),())
def qh3:Entry:=⟨⟨[.v (.list Uq5),.fn ⟨[.pair (.int .i64) (.pair (.int .i64) Uq8)],.bool⟩],[.v (.val (.int .i64))],false⟩,fun x=>qc7 x.1 x.2.1⟩
theorem qox:Sound Tryz.prog G 126 qh3:=qab (envS (l:=[]) trivial) [(2,.vary [(8,.sc (.int .i64))])] Tryz.func126 (by kernel_rfl) rfl fun _=>by kernel_rfl
def qbu (a0:(List Dq6)) (a1:((Dq6×Unit)→Option Bool)):Option Dq8 :=
 (qc7 a0 a1).bind fun y834 =>
 some (((iLe 0 y834.1.1),()),())
def qgf:Entry:=⟨⟨[.v (.list Uq5),.fn ⟨[.pair (.int .i64) (.pair (.int .i64) Uq8)],.bool⟩],[.v (.val (.bool))],false⟩,fun x=>qbu x.1 x.2.1⟩
theorem qmv:Sound Tryz.prog G 89 qgf:=qab (envS (l:=[(126,qh3)]) ⟨(qox),trivial⟩) [] Tryz.func89 (by kernel_rfl) rfl fun _=>by kernel_rfl
def qg6 (a0:Dq5) (a1:(List Dq6)):Option Dq13 :=
 (qg3 a0).bind fun y788 =>
 bif (! y788.1.1) then some (((1:Int),()),()) else
 (qbu a1 (fun (z790:(Dq6×Unit))=>(qh7 z790.1).map fun y=>y.1.1)).bind fun y791 =>
 bif y791.1.1 then some (((1:Int),()),()) else
 bif (iLt 200 (lenI a1)) then some (((2:Int),()),()) else some (((0:Int),()),())
def qkn:Entry:=⟨⟨[.v Uq2,.v (.list Uq5)],[.v (.val (.int .i64))],false⟩,fun x=>qg6 x.1 x.2.1⟩
theorem qqo:Sound Tryz.prog G 41 qkn:=qab (envS (l:=[(17,qkl),(89,qgf),(90,qnn)]) ⟨(qqn),(qmv),(qwt),trivial⟩) [] Tryz.func41 (by kernel_rfl) rfl fun _=>by kernel_rfl
def qfj (a0:Dq5) (s844:(Int×Dq1×Unit)):Option ((Int×Dq1×Unit)⊕((Dq1×Unit)×Unit)) :=
 bif (iLt s844.1 (lenI a0.2.2.1)) then
  bif room (List.length s844.2.1.2.1.1+1) 40 then
   bif room (List.length s844.2.1.2.1.2.1+1) 40 then
    some (Sum.inl ((iAdd .i64 s844.1 1),((s844.2.1.1,((s844.2.1.2.1.1++([((a0.1,[],()),0,())]:(List Dq7))),(s844.2.1.2.1.2.1++([((a0.1,[],()),0,())]:(List Dq7))),s844.2.1.2.1.2.2.1,s844.2.1.2.1.2.2.2),s844.2.1.2.2):Dq1),()))
   else none
  else none
 else
 Option.map Sum.inr (some ((((s844.2.1.1,(s844.2.1.2.1.1,s844.2.1.2.1.2.1,s844.2.1.2.1.2.2.1,s844.2.1.2.1.2.2.2),s844.2.1.2.2):Dq1),()),()))
def qf2 (a0:Dq5):Option ((Dq1×Unit)×Unit) :=
 run (qfj a0) ((0:Int),((a0,([],[],[],()),()):Dq1),())
def qh8:Entry:=⟨⟨[.v Uq2],[.p (.pair (.val Uq2) (.pair (.pair (.rows Uq3) (.pair (.rows Uq3) (.pair (.rows Uq6) (.val (.unit))))) (.val (.unit))))],true⟩,fun x=>qf2 x.1⟩
theorem qlm:Sound Tryz.prog G 59 qh8:=qab (envS (l:=[]) trivial) [(3,.vary [(10,.sc (.int .i64)),(3,.box (.pair (.val Uq2) (.pair (.pair (.rows Uq3) (.pair (.rows Uq3) (.pair (.rows Uq6) (.val (.unit))))) (.val (.unit)))))])] Tryz.func59 (by kernel_rfl) rfl fun _=>by kernel_rfl
def qeg (a1:(List Dq6)) (s29:(Int×Dq1×Unit)):Option ((Int×Dq1×Unit)⊕Dq23) :=
 bif (iLt s29.1 (lenI a1)) then
  bif inB s29.1 (List.length a1) then
   (qbj ((s29.2.1.1,(s29.2.1.2.1.1,s29.2.1.2.1.2.1,s29.2.1.2.1.2.2.1,s29.2.1.2.1.2.2.2),s29.2.1.2.2):Dq1) (List.getD a1 s29.1.toNat Lq6)).bind fun y32 =>
   bif (! (iEq y32.1.1 0)) then
    Option.map Sum.inr (some ((s29.1,y32.1.1,(0:Int),()),()))
   else
   some (Sum.inl ((iAdd .i64 s29.1 1),((y32.2.1.1,(y32.2.1.2.1.1,y32.2.1.2.1.2.1,y32.2.1.2.1.2.2.1,y32.2.1.2.1.2.2.2),y32.2.1.2.2):Dq1),()))
  else none
 else
 Option.map Sum.inr (some (((0:Int),(0:Int),(6:Int),()),()))
def qi3 (a0:Dq5) (a1:(List Dq6)):Option Dq23 :=
 (qg6 a0 a1).bind fun y20 =>
 bif (! (iEq y20.1.1 0)) then some (((0:Int),(0:Int),y20.1.1,()),()) else
 (qf2 a0).bind fun y22 =>
 run (qeg a1) ((0:Int),((y22.1.1.1,(y22.1.1.2.1.1,y22.1.1.2.1.2.1,y22.1.1.2.1.2.2.1,y22.1.1.2.1.2.2.2),y22.1.1.2.2):Dq1),())
def qo4:Entry:=⟨⟨[.v Uq2,.v (.list Uq5)],[.v (.val (.int .i64)),.v (.val (.int .i64)),.v (.val (.int .i64))],false⟩,fun x=>qi3 x.1 x.2.1⟩
theorem qxs (mx:GMax 4 G) (tb:GTab Tryz.prog G) (sy:GErr 1 G) (ra:GErr 2 G) (db:GDeb Tryz.prog G):Sound Tryz.prog G 28 qo4:=qab (envS (l:=[(41,qkn),(46,qh9),(59,qh8)]) ⟨(qqo),(qln mx tb sy ra db),(qlm),trivial⟩) [(6,.vary [(22,.sc (.int .i64)),(8,.box (.pair (.val Uq2) (.pair (.pair (.rows Uq3) (.pair (.rows Uq3) (.pair (.rows Uq6) (.val (.unit))))) (.val (.unit)))))])] Tryz.func28 (by kernel_rfl) rfl fun _=>by kernel_rfl
def qb8 (a0:Int) (a1:Int) (a2:Int):Option Dq8 :=
 bif (iLe a1 a0) then
  some (((iLe a0 a2),()),())
 else some ((false,()),())
def qd8:Entry:=⟨⟨[.v (.int .i64),.v (.int .i64),.v (.int .i64)],[.v (.val (.bool))],false⟩,fun x=>qb8 x.1 x.2.1 x.2.2.1⟩
theorem qfg:Sound Tryz.prog G 112 qd8:=qab (envS (l:=[]) trivial) [] Tryz.func112 (by kernel_rfl) rfl fun _=>by kernel_rfl
def qir (a0:Dq6):Option Dq8 :=
 (qb8 a0.1 (1:Int) (7:Int)).bind fun y998 =>
 bif (! y998.1.1) then some ((false,()),()) else
 (qb8 a0.2.1 (0:Int) (999:Int)).bind fun y1000 =>
 bif (! y1000.1.1) then some ((false,()),()) else
 (qb8 a0.2.2.1 (0:Int) (999:Int)).bind fun y1002 =>
 bif (! y1002.1.1) then some ((false,()),()) else
 bif (iEq a0.1 2) then some ((true,()),()) else
 some (((iEq a0.2.2.1 0),()),())
def qoq:Entry:=⟨⟨[.v Uq5],[.v (.val (.bool))],false⟩,fun x=>qir x.1⟩
theorem quu:Sound Tryz.prog G 71 qoq:=qab (envS (l:=[(112,qd8)]) ⟨(qfg),trivial⟩) [] Tryz.func71 (by kernel_rfl) rfl fun _=>by kernel_rfl
def qce (a0:Nat):Option Dq8 :=
 some (((fEq .f32 (fSub .f32 a0 a0) 0),()),())
def qd6:Entry:=⟨⟨[.v (.flt .f32)],[.v (.val (.bool))],false⟩,fun x=>qce x.1⟩
theorem qfl:Sound Tryz.prog G 153 qd6:=qab (envS (l:=[]) trivial) [] Tryz.func153 (by kernel_rfl) rfl fun _=>by kernel_rfl
def ql1 (a0:(Vec 3 Nat)):Option Dq8 :=
 (qce (Vec.getD 3 a0 0 (0:Nat))).bind fun y1062 =>
 bif y1062.1.1 then
  (qce (Vec.getD 3 a0 1 (0:Nat))).bind fun y1064 =>
  bif y1064.1.1 then
   (qce (Vec.getD 3 a0 2 (0:Nat))).bind fun y1066 =>
   some ((y1066.1.1,()),())
  else some ((false,()),())
 else some ((false,()),())
def qpv:Entry:=⟨⟨[.v (.arr 3 (.flt .f32))],[.v (.val (.bool))],false⟩,fun x=>ql1 x.1⟩
theorem qv2:Sound Tryz.prog G 186 qpv:=qab (envS (l:=[(153,qd6)]) ⟨(qfl),trivial⟩) [] Tryz.func186 (by kernel_rfl) rfl fun _=>by kernel_rfl
def qip (a0:Nat):Option Dq8 :=
 (qce a0).bind fun y1069 =>
 bif y1069.1.1 then
  some (((fLt .f32 0 a0),()),())
 else some ((false,()),())
def qke:Entry:=⟨⟨[.v (.flt .f32)],[.v (.val (.bool))],false⟩,fun x=>qip x.1⟩
theorem qon:Sound Tryz.prog G 116 qke:=qab (envS (l:=[(153,qd6)]) ⟨(qfl),trivial⟩) [] Tryz.func116 (by kernel_rfl) rfl fun _=>by kernel_rfl
def qd1 (a0:Nat) (a1:(Vec 3 Nat)):Option Dq25 :=
 (qip a0).bind fun y1033 =>
 bif (! y1033.1.1) then some ((Lq2,(2:Int),()),()) else
 (ql1 a1).bind fun y1035 =>
 bif (! y1035.1.1) then some ((Lq2,(2:Int),()),()) else
 (fConv .f32 .f64 (fDiv .f32 (Vec.getD 3 a1 0 (0:Nat)) a0)).bind fun y1039 =>
 (qhe y1039).bind fun y1040 =>
 bif (fLe .f64 13920209183539462144 y1040.1.1) then
  bif (! (fLe .f64 y1040.1.1 4696837146684686336)) then some ((Lq2,(3:Int),()),()) else
  (fToInt .f64 y1040.1.1 .i32).bind fun n1044 =>
  (fConv .f32 .f64 (fDiv .f32 (Vec.getD 3 a1 1 (0:Nat)) a0)).bind fun y1047 =>
  (qhe y1047).bind fun y1048 =>
  bif (fLe .f64 13920209183539462144 y1048.1.1) then
   bif (! (fLe .f64 y1048.1.1 4696837146684686336)) then some ((Lq2,(3:Int),()),()) else
   (fToInt .f64 y1048.1.1 .i32).bind fun n1052 =>
   (fConv .f32 .f64 (fDiv .f32 (Vec.getD 3 a1 2 (0:Nat)) a0)).bind fun y1055 =>
   (qhe y1055).bind fun y1056 =>
   bif (fLe .f64 13920209183539462144 y1056.1.1) then
    bif (! (fLe .f64 y1056.1.1 4696837146684686336)) then some ((Lq2,(3:Int),()),()) else
    (fToInt .f64 y1056.1.1 .i32).bind fun n1060 =>
    some ((((n1044,n1052,n1060,()):(Vec 3 Int)),(0:Int),()),())
   else some ((Lq2,(3:Int),()),())
  else some ((Lq2,(3:Int),()),())
 else some ((Lq2,(3:Int),()),())
def qkc:Entry:=⟨⟨[.v (.flt .f32),.v (.arr 3 (.flt .f32))],[.v (.val (.arr 3 (.int .i32))),.v (.val (.int .i64))],false⟩,fun x=>qd1 x.1 x.2.1⟩
theorem qof:Sound Tryz.prog G 154 qkc:=qab (envS (l:=[(99,qq4),(116,qke),(186,qpv)]) ⟨(qxi),(qon),(qv2),trivial⟩) [(5,.unroll 4)] Tryz.func154 (by kernel_rfl) rfl fun _=>by kernel_rfl
def qqb (a0:Nat) (a1:(Vec 3 Nat)):Option Dq25 :=
 (qd1 a0 a1).bind fun y1032 =>
 some ((y1032.1.1,y1032.1.2.1,()),())
def qvv:Entry:=⟨⟨[.v (.flt .f32),.v (.arr 3 (.flt .f32))],[.v (.val (.arr 3 (.int .i32))),.v (.val (.int .i64))],false⟩,fun x=>qqb x.1 x.2.1⟩
theorem qad9:Sound Tryz.prog G 118 qvv:=qab (envS (l:=[(154,qkc)]) ⟨(qof),trivial⟩) [] Tryz.func118 (by kernel_rfl) rfl fun _=>by kernel_rfl
def ql7 (a0:Nat):Option Dq8 :=
 bif (fLe .f32 0 a0) then
  (qce a0).bind fun y1072 =>
  some ((y1072.1.1,()),())
 else some ((false,()),())
def qs3:Entry:=⟨⟨[.v (.flt .f32)],[.v (.val (.bool))],false⟩,fun x=>ql7 x.1⟩
theorem qabh:Sound Tryz.prog G 117 qs3:=qab (envS (l:=[(153,qd6)]) ⟨(qfl),trivial⟩) [] Tryz.func117 (by kernel_rfl) rfl fun _=>by kernel_rfl
def qin (a0:Int):Option Dq8 :=
 (qb8 a0 (0:Int) (1000000000:Int)).bind fun y1073 =>
 some ((y1073.1.1,()),())
def qkb:Entry:=⟨⟨[.v (.int .i64)],[.v (.val (.bool))],false⟩,fun x=>qin x.1⟩
theorem qod:Sound Tryz.prog G 119 qkb:=qab (envS (l:=[(112,qd8)]) ⟨(qfg),trivial⟩) [] Tryz.func119 (by kernel_rfl) rfl fun _=>by kernel_rfl
def qmb (s1014:(Int×Unit)) (a0:Dq5) (s1018:(Int×Unit)):Option ((Int×Unit)⊕((Int×Unit)⊕Dq8)) :=
 bif inB s1014.1 (List.length a0.2.2.1) then
  bif (iLt s1018.1 (lenI (List.getD a0.2.2.1 s1014.1.toNat ([]:(List Dq11))))) then
   bif inB s1014.1 (List.length a0.2.2.1) then
    let x1021:=List.getD a0.2.2.1 s1014.1.toNat ([]:(List Dq11))
    bif inB s1018.1 (List.length x1021) then
     let x1022:=List.getD x1021 s1018.1.toNat (((0,0,0,()),0,0,()):Dq11)
     (qqb a0.1 x1022.1).bind fun y1023 =>
     bif (! (iEq y1023.1.2.1 0)) then
      Option.map Sum.inr (Option.map Sum.inr (some ((false,()),())))
     else
     bif (fLt .f32 0 x1022.2.1) then
      bif (! (fLe .f32 x1022.2.1 1232348160)) then
       Option.map Sum.inr (Option.map Sum.inr (some ((false,()),())))
      else
      (qin x1022.2.2.1).bind fun y1028 =>
      bif (! y1028.1.1) then
       Option.map Sum.inr (Option.map Sum.inr (some ((false,()),())))
      else
      some (Sum.inl ((iAdd .i64 s1018.1 1),()))
     else
     Option.map Sum.inr (Option.map Sum.inr (some ((false,()),())))
    else none
   else none
  else
  Option.map Sum.inr (some (Sum.inl ((iAdd .i64 s1014.1 1),())))
 else none
def qma (a0:Dq5) (s1014:(Int×Unit)):Option ((Int×Unit)⊕Dq8) :=
 bif (iLt s1014.1 (lenI a0.2.2.1)) then
  bif inB s1014.1 (List.length a0.2.2.1) then
   bif (iLt 16 (lenI (List.getD a0.2.2.1 s1014.1.toNat ([]:(List Dq11))))) then
    Option.map Sum.inr (some ((false,()),()))
   else run (qmb s1014 a0) ((0:Int),())
  else none
 else
 Option.map Sum.inr (some ((true,()),()))
def qos (a0:Dq5):Option Dq8 :=
 (qip a0.1).bind fun y1008 =>
 bif (! y1008.1.1) then some ((false,()),()) else
 (ql7 a0.2.1).bind fun y1010 =>
 bif (! y1010.1.1) then some ((false,()),()) else
 (qb8 (lenI a0.2.2.1) (1:Int) (4:Int)).bind fun y1012 =>
 bif (! y1012.1.1) then some ((false,()),()) else run (qma a0) ((0:Int),())
def qxn:Entry:=⟨⟨[.ro Uq2],[.v (.val (.bool))],false⟩,fun x=>qos x.1⟩
theorem qagf:Sound Tryz.prog G 78 qxn:=qab (envS (l:=[(112,qd8),(116,qke),(117,qs3),(118,qvv),(119,qkb)]) ⟨(qfg),(qon),(qabh),(qad9),(qod),trivial⟩) [(4,.vary [(3,.sc (.int .i64))]),(9,.vary [(4,.sc (.int .i64))])] Tryz.func78 (by kernel_rfl) rfl fun _=>by kernel_rfl
def qgo (a1:(List Dq6)) (s991:(Int×Unit)):Option ((Int×Unit)⊕Dq13) :=
 bif (iLt s991.1 (lenI a1)) then
  bif inB s991.1 (List.length a1) then
   (qir (List.getD a1 s991.1.toNat Lq6)).bind fun y994 =>
   bif (! y994.1.1) then
    Option.map Sum.inr (some (((1:Int),()),()))
   else
   some (Sum.inl ((iAdd .i64 s991.1 1),()))
  else none
 else
 Option.map Sum.inr (bif (iLt 200 (lenI a1)) then some (((2:Int),()),()) else some (((0:Int),()),()))
def qrc (a0:Dq5) (a1:(List Dq6)):Option Dq13 :=
 (qos a0).bind fun y989 =>
 bif (! y989.1.1) then some (((1:Int),()),()) else run (qgo a1) ((0:Int),())
def qhl (a0:(Vec 3 Int)) (a1:(Vec 3 Int)):Option Dq13 :=
 bif (iLt (Vec.getD 3 a0 0 (0:Int)) (Vec.getD 3 a1 0 (0:Int))) then some ((Lq7,()),()) else
 bif (iLt (Vec.getD 3 a1 0 (0:Int)) (Vec.getD 3 a0 0 (0:Int))) then some (((1:Int),()),()) else
 bif (iLt (Vec.getD 3 a0 1 (0:Int)) (Vec.getD 3 a1 1 (0:Int))) then some ((Lq7,()),()) else
 bif (iLt (Vec.getD 3 a1 1 (0:Int)) (Vec.getD 3 a0 1 (0:Int))) then some (((1:Int),()),()) else
 bif (iLt (Vec.getD 3 a0 2 (0:Int)) (Vec.getD 3 a1 2 (0:Int))) then some ((Lq7,()),()) else
 bif (iLt (Vec.getD 3 a1 2 (0:Int)) (Vec.getD 3 a0 2 (0:Int))) then some (((1:Int),()),()) else some (((0:Int),()),())
def qkv:Entry:=⟨⟨[.v (.arr 3 (.int .i32)),.v (.arr 3 (.int .i32))],[.v (.val (.int .i64))],false⟩,fun x=>qhl x.1 x.2.1⟩
theorem qqv:Sound Tryz.prog G 191 qkv:=qab (envS (l:=[]) trivial) [(2,.unroll 4)] Tryz.func191 (by kernel_rfl) rfl fun _=>by kernel_rfl
def qoh (a0:Dq2):Option Dq8 :=
 (ql1 a0.2.1).bind fun y1175 =>
 bif y1175.1.1 then
  (qce a0.2.2.1).bind fun y1176 =>
  bif y1176.1.1 then
   bif (fLt .f32 0 a0.2.2.1) then
    (qb8 a0.2.2.2.1 (1:Int) (1000000:Int)).bind fun y1178 =>
    bif y1178.1.1 then
     (qin a0.2.2.2.2.1).bind fun y1179 =>
     some ((y1179.1.1,()),())
    else some ((false,()),())
   else some ((false,()),())
  else some ((false,()),())
 else some ((false,()),())
def qum:Entry:=⟨⟨[.ro Uq1],[.v (.val (.bool))],false⟩,fun x=>qoh x.1⟩
theorem qadh:Sound Tryz.prog G 190 qum:=qab (envS (l:=[(112,qd8),(119,qkb),(153,qd6),(186,qpv)]) ⟨(qfg),(qod),(qfl),(qv2),trivial⟩) [] Tryz.func190 (by kernel_rfl) rfl fun _=>by kernel_rfl
def ql8 (a0:Dq3) (s1145:(Int×Unit)):Option ((Int×Unit)⊕Dq8) :=
 bif (iLt s1145.1 (lenI a0.2.1)) then
  bif inB s1145.1 (List.length a0.2.1) then
   (qoh (List.getD a0.2.1 s1145.1.toNat Lq1)).bind fun y1147 =>
   bif (! y1147.1.1) then
    Option.map Sum.inr (some ((false,()),()))
   else
   bif (iLt 0 s1145.1) then
    let x1150:=iSub .i64 s1145.1 1
    bif inB x1150 (List.length a0.2.1) then
     bif inB s1145.1 (List.length a0.2.1) then
      (qhl ((List.getD a0.2.1 x1150.toNat Lq1).1) ((List.getD a0.2.1 s1145.1.toNat Lq1).1)).bind fun y1153 =>
      bif (iLe 0 y1153.1.1) then
       Option.map Sum.inr (some ((false,()),()))
      else
      some (Sum.inl ((iAdd .i64 s1145.1 1),()))
     else none
    else none
   else
   some (Sum.inl ((iAdd .i64 s1145.1 1),()))
  else none
 else
 Option.map Sum.inr (some ((true,()),()))
def qfp (a0:Dq3):Option Dq8 :=
 (qip a0.1).bind fun y1142 =>
 bif (! y1142.1.1) then some ((false,()),()) else
 bif (iLt 200 (lenI a0.2.1)) then some ((false,()),()) else run (ql8 a0) ((0:Int),())
def qjr:Entry:=⟨⟨[.ro Uq4],[.v (.val (.bool))],false⟩,fun x=>qfp x.1⟩
theorem ql9:Sound Tryz.prog G 157 qjr:=qab (envS (l:=[(116,qke),(190,qum),(191,qkv)]) ⟨(qon),(qadh),(qqv),trivial⟩) [(4,.vary [(3,.sc (.int .i64))])] Tryz.func157 (by kernel_rfl) rfl fun _=>by kernel_rfl
def qdq (a0:Int) (a1:Int):Option Dq13 :=
 bif (iLt a1 a0) then some ((a0,()),()) else some ((a1,()),())
def qpt:Entry:=⟨⟨[.v (.int .i64),.v (.int .i64)],[.v (.val (.int .i64))],false⟩,fun x=>qdq x.1 x.2.1⟩
theorem qvw:Sound Tryz.prog G 88 qpt:=qab (envS (l:=[]) trivial) [] Tryz.func88 (by kernel_rfl) rfl fun _=>by kernel_rfl
def qlz (a0:Int) (a1:Int):Option Dq13 :=
 bif (iLt a0 a1) then some ((a0,()),()) else some ((a1,()),())
def qvx:Entry:=⟨⟨[.v (.int .i64),.v (.int .i64)],[.v (.val (.int .i64))],false⟩,fun x=>qlz x.1 x.2.1⟩
theorem qaec:Sound Tryz.prog G 227 qvx:=qab (envS (l:=[]) trivial) [] Tryz.func227 (by kernel_rfl) rfl fun _=>by kernel_rfl
end
end Go.Proofs.YtjhdoneobdbeaaaGreatDoor
