import Derived.Test.YtjhdoneobdbeaaaGreatDoorF1
/- Functions on typed data: what the evaluation of each Go function is, and that it is sound. -/
set_option linter.unusedVariables false
namespace Go.Proofs.YtjhdoneobdbeaaaGreatDoor
open Go Go.Tm
noncomputable section
set_option maxRecDepth 100000
variable {G : List (Nat × Obj)}
def qdm (a0:Int) (a1:Int):Option Dq10 :=
 bif (iEq a1 10) then
  bif (iLt a0 100) then
   none
  else none
 else
 (qcb ([]:(List Int)) a0 a1 false false).bind fun y636 =>
 some ((y636.1.2.1,()),())
def qfc:Entry:=⟨⟨[.v (.int .u64),.v (.int .i64)],[.v (.val (.str))],false⟩,fun x=>qdm x.1 x.2.1⟩
theorem qk5 (db:GDeb Tryz.prog G):Sound Tryz.prog G 200 qfc:=qab (envS (l:=[(185,qfd)]) ⟨(qk6 db),trivial⟩) [] Tryz.func200 (by kernel_rfl) rfl fun _=>by kernel_rfl
def qfn (a0:Int) (a1:Int):Option Dq10 :=
 (qdm a0 a1).bind fun y632 =>
 some ((y632.1.1,()),())
def qkp:Entry:=⟨⟨[.v (.int .u64),.v (.int .i64)],[.v (.val (.str))],false⟩,fun x=>qfn x.1 x.2.1⟩
theorem qs1 (db:GDeb Tryz.prog G):Sound Tryz.prog G 162 qkp:=qab (envS (l:=[(200,qfc)]) ⟨(qk5 db),trivial⟩) [] Tryz.func162 (by kernel_rfl) rfl fun _=>by kernel_rfl
def qdj (s629:(List UInt8×Unit)):Option ((List UInt8×Unit)⊕Dq10) :=
 bif (iLt (lenI s629.1) 8) then
  bif strRoom ([48]) s629.1 then
   some (Sum.inl ((strCat ([48]) s629.1),()))
  else none
 else
 Option.map Sum.inr (some ((s629.1,()),()))
def qcw (a0:Nat):Option Dq10 :=
 (qiv a0).bind fun y624 =>
 bif y624.1.1 then some ((([55,102,99,48,48,48,48,48]:List UInt8),()),()) else
 allSame fun (q625:Nat) =>
 (qfn (iWrap .u64 (bitsF .f32 a0 q625)) (16:Int)).bind fun y628 =>
 run (qdj) (y628.1.1,())
def qe6:Entry:=⟨⟨[.v (.flt .f32)],[.v (.val (.str))],false⟩,fun x=>qcw x.1⟩
theorem qh6 (db:GDeb Tryz.prog G):Sound Tryz.prog G 128 qe6:=qab (envS (l:=[(161,qn6),(162,qkp)]) ⟨(qtz),(qs1 db),trivial⟩) [(4,.vary [(3,.sc (.str))])] Tryz.func128 (by kernel_rfl) rfl fun _=>by kernel_rfl
theorem qi4:Sound Tryz.prog G 249 qc9:=qoa Tryz.func249 (by kernel_rfl) (by kernel_rfl) (by kernel_rfl) (by kernel_rfl)
theorem qtv (sy:GErr 1 G) (ra:GErr 2 G):Sound Tryz.prog G 273 qg5:=qzq Tryz.func273 (by kernel_rfl) (by kernel_rfl) sy ra Tryz.hex_call
def qho (a0:List UInt8):Option ((Nat×Int×Unit)×Unit) :=
 (qb9 a0 (16:Int) (32:Int)).bind fun y618 =>
 (qa9 (iWrap .u32 y618.1.1)).bind fun y620 =>
 bif (! y618.1.2.1) then some (((0:Nat),(5:Int),()),()) else
 (qcw y620.1.1).bind fun y622 =>
 bif (! (sEq y622.1.1 a0)) then some (((0:Nat),(5:Int),()),()) else some ((y620.1.1,(0:Int),()),())
def qnq:Entry:=⟨⟨[.v (.str)],[.v (.val (.flt .f32)),.v (.val (.int .i64))],false⟩,fun x=>qho x.1⟩
theorem qu8 (sy:GErr 1 G) (ra:GErr 2 G) (db:GDeb Tryz.prog G):Sound Tryz.prog G 263 qnq:=qab (envS (l:=[(128,qe6),(249,qc9),(273,qg5)]) ⟨(qh6 db),(qi4),(qtv sy ra),trivial⟩) [] Tryz.func263 (by kernel_rfl) rfl fun _=>by kernel_rfl
def qai (a0:Dq5):Option ((Nat×Unit)×(Dq5×Unit)) :=
 (qbj ((a0.1,a0.2):Dq5)).bind fun y615 =>
 (qho y615.1.1).bind fun y616 =>
 bif y615.2.1.2.1 then some ((y616.1.1,()),(((y615.2.1.1,true,y615.2.1.2.2):Dq5),())) else
 some ((y616.1.1,()),(((y615.2.1.1,(! (iEq y616.1.2.1 0)),y615.2.1.2.2):Dq5),()))
def qd3:Entry:=⟨⟨[.io (.pair (.rows (.str)) (.val Uq8))],[.v (.val (.flt .f32))],false⟩,fun x=>qai x.1⟩
theorem qhr (sy:GErr 1 G) (ra:GErr 2 G) (db:GDeb Tryz.prog G):Sound Tryz.prog G 237 qd3:=qab (envS (l:=[(67,qc8),(263,qnq)]) ⟨(qex),(qu8 sy ra db),trivial⟩) [] Tryz.func237 (by kernel_rfl) rfl fun _=>by kernel_rfl
def qas (a0:Dq5):Option (((Vec 3 Nat)×Unit)×(Dq5×Unit)) :=
 (qai ((a0.1,a0.2):Dq5)).bind fun y732 =>
 (qai ((y732.2.1.1,y732.2.1.2):Dq5)).bind fun y733 =>
 (qai ((y733.2.1.1,y733.2.1.2):Dq5)).bind fun y734 =>
 some ((((y732.1.1,y733.1.1,y734.1.1,()):(Vec 3 Nat)),()),(((y734.2.1.1,y734.2.1.2):Dq5),()))
def qib:Entry:=⟨⟨[.io (.pair (.rows (.str)) (.val Uq8))],[.v (.val (.arr 3 (.flt .f32)))],false⟩,fun x=>qas x.1⟩
theorem qpn (sy:GErr 1 G) (ra:GErr 2 G) (db:GDeb Tryz.prog G):Sound Tryz.prog G 238 qib:=qab (envS (l:=[(237,qd3)]) ⟨(qhr sy ra db),trivial⟩) [(3,.unroll 4)] Tryz.func238 (by kernel_rfl) rfl fun _=>by kernel_rfl
def qg9 (a0:List UInt8):Option ((Dq5×Unit)×Unit) :=
 (strings_Split a0 ([32]:List UInt8)).bind fun y735 =>
 some ((((y735.1.1,false,()):Dq5),()),())
def qpo:Entry:=⟨⟨[.v (.str)],[.p (.pair (.rows (.str)) (.val Uq8))],false⟩,fun x=>qg9 x.1⟩
theorem qxr (mx:GMax 4 G):Sound Tryz.prog G 64 qpo:=qab (envS (l:=[(109,qg6)]) ⟨(qp5 mx),trivial⟩) [] Tryz.func64 (by kernel_rfl) rfl fun _=>by kernel_rfl
def qfa (x481:(List (List UInt8))) (s499:(Int×Dq3×Unit)):Option ((Int×Dq3×Unit)⊕((Dq3×Bool×Unit)×Unit)) :=
 bif (iLt s499.1 (lenI x481)) then
  bif inB s499.1 (List.length x481) then
   (qg9 (List.getD x481 s499.1.toNat ([]:List UInt8))).bind fun y502 =>
   (qad ((y502.1.1.1,y502.1.1.2):Dq5)).bind fun y503 =>
   bif y503.2.1.2.1 then
    let x504:=iWrap .i32 y503.1.1
    (qad ((y503.2.1.1,true,y503.2.1.2.2):Dq5)).bind fun y505 =>
    bif y505.2.1.2.1 then
     let x506:=iWrap .i32 y505.1.1
     (qad ((y505.2.1.1,true,y505.2.1.2.2):Dq5)).bind fun y507 =>
     bif y507.2.1.2.1 then
      (qas ((y507.2.1.1,true,y507.2.1.2.2):Dq5)).bind fun y509 =>
      (qai ((y509.2.1.1,y509.2.1.2):Dq5)).bind fun y510 =>
      (qad ((y510.2.1.1,y510.2.1.2):Dq5)).bind fun y511 =>
      (qad ((y511.2.1.1,y511.2.1.2):Dq5)).bind fun y512 =>
      (qao ((y512.2.1.1,y512.2.1.2):Dq5)).bind fun y513 =>
      bif (! y513.1.1) then
       Option.map Sum.inr (some ((Lq3,false,()),()))
      else
      bif room (List.length s499.2.1.2.1+1) 48 then
       some (Sum.inl ((iAdd .i64 s499.1 1),((s499.2.1.1,(s499.2.1.2.1++([((x504,x506,(iWrap .i32 y507.1.1),()),y509.1.1,y510.1.1,y511.1.1,y512.1.1,())]:(List Dq2))),s499.2.1.2.2):Dq3),()))
      else none
     else
     (qax y507.1.1 Lq9 (2147483647:Int)).bind fun y517 =>
     (qas ((y507.2.1.1,(! y517.1.1),y507.2.1.2.2):Dq5)).bind fun y520 =>
     (qai ((y520.2.1.1,y520.2.1.2):Dq5)).bind fun y521 =>
     (qad ((y521.2.1.1,y521.2.1.2):Dq5)).bind fun y522 =>
     (qad ((y522.2.1.1,y522.2.1.2):Dq5)).bind fun y523 =>
     (qao ((y523.2.1.1,y523.2.1.2):Dq5)).bind fun y524 =>
     bif (! y524.1.1) then
      Option.map Sum.inr (some ((Lq3,false,()),()))
     else
     bif room (List.length s499.2.1.2.1+1) 48 then
      some (Sum.inl ((iAdd .i64 s499.1 1),((s499.2.1.1,(s499.2.1.2.1++([((x504,x506,(iWrap .i32 y507.1.1),()),y520.1.1,y521.1.1,y522.1.1,y523.1.1,())]:(List Dq2))),s499.2.1.2.2):Dq3),()))
     else none
    else
    (qax y505.1.1 Lq9 (2147483647:Int)).bind fun y528 =>
    let x530:=iWrap .i32 y505.1.1
    (qad ((y505.2.1.1,(! y528.1.1),y505.2.1.2.2):Dq5)).bind fun y531 =>
    bif y531.2.1.2.1 then
     (qas ((y531.2.1.1,true,y531.2.1.2.2):Dq5)).bind fun y533 =>
     (qai ((y533.2.1.1,y533.2.1.2):Dq5)).bind fun y534 =>
     (qad ((y534.2.1.1,y534.2.1.2):Dq5)).bind fun y535 =>
     (qad ((y535.2.1.1,y535.2.1.2):Dq5)).bind fun y536 =>
     (qao ((y536.2.1.1,y536.2.1.2):Dq5)).bind fun y537 =>
     bif (! y537.1.1) then
      Option.map Sum.inr (some ((Lq3,false,()),()))
     else
     bif room (List.length s499.2.1.2.1+1) 48 then
      some (Sum.inl ((iAdd .i64 s499.1 1),((s499.2.1.1,(s499.2.1.2.1++([((x504,x530,(iWrap .i32 y531.1.1),()),y533.1.1,y534.1.1,y535.1.1,y536.1.1,())]:(List Dq2))),s499.2.1.2.2):Dq3),()))
     else none
    else
    (qax y531.1.1 Lq9 (2147483647:Int)).bind fun y541 =>
    (qas ((y531.2.1.1,(! y541.1.1),y531.2.1.2.2):Dq5)).bind fun y544 =>
    (qai ((y544.2.1.1,y544.2.1.2):Dq5)).bind fun y545 =>
    (qad ((y545.2.1.1,y545.2.1.2):Dq5)).bind fun y546 =>
    (qad ((y546.2.1.1,y546.2.1.2):Dq5)).bind fun y547 =>
    (qao ((y547.2.1.1,y547.2.1.2):Dq5)).bind fun y548 =>
    bif (! y548.1.1) then
     Option.map Sum.inr (some ((Lq3,false,()),()))
    else
    bif room (List.length s499.2.1.2.1+1) 48 then
     some (Sum.inl ((iAdd .i64 s499.1 1),((s499.2.1.1,(s499.2.1.2.1++([((x504,x530,(iWrap .i32 y531.1.1),()),y544.1.1,y545.1.1,y546.1.1,y547.1.1,())]:(List Dq2))),s499.2.1.2.2):Dq3),()))
    else none
   else
   (qax y503.1.1 Lq9 (2147483647:Int)).bind fun y552 =>
   let x554:=iWrap .i32 y503.1.1
   (qad ((y503.2.1.1,(! y552.1.1),y503.2.1.2.2):Dq5)).bind fun y555 =>
   bif y555.2.1.2.1 then
    let x556:=iWrap .i32 y555.1.1
    (qad ((y555.2.1.1,true,y555.2.1.2.2):Dq5)).bind fun y557 =>
    bif y557.2.1.2.1 then
     (qas ((y557.2.1.1,true,y557.2.1.2.2):Dq5)).bind fun y559 =>
     (qai ((y559.2.1.1,y559.2.1.2):Dq5)).bind fun y560 =>
     (qad ((y560.2.1.1,y560.2.1.2):Dq5)).bind fun y561 =>
     (qad ((y561.2.1.1,y561.2.1.2):Dq5)).bind fun y562 =>
     (qao ((y562.2.1.1,y562.2.1.2):Dq5)).bind fun y563 =>
     bif (! y563.1.1) then
      Option.map Sum.inr (some ((Lq3,false,()),()))
     else
     bif room (List.length s499.2.1.2.1+1) 48 then
      some (Sum.inl ((iAdd .i64 s499.1 1),((s499.2.1.1,(s499.2.1.2.1++([((x554,x556,(iWrap .i32 y557.1.1),()),y559.1.1,y560.1.1,y561.1.1,y562.1.1,())]:(List Dq2))),s499.2.1.2.2):Dq3),()))
     else none
    else
    (qax y557.1.1 Lq9 (2147483647:Int)).bind fun y567 =>
    (qas ((y557.2.1.1,(! y567.1.1),y557.2.1.2.2):Dq5)).bind fun y570 =>
    (qai ((y570.2.1.1,y570.2.1.2):Dq5)).bind fun y571 =>
    (qad ((y571.2.1.1,y571.2.1.2):Dq5)).bind fun y572 =>
    (qad ((y572.2.1.1,y572.2.1.2):Dq5)).bind fun y573 =>
    (qao ((y573.2.1.1,y573.2.1.2):Dq5)).bind fun y574 =>
    bif (! y574.1.1) then
     Option.map Sum.inr (some ((Lq3,false,()),()))
    else
    bif room (List.length s499.2.1.2.1+1) 48 then
     some (Sum.inl ((iAdd .i64 s499.1 1),((s499.2.1.1,(s499.2.1.2.1++([((x554,x556,(iWrap .i32 y557.1.1),()),y570.1.1,y571.1.1,y572.1.1,y573.1.1,())]:(List Dq2))),s499.2.1.2.2):Dq3),()))
    else none
   else
   (qax y555.1.1 Lq9 (2147483647:Int)).bind fun y578 =>
   let x580:=iWrap .i32 y555.1.1
   (qad ((y555.2.1.1,(! y578.1.1),y555.2.1.2.2):Dq5)).bind fun y581 =>
   bif y581.2.1.2.1 then
    (qas ((y581.2.1.1,true,y581.2.1.2.2):Dq5)).bind fun y583 =>
    (qai ((y583.2.1.1,y583.2.1.2):Dq5)).bind fun y584 =>
    (qad ((y584.2.1.1,y584.2.1.2):Dq5)).bind fun y585 =>
    (qad ((y585.2.1.1,y585.2.1.2):Dq5)).bind fun y586 =>
    (qao ((y586.2.1.1,y586.2.1.2):Dq5)).bind fun y587 =>
    bif (! y587.1.1) then
     Option.map Sum.inr (some ((Lq3,false,()),()))
    else
    bif room (List.length s499.2.1.2.1+1) 48 then
     some (Sum.inl ((iAdd .i64 s499.1 1),((s499.2.1.1,(s499.2.1.2.1++([((x554,x580,(iWrap .i32 y581.1.1),()),y583.1.1,y584.1.1,y585.1.1,y586.1.1,())]:(List Dq2))),s499.2.1.2.2):Dq3),()))
    else none
   else
   (qax y581.1.1 Lq9 (2147483647:Int)).bind fun y591 =>
   (qas ((y581.2.1.1,(! y591.1.1),y581.2.1.2.2):Dq5)).bind fun y594 =>
   (qai ((y594.2.1.1,y594.2.1.2):Dq5)).bind fun y595 =>
   (qad ((y595.2.1.1,y595.2.1.2):Dq5)).bind fun y596 =>
   (qad ((y596.2.1.1,y596.2.1.2):Dq5)).bind fun y597 =>
   (qao ((y597.2.1.1,y597.2.1.2):Dq5)).bind fun y598 =>
   bif (! y598.1.1) then
    Option.map Sum.inr (some ((Lq3,false,()),()))
   else
   bif room (List.length s499.2.1.2.1+1) 48 then
    some (Sum.inl ((iAdd .i64 s499.1 1),((s499.2.1.1,(s499.2.1.2.1++([((x554,x580,(iWrap .i32 y581.1.1),()),y594.1.1,y595.1.1,y596.1.1,y597.1.1,())]:(List Dq2))),s499.2.1.2.2):Dq3),()))
   else none
  else none
 else
 Option.map Sum.inr (
  (qdr ((s499.2.1.1,s499.2.1.2.1,s499.2.1.2.2):Dq3)).bind fun y602 =>
  some ((((s499.2.1.1,s499.2.1.2.1,s499.2.1.2.2):Dq3),y602.1.1,()),()))
def qk3 (a0:(List (List UInt8))):Option ((Dq3×Bool×Unit)×Unit) :=
 bif inB 0 (List.length a0) then
  (qg9 (List.getD a0 0 ([]:List UInt8))).bind fun y476 =>
  (qd2 ((y476.1.1.1,y476.1.1.2):Dq5) ([109,97,112]:List UInt8)).bind fun y477 =>
  (qai ((y477.2.1.1,y477.2.1.2):Dq5)).bind fun y478 =>
  (qao ((y478.2.1.1,y478.2.1.2):Dq5)).bind fun y479 =>
  bif (! y479.1.1) then some ((Lq3,false,()),()) else
  bif inS 1 (lenI a0) (List.length a0) then
   let x481:=dropL a0 1
   run (qfa x481) ((0:Int),((y478.1.1,[],()):Dq3),())
  else none
 else none
def qqo:Entry:=⟨⟨[.v (.list (.str))],[.v (.pair (.val (.flt .f32)) (.pair (.rows Uq1) (.val (.unit)))),.v (.val (.bool))],false⟩,fun x=>qk3 x.1⟩
theorem qyz (mx:GMax 4 G) (tb:GTab Tryz.prog G) (sy:GErr 1 G) (ra:GErr 2 G) (db:GDeb Tryz.prog G):Sound Tryz.prog G 203 qqo:=qab (envS (l:=[(50,qb2),(64,qpo),(68,qg8),(69,qh9),(115,qi3),(159,qgr),(237,qd3),(238,qib)]) ⟨(qcq),(qxr mx),(qn8 tb sy ra),(qpm),(qp8),(qj4),(qhr sy ra db),(qpn sy ra db),trivial⟩) [(7,.vary [(28,.sc (.int .i64)),(5,.box (.pair (.val (.flt .f32)) (.pair (.rows Uq1) (.val (.unit)))))]),(12,.unroll 4)] Tryz.func203 (by kernel_rfl) rfl fun _=>by kernel_rfl
def qkx (a0:List UInt8):Option Dq18 :=
 bif (iLt 40000 (lenI a0)) then some ((Lq3,(2:Int),()),()) else
 (qk1 a0).bind fun y466 =>
 bif (! y466.1.2.1) then some ((Lq3,(5:Int),()),()) else
 (qk3 y466.1.1).bind fun y468 =>
 bif (! y468.1.2.1) then some ((Lq3,(5:Int),()),()) else some ((((y468.1.1.1,y468.1.1.2.1,y468.1.1.2.2):Dq3),(0:Int),()),())
def qqg:Entry:=⟨⟨[.v (.str)],[.v (.pair (.val (.flt .f32)) (.pair (.rows Uq1) (.val (.unit)))),.v (.val (.int .i64))],false⟩,fun x=>qkx x.1⟩
theorem qyo (mx:GMax 4 G) (tb:GTab Tryz.prog G) (sy:GErr 1 G) (ra:GErr 2 G) (db:GDeb Tryz.prog G):Sound Tryz.prog G 166 qqg:=qab (envS (l:=[(202,qqk),(203,qqo)]) ⟨(qyu mx),(qyz mx tb sy ra db),trivial⟩) [] Tryz.func166 (by kernel_rfl) rfl fun _=>by kernel_rfl
def qdl (a0:Dq1) (a1:Dq16):Option ((Unit)×(Dq1×Unit)) :=
 (qkx a1.2.1).bind fun y438 =>
 bif (! (iEq y438.1.2.1 0)) then
  some ((),(((a0.1,(a0.2.1.1,a0.2.1.2.1,a0.2.1.2.2.1,a0.2.1.2.2.2),a0.2.2):Dq1),()))
 else
 bif inB a1.1 (List.length a0.2.1.1) then
  (qfz ((List.getD a0.2.1.1 a1.1.toNat Lq4).1) ((y438.1.1.1,y438.1.1.2.1,y438.1.1.2.2):Dq3)).bind fun y441 =>
  bif (iEq y441.1.2.1 0) then
   some ((),(((a0.1,((List.set a0.2.1.1 a1.1.toNat (((y441.1.1.1,y441.1.1.2.1,y441.1.1.2.2),(List.getD a0.2.1.1 a1.1.toNat Lq4).2):Dq9)),a0.2.1.2.1,a0.2.1.2.2.1,a0.2.1.2.2.2),a0.2.2):Dq1),()))
  else
  some ((),(((a0.1,(a0.2.1.1,a0.2.1.2.1,a0.2.1.2.2.1,a0.2.1.2.2.2),a0.2.2):Dq1),()))
 else none
def qkl:Entry:=⟨⟨[.io (.pair (.val Uq2) (.pair (.pair (.rows Uq3) (.pair (.rows Uq3) (.pair (.rows Uq7) (.val (.unit))))) (.val (.unit)))),.v Uq7],[],true⟩,fun x=>qdl x.1 x.2.1⟩
theorem qse (mx:GMax 4 G) (tb:GTab Tryz.prog G) (sy:GErr 1 G) (ra:GErr 2 G) (db:GDeb Tryz.prog G):Sound Tryz.prog G 134 qkl:=qab (envS (l:=[(166,qqg),(167,qoj)]) ⟨(qyo mx tb sy ra db),(qwa),trivial⟩) [] Tryz.func134 (by kernel_rfl) rfl fun _=>by kernel_rfl
theorem qmz:Sound Tryz.prog G 133 qf9:=qall
def qdd (a0:Dq1) (a1:Dq6):Option Dq20 :=
 (qax a1.2.1 (0:Int) (iSub .i64 (lenI a0.2.1.2.2.1) 1)).bind fun y428 =>
 bif (! y428.1.1) then
  some (((2:Int),()),(((a0.1,(a0.2.1.1,a0.2.1.2.1,a0.2.1.2.2.1,a0.2.1.2.2.2),a0.2.2):Dq1),()))
 else
 bif inB a1.2.1 (List.length a0.2.1.2.2.1) then
  let x430:=List.getD a0.2.1.2.2.1 a1.2.1.toNat ((0,[],()):Dq16)
  bif (! (iEq a1.1 4)) then
   (qhu a0.2.1.2.2.1 a1.2.1 (iAdd .i64 a1.2.1 1)).bind fun y433 =>
   bif (! (iEq a1.1 5)) then
    (qdl ((a0.1,(a0.2.1.1,a0.2.1.2.1,y433.1.1,a0.2.1.2.2.2),a0.2.2):Dq1) x430).bind fun y435 =>
    some (((0:Int),()),(((y435.2.1.1,(y435.2.1.2.1.1,y435.2.1.2.1.2.1,y435.2.1.2.1.2.2.1,y435.2.1.2.1.2.2.2),y435.2.1.2.2):Dq1),()))
   else
   some (((0:Int),()),(((a0.1,(a0.2.1.1,a0.2.1.2.1,y433.1.1,a0.2.1.2.2.2),a0.2.2):Dq1),()))
  else
  bif (! (iEq a1.1 5)) then
   (qdl ((a0.1,(a0.2.1.1,a0.2.1.2.1,a0.2.1.2.2.1,a0.2.1.2.2.2),a0.2.2):Dq1) x430).bind fun y437 =>
   some (((0:Int),()),(((y437.2.1.1,(y437.2.1.2.1.1,y437.2.1.2.1.2.1,y437.2.1.2.1.2.2.1,y437.2.1.2.1.2.2.2),y437.2.1.2.2):Dq1),()))
  else
  some (((0:Int),()),(((a0.1,(a0.2.1.1,a0.2.1.2.1,a0.2.1.2.2.1,a0.2.1.2.2.2),a0.2.2):Dq1),()))
 else none
def qmf:Entry:=⟨⟨[.io (.pair (.val Uq2) (.pair (.pair (.rows Uq3) (.pair (.rows Uq3) (.pair (.rows Uq7) (.val (.unit))))) (.val (.unit)))),.v Uq5],[.v (.val (.int .i64))],true⟩,fun x=>qdd x.1 x.2.1⟩
theorem qui (mx:GMax 4 G) (tb:GTab Tryz.prog G) (sy:GErr 1 G) (ra:GErr 2 G) (db:GDeb Tryz.prog G):Sound Tryz.prog G 94 qmf:=qab (envS (l:=[(50,qb2),(133,qf9),(134,qkl)]) ⟨(qcq),(qmz),(qse mx tb sy ra db),trivial⟩) [] Tryz.func94 (by kernel_rfl) rfl fun _=>by kernel_rfl
theorem qm4:Sound Tryz.prog G 113 qgf:=qyf (by decide) Tryz.func113 (by kernel_rfl) (by kernel_rfl) (Any.Builder_copyCheck_fresh Tryz.lays240 Tryz.Builder_X72_240) (Any.Builder_copyCheck_used Tryz.lays240 Tryz.Builder_X72_240)
def qa5 (a0:Dq12) (a1:List UInt8):Option ((Int×Bool×Unit)×(Dq12×Unit)) :=
 (qd6 ((a0.1,a0.2.1,a0.2.2):Dq12)).bind fun y775 =>
 bif room (List.length y775.2.1.2.1+List.length (bytesOf a1)) 1 then
  some ((lenI a1,true,()),(((y775.2.1.1,(y775.2.1.2.1++(bytesOf a1)),y775.2.1.2.2):Dq12),()))
 else none
def qfo:Entry:=⟨⟨[.io (.pair (.val (.ref 138)) (.pair (.rows (.int .u8)) (.val (.unit)))),.v (.str)],[.v (.val (.int .i64)),.v (.val (.err))],true⟩,fun x=>qa5 x.1 x.2.1⟩
theorem ql4:Sound Tryz.prog G 75 qfo:=qab (envS (l:=[(113,qgf)]) ⟨(qm4),trivial⟩) [] Tryz.func75 (by kernel_rfl) rfl fun _=>by kernel_rfl
theorem qru:Sound Tryz.prog G 131 strings_Join_en:=qagp Tryz.func131 (by kernel_rfl) (by kernel_rfl) Tryz.strings_Join_none Tryz.strings_Join
def qbd (a0:(List Nat)) (s778:((List (List UInt8))×Int×Unit)):Option (((List (List UInt8))×Int×Unit)⊕Dq10) :=
 bif (iLt s778.2.1 (lenI a0)) then
  bif inB s778.2.1 (List.length a0) then
   (qcw (List.getD a0 s778.2.1.toNat (0:Nat))).bind fun y781 =>
   bif room (List.length s778.1+1) 16 then
    some (Sum.inl ((s778.1++([y781.1.1]:(List (List UInt8)))),(iAdd .i64 s778.2.1 1),()))
   else none
  else none
 else
 Option.map Sum.inr (
  (strings_Join s778.1 ([32]:List UInt8)).bind fun y784 =>
  some ((y784.1.1,()),()))
def qgw (a0:(List Nat)):Option Dq10 :=
 run (qbd a0) (([]:(List (List UInt8))),(0:Int),())
def qme:Entry:=⟨⟨[.v (.list (.flt .f32))],[.v (.val (.str))],false⟩,fun x=>qgw x.1⟩
theorem quh (db:GDeb Tryz.prog G):Sound Tryz.prog G 163 qme:=qab (envS (l:=[(128,qe6),(131,strings_Join_en)]) ⟨(qh6 db),(qru),trivial⟩) [(3,.vary [(3,.rows (.str)),(9,.sc (.int .i64))])] Tryz.func163 (by kernel_rfl) rfl fun _=>by kernel_rfl
def qky (a0:(Vec 3 Nat)):Option Dq10 :=
 (qgw ([Vec.getD 3 a0 0 (0:Nat),Vec.getD 3 a0 1 (0:Nat),Vec.getD 3 a0 2 (0:Nat)]:(List Nat))).bind fun y777 =>
 some ((y777.1.1,()),())
def qqh:Entry:=⟨⟨[.v (.arr 3 (.flt .f32))],[.v (.val (.str))],false⟩,fun x=>qky x.1⟩
theorem qyq (db:GDeb Tryz.prog G):Sound Tryz.prog G 130 qqh:=qab (envS (l:=[(163,qme)]) ⟨(quh db),trivial⟩) [] Tryz.func130 (by kernel_rfl) rfl fun _=>by kernel_rfl
def qcm (a0:Int):Option Dq10 :=
 (qbe (iWrap .i64 a0) (10:Int)).bind fun y786 =>
 some ((y786.1.1,()),())
def qkj:Entry:=⟨⟨[.v (.int .i32)],[.v (.val (.str))],false⟩,fun x=>qcm x.1⟩
theorem qsd (tb:GTab Tryz.prog G):Sound Tryz.prog G 129 qkj:=qab (envS (l:=[(111,qd5)]) ⟨(ql3 tb),trivial⟩) [] Tryz.func129 (by kernel_rfl) rfl fun _=>by kernel_rfl
def qe9 (a0:Dq3) (s757:(Int×Dq12×Unit)):Option ((Int×Dq12×Unit)⊕Dq10) :=
 bif (iLt s757.1 (lenI a0.2.1)) then
  bif inB s757.1 (List.length a0.2.1) then
   let x759:=List.getD a0.2.1 s757.1.toNat Lq1
   (qcm (Vec.getD 3 x759.1 0 (0:Int))).bind fun y761 =>
   (qcm (Vec.getD 3 x759.1 1 (0:Int))).bind fun y763 =>
   (qcm (Vec.getD 3 x759.1 2 (0:Int))).bind fun y765 =>
   (qky x759.2.1).bind fun y766 =>
   (qcw x759.2.2.1).bind fun y767 =>
   (qcn x759.2.2.2.1).bind fun y768 =>
   (qcn x759.2.2.2.2.1).bind fun y769 =>
   (strings_Join ([y761.1.1,y763.1.1,y765.1.1,y766.1.1,y767.1.1,y768.1.1,y769.1.1]:(List (List UInt8))) ([32]:List UInt8)).bind fun y770 =>
   bif strRoom y770.1.1 ([10]) then
    (qa5 ((s757.2.1.1,s757.2.1.2.1,s757.2.1.2.2):Dq12) (strCat y770.1.1 ([10]))).bind fun y772 =>
    some (Sum.inl ((iAdd .i64 s757.1 1),((y772.2.1.1,y772.2.1.2.1,y772.2.1.2.2):Dq12),()))
   else none
  else none
 else
 Option.map Sum.inr (
  (bldStr ((s757.2.1.1,s757.2.1.2.1,s757.2.1.2.2):Dq12)).bind fun y774 =>
  some ((y774,()),()))
def qk2 (a0:Dq3):Option Dq10 :=
 (qcw a0.1).bind fun y736 =>
 bif strRoom ([109,97,112,32]) y736.1.1 then
  let x737:=strCat ([109,97,112,32]) y736.1.1
  bif strRoom x737 ([10]) then
   (qa5 (((),[],()):Dq12) (strCat x737 ([10]))).bind fun y739 =>
   run (qe9 a0) ((0:Int),((y739.2.1.1,y739.2.1.2.1,y739.2.1.2.2):Dq12),())
  else none
 else none
def qql:Entry:=⟨⟨[.v Uq6],[.v (.val (.str))],false⟩,fun x=>qk2 x.1⟩
theorem qyw (tb:GTab Tryz.prog G) (db:GDeb Tryz.prog G):Sound Tryz.prog G 92 qql:=qab (envS (l:=[(70,qf2),(75,qfo),(128,qe6),(129,qkj),(130,qqh),(131,strings_Join_en)]) ⟨(qkk tb),(ql4),(qh6 db),(qsd tb),(qyq db),(qru),trivial⟩) [(4,.vary [(16,.sc (.int .i64)),(3,.box (.pair (.val (.ref 138)) (.pair (.rows (.int .u8)) (.val (.unit)))))])] Tryz.func92 (by kernel_rfl) rfl fun _=>by kernel_rfl
def qej (a0:Dq9):Option ((Dq9×Unit)×Unit) :=
 (qfq a0.1).bind fun y787 =>
 some (((((y787.1.1.1,y787.1.1.2.1,y787.1.1.2.2),a0.2.1,()):Dq9),()),())
def qqn:Entry:=⟨⟨[.v Uq3],[.v (.pair (.pair (.val (.flt .f32)) (.pair (.rows Uq1) (.val (.unit)))) (.val Uq9))],false⟩,fun x=>qej x.1⟩
theorem qyy:Sound Tryz.prog G 93 qqn:=qab (envS (l:=[(132,qiy)]) ⟨(qmv),trivial⟩) [] Tryz.func93 (by kernel_rfl) rfl fun _=>by kernel_rfl
def qcp (a0:Dq1) (a1:Dq6):Option Dq20 :=
 bif (iEq a1.1 1) then
  (qfb ((a0.1,(a0.2.1.1,a0.2.1.2.1,a0.2.1.2.2.1,a0.2.1.2.2.2),a0.2.2):Dq1) a1.2.1).bind fun y36 =>
  some ((y36.1.1,()),(((y36.2.1.1,(y36.2.1.2.1.1,y36.2.1.2.1.2.1,y36.2.1.2.1.2.2.1,y36.2.1.2.1.2.2.2),y36.2.1.2.2):Dq1),()))
 else
 bif (iEq a1.1 2) then
  (qbr ((a0.1,(a0.2.1.1,a0.2.1.2.1,a0.2.1.2.2.1,a0.2.1.2.2.2),a0.2.2):Dq1) a1.2.1).bind fun y38 =>
  bif (! y38.1.1) then
   some (((2:Int),()),(((y38.2.1.1,(y38.2.1.2.1.1,y38.2.1.2.1.2.1,y38.2.1.2.1.2.2.1,y38.2.1.2.1.2.2.2),y38.2.1.2.2):Dq1),()))
  else
  (qbr ((y38.2.1.1,(y38.2.1.2.1.1,y38.2.1.2.1.2.1,y38.2.1.2.1.2.2.1,y38.2.1.2.1.2.2.2),y38.2.1.2.2):Dq1) a1.2.2.1).bind fun y40 =>
  bif (! y40.1.1) then
   some (((2:Int),()),(((y40.2.1.1,(y40.2.1.2.1.1,y40.2.1.2.1.2.1,y40.2.1.2.1.2.2.1,y40.2.1.2.1.2.2.2),y40.2.1.2.2):Dq1),()))
  else
  bif (iEq a1.2.1 a1.2.2.1) then
   some (((2:Int),()),(((y40.2.1.1,(y40.2.1.2.1.1,y40.2.1.2.1.2.1,y40.2.1.2.1.2.2.1,y40.2.1.2.1.2.2.2),y40.2.1.2.2):Dq1),()))
  else
  bif (iEq (lenI y40.2.1.2.1.2.2.1) 10) then
   some (((3:Int),()),(((y40.2.1.1,(y40.2.1.2.1.1,y40.2.1.2.1.2.1,y40.2.1.2.1.2.2.1,y40.2.1.2.1.2.2.2),y40.2.1.2.2):Dq1),()))
  else
  bif inB a1.2.1 (List.length y40.2.1.2.1.1) then
   (qk2 ((List.getD y40.2.1.2.1.1 a1.2.1.toNat Lq4).1)).bind fun y45 =>
   bif room (List.length y40.2.1.2.1.2.2.1+1) 24 then
    some (((0:Int),()),(((y40.2.1.1,(y40.2.1.2.1.1,y40.2.1.2.1.2.1,(y40.2.1.2.1.2.2.1++([(a1.2.2.1,y45.1.1,())]:(List Dq16))),y40.2.1.2.1.2.2.2),y40.2.1.2.2):Dq1),()))
   else none
  else none
 else
 let x47:=iEq a1.1 6
 bif x47 then
  bif x47 then
   (qbr ((a0.1,(a0.2.1.1,a0.2.1.2.1,a0.2.1.2.2.1,a0.2.1.2.2.2),a0.2.2):Dq1) a1.2.1).bind fun y48 =>
   bif (! y48.1.1) then
    some (((2:Int),()),(((y48.2.1.1,(y48.2.1.2.1.1,y48.2.1.2.1.2.1,y48.2.1.2.1.2.2.1,y48.2.1.2.1.2.2.2),y48.2.1.2.2):Dq1),()))
   else
   bif (iEq a1.1 6) then
    bif inB a1.2.1 (List.length y48.2.1.2.1.1) then
     (qej (List.getD y48.2.1.2.1.1 a1.2.1.toNat Lq4)).bind fun y52 =>
     bif inB a1.2.1 (List.length y48.2.1.2.1.2.1) then
      some (((0:Int),()),(((y48.2.1.1,(y48.2.1.2.1.1,(List.set y48.2.1.2.1.2.1 a1.2.1.toNat (((y52.1.1.1.1,y52.1.1.1.2.1,y52.1.1.1.2.2),y52.1.1.2):Dq9)),y48.2.1.2.1.2.2.1,y48.2.1.2.1.2.2.2),y48.2.1.2.2):Dq1),()))
     else none
    else none
   else
   bif inB a1.2.1 (List.length y48.2.1.2.1.2.1) then
    (qej (List.getD y48.2.1.2.1.2.1 a1.2.1.toNat Lq4)).bind fun y55 =>
    bif inB a1.2.1 (List.length y48.2.1.2.1.1) then
     some (((0:Int),()),(((y48.2.1.1,((List.set y48.2.1.2.1.1 a1.2.1.toNat (((y55.1.1.1.1,y55.1.1.1.2.1,y55.1.1.1.2.2),y55.1.1.2):Dq9)),y48.2.1.2.1.2.1,y48.2.1.2.1.2.2.1,y48.2.1.2.1.2.2.2),y48.2.1.2.2):Dq1),()))
    else none
   else none
  else
  (qdd ((a0.1,(a0.2.1.1,a0.2.1.2.1,a0.2.1.2.2.1,a0.2.1.2.2.2),a0.2.2):Dq1) a1).bind fun y57 =>
  some ((y57.1.1,()),(((y57.2.1.1,(y57.2.1.2.1.1,y57.2.1.2.1.2.1,y57.2.1.2.1.2.2.1,y57.2.1.2.1.2.2.2),y57.2.1.2.2):Dq1),()))
 else
 bif (iEq a1.1 7) then
  (qbr ((a0.1,(a0.2.1.1,a0.2.1.2.1,a0.2.1.2.2.1,a0.2.1.2.2.2),a0.2.2):Dq1) a1.2.1).bind fun y59 =>
  bif (! y59.1.1) then
   some (((2:Int),()),(((y59.2.1.1,(y59.2.1.2.1.1,y59.2.1.2.1.2.1,y59.2.1.2.1.2.2.1,y59.2.1.2.1.2.2.2),y59.2.1.2.2):Dq1),()))
  else
  bif (iEq a1.1 6) then
   bif inB a1.2.1 (List.length y59.2.1.2.1.1) then
    (qej (List.getD y59.2.1.2.1.1 a1.2.1.toNat Lq4)).bind fun y63 =>
    bif inB a1.2.1 (List.length y59.2.1.2.1.2.1) then
     some (((0:Int),()),(((y59.2.1.1,(y59.2.1.2.1.1,(List.set y59.2.1.2.1.2.1 a1.2.1.toNat (((y63.1.1.1.1,y63.1.1.1.2.1,y63.1.1.1.2.2),y63.1.1.2):Dq9)),y59.2.1.2.1.2.2.1,y59.2.1.2.1.2.2.2),y59.2.1.2.2):Dq1),()))
    else none
   else none
  else
  bif inB a1.2.1 (List.length y59.2.1.2.1.2.1) then
   (qej (List.getD y59.2.1.2.1.2.1 a1.2.1.toNat Lq4)).bind fun y66 =>
   bif inB a1.2.1 (List.length y59.2.1.2.1.1) then
    some (((0:Int),()),(((y59.2.1.1,((List.set y59.2.1.2.1.1 a1.2.1.toNat (((y66.1.1.1.1,y66.1.1.1.2.1,y66.1.1.1.2.2),y66.1.1.2):Dq9)),y59.2.1.2.1.2.1,y59.2.1.2.1.2.2.1,y59.2.1.2.1.2.2.2),y59.2.1.2.2):Dq1),()))
   else none
  else none
 else
 (qdd ((a0.1,(a0.2.1.1,a0.2.1.2.1,a0.2.1.2.2.1,a0.2.1.2.2.2),a0.2.2):Dq1) a1).bind fun y68 =>
 some ((y68.1.1,()),(((y68.2.1.1,(y68.2.1.2.1.1,y68.2.1.2.1.2.1,y68.2.1.2.1.2.2.1,y68.2.1.2.1.2.2.2),y68.2.1.2.2):Dq1),()))
def qoo:Entry:=⟨⟨[.io (.pair (.val Uq2) (.pair (.pair (.rows Uq3) (.pair (.rows Uq3) (.pair (.rows Uq7) (.val (.unit))))) (.val (.unit)))),.v Uq5],[.v (.val (.int .i64))],true⟩,fun x=>qcp x.1 x.2.1⟩
theorem qwg (mx:GMax 4 G) (tb:GTab Tryz.prog G) (sy:GErr 1 G) (ra:GErr 2 G) (db:GDeb Tryz.prog G):Sound Tryz.prog G 46 qoo:=qab (envS (l:=[(54,qic),(91,qnw),(92,qql),(93,qqn),(94,qmf)]) ⟨(qnv),(qvd),(qyw tb db),(qyy),(qui mx tb sy ra db),trivial⟩) [] Tryz.func46 (by kernel_rfl) rfl fun _=>by kernel_rfl
def qmt (a0:Nat):Option Dq8 :=
 some (((fLt .f32 a0 0),()),())
def qom:Entry:=⟨⟨[.v (.flt .f32)],[.v (.val (.bool))],false⟩,fun x=>qmt x.1⟩
theorem qwe:Sound Tryz.prog G 97 qom:=qab (envS (l:=[]) trivial) [] Tryz.func97 (by kernel_rfl) rfl fun _=>by kernel_rfl
def qdo (a0:(List Nat)) (a1:((Nat×Unit)→Option Bool)) (s822:(Int×Unit)):Option ((Int×Unit)⊕Dq11) :=
 bif (iLt s822.1 (lenI a0)) then
  bif inB s822.1 (List.length a0) then
   (a1 ((List.getD a0 s822.1.toNat (0:Nat)),())).bind fun y825 =>
   bif y825 then
    Option.map Sum.inr (some ((s822.1,()),()))
   else
   some (Sum.inl ((iAdd .i64 s822.1 1),()))
  else none
 else
 Option.map Sum.inr (some ((Lq6,()),()))
def qcy (a0:(List Nat)) (a1:((Nat×Unit)→Option Bool)):Option Dq11 :=
 run (qdo a0 a1) ((0:Int),())
def qgj:Entry:=⟨⟨[.v (.list (.flt .f32)),.fn ⟨[.flt .f32],.bool⟩],[.v (.val (.int .i64))],false⟩,fun x=>qcy x.1 x.2.1⟩
theorem qn0:Sound Tryz.prog G 135 qgj:=qab (envS (l:=[]) trivial) [(2,.vary [(8,.sc (.int .i64))])] Tryz.func135 (by kernel_rfl) rfl fun _=>by kernel_rfl
def qcc (a0:(List Nat)) (a1:((Nat×Unit)→Option Bool)):Option Dq8 :=
 (qcy a0 a1).bind fun y820 =>
 some (((iLe 0 y820.1.1),()),())
def qfg:Entry:=⟨⟨[.v (.list (.flt .f32)),.fn ⟨[.flt .f32],.bool⟩],[.v (.val (.bool))],false⟩,fun x=>qcc x.1 x.2.1⟩
theorem qlj:Sound Tryz.prog G 96 qfg:=qab (envS (l:=[(135,qgj)]) ⟨(qn0),trivial⟩) [] Tryz.func96 (by kernel_rfl) rfl fun _=>by kernel_rfl
def qk0 (a0:(List Nat)):Option Dq8 :=
 (qce a0).bind fun y815 =>
 bif y815.1.1 then
  (qcc a0 (fun (z816:(Nat×Unit))=>(qmt z816.1).map fun y=>y.1.1)).bind fun y817 =>
  some (((! y817.1.1),()),())
 else some ((false,()),())
def qqj:Entry:=⟨⟨[.v (.list (.flt .f32))],[.v (.val (.bool))],false⟩,fun x=>qk0 x.1⟩
theorem qyt:Sound Tryz.prog G 49 qqj:=qab (envS (l:=[(95,qei),(96,qfg),(97,qom)]) ⟨(qgv),(qlj),(qwe),trivial⟩) [] Tryz.func49 (by kernel_rfl) rfl fun _=>by kernel_rfl
def qe8 (x801:(List Dq4)) (a0:Dq7) (s799:(Int×Unit)) (s803:(Int×Unit)):Option ((Int×Unit)⊕((Int×Unit)⊕Dq8)) :=
 bif (iLt s803.1 (lenI x801)) then
  bif inB s803.1 (List.length x801) then
   let x805:=List.getD x801 s803.1.toNat Lq7
   (qbz a0.1 x805.1).bind fun y806 =>
   bif (! (iEq y806.1.2.1 0)) then
    Option.map Sum.inr (Option.map Sum.inr (some ((false,()),())))
   else
   (qdh x805.2.1).bind fun y808 =>
   bif (! y808.1.1) then
    Option.map Sum.inr (Option.map Sum.inr (some ((false,()),())))
   else
   bif (fLt .f32 1232348160 x805.2.1) then
    Option.map Sum.inr (Option.map Sum.inr (some ((false,()),())))
   else
   (qhi x805.2.2.1).bind fun y811 =>
   bif (! y811.1.1) then
    Option.map Sum.inr (Option.map Sum.inr (some ((false,()),())))
   else
   some (Sum.inl ((iAdd .i64 s803.1 1),()))
  else none
 else
 Option.map Sum.inr (some (Sum.inl ((iAdd .i64 s799.1 1),())))
def qe7 (a0:Dq7) (s799:(Int×Unit)):Option ((Int×Unit)⊕Dq8) :=
 bif (iLt s799.1 (lenI a0.2.2.1)) then
  bif inB s799.1 (List.length a0.2.2.1) then
   let x801:=List.getD a0.2.2.1 s799.1.toNat ([]:(List Dq4))
   bif (iLt 16 (lenI x801)) then
    Option.map Sum.inr (some ((false,()),()))
   else run (qe8 x801 a0 s799) ((0:Int),())
  else none
 else
 Option.map Sum.inr (some ((true,()),()))
def qhp (a0:Dq7):Option Dq8 :=
 (qdh a0.1).bind fun y793 =>
 bif (! y793.1.1) then some ((false,()),()) else
 (qk0 ([a0.2.1]:(List Nat))).bind fun y795 =>
 bif (! y795.1.1) then some ((false,()),()) else
 (qax (lenI a0.2.2.1) (1:Int) (4:Int)).bind fun y797 =>
 bif (! y797.1.1) then some ((false,()),()) else run (qe7 a0) ((0:Int),())
def qnt:Entry:=⟨⟨[.v Uq2],[.v (.val (.bool))],false⟩,fun x=>qhp x.1⟩
theorem qva:Sound Tryz.prog G 17 qnt:=qab (envS (l:=[(48,qec),(49,qqj),(50,qb2),(51,qis),(52,qiw)]) ⟨(qf4),(qyt),(qcq),(qms),(qmu),trivial⟩) [(4,.vary [(30,.sc (.int .i64))]),(9,.vary [(39,.sc (.int .i64))])] Tryz.func17 (by kernel_rfl) rfl fun _=>by kernel_rfl
def qit (a0:Dq6):Option Dq8 :=
 (qax a0.1 (1:Int) (7:Int)).bind fun y829 =>
 bif y829.1.1 then
  (qax a0.2.1 (0:Int) (999:Int)).bind fun y830 =>
  bif y830.1.1 then
   (qax a0.2.2.1 (0:Int) (999:Int)).bind fun y831 =>
   bif y831.1.1 then
    bif (iEq a0.1 2) then some ((true,()),()) else
    some (((iEq a0.2.2.1 0),()),())
   else some ((false,()),())
  else some ((false,()),())
 else some ((false,()),())
def qok:Entry:=⟨⟨[.v Uq5],[.v (.val (.bool))],false⟩,fun x=>qit x.1⟩
theorem qwc:Sound Tryz.prog G 34 qok:=qab (envS (l:=[(50,qb2)]) ⟨(qcq),trivial⟩) [] Tryz.func34 (by kernel_rfl) rfl fun _=>by kernel_rfl
def qfw (a0:Dq6):Option Dq8 :=
 (qit a0).bind fun y827 =>
 some (((! y827.1.1),()),())
def qkz:Entry:=⟨⟨[.v Uq5],[.v (.val (.bool))],false⟩,fun x=>qfw x.1⟩
theorem qth:Sound Tryz.prog G 90 qkz:=qab (envS (l:=[(34,qok)]) ⟨(qwc),trivial⟩) [] Tryz.func90 (by kernel_rfl) rfl fun _=>by kernel_rfl
def qc7 (a0:(List Dq6)) (a1:((Dq6×Unit)→Option Bool)) (s836:(Int×Unit)):Option ((Int×Unit)⊕Dq11) :=
 bif (iLt s836.1 (lenI a0)) then
  bif inB s836.1 (List.length a0) then
   (a1 ((List.getD a0 s836.1.toNat Lq10),())).bind fun y839 =>
   bif y839 then
    Option.map Sum.inr (some ((s836.1,()),()))
   else
   some (Sum.inl ((iAdd .i64 s836.1 1),()))
  else none
 else
 Option.map Sum.inr (some ((Lq6,()),()))
def qcf (a0:(List Dq6)) (a1:((Dq6×Unit)→Option Bool)):Option Dq11 :=
 run (qc7 a0 a1) ((0:Int),())
def qfu:Entry:=⟨⟨[.v (.list Uq5),.fn ⟨[.pair (.int .i64) (.pair (.int .i64) Uq9)],.bool⟩],[.v (.val (.int .i64))],false⟩,fun x=>qcf x.1 x.2.1⟩
theorem ql7:Sound Tryz.prog G 126 qfu:=qab (envS (l:=[]) trivial) [(2,.vary [(8,.sc (.int .i64))])] Tryz.func126 (by kernel_rfl) rfl fun _=>by kernel_rfl
def qbc (a0:(List Dq6)) (a1:((Dq6×Unit)→Option Bool)):Option Dq8 :=
 (qcf a0 a1).bind fun y834 =>
 some (((iLe 0 y834.1.1),()),())
def qeo:Entry:=⟨⟨[.v (.list Uq5),.fn ⟨[.pair (.int .i64) (.pair (.int .i64) Uq9)],.bool⟩],[.v (.val (.bool))],false⟩,fun x=>qbc x.1 x.2.1⟩
theorem qkd:Sound Tryz.prog G 89 qeo:=qab (envS (l:=[(126,qfu)]) ⟨(ql7),trivial⟩) [] Tryz.func89 (by kernel_rfl) rfl fun _=>by kernel_rfl
def qhq (a0:Dq7) (a1:(List Dq6)):Option Dq11 :=
 (qhp a0).bind fun y788 =>
 bif (! y788.1.1) then some (((1:Int),()),()) else
 (qbc a1 (fun (z790:(Dq6×Unit))=>(qfw z790.1).map fun y=>y.1.1)).bind fun y791 =>
 bif y791.1.1 then some (((1:Int),()),()) else
 bif (iLt 200 (lenI a1)) then some (((2:Int),()),()) else some (((0:Int),()),())
def qnu:Entry:=⟨⟨[.v Uq2,.v (.list Uq5)],[.v (.val (.int .i64))],false⟩,fun x=>qhq x.1 x.2.1⟩
theorem qvb:Sound Tryz.prog G 41 qnu:=qab (envS (l:=[(17,qnt),(89,qeo),(90,qkz)]) ⟨(qva),(qkd),(qth),trivial⟩) [] Tryz.func41 (by kernel_rfl) rfl fun _=>by kernel_rfl
def qd0 (a0:Dq7) (s844:(Int×Dq1×Unit)):Option ((Int×Dq1×Unit)⊕((Dq1×Unit)×Unit)) :=
 bif (iLt s844.1 (lenI a0.2.2.1)) then
  bif room (List.length s844.2.1.2.1.1+1) 40 then
   bif room (List.length s844.2.1.2.1.2.1+1) 40 then
    some (Sum.inl ((iAdd .i64 s844.1 1),((s844.2.1.1,((s844.2.1.2.1.1++([((a0.1,[],()),0,())]:(List Dq9))),(s844.2.1.2.1.2.1++([((a0.1,[],()),0,())]:(List Dq9))),s844.2.1.2.1.2.2.1,s844.2.1.2.1.2.2.2),s844.2.1.2.2):Dq1),()))
   else none
  else none
 else
 Option.map Sum.inr (some ((((s844.2.1.1,(s844.2.1.2.1.1,s844.2.1.2.1.2.1,s844.2.1.2.1.2.2.1,s844.2.1.2.1.2.2.2),s844.2.1.2.2):Dq1),()),()))
def qix (a0:Dq7):Option ((Dq1×Unit)×Unit) :=
 run (qd0 a0) ((0:Int),((a0,([],[],[],()),()):Dq1),())
def qon:Entry:=⟨⟨[.v Uq2],[.p (.pair (.val Uq2) (.pair (.pair (.rows Uq3) (.pair (.rows Uq3) (.pair (.rows Uq7) (.val (.unit))))) (.val (.unit))))],true⟩,fun x=>qix x.1⟩
theorem qwf:Sound Tryz.prog G 59 qon:=qab (envS (l:=[]) trivial) [(3,.vary [(10,.sc (.int .i64)),(3,.box (.pair (.val Uq2) (.pair (.pair (.rows Uq3) (.pair (.rows Uq3) (.pair (.rows Uq7) (.val (.unit))))) (.val (.unit)))))])] Tryz.func59 (by kernel_rfl) rfl fun _=>by kernel_rfl
def qdb (a1:(List Dq6)) (s29:(Int×Dq1×Unit)):Option ((Int×Dq1×Unit)⊕((Int×Int×Int×Unit)×Unit)) :=
 bif (iLt s29.1 (lenI a1)) then
  bif inB s29.1 (List.length a1) then
   (qcp ((s29.2.1.1,(s29.2.1.2.1.1,s29.2.1.2.1.2.1,s29.2.1.2.1.2.2.1,s29.2.1.2.1.2.2.2),s29.2.1.2.2):Dq1) (List.getD a1 s29.1.toNat Lq10)).bind fun y32 =>
   bif (! (iEq y32.1.1 0)) then
    Option.map Sum.inr (some ((s29.1,y32.1.1,(0:Int),()),()))
   else
   some (Sum.inl ((iAdd .i64 s29.1 1),((y32.2.1.1,(y32.2.1.2.1.1,y32.2.1.2.1.2.1,y32.2.1.2.1.2.2.1,y32.2.1.2.1.2.2.2),y32.2.1.2.2):Dq1),()))
  else none
 else
 Option.map Sum.inr (some (((0:Int),(0:Int),(6:Int),()),()))
def qgq (a0:Dq7) (a1:(List Dq6)):Option ((Int×Int×Int×Unit)×Unit) :=
 (qhq a0 a1).bind fun y20 =>
 bif (! (iEq y20.1.1 0)) then some (((0:Int),(0:Int),y20.1.1,()),()) else
 (qix a0).bind fun y22 =>
 run (qdb a1) ((0:Int),((y22.1.1.1,(y22.1.1.2.1.1,y22.1.1.2.1.2.1,y22.1.1.2.1.2.2.1,y22.1.1.2.1.2.2.2),y22.1.1.2.2):Dq1),())
def qmc:Entry:=⟨⟨[.v Uq2,.v (.list Uq5)],[.v (.val (.int .i64)),.v (.val (.int .i64)),.v (.val (.int .i64))],false⟩,fun x=>qgq x.1 x.2.1⟩
theorem quf (mx:GMax 4 G) (tb:GTab Tryz.prog G) (sy:GErr 1 G) (ra:GErr 2 G) (db:GDeb Tryz.prog G):Sound Tryz.prog G 28 qmc:=qab (envS (l:=[(41,qnu),(46,qoo),(59,qon)]) ⟨(qvb),(qwg mx tb sy ra db),(qwf),trivial⟩) [(6,.vary [(22,.sc (.int .i64)),(8,.box (.pair (.val Uq2) (.pair (.pair (.rows Uq3) (.pair (.rows Uq3) (.pair (.rows Uq7) (.val (.unit))))) (.val (.unit)))))])] Tryz.func28 (by kernel_rfl) rfl fun _=>by kernel_rfl
def qne (a0:Dq6) (a1:Dq6):Option Dq8 :=
 bif (! (iEq a0.1 a1.1)) then some ((false,()),()) else
 bif (! (iEq a0.2.1 a1.2.1)) then some ((false,()),()) else
 bif (! (iEq a0.2.2.1 a1.2.2.1)) then some ((false,()),()) else some ((true,()),())
def qsf:Entry:=⟨⟨[.v Uq5,.v Uq5],[.v (.val (.bool))],false⟩,fun x=>qne x.1 x.2.1⟩
theorem qaau:Sound Tryz.prog G 62 qsf:=qab (envS (l:=[]) trivial) [] Tryz.func62 (by kernel_rfl) rfl fun _=>by kernel_rfl
def qk8 (a0:(List Dq6)) (a1:(List Dq6)) (s850:(Int×Unit)):Option ((Int×Unit)⊕Dq8) :=
 bif (iLt s850.1 (lenI a0)) then
  bif inB s850.1 (List.length a0) then
   bif inB s850.1 (List.length a1) then
    (qne (List.getD a0 s850.1.toNat Lq10) (List.getD a1 s850.1.toNat Lq10)).bind fun y854 =>
    bif (! y854.1.1) then
     Option.map Sum.inr (some ((false,()),()))
    else
    some (Sum.inl ((iAdd .i64 s850.1 1),()))
   else none
  else none
 else
 Option.map Sum.inr (some ((true,()),()))
def qk7 (a0:(List Dq6)) (a1:(List Dq6)):Option Dq8 :=
 bif (! (iEq (lenI a0) (lenI a1))) then some ((false,()),()) else run (qk8 a0 a1) ((0:Int),())
def qqq:Entry:=⟨⟨[.v (.list Uq5),.v (.list Uq5)],[.v (.val (.bool))],false⟩,fun x=>qk7 x.1 x.2.1⟩
theorem qy4:Sound Tryz.prog G 30 qqq:=qab (envS (l:=[(62,qsf)]) ⟨(qaau),trivial⟩) [(4,.vary [(5,.sc (.int .i64))])] Tryz.func30 (by kernel_rfl) rfl fun _=>by kernel_rfl
def qb3 (a0:Nat) (a1:Nat):Option Dq8 :=
 bif (! (fEq .f64 a0 a0)) then
  bif (! (fEq .f64 a0 a0)) then
   some (((! (fEq .f64 a1 a1)),()),())
  else some ((false,()),())
 else
 bif (! (fEq .f64 a1 a1)) then
  bif (! (fEq .f64 a0 a0)) then
   some (((! (fEq .f64 a1 a1)),()),())
  else some ((false,()),())
 else
 bif (fEq .f64 a0 0) then
  bif (fEq .f64 a1 0) then
   some (((bEq (fLt .f64 0 (fDiv .f64 4607182418800017408 a0)) (fLt .f64 0 (fDiv .f64 4607182418800017408 a1))),()),())
  else
  some (((fEq .f64 a0 a1),()),())
 else
 some (((fEq .f64 a0 a1),()),())
def qfx:Entry:=⟨⟨[.v (.flt .f64),.v (.flt .f64)],[.v (.val (.bool))],false⟩,fun x=>qb3 x.1 x.2.1⟩
theorem qi9:Sound Tryz.prog G 60 qfx:=qab (envS (l:=[]) trivial) [] Tryz.func60 (by kernel_rfl) rfl fun _=>by kernel_rfl
def qo7 (a0:(Vec 3 Nat)) (a1:(Vec 3 Nat)):Option Dq8 :=
 (fConv .f32 .f64 (Vec.getD 3 a0 0 (0:Nat))).bind fun y894 =>
 (fConv .f32 .f64 (Vec.getD 3 a1 0 (0:Nat))).bind fun y896 =>
 (qb3 y894 y896).bind fun y897 =>
 bif (! y897.1.1) then some ((false,()),()) else
 (fConv .f32 .f64 (Vec.getD 3 a0 1 (0:Nat))).bind fun y900 =>
 (fConv .f32 .f64 (Vec.getD 3 a1 1 (0:Nat))).bind fun y902 =>
 (qb3 y900 y902).bind fun y903 =>
 bif (! y903.1.1) then some ((false,()),()) else
 (fConv .f32 .f64 (Vec.getD 3 a0 2 (0:Nat))).bind fun y906 =>
 (fConv .f32 .f64 (Vec.getD 3 a1 2 (0:Nat))).bind fun y908 =>
 (qb3 y906 y908).bind fun y909 =>
 bif (! y909.1.1) then some ((false,()),()) else some ((true,()),())
def qt1:Entry:=⟨⟨[.v (.arr 3 (.flt .f32)),.v (.arr 3 (.flt .f32))],[.v (.val (.bool))],false⟩,fun x=>qo7 x.1 x.2.1⟩
theorem qacz:Sound Tryz.prog G 173 qt1:=qab (envS (l:=[(60,qfx)]) ⟨(qi9),trivial⟩) [(2,.unroll 4)] Tryz.func173 (by kernel_rfl) rfl fun _=>by kernel_rfl
def qla (a0:Dq4) (a1:Dq4):Option Dq8 :=
 (qo7 a0.1 a1.1).bind fun y886 =>
 bif (! y886.1.1) then some ((false,()),()) else
 (fConv .f32 .f64 a0.2.1).bind fun y888 =>
 (fConv .f32 .f64 a1.2.1).bind fun y889 =>
 (qb3 y888 y889).bind fun y890 =>
 bif (! y890.1.1) then some ((false,()),()) else
 bif (! (iEq a0.2.2.1 a1.2.2.1)) then some ((false,()),()) else some ((true,()),())
def qqs:Entry:=⟨⟨[.v Uq4,.v Uq4],[.v (.val (.bool))],false⟩,fun x=>qla x.1 x.2.1⟩
theorem qy8:Sound Tryz.prog G 147 qqs:=qab (envS (l:=[(60,qfx),(173,qt1)]) ⟨(qi9),(qacz),trivial⟩) [] Tryz.func147 (by kernel_rfl) rfl fun _=>by kernel_rfl
def qj8 (a0:(List Dq4)) (a1:(List Dq4)) (s879:(Int×Unit)):Option ((Int×Unit)⊕Dq8) :=
 bif (iLt s879.1 (lenI a0)) then
  bif inB s879.1 (List.length a0) then
   bif inB s879.1 (List.length a1) then
    (qla (List.getD a0 s879.1.toNat Lq7) (List.getD a1 s879.1.toNat Lq7)).bind fun y883 =>
    bif (! y883.1.1) then
     Option.map Sum.inr (some ((false,()),()))
    else
    some (Sum.inl ((iAdd .i64 s879.1 1),()))
   else none
  else none
 else
 Option.map Sum.inr (some ((true,()),()))
def qjo (a0:(List Dq4)) (a1:(List Dq4)):Option Dq8 :=
 bif (! (iEq (lenI a0) (lenI a1))) then some ((false,()),()) else run (qj8 a0 a1) ((0:Int),())
def qpp:Entry:=⟨⟨[.v (.list Uq4),.v (.list Uq4)],[.v (.val (.bool))],false⟩,fun x=>qjo x.1 x.2.1⟩
theorem qxu:Sound Tryz.prog G 108 qpp:=qab (envS (l:=[(147,qqs)]) ⟨(qy8),trivial⟩) [(4,.vary [(5,.sc (.int .i64))])] Tryz.func108 (by kernel_rfl) rfl fun _=>by kernel_rfl
def qi7 (a0:(List (List Dq4))) (a1:(List (List Dq4))) (s871:(Int×Unit)):Option ((Int×Unit)⊕Dq8) :=
 bif (iLt s871.1 (lenI a0)) then
  bif inB s871.1 (List.length a0) then
   bif inB s871.1 (List.length a1) then
    (qjo (List.getD a0 s871.1.toNat ([]:(List Dq4))) (List.getD a1 s871.1.toNat ([]:(List Dq4)))).bind fun y875 =>
    bif (! y875.1.1) then
     Option.map Sum.inr (some ((false,()),()))
    else
    some (Sum.inl ((iAdd .i64 s871.1 1),()))
   else none
  else none
 else
 Option.map Sum.inr (some ((true,()),()))
def qiz (a0:(List (List Dq4))) (a1:(List (List Dq4))):Option Dq8 :=
 bif (! (iEq (lenI a0) (lenI a1))) then some ((false,()),()) else run (qi7 a0 a1) ((0:Int),())
def qor:Entry:=⟨⟨[.v (.list (.list Uq4)),.v (.list (.list Uq4))],[.v (.val (.bool))],false⟩,fun x=>qiz x.1 x.2.1⟩
theorem qwi:Sound Tryz.prog G 61 qor:=qab (envS (l:=[(108,qpp)]) ⟨(qxu),trivial⟩) [(4,.vary [(5,.sc (.int .i64))])] Tryz.func61 (by kernel_rfl) rfl fun _=>by kernel_rfl
def qk9 (a0:Dq7) (a1:Dq7):Option Dq8 :=
 (fConv .f32 .f64 a0.1).bind fun y860 =>
 (fConv .f32 .f64 a1.1).bind fun y861 =>
 (qb3 y860 y861).bind fun y862 =>
 bif (! y862.1.1) then some ((false,()),()) else
 (fConv .f32 .f64 a0.2.1).bind fun y864 =>
 (fConv .f32 .f64 a1.2.1).bind fun y865 =>
 (qb3 y864 y865).bind fun y866 =>
 bif (! y866.1.1) then some ((false,()),()) else
 (qiz a0.2.2.1 a1.2.2.1).bind fun y868 =>
 bif (! y868.1.1) then some ((false,()),()) else some ((true,()),())
def qqr:Entry:=⟨⟨[.v Uq2,.v Uq2],[.v (.val (.bool))],false⟩,fun x=>qk9 x.1 x.2.1⟩
theorem qy6:Sound Tryz.prog G 29 qqr:=qab (envS (l:=[(60,qfx),(61,qor)]) ⟨(qi9),(qwi),trivial⟩) [] Tryz.func29 (by kernel_rfl) rfl fun _=>by kernel_rfl
def qlb (a0:(List Dq6)) (a1:Int):Option Dq11 :=
 let x926:=iSub .i64 a1 (lenI a0)
 bif (iLt x926 0) then some ((Lq6,()),()) else some ((x926,()),())
def qqt:Entry:=⟨⟨[.v (.list Uq5),.v (.int .i64)],[.v (.val (.int .i64))],false⟩,fun x=>qlb x.1 x.2.1⟩
theorem qza:Sound Tryz.prog G 24 qqt:=qab (envS (l:=[]) trivial) [] Tryz.func24 (by kernel_rfl) rfl fun _=>by kernel_rfl
def qjp (a0:(List Dq4)) (a1:Int):Option Dq11 :=
 let x938:=iSub .i64 a1 (lenI a0)
 bif (iLt x938 0) then some ((Lq6,()),()) else some ((x938,()),())
def qpq:Entry:=⟨⟨[.v (.list Uq4),.v (.int .i64)],[.v (.val (.int .i64))],false⟩,fun x=>qjp x.1 x.2.1⟩
theorem qxw:Sound Tryz.prog G 106 qpq:=qab (envS (l:=[]) trivial) [] Tryz.func106 (by kernel_rfl) rfl fun _=>by kernel_rfl
def qfy (a0:(List (List Dq4))) (s932:Dq17):Option (Dq17⊕Dq11) :=
 bif (iLt s932.2.1 (lenI a0)) then
  bif inB s932.2.1 (List.length a0) then
   (qjp (List.getD a0 s932.2.1.toNat ([]:(List Dq4))) s932.1).bind fun y935 =>
   bif (iLt y935.1.1 0) then
    Option.map Sum.inr (some ((Lq6,()),()))
   else
   some (Sum.inl (y935.1.1,(iAdd .i64 s932.2.1 1),()))
  else none
 else
 Option.map Sum.inr (some ((s932.1,()),()))
def qi0 (a0:(List (List Dq4))) (a1:Int):Option Dq11 :=
 let x930:=iSub .i64 a1 (lenI a0)
 bif (iLt x930 0) then some ((Lq6,()),()) else run (qfy a0) (x930,(0:Int),())
def qos:Entry:=⟨⟨[.v (.list (.list Uq4)),.v (.int .i64)],[.v (.val (.int .i64))],false⟩,fun x=>qi0 x.1 x.2.1⟩
theorem qwk:Sound Tryz.prog G 56 qos:=qab (envS (l:=[(106,qpq)]) ⟨(qxw),trivial⟩) [(5,.vary [(1,.sc (.int .i64)),(5,.sc (.int .i64))])] Tryz.func56 (by kernel_rfl) rfl fun _=>by kernel_rfl
def qlc (a0:Dq7) (a1:Int):Option Dq11 :=
 (qi0 a0.2.2.1 a1).bind fun y928 =>
 bif (iLt y928.1.1 0) then some ((Lq6,()),()) else some ((y928.1.1,()),())
def qqu:Entry:=⟨⟨[.v Uq2,.v (.int .i64)],[.v (.val (.int .i64))],false⟩,fun x=>qlc x.1 x.2.1⟩
theorem qzc:Sound Tryz.prog G 23 qqu:=qab (envS (l:=[(56,qos)]) ⟨(qwk),trivial⟩) [] Tryz.func23 (by kernel_rfl) rfl fun _=>by kernel_rfl
def qry (a0:Dq6):Option ((Dq6×Unit)×Unit) :=
 some ((((a0.1,a0.2.1,a0.2.2.1,()):Dq6),()),())
def qsg:Entry:=⟨⟨[.v Uq5],[.v (.val Uq5)],false⟩,fun x=>qry x.1⟩
theorem qaaw:Sound Tryz.prog G 58 qsg:=qab (envS (l:=[]) trivial) [] Tryz.func58 (by kernel_rfl) rfl fun _=>by kernel_rfl
def qld (a0:(List Dq6)) (s946:(Int×(List Dq6)×Unit)):Option ((Int×(List Dq6)×Unit)⊕(((List Dq6)×Unit)×Unit)) :=
 bif (iLt s946.1 (lenI a0)) then
  bif inB s946.1 (List.length a0) then
   (qry (List.getD a0 s946.1.toNat Lq10)).bind fun y949 =>
   bif inB s946.1 (List.length s946.2.1) then
    some (Sum.inl ((iAdd .i64 s946.1 1),List.set s946.2.1 s946.1.toNat y949.1.1,()))
   else none
  else none
 else
 Option.map Sum.inr (some ((s946.2.1,()),()))
def qf7 (a0:(List Dq6)):Option (((List Dq6)×Unit)×Unit) :=
 bif (iLe 0 (lenI a0)&&iLe (lenI a0) (lenI a0)&&room (lenI a0).toNat 24) then run (qld a0) ((0:Int),List.replicate (lenI a0).toNat Lq10,()) else none
def qqv:Entry:=⟨⟨[.v (.list Uq5)],[.v (.rows Uq5)],false⟩,fun x=>qf7 x.1⟩
theorem qze:Sound Tryz.prog G 27 qqv:=qab (envS (l:=[(58,qsg)]) ⟨(qaaw),trivial⟩) [(3,.vary [(4,.sc (.int .i64)),(3,.mrows Uq5)])] Tryz.func27 (by kernel_rfl) rfl fun _=>by kernel_rfl
def qtk (a0:(Vec 3 Nat)):Option (((Vec 3 Nat)×Unit)×Unit) :=
 some (((((Vec.getD 3 a0 0 (0:Nat)),(Vec.getD 3 a0 1 (0:Nat)),(Vec.getD 3 a0 2 (0:Nat)),()):(Vec 3 Nat)),()),())
def qt2:Entry:=⟨⟨[.v (.arr 3 (.flt .f32))],[.v (.val (.arr 3 (.flt .f32)))],false⟩,fun x=>qtk x.1⟩
theorem qac1:Sound Tryz.prog G 172 qt2:=qab (envS (l:=[]) trivial) [(3,.unroll 4)] Tryz.func172 (by kernel_rfl) rfl fun _=>by kernel_rfl
def qle (a0:Dq4):Option ((Dq4×Unit)×Unit) :=
 (qtk a0.1).bind fun y974 =>
 some ((((y974.1.1,a0.2.1,a0.2.2.1,()):Dq4),()),())
def qqx:Entry:=⟨⟨[.v Uq4],[.v (.val Uq4)],false⟩,fun x=>qle x.1⟩
theorem qzi:Sound Tryz.prog G 146 qqx:=qab (envS (l:=[(172,qt2)]) ⟨(qac1),trivial⟩) [] Tryz.func146 (by kernel_rfl) rfl fun _=>by kernel_rfl
def qj9 (a0:(List Dq4)) (s969:(Int×(List Dq4)×Unit)):Option ((Int×(List Dq4)×Unit)⊕(((List Dq4)×Unit)×Unit)) :=
 bif (iLt s969.1 (lenI a0)) then
  bif inB s969.1 (List.length a0) then
   (qle (List.getD a0 s969.1.toNat Lq7)).bind fun y972 =>
   bif inB s969.1 (List.length s969.2.1) then
    some (Sum.inl ((iAdd .i64 s969.1 1),List.set s969.2.1 s969.1.toNat y972.1.1,()))
   else none
  else none
 else
 Option.map Sum.inr (some ((s969.2.1,()),()))
def qjq (a0:(List Dq4)):Option (((List Dq4)×Unit)×Unit) :=
 bif (iLe 0 (lenI a0)&&iLe (lenI a0) (lenI a0)&&room (lenI a0).toNat 24) then run (qj9 a0) ((0:Int),List.replicate (lenI a0).toNat Lq7,()) else none
def qpr:Entry:=⟨⟨[.v (.list Uq4)],[.v (.rows Uq4)],false⟩,fun x=>qjq x.1⟩
theorem qxy:Sound Tryz.prog G 107 qpr:=qab (envS (l:=[(146,qqx)]) ⟨(qzi),trivial⟩) [(3,.vary [(4,.sc (.int .i64)),(3,.mrows Uq4)])] Tryz.func107 (by kernel_rfl) rfl fun _=>by kernel_rfl
def qja (a0:(List (List Dq4))) (s958:(Int×(List (List Dq4))×Unit)):Option ((Int×(List (List Dq4))×Unit)⊕(((List (List Dq4))×Unit)×Unit)) :=
 bif (iLt s958.1 (lenI a0)) then
  bif inB s958.1 (List.length a0) then
   (qjq (List.getD a0 s958.1.toNat ([]:(List Dq4)))).bind fun y961 =>
   bif inB s958.1 (List.length s958.2.1) then
    some (Sum.inl ((iAdd .i64 s958.1 1),List.set s958.2.1 s958.1.toNat y961.1.1,()))
   else none
  else none
 else
 Option.map Sum.inr (some ((s958.2.1,()),()))
def qi1 (a0:(List (List Dq4))):Option (((List (List Dq4))×Unit)×Unit) :=
 bif (iLe 0 (lenI a0)&&iLe (lenI a0) (lenI a0)&&room (lenI a0).toNat 24) then run (qja a0) ((0:Int),List.replicate (lenI a0).toNat ([]:(List Dq4)),()) else none
def qot:Entry:=⟨⟨[.v (.list (.list Uq4))],[.v (.rows (.list Uq4))],true⟩,fun x=>qi1 x.1⟩
theorem qwm:Sound Tryz.prog G 57 qot:=qab (envS (l:=[(107,qpr)]) ⟨(qxy),trivial⟩) [(3,.vary [(4,.sc (.int .i64)),(3,.mrows (.list Uq4))])] Tryz.func57 (by kernel_rfl) rfl fun _=>by kernel_rfl
def qf8 (a0:Dq7):Option ((Dq7×Unit)×Unit) :=
 (qi1 a0.2.2.1).bind fun y951 =>
 some ((((a0.1,a0.2.1,y951.1.1,()):Dq7),()),())
def qqw:Entry:=⟨⟨[.v Uq2],[.v (.pair (.val (.flt .f32)) (.pair (.val (.flt .f32)) (.pair (.rows (.list Uq4)) (.val (.unit)))))],true⟩,fun x=>qf8 x.1⟩
theorem qzg:Sound Tryz.prog G 26 qqw:=qab (envS (l:=[(57,qot)]) ⟨(qwm),trivial⟩) [] Tryz.func26 (by kernel_rfl) rfl fun _=>by kernel_rfl
def qbs (a0:Int) (a1:Int) (a2:Int):Option Dq8 :=
 bif (iLe a1 a0) then
  some (((iLe a0 a2),()),())
 else some ((false,()),())
def qdx:Entry:=⟨⟨[.v (.int .i64),.v (.int .i64),.v (.int .i64)],[.v (.val (.bool))],false⟩,fun x=>qbs x.1 x.2.1 x.2.2.1⟩
theorem qe3:Sound Tryz.prog G 112 qdx:=qab (envS (l:=[]) trivial) [] Tryz.func112 (by kernel_rfl) rfl fun _=>by kernel_rfl
def ql0 (a0:Dq6):Option Dq8 :=
 (qbs a0.1 (1:Int) (7:Int)).bind fun y998 =>
 bif (! y998.1.1) then some ((false,()),()) else
 (qbs a0.2.1 (0:Int) (999:Int)).bind fun y1000 =>
 bif (! y1000.1.1) then some ((false,()),()) else
 (qbs a0.2.2.1 (0:Int) (999:Int)).bind fun y1002 =>
 bif (! y1002.1.1) then some ((false,()),()) else
 bif (iEq a0.1 2) then some ((true,()),()) else
 some (((iEq a0.2.2.1 0),()),())
def qrq:Entry:=⟨⟨[.v Uq5],[.v (.val (.bool))],false⟩,fun x=>ql0 x.1⟩
theorem qaaj:Sound Tryz.prog G 71 qrq:=qab (envS (l:=[(112,qdx)]) ⟨(qe3),trivial⟩) [] Tryz.func71 (by kernel_rfl) rfl fun _=>by kernel_rfl
def qbo (a0:Nat):Option Dq8 :=
 some (((fEq .f32 (fSub .f32 a0 a0) 0),()),())
def qc4:Entry:=⟨⟨[.v (.flt .f32)],[.v (.val (.bool))],false⟩,fun x=>qbo x.1⟩
theorem qd1:Sound Tryz.prog G 153 qc4:=qab (envS (l:=[]) trivial) [] Tryz.func153 (by kernel_rfl) rfl fun _=>by kernel_rfl
def qjl (a0:(Vec 3 Nat)):Option Dq8 :=
 (qbo (Vec.getD 3 a0 0 (0:Nat))).bind fun y1062 =>
 bif y1062.1.1 then
  (qbo (Vec.getD 3 a0 1 (0:Nat))).bind fun y1064 =>
  bif y1064.1.1 then
   (qbo (Vec.getD 3 a0 2 (0:Nat))).bind fun y1066 =>
   some ((y1066.1.1,()),())
  else some ((false,()),())
 else some ((false,()),())
def qm2:Entry:=⟨⟨[.v (.arr 3 (.flt .f32))],[.v (.val (.bool))],false⟩,fun x=>qjl x.1⟩
theorem qsv:Sound Tryz.prog G 186 qm2:=qab (envS (l:=[(153,qc4)]) ⟨(qd1),trivial⟩) [] Tryz.func186 (by kernel_rfl) rfl fun _=>by kernel_rfl
def qgd (a0:Nat):Option Dq8 :=
 (qbo a0).bind fun y1069 =>
 bif y1069.1.1 then
  some (((fLt .f32 0 a0),()),())
 else some ((false,()),())
def qhz:Entry:=⟨⟨[.v (.flt .f32)],[.v (.val (.bool))],false⟩,fun x=>qgd x.1⟩
theorem qlx:Sound Tryz.prog G 116 qhz:=qab (envS (l:=[(153,qc4)]) ⟨(qd1),trivial⟩) [] Tryz.func116 (by kernel_rfl) rfl fun _=>by kernel_rfl
def qc0 (a0:Nat) (a1:(Vec 3 Nat)):Option Dq21 :=
 (qgd a0).bind fun y1033 =>
 bif (! y1033.1.1) then some ((Lq2,(2:Int),()),()) else
 (qjl a1).bind fun y1035 =>
 bif (! y1035.1.1) then some ((Lq2,(2:Int),()),()) else
 (fConv .f32 .f64 (fDiv .f32 (Vec.getD 3 a1 0 (0:Nat)) a0)).bind fun y1039 =>
 (qff y1039).bind fun y1040 =>
 bif (fLe .f64 13920209183539462144 y1040.1.1) then
  bif (! (fLe .f64 y1040.1.1 4696837146684686336)) then some ((Lq2,(3:Int),()),()) else
  (fToInt .f64 y1040.1.1 .i32).bind fun n1044 =>
  (fConv .f32 .f64 (fDiv .f32 (Vec.getD 3 a1 1 (0:Nat)) a0)).bind fun y1047 =>
  (qff y1047).bind fun y1048 =>
  bif (fLe .f64 13920209183539462144 y1048.1.1) then
   bif (! (fLe .f64 y1048.1.1 4696837146684686336)) then some ((Lq2,(3:Int),()),()) else
   (fToInt .f64 y1048.1.1 .i32).bind fun n1052 =>
   (fConv .f32 .f64 (fDiv .f32 (Vec.getD 3 a1 2 (0:Nat)) a0)).bind fun y1055 =>
   (qff y1055).bind fun y1056 =>
   bif (fLe .f64 13920209183539462144 y1056.1.1) then
    bif (! (fLe .f64 y1056.1.1 4696837146684686336)) then some ((Lq2,(3:Int),()),()) else
    (fToInt .f64 y1056.1.1 .i32).bind fun n1060 =>
    some ((((n1044,n1052,n1060,()):(Vec 3 Int)),(0:Int),()),())
   else some ((Lq2,(3:Int),()),())
  else some ((Lq2,(3:Int),()),())
 else some ((Lq2,(3:Int),()),())
def qhx:Entry:=⟨⟨[.v (.flt .f32),.v (.arr 3 (.flt .f32))],[.v (.val (.arr 3 (.int .i32))),.v (.val (.int .i64))],false⟩,fun x=>qc0 x.1 x.2.1⟩
theorem qls:Sound Tryz.prog G 154 qhx:=qab (envS (l:=[(99,qoc),(116,qhz),(186,qm2)]) ⟨(qt5),(qlx),(qsv),trivial⟩) [(5,.unroll 4)] Tryz.func154 (by kernel_rfl) rfl fun _=>by kernel_rfl
def qnh (a0:Nat) (a1:(Vec 3 Nat)):Option Dq21 :=
 (qc0 a0 a1).bind fun y1032 =>
 some ((y1032.1.1,y1032.1.2.1,()),())
def qso:Entry:=⟨⟨[.v (.flt .f32),.v (.arr 3 (.flt .f32))],[.v (.val (.arr 3 (.int .i32))),.v (.val (.int .i64))],false⟩,fun x=>qnh x.1 x.2.1⟩
theorem qaa3:Sound Tryz.prog G 118 qso:=qab (envS (l:=[(154,qhx)]) ⟨(qls),trivial⟩) [] Tryz.func118 (by kernel_rfl) rfl fun _=>by kernel_rfl
def qjr (a0:Nat):Option Dq8 :=
 bif (fLe .f32 0 a0) then
  (qbo a0).bind fun y1072 =>
  some ((y1072.1.1,()),())
 else some ((false,()),())
def qp0:Entry:=⟨⟨[.v (.flt .f32)],[.v (.val (.bool))],false⟩,fun x=>qjr x.1⟩
theorem qx4:Sound Tryz.prog G 117 qp0:=qab (envS (l:=[(153,qc4)]) ⟨(qd1),trivial⟩) [] Tryz.func117 (by kernel_rfl) rfl fun _=>by kernel_rfl
def qgb (a0:Int):Option Dq8 :=
 (qbs a0 (0:Int) (1000000000:Int)).bind fun y1073 =>
 some ((y1073.1.1,()),())
def qhw:Entry:=⟨⟨[.v (.int .i64)],[.v (.val (.bool))],false⟩,fun x=>qgb x.1⟩
theorem qlq:Sound Tryz.prog G 119 qhw:=qab (envS (l:=[(112,qdx)]) ⟨(qe3),trivial⟩) [] Tryz.func119 (by kernel_rfl) rfl fun _=>by kernel_rfl
def qjx (s1014:(Int×Unit)) (a0:Dq7) (s1018:(Int×Unit)):Option ((Int×Unit)⊕((Int×Unit)⊕Dq8)) :=
 bif inB s1014.1 (List.length a0.2.2.1) then
  bif (iLt s1018.1 (lenI (List.getD a0.2.2.1 s1014.1.toNat ([]:(List Dq4))))) then
   bif inB s1014.1 (List.length a0.2.2.1) then
    let x1021:=List.getD a0.2.2.1 s1014.1.toNat ([]:(List Dq4))
    bif inB s1018.1 (List.length x1021) then
     let x1022:=List.getD x1021 s1018.1.toNat Lq7
     (qnh a0.1 x1022.1).bind fun y1023 =>
     bif (! (iEq y1023.1.2.1 0)) then
      Option.map Sum.inr (Option.map Sum.inr (some ((false,()),())))
     else
     bif (fLt .f32 0 x1022.2.1) then
      bif (! (fLe .f32 x1022.2.1 1232348160)) then
       Option.map Sum.inr (Option.map Sum.inr (some ((false,()),())))
      else
      (qgb x1022.2.2.1).bind fun y1028 =>
      bif (! y1028.1.1) then
       Option.map Sum.inr (Option.map Sum.inr (some ((false,()),())))
      else
      some (Sum.inl ((iAdd .i64 s1018.1 1),()))
     else
     Option.map Sum.inr (Option.map Sum.inr (some ((false,()),())))
    else none
   else none
  else
  Option.map Sum.inr (some (Sum.inl ((iAdd .i64 s1014.1 1),())))
 else none
def qjw (a0:Dq7) (s1014:(Int×Unit)):Option ((Int×Unit)⊕Dq8) :=
 bif (iLt s1014.1 (lenI a0.2.2.1)) then
  bif inB s1014.1 (List.length a0.2.2.1) then
   bif (iLt 16 (lenI (List.getD a0.2.2.1 s1014.1.toNat ([]:(List Dq4))))) then
    Option.map Sum.inr (some ((false,()),()))
   else run (qjx s1014 a0) ((0:Int),())
  else none
 else
 Option.map Sum.inr (some ((true,()),()))
def qpb (a0:Dq7):Option Dq8 :=
 (qgd a0.1).bind fun y1008 =>
 bif (! y1008.1.1) then some ((false,()),()) else
 (qjr a0.2.1).bind fun y1010 =>
 bif (! y1010.1.1) then some ((false,()),()) else
 (qbs (lenI a0.2.2.1) (1:Int) (4:Int)).bind fun y1012 =>
 bif (! y1012.1.1) then some ((false,()),()) else run (qjw a0) ((0:Int),())
def qua:Entry:=⟨⟨[.ro Uq2],[.v (.val (.bool))],false⟩,fun x=>qpb x.1⟩
theorem qac5:Sound Tryz.prog G 78 qua:=qab (envS (l:=[(112,qdx),(116,qhz),(117,qp0),(118,qso),(119,qhw)]) ⟨(qe3),(qlx),(qx4),(qaa3),(qlq),trivial⟩) [(4,.vary [(3,.sc (.int .i64))]),(9,.vary [(4,.sc (.int .i64))])] Tryz.func78 (by kernel_rfl) rfl fun _=>by kernel_rfl
def qet (a1:(List Dq6)) (s991:(Int×Unit)):Option ((Int×Unit)⊕Dq11) :=
 bif (iLt s991.1 (lenI a1)) then
  bif inB s991.1 (List.length a1) then
   (ql0 (List.getD a1 s991.1.toNat Lq10)).bind fun y994 =>
   bif (! y994.1.1) then
    Option.map Sum.inr (some (((1:Int),()),()))
   else
   some (Sum.inl ((iAdd .i64 s991.1 1),()))
  else none
 else
 Option.map Sum.inr (bif (iLt 200 (lenI a1)) then some (((2:Int),()),()) else some (((0:Int),()),()))
def qjv (a0:Dq7) (a1:(List Dq6)):Option Dq11 :=
 (qpb a0).bind fun y989 =>
 bif (! y989.1.1) then some (((1:Int),()),()) else run (qet a1) ((0:Int),())
def qp3:Entry:=⟨⟨[.ro Uq2,.v (.list Uq5)],[.v (.val (.int .i64))],false⟩,fun x=>qjv x.1 x.2.1⟩
theorem qx7:Sound Tryz.prog G 43 qp3:=qab (envS (l:=[(71,qrq),(78,qua)]) ⟨(qaaj),(qac5),trivial⟩) [(4,.vary [(5,.sc (.int .i64))])] Tryz.func43 (by kernel_rfl) rfl fun _=>by kernel_rfl
def qfi (a0:(Vec 3 Int)) (a1:(Vec 3 Int)):Option Dq11 :=
 bif (iLt (Vec.getD 3 a0 0 (0:Int)) (Vec.getD 3 a1 0 (0:Int))) then some ((Lq6,()),()) else
 bif (iLt (Vec.getD 3 a1 0 (0:Int)) (Vec.getD 3 a0 0 (0:Int))) then some (((1:Int),()),()) else
 bif (iLt (Vec.getD 3 a0 1 (0:Int)) (Vec.getD 3 a1 1 (0:Int))) then some ((Lq6,()),()) else
 bif (iLt (Vec.getD 3 a1 1 (0:Int)) (Vec.getD 3 a0 1 (0:Int))) then some (((1:Int),()),()) else
 bif (iLt (Vec.getD 3 a0 2 (0:Int)) (Vec.getD 3 a1 2 (0:Int))) then some ((Lq6,()),()) else
 bif (iLt (Vec.getD 3 a1 2 (0:Int)) (Vec.getD 3 a0 2 (0:Int))) then some (((1:Int),()),()) else some (((0:Int),()),())
def qij:Entry:=⟨⟨[.v (.arr 3 (.int .i32)),.v (.arr 3 (.int .i32))],[.v (.val (.int .i64))],false⟩,fun x=>qfi x.1 x.2.1⟩
theorem qn1:Sound Tryz.prog G 191 qij:=qab (envS (l:=[]) trivial) [(2,.unroll 4)] Tryz.func191 (by kernel_rfl) rfl fun _=>by kernel_rfl
def qlu (a0:Dq2):Option Dq8 :=
 (qjl a0.2.1).bind fun y1175 =>
 bif y1175.1.1 then
  (qbo a0.2.2.1).bind fun y1176 =>
  bif y1176.1.1 then
   bif (fLt .f32 0 a0.2.2.1) then
    (qbs a0.2.2.2.1 (1:Int) (1000000:Int)).bind fun y1178 =>
    bif y1178.1.1 then
     (qgb a0.2.2.2.2.1).bind fun y1179 =>
     some ((y1179.1.1,()),())
    else some ((false,()),())
   else some ((false,()),())
  else some ((false,()),())
 else some ((false,()),())
def qrk:Entry:=⟨⟨[.ro Uq1],[.v (.val (.bool))],false⟩,fun x=>qlu x.1⟩
theorem qaae:Sound Tryz.prog G 190 qrk:=qab (envS (l:=[(112,qdx),(119,qhw),(153,qc4),(186,qm2)]) ⟨(qe3),(qlq),(qd1),(qsv),trivial⟩) [] Tryz.func190 (by kernel_rfl) rfl fun _=>by kernel_rfl
def qjs (a0:Dq3) (s1145:(Int×Unit)):Option ((Int×Unit)⊕Dq8) :=
 bif (iLt s1145.1 (lenI a0.2.1)) then
  bif inB s1145.1 (List.length a0.2.1) then
   (qlu (List.getD a0.2.1 s1145.1.toNat Lq1)).bind fun y1147 =>
   bif (! y1147.1.1) then
    Option.map Sum.inr (some ((false,()),()))
   else
   bif (iLt 0 s1145.1) then
    let x1150:=iSub .i64 s1145.1 1
    bif inB x1150 (List.length a0.2.1) then
     bif inB s1145.1 (List.length a0.2.1) then
      (qfi ((List.getD a0.2.1 x1150.toNat Lq1).1) ((List.getD a0.2.1 s1145.1.toNat Lq1).1)).bind fun y1153 =>
      bif (iLe 0 y1153.1.1) then
       Option.map Sum.inr (some ((false,()),()))
      else
      some (Sum.inl ((iAdd .i64 s1145.1 1),()))
     else none
    else none
   else
   some (Sum.inl ((iAdd .i64 s1145.1 1),()))
  else none
 else
 Option.map Sum.inr (some ((true,()),()))
def qd4 (a0:Dq3):Option Dq8 :=
 (qgd a0.1).bind fun y1142 =>
 bif (! y1142.1.1) then some ((false,()),()) else
 bif (iLt 200 (lenI a0.2.1)) then some ((false,()),()) else run (qjs a0) ((0:Int),())
def qhe:Entry:=⟨⟨[.ro Uq6],[.v (.val (.bool))],false⟩,fun x=>qd4 x.1⟩
theorem qjt:Sound Tryz.prog G 157 qhe:=qab (envS (l:=[(116,qhz),(190,qrk),(191,qij)]) ⟨(qlx),(qaae),(qn1),trivial⟩) [(4,.vary [(3,.sc (.int .i64))])] Tryz.func157 (by kernel_rfl) rfl fun _=>by kernel_rfl
def qji (a0:Int) (a1:Int):Option Dq11 :=
 bif (iLt a1 a0) then some ((a0,()),()) else some ((a1,()),())
def qsp:Entry:=⟨⟨[.v (.int .i64),.v (.int .i64)],[.v (.val (.int .i64))],false⟩,fun x=>qji x.1 x.2.1⟩
theorem qaa4:Sound Tryz.prog G 88 qsp:=qab (envS (l:=[]) trivial) [] Tryz.func88 (by kernel_rfl) rfl fun _=>by kernel_rfl
def qjj (a0:Int) (a1:Int):Option Dq11 :=
 bif (iLt a0 a1) then some ((a0,()),()) else some ((a1,()),())
def qsq:Entry:=⟨⟨[.v (.int .i64),.v (.int .i64)],[.v (.val (.int .i64))],false⟩,fun x=>qjj x.1 x.2.1⟩
theorem qaa6:Sound Tryz.prog G 227 qsq:=qab (envS (l:=[]) trivial) [] Tryz.func227 (by kernel_rfl) rfl fun _=>by kernel_rfl
end
end Go.Proofs.YtjhdoneobdbeaaaGreatDoor
