import Derived.Test.YtjhdoneobdbeaaaGreatDoorF1
/- Functions on typed data: what the evaluation of each Go function is, and that it is sound. -/
set_option linter.unusedVariables false
namespace Go.Proofs.YtjhdoneobdbeaaaGreatDoor
open Go Go.Tm
noncomputable section
set_option maxRecDepth 100000
variable {G : List (Nat × Obj)}
def qek (a0:Int) (a1:Int):Option Dq10 :=
 bif (iEq a1 10) then
  bif (iLt a0 100) then
   none
  else none
 else
 (qcw ([]:(List Int)) a0 a1 false false).bind fun y703 =>
 some ((y703.1.2.1,()),())
def qgk:Entry:=⟨⟨[.v (.int .u64),.v (.int .i64)],[.v (.val (.str))],false⟩,fun x=>qek x.1 x.2.1⟩
theorem qmx (db:GDeb Tryz.prog G):Sound Tryz.prog G 200 qgk:=qab (envS (l:=[(185,qgl)]) ⟨(qmy db),trivial⟩) [] Tryz.func200 (by kernel_rfl) rfl fun _=>by kernel_rfl
def qg0 (a0:Int) (a1:Int):Option Dq10 :=
 (qek a0 a1).bind fun y699 =>
 some ((y699.1.1,()),())
def qmh:Entry:=⟨⟨[.v (.int .u64),.v (.int .i64)],[.v (.val (.str))],false⟩,fun x=>qg0 x.1 x.2.1⟩
theorem qu0 (db:GDeb Tryz.prog G):Sound Tryz.prog G 162 qmh:=qab (envS (l:=[(200,qgk)]) ⟨(qmx db),trivial⟩) [] Tryz.func162 (by kernel_rfl) rfl fun _=>by kernel_rfl
def qee (s696:Dq17):Option (Dq17⊕Dq10) :=
 bif (iLt (lenI s696.1) 8) then
  bif strRoom ([48]) s696.1 then
   some (Sum.inl ((strCat ([48]) s696.1),()))
  else none
 else
 Option.map Sum.inr (some ((s696.1,()),()))
def qdn (a0:Nat):Option Dq10 :=
 (qkh a0).bind fun y691 =>
 bif y691.1.1 then some ((([55,102,99,48,48,48,48,48]:List UInt8),()),()) else
 allSame fun (q692:Nat) =>
 (qg0 (iWrap .u64 (bitsF .f32 a0 q692)) (16:Int)).bind fun y695 =>
 run (qee) (y695.1.1,())
def qgc:Entry:=⟨⟨[.v (.flt .f32)],[.v (.val (.str))],false⟩,fun x=>qdn x.1⟩
theorem qjt (db:GDeb Tryz.prog G):Sound Tryz.prog G 128 qgc:=qab (envS (l:=[(161,qpw),(162,qmh)]) ⟨(qv0),(qu0 db),trivial⟩) [(4,.vary [(3,.sc (.str))])] Tryz.func128 (by kernel_rfl) rfl fun _=>by kernel_rfl
theorem qkq:Sound Tryz.prog G 249 qd3:=qpx Tryz.func249 (by kernel_rfl) (by kernel_rfl) (by kernel_rfl) (by kernel_rfl)
theorem qvv (sy:GErr 1 G) (ra:GErr 2 G):Sound Tryz.prog G 273 qiq:=qab1 Tryz.func273 (by kernel_rfl) (by kernel_rfl) sy ra Tryz.hex_call
def qja (a0:List UInt8):Option ((Nat×Int×Unit)×Unit) :=
 (qcv a0 (16:Int) (32:Int)).bind fun y685 =>
 (qbj (iWrap .u32 y685.1.1)).bind fun y687 =>
 bif (! y685.1.2.1) then some (((0:Nat),(5:Int),()),()) else
 (qdn y687.1.1).bind fun y689 =>
 bif (! (sEq y689.1.1 a0)) then some (((0:Nat),(5:Int),()),()) else some ((y687.1.1,(0:Int),()),())
def qph:Entry:=⟨⟨[.v (.str)],[.v (.val (.flt .f32)),.v (.val (.int .i64))],false⟩,fun x=>qja x.1⟩
theorem qxe (sy:GErr 1 G) (ra:GErr 2 G) (db:GDeb Tryz.prog G):Sound Tryz.prog G 263 qph:=qab (envS (l:=[(128,qgc),(249,qd3),(273,qiq)]) ⟨(qjt db),(qkq),(qvv sy ra),trivial⟩) [] Tryz.func263 (by kernel_rfl) rfl fun _=>by kernel_rfl
def qal (a0:Dq5):Option ((Nat×Unit)×(Dq5×Unit)) :=
 (qbi ((a0.1,a0.2):Dq5)).bind fun y682 =>
 (qja y682.1.1).bind fun y683 =>
 bif y682.2.1.2.1 then some ((y683.1.1,()),(((y682.2.1.1,true,y682.2.1.2.2):Dq5),())) else
 some ((y683.1.1,()),(((y682.2.1.1,(! (iEq y683.1.2.1 0)),y682.2.1.2.2):Dq5),()))
def qe8:Entry:=⟨⟨[.io (.pair (.rows (.str)) (.val Uq9))],[.v (.val (.flt .f32))],false⟩,fun x=>qal x.1⟩
theorem qjb (sy:GErr 1 G) (ra:GErr 2 G) (db:GDeb Tryz.prog G):Sound Tryz.prog G 237 qe8:=qab (envS (l:=[(67,qcq),(263,qph)]) ⟨(qd2),(qxe sy ra db),trivial⟩) [] Tryz.func237 (by kernel_rfl) rfl fun _=>by kernel_rfl
def qau (a0:Dq5):Option (((Vec 3 Nat)×Unit)×(Dq5×Unit)) :=
 (qal ((a0.1,a0.2):Dq5)).bind fun y799 =>
 (qal ((y799.2.1.1,y799.2.1.2):Dq5)).bind fun y800 =>
 (qal ((y800.2.1.1,y800.2.1.2):Dq5)).bind fun y801 =>
 some ((((y799.1.1,y800.1.1,y801.1.1,()):(Vec 3 Nat)),()),(((y801.2.1.1,y801.2.1.2):Dq5),()))
def qjw:Entry:=⟨⟨[.io (.pair (.rows (.str)) (.val Uq9))],[.v (.val (.arr 3 (.flt .f32)))],false⟩,fun x=>qau x.1⟩
theorem qrh (sy:GErr 1 G) (ra:GErr 2 G) (db:GDeb Tryz.prog G):Sound Tryz.prog G 238 qjw:=qab (envS (l:=[(237,qe8)]) ⟨(qjb sy ra db),trivial⟩) [(3,.unroll 4)] Tryz.func238 (by kernel_rfl) rfl fun _=>by kernel_rfl
def qbq (a0:List UInt8):Option ((Dq5×Unit)×Unit) :=
 (strings_Split a0 ([32]:List UInt8)).bind fun y802 =>
 some ((((y802.1.1,false,()):Dq5),()),())
def qih:Entry:=⟨⟨[.v (.str)],[.p (.pair (.rows (.str)) (.val Uq9))],false⟩,fun x=>qbq x.1⟩
theorem qlw (mx:GMax 4 G):Sound Tryz.prog G 64 qih:=qab (envS (l:=[(109,qc8)]) ⟨(qf2 mx),trivial⟩) [] Tryz.func64 (by kernel_rfl) rfl fun _=>by kernel_rfl
def qgh (x560:(List (List UInt8))) (s578:(Int×Dq3×Unit)):Option ((Int×Dq3×Unit)⊕((Dq3×Bool×Unit)×Unit)) :=
 bif (iLt s578.1 (lenI x560)) then
  bif inB s578.1 (List.length x560) then
   (qbq (List.getD x560 s578.1.toNat ([]:List UInt8))).bind fun y581 =>
   (qac ((y581.1.1.1,y581.1.1.2):Dq5)).bind fun y582 =>
   bif y582.2.1.2.1 then
    let x583:=iWrap .i32 y582.1.1
    (qac ((y582.2.1.1,true,y582.2.1.2.2):Dq5)).bind fun y584 =>
    bif y584.2.1.2.1 then
     let x585:=iWrap .i32 y584.1.1
     (qac ((y584.2.1.1,true,y584.2.1.2.2):Dq5)).bind fun y586 =>
     bif y586.2.1.2.1 then
      (qau ((y586.2.1.1,true,y586.2.1.2.2):Dq5)).bind fun y588 =>
      (qal ((y588.2.1.1,y588.2.1.2):Dq5)).bind fun y589 =>
      (qac ((y589.2.1.1,y589.2.1.2):Dq5)).bind fun y590 =>
      (qac ((y590.2.1.1,y590.2.1.2):Dq5)).bind fun y591 =>
      (qak ((y591.2.1.1,y591.2.1.2):Dq5)).bind fun y592 =>
      bif (! y592.1.1) then
       Option.map Sum.inr (some ((Lq4,false,()),()))
      else
      bif room (List.length s578.2.1.2.1+1) 48 then
       some (Sum.inl ((iAdd .i64 s578.1 1),((s578.2.1.1,(s578.2.1.2.1++([((x583,x585,(iWrap .i32 y586.1.1),()),y588.1.1,y589.1.1,y590.1.1,y591.1.1,())]:(List Dq2))),s578.2.1.2.2):Dq3),()))
      else none
     else
     (qa3 y586.1.1 Lq9 (2147483647:Int)).bind fun y596 =>
     (qau ((y586.2.1.1,(! y596.1.1),y586.2.1.2.2):Dq5)).bind fun y599 =>
     (qal ((y599.2.1.1,y599.2.1.2):Dq5)).bind fun y600 =>
     (qac ((y600.2.1.1,y600.2.1.2):Dq5)).bind fun y601 =>
     (qac ((y601.2.1.1,y601.2.1.2):Dq5)).bind fun y602 =>
     (qak ((y602.2.1.1,y602.2.1.2):Dq5)).bind fun y603 =>
     bif (! y603.1.1) then
      Option.map Sum.inr (some ((Lq4,false,()),()))
     else
     bif room (List.length s578.2.1.2.1+1) 48 then
      some (Sum.inl ((iAdd .i64 s578.1 1),((s578.2.1.1,(s578.2.1.2.1++([((x583,x585,(iWrap .i32 y586.1.1),()),y599.1.1,y600.1.1,y601.1.1,y602.1.1,())]:(List Dq2))),s578.2.1.2.2):Dq3),()))
     else none
    else
    (qa3 y584.1.1 Lq9 (2147483647:Int)).bind fun y607 =>
    let x609:=iWrap .i32 y584.1.1
    (qac ((y584.2.1.1,(! y607.1.1),y584.2.1.2.2):Dq5)).bind fun y610 =>
    bif y610.2.1.2.1 then
     (qau ((y610.2.1.1,true,y610.2.1.2.2):Dq5)).bind fun y612 =>
     (qal ((y612.2.1.1,y612.2.1.2):Dq5)).bind fun y613 =>
     (qac ((y613.2.1.1,y613.2.1.2):Dq5)).bind fun y614 =>
     (qac ((y614.2.1.1,y614.2.1.2):Dq5)).bind fun y615 =>
     (qak ((y615.2.1.1,y615.2.1.2):Dq5)).bind fun y616 =>
     bif (! y616.1.1) then
      Option.map Sum.inr (some ((Lq4,false,()),()))
     else
     bif room (List.length s578.2.1.2.1+1) 48 then
      some (Sum.inl ((iAdd .i64 s578.1 1),((s578.2.1.1,(s578.2.1.2.1++([((x583,x609,(iWrap .i32 y610.1.1),()),y612.1.1,y613.1.1,y614.1.1,y615.1.1,())]:(List Dq2))),s578.2.1.2.2):Dq3),()))
     else none
    else
    (qa3 y610.1.1 Lq9 (2147483647:Int)).bind fun y620 =>
    (qau ((y610.2.1.1,(! y620.1.1),y610.2.1.2.2):Dq5)).bind fun y623 =>
    (qal ((y623.2.1.1,y623.2.1.2):Dq5)).bind fun y624 =>
    (qac ((y624.2.1.1,y624.2.1.2):Dq5)).bind fun y625 =>
    (qac ((y625.2.1.1,y625.2.1.2):Dq5)).bind fun y626 =>
    (qak ((y626.2.1.1,y626.2.1.2):Dq5)).bind fun y627 =>
    bif (! y627.1.1) then
     Option.map Sum.inr (some ((Lq4,false,()),()))
    else
    bif room (List.length s578.2.1.2.1+1) 48 then
     some (Sum.inl ((iAdd .i64 s578.1 1),((s578.2.1.1,(s578.2.1.2.1++([((x583,x609,(iWrap .i32 y610.1.1),()),y623.1.1,y624.1.1,y625.1.1,y626.1.1,())]:(List Dq2))),s578.2.1.2.2):Dq3),()))
    else none
   else
   (qa3 y582.1.1 Lq9 (2147483647:Int)).bind fun y631 =>
   let x633:=iWrap .i32 y582.1.1
   (qac ((y582.2.1.1,(! y631.1.1),y582.2.1.2.2):Dq5)).bind fun y634 =>
   bif y634.2.1.2.1 then
    let x635:=iWrap .i32 y634.1.1
    (qac ((y634.2.1.1,true,y634.2.1.2.2):Dq5)).bind fun y636 =>
    bif y636.2.1.2.1 then
     (qau ((y636.2.1.1,true,y636.2.1.2.2):Dq5)).bind fun y638 =>
     (qal ((y638.2.1.1,y638.2.1.2):Dq5)).bind fun y639 =>
     (qac ((y639.2.1.1,y639.2.1.2):Dq5)).bind fun y640 =>
     (qac ((y640.2.1.1,y640.2.1.2):Dq5)).bind fun y641 =>
     (qak ((y641.2.1.1,y641.2.1.2):Dq5)).bind fun y642 =>
     bif (! y642.1.1) then
      Option.map Sum.inr (some ((Lq4,false,()),()))
     else
     bif room (List.length s578.2.1.2.1+1) 48 then
      some (Sum.inl ((iAdd .i64 s578.1 1),((s578.2.1.1,(s578.2.1.2.1++([((x633,x635,(iWrap .i32 y636.1.1),()),y638.1.1,y639.1.1,y640.1.1,y641.1.1,())]:(List Dq2))),s578.2.1.2.2):Dq3),()))
     else none
    else
    (qa3 y636.1.1 Lq9 (2147483647:Int)).bind fun y646 =>
    (qau ((y636.2.1.1,(! y646.1.1),y636.2.1.2.2):Dq5)).bind fun y649 =>
    (qal ((y649.2.1.1,y649.2.1.2):Dq5)).bind fun y650 =>
    (qac ((y650.2.1.1,y650.2.1.2):Dq5)).bind fun y651 =>
    (qac ((y651.2.1.1,y651.2.1.2):Dq5)).bind fun y652 =>
    (qak ((y652.2.1.1,y652.2.1.2):Dq5)).bind fun y653 =>
    bif (! y653.1.1) then
     Option.map Sum.inr (some ((Lq4,false,()),()))
    else
    bif room (List.length s578.2.1.2.1+1) 48 then
     some (Sum.inl ((iAdd .i64 s578.1 1),((s578.2.1.1,(s578.2.1.2.1++([((x633,x635,(iWrap .i32 y636.1.1),()),y649.1.1,y650.1.1,y651.1.1,y652.1.1,())]:(List Dq2))),s578.2.1.2.2):Dq3),()))
    else none
   else
   (qa3 y634.1.1 Lq9 (2147483647:Int)).bind fun y657 =>
   let x659:=iWrap .i32 y634.1.1
   (qac ((y634.2.1.1,(! y657.1.1),y634.2.1.2.2):Dq5)).bind fun y660 =>
   bif y660.2.1.2.1 then
    (qau ((y660.2.1.1,true,y660.2.1.2.2):Dq5)).bind fun y662 =>
    (qal ((y662.2.1.1,y662.2.1.2):Dq5)).bind fun y663 =>
    (qac ((y663.2.1.1,y663.2.1.2):Dq5)).bind fun y664 =>
    (qac ((y664.2.1.1,y664.2.1.2):Dq5)).bind fun y665 =>
    (qak ((y665.2.1.1,y665.2.1.2):Dq5)).bind fun y666 =>
    bif (! y666.1.1) then
     Option.map Sum.inr (some ((Lq4,false,()),()))
    else
    bif room (List.length s578.2.1.2.1+1) 48 then
     some (Sum.inl ((iAdd .i64 s578.1 1),((s578.2.1.1,(s578.2.1.2.1++([((x633,x659,(iWrap .i32 y660.1.1),()),y662.1.1,y663.1.1,y664.1.1,y665.1.1,())]:(List Dq2))),s578.2.1.2.2):Dq3),()))
    else none
   else
   (qa3 y660.1.1 Lq9 (2147483647:Int)).bind fun y670 =>
   (qau ((y660.2.1.1,(! y670.1.1),y660.2.1.2.2):Dq5)).bind fun y673 =>
   (qal ((y673.2.1.1,y673.2.1.2):Dq5)).bind fun y674 =>
   (qac ((y674.2.1.1,y674.2.1.2):Dq5)).bind fun y675 =>
   (qac ((y675.2.1.1,y675.2.1.2):Dq5)).bind fun y676 =>
   (qak ((y676.2.1.1,y676.2.1.2):Dq5)).bind fun y677 =>
   bif (! y677.1.1) then
    Option.map Sum.inr (some ((Lq4,false,()),()))
   else
   bif room (List.length s578.2.1.2.1+1) 48 then
    some (Sum.inl ((iAdd .i64 s578.1 1),((s578.2.1.1,(s578.2.1.2.1++([((x633,x659,(iWrap .i32 y660.1.1),()),y673.1.1,y674.1.1,y675.1.1,y676.1.1,())]:(List Dq2))),s578.2.1.2.2):Dq3),()))
   else none
  else none
 else
 Option.map Sum.inr (
  (qes ((s578.2.1.1,s578.2.1.2.1,s578.2.1.2.2):Dq3)).bind fun y681 =>
  some ((((s578.2.1.1,s578.2.1.2.1,s578.2.1.2.2):Dq3),y681.1.1,()),()))
def qmv (a0:(List (List UInt8))):Option ((Dq3×Bool×Unit)×Unit) :=
 bif inB 0 (List.length a0) then
  (qbq (List.getD a0 0 ([]:List UInt8))).bind fun y555 =>
  (qbb ((y555.1.1.1,y555.1.1.2):Dq5) ([109,97,112]:List UInt8)).bind fun y556 =>
  (qal ((y556.2.1.1,y556.2.1.2):Dq5)).bind fun y557 =>
  (qak ((y557.2.1.1,y557.2.1.2):Dq5)).bind fun y558 =>
  bif (! y558.1.1) then some ((Lq4,false,()),()) else
  bif inS 1 (lenI a0) (List.length a0) then
   let x560:=dropL a0 1
   run (qgh x560) ((0:Int),((y557.1.1,[],()):Dq3),())
  else none
 else none
def qsm:Entry:=⟨⟨[.v (.list (.str))],[.v (.pair (.val (.flt .f32)) (.pair (.rows Uq1) (.val (.unit)))),.v (.val (.bool))],false⟩,fun x=>qmv x.1⟩
theorem qabf (mx:GMax 4 G) (tb:GTab Tryz.prog G) (sy:GErr 1 G) (ra:GErr 2 G) (db:GDeb Tryz.prog G):Sound Tryz.prog G 203 qsm:=qab (envS (l:=[(50,qcn),(64,qih),(68,qc0),(69,qdo),(115,qf4),(159,qib),(237,qe8),(238,qjw)]) ⟨(qdg),(qlw mx),(qet tb sy ra),(qfq),(qko),(qlu),(qjb sy ra db),(qrh sy ra db),trivial⟩) [(7,.vary [(28,.sc (.int .i64)),(5,.box (.pair (.val (.flt .f32)) (.pair (.rows Uq1) (.val (.unit)))))]),(12,.unroll 4)] Tryz.func203 (by kernel_rfl) rfl fun _=>by kernel_rfl
def qmo (a0:List UInt8):Option Dq20 :=
 bif (iLt 40000 (lenI a0)) then some ((Lq4,(2:Int),()),()) else
 (qmt a0).bind fun y545 =>
 bif (! y545.1.2.1) then some ((Lq4,(5:Int),()),()) else
 (qmv y545.1.1).bind fun y547 =>
 bif (! y547.1.2.1) then some ((Lq4,(5:Int),()),()) else some ((((y547.1.1.1,y547.1.1.2.1,y547.1.1.2.2):Dq3),(0:Int),()),())
def qsc:Entry:=⟨⟨[.v (.str)],[.v (.pair (.val (.flt .f32)) (.pair (.rows Uq1) (.val (.unit)))),.v (.val (.int .i64))],false⟩,fun x=>qmo x.1⟩
theorem qaa0 (mx:GMax 4 G) (tb:GTab Tryz.prog G) (sy:GErr 1 G) (ra:GErr 2 G) (db:GDeb Tryz.prog G):Sound Tryz.prog G 166 qsc:=qab (envS (l:=[(202,qsi),(203,qsm)]) ⟨(qaba mx),(qabf mx tb sy ra db),trivial⟩) [] Tryz.func166 (by kernel_rfl) rfl fun _=>by kernel_rfl
def qej (a0:Dq1) (a1:(Int×Dq17)):Option ((Unit)×(Dq1×Unit)) :=
 (qmo a1.2.1).bind fun y517 =>
 bif (! (iEq y517.1.2.1 0)) then
  some ((),(((a0.1,(a0.2.1.1,a0.2.1.2.1,a0.2.1.2.2.1,a0.2.1.2.2.2),a0.2.2):Dq1),()))
 else
 bif inB a1.1 (List.length a0.2.1.1) then
  (qhf ((List.getD a0.2.1.1 a1.1.toNat Lq3).1) ((y517.1.1.1,y517.1.1.2.1,y517.1.1.2.2):Dq3)).bind fun y520 =>
  bif (iEq y520.1.2.1 0) then
   some ((),(((a0.1,((List.set a0.2.1.1 a1.1.toNat (((y520.1.1.1,y520.1.1.2.1,y520.1.1.2.2),(List.getD a0.2.1.1 a1.1.toNat Lq3).2):Dq6)),a0.2.1.2.1,a0.2.1.2.2.1,a0.2.1.2.2.2),a0.2.2):Dq1),()))
  else
  some ((),(((a0.1,(a0.2.1.1,a0.2.1.2.1,a0.2.1.2.2.1,a0.2.1.2.2.2),a0.2.2):Dq1),()))
 else none
def qmc:Entry:=⟨⟨[.io (.pair (.val Uq2) (.pair (.pair (.rows Uq3) (.pair (.rows Uq3) (.pair (.rows Uq6) (.val (.unit))))) (.val (.unit)))),.v Uq6],[],true⟩,fun x=>qej x.1 x.2.1⟩
theorem qub (mx:GMax 4 G) (tb:GTab Tryz.prog G) (sy:GErr 1 G) (ra:GErr 2 G) (db:GDeb Tryz.prog G):Sound Tryz.prog G 134 qmc:=qab (envS (l:=[(166,qsc),(167,qp8)]) ⟨(qaa0 mx tb sy ra db),(qyg),trivial⟩) [] Tryz.func134 (by kernel_rfl) rfl fun _=>by kernel_rfl
theorem qop:Sound Tryz.prog G 133 qhr:=qaoh
def qd6 (a0:Dq1) (a1:Dq9):Option Dq22 :=
 (qa3 a1.2.1 (0:Int) (iSub .i64 (lenI a0.2.1.2.2.1) 1)).bind fun y507 =>
 bif (! y507.1.1) then
  some (((2:Int),()),(((a0.1,(a0.2.1.1,a0.2.1.2.1,a0.2.1.2.2.1,a0.2.1.2.2.2),a0.2.2):Dq1),()))
 else
 bif inB a1.2.1 (List.length a0.2.1.2.2.1) then
  let x509:=List.getD a0.2.1.2.2.1 a1.2.1.toNat ((0,[],()):(Int×Dq17))
  bif (! (iEq a1.1 4)) then
   (qje a0.2.1.2.2.1 a1.2.1 (iAdd .i64 a1.2.1 1)).bind fun y512 =>
   bif (! (iEq a1.1 5)) then
    (qej ((a0.1,(a0.2.1.1,a0.2.1.2.1,y512.1.1,a0.2.1.2.2.2),a0.2.2):Dq1) x509).bind fun y514 =>
    some (((0:Int),()),(((y514.2.1.1,(y514.2.1.2.1.1,y514.2.1.2.1.2.1,y514.2.1.2.1.2.2.1,y514.2.1.2.1.2.2.2),y514.2.1.2.2):Dq1),()))
   else
   some (((0:Int),()),(((a0.1,(a0.2.1.1,a0.2.1.2.1,y512.1.1,a0.2.1.2.2.2),a0.2.2):Dq1),()))
  else
  bif (! (iEq a1.1 5)) then
   (qej ((a0.1,(a0.2.1.1,a0.2.1.2.1,a0.2.1.2.2.1,a0.2.1.2.2.2),a0.2.2):Dq1) x509).bind fun y516 =>
   some (((0:Int),()),(((y516.2.1.1,(y516.2.1.2.1.1,y516.2.1.2.1.2.1,y516.2.1.2.1.2.2.1,y516.2.1.2.1.2.2.2),y516.2.1.2.2):Dq1),()))
  else
  some (((0:Int),()),(((a0.1,(a0.2.1.1,a0.2.1.2.1,a0.2.1.2.2.1,a0.2.1.2.2.2),a0.2.2):Dq1),()))
 else none
def qn6:Entry:=⟨⟨[.io (.pair (.val Uq2) (.pair (.pair (.rows Uq3) (.pair (.rows Uq3) (.pair (.rows Uq6) (.val (.unit))))) (.val (.unit)))),.v Uq7],[.v (.val (.int .i64))],true⟩,fun x=>qd6 x.1 x.2.1⟩
theorem qwo (mx:GMax 4 G) (tb:GTab Tryz.prog G) (sy:GErr 1 G) (ra:GErr 2 G) (db:GDeb Tryz.prog G):Sound Tryz.prog G 94 qn6:=qab (envS (l:=[(50,qcn),(133,qhr),(134,qmc)]) ⟨(qdg),(qop),(qub mx tb sy ra db),trivial⟩) [] Tryz.func94 (by kernel_rfl) rfl fun _=>by kernel_rfl
theorem qou:Sound Tryz.prog G 113 qhy:=qaaq (by decide) Tryz.func113 (by kernel_rfl) (by kernel_rfl) (Any.Builder_copyCheck_fresh Tryz.lays240 Tryz.Builder_X72_240) (Any.Builder_copyCheck_used Tryz.lays240 Tryz.Builder_X72_240)
def qap (a0:Dq11) (a1:List UInt8):Option ((Int×Bool×Unit)×(Dq11×Unit)) :=
 (qfc ((a0.1,a0.2.1,a0.2.2):Dq11)).bind fun y842 =>
 bif room (List.length y842.2.1.2.1+List.length (bytesOf a1)) 1 then
  some ((lenI a1,true,()),(((y842.2.1.1,(y842.2.1.2.1++(bytesOf a1)),y842.2.1.2.2):Dq11),()))
 else none
def qcc:Entry:=⟨⟨[.io (.pair (.val (.ref 138)) (.pair (.rows (.int .u8)) (.val (.unit)))),.v (.str)],[.v (.val (.int .i64)),.v (.val (.err))],true⟩,fun x=>qap x.1 x.2.1⟩
theorem qds:Sound Tryz.prog G 75 qcc:=qab (envS (l:=[(113,qhy)]) ⟨(qou),trivial⟩) [] Tryz.func75 (by kernel_rfl) rfl fun _=>by kernel_rfl
theorem qto:Sound Tryz.prog G 131 strings_Join_en:=qai9 Tryz.func131 (by kernel_rfl) (by kernel_rfl) Tryz.strings_Join_none Tryz.strings_Join
def qbo (a0:(List Nat)) (s845:((List (List UInt8))×Int×Unit)):Option (((List (List UInt8))×Int×Unit)⊕Dq10) :=
 bif (iLt s845.2.1 (lenI a0)) then
  bif inB s845.2.1 (List.length a0) then
   (qdn (List.getD a0 s845.2.1.toNat (0:Nat))).bind fun y848 =>
   bif room (List.length s845.1+1) 16 then
    some (Sum.inl ((s845.1++([y848.1.1]:(List (List UInt8)))),(iAdd .i64 s845.2.1 1),()))
   else none
  else none
 else
 Option.map Sum.inr (
  (strings_Join s845.1 ([32]:List UInt8)).bind fun y851 =>
  some ((y851.1.1,()),()))
def qig (a0:(List Nat)):Option Dq10 :=
 run (qbo a0) (([]:(List (List UInt8))),(0:Int),())
def qn5:Entry:=⟨⟨[.v (.list (.flt .f32))],[.v (.val (.str))],false⟩,fun x=>qig x.1⟩
theorem qwn (db:GDeb Tryz.prog G):Sound Tryz.prog G 163 qn5:=qab (envS (l:=[(128,qgc),(131,strings_Join_en)]) ⟨(qjt db),(qto),trivial⟩) [(3,.vary [(3,.rows (.str)),(9,.sc (.int .i64))])] Tryz.func163 (by kernel_rfl) rfl fun _=>by kernel_rfl
def qmr (a0:(Vec 3 Nat)):Option Dq10 :=
 (qig ([Vec.getD 3 a0 0 (0:Nat),Vec.getD 3 a0 1 (0:Nat),Vec.getD 3 a0 2 (0:Nat)]:(List Nat))).bind fun y844 =>
 some ((y844.1.1,()),())
def qsf:Entry:=⟨⟨[.v (.arr 3 (.flt .f32))],[.v (.val (.str))],false⟩,fun x=>qmr x.1⟩
theorem qaa6 (db:GDeb Tryz.prog G):Sound Tryz.prog G 130 qsf:=qab (envS (l:=[(163,qn5)]) ⟨(qwn db),trivial⟩) [] Tryz.func130 (by kernel_rfl) rfl fun _=>by kernel_rfl
def qdc (a0:Int):Option Dq10 :=
 (qbp (iWrap .i64 a0) (10:Int)).bind fun y853 =>
 some ((y853.1.1,()),())
def ql9:Entry:=⟨⟨[.v (.int .i32)],[.v (.val (.str))],false⟩,fun x=>qdc x.1⟩
theorem qt9 (tb:GTab Tryz.prog G):Sound Tryz.prog G 129 ql9:=qab (envS (l:=[(111,qfb)]) ⟨(qnu tb),trivial⟩) [] Tryz.func129 (by kernel_rfl) rfl fun _=>by kernel_rfl
def qgg (a0:Dq3) (s824:(Int×Dq11×Unit)):Option ((Int×Dq11×Unit)⊕Dq10) :=
 bif (iLt s824.1 (lenI a0.2.1)) then
  bif inB s824.1 (List.length a0.2.1) then
   let x826:=List.getD a0.2.1 s824.1.toNat Lq1
   (qdc (Vec.getD 3 x826.1 0 (0:Int))).bind fun y828 =>
   (qdc (Vec.getD 3 x826.1 1 (0:Int))).bind fun y830 =>
   (qdc (Vec.getD 3 x826.1 2 (0:Int))).bind fun y832 =>
   (qmr x826.2.1).bind fun y833 =>
   (qdn x826.2.2.1).bind fun y834 =>
   (qa0 x826.2.2.2.1).bind fun y835 =>
   (qa0 x826.2.2.2.2.1).bind fun y836 =>
   (strings_Join ([y828.1.1,y830.1.1,y832.1.1,y833.1.1,y834.1.1,y835.1.1,y836.1.1]:(List (List UInt8))) ([32]:List UInt8)).bind fun y837 =>
   bif strRoom y837.1.1 ([10]) then
    (qap ((s824.2.1.1,s824.2.1.2.1,s824.2.1.2.2):Dq11) (strCat y837.1.1 ([10]))).bind fun y839 =>
    some (Sum.inl ((iAdd .i64 s824.1 1),((y839.2.1.1,y839.2.1.2.1,y839.2.1.2.2):Dq11),()))
   else none
  else none
 else
 Option.map Sum.inr (
  (bldStr ((s824.2.1.1,s824.2.1.2.1,s824.2.1.2.2):Dq11)).bind fun y841 =>
  some ((y841,()),()))
def qmu (a0:Dq3):Option Dq10 :=
 (qdn a0.1).bind fun y803 =>
 bif strRoom ([109,97,112,32]) y803.1.1 then
  let x804:=strCat ([109,97,112,32]) y803.1.1
  bif strRoom x804 ([10]) then
   (qap (((),[],()):Dq11) (strCat x804 ([10]))).bind fun y806 =>
   run (qgg a0) ((0:Int),((y806.2.1.1,y806.2.1.2.1,y806.2.1.2.2):Dq11),())
  else none
 else none
def qsj:Entry:=⟨⟨[.v Uq5],[.v (.val (.str))],false⟩,fun x=>qmu x.1⟩
theorem qabc (tb:GTab Tryz.prog G) (db:GDeb Tryz.prog G):Sound Tryz.prog G 92 qsj:=qab (envS (l:=[(70,qdd),(75,qcc),(128,qgc),(129,ql9),(130,qsf),(131,strings_Join_en)]) ⟨(qeo tb),(qds),(qjt db),(qt9 tb),(qaa6 db),(qto),trivial⟩) [(4,.vary [(16,.sc (.int .i64)),(3,.box (.pair (.val (.ref 138)) (.pair (.rows (.int .u8)) (.val (.unit)))))])] Tryz.func92 (by kernel_rfl) rfl fun _=>by kernel_rfl
def qfr (a0:Dq6):Option ((Dq6×Unit)×Unit) :=
 (qg4 a0.1).bind fun y854 =>
 some (((((y854.1.1.1,y854.1.1.2.1,y854.1.1.2.2),a0.2.1,()):Dq6),()),())
def qsl:Entry:=⟨⟨[.v Uq3],[.v (.pair (.pair (.val (.flt .f32)) (.pair (.rows Uq1) (.val (.unit)))) (.val (.pair (.int .i64) (.unit))))],false⟩,fun x=>qfr x.1⟩
theorem qabe:Sound Tryz.prog G 93 qsl:=qab (envS (l:=[(132,qkj)]) ⟨(qol),trivial⟩) [] Tryz.func93 (by kernel_rfl) rfl fun _=>by kernel_rfl
def qdf (a0:Dq1) (a1:Dq9):Option Dq22 :=
 bif (iEq a1.1 1) then
  (qgj ((a0.1,(a0.2.1.1,a0.2.1.2.1,a0.2.1.2.2.1,a0.2.1.2.2.2),a0.2.2):Dq1) a1.2.1).bind fun y128 =>
  some ((y128.1.1,()),(((y128.2.1.1,(y128.2.1.2.1.1,y128.2.1.2.1.2.1,y128.2.1.2.1.2.2.1,y128.2.1.2.1.2.2.2),y128.2.1.2.2):Dq1),()))
 else
 bif (iEq a1.1 2) then
  (qa7 ((a0.1,(a0.2.1.1,a0.2.1.2.1,a0.2.1.2.2.1,a0.2.1.2.2.2),a0.2.2):Dq1) a1.2.1).bind fun y130 =>
  bif (! y130.1.1) then
   some (((2:Int),()),(((y130.2.1.1,(y130.2.1.2.1.1,y130.2.1.2.1.2.1,y130.2.1.2.1.2.2.1,y130.2.1.2.1.2.2.2),y130.2.1.2.2):Dq1),()))
  else
  (qa7 ((y130.2.1.1,(y130.2.1.2.1.1,y130.2.1.2.1.2.1,y130.2.1.2.1.2.2.1,y130.2.1.2.1.2.2.2),y130.2.1.2.2):Dq1) a1.2.2.1).bind fun y132 =>
  bif (! y132.1.1) then
   some (((2:Int),()),(((y132.2.1.1,(y132.2.1.2.1.1,y132.2.1.2.1.2.1,y132.2.1.2.1.2.2.1,y132.2.1.2.1.2.2.2),y132.2.1.2.2):Dq1),()))
  else
  bif (iEq a1.2.1 a1.2.2.1) then
   some (((2:Int),()),(((y132.2.1.1,(y132.2.1.2.1.1,y132.2.1.2.1.2.1,y132.2.1.2.1.2.2.1,y132.2.1.2.1.2.2.2),y132.2.1.2.2):Dq1),()))
  else
  bif (iEq (lenI y132.2.1.2.1.2.2.1) 10) then
   some (((3:Int),()),(((y132.2.1.1,(y132.2.1.2.1.1,y132.2.1.2.1.2.1,y132.2.1.2.1.2.2.1,y132.2.1.2.1.2.2.2),y132.2.1.2.2):Dq1),()))
  else
  bif inB a1.2.1 (List.length y132.2.1.2.1.1) then
   (qmu ((List.getD y132.2.1.2.1.1 a1.2.1.toNat Lq3).1)).bind fun y137 =>
   bif room (List.length y132.2.1.2.1.2.2.1+1) 24 then
    some (((0:Int),()),(((y132.2.1.1,(y132.2.1.2.1.1,y132.2.1.2.1.2.1,(y132.2.1.2.1.2.2.1++([(a1.2.2.1,y137.1.1,())]:(List (Int×Dq17)))),y132.2.1.2.1.2.2.2),y132.2.1.2.2):Dq1),()))
   else none
  else none
 else
 let x139:=iEq a1.1 6
 bif x139 then
  bif x139 then
   (qa7 ((a0.1,(a0.2.1.1,a0.2.1.2.1,a0.2.1.2.2.1,a0.2.1.2.2.2),a0.2.2):Dq1) a1.2.1).bind fun y140 =>
   bif (! y140.1.1) then
    some (((2:Int),()),(((y140.2.1.1,(y140.2.1.2.1.1,y140.2.1.2.1.2.1,y140.2.1.2.1.2.2.1,y140.2.1.2.1.2.2.2),y140.2.1.2.2):Dq1),()))
   else
   bif (iEq a1.1 6) then
    bif inB a1.2.1 (List.length y140.2.1.2.1.1) then
     (qfr (List.getD y140.2.1.2.1.1 a1.2.1.toNat Lq3)).bind fun y144 =>
     bif inB a1.2.1 (List.length y140.2.1.2.1.2.1) then
      some (((0:Int),()),(((y140.2.1.1,(y140.2.1.2.1.1,(List.set y140.2.1.2.1.2.1 a1.2.1.toNat (((y144.1.1.1.1,y144.1.1.1.2.1,y144.1.1.1.2.2),y144.1.1.2):Dq6)),y140.2.1.2.1.2.2.1,y140.2.1.2.1.2.2.2),y140.2.1.2.2):Dq1),()))
     else none
    else none
   else
   bif inB a1.2.1 (List.length y140.2.1.2.1.2.1) then
    (qfr (List.getD y140.2.1.2.1.2.1 a1.2.1.toNat Lq3)).bind fun y147 =>
    bif inB a1.2.1 (List.length y140.2.1.2.1.1) then
     some (((0:Int),()),(((y140.2.1.1,((List.set y140.2.1.2.1.1 a1.2.1.toNat (((y147.1.1.1.1,y147.1.1.1.2.1,y147.1.1.1.2.2),y147.1.1.2):Dq6)),y140.2.1.2.1.2.1,y140.2.1.2.1.2.2.1,y140.2.1.2.1.2.2.2),y140.2.1.2.2):Dq1),()))
    else none
   else none
  else
  (qd6 ((a0.1,(a0.2.1.1,a0.2.1.2.1,a0.2.1.2.2.1,a0.2.1.2.2.2),a0.2.2):Dq1) a1).bind fun y149 =>
  some ((y149.1.1,()),(((y149.2.1.1,(y149.2.1.2.1.1,y149.2.1.2.1.2.1,y149.2.1.2.1.2.2.1,y149.2.1.2.1.2.2.2),y149.2.1.2.2):Dq1),()))
 else
 bif (iEq a1.1 7) then
  (qa7 ((a0.1,(a0.2.1.1,a0.2.1.2.1,a0.2.1.2.2.1,a0.2.1.2.2.2),a0.2.2):Dq1) a1.2.1).bind fun y151 =>
  bif (! y151.1.1) then
   some (((2:Int),()),(((y151.2.1.1,(y151.2.1.2.1.1,y151.2.1.2.1.2.1,y151.2.1.2.1.2.2.1,y151.2.1.2.1.2.2.2),y151.2.1.2.2):Dq1),()))
  else
  bif (iEq a1.1 6) then
   bif inB a1.2.1 (List.length y151.2.1.2.1.1) then
    (qfr (List.getD y151.2.1.2.1.1 a1.2.1.toNat Lq3)).bind fun y155 =>
    bif inB a1.2.1 (List.length y151.2.1.2.1.2.1) then
     some (((0:Int),()),(((y151.2.1.1,(y151.2.1.2.1.1,(List.set y151.2.1.2.1.2.1 a1.2.1.toNat (((y155.1.1.1.1,y155.1.1.1.2.1,y155.1.1.1.2.2),y155.1.1.2):Dq6)),y151.2.1.2.1.2.2.1,y151.2.1.2.1.2.2.2),y151.2.1.2.2):Dq1),()))
    else none
   else none
  else
  bif inB a1.2.1 (List.length y151.2.1.2.1.2.1) then
   (qfr (List.getD y151.2.1.2.1.2.1 a1.2.1.toNat Lq3)).bind fun y158 =>
   bif inB a1.2.1 (List.length y151.2.1.2.1.1) then
    some (((0:Int),()),(((y151.2.1.1,((List.set y151.2.1.2.1.1 a1.2.1.toNat (((y158.1.1.1.1,y158.1.1.1.2.1,y158.1.1.1.2.2),y158.1.1.2):Dq6)),y151.2.1.2.1.2.1,y151.2.1.2.1.2.2.1,y151.2.1.2.1.2.2.2),y151.2.1.2.2):Dq1),()))
   else none
  else none
 else
 (qd6 ((a0.1,(a0.2.1.1,a0.2.1.2.1,a0.2.1.2.2.1,a0.2.1.2.2.2),a0.2.2):Dq1) a1).bind fun y160 =>
 some ((y160.1.1,()),(((y160.2.1.1,(y160.2.1.2.1.1,y160.2.1.2.1.2.1,y160.2.1.2.1.2.2.1,y160.2.1.2.1.2.2.2),y160.2.1.2.2):Dq1),()))
def qqe:Entry:=⟨⟨[.io (.pair (.val Uq2) (.pair (.pair (.rows Uq3) (.pair (.rows Uq3) (.pair (.rows Uq6) (.val (.unit))))) (.val (.unit)))),.v Uq7],[.v (.val (.int .i64))],true⟩,fun x=>qdf x.1 x.2.1⟩
theorem qyo (mx:GMax 4 G) (tb:GTab Tryz.prog G) (sy:GErr 1 G) (ra:GErr 2 G) (db:GDeb Tryz.prog G):Sound Tryz.prog G 46 qqe:=qab (envS (l:=[(54,qgi),(91,qpk),(92,qsj),(93,qsl),(94,qn6)]) ⟨(qjx),(qxg),(qabc tb db),(qabe),(qwo mx tb sy ra db),trivial⟩) [] Tryz.func46 (by kernel_rfl) rfl fun _=>by kernel_rfl
def qle (a0:Int):Option Dq10 :=
 (strings_Split ([111,107,32,105,110,118,97,108,105,100,32,114,97,110,103,101,32,108,105,109,105,116,32,115,116,97,116,101,32,115,121,110,116,97,120,32,110,111,116,102,111,117,110,100,32,98,117,100,103,101,116,32,112,114,111,111,102]:List UInt8) ([32]:List UInt8)).bind fun y855 =>
 bif (iLt a0 0) then some ((([]:List UInt8),()),()) else
 bif (iLe (lenI y855.1.1) a0) then some ((([]:List UInt8),()),()) else
 bif inB a0 (List.length y855.1.1) then
  some (((List.getD y855.1.1 a0.toNat ([]:List UInt8)),()),())
 else none
def qrc:Entry:=⟨⟨[.v (.int .i64)],[.v (.val (.str))],false⟩,fun x=>qle x.1⟩
theorem qzw (mx:GMax 4 G):Sound Tryz.prog G 114 qrc:=qab (envS (l:=[(109,qc8)]) ⟨(qf2 mx),trivial⟩) [] Tryz.func114 (by kernel_rfl) rfl fun _=>by kernel_rfl
def qkf (a0:Dq9):Option Dq7 :=
 (qa3 a0.1 (1:Int) (7:Int)).bind fun y885 =>
 bif y885.1.1 then
  (qa3 a0.2.1 (0:Int) (999:Int)).bind fun y886 =>
  bif y886.1.1 then
   (qa3 a0.2.2.1 (0:Int) (999:Int)).bind fun y887 =>
   bif y887.1.1 then
    bif (iEq a0.1 2) then some ((true,()),()) else
    some (((iEq a0.2.2.1 0),()),())
   else some ((false,()),())
  else some ((false,()),())
 else some ((false,()),())
def qp9:Entry:=⟨⟨[.v Uq7],[.v (.val (.bool))],false⟩,fun x=>qkf x.1⟩
theorem qyl:Sound Tryz.prog G 34 qp9:=qab (envS (l:=[(50,qcn)]) ⟨(qdg),trivial⟩) [] Tryz.func34 (by kernel_rfl) rfl fun _=>by kernel_rfl
def qhi:Option Dq13 :=
 (strings_Split ([32,115,101,101,32,115,101,110,100,32,100,101,108,105,118,101,114,32,99,111,112,121,32,100,114,111,112,32,115,97,118,101,32,99,114,97,115,104]:List UInt8) ([32]:List UInt8)).bind fun y890 =>
 some ((y890.1.1,()),())
def qks:Entry:=⟨⟨[],[.v (.rows (.str))],false⟩,fun _=>qhi⟩
theorem qqb (mx:GMax 4 G):Sound Tryz.prog G 66 qks:=qab (envS (l:=[(109,qc8)]) ⟨(qf2 mx),trivial⟩) [] Tryz.func66 (by kernel_rfl) rfl fun _=>by kernel_rfl
def qis (a0:Dq9):Option Dq10 :=
 (qkf a0).bind fun y874 =>
 bif (! y874.1.1) then some ((([]:List UInt8),()),()) else
 (qhi).bind fun y876 =>
 bif inB a0.1 (List.length y876.1.1) then
  let x877:=List.getD y876.1.1 a0.1.toNat ([]:List UInt8)
  bif strRoom x877 ([32]) then
   let x878:=strCat x877 ([32])
   (qa0 a0.2.1).bind fun y879 =>
   bif strRoom x878 y879.1.1 then
    let x880:=strCat x878 y879.1.1
    bif (iEq a0.1 2) then
     (qa0 a0.2.2.1).bind fun y882 =>
     bif strRoom ([32]) y882.1.1 then
      let x883:=strCat ([32]) y882.1.1
      bif strRoom x880 x883 then
       some (((strCat x880 x883),()),())
      else none
     else none
    else some ((x880,()),())
   else none
  else none
 else none
def qrd:Entry:=⟨⟨[.v Uq7],[.v (.val (.str))],false⟩,fun x=>qis x.1⟩
theorem qzx (mx:GMax 4 G) (tb:GTab Tryz.prog G):Sound Tryz.prog G 33 qrd:=qab (envS (l:=[(34,qp9),(66,qks),(70,qdd)]) ⟨(qyl),(qqb mx),(qeo tb),trivial⟩) [] Tryz.func33 (by kernel_rfl) rfl fun _=>by kernel_rfl
def qb7 (a0:(List (List UInt8))) (a1:List UInt8) (s891:(Int×Unit)):Option ((Int×Unit)⊕Dq12) :=
 bif (iLt s891.1 (lenI a0)) then
  bif inB s891.1 (List.length a0) then
   bif (sEq a1 (List.getD a0 s891.1.toNat ([]:List UInt8))) then
    Option.map Sum.inr (some ((s891.1,()),()))
   else
   some (Sum.inl ((iAdd .i64 s891.1 1),()))
  else none
 else
 Option.map Sum.inr (some ((Lq6,()),()))
def qd5 (a0:(List (List UInt8))) (a1:List UInt8):Option Dq12 :=
 run (qb7 a0 a1) ((0:Int),())
def qk8:Entry:=⟨⟨[.v (.list (.str)),.v (.str)],[.v (.val (.int .i64))],false⟩,fun x=>qd5 x.1 x.2.1⟩
theorem qtw:Sound Tryz.prog G 65 qk8:=qab (envS (l:=[]) trivial) [(2,.vary [(8,.sc (.int .i64))])] Tryz.func65 (by kernel_rfl) rfl fun _=>by kernel_rfl
def qer (a0:List UInt8):Option ((Dq9×Int×Unit)×Unit) :=
 (qbq a0).bind fun y859 =>
 (qhi).bind fun y860 =>
 (qbi ((y859.1.1.1,y859.1.1.2):Dq5)).bind fun y861 =>
 (qd5 y860.1.1 y861.1.1).bind fun y862 =>
 (qac ((y861.2.1.1,y861.2.1.2):Dq5)).bind fun y863 =>
 bif (iEq y862.1.1 2) then
  (qac ((y863.2.1.1,y863.2.1.2):Dq5)).bind fun y865 =>
  (qak ((y865.2.1.1,y865.2.1.2):Dq5)).bind fun y866 =>
  bif (! y866.1.1) then some ((Lq10,(5:Int),()),()) else
  (qis ((y862.1.1,y863.1.1,y865.1.1,()):Dq9)).bind fun y868 =>
  bif (! (sEq y868.1.1 a0)) then some ((Lq10,(5:Int),()),()) else some ((((y862.1.1,y863.1.1,y865.1.1,()):Dq9),(0:Int),()),())
 else
 (qak ((y863.2.1.1,y863.2.1.2):Dq5)).bind fun y870 =>
 bif (! y870.1.1) then some ((Lq10,(5:Int),()),()) else
 (qis ((y862.1.1,y863.1.1,0,()):Dq9)).bind fun y872 =>
 bif (! (sEq y872.1.1 a0)) then some ((Lq10,(5:Int),()),()) else some ((((y862.1.1,y863.1.1,0,()):Dq9),(0:Int),()),())
def qrg:Entry:=⟨⟨[.v (.str)],[.v (.val Uq7),.v (.val (.int .i64))],false⟩,fun x=>qer x.1⟩
theorem qz0 (mx:GMax 4 G) (tb:GTab Tryz.prog G) (sy:GErr 1 G) (ra:GErr 2 G):Sound Tryz.prog G 32 qrg:=qab (envS (l:=[(33,qrd),(64,qih),(65,qk8),(66,qks),(67,qcq),(68,qc0),(69,qdo)]) ⟨(qzx mx tb),(qlw mx),(qtw),(qqb mx),(qd2),(qet tb sy ra),(qfq),trivial⟩) [] Tryz.func32 (by kernel_rfl) rfl fun _=>by kernel_rfl
def qbz (a0:Dq1) (a1:List UInt8):Option (Dq17×(Dq1×Unit)) :=
 (qer a1).bind fun y41 =>
 bif (iEq y41.1.2.1 0) then
  (qdf ((a0.1,(a0.2.1.1,a0.2.1.2.1,a0.2.1.2.2.1,a0.2.1.2.2.2),a0.2.2):Dq1) y41.1.1).bind fun y43 =>
  bif (! (iEq y43.1.1 0)) then
   (qle y43.1.1).bind fun y45 =>
   bif strRoom ([101,114,114,111,114,32]) y45.1.1 then
    some (((strCat ([101,114,114,111,114,32]) y45.1.1),()),(((y43.2.1.1,(y43.2.1.2.1.1,y43.2.1.2.1.2.1,y43.2.1.2.1.2.2.1,y43.2.1.2.1.2.2.2),y43.2.1.2.2):Dq1),()))
   else none
  else
  some ((([111,107]:List UInt8),()),(((y43.2.1.1,(y43.2.1.2.1.1,y43.2.1.2.1.2.1,y43.2.1.2.1.2.2.1,y43.2.1.2.1.2.2.2),y43.2.1.2.2):Dq1),()))
 else
 bif (sEq a1 ([97,103,114,101,101,100])) then
  (qei ((a0.1,(a0.2.1.1,a0.2.1.2.1,a0.2.1.2.2.1,a0.2.1.2.2.2),a0.2.2):Dq1)).bind fun y48 =>
  bif y48.1.1 then
   some ((([121,101,115]:List UInt8),()),(((y48.2.1.1,(y48.2.1.2.1.1,y48.2.1.2.1.2.1,y48.2.1.2.1.2.2.1,y48.2.1.2.1.2.2.2),y48.2.1.2.2):Dq1),()))
  else
  some ((([110,111]:List UInt8),()),(((y48.2.1.1,(y48.2.1.2.1.1,y48.2.1.2.1.2.1,y48.2.1.2.1.2.2.1,y48.2.1.2.1.2.2.2),y48.2.1.2.2):Dq1),()))
 else
 (qbq a1).bind fun y49 =>
 (qbb ((y49.1.1.1,y49.1.1.2):Dq5) ([109,97,114,107,115]:List UInt8)).bind fun y50 =>
 (qac ((y50.2.1.1,y50.2.1.2):Dq5)).bind fun y51 =>
 (qak ((y51.2.1.1,y51.2.1.2):Dq5)).bind fun y52 =>
 bif (! y52.1.1) then
  some ((([119,104,97,116]:List UInt8),()),(((a0.1,(a0.2.1.1,a0.2.1.2.1,a0.2.1.2.2.1,a0.2.1.2.2.2),a0.2.2):Dq1),()))
 else
 (qa7 ((a0.1,(a0.2.1.1,a0.2.1.2.1,a0.2.1.2.2.1,a0.2.1.2.2.2),a0.2.2):Dq1) y51.1.1).bind fun y54 =>
 bif (! y54.1.1) then
  some ((([119,104,97,116]:List UInt8),()),(((y54.2.1.1,(y54.2.1.2.1.1,y54.2.1.2.1.2.1,y54.2.1.2.1.2.2.1,y54.2.1.2.1.2.2.2),y54.2.1.2.2):Dq1),()))
 else
 bif inB y51.1.1 (List.length y54.2.1.2.1.1) then
  let x56:=List.getD y54.2.1.2.1.1 y51.1.1.toNat Lq3
  (qa0 (lenI x56.1.2.1)).bind fun y57 =>
  bif strRoom y57.1.1 ([32]) then
   let x58:=strCat y57.1.1 ([32])
   (qa0 x56.2.1).bind fun y59 =>
   bif strRoom x58 y59.1.1 then
    some (((strCat x58 y59.1.1),()),(((y54.2.1.1,(y54.2.1.2.1.1,y54.2.1.2.1.2.1,y54.2.1.2.1.2.2.1,y54.2.1.2.1.2.2.2),y54.2.1.2.2):Dq1),()))
   else none
  else none
 else none
def qhn:Entry:=⟨⟨[.io (.pair (.val Uq2) (.pair (.pair (.rows Uq3) (.pair (.rows Uq3) (.pair (.rows Uq6) (.val (.unit))))) (.val (.unit)))),.v (.str)],[.v (.val (.str))],true⟩,fun x=>qbz x.1 x.2.1⟩
theorem qmb (mx:GMax 4 G) (tb:GTab Tryz.prog G) (sy:GErr 1 G) (ra:GErr 2 G) (db:GDeb Tryz.prog G):Sound Tryz.prog G 76 qhn:=qab (envS (l:=[(32,qrg),(46,qqe),(53,qma),(54,qgi),(64,qih),(68,qc0),(69,qdo),(70,qdd),(114,qrc),(115,qf4)]) ⟨(qz0 mx tb sy ra),(qyo mx tb sy ra db),(qua),(qjx),(qlw mx),(qet tb sy ra),(qfq),(qeo tb),(qzw mx),(qko),trivial⟩) [] Tryz.func76 (by kernel_rfl) rfl fun _=>by kernel_rfl
def qoj (a0:Nat):Option Dq7 :=
 some (((fLt .f32 a0 0),()),())
def qqc:Entry:=⟨⟨[.v (.flt .f32)],[.v (.val (.bool))],false⟩,fun x=>qoj x.1⟩
theorem qyn:Sound Tryz.prog G 97 qqc:=qab (envS (l:=[]) trivial) [] Tryz.func97 (by kernel_rfl) rfl fun _=>by kernel_rfl
def qem (a0:(List Nat)) (a1:((Nat×Unit)→Option Bool)) (s925:(Int×Unit)):Option ((Int×Unit)⊕Dq12) :=
 bif (iLt s925.1 (lenI a0)) then
  bif inB s925.1 (List.length a0) then
   (a1 ((List.getD a0 s925.1.toNat (0:Nat)),())).bind fun y928 =>
   bif y928 then
    Option.map Sum.inr (some ((s925.1,()),()))
   else
   some (Sum.inl ((iAdd .i64 s925.1 1),()))
  else none
 else
 Option.map Sum.inr (some ((Lq6,()),()))
def qdp (a0:(List Nat)) (a1:((Nat×Unit)→Option Bool)):Option Dq12 :=
 run (qem a0 a1) ((0:Int),())
def qh2:Entry:=⟨⟨[.v (.list (.flt .f32)),.fn ⟨[.flt .f32],.bool⟩],[.v (.val (.int .i64))],false⟩,fun x=>qdp x.1 x.2.1⟩
theorem qpp:Sound Tryz.prog G 135 qh2:=qab (envS (l:=[]) trivial) [(2,.vary [(8,.sc (.int .i64))])] Tryz.func135 (by kernel_rfl) rfl fun _=>by kernel_rfl
def qcx (a0:(List Nat)) (a1:((Nat×Unit)→Option Bool)):Option Dq7 :=
 (qdp a0 a1).bind fun y923 =>
 some (((iLe 0 y923.1.1),()),())
def qgp:Entry:=⟨⟨[.v (.list (.flt .f32)),.fn ⟨[.flt .f32],.bool⟩],[.v (.val (.bool))],false⟩,fun x=>qcx x.1 x.2.1⟩
theorem qna:Sound Tryz.prog G 96 qgp:=qab (envS (l:=[(135,qh2)]) ⟨(qpp),trivial⟩) [] Tryz.func96 (by kernel_rfl) rfl fun _=>by kernel_rfl
def qms (a0:(List Nat)):Option Dq7 :=
 (qcz a0).bind fun y918 =>
 bif y918.1.1 then
  (qcx a0 (fun (z919:(Nat×Unit))=>(qoj z919.1).map fun y=>y.1.1)).bind fun y920 =>
  some (((! y920.1.1),()),())
 else some ((false,()),())
def qsh:Entry:=⟨⟨[.v (.list (.flt .f32))],[.v (.val (.bool))],false⟩,fun x=>qms x.1⟩
theorem qaa9:Sound Tryz.prog G 49 qsh:=qab (envS (l:=[(95,qfp),(96,qgp),(97,qqc)]) ⟨(qif),(qna),(qyn),trivial⟩) [] Tryz.func49 (by kernel_rfl) rfl fun _=>by kernel_rfl
def qgf (x904:(List Dq4)) (a0:Dq8) (s902:(Int×Unit)) (s906:(Int×Unit)):Option ((Int×Unit)⊕((Int×Unit)⊕Dq7)) :=
 bif (iLt s906.1 (lenI x904)) then
  bif inB s906.1 (List.length x904) then
   let x908:=List.getD x904 s906.1.toNat Lq7
   (qck a0.1 x908.1).bind fun y909 =>
   bif (! (iEq y909.1.2.1 0)) then
    Option.map Sum.inr (Option.map Sum.inr (some ((false,()),())))
   else
   (qec x908.2.1).bind fun y911 =>
   bif (! y911.1.1) then
    Option.map Sum.inr (Option.map Sum.inr (some ((false,()),())))
   else
   bif (fLt .f32 1232348160 x908.2.1) then
    Option.map Sum.inr (Option.map Sum.inr (some ((false,()),())))
   else
   (qi4 x908.2.2.1).bind fun y914 =>
   bif (! y914.1.1) then
    Option.map Sum.inr (Option.map Sum.inr (some ((false,()),())))
   else
   some (Sum.inl ((iAdd .i64 s906.1 1),()))
  else none
 else
 Option.map Sum.inr (some (Sum.inl ((iAdd .i64 s902.1 1),())))
def qge (a0:Dq8) (s902:(Int×Unit)):Option ((Int×Unit)⊕Dq7) :=
 bif (iLt s902.1 (lenI a0.2.2.1)) then
  bif inB s902.1 (List.length a0.2.2.1) then
   let x904:=List.getD a0.2.2.1 s902.1.toNat ([]:(List Dq4))
   bif (iLt 16 (lenI x904)) then
    Option.map Sum.inr (some ((false,()),()))
   else run (qgf x904 a0 s902) ((0:Int),())
  else none
 else
 Option.map Sum.inr (some ((true,()),()))
def qgd (a0:Dq8):Option Dq7 :=
 (qec a0.1).bind fun y896 =>
 bif (! y896.1.1) then some ((false,()),()) else
 (qms ([a0.2.1]:(List Nat))).bind fun y898 =>
 bif (! y898.1.1) then some ((false,()),()) else
 (qa3 (lenI a0.2.2.1) (1:Int) (4:Int)).bind fun y900 =>
 bif (! y900.1.1) then some ((false,()),()) else run (qge a0) ((0:Int),())
def qju:Entry:=⟨⟨[.v Uq2],[.v (.val (.bool))],false⟩,fun x=>qgd x.1⟩
theorem qpj:Sound Tryz.prog G 17 qju:=qab (envS (l:=[(48,qfj),(49,qsh),(50,qcn),(51,qkd),(52,qki)]) ⟨(qhj),(qaa9),(qdg),(qoi),(qok),trivial⟩) [(4,.vary [(30,.sc (.int .i64))]),(9,.vary [(39,.sc (.int .i64))])] Tryz.func17 (by kernel_rfl) rfl fun _=>by kernel_rfl
def qe3 (a0:Dq8) (s933:(Int×Dq1×Unit)):Option ((Int×Dq1×Unit)⊕((Dq1×Unit)×Unit)) :=
 bif (iLt s933.1 (lenI a0.2.2.1)) then
  bif room (List.length s933.2.1.2.1.1+1) 40 then
   bif room (List.length s933.2.1.2.1.2.1+1) 40 then
    some (Sum.inl ((iAdd .i64 s933.1 1),((s933.2.1.1,((s933.2.1.2.1.1++([((a0.1,[],()),0,())]:(List Dq6))),(s933.2.1.2.1.2.1++([((a0.1,[],()),0,())]:(List Dq6))),s933.2.1.2.1.2.2.1,s933.2.1.2.1.2.2.2),s933.2.1.2.2):Dq1),()))
   else none
  else none
 else
 Option.map Sum.inr (some ((((s933.2.1.1,(s933.2.1.2.1.1,s933.2.1.2.1.2.1,s933.2.1.2.1.2.2.1,s933.2.1.2.1.2.2.2),s933.2.1.2.2):Dq1),()),()))
def qhl (a0:Dq8):Option ((Dq1×Unit)×Unit) :=
 run (qe3 a0) ((0:Int),((a0,([],[],[],()),()):Dq1),())
def qku:Entry:=⟨⟨[.v Uq2],[.p (.pair (.val Uq2) (.pair (.pair (.rows Uq3) (.pair (.rows Uq3) (.pair (.rows Uq6) (.val (.unit))))) (.val (.unit))))],true⟩,fun x=>qhl x.1⟩
theorem qqd:Sound Tryz.prog G 59 qku:=qab (envS (l:=[]) trivial) [(3,.vary [(10,.sc (.int .i64)),(3,.box (.pair (.val Uq2) (.pair (.pair (.rows Uq3) (.pair (.rows Uq3) (.pair (.rows Uq6) (.val (.unit))))) (.val (.unit)))))])] Tryz.func59 (by kernel_rfl) rfl fun _=>by kernel_rfl
def qho (a0:List UInt8):Option Dq13 :=
 (strings_Split a0 ([10]:List UInt8)).bind fun y938 =>
 let x939:=iSub .i64 (lenI y938.1.1) 1
 bif inB x939 (List.length y938.1.1) then
  bif (sEq (List.getD y938.1.1 x939.toNat ([]:List UInt8)) ([])) then
   bif inS 0 x939 (List.length y938.1.1) then some ((List.take x939.toNat (List.drop 0 y938.1.1),()),()) else none
  else some ((y938.1.1,()),())
 else none
def qkv:Entry:=⟨⟨[.v (.str)],[.v (.rows (.str))],false⟩,fun x=>qho x.1⟩
theorem qqf (mx:GMax 4 G):Sound Tryz.prog G 74 qkv:=qab (envS (l:=[(109,qc8)]) ⟨(qf2 mx),trivial⟩) [] Tryz.func74 (by kernel_rfl) rfl fun _=>by kernel_rfl
def qdu (y13:Dq13) (s33:(Int×Dq1×Dq11×Unit)):Option ((Int×Dq1×Dq11×Unit)⊕(Dq15×Unit)) :=
 bif (iLt s33.1 (lenI y13.1.1)) then
  bif inB s33.1 (List.length y13.1.1) then
   (qbz ((s33.2.1.1,(s33.2.1.2.1.1,s33.2.1.2.1.2.1,s33.2.1.2.1.2.2.1,s33.2.1.2.1.2.2.2),s33.2.1.2.2):Dq1) (List.getD y13.1.1 s33.1.toNat ([]:List UInt8))).bind fun y36 =>
   bif strRoom y36.1.1 ([10]) then
    (qap ((s33.2.2.1.1,s33.2.2.1.2.1,s33.2.2.1.2.2):Dq11) (strCat y36.1.1 ([10]))).bind fun y38 =>
    some (Sum.inl ((iAdd .i64 s33.1 1),((y36.2.1.1,(y36.2.1.2.1.1,y36.2.1.2.1.2.1,y36.2.1.2.1.2.2.1,y36.2.1.2.1.2.2.2),y36.2.1.2.2):Dq1),((y38.2.1.1,y38.2.1.2.1,y38.2.1.2.2):Dq11),()))
   else none
  else none
 else
 Option.map Sum.inr (
  (bldStr ((s33.2.2.1.1,s33.2.2.1.2.1,s33.2.2.1.2.2):Dq11)).bind fun y40 =>
  some ((y40,(0:Int),()),()))
def qke (a0:Dq8) (a1:List UInt8):Option (Dq15×Unit) :=
 (qho a1).bind fun y13 =>
 (qgd a0).bind fun y14 =>
 bif (! y14.1.1) then some ((([]:List UInt8),(1:Int),()),()) else
 bif (iLt 10000 (lenI a1)) then some ((([]:List UInt8),(2:Int),()),()) else
 bif (iLt 120 (lenI y13.1.1)) then some ((([]:List UInt8),(2:Int),()),()) else
 (qhl a0).bind fun y18 =>
 run (qdu y13) ((0:Int),((y18.1.1.1,(y18.1.1.2.1.1,y18.1.1.2.1.2.1,y18.1.1.2.1.2.2.1,y18.1.1.2.1.2.2.2),y18.1.1.2.2):Dq1),(((),[],()):Dq11),())
def qyh:Entry:=⟨⟨[.v Uq2,.v (.str)],[.v (.val (.str)),.v (.val (.int .i64))],false⟩,fun x=>qke x.1 x.2.1⟩
theorem qyj (mx:GMax 4 G) (tb:GTab Tryz.prog G) (sy:GErr 1 G) (ra:GErr 2 G) (db:GDeb Tryz.prog G):Sound Tryz.prog G 36 qyh:=qab (envS (l:=[(17,qju),(59,qku),(74,qkv),(75,qcc),(76,qhn)]) ⟨(qpj),(qqd),(qqf mx),(qds),(qmb mx tb sy ra db),trivial⟩) [(9,.vary [(30,.sc (.int .i64)),(7,.box (.pair (.val Uq2) (.pair (.pair (.rows Uq3) (.pair (.rows Uq3) (.pair (.rows Uq6) (.val (.unit))))) (.val (.unit))))),(8,.box (.pair (.val (.ref 138)) (.pair (.rows (.int .u8)) (.val (.unit)))))])] Tryz.func36 (by kernel_rfl) rfl fun _=>by kernel_rfl
def qia (a0:Dq8) (a1:List UInt8):Option (Dq15×Unit) :=
 (qho a1).bind fun y942 =>
 (qgd a0).bind fun y943 =>
 bif (! y943.1.1) then some ((([]:List UInt8),(1:Int),()),()) else
 bif (iLt 10000 (lenI a1)) then some ((([]:List UInt8),(2:Int),()),()) else
 bif (iLt 120 (lenI y942.1.1)) then some ((([]:List UInt8),(2:Int),()),()) else
 (qhl a0).bind fun y947 =>
 bif (iLt 0 (lenI y942.1.1)) then
  bif inB 0 (List.length y942.1.1) then
   (qbz ((y947.1.1.1,(y947.1.1.2.1.1,y947.1.1.2.1.2.1,y947.1.1.2.1.2.2.1,y947.1.1.2.1.2.2.2),y947.1.1.2.2):Dq1) (List.getD y942.1.1 0 ([]:List UInt8))).bind fun y950 =>
   bif strRoom y950.1.1 ([10]) then
    (qap (((),[],()):Dq11) (strCat y950.1.1 ([10]))).bind fun y952 =>
    none
   else none
  else none
 else some ((([]:List UInt8),(0:Int),()),())
def qwk:Entry:=⟨⟨[.v Uq2,.v (.str)],[.v (.val (.str)),.v (.val (.int .i64))],false⟩,fun x=>qia x.1 x.2.1⟩
theorem qwl (mx:GMax 4 G) (tb:GTab Tryz.prog G) (sy:GErr 1 G) (ra:GErr 2 G) (db:GDeb Tryz.prog G):Sound Tryz.prog G 36 qwk:=qab (envS (l:=[(17,qju),(59,qku),(74,qkv),(75,qcc),(76,qhn)]) ⟨(qpj),(qqd),(qqf mx),(qds),(qmb mx tb sy ra db),trivial⟩) [(9,.unroll 1)] Tryz.func36 (by kernel_rfl) rfl fun _=>by kernel_rfl
def qh9 (a0:Dq8) (a1:List UInt8):Option (Dq15×Unit):=(qke a0 a1).orElse fun _=>qia a0 a1
def qn3:Entry:=⟨⟨[.v Uq2,.v (.str)],[.v (.val (.str)),.v (.val (.int .i64))],false⟩,fun x=>qh9 x.1 x.2.1⟩
theorem qwj (mx:GMax 4 G) (tb:GTab Tryz.prog G) (sy:GErr 1 G) (ra:GErr 2 G) (db:GDeb Tryz.prog G):Sound Tryz.prog G 36 qn3:=qand (qyj mx tb sy ra db) (qwl mx tb sy ra db)
def qco (a0:Nat) (a1:Nat):Option Dq7 :=
 bif (! (fEq .f64 a0 a0)) then
  bif (! (fEq .f64 a0 a0)) then
   some (((! (fEq .f64 a1 a1)),()),())
  else some ((false,()),())
 else
 bif (! (fEq .f64 a1 a1)) then
  bif (! (fEq .f64 a0 a0)) then
   some (((! (fEq .f64 a1 a1)),()),())
  else some ((false,()),())
 else
 bif (fEq .f64 a0 0) then
  bif (fEq .f64 a1 0) then
   some (((bEq (fLt .f64 0 (fDiv .f64 4607182418800017408 a0)) (fLt .f64 0 (fDiv .f64 4607182418800017408 a1))),()),())
  else
  some (((fEq .f64 a0 a1),()),())
 else
 some (((fEq .f64 a0 a1),()),())
def qhc:Entry:=⟨⟨[.v (.flt .f64),.v (.flt .f64)],[.v (.val (.bool))],false⟩,fun x=>qco x.1 x.2.1⟩
theorem qkz:Sound Tryz.prog G 60 qhc:=qab (envS (l:=[]) trivial) [] Tryz.func60 (by kernel_rfl) rfl fun _=>by kernel_rfl
def qqz (a0:(Vec 3 Nat)) (a1:(Vec 3 Nat)):Option Dq7 :=
 (fConv .f32 .f64 (Vec.getD 3 a0 0 (0:Nat))).bind fun y987 =>
 (fConv .f32 .f64 (Vec.getD 3 a1 0 (0:Nat))).bind fun y989 =>
 (qco y987 y989).bind fun y990 =>
 bif (! y990.1.1) then some ((false,()),()) else
 (fConv .f32 .f64 (Vec.getD 3 a0 1 (0:Nat))).bind fun y993 =>
 (fConv .f32 .f64 (Vec.getD 3 a1 1 (0:Nat))).bind fun y995 =>
 (qco y993 y995).bind fun y996 =>
 bif (! y996.1.1) then some ((false,()),()) else
 (fConv .f32 .f64 (Vec.getD 3 a0 2 (0:Nat))).bind fun y999 =>
 (fConv .f32 .f64 (Vec.getD 3 a1 2 (0:Nat))).bind fun y1001 =>
 (qco y999 y1001).bind fun y1002 =>
 bif (! y1002.1.1) then some ((false,()),()) else some ((true,()),())
def qv2:Entry:=⟨⟨[.v (.arr 3 (.flt .f32)),.v (.arr 3 (.flt .f32))],[.v (.val (.bool))],false⟩,fun x=>qqz x.1 x.2.1⟩
theorem qafa:Sound Tryz.prog G 173 qv2:=qab (envS (l:=[(60,qhc)]) ⟨(qkz),trivial⟩) [(2,.unroll 4)] Tryz.func173 (by kernel_rfl) rfl fun _=>by kernel_rfl
def qm0 (a0:Dq4) (a1:Dq4):Option Dq7 :=
 (qqz a0.1 a1.1).bind fun y979 =>
 bif (! y979.1.1) then some ((false,()),()) else
 (fConv .f32 .f64 a0.2.1).bind fun y981 =>
 (fConv .f32 .f64 a1.2.1).bind fun y982 =>
 (qco y981 y982).bind fun y983 =>
 bif (! y983.1.1) then some ((false,()),()) else
 bif (! (iEq a0.2.2.1 a1.2.2.1)) then some ((false,()),()) else some ((true,()),())
def qsp:Entry:=⟨⟨[.v Uq4,.v Uq4],[.v (.val (.bool))],false⟩,fun x=>qm0 x.1 x.2.1⟩
theorem qabn:Sound Tryz.prog G 147 qsp:=qab (envS (l:=[(60,qhc),(173,qv2)]) ⟨(qkz),(qafa),trivial⟩) [] Tryz.func147 (by kernel_rfl) rfl fun _=>by kernel_rfl
def qlz (a0:(List Dq4)) (a1:(List Dq4)) (s972:(Int×Unit)):Option ((Int×Unit)⊕Dq7) :=
 bif (iLt s972.1 (lenI a0)) then
  bif inB s972.1 (List.length a0) then
   bif inB s972.1 (List.length a1) then
    (qm0 (List.getD a0 s972.1.toNat Lq7) (List.getD a1 s972.1.toNat Lq7)).bind fun y976 =>
    bif (! y976.1.1) then
     Option.map Sum.inr (some ((false,()),()))
    else
    some (Sum.inl ((iAdd .i64 s972.1 1),()))
   else none
  else none
 else
 Option.map Sum.inr (some ((true,()),()))
def qlf (a0:(List Dq4)) (a1:(List Dq4)):Option Dq7 :=
 bif (! (iEq (lenI a0) (lenI a1))) then some ((false,()),()) else run (qlz a0 a1) ((0:Int),())
def qrl:Entry:=⟨⟨[.v (.list Uq4),.v (.list Uq4)],[.v (.val (.bool))],false⟩,fun x=>qlf x.1 x.2.1⟩
theorem qz4:Sound Tryz.prog G 108 qrl:=qab (envS (l:=[(147,qsp)]) ⟨(qabn),trivial⟩) [(4,.vary [(5,.sc (.int .i64))])] Tryz.func108 (by kernel_rfl) rfl fun _=>by kernel_rfl
def qkx (a0:(List (List Dq4))) (a1:(List (List Dq4))) (s964:(Int×Unit)):Option ((Int×Unit)⊕Dq7) :=
 bif (iLt s964.1 (lenI a0)) then
  bif inB s964.1 (List.length a0) then
   bif inB s964.1 (List.length a1) then
    (qlf (List.getD a0 s964.1.toNat ([]:(List Dq4))) (List.getD a1 s964.1.toNat ([]:(List Dq4)))).bind fun y968 =>
    bif (! y968.1.1) then
     Option.map Sum.inr (some ((false,()),()))
    else
    some (Sum.inl ((iAdd .i64 s964.1 1),()))
   else none
  else none
 else
 Option.map Sum.inr (some ((true,()),()))
def qkk (a0:(List (List Dq4))) (a1:(List (List Dq4))):Option Dq7 :=
 bif (! (iEq (lenI a0) (lenI a1))) then some ((false,()),()) else run (qkx a0 a1) ((0:Int),())
def qqi:Entry:=⟨⟨[.v (.list (.list Uq4)),.v (.list (.list Uq4))],[.v (.val (.bool))],false⟩,fun x=>qkk x.1 x.2.1⟩
theorem qyq:Sound Tryz.prog G 61 qqi:=qab (envS (l:=[(108,qrl)]) ⟨(qz4),trivial⟩) [(4,.vary [(5,.sc (.int .i64))])] Tryz.func61 (by kernel_rfl) rfl fun _=>by kernel_rfl
def qmz (a0:Dq8) (a1:Dq8):Option Dq7 :=
 (fConv .f32 .f64 a0.1).bind fun y953 =>
 (fConv .f32 .f64 a1.1).bind fun y954 =>
 (qco y953 y954).bind fun y955 =>
 bif (! y955.1.1) then some ((false,()),()) else
 (fConv .f32 .f64 a0.2.1).bind fun y957 =>
 (fConv .f32 .f64 a1.2.1).bind fun y958 =>
 (qco y957 y958).bind fun y959 =>
 bif (! y959.1.1) then some ((false,()),()) else
 (qkk a0.2.2.1 a1.2.2.1).bind fun y961 =>
 bif (! y961.1.1) then some ((false,()),()) else some ((true,()),())
def qso:Entry:=⟨⟨[.v Uq2,.v Uq2],[.v (.val (.bool))],false⟩,fun x=>qmz x.1 x.2.1⟩
theorem qabl:Sound Tryz.prog G 29 qso:=qab (envS (l:=[(60,qhc),(61,qqi)]) ⟨(qkz),(qyq),trivial⟩) [] Tryz.func29 (by kernel_rfl) rfl fun _=>by kernel_rfl
def qlg (a0:(List Dq4)) (a1:Int):Option Dq12 :=
 let x1029:=iSub .i64 a1 (lenI a0)
 bif (iLt x1029 0) then some ((Lq6,()),()) else some ((x1029,()),())
def qrm:Entry:=⟨⟨[.v (.list Uq4),.v (.int .i64)],[.v (.val (.int .i64))],false⟩,fun x=>qlg x.1 x.2.1⟩
theorem qz6:Sound Tryz.prog G 106 qrm:=qab (envS (l:=[]) trivial) [] Tryz.func106 (by kernel_rfl) rfl fun _=>by kernel_rfl
def qhd (a0:(List (List Dq4))) (s1023:Dq19):Option (Dq19⊕Dq12) :=
 bif (iLt s1023.2.1 (lenI a0)) then
  bif inB s1023.2.1 (List.length a0) then
   (qlg (List.getD a0 s1023.2.1.toNat ([]:(List Dq4))) s1023.1).bind fun y1026 =>
   bif (iLt y1026.1.1 0) then
    Option.map Sum.inr (some ((Lq6,()),()))
   else
   some (Sum.inl (y1026.1.1,(iAdd .i64 s1023.2.1 1),()))
  else none
 else
 Option.map Sum.inr (some ((s1023.1,()),()))
def qkl (a0:(List (List Dq4))) (a1:Int):Option Dq12 :=
 let x1021:=iSub .i64 a1 (lenI a0)
 bif (iLt x1021 0) then some ((Lq6,()),()) else run (qhd a0) (x1021,(0:Int),())
def qqj:Entry:=⟨⟨[.v (.list (.list Uq4)),.v (.int .i64)],[.v (.val (.int .i64))],false⟩,fun x=>qkl x.1 x.2.1⟩
theorem qys:Sound Tryz.prog G 56 qqj:=qab (envS (l:=[(106,qrm)]) ⟨(qz6),trivial⟩) [(5,.vary [(1,.sc (.int .i64)),(5,.sc (.int .i64))])] Tryz.func56 (by kernel_rfl) rfl fun _=>by kernel_rfl
def qm1 (a0:Dq8) (a1:Int):Option Dq12 :=
 (qkl a0.2.2.1 a1).bind fun y1019 =>
 bif (iLt y1019.1.1 0) then some ((Lq6,()),()) else some ((y1019.1.1,()),())
def qsq:Entry:=⟨⟨[.v Uq2,.v (.int .i64)],[.v (.val (.int .i64))],false⟩,fun x=>qm1 x.1 x.2.1⟩
theorem qabp:Sound Tryz.prog G 23 qsq:=qab (envS (l:=[(56,qqj)]) ⟨(qys),trivial⟩) [] Tryz.func23 (by kernel_rfl) rfl fun _=>by kernel_rfl
def qvk (a0:(Vec 3 Nat)):Option (((Vec 3 Nat)×Unit)×Unit) :=
 some (((((Vec.getD 3 a0 0 (0:Nat)),(Vec.getD 3 a0 1 (0:Nat)),(Vec.getD 3 a0 2 (0:Nat)),()):(Vec 3 Nat)),()),())
def qv3:Entry:=⟨⟨[.v (.arr 3 (.flt .f32))],[.v (.val (.arr 3 (.flt .f32)))],false⟩,fun x=>qvk x.1⟩
theorem qafc:Sound Tryz.prog G 172 qv3:=qab (envS (l:=[]) trivial) [(3,.unroll 4)] Tryz.func172 (by kernel_rfl) rfl fun _=>by kernel_rfl
def qm2 (a0:Dq4):Option ((Dq4×Unit)×Unit) :=
 (qvk a0.1).bind fun y1056 =>
 some ((((y1056.1.1,a0.2.1,a0.2.2.1,()):Dq4),()),())
def qss:Entry:=⟨⟨[.v Uq4],[.v (.val Uq4)],false⟩,fun x=>qm2 x.1⟩
theorem qabt:Sound Tryz.prog G 146 qss:=qab (envS (l:=[(172,qv3)]) ⟨(qafc),trivial⟩) [] Tryz.func146 (by kernel_rfl) rfl fun _=>by kernel_rfl
def ql0 (a0:(List Dq4)) (s1050:(Int×(List Dq4)×Unit)):Option ((Int×(List Dq4)×Unit)⊕(((List Dq4)×Unit)×Unit)) :=
 bif (iLt s1050.1 (lenI a0)) then
  bif inB s1050.1 (List.length a0) then
   (qm2 (List.getD a0 s1050.1.toNat Lq7)).bind fun y1053 =>
   bif inB s1050.1 (List.length s1050.2.1) then
    some (Sum.inl ((iAdd .i64 s1050.1 1),(List.set s1050.2.1 s1050.1.toNat y1053.1.1),()))
   else none
  else none
 else
 Option.map Sum.inr (some ((s1050.2.1,()),()))
def qlh (a0:(List Dq4)):Option (((List Dq4)×Unit)×Unit) :=
 bif (iLe 0 (lenI a0)&&iLe (lenI a0) (lenI a0)&&room (lenI a0).toNat 24) then run (ql0 a0) ((0:Int),List.replicate (lenI a0).toNat Lq7,()) else none
def qrn:Entry:=⟨⟨[.v (.list Uq4)],[.v (.rows Uq4)],false⟩,fun x=>qlh x.1⟩
theorem qz8:Sound Tryz.prog G 107 qrn:=qab (envS (l:=[(146,qss)]) ⟨(qabt),trivial⟩) [(3,.vary [(4,.sc (.int .i64)),(3,.mrows Uq4)])] Tryz.func107 (by kernel_rfl) rfl fun _=>by kernel_rfl
def qk0 (a0:(List (List Dq4))) (s1038:(Int×(List (List Dq4))×Unit)):Option ((Int×(List (List Dq4))×Unit)⊕(((List (List Dq4))×Unit)×Unit)) :=
 bif (iLt s1038.1 (lenI a0)) then
  bif inB s1038.1 (List.length a0) then
   (qlh (List.getD a0 s1038.1.toNat ([]:(List Dq4)))).bind fun y1041 =>
   bif inB s1038.1 (List.length s1038.2.1) then
    some (Sum.inl ((iAdd .i64 s1038.1 1),(List.set s1038.2.1 s1038.1.toNat y1041.1.1),()))
   else none
  else none
 else
 Option.map Sum.inr (some ((s1038.2.1,()),()))
def qkm (a0:(List (List Dq4))):Option (((List (List Dq4))×Unit)×Unit) :=
 bif (iLe 0 (lenI a0)&&iLe (lenI a0) (lenI a0)&&room (lenI a0).toNat 24) then run (qk0 a0) ((0:Int),List.replicate (lenI a0).toNat ([]:(List Dq4)),()) else none
def qqk:Entry:=⟨⟨[.v (.list (.list Uq4))],[.v (.rows (.list Uq4))],true⟩,fun x=>qkm x.1⟩
theorem qyu:Sound Tryz.prog G 57 qqk:=qab (envS (l:=[(107,qrn)]) ⟨(qz8),trivial⟩) [(3,.vary [(4,.sc (.int .i64)),(3,.mrows (.list Uq4))])] Tryz.func57 (by kernel_rfl) rfl fun _=>by kernel_rfl
def qhq (a0:Dq8):Option ((Dq8×Unit)×Unit) :=
 (qkm a0.2.2.1).bind fun y1031 =>
 some ((((a0.1,a0.2.1,y1031.1.1,()):Dq8),()),())
def qsr:Entry:=⟨⟨[.v Uq2],[.v (.pair (.val (.flt .f32)) (.pair (.val (.flt .f32)) (.pair (.rows (.list Uq4)) (.val (.unit)))))],true⟩,fun x=>qhq x.1⟩
theorem qabr:Sound Tryz.prog G 26 qsr:=qab (envS (l:=[(57,qqk)]) ⟨(qyu),trivial⟩) [] Tryz.func26 (by kernel_rfl) rfl fun _=>by kernel_rfl
def qbl (a0:Nat) (a1:Nat):Option Dq7 :=
 bif (! (fEq .f32 a0 a0)) then
  bif (! (fEq .f32 a0 a0)) then
   some (((! (fEq .f32 a1 a1)),()),())
  else some ((false,()),())
 else
 bif (! (fEq .f32 a1 a1)) then
  bif (! (fEq .f32 a0 a0)) then
   some (((! (fEq .f32 a1 a1)),()),())
  else some ((false,()),())
 else
 allSame fun (q1176:Nat) =>
 allSame fun (q1178:Nat) =>
 some (((iEq (bitsF .f32 a0 q1176) (bitsF .f32 a1 q1178)),()),())
def qgr:Entry:=⟨⟨[.v (.flt .f32),.v (.flt .f32)],[.v (.val (.bool))],false⟩,fun x=>qbl x.1 x.2.1⟩
theorem qji:Sound Tryz.prog G 104 qgr:=qab (envS (l:=[]) trivial) [] Tryz.func104 (by kernel_rfl) rfl fun _=>by kernel_rfl
def qjh (a0:(Vec 3 Nat)) (a1:(Vec 3 Nat)):Option Dq7 :=
 (qbl (Vec.getD 3 a0 0 (0:Nat)) (Vec.getD 3 a1 0 (0:Nat))).bind fun y1188 =>
 bif y1188.1.1 then
  (qbl (Vec.getD 3 a0 1 (0:Nat)) (Vec.getD 3 a1 1 (0:Nat))).bind fun y1191 =>
  bif y1191.1.1 then
   (qbl (Vec.getD 3 a0 2 (0:Nat)) (Vec.getD 3 a1 2 (0:Nat))).bind fun y1194 =>
   some ((y1194.1.1,()),())
  else some ((false,()),())
 else some ((false,()),())
def qpq:Entry:=⟨⟨[.v (.arr 3 (.flt .f32)),.v (.arr 3 (.flt .f32))],[.v (.val (.bool))],false⟩,fun x=>qjh x.1 x.2.1⟩
theorem qx5:Sound Tryz.prog G 145 qpq:=qab (envS (l:=[(104,qgr)]) ⟨(qji),trivial⟩) [] Tryz.func145 (by kernel_rfl) rfl fun _=>by kernel_rfl
def qip (a0:Dq2) (a1:Dq2):Option Dq7 :=
 bif (iEq (Vec.getD 3 a0.1 0 (0:Int)) (Vec.getD 3 a1.1 0 (0:Int))&&(iEq (Vec.getD 3 a0.1 1 (0:Int)) (Vec.getD 3 a1.1 1 (0:Int))&&(iEq (Vec.getD 3 a0.1 2 (0:Int)) (Vec.getD 3 a1.1 2 (0:Int))&&true))) then
  (qjh a0.2.1 a1.2.1).bind fun y1182 =>
  bif y1182.1.1 then
   (qbl a0.2.2.1 a1.2.2.1).bind fun y1183 =>
   bif y1183.1.1 then
    bif (iEq a0.2.2.2.1 a1.2.2.2.1) then
     some (((iEq a0.2.2.2.2.1 a1.2.2.2.2.1),()),())
    else some ((false,()),())
   else some ((false,()),())
  else some ((false,()),())
 else some ((false,()),())
def qn9:Entry:=⟨⟨[.ro Uq1,.ro Uq1],[.v (.val (.bool))],false⟩,fun x=>qip x.1 x.2.1⟩
theorem qwr:Sound Tryz.prog G 105 qn9:=qab (envS (l:=[(104,qgr),(145,qpq)]) ⟨(qji),(qx5),trivial⟩) [] Tryz.func105 (by kernel_rfl) rfl fun _=>by kernel_rfl
def qno (a0:Dq3) (a1:Dq3) (s1165:(Int×Unit)):Option ((Int×Unit)⊕Dq7) :=
 bif (iLt s1165.1 (lenI a0.2.1)) then
  bif inB s1165.1 (List.length a0.2.1) then
   bif inB s1165.1 (List.length a1.2.1) then
    (qip (List.getD a0.2.1 s1165.1.toNat Lq1) (List.getD a1.2.1 s1165.1.toNat Lq1)).bind fun y1167 =>
    bif (! y1167.1.1) then
     Option.map Sum.inr (some ((false,()),()))
    else
    some (Sum.inl ((iAdd .i64 s1165.1 1),()))
   else none
  else none
 else
 Option.map Sum.inr (some ((true,()),()))
def qnn (a0:Dq3) (a1:Dq3):Option Dq7 :=
 (qbl a0.1 a1.1).bind fun y1162 =>
 bif (! y1162.1.1) then some ((false,()),()) else
 bif (! (iEq (lenI a0.2.1) (lenI a1.2.1))) then some ((false,()),()) else run (qno a0 a1) ((0:Int),())
def qtf:Entry:=⟨⟨[.ro Uq5,.ro Uq5],[.v (.val (.bool))],false⟩,fun x=>qnn x.1 x.2.1⟩
theorem qacr:Sound Tryz.prog G 55 qtf:=qab (envS (l:=[(104,qgr),(105,qn9)]) ⟨(qji),(qwr),trivial⟩) [(4,.vary [(5,.sc (.int .i64))])] Tryz.func55 (by kernel_rfl) rfl fun _=>by kernel_rfl
def qdk (a0:Dq1) (s1157:(Int×Unit)):Option ((Int×Unit)⊕((Bool×Unit)×(Dq1×Unit))) :=
 bif (iLt s1157.1 (lenI a0.2.1.1)) then
  bif inB 0 (List.length a0.2.1.1) then
   bif inB s1157.1 (List.length a0.2.1.1) then
    (qnn ((List.getD a0.2.1.1 0 Lq3).1) ((List.getD a0.2.1.1 s1157.1.toNat Lq3).1)).bind fun y1159 =>
    bif (! y1159.1.1) then
     Option.map Sum.inr (some ((false,()),(((a0.1,(a0.2.1.1,a0.2.1.2.1,a0.2.1.2.2.1,a0.2.1.2.2.2),a0.2.2):Dq1),())))
    else
    some (Sum.inl ((iAdd .i64 s1157.1 1),()))
   else none
  else none
 else
 Option.map Sum.inr (some ((true,()),(((a0.1,(a0.2.1.1,a0.2.1.2.1,a0.2.1.2.2.1,a0.2.1.2.2.2),a0.2.2):Dq1),())))
def qgx (a0:Dq1):Option ((Bool×Unit)×(Dq1×Unit)) :=
 run (qdk a0) ((1:Int),())
def qmf:Entry:=⟨⟨[.io (.pair (.ro Uq2) (.pair (.pair (.rows Uq3) (.pair (.rows Uq3) (.pair (.rows Uq6) (.val (.unit))))) (.val (.unit))))],[.v (.val (.bool))],true⟩,fun x=>qgx x.1⟩
theorem quv:Sound Tryz.prog G 63 qmf:=qab (envS (l:=[(55,qtf)]) ⟨(qacr),trivial⟩) [(2,.vary [(3,.sc (.int .i64))])] Tryz.func63 (by kernel_rfl) rfl fun _=>by kernel_rfl
end
end Go.Proofs.YtjhdoneobdbeaaaGreatDoor
