import Derived.Test.YtnndahnmlmgenaaGreatDoorF3
/- Functions on typed data: what the evaluation of each Go function is, and that it is sound. -/
set_option linter.unusedVariables false
namespace Go.Proofs.YtnndahnmlmgenaaGreatDoor
open Go Go.Tm
noncomputable section
set_option maxRecDepth 100000
variable {G : List (Nat × Obj)}
def qdl (a0:(Vec 3 Nat)) (a1:(Vec 3 Nat)):Option (Dq20×Unit) :=
 some (((((fSub .f32 (Vec.getD 3 a0 0 (0:Nat)) (Vec.getD 3 a1 0 (0:Nat))),(fSub .f32 (Vec.getD 3 a0 1 (0:Nat)) (Vec.getD 3 a1 1 (0:Nat))),(fSub .f32 (Vec.getD 3 a0 2 (0:Nat)) (Vec.getD 3 a1 2 (0:Nat))),()):(Vec 3 Nat)),()),())
def qlv:Entry:=⟨⟨[.v (.arr 3 (.flt .f32)),.v (.arr 3 (.flt .f32))],[.v (.val (.arr 3 (.flt .f32)))],false⟩,fun x=>qdl x.1 x.2.1⟩
theorem qqk:Sound Tryz.prog G 87 qlv:=qab (envS (l:=[]) trivial) [] Tryz.func87 (by kernel_rfl) rfl fun _=>by kernel_rfl
def qe8:Option ((Dq27×Unit)×Unit) :=
 some (((((1031798784,1031798784,1031798784,()),(0,0,0,()),1,0,()):Dq27),()),())
def ql7:Entry:=⟨⟨[],[.v (.val Uq9)],false⟩,fun _=>qe8⟩
theorem qs1:Sound Tryz.prog G 120 ql7:=qab (envS (l:=[]) trivial) [] Tryz.func120 (by kernel_rfl) rfl fun _=>by kernel_rfl
def qq6 (a0:(Vec 3 Nat)) (a1:(Vec 3 Nat)):Option (Dq20×Unit) :=
 some (((((fAdd .f32 (Vec.getD 3 a0 0 (0:Nat)) (Vec.getD 3 a1 0 (0:Nat))),(fAdd .f32 (Vec.getD 3 a0 1 (0:Nat)) (Vec.getD 3 a1 1 (0:Nat))),(fAdd .f32 (Vec.getD 3 a0 2 (0:Nat)) (Vec.getD 3 a1 2 (0:Nat))),()):(Vec 3 Nat)),()),())
def qxh:Entry:=⟨⟨[.v (.arr 3 (.flt .f32)),.v (.arr 3 (.flt .f32))],[.v (.val (.arr 3 (.flt .f32)))],false⟩,fun x=>qq6 x.1 x.2.1⟩
theorem qaf5:Sound Tryz.prog G 137 qxh:=qab (envS (l:=[]) trivial) [] Tryz.func137 (by kernel_rfl) rfl fun _=>by kernel_rfl
def qmx (a0:(Vec 3 Nat)) (a1:Nat):Option (Dq20×Unit) :=
 some (((((fMul .f32 (Vec.getD 3 a0 0 (0:Nat)) a1),(fMul .f32 (Vec.getD 3 a0 1 (0:Nat)) a1),(fMul .f32 (Vec.getD 3 a0 2 (0:Nat)) a1),()):(Vec 3 Nat)),()),())
def qud:Entry:=⟨⟨[.v (.arr 3 (.flt .f32)),.v (.flt .f32)],[.v (.val (.arr 3 (.flt .f32)))],false⟩,fun x=>qmx x.1 x.2.1⟩
theorem qac4:Sound Tryz.prog G 136 qud:=qab (envS (l:=[]) trivial) [] Tryz.func136 (by kernel_rfl) rfl fun _=>by kernel_rfl
def qb2 (s2421:Dq14) (a0:Dq4) (y2426:(Dq20×Unit)) (s2435:Dq14):Option (Dq14⊕(Dq14⊕Dq17)) :=
 bif inB s2421.2.1 (List.length a0.2.2.2.1) then
  bif (iLt s2435.2.1 ((List.getD a0.2.2.2.1 s2421.2.1.toNat Lq5).1)) then
   (qq6 s2435.2.2.1 y2426.1.1).bind fun y2438 =>
   (qcz y2438.1.1).bind fun y2439 =>
   bif (! y2439.1.1) then
    Option.map Sum.inr (Option.map Sum.inr (some ((([]:(List (Vec 3 Nat))),(4:Int),()),())))
   else
   bif room (List.length s2435.1+1) 12 then
    some (Sum.inl ((s2435.1++([y2438.1.1]:(List (Vec 3 Nat)))),(iAdd .i64 s2435.2.1 1),y2438.1.1,()))
   else none
  else
  Option.map Sum.inr (some (Sum.inl (s2435.1,(iAdd .i64 s2421.2.1 1),s2435.2.2.1,())))
 else none
def qci (a0:Dq4) (s2421:Dq14):Option (Dq14⊕Dq17) :=
 bif (iLt s2421.2.1 (lenI a0.2.2.2.1)) then
  bif inB s2421.2.1 (List.length a0.2.2.2.1) then
   (qmx (((List.getD a0.2.2.2.1 s2421.2.1.toNat Lq5).2).1) (fDiv .f32 1065353216 (fOfInt .f32 a0.1))).bind fun y2426 =>
   run (qb2 s2421 a0 y2426) (s2421.1,(0:Int),s2421.2.2.1,())
  else none
 else
 Option.map Sum.inr (some ((s2421.1,(0:Int),()),()))
def qb7 (a0:Dq4):Option Dq17 :=
 run (qci a0) (([a0.2.1]:(List (Vec 3 Nat))),(0:Int),a0.2.1,())
def qno:Entry:=⟨⟨[.ro Uq3],[.v (.rows (.arr 3 (.flt .f32))),.v (.val (.int .i64))],false⟩,fun x=>qb7 x.1⟩
theorem qut:Sound Tryz.prog G 85 qno:=qab (envS (l:=[(118,qgj),(136,qud),(137,qxh)]) ⟨(qio),(qac4),(qaf5),trivial⟩) [(4,.vary [(5,.rows (.arr 3 (.flt .f32))),(6,.sc (.int .i64)),(4,.box (.val (.arr 3 (.flt .f32))))]),(8,.vary [(5,.rows (.arr 3 (.flt .f32))),(8,.sc (.int .i64)),(4,.box (.val (.arr 3 (.flt .f32))))])] Tryz.func85 (by kernel_rfl) rfl fun _=>by kernel_rfl
def qcr (x2227:(Int×Dq8)) (y2191:Dq17) (s2225:Dq18) (a0:Dq4) (s2242:Dq18):Option (Dq18⊕(Dq18⊕Dq22)) :=
 bif (iLe s2242.2.2.1 x2227.1) then
  let x2244:=iAdd .i64 s2242.2.1 1
  bif room (List.length s2242.2.2.2.1.2.2.2.1+1) 48 then
   let l2245:=s2242.2.2.2.1.2.2.2.1++([(1,(0,0,0,()),(0,0,0,()),0,0,())]:(List Dq5))
   bif (iLt 0 x2227.2.2.1) then
    bif iEq x2227.2.2.1 0 then none else
    bif (iEq (iRem .i64 s2242.2.2.1 x2227.2.2.1) 0) then
     (qe8).bind fun y2249 =>
     bif inB x2244 (List.length y2191.1.1) then
      (qmw y2249.1.1 (List.getD y2191.1.1 x2244.toNat Lq6)).bind fun y2251 =>
      (qjj y2251.1.1 s2242.1 (4:Int)).bind fun y2252 =>
      bif room (List.length l2245+1) 48 then
       some (Sum.inl (y2252.1.2.1,x2244,(iAdd .i64 s2242.2.2.1 1),((s2242.2.2.2.1.1,s2242.2.2.2.1.2.1,s2242.2.2.2.1.2.2.1,(l2245++([(3,(0,0,0,()),y2252.1.1,0,0,())]:(List Dq5))),s2242.2.2.2.1.2.2.2.2):Dq2),()))
      else none
     else none
    else
    some (Sum.inl (s2242.1,x2244,(iAdd .i64 s2242.2.2.1 1),((s2242.2.2.2.1.1,s2242.2.2.2.1.2.1,s2242.2.2.2.1.2.2.1,l2245,s2242.2.2.2.1.2.2.2.2):Dq2),()))
   else
   some (Sum.inl (s2242.1,x2244,(iAdd .i64 s2242.2.2.1 1),((s2242.2.2.2.1.1,s2242.2.2.2.1.2.1,s2242.2.2.2.1.2.2.1,l2245,s2242.2.2.2.1.2.2.2.2):Dq2),()))
  else none
 else
 Option.map Sum.inr (
  bif (iLt x2227.2.2.2.1 0) then
   some (Sum.inl (s2242.1,s2242.2.1,(iAdd .i64 s2225.2.2.1 1),((s2242.2.2.2.1.1,s2242.2.2.2.1.2.1,s2242.2.2.2.1.2.2.1,s2242.2.2.2.1.2.2.2.1,s2242.2.2.2.1.2.2.2.2):Dq2),()))
  else
  let x2260:=iAdd .u32 (iMul .u32 1664525 s2242.1) 1013904223
  bif inB s2242.2.1 (List.length y2191.1.1) then
   bif inB x2227.2.2.2.1 (List.length a0.2.2.1) then
    (qdl (List.getD y2191.1.1 s2242.2.1.toNat Lq6) (List.getD a0.2.2.1 x2227.2.2.2.1.toNat Lq6)).bind fun y2268 =>
    (qen y2268.1.1).bind fun y2269 =>
    let x2271:=fAdd .f32 y2269.1.1 (fDiv .f32 (fOfInt .f32 (iSub .i64 (iWrap .i64 (iRem .u32 (iQuo .u32 x2260 65536) 9)) 4)) 1098907648)
    (qac x2271).bind fun y2272 =>
    bif (! y2272.1.1) then
     Option.map Sum.inr (some ((Lq10,(4:Int),()),()))
    else
    bif room (List.length s2242.2.2.2.1.2.2.2.1+1) 48 then
     some (Sum.inl (x2260,s2242.2.1,(iAdd .i64 s2225.2.2.1 1),((s2242.2.2.2.1.1,s2242.2.2.2.1.2.1,s2242.2.2.2.1.2.2.1,(s2242.2.2.2.1.2.2.2.1++([(4,(0,0,0,()),(0,0,0,()),x2227.2.2.2.1,x2271,())]:(List Dq5))),s2242.2.2.2.1.2.2.2.2):Dq2),()))
    else none
   else none
  else none)
def qe7 (a0:Dq4) (y2191:Dq17) (s2225:Dq18):Option (Dq18⊕Dq22) :=
 bif (iLt s2225.2.2.1 (lenI a0.2.2.2.1)) then
  bif inB s2225.2.2.1 (List.length a0.2.2.2.1) then
   let x2227:=List.getD a0.2.2.2.1 s2225.2.2.1.toNat Lq5
   bif room (List.length s2225.2.2.2.1.2.2.2.1+1) 48 then
    run (qcr x2227 y2191 s2225 a0) (s2225.1,s2225.2.1,(1:Int),((s2225.2.2.2.1.1,s2225.2.2.2.1.2.1,s2225.2.2.2.1.2.2.1,(s2225.2.2.2.1.2.2.2.1++([(2,x2227.2.1,(0,0,0,()),0,0,())]:(List Dq5))),s2225.2.2.2.1.2.2.2.2):Dq2),())
   else none
  else none
 else
 Option.map Sum.inr (
  bif (iLt 1200 (lenI s2225.2.2.2.1.2.2.2.1)) then some ((Lq10,(3:Int),()),()) else
  some ((((s2225.2.2.2.1.1,s2225.2.2.2.1.2.1,s2225.2.2.2.1.2.2.1,s2225.2.2.2.1.2.2.2.1,s2225.2.2.2.1.2.2.2.2):Dq2),(0:Int),()),()))
def qd6 (a0:Dq4) (a1:Int):Option Dq22 :=
 (qb7 a0).bind fun y2191 =>
 bif (! (iEq y2191.1.2.1 0)) then some ((Lq10,y2191.1.2.1,()),()) else
 bif room (0+List.length a0.2.2.1) 12 then
  run (qe7 a0 y2191) (a1,(0:Int),(0:Int),((a0.1,a0.2.1,(([]:(List (Vec 3 Nat)))++a0.2.2.1),[],()):Dq2),())
 else none
def qlx:Entry:=⟨⟨[.ro Uq3,.v (.int .u32)],[.v (.pair (.val (.int .i64)) (.pair (.val (.arr 3 (.flt .f32))) (.pair (.rows (.arr 3 (.flt .f32))) (.pair (.rows Uq1) (.val (.unit)))))),.v (.val (.int .i64))],false⟩,fun x=>qd6 x.1 x.2.1⟩
theorem qqq:Sound Tryz.prog G 50 qlx:=qab (envS (l:=[(85,qno),(86,qjg),(87,qlv),(89,qbf),(119,qub),(120,ql7),(121,qpo)]) ⟨(qut),(qne),(qqk),(qbn),(qac3),(qs1),(qzc),trivial⟩) [(7,.vary [(1,.sc (.int .u32)),(9,.sc (.int .i64)),(10,.sc (.int .i64)),(8,.box (.pair (.val (.int .i64)) (.pair (.val (.arr 3 (.flt .f32))) (.pair (.rows (.arr 3 (.flt .f32))) (.pair (.rows Uq1) (.val (.unit)))))))]),(12,.vary [(1,.sc (.int .u32)),(9,.sc (.int .i64)),(12,.sc (.int .i64)),(8,.box (.pair (.val (.int .i64)) (.pair (.val (.arr 3 (.flt .f32))) (.pair (.rows (.arr 3 (.flt .f32))) (.pair (.rows Uq1) (.val (.unit)))))))])] Tryz.func50 (by kernel_rfl) rfl fun _=>by kernel_rfl
def qnn (a0:Dq10):Option ((Dq2×Unit)×(Dq10×Unit)) :=
 (qj0 a0).bind fun y1616 =>
 (qau y1616.2.1 (65536:Int)).bind fun y1617 =>
 (qd6 ((y1616.1.1.1,y1616.1.1.2.1,y1616.1.1.2.2.1,y1616.1.1.2.2.2.1,y1616.1.1.2.2.2.2):Dq4) (iWrap .u32 y1617.1.1)).bind fun y1619 =>
 (qkq y1617.2.1 (4:Int)).bind fun y1620 =>
 bif y1620.1.1 then
  (qau y1620.2.1 (400:Int)).bind fun y1621 =>
  bif room (List.length y1619.1.1.2.2.2.1+1) 48 then
   some ((((y1619.1.1.1,y1619.1.1.2.1,y1619.1.1.2.2.1,(y1619.1.1.2.2.2.1++([(3,(0,0,0,()),((iWrap .i16 (iSub .i64 y1621.1.1 200)),100,(-20:Int),()),0,0,())]:(List Dq5))),y1619.1.1.2.2.2.2):Dq2),()),(y1621.2.1,()))
  else none
 else
 some ((((y1619.1.1.1,y1619.1.1.2.1,y1619.1.1.2.2.1,y1619.1.1.2.2.2.1,y1619.1.1.2.2.2.2):Dq2),()),(y1620.2.1,()))
def qpv:Entry:=⟨⟨[.io (.val Uq7)],[.v (.pair (.val (.int .i64)) (.pair (.val (.arr 3 (.flt .f32))) (.pair (.rows (.arr 3 (.flt .f32))) (.pair (.rows Uq1) (.val (.unit))))))],true⟩,fun x=>qnn x.1⟩
theorem qzg:Sound Tryz.prog G 59 qpv:=qab (envS (l:=[(40,qnk),(50,qlx),(92,qew),(94,qrz)]) ⟨(qum),(qqq),(qg6),(qaa0),trivial⟩) [] Tryz.func59 (by kernel_rfl) rfl fun _=>by kernel_rfl
def qtf (a0:(List Int)):Option ((Dq2×Unit)×Unit) :=
 (qo0 a0).bind fun y1614 =>
 (qnn y1614.1.1).bind fun y1615 =>
 some ((((y1615.1.1.1,y1615.1.1.2.1,y1615.1.1.2.2.1,y1615.1.1.2.2.2.1,y1615.1.1.2.2.2.2):Dq2),()),())
def qy5:Entry:=⟨⟨[.v (.list (.int .u8))],[.v (.pair (.val (.int .i64)) (.pair (.val (.arr 3 (.flt .f32))) (.pair (.rows (.arr 3 (.flt .f32))) (.pair (.rows Uq1) (.val (.unit))))))],false⟩,fun x=>qtf x.1⟩
theorem qah7:Sound Tryz.prog G 14 qy5:=qab (envS (l:=[(41,qo1),(59,qpv)]) ⟨(qvy),(qzg),trivial⟩) [] Tryz.func14 (by kernel_rfl) rfl fun _=>by kernel_rfl
def qlu (a0:(List Int)):Option ((Dq4×Unit)×Unit) :=
 (qo0 a0).bind fun y2459 =>
 (qj0 y2459.1.1).bind fun y2460 =>
 some ((((y2460.1.1.1,y2460.1.1.2.1,y2460.1.1.2.2.1,y2460.1.1.2.2.2.1,y2460.1.1.2.2.2.2):Dq4),()),())
def qsq:Entry:=⟨⟨[.v (.list (.int .u8))],[.v (.pair (.val (.int .i64)) (.pair (.val (.arr 3 (.flt .f32))) (.pair (.rows (.arr 3 (.flt .f32))) (.pair (.rows Uq10) (.val (.unit))))))],false⟩,fun x=>qlu x.1⟩
theorem qabq:Sound Tryz.prog G 7 qsq:=qab (envS (l:=[(40,qnk),(41,qo1)]) ⟨(qum),(qvy),trivial⟩) [] Tryz.func7 (by kernel_rfl) rfl fun _=>by kernel_rfl
def qhc (a0:Dq3):Option (Dq20×Unit) :=
 some (((((Vec.getD 6 a0.1 0 (0:Nat)),(Vec.getD 6 a0.1 1 (0:Nat)),(Vec.getD 6 a0.1 2 (0:Nat)),()):(Vec 3 Nat)),()),())
def qnh:Entry:=⟨⟨[.ro Uq2],[.v (.val (.arr 3 (.flt .f32)))],false⟩,fun x=>qhc x.1⟩
theorem quj:Sound Tryz.prog G 88 qnh:=qab (envS (l:=[]) trivial) [] Tryz.func88 (by kernel_rfl) rfl fun _=>by kernel_rfl
def qj1 (a0:Dq2):Option ((Dq3×Unit)×Unit) :=
 some ((((((Vec.getD 3 a0.2.1 0 (0:Nat)),(Vec.getD 3 a0.2.1 1 (0:Nat)),(Vec.getD 3 a0.2.1 2 (0:Nat)),0,0,0,()),((1056964608,0,0,0,0,0,()),(0,1056964608,0,0,0,0,()),(0,0,1056964608,0,0,0,()),(0,0,0,1065353216,0,0,()),(0,0,0,0,1065353216,0,()),(0,0,0,0,0,1065353216,()),()),()):Dq3),()),())
def qnl:Entry:=⟨⟨[.ro Uq5],[.v (.val Uq2)],false⟩,fun x=>qj1 x.1⟩
theorem quq:Sound Tryz.prog G 78 qnl:=qab (envS (l:=[]) trivial) [(3,.unroll 4)] Tryz.func78 (by kernel_rfl) rfl fun _=>by kernel_rfl
def qjl (a2:(List (Vec 3 Nat))) (s2509:(Int×Unit)):Option ((Int×Unit)⊕Dq9) :=
 bif (iLt s2509.1 (lenI a2)) then
  bif inB s2509.1 (List.length a2) then
   (qcz (List.getD a2 s2509.1.toNat Lq6)).bind fun y2512 =>
   bif (! y2512.1.1) then
    Option.map Sum.inr (some ((false,()),()))
   else
   some (Sum.inl ((iAdd .i64 s2509.1 1),()))
  else none
 else
 Option.map Sum.inr (some ((true,()),()))
def qj2 (a0:Int) (a1:(Vec 3 Nat)) (a2:(List (Vec 3 Nat))):Option Dq9 :=
 (qby a0 (1:Int) (64:Int)).bind fun y2504 =>
 bif (! y2504.1.1) then some ((false,()),()) else
 (qcz a1).bind fun y2506 =>
 bif (! y2506.1.1) then some ((false,()),()) else
 bif (iLt 6 (lenI a2)) then some ((false,()),()) else run (qjl a2) ((0:Int),())
def qnm:Entry:=⟨⟨[.v (.int .i64),.v (.arr 3 (.flt .f32)),.v (.list (.arr 3 (.flt .f32)))],[.v (.val (.bool))],false⟩,fun x=>qj2 x.1 x.2.1 x.2.2.1⟩
theorem qus:Sound Tryz.prog G 116 qnm:=qab (envS (l:=[(117,qeo),(118,qgj)]) ⟨(qfw),(qio),trivial⟩) [(4,.vary [(7,.sc (.int .i64))])] Tryz.func116 (by kernel_rfl) rfl fun _=>by kernel_rfl
def qmz (a0:Dq4) (s2485:Dq26):Option (Dq26⊕Dq9) :=
 bif (iLt s2485.2.1 (lenI a0.2.2.2.1)) then
  bif inB s2485.2.1 (List.length a0.2.2.2.1) then
   (qby ((List.getD a0.2.2.2.1 s2485.2.1.toNat Lq5).1) (1:Int) (400:Int)).bind fun y2488 =>
   bif (! y2488.1.1) then
    Option.map Sum.inr (some ((false,()),()))
   else
   (qcz (((List.getD a0.2.2.2.1 s2485.2.1.toNat Lq5).2).1)).bind fun y2491 =>
   bif (! y2491.1.1) then
    Option.map Sum.inr (some ((false,()),()))
   else
   (qby ((((List.getD a0.2.2.2.1 s2485.2.1.toNat Lq5).2).2).1) (0:Int) (400:Int)).bind fun y2494 =>
   bif (! y2494.1.1) then
    Option.map Sum.inr (some ((false,()),()))
   else
   (qby (((((List.getD a0.2.2.2.1 s2485.2.1.toNat Lq5).2).2).2).1) ((-1:Int):Int) (iSub .i64 (lenI a0.2.2.1) 1)).bind fun y2498 =>
   bif (! y2498.1.1) then
    Option.map Sum.inr (some ((false,()),()))
   else
   some (Sum.inl ((iAdd .i64 s2485.1 ((List.getD a0.2.2.2.1 s2485.2.1.toNat Lq5).1)),(iAdd .i64 s2485.2.1 1),()))
  else none
 else
 Option.map Sum.inr (some (((iLe s2485.1 400),()),()))
def qo7 (a0:Dq4):Option Dq9 :=
 (qj2 a0.1 a0.2.1 a0.2.2.1).bind fun y2482 =>
 bif (! y2482.1.1) then some ((false,()),()) else
 bif (iLt 64 (lenI a0.2.2.2.1)) then some ((false,()),()) else run (qmz a0) ((0:Int),(0:Int),())
def qsa:Entry:=⟨⟨[.ro Uq3],[.v (.val (.bool))],false⟩,fun x=>qo7 x.1⟩
theorem qy6:Sound Tryz.prog G 49 qsa:=qab (envS (l:=[(116,qnm),(117,qeo),(118,qgj)]) ⟨(qus),(qfw),(qio),trivial⟩) [(5,.vary [(3,.sc (.int .i64)),(4,.sc (.int .i64))])] Tryz.func49 (by kernel_rfl) rfl fun _=>by kernel_rfl
def qdm (a0:(Vec 6 Nat)):Option Dq9 :=
 (qac (Vec.getD 6 a0 0 (0:Nat))).bind fun y2560 =>
 bif (! y2560.1.1) then some ((false,()),()) else
 (qac (Vec.getD 6 a0 1 (0:Nat))).bind fun y2563 =>
 bif (! y2563.1.1) then some ((false,()),()) else
 (qac (Vec.getD 6 a0 2 (0:Nat))).bind fun y2566 =>
 bif (! y2566.1.1) then some ((false,()),()) else
 (qac (Vec.getD 6 a0 3 (0:Nat))).bind fun y2569 =>
 bif (! y2569.1.1) then some ((false,()),()) else
 (qac (Vec.getD 6 a0 4 (0:Nat))).bind fun y2572 =>
 bif (! y2572.1.1) then some ((false,()),()) else
 (qac (Vec.getD 6 a0 5 (0:Nat))).bind fun y2575 =>
 bif (! y2575.1.1) then some ((false,()),()) else some ((true,()),())
def qqn:Entry:=⟨⟨[.v (.arr 6 (.flt .f32))],[.v (.val (.bool))],false⟩,fun x=>qdm x.1⟩
theorem qxs:Sound Tryz.prog G 251 qqn:=qab (envS (l:=[(89,qbf)]) ⟨(qbn),trivial⟩) [(2,.unroll 7)] Tryz.func251 (by kernel_rfl) rfl fun _=>by kernel_rfl
def qip (a0:Dq7):Option Dq9 :=
 (qdm a0.1).bind fun y2555 =>
 bif y2555.1.1 then
  (qac a0.2.1).bind fun y2556 =>
  bif y2556.1.1 then
   (qac a0.2.2.1).bind fun y2557 =>
   bif y2557.1.1 then
    some (((fLt .f32 0 a0.2.2.1),()),())
   else some ((false,()),())
  else some ((false,()),())
 else some ((false,()),())
def qks:Entry:=⟨⟨[.ro Uq4],[.v (.val (.bool))],false⟩,fun x=>qip x.1⟩
theorem qo5:Sound Tryz.prog G 217 qks:=qab (envS (l:=[(89,qbf),(251,qqn)]) ⟨(qbn),(qxs),trivial⟩) [] Tryz.func217 (by kernel_rfl) rfl fun _=>by kernel_rfl
def qjz (a0:Dq7):Option Dq30 :=
 (qip a0).bind fun y2553 =>
 bif (! y2553.1.1) then some ((Lq9,(1:Int),()),()) else some ((a0,(0:Int),()),())
def qni:Entry:=⟨⟨[.v Uq4],[.v (.val Uq4),.v (.val (.int .i64))],false⟩,fun x=>qjz x.1⟩
theorem quk:Sound Tryz.prog G 216 qni:=qab (envS (l:=[(217,qks)]) ⟨(qo5),trivial⟩) [] Tryz.func216 (by kernel_rfl) rfl fun _=>by kernel_rfl
def qa5 (a0:Int) (a1:Nat) (a2:Nat):Option Dq30 :=
 (qby a0 (0:Int) (5:Int)).bind fun y2550 =>
 bif (! y2550.1.1) then some ((Lq9,(2:Int),()),()) else
 bif inB a0 6 then
  (qjz ((Vec.set 6 Lq2 a0.toNat (1065353216:Nat),a1,a2,()):Dq7)).bind fun y2552 =>
  some ((y2552.1.1,y2552.1.2.1,()),())
 else none
def qqj:Entry:=⟨⟨[.v (.int .i64),.v (.flt .f32),.v (.flt .f32)],[.v (.val Uq4),.v (.val (.int .i64))],false⟩,fun x=>qa5 x.1 x.2.1 x.2.2.1⟩
theorem qxi:Sound Tryz.prog G 174 qqj:=qab (envS (l:=[(117,qeo),(216,qni)]) ⟨(qfw),(quk),trivial⟩) [] Tryz.func174 (by kernel_rfl) rfl fun _=>by kernel_rfl
def qfx (a0:Nat):Option Dq9 :=
 bif (fLe .f32 0 a0) then
  (qac a0).bind fun y2702 =>
  some ((y2702.1.1,()),())
 else some ((false,()),())
def qug:Entry:=⟨⟨[.v (.flt .f32)],[.v (.val (.bool))],false⟩,fun x=>qfx x.1⟩
theorem qac5:Sound Tryz.prog G 213 qug:=qab (envS (l:=[(89,qbf)]) ⟨(qbn),trivial⟩) [] Tryz.func213 (by kernel_rfl) rfl fun _=>by kernel_rfl
def qabv (s2779:Dq11) (s2818:Dq11) (x2829:Nat) (x2830:Nat) (s2842:Dq11):Option (Dq11⊕(Dq11⊕(Dq11⊕Dq13))) :=
 bif (iLt s2842.1 6) then
  bif inB s2842.1 6 then
   bif inB s2779.1 9 then
    let x2844:=Vec.getD 9 (Vec.getD 6 s2842.2.1 s2842.1.toNat Lq3) s2779.1.toNat (0:Nat)
    bif inB s2842.1 6 then
     bif inB s2818.1 9 then
      let x2845:=Vec.getD 9 (Vec.getD 6 s2842.2.1 s2842.1.toNat Lq3) s2818.1.toNat (0:Nat)
      let x2848:=fAdd .f32 (fMul .f32 x2829 x2844) (fMul .f32 x2830 x2845)
      bif inB s2842.1 6 then
       bif inB s2779.1 9 then
        bif inB s2842.1 6 then
         bif inB s2818.1 9 then
          some (Sum.inl ((iAdd .i64 s2842.1 1),Vec.set 6 (Vec.set 6 s2842.2.1 s2842.1.toNat (Vec.set 9 (Vec.getD 6 s2842.2.1 s2842.1.toNat Lq3) s2779.1.toNat x2848)) s2842.1.toNat (Vec.set 9 (Vec.getD 6 (Vec.set 6 s2842.2.1 s2842.1.toNat (Vec.set 9 (Vec.getD 6 s2842.2.1 s2842.1.toNat Lq3) s2779.1.toNat x2848)) s2842.1.toNat Lq3) s2818.1.toNat (fSub .f32 (fMul .f32 x2829 x2845) (fMul .f32 x2830 x2844))),()))
         else none
        else none
       else none
      else none
     else none
    else none
   else none
  else none
 else
 Option.map Sum.inr (
  bif inB s2779.1 6 then
   bif inB s2818.1 9 then
    some (Sum.inl ((iAdd .i64 s2818.1 1),Vec.set 6 s2842.2.1 s2779.1.toNat (Vec.set 9 (Vec.getD 6 s2842.2.1 s2779.1.toNat Lq3) s2818.1.toNat (0:Nat)),()))
   else none
  else none)
def qac6 (s2779:Dq11) (s2818:Dq11):Option (Dq11⊕(Dq11⊕Dq13)) :=
 bif (iLt s2818.1 9) then
  bif inB s2779.1 6 then
   bif inB s2818.1 9 then
    let x2820:=Vec.getD 9 (Vec.getD 6 s2818.2.1 s2779.1.toNat Lq3) s2818.1.toNat (0:Nat)
    bif (fEq .f32 x2820 0) then
     some (Sum.inl ((iAdd .i64 s2818.1 1),s2818.2.1,()))
    else
    bif inB s2779.1 6 then
     bif inB s2779.1 9 then
      let x2823:=Vec.getD 9 (Vec.getD 6 s2818.2.1 s2779.1.toNat Lq3) s2779.1.toNat (0:Nat)
      (qef (fAdd .f32 (fMul .f32 x2823 x2823) (fMul .f32 x2820 x2820))).bind fun y2827 =>
      bif (fEq .f32 y2827.1.1 0) then
       Option.map Sum.inr (Option.map Sum.inr (some ((Lq4,(4:Int),()),())))
      else
      let x2829:=fDiv .f32 x2823 y2827.1.1
      let x2830:=fDiv .f32 x2820 y2827.1.1
      run (qabv s2779 s2818 x2829 x2830) (s2779.1,s2818.2.1,())
     else none
    else none
   else none
  else none
 else
 Option.map Sum.inr (some (Sum.inl ((iAdd .i64 s2779.1 1),s2818.2.1,())))
def qh6 (s2884:Dq15) (s2779:Dq11) (s2897:Dq15):Option (Dq15⊕(Dq15⊕Dq13)) :=
 bif (iLt s2897.1 6) then
  bif inB s2897.1 6 then
   bif inB s2884.1 9 then
    let x2899:=Vec.getD 9 (Vec.getD 6 s2779.2.1 s2897.1.toNat Lq3) s2884.1.toNat (0:Nat)
    bif inB s2897.1 6 then
     bif inB s2884.1 6 then
      bif inB s2884.1 6 then
       bif inB s2884.1 9 then
        bif (fLt .f32 (Vec.getD 9 (Vec.getD 6 s2779.2.1 s2884.1.toNat Lq3) s2884.1.toNat (0:Nat)) 0) then
         bif inB s2897.1 6 then
          bif inB s2884.1 9 then
           let x2903:=fNeg .f32 (Vec.getD 9 (Vec.getD 6 s2779.2.1 s2897.1.toNat Lq3) s2884.1.toNat (0:Nat))
           bif inB s2897.1 6 then
            bif inB s2884.1 6 then
             bif inB s2897.1 6 then
              bif inB s2884.1 6 then
               (qac (Vec.getD 6 (Vec.getD 6 (Vec.set 6 (Vec.set 6 s2897.2.1 s2897.1.toNat (Vec.set 6 (Vec.getD 6 s2897.2.1 s2897.1.toNat Lq2) s2884.1.toNat x2899)) s2897.1.toNat (Vec.set 6 (Vec.getD 6 (Vec.set 6 s2897.2.1 s2897.1.toNat (Vec.set 6 (Vec.getD 6 s2897.2.1 s2897.1.toNat Lq2) s2884.1.toNat x2899)) s2897.1.toNat Lq2) s2884.1.toNat x2903)) s2897.1.toNat Lq2) s2884.1.toNat (0:Nat))).bind fun y2905 =>
               bif (! y2905.1.1) then
                Option.map Sum.inr (Option.map Sum.inr (some ((Lq4,(4:Int),()),())))
               else
               some (Sum.inl ((iAdd .i64 s2897.1 1),Vec.set 6 (Vec.set 6 s2897.2.1 s2897.1.toNat (Vec.set 6 (Vec.getD 6 s2897.2.1 s2897.1.toNat Lq2) s2884.1.toNat x2899)) s2897.1.toNat (Vec.set 6 (Vec.getD 6 (Vec.set 6 s2897.2.1 s2897.1.toNat (Vec.set 6 (Vec.getD 6 s2897.2.1 s2897.1.toNat Lq2) s2884.1.toNat x2899)) s2897.1.toNat Lq2) s2884.1.toNat x2903),()))
              else none
             else none
            else none
           else none
          else none
         else none
        else
        bif inB s2897.1 6 then
         bif inB s2884.1 6 then
          (qac (Vec.getD 6 (Vec.getD 6 (Vec.set 6 s2897.2.1 s2897.1.toNat (Vec.set 6 (Vec.getD 6 s2897.2.1 s2897.1.toNat Lq2) s2884.1.toNat x2899)) s2897.1.toNat Lq2) s2884.1.toNat (0:Nat))).bind fun y2909 =>
          bif (! y2909.1.1) then
           Option.map Sum.inr (Option.map Sum.inr (some ((Lq4,(4:Int),()),())))
          else
          some (Sum.inl ((iAdd .i64 s2897.1 1),Vec.set 6 s2897.2.1 s2897.1.toNat (Vec.set 6 (Vec.getD 6 s2897.2.1 s2897.1.toNat Lq2) s2884.1.toNat x2899),()))
         else none
        else none
       else none
      else none
     else none
    else none
   else none
  else none
 else
 Option.map Sum.inr (some (Sum.inl ((iAdd .i64 s2884.1 1),s2897.2.1,())))
def qc8 (s2779:Dq11) (s2884:Dq15):Option (Dq15⊕Dq13) :=
 bif (iLt s2884.1 6) then run (qh6 s2884 s2779) (s2884.1,s2884.2.1,()) else
 Option.map Sum.inr (some ((s2884.2.1,(0:Int),()),()))
def qg2 (s2779:Dq11):Option (Dq11⊕Dq13) :=
 bif (iLt s2779.1 6) then
  run (qac6 s2779) ((iAdd .i64 s2779.1 1),s2779.2.1,())
 else
 Option.map Sum.inr (run (qc8 s2779) ((0:Int),Lq4,()))
def qep (a0:(Vec 6 (Vec 9 Nat))):Option Dq13 :=
 run (qg2) ((0:Int),a0,())
def qng:Entry:=⟨⟨[.v (.arr 6 (.arr 9 (.flt .f32)))],[.v (.val (.arr 6 (.arr 6 (.flt .f32)))),.v (.val (.int .i64))],false⟩,fun x=>qep x.1⟩
theorem qui:Sound Tryz.prog G 214 qng:=qab (envS (l:=[(89,qbf),(138,qfo)]) ⟨(qbn),(qht),trivial⟩) [(2,.vary [(4,.sc (.int .i64)),(1,.box (.val (.arr 6 (.arr 9 (.flt .f32)))))]),(5,.vary [(5,.sc (.int .i64)),(1,.box (.val (.arr 6 (.arr 9 (.flt .f32)))))]),(16,.vary [(11,.sc (.int .i64)),(1,.box (.val (.arr 6 (.arr 9 (.flt .f32)))))]),(25,.vary [(15,.sc (.int .i64)),(14,.box (.val (.arr 6 (.arr 6 (.flt .f32)))))]),(28,.vary [(16,.sc (.int .i64)),(14,.box (.val (.arr 6 (.arr 6 (.flt .f32)))))])] Tryz.func214 (by kernel_rfl) rfl fun _=>by kernel_rfl
def qhx (a0:Dq3):Option Dq9 :=
 (qdm a0.1).bind fun y2916 =>
 bif (! y2916.1.1) then some ((false,()),()) else
 (qdm (Vec.getD 6 a0.2.1 0 Lq2)).bind fun y2919 =>
 bif (! y2919.1.1) then some ((false,()),()) else
 bif (fLt .f32 (Vec.getD 6 (Vec.getD 6 a0.2.1 0 Lq2) 0 (0:Nat)) 0) then some ((false,()),()) else
 bif (! (fEq .f32 (Vec.getD 6 (Vec.getD 6 a0.2.1 0 Lq2) 1 (0:Nat)) 0)) then some ((false,()),()) else
 bif (! (fEq .f32 (Vec.getD 6 (Vec.getD 6 a0.2.1 0 Lq2) 2 (0:Nat)) 0)) then some ((false,()),()) else
 bif (! (fEq .f32 (Vec.getD 6 (Vec.getD 6 a0.2.1 0 Lq2) 3 (0:Nat)) 0)) then some ((false,()),()) else
 bif (! (fEq .f32 (Vec.getD 6 (Vec.getD 6 a0.2.1 0 Lq2) 4 (0:Nat)) 0)) then some ((false,()),()) else
 bif (! (fEq .f32 (Vec.getD 6 (Vec.getD 6 a0.2.1 0 Lq2) 5 (0:Nat)) 0)) then some ((false,()),()) else
 (qdm (Vec.getD 6 a0.2.1 1 Lq2)).bind fun y2934 =>
 bif (! y2934.1.1) then some ((false,()),()) else
 bif (fLt .f32 (Vec.getD 6 (Vec.getD 6 a0.2.1 1 Lq2) 1 (0:Nat)) 0) then some ((false,()),()) else
 bif (! (fEq .f32 (Vec.getD 6 (Vec.getD 6 a0.2.1 1 Lq2) 2 (0:Nat)) 0)) then some ((false,()),()) else
 bif (! (fEq .f32 (Vec.getD 6 (Vec.getD 6 a0.2.1 1 Lq2) 3 (0:Nat)) 0)) then some ((false,()),()) else
 bif (! (fEq .f32 (Vec.getD 6 (Vec.getD 6 a0.2.1 1 Lq2) 4 (0:Nat)) 0)) then some ((false,()),()) else
 bif (! (fEq .f32 (Vec.getD 6 (Vec.getD 6 a0.2.1 1 Lq2) 5 (0:Nat)) 0)) then some ((false,()),()) else
 (qdm (Vec.getD 6 a0.2.1 2 Lq2)).bind fun y2947 =>
 bif (! y2947.1.1) then some ((false,()),()) else
 bif (fLt .f32 (Vec.getD 6 (Vec.getD 6 a0.2.1 2 Lq2) 2 (0:Nat)) 0) then some ((false,()),()) else
 bif (! (fEq .f32 (Vec.getD 6 (Vec.getD 6 a0.2.1 2 Lq2) 3 (0:Nat)) 0)) then some ((false,()),()) else
 bif (! (fEq .f32 (Vec.getD 6 (Vec.getD 6 a0.2.1 2 Lq2) 4 (0:Nat)) 0)) then some ((false,()),()) else
 bif (! (fEq .f32 (Vec.getD 6 (Vec.getD 6 a0.2.1 2 Lq2) 5 (0:Nat)) 0)) then some ((false,()),()) else
 (qdm (Vec.getD 6 a0.2.1 3 Lq2)).bind fun y2958 =>
 bif (! y2958.1.1) then some ((false,()),()) else
 bif (fLt .f32 (Vec.getD 6 (Vec.getD 6 a0.2.1 3 Lq2) 3 (0:Nat)) 0) then some ((false,()),()) else
 bif (! (fEq .f32 (Vec.getD 6 (Vec.getD 6 a0.2.1 3 Lq2) 4 (0:Nat)) 0)) then some ((false,()),()) else
 bif (! (fEq .f32 (Vec.getD 6 (Vec.getD 6 a0.2.1 3 Lq2) 5 (0:Nat)) 0)) then some ((false,()),()) else
 (qdm (Vec.getD 6 a0.2.1 4 Lq2)).bind fun y2967 =>
 bif (! y2967.1.1) then some ((false,()),()) else
 bif (fLt .f32 (Vec.getD 6 (Vec.getD 6 a0.2.1 4 Lq2) 4 (0:Nat)) 0) then some ((false,()),()) else
 bif (! (fEq .f32 (Vec.getD 6 (Vec.getD 6 a0.2.1 4 Lq2) 5 (0:Nat)) 0)) then some ((false,()),()) else
 (qdm (Vec.getD 6 a0.2.1 5 Lq2)).bind fun y2974 =>
 bif (! y2974.1.1) then some ((false,()),()) else
 bif (fLt .f32 (Vec.getD 6 (Vec.getD 6 a0.2.1 5 Lq2) 5 (0:Nat)) 0) then some ((false,()),()) else some ((true,()),())
def qhb:Entry:=⟨⟨[.ro Uq2],[.v (.val (.bool))],false⟩,fun x=>qhx x.1⟩
theorem qjy:Sound Tryz.prog G 212 qhb:=qab (envS (l:=[(251,qqn)]) ⟨(qxs),trivial⟩) [(4,.unroll 7),(9,.unroll 6)] Tryz.func212 (by kernel_rfl) rfl fun _=>by kernel_rfl
def qeg (a0:Dq3) (a1:Int):Option Dq19 :=
 bif (! (iEq a1 0)) then
  some ((Lq1,a1,()),())
 else
 (qhx a0).bind fun y2914 =>
 bif (! y2914.1.1) then
  some ((Lq1,(4:Int),()),())
 else some ((a0,(0:Int),()),())
def qo6:Entry:=⟨⟨[.v Uq2,.v (.int .i64)],[.v (.val Uq2),.v (.val (.int .i64))],false⟩,fun x=>qeg x.1 x.2.1⟩
theorem qv1:Sound Tryz.prog G 215 qo6:=qab (envS (l:=[(212,qhb)]) ⟨(qjy),trivial⟩) [] Tryz.func215 (by kernel_rfl) rfl fun _=>by kernel_rfl
def qin (a0:Dq3) (a1:Nat) (a2:(Vec 3 Nat)):Option Dq19 :=
 (qhx a0).bind fun y2577 =>
 bif (! y2577.1.1) then
  some ((Lq1,(1:Int),()),())
 else
 (qfx a1).bind fun y2579 =>
 bif (! y2579.1.1) then
  some ((Lq1,(2:Int),()),())
 else
 (qfx (Vec.getD 3 a2 0 (0:Nat))).bind fun y2582 =>
 bif (! y2582.1.1) then
  some ((Lq1,(2:Int),()),())
 else
 (qfx (Vec.getD 3 a2 1 (0:Nat))).bind fun y2585 =>
 bif (! y2585.1.1) then
  some ((Lq1,(2:Int),()),())
 else
 (qfx (Vec.getD 3 a2 2 (0:Nat))).bind fun y2588 =>
 bif (! y2588.1.1) then
  some ((Lq1,(2:Int),()),())
 else
 (qef a1).bind fun y2590 =>
 (qep ((((fAdd .f32 (Vec.getD 6 (Vec.getD 6 a0.2.1 0 Lq2) 0 (0:Nat)) (fMul .f32 a1 (Vec.getD 6 (Vec.getD 6 a0.2.1 3 Lq2) 0 (0:Nat)))),(fAdd .f32 (Vec.getD 6 (Vec.getD 6 a0.2.1 0 Lq2) 1 (0:Nat)) (fMul .f32 a1 (Vec.getD 6 (Vec.getD 6 a0.2.1 3 Lq2) 1 (0:Nat)))),(fAdd .f32 (Vec.getD 6 (Vec.getD 6 a0.2.1 0 Lq2) 2 (0:Nat)) (fMul .f32 a1 (Vec.getD 6 (Vec.getD 6 a0.2.1 3 Lq2) 2 (0:Nat)))),(fAdd .f32 (Vec.getD 6 (Vec.getD 6 a0.2.1 0 Lq2) 3 (0:Nat)) (fMul .f32 a1 (Vec.getD 6 (Vec.getD 6 a0.2.1 3 Lq2) 3 (0:Nat)))),(fAdd .f32 (Vec.getD 6 (Vec.getD 6 a0.2.1 0 Lq2) 4 (0:Nat)) (fMul .f32 a1 (Vec.getD 6 (Vec.getD 6 a0.2.1 3 Lq2) 4 (0:Nat)))),(fAdd .f32 (Vec.getD 6 (Vec.getD 6 a0.2.1 0 Lq2) 5 (0:Nat)) (fMul .f32 a1 (Vec.getD 6 (Vec.getD 6 a0.2.1 3 Lq2) 5 (0:Nat)))),0,0,0,()),((fAdd .f32 (Vec.getD 6 (Vec.getD 6 a0.2.1 1 Lq2) 0 (0:Nat)) (fMul .f32 a1 (Vec.getD 6 (Vec.getD 6 a0.2.1 4 Lq2) 0 (0:Nat)))),(fAdd .f32 (Vec.getD 6 (Vec.getD 6 a0.2.1 1 Lq2) 1 (0:Nat)) (fMul .f32 a1 (Vec.getD 6 (Vec.getD 6 a0.2.1 4 Lq2) 1 (0:Nat)))),(fAdd .f32 (Vec.getD 6 (Vec.getD 6 a0.2.1 1 Lq2) 2 (0:Nat)) (fMul .f32 a1 (Vec.getD 6 (Vec.getD 6 a0.2.1 4 Lq2) 2 (0:Nat)))),(fAdd .f32 (Vec.getD 6 (Vec.getD 6 a0.2.1 1 Lq2) 3 (0:Nat)) (fMul .f32 a1 (Vec.getD 6 (Vec.getD 6 a0.2.1 4 Lq2) 3 (0:Nat)))),(fAdd .f32 (Vec.getD 6 (Vec.getD 6 a0.2.1 1 Lq2) 4 (0:Nat)) (fMul .f32 a1 (Vec.getD 6 (Vec.getD 6 a0.2.1 4 Lq2) 4 (0:Nat)))),(fAdd .f32 (Vec.getD 6 (Vec.getD 6 a0.2.1 1 Lq2) 5 (0:Nat)) (fMul .f32 a1 (Vec.getD 6 (Vec.getD 6 a0.2.1 4 Lq2) 5 (0:Nat)))),0,0,0,()),((fAdd .f32 (Vec.getD 6 (Vec.getD 6 a0.2.1 2 Lq2) 0 (0:Nat)) (fMul .f32 a1 (Vec.getD 6 (Vec.getD 6 a0.2.1 5 Lq2) 0 (0:Nat)))),(fAdd .f32 (Vec.getD 6 (Vec.getD 6 a0.2.1 2 Lq2) 1 (0:Nat)) (fMul .f32 a1 (Vec.getD 6 (Vec.getD 6 a0.2.1 5 Lq2) 1 (0:Nat)))),(fAdd .f32 (Vec.getD 6 (Vec.getD 6 a0.2.1 2 Lq2) 2 (0:Nat)) (fMul .f32 a1 (Vec.getD 6 (Vec.getD 6 a0.2.1 5 Lq2) 2 (0:Nat)))),(fAdd .f32 (Vec.getD 6 (Vec.getD 6 a0.2.1 2 Lq2) 3 (0:Nat)) (fMul .f32 a1 (Vec.getD 6 (Vec.getD 6 a0.2.1 5 Lq2) 3 (0:Nat)))),(fAdd .f32 (Vec.getD 6 (Vec.getD 6 a0.2.1 2 Lq2) 4 (0:Nat)) (fMul .f32 a1 (Vec.getD 6 (Vec.getD 6 a0.2.1 5 Lq2) 4 (0:Nat)))),(fAdd .f32 (Vec.getD 6 (Vec.getD 6 a0.2.1 2 Lq2) 5 (0:Nat)) (fMul .f32 a1 (Vec.getD 6 (Vec.getD 6 a0.2.1 5 Lq2) 5 (0:Nat)))),0,0,0,()),((Vec.getD 6 (Vec.getD 6 a0.2.1 3 Lq2) 0 (0:Nat)),(Vec.getD 6 (Vec.getD 6 a0.2.1 3 Lq2) 1 (0:Nat)),(Vec.getD 6 (Vec.getD 6 a0.2.1 3 Lq2) 2 (0:Nat)),(Vec.getD 6 (Vec.getD 6 a0.2.1 3 Lq2) 3 (0:Nat)),(Vec.getD 6 (Vec.getD 6 a0.2.1 3 Lq2) 4 (0:Nat)),(Vec.getD 6 (Vec.getD 6 a0.2.1 3 Lq2) 5 (0:Nat)),(fMul .f32 (Vec.getD 3 a2 0 (0:Nat)) y2590.1.1),0,0,()),((Vec.getD 6 (Vec.getD 6 a0.2.1 4 Lq2) 0 (0:Nat)),(Vec.getD 6 (Vec.getD 6 a0.2.1 4 Lq2) 1 (0:Nat)),(Vec.getD 6 (Vec.getD 6 a0.2.1 4 Lq2) 2 (0:Nat)),(Vec.getD 6 (Vec.getD 6 a0.2.1 4 Lq2) 3 (0:Nat)),(Vec.getD 6 (Vec.getD 6 a0.2.1 4 Lq2) 4 (0:Nat)),(Vec.getD 6 (Vec.getD 6 a0.2.1 4 Lq2) 5 (0:Nat)),0,(fMul .f32 (Vec.getD 3 a2 1 (0:Nat)) y2590.1.1),0,()),((Vec.getD 6 (Vec.getD 6 a0.2.1 5 Lq2) 0 (0:Nat)),(Vec.getD 6 (Vec.getD 6 a0.2.1 5 Lq2) 1 (0:Nat)),(Vec.getD 6 (Vec.getD 6 a0.2.1 5 Lq2) 2 (0:Nat)),(Vec.getD 6 (Vec.getD 6 a0.2.1 5 Lq2) 3 (0:Nat)),(Vec.getD 6 (Vec.getD 6 a0.2.1 5 Lq2) 4 (0:Nat)),(Vec.getD 6 (Vec.getD 6 a0.2.1 5 Lq2) 5 (0:Nat)),0,0,(fMul .f32 (Vec.getD 3 a2 2 (0:Nat)) y2590.1.1),()),()):(Vec 6 (Vec 9 Nat)))).bind fun y2699 =>
 (qeg ((Vec.set 6 (Vec.set 6 (Vec.set 6 a0.1 0 (fAdd .f32 (Vec.getD 6 a0.1 0 (0:Nat)) (fMul .f32 (Vec.getD 6 a0.1 3 (0:Nat)) a1))) 1 (fAdd .f32 (Vec.getD 6 a0.1 1 (0:Nat)) (fMul .f32 (Vec.getD 6 a0.1 4 (0:Nat)) a1))) 2 (fAdd .f32 (Vec.getD 6 a0.1 2 (0:Nat)) (fMul .f32 (Vec.getD 6 a0.1 5 (0:Nat)) a1)),y2699.1.1,a0.2.2):Dq3) y2699.1.2.1).bind fun y2700 =>
 some ((y2700.1.1,y2700.1.2.1,()),())
def qvu:Entry:=⟨⟨[.v Uq2,.v (.flt .f32),.v (.arr 3 (.flt .f32))],[.v (.val Uq2),.v (.val (.int .i64))],false⟩,fun x=>qin x.1 x.2.1 x.2.2.1⟩
theorem qae6:Sound Tryz.prog G 173 qvu:=qab (envS (l:=[(138,qfo),(212,qhb),(213,qug),(214,qng),(215,qo6)]) ⟨(qht),(qjy),(qac5),(qui),(qv1),trivial⟩) [(9,.unroll 4),(13,.unroll 7)] Tryz.func173 (by kernel_rfl) rfl fun _=>by kernel_rfl
def qq7 (a0:(Vec 3 Nat)):Option (((Vec 3 Nat)×Int×Unit)×Unit) :=
 (qmp a0 a0).bind fun y2992 =>
 (qef y2992.1.1).bind fun y2993 =>
 bif (fEq .f32 y2993.1.1 0) then some ((Lq6,(4:Int),()),()) else
 (qac y2993.1.1).bind fun y2995 =>
 bif (! y2995.1.1) then some ((Lq6,(4:Int),()),()) else
 some (((((fDiv .f32 (Vec.getD 3 a0 0 (0:Nat)) y2993.1.1),(fDiv .f32 (Vec.getD 3 a0 1 (0:Nat)) y2993.1.1),(fDiv .f32 (Vec.getD 3 a0 2 (0:Nat)) y2993.1.1),()):(Vec 3 Nat)),(0:Int),()),())
def qxk:Entry:=⟨⟨[.v (.arr 3 (.flt .f32))],[.v (.val (.arr 3 (.flt .f32))),.v (.val (.int .i64))],false⟩,fun x=>qq7 x.1⟩
theorem qaf7:Sound Tryz.prog G 220 qxk:=qab (envS (l:=[(89,qbf),(138,qfo),(139,qql)]) ⟨(qbn),(qht),(qxo),trivial⟩) [] Tryz.func220 (by kernel_rfl) rfl fun _=>by kernel_rfl
def qmq (a0:(Vec 6 Nat)) (a1:(Vec 6 Nat)):Option Dq24 :=
 some (((fAdd .f32 (fAdd .f32 (fAdd .f32 (fAdd .f32 (fAdd .f32 (fMul .f32 (Vec.getD 6 a0 0 (0:Nat)) (Vec.getD 6 a1 0 (0:Nat))) (fMul .f32 (Vec.getD 6 a0 1 (0:Nat)) (Vec.getD 6 a1 1 (0:Nat)))) (fMul .f32 (Vec.getD 6 a0 2 (0:Nat)) (Vec.getD 6 a1 2 (0:Nat)))) (fMul .f32 (Vec.getD 6 a0 3 (0:Nat)) (Vec.getD 6 a1 3 (0:Nat)))) (fMul .f32 (Vec.getD 6 a0 4 (0:Nat)) (Vec.getD 6 a1 4 (0:Nat)))) (fMul .f32 (Vec.getD 6 a0 5 (0:Nat)) (Vec.getD 6 a1 5 (0:Nat)))),()),())
def qqm:Entry:=⟨⟨[.v (.arr 6 (.flt .f32)),.v (.arr 6 (.flt .f32))],[.v (.val (.flt .f32))],false⟩,fun x=>qmq x.1 x.2.1⟩
theorem qxq:Sound Tryz.prog G 221 qqm:=qab (envS (l:=[]) trivial) [(3,.unroll 6)] Tryz.func221 (by kernel_rfl) rfl fun _=>by kernel_rfl
def qgg (a0:Dq3) (a1:(Vec 3 Nat)) (a2:Nat) (a3:Nat):Option Dq30 :=
 (qhx a0).bind fun y2978 =>
 bif (! y2978.1.1) then some ((Lq9,(1:Int),()),()) else
 (qhc a0).bind fun y2980 =>
 (qdl y2980.1.1 a1).bind fun y2981 =>
 (qq7 y2981.1.1).bind fun y2982 =>
 bif (! (iEq y2982.1.2.1 0)) then some ((Lq9,y2982.1.2.1,()),()) else
 let x2984:=Vec.getD 3 y2982.1.1 0 (0:Nat)
 let x2985:=Vec.getD 3 y2982.1.1 1 (0:Nat)
 let x2986:=Vec.getD 3 y2982.1.1 2 (0:Nat)
 (qen y2981.1.1).bind fun y2987 =>
 (qmq ((x2984,x2985,x2986,0,0,0,()):(Vec 6 Nat)) a0.1).bind fun y2989 =>
 (qjz (((x2984,x2985,x2986,0,0,0,()),(fAdd .f32 (fSub .f32 a2 y2987.1.1) y2989.1.1),a3,()):Dq7)).bind fun y2991 =>
 some ((y2991.1.1,y2991.1.2.1,()),())
def qss:Entry:=⟨⟨[.v Uq2,.v (.arr 3 (.flt .f32)),.v (.flt .f32),.v (.flt .f32)],[.v (.val Uq4),.v (.val (.int .i64))],false⟩,fun x=>qgg x.1 x.2.1 x.2.2.1 x.2.2.2.1⟩
theorem qabr:Sound Tryz.prog G 177 qss:=qab (envS (l:=[(86,qjg),(87,qlv),(88,qnh),(212,qhb),(216,qni),(220,qxk),(221,qqm)]) ⟨(qne),(qqk),(quj),(qjy),(quk),(qaf7),(qxq),trivial⟩) [] Tryz.func177 (by kernel_rfl) rfl fun _=>by kernel_rfl
def qir (a0:Dq3) (a1:Dq7):Option (((Vec 6 Nat)×Nat×Nat×Unit)×Unit) :=
 let x3399:=fAdd .f32 (fAdd .f32 (fAdd .f32 (fAdd .f32 (fAdd .f32 (fMul .f32 (Vec.getD 6 (Vec.getD 6 a0.2.1 0 Lq2) 0 (0:Nat)) (Vec.getD 6 a1.1 0 (0:Nat))) (fMul .f32 (Vec.getD 6 (Vec.getD 6 a0.2.1 1 Lq2) 0 (0:Nat)) (Vec.getD 6 a1.1 1 (0:Nat)))) (fMul .f32 (Vec.getD 6 (Vec.getD 6 a0.2.1 2 Lq2) 0 (0:Nat)) (Vec.getD 6 a1.1 2 (0:Nat)))) (fMul .f32 (Vec.getD 6 (Vec.getD 6 a0.2.1 3 Lq2) 0 (0:Nat)) (Vec.getD 6 a1.1 3 (0:Nat)))) (fMul .f32 (Vec.getD 6 (Vec.getD 6 a0.2.1 4 Lq2) 0 (0:Nat)) (Vec.getD 6 a1.1 4 (0:Nat)))) (fMul .f32 (Vec.getD 6 (Vec.getD 6 a0.2.1 5 Lq2) 0 (0:Nat)) (Vec.getD 6 a1.1 5 (0:Nat)))
 let x3418:=fAdd .f32 (fAdd .f32 (fAdd .f32 (fAdd .f32 (fMul .f32 (Vec.getD 6 (Vec.getD 6 a0.2.1 1 Lq2) 1 (0:Nat)) (Vec.getD 6 a1.1 1 (0:Nat))) (fMul .f32 (Vec.getD 6 (Vec.getD 6 a0.2.1 2 Lq2) 1 (0:Nat)) (Vec.getD 6 a1.1 2 (0:Nat)))) (fMul .f32 (Vec.getD 6 (Vec.getD 6 a0.2.1 3 Lq2) 1 (0:Nat)) (Vec.getD 6 a1.1 3 (0:Nat)))) (fMul .f32 (Vec.getD 6 (Vec.getD 6 a0.2.1 4 Lq2) 1 (0:Nat)) (Vec.getD 6 a1.1 4 (0:Nat)))) (fMul .f32 (Vec.getD 6 (Vec.getD 6 a0.2.1 5 Lq2) 1 (0:Nat)) (Vec.getD 6 a1.1 5 (0:Nat)))
 let x3433:=fAdd .f32 (fAdd .f32 (fAdd .f32 (fMul .f32 (Vec.getD 6 (Vec.getD 6 a0.2.1 2 Lq2) 2 (0:Nat)) (Vec.getD 6 a1.1 2 (0:Nat))) (fMul .f32 (Vec.getD 6 (Vec.getD 6 a0.2.1 3 Lq2) 2 (0:Nat)) (Vec.getD 6 a1.1 3 (0:Nat)))) (fMul .f32 (Vec.getD 6 (Vec.getD 6 a0.2.1 4 Lq2) 2 (0:Nat)) (Vec.getD 6 a1.1 4 (0:Nat)))) (fMul .f32 (Vec.getD 6 (Vec.getD 6 a0.2.1 5 Lq2) 2 (0:Nat)) (Vec.getD 6 a1.1 5 (0:Nat)))
 let x3444:=fAdd .f32 (fAdd .f32 (fMul .f32 (Vec.getD 6 (Vec.getD 6 a0.2.1 3 Lq2) 3 (0:Nat)) (Vec.getD 6 a1.1 3 (0:Nat))) (fMul .f32 (Vec.getD 6 (Vec.getD 6 a0.2.1 4 Lq2) 3 (0:Nat)) (Vec.getD 6 a1.1 4 (0:Nat)))) (fMul .f32 (Vec.getD 6 (Vec.getD 6 a0.2.1 5 Lq2) 3 (0:Nat)) (Vec.getD 6 a1.1 5 (0:Nat)))
 let x3451:=fAdd .f32 (fMul .f32 (Vec.getD 6 (Vec.getD 6 a0.2.1 4 Lq2) 4 (0:Nat)) (Vec.getD 6 a1.1 4 (0:Nat))) (fMul .f32 (Vec.getD 6 (Vec.getD 6 a0.2.1 5 Lq2) 4 (0:Nat)) (Vec.getD 6 a1.1 5 (0:Nat)))
 let x3454:=fMul .f32 (Vec.getD 6 (Vec.getD 6 a0.2.1 5 Lq2) 5 (0:Nat)) (Vec.getD 6 a1.1 5 (0:Nat))
 (qmq a1.1 a0.1).bind fun y3468 =>
 some ((((x3399,x3418,x3433,x3444,x3451,x3454,()):(Vec 6 Nat)),(fSub .f32 a1.2.1 y3468.1.1),(fAdd .f32 (fAdd .f32 (fAdd .f32 (fAdd .f32 (fAdd .f32 (fAdd .f32 (fMul .f32 x3399 x3399) (fMul .f32 x3418 x3418)) (fMul .f32 x3433 x3433)) (fMul .f32 x3444 x3444)) (fMul .f32 x3451 x3451)) (fMul .f32 x3454 x3454)) (fMul .f32 a1.2.2.1 a1.2.2.1)),()),())
def ql4:Entry:=⟨⟨[.ro Uq2,.ro Uq4],[.v (.val (.arr 6 (.flt .f32))),.v (.val (.flt .f32)),.v (.val (.flt .f32))],false⟩,fun x=>qir x.1 x.2.1⟩
theorem qsv:Sound Tryz.prog G 252 ql4:=qab (envS (l:=[(221,qqm)]) ⟨(qxq),trivial⟩) [(3,.unroll 7),(7,.unroll 6),(13,.unroll 6)] Tryz.func252 (by kernel_rfl) rfl fun _=>by kernel_rfl
def qgk (a0:Dq3) (a1:Dq7):Option Dq19 :=
 (qir a0 a1).bind fun y3044 =>
 (qef (fDiv .f32 (fMul .f32 a1.2.2.1 a1.2.2.1) y3044.1.2.2.1)).bind fun y3047 =>
 let x3050:=fDiv .f32 (fDiv .f32 1065353216 (fAdd .f32 1065353216 y3047.1.1)) y3044.1.2.2.1
 let x3053:=fMul .f32 (Vec.getD 6 (Vec.getD 6 a0.2.1 0 Lq2) 0 (0:Nat)) (Vec.getD 6 y3044.1.1 0 (0:Nat))
 let x3058:=fMul .f32 x3053 x3050
 let x3062:=fSub .f32 (Vec.getD 6 (Vec.getD 6 a0.2.1 0 Lq2) 0 (0:Nat)) (fMul .f32 x3058 (Vec.getD 6 y3044.1.1 0 (0:Nat)))
 let x3066:=fSub .f32 (Vec.getD 6 (Vec.getD 6 a0.2.1 0 Lq2) 1 (0:Nat)) (fMul .f32 x3058 (Vec.getD 6 y3044.1.1 1 (0:Nat)))
 let x3070:=fSub .f32 (Vec.getD 6 (Vec.getD 6 a0.2.1 0 Lq2) 2 (0:Nat)) (fMul .f32 x3058 (Vec.getD 6 y3044.1.1 2 (0:Nat)))
 let x3074:=fSub .f32 (Vec.getD 6 (Vec.getD 6 a0.2.1 0 Lq2) 3 (0:Nat)) (fMul .f32 x3058 (Vec.getD 6 y3044.1.1 3 (0:Nat)))
 let x3078:=fSub .f32 (Vec.getD 6 (Vec.getD 6 a0.2.1 0 Lq2) 4 (0:Nat)) (fMul .f32 x3058 (Vec.getD 6 y3044.1.1 4 (0:Nat)))
 let x3082:=fSub .f32 (Vec.getD 6 (Vec.getD 6 a0.2.1 0 Lq2) 5 (0:Nat)) (fMul .f32 x3058 (Vec.getD 6 y3044.1.1 5 (0:Nat)))
 let x3089:=fAdd .f32 (fMul .f32 (Vec.getD 6 (Vec.getD 6 a0.2.1 1 Lq2) 0 (0:Nat)) (Vec.getD 6 y3044.1.1 0 (0:Nat))) (fMul .f32 (Vec.getD 6 (Vec.getD 6 a0.2.1 1 Lq2) 1 (0:Nat)) (Vec.getD 6 y3044.1.1 1 (0:Nat)))
 let x3094:=fMul .f32 x3089 x3050
 let x3098:=fSub .f32 (Vec.getD 6 (Vec.getD 6 a0.2.1 1 Lq2) 0 (0:Nat)) (fMul .f32 x3094 (Vec.getD 6 y3044.1.1 0 (0:Nat)))
 let x3102:=fSub .f32 (Vec.getD 6 (Vec.getD 6 a0.2.1 1 Lq2) 1 (0:Nat)) (fMul .f32 x3094 (Vec.getD 6 y3044.1.1 1 (0:Nat)))
 let x3106:=fSub .f32 (Vec.getD 6 (Vec.getD 6 a0.2.1 1 Lq2) 2 (0:Nat)) (fMul .f32 x3094 (Vec.getD 6 y3044.1.1 2 (0:Nat)))
 let x3110:=fSub .f32 (Vec.getD 6 (Vec.getD 6 a0.2.1 1 Lq2) 3 (0:Nat)) (fMul .f32 x3094 (Vec.getD 6 y3044.1.1 3 (0:Nat)))
 let x3114:=fSub .f32 (Vec.getD 6 (Vec.getD 6 a0.2.1 1 Lq2) 4 (0:Nat)) (fMul .f32 x3094 (Vec.getD 6 y3044.1.1 4 (0:Nat)))
 let x3118:=fSub .f32 (Vec.getD 6 (Vec.getD 6 a0.2.1 1 Lq2) 5 (0:Nat)) (fMul .f32 x3094 (Vec.getD 6 y3044.1.1 5 (0:Nat)))
 let x3129:=fAdd .f32 (fAdd .f32 (fMul .f32 (Vec.getD 6 (Vec.getD 6 a0.2.1 2 Lq2) 0 (0:Nat)) (Vec.getD 6 y3044.1.1 0 (0:Nat))) (fMul .f32 (Vec.getD 6 (Vec.getD 6 a0.2.1 2 Lq2) 1 (0:Nat)) (Vec.getD 6 y3044.1.1 1 (0:Nat)))) (fMul .f32 (Vec.getD 6 (Vec.getD 6 a0.2.1 2 Lq2) 2 (0:Nat)) (Vec.getD 6 y3044.1.1 2 (0:Nat)))
 let x3134:=fMul .f32 x3129 x3050
 let x3138:=fSub .f32 (Vec.getD 6 (Vec.getD 6 a0.2.1 2 Lq2) 0 (0:Nat)) (fMul .f32 x3134 (Vec.getD 6 y3044.1.1 0 (0:Nat)))
 let x3142:=fSub .f32 (Vec.getD 6 (Vec.getD 6 a0.2.1 2 Lq2) 1 (0:Nat)) (fMul .f32 x3134 (Vec.getD 6 y3044.1.1 1 (0:Nat)))
 let x3146:=fSub .f32 (Vec.getD 6 (Vec.getD 6 a0.2.1 2 Lq2) 2 (0:Nat)) (fMul .f32 x3134 (Vec.getD 6 y3044.1.1 2 (0:Nat)))
 let x3150:=fSub .f32 (Vec.getD 6 (Vec.getD 6 a0.2.1 2 Lq2) 3 (0:Nat)) (fMul .f32 x3134 (Vec.getD 6 y3044.1.1 3 (0:Nat)))
 let x3154:=fSub .f32 (Vec.getD 6 (Vec.getD 6 a0.2.1 2 Lq2) 4 (0:Nat)) (fMul .f32 x3134 (Vec.getD 6 y3044.1.1 4 (0:Nat)))
 let x3158:=fSub .f32 (Vec.getD 6 (Vec.getD 6 a0.2.1 2 Lq2) 5 (0:Nat)) (fMul .f32 x3134 (Vec.getD 6 y3044.1.1 5 (0:Nat)))
 let x3173:=fAdd .f32 (fAdd .f32 (fAdd .f32 (fMul .f32 (Vec.getD 6 (Vec.getD 6 a0.2.1 3 Lq2) 0 (0:Nat)) (Vec.getD 6 y3044.1.1 0 (0:Nat))) (fMul .f32 (Vec.getD 6 (Vec.getD 6 a0.2.1 3 Lq2) 1 (0:Nat)) (Vec.getD 6 y3044.1.1 1 (0:Nat)))) (fMul .f32 (Vec.getD 6 (Vec.getD 6 a0.2.1 3 Lq2) 2 (0:Nat)) (Vec.getD 6 y3044.1.1 2 (0:Nat)))) (fMul .f32 (Vec.getD 6 (Vec.getD 6 a0.2.1 3 Lq2) 3 (0:Nat)) (Vec.getD 6 y3044.1.1 3 (0:Nat)))
 let x3178:=fMul .f32 x3173 x3050
 let x3182:=fSub .f32 (Vec.getD 6 (Vec.getD 6 a0.2.1 3 Lq2) 0 (0:Nat)) (fMul .f32 x3178 (Vec.getD 6 y3044.1.1 0 (0:Nat)))
 let x3186:=fSub .f32 (Vec.getD 6 (Vec.getD 6 a0.2.1 3 Lq2) 1 (0:Nat)) (fMul .f32 x3178 (Vec.getD 6 y3044.1.1 1 (0:Nat)))
 let x3190:=fSub .f32 (Vec.getD 6 (Vec.getD 6 a0.2.1 3 Lq2) 2 (0:Nat)) (fMul .f32 x3178 (Vec.getD 6 y3044.1.1 2 (0:Nat)))
 let x3194:=fSub .f32 (Vec.getD 6 (Vec.getD 6 a0.2.1 3 Lq2) 3 (0:Nat)) (fMul .f32 x3178 (Vec.getD 6 y3044.1.1 3 (0:Nat)))
 let x3198:=fSub .f32 (Vec.getD 6 (Vec.getD 6 a0.2.1 3 Lq2) 4 (0:Nat)) (fMul .f32 x3178 (Vec.getD 6 y3044.1.1 4 (0:Nat)))
 let x3202:=fSub .f32 (Vec.getD 6 (Vec.getD 6 a0.2.1 3 Lq2) 5 (0:Nat)) (fMul .f32 x3178 (Vec.getD 6 y3044.1.1 5 (0:Nat)))
 let x3221:=fAdd .f32 (fAdd .f32 (fAdd .f32 (fAdd .f32 (fMul .f32 (Vec.getD 6 (Vec.getD 6 a0.2.1 4 Lq2) 0 (0:Nat)) (Vec.getD 6 y3044.1.1 0 (0:Nat))) (fMul .f32 (Vec.getD 6 (Vec.getD 6 a0.2.1 4 Lq2) 1 (0:Nat)) (Vec.getD 6 y3044.1.1 1 (0:Nat)))) (fMul .f32 (Vec.getD 6 (Vec.getD 6 a0.2.1 4 Lq2) 2 (0:Nat)) (Vec.getD 6 y3044.1.1 2 (0:Nat)))) (fMul .f32 (Vec.getD 6 (Vec.getD 6 a0.2.1 4 Lq2) 3 (0:Nat)) (Vec.getD 6 y3044.1.1 3 (0:Nat)))) (fMul .f32 (Vec.getD 6 (Vec.getD 6 a0.2.1 4 Lq2) 4 (0:Nat)) (Vec.getD 6 y3044.1.1 4 (0:Nat)))
 let x3226:=fMul .f32 x3221 x3050
 let x3230:=fSub .f32 (Vec.getD 6 (Vec.getD 6 a0.2.1 4 Lq2) 0 (0:Nat)) (fMul .f32 x3226 (Vec.getD 6 y3044.1.1 0 (0:Nat)))
 let x3234:=fSub .f32 (Vec.getD 6 (Vec.getD 6 a0.2.1 4 Lq2) 1 (0:Nat)) (fMul .f32 x3226 (Vec.getD 6 y3044.1.1 1 (0:Nat)))
 let x3238:=fSub .f32 (Vec.getD 6 (Vec.getD 6 a0.2.1 4 Lq2) 2 (0:Nat)) (fMul .f32 x3226 (Vec.getD 6 y3044.1.1 2 (0:Nat)))
 let x3242:=fSub .f32 (Vec.getD 6 (Vec.getD 6 a0.2.1 4 Lq2) 3 (0:Nat)) (fMul .f32 x3226 (Vec.getD 6 y3044.1.1 3 (0:Nat)))
 let x3246:=fSub .f32 (Vec.getD 6 (Vec.getD 6 a0.2.1 4 Lq2) 4 (0:Nat)) (fMul .f32 x3226 (Vec.getD 6 y3044.1.1 4 (0:Nat)))
 let x3250:=fSub .f32 (Vec.getD 6 (Vec.getD 6 a0.2.1 4 Lq2) 5 (0:Nat)) (fMul .f32 x3226 (Vec.getD 6 y3044.1.1 5 (0:Nat)))
 let x3273:=fAdd .f32 (fAdd .f32 (fAdd .f32 (fAdd .f32 (fAdd .f32 (fMul .f32 (Vec.getD 6 (Vec.getD 6 a0.2.1 5 Lq2) 0 (0:Nat)) (Vec.getD 6 y3044.1.1 0 (0:Nat))) (fMul .f32 (Vec.getD 6 (Vec.getD 6 a0.2.1 5 Lq2) 1 (0:Nat)) (Vec.getD 6 y3044.1.1 1 (0:Nat)))) (fMul .f32 (Vec.getD 6 (Vec.getD 6 a0.2.1 5 Lq2) 2 (0:Nat)) (Vec.getD 6 y3044.1.1 2 (0:Nat)))) (fMul .f32 (Vec.getD 6 (Vec.getD 6 a0.2.1 5 Lq2) 3 (0:Nat)) (Vec.getD 6 y3044.1.1 3 (0:Nat)))) (fMul .f32 (Vec.getD 6 (Vec.getD 6 a0.2.1 5 Lq2) 4 (0:Nat)) (Vec.getD 6 y3044.1.1 4 (0:Nat)))) (fMul .f32 (Vec.getD 6 (Vec.getD 6 a0.2.1 5 Lq2) 5 (0:Nat)) (Vec.getD 6 y3044.1.1 5 (0:Nat)))
 let x3278:=fMul .f32 x3273 x3050
 let x3282:=fSub .f32 (Vec.getD 6 (Vec.getD 6 a0.2.1 5 Lq2) 0 (0:Nat)) (fMul .f32 x3278 (Vec.getD 6 y3044.1.1 0 (0:Nat)))
 let x3286:=fSub .f32 (Vec.getD 6 (Vec.getD 6 a0.2.1 5 Lq2) 1 (0:Nat)) (fMul .f32 x3278 (Vec.getD 6 y3044.1.1 1 (0:Nat)))
 let x3290:=fSub .f32 (Vec.getD 6 (Vec.getD 6 a0.2.1 5 Lq2) 2 (0:Nat)) (fMul .f32 x3278 (Vec.getD 6 y3044.1.1 2 (0:Nat)))
 let x3294:=fSub .f32 (Vec.getD 6 (Vec.getD 6 a0.2.1 5 Lq2) 3 (0:Nat)) (fMul .f32 x3278 (Vec.getD 6 y3044.1.1 3 (0:Nat)))
 let x3298:=fSub .f32 (Vec.getD 6 (Vec.getD 6 a0.2.1 5 Lq2) 4 (0:Nat)) (fMul .f32 x3278 (Vec.getD 6 y3044.1.1 4 (0:Nat)))
 let x3302:=fSub .f32 (Vec.getD 6 (Vec.getD 6 a0.2.1 5 Lq2) 5 (0:Nat)) (fMul .f32 x3278 (Vec.getD 6 y3044.1.1 5 (0:Nat)))
 (qac x3062).bind fun y3303 =>
 bif (! y3303.1.1) then
  some ((Lq1,(4:Int),()),())
 else
 (qac x3066).bind fun y3305 =>
 bif (! y3305.1.1) then
  some ((Lq1,(4:Int),()),())
 else
 (qac x3070).bind fun y3307 =>
 bif (! y3307.1.1) then
  some ((Lq1,(4:Int),()),())
 else
 (qac x3074).bind fun y3309 =>
 bif (! y3309.1.1) then
  some ((Lq1,(4:Int),()),())
 else
 (qac x3078).bind fun y3311 =>
 bif (! y3311.1.1) then
  some ((Lq1,(4:Int),()),())
 else
 (qac x3082).bind fun y3313 =>
 bif (! y3313.1.1) then
  some ((Lq1,(4:Int),()),())
 else
 (qac x3098).bind fun y3315 =>
 bif (! y3315.1.1) then
  some ((Lq1,(4:Int),()),())
 else
 (qac x3102).bind fun y3317 =>
 bif (! y3317.1.1) then
  some ((Lq1,(4:Int),()),())
 else
 (qac x3106).bind fun y3319 =>
 bif (! y3319.1.1) then
  some ((Lq1,(4:Int),()),())
 else
 (qac x3110).bind fun y3321 =>
 bif (! y3321.1.1) then
  some ((Lq1,(4:Int),()),())
 else
 (qac x3114).bind fun y3323 =>
 bif (! y3323.1.1) then
  some ((Lq1,(4:Int),()),())
 else
 (qac x3118).bind fun y3325 =>
 bif (! y3325.1.1) then
  some ((Lq1,(4:Int),()),())
 else
 (qac x3138).bind fun y3327 =>
 bif (! y3327.1.1) then
  some ((Lq1,(4:Int),()),())
 else
 (qac x3142).bind fun y3329 =>
 bif (! y3329.1.1) then
  some ((Lq1,(4:Int),()),())
 else
 (qac x3146).bind fun y3331 =>
 bif (! y3331.1.1) then
  some ((Lq1,(4:Int),()),())
 else
 (qac x3150).bind fun y3333 =>
 bif (! y3333.1.1) then
  some ((Lq1,(4:Int),()),())
 else
 (qac x3154).bind fun y3335 =>
 bif (! y3335.1.1) then
  some ((Lq1,(4:Int),()),())
 else
 (qac x3158).bind fun y3337 =>
 bif (! y3337.1.1) then
  some ((Lq1,(4:Int),()),())
 else
 (qac x3182).bind fun y3339 =>
 bif (! y3339.1.1) then
  some ((Lq1,(4:Int),()),())
 else
 (qac x3186).bind fun y3341 =>
 bif (! y3341.1.1) then
  some ((Lq1,(4:Int),()),())
 else
 (qac x3190).bind fun y3343 =>
 bif (! y3343.1.1) then
  some ((Lq1,(4:Int),()),())
 else
 (qac x3194).bind fun y3345 =>
 bif (! y3345.1.1) then
  some ((Lq1,(4:Int),()),())
 else
 (qac x3198).bind fun y3347 =>
 bif (! y3347.1.1) then
  some ((Lq1,(4:Int),()),())
 else
 (qac x3202).bind fun y3349 =>
 bif (! y3349.1.1) then
  some ((Lq1,(4:Int),()),())
 else
 (qac x3230).bind fun y3351 =>
 bif (! y3351.1.1) then
  some ((Lq1,(4:Int),()),())
 else
 (qac x3234).bind fun y3353 =>
 bif (! y3353.1.1) then
  some ((Lq1,(4:Int),()),())
 else
 (qac x3238).bind fun y3355 =>
 bif (! y3355.1.1) then
  some ((Lq1,(4:Int),()),())
 else
 (qac x3242).bind fun y3357 =>
 bif (! y3357.1.1) then
  some ((Lq1,(4:Int),()),())
 else
 (qac x3246).bind fun y3359 =>
 bif (! y3359.1.1) then
  some ((Lq1,(4:Int),()),())
 else
 (qac x3250).bind fun y3361 =>
 bif (! y3361.1.1) then
  some ((Lq1,(4:Int),()),())
 else
 (qac x3282).bind fun y3363 =>
 bif (! y3363.1.1) then
  some ((Lq1,(4:Int),()),())
 else
 (qac x3286).bind fun y3365 =>
 bif (! y3365.1.1) then
  some ((Lq1,(4:Int),()),())
 else
 (qac x3290).bind fun y3367 =>
 bif (! y3367.1.1) then
  some ((Lq1,(4:Int),()),())
 else
 (qac x3294).bind fun y3369 =>
 bif (! y3369.1.1) then
  some ((Lq1,(4:Int),()),())
 else
 (qac x3298).bind fun y3371 =>
 bif (! y3371.1.1) then
  some ((Lq1,(4:Int),()),())
 else
 (qac x3302).bind fun y3373 =>
 bif (! y3373.1.1) then
  some ((Lq1,(4:Int),()),())
 else
 (qep (((x3062,x3066,x3070,x3074,x3078,x3082,0,0,0,()),(x3098,x3102,x3106,x3110,x3114,x3118,0,0,0,()),(x3138,x3142,x3146,x3150,x3154,x3158,0,0,0,()),(x3182,x3186,x3190,x3194,x3198,x3202,0,0,0,()),(x3230,x3234,x3238,x3242,x3246,x3250,0,0,0,()),(x3282,x3286,x3290,x3294,x3298,x3302,0,0,0,()),()):(Vec 6 (Vec 9 Nat)))).bind fun y3375 =>
 (qeg ((Vec.set 6 (Vec.set 6 (Vec.set 6 (Vec.set 6 (Vec.set 6 (Vec.set 6 a0.1 0 (fAdd .f32 (Vec.getD 6 a0.1 0 (0:Nat)) (fMul .f32 x3053 (fDiv .f32 y3044.1.2.1 y3044.1.2.2.1)))) 1 (fAdd .f32 (Vec.getD 6 a0.1 1 (0:Nat)) (fMul .f32 x3089 (fDiv .f32 y3044.1.2.1 y3044.1.2.2.1)))) 2 (fAdd .f32 (Vec.getD 6 a0.1 2 (0:Nat)) (fMul .f32 x3129 (fDiv .f32 y3044.1.2.1 y3044.1.2.2.1)))) 3 (fAdd .f32 (Vec.getD 6 a0.1 3 (0:Nat)) (fMul .f32 x3173 (fDiv .f32 y3044.1.2.1 y3044.1.2.2.1)))) 4 (fAdd .f32 (Vec.getD 6 a0.1 4 (0:Nat)) (fMul .f32 x3221 (fDiv .f32 y3044.1.2.1 y3044.1.2.2.1)))) 5 (fAdd .f32 (Vec.getD 6 a0.1 5 (0:Nat)) (fMul .f32 x3273 (fDiv .f32 y3044.1.2.1 y3044.1.2.2.1))),y3375.1.1,a0.2.2):Dq3) y3375.1.2.1).bind fun y3376 =>
 some ((y3376.1.1,y3376.1.2.1,()),())
def ql5:Entry:=⟨⟨[.ro Uq2,.ro Uq4],[.v (.val Uq2),.v (.val (.int .i64))],false⟩,fun x=>qgk x.1 x.2.1⟩
theorem qsw:Sound Tryz.prog G 218 ql5:=qab (envS (l:=[(89,qbf),(138,qfo),(214,qng),(215,qo6),(252,ql4)]) ⟨(qbn),(qht),(qui),(qv1),(qsv),trivial⟩) [(7,.unroll 7),(11,.unroll 6),(17,.unroll 7),(21,.unroll 7),(24,.unroll 7)] Tryz.func218 (by kernel_rfl) rfl fun _=>by kernel_rfl
def qa1 (a1:(List Dq7)) (s3039:(Int×Dq3×Unit)):Option ((Int×Dq3×Unit)⊕Dq19) :=
 bif (iLt s3039.1 (lenI a1)) then
  bif inB s3039.1 (List.length a1) then
   (qgk s3039.2.1 (List.getD a1 s3039.1.toNat Lq9)).bind fun y3041 =>
   bif (! (iEq y3041.1.2.1 0)) then
    Option.map Sum.inr (some ((Lq1,y3041.1.2.1,()),()))
   else
   some (Sum.inl ((iAdd .i64 s3039.1 1),y3041.1.1,()))
  else none
 else
 Option.map Sum.inr (some ((s3039.2.1,(0:Int),()),()))
def qc7 (a1:(List Dq7)) (a0:Dq3) (s3028:(Int×Unit)):Option ((Int×Unit)⊕Dq19) :=
 bif (iLt s3028.1 (lenI a1)) then
  bif inB s3028.1 (List.length a1) then
   (qip (List.getD a1 s3028.1.toNat Lq9)).bind fun y3030 =>
   bif (! y3030.1.1) then
    Option.map Sum.inr (some ((Lq1,(1:Int),()),()))
   else
   some (Sum.inl ((iAdd .i64 s3028.1 1),()))
  else none
 else
 Option.map Sum.inr (
  bif (iLt 256 (lenI a1)) then
   some ((Lq1,(3:Int),()),())
  else run (qa1 a1) ((0:Int),a0,()))
def qgh (a0:Dq3) (a1:(List Dq7)):Option Dq19 :=
 (qhx a0).bind fun y3026 =>
 bif (! y3026.1.1) then
  some ((Lq1,(1:Int),()),())
 else run (qc7 a1 a0) ((0:Int),())
def qst:Entry:=⟨⟨[.v Uq2,.v (.list Uq4)],[.v (.val Uq2),.v (.val (.int .i64))],false⟩,fun x=>qgh x.1 x.2.1⟩
theorem qabs:Sound Tryz.prog G 175 qst:=qab (envS (l:=[(212,qhb),(217,qks),(218,ql5)]) ⟨(qjy),(qo5),(qsw),trivial⟩) [(4,.vary [(6,.sc (.int .i64))]),(11,.vary [(7,.sc (.int .i64)),(2,.box (.val Uq2))])] Tryz.func175 (by kernel_rfl) rfl fun _=>by kernel_rfl
def qo4 (a0:Dq3) (a1:Dq7):Option Dq21 :=
 (qhx a0).bind fun y3479 =>
 bif (! y3479.1.1) then some (((1:Int),()),()) else
 (qip a1).bind fun y3481 =>
 bif (! y3481.1.1) then some (((1:Int),()),()) else some (((0:Int),()),())
def qvz:Entry:=⟨⟨[.ro Uq2,.ro Uq4],[.v (.val (.int .i64))],false⟩,fun x=>qo4 x.1 x.2.1⟩
theorem qafa:Sound Tryz.prog G 222 qvz:=qab (envS (l:=[(212,qhb),(217,qks)]) ⟨(qjy),(qo5),trivial⟩) [] Tryz.func222 (by kernel_rfl) rfl fun _=>by kernel_rfl
def qiq (a0:Dq3) (a1:Dq7):Option Dq31 :=
 (qir a0 a1).bind fun y3483 =>
 let x3485:=fDiv .f32 (fMul .f32 y3483.1.2.1 y3483.1.2.1) y3483.1.2.2.1
 (qac x3485).bind fun y3486 =>
 bif (! y3486.1.1) then some (((0:Nat),(4:Int),()),()) else some ((x3485,(0:Int),()),())
def qv0:Entry:=⟨⟨[.ro Uq2,.ro Uq4],[.v (.val (.flt .f32)),.v (.val (.int .i64))],false⟩,fun x=>qiq x.1 x.2.1⟩
theorem qafb:Sound Tryz.prog G 223 qv0:=qab (envS (l:=[(89,qbf),(252,ql4)]) ⟨(qbn),(qsv),trivial⟩) [] Tryz.func223 (by kernel_rfl) rfl fun _=>by kernel_rfl
def qb1 (a0:Dq3) (a1:Dq7) (a2:Nat):Option Dq29 :=
 (qo4 a0 a1).bind fun y3470 =>
 bif (! (iEq y3470.1.1 0)) then
  some ((Lq1,false,y3470.1.1,()),())
 else
 bif (! (fLe .f32 0 a2)) then
  some ((Lq1,false,(2:Int),()),())
 else
 (qiq a0 a1).bind fun y3474 =>
 bif (! (iEq y3474.1.2.1 0)) then
  some ((Lq1,false,y3474.1.2.1,()),())
 else
 bif (fLt .f32 a2 y3474.1.1) then some ((a0,false,(0:Int),()),()) else
 (qgk a0 a1).bind fun y3477 =>
 some ((y3477.1.1,(iEq y3477.1.2.1 0),y3477.1.2.1,()),())
def qkg:Entry:=⟨⟨[.v Uq2,.v Uq4,.v (.flt .f32)],[.v (.val Uq2),.v (.val (.bool)),.v (.val (.int .i64))],false⟩,fun x=>qb1 x.1 x.2.1 x.2.2.1⟩
theorem qpp:Sound Tryz.prog G 178 qkg:=qab (envS (l:=[(218,ql5),(222,qvz),(223,qv0)]) ⟨(qsw),(qafa),(qafb),trivial⟩) [] Tryz.func178 (by kernel_rfl) rfl fun _=>by kernel_rfl
def qmr (a0:Dq27) (a1:(Vec 3 Int)):Option (Dq20×Unit) :=
 some (((((fAdd .f32 (fMul .f32 (fOfInt .f32 (Vec.getD 3 a1 0 (0:Int))) (Vec.getD 3 a0.1 0 (0:Nat))) (Vec.getD 3 a0.2.1 0 (0:Nat))),(fAdd .f32 (fMul .f32 (fOfInt .f32 (Vec.getD 3 a1 1 (0:Int))) (Vec.getD 3 a0.1 1 (0:Nat))) (Vec.getD 3 a0.2.1 1 (0:Nat))),(fAdd .f32 (fMul .f32 (fOfInt .f32 (Vec.getD 3 a1 2 (0:Int))) (Vec.getD 3 a0.1 2 (0:Nat))) (Vec.getD 3 a0.2.1 2 (0:Nat))),()):(Vec 3 Nat)),()),())
def qxt:Entry:=⟨⟨[.ro Uq9,.v (.arr 3 (.int .i16))],[.v (.val (.arr 3 (.flt .f32)))],false⟩,fun x=>qmr x.1 x.2.1⟩
theorem qagb:Sound Tryz.prog G 219 qxt:=qab (envS (l:=[]) trivial) [(3,.unroll 4)] Tryz.func219 (by kernel_rfl) rfl fun _=>by kernel_rfl
def qkd (a0:Dq3) (a1:(Vec 3 Int)):Option Dq29 :=
 (qe8).bind fun y3488 =>
 (qmr y3488.1.1 a1).bind fun y3489 =>
 (qa5 (0:Int) (Vec.getD 3 y3489.1.1 0 (0:Nat)) (1056964608:Nat)).bind fun y3491 =>
 bif (! (iEq y3491.1.2.1 0)) then
  some ((Lq1,false,(4:Int),()),())
 else
 (qb1 a0 y3491.1.1 (1091567616:Nat)).bind fun y3493 =>
 bif (! (iEq y3493.1.2.2.1 0)) then
  some ((Lq1,false,y3493.1.2.2.1,()),())
 else
 (qa5 (1:Int) (Vec.getD 3 y3489.1.1 1 (0:Nat)) (1056964608:Nat)).bind fun y3496 =>
 bif (! (iEq y3496.1.2.1 0)) then
  some ((Lq1,false,(4:Int),()),())
 else
 (qb1 y3493.1.1 y3496.1.1 (1091567616:Nat)).bind fun y3498 =>
 bif (! (iEq y3498.1.2.2.1 0)) then
  some ((Lq1,false,y3498.1.2.2.1,()),())
 else
 bif y3493.1.2.1 then
  (qa5 (2:Int) (Vec.getD 3 y3489.1.1 2 (0:Nat)) (1056964608:Nat)).bind fun y3501 =>
  bif (! (iEq y3501.1.2.1 0)) then
   some ((Lq1,false,(4:Int),()),())
  else
  (qb1 y3498.1.1 y3501.1.1 (1091567616:Nat)).bind fun y3503 =>
  bif (! (iEq y3503.1.2.2.1 0)) then
   some ((Lq1,false,y3503.1.2.2.1,()),())
  else
  bif y3498.1.2.1 then some ((y3503.1.1,y3503.1.2.1,(0:Int),()),()) else some ((y3503.1.1,false,(0:Int),()),())
 else
 (qa5 (2:Int) (Vec.getD 3 y3489.1.1 2 (0:Nat)) (1056964608:Nat)).bind fun y3506 =>
 bif (! (iEq y3506.1.2.1 0)) then
  some ((Lq1,false,(4:Int),()),())
 else
 (qb1 y3498.1.1 y3506.1.1 (1091567616:Nat)).bind fun y3508 =>
 bif (! (iEq y3508.1.2.2.1 0)) then
  some ((Lq1,false,y3508.1.2.2.1,()),())
 else some ((y3508.1.1,false,(0:Int),()),())
def qxu:Entry:=⟨⟨[.v Uq2,.v (.arr 3 (.int .i16))],[.v (.val Uq2),.v (.val (.bool)),.v (.val (.int .i64))],false⟩,fun x=>qkd x.1 x.2.1⟩
theorem qagc:Sound Tryz.prog G 176 qxu:=qab (envS (l:=[(120,ql7),(174,qqj),(178,qkg),(219,qxt)]) ⟨(qs1),(qxi),(qpp),(qagb),trivial⟩) [(5,.unroll 4)] Tryz.func176 (by kernel_rfl) rfl fun _=>by kernel_rfl
def qeh (a0:Dq2) (a1:Dq3) (a2:Dq5):Option Dq29 :=
 bif (iEq a2.1 1) then
  (qin a1 (fDiv .f32 1065353216 (fOfInt .f32 a0.1)) ((1048576000,1048576000,1048576000,()):(Vec 3 Nat))).bind fun y2533 =>
  some ((y2533.1.1,(iEq y2533.1.2.1 0),y2533.1.2.1,()),())
 else
 bif (iEq a2.1 2) then
  (qa5 (3:Int) (Vec.getD 3 a2.2.1 0 (0:Nat)) (1040187392:Nat)).bind fun y2537 =>
  (qa5 (4:Int) (Vec.getD 3 a2.2.1 1 (0:Nat)) (1040187392:Nat)).bind fun y2539 =>
  (qa5 (5:Int) (Vec.getD 3 a2.2.1 2 (0:Nat)) (1040187392:Nat)).bind fun y2541 =>
  (qgh a1 ([y2537.1.1,y2539.1.1,y2541.1.1]:(List Dq7))).bind fun y2542 =>
  some ((y2542.1.1,(iEq y2542.1.2.1 0),y2542.1.2.1,()),())
 else
 bif (iEq a2.1 3) then
  (qkd a1 a2.2.2.1).bind fun y2545 =>
  some ((y2545.1.1,y2545.1.2.1,y2545.1.2.2.1,()),())
 else
 bif inB a2.2.2.2.1 (List.length a0.2.2.1) then
  (qgg a1 (List.getD a0.2.2.1 a2.2.2.2.1.toNat Lq6) a2.2.2.2.2.1 (1056964608:Nat)).bind fun y2547 =>
  bif (! (iEq y2547.1.2.1 0)) then some ((a1,false,(0:Int),()),()) else
  (qb1 a1 y2547.1.1 (1091567616:Nat)).bind fun y2549 =>
  some ((y2549.1.1,y2549.1.2.1,y2549.1.2.2.1,()),())
 else none
def qv2:Entry:=⟨⟨[.ro Uq5,.v Uq2,.ro Uq1],[.v (.val Uq2),.v (.val (.bool)),.v (.val (.int .i64))],false⟩,fun x=>qeh x.1 x.2.1 x.2.2.1⟩
theorem qafd:Sound Tryz.prog G 135 qv2:=qab (envS (l:=[(173,qvu),(174,qqj),(175,qst),(176,qxu),(177,qss),(178,qkg)]) ⟨(qae6),(qxi),(qabs),(qagc),(qabr),(qpp),trivial⟩) [(8,.unroll 4)] Tryz.func135 (by kernel_rfl) rfl fun _=>by kernel_rfl
def qbt (a3:Int) (a0:Dq2) (s2522:((List Int)×Int×Dq3×Unit)):Option (((List Int)×Int×Dq3×Unit)⊕Dq32) :=
 bif (iLt s2522.2.1 a3) then
  bif inB s2522.2.1 (List.length a0.2.2.2.1) then
   (qeh a0 s2522.2.2.1 (List.getD a0.2.2.2.1 s2522.2.1.toNat Lq7)).bind fun y2524 =>
   bif (! (iEq y2524.1.2.2.1 0)) then
    Option.map Sum.inr (some ((Lq1,([]:(List Int)),y2524.1.2.2.1,()),()))
   else
   bif (! y2524.1.2.1) then
    bif room (List.length s2522.1+1) 8 then
     some (Sum.inl ((s2522.1++([s2522.2.1]:(List Int))),(iAdd .i64 s2522.2.1 1),y2524.1.1,()))
    else none
   else
   some (Sum.inl (s2522.1,(iAdd .i64 s2522.2.1 1),y2524.1.1,()))
  else none
 else
 Option.map Sum.inr (some ((s2522.2.2.1,s2522.1,(0:Int),()),()))
def qgm (a0:Dq2) (a1:Dq3) (a2:Int) (a3:Int):Option Dq32 :=
 run (qbt a3 a0) (([]:(List Int)),a2,a1,())
def ql6:Entry:=⟨⟨[.ro Uq5,.v Uq2,.v (.int .i64),.v (.int .i64)],[.v (.val Uq2),.v (.rows (.int .i64)),.v (.val (.int .i64))],false⟩,fun x=>qgm x.1 x.2.1 x.2.2.1 x.2.2.2.1⟩
theorem qs0:Sound Tryz.prog G 77 ql6:=qab (envS (l:=[(135,qv2)]) ⟨(qafd),trivial⟩) [(3,.vary [(11,.rows (.int .i64)),(12,.sc (.int .i64)),(5,.box (.val Uq2))])] Tryz.func77 (by kernel_rfl) rfl fun _=>by kernel_rfl
def qmn (a0:Dq4) (a1:Int):Option Dq31 :=
 (qo7 a0).bind fun y2461 =>
 bif (! y2461.1.1) then some (((0:Nat),(1:Int),()),()) else
 (qd6 a0 a1).bind fun y2463 =>
 bif (! (iEq y2463.1.2.1 0)) then some (((0:Nat),y2463.1.2.1,()),()) else
 (qj1 ((y2463.1.1.1,y2463.1.1.2.1,y2463.1.1.2.2.1,y2463.1.1.2.2.2.1,y2463.1.1.2.2.2.2):Dq2)).bind fun y2465 =>
 (qgm ((y2463.1.1.1,y2463.1.1.2.1,y2463.1.1.2.2.1,y2463.1.1.2.2.2.1,y2463.1.1.2.2.2.2):Dq2) y2465.1.1 (0:Int) (lenI y2463.1.1.2.2.2.1)).bind fun y2466 =>
 bif (! (iEq y2466.1.2.2.1 0)) then some (((0:Nat),y2466.1.2.2.1,()),()) else
 (qb7 a0).bind fun y2468 =>
 (qhc y2466.1.1).bind fun y2469 =>
 let x2470:=iSub .i64 (lenI y2468.1.1) 1
 bif inB x2470 (List.length y2468.1.1) then
  (qdl y2469.1.1 (List.getD y2468.1.1 x2470.toNat Lq6)).bind fun y2472 =>
  (qen y2472.1.1).bind fun y2473 =>
  (qac y2473.1.1).bind fun y2474 =>
  bif (! y2474.1.1) then some (((0:Nat),(4:Int),()),()) else some ((y2473.1.1,(0:Int),()),())
 else none
def qxj:Entry:=⟨⟨[.v Uq3,.v (.int .u32)],[.v (.val (.flt .f32)),.v (.val (.int .i64))],false⟩,fun x=>qmn x.1 x.2.1⟩
theorem qaf6:Sound Tryz.prog G 21 qxj:=qab (envS (l:=[(49,qsa),(50,qlx),(77,ql6),(78,qnl),(85,qno),(86,qjg),(87,qlv),(88,qnh),(89,qbf)]) ⟨(qy6),(qqq),(qs0),(quq),(qut),(qne),(qqk),(quj),(qbn),trivial⟩) [] Tryz.func21 (by kernel_rfl) rfl fun _=>by kernel_rfl
def qbz (a0:Nat) (a1:Nat):Option Dq9 :=
 bif (! (fEq .f32 a0 a0)) then
  bif (! (fEq .f32 a0 a0)) then
   some (((! (fEq .f32 a1 a1)),()),())
  else some ((false,()),())
 else
 bif (! (fEq .f32 a1 a1)) then
  bif (! (fEq .f32 a0 a0)) then
   some (((! (fEq .f32 a1 a1)),()),())
  else some ((false,()),())
 else
 allSame fun (q3598:Nat) =>
 allSame fun (q3600:Nat) =>
 some (((iEq (bitsF .f32 a0 q3598) (bitsF .f32 a1 q3600)),()),())
def qkr:Entry:=⟨⟨[.v (.flt .f32),.v (.flt .f32)],[.v (.val (.bool))],false⟩,fun x=>qbz x.1 x.2.1⟩
theorem qo3:Sound Tryz.prog G 122 qkr:=qab (envS (l:=[]) trivial) [] Tryz.func122 (by kernel_rfl) rfl fun _=>by kernel_rfl
def qbk (a0:(Vec 3 Nat)) (a1:(Vec 3 Nat)):Option Dq9 :=
 (qbz (Vec.getD 3 a0 0 (0:Nat)) (Vec.getD 3 a1 0 (0:Nat))).bind fun y3605 =>
 bif y3605.1.1 then
  (qbz (Vec.getD 3 a0 1 (0:Nat)) (Vec.getD 3 a1 1 (0:Nat))).bind fun y3608 =>
  bif y3608.1.1 then
   (qbz (Vec.getD 3 a0 2 (0:Nat)) (Vec.getD 3 a1 2 (0:Nat))).bind fun y3611 =>
   some ((y3611.1.1,()),())
  else some ((false,()),())
 else some ((false,()),())
def qff:Entry:=⟨⟨[.v (.arr 3 (.flt .f32)),.v (.arr 3 (.flt .f32))],[.v (.val (.bool))],false⟩,fun x=>qbk x.1 x.2.1⟩
theorem qhv:Sound Tryz.prog G 51 qff:=qab (envS (l:=[(122,qkr)]) ⟨(qo3),trivial⟩) [] Tryz.func51 (by kernel_rfl) rfl fun _=>by kernel_rfl
def qmy (a0:Dq5) (a1:Int):Option Dq9 :=
 (qbk a0.2.1 Lq6).bind fun y3540 =>
 bif y3540.1.1 then
  (qbz a0.2.2.2.2.1 (0:Nat)).bind fun y3541 =>
  bif y3541.1.1 then
   bif (iEq a0.1 1) then
    bif (iEq (Vec.getD 3 a0.2.2.1 0 (0:Int)) 0&&(iEq (Vec.getD 3 a0.2.2.1 1 (0:Int)) 0&&(iEq (Vec.getD 3 a0.2.2.1 2 (0:Int)) 0&&true))) then
     some (((iEq a0.2.2.2.1 0),()),())
    else some ((false,()),())
   else
   bif (iEq a0.1 2) then
    (qcz a0.2.1).bind fun y3546 =>
    bif y3546.1.1 then
     (qbz a0.2.2.2.2.1 (0:Nat)).bind fun y3547 =>
     bif y3547.1.1 then
      bif (iEq (Vec.getD 3 a0.2.2.1 0 (0:Int)) 0&&(iEq (Vec.getD 3 a0.2.2.1 1 (0:Int)) 0&&(iEq (Vec.getD 3 a0.2.2.1 2 (0:Int)) 0&&true))) then
       some (((iEq a0.2.2.2.1 0),()),())
      else some ((false,()),())
     else some ((false,()),())
    else some ((false,()),())
   else
   bif (iEq a0.1 3) then
    (qbk a0.2.1 Lq6).bind fun y3551 =>
    bif y3551.1.1 then
     (qbz a0.2.2.2.2.1 (0:Nat)).bind fun y3552 =>
     bif y3552.1.1 then
      some (((iEq a0.2.2.2.1 0),()),())
     else some ((false,()),())
    else some ((false,()),())
   else
   bif (iEq a0.1 4) then
    (qbk a0.2.1 Lq6).bind fun y3555 =>
    bif y3555.1.1 then
     bif (iEq (Vec.getD 3 a0.2.2.1 0 (0:Int)) 0&&(iEq (Vec.getD 3 a0.2.2.1 1 (0:Int)) 0&&(iEq (Vec.getD 3 a0.2.2.1 2 (0:Int)) 0&&true))) then
      (qac a0.2.2.2.2.1).bind fun y3557 =>
      bif y3557.1.1 then
       (qby a0.2.2.2.1 (0:Int) (iSub .i64 a1 1)).bind fun y3559 =>
       some ((y3559.1.1,()),())
      else some ((false,()),())
     else some ((false,()),())
    else some ((false,()),())
   else some ((false,()),())
  else
  bif (iEq a0.1 1) then some ((false,()),()) else
  bif (iEq a0.1 2) then
   (qcz a0.2.1).bind fun y3562 =>
   bif y3562.1.1 then
    (qbz a0.2.2.2.2.1 (0:Nat)).bind fun y3563 =>
    bif y3563.1.1 then
     bif (iEq (Vec.getD 3 a0.2.2.1 0 (0:Int)) 0&&(iEq (Vec.getD 3 a0.2.2.1 1 (0:Int)) 0&&(iEq (Vec.getD 3 a0.2.2.1 2 (0:Int)) 0&&true))) then
      some (((iEq a0.2.2.2.1 0),()),())
     else some ((false,()),())
    else some ((false,()),())
   else some ((false,()),())
  else
  bif (iEq a0.1 3) then
   (qbk a0.2.1 Lq6).bind fun y3567 =>
   bif y3567.1.1 then
    (qbz a0.2.2.2.2.1 (0:Nat)).bind fun y3568 =>
    bif y3568.1.1 then
     some (((iEq a0.2.2.2.1 0),()),())
    else some ((false,()),())
   else some ((false,()),())
  else
  bif (iEq a0.1 4) then
   (qbk a0.2.1 Lq6).bind fun y3571 =>
   bif y3571.1.1 then
    bif (iEq (Vec.getD 3 a0.2.2.1 0 (0:Int)) 0&&(iEq (Vec.getD 3 a0.2.2.1 1 (0:Int)) 0&&(iEq (Vec.getD 3 a0.2.2.1 2 (0:Int)) 0&&true))) then
     (qac a0.2.2.2.2.1).bind fun y3573 =>
     bif y3573.1.1 then
      (qby a0.2.2.2.1 (0:Int) (iSub .i64 a1 1)).bind fun y3575 =>
      some ((y3575.1.1,()),())
     else some ((false,()),())
    else some ((false,()),())
   else some ((false,()),())
  else some ((false,()),())
 else
 bif (iEq a0.1 1) then some ((false,()),()) else
 bif (iEq a0.1 2) then
  (qcz a0.2.1).bind fun y3578 =>
  bif y3578.1.1 then
   (qbz a0.2.2.2.2.1 (0:Nat)).bind fun y3579 =>
   bif y3579.1.1 then
    bif (iEq (Vec.getD 3 a0.2.2.1 0 (0:Int)) 0&&(iEq (Vec.getD 3 a0.2.2.1 1 (0:Int)) 0&&(iEq (Vec.getD 3 a0.2.2.1 2 (0:Int)) 0&&true))) then
     some (((iEq a0.2.2.2.1 0),()),())
    else some ((false,()),())
   else some ((false,()),())
  else some ((false,()),())
 else
 bif (iEq a0.1 3) then
  (qbk a0.2.1 Lq6).bind fun y3583 =>
  bif y3583.1.1 then
   (qbz a0.2.2.2.2.1 (0:Nat)).bind fun y3584 =>
   bif y3584.1.1 then
    some (((iEq a0.2.2.2.1 0),()),())
   else some ((false,()),())
  else some ((false,()),())
 else
 bif (iEq a0.1 4) then
  (qbk a0.2.1 Lq6).bind fun y3587 =>
  bif y3587.1.1 then
   bif (iEq (Vec.getD 3 a0.2.2.1 0 (0:Int)) 0&&(iEq (Vec.getD 3 a0.2.2.1 1 (0:Int)) 0&&(iEq (Vec.getD 3 a0.2.2.1 2 (0:Int)) 0&&true))) then
    (qac a0.2.2.2.2.1).bind fun y3589 =>
    bif y3589.1.1 then
     (qby a0.2.2.2.1 (0:Int) (iSub .i64 a1 1)).bind fun y3591 =>
     some ((y3591.1.1,()),())
    else some ((false,()),())
   else some ((false,()),())
  else some ((false,()),())
 else some ((false,()),())
def qun:Entry:=⟨⟨[.ro Uq1,.v (.int .i64)],[.v (.val (.bool))],false⟩,fun x=>qmy x.1 x.2.1⟩
theorem qac9:Sound Tryz.prog G 134 qun:=qab (envS (l:=[(51,qff),(89,qbf),(117,qeo),(118,qgj),(122,qkr)]) ⟨(qhv),(qbn),(qfw),(qio),(qo3),trivial⟩) [] Tryz.func134 (by kernel_rfl) rfl fun _=>by kernel_rfl
def qlw (a0:Dq2) (s3535:(Int×Unit)):Option ((Int×Unit)⊕Dq9) :=
 bif (iLt s3535.1 (lenI a0.2.2.2.1)) then
  bif inB s3535.1 (List.length a0.2.2.2.1) then
   (qmy (List.getD a0.2.2.2.1 s3535.1.toNat Lq7) (lenI a0.2.2.1)).bind fun y3537 =>
   bif (! y3537.1.1) then
    Option.map Sum.inr (some ((false,()),()))
   else
   some (Sum.inl ((iAdd .i64 s3535.1 1),()))
  else none
 else
 Option.map Sum.inr (some ((true,()),()))
def qq9 (a0:Dq2):Option Dq9 :=
 (qj2 a0.1 a0.2.1 a0.2.2.1).bind fun y3532 =>
 bif (! y3532.1.1) then some ((false,()),()) else
 bif (iLt 1200 (lenI a0.2.2.2.1)) then some ((false,()),()) else run (qlw a0) ((0:Int),())
def qxv:Entry:=⟨⟨[.ro Uq5],[.v (.val (.bool))],false⟩,fun x=>qq9 x.1⟩
theorem qage:Sound Tryz.prog G 76 qxv:=qab (envS (l:=[(116,qnm),(134,qun)]) ⟨(qus),(qac9),trivial⟩) [(4,.vary [(3,.sc (.int .i64))])] Tryz.func76 (by kernel_rfl) rfl fun _=>by kernel_rfl
def qg5 (a0:Dq2):Option Dq34 :=
 (qq9 a0).bind fun y3528 =>
 bif (! y3528.1.1) then some ((([]:(List Int)),(1:Int),()),()) else
 (qj1 a0).bind fun y3530 =>
 (qgm a0 y3530.1.1 (0:Int) (lenI a0.2.2.2.1)).bind fun y3531 =>
 some ((y3531.1.2.1,y3531.1.2.2.1,()),())
def qmo:Entry:=⟨⟨[.v Uq5],[.v (.rows (.int .i64)),.v (.val (.int .i64))],false⟩,fun x=>qg5 x.1⟩
theorem qwh:Sound Tryz.prog G 18 qmo:=qab (envS (l:=[(76,qxv),(77,ql6),(78,qnl)]) ⟨(qage),(qs0),(quq),trivial⟩) [] Tryz.func18 (by kernel_rfl) rfl fun _=>by kernel_rfl
def qkp (a0:Dq4) (a1:Int):Option Dq22 :=
 (qo7 a0).bind fun y3612 =>
 bif (! y3612.1.1) then some ((Lq10,(1:Int),()),()) else
 (qd6 a0 a1).bind fun y3614 =>
 some ((((y3614.1.1.1,y3614.1.1.2.1,y3614.1.1.2.2.1,y3614.1.1.2.2.2.1,y3614.1.1.2.2.2.2):Dq2),y3614.1.2.1,()),())
def qry:Entry:=⟨⟨[.v Uq3,.v (.int .u32)],[.v (.pair (.val (.int .i64)) (.pair (.val (.arr 3 (.flt .f32))) (.pair (.rows (.arr 3 (.flt .f32))) (.pair (.rows Uq1) (.val (.unit)))))),.v (.val (.int .i64))],false⟩,fun x=>qkp x.1 x.2.1⟩
theorem qaaz:Sound Tryz.prog G 10 qry:=qab (envS (l:=[(49,qsa),(50,qlx)]) ⟨(qy6),(qqq),trivial⟩) [] Tryz.func10 (by kernel_rfl) rfl fun _=>by kernel_rfl
end
end Go.Proofs.YtnndahnmlmgenaaGreatDoor
