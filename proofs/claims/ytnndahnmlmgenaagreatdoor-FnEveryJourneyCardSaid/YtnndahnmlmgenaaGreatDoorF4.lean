import Derived.Test.YtnndahnmlmgenaaGreatDoorF3
/- Functions on typed data: what the evaluation of each Go function is, and that it is sound. -/
set_option linter.unusedVariables false
namespace Go.Proofs.YtnndahnmlmgenaaGreatDoor
open Go Go.Tm
noncomputable section
set_option maxRecDepth 100000
variable {G : List (Nat × Obj)}
def qet (a0:Dq6) (a1:Int):Option Dq21 :=
 (qqi a0).bind fun y2733 =>
 bif (! y2733.1.1) then some ((Lq9,(1:Int),()),()) else
 (qob a0 a1).bind fun y2735 =>
 some ((((y2735.1.1.1,y2735.1.1.2.1,y2735.1.1.2.2.1,y2735.1.1.2.2.2.1,y2735.1.1.2.2.2.2):Dq1),y2735.1.2.1,()),())
def qo5:Entry:=⟨⟨[.v Uq5,.v (.int .u32)],[.v (.pair (.val (.int .i64)) (.pair (.val (.arr 3 (.flt .f32))) (.pair (.rows (.arr 3 (.flt .f32))) (.pair (.rows Uq1) (.val (.unit)))))),.v (.val (.int .i64))],false⟩,fun x=>qet x.1 x.2.1⟩
theorem qxd:Sound Tryz.prog G 10 qo5:=qab (envS (l:=[(49,qvp),(50,quf)]) ⟨(qad1),(qack),trivial⟩) [] Tryz.func10 (by kernel_rfl) rfl fun _=>by kernel_rfl
def qg1 (a0:Dq3) (a1:Dq3):Option Dq7 :=
 bif (iEq a0.1 a1.1) then
  (qbg a0.2.1 a1.2.1).bind fun y3005 =>
  bif y3005.1.1 then
   bif (iEq (Vec.getD 3 a0.2.2.1 0 (0:Int)) (Vec.getD 3 a1.2.2.1 0 (0:Int))&&(iEq (Vec.getD 3 a0.2.2.1 1 (0:Int)) (Vec.getD 3 a1.2.2.1 1 (0:Int))&&(iEq (Vec.getD 3 a0.2.2.1 2 (0:Int)) (Vec.getD 3 a1.2.2.1 2 (0:Int))&&true))) then
    bif (iEq a0.2.2.2.1 a1.2.2.2.1) then
     (qa1 a0.2.2.2.2.1 a1.2.2.2.2.1).bind fun y3008 =>
     some ((y3008.1.1,()),())
    else some ((false,()),())
   else some ((false,()),())
  else some ((false,()),())
 else some ((false,()),())
def qmt:Entry:=⟨⟨[.ro Uq1,.ro Uq1],[.v (.val (.bool))],false⟩,fun x=>qg1 x.1 x.2.1⟩
theorem qvg:Sound Tryz.prog G 53 qmt:=qab (envS (l:=[(51,qel),(122,qgn)]) ⟨(qgm),(qjb),trivial⟩) [] Tryz.func53 (by kernel_rfl) rfl fun _=>by kernel_rfl
def qi3 (a0:(List (Vec 3 Nat))) (a1:(List (Vec 3 Nat))) (s3010:(Int×Unit)):Option ((Int×Unit)⊕Dq7) :=
 bif (iLt s3010.1 (lenI a0)) then
  bif inB s3010.1 (List.length a0) then
   bif inB s3010.1 (List.length a1) then
    (qbg (List.getD a0 s3010.1.toNat Lq6) (List.getD a1 s3010.1.toNat Lq6)).bind fun y3014 =>
    bif (! y3014.1.1) then
     Option.map Sum.inr (some ((false,()),()))
    else
    some (Sum.inl ((iAdd .i64 s3010.1 1),()))
   else none
  else none
 else
 Option.map Sum.inr (some ((true,()),()))
def qh8 (a0:(List (Vec 3 Nat))) (a1:(List (Vec 3 Nat))):Option Dq7 :=
 bif (! (iEq (lenI a0) (lenI a1))) then some ((false,()),()) else run (qi3 a0 a1) ((0:Int),())
def qm9:Entry:=⟨⟨[.v (.list (.arr 3 (.flt .f32))),.v (.list (.arr 3 (.flt .f32)))],[.v (.val (.bool))],false⟩,fun x=>qh8 x.1 x.2.1⟩
theorem qvz:Sound Tryz.prog G 52 qm9:=qab (envS (l:=[(51,qel)]) ⟨(qgm),trivial⟩) [(4,.vary [(5,.sc (.int .i64))])] Tryz.func52 (by kernel_rfl) rfl fun _=>by kernel_rfl
def qmp (a0:Dq1) (a1:Dq1) (s2999:(Int×Unit)):Option ((Int×Unit)⊕Dq7) :=
 bif (iLt s2999.1 (lenI a0.2.2.2.1)) then
  bif inB s2999.1 (List.length a0.2.2.2.1) then
   bif inB s2999.1 (List.length a1.2.2.2.1) then
    (qg1 (List.getD a0.2.2.2.1 s2999.1.toNat Lq10) (List.getD a1.2.2.2.1 s2999.1.toNat Lq10)).bind fun y3001 =>
    bif (! y3001.1.1) then
     Option.map Sum.inr (some ((false,()),()))
    else
    some (Sum.inl ((iAdd .i64 s2999.1 1),()))
   else none
  else none
 else
 Option.map Sum.inr (some ((true,()),()))
def qjv (a0:Dq1) (a1:Dq1):Option Dq7 :=
 bif (! (iEq a0.1 a1.1)) then some ((false,()),()) else
 (qbg a0.2.1 a1.2.1).bind fun y2994 =>
 bif (! y2994.1.1) then some ((false,()),()) else
 (qh8 a0.2.2.1 a1.2.2.1).bind fun y2996 =>
 bif (! y2996.1.1) then some ((false,()),()) else
 bif (! (iEq (lenI a0.2.2.2.1) (lenI a1.2.2.2.1))) then some ((false,()),()) else run (qmp a0 a1) ((0:Int),())
def qsm:Entry:=⟨⟨[.v Uq4,.v Uq4],[.v (.val (.bool))],false⟩,fun x=>qjv x.1 x.2.1⟩
theorem qabj:Sound Tryz.prog G 11 qsm:=qab (envS (l:=[(51,qel),(52,qm9),(53,qmt)]) ⟨(qgm),(qvz),(qvg),trivial⟩) [(4,.vary [(5,.sc (.int .i64))])] Tryz.func11 (by kernel_rfl) rfl fun _=>by kernel_rfl
def qb1 (a0:(Vec 6 Nat)) (a1:(Vec 6 Nat)):Option Dq7 :=
 (qa1 (Vec.getD 6 a0 0 (0:Nat)) (Vec.getD 6 a1 0 (0:Nat))).bind fun y3046 =>
 bif (! y3046.1.1) then some ((false,()),()) else
 (qa1 (Vec.getD 6 a0 1 (0:Nat)) (Vec.getD 6 a1 1 (0:Nat))).bind fun y3050 =>
 bif (! y3050.1.1) then some ((false,()),()) else
 (qa1 (Vec.getD 6 a0 2 (0:Nat)) (Vec.getD 6 a1 2 (0:Nat))).bind fun y3054 =>
 bif (! y3054.1.1) then some ((false,()),()) else
 (qa1 (Vec.getD 6 a0 3 (0:Nat)) (Vec.getD 6 a1 3 (0:Nat))).bind fun y3058 =>
 bif (! y3058.1.1) then some ((false,()),()) else
 (qa1 (Vec.getD 6 a0 4 (0:Nat)) (Vec.getD 6 a1 4 (0:Nat))).bind fun y3062 =>
 bif (! y3062.1.1) then some ((false,()),()) else
 (qa1 (Vec.getD 6 a0 5 (0:Nat)) (Vec.getD 6 a1 5 (0:Nat))).bind fun y3066 =>
 bif (! y3066.1.1) then some ((false,()),()) else some ((true,()),())
def qo6:Entry:=⟨⟨[.v (.arr 6 (.flt .f32)),.v (.arr 6 (.flt .f32))],[.v (.val (.bool))],false⟩,fun x=>qb1 x.1 x.2.1⟩
theorem qxe:Sound Tryz.prog G 147 qo6:=qab (envS (l:=[(122,qgn)]) ⟨(qjb),trivial⟩) [(2,.unroll 7)] Tryz.func147 (by kernel_rfl) rfl fun _=>by kernel_rfl
def qrk (a0:Dq2) (a1:Dq2):Option Dq7 :=
 (qb1 a0.1 a1.1).bind fun y3018 =>
 bif (! y3018.1.1) then some ((false,()),()) else
 (qb1 (Vec.getD 6 a0.2.1 0 Lq2) (Vec.getD 6 a1.2.1 0 Lq2)).bind fun y3022 =>
 bif (! y3022.1.1) then some ((false,()),()) else
 (qb1 (Vec.getD 6 a0.2.1 1 Lq2) (Vec.getD 6 a1.2.1 1 Lq2)).bind fun y3026 =>
 bif (! y3026.1.1) then some ((false,()),()) else
 (qb1 (Vec.getD 6 a0.2.1 2 Lq2) (Vec.getD 6 a1.2.1 2 Lq2)).bind fun y3030 =>
 bif (! y3030.1.1) then some ((false,()),()) else
 (qb1 (Vec.getD 6 a0.2.1 3 Lq2) (Vec.getD 6 a1.2.1 3 Lq2)).bind fun y3034 =>
 bif (! y3034.1.1) then some ((false,()),()) else
 (qb1 (Vec.getD 6 a0.2.1 4 Lq2) (Vec.getD 6 a1.2.1 4 Lq2)).bind fun y3038 =>
 bif (! y3038.1.1) then some ((false,()),()) else
 (qb1 (Vec.getD 6 a0.2.1 5 Lq2) (Vec.getD 6 a1.2.1 5 Lq2)).bind fun y3042 =>
 bif (! y3042.1.1) then some ((false,()),()) else some ((true,()),())
def qsq:Entry:=⟨⟨[.ro Uq2,.ro Uq2],[.v (.val (.bool))],false⟩,fun x=>qrk x.1 x.2.1⟩
theorem qabm:Sound Tryz.prog G 106 qsq:=qab (envS (l:=[(147,qo6)]) ⟨(qxe),trivial⟩) [(4,.unroll 7)] Tryz.func106 (by kernel_rfl) rfl fun _=>by kernel_rfl
def qhi (a0:Dq2) (a1:Dq2):Option Dq7 :=
 (qrk a0 a1).bind fun y3017 =>
 some ((y3017.1.1,()),())
def qpz:Entry:=⟨⟨[.v Uq2,.v Uq2],[.v (.val (.bool))],false⟩,fun x=>qhi x.1 x.2.1⟩
theorem qyg:Sound Tryz.prog G 35 qpz:=qab (envS (l:=[(106,qsq)]) ⟨(qabm),trivial⟩) [] Tryz.func35 (by kernel_rfl) rfl fun _=>by kernel_rfl
def qi0 (a0:Dq6) (a1:Int) (a2:Int):Option Dq7 :=
 (qbu a0 a1).bind fun y1 =>
 (qet a0 a1).bind fun y2 =>
 bif (! (iEq y1.1.2.1 y2.1.2.1)) then some ((false,()),()) else
 (qjv ((y1.1.1.1,y1.1.1.2.1,y1.1.1.2.2.1,y1.1.1.2.2.2.1,y1.1.1.2.2.2.2):Dq1) ((y2.1.1.1,y2.1.1.2.1,y2.1.1.2.2.1,y2.1.1.2.2.2.1,y2.1.1.2.2.2.2):Dq1)).bind fun y4 =>
 bif (! y4.1.1) then some ((false,()),()) else
 bif (! (iEq y1.1.2.1 0)) then some ((true,()),()) else
 (qg4 ((y1.1.1.1,y1.1.1.2.1,y1.1.1.2.2.1,y1.1.1.2.2.2.1,y1.1.1.2.2.2.2):Dq1)).bind fun y7 =>
 (qji y7.1.1).bind fun y8 =>
 (qfj ((y8.1.1.1,y8.1.1.2.1,y8.1.1.2.2.1,y8.1.1.2.2.2.1,y8.1.1.2.2.2.2):Dq1)).bind fun y9 =>
 (qfn ((y2.1.1.1,y2.1.1.2.1,y2.1.1.2.2.1,y2.1.1.2.2.2.1,y2.1.1.2.2.2.2):Dq1)).bind fun y10 =>
 bif (! (iEq y8.1.2.1 0)) then some ((false,()),()) else
 bif (! (iEq y9.1.2.1 y10.1.2.1)) then some ((false,()),()) else
 (qhi y9.1.1 y10.1.1).bind fun y13 =>
 bif (! y13.1.1) then some ((false,()),()) else
 bif (! (iEq y9.1.2.1 0)) then some ((true,()),()) else
 bif (iLt a2 0) then some ((true,()),()) else
 bif (iLt (lenI y2.1.1.2.2.2.1) a2) then some ((true,()),()) else
 (qi4 ((y1.1.1.1,y1.1.1.2.1,y1.1.1.2.2.1,y1.1.1.2.2.2.1,y1.1.1.2.2.2.2):Dq1)).bind fun y18 =>
 (qep ((y1.1.1.1,y1.1.1.2.1,y1.1.1.2.2.1,y1.1.1.2.2.2.1,y1.1.1.2.2.2.2):Dq1) y18.1.1 (0:Int) a2).bind fun y19 =>
 (qj3 y19.1.1).bind fun y20 =>
 (qj2 y20.1.1).bind fun y21 =>
 (qep ((y1.1.1.1,y1.1.1.2.1,y1.1.1.2.2.1,y1.1.1.2.2.2.1,y1.1.1.2.2.2.2):Dq1) y21.1.1 a2 (lenI y2.1.1.2.2.2.1)).bind fun y22 =>
 bif (iEq y18.1.2.1 0) then
  bif (iEq y19.1.2.1 0) then
   bif (iEq y21.1.2.1 0) then
    bif (iEq y22.1.2.1 0) then
     (qhi y22.1.1 y9.1.1).bind fun y27 =>
     some ((y27.1.1,()),())
    else some ((false,()),())
   else some ((false,()),())
  else some ((false,()),())
 else some ((false,()),())
def qkp:Entry:=⟨⟨[.v Uq5,.v (.int .u32),.v (.int .i64)],[.v (.val (.bool))],false⟩,fun x=>qi0 x.1 x.2.1 x.2.2.1⟩
theorem qsx (mx:GMax 1 G) (tb:GTab Tryz.prog G) (sy:GErr 2 G) (ra:GErr 3 G) (db:GDeb Tryz.prog G):Sound Tryz.prog G 5 qkp:=qab (envS (l:=[(9,qoq),(10,qo5),(11,qsm),(15,qr5),(16,qr2),(33,qpo),(34,qpy),(35,qpz),(36,qol),(37,qop),(38,qpn),(39,qpp)]) ⟨(qwo),(qxd),(qabj),(qaak mx tb sy ra db),(qaag tb db),(qx0),(qyf),(qyg),(qwl),(qwn),(qxz mx sy ra db),(qx1 db),trivial⟩) [] Tryz.func5 (by kernel_rfl) rfl fun _=>by kernel_rfl
end
end Go.Proofs.YtnndahnmlmgenaaGreatDoor
