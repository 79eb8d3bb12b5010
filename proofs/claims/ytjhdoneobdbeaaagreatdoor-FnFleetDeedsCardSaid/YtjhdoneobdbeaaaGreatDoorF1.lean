import Derived.Test.YtjhdoneobdbeaaaGreatDoorE
/- Functions on typed data: what the evaluation of each Go function is, and that it is sound. -/
set_option linter.unusedVariables false
namespace Go.Proofs.YtjhdoneobdbeaaaGreatDoor
open Go Go.Tm
noncomputable section
set_option maxRecDepth 100000
variable {G : List (Nat × Obj)}
def qa5 (a0:Int) (a1:Int) (a2:Int):Option Dq8 :=
 bif (iLe a1 a0) then
  some (((iLe a0 a2),()),())
 else some ((false,()),())
def qcs:Entry:=⟨⟨[.v (.int .i64),.v (.int .i64),.v (.int .i64)],[.v (.val (.bool))],false⟩,fun x=>qa5 x.1 x.2.1 x.2.2.1⟩
theorem qdl:Sound Tryz.prog G 50 qcs:=qab (envS (l:=[]) trivial) [] Tryz.func50 (by kernel_rfl) rfl fun _=>by kernel_rfl
def qa9 (a0:Dq1) (a1:Int):Option ((Bool×Unit)×(Dq1×Unit)) :=
 (qa5 a1 (0:Int) (iSub .i64 (lenI a0.2.1.1) 1)).bind fun y70 =>
 some ((y70.1.1,()),(((a0.1,(a0.2.1.1,a0.2.1.2.1,a0.2.1.2.2.1,a0.2.1.2.2.2),a0.2.2):Dq1),()))
def qg9:Entry:=⟨⟨[.io (.pair (.val Uq2) (.pair (.pair (.rows Uq3) (.pair (.rows Uq3) (.pair (.rows Uq6) (.val (.unit))))) (.val (.unit)))),.v (.int .i64)],[.v (.val (.bool))],true⟩,fun x=>qa9 x.1 x.2.1⟩
theorem qkp:Sound Tryz.prog G 54 qg9:=qab (envS (l:=[(50,qcs)]) ⟨(qdl),trivial⟩) [] Tryz.func54 (by kernel_rfl) rfl fun _=>by kernel_rfl
def cmp_isNaN_int32 (a0:Int):Option Dq8 :=
 some (((! (iEq a0 a0)),()),())
def cmp_isNaN_int32_en:Entry:=⟨⟨[.v (.int .i32)],[.v (.val (.bool))],false⟩,fun x=>cmp_isNaN_int32 x.1⟩
theorem qyb:Sound Tryz.prog G 269 cmp_isNaN_int32_en:=qab (envS (l:=[]) trivial) [] Tryz.func269 (by kernel_rfl) rfl fun _=>by kernel_rfl
def cmp_Compare_int32 (a0:Int) (a1:Int):Option Dq13 :=
 (cmp_isNaN_int32 a0).bind fun y115 =>
 (cmp_isNaN_int32 a1).bind fun y116 =>
 bif y115.1.1 then
  bif y116.1.1 then some (((0:Int),()),()) else some ((Lq7,()),())
 else
 bif y116.1.1 then some (((1:Int),()),()) else
 bif (iLt a0 a1) then some ((Lq7,()),()) else
 bif (iLt a1 a0) then some (((1:Int),()),()) else some (((0:Int),()),())
def cmp_Compare_int32_en:Entry:=⟨⟨[.v (.int .i32),.v (.int .i32)],[.v (.val (.int .i64))],false⟩,fun x=>cmp_Compare_int32 x.1 x.2.1⟩
theorem qwg:Sound Tryz.prog G 255 cmp_Compare_int32_en:=qab (envS (l:=[(269,cmp_isNaN_int32_en)]) ⟨(qyb),trivial⟩) [] Tryz.func255 (by kernel_rfl) rfl fun _=>by kernel_rfl
def qb6 (a0:(List Int)) (a1:(List Int)) (s106:(Int×Unit)):Option ((Int×Unit)⊕Dq13) :=
 bif (iLt s106.1 (lenI a0)) then
  bif inB s106.1 (List.length a0) then
   bif (iLe (lenI a1) s106.1) then
    Option.map Sum.inr (some (((1:Int),()),()))
   else
   bif inB s106.1 (List.length a1) then
    (cmp_Compare_int32 (List.getD a0 s106.1.toNat (0:Int)) (List.getD a1 s106.1.toNat (0:Int))).bind fun y111 =>
    bif (! (iEq y111.1.1 0)) then
     Option.map Sum.inr (some ((y111.1.1,()),()))
    else
    some (Sum.inl ((iAdd .i64 s106.1 1),()))
   else none
  else none
 else
 Option.map Sum.inr (bif (iLt (lenI a0) (lenI a1)) then some ((Lq7,()),()) else some (((0:Int),()),()))
def qjg (a0:(List Int)) (a1:(List Int)):Option Dq13 :=
 run (qb6 a0 a1) ((0:Int),())
def qlh:Entry:=⟨⟨[.v (.list (.int .i32)),.v (.list (.int .i32))],[.v (.val (.int .i64))],false⟩,fun x=>qjg x.1 x.2.1⟩
theorem qtf:Sound Tryz.prog G 230 qlh:=qab (envS (l:=[(255,cmp_Compare_int32_en)]) ⟨(qwg),trivial⟩) [(2,.vary [(11,.sc (.int .i64))])] Tryz.func230 (by kernel_rfl) rfl fun _=>by kernel_rfl
def qey (a0:(Vec 3 Int)) (a1:(Vec 3 Int)):Option Dq13 :=
 (qjg ([Vec.getD 3 a0 0 (0:Int),Vec.getD 3 a0 1 (0:Int),Vec.getD 3 a0 2 (0:Int)]:(List Int)) ([Vec.getD 3 a1 0 (0:Int),Vec.getD 3 a1 1 (0:Int),Vec.getD 3 a1 2 (0:Int)]:(List Int))).bind fun y105 =>
 some ((y105.1.1,()),())
def qie:Entry:=⟨⟨[.v (.arr 3 (.int .i32)),.v (.arr 3 (.int .i32))],[.v (.val (.int .i64))],false⟩,fun x=>qey x.1 x.2.1⟩
theorem qm3:Sound Tryz.prog G 196 qie:=qab (envS (l:=[(230,qlh)]) ⟨(qtf),trivial⟩) [] Tryz.func196 (by kernel_rfl) rfl fun _=>by kernel_rfl
def qmo (a0:(List Nat)) (s122:(Int×Unit)):Option ((Int×Unit)⊕Dq8) :=
 bif (iLt s122.1 (lenI a0)) then
  bif inB s122.1 (List.length a0) then
   let x124:=List.getD a0 s122.1.toNat (0:Nat)
   bif (! (fEq .f32 (fSub .f32 x124 x124) 0)) then
    Option.map Sum.inr (some ((false,()),()))
   else
   some (Sum.inl ((iAdd .i64 s122.1 1),()))
  else none
 else
 Option.map Sum.inr (some ((true,()),()))
def qc4 (a0:(List Nat)):Option Dq8 :=
 run (qmo a0) ((0:Int),())
def qf8:Entry:=⟨⟨[.v (.list (.flt .f32))],[.v (.val (.bool))],false⟩,fun x=>qc4 x.1⟩
theorem qi8:Sound Tryz.prog G 95 qf8:=qab (envS (l:=[]) trivial) [(2,.vary [(7,.sc (.int .i64))])] Tryz.func95 (by kernel_rfl) rfl fun _=>by kernel_rfl
def qet (a0:Nat):Option Dq8 :=
 (qc4 ([a0]:(List Nat))).bind fun y120 =>
 bif y120.1.1 then
  some (((fLt .f32 0 a0),()),())
 else some ((false,()),())
def qf1:Entry:=⟨⟨[.v (.flt .f32)],[.v (.val (.bool))],false⟩,fun x=>qet x.1⟩
theorem qih:Sound Tryz.prog G 48 qf1:=qab (envS (l:=[(95,qf8)]) ⟨(qi8),trivial⟩) [] Tryz.func48 (by kernel_rfl) rfl fun _=>by kernel_rfl
def qf7 (a0:(Vec 3 Nat)):Option Dq8 :=
 (qc4 ([Vec.getD 3 a0 0 (0:Nat),Vec.getD 3 a0 1 (0:Nat),Vec.getD 3 a0 2 (0:Nat)]:(List Nat))).bind fun y132 =>
 some ((y132.1.1,()),())
def qjz:Entry:=⟨⟨[.v (.arr 3 (.flt .f32))],[.v (.val (.bool))],false⟩,fun x=>qf7 x.1⟩
theorem qo1:Sound Tryz.prog G 98 qjz:=qab (envS (l:=[(95,qf8)]) ⟨(qi8),trivial⟩) [] Tryz.func98 (by kernel_rfl) rfl fun _=>by kernel_rfl
def qjw (a0:Int):Option Dq8 :=
 (qa5 a0 (0:Int) (1000000000:Int)).bind fun y133 =>
 some ((y133.1.1,()),())
def qk9:Entry:=⟨⟨[.v (.int .i64)],[.v (.val (.bool))],false⟩,fun x=>qjw x.1⟩
theorem qpm:Sound Tryz.prog G 52 qk9:=qab (envS (l:=[(50,qcs)]) ⟨(qdl),trivial⟩) [] Tryz.func52 (by kernel_rfl) rfl fun _=>by kernel_rfl
def qf3 (a0:Dq2):Option Dq8 :=
 (qf7 a0.2.1).bind fun y128 =>
 bif y128.1.1 then
  (qet a0.2.2.1).bind fun y129 =>
  bif y129.1.1 then
   (qa5 a0.2.2.2.1 (1:Int) (1000000:Int)).bind fun y130 =>
   bif y130.1.1 then
    (qjw a0.2.2.2.2.1).bind fun y131 =>
    some ((y131.1.1,()),())
   else some ((false,()),())
  else some ((false,()),())
 else some ((false,()),())
def qlo:Entry:=⟨⟨[.v Uq1],[.v (.val (.bool))],false⟩,fun x=>qf3 x.1⟩
theorem qro:Sound Tryz.prog G 195 qlo:=qab (envS (l:=[(48,qf1),(50,qcs),(52,qk9),(98,qjz)]) ⟨(qih),(qdl),(qpm),(qo1),trivial⟩) [] Tryz.func195 (by kernel_rfl) rfl fun _=>by kernel_rfl
def qi5 (a0:Dq3) (s93:(Int×Unit)):Option ((Int×Unit)⊕Dq8) :=
 bif (iLt s93.1 (lenI a0.2.1)) then
  bif inB s93.1 (List.length a0.2.1) then
   let x95:=List.getD a0.2.1 s93.1.toNat Lq1
   (qf3 x95).bind fun y96 =>
   bif (! y96.1.1) then
    Option.map Sum.inr (some ((false,()),()))
   else
   bif (iLt 0 s93.1) then
    let x99:=iSub .i64 s93.1 1
    bif inB x99 (List.length a0.2.1) then
     (qey x95.1 ((List.getD a0.2.1 x99.toNat Lq1).1)).bind fun y101 =>
     bif (iLe y101.1.1 0) then
      Option.map Sum.inr (some ((false,()),()))
     else
     some (Sum.inl ((iAdd .i64 s93.1 1),()))
    else none
   else
   some (Sum.inl ((iAdd .i64 s93.1 1),()))
  else none
 else
 Option.map Sum.inr (some ((true,()),()))
def qe7 (a0:Dq3):Option Dq8 :=
 (qet a0.1).bind fun y90 =>
 bif (! y90.1.1) then some ((false,()),()) else
 bif (iLt 200 (lenI a0.2.1)) then some ((false,()),()) else run (qi5 a0) ((0:Int),())
def qi4:Entry:=⟨⟨[.v Uq4],[.v (.val (.bool))],false⟩,fun x=>qe7 x.1⟩
theorem qmn:Sound Tryz.prog G 159 qi4:=qab (envS (l:=[(48,qf1),(195,qlo),(196,qie)]) ⟨(qih),(qro),(qm3),trivial⟩) [(4,.vary [(18,.sc (.int .i64))])] Tryz.func159 (by kernel_rfl) rfl fun _=>by kernel_rfl
def qcf (a0:Dq2) (a1:(Vec 3 Int)):Option Dq13 :=
 (qey a0.1 a1).bind fun y242 =>
 some ((y242.1.1,()),())
def qlt:Entry:=⟨⟨[.v Uq1,.v (.arr 3 (.int .i32))],[.v (.val (.int .i64))],false⟩,fun x=>qcf x.1 x.2.1⟩
theorem quz:Sound Tryz.prog G 259 qlt:=qab (envS (l:=[(196,qie)]) ⟨(qm3),trivial⟩) [] Tryz.func259 (by kernel_rfl) rfl fun _=>by kernel_rfl
def qch (a0:(List Dq2)) (a2:((Dq2×(Vec 3 Int)×Unit)→Option Int)) (a1:(Vec 3 Int)) (s243:Dq21):Option (Dq21⊕Dq16) :=
 bif (iLt s243.1 s243.2.1) then
  let x248:=iWrap .i64 (iShr .u64 (iWrap .u64 (iAdd .i64 s243.1 s243.2.1)) 1)
  bif inB x248 (List.length a0) then
   (a2 ((List.getD a0 x248.toNat Lq1),a1,())).bind fun y250 =>
   bif (iLt y250 0) then
    some (Sum.inl ((iAdd .i64 x248 1),s243.2.1,()))
   else some (Sum.inl (s243.1,x248,()))
  else none
 else
 Option.map Sum.inr (
  bif (iLt s243.1 (lenI a0)) then
   bif inB s243.1 (List.length a0) then
    (a2 ((List.getD a0 s243.1.toNat Lq1),a1,())).bind fun y255 =>
    some ((s243.1,(iEq y255 0),()),())
   else none
  else some ((s243.1,false,()),()))
def qbc (a0:(List Dq2)) (a1:(Vec 3 Int)) (a2:((Dq2×(Vec 3 Int)×Unit)→Option Int)):Option Dq16 :=
 run (qch a0 a2 a1) ((0:Int),lenI a0,())
def qer:Entry:=⟨⟨[.v (.list Uq1),.v (.arr 3 (.int .i32)),.fn ⟨[.pair (.arr 3 (.int .i32)) Uq9,.arr 3 (.int .i32)],.int .i64⟩],[.v (.val (.int .i64)),.v (.val (.bool))],false⟩,fun x=>qbc x.1 x.2.1 x.2.2.1⟩
theorem qkf:Sound Tryz.prog G 258 qer:=qab (envS (l:=[]) trivial) [(3,.vary [(9,.sc (.int .i64)),(10,.sc (.int .i64))])] Tryz.func258 (by kernel_rfl) rfl fun _=>by kernel_rfl
def qfi (a0:Dq3) (a1:(Vec 3 Int)):Option Dq16 :=
 (qbc a0.2.1 a1 (fun (z240:(Dq2×(Vec 3 Int)×Unit))=>(qcf z240.1 z240.2.1).map fun y=>y.1.1)).bind fun y241 =>
 some ((y241.1.1,y241.1.2.1,()),())
def qnh:Entry:=⟨⟨[.v Uq4,.v (.arr 3 (.int .i32))],[.v (.val (.int .i64)),.v (.val (.bool))],false⟩,fun x=>qfi x.1 x.2.1⟩
theorem qwr:Sound Tryz.prog G 233 qnh:=qab (envS (l:=[(258,qer),(259,qlt)]) ⟨(qkf),(quz),trivial⟩) [] Tryz.func233 (by kernel_rfl) rfl fun _=>by kernel_rfl
def qk8 (a0:Nat):Option Dq8 :=
 some (((! (fEq .f32 a0 a0)),()),())
def qq1:Entry:=⟨⟨[.v (.flt .f32)],[.v (.val (.bool))],false⟩,fun x=>qk8 x.1⟩
theorem qxe:Sound Tryz.prog G 161 qq1:=qab (envS (l:=[]) trivial) [] Tryz.func161 (by kernel_rfl) rfl fun _=>by kernel_rfl
def qa8 (a0:Nat) (a1:Nat):Option Dq8 :=
 (qk8 a0).bind fun y309 =>
 bif y309.1.1 then
  (qk8 a1).bind fun y310 =>
  bif y310.1.1 then some ((true,()),()) else
  allSame fun (q311:Nat) =>
  allSame fun (q313:Nat) =>
  some (((iEq (bitsF .f32 a0 q311) (bitsF .f32 a1 q313)),()),())
 else
 allSame fun (q316:Nat) =>
 allSame fun (q318:Nat) =>
 some (((iEq (bitsF .f32 a0 q316) (bitsF .f32 a1 q318)),()),())
def qdh:Entry:=⟨⟨[.v (.flt .f32),.v (.flt .f32)],[.v (.val (.bool))],false⟩,fun x=>qa8 x.1 x.2.1⟩
theorem qex:Sound Tryz.prog G 141 qdh:=qab (envS (l:=[(161,qq1)]) ⟨(qxe),trivial⟩) [] Tryz.func141 (by kernel_rfl) rfl fun _=>by kernel_rfl
def qgc (a0:Nat):Option Dq8 :=
 allSame fun (q322:Nat) =>
 some (((iLt (iWrap .i64 (bitsF .f64 a0 q322)) 0),()),())
def qt1:Entry:=⟨⟨[.v (.flt .f64)],[.v (.val (.bool))],false⟩,fun x=>qgc x.1⟩
theorem qacq:Sound Tryz.prog G 260 qt1:=qab (envS (l:=[]) trivial) [] Tryz.func260 (by kernel_rfl) rfl fun _=>by kernel_rfl
def qj1 (a0:Dq2) (a1:Dq2):Option Dq8 :=
 (qf3 a0).bind fun y257 =>
 bif (! y257.1.1) then some ((false,()),()) else
 (qf3 a1).bind fun y259 =>
 bif (! y259.1.1) then some ((false,()),()) else
 bif (! (iEq a0.2.2.2.2.1 a1.2.2.2.2.1)) then
  some (((iLt a1.2.2.2.2.1 a0.2.2.2.2.1),()),())
 else
 bif (! (fEq .f32 a0.2.2.1 a1.2.2.1)) then
  some (((fLt .f32 a1.2.2.1 a0.2.2.1),()),())
 else
 bif (! (iEq a0.2.2.2.1 a1.2.2.2.1)) then
  some (((iLt a1.2.2.2.1 a0.2.2.2.1),()),())
 else
 (qa8 (Vec.getD 3 a0.2.1 0 (0:Nat)) (Vec.getD 3 a1.2.1 0 (0:Nat))).bind fun y269 =>
 bif (! y269.1.1) then
  bif (fLt .f32 (Vec.getD 3 a1.2.1 0 (0:Nat)) (Vec.getD 3 a0.2.1 0 (0:Nat))) then some ((true,()),()) else
  bif (fEq .f32 (Vec.getD 3 a0.2.1 0 (0:Nat)) (Vec.getD 3 a1.2.1 0 (0:Nat))) then
   (fConv .f32 .f64 (Vec.getD 3 a0.2.1 0 (0:Nat))).bind fun y278 =>
   (qgc y278).bind fun y279 =>
   some (((! y279.1.1),()),())
  else some ((false,()),())
 else
 (qa8 (Vec.getD 3 a0.2.1 1 (0:Nat)) (Vec.getD 3 a1.2.1 1 (0:Nat))).bind fun y283 =>
 bif (! y283.1.1) then
  bif (fLt .f32 (Vec.getD 3 a1.2.1 1 (0:Nat)) (Vec.getD 3 a0.2.1 1 (0:Nat))) then some ((true,()),()) else
  bif (fEq .f32 (Vec.getD 3 a0.2.1 1 (0:Nat)) (Vec.getD 3 a1.2.1 1 (0:Nat))) then
   (fConv .f32 .f64 (Vec.getD 3 a0.2.1 1 (0:Nat))).bind fun y292 =>
   (qgc y292).bind fun y293 =>
   some (((! y293.1.1),()),())
  else some ((false,()),())
 else
 (qa8 (Vec.getD 3 a0.2.1 2 (0:Nat)) (Vec.getD 3 a1.2.1 2 (0:Nat))).bind fun y297 =>
 bif (! y297.1.1) then
  bif (fLt .f32 (Vec.getD 3 a1.2.1 2 (0:Nat)) (Vec.getD 3 a0.2.1 2 (0:Nat))) then some ((true,()),()) else
  bif (fEq .f32 (Vec.getD 3 a0.2.1 2 (0:Nat)) (Vec.getD 3 a1.2.1 2 (0:Nat))) then
   (fConv .f32 .f64 (Vec.getD 3 a0.2.1 2 (0:Nat))).bind fun y306 =>
   (qgc y306).bind fun y307 =>
   some (((! y307.1.1),()),())
  else some ((false,()),())
 else some ((false,()),())
def qqk:Entry:=⟨⟨[.v Uq1,.v Uq1],[.v (.val (.bool))],false⟩,fun x=>qj1 x.1 x.2.1⟩
theorem qym:Sound Tryz.prog G 234 qqk:=qab (envS (l:=[(141,qdh),(195,qlo),(260,qt1)]) ⟨(qex),(qro),(qacq),trivial⟩) [(10,.unroll 4)] Tryz.func234 (by kernel_rfl) rfl fun _=>by kernel_rfl
theorem qq9:Sound Tryz.prog G 235 qjq:=qap0
def qa6 (a0:Dq3) (a1:Dq2):Option ((Bool×Unit)×(Dq3×Unit)) :=
 (qfi ((a0.1,a0.2.1,a0.2.2):Dq3) a1.1).bind fun y233 =>
 bif y233.1.2.1 then
  bif inB y233.1.1 (List.length a0.2.1) then
   (qj1 a1 (List.getD a0.2.1 y233.1.1.toNat Lq1)).bind fun y235 =>
   bif y235.1.1 then
    bif inB y233.1.1 (List.length a0.2.1) then some ((true,()),(((a0.1,List.set a0.2.1 y233.1.1.toNat a1,a0.2.2):Dq3),())) else none
   else
   bif y233.1.2.1 then some ((true,()),(((a0.1,a0.2.1,a0.2.2):Dq3),())) else
   bif (iEq (lenI a0.2.1) 200) then some ((false,()),(((a0.1,a0.2.1,a0.2.2):Dq3),())) else
   (qef a0.2.1 y233.1.1 ([a1]:(List Dq2))).bind fun y237 =>
   some ((true,()),(((a0.1,y237.1.1,a0.2.2):Dq3),()))
  else none
 else
 bif y233.1.2.1 then some ((true,()),(((a0.1,a0.2.1,a0.2.2):Dq3),())) else
 bif (iEq (lenI a0.2.1) 200) then some ((false,()),(((a0.1,a0.2.1,a0.2.2):Dq3),())) else
 (qef a0.2.1 y233.1.1 ([a1]:(List Dq2))).bind fun y239 =>
 some ((true,()),(((a0.1,y239.1.1,a0.2.2):Dq3),()))
def qj0:Entry:=⟨⟨[.io (.pair (.val (.flt .f32)) (.pair (.rows Uq1) (.val (.unit)))),.v Uq1],[.v (.val (.bool))],false⟩,fun x=>qa6 x.1 x.2.1⟩
theorem qo2:Sound Tryz.prog G 199 qj0:=qab (envS (l:=[(233,qnh),(234,qqk),(235,qjq)]) ⟨(qwr),(qym),(qq9),trivial⟩) [] Tryz.func199 (by kernel_rfl) rfl fun _=>by kernel_rfl
theorem qte:Sound Tryz.prog G 138 qgv:=qq3 Tryz.func138 (by kernel_rfl) (by kernel_rfl) (by kernel_rfl) (by kernel_rfl)
def qms (a0:Nat):Option Dq19 :=
 allSame fun (q351:Nat) =>
 (qnw (iAndNot .u64 (bitsF .f64 a0 q351) 9223372036854775808)).bind fun y354 =>
 some ((y354.1.1,()),())
def qaak:Entry:=⟨⟨[.v (.flt .f64)],[.v (.val (.flt .f64))],false⟩,fun x=>qms x.1⟩
theorem qait:Sound Tryz.prog G 100 qaak:=qab (envS (l:=[(138,qgv)]) ⟨(qte),trivial⟩) [] Tryz.func100 (by kernel_rfl) rfl fun _=>by kernel_rfl
theorem qz1:Sound Tryz.prog G 136 qrp:=qai2 (name := "math.archFloor") Tryz.func136 (by kernel_rfl) (by kernel_rfl) (by kernel_rfl) (by kernel_rfl)
def qhe (a0:Nat):Option Dq19 :=
 (qvp a0).bind fun y355 =>
 some ((y355.1.1,()),())
def qq4:Entry:=⟨⟨[.v (.flt .f64)],[.v (.val (.flt .f64))],false⟩,fun x=>qhe x.1⟩
theorem qxi:Sound Tryz.prog G 99 qq4:=qab (envS (l:=[(136,qrp)]) ⟨(qz1),trivial⟩) [] Tryz.func99 (by kernel_rfl) rfl fun _=>by kernel_rfl
def qco (a0:Nat) (a1:(Vec 3 Nat)):Option Dq25 :=
 (qet a0).bind fun y326 =>
 bif (! y326.1.1) then some ((Lq2,(2:Int),()),()) else
 (qf7 a1).bind fun y328 =>
 bif (! y328.1.1) then some ((Lq2,(2:Int),()),()) else
 (fConv .f32 .f64 (fDiv .f32 (Vec.getD 3 a1 0 (0:Nat)) a0)).bind fun y332 =>
 (qhe y332).bind fun y333 =>
 (qms y333.1.1).bind fun y334 =>
 bif (fLt .f64 4696837146684686336 y334.1.1) then some ((Lq2,(3:Int),()),()) else
 (fToInt .f64 y333.1.1 .i32).bind fun n336 =>
 (fConv .f32 .f64 (fDiv .f32 (Vec.getD 3 a1 1 (0:Nat)) a0)).bind fun y339 =>
 (qhe y339).bind fun y340 =>
 (qms y340.1.1).bind fun y341 =>
 bif (fLt .f64 4696837146684686336 y341.1.1) then some ((Lq2,(3:Int),()),()) else
 (fToInt .f64 y340.1.1 .i32).bind fun n343 =>
 (fConv .f32 .f64 (fDiv .f32 (Vec.getD 3 a1 2 (0:Nat)) a0)).bind fun y346 =>
 (qhe y346).bind fun y347 =>
 (qms y347.1.1).bind fun y348 =>
 bif (fLt .f64 4696837146684686336 y348.1.1) then some ((Lq2,(3:Int),()),()) else
 (fToInt .f64 y347.1.1 .i32).bind fun n350 =>
 some ((((n336,n343,n350,()):(Vec 3 Int)),(0:Int),()),())
def qk5:Entry:=⟨⟨[.v (.flt .f32),.v (.arr 3 (.flt .f32))],[.v (.val (.arr 3 (.int .i32))),.v (.val (.int .i64))],false⟩,fun x=>qco x.1 x.2.1⟩
theorem qpk:Sound Tryz.prog G 51 qk5:=qab (envS (l:=[(48,qf1),(98,qjz),(99,qq4),(100,qaak)]) ⟨(qih),(qo1),(qxi),(qait),trivial⟩) [(5,.unroll 4)] Tryz.func51 (by kernel_rfl) rfl fun _=>by kernel_rfl
def qjn (a0:(List Nat)) (a1:(List Nat)) (s379:(Nat×Int×Unit)):Option ((Nat×Int×Unit)⊕Dq19) :=
 bif (iLt s379.2.1 (lenI a0)) then
  bif inB s379.2.1 (List.length a0) then
   bif inB s379.2.1 (List.length a1) then
    let x383:=fMul .f32 (List.getD a0 s379.2.1.toNat (0:Nat)) (List.getD a1 s379.2.1.toNat (0:Nat))
    bif (iEq s379.2.1 0) then
     some (Sum.inl (x383,(iAdd .i64 s379.2.1 1),()))
    else
    some (Sum.inl ((fAdd .f32 s379.1 x383),(iAdd .i64 s379.2.1 1),()))
   else none
  else none
 else
 Option.map Sum.inr (some ((s379.1,()),()))
def qns (a0:(List Nat)) (a1:(List Nat)):Option Dq19 :=
 run (qjn a0 a1) ((0:Nat),(0:Int),())
def qxf:Entry:=⟨⟨[.v (.list (.flt .f32)),.v (.list (.flt .f32))],[.v (.val (.flt .f32))],false⟩,fun x=>qns x.1 x.2.1⟩
theorem qaf8:Sound Tryz.prog G 275 qxf:=qab (envS (l:=[]) trivial) [(3,.vary [(5,.sc (.flt .f32)),(10,.sc (.int .i64))])] Tryz.func275 (by kernel_rfl) rfl fun _=>by kernel_rfl
def qp4 (a0:(Vec 3 Nat)) (a1:(Vec 3 Nat)):Option Dq19 :=
 (qns ([Vec.getD 3 a0 0 (0:Nat),Vec.getD 3 a0 1 (0:Nat),Vec.getD 3 a0 2 (0:Nat)]:(List Nat)) ([Vec.getD 3 a1 0 (0:Nat),Vec.getD 3 a1 1 (0:Nat),Vec.getD 3 a1 2 (0:Nat)]:(List Nat))).bind fun y378 =>
 some ((y378.1.1,()),())
def qvh:Entry:=⟨⟨[.v (.arr 3 (.flt .f32)),.v (.arr 3 (.flt .f32))],[.v (.val (.flt .f32))],false⟩,fun x=>qp4 x.1 x.2.1⟩
theorem qadw:Sound Tryz.prog G 271 qvh:=qab (envS (l:=[(275,qxf)]) ⟨(qaf8),trivial⟩) [] Tryz.func271 (by kernel_rfl) rfl fun _=>by kernel_rfl
theorem qahi:Sound Tryz.prog G 277 qsr:=qacr Tryz.func277 (by kernel_rfl) (by kernel_rfl) (by kernel_rfl) (by kernel_rfl)
def qt2 (a0:Nat):Option Dq19 :=
 (qafi a0).bind fun y391 =>
 some ((y391.1.1,()),())
def qsq:Entry:=⟨⟨[.v (.flt .f64)],[.v (.val (.flt .f64))],false⟩,fun x=>qt2 x.1⟩
theorem qyy:Sound Tryz.prog G 274 qsq:=qab (envS (l:=[(277,qsr)]) ⟨(qahi),trivial⟩) [] Tryz.func274 (by kernel_rfl) rfl fun _=>by kernel_rfl
def qty (a0:Nat):Option Dq19 :=
 (fConv .f32 .f64 a0).bind fun y388 =>
 (qt2 y388).bind fun y389 =>
 (fConv .f64 .f32 y389.1.1).bind fun y390 =>
 some ((y390,()),())
def qyp:Entry:=⟨⟨[.v (.flt .f32)],[.v (.val (.flt .f32))],false⟩,fun x=>qty x.1⟩
theorem qahc:Sound Tryz.prog G 270 qyp:=qab (envS (l:=[(274,qsq)]) ⟨(qyy),trivial⟩) [] Tryz.func270 (by kernel_rfl) rfl fun _=>by kernel_rfl
def qgy (a0:(Vec 3 Nat)):Option Dq19 :=
 (qp4 a0 a0).bind fun y376 =>
 (qty y376.1.1).bind fun y377 =>
 some ((y377.1.1,()),())
def qsk:Entry:=⟨⟨[.v (.arr 3 (.flt .f32))],[.v (.val (.flt .f32))],false⟩,fun x=>qgy x.1⟩
theorem qaa4:Sound Tryz.prog G 256 qsk:=qab (envS (l:=[(270,qyp),(271,qvh)]) ⟨(qahc),(qadw),trivial⟩) [] Tryz.func256 (by kernel_rfl) rfl fun _=>by kernel_rfl
def qp5 (a0:(Vec 3 Nat)) (a1:(Vec 3 Nat)):Option (((Vec 3 Nat)×Unit)×Unit) :=
 let x394:=fSub .f32 (Vec.getD 3 a0 0 (0:Nat)) (Vec.getD 3 a1 0 (0:Nat))
 let x397:=fSub .f32 (Vec.getD 3 (Vec.set 3 a0 0 x394) 1 (0:Nat)) (Vec.getD 3 a1 1 (0:Nat))
 some (((Vec.set 3 (Vec.set 3 (Vec.set 3 a0 0 x394) 1 x397) 2 (fSub .f32 (Vec.getD 3 (Vec.set 3 (Vec.set 3 a0 0 x394) 1 x397) 2 (0:Nat)) (Vec.getD 3 a1 2 (0:Nat)))),()),())
def qvi:Entry:=⟨⟨[.v (.arr 3 (.flt .f32)),.v (.arr 3 (.flt .f32))],[.v (.val (.arr 3 (.flt .f32)))],false⟩,fun x=>qp5 x.1 x.2.1⟩
theorem qadx:Sound Tryz.prog G 257 qvi:=qab (envS (l:=[]) trivial) [(2,.unroll 4)] Tryz.func257 (by kernel_rfl) rfl fun _=>by kernel_rfl
def qh5 (a0:Dq2) (a1:(Vec 3 Nat)):Option Dq19 :=
 (qp5 a0.2.1 a1).bind fun y374 =>
 (qgy y374.1.1).bind fun y375 =>
 some ((y375.1.1,()),())
def qni:Entry:=⟨⟨[.v Uq1,.v (.arr 3 (.flt .f32))],[.v (.val (.flt .f32))],false⟩,fun x=>qh5 x.1 x.2.1⟩
theorem qws:Sound Tryz.prog G 231 qni:=qab (envS (l:=[(256,qsk),(257,qvi)]) ⟨(qaa4),(qadx),trivial⟩) [] Tryz.func231 (by kernel_rfl) rfl fun _=>by kernel_rfl
def qkm (a0:(Vec 3 Int)) (a1:(Vec 3 Int)):Option Dq8 :=
 (qa5 (iSub .i64 (iWrap .i64 (Vec.getD 3 a0 0 (0:Int))) (iWrap .i64 (Vec.getD 3 a1 0 (0:Int)))) Lq7 (1:Int)).bind fun y407 =>
 bif (! y407.1.1) then some ((false,()),()) else
 (qa5 (iSub .i64 (iWrap .i64 (Vec.getD 3 a0 1 (0:Int))) (iWrap .i64 (Vec.getD 3 a1 1 (0:Int)))) Lq7 (1:Int)).bind fun y414 =>
 bif (! y414.1.1) then some ((false,()),()) else
 (qa5 (iSub .i64 (iWrap .i64 (Vec.getD 3 a0 2 (0:Int))) (iWrap .i64 (Vec.getD 3 a1 2 (0:Int)))) Lq7 (1:Int)).bind fun y421 =>
 bif (! y421.1.1) then some ((false,()),()) else some ((true,()),())
def qtr:Entry:=⟨⟨[.v (.arr 3 (.int .i32)),.v (.arr 3 (.int .i32))],[.v (.val (.bool))],false⟩,fun x=>qkm x.1 x.2.1⟩
theorem qaca:Sound Tryz.prog G 232 qtr:=qab (envS (l:=[(50,qcs)]) ⟨(qdl),trivial⟩) [(2,.unroll 4)] Tryz.func232 (by kernel_rfl) rfl fun _=>by kernel_rfl
def qgs (a0:Dq3) (a1:(Vec 3 Nat)) (y356:Dq25) (a2:Nat) (s360:(Int×Nat×Int×Unit)):Option ((Int×Nat×Int×Unit)⊕(Dq21×Unit)) :=
 bif (iLt s360.2.2.1 (lenI a0.2.1)) then
  bif inB s360.2.2.1 (List.length a0.2.1) then
   let x362:=List.getD a0.2.1 s360.2.2.1.toNat Lq1
   (qh5 x362 a1).bind fun y363 =>
   (qkm x362.1 y356.1.1).bind fun y364 =>
   bif y364.1.1 then
    bif (fLe .f32 y363.1.1 a2) then
     bif (iLt s360.1 0) then
      some (Sum.inl (s360.2.2.1,y363.1.1,(iAdd .i64 s360.2.2.1 1),()))
     else
     bif (fLt .f32 y363.1.1 s360.2.1) then
      some (Sum.inl (s360.2.2.1,y363.1.1,(iAdd .i64 s360.2.2.1 1),()))
     else
     some (Sum.inl (s360.1,s360.2.1,(iAdd .i64 s360.2.2.1 1),()))
    else
    some (Sum.inl (s360.1,s360.2.1,(iAdd .i64 s360.2.2.1 1),()))
   else
   some (Sum.inl (s360.1,s360.2.1,(iAdd .i64 s360.2.2.1 1),()))
  else none
 else
 Option.map Sum.inr (bif (iLt s360.1 0) then some (((0:Int),(6:Int),()),()) else some ((s360.1,(0:Int),()),()))
def qc9 (a0:Dq3) (a1:(Vec 3 Nat)) (a2:Nat):Option (Dq21×Unit) :=
 (qco a0.1 a1).bind fun y356 =>
 bif (! (fLe .f32 0 a2)) then some (((0:Int),(2:Int),()),()) else
 bif (! (iEq y356.1.2.1 0)) then some (((0:Int),y356.1.2.1,()),()) else run (qgs a0 a1 y356 a2) (Lq7,(0:Nat),(0:Int),())
def qo5:Entry:=⟨⟨[.v Uq4,.v (.arr 3 (.flt .f32)),.v (.flt .f32)],[.v (.val (.int .i64)),.v (.val (.int .i64))],false⟩,fun x=>qc9 x.1 x.2.1 x.2.2.1⟩
theorem qxt:Sound Tryz.prog G 197 qo5:=qab (envS (l:=[(51,qk5),(231,qni),(232,qtr)]) ⟨(qpk),(qws),(qaca),trivial⟩) [(8,.vary [(10,.sc (.int .i64)),(11,.sc (.flt .f32)),(31,.sc (.int .i64))])] Tryz.func197 (by kernel_rfl) rfl fun _=>by kernel_rfl
def qeu (a0:(List Dq2)):Option (((List Dq2)×Unit)×Unit) :=
 bif List.isEmpty a0 then
  allSame fun (q424:Bool) =>
  bif q424 then some ((([]:(List Dq2)),()),()) else
  bif room (0+List.length a0) 48 then
   some (((([]:(List Dq2))++a0),()),())
  else none
 else
 bif room (0+List.length a0) 48 then
  some (((([]:(List Dq2))++a0),()),())
 else none
def qj5:Entry:=⟨⟨[.v (.list Uq1)],[.v (.rows Uq1)],false⟩,fun x=>qeu x.1⟩
theorem qr7:Sound Tryz.prog G 165 qj5:=qab (envS (l:=[]) trivial) [] Tryz.func165 (by kernel_rfl) rfl fun _=>by kernel_rfl
def qhx (a0:Dq3):Option ((Dq3×Unit)×Unit) :=
 (qeu a0.2.1).bind fun y423 =>
 some ((((a0.1,y423.1.1,()):Dq3),()),())
def qla:Entry:=⟨⟨[.v Uq4],[.v (.pair (.val (.flt .f32)) (.pair (.rows Uq1) (.val (.unit))))],false⟩,fun x=>qhx x.1⟩
theorem qpn:Sound Tryz.prog G 132 qla:=qab (envS (l:=[(165,qj5)]) ⟨(qr7),trivial⟩) [] Tryz.func132 (by kernel_rfl) rfl fun _=>by kernel_rfl
theorem qq8:Sound Tryz.prog G 198 qjp:=qapz
def qij (a0:Dq3) (a1:(Vec 3 Nat)) (a2:Nat) (a3:Int) (a4:Nat):Option ((Dq3×(Vec 3 Int)×Bool×Int×Unit)×Unit) :=
 (qet a2).bind fun y134 =>
 bif (! y134.1.1) then some ((Lq4,Lq2,false,(2:Int),()),()) else
 (qjw a3).bind fun y136 =>
 bif (! y136.1.1) then some ((Lq4,Lq2,false,(2:Int),()),()) else
 (qc9 a0 a1 a4).bind fun y138 =>
 bif (! (iEq y138.1.2.1 0)) then
  bif (! (iEq y138.1.2.1 6)) then some ((Lq4,Lq2,false,y138.1.2.1,()),()) else
  (qhx a0).bind fun y141 =>
  let x142:=iEq y138.1.2.1 0
  bif x142 then
   bif inB y138.1.1 (List.length a0.2.1) then
    let x143:=List.getD a0.2.1 y138.1.1.toNat Lq1
    (qgw y141.1.1.2.1 y138.1.1 (iAdd .i64 y138.1.1 1)).bind fun y145 =>
    let x146:=fAdd .f32 x143.2.2.1 a2
    let x152:=fDiv .f32 (fAdd .f32 (fMul .f32 x143.2.2.1 (Vec.getD 3 x143.2.1 0 (0:Nat))) (fMul .f32 a2 (Vec.getD 3 a1 0 (0:Nat)))) x146
    let x158:=fDiv .f32 (fAdd .f32 (fMul .f32 x143.2.2.1 (Vec.getD 3 x143.2.1 1 (0:Nat))) (fMul .f32 a2 (Vec.getD 3 a1 1 (0:Nat)))) x146
    let x164:=fDiv .f32 (fAdd .f32 (fMul .f32 x143.2.2.1 (Vec.getD 3 x143.2.1 2 (0:Nat))) (fMul .f32 a2 (Vec.getD 3 a1 2 (0:Nat)))) x146
    (qc4 ([x146]:(List Nat))).bind fun y165 =>
    bif (! y165.1.1) then
     (qco a0.1 (Vec.set 3 (Vec.set 3 (Vec.set 3 a1 0 x152) 1 x158) 2 x164)).bind fun y171 =>
     bif (! (iEq y171.1.2.1 0)) then some ((Lq4,Lq2,false,(3:Int),()),()) else
     (qa6 ((y141.1.1.1,y145.1.1,y141.1.1.2.2):Dq3) ((y171.1.1,Vec.set 3 (Vec.set 3 (Vec.set 3 a1 0 x152) 1 x158) 2 x164,x143.2.2.1,(iMin (iAdd .i64 x143.2.2.2.1 1) 1000000),(iMax x143.2.2.2.2.1 a3),()):Dq2)).bind fun y173 =>
     bif (! y173.1.1) then some ((Lq4,Lq2,false,(3:Int),()),()) else some ((((y173.2.1.1,y173.2.1.2.1,y173.2.1.2.2):Dq3),y171.1.1,x142,(0:Int),()),())
    else
    (qco a0.1 (Vec.set 3 (Vec.set 3 (Vec.set 3 a1 0 x152) 1 x158) 2 x164)).bind fun y179 =>
    bif (! (iEq y179.1.2.1 0)) then some ((Lq4,Lq2,false,(3:Int),()),()) else
    (qa6 ((y141.1.1.1,y145.1.1,y141.1.1.2.2):Dq3) ((y179.1.1,Vec.set 3 (Vec.set 3 (Vec.set 3 a1 0 x152) 1 x158) 2 x164,x146,(iMin (iAdd .i64 x143.2.2.2.1 1) 1000000),(iMax x143.2.2.2.2.1 a3),()):Dq2)).bind fun y181 =>
    bif (! y181.1.1) then some ((Lq4,Lq2,false,(3:Int),()),()) else some ((((y181.2.1.1,y181.2.1.2.1,y181.2.1.2.2):Dq3),y179.1.1,x142,(0:Int),()),())
   else none
  else
  (qco a0.1 a1).bind fun y183 =>
  bif (! (iEq y183.1.2.1 0)) then some ((Lq4,Lq2,false,(3:Int),()),()) else
  (qa6 ((y141.1.1.1,y141.1.1.2.1,y141.1.1.2.2):Dq3) ((y183.1.1,a1,a2,1,a3,()):Dq2)).bind fun y185 =>
  bif (! y185.1.1) then some ((Lq4,Lq2,false,(3:Int),()),()) else some ((((y185.2.1.1,y185.2.1.2.1,y185.2.1.2.2):Dq3),y183.1.1,x142,(0:Int),()),())
 else
 (qhx a0).bind fun y187 =>
 let x188:=iEq y138.1.2.1 0
 bif x188 then
  bif inB y138.1.1 (List.length a0.2.1) then
   let x189:=List.getD a0.2.1 y138.1.1.toNat Lq1
   (qgw y187.1.1.2.1 y138.1.1 (iAdd .i64 y138.1.1 1)).bind fun y191 =>
   let x192:=fAdd .f32 x189.2.2.1 a2
   let x198:=fDiv .f32 (fAdd .f32 (fMul .f32 x189.2.2.1 (Vec.getD 3 x189.2.1 0 (0:Nat))) (fMul .f32 a2 (Vec.getD 3 a1 0 (0:Nat)))) x192
   let x204:=fDiv .f32 (fAdd .f32 (fMul .f32 x189.2.2.1 (Vec.getD 3 x189.2.1 1 (0:Nat))) (fMul .f32 a2 (Vec.getD 3 a1 1 (0:Nat)))) x192
   let x210:=fDiv .f32 (fAdd .f32 (fMul .f32 x189.2.2.1 (Vec.getD 3 x189.2.1 2 (0:Nat))) (fMul .f32 a2 (Vec.getD 3 a1 2 (0:Nat)))) x192
   (qc4 ([x192]:(List Nat))).bind fun y211 =>
   bif (! y211.1.1) then
    (qco a0.1 (Vec.set 3 (Vec.set 3 (Vec.set 3 a1 0 x198) 1 x204) 2 x210)).bind fun y217 =>
    bif (! (iEq y217.1.2.1 0)) then some ((Lq4,Lq2,false,(3:Int),()),()) else
    (qa6 ((y187.1.1.1,y191.1.1,y187.1.1.2.2):Dq3) ((y217.1.1,Vec.set 3 (Vec.set 3 (Vec.set 3 a1 0 x198) 1 x204) 2 x210,x189.2.2.1,(iMin (iAdd .i64 x189.2.2.2.1 1) 1000000),(iMax x189.2.2.2.2.1 a3),()):Dq2)).bind fun y219 =>
    bif (! y219.1.1) then some ((Lq4,Lq2,false,(3:Int),()),()) else some ((((y219.2.1.1,y219.2.1.2.1,y219.2.1.2.2):Dq3),y217.1.1,x188,(0:Int),()),())
   else
   (qco a0.1 (Vec.set 3 (Vec.set 3 (Vec.set 3 a1 0 x198) 1 x204) 2 x210)).bind fun y225 =>
   bif (! (iEq y225.1.2.1 0)) then some ((Lq4,Lq2,false,(3:Int),()),()) else
   (qa6 ((y187.1.1.1,y191.1.1,y187.1.1.2.2):Dq3) ((y225.1.1,Vec.set 3 (Vec.set 3 (Vec.set 3 a1 0 x198) 1 x204) 2 x210,x192,(iMin (iAdd .i64 x189.2.2.2.1 1) 1000000),(iMax x189.2.2.2.2.1 a3),()):Dq2)).bind fun y227 =>
   bif (! y227.1.1) then some ((Lq4,Lq2,false,(3:Int),()),()) else some ((((y227.2.1.1,y227.2.1.2.1,y227.2.1.2.2):Dq3),y225.1.1,x188,(0:Int),()),())
  else none
 else
 (qco a0.1 a1).bind fun y229 =>
 bif (! (iEq y229.1.2.1 0)) then some ((Lq4,Lq2,false,(3:Int),()),()) else
 (qa6 ((y187.1.1.1,y187.1.1.2.1,y187.1.1.2.2):Dq3) ((y229.1.1,a1,a2,1,a3,()):Dq2)).bind fun y231 =>
 bif (! y231.1.1) then some ((Lq4,Lq2,false,(3:Int),()),()) else some ((((y231.2.1.1,y231.2.1.2.1,y231.2.1.2.2):Dq3),y229.1.1,x188,(0:Int),()),())
def qtv:Entry:=⟨⟨[.v Uq4,.v (.arr 3 (.flt .f32)),.v (.flt .f32),.v (.int .i64),.v (.flt .f32)],[.v (.pair (.val (.flt .f32)) (.pair (.rows Uq1) (.val (.unit)))),.v (.val (.arr 3 (.int .i32))),.v (.val (.bool)),.v (.val (.int .i64))],false⟩,fun x=>qij x.1 x.2.1 x.2.2.1 x.2.2.2.1 x.2.2.2.2.1⟩
theorem qacg:Sound Tryz.prog G 160 qtv:=qab (envS (l:=[(48,qf1),(51,qk5),(52,qk9),(95,qf8),(132,qla),(197,qo5),(198,qjp),(199,qj0)]) ⟨(qih),(qpk),(qpm),(qi8),(qpn),(qxt),(qq8),(qo2),trivial⟩) [(14,.unroll 4)] Tryz.func160 (by kernel_rfl) rfl fun _=>by kernel_rfl
def qi2 (a0:Dq3) (a1:(Vec 3 Nat)) (a2:Nat) (a3:Int) (a4:Nat):Option ((Dq3×(Vec 3 Int)×Int×Unit)×Unit) :=
 (qe7 a0).bind fun y87 =>
 bif (! y87.1.1) then some ((Lq4,Lq2,(1:Int),()),()) else
 (qij a0 a1 a2 a3 a4).bind fun y89 =>
 some ((((y89.1.1.1,y89.1.1.2.1,y89.1.1.2.2):Dq3),y89.1.2.1,y89.1.2.2.2.1,()),())
def qo3:Entry:=⟨⟨[.v Uq4,.v (.arr 3 (.flt .f32)),.v (.flt .f32),.v (.int .i64),.v (.flt .f32)],[.v (.pair (.val (.flt .f32)) (.pair (.rows Uq1) (.val (.unit)))),.v (.val (.arr 3 (.int .i32))),.v (.val (.int .i64))],false⟩,fun x=>qi2 x.1 x.2.1 x.2.2.1 x.2.2.2.1 x.2.2.2.2.1⟩
theorem qxr:Sound Tryz.prog G 127 qo3:=qab (envS (l:=[(159,qi4),(160,qtv)]) ⟨(qmn),(qacg),trivial⟩) [] Tryz.func127 (by kernel_rfl) rfl fun _=>by kernel_rfl
def qha (a0:Dq1) (a1:Int):Option Dq24 :=
 (qa9 ((a0.1,(a0.2.1.1,a0.2.1.2.1,a0.2.1.2.2.1,a0.2.1.2.2.2),a0.2.2):Dq1) a1).bind fun y73 =>
 bif (! y73.1.1) then
  some (((2:Int),()),(((y73.2.1.1,(y73.2.1.2.1.1,y73.2.1.2.1.2.1,y73.2.1.2.1.2.2.1,y73.2.1.2.1.2.2.2),y73.2.1.2.2):Dq1),()))
 else
 bif inB a1 (List.length y73.2.1.2.1.1) then
  bif inB a1 (List.length y73.2.1.1.2.2.1) then
   let x75:=List.getD y73.2.1.1.2.2.1 a1.toNat ([]:(List Dq11))
   bif (iEq (((List.getD y73.2.1.2.1.1 a1.toNat Lq3).2).1) (lenI x75)) then
    some (((4:Int),()),(((y73.2.1.1,(y73.2.1.2.1.1,y73.2.1.2.1.2.1,y73.2.1.2.1.2.2.1,y73.2.1.2.1.2.2.2),y73.2.1.2.2):Dq1),()))
   else
   let x78:=((List.getD y73.2.1.2.1.1 a1.toNat Lq3).2).1
   bif inB x78 (List.length x75) then
    let x79:=List.getD x75 x78.toNat (((0,0,0,()),0,0,()):Dq11)
    (qi2 ((List.getD y73.2.1.2.1.1 a1.toNat Lq3).1) x79.1 x79.2.1 x79.2.2.1 y73.2.1.1.2.1).bind fun y81 =>
    bif (! (iEq y81.1.2.2.1 0)) then
     some (((3:Int),()),(((y73.2.1.1,(y73.2.1.2.1.1,y73.2.1.2.1.2.1,y73.2.1.2.1.2.2.1,y73.2.1.2.1.2.2.2),y73.2.1.2.2):Dq1),()))
    else
    let w83:=List.set y73.2.1.2.1.1 a1.toNat (((y81.1.1.1,y81.1.1.2.1,y81.1.1.2.2),(List.getD y73.2.1.2.1.1 a1.toNat Lq3).2):Dq7)
    some (((0:Int),()),(((y73.2.1.1,((List.set w83 a1.toNat (((List.getD w83 a1.toNat Lq3).1,(iAdd .i64 (((List.getD w83 a1.toNat Lq3).2).1) 1),((List.getD w83 a1.toNat Lq3).2).2):Dq7)),y73.2.1.2.1.2.1,y73.2.1.2.1.2.2.1,y73.2.1.2.1.2.2.2),y73.2.1.2.2):Dq1),()))
   else none
  else none
 else none
def qqp:Entry:=⟨⟨[.io (.pair (.val Uq2) (.pair (.pair (.rows Uq3) (.pair (.rows Uq3) (.pair (.rows Uq6) (.val (.unit))))) (.val (.unit)))),.v (.int .i64)],[.v (.val (.int .i64))],true⟩,fun x=>qha x.1 x.2.1⟩
theorem qyq:Sound Tryz.prog G 91 qqp:=qab (envS (l:=[(54,qg9),(127,qo3)]) ⟨(qkp),(qxr),trivial⟩) [] Tryz.func91 (by kernel_rfl) rfl fun _=>by kernel_rfl
def qk7 (a0:Dq3) (a1:Dq3):Option Dq13 :=
 (qe7 a0).bind fun y459 =>
 bif (! y459.1.1) then some (((1:Int),()),()) else
 (qe7 a1).bind fun y461 =>
 bif (! y461.1.1) then some (((1:Int),()),()) else
 (qa8 a0.1 a1.1).bind fun y463 =>
 bif (! y463.1.1) then some (((4:Int),()),()) else some (((0:Int),()),())
def qrj:Entry:=⟨⟨[.v Uq4,.v Uq4],[.v (.val (.int .i64))],false⟩,fun x=>qk7 x.1 x.2.1⟩
theorem qzy:Sound Tryz.prog G 204 qrj:=qab (envS (l:=[(141,qdh),(159,qi4)]) ⟨(qex),(qmn),trivial⟩) [] Tryz.func204 (by kernel_rfl) rfl fun _=>by kernel_rfl
def qcw (a1:Dq3) (s453:(Int×Dq3×Unit)):Option ((Int×Dq3×Unit)⊕Dq20) :=
 bif (iLt s453.1 (lenI a1.2.1)) then
  bif inB s453.1 (List.length a1.2.1) then
   (qa6 ((s453.2.1.1,s453.2.1.2.1,s453.2.1.2.2):Dq3) (List.getD a1.2.1 s453.1.toNat Lq1)).bind fun y456 =>
   bif (! y456.1.1) then
    Option.map Sum.inr (some ((Lq4,(3:Int),()),()))
   else
   some (Sum.inl ((iAdd .i64 s453.1 1),((y456.2.1.1,y456.2.1.2.1,y456.2.1.2.2):Dq3),()))
  else none
 else
 Option.map Sum.inr (some ((((s453.2.1.1,s453.2.1.2.1,s453.2.1.2.2):Dq3),(0:Int),()),()))
def qic (a0:Dq3) (a1:Dq3):Option Dq20 :=
 (qk7 a0 a1).bind fun y444 =>
 bif (! (iEq y444.1.1 0)) then some ((Lq4,y444.1.1,()),()) else
 (qhx a0).bind fun y446 =>
 run (qcw a1) ((0:Int),((y446.1.1.1,y446.1.1.2.1,y446.1.1.2.2):Dq3),())
def qrg:Entry:=⟨⟨[.v Uq4,.v Uq4],[.v (.pair (.val (.flt .f32)) (.pair (.rows Uq1) (.val (.unit)))),.v (.val (.int .i64))],false⟩,fun x=>qic x.1 x.2.1⟩
theorem qzu:Sound Tryz.prog G 167 qrg:=qab (envS (l:=[(132,qla),(199,qj0),(204,qrj)]) ⟨(qpn),(qo2),(qzy),trivial⟩) [(6,.vary [(22,.sc (.int .i64)),(7,.box (.pair (.val (.flt .f32)) (.pair (.rows Uq1) (.val (.unit)))))])] Tryz.func167 (by kernel_rfl) rfl fun _=>by kernel_rfl
theorem qgq (mx:GMax 4 G):Sound Tryz.prog G 109 qdd:=qai7 Tryz.func109 (by kernel_rfl) (by kernel_rfl) mx (fun s sep m w h1 h2 h3=>Tryz.strings_Split s sep m w h1 h2 h3)
def qnp (a0:List UInt8):Option (((List (List UInt8))×Bool×Unit)×Unit) :=
 (strings_Split a0 ([10]:List UInt8)).bind fun y470 =>
 let x471:=iSub .i64 (lenI y470.1.1) 1
 bif inS 0 x471 (List.length y470.1.1) then
  bif (iLt 0 x471) then
   bif inB x471 (List.length y470.1.1) then
    some ((List.take x471.toNat (List.drop 0 y470.1.1),(sEq (List.getD y470.1.1 x471.toNat ([]:List UInt8)) ([])),()),())
   else none
  else some ((List.take x471.toNat (List.drop 0 y470.1.1),false,()),())
 else none
def qtt:Entry:=⟨⟨[.v (.str)],[.v (.rows (.str)),.v (.val (.bool))],false⟩,fun x=>qnp x.1⟩
theorem qacd (mx:GMax 4 G):Sound Tryz.prog G 202 qtt:=qab (envS (l:=[(109,qdd)]) ⟨(qgq mx),trivial⟩) [] Tryz.func202 (by kernel_rfl) rfl fun _=>by kernel_rfl
def qam (a0:Dq4):Option Dq8 :=
 bif (! a0.2.1) then
  some (((iEq (lenI a0.1) 0),()),())
 else some ((false,()),())
def qdu:Entry:=⟨⟨[.ro (.pair (.list (.str)) Uq10)],[.v (.val (.bool))],false⟩,fun x=>qam x.1⟩
theorem qf9:Sound Tryz.prog G 69 qdu:=qab (envS (l:=[]) trivial) [] Tryz.func69 (by kernel_rfl) rfl fun _=>by kernel_rfl
def qbm (a0:Dq4):Option (Dq10×(Dq4×Unit)) :=
 bif (iEq (lenI a0.1) 0) then some ((([]:List UInt8),()),(((a0.1,true,a0.2.2):Dq4),())) else
 bif inB 0 (List.length a0.1) then
  bif inS 1 ((List.length a0.1:Nat):Int) (List.length a0.1) then some (((List.getD a0.1 0 ([]:List UInt8)),()),(((List.take ((List.length a0.1)-1) (List.drop 1 a0.1),a0.2):Dq4),())) else none
 else none
def qcu:Entry:=⟨⟨[.io (.pair (.rows (.str)) (.val Uq10))],[.v (.val (.str))],false⟩,fun x=>qbm x.1⟩
theorem qed:Sound Tryz.prog G 67 qcu:=qab (envS (l:=[]) trivial) [] Tryz.func67 (by kernel_rfl) rfl fun _=>by kernel_rfl
theorem qot (tb:GTab Tryz.prog G):Sound Tryz.prog G 111 qfr:=qabz Tryz.func111 (by kernel_rfl) (by kernel_rfl) tb Tryz.strconv_FormatInt_10
def qa3 (a0:Int):Option (Dq10×Unit) :=
 (qbx a0 (10:Int)).bind fun y612 =>
 some ((y612.1.1,()),())
def qdj:Entry:=⟨⟨[.v (.int .i64)],[.v (.val (.str))],false⟩,fun x=>qa3 x.1⟩
theorem qe4 (tb:GTab Tryz.prog G):Sound Tryz.prog G 70 qdj:=qab (envS (l:=[(111,qfr)]) ⟨(qot tb),trivial⟩) [] Tryz.func70 (by kernel_rfl) rfl fun _=>by kernel_rfl
theorem qx3 (sy:GErr 1 G) (ra:GErr 2 G):Sound Tryz.prog G 110 strconv_ParseInt_en:=qad3 Tryz.func110 (by kernel_rfl) (by kernel_rfl) sy ra Tryz.strconv_ParseInt_10_at64_ok (fun s hl h1 h2 ev w he hev=>(Tryz.strconv_ParseInt_10_at64_syntax s hl h1 h2 ev w he hev).mono fun e w' ⟨N,h1,_,_,h2⟩=>⟨N,h1,h2⟩) (fun s hl h ev w he hev=>(Tryz.strconv_ParseInt_10_at64_range s hl h ev w he hev).mono fun e w' ⟨N,h1,_,_,h2⟩=>⟨N,h1,h2⟩)
def qac (a0:Dq4):Option ((Int×Unit)×(Dq4×Unit)) :=
 (qbm ((a0.1,a0.2):Dq4)).bind fun y605 =>
 (qdc y605.1.1 (10:Int) (64:Int)).bind fun y606 =>
 bif y605.2.1.2.1 then some ((y606.1.1,()),(((y605.2.1.1,true,y605.2.1.2.2):Dq4),())) else
 bif (! y606.1.2.1) then some ((y606.1.1,()),(((y605.2.1.1,true,y605.2.1.2.2):Dq4),())) else
 (qa3 y606.1.1).bind fun y608 =>
 some ((y606.1.1,()),(((y605.2.1.1,(! (sEq y608.1.1 y605.1.1)),y605.2.1.2.2):Dq4),()))
def qc5:Entry:=⟨⟨[.io (.pair (.rows (.str)) (.val Uq10))],[.v (.val (.int .i64))],false⟩,fun x=>qac x.1⟩
theorem qe8 (tb:GTab Tryz.prog G) (sy:GErr 1 G) (ra:GErr 2 G):Sound Tryz.prog G 68 qc5:=qab (envS (l:=[(67,qcu),(70,qdj),(110,strconv_ParseInt_en)]) ⟨(qed),(qe4 tb),(qx3 sy ra),trivial⟩) [] Tryz.func68 (by kernel_rfl) rfl fun _=>by kernel_rfl
def qbe (a0:Dq4) (a1:List UInt8):Option ((Unit)×(Dq4×Unit)) :=
 (qbm ((a0.1,a0.2):Dq4)).bind fun y613 =>
 bif (! (sEq y613.1.1 a1)) then some ((),(((y613.2.1.1,true,y613.2.1.2.2):Dq4),())) else some ((),(((y613.2.1.1,y613.2.1.2.1,y613.2.1.2.2):Dq4),()))
def qgu:Entry:=⟨⟨[.io (.pair (.rows (.str)) (.val Uq10)),.v (.str)],[],false⟩,fun x=>qbe x.1 x.2.1⟩
theorem qle:Sound Tryz.prog G 115 qgu:=qab (envS (l:=[(67,qcu)]) ⟨(qed),trivial⟩) [] Tryz.func115 (by kernel_rfl) rfl fun _=>by kernel_rfl
def qci (a0:Int):Option Dq8 :=
 some (((iEq (iAnd .i64 a0 (iSub .i64 a0 1)) 0),()),())
def qgb:Entry:=⟨⟨[.v (.int .i64)],[.v (.val (.bool))],false⟩,fun x=>qci x.1⟩
theorem qmq:Sound Tryz.prog G 219 qgb:=qab (envS (l:=[]) trivial) [] Tryz.func219 (by kernel_rfl) rfl fun _=>by kernel_rfl
theorem qq5 (db:GDeb Tryz.prog G):Sound Tryz.prog G 220 qfa:=qaej Tryz.func220 (by kernel_rfl) (by kernel_rfl) db Tryz.trail
def qnd (x645:Int) (x647:Int) (x644:Int) (a3:Bool) (a4:Bool) (s654:Dq18):Option (Dq18⊕Dq22) :=
 bif (iLe x645 s654.1) then
  let x656:=iSub .i64 s654.2.1 1
  let x657:=iAnd .u64 s654.1 x647
  bif inB x657 (List.length ([48,49,50,51,52,53,54,55,56,57,97,98,99,100,101,102,103,104,105,106,107,108,109,110,111,112,113,114,115,116,117,118,119,120,121,122])) then
   bif inB x656 65 then
    bif iLe 0 x644 then
     some (Sum.inl ((iShr .u64 s654.1 x644),x656,Vec.set 65 s654.2.2.1 x656.toNat (strAt ([48,49,50,51,52,53,54,55,56,57,97,98,99,100,101,102,103,104,105,106,107,108,109,110,111,112,113,114,115,116,117,118,119,120,121,122]) x657),()))
    else none
   else none
  else none
 else
 Option.map Sum.inr (
  let x660:=iSub .i64 s654.2.1 1
  bif inB s654.1 (List.length ([48,49,50,51,52,53,54,55,56,57,97,98,99,100,101,102,103,104,105,106,107,108,109,110,111,112,113,114,115,116,117,118,119,120,121,122])) then
   let x661:=strAt ([48,49,50,51,52,53,54,55,56,57,97,98,99,100,101,102,103,104,105,106,107,108,109,110,111,112,113,114,115,116,117,118,119,120,121,122]) s654.1
   bif inB x660 65 then
    bif a3 then
     let x662:=iSub .i64 x660 1
     bif inB x662 65 then
      bif a4 then
       bif inS x662 Lq8 65 then none else none
      else
      bif inS x662 Lq8 65 then
       some ((([]:(List Int)),(ofBytes (List.take (65-x662.toNat) (List.drop x662.toNat ([Vec.getD 65 (Vec.set 65 (Vec.set 65 s654.2.2.1 x660.toNat x661) x662.toNat (45:Int)) 0 (0:Int),Vec.getD 65 (Vec.set 65 (Vec.set 65 s654.2.2.1 x660.toNat x661) x662.toNat (45:Int)) 1 (0:Int),Vec.getD 65 (Vec.set 65 (Vec.set 65 s654.2.2.1 x660.toNat x661) x662.toNat (45:Int)) 2 (0:Int),Vec.getD 65 (Vec.set 65 (Vec.set 65 s654.2.2.1 x660.toNat x661) x662.toNat (45:Int)) 3 (0:Int),Vec.getD 65 (Vec.set 65 (Vec.set 65 s654.2.2.1 x660.toNat x661) x662.toNat (45:Int)) 4 (0:Int),Vec.getD 65 (Vec.set 65 (Vec.set 65 s654.2.2.1 x660.toNat x661) x662.toNat (45:Int)) 5 (0:Int),Vec.getD 65 (Vec.set 65 (Vec.set 65 s654.2.2.1 x660.toNat x661) x662.toNat (45:Int)) 6 (0:Int),Vec.getD 65 (Vec.set 65 (Vec.set 65 s654.2.2.1 x660.toNat x661) x662.toNat (45:Int)) 7 (0:Int),Vec.getD 65 (Vec.set 65 (Vec.set 65 s654.2.2.1 x660.toNat x661) x662.toNat (45:Int)) 8 (0:Int),Vec.getD 65 (Vec.set 65 (Vec.set 65 s654.2.2.1 x660.toNat x661) x662.toNat (45:Int)) 9 (0:Int),Vec.getD 65 (Vec.set 65 (Vec.set 65 s654.2.2.1 x660.toNat x661) x662.toNat (45:Int)) 10 (0:Int),Vec.getD 65 (Vec.set 65 (Vec.set 65 s654.2.2.1 x660.toNat x661) x662.toNat (45:Int)) 11 (0:Int),Vec.getD 65 (Vec.set 65 (Vec.set 65 s654.2.2.1 x660.toNat x661) x662.toNat (45:Int)) 12 (0:Int),Vec.getD 65 (Vec.set 65 (Vec.set 65 s654.2.2.1 x660.toNat x661) x662.toNat (45:Int)) 13 (0:Int),Vec.getD 65 (Vec.set 65 (Vec.set 65 s654.2.2.1 x660.toNat x661) x662.toNat (45:Int)) 14 (0:Int),Vec.getD 65 (Vec.set 65 (Vec.set 65 s654.2.2.1 x660.toNat x661) x662.toNat (45:Int)) 15 (0:Int),Vec.getD 65 (Vec.set 65 (Vec.set 65 s654.2.2.1 x660.toNat x661) x662.toNat (45:Int)) 16 (0:Int),Vec.getD 65 (Vec.set 65 (Vec.set 65 s654.2.2.1 x660.toNat x661) x662.toNat (45:Int)) 17 (0:Int),Vec.getD 65 (Vec.set 65 (Vec.set 65 s654.2.2.1 x660.toNat x661) x662.toNat (45:Int)) 18 (0:Int),Vec.getD 65 (Vec.set 65 (Vec.set 65 s654.2.2.1 x660.toNat x661) x662.toNat (45:Int)) 19 (0:Int),Vec.getD 65 (Vec.set 65 (Vec.set 65 s654.2.2.1 x660.toNat x661) x662.toNat (45:Int)) 20 (0:Int),Vec.getD 65 (Vec.set 65 (Vec.set 65 s654.2.2.1 x660.toNat x661) x662.toNat (45:Int)) 21 (0:Int),Vec.getD 65 (Vec.set 65 (Vec.set 65 s654.2.2.1 x660.toNat x661) x662.toNat (45:Int)) 22 (0:Int),Vec.getD 65 (Vec.set 65 (Vec.set 65 s654.2.2.1 x660.toNat x661) x662.toNat (45:Int)) 23 (0:Int),Vec.getD 65 (Vec.set 65 (Vec.set 65 s654.2.2.1 x660.toNat x661) x662.toNat (45:Int)) 24 (0:Int),Vec.getD 65 (Vec.set 65 (Vec.set 65 s654.2.2.1 x660.toNat x661) x662.toNat (45:Int)) 25 (0:Int),Vec.getD 65 (Vec.set 65 (Vec.set 65 s654.2.2.1 x660.toNat x661) x662.toNat (45:Int)) 26 (0:Int),Vec.getD 65 (Vec.set 65 (Vec.set 65 s654.2.2.1 x660.toNat x661) x662.toNat (45:Int)) 27 (0:Int),Vec.getD 65 (Vec.set 65 (Vec.set 65 s654.2.2.1 x660.toNat x661) x662.toNat (45:Int)) 28 (0:Int),Vec.getD 65 (Vec.set 65 (Vec.set 65 s654.2.2.1 x660.toNat x661) x662.toNat (45:Int)) 29 (0:Int),Vec.getD 65 (Vec.set 65 (Vec.set 65 s654.2.2.1 x660.toNat x661) x662.toNat (45:Int)) 30 (0:Int),Vec.getD 65 (Vec.set 65 (Vec.set 65 s654.2.2.1 x660.toNat x661) x662.toNat (45:Int)) 31 (0:Int),Vec.getD 65 (Vec.set 65 (Vec.set 65 s654.2.2.1 x660.toNat x661) x662.toNat (45:Int)) 32 (0:Int),Vec.getD 65 (Vec.set 65 (Vec.set 65 s654.2.2.1 x660.toNat x661) x662.toNat (45:Int)) 33 (0:Int),Vec.getD 65 (Vec.set 65 (Vec.set 65 s654.2.2.1 x660.toNat x661) x662.toNat (45:Int)) 34 (0:Int),Vec.getD 65 (Vec.set 65 (Vec.set 65 s654.2.2.1 x660.toNat x661) x662.toNat (45:Int)) 35 (0:Int),Vec.getD 65 (Vec.set 65 (Vec.set 65 s654.2.2.1 x660.toNat x661) x662.toNat (45:Int)) 36 (0:Int),Vec.getD 65 (Vec.set 65 (Vec.set 65 s654.2.2.1 x660.toNat x661) x662.toNat (45:Int)) 37 (0:Int),Vec.getD 65 (Vec.set 65 (Vec.set 65 s654.2.2.1 x660.toNat x661) x662.toNat (45:Int)) 38 (0:Int),Vec.getD 65 (Vec.set 65 (Vec.set 65 s654.2.2.1 x660.toNat x661) x662.toNat (45:Int)) 39 (0:Int),Vec.getD 65 (Vec.set 65 (Vec.set 65 s654.2.2.1 x660.toNat x661) x662.toNat (45:Int)) 40 (0:Int),Vec.getD 65 (Vec.set 65 (Vec.set 65 s654.2.2.1 x660.toNat x661) x662.toNat (45:Int)) 41 (0:Int),Vec.getD 65 (Vec.set 65 (Vec.set 65 s654.2.2.1 x660.toNat x661) x662.toNat (45:Int)) 42 (0:Int),Vec.getD 65 (Vec.set 65 (Vec.set 65 s654.2.2.1 x660.toNat x661) x662.toNat (45:Int)) 43 (0:Int),Vec.getD 65 (Vec.set 65 (Vec.set 65 s654.2.2.1 x660.toNat x661) x662.toNat (45:Int)) 44 (0:Int),Vec.getD 65 (Vec.set 65 (Vec.set 65 s654.2.2.1 x660.toNat x661) x662.toNat (45:Int)) 45 (0:Int),Vec.getD 65 (Vec.set 65 (Vec.set 65 s654.2.2.1 x660.toNat x661) x662.toNat (45:Int)) 46 (0:Int),Vec.getD 65 (Vec.set 65 (Vec.set 65 s654.2.2.1 x660.toNat x661) x662.toNat (45:Int)) 47 (0:Int),Vec.getD 65 (Vec.set 65 (Vec.set 65 s654.2.2.1 x660.toNat x661) x662.toNat (45:Int)) 48 (0:Int),Vec.getD 65 (Vec.set 65 (Vec.set 65 s654.2.2.1 x660.toNat x661) x662.toNat (45:Int)) 49 (0:Int),Vec.getD 65 (Vec.set 65 (Vec.set 65 s654.2.2.1 x660.toNat x661) x662.toNat (45:Int)) 50 (0:Int),Vec.getD 65 (Vec.set 65 (Vec.set 65 s654.2.2.1 x660.toNat x661) x662.toNat (45:Int)) 51 (0:Int),Vec.getD 65 (Vec.set 65 (Vec.set 65 s654.2.2.1 x660.toNat x661) x662.toNat (45:Int)) 52 (0:Int),Vec.getD 65 (Vec.set 65 (Vec.set 65 s654.2.2.1 x660.toNat x661) x662.toNat (45:Int)) 53 (0:Int),Vec.getD 65 (Vec.set 65 (Vec.set 65 s654.2.2.1 x660.toNat x661) x662.toNat (45:Int)) 54 (0:Int),Vec.getD 65 (Vec.set 65 (Vec.set 65 s654.2.2.1 x660.toNat x661) x662.toNat (45:Int)) 55 (0:Int),Vec.getD 65 (Vec.set 65 (Vec.set 65 s654.2.2.1 x660.toNat x661) x662.toNat (45:Int)) 56 (0:Int),Vec.getD 65 (Vec.set 65 (Vec.set 65 s654.2.2.1 x660.toNat x661) x662.toNat (45:Int)) 57 (0:Int),Vec.getD 65 (Vec.set 65 (Vec.set 65 s654.2.2.1 x660.toNat x661) x662.toNat (45:Int)) 58 (0:Int),Vec.getD 65 (Vec.set 65 (Vec.set 65 s654.2.2.1 x660.toNat x661) x662.toNat (45:Int)) 59 (0:Int),Vec.getD 65 (Vec.set 65 (Vec.set 65 s654.2.2.1 x660.toNat x661) x662.toNat (45:Int)) 60 (0:Int),Vec.getD 65 (Vec.set 65 (Vec.set 65 s654.2.2.1 x660.toNat x661) x662.toNat (45:Int)) 61 (0:Int),Vec.getD 65 (Vec.set 65 (Vec.set 65 s654.2.2.1 x660.toNat x661) x662.toNat (45:Int)) 62 (0:Int),Vec.getD 65 (Vec.set 65 (Vec.set 65 s654.2.2.1 x660.toNat x661) x662.toNat (45:Int)) 63 (0:Int),Vec.getD 65 (Vec.set 65 (Vec.set 65 s654.2.2.1 x660.toNat x661) x662.toNat (45:Int)) 64 (0:Int)]:(List Int))))),()),())
      else none
     else none
    else
    bif a4 then
     bif inS x660 Lq8 65 then none else none
    else
    bif inS x660 Lq8 65 then
     some ((([]:(List Int)),(ofBytes (List.take (65-x660.toNat) (List.drop x660.toNat ([Vec.getD 65 (Vec.set 65 s654.2.2.1 x660.toNat x661) 0 (0:Int),Vec.getD 65 (Vec.set 65 s654.2.2.1 x660.toNat x661) 1 (0:Int),Vec.getD 65 (Vec.set 65 s654.2.2.1 x660.toNat x661) 2 (0:Int),Vec.getD 65 (Vec.set 65 s654.2.2.1 x660.toNat x661) 3 (0:Int),Vec.getD 65 (Vec.set 65 s654.2.2.1 x660.toNat x661) 4 (0:Int),Vec.getD 65 (Vec.set 65 s654.2.2.1 x660.toNat x661) 5 (0:Int),Vec.getD 65 (Vec.set 65 s654.2.2.1 x660.toNat x661) 6 (0:Int),Vec.getD 65 (Vec.set 65 s654.2.2.1 x660.toNat x661) 7 (0:Int),Vec.getD 65 (Vec.set 65 s654.2.2.1 x660.toNat x661) 8 (0:Int),Vec.getD 65 (Vec.set 65 s654.2.2.1 x660.toNat x661) 9 (0:Int),Vec.getD 65 (Vec.set 65 s654.2.2.1 x660.toNat x661) 10 (0:Int),Vec.getD 65 (Vec.set 65 s654.2.2.1 x660.toNat x661) 11 (0:Int),Vec.getD 65 (Vec.set 65 s654.2.2.1 x660.toNat x661) 12 (0:Int),Vec.getD 65 (Vec.set 65 s654.2.2.1 x660.toNat x661) 13 (0:Int),Vec.getD 65 (Vec.set 65 s654.2.2.1 x660.toNat x661) 14 (0:Int),Vec.getD 65 (Vec.set 65 s654.2.2.1 x660.toNat x661) 15 (0:Int),Vec.getD 65 (Vec.set 65 s654.2.2.1 x660.toNat x661) 16 (0:Int),Vec.getD 65 (Vec.set 65 s654.2.2.1 x660.toNat x661) 17 (0:Int),Vec.getD 65 (Vec.set 65 s654.2.2.1 x660.toNat x661) 18 (0:Int),Vec.getD 65 (Vec.set 65 s654.2.2.1 x660.toNat x661) 19 (0:Int),Vec.getD 65 (Vec.set 65 s654.2.2.1 x660.toNat x661) 20 (0:Int),Vec.getD 65 (Vec.set 65 s654.2.2.1 x660.toNat x661) 21 (0:Int),Vec.getD 65 (Vec.set 65 s654.2.2.1 x660.toNat x661) 22 (0:Int),Vec.getD 65 (Vec.set 65 s654.2.2.1 x660.toNat x661) 23 (0:Int),Vec.getD 65 (Vec.set 65 s654.2.2.1 x660.toNat x661) 24 (0:Int),Vec.getD 65 (Vec.set 65 s654.2.2.1 x660.toNat x661) 25 (0:Int),Vec.getD 65 (Vec.set 65 s654.2.2.1 x660.toNat x661) 26 (0:Int),Vec.getD 65 (Vec.set 65 s654.2.2.1 x660.toNat x661) 27 (0:Int),Vec.getD 65 (Vec.set 65 s654.2.2.1 x660.toNat x661) 28 (0:Int),Vec.getD 65 (Vec.set 65 s654.2.2.1 x660.toNat x661) 29 (0:Int),Vec.getD 65 (Vec.set 65 s654.2.2.1 x660.toNat x661) 30 (0:Int),Vec.getD 65 (Vec.set 65 s654.2.2.1 x660.toNat x661) 31 (0:Int),Vec.getD 65 (Vec.set 65 s654.2.2.1 x660.toNat x661) 32 (0:Int),Vec.getD 65 (Vec.set 65 s654.2.2.1 x660.toNat x661) 33 (0:Int),Vec.getD 65 (Vec.set 65 s654.2.2.1 x660.toNat x661) 34 (0:Int),Vec.getD 65 (Vec.set 65 s654.2.2.1 x660.toNat x661) 35 (0:Int),Vec.getD 65 (Vec.set 65 s654.2.2.1 x660.toNat x661) 36 (0:Int),Vec.getD 65 (Vec.set 65 s654.2.2.1 x660.toNat x661) 37 (0:Int),Vec.getD 65 (Vec.set 65 s654.2.2.1 x660.toNat x661) 38 (0:Int),Vec.getD 65 (Vec.set 65 s654.2.2.1 x660.toNat x661) 39 (0:Int),Vec.getD 65 (Vec.set 65 s654.2.2.1 x660.toNat x661) 40 (0:Int),Vec.getD 65 (Vec.set 65 s654.2.2.1 x660.toNat x661) 41 (0:Int),Vec.getD 65 (Vec.set 65 s654.2.2.1 x660.toNat x661) 42 (0:Int),Vec.getD 65 (Vec.set 65 s654.2.2.1 x660.toNat x661) 43 (0:Int),Vec.getD 65 (Vec.set 65 s654.2.2.1 x660.toNat x661) 44 (0:Int),Vec.getD 65 (Vec.set 65 s654.2.2.1 x660.toNat x661) 45 (0:Int),Vec.getD 65 (Vec.set 65 s654.2.2.1 x660.toNat x661) 46 (0:Int),Vec.getD 65 (Vec.set 65 s654.2.2.1 x660.toNat x661) 47 (0:Int),Vec.getD 65 (Vec.set 65 s654.2.2.1 x660.toNat x661) 48 (0:Int),Vec.getD 65 (Vec.set 65 s654.2.2.1 x660.toNat x661) 49 (0:Int),Vec.getD 65 (Vec.set 65 s654.2.2.1 x660.toNat x661) 50 (0:Int),Vec.getD 65 (Vec.set 65 s654.2.2.1 x660.toNat x661) 51 (0:Int),Vec.getD 65 (Vec.set 65 s654.2.2.1 x660.toNat x661) 52 (0:Int),Vec.getD 65 (Vec.set 65 s654.2.2.1 x660.toNat x661) 53 (0:Int),Vec.getD 65 (Vec.set 65 s654.2.2.1 x660.toNat x661) 54 (0:Int),Vec.getD 65 (Vec.set 65 s654.2.2.1 x660.toNat x661) 55 (0:Int),Vec.getD 65 (Vec.set 65 s654.2.2.1 x660.toNat x661) 56 (0:Int),Vec.getD 65 (Vec.set 65 s654.2.2.1 x660.toNat x661) 57 (0:Int),Vec.getD 65 (Vec.set 65 s654.2.2.1 x660.toNat x661) 58 (0:Int),Vec.getD 65 (Vec.set 65 s654.2.2.1 x660.toNat x661) 59 (0:Int),Vec.getD 65 (Vec.set 65 s654.2.2.1 x660.toNat x661) 60 (0:Int),Vec.getD 65 (Vec.set 65 s654.2.2.1 x660.toNat x661) 61 (0:Int),Vec.getD 65 (Vec.set 65 s654.2.2.1 x660.toNat x661) 62 (0:Int),Vec.getD 65 (Vec.set 65 s654.2.2.1 x660.toNat x661) 63 (0:Int),Vec.getD 65 (Vec.set 65 s654.2.2.1 x660.toNat x661) 64 (0:Int)]:(List Int))))),()),())
    else none
   else none
  else none)
def qne (x665:Int) (a3:Bool) (a4:Bool) (s673:Dq18):Option (Dq18⊕Dq22) :=
 bif (iLe x665 s673.1) then
  let x675:=iSub .i64 s673.2.1 1
  bif iEq x665 0 then none else
  let x676:=iQuo .u64 s673.1 x665
  let x678:=iSub .u64 s673.1 (iMul .u64 x676 x665)
  bif inB x678 (List.length ([48,49,50,51,52,53,54,55,56,57,97,98,99,100,101,102,103,104,105,106,107,108,109,110,111,112,113,114,115,116,117,118,119,120,121,122])) then
   bif inB x675 65 then some (Sum.inl (x676,x675,Vec.set 65 s673.2.2.1 x675.toNat (strAt ([48,49,50,51,52,53,54,55,56,57,97,98,99,100,101,102,103,104,105,106,107,108,109,110,111,112,113,114,115,116,117,118,119,120,121,122]) x678),())) else none
  else none
 else
 Option.map Sum.inr (
  let x680:=iSub .i64 s673.2.1 1
  bif inB s673.1 (List.length ([48,49,50,51,52,53,54,55,56,57,97,98,99,100,101,102,103,104,105,106,107,108,109,110,111,112,113,114,115,116,117,118,119,120,121,122])) then
   let x681:=strAt ([48,49,50,51,52,53,54,55,56,57,97,98,99,100,101,102,103,104,105,106,107,108,109,110,111,112,113,114,115,116,117,118,119,120,121,122]) s673.1
   bif inB x680 65 then
    bif a3 then
     let x682:=iSub .i64 x680 1
     bif inB x682 65 then
      bif a4 then
       bif inS x682 Lq8 65 then none else none
      else
      bif inS x682 Lq8 65 then
       some ((([]:(List Int)),(ofBytes (List.take (65-x682.toNat) (List.drop x682.toNat ([Vec.getD 65 (Vec.set 65 (Vec.set 65 s673.2.2.1 x680.toNat x681) x682.toNat (45:Int)) 0 (0:Int),Vec.getD 65 (Vec.set 65 (Vec.set 65 s673.2.2.1 x680.toNat x681) x682.toNat (45:Int)) 1 (0:Int),Vec.getD 65 (Vec.set 65 (Vec.set 65 s673.2.2.1 x680.toNat x681) x682.toNat (45:Int)) 2 (0:Int),Vec.getD 65 (Vec.set 65 (Vec.set 65 s673.2.2.1 x680.toNat x681) x682.toNat (45:Int)) 3 (0:Int),Vec.getD 65 (Vec.set 65 (Vec.set 65 s673.2.2.1 x680.toNat x681) x682.toNat (45:Int)) 4 (0:Int),Vec.getD 65 (Vec.set 65 (Vec.set 65 s673.2.2.1 x680.toNat x681) x682.toNat (45:Int)) 5 (0:Int),Vec.getD 65 (Vec.set 65 (Vec.set 65 s673.2.2.1 x680.toNat x681) x682.toNat (45:Int)) 6 (0:Int),Vec.getD 65 (Vec.set 65 (Vec.set 65 s673.2.2.1 x680.toNat x681) x682.toNat (45:Int)) 7 (0:Int),Vec.getD 65 (Vec.set 65 (Vec.set 65 s673.2.2.1 x680.toNat x681) x682.toNat (45:Int)) 8 (0:Int),Vec.getD 65 (Vec.set 65 (Vec.set 65 s673.2.2.1 x680.toNat x681) x682.toNat (45:Int)) 9 (0:Int),Vec.getD 65 (Vec.set 65 (Vec.set 65 s673.2.2.1 x680.toNat x681) x682.toNat (45:Int)) 10 (0:Int),Vec.getD 65 (Vec.set 65 (Vec.set 65 s673.2.2.1 x680.toNat x681) x682.toNat (45:Int)) 11 (0:Int),Vec.getD 65 (Vec.set 65 (Vec.set 65 s673.2.2.1 x680.toNat x681) x682.toNat (45:Int)) 12 (0:Int),Vec.getD 65 (Vec.set 65 (Vec.set 65 s673.2.2.1 x680.toNat x681) x682.toNat (45:Int)) 13 (0:Int),Vec.getD 65 (Vec.set 65 (Vec.set 65 s673.2.2.1 x680.toNat x681) x682.toNat (45:Int)) 14 (0:Int),Vec.getD 65 (Vec.set 65 (Vec.set 65 s673.2.2.1 x680.toNat x681) x682.toNat (45:Int)) 15 (0:Int),Vec.getD 65 (Vec.set 65 (Vec.set 65 s673.2.2.1 x680.toNat x681) x682.toNat (45:Int)) 16 (0:Int),Vec.getD 65 (Vec.set 65 (Vec.set 65 s673.2.2.1 x680.toNat x681) x682.toNat (45:Int)) 17 (0:Int),Vec.getD 65 (Vec.set 65 (Vec.set 65 s673.2.2.1 x680.toNat x681) x682.toNat (45:Int)) 18 (0:Int),Vec.getD 65 (Vec.set 65 (Vec.set 65 s673.2.2.1 x680.toNat x681) x682.toNat (45:Int)) 19 (0:Int),Vec.getD 65 (Vec.set 65 (Vec.set 65 s673.2.2.1 x680.toNat x681) x682.toNat (45:Int)) 20 (0:Int),Vec.getD 65 (Vec.set 65 (Vec.set 65 s673.2.2.1 x680.toNat x681) x682.toNat (45:Int)) 21 (0:Int),Vec.getD 65 (Vec.set 65 (Vec.set 65 s673.2.2.1 x680.toNat x681) x682.toNat (45:Int)) 22 (0:Int),Vec.getD 65 (Vec.set 65 (Vec.set 65 s673.2.2.1 x680.toNat x681) x682.toNat (45:Int)) 23 (0:Int),Vec.getD 65 (Vec.set 65 (Vec.set 65 s673.2.2.1 x680.toNat x681) x682.toNat (45:Int)) 24 (0:Int),Vec.getD 65 (Vec.set 65 (Vec.set 65 s673.2.2.1 x680.toNat x681) x682.toNat (45:Int)) 25 (0:Int),Vec.getD 65 (Vec.set 65 (Vec.set 65 s673.2.2.1 x680.toNat x681) x682.toNat (45:Int)) 26 (0:Int),Vec.getD 65 (Vec.set 65 (Vec.set 65 s673.2.2.1 x680.toNat x681) x682.toNat (45:Int)) 27 (0:Int),Vec.getD 65 (Vec.set 65 (Vec.set 65 s673.2.2.1 x680.toNat x681) x682.toNat (45:Int)) 28 (0:Int),Vec.getD 65 (Vec.set 65 (Vec.set 65 s673.2.2.1 x680.toNat x681) x682.toNat (45:Int)) 29 (0:Int),Vec.getD 65 (Vec.set 65 (Vec.set 65 s673.2.2.1 x680.toNat x681) x682.toNat (45:Int)) 30 (0:Int),Vec.getD 65 (Vec.set 65 (Vec.set 65 s673.2.2.1 x680.toNat x681) x682.toNat (45:Int)) 31 (0:Int),Vec.getD 65 (Vec.set 65 (Vec.set 65 s673.2.2.1 x680.toNat x681) x682.toNat (45:Int)) 32 (0:Int),Vec.getD 65 (Vec.set 65 (Vec.set 65 s673.2.2.1 x680.toNat x681) x682.toNat (45:Int)) 33 (0:Int),Vec.getD 65 (Vec.set 65 (Vec.set 65 s673.2.2.1 x680.toNat x681) x682.toNat (45:Int)) 34 (0:Int),Vec.getD 65 (Vec.set 65 (Vec.set 65 s673.2.2.1 x680.toNat x681) x682.toNat (45:Int)) 35 (0:Int),Vec.getD 65 (Vec.set 65 (Vec.set 65 s673.2.2.1 x680.toNat x681) x682.toNat (45:Int)) 36 (0:Int),Vec.getD 65 (Vec.set 65 (Vec.set 65 s673.2.2.1 x680.toNat x681) x682.toNat (45:Int)) 37 (0:Int),Vec.getD 65 (Vec.set 65 (Vec.set 65 s673.2.2.1 x680.toNat x681) x682.toNat (45:Int)) 38 (0:Int),Vec.getD 65 (Vec.set 65 (Vec.set 65 s673.2.2.1 x680.toNat x681) x682.toNat (45:Int)) 39 (0:Int),Vec.getD 65 (Vec.set 65 (Vec.set 65 s673.2.2.1 x680.toNat x681) x682.toNat (45:Int)) 40 (0:Int),Vec.getD 65 (Vec.set 65 (Vec.set 65 s673.2.2.1 x680.toNat x681) x682.toNat (45:Int)) 41 (0:Int),Vec.getD 65 (Vec.set 65 (Vec.set 65 s673.2.2.1 x680.toNat x681) x682.toNat (45:Int)) 42 (0:Int),Vec.getD 65 (Vec.set 65 (Vec.set 65 s673.2.2.1 x680.toNat x681) x682.toNat (45:Int)) 43 (0:Int),Vec.getD 65 (Vec.set 65 (Vec.set 65 s673.2.2.1 x680.toNat x681) x682.toNat (45:Int)) 44 (0:Int),Vec.getD 65 (Vec.set 65 (Vec.set 65 s673.2.2.1 x680.toNat x681) x682.toNat (45:Int)) 45 (0:Int),Vec.getD 65 (Vec.set 65 (Vec.set 65 s673.2.2.1 x680.toNat x681) x682.toNat (45:Int)) 46 (0:Int),Vec.getD 65 (Vec.set 65 (Vec.set 65 s673.2.2.1 x680.toNat x681) x682.toNat (45:Int)) 47 (0:Int),Vec.getD 65 (Vec.set 65 (Vec.set 65 s673.2.2.1 x680.toNat x681) x682.toNat (45:Int)) 48 (0:Int),Vec.getD 65 (Vec.set 65 (Vec.set 65 s673.2.2.1 x680.toNat x681) x682.toNat (45:Int)) 49 (0:Int),Vec.getD 65 (Vec.set 65 (Vec.set 65 s673.2.2.1 x680.toNat x681) x682.toNat (45:Int)) 50 (0:Int),Vec.getD 65 (Vec.set 65 (Vec.set 65 s673.2.2.1 x680.toNat x681) x682.toNat (45:Int)) 51 (0:Int),Vec.getD 65 (Vec.set 65 (Vec.set 65 s673.2.2.1 x680.toNat x681) x682.toNat (45:Int)) 52 (0:Int),Vec.getD 65 (Vec.set 65 (Vec.set 65 s673.2.2.1 x680.toNat x681) x682.toNat (45:Int)) 53 (0:Int),Vec.getD 65 (Vec.set 65 (Vec.set 65 s673.2.2.1 x680.toNat x681) x682.toNat (45:Int)) 54 (0:Int),Vec.getD 65 (Vec.set 65 (Vec.set 65 s673.2.2.1 x680.toNat x681) x682.toNat (45:Int)) 55 (0:Int),Vec.getD 65 (Vec.set 65 (Vec.set 65 s673.2.2.1 x680.toNat x681) x682.toNat (45:Int)) 56 (0:Int),Vec.getD 65 (Vec.set 65 (Vec.set 65 s673.2.2.1 x680.toNat x681) x682.toNat (45:Int)) 57 (0:Int),Vec.getD 65 (Vec.set 65 (Vec.set 65 s673.2.2.1 x680.toNat x681) x682.toNat (45:Int)) 58 (0:Int),Vec.getD 65 (Vec.set 65 (Vec.set 65 s673.2.2.1 x680.toNat x681) x682.toNat (45:Int)) 59 (0:Int),Vec.getD 65 (Vec.set 65 (Vec.set 65 s673.2.2.1 x680.toNat x681) x682.toNat (45:Int)) 60 (0:Int),Vec.getD 65 (Vec.set 65 (Vec.set 65 s673.2.2.1 x680.toNat x681) x682.toNat (45:Int)) 61 (0:Int),Vec.getD 65 (Vec.set 65 (Vec.set 65 s673.2.2.1 x680.toNat x681) x682.toNat (45:Int)) 62 (0:Int),Vec.getD 65 (Vec.set 65 (Vec.set 65 s673.2.2.1 x680.toNat x681) x682.toNat (45:Int)) 63 (0:Int),Vec.getD 65 (Vec.set 65 (Vec.set 65 s673.2.2.1 x680.toNat x681) x682.toNat (45:Int)) 64 (0:Int)]:(List Int))))),()),())
      else none
     else none
    else
    bif a4 then
     bif inS x680 Lq8 65 then none else none
    else
    bif inS x680 Lq8 65 then
     some ((([]:(List Int)),(ofBytes (List.take (65-x680.toNat) (List.drop x680.toNat ([Vec.getD 65 (Vec.set 65 s673.2.2.1 x680.toNat x681) 0 (0:Int),Vec.getD 65 (Vec.set 65 s673.2.2.1 x680.toNat x681) 1 (0:Int),Vec.getD 65 (Vec.set 65 s673.2.2.1 x680.toNat x681) 2 (0:Int),Vec.getD 65 (Vec.set 65 s673.2.2.1 x680.toNat x681) 3 (0:Int),Vec.getD 65 (Vec.set 65 s673.2.2.1 x680.toNat x681) 4 (0:Int),Vec.getD 65 (Vec.set 65 s673.2.2.1 x680.toNat x681) 5 (0:Int),Vec.getD 65 (Vec.set 65 s673.2.2.1 x680.toNat x681) 6 (0:Int),Vec.getD 65 (Vec.set 65 s673.2.2.1 x680.toNat x681) 7 (0:Int),Vec.getD 65 (Vec.set 65 s673.2.2.1 x680.toNat x681) 8 (0:Int),Vec.getD 65 (Vec.set 65 s673.2.2.1 x680.toNat x681) 9 (0:Int),Vec.getD 65 (Vec.set 65 s673.2.2.1 x680.toNat x681) 10 (0:Int),Vec.getD 65 (Vec.set 65 s673.2.2.1 x680.toNat x681) 11 (0:Int),Vec.getD 65 (Vec.set 65 s673.2.2.1 x680.toNat x681) 12 (0:Int),Vec.getD 65 (Vec.set 65 s673.2.2.1 x680.toNat x681) 13 (0:Int),Vec.getD 65 (Vec.set 65 s673.2.2.1 x680.toNat x681) 14 (0:Int),Vec.getD 65 (Vec.set 65 s673.2.2.1 x680.toNat x681) 15 (0:Int),Vec.getD 65 (Vec.set 65 s673.2.2.1 x680.toNat x681) 16 (0:Int),Vec.getD 65 (Vec.set 65 s673.2.2.1 x680.toNat x681) 17 (0:Int),Vec.getD 65 (Vec.set 65 s673.2.2.1 x680.toNat x681) 18 (0:Int),Vec.getD 65 (Vec.set 65 s673.2.2.1 x680.toNat x681) 19 (0:Int),Vec.getD 65 (Vec.set 65 s673.2.2.1 x680.toNat x681) 20 (0:Int),Vec.getD 65 (Vec.set 65 s673.2.2.1 x680.toNat x681) 21 (0:Int),Vec.getD 65 (Vec.set 65 s673.2.2.1 x680.toNat x681) 22 (0:Int),Vec.getD 65 (Vec.set 65 s673.2.2.1 x680.toNat x681) 23 (0:Int),Vec.getD 65 (Vec.set 65 s673.2.2.1 x680.toNat x681) 24 (0:Int),Vec.getD 65 (Vec.set 65 s673.2.2.1 x680.toNat x681) 25 (0:Int),Vec.getD 65 (Vec.set 65 s673.2.2.1 x680.toNat x681) 26 (0:Int),Vec.getD 65 (Vec.set 65 s673.2.2.1 x680.toNat x681) 27 (0:Int),Vec.getD 65 (Vec.set 65 s673.2.2.1 x680.toNat x681) 28 (0:Int),Vec.getD 65 (Vec.set 65 s673.2.2.1 x680.toNat x681) 29 (0:Int),Vec.getD 65 (Vec.set 65 s673.2.2.1 x680.toNat x681) 30 (0:Int),Vec.getD 65 (Vec.set 65 s673.2.2.1 x680.toNat x681) 31 (0:Int),Vec.getD 65 (Vec.set 65 s673.2.2.1 x680.toNat x681) 32 (0:Int),Vec.getD 65 (Vec.set 65 s673.2.2.1 x680.toNat x681) 33 (0:Int),Vec.getD 65 (Vec.set 65 s673.2.2.1 x680.toNat x681) 34 (0:Int),Vec.getD 65 (Vec.set 65 s673.2.2.1 x680.toNat x681) 35 (0:Int),Vec.getD 65 (Vec.set 65 s673.2.2.1 x680.toNat x681) 36 (0:Int),Vec.getD 65 (Vec.set 65 s673.2.2.1 x680.toNat x681) 37 (0:Int),Vec.getD 65 (Vec.set 65 s673.2.2.1 x680.toNat x681) 38 (0:Int),Vec.getD 65 (Vec.set 65 s673.2.2.1 x680.toNat x681) 39 (0:Int),Vec.getD 65 (Vec.set 65 s673.2.2.1 x680.toNat x681) 40 (0:Int),Vec.getD 65 (Vec.set 65 s673.2.2.1 x680.toNat x681) 41 (0:Int),Vec.getD 65 (Vec.set 65 s673.2.2.1 x680.toNat x681) 42 (0:Int),Vec.getD 65 (Vec.set 65 s673.2.2.1 x680.toNat x681) 43 (0:Int),Vec.getD 65 (Vec.set 65 s673.2.2.1 x680.toNat x681) 44 (0:Int),Vec.getD 65 (Vec.set 65 s673.2.2.1 x680.toNat x681) 45 (0:Int),Vec.getD 65 (Vec.set 65 s673.2.2.1 x680.toNat x681) 46 (0:Int),Vec.getD 65 (Vec.set 65 s673.2.2.1 x680.toNat x681) 47 (0:Int),Vec.getD 65 (Vec.set 65 s673.2.2.1 x680.toNat x681) 48 (0:Int),Vec.getD 65 (Vec.set 65 s673.2.2.1 x680.toNat x681) 49 (0:Int),Vec.getD 65 (Vec.set 65 s673.2.2.1 x680.toNat x681) 50 (0:Int),Vec.getD 65 (Vec.set 65 s673.2.2.1 x680.toNat x681) 51 (0:Int),Vec.getD 65 (Vec.set 65 s673.2.2.1 x680.toNat x681) 52 (0:Int),Vec.getD 65 (Vec.set 65 s673.2.2.1 x680.toNat x681) 53 (0:Int),Vec.getD 65 (Vec.set 65 s673.2.2.1 x680.toNat x681) 54 (0:Int),Vec.getD 65 (Vec.set 65 s673.2.2.1 x680.toNat x681) 55 (0:Int),Vec.getD 65 (Vec.set 65 s673.2.2.1 x680.toNat x681) 56 (0:Int),Vec.getD 65 (Vec.set 65 s673.2.2.1 x680.toNat x681) 57 (0:Int),Vec.getD 65 (Vec.set 65 s673.2.2.1 x680.toNat x681) 58 (0:Int),Vec.getD 65 (Vec.set 65 s673.2.2.1 x680.toNat x681) 59 (0:Int),Vec.getD 65 (Vec.set 65 s673.2.2.1 x680.toNat x681) 60 (0:Int),Vec.getD 65 (Vec.set 65 s673.2.2.1 x680.toNat x681) 61 (0:Int),Vec.getD 65 (Vec.set 65 s673.2.2.1 x680.toNat x681) 62 (0:Int),Vec.getD 65 (Vec.set 65 s673.2.2.1 x680.toNat x681) 63 (0:Int),Vec.getD 65 (Vec.set 65 s673.2.2.1 x680.toNat x681) 64 (0:Int)]:(List Int))))),()),())
    else none
   else none
  else none)
def qb3 (x689:Int) (x691:Int) (x688:Int) (a3:Bool) (a4:Bool) (s698:Dq18):Option (Dq18⊕Dq22) :=
 bif (iLe x689 s698.1) then
  let x700:=iSub .i64 s698.2.1 1
  let x701:=iAnd .u64 s698.1 x691
  bif inB x701 (List.length ([48,49,50,51,52,53,54,55,56,57,97,98,99,100,101,102,103,104,105,106,107,108,109,110,111,112,113,114,115,116,117,118,119,120,121,122])) then
   bif inB x700 65 then
    bif iLe 0 x688 then
     some (Sum.inl ((iShr .u64 s698.1 x688),x700,Vec.set 65 s698.2.2.1 x700.toNat (strAt ([48,49,50,51,52,53,54,55,56,57,97,98,99,100,101,102,103,104,105,106,107,108,109,110,111,112,113,114,115,116,117,118,119,120,121,122]) x701),()))
    else none
   else none
  else none
 else
 Option.map Sum.inr (
  let x704:=iSub .i64 s698.2.1 1
  bif inB s698.1 (List.length ([48,49,50,51,52,53,54,55,56,57,97,98,99,100,101,102,103,104,105,106,107,108,109,110,111,112,113,114,115,116,117,118,119,120,121,122])) then
   let x705:=strAt ([48,49,50,51,52,53,54,55,56,57,97,98,99,100,101,102,103,104,105,106,107,108,109,110,111,112,113,114,115,116,117,118,119,120,121,122]) s698.1
   bif inB x704 65 then
    bif a3 then
     let x706:=iSub .i64 x704 1
     bif inB x706 65 then
      bif a4 then
       bif inS x706 Lq8 65 then none else none
      else
      bif inS x706 Lq8 65 then
       some ((([]:(List Int)),(ofBytes (List.take (65-x706.toNat) (List.drop x706.toNat ([Vec.getD 65 (Vec.set 65 (Vec.set 65 s698.2.2.1 x704.toNat x705) x706.toNat (45:Int)) 0 (0:Int),Vec.getD 65 (Vec.set 65 (Vec.set 65 s698.2.2.1 x704.toNat x705) x706.toNat (45:Int)) 1 (0:Int),Vec.getD 65 (Vec.set 65 (Vec.set 65 s698.2.2.1 x704.toNat x705) x706.toNat (45:Int)) 2 (0:Int),Vec.getD 65 (Vec.set 65 (Vec.set 65 s698.2.2.1 x704.toNat x705) x706.toNat (45:Int)) 3 (0:Int),Vec.getD 65 (Vec.set 65 (Vec.set 65 s698.2.2.1 x704.toNat x705) x706.toNat (45:Int)) 4 (0:Int),Vec.getD 65 (Vec.set 65 (Vec.set 65 s698.2.2.1 x704.toNat x705) x706.toNat (45:Int)) 5 (0:Int),Vec.getD 65 (Vec.set 65 (Vec.set 65 s698.2.2.1 x704.toNat x705) x706.toNat (45:Int)) 6 (0:Int),Vec.getD 65 (Vec.set 65 (Vec.set 65 s698.2.2.1 x704.toNat x705) x706.toNat (45:Int)) 7 (0:Int),Vec.getD 65 (Vec.set 65 (Vec.set 65 s698.2.2.1 x704.toNat x705) x706.toNat (45:Int)) 8 (0:Int),Vec.getD 65 (Vec.set 65 (Vec.set 65 s698.2.2.1 x704.toNat x705) x706.toNat (45:Int)) 9 (0:Int),Vec.getD 65 (Vec.set 65 (Vec.set 65 s698.2.2.1 x704.toNat x705) x706.toNat (45:Int)) 10 (0:Int),Vec.getD 65 (Vec.set 65 (Vec.set 65 s698.2.2.1 x704.toNat x705) x706.toNat (45:Int)) 11 (0:Int),Vec.getD 65 (Vec.set 65 (Vec.set 65 s698.2.2.1 x704.toNat x705) x706.toNat (45:Int)) 12 (0:Int),Vec.getD 65 (Vec.set 65 (Vec.set 65 s698.2.2.1 x704.toNat x705) x706.toNat (45:Int)) 13 (0:Int),Vec.getD 65 (Vec.set 65 (Vec.set 65 s698.2.2.1 x704.toNat x705) x706.toNat (45:Int)) 14 (0:Int),Vec.getD 65 (Vec.set 65 (Vec.set 65 s698.2.2.1 x704.toNat x705) x706.toNat (45:Int)) 15 (0:Int),Vec.getD 65 (Vec.set 65 (Vec.set 65 s698.2.2.1 x704.toNat x705) x706.toNat (45:Int)) 16 (0:Int),Vec.getD 65 (Vec.set 65 (Vec.set 65 s698.2.2.1 x704.toNat x705) x706.toNat (45:Int)) 17 (0:Int),Vec.getD 65 (Vec.set 65 (Vec.set 65 s698.2.2.1 x704.toNat x705) x706.toNat (45:Int)) 18 (0:Int),Vec.getD 65 (Vec.set 65 (Vec.set 65 s698.2.2.1 x704.toNat x705) x706.toNat (45:Int)) 19 (0:Int),Vec.getD 65 (Vec.set 65 (Vec.set 65 s698.2.2.1 x704.toNat x705) x706.toNat (45:Int)) 20 (0:Int),Vec.getD 65 (Vec.set 65 (Vec.set 65 s698.2.2.1 x704.toNat x705) x706.toNat (45:Int)) 21 (0:Int),Vec.getD 65 (Vec.set 65 (Vec.set 65 s698.2.2.1 x704.toNat x705) x706.toNat (45:Int)) 22 (0:Int),Vec.getD 65 (Vec.set 65 (Vec.set 65 s698.2.2.1 x704.toNat x705) x706.toNat (45:Int)) 23 (0:Int),Vec.getD 65 (Vec.set 65 (Vec.set 65 s698.2.2.1 x704.toNat x705) x706.toNat (45:Int)) 24 (0:Int),Vec.getD 65 (Vec.set 65 (Vec.set 65 s698.2.2.1 x704.toNat x705) x706.toNat (45:Int)) 25 (0:Int),Vec.getD 65 (Vec.set 65 (Vec.set 65 s698.2.2.1 x704.toNat x705) x706.toNat (45:Int)) 26 (0:Int),Vec.getD 65 (Vec.set 65 (Vec.set 65 s698.2.2.1 x704.toNat x705) x706.toNat (45:Int)) 27 (0:Int),Vec.getD 65 (Vec.set 65 (Vec.set 65 s698.2.2.1 x704.toNat x705) x706.toNat (45:Int)) 28 (0:Int),Vec.getD 65 (Vec.set 65 (Vec.set 65 s698.2.2.1 x704.toNat x705) x706.toNat (45:Int)) 29 (0:Int),Vec.getD 65 (Vec.set 65 (Vec.set 65 s698.2.2.1 x704.toNat x705) x706.toNat (45:Int)) 30 (0:Int),Vec.getD 65 (Vec.set 65 (Vec.set 65 s698.2.2.1 x704.toNat x705) x706.toNat (45:Int)) 31 (0:Int),Vec.getD 65 (Vec.set 65 (Vec.set 65 s698.2.2.1 x704.toNat x705) x706.toNat (45:Int)) 32 (0:Int),Vec.getD 65 (Vec.set 65 (Vec.set 65 s698.2.2.1 x704.toNat x705) x706.toNat (45:Int)) 33 (0:Int),Vec.getD 65 (Vec.set 65 (Vec.set 65 s698.2.2.1 x704.toNat x705) x706.toNat (45:Int)) 34 (0:Int),Vec.getD 65 (Vec.set 65 (Vec.set 65 s698.2.2.1 x704.toNat x705) x706.toNat (45:Int)) 35 (0:Int),Vec.getD 65 (Vec.set 65 (Vec.set 65 s698.2.2.1 x704.toNat x705) x706.toNat (45:Int)) 36 (0:Int),Vec.getD 65 (Vec.set 65 (Vec.set 65 s698.2.2.1 x704.toNat x705) x706.toNat (45:Int)) 37 (0:Int),Vec.getD 65 (Vec.set 65 (Vec.set 65 s698.2.2.1 x704.toNat x705) x706.toNat (45:Int)) 38 (0:Int),Vec.getD 65 (Vec.set 65 (Vec.set 65 s698.2.2.1 x704.toNat x705) x706.toNat (45:Int)) 39 (0:Int),Vec.getD 65 (Vec.set 65 (Vec.set 65 s698.2.2.1 x704.toNat x705) x706.toNat (45:Int)) 40 (0:Int),Vec.getD 65 (Vec.set 65 (Vec.set 65 s698.2.2.1 x704.toNat x705) x706.toNat (45:Int)) 41 (0:Int),Vec.getD 65 (Vec.set 65 (Vec.set 65 s698.2.2.1 x704.toNat x705) x706.toNat (45:Int)) 42 (0:Int),Vec.getD 65 (Vec.set 65 (Vec.set 65 s698.2.2.1 x704.toNat x705) x706.toNat (45:Int)) 43 (0:Int),Vec.getD 65 (Vec.set 65 (Vec.set 65 s698.2.2.1 x704.toNat x705) x706.toNat (45:Int)) 44 (0:Int),Vec.getD 65 (Vec.set 65 (Vec.set 65 s698.2.2.1 x704.toNat x705) x706.toNat (45:Int)) 45 (0:Int),Vec.getD 65 (Vec.set 65 (Vec.set 65 s698.2.2.1 x704.toNat x705) x706.toNat (45:Int)) 46 (0:Int),Vec.getD 65 (Vec.set 65 (Vec.set 65 s698.2.2.1 x704.toNat x705) x706.toNat (45:Int)) 47 (0:Int),Vec.getD 65 (Vec.set 65 (Vec.set 65 s698.2.2.1 x704.toNat x705) x706.toNat (45:Int)) 48 (0:Int),Vec.getD 65 (Vec.set 65 (Vec.set 65 s698.2.2.1 x704.toNat x705) x706.toNat (45:Int)) 49 (0:Int),Vec.getD 65 (Vec.set 65 (Vec.set 65 s698.2.2.1 x704.toNat x705) x706.toNat (45:Int)) 50 (0:Int),Vec.getD 65 (Vec.set 65 (Vec.set 65 s698.2.2.1 x704.toNat x705) x706.toNat (45:Int)) 51 (0:Int),Vec.getD 65 (Vec.set 65 (Vec.set 65 s698.2.2.1 x704.toNat x705) x706.toNat (45:Int)) 52 (0:Int),Vec.getD 65 (Vec.set 65 (Vec.set 65 s698.2.2.1 x704.toNat x705) x706.toNat (45:Int)) 53 (0:Int),Vec.getD 65 (Vec.set 65 (Vec.set 65 s698.2.2.1 x704.toNat x705) x706.toNat (45:Int)) 54 (0:Int),Vec.getD 65 (Vec.set 65 (Vec.set 65 s698.2.2.1 x704.toNat x705) x706.toNat (45:Int)) 55 (0:Int),Vec.getD 65 (Vec.set 65 (Vec.set 65 s698.2.2.1 x704.toNat x705) x706.toNat (45:Int)) 56 (0:Int),Vec.getD 65 (Vec.set 65 (Vec.set 65 s698.2.2.1 x704.toNat x705) x706.toNat (45:Int)) 57 (0:Int),Vec.getD 65 (Vec.set 65 (Vec.set 65 s698.2.2.1 x704.toNat x705) x706.toNat (45:Int)) 58 (0:Int),Vec.getD 65 (Vec.set 65 (Vec.set 65 s698.2.2.1 x704.toNat x705) x706.toNat (45:Int)) 59 (0:Int),Vec.getD 65 (Vec.set 65 (Vec.set 65 s698.2.2.1 x704.toNat x705) x706.toNat (45:Int)) 60 (0:Int),Vec.getD 65 (Vec.set 65 (Vec.set 65 s698.2.2.1 x704.toNat x705) x706.toNat (45:Int)) 61 (0:Int),Vec.getD 65 (Vec.set 65 (Vec.set 65 s698.2.2.1 x704.toNat x705) x706.toNat (45:Int)) 62 (0:Int),Vec.getD 65 (Vec.set 65 (Vec.set 65 s698.2.2.1 x704.toNat x705) x706.toNat (45:Int)) 63 (0:Int),Vec.getD 65 (Vec.set 65 (Vec.set 65 s698.2.2.1 x704.toNat x705) x706.toNat (45:Int)) 64 (0:Int)]:(List Int))))),()),())
      else none
     else none
    else
    bif a4 then
     bif inS x704 Lq8 65 then none else none
    else
    bif inS x704 Lq8 65 then
     some ((([]:(List Int)),(ofBytes (List.take (65-x704.toNat) (List.drop x704.toNat ([Vec.getD 65 (Vec.set 65 s698.2.2.1 x704.toNat x705) 0 (0:Int),Vec.getD 65 (Vec.set 65 s698.2.2.1 x704.toNat x705) 1 (0:Int),Vec.getD 65 (Vec.set 65 s698.2.2.1 x704.toNat x705) 2 (0:Int),Vec.getD 65 (Vec.set 65 s698.2.2.1 x704.toNat x705) 3 (0:Int),Vec.getD 65 (Vec.set 65 s698.2.2.1 x704.toNat x705) 4 (0:Int),Vec.getD 65 (Vec.set 65 s698.2.2.1 x704.toNat x705) 5 (0:Int),Vec.getD 65 (Vec.set 65 s698.2.2.1 x704.toNat x705) 6 (0:Int),Vec.getD 65 (Vec.set 65 s698.2.2.1 x704.toNat x705) 7 (0:Int),Vec.getD 65 (Vec.set 65 s698.2.2.1 x704.toNat x705) 8 (0:Int),Vec.getD 65 (Vec.set 65 s698.2.2.1 x704.toNat x705) 9 (0:Int),Vec.getD 65 (Vec.set 65 s698.2.2.1 x704.toNat x705) 10 (0:Int),Vec.getD 65 (Vec.set 65 s698.2.2.1 x704.toNat x705) 11 (0:Int),Vec.getD 65 (Vec.set 65 s698.2.2.1 x704.toNat x705) 12 (0:Int),Vec.getD 65 (Vec.set 65 s698.2.2.1 x704.toNat x705) 13 (0:Int),Vec.getD 65 (Vec.set 65 s698.2.2.1 x704.toNat x705) 14 (0:Int),Vec.getD 65 (Vec.set 65 s698.2.2.1 x704.toNat x705) 15 (0:Int),Vec.getD 65 (Vec.set 65 s698.2.2.1 x704.toNat x705) 16 (0:Int),Vec.getD 65 (Vec.set 65 s698.2.2.1 x704.toNat x705) 17 (0:Int),Vec.getD 65 (Vec.set 65 s698.2.2.1 x704.toNat x705) 18 (0:Int),Vec.getD 65 (Vec.set 65 s698.2.2.1 x704.toNat x705) 19 (0:Int),Vec.getD 65 (Vec.set 65 s698.2.2.1 x704.toNat x705) 20 (0:Int),Vec.getD 65 (Vec.set 65 s698.2.2.1 x704.toNat x705) 21 (0:Int),Vec.getD 65 (Vec.set 65 s698.2.2.1 x704.toNat x705) 22 (0:Int),Vec.getD 65 (Vec.set 65 s698.2.2.1 x704.toNat x705) 23 (0:Int),Vec.getD 65 (Vec.set 65 s698.2.2.1 x704.toNat x705) 24 (0:Int),Vec.getD 65 (Vec.set 65 s698.2.2.1 x704.toNat x705) 25 (0:Int),Vec.getD 65 (Vec.set 65 s698.2.2.1 x704.toNat x705) 26 (0:Int),Vec.getD 65 (Vec.set 65 s698.2.2.1 x704.toNat x705) 27 (0:Int),Vec.getD 65 (Vec.set 65 s698.2.2.1 x704.toNat x705) 28 (0:Int),Vec.getD 65 (Vec.set 65 s698.2.2.1 x704.toNat x705) 29 (0:Int),Vec.getD 65 (Vec.set 65 s698.2.2.1 x704.toNat x705) 30 (0:Int),Vec.getD 65 (Vec.set 65 s698.2.2.1 x704.toNat x705) 31 (0:Int),Vec.getD 65 (Vec.set 65 s698.2.2.1 x704.toNat x705) 32 (0:Int),Vec.getD 65 (Vec.set 65 s698.2.2.1 x704.toNat x705) 33 (0:Int),Vec.getD 65 (Vec.set 65 s698.2.2.1 x704.toNat x705) 34 (0:Int),Vec.getD 65 (Vec.set 65 s698.2.2.1 x704.toNat x705) 35 (0:Int),Vec.getD 65 (Vec.set 65 s698.2.2.1 x704.toNat x705) 36 (0:Int),Vec.getD 65 (Vec.set 65 s698.2.2.1 x704.toNat x705) 37 (0:Int),Vec.getD 65 (Vec.set 65 s698.2.2.1 x704.toNat x705) 38 (0:Int),Vec.getD 65 (Vec.set 65 s698.2.2.1 x704.toNat x705) 39 (0:Int),Vec.getD 65 (Vec.set 65 s698.2.2.1 x704.toNat x705) 40 (0:Int),Vec.getD 65 (Vec.set 65 s698.2.2.1 x704.toNat x705) 41 (0:Int),Vec.getD 65 (Vec.set 65 s698.2.2.1 x704.toNat x705) 42 (0:Int),Vec.getD 65 (Vec.set 65 s698.2.2.1 x704.toNat x705) 43 (0:Int),Vec.getD 65 (Vec.set 65 s698.2.2.1 x704.toNat x705) 44 (0:Int),Vec.getD 65 (Vec.set 65 s698.2.2.1 x704.toNat x705) 45 (0:Int),Vec.getD 65 (Vec.set 65 s698.2.2.1 x704.toNat x705) 46 (0:Int),Vec.getD 65 (Vec.set 65 s698.2.2.1 x704.toNat x705) 47 (0:Int),Vec.getD 65 (Vec.set 65 s698.2.2.1 x704.toNat x705) 48 (0:Int),Vec.getD 65 (Vec.set 65 s698.2.2.1 x704.toNat x705) 49 (0:Int),Vec.getD 65 (Vec.set 65 s698.2.2.1 x704.toNat x705) 50 (0:Int),Vec.getD 65 (Vec.set 65 s698.2.2.1 x704.toNat x705) 51 (0:Int),Vec.getD 65 (Vec.set 65 s698.2.2.1 x704.toNat x705) 52 (0:Int),Vec.getD 65 (Vec.set 65 s698.2.2.1 x704.toNat x705) 53 (0:Int),Vec.getD 65 (Vec.set 65 s698.2.2.1 x704.toNat x705) 54 (0:Int),Vec.getD 65 (Vec.set 65 s698.2.2.1 x704.toNat x705) 55 (0:Int),Vec.getD 65 (Vec.set 65 s698.2.2.1 x704.toNat x705) 56 (0:Int),Vec.getD 65 (Vec.set 65 s698.2.2.1 x704.toNat x705) 57 (0:Int),Vec.getD 65 (Vec.set 65 s698.2.2.1 x704.toNat x705) 58 (0:Int),Vec.getD 65 (Vec.set 65 s698.2.2.1 x704.toNat x705) 59 (0:Int),Vec.getD 65 (Vec.set 65 s698.2.2.1 x704.toNat x705) 60 (0:Int),Vec.getD 65 (Vec.set 65 s698.2.2.1 x704.toNat x705) 61 (0:Int),Vec.getD 65 (Vec.set 65 s698.2.2.1 x704.toNat x705) 62 (0:Int),Vec.getD 65 (Vec.set 65 s698.2.2.1 x704.toNat x705) 63 (0:Int),Vec.getD 65 (Vec.set 65 s698.2.2.1 x704.toNat x705) 64 (0:Int)]:(List Int))))),()),())
    else none
   else none
  else none)
def qlv (x709:Int) (a3:Bool) (a4:Bool) (s717:Dq18):Option (Dq18⊕Dq22) :=
 bif (iLe x709 s717.1) then
  let x719:=iSub .i64 s717.2.1 1
  bif iEq x709 0 then none else
  let x720:=iQuo .u64 s717.1 x709
  let x722:=iSub .u64 s717.1 (iMul .u64 x720 x709)
  bif inB x722 (List.length ([48,49,50,51,52,53,54,55,56,57,97,98,99,100,101,102,103,104,105,106,107,108,109,110,111,112,113,114,115,116,117,118,119,120,121,122])) then
   bif inB x719 65 then some (Sum.inl (x720,x719,Vec.set 65 s717.2.2.1 x719.toNat (strAt ([48,49,50,51,52,53,54,55,56,57,97,98,99,100,101,102,103,104,105,106,107,108,109,110,111,112,113,114,115,116,117,118,119,120,121,122]) x722),())) else none
  else none
 else
 Option.map Sum.inr (
  let x724:=iSub .i64 s717.2.1 1
  bif inB s717.1 (List.length ([48,49,50,51,52,53,54,55,56,57,97,98,99,100,101,102,103,104,105,106,107,108,109,110,111,112,113,114,115,116,117,118,119,120,121,122])) then
   let x725:=strAt ([48,49,50,51,52,53,54,55,56,57,97,98,99,100,101,102,103,104,105,106,107,108,109,110,111,112,113,114,115,116,117,118,119,120,121,122]) s717.1
   bif inB x724 65 then
    bif a3 then
     let x726:=iSub .i64 x724 1
     bif inB x726 65 then
      bif a4 then
       bif inS x726 Lq8 65 then none else none
      else
      bif inS x726 Lq8 65 then
       some ((([]:(List Int)),(ofBytes (List.take (65-x726.toNat) (List.drop x726.toNat ([Vec.getD 65 (Vec.set 65 (Vec.set 65 s717.2.2.1 x724.toNat x725) x726.toNat (45:Int)) 0 (0:Int),Vec.getD 65 (Vec.set 65 (Vec.set 65 s717.2.2.1 x724.toNat x725) x726.toNat (45:Int)) 1 (0:Int),Vec.getD 65 (Vec.set 65 (Vec.set 65 s717.2.2.1 x724.toNat x725) x726.toNat (45:Int)) 2 (0:Int),Vec.getD 65 (Vec.set 65 (Vec.set 65 s717.2.2.1 x724.toNat x725) x726.toNat (45:Int)) 3 (0:Int),Vec.getD 65 (Vec.set 65 (Vec.set 65 s717.2.2.1 x724.toNat x725) x726.toNat (45:Int)) 4 (0:Int),Vec.getD 65 (Vec.set 65 (Vec.set 65 s717.2.2.1 x724.toNat x725) x726.toNat (45:Int)) 5 (0:Int),Vec.getD 65 (Vec.set 65 (Vec.set 65 s717.2.2.1 x724.toNat x725) x726.toNat (45:Int)) 6 (0:Int),Vec.getD 65 (Vec.set 65 (Vec.set 65 s717.2.2.1 x724.toNat x725) x726.toNat (45:Int)) 7 (0:Int),Vec.getD 65 (Vec.set 65 (Vec.set 65 s717.2.2.1 x724.toNat x725) x726.toNat (45:Int)) 8 (0:Int),Vec.getD 65 (Vec.set 65 (Vec.set 65 s717.2.2.1 x724.toNat x725) x726.toNat (45:Int)) 9 (0:Int),Vec.getD 65 (Vec.set 65 (Vec.set 65 s717.2.2.1 x724.toNat x725) x726.toNat (45:Int)) 10 (0:Int),Vec.getD 65 (Vec.set 65 (Vec.set 65 s717.2.2.1 x724.toNat x725) x726.toNat (45:Int)) 11 (0:Int),Vec.getD 65 (Vec.set 65 (Vec.set 65 s717.2.2.1 x724.toNat x725) x726.toNat (45:Int)) 12 (0:Int),Vec.getD 65 (Vec.set 65 (Vec.set 65 s717.2.2.1 x724.toNat x725) x726.toNat (45:Int)) 13 (0:Int),Vec.getD 65 (Vec.set 65 (Vec.set 65 s717.2.2.1 x724.toNat x725) x726.toNat (45:Int)) 14 (0:Int),Vec.getD 65 (Vec.set 65 (Vec.set 65 s717.2.2.1 x724.toNat x725) x726.toNat (45:Int)) 15 (0:Int),Vec.getD 65 (Vec.set 65 (Vec.set 65 s717.2.2.1 x724.toNat x725) x726.toNat (45:Int)) 16 (0:Int),Vec.getD 65 (Vec.set 65 (Vec.set 65 s717.2.2.1 x724.toNat x725) x726.toNat (45:Int)) 17 (0:Int),Vec.getD 65 (Vec.set 65 (Vec.set 65 s717.2.2.1 x724.toNat x725) x726.toNat (45:Int)) 18 (0:Int),Vec.getD 65 (Vec.set 65 (Vec.set 65 s717.2.2.1 x724.toNat x725) x726.toNat (45:Int)) 19 (0:Int),Vec.getD 65 (Vec.set 65 (Vec.set 65 s717.2.2.1 x724.toNat x725) x726.toNat (45:Int)) 20 (0:Int),Vec.getD 65 (Vec.set 65 (Vec.set 65 s717.2.2.1 x724.toNat x725) x726.toNat (45:Int)) 21 (0:Int),Vec.getD 65 (Vec.set 65 (Vec.set 65 s717.2.2.1 x724.toNat x725) x726.toNat (45:Int)) 22 (0:Int),Vec.getD 65 (Vec.set 65 (Vec.set 65 s717.2.2.1 x724.toNat x725) x726.toNat (45:Int)) 23 (0:Int),Vec.getD 65 (Vec.set 65 (Vec.set 65 s717.2.2.1 x724.toNat x725) x726.toNat (45:Int)) 24 (0:Int),Vec.getD 65 (Vec.set 65 (Vec.set 65 s717.2.2.1 x724.toNat x725) x726.toNat (45:Int)) 25 (0:Int),Vec.getD 65 (Vec.set 65 (Vec.set 65 s717.2.2.1 x724.toNat x725) x726.toNat (45:Int)) 26 (0:Int),Vec.getD 65 (Vec.set 65 (Vec.set 65 s717.2.2.1 x724.toNat x725) x726.toNat (45:Int)) 27 (0:Int),Vec.getD 65 (Vec.set 65 (Vec.set 65 s717.2.2.1 x724.toNat x725) x726.toNat (45:Int)) 28 (0:Int),Vec.getD 65 (Vec.set 65 (Vec.set 65 s717.2.2.1 x724.toNat x725) x726.toNat (45:Int)) 29 (0:Int),Vec.getD 65 (Vec.set 65 (Vec.set 65 s717.2.2.1 x724.toNat x725) x726.toNat (45:Int)) 30 (0:Int),Vec.getD 65 (Vec.set 65 (Vec.set 65 s717.2.2.1 x724.toNat x725) x726.toNat (45:Int)) 31 (0:Int),Vec.getD 65 (Vec.set 65 (Vec.set 65 s717.2.2.1 x724.toNat x725) x726.toNat (45:Int)) 32 (0:Int),Vec.getD 65 (Vec.set 65 (Vec.set 65 s717.2.2.1 x724.toNat x725) x726.toNat (45:Int)) 33 (0:Int),Vec.getD 65 (Vec.set 65 (Vec.set 65 s717.2.2.1 x724.toNat x725) x726.toNat (45:Int)) 34 (0:Int),Vec.getD 65 (Vec.set 65 (Vec.set 65 s717.2.2.1 x724.toNat x725) x726.toNat (45:Int)) 35 (0:Int),Vec.getD 65 (Vec.set 65 (Vec.set 65 s717.2.2.1 x724.toNat x725) x726.toNat (45:Int)) 36 (0:Int),Vec.getD 65 (Vec.set 65 (Vec.set 65 s717.2.2.1 x724.toNat x725) x726.toNat (45:Int)) 37 (0:Int),Vec.getD 65 (Vec.set 65 (Vec.set 65 s717.2.2.1 x724.toNat x725) x726.toNat (45:Int)) 38 (0:Int),Vec.getD 65 (Vec.set 65 (Vec.set 65 s717.2.2.1 x724.toNat x725) x726.toNat (45:Int)) 39 (0:Int),Vec.getD 65 (Vec.set 65 (Vec.set 65 s717.2.2.1 x724.toNat x725) x726.toNat (45:Int)) 40 (0:Int),Vec.getD 65 (Vec.set 65 (Vec.set 65 s717.2.2.1 x724.toNat x725) x726.toNat (45:Int)) 41 (0:Int),Vec.getD 65 (Vec.set 65 (Vec.set 65 s717.2.2.1 x724.toNat x725) x726.toNat (45:Int)) 42 (0:Int),Vec.getD 65 (Vec.set 65 (Vec.set 65 s717.2.2.1 x724.toNat x725) x726.toNat (45:Int)) 43 (0:Int),Vec.getD 65 (Vec.set 65 (Vec.set 65 s717.2.2.1 x724.toNat x725) x726.toNat (45:Int)) 44 (0:Int),Vec.getD 65 (Vec.set 65 (Vec.set 65 s717.2.2.1 x724.toNat x725) x726.toNat (45:Int)) 45 (0:Int),Vec.getD 65 (Vec.set 65 (Vec.set 65 s717.2.2.1 x724.toNat x725) x726.toNat (45:Int)) 46 (0:Int),Vec.getD 65 (Vec.set 65 (Vec.set 65 s717.2.2.1 x724.toNat x725) x726.toNat (45:Int)) 47 (0:Int),Vec.getD 65 (Vec.set 65 (Vec.set 65 s717.2.2.1 x724.toNat x725) x726.toNat (45:Int)) 48 (0:Int),Vec.getD 65 (Vec.set 65 (Vec.set 65 s717.2.2.1 x724.toNat x725) x726.toNat (45:Int)) 49 (0:Int),Vec.getD 65 (Vec.set 65 (Vec.set 65 s717.2.2.1 x724.toNat x725) x726.toNat (45:Int)) 50 (0:Int),Vec.getD 65 (Vec.set 65 (Vec.set 65 s717.2.2.1 x724.toNat x725) x726.toNat (45:Int)) 51 (0:Int),Vec.getD 65 (Vec.set 65 (Vec.set 65 s717.2.2.1 x724.toNat x725) x726.toNat (45:Int)) 52 (0:Int),Vec.getD 65 (Vec.set 65 (Vec.set 65 s717.2.2.1 x724.toNat x725) x726.toNat (45:Int)) 53 (0:Int),Vec.getD 65 (Vec.set 65 (Vec.set 65 s717.2.2.1 x724.toNat x725) x726.toNat (45:Int)) 54 (0:Int),Vec.getD 65 (Vec.set 65 (Vec.set 65 s717.2.2.1 x724.toNat x725) x726.toNat (45:Int)) 55 (0:Int),Vec.getD 65 (Vec.set 65 (Vec.set 65 s717.2.2.1 x724.toNat x725) x726.toNat (45:Int)) 56 (0:Int),Vec.getD 65 (Vec.set 65 (Vec.set 65 s717.2.2.1 x724.toNat x725) x726.toNat (45:Int)) 57 (0:Int),Vec.getD 65 (Vec.set 65 (Vec.set 65 s717.2.2.1 x724.toNat x725) x726.toNat (45:Int)) 58 (0:Int),Vec.getD 65 (Vec.set 65 (Vec.set 65 s717.2.2.1 x724.toNat x725) x726.toNat (45:Int)) 59 (0:Int),Vec.getD 65 (Vec.set 65 (Vec.set 65 s717.2.2.1 x724.toNat x725) x726.toNat (45:Int)) 60 (0:Int),Vec.getD 65 (Vec.set 65 (Vec.set 65 s717.2.2.1 x724.toNat x725) x726.toNat (45:Int)) 61 (0:Int),Vec.getD 65 (Vec.set 65 (Vec.set 65 s717.2.2.1 x724.toNat x725) x726.toNat (45:Int)) 62 (0:Int),Vec.getD 65 (Vec.set 65 (Vec.set 65 s717.2.2.1 x724.toNat x725) x726.toNat (45:Int)) 63 (0:Int),Vec.getD 65 (Vec.set 65 (Vec.set 65 s717.2.2.1 x724.toNat x725) x726.toNat (45:Int)) 64 (0:Int)]:(List Int))))),()),())
      else none
     else none
    else
    bif a4 then
     bif inS x724 Lq8 65 then none else none
    else
    bif inS x724 Lq8 65 then
     some ((([]:(List Int)),(ofBytes (List.take (65-x724.toNat) (List.drop x724.toNat ([Vec.getD 65 (Vec.set 65 s717.2.2.1 x724.toNat x725) 0 (0:Int),Vec.getD 65 (Vec.set 65 s717.2.2.1 x724.toNat x725) 1 (0:Int),Vec.getD 65 (Vec.set 65 s717.2.2.1 x724.toNat x725) 2 (0:Int),Vec.getD 65 (Vec.set 65 s717.2.2.1 x724.toNat x725) 3 (0:Int),Vec.getD 65 (Vec.set 65 s717.2.2.1 x724.toNat x725) 4 (0:Int),Vec.getD 65 (Vec.set 65 s717.2.2.1 x724.toNat x725) 5 (0:Int),Vec.getD 65 (Vec.set 65 s717.2.2.1 x724.toNat x725) 6 (0:Int),Vec.getD 65 (Vec.set 65 s717.2.2.1 x724.toNat x725) 7 (0:Int),Vec.getD 65 (Vec.set 65 s717.2.2.1 x724.toNat x725) 8 (0:Int),Vec.getD 65 (Vec.set 65 s717.2.2.1 x724.toNat x725) 9 (0:Int),Vec.getD 65 (Vec.set 65 s717.2.2.1 x724.toNat x725) 10 (0:Int),Vec.getD 65 (Vec.set 65 s717.2.2.1 x724.toNat x725) 11 (0:Int),Vec.getD 65 (Vec.set 65 s717.2.2.1 x724.toNat x725) 12 (0:Int),Vec.getD 65 (Vec.set 65 s717.2.2.1 x724.toNat x725) 13 (0:Int),Vec.getD 65 (Vec.set 65 s717.2.2.1 x724.toNat x725) 14 (0:Int),Vec.getD 65 (Vec.set 65 s717.2.2.1 x724.toNat x725) 15 (0:Int),Vec.getD 65 (Vec.set 65 s717.2.2.1 x724.toNat x725) 16 (0:Int),Vec.getD 65 (Vec.set 65 s717.2.2.1 x724.toNat x725) 17 (0:Int),Vec.getD 65 (Vec.set 65 s717.2.2.1 x724.toNat x725) 18 (0:Int),Vec.getD 65 (Vec.set 65 s717.2.2.1 x724.toNat x725) 19 (0:Int),Vec.getD 65 (Vec.set 65 s717.2.2.1 x724.toNat x725) 20 (0:Int),Vec.getD 65 (Vec.set 65 s717.2.2.1 x724.toNat x725) 21 (0:Int),Vec.getD 65 (Vec.set 65 s717.2.2.1 x724.toNat x725) 22 (0:Int),Vec.getD 65 (Vec.set 65 s717.2.2.1 x724.toNat x725) 23 (0:Int),Vec.getD 65 (Vec.set 65 s717.2.2.1 x724.toNat x725) 24 (0:Int),Vec.getD 65 (Vec.set 65 s717.2.2.1 x724.toNat x725) 25 (0:Int),Vec.getD 65 (Vec.set 65 s717.2.2.1 x724.toNat x725) 26 (0:Int),Vec.getD 65 (Vec.set 65 s717.2.2.1 x724.toNat x725) 27 (0:Int),Vec.getD 65 (Vec.set 65 s717.2.2.1 x724.toNat x725) 28 (0:Int),Vec.getD 65 (Vec.set 65 s717.2.2.1 x724.toNat x725) 29 (0:Int),Vec.getD 65 (Vec.set 65 s717.2.2.1 x724.toNat x725) 30 (0:Int),Vec.getD 65 (Vec.set 65 s717.2.2.1 x724.toNat x725) 31 (0:Int),Vec.getD 65 (Vec.set 65 s717.2.2.1 x724.toNat x725) 32 (0:Int),Vec.getD 65 (Vec.set 65 s717.2.2.1 x724.toNat x725) 33 (0:Int),Vec.getD 65 (Vec.set 65 s717.2.2.1 x724.toNat x725) 34 (0:Int),Vec.getD 65 (Vec.set 65 s717.2.2.1 x724.toNat x725) 35 (0:Int),Vec.getD 65 (Vec.set 65 s717.2.2.1 x724.toNat x725) 36 (0:Int),Vec.getD 65 (Vec.set 65 s717.2.2.1 x724.toNat x725) 37 (0:Int),Vec.getD 65 (Vec.set 65 s717.2.2.1 x724.toNat x725) 38 (0:Int),Vec.getD 65 (Vec.set 65 s717.2.2.1 x724.toNat x725) 39 (0:Int),Vec.getD 65 (Vec.set 65 s717.2.2.1 x724.toNat x725) 40 (0:Int),Vec.getD 65 (Vec.set 65 s717.2.2.1 x724.toNat x725) 41 (0:Int),Vec.getD 65 (Vec.set 65 s717.2.2.1 x724.toNat x725) 42 (0:Int),Vec.getD 65 (Vec.set 65 s717.2.2.1 x724.toNat x725) 43 (0:Int),Vec.getD 65 (Vec.set 65 s717.2.2.1 x724.toNat x725) 44 (0:Int),Vec.getD 65 (Vec.set 65 s717.2.2.1 x724.toNat x725) 45 (0:Int),Vec.getD 65 (Vec.set 65 s717.2.2.1 x724.toNat x725) 46 (0:Int),Vec.getD 65 (Vec.set 65 s717.2.2.1 x724.toNat x725) 47 (0:Int),Vec.getD 65 (Vec.set 65 s717.2.2.1 x724.toNat x725) 48 (0:Int),Vec.getD 65 (Vec.set 65 s717.2.2.1 x724.toNat x725) 49 (0:Int),Vec.getD 65 (Vec.set 65 s717.2.2.1 x724.toNat x725) 50 (0:Int),Vec.getD 65 (Vec.set 65 s717.2.2.1 x724.toNat x725) 51 (0:Int),Vec.getD 65 (Vec.set 65 s717.2.2.1 x724.toNat x725) 52 (0:Int),Vec.getD 65 (Vec.set 65 s717.2.2.1 x724.toNat x725) 53 (0:Int),Vec.getD 65 (Vec.set 65 s717.2.2.1 x724.toNat x725) 54 (0:Int),Vec.getD 65 (Vec.set 65 s717.2.2.1 x724.toNat x725) 55 (0:Int),Vec.getD 65 (Vec.set 65 s717.2.2.1 x724.toNat x725) 56 (0:Int),Vec.getD 65 (Vec.set 65 s717.2.2.1 x724.toNat x725) 57 (0:Int),Vec.getD 65 (Vec.set 65 s717.2.2.1 x724.toNat x725) 58 (0:Int),Vec.getD 65 (Vec.set 65 s717.2.2.1 x724.toNat x725) 59 (0:Int),Vec.getD 65 (Vec.set 65 s717.2.2.1 x724.toNat x725) 60 (0:Int),Vec.getD 65 (Vec.set 65 s717.2.2.1 x724.toNat x725) 61 (0:Int),Vec.getD 65 (Vec.set 65 s717.2.2.1 x724.toNat x725) 62 (0:Int),Vec.getD 65 (Vec.set 65 s717.2.2.1 x724.toNat x725) 63 (0:Int),Vec.getD 65 (Vec.set 65 s717.2.2.1 x724.toNat x725) 64 (0:Int)]:(List Int))))),()),())
    else none
   else none
  else none)
def qcz (a0:(List Int)) (a1:Int) (a2:Int) (a3:Bool) (a4:Bool):Option Dq22 :=
 bif (iLt a2 2) then none else
 bif (iEq a2 10) then none else
 bif (iLt 36 a2) then none else
 bif a3 then
  let x640:=iSub .u64 0 a1
  (qci a2).bind fun y641 =>
  bif y641.1.1 then
   (qbi (iWrap .u64 a2)).bind fun y643 =>
   let x644:=iWrap .u64 y643.1.1
   let x645:=iWrap .u64 a2
   let x647:=iSub .u64 (iWrap .u64 a2) 1
   run (qnd x645 x647 x644 a3 a4) (x640,(65:Int),Lq5,())
  else
  let x665:=iWrap .u64 a2
  run (qne x665 a3 a4) (x640,(65:Int),Lq5,())
 else
 (qci a2).bind fun y685 =>
 bif y685.1.1 then
  (qbi (iWrap .u64 a2)).bind fun y687 =>
  let x688:=iWrap .u64 y687.1.1
  let x689:=iWrap .u64 a2
  let x691:=iSub .u64 (iWrap .u64 a2) 1
  run (qb3 x689 x691 x688 a3 a4) (a1,(65:Int),Lq5,())
 else
 let x709:=iWrap .u64 a2
 run (qlv x709 a3 a4) (a1,(65:Int),Lq5,())
def qhc:Entry:=⟨⟨[.v (.list (.int .u8)),.v (.int .u64),.v (.int .i64),.v (.bool),.v (.bool)],[.v (.rows (.int .u8)),.v (.val (.str))],false⟩,fun x=>qcz x.1 x.2.1 x.2.2.1 x.2.2.2.1 x.2.2.2.2.1⟩
theorem qnu (db:GDeb Tryz.prog G):Sound Tryz.prog G 185 qhc:=qab (envS (l:=[(219,qgb),(220,qfa)]) ⟨(qmq),(qq5 db),trivial⟩) [(11,.vary [(1,.sc (.int .u64)),(13,.sc (.int .i64)),(12,.box (.val (.arr 65 (.int .u8))))]),(18,.vary [(1,.sc (.int .u64)),(13,.sc (.int .i64)),(12,.box (.val (.arr 65 (.int .u8))))])] Tryz.func185 (by kernel_rfl) rfl fun _=>by kernel_rfl
end
end Go.Proofs.YtjhdoneobdbeaaaGreatDoor
