import Derived.Test.YtjhdoneobdbeaaaGreatDoorE
/- Functions on typed data: what the evaluation of each Go function is, and that it is sound. -/
set_option linter.unusedVariables false
namespace Go.Proofs.YtjhdoneobdbeaaaGreatDoor
open Go Go.Tm
noncomputable section
set_option maxRecDepth 100000
variable {G : List (Nat × Obj)}
def qax (a0:Int) (a1:Int) (a2:Int):Option Dq7 :=
 bif (iLe a1 a0) then
  some (((iLe a0 a2),()),())
 else some ((false,()),())
def qb6:Entry:=⟨⟨[.v (.int .i64),.v (.int .i64),.v (.int .i64)],[.v (.val (.bool))],false⟩,fun x=>qax x.1 x.2.1 x.2.2.1⟩
theorem qcw:Sound Tryz.prog G 50 qb6:=qab (envS (l:=[]) trivial) [] Tryz.func50 (by kernel_rfl) rfl fun _=>by kernel_rfl
def qbw (a0:Dq1) (a1:Int):Option ((Bool×Unit)×(Dq1×Unit)) :=
 (qax a1 (0:Int) (iSub .i64 (lenI a0.2.1.1) 1)).bind fun y70 =>
 some ((y70.1.1,()),(((a0.1,(a0.2.1.1,a0.2.1.2.1,a0.2.1.2.2.1,a0.2.1.2.2.2),a0.2.2):Dq1),()))
def qis:Entry:=⟨⟨[.io (.pair (.val Uq2) (.pair (.pair (.rows Uq3) (.pair (.rows Uq3) (.pair (.rows Uq7) (.val (.unit))))) (.val (.unit)))),.v (.int .i64)],[.v (.val (.bool))],true⟩,fun x=>qbw x.1 x.2.1⟩
theorem qot:Sound Tryz.prog G 54 qis:=qab (envS (l:=[(50,qb6)]) ⟨(qcw),trivial⟩) [] Tryz.func54 (by kernel_rfl) rfl fun _=>by kernel_rfl
def cmp_isNaN_int32 (a0:Int):Option Dq7 :=
 some (((! (iEq a0 a0)),()),())
def cmp_isNaN_int32_en:Entry:=⟨⟨[.v (.int .i32)],[.v (.val (.bool))],false⟩,fun x=>cmp_isNaN_int32 x.1⟩
theorem qv3:Sound Tryz.prog G 269 cmp_isNaN_int32_en:=qab (envS (l:=[]) trivial) [] Tryz.func269 (by kernel_rfl) rfl fun _=>by kernel_rfl
def cmp_Compare_int32 (a0:Int) (a1:Int):Option Dq11 :=
 (cmp_isNaN_int32 a0).bind fun y115 =>
 (cmp_isNaN_int32 a1).bind fun y116 =>
 bif y115.1.1 then
  bif y116.1.1 then some (((0:Int),()),()) else some ((Lq6,()),())
 else
 bif y116.1.1 then some (((1:Int),()),()) else
 bif (iLt a0 a1) then some ((Lq6,()),()) else
 bif (iLt a1 a0) then some (((1:Int),()),()) else some (((0:Int),()),())
def cmp_Compare_int32_en:Entry:=⟨⟨[.v (.int .i32),.v (.int .i32)],[.v (.val (.int .i64))],false⟩,fun x=>cmp_Compare_int32 x.1 x.2.1⟩
theorem quc:Sound Tryz.prog G 255 cmp_Compare_int32_en:=qab (envS (l:=[(269,cmp_isNaN_int32_en)]) ⟨(qv3),trivial⟩) [] Tryz.func255 (by kernel_rfl) rfl fun _=>by kernel_rfl
def qbl (a0:(List Int)) (a1:(List Int)) (s106:(Int×Unit)):Option ((Int×Unit)⊕Dq11) :=
 bif (iLt s106.1 (lenI a0)) then
  bif inB s106.1 (List.length a0) then
   bif (iLe (lenI a1) s106.1) then
    Option.map Sum.inr (some (((1:Int),()),()))
   else
   bif inB s106.1 (List.length a1) then
    (cmp_Compare_int32 (List.getD a0 s106.1.toNat (0:Int)) (List.getD a1 s106.1.toNat (0:Int))).bind fun y111 =>
    bif (! (iEq y111.1.1 0)) then
     Option.map Sum.inr (some ((y111.1.1,()),()))
    else
    some (Sum.inl ((iAdd .i64 s106.1 1),()))
   else none
  else none
 else
 Option.map Sum.inr (bif (iLt (lenI a0) (lenI a1)) then some ((Lq6,()),()) else some (((0:Int),()),()))
def qhg (a0:(List Int)) (a1:(List Int)):Option Dq11 :=
 run (qbl a0 a1) ((0:Int),())
def qjq:Entry:=⟨⟨[.v (.list (.int .i32)),.v (.list (.int .i32))],[.v (.val (.int .i64))],false⟩,fun x=>qhg x.1 x.2.1⟩
theorem qre:Sound Tryz.prog G 230 qjq:=qab (envS (l:=[(255,cmp_Compare_int32_en)]) ⟨(quc),trivial⟩) [(2,.vary [(11,.sc (.int .i64))])] Tryz.func230 (by kernel_rfl) rfl fun _=>by kernel_rfl
def qds (a0:(Vec 3 Int)) (a1:(Vec 3 Int)):Option Dq11 :=
 (qhg ([Vec.getD 3 a0 0 (0:Int),Vec.getD 3 a0 1 (0:Int),Vec.getD 3 a0 2 (0:Int)]:(List Int)) ([Vec.getD 3 a1 0 (0:Int),Vec.getD 3 a1 1 (0:Int),Vec.getD 3 a1 2 (0:Int)]:(List Int))).bind fun y105 =>
 some ((y105.1.1,()),())
def qge:Entry:=⟨⟨[.v (.arr 3 (.int .i32)),.v (.arr 3 (.int .i32))],[.v (.val (.int .i64))],false⟩,fun x=>qds x.1 x.2.1⟩
theorem qk7:Sound Tryz.prog G 196 qge:=qab (envS (l:=[(230,qjq)]) ⟨(qre),trivial⟩) [] Tryz.func196 (by kernel_rfl) rfl fun _=>by kernel_rfl
def qks (a0:(List Nat)) (s122:(Int×Unit)):Option ((Int×Unit)⊕Dq7) :=
 bif (iLt s122.1 (lenI a0)) then
  bif inB s122.1 (List.length a0) then
   let x124:=List.getD a0 s122.1.toNat (0:Nat)
   bif (! (fEq .f32 (fSub .f32 x124 x124) 0)) then
    Option.map Sum.inr (some ((false,()),()))
   else
   some (Sum.inl ((iAdd .i64 s122.1 1),()))
  else none
 else
 Option.map Sum.inr (some ((true,()),()))
def qci (a0:(List Nat)):Option Dq7 :=
 run (qks a0) ((0:Int),())
def qer:Entry:=⟨⟨[.v (.list (.flt .f32))],[.v (.val (.bool))],false⟩,fun x=>qci x.1⟩
theorem qg9:Sound Tryz.prog G 95 qer:=qab (envS (l:=[]) trivial) [(2,.vary [(7,.sc (.int .i64))])] Tryz.func95 (by kernel_rfl) rfl fun _=>by kernel_rfl
def qdn (a0:Nat):Option Dq7 :=
 (qci ([a0]:(List Nat))).bind fun y120 =>
 bif y120.1.1 then
  some (((fLt .f32 0 a0),()),())
 else some ((false,()),())
def qel:Entry:=⟨⟨[.v (.flt .f32)],[.v (.val (.bool))],false⟩,fun x=>qdn x.1⟩
theorem qgi:Sound Tryz.prog G 48 qel:=qab (envS (l:=[(95,qer)]) ⟨(qg9),trivial⟩) [] Tryz.func48 (by kernel_rfl) rfl fun _=>by kernel_rfl
def qeq (a0:(Vec 3 Nat)):Option Dq7 :=
 (qci ([Vec.getD 3 a0 0 (0:Nat),Vec.getD 3 a0 1 (0:Nat),Vec.getD 3 a0 2 (0:Nat)]:(List Nat))).bind fun y132 =>
 some ((y132.1.1,()),())
def qh0:Entry:=⟨⟨[.v (.arr 3 (.flt .f32))],[.v (.val (.bool))],false⟩,fun x=>qeq x.1⟩
theorem qm8:Sound Tryz.prog G 98 qh0:=qab (envS (l:=[(95,qer)]) ⟨(qg9),trivial⟩) [] Tryz.func98 (by kernel_rfl) rfl fun _=>by kernel_rfl
def qhx (a0:Int):Option Dq7 :=
 (qax a0 (0:Int) (1000000000:Int)).bind fun y133 =>
 some ((y133.1.1,()),())
def qjf:Entry:=⟨⟨[.v (.int .i64)],[.v (.val (.bool))],false⟩,fun x=>qhx x.1⟩
theorem qnt:Sound Tryz.prog G 52 qjf:=qab (envS (l:=[(50,qb6)]) ⟨(qcw),trivial⟩) [] Tryz.func52 (by kernel_rfl) rfl fun _=>by kernel_rfl
def qem (a0:Dq2):Option Dq7 :=
 (qeq a0.2.1).bind fun y128 =>
 bif y128.1.1 then
  (qdn a0.2.2.1).bind fun y129 =>
  bif y129.1.1 then
   (qax a0.2.2.2.1 (1:Int) (1000000:Int)).bind fun y130 =>
   bif y130.1.1 then
    (qhx a0.2.2.2.2.1).bind fun y131 =>
    some ((y131.1.1,()),())
   else some ((false,()),())
  else some ((false,()),())
 else some ((false,()),())
def qjr:Entry:=⟨⟨[.v Uq1],[.v (.val (.bool))],false⟩,fun x=>qem x.1⟩
theorem qpq:Sound Tryz.prog G 195 qjr:=qab (envS (l:=[(48,qel),(50,qb6),(52,qjf),(98,qh0)]) ⟨(qgi),(qcw),(qnt),(qm8),trivial⟩) [] Tryz.func195 (by kernel_rfl) rfl fun _=>by kernel_rfl
def qg6 (a0:Dq3) (s93:(Int×Unit)):Option ((Int×Unit)⊕Dq7) :=
 bif (iLt s93.1 (lenI a0.2.1)) then
  bif inB s93.1 (List.length a0.2.1) then
   let x95:=List.getD a0.2.1 s93.1.toNat Lq1
   (qem x95).bind fun y96 =>
   bif (! y96.1.1) then
    Option.map Sum.inr (some ((false,()),()))
   else
   bif (iLt 0 s93.1) then
    let x99:=iSub .i64 s93.1 1
    bif inB x99 (List.length a0.2.1) then
     (qds x95.1 ((List.getD a0.2.1 x99.toNat Lq1).1)).bind fun y101 =>
     bif (iLe y101.1.1 0) then
      Option.map Sum.inr (some ((false,()),()))
     else
     some (Sum.inl ((iAdd .i64 s93.1 1),()))
    else none
   else
   some (Sum.inl ((iAdd .i64 s93.1 1),()))
  else none
 else
 Option.map Sum.inr (some ((true,()),()))
def qdz (a0:Dq3):Option Dq7 :=
 (qdn a0.1).bind fun y90 =>
 bif (! y90.1.1) then some ((false,()),()) else
 bif (iLt 200 (lenI a0.2.1)) then some ((false,()),()) else run (qg6 a0) ((0:Int),())
def qg5:Entry:=⟨⟨[.v Uq6],[.v (.val (.bool))],false⟩,fun x=>qdz x.1⟩
theorem qkr:Sound Tryz.prog G 159 qg5:=qab (envS (l:=[(48,qel),(195,qjr),(196,qge)]) ⟨(qgi),(qpq),(qk7),trivial⟩) [(4,.vary [(18,.sc (.int .i64))])] Tryz.func159 (by kernel_rfl) rfl fun _=>by kernel_rfl
def qbv (a0:Dq2) (a1:(Vec 3 Int)):Option Dq11 :=
 (qds a0.1 a1).bind fun y242 =>
 some ((y242.1.1,()),())
def qjy:Entry:=⟨⟨[.v Uq1,.v (.arr 3 (.int .i32))],[.v (.val (.int .i64))],false⟩,fun x=>qbv x.1 x.2.1⟩
theorem qs1:Sound Tryz.prog G 259 qjy:=qab (envS (l:=[(196,qge)]) ⟨(qk7),trivial⟩) [] Tryz.func259 (by kernel_rfl) rfl fun _=>by kernel_rfl
def qby (a0:(List Dq2)) (a2:((Dq2×(Vec 3 Int)×Unit)→Option Int)) (a1:(Vec 3 Int)) (s243:Dq17):Option (Dq17⊕Dq13) :=
 bif (iLt s243.1 s243.2.1) then
  let x248:=iWrap .i64 (iShr .u64 (iWrap .u64 (iAdd .i64 s243.1 s243.2.1)) 1)
  bif inB x248 (List.length a0) then
   (a2 ((List.getD a0 x248.toNat Lq1),a1,())).bind fun y250 =>
   bif (iLt y250 0) then
    some (Sum.inl ((iAdd .i64 x248 1),s243.2.1,()))
   else some (Sum.inl (s243.1,x248,()))
  else none
 else
 Option.map Sum.inr (
  bif (iLt s243.1 (lenI a0)) then
   bif inB s243.1 (List.length a0) then
    (a2 ((List.getD a0 s243.1.toNat Lq1),a1,())).bind fun y255 =>
    some ((s243.1,(iEq y255 0),()),())
   else none
  else some ((s243.1,false,()),()))
def qa3 (a0:(List Dq2)) (a1:(Vec 3 Int)) (a2:((Dq2×(Vec 3 Int)×Unit)→Option Int)):Option Dq13 :=
 run (qby a0 a2 a1) ((0:Int),lenI a0,())
def qdl:Entry:=⟨⟨[.v (.list Uq1),.v (.arr 3 (.int .i32)),.fn ⟨[.pair (.arr 3 (.int .i32)) Uq9,.arr 3 (.int .i32)],.int .i64⟩],[.v (.val (.int .i64)),.v (.val (.bool))],false⟩,fun x=>qa3 x.1 x.2.1 x.2.2.1⟩
theorem qih:Sound Tryz.prog G 258 qdl:=qab (envS (l:=[]) trivial) [(3,.vary [(9,.sc (.int .i64)),(10,.sc (.int .i64))])] Tryz.func258 (by kernel_rfl) rfl fun _=>by kernel_rfl
def qd7 (a0:Dq3) (a1:(Vec 3 Int)):Option Dq13 :=
 (qa3 a0.2.1 a1 (fun (z240:(Dq2×(Vec 3 Int)×Unit))=>(qbv z240.1 z240.2.1).map fun y=>y.1.1)).bind fun y241 =>
 some ((y241.1.1,y241.1.2.1,()),())
def qll:Entry:=⟨⟨[.v Uq6,.v (.arr 3 (.int .i32))],[.v (.val (.int .i64)),.v (.val (.bool))],false⟩,fun x=>qd7 x.1 x.2.1⟩
theorem qul:Sound Tryz.prog G 233 qll:=qab (envS (l:=[(258,qdl),(259,qjy)]) ⟨(qih),(qs1),trivial⟩) [] Tryz.func233 (by kernel_rfl) rfl fun _=>by kernel_rfl
def qje (a0:Nat):Option Dq7 :=
 some (((! (fEq .f32 a0 a0)),()),())
def qo6:Entry:=⟨⟨[.v (.flt .f32)],[.v (.val (.bool))],false⟩,fun x=>qje x.1⟩
theorem qu9:Sound Tryz.prog G 161 qo6:=qab (envS (l:=[]) trivial) [] Tryz.func161 (by kernel_rfl) rfl fun _=>by kernel_rfl
def qa1 (a0:Nat) (a1:Nat):Option Dq7 :=
 (qje a0).bind fun y309 =>
 bif y309.1.1 then
  (qje a1).bind fun y310 =>
  bif y310.1.1 then some ((true,()),()) else
  allSame fun (q311:Nat) =>
  allSame fun (q313:Nat) =>
  some (((iEq (bitsF .f32 a0 q311) (bitsF .f32 a1 q313)),()),())
 else
 allSame fun (q316:Nat) =>
 allSame fun (q318:Nat) =>
 some (((iEq (bitsF .f32 a0 q316) (bitsF .f32 a1 q318)),()),())
def qcr:Entry:=⟨⟨[.v (.flt .f32),.v (.flt .f32)],[.v (.val (.bool))],false⟩,fun x=>qa1 x.1 x.2.1⟩
theorem qdr:Sound Tryz.prog G 141 qcr:=qab (envS (l:=[(161,qo6)]) ⟨(qu9),trivial⟩) [] Tryz.func141 (by kernel_rfl) rfl fun _=>by kernel_rfl
def qeu (a0:Nat):Option Dq7 :=
 allSame fun (q322:Nat) =>
 some (((iLt (iWrap .i64 (bitsF .f64 a0 q322)) 0),()),())
def qr6:Entry:=⟨⟨[.v (.flt .f64)],[.v (.val (.bool))],false⟩,fun x=>qeu x.1⟩
theorem qaa8:Sound Tryz.prog G 260 qr6:=qab (envS (l:=[]) trivial) [] Tryz.func260 (by kernel_rfl) rfl fun _=>by kernel_rfl
def qh2 (a0:Dq2) (a1:Dq2):Option Dq7 :=
 (qem a0).bind fun y257 =>
 bif (! y257.1.1) then some ((false,()),()) else
 (qem a1).bind fun y259 =>
 bif (! y259.1.1) then some ((false,()),()) else
 bif (! (iEq a0.2.2.2.2.1 a1.2.2.2.2.1)) then
  some (((iLt a1.2.2.2.2.1 a0.2.2.2.2.1),()),())
 else
 bif (! (fEq .f32 a0.2.2.1 a1.2.2.1)) then
  some (((fLt .f32 a1.2.2.1 a0.2.2.1),()),())
 else
 bif (! (iEq a0.2.2.2.1 a1.2.2.2.1)) then
  some (((iLt a1.2.2.2.1 a0.2.2.2.1),()),())
 else
 (qa1 (Vec.getD 3 a0.2.1 0 (0:Nat)) (Vec.getD 3 a1.2.1 0 (0:Nat))).bind fun y269 =>
 bif (! y269.1.1) then
  bif (fLt .f32 (Vec.getD 3 a1.2.1 0 (0:Nat)) (Vec.getD 3 a0.2.1 0 (0:Nat))) then some ((true,()),()) else
  bif (fEq .f32 (Vec.getD 3 a0.2.1 0 (0:Nat)) (Vec.getD 3 a1.2.1 0 (0:Nat))) then
   (fConv .f32 .f64 (Vec.getD 3 a0.2.1 0 (0:Nat))).bind fun y278 =>
   (qeu y278).bind fun y279 =>
   some (((! y279.1.1),()),())
  else some ((false,()),())
 else
 (qa1 (Vec.getD 3 a0.2.1 1 (0:Nat)) (Vec.getD 3 a1.2.1 1 (0:Nat))).bind fun y283 =>
 bif (! y283.1.1) then
  bif (fLt .f32 (Vec.getD 3 a1.2.1 1 (0:Nat)) (Vec.getD 3 a0.2.1 1 (0:Nat))) then some ((true,()),()) else
  bif (fEq .f32 (Vec.getD 3 a0.2.1 1 (0:Nat)) (Vec.getD 3 a1.2.1 1 (0:Nat))) then
   (fConv .f32 .f64 (Vec.getD 3 a0.2.1 1 (0:Nat))).bind fun y292 =>
   (qeu y292).bind fun y293 =>
   some (((! y293.1.1),()),())
  else some ((false,()),())
 else
 (qa1 (Vec.getD 3 a0.2.1 2 (0:Nat)) (Vec.getD 3 a1.2.1 2 (0:Nat))).bind fun y297 =>
 bif (! y297.1.1) then
  bif (fLt .f32 (Vec.getD 3 a1.2.1 2 (0:Nat)) (Vec.getD 3 a0.2.1 2 (0:Nat))) then some ((true,()),()) else
  bif (fEq .f32 (Vec.getD 3 a0.2.1 2 (0:Nat)) (Vec.getD 3 a1.2.1 2 (0:Nat))) then
   (fConv .f32 .f64 (Vec.getD 3 a0.2.1 2 (0:Nat))).bind fun y306 =>
   (qeu y306).bind fun y307 =>
   some (((! y307.1.1),()),())
  else some ((false,()),())
 else some ((false,()),())
def qop:Entry:=⟨⟨[.v Uq1,.v Uq1],[.v (.val (.bool))],false⟩,fun x=>qh2 x.1 x.2.1⟩
theorem qwf:Sound Tryz.prog G 234 qop:=qab (envS (l:=[(141,qcr),(195,qjr),(260,qr6)]) ⟨(qdr),(qpq),(qaa8),trivial⟩) [(10,.unroll 4)] Tryz.func234 (by kernel_rfl) rfl fun _=>by kernel_rfl
theorem qpg:Sound Tryz.prog G 235 qhs:=qani
def qay (a0:Dq3) (a1:Dq2):Option ((Bool×Unit)×(Dq3×Unit)) :=
 (qd7 ((a0.1,a0.2.1,a0.2.2):Dq3) a1.1).bind fun y233 =>
 bif y233.1.2.1 then
  bif inB y233.1.1 (List.length a0.2.1) then
   (qh2 a1 (List.getD a0.2.1 y233.1.1.toNat Lq1)).bind fun y235 =>
   bif y235.1.1 then
    bif inB y233.1.1 (List.length a0.2.1) then some ((true,()),(((a0.1,List.set a0.2.1 y233.1.1.toNat a1,a0.2.2):Dq3),())) else none
   else
   bif y233.1.2.1 then some ((true,()),(((a0.1,a0.2.1,a0.2.2):Dq3),())) else
   bif (iEq (lenI a0.2.1) 200) then some ((false,()),(((a0.1,a0.2.1,a0.2.2):Dq3),())) else
   (qdi a0.2.1 y233.1.1 ([a1]:(List Dq2))).bind fun y237 =>
   some ((true,()),(((a0.1,y237.1.1,a0.2.2):Dq3),()))
  else none
 else
 bif y233.1.2.1 then some ((true,()),(((a0.1,a0.2.1,a0.2.2):Dq3),())) else
 bif (iEq (lenI a0.2.1) 200) then some ((false,()),(((a0.1,a0.2.1,a0.2.2):Dq3),())) else
 (qdi a0.2.1 y233.1.1 ([a1]:(List Dq2))).bind fun y239 =>
 some ((true,()),(((a0.1,y239.1.1,a0.2.2):Dq3),()))
def qh1:Entry:=⟨⟨[.io (.pair (.val (.flt .f32)) (.pair (.rows Uq1) (.val (.unit)))),.v Uq1],[.v (.val (.bool))],false⟩,fun x=>qay x.1 x.2.1⟩
theorem qm9:Sound Tryz.prog G 199 qh1:=qab (envS (l:=[(233,qll),(234,qop),(235,qhs)]) ⟨(qul),(qwf),(qpg),trivial⟩) [] Tryz.func199 (by kernel_rfl) rfl fun _=>by kernel_rfl
theorem qrd:Sound Tryz.prog G 138 qe8:=qpa Tryz.func138 (by kernel_rfl) (by kernel_rfl) (by kernel_rfl) (by kernel_rfl)
def qkx (a0:Nat):Option Dq15 :=
 allSame fun (q351:Nat) =>
 (ql7 (iAndNot .u64 (bitsF .f64 a0 q351) 9223372036854775808)).bind fun y354 =>
 some ((y354.1.1,()),())
def qym:Entry:=⟨⟨[.v (.flt .f64)],[.v (.val (.flt .f64))],false⟩,fun x=>qkx x.1⟩
theorem qag0:Sound Tryz.prog G 100 qym:=qab (envS (l:=[(138,qe8)]) ⟨(qrd),trivial⟩) [] Tryz.func100 (by kernel_rfl) rfl fun _=>by kernel_rfl
theorem qx0:Sound Tryz.prog G 136 qpu:=qag5 (name := "math.archFloor") Tryz.func136 (by kernel_rfl) (by kernel_rfl) (by kernel_rfl) (by kernel_rfl)
def qfo (a0:Nat):Option Dq15 :=
 (qtn a0).bind fun y355 =>
 some ((y355.1.1,()),())
def qpb:Entry:=⟨⟨[.v (.flt .f64)],[.v (.val (.flt .f64))],false⟩,fun x=>qfo x.1⟩
theorem qvf:Sound Tryz.prog G 99 qpb:=qab (envS (l:=[(136,qpu)]) ⟨(qx0),trivial⟩) [] Tryz.func99 (by kernel_rfl) rfl fun _=>by kernel_rfl
def qb3 (a0:Nat) (a1:(Vec 3 Nat)):Option Dq21 :=
 (qdn a0).bind fun y326 =>
 bif (! y326.1.1) then some ((Lq2,(2:Int),()),()) else
 (qeq a1).bind fun y328 =>
 bif (! y328.1.1) then some ((Lq2,(2:Int),()),()) else
 (fConv .f32 .f64 (fDiv .f32 (Vec.getD 3 a1 0 (0:Nat)) a0)).bind fun y332 =>
 (qfo y332).bind fun y333 =>
 (qkx y333.1.1).bind fun y334 =>
 bif (fLt .f64 4696837146684686336 y334.1.1) then some ((Lq2,(3:Int),()),()) else
 (fToInt .f64 y333.1.1 .i32).bind fun n336 =>
 (fConv .f32 .f64 (fDiv .f32 (Vec.getD 3 a1 1 (0:Nat)) a0)).bind fun y339 =>
 (qfo y339).bind fun y340 =>
 (qkx y340.1.1).bind fun y341 =>
 bif (fLt .f64 4696837146684686336 y341.1.1) then some ((Lq2,(3:Int),()),()) else
 (fToInt .f64 y340.1.1 .i32).bind fun n343 =>
 (fConv .f32 .f64 (fDiv .f32 (Vec.getD 3 a1 2 (0:Nat)) a0)).bind fun y346 =>
 (qfo y346).bind fun y347 =>
 (qkx y347.1.1).bind fun y348 =>
 bif (fLt .f64 4696837146684686336 y348.1.1) then some ((Lq2,(3:Int),()),()) else
 (fToInt .f64 y347.1.1 .i32).bind fun n350 =>
 some ((((n336,n343,n350,()):(Vec 3 Int)),(0:Int),()),())
def qjb:Entry:=⟨⟨[.v (.flt .f32),.v (.arr 3 (.flt .f32))],[.v (.val (.arr 3 (.int .i32))),.v (.val (.int .i64))],false⟩,fun x=>qb3 x.1 x.2.1⟩
theorem qnr:Sound Tryz.prog G 51 qjb:=qab (envS (l:=[(48,qel),(98,qh0),(99,qpb),(100,qym)]) ⟨(qgi),(qm8),(qvf),(qag0),trivial⟩) [(5,.unroll 4)] Tryz.func51 (by kernel_rfl) rfl fun _=>by kernel_rfl
def qhq (a0:(List Nat)) (a1:(List Nat)) (s379:(Nat×Int×Unit)):Option ((Nat×Int×Unit)⊕Dq15) :=
 bif (iLt s379.2.1 (lenI a0)) then
  bif inB s379.2.1 (List.length a0) then
   bif inB s379.2.1 (List.length a1) then
    let x383:=fMul .f32 (List.getD a0 s379.2.1.toNat (0:Nat)) (List.getD a1 s379.2.1.toNat (0:Nat))
    bif (iEq s379.2.1 0) then
     some (Sum.inl (x383,(iAdd .i64 s379.2.1 1),()))
    else
    some (Sum.inl ((fAdd .f32 s379.1 x383),(iAdd .i64 s379.2.1 1),()))
   else none
  else none
 else
 Option.map Sum.inr (some ((s379.1,()),()))
def qlw (a0:(List Nat)) (a1:(List Nat)):Option Dq15 :=
 run (qhq a0 a1) ((0:Nat),(0:Int),())
def qva:Entry:=⟨⟨[.v (.list (.flt .f32)),.v (.list (.flt .f32))],[.v (.val (.flt .f32))],false⟩,fun x=>qlw x.1 x.2.1⟩
theorem qaem:Sound Tryz.prog G 275 qva:=qab (envS (l:=[]) trivial) [(3,.vary [(5,.sc (.flt .f32)),(10,.sc (.int .i64))])] Tryz.func275 (by kernel_rfl) rfl fun _=>by kernel_rfl
def qoa (a0:(Vec 3 Nat)) (a1:(Vec 3 Nat)):Option Dq15 :=
 (qlw ([Vec.getD 3 a0 0 (0:Nat),Vec.getD 3 a0 1 (0:Nat),Vec.getD 3 a0 2 (0:Nat)]:(List Nat)) ([Vec.getD 3 a1 0 (0:Nat),Vec.getD 3 a1 1 (0:Nat),Vec.getD 3 a1 2 (0:Nat)]:(List Nat))).bind fun y378 =>
 some ((y378.1.1,()),())
def qtf:Entry:=⟨⟨[.v (.arr 3 (.flt .f32)),.v (.arr 3 (.flt .f32))],[.v (.val (.flt .f32))],false⟩,fun x=>qoa x.1 x.2.1⟩
theorem qaca:Sound Tryz.prog G 271 qtf:=qab (envS (l:=[(275,qva)]) ⟨(qaem),trivial⟩) [] Tryz.func271 (by kernel_rfl) rfl fun _=>by kernel_rfl
theorem qafx:Sound Tryz.prog G 277 qqw:=qaa9 Tryz.func277 (by kernel_rfl) (by kernel_rfl) (by kernel_rfl) (by kernel_rfl)
def qr7 (a0:Nat):Option Dq15 :=
 (qad0 a0).bind fun y391 =>
 some ((y391.1.1,()),())
def qqv:Entry:=⟨⟨[.v (.flt .f64)],[.v (.val (.flt .f64))],false⟩,fun x=>qr7 x.1⟩
theorem qwu:Sound Tryz.prog G 274 qqv:=qab (envS (l:=[(277,qqw)]) ⟨(qafx),trivial⟩) [] Tryz.func274 (by kernel_rfl) rfl fun _=>by kernel_rfl
def qrv (a0:Nat):Option Dq15 :=
 (fConv .f32 .f64 a0).bind fun y388 =>
 (qr7 y388).bind fun y389 =>
 (fConv .f64 .f32 y389.1.1).bind fun y390 =>
 some ((y390,()),())
def qwl:Entry:=⟨⟨[.v (.flt .f32)],[.v (.val (.flt .f32))],false⟩,fun x=>qrv x.1⟩
theorem qafr:Sound Tryz.prog G 270 qwl:=qab (envS (l:=[(274,qqv)]) ⟨(qwu),trivial⟩) [] Tryz.func270 (by kernel_rfl) rfl fun _=>by kernel_rfl
def qfa (a0:(Vec 3 Nat)):Option Dq15 :=
 (qoa a0 a0).bind fun y376 =>
 (qrv y376.1.1).bind fun y377 =>
 some ((y377.1.1,()),())
def qqm:Entry:=⟨⟨[.v (.arr 3 (.flt .f32))],[.v (.val (.flt .f32))],false⟩,fun x=>qfa x.1⟩
theorem qy4:Sound Tryz.prog G 256 qqm:=qab (envS (l:=[(270,qwl),(271,qtf)]) ⟨(qafr),(qaca),trivial⟩) [] Tryz.func256 (by kernel_rfl) rfl fun _=>by kernel_rfl
def qob (a0:(Vec 3 Nat)) (a1:(Vec 3 Nat)):Option (((Vec 3 Nat)×Unit)×Unit) :=
 let x394:=fSub .f32 (Vec.getD 3 a0 0 (0:Nat)) (Vec.getD 3 a1 0 (0:Nat))
 let x397:=fSub .f32 (Vec.getD 3 (Vec.set 3 a0 0 x394) 1 (0:Nat)) (Vec.getD 3 a1 1 (0:Nat))
 some (((Vec.set 3 (Vec.set 3 (Vec.set 3 a0 0 x394) 1 x397) 2 (fSub .f32 (Vec.getD 3 (Vec.set 3 (Vec.set 3 a0 0 x394) 1 x397) 2 (0:Nat)) (Vec.getD 3 a1 2 (0:Nat)))),()),())
def qtg:Entry:=⟨⟨[.v (.arr 3 (.flt .f32)),.v (.arr 3 (.flt .f32))],[.v (.val (.arr 3 (.flt .f32)))],false⟩,fun x=>qob x.1 x.2.1⟩
theorem qacb:Sound Tryz.prog G 257 qtg:=qab (envS (l:=[]) trivial) [(2,.unroll 4)] Tryz.func257 (by kernel_rfl) rfl fun _=>by kernel_rfl
def qf9 (a0:Dq2) (a1:(Vec 3 Nat)):Option Dq15 :=
 (qob a0.2.1 a1).bind fun y374 =>
 (qfa y374.1.1).bind fun y375 =>
 some ((y375.1.1,()),())
def qlm:Entry:=⟨⟨[.v Uq1,.v (.arr 3 (.flt .f32))],[.v (.val (.flt .f32))],false⟩,fun x=>qf9 x.1 x.2.1⟩
theorem qum:Sound Tryz.prog G 231 qlm:=qab (envS (l:=[(256,qqm),(257,qtg)]) ⟨(qy4),(qacb),trivial⟩) [] Tryz.func231 (by kernel_rfl) rfl fun _=>by kernel_rfl
def qio (a0:(Vec 3 Int)) (a1:(Vec 3 Int)):Option Dq7 :=
 (qax (iSub .i64 (iWrap .i64 (Vec.getD 3 a0 0 (0:Int))) (iWrap .i64 (Vec.getD 3 a1 0 (0:Int)))) Lq6 (1:Int)).bind fun y407 =>
 bif (! y407.1.1) then some ((false,()),()) else
 (qax (iSub .i64 (iWrap .i64 (Vec.getD 3 a0 1 (0:Int))) (iWrap .i64 (Vec.getD 3 a1 1 (0:Int)))) Lq6 (1:Int)).bind fun y414 =>
 bif (! y414.1.1) then some ((false,()),()) else
 (qax (iSub .i64 (iWrap .i64 (Vec.getD 3 a0 2 (0:Int))) (iWrap .i64 (Vec.getD 3 a1 2 (0:Int)))) Lq6 (1:Int)).bind fun y421 =>
 bif (! y421.1.1) then some ((false,()),()) else some ((true,()),())
def qro:Entry:=⟨⟨[.v (.arr 3 (.int .i32)),.v (.arr 3 (.int .i32))],[.v (.val (.bool))],false⟩,fun x=>qio x.1 x.2.1⟩
theorem qaad:Sound Tryz.prog G 232 qro:=qab (envS (l:=[(50,qb6)]) ⟨(qcw),trivial⟩) [(2,.unroll 4)] Tryz.func232 (by kernel_rfl) rfl fun _=>by kernel_rfl
def qe5 (a0:Dq3) (a1:(Vec 3 Nat)) (y356:Dq21) (a2:Nat) (s360:(Int×Nat×Int×Unit)):Option ((Int×Nat×Int×Unit)⊕(Dq17×Unit)) :=
 bif (iLt s360.2.2.1 (lenI a0.2.1)) then
  bif inB s360.2.2.1 (List.length a0.2.1) then
   let x362:=List.getD a0.2.1 s360.2.2.1.toNat Lq1
   (qf9 x362 a1).bind fun y363 =>
   (qio x362.1 y356.1.1).bind fun y364 =>
   bif y364.1.1 then
    bif (fLe .f32 y363.1.1 a2) then
     bif (iLt s360.1 0) then
      some (Sum.inl (s360.2.2.1,y363.1.1,(iAdd .i64 s360.2.2.1 1),()))
     else
     bif (fLt .f32 y363.1.1 s360.2.1) then
      some (Sum.inl (s360.2.2.1,y363.1.1,(iAdd .i64 s360.2.2.1 1),()))
     else
     some (Sum.inl (s360.1,s360.2.1,(iAdd .i64 s360.2.2.1 1),()))
    else
    some (Sum.inl (s360.1,s360.2.1,(iAdd .i64 s360.2.2.1 1),()))
   else
   some (Sum.inl (s360.1,s360.2.1,(iAdd .i64 s360.2.2.1 1),()))
  else none
 else
 Option.map Sum.inr (bif (iLt s360.1 0) then some (((0:Int),(6:Int),()),()) else some ((s360.1,(0:Int),()),()))
def qcl (a0:Dq3) (a1:(Vec 3 Nat)) (a2:Nat):Option (Dq17×Unit) :=
 (qb3 a0.1 a1).bind fun y356 =>
 bif (! (fLe .f32 0 a2)) then some (((0:Int),(2:Int),()),()) else
 bif (! (iEq y356.1.2.1 0)) then some (((0:Int),y356.1.2.1,()),()) else run (qe5 a0 a1 y356 a2) (Lq6,(0:Nat),(0:Int),())
def qnb:Entry:=⟨⟨[.v Uq6,.v (.arr 3 (.flt .f32)),.v (.flt .f32)],[.v (.val (.int .i64)),.v (.val (.int .i64))],false⟩,fun x=>qcl x.1 x.2.1 x.2.2.1⟩
theorem qvp:Sound Tryz.prog G 197 qnb:=qab (envS (l:=[(51,qjb),(231,qlm),(232,qro)]) ⟨(qnr),(qum),(qaad),trivial⟩) [(8,.vary [(10,.sc (.int .i64)),(11,.sc (.flt .f32)),(31,.sc (.int .i64))])] Tryz.func197 (by kernel_rfl) rfl fun _=>by kernel_rfl
def qdo (a0:(List Dq2)):Option (((List Dq2)×Unit)×Unit) :=
 bif List.isEmpty a0 then
  allSame fun (q424:Bool) =>
  bif q424 then some ((([]:(List Dq2)),()),()) else
  bif room (0+List.length a0) 48 then
   some (((([]:(List Dq2))++a0),()),())
  else none
 else
 bif room (0+List.length a0) 48 then
  some (((([]:(List Dq2))++a0),()),())
 else none
def qh8:Entry:=⟨⟨[.v (.list Uq1)],[.v (.rows Uq1)],false⟩,fun x=>qdo x.1⟩
theorem qqc:Sound Tryz.prog G 165 qh8:=qab (envS (l:=[]) trivial) [] Tryz.func165 (by kernel_rfl) rfl fun _=>by kernel_rfl
def qf2 (a0:Dq3):Option ((Dq3×Unit)×Unit) :=
 (qdo a0.2.1).bind fun y423 =>
 some ((((a0.1,y423.1.1,()):Dq3),()),())
def qjh:Entry:=⟨⟨[.v Uq6],[.v (.pair (.val (.flt .f32)) (.pair (.rows Uq1) (.val (.unit))))],false⟩,fun x=>qf2 x.1⟩
theorem qnu:Sound Tryz.prog G 132 qjh:=qab (envS (l:=[(165,qh8)]) ⟨(qqc),trivial⟩) [] Tryz.func132 (by kernel_rfl) rfl fun _=>by kernel_rfl
theorem qpf:Sound Tryz.prog G 198 qhr:=qanh
def qgk (a0:Dq3) (a1:(Vec 3 Nat)) (a2:Nat) (a3:Int) (a4:Nat):Option ((Dq3×(Vec 3 Int)×Bool×Int×Unit)×Unit) :=
 (qdn a2).bind fun y134 =>
 bif (! y134.1.1) then some ((Lq4,Lq2,false,(2:Int),()),()) else
 (qhx a3).bind fun y136 =>
 bif (! y136.1.1) then some ((Lq4,Lq2,false,(2:Int),()),()) else
 (qcl a0 a1 a4).bind fun y138 =>
 bif (! (iEq y138.1.2.1 0)) then
  bif (! (iEq y138.1.2.1 6)) then some ((Lq4,Lq2,false,y138.1.2.1,()),()) else
  (qf2 a0).bind fun y141 =>
  let x142:=iEq y138.1.2.1 0
  bif x142 then
   bif inB y138.1.1 (List.length a0.2.1) then
    let x143:=List.getD a0.2.1 y138.1.1.toNat Lq1
    (qe9 y141.1.1.2.1 y138.1.1 (iAdd .i64 y138.1.1 1)).bind fun y145 =>
    let x146:=fAdd .f32 x143.2.2.1 a2
    let x152:=fDiv .f32 (fAdd .f32 (fMul .f32 x143.2.2.1 (Vec.getD 3 x143.2.1 0 (0:Nat))) (fMul .f32 a2 (Vec.getD 3 a1 0 (0:Nat)))) x146
    let x158:=fDiv .f32 (fAdd .f32 (fMul .f32 x143.2.2.1 (Vec.getD 3 x143.2.1 1 (0:Nat))) (fMul .f32 a2 (Vec.getD 3 a1 1 (0:Nat)))) x146
    let x164:=fDiv .f32 (fAdd .f32 (fMul .f32 x143.2.2.1 (Vec.getD 3 x143.2.1 2 (0:Nat))) (fMul .f32 a2 (Vec.getD 3 a1 2 (0:Nat)))) x146
    (qci ([x146]:(List Nat))).bind fun y165 =>
    bif (! y165.1.1) then
     (qb3 a0.1 (Vec.set 3 (Vec.set 3 (Vec.set 3 a1 0 x152) 1 x158) 2 x164)).bind fun y171 =>
     bif (! (iEq y171.1.2.1 0)) then some ((Lq4,Lq2,false,(3:Int),()),()) else
     (qay ((y141.1.1.1,y145.1.1,y141.1.1.2.2):Dq3) ((y171.1.1,Vec.set 3 (Vec.set 3 (Vec.set 3 a1 0 x152) 1 x158) 2 x164,x143.2.2.1,(iMin (iAdd .i64 x143.2.2.2.1 1) 1000000),(iMax x143.2.2.2.2.1 a3),()):Dq2)).bind fun y173 =>
     bif (! y173.1.1) then some ((Lq4,Lq2,false,(3:Int),()),()) else some ((((y173.2.1.1,y173.2.1.2.1,y173.2.1.2.2):Dq3),y171.1.1,x142,(0:Int),()),())
    else
    (qb3 a0.1 (Vec.set 3 (Vec.set 3 (Vec.set 3 a1 0 x152) 1 x158) 2 x164)).bind fun y179 =>
    bif (! (iEq y179.1.2.1 0)) then some ((Lq4,Lq2,false,(3:Int),()),()) else
    (qay ((y141.1.1.1,y145.1.1,y141.1.1.2.2):Dq3) ((y179.1.1,Vec.set 3 (Vec.set 3 (Vec.set 3 a1 0 x152) 1 x158) 2 x164,x146,(iMin (iAdd .i64 x143.2.2.2.1 1) 1000000),(iMax x143.2.2.2.2.1 a3),()):Dq2)).bind fun y181 =>
    bif (! y181.1.1) then some ((Lq4,Lq2,false,(3:Int),()),()) else some ((((y181.2.1.1,y181.2.1.2.1,y181.2.1.2.2):Dq3),y179.1.1,x142,(0:Int),()),())
   else none
  else
  (qb3 a0.1 a1).bind fun y183 =>
  bif (! (iEq y183.1.2.1 0)) then some ((Lq4,Lq2,false,(3:Int),()),()) else
  (qay ((y141.1.1.1,y141.1.1.2.1,y141.1.1.2.2):Dq3) ((y183.1.1,a1,a2,1,a3,()):Dq2)).bind fun y185 =>
  bif (! y185.1.1) then some ((Lq4,Lq2,false,(3:Int),()),()) else some ((((y185.2.1.1,y185.2.1.2.1,y185.2.1.2.2):Dq3),y183.1.1,x142,(0:Int),()),())
 else
 (qf2 a0).bind fun y187 =>
 let x188:=iEq y138.1.2.1 0
 bif x188 then
  bif inB y138.1.1 (List.length a0.2.1) then
   let x189:=List.getD a0.2.1 y138.1.1.toNat Lq1
   (qe9 y187.1.1.2.1 y138.1.1 (iAdd .i64 y138.1.1 1)).bind fun y191 =>
   let x192:=fAdd .f32 x189.2.2.1 a2
   let x198:=fDiv .f32 (fAdd .f32 (fMul .f32 x189.2.2.1 (Vec.getD 3 x189.2.1 0 (0:Nat))) (fMul .f32 a2 (Vec.getD 3 a1 0 (0:Nat)))) x192
   let x204:=fDiv .f32 (fAdd .f32 (fMul .f32 x189.2.2.1 (Vec.getD 3 x189.2.1 1 (0:Nat))) (fMul .f32 a2 (Vec.getD 3 a1 1 (0:Nat)))) x192
   let x210:=fDiv .f32 (fAdd .f32 (fMul .f32 x189.2.2.1 (Vec.getD 3 x189.2.1 2 (0:Nat))) (fMul .f32 a2 (Vec.getD 3 a1 2 (0:Nat)))) x192
   (qci ([x192]:(List Nat))).bind fun y211 =>
   bif (! y211.1.1) then
    (qb3 a0.1 (Vec.set 3 (Vec.set 3 (Vec.set 3 a1 0 x198) 1 x204) 2 x210)).bind fun y217 =>
    bif (! (iEq y217.1.2.1 0)) then some ((Lq4,Lq2,false,(3:Int),()),()) else
    (qay ((y187.1.1.1,y191.1.1,y187.1.1.2.2):Dq3) ((y217.1.1,Vec.set 3 (Vec.set 3 (Vec.set 3 a1 0 x198) 1 x204) 2 x210,x189.2.2.1,(iMin (iAdd .i64 x189.2.2.2.1 1) 1000000),(iMax x189.2.2.2.2.1 a3),()):Dq2)).bind fun y219 =>
    bif (! y219.1.1) then some ((Lq4,Lq2,false,(3:Int),()),()) else some ((((y219.2.1.1,y219.2.1.2.1,y219.2.1.2.2):Dq3),y217.1.1,x188,(0:Int),()),())
   else
   (qb3 a0.1 (Vec.set 3 (Vec.set 3 (Vec.set 3 a1 0 x198) 1 x204) 2 x210)).bind fun y225 =>
   bif (! (iEq y225.1.2.1 0)) then some ((Lq4,Lq2,false,(3:Int),()),()) else
   (qay ((y187.1.1.1,y191.1.1,y187.1.1.2.2):Dq3) ((y225.1.1,Vec.set 3 (Vec.set 3 (Vec.set 3 a1 0 x198) 1 x204) 2 x210,x192,(iMin (iAdd .i64 x189.2.2.2.1 1) 1000000),(iMax x189.2.2.2.2.1 a3),()):Dq2)).bind fun y227 =>
   bif (! y227.1.1) then some ((Lq4,Lq2,false,(3:Int),()),()) else some ((((y227.2.1.1,y227.2.1.2.1,y227.2.1.2.2):Dq3),y225.1.1,x188,(0:Int),()),())
  else none
 else
 (qb3 a0.1 a1).bind fun y229 =>
 bif (! (iEq y229.1.2.1 0)) then some ((Lq4,Lq2,false,(3:Int),()),()) else
 (qay ((y187.1.1.1,y187.1.1.2.1,y187.1.1.2.2):Dq3) ((y229.1.1,a1,a2,1,a3,()):Dq2)).bind fun y231 =>
 bif (! y231.1.1) then some ((Lq4,Lq2,false,(3:Int),()),()) else some ((((y231.2.1.1,y231.2.1.2.1,y231.2.1.2.2):Dq3),y229.1.1,x188,(0:Int),()),())
def qrs:Entry:=⟨⟨[.v Uq6,.v (.arr 3 (.flt .f32)),.v (.flt .f32),.v (.int .i64),.v (.flt .f32)],[.v (.pair (.val (.flt .f32)) (.pair (.rows Uq1) (.val (.unit)))),.v (.val (.arr 3 (.int .i32))),.v (.val (.bool)),.v (.val (.int .i64))],false⟩,fun x=>qgk x.1 x.2.1 x.2.2.1 x.2.2.2.1 x.2.2.2.2.1⟩
theorem qaaj:Sound Tryz.prog G 160 qrs:=qab (envS (l:=[(48,qel),(51,qjb),(52,qjf),(95,qer),(132,qjh),(197,qnb),(198,qhr),(199,qh1)]) ⟨(qgi),(qnr),(qnt),(qg9),(qnu),(qvp),(qpf),(qm9),trivial⟩) [(14,.unroll 4)] Tryz.func160 (by kernel_rfl) rfl fun _=>by kernel_rfl
def qg4 (a0:Dq3) (a1:(Vec 3 Nat)) (a2:Nat) (a3:Int) (a4:Nat):Option ((Dq3×(Vec 3 Int)×Int×Unit)×Unit) :=
 (qdz a0).bind fun y87 =>
 bif (! y87.1.1) then some ((Lq4,Lq2,(1:Int),()),()) else
 (qgk a0 a1 a2 a3 a4).bind fun y89 =>
 some ((((y89.1.1.1,y89.1.1.2.1,y89.1.1.2.2):Dq3),y89.1.2.1,y89.1.2.2.2.1,()),())
def qna:Entry:=⟨⟨[.v Uq6,.v (.arr 3 (.flt .f32)),.v (.flt .f32),.v (.int .i64),.v (.flt .f32)],[.v (.pair (.val (.flt .f32)) (.pair (.rows Uq1) (.val (.unit)))),.v (.val (.arr 3 (.int .i32))),.v (.val (.int .i64))],false⟩,fun x=>qg4 x.1 x.2.1 x.2.2.1 x.2.2.2.1 x.2.2.2.2.1⟩
theorem qvo:Sound Tryz.prog G 127 qna:=qab (envS (l:=[(159,qg5),(160,qrs)]) ⟨(qkr),(qaaj),trivial⟩) [] Tryz.func127 (by kernel_rfl) rfl fun _=>by kernel_rfl
def qfk (a0:Dq1) (a1:Int):Option Dq20 :=
 (qbw ((a0.1,(a0.2.1.1,a0.2.1.2.1,a0.2.1.2.2.1,a0.2.1.2.2.2),a0.2.2):Dq1) a1).bind fun y73 =>
 bif (! y73.1.1) then
  some (((2:Int),()),(((y73.2.1.1,(y73.2.1.2.1.1,y73.2.1.2.1.2.1,y73.2.1.2.1.2.2.1,y73.2.1.2.1.2.2.2),y73.2.1.2.2):Dq1),()))
 else
 bif inB a1 (List.length y73.2.1.2.1.1) then
  bif inB a1 (List.length y73.2.1.1.2.2.1) then
   let x75:=List.getD y73.2.1.1.2.2.1 a1.toNat ([]:(List Dq4))
   bif (iEq (((List.getD y73.2.1.2.1.1 a1.toNat Lq3).2).1) (lenI x75)) then
    some (((4:Int),()),(((y73.2.1.1,(y73.2.1.2.1.1,y73.2.1.2.1.2.1,y73.2.1.2.1.2.2.1,y73.2.1.2.1.2.2.2),y73.2.1.2.2):Dq1),()))
   else
   let x78:=((List.getD y73.2.1.2.1.1 a1.toNat Lq3).2).1
   bif inB x78 (List.length x75) then
    let x79:=List.getD x75 x78.toNat Lq7
    (qg4 ((List.getD y73.2.1.2.1.1 a1.toNat Lq3).1) x79.1 x79.2.1 x79.2.2.1 y73.2.1.1.2.1).bind fun y81 =>
    bif (! (iEq y81.1.2.2.1 0)) then
     some (((3:Int),()),(((y73.2.1.1,(y73.2.1.2.1.1,y73.2.1.2.1.2.1,y73.2.1.2.1.2.2.1,y73.2.1.2.1.2.2.2),y73.2.1.2.2):Dq1),()))
    else
    let w83:=List.set y73.2.1.2.1.1 a1.toNat (((y81.1.1.1,y81.1.1.2.1,y81.1.1.2.2),(List.getD y73.2.1.2.1.1 a1.toNat Lq3).2):Dq8)
    some (((0:Int),()),(((y73.2.1.1,((List.set w83 a1.toNat (((List.getD w83 a1.toNat Lq3).1,(iAdd .i64 (((List.getD w83 a1.toNat Lq3).2).1) 1),((List.getD w83 a1.toNat Lq3).2).2):Dq8)),y73.2.1.2.1.2.1,y73.2.1.2.1.2.2.1,y73.2.1.2.1.2.2.2),y73.2.1.2.2):Dq1),()))
   else none
  else none
 else none
def qou:Entry:=⟨⟨[.io (.pair (.val Uq2) (.pair (.pair (.rows Uq3) (.pair (.rows Uq3) (.pair (.rows Uq7) (.val (.unit))))) (.val (.unit)))),.v (.int .i64)],[.v (.val (.int .i64))],true⟩,fun x=>qfk x.1 x.2.1⟩
theorem qwm:Sound Tryz.prog G 91 qou:=qab (envS (l:=[(54,qis),(127,qna)]) ⟨(qot),(qvo),trivial⟩) [] Tryz.func91 (by kernel_rfl) rfl fun _=>by kernel_rfl
def qjd (a0:Dq3) (a1:Dq3):Option Dq11 :=
 (qdz a0).bind fun y459 =>
 bif (! y459.1.1) then some (((1:Int),()),()) else
 (qdz a1).bind fun y461 =>
 bif (! y461.1.1) then some (((1:Int),()),()) else
 (qa1 a0.1 a1.1).bind fun y463 =>
 bif (! y463.1.1) then some (((4:Int),()),()) else some (((0:Int),()),())
def qpl:Entry:=⟨⟨[.v Uq6,.v Uq6],[.v (.val (.int .i64))],false⟩,fun x=>qjd x.1 x.2.1⟩
theorem qxq:Sound Tryz.prog G 204 qpl:=qab (envS (l:=[(141,qcr),(159,qg5)]) ⟨(qdr),(qkr),trivial⟩) [] Tryz.func204 (by kernel_rfl) rfl fun _=>by kernel_rfl
def qca (a1:Dq3) (s453:(Int×Dq3×Unit)):Option ((Int×Dq3×Unit)⊕Dq18) :=
 bif (iLt s453.1 (lenI a1.2.1)) then
  bif inB s453.1 (List.length a1.2.1) then
   (qay ((s453.2.1.1,s453.2.1.2.1,s453.2.1.2.2):Dq3) (List.getD a1.2.1 s453.1.toNat Lq1)).bind fun y456 =>
   bif (! y456.1.1) then
    Option.map Sum.inr (some ((Lq4,(3:Int),()),()))
   else
   some (Sum.inl ((iAdd .i64 s453.1 1),((y456.2.1.1,y456.2.1.2.1,y456.2.1.2.2):Dq3),()))
  else none
 else
 Option.map Sum.inr (some ((((s453.2.1.1,s453.2.1.2.1,s453.2.1.2.2):Dq3),(0:Int),()),()))
def qgd (a0:Dq3) (a1:Dq3):Option Dq18 :=
 (qjd a0 a1).bind fun y444 =>
 bif (! (iEq y444.1.1 0)) then some ((Lq4,y444.1.1,()),()) else
 (qf2 a0).bind fun y446 =>
 run (qca a1) ((0:Int),((y446.1.1.1,y446.1.1.2.1,y446.1.1.2.2):Dq3),())
def qpj:Entry:=⟨⟨[.v Uq6,.v Uq6],[.v (.pair (.val (.flt .f32)) (.pair (.rows Uq1) (.val (.unit)))),.v (.val (.int .i64))],false⟩,fun x=>qgd x.1 x.2.1⟩
theorem qxn:Sound Tryz.prog G 167 qpj:=qab (envS (l:=[(132,qjh),(199,qh1),(204,qpl)]) ⟨(qnu),(qm9),(qxq),trivial⟩) [(6,.vary [(22,.sc (.int .i64)),(7,.box (.pair (.val (.flt .f32)) (.pair (.rows Uq1) (.val (.unit)))))])] Tryz.func167 (by kernel_rfl) rfl fun _=>by kernel_rfl
theorem qq8 (mx:GMax 4 G):Sound Tryz.prog G 109 qhk:=qag9 Tryz.func109 (by kernel_rfl) (by kernel_rfl) mx (fun s sep m w h1 h2 h3=>Tryz.strings_Split s sep m w h1 h2 h3)
def qlt (a0:List UInt8):Option (((List (List UInt8))×Bool×Unit)×Unit) :=
 (strings_Split a0 ([10]:List UInt8)).bind fun y470 =>
 let x471:=iSub .i64 (lenI y470.1.1) 1
 bif inS 0 x471 (List.length y470.1.1) then
  bif (iLt 0 x471) then
   bif inB x471 (List.length y470.1.1) then
    some ((List.take x471.toNat (List.drop 0 y470.1.1),(sEq (List.getD y470.1.1 x471.toNat ([]:List UInt8)) ([])),()),())
   else none
  else some ((List.take x471.toNat (List.drop 0 y470.1.1),false,()),())
 else none
def qrq:Entry:=⟨⟨[.v (.str)],[.v (.rows (.str)),.v (.val (.bool))],false⟩,fun x=>qlt x.1⟩
theorem qaag (mx:GMax 4 G):Sound Tryz.prog G 202 qrq:=qab (envS (l:=[(109,qhk)]) ⟨(qq8 mx),trivial⟩) [] Tryz.func202 (by kernel_rfl) rfl fun _=>by kernel_rfl
def qap (a0:Dq5):Option Dq7 :=
 bif (! a0.2.1) then
  some (((iEq (lenI a0.1) 0),()),())
 else some ((false,()),())
def qip:Entry:=⟨⟨[.ro (.pair (.list (.str)) Uq10)],[.v (.val (.bool))],false⟩,fun x=>qap x.1⟩
theorem qqn:Sound Tryz.prog G 69 qip:=qab (envS (l:=[]) trivial) [] Tryz.func69 (by kernel_rfl) rfl fun _=>by kernel_rfl
def qbn (a0:Dq5):Option ((List UInt8×Unit)×(Dq5×Unit)) :=
 bif (iEq (lenI a0.1) 0) then some ((([]:List UInt8),()),(((a0.1,true,a0.2.2):Dq5),())) else
 bif inB 0 (List.length a0.1) then
  bif inS 1 ((List.length a0.1:Nat):Int) (List.length a0.1) then some (((List.getD a0.1 0 ([]:List UInt8)),()),(((List.take ((List.length a0.1)-1) (List.drop 1 a0.1),a0.2):Dq5),())) else none
 else none
def qdg:Entry:=⟨⟨[.io (.pair (.rows (.str)) (.val Uq10))],[.v (.val (.str))],false⟩,fun x=>qbn x.1⟩
theorem qe7:Sound Tryz.prog G 67 qdg:=qab (envS (l:=[]) trivial) [] Tryz.func67 (by kernel_rfl) rfl fun _=>by kernel_rfl
theorem qmz (tb:GTab Tryz.prog G):Sound Tryz.prog G 111 qee:=qz1 Tryz.func111 (by kernel_rfl) (by kernel_rfl) tb Tryz.strconv_FormatInt_10
def qct (a0:Int):Option Dq10 :=
 (qbh a0 (10:Int)).bind fun y612 =>
 some ((y612.1.1,()),())
def qgg:Entry:=⟨⟨[.v (.int .i64)],[.v (.val (.str))],false⟩,fun x=>qct x.1⟩
theorem qk9 (tb:GTab Tryz.prog G):Sound Tryz.prog G 70 qgg:=qab (envS (l:=[(111,qee)]) ⟨(qmz tb),trivial⟩) [] Tryz.func70 (by kernel_rfl) rfl fun _=>by kernel_rfl
theorem qvy (sy:GErr 1 G) (ra:GErr 2 G):Sound Tryz.prog G 110 strconv_ParseInt_en:=qack Tryz.func110 (by kernel_rfl) (by kernel_rfl) sy ra Tryz.strconv_ParseInt_10_at64_ok (fun s hl h1 h2 ev w he hev=>(Tryz.strconv_ParseInt_10_at64_syntax s hl h1 h2 ev w he hev).mono fun e w' ⟨N,h1,_,_,h2⟩=>⟨N,h1,h2⟩) (fun s hl h ev w he hev=>(Tryz.strconv_ParseInt_10_at64_range s hl h ev w he hev).mono fun e w' ⟨N,h1,_,_,h2⟩=>⟨N,h1,h2⟩)
def qad (a0:Dq5):Option ((Int×Unit)×(Dq5×Unit)) :=
 (qbn ((a0.1,a0.2):Dq5)).bind fun y605 =>
 (qco y605.1.1 (10:Int) (64:Int)).bind fun y606 =>
 bif y605.2.1.2.1 then some ((y606.1.1,()),(((y605.2.1.1,true,y605.2.1.2.2):Dq5),())) else
 bif (! y606.1.2.1) then some ((y606.1.1,()),(((y605.2.1.1,true,y605.2.1.2.2):Dq5),())) else
 (qct y606.1.1).bind fun y608 =>
 some ((y606.1.1,()),(((y605.2.1.1,(! (sEq y608.1.1 y605.1.1)),y605.2.1.2.2):Dq5),()))
def qhn:Entry:=⟨⟨[.io (.pair (.rows (.str)) (.val Uq10))],[.v (.val (.int .i64))],false⟩,fun x=>qad x.1⟩
theorem qo8 (tb:GTab Tryz.prog G) (sy:GErr 1 G) (ra:GErr 2 G):Sound Tryz.prog G 68 qhn:=qab (envS (l:=[(67,qdg),(70,qgg),(110,strconv_ParseInt_en)]) ⟨(qe7),(qk9 tb),(qvy sy ra),trivial⟩) [] Tryz.func68 (by kernel_rfl) rfl fun _=>by kernel_rfl
def qea (a0:Dq5) (a1:List UInt8):Option ((Unit)×(Dq5×Unit)) :=
 (qbn ((a0.1,a0.2):Dq5)).bind fun y613 =>
 bif (! (sEq y613.1.1 a1)) then some ((),(((y613.2.1.1,true,y613.2.1.2.2):Dq5),())) else some ((),(((y613.2.1.1,y613.2.1.2.1,y613.2.1.2.2):Dq5),()))
def qjn:Entry:=⟨⟨[.io (.pair (.rows (.str)) (.val Uq10)),.v (.str)],[],false⟩,fun x=>qea x.1 x.2.1⟩
theorem qrb:Sound Tryz.prog G 115 qjn:=qab (envS (l:=[(67,qdg)]) ⟨(qe7),trivial⟩) [] Tryz.func115 (by kernel_rfl) rfl fun _=>by kernel_rfl
def qbz (a0:Int):Option Dq7 :=
 some (((iEq (iAnd .i64 a0 (iSub .i64 a0 1)) 0),()),())
def qet:Entry:=⟨⟨[.v (.int .i64)],[.v (.val (.bool))],false⟩,fun x=>qbz x.1⟩
theorem qkt:Sound Tryz.prog G 219 qet:=qab (envS (l:=[]) trivial) [] Tryz.func219 (by kernel_rfl) rfl fun _=>by kernel_rfl
theorem qpc (db:GDeb Tryz.prog G):Sound Tryz.prog G 220 qd0:=qac2 Tryz.func220 (by kernel_rfl) (by kernel_rfl) db Tryz.trail
def qlh (x645:Int) (x647:Int) (x644:Int) (a3:Bool) (a4:Bool) (s654:Dq14):Option (Dq14⊕Dq19) :=
 bif (iLe x645 s654.1) then
  let x656:=iSub .i64 s654.2.1 1
  let x657:=iAnd .u64 s654.1 x647
  bif inB x657 (List.length ([48,49,50,51,52,53,54,55,56,57,97,98,99,100,101,102,103,104,105,106,107,108,109,110,111,112,113,114,115,116,117,118,119,120,121,122])) then
   bif inB x656 65 then
    bif iLe 0 x644 then
     some (Sum.inl ((iShr .u64 s654.1 x644),x656,Vec.set 65 s654.2.2.1 x656.toNat (strAt ([48,49,50,51,52,53,54,55,56,57,97,98,99,100,101,102,103,104,105,106,107,108,109,110,111,112,113,114,115,116,117,118,119,120,121,122]) x657),()))
    else none
   else none
  else none
 else
 Option.map Sum.inr (
  let x660:=iSub .i64 s654.2.1 1
  bif inB s654.1 (List.length ([48,49,50,51,52,53,54,55,56,57,97,98,99,100,101,102,103,104,105,106,107,108,109,110,111,112,113,114,115,116,117,118,119,120,121,122])) then
   let x661:=strAt ([48,49,50,51,52,53,54,55,56,57,97,98,99,100,101,102,103,104,105,106,107,108,109,110,111,112,113,114,115,116,117,118,119,120,121,122]) s654.1
   bif inB x660 65 then
    bif a3 then
     let x662:=iSub .i64 x660 1
     bif inB x662 65 then
      bif a4 then
       bif inS x662 Lq8 65 then none else none
      else
      bif inS x662 Lq8 65 then
       some ((([]:(List Int)),(ofBytes (List.take (65-x662.toNat) (List.drop x662.toNat ([Vec.getD 65 (Vec.set 65 (Vec.set 65 s654.2.2.1 x660.toNat x661) x662.toNat (45:Int)) 0 (0:Int),Vec.getD 65 (Vec.set 65 (Vec.set 65 s654.2.2.1 x660.toNat x661) x662.toNat (45:Int)) 1 (0:Int),Vec.getD 65 (Vec.set 65 (Vec.set 65 s654.2.2.1 x660.toNat x661) x662.toNat (45:Int)) 2 (0:Int),Vec.getD 65 (Vec.set 65 (Vec.set 65 s654.2.2.1 x660.toNat x661) x662.toNat (45:Int)) 3 (0:Int),Vec.getD 65 (Vec.set 65 (Vec.set 65 s654.2.2.1 x660.toNat x661) x662.toNat (45:Int)) 4 (0:Int),Vec.getD 65 (Vec.set 65 (Vec.set 65 s654.2.2.1 x660.toNat x661) x662.toNat (45:Int)) 5 (0:Int),Vec.getD 65 (Vec.set 65 (Vec.set 65 s654.2.2.1 x660.toNat x661) x662.toNat (45:Int)) 6 (0:Int),Vec.getD 65 (Vec.set 65 (Vec.set 65 s654.2.2.1 x660.toNat x661) x662.toNat (45:Int)) 7 (0:Int),Vec.getD 65 (Vec.set 65 (Vec.set 65 s654.2.2.1 x660.toNat x661) x662.toNat (45:Int)) 8 (0:Int),Vec.getD 65 (Vec.set 65 (Vec.set 65 s654.2.2.1 x660.toNat x661) x662.toNat (45:Int)) 9 (0:Int),Vec.getD 65 (Vec.set 65 (Vec.set 65 s654.2.2.1 x660.toNat x661) x662.toNat (45:Int)) 10 (0:Int),Vec.getD 65 (Vec.set 65 (Vec.set 65 s654.2.2.1 x660.toNat x661) x662.toNat (45:Int)) 11 (0:Int),Vec.getD 65 (Vec.set 65 (Vec.set 65 s654.2.2.1 x660.toNat x661) x662.toNat (45:Int)) 12 (0:Int),Vec.getD 65 (Vec.set 65 (Vec.set 65 s654.2.2.1 x660.toNat x661) x662.toNat (45:Int)) 13 (0:Int),Vec.getD 65 (Vec.set 65 (Vec.set 65 s654.2.2.1 x660.toNat x661) x662.toNat (45:Int)) 14 (0:Int),Vec.getD 65 (Vec.set 65 (Vec.set 65 s654.2.2.1 x660.toNat x661) x662.toNat (45:Int)) 15 (0:Int),Vec.getD 65 (Vec.set 65 (Vec.set 65 s654.2.2.1 x660.toNat x661) x662.toNat (45:Int)) 16 (0:Int),Vec.getD 65 (Vec.set 65 (Vec.set 65 s654.2.2.1 x660.toNat x661) x662.toNat (45:Int)) 17 (0:Int),Vec.getD 65 (Vec.set 65 (Vec.set 65 s654.2.2.1 x660.toNat x661) x662.toNat (45:Int)) 18 (0:Int),Vec.getD 65 (Vec.set 65 (Vec.set 65 s654.2.2.1 x660.toNat x661) x662.toNat (45:Int)) 19 (0:Int),Vec.getD 65 (Vec.set 65 (Vec.set 65 s654.2.2.1 x660.toNat x661) x662.toNat (45:Int)) 20 (0:Int),Vec.getD 65 (Vec.set 65 (Vec.set 65 s654.2.2.1 x660.toNat x661) x662.toNat (45:Int)) 21 (0:Int),Vec.getD 65 (Vec.set 65 (Vec.set 65 s654.2.2.1 x660.toNat x661) x662.toNat (45:Int)) 22 (0:Int),Vec.getD 65 (Vec.set 65 (Vec.set 65 s654.2.2.1 x660.toNat x661) x662.toNat (45:Int)) 23 (0:Int),Vec.getD 65 (Vec.set 65 (Vec.set 65 s654.2.2.1 x660.toNat x661) x662.toNat (45:Int)) 24 (0:Int),Vec.getD 65 (Vec.set 65 (Vec.set 65 s654.2.2.1 x660.toNat x661) x662.toNat (45:Int)) 25 (0:Int),Vec.getD 65 (Vec.set 65 (Vec.set 65 s654.2.2.1 x660.toNat x661) x662.toNat (45:Int)) 26 (0:Int),Vec.getD 65 (Vec.set 65 (Vec.set 65 s654.2.2.1 x660.toNat x661) x662.toNat (45:Int)) 27 (0:Int),Vec.getD 65 (Vec.set 65 (Vec.set 65 s654.2.2.1 x660.toNat x661) x662.toNat (45:Int)) 28 (0:Int),Vec.getD 65 (Vec.set 65 (Vec.set 65 s654.2.2.1 x660.toNat x661) x662.toNat (45:Int)) 29 (0:Int),Vec.getD 65 (Vec.set 65 (Vec.set 65 s654.2.2.1 x660.toNat x661) x662.toNat (45:Int)) 30 (0:Int),Vec.getD 65 (Vec.set 65 (Vec.set 65 s654.2.2.1 x660.toNat x661) x662.toNat (45:Int)) 31 (0:Int),Vec.getD 65 (Vec.set 65 (Vec.set 65 s654.2.2.1 x660.toNat x661) x662.toNat (45:Int)) 32 (0:Int),Vec.getD 65 (Vec.set 65 (Vec.set 65 s654.2.2.1 x660.toNat x661) x662.toNat (45:Int)) 33 (0:Int),Vec.getD 65 (Vec.set 65 (Vec.set 65 s654.2.2.1 x660.toNat x661) x662.toNat (45:Int)) 34 (0:Int),Vec.getD 65 (Vec.set 65 (Vec.set 65 s654.2.2.1 x660.toNat x661) x662.toNat (45:Int)) 35 (0:Int),Vec.getD 65 (Vec.set 65 (Vec.set 65 s654.2.2.1 x660.toNat x661) x662.toNat (45:Int)) 36 (0:Int),Vec.getD 65 (Vec.set 65 (Vec.set 65 s654.2.2.1 x660.toNat x661) x662.toNat (45:Int)) 37 (0:Int),Vec.getD 65 (Vec.set 65 (Vec.set 65 s654.2.2.1 x660.toNat x661) x662.toNat (45:Int)) 38 (0:Int),Vec.getD 65 (Vec.set 65 (Vec.set 65 s654.2.2.1 x660.toNat x661) x662.toNat (45:Int)) 39 (0:Int),Vec.getD 65 (Vec.set 65 (Vec.set 65 s654.2.2.1 x660.toNat x661) x662.toNat (45:Int)) 40 (0:Int),Vec.getD 65 (Vec.set 65 (Vec.set 65 s654.2.2.1 x660.toNat x661) x662.toNat (45:Int)) 41 (0:Int),Vec.getD 65 (Vec.set 65 (Vec.set 65 s654.2.2.1 x660.toNat x661) x662.toNat (45:Int)) 42 (0:Int),Vec.getD 65 (Vec.set 65 (Vec.set 65 s654.2.2.1 x660.toNat x661) x662.toNat (45:Int)) 43 (0:Int),Vec.getD 65 (Vec.set 65 (Vec.set 65 s654.2.2.1 x660.toNat x661) x662.toNat (45:Int)) 44 (0:Int),Vec.getD 65 (Vec.set 65 (Vec.set 65 s654.2.2.1 x660.toNat x661) x662.toNat (45:Int)) 45 (0:Int),Vec.getD 65 (Vec.set 65 (Vec.set 65 s654.2.2.1 x660.toNat x661) x662.toNat (45:Int)) 46 (0:Int),Vec.getD 65 (Vec.set 65 (Vec.set 65 s654.2.2.1 x660.toNat x661) x662.toNat (45:Int)) 47 (0:Int),Vec.getD 65 (Vec.set 65 (Vec.set 65 s654.2.2.1 x660.toNat x661) x662.toNat (45:Int)) 48 (0:Int),Vec.getD 65 (Vec.set 65 (Vec.set 65 s654.2.2.1 x660.toNat x661) x662.toNat (45:Int)) 49 (0:Int),Vec.getD 65 (Vec.set 65 (Vec.set 65 s654.2.2.1 x660.toNat x661) x662.toNat (45:Int)) 50 (0:Int),Vec.getD 65 (Vec.set 65 (Vec.set 65 s654.2.2.1 x660.toNat x661) x662.toNat (45:Int)) 51 (0:Int),Vec.getD 65 (Vec.set 65 (Vec.set 65 s654.2.2.1 x660.toNat x661) x662.toNat (45:Int)) 52 (0:Int),Vec.getD 65 (Vec.set 65 (Vec.set 65 s654.2.2.1 x660.toNat x661) x662.toNat (45:Int)) 53 (0:Int),Vec.getD 65 (Vec.set 65 (Vec.set 65 s654.2.2.1 x660.toNat x661) x662.toNat (45:Int)) 54 (0:Int),Vec.getD 65 (Vec.set 65 (Vec.set 65 s654.2.2.1 x660.toNat x661) x662.toNat (45:Int)) 55 (0:Int),Vec.getD 65 (Vec.set 65 (Vec.set 65 s654.2.2.1 x660.toNat x661) x662.toNat (45:Int)) 56 (0:Int),Vec.getD 65 (Vec.set 65 (Vec.set 65 s654.2.2.1 x660.toNat x661) x662.toNat (45:Int)) 57 (0:Int),Vec.getD 65 (Vec.set 65 (Vec.set 65 s654.2.2.1 x660.toNat x661) x662.toNat (45:Int)) 58 (0:Int),Vec.getD 65 (Vec.set 65 (Vec.set 65 s654.2.2.1 x660.toNat x661) x662.toNat (45:Int)) 59 (0:Int),Vec.getD 65 (Vec.set 65 (Vec.set 65 s654.2.2.1 x660.toNat x661) x662.toNat (45:Int)) 60 (0:Int),Vec.getD 65 (Vec.set 65 (Vec.set 65 s654.2.2.1 x660.toNat x661) x662.toNat (45:Int)) 61 (0:Int),Vec.getD 65 (Vec.set 65 (Vec.set 65 s654.2.2.1 x660.toNat x661) x662.toNat (45:Int)) 62 (0:Int),Vec.getD 65 (Vec.set 65 (Vec.set 65 s654.2.2.1 x660.toNat x661) x662.toNat (45:Int)) 63 (0:Int),Vec.getD 65 (Vec.set 65 (Vec.set 65 s654.2.2.1 x660.toNat x661) x662.toNat (45:Int)) 64 (0:Int)]:(List Int))))),()),())
      else none
     else none
    else
    bif a4 then
     bif inS x660 Lq8 65 then none else none
    else
    bif inS x660 Lq8 65 then
     some ((([]:(List Int)),(ofBytes (List.take (65-x660.toNat) (List.drop x660.toNat ([Vec.getD 65 (Vec.set 65 s654.2.2.1 x660.toNat x661) 0 (0:Int),Vec.getD 65 (Vec.set 65 s654.2.2.1 x660.toNat x661) 1 (0:Int),Vec.getD 65 (Vec.set 65 s654.2.2.1 x660.toNat x661) 2 (0:Int),Vec.getD 65 (Vec.set 65 s654.2.2.1 x660.toNat x661) 3 (0:Int),Vec.getD 65 (Vec.set 65 s654.2.2.1 x660.toNat x661) 4 (0:Int),Vec.getD 65 (Vec.set 65 s654.2.2.1 x660.toNat x661) 5 (0:Int),Vec.getD 65 (Vec.set 65 s654.2.2.1 x660.toNat x661) 6 (0:Int),Vec.getD 65 (Vec.set 65 s654.2.2.1 x660.toNat x661) 7 (0:Int),Vec.getD 65 (Vec.set 65 s654.2.2.1 x660.toNat x661) 8 (0:Int),Vec.getD 65 (Vec.set 65 s654.2.2.1 x660.toNat x661) 9 (0:Int),Vec.getD 65 (Vec.set 65 s654.2.2.1 x660.toNat x661) 10 (0:Int),Vec.getD 65 (Vec.set 65 s654.2.2.1 x660.toNat x661) 11 (0:Int),Vec.getD 65 (Vec.set 65 s654.2.2.1 x660.toNat x661) 12 (0:Int),Vec.getD 65 (Vec.set 65 s654.2.2.1 x660.toNat x661) 13 (0:Int),Vec.getD 65 (Vec.set 65 s654.2.2.1 x660.toNat x661) 14 (0:Int),Vec.getD 65 (Vec.set 65 s654.2.2.1 x660.toNat x661) 15 (0:Int),Vec.getD 65 (Vec.set 65 s654.2.2.1 x660.toNat x661) 16 (0:Int),Vec.getD 65 (Vec.set 65 s654.2.2.1 x660.toNat x661) 17 (0:Int),Vec.getD 65 (Vec.set 65 s654.2.2.1 x660.toNat x661) 18 (0:Int),Vec.getD 65 (Vec.set 65 s654.2.2.1 x660.toNat x661) 19 (0:Int),Vec.getD 65 (Vec.set 65 s654.2.2.1 x660.toNat x661) 20 (0:Int),Vec.getD 65 (Vec.set 65 s654.2.2.1 x660.toNat x661) 21 (0:Int),Vec.getD 65 (Vec.set 65 s654.2.2.1 x660.toNat x661) 22 (0:Int),Vec.getD 65 (Vec.set 65 s654.2.2.1 x660.toNat x661) 23 (0:Int),Vec.getD 65 (Vec.set 65 s654.2.2.1 x660.toNat x661) 24 (0:Int),Vec.getD 65 (Vec.set 65 s654.2.2.1 x660.toNat x661) 25 (0:Int),Vec.getD 65 (Vec.set 65 s654.2.2.1 x660.toNat x661) 26 (0:Int),Vec.getD 65 (Vec.set 65 s654.2.2.1 x660.toNat x661) 27 (0:Int),Vec.getD 65 (Vec.set 65 s654.2.2.1 x660.toNat x661) 28 (0:Int),Vec.getD 65 (Vec.set 65 s654.2.2.1 x660.toNat x661) 29 (0:Int),Vec.getD 65 (Vec.set 65 s654.2.2.1 x660.toNat x661) 30 (0:Int),Vec.getD 65 (Vec.set 65 s654.2.2.1 x660.toNat x661) 31 (0:Int),Vec.getD 65 (Vec.set 65 s654.2.2.1 x660.toNat x661) 32 (0:Int),Vec.getD 65 (Vec.set 65 s654.2.2.1 x660.toNat x661) 33 (0:Int),Vec.getD 65 (Vec.set 65 s654.2.2.1 x660.toNat x661) 34 (0:Int),Vec.getD 65 (Vec.set 65 s654.2.2.1 x660.toNat x661) 35 (0:Int),Vec.getD 65 (Vec.set 65 s654.2.2.1 x660.toNat x661) 36 (0:Int),Vec.getD 65 (Vec.set 65 s654.2.2.1 x660.toNat x661) 37 (0:Int),Vec.getD 65 (Vec.set 65 s654.2.2.1 x660.toNat x661) 38 (0:Int),Vec.getD 65 (Vec.set 65 s654.2.2.1 x660.toNat x661) 39 (0:Int),Vec.getD 65 (Vec.set 65 s654.2.2.1 x660.toNat x661) 40 (0:Int),Vec.getD 65 (Vec.set 65 s654.2.2.1 x660.toNat x661) 41 (0:Int),Vec.getD 65 (Vec.set 65 s654.2.2.1 x660.toNat x661) 42 (0:Int),Vec.getD 65 (Vec.set 65 s654.2.2.1 x660.toNat x661) 43 (0:Int),Vec.getD 65 (Vec.set 65 s654.2.2.1 x660.toNat x661) 44 (0:Int),Vec.getD 65 (Vec.set 65 s654.2.2.1 x660.toNat x661) 45 (0:Int),Vec.getD 65 (Vec.set 65 s654.2.2.1 x660.toNat x661) 46 (0:Int),Vec.getD 65 (Vec.set 65 s654.2.2.1 x660.toNat x661) 47 (0:Int),Vec.getD 65 (Vec.set 65 s654.2.2.1 x660.toNat x661) 48 (0:Int),Vec.getD 65 (Vec.set 65 s654.2.2.1 x660.toNat x661) 49 (0:Int),Vec.getD 65 (Vec.set 65 s654.2.2.1 x660.toNat x661) 50 (0:Int),Vec.getD 65 (Vec.set 65 s654.2.2.1 x660.toNat x661) 51 (0:Int),Vec.getD 65 (Vec.set 65 s654.2.2.1 x660.toNat x661) 52 (0:Int),Vec.getD 65 (Vec.set 65 s654.2.2.1 x660.toNat x661) 53 (0:Int),Vec.getD 65 (Vec.set 65 s654.2.2.1 x660.toNat x661) 54 (0:Int),Vec.getD 65 (Vec.set 65 s654.2.2.1 x660.toNat x661) 55 (0:Int),Vec.getD 65 (Vec.set 65 s654.2.2.1 x660.toNat x661) 56 (0:Int),Vec.getD 65 (Vec.set 65 s654.2.2.1 x660.toNat x661) 57 (0:Int),Vec.getD 65 (Vec.set 65 s654.2.2.1 x660.toNat x661) 58 (0:Int),Vec.getD 65 (Vec.set 65 s654.2.2.1 x660.toNat x661) 59 (0:Int),Vec.getD 65 (Vec.set 65 s654.2.2.1 x660.toNat x661) 60 (0:Int),Vec.getD 65 (Vec.set 65 s654.2.2.1 x660.toNat x661) 61 (0:Int),Vec.getD 65 (Vec.set 65 s654.2.2.1 x660.toNat x661) 62 (0:Int),Vec.getD 65 (Vec.set 65 s654.2.2.1 x660.toNat x661) 63 (0:Int),Vec.getD 65 (Vec.set 65 s654.2.2.1 x660.toNat x661) 64 (0:Int)]:(List Int))))),()),())
    else none
   else none
  else none)
def qli (x665:Int) (a3:Bool) (a4:Bool) (s673:Dq14):Option (Dq14⊕Dq19) :=
 bif (iLe x665 s673.1) then
  let x675:=iSub .i64 s673.2.1 1
  bif iEq x665 0 then none else
  let x676:=iQuo .u64 s673.1 x665
  let x678:=iSub .u64 s673.1 (iMul .u64 x676 x665)
  bif inB x678 (List.length ([48,49,50,51,52,53,54,55,56,57,97,98,99,100,101,102,103,104,105,106,107,108,109,110,111,112,113,114,115,116,117,118,119,120,121,122])) then
   bif inB x675 65 then some (Sum.inl (x676,x675,Vec.set 65 s673.2.2.1 x675.toNat (strAt ([48,49,50,51,52,53,54,55,56,57,97,98,99,100,101,102,103,104,105,106,107,108,109,110,111,112,113,114,115,116,117,118,119,120,121,122]) x678),())) else none
  else none
 else
 Option.map Sum.inr (
  let x680:=iSub .i64 s673.2.1 1
  bif inB s673.1 (List.length ([48,49,50,51,52,53,54,55,56,57,97,98,99,100,101,102,103,104,105,106,107,108,109,110,111,112,113,114,115,116,117,118,119,120,121,122])) then
   let x681:=strAt ([48,49,50,51,52,53,54,55,56,57,97,98,99,100,101,102,103,104,105,106,107,108,109,110,111,112,113,114,115,116,117,118,119,120,121,122]) s673.1
   bif inB x680 65 then
    bif a3 then
     let x682:=iSub .i64 x680 1
     bif inB x682 65 then
      bif a4 then
       bif inS x682 Lq8 65 then none else none
      else
      bif inS x682 Lq8 65 then
       some ((([]:(List Int)),(ofBytes (List.take (65-x682.toNat) (List.drop x682.toNat ([Vec.getD 65 (Vec.set 65 (Vec.set 65 s673.2.2.1 x680.toNat x681) x682.toNat (45:Int)) 0 (0:Int),Vec.getD 65 (Vec.set 65 (Vec.set 65 s673.2.2.1 x680.toNat x681) x682.toNat (45:Int)) 1 (0:Int),Vec.getD 65 (Vec.set 65 (Vec.set 65 s673.2.2.1 x680.toNat x681) x682.toNat (45:Int)) 2 (0:Int),Vec.getD 65 (Vec.set 65 (Vec.set 65 s673.2.2.1 x680.toNat x681) x682.toNat (45:Int)) 3 (0:Int),Vec.getD 65 (Vec.set 65 (Vec.set 65 s673.2.2.1 x680.toNat x681) x682.toNat (45:Int)) 4 (0:Int),Vec.getD 65 (Vec.set 65 (Vec.set 65 s673.2.2.1 x680.toNat x681) x682.toNat (45:Int)) 5 (0:Int),Vec.getD 65 (Vec.set 65 (Vec.set 65 s673.2.2.1 x680.toNat x681) x682.toNat (45:Int)) 6 (0:Int),Vec.getD 65 (Vec.set 65 (Vec.set 65 s673.2.2.1 x680.toNat x681) x682.toNat (45:Int)) 7 (0:Int),Vec.getD 65 (Vec.set 65 (Vec.set 65 s673.2.2.1 x680.toNat x681) x682.toNat (45:Int)) 8 (0:Int),Vec.getD 65 (Vec.set 65 (Vec.set 65 s673.2.2.1 x680.toNat x681) x682.toNat (45:Int)) 9 (0:Int),Vec.getD 65 (Vec.set 65 (Vec.set 65 s673.2.2.1 x680.toNat x681) x682.toNat (45:Int)) 10 (0:Int),Vec.getD 65 (Vec.set 65 (Vec.set 65 s673.2.2.1 x680.toNat x681) x682.toNat (45:Int)) 11 (0:Int),Vec.getD 65 (Vec.set 65 (Vec.set 65 s673.2.2.1 x680.toNat x681) x682.toNat (45:Int)) 12 (0:Int),Vec.getD 65 (Vec.set 65 (Vec.set 65 s673.2.2.1 x680.toNat x681) x682.toNat (45:Int)) 13 (0:Int),Vec.getD 65 (Vec.set 65 (Vec.set 65 s673.2.2.1 x680.toNat x681) x682.toNat (45:Int)) 14 (0:Int),Vec.getD 65 (Vec.set 65 (Vec.set 65 s673.2.2.1 x680.toNat x681) x682.toNat (45:Int)) 15 (0:Int),Vec.getD 65 (Vec.set 65 (Vec.set 65 s673.2.2.1 x680.toNat x681) x682.toNat (45:Int)) 16 (0:Int),Vec.getD 65 (Vec.set 65 (Vec.set 65 s673.2.2.1 x680.toNat x681) x682.toNat (45:Int)) 17 (0:Int),Vec.getD 65 (Vec.set 65 (Vec.set 65 s673.2.2.1 x680.toNat x681) x682.toNat (45:Int)) 18 (0:Int),Vec.getD 65 (Vec.set 65 (Vec.set 65 s673.2.2.1 x680.toNat x681) x682.toNat (45:Int)) 19 (0:Int),Vec.getD 65 (Vec.set 65 (Vec.set 65 s673.2.2.1 x680.toNat x681) x682.toNat (45:Int)) 20 (0:Int),Vec.getD 65 (Vec.set 65 (Vec.set 65 s673.2.2.1 x680.toNat x681) x682.toNat (45:Int)) 21 (0:Int),Vec.getD 65 (Vec.set 65 (Vec.set 65 s673.2.2.1 x680.toNat x681) x682.toNat (45:Int)) 22 (0:Int),Vec.getD 65 (Vec.set 65 (Vec.set 65 s673.2.2.1 x680.toNat x681) x682.toNat (45:Int)) 23 (0:Int),Vec.getD 65 (Vec.set 65 (Vec.set 65 s673.2.2.1 x680.toNat x681) x682.toNat (45:Int)) 24 (0:Int),Vec.getD 65 (Vec.set 65 (Vec.set 65 s673.2.2.1 x680.toNat x681) x682.toNat (45:Int)) 25 (0:Int),Vec.getD 65 (Vec.set 65 (Vec.set 65 s673.2.2.1 x680.toNat x681) x682.toNat (45:Int)) 26 (0:Int),Vec.getD 65 (Vec.set 65 (Vec.set 65 s673.2.2.1 x680.toNat x681) x682.toNat (45:Int)) 27 (0:Int),Vec.getD 65 (Vec.set 65 (Vec.set 65 s673.2.2.1 x680.toNat x681) x682.toNat (45:Int)) 28 (0:Int),Vec.getD 65 (Vec.set 65 (Vec.set 65 s673.2.2.1 x680.toNat x681) x682.toNat (45:Int)) 29 (0:Int),Vec.getD 65 (Vec.set 65 (Vec.set 65 s673.2.2.1 x680.toNat x681) x682.toNat (45:Int)) 30 (0:Int),Vec.getD 65 (Vec.set 65 (Vec.set 65 s673.2.2.1 x680.toNat x681) x682.toNat (45:Int)) 31 (0:Int),Vec.getD 65 (Vec.set 65 (Vec.set 65 s673.2.2.1 x680.toNat x681) x682.toNat (45:Int)) 32 (0:Int),Vec.getD 65 (Vec.set 65 (Vec.set 65 s673.2.2.1 x680.toNat x681) x682.toNat (45:Int)) 33 (0:Int),Vec.getD 65 (Vec.set 65 (Vec.set 65 s673.2.2.1 x680.toNat x681) x682.toNat (45:Int)) 34 (0:Int),Vec.getD 65 (Vec.set 65 (Vec.set 65 s673.2.2.1 x680.toNat x681) x682.toNat (45:Int)) 35 (0:Int),Vec.getD 65 (Vec.set 65 (Vec.set 65 s673.2.2.1 x680.toNat x681) x682.toNat (45:Int)) 36 (0:Int),Vec.getD 65 (Vec.set 65 (Vec.set 65 s673.2.2.1 x680.toNat x681) x682.toNat (45:Int)) 37 (0:Int),Vec.getD 65 (Vec.set 65 (Vec.set 65 s673.2.2.1 x680.toNat x681) x682.toNat (45:Int)) 38 (0:Int),Vec.getD 65 (Vec.set 65 (Vec.set 65 s673.2.2.1 x680.toNat x681) x682.toNat (45:Int)) 39 (0:Int),Vec.getD 65 (Vec.set 65 (Vec.set 65 s673.2.2.1 x680.toNat x681) x682.toNat (45:Int)) 40 (0:Int),Vec.getD 65 (Vec.set 65 (Vec.set 65 s673.2.2.1 x680.toNat x681) x682.toNat (45:Int)) 41 (0:Int),Vec.getD 65 (Vec.set 65 (Vec.set 65 s673.2.2.1 x680.toNat x681) x682.toNat (45:Int)) 42 (0:Int),Vec.getD 65 (Vec.set 65 (Vec.set 65 s673.2.2.1 x680.toNat x681) x682.toNat (45:Int)) 43 (0:Int),Vec.getD 65 (Vec.set 65 (Vec.set 65 s673.2.2.1 x680.toNat x681) x682.toNat (45:Int)) 44 (0:Int),Vec.getD 65 (Vec.set 65 (Vec.set 65 s673.2.2.1 x680.toNat x681) x682.toNat (45:Int)) 45 (0:Int),Vec.getD 65 (Vec.set 65 (Vec.set 65 s673.2.2.1 x680.toNat x681) x682.toNat (45:Int)) 46 (0:Int),Vec.getD 65 (Vec.set 65 (Vec.set 65 s673.2.2.1 x680.toNat x681) x682.toNat (45:Int)) 47 (0:Int),Vec.getD 65 (Vec.set 65 (Vec.set 65 s673.2.2.1 x680.toNat x681) x682.toNat (45:Int)) 48 (0:Int),Vec.getD 65 (Vec.set 65 (Vec.set 65 s673.2.2.1 x680.toNat x681) x682.toNat (45:Int)) 49 (0:Int),Vec.getD 65 (Vec.set 65 (Vec.set 65 s673.2.2.1 x680.toNat x681) x682.toNat (45:Int)) 50 (0:Int),Vec.getD 65 (Vec.set 65 (Vec.set 65 s673.2.2.1 x680.toNat x681) x682.toNat (45:Int)) 51 (0:Int),Vec.getD 65 (Vec.set 65 (Vec.set 65 s673.2.2.1 x680.toNat x681) x682.toNat (45:Int)) 52 (0:Int),Vec.getD 65 (Vec.set 65 (Vec.set 65 s673.2.2.1 x680.toNat x681) x682.toNat (45:Int)) 53 (0:Int),Vec.getD 65 (Vec.set 65 (Vec.set 65 s673.2.2.1 x680.toNat x681) x682.toNat (45:Int)) 54 (0:Int),Vec.getD 65 (Vec.set 65 (Vec.set 65 s673.2.2.1 x680.toNat x681) x682.toNat (45:Int)) 55 (0:Int),Vec.getD 65 (Vec.set 65 (Vec.set 65 s673.2.2.1 x680.toNat x681) x682.toNat (45:Int)) 56 (0:Int),Vec.getD 65 (Vec.set 65 (Vec.set 65 s673.2.2.1 x680.toNat x681) x682.toNat (45:Int)) 57 (0:Int),Vec.getD 65 (Vec.set 65 (Vec.set 65 s673.2.2.1 x680.toNat x681) x682.toNat (45:Int)) 58 (0:Int),Vec.getD 65 (Vec.set 65 (Vec.set 65 s673.2.2.1 x680.toNat x681) x682.toNat (45:Int)) 59 (0:Int),Vec.getD 65 (Vec.set 65 (Vec.set 65 s673.2.2.1 x680.toNat x681) x682.toNat (45:Int)) 60 (0:Int),Vec.getD 65 (Vec.set 65 (Vec.set 65 s673.2.2.1 x680.toNat x681) x682.toNat (45:Int)) 61 (0:Int),Vec.getD 65 (Vec.set 65 (Vec.set 65 s673.2.2.1 x680.toNat x681) x682.toNat (45:Int)) 62 (0:Int),Vec.getD 65 (Vec.set 65 (Vec.set 65 s673.2.2.1 x680.toNat x681) x682.toNat (45:Int)) 63 (0:Int),Vec.getD 65 (Vec.set 65 (Vec.set 65 s673.2.2.1 x680.toNat x681) x682.toNat (45:Int)) 64 (0:Int)]:(List Int))))),()),())
      else none
     else none
    else
    bif a4 then
     bif inS x680 Lq8 65 then none else none
    else
    bif inS x680 Lq8 65 then
     some ((([]:(List Int)),(ofBytes (List.take (65-x680.toNat) (List.drop x680.toNat ([Vec.getD 65 (Vec.set 65 s673.2.2.1 x680.toNat x681) 0 (0:Int),Vec.getD 65 (Vec.set 65 s673.2.2.1 x680.toNat x681) 1 (0:Int),Vec.getD 65 (Vec.set 65 s673.2.2.1 x680.toNat x681) 2 (0:Int),Vec.getD 65 (Vec.set 65 s673.2.2.1 x680.toNat x681) 3 (0:Int),Vec.getD 65 (Vec.set 65 s673.2.2.1 x680.toNat x681) 4 (0:Int),Vec.getD 65 (Vec.set 65 s673.2.2.1 x680.toNat x681) 5 (0:Int),Vec.getD 65 (Vec.set 65 s673.2.2.1 x680.toNat x681) 6 (0:Int),Vec.getD 65 (Vec.set 65 s673.2.2.1 x680.toNat x681) 7 (0:Int),Vec.getD 65 (Vec.set 65 s673.2.2.1 x680.toNat x681) 8 (0:Int),Vec.getD 65 (Vec.set 65 s673.2.2.1 x680.toNat x681) 9 (0:Int),Vec.getD 65 (Vec.set 65 s673.2.2.1 x680.toNat x681) 10 (0:Int),Vec.getD 65 (Vec.set 65 s673.2.2.1 x680.toNat x681) 11 (0:Int),Vec.getD 65 (Vec.set 65 s673.2.2.1 x680.toNat x681) 12 (0:Int),Vec.getD 65 (Vec.set 65 s673.2.2.1 x680.toNat x681) 13 (0:Int),Vec.getD 65 (Vec.set 65 s673.2.2.1 x680.toNat x681) 14 (0:Int),Vec.getD 65 (Vec.set 65 s673.2.2.1 x680.toNat x681) 15 (0:Int),Vec.getD 65 (Vec.set 65 s673.2.2.1 x680.toNat x681) 16 (0:Int),Vec.getD 65 (Vec.set 65 s673.2.2.1 x680.toNat x681) 17 (0:Int),Vec.getD 65 (Vec.set 65 s673.2.2.1 x680.toNat x681) 18 (0:Int),Vec.getD 65 (Vec.set 65 s673.2.2.1 x680.toNat x681) 19 (0:Int),Vec.getD 65 (Vec.set 65 s673.2.2.1 x680.toNat x681) 20 (0:Int),Vec.getD 65 (Vec.set 65 s673.2.2.1 x680.toNat x681) 21 (0:Int),Vec.getD 65 (Vec.set 65 s673.2.2.1 x680.toNat x681) 22 (0:Int),Vec.getD 65 (Vec.set 65 s673.2.2.1 x680.toNat x681) 23 (0:Int),Vec.getD 65 (Vec.set 65 s673.2.2.1 x680.toNat x681) 24 (0:Int),Vec.getD 65 (Vec.set 65 s673.2.2.1 x680.toNat x681) 25 (0:Int),Vec.getD 65 (Vec.set 65 s673.2.2.1 x680.toNat x681) 26 (0:Int),Vec.getD 65 (Vec.set 65 s673.2.2.1 x680.toNat x681) 27 (0:Int),Vec.getD 65 (Vec.set 65 s673.2.2.1 x680.toNat x681) 28 (0:Int),Vec.getD 65 (Vec.set 65 s673.2.2.1 x680.toNat x681) 29 (0:Int),Vec.getD 65 (Vec.set 65 s673.2.2.1 x680.toNat x681) 30 (0:Int),Vec.getD 65 (Vec.set 65 s673.2.2.1 x680.toNat x681) 31 (0:Int),Vec.getD 65 (Vec.set 65 s673.2.2.1 x680.toNat x681) 32 (0:Int),Vec.getD 65 (Vec.set 65 s673.2.2.1 x680.toNat x681) 33 (0:Int),Vec.getD 65 (Vec.set 65 s673.2.2.1 x680.toNat x681) 34 (0:Int),Vec.getD 65 (Vec.set 65 s673.2.2.1 x680.toNat x681) 35 (0:Int),Vec.getD 65 (Vec.set 65 s673.2.2.1 x680.toNat x681) 36 (0:Int),Vec.getD 65 (Vec.set 65 s673.2.2.1 x680.toNat x681) 37 (0:Int),Vec.getD 65 (Vec.set 65 s673.2.2.1 x680.toNat x681) 38 (0:Int),Vec.getD 65 (Vec.set 65 s673.2.2.1 x680.toNat x681) 39 (0:Int),Vec.getD 65 (Vec.set 65 s673.2.2.1 x680.toNat x681) 40 (0:Int),Vec.getD 65 (Vec.set 65 s673.2.2.1 x680.toNat x681) 41 (0:Int),Vec.getD 65 (Vec.set 65 s673.2.2.1 x680.toNat x681) 42 (0:Int),Vec.getD 65 (Vec.set 65 s673.2.2.1 x680.toNat x681) 43 (0:Int),Vec.getD 65 (Vec.set 65 s673.2.2.1 x680.toNat x681) 44 (0:Int),Vec.getD 65 (Vec.set 65 s673.2.2.1 x680.toNat x681) 45 (0:Int),Vec.getD 65 (Vec.set 65 s673.2.2.1 x680.toNat x681) 46 (0:Int),Vec.getD 65 (Vec.set 65 s673.2.2.1 x680.toNat x681) 47 (0:Int),Vec.getD 65 (Vec.set 65 s673.2.2.1 x680.toNat x681) 48 (0:Int),Vec.getD 65 (Vec.set 65 s673.2.2.1 x680.toNat x681) 49 (0:Int),Vec.getD 65 (Vec.set 65 s673.2.2.1 x680.toNat x681) 50 (0:Int),Vec.getD 65 (Vec.set 65 s673.2.2.1 x680.toNat x681) 51 (0:Int),Vec.getD 65 (Vec.set 65 s673.2.2.1 x680.toNat x681) 52 (0:Int),Vec.getD 65 (Vec.set 65 s673.2.2.1 x680.toNat x681) 53 (0:Int),Vec.getD 65 (Vec.set 65 s673.2.2.1 x680.toNat x681) 54 (0:Int),Vec.getD 65 (Vec.set 65 s673.2.2.1 x680.toNat x681) 55 (0:Int),Vec.getD 65 (Vec.set 65 s673.2.2.1 x680.toNat x681) 56 (0:Int),Vec.getD 65 (Vec.set 65 s673.2.2.1 x680.toNat x681) 57 (0:Int),Vec.getD 65 (Vec.set 65 s673.2.2.1 x680.toNat x681) 58 (0:Int),Vec.getD 65 (Vec.set 65 s673.2.2.1 x680.toNat x681) 59 (0:Int),Vec.getD 65 (Vec.set 65 s673.2.2.1 x680.toNat x681) 60 (0:Int),Vec.getD 65 (Vec.set 65 s673.2.2.1 x680.toNat x681) 61 (0:Int),Vec.getD 65 (Vec.set 65 s673.2.2.1 x680.toNat x681) 62 (0:Int),Vec.getD 65 (Vec.set 65 s673.2.2.1 x680.toNat x681) 63 (0:Int),Vec.getD 65 (Vec.set 65 s673.2.2.1 x680.toNat x681) 64 (0:Int)]:(List Int))))),()),())
    else none
   else none
  else none)
def qbj (x689:Int) (x691:Int) (x688:Int) (a3:Bool) (a4:Bool) (s698:Dq14):Option (Dq14⊕Dq19) :=
 bif (iLe x689 s698.1) then
  let x700:=iSub .i64 s698.2.1 1
  let x701:=iAnd .u64 s698.1 x691
  bif inB x701 (List.length ([48,49,50,51,52,53,54,55,56,57,97,98,99,100,101,102,103,104,105,106,107,108,109,110,111,112,113,114,115,116,117,118,119,120,121,122])) then
   bif inB x700 65 then
    bif iLe 0 x688 then
     some (Sum.inl ((iShr .u64 s698.1 x688),x700,Vec.set 65 s698.2.2.1 x700.toNat (strAt ([48,49,50,51,52,53,54,55,56,57,97,98,99,100,101,102,103,104,105,106,107,108,109,110,111,112,113,114,115,116,117,118,119,120,121,122]) x701),()))
    else none
   else none
  else none
 else
 Option.map Sum.inr (
  let x704:=iSub .i64 s698.2.1 1
  bif inB s698.1 (List.length ([48,49,50,51,52,53,54,55,56,57,97,98,99,100,101,102,103,104,105,106,107,108,109,110,111,112,113,114,115,116,117,118,119,120,121,122])) then
   let x705:=strAt ([48,49,50,51,52,53,54,55,56,57,97,98,99,100,101,102,103,104,105,106,107,108,109,110,111,112,113,114,115,116,117,118,119,120,121,122]) s698.1
   bif inB x704 65 then
    bif a3 then
     let x706:=iSub .i64 x704 1
     bif inB x706 65 then
      bif a4 then
       bif inS x706 Lq8 65 then none else none
      else
      bif inS x706 Lq8 65 then
       some ((([]:(List Int)),(ofBytes (List.take (65-x706.toNat) (List.drop x706.toNat ([Vec.getD 65 (Vec.set 65 (Vec.set 65 s698.2.2.1 x704.toNat x705) x706.toNat (45:Int)) 0 (0:Int),Vec.getD 65 (Vec.set 65 (Vec.set 65 s698.2.2.1 x704.toNat x705) x706.toNat (45:Int)) 1 (0:Int),Vec.getD 65 (Vec.set 65 (Vec.set 65 s698.2.2.1 x704.toNat x705) x706.toNat (45:Int)) 2 (0:Int),Vec.getD 65 (Vec.set 65 (Vec.set 65 s698.2.2.1 x704.toNat x705) x706.toNat (45:Int)) 3 (0:Int),Vec.getD 65 (Vec.set 65 (Vec.set 65 s698.2.2.1 x704.toNat x705) x706.toNat (45:Int)) 4 (0:Int),Vec.getD 65 (Vec.set 65 (Vec.set 65 s698.2.2.1 x704.toNat x705) x706.toNat (45:Int)) 5 (0:Int),Vec.getD 65 (Vec.set 65 (Vec.set 65 s698.2.2.1 x704.toNat x705) x706.toNat (45:Int)) 6 (0:Int),Vec.getD 65 (Vec.set 65 (Vec.set 65 s698.2.2.1 x704.toNat x705) x706.toNat (45:Int)) 7 (0:Int),Vec.getD 65 (Vec.set 65 (Vec.set 65 s698.2.2.1 x704.toNat x705) x706.toNat (45:Int)) 8 (0:Int),Vec.getD 65 (Vec.set 65 (Vec.set 65 s698.2.2.1 x704.toNat x705) x706.toNat (45:Int)) 9 (0:Int),Vec.getD 65 (Vec.set 65 (Vec.set 65 s698.2.2.1 x704.toNat x705) x706.toNat (45:Int)) 10 (0:Int),Vec.getD 65 (Vec.set 65 (Vec.set 65 s698.2.2.1 x704.toNat x705) x706.toNat (45:Int)) 11 (0:Int),Vec.getD 65 (Vec.set 65 (Vec.set 65 s698.2.2.1 x704.toNat x705) x706.toNat (45:Int)) 12 (0:Int),Vec.getD 65 (Vec.set 65 (Vec.set 65 s698.2.2.1 x704.toNat x705) x706.toNat (45:Int)) 13 (0:Int),Vec.getD 65 (Vec.set 65 (Vec.set 65 s698.2.2.1 x704.toNat x705) x706.toNat (45:Int)) 14 (0:Int),Vec.getD 65 (Vec.set 65 (Vec.set 65 s698.2.2.1 x704.toNat x705) x706.toNat (45:Int)) 15 (0:Int),Vec.getD 65 (Vec.set 65 (Vec.set 65 s698.2.2.1 x704.toNat x705) x706.toNat (45:Int)) 16 (0:Int),Vec.getD 65 (Vec.set 65 (Vec.set 65 s698.2.2.1 x704.toNat x705) x706.toNat (45:Int)) 17 (0:Int),Vec.getD 65 (Vec.set 65 (Vec.set 65 s698.2.2.1 x704.toNat x705) x706.toNat (45:Int)) 18 (0:Int),Vec.getD 65 (Vec.set 65 (Vec.set 65 s698.2.2.1 x704.toNat x705) x706.toNat (45:Int)) 19 (0:Int),Vec.getD 65 (Vec.set 65 (Vec.set 65 s698.2.2.1 x704.toNat x705) x706.toNat (45:Int)) 20 (0:Int),Vec.getD 65 (Vec.set 65 (Vec.set 65 s698.2.2.1 x704.toNat x705) x706.toNat (45:Int)) 21 (0:Int),Vec.getD 65 (Vec.set 65 (Vec.set 65 s698.2.2.1 x704.toNat x705) x706.toNat (45:Int)) 22 (0:Int),Vec.getD 65 (Vec.set 65 (Vec.set 65 s698.2.2.1 x704.toNat x705) x706.toNat (45:Int)) 23 (0:Int),Vec.getD 65 (Vec.set 65 (Vec.set 65 s698.2.2.1 x704.toNat x705) x706.toNat (45:Int)) 24 (0:Int),Vec.getD 65 (Vec.set 65 (Vec.set 65 s698.2.2.1 x704.toNat x705) x706.toNat (45:Int)) 25 (0:Int),Vec.getD 65 (Vec.set 65 (Vec.set 65 s698.2.2.1 x704.toNat x705) x706.toNat (45:Int)) 26 (0:Int),Vec.getD 65 (Vec.set 65 (Vec.set 65 s698.2.2.1 x704.toNat x705) x706.toNat (45:Int)) 27 (0:Int),Vec.getD 65 (Vec.set 65 (Vec.set 65 s698.2.2.1 x704.toNat x705) x706.toNat (45:Int)) 28 (0:Int),Vec.getD 65 (Vec.set 65 (Vec.set 65 s698.2.2.1 x704.toNat x705) x706.toNat (45:Int)) 29 (0:Int),Vec.getD 65 (Vec.set 65 (Vec.set 65 s698.2.2.1 x704.toNat x705) x706.toNat (45:Int)) 30 (0:Int),Vec.getD 65 (Vec.set 65 (Vec.set 65 s698.2.2.1 x704.toNat x705) x706.toNat (45:Int)) 31 (0:Int),Vec.getD 65 (Vec.set 65 (Vec.set 65 s698.2.2.1 x704.toNat x705) x706.toNat (45:Int)) 32 (0:Int),Vec.getD 65 (Vec.set 65 (Vec.set 65 s698.2.2.1 x704.toNat x705) x706.toNat (45:Int)) 33 (0:Int),Vec.getD 65 (Vec.set 65 (Vec.set 65 s698.2.2.1 x704.toNat x705) x706.toNat (45:Int)) 34 (0:Int),Vec.getD 65 (Vec.set 65 (Vec.set 65 s698.2.2.1 x704.toNat x705) x706.toNat (45:Int)) 35 (0:Int),Vec.getD 65 (Vec.set 65 (Vec.set 65 s698.2.2.1 x704.toNat x705) x706.toNat (45:Int)) 36 (0:Int),Vec.getD 65 (Vec.set 65 (Vec.set 65 s698.2.2.1 x704.toNat x705) x706.toNat (45:Int)) 37 (0:Int),Vec.getD 65 (Vec.set 65 (Vec.set 65 s698.2.2.1 x704.toNat x705) x706.toNat (45:Int)) 38 (0:Int),Vec.getD 65 (Vec.set 65 (Vec.set 65 s698.2.2.1 x704.toNat x705) x706.toNat (45:Int)) 39 (0:Int),Vec.getD 65 (Vec.set 65 (Vec.set 65 s698.2.2.1 x704.toNat x705) x706.toNat (45:Int)) 40 (0:Int),Vec.getD 65 (Vec.set 65 (Vec.set 65 s698.2.2.1 x704.toNat x705) x706.toNat (45:Int)) 41 (0:Int),Vec.getD 65 (Vec.set 65 (Vec.set 65 s698.2.2.1 x704.toNat x705) x706.toNat (45:Int)) 42 (0:Int),Vec.getD 65 (Vec.set 65 (Vec.set 65 s698.2.2.1 x704.toNat x705) x706.toNat (45:Int)) 43 (0:Int),Vec.getD 65 (Vec.set 65 (Vec.set 65 s698.2.2.1 x704.toNat x705) x706.toNat (45:Int)) 44 (0:Int),Vec.getD 65 (Vec.set 65 (Vec.set 65 s698.2.2.1 x704.toNat x705) x706.toNat (45:Int)) 45 (0:Int),Vec.getD 65 (Vec.set 65 (Vec.set 65 s698.2.2.1 x704.toNat x705) x706.toNat (45:Int)) 46 (0:Int),Vec.getD 65 (Vec.set 65 (Vec.set 65 s698.2.2.1 x704.toNat x705) x706.toNat (45:Int)) 47 (0:Int),Vec.getD 65 (Vec.set 65 (Vec.set 65 s698.2.2.1 x704.toNat x705) x706.toNat (45:Int)) 48 (0:Int),Vec.getD 65 (Vec.set 65 (Vec.set 65 s698.2.2.1 x704.toNat x705) x706.toNat (45:Int)) 49 (0:Int),Vec.getD 65 (Vec.set 65 (Vec.set 65 s698.2.2.1 x704.toNat x705) x706.toNat (45:Int)) 50 (0:Int),Vec.getD 65 (Vec.set 65 (Vec.set 65 s698.2.2.1 x704.toNat x705) x706.toNat (45:Int)) 51 (0:Int),Vec.getD 65 (Vec.set 65 (Vec.set 65 s698.2.2.1 x704.toNat x705) x706.toNat (45:Int)) 52 (0:Int),Vec.getD 65 (Vec.set 65 (Vec.set 65 s698.2.2.1 x704.toNat x705) x706.toNat (45:Int)) 53 (0:Int),Vec.getD 65 (Vec.set 65 (Vec.set 65 s698.2.2.1 x704.toNat x705) x706.toNat (45:Int)) 54 (0:Int),Vec.getD 65 (Vec.set 65 (Vec.set 65 s698.2.2.1 x704.toNat x705) x706.toNat (45:Int)) 55 (0:Int),Vec.getD 65 (Vec.set 65 (Vec.set 65 s698.2.2.1 x704.toNat x705) x706.toNat (45:Int)) 56 (0:Int),Vec.getD 65 (Vec.set 65 (Vec.set 65 s698.2.2.1 x704.toNat x705) x706.toNat (45:Int)) 57 (0:Int),Vec.getD 65 (Vec.set 65 (Vec.set 65 s698.2.2.1 x704.toNat x705) x706.toNat (45:Int)) 58 (0:Int),Vec.getD 65 (Vec.set 65 (Vec.set 65 s698.2.2.1 x704.toNat x705) x706.toNat (45:Int)) 59 (0:Int),Vec.getD 65 (Vec.set 65 (Vec.set 65 s698.2.2.1 x704.toNat x705) x706.toNat (45:Int)) 60 (0:Int),Vec.getD 65 (Vec.set 65 (Vec.set 65 s698.2.2.1 x704.toNat x705) x706.toNat (45:Int)) 61 (0:Int),Vec.getD 65 (Vec.set 65 (Vec.set 65 s698.2.2.1 x704.toNat x705) x706.toNat (45:Int)) 62 (0:Int),Vec.getD 65 (Vec.set 65 (Vec.set 65 s698.2.2.1 x704.toNat x705) x706.toNat (45:Int)) 63 (0:Int),Vec.getD 65 (Vec.set 65 (Vec.set 65 s698.2.2.1 x704.toNat x705) x706.toNat (45:Int)) 64 (0:Int)]:(List Int))))),()),())
      else none
     else none
    else
    bif a4 then
     bif inS x704 Lq8 65 then none else none
    else
    bif inS x704 Lq8 65 then
     some ((([]:(List Int)),(ofBytes (List.take (65-x704.toNat) (List.drop x704.toNat ([Vec.getD 65 (Vec.set 65 s698.2.2.1 x704.toNat x705) 0 (0:Int),Vec.getD 65 (Vec.set 65 s698.2.2.1 x704.toNat x705) 1 (0:Int),Vec.getD 65 (Vec.set 65 s698.2.2.1 x704.toNat x705) 2 (0:Int),Vec.getD 65 (Vec.set 65 s698.2.2.1 x704.toNat x705) 3 (0:Int),Vec.getD 65 (Vec.set 65 s698.2.2.1 x704.toNat x705) 4 (0:Int),Vec.getD 65 (Vec.set 65 s698.2.2.1 x704.toNat x705) 5 (0:Int),Vec.getD 65 (Vec.set 65 s698.2.2.1 x704.toNat x705) 6 (0:Int),Vec.getD 65 (Vec.set 65 s698.2.2.1 x704.toNat x705) 7 (0:Int),Vec.getD 65 (Vec.set 65 s698.2.2.1 x704.toNat x705) 8 (0:Int),Vec.getD 65 (Vec.set 65 s698.2.2.1 x704.toNat x705) 9 (0:Int),Vec.getD 65 (Vec.set 65 s698.2.2.1 x704.toNat x705) 10 (0:Int),Vec.getD 65 (Vec.set 65 s698.2.2.1 x704.toNat x705) 11 (0:Int),Vec.getD 65 (Vec.set 65 s698.2.2.1 x704.toNat x705) 12 (0:Int),Vec.getD 65 (Vec.set 65 s698.2.2.1 x704.toNat x705) 13 (0:Int),Vec.getD 65 (Vec.set 65 s698.2.2.1 x704.toNat x705) 14 (0:Int),Vec.getD 65 (Vec.set 65 s698.2.2.1 x704.toNat x705) 15 (0:Int),Vec.getD 65 (Vec.set 65 s698.2.2.1 x704.toNat x705) 16 (0:Int),Vec.getD 65 (Vec.set 65 s698.2.2.1 x704.toNat x705) 17 (0:Int),Vec.getD 65 (Vec.set 65 s698.2.2.1 x704.toNat x705) 18 (0:Int),Vec.getD 65 (Vec.set 65 s698.2.2.1 x704.toNat x705) 19 (0:Int),Vec.getD 65 (Vec.set 65 s698.2.2.1 x704.toNat x705) 20 (0:Int),Vec.getD 65 (Vec.set 65 s698.2.2.1 x704.toNat x705) 21 (0:Int),Vec.getD 65 (Vec.set 65 s698.2.2.1 x704.toNat x705) 22 (0:Int),Vec.getD 65 (Vec.set 65 s698.2.2.1 x704.toNat x705) 23 (0:Int),Vec.getD 65 (Vec.set 65 s698.2.2.1 x704.toNat x705) 24 (0:Int),Vec.getD 65 (Vec.set 65 s698.2.2.1 x704.toNat x705) 25 (0:Int),Vec.getD 65 (Vec.set 65 s698.2.2.1 x704.toNat x705) 26 (0:Int),Vec.getD 65 (Vec.set 65 s698.2.2.1 x704.toNat x705) 27 (0:Int),Vec.getD 65 (Vec.set 65 s698.2.2.1 x704.toNat x705) 28 (0:Int),Vec.getD 65 (Vec.set 65 s698.2.2.1 x704.toNat x705) 29 (0:Int),Vec.getD 65 (Vec.set 65 s698.2.2.1 x704.toNat x705) 30 (0:Int),Vec.getD 65 (Vec.set 65 s698.2.2.1 x704.toNat x705) 31 (0:Int),Vec.getD 65 (Vec.set 65 s698.2.2.1 x704.toNat x705) 32 (0:Int),Vec.getD 65 (Vec.set 65 s698.2.2.1 x704.toNat x705) 33 (0:Int),Vec.getD 65 (Vec.set 65 s698.2.2.1 x704.toNat x705) 34 (0:Int),Vec.getD 65 (Vec.set 65 s698.2.2.1 x704.toNat x705) 35 (0:Int),Vec.getD 65 (Vec.set 65 s698.2.2.1 x704.toNat x705) 36 (0:Int),Vec.getD 65 (Vec.set 65 s698.2.2.1 x704.toNat x705) 37 (0:Int),Vec.getD 65 (Vec.set 65 s698.2.2.1 x704.toNat x705) 38 (0:Int),Vec.getD 65 (Vec.set 65 s698.2.2.1 x704.toNat x705) 39 (0:Int),Vec.getD 65 (Vec.set 65 s698.2.2.1 x704.toNat x705) 40 (0:Int),Vec.getD 65 (Vec.set 65 s698.2.2.1 x704.toNat x705) 41 (0:Int),Vec.getD 65 (Vec.set 65 s698.2.2.1 x704.toNat x705) 42 (0:Int),Vec.getD 65 (Vec.set 65 s698.2.2.1 x704.toNat x705) 43 (0:Int),Vec.getD 65 (Vec.set 65 s698.2.2.1 x704.toNat x705) 44 (0:Int),Vec.getD 65 (Vec.set 65 s698.2.2.1 x704.toNat x705) 45 (0:Int),Vec.getD 65 (Vec.set 65 s698.2.2.1 x704.toNat x705) 46 (0:Int),Vec.getD 65 (Vec.set 65 s698.2.2.1 x704.toNat x705) 47 (0:Int),Vec.getD 65 (Vec.set 65 s698.2.2.1 x704.toNat x705) 48 (0:Int),Vec.getD 65 (Vec.set 65 s698.2.2.1 x704.toNat x705) 49 (0:Int),Vec.getD 65 (Vec.set 65 s698.2.2.1 x704.toNat x705) 50 (0:Int),Vec.getD 65 (Vec.set 65 s698.2.2.1 x704.toNat x705) 51 (0:Int),Vec.getD 65 (Vec.set 65 s698.2.2.1 x704.toNat x705) 52 (0:Int),Vec.getD 65 (Vec.set 65 s698.2.2.1 x704.toNat x705) 53 (0:Int),Vec.getD 65 (Vec.set 65 s698.2.2.1 x704.toNat x705) 54 (0:Int),Vec.getD 65 (Vec.set 65 s698.2.2.1 x704.toNat x705) 55 (0:Int),Vec.getD 65 (Vec.set 65 s698.2.2.1 x704.toNat x705) 56 (0:Int),Vec.getD 65 (Vec.set 65 s698.2.2.1 x704.toNat x705) 57 (0:Int),Vec.getD 65 (Vec.set 65 s698.2.2.1 x704.toNat x705) 58 (0:Int),Vec.getD 65 (Vec.set 65 s698.2.2.1 x704.toNat x705) 59 (0:Int),Vec.getD 65 (Vec.set 65 s698.2.2.1 x704.toNat x705) 60 (0:Int),Vec.getD 65 (Vec.set 65 s698.2.2.1 x704.toNat x705) 61 (0:Int),Vec.getD 65 (Vec.set 65 s698.2.2.1 x704.toNat x705) 62 (0:Int),Vec.getD 65 (Vec.set 65 s698.2.2.1 x704.toNat x705) 63 (0:Int),Vec.getD 65 (Vec.set 65 s698.2.2.1 x704.toNat x705) 64 (0:Int)]:(List Int))))),()),())
    else none
   else none
  else none)
def qj0 (x709:Int) (a3:Bool) (a4:Bool) (s717:Dq14):Option (Dq14⊕Dq19) :=
 bif (iLe x709 s717.1) then
  let x719:=iSub .i64 s717.2.1 1
  bif iEq x709 0 then none else
  let x720:=iQuo .u64 s717.1 x709
  let x722:=iSub .u64 s717.1 (iMul .u64 x720 x709)
  bif inB x722 (List.length ([48,49,50,51,52,53,54,55,56,57,97,98,99,100,101,102,103,104,105,106,107,108,109,110,111,112,113,114,115,116,117,118,119,120,121,122])) then
   bif inB x719 65 then some (Sum.inl (x720,x719,Vec.set 65 s717.2.2.1 x719.toNat (strAt ([48,49,50,51,52,53,54,55,56,57,97,98,99,100,101,102,103,104,105,106,107,108,109,110,111,112,113,114,115,116,117,118,119,120,121,122]) x722),())) else none
  else none
 else
 Option.map Sum.inr (
  let x724:=iSub .i64 s717.2.1 1
  bif inB s717.1 (List.length ([48,49,50,51,52,53,54,55,56,57,97,98,99,100,101,102,103,104,105,106,107,108,109,110,111,112,113,114,115,116,117,118,119,120,121,122])) then
   let x725:=strAt ([48,49,50,51,52,53,54,55,56,57,97,98,99,100,101,102,103,104,105,106,107,108,109,110,111,112,113,114,115,116,117,118,119,120,121,122]) s717.1
   bif inB x724 65 then
    bif a3 then
     let x726:=iSub .i64 x724 1
     bif inB x726 65 then
      bif a4 then
       bif inS x726 Lq8 65 then none else none
      else
      bif inS x726 Lq8 65 then
       some ((([]:(List Int)),(ofBytes (List.take (65-x726.toNat) (List.drop x726.toNat ([Vec.getD 65 (Vec.set 65 (Vec.set 65 s717.2.2.1 x724.toNat x725) x726.toNat (45:Int)) 0 (0:Int),Vec.getD 65 (Vec.set 65 (Vec.set 65 s717.2.2.1 x724.toNat x725) x726.toNat (45:Int)) 1 (0:Int),Vec.getD 65 (Vec.set 65 (Vec.set 65 s717.2.2.1 x724.toNat x725) x726.toNat (45:Int)) 2 (0:Int),Vec.getD 65 (Vec.set 65 (Vec.set 65 s717.2.2.1 x724.toNat x725) x726.toNat (45:Int)) 3 (0:Int),Vec.getD 65 (Vec.set 65 (Vec.set 65 s717.2.2.1 x724.toNat x725) x726.toNat (45:Int)) 4 (0:Int),Vec.getD 65 (Vec.set 65 (Vec.set 65 s717.2.2.1 x724.toNat x725) x726.toNat (45:Int)) 5 (0:Int),Vec.getD 65 (Vec.set 65 (Vec.set 65 s717.2.2.1 x724.toNat x725) x726.toNat (45:Int)) 6 (0:Int),Vec.getD 65 (Vec.set 65 (Vec.set 65 s717.2.2.1 x724.toNat x725) x726.toNat (45:Int)) 7 (0:Int),Vec.getD 65 (Vec.set 65 (Vec.set 65 s717.2.2.1 x724.toNat x725) x726.toNat (45:Int)) 8 (0:Int),Vec.getD 65 (Vec.set 65 (Vec.set 65 s717.2.2.1 x724.toNat x725) x726.toNat (45:Int)) 9 (0:Int),Vec.getD 65 (Vec.set 65 (Vec.set 65 s717.2.2.1 x724.toNat x725) x726.toNat (45:Int)) 10 (0:Int),Vec.getD 65 (Vec.set 65 (Vec.set 65 s717.2.2.1 x724.toNat x725) x726.toNat (45:Int)) 11 (0:Int),Vec.getD 65 (Vec.set 65 (Vec.set 65 s717.2.2.1 x724.toNat x725) x726.toNat (45:Int)) 12 (0:Int),Vec.getD 65 (Vec.set 65 (Vec.set 65 s717.2.2.1 x724.toNat x725) x726.toNat (45:Int)) 13 (0:Int),Vec.getD 65 (Vec.set 65 (Vec.set 65 s717.2.2.1 x724.toNat x725) x726.toNat (45:Int)) 14 (0:Int),Vec.getD 65 (Vec.set 65 (Vec.set 65 s717.2.2.1 x724.toNat x725) x726.toNat (45:Int)) 15 (0:Int),Vec.getD 65 (Vec.set 65 (Vec.set 65 s717.2.2.1 x724.toNat x725) x726.toNat (45:Int)) 16 (0:Int),Vec.getD 65 (Vec.set 65 (Vec.set 65 s717.2.2.1 x724.toNat x725) x726.toNat (45:Int)) 17 (0:Int),Vec.getD 65 (Vec.set 65 (Vec.set 65 s717.2.2.1 x724.toNat x725) x726.toNat (45:Int)) 18 (0:Int),Vec.getD 65 (Vec.set 65 (Vec.set 65 s717.2.2.1 x724.toNat x725) x726.toNat (45:Int)) 19 (0:Int),Vec.getD 65 (Vec.set 65 (Vec.set 65 s717.2.2.1 x724.toNat x725) x726.toNat (45:Int)) 20 (0:Int),Vec.getD 65 (Vec.set 65 (Vec.set 65 s717.2.2.1 x724.toNat x725) x726.toNat (45:Int)) 21 (0:Int),Vec.getD 65 (Vec.set 65 (Vec.set 65 s717.2.2.1 x724.toNat x725) x726.toNat (45:Int)) 22 (0:Int),Vec.getD 65 (Vec.set 65 (Vec.set 65 s717.2.2.1 x724.toNat x725) x726.toNat (45:Int)) 23 (0:Int),Vec.getD 65 (Vec.set 65 (Vec.set 65 s717.2.2.1 x724.toNat x725) x726.toNat (45:Int)) 24 (0:Int),Vec.getD 65 (Vec.set 65 (Vec.set 65 s717.2.2.1 x724.toNat x725) x726.toNat (45:Int)) 25 (0:Int),Vec.getD 65 (Vec.set 65 (Vec.set 65 s717.2.2.1 x724.toNat x725) x726.toNat (45:Int)) 26 (0:Int),Vec.getD 65 (Vec.set 65 (Vec.set 65 s717.2.2.1 x724.toNat x725) x726.toNat (45:Int)) 27 (0:Int),Vec.getD 65 (Vec.set 65 (Vec.set 65 s717.2.2.1 x724.toNat x725) x726.toNat (45:Int)) 28 (0:Int),Vec.getD 65 (Vec.set 65 (Vec.set 65 s717.2.2.1 x724.toNat x725) x726.toNat (45:Int)) 29 (0:Int),Vec.getD 65 (Vec.set 65 (Vec.set 65 s717.2.2.1 x724.toNat x725) x726.toNat (45:Int)) 30 (0:Int),Vec.getD 65 (Vec.set 65 (Vec.set 65 s717.2.2.1 x724.toNat x725) x726.toNat (45:Int)) 31 (0:Int),Vec.getD 65 (Vec.set 65 (Vec.set 65 s717.2.2.1 x724.toNat x725) x726.toNat (45:Int)) 32 (0:Int),Vec.getD 65 (Vec.set 65 (Vec.set 65 s717.2.2.1 x724.toNat x725) x726.toNat (45:Int)) 33 (0:Int),Vec.getD 65 (Vec.set 65 (Vec.set 65 s717.2.2.1 x724.toNat x725) x726.toNat (45:Int)) 34 (0:Int),Vec.getD 65 (Vec.set 65 (Vec.set 65 s717.2.2.1 x724.toNat x725) x726.toNat (45:Int)) 35 (0:Int),Vec.getD 65 (Vec.set 65 (Vec.set 65 s717.2.2.1 x724.toNat x725) x726.toNat (45:Int)) 36 (0:Int),Vec.getD 65 (Vec.set 65 (Vec.set 65 s717.2.2.1 x724.toNat x725) x726.toNat (45:Int)) 37 (0:Int),Vec.getD 65 (Vec.set 65 (Vec.set 65 s717.2.2.1 x724.toNat x725) x726.toNat (45:Int)) 38 (0:Int),Vec.getD 65 (Vec.set 65 (Vec.set 65 s717.2.2.1 x724.toNat x725) x726.toNat (45:Int)) 39 (0:Int),Vec.getD 65 (Vec.set 65 (Vec.set 65 s717.2.2.1 x724.toNat x725) x726.toNat (45:Int)) 40 (0:Int),Vec.getD 65 (Vec.set 65 (Vec.set 65 s717.2.2.1 x724.toNat x725) x726.toNat (45:Int)) 41 (0:Int),Vec.getD 65 (Vec.set 65 (Vec.set 65 s717.2.2.1 x724.toNat x725) x726.toNat (45:Int)) 42 (0:Int),Vec.getD 65 (Vec.set 65 (Vec.set 65 s717.2.2.1 x724.toNat x725) x726.toNat (45:Int)) 43 (0:Int),Vec.getD 65 (Vec.set 65 (Vec.set 65 s717.2.2.1 x724.toNat x725) x726.toNat (45:Int)) 44 (0:Int),Vec.getD 65 (Vec.set 65 (Vec.set 65 s717.2.2.1 x724.toNat x725) x726.toNat (45:Int)) 45 (0:Int),Vec.getD 65 (Vec.set 65 (Vec.set 65 s717.2.2.1 x724.toNat x725) x726.toNat (45:Int)) 46 (0:Int),Vec.getD 65 (Vec.set 65 (Vec.set 65 s717.2.2.1 x724.toNat x725) x726.toNat (45:Int)) 47 (0:Int),Vec.getD 65 (Vec.set 65 (Vec.set 65 s717.2.2.1 x724.toNat x725) x726.toNat (45:Int)) 48 (0:Int),Vec.getD 65 (Vec.set 65 (Vec.set 65 s717.2.2.1 x724.toNat x725) x726.toNat (45:Int)) 49 (0:Int),Vec.getD 65 (Vec.set 65 (Vec.set 65 s717.2.2.1 x724.toNat x725) x726.toNat (45:Int)) 50 (0:Int),Vec.getD 65 (Vec.set 65 (Vec.set 65 s717.2.2.1 x724.toNat x725) x726.toNat (45:Int)) 51 (0:Int),Vec.getD 65 (Vec.set 65 (Vec.set 65 s717.2.2.1 x724.toNat x725) x726.toNat (45:Int)) 52 (0:Int),Vec.getD 65 (Vec.set 65 (Vec.set 65 s717.2.2.1 x724.toNat x725) x726.toNat (45:Int)) 53 (0:Int),Vec.getD 65 (Vec.set 65 (Vec.set 65 s717.2.2.1 x724.toNat x725) x726.toNat (45:Int)) 54 (0:Int),Vec.getD 65 (Vec.set 65 (Vec.set 65 s717.2.2.1 x724.toNat x725) x726.toNat (45:Int)) 55 (0:Int),Vec.getD 65 (Vec.set 65 (Vec.set 65 s717.2.2.1 x724.toNat x725) x726.toNat (45:Int)) 56 (0:Int),Vec.getD 65 (Vec.set 65 (Vec.set 65 s717.2.2.1 x724.toNat x725) x726.toNat (45:Int)) 57 (0:Int),Vec.getD 65 (Vec.set 65 (Vec.set 65 s717.2.2.1 x724.toNat x725) x726.toNat (45:Int)) 58 (0:Int),Vec.getD 65 (Vec.set 65 (Vec.set 65 s717.2.2.1 x724.toNat x725) x726.toNat (45:Int)) 59 (0:Int),Vec.getD 65 (Vec.set 65 (Vec.set 65 s717.2.2.1 x724.toNat x725) x726.toNat (45:Int)) 60 (0:Int),Vec.getD 65 (Vec.set 65 (Vec.set 65 s717.2.2.1 x724.toNat x725) x726.toNat (45:Int)) 61 (0:Int),Vec.getD 65 (Vec.set 65 (Vec.set 65 s717.2.2.1 x724.toNat x725) x726.toNat (45:Int)) 62 (0:Int),Vec.getD 65 (Vec.set 65 (Vec.set 65 s717.2.2.1 x724.toNat x725) x726.toNat (45:Int)) 63 (0:Int),Vec.getD 65 (Vec.set 65 (Vec.set 65 s717.2.2.1 x724.toNat x725) x726.toNat (45:Int)) 64 (0:Int)]:(List Int))))),()),())
      else none
     else none
    else
    bif a4 then
     bif inS x724 Lq8 65 then none else none
    else
    bif inS x724 Lq8 65 then
     some ((([]:(List Int)),(ofBytes (List.take (65-x724.toNat) (List.drop x724.toNat ([Vec.getD 65 (Vec.set 65 s717.2.2.1 x724.toNat x725) 0 (0:Int),Vec.getD 65 (Vec.set 65 s717.2.2.1 x724.toNat x725) 1 (0:Int),Vec.getD 65 (Vec.set 65 s717.2.2.1 x724.toNat x725) 2 (0:Int),Vec.getD 65 (Vec.set 65 s717.2.2.1 x724.toNat x725) 3 (0:Int),Vec.getD 65 (Vec.set 65 s717.2.2.1 x724.toNat x725) 4 (0:Int),Vec.getD 65 (Vec.set 65 s717.2.2.1 x724.toNat x725) 5 (0:Int),Vec.getD 65 (Vec.set 65 s717.2.2.1 x724.toNat x725) 6 (0:Int),Vec.getD 65 (Vec.set 65 s717.2.2.1 x724.toNat x725) 7 (0:Int),Vec.getD 65 (Vec.set 65 s717.2.2.1 x724.toNat x725) 8 (0:Int),Vec.getD 65 (Vec.set 65 s717.2.2.1 x724.toNat x725) 9 (0:Int),Vec.getD 65 (Vec.set 65 s717.2.2.1 x724.toNat x725) 10 (0:Int),Vec.getD 65 (Vec.set 65 s717.2.2.1 x724.toNat x725) 11 (0:Int),Vec.getD 65 (Vec.set 65 s717.2.2.1 x724.toNat x725) 12 (0:Int),Vec.getD 65 (Vec.set 65 s717.2.2.1 x724.toNat x725) 13 (0:Int),Vec.getD 65 (Vec.set 65 s717.2.2.1 x724.toNat x725) 14 (0:Int),Vec.getD 65 (Vec.set 65 s717.2.2.1 x724.toNat x725) 15 (0:Int),Vec.getD 65 (Vec.set 65 s717.2.2.1 x724.toNat x725) 16 (0:Int),Vec.getD 65 (Vec.set 65 s717.2.2.1 x724.toNat x725) 17 (0:Int),Vec.getD 65 (Vec.set 65 s717.2.2.1 x724.toNat x725) 18 (0:Int),Vec.getD 65 (Vec.set 65 s717.2.2.1 x724.toNat x725) 19 (0:Int),Vec.getD 65 (Vec.set 65 s717.2.2.1 x724.toNat x725) 20 (0:Int),Vec.getD 65 (Vec.set 65 s717.2.2.1 x724.toNat x725) 21 (0:Int),Vec.getD 65 (Vec.set 65 s717.2.2.1 x724.toNat x725) 22 (0:Int),Vec.getD 65 (Vec.set 65 s717.2.2.1 x724.toNat x725) 23 (0:Int),Vec.getD 65 (Vec.set 65 s717.2.2.1 x724.toNat x725) 24 (0:Int),Vec.getD 65 (Vec.set 65 s717.2.2.1 x724.toNat x725) 25 (0:Int),Vec.getD 65 (Vec.set 65 s717.2.2.1 x724.toNat x725) 26 (0:Int),Vec.getD 65 (Vec.set 65 s717.2.2.1 x724.toNat x725) 27 (0:Int),Vec.getD 65 (Vec.set 65 s717.2.2.1 x724.toNat x725) 28 (0:Int),Vec.getD 65 (Vec.set 65 s717.2.2.1 x724.toNat x725) 29 (0:Int),Vec.getD 65 (Vec.set 65 s717.2.2.1 x724.toNat x725) 30 (0:Int),Vec.getD 65 (Vec.set 65 s717.2.2.1 x724.toNat x725) 31 (0:Int),Vec.getD 65 (Vec.set 65 s717.2.2.1 x724.toNat x725) 32 (0:Int),Vec.getD 65 (Vec.set 65 s717.2.2.1 x724.toNat x725) 33 (0:Int),Vec.getD 65 (Vec.set 65 s717.2.2.1 x724.toNat x725) 34 (0:Int),Vec.getD 65 (Vec.set 65 s717.2.2.1 x724.toNat x725) 35 (0:Int),Vec.getD 65 (Vec.set 65 s717.2.2.1 x724.toNat x725) 36 (0:Int),Vec.getD 65 (Vec.set 65 s717.2.2.1 x724.toNat x725) 37 (0:Int),Vec.getD 65 (Vec.set 65 s717.2.2.1 x724.toNat x725) 38 (0:Int),Vec.getD 65 (Vec.set 65 s717.2.2.1 x724.toNat x725) 39 (0:Int),Vec.getD 65 (Vec.set 65 s717.2.2.1 x724.toNat x725) 40 (0:Int),Vec.getD 65 (Vec.set 65 s717.2.2.1 x724.toNat x725) 41 (0:Int),Vec.getD 65 (Vec.set 65 s717.2.2.1 x724.toNat x725) 42 (0:Int),Vec.getD 65 (Vec.set 65 s717.2.2.1 x724.toNat x725) 43 (0:Int),Vec.getD 65 (Vec.set 65 s717.2.2.1 x724.toNat x725) 44 (0:Int),Vec.getD 65 (Vec.set 65 s717.2.2.1 x724.toNat x725) 45 (0:Int),Vec.getD 65 (Vec.set 65 s717.2.2.1 x724.toNat x725) 46 (0:Int),Vec.getD 65 (Vec.set 65 s717.2.2.1 x724.toNat x725) 47 (0:Int),Vec.getD 65 (Vec.set 65 s717.2.2.1 x724.toNat x725) 48 (0:Int),Vec.getD 65 (Vec.set 65 s717.2.2.1 x724.toNat x725) 49 (0:Int),Vec.getD 65 (Vec.set 65 s717.2.2.1 x724.toNat x725) 50 (0:Int),Vec.getD 65 (Vec.set 65 s717.2.2.1 x724.toNat x725) 51 (0:Int),Vec.getD 65 (Vec.set 65 s717.2.2.1 x724.toNat x725) 52 (0:Int),Vec.getD 65 (Vec.set 65 s717.2.2.1 x724.toNat x725) 53 (0:Int),Vec.getD 65 (Vec.set 65 s717.2.2.1 x724.toNat x725) 54 (0:Int),Vec.getD 65 (Vec.set 65 s717.2.2.1 x724.toNat x725) 55 (0:Int),Vec.getD 65 (Vec.set 65 s717.2.2.1 x724.toNat x725) 56 (0:Int),Vec.getD 65 (Vec.set 65 s717.2.2.1 x724.toNat x725) 57 (0:Int),Vec.getD 65 (Vec.set 65 s717.2.2.1 x724.toNat x725) 58 (0:Int),Vec.getD 65 (Vec.set 65 s717.2.2.1 x724.toNat x725) 59 (0:Int),Vec.getD 65 (Vec.set 65 s717.2.2.1 x724.toNat x725) 60 (0:Int),Vec.getD 65 (Vec.set 65 s717.2.2.1 x724.toNat x725) 61 (0:Int),Vec.getD 65 (Vec.set 65 s717.2.2.1 x724.toNat x725) 62 (0:Int),Vec.getD 65 (Vec.set 65 s717.2.2.1 x724.toNat x725) 63 (0:Int),Vec.getD 65 (Vec.set 65 s717.2.2.1 x724.toNat x725) 64 (0:Int)]:(List Int))))),()),())
    else none
   else none
  else none)
def qce (a0:(List Int)) (a1:Int) (a2:Int) (a3:Bool) (a4:Bool):Option Dq19 :=
 bif (iLt a2 2) then none else
 bif (iEq a2 10) then none else
 bif (iLt 36 a2) then none else
 bif a3 then
  let x640:=iSub .u64 0 a1
  (qbz a2).bind fun y641 =>
  bif y641.1.1 then
   (qa8 (iWrap .u64 a2)).bind fun y643 =>
   let x644:=iWrap .u64 y643.1.1
   let x645:=iWrap .u64 a2
   let x647:=iSub .u64 (iWrap .u64 a2) 1
   run (qlh x645 x647 x644 a3 a4) (x640,(65:Int),Lq5,())
  else
  let x665:=iWrap .u64 a2
  run (qli x665 a3 a4) (x640,(65:Int),Lq5,())
 else
 (qbz a2).bind fun y685 =>
 bif y685.1.1 then
  (qa8 (iWrap .u64 a2)).bind fun y687 =>
  let x688:=iWrap .u64 y687.1.1
  let x689:=iWrap .u64 a2
  let x691:=iSub .u64 (iWrap .u64 a2) 1
  run (qbj x689 x691 x688 a3 a4) (a1,(65:Int),Lq5,())
 else
 let x709:=iWrap .u64 a2
 run (qj0 x709 a3 a4) (a1,(65:Int),Lq5,())
def qfm:Entry:=⟨⟨[.v (.list (.int .u8)),.v (.int .u64),.v (.int .i64),.v (.bool),.v (.bool)],[.v (.rows (.int .u8)),.v (.val (.str))],false⟩,fun x=>qce x.1 x.2.1 x.2.2.1 x.2.2.2.1 x.2.2.2.2.1⟩
theorem qly (db:GDeb Tryz.prog G):Sound Tryz.prog G 185 qfm:=qab (envS (l:=[(219,qet),(220,qd0)]) ⟨(qkt),(qpc db),trivial⟩) [(11,.vary [(1,.sc (.int .u64)),(13,.sc (.int .i64)),(12,.box (.val (.arr 65 (.int .u8))))]),(18,.vary [(1,.sc (.int .u64)),(13,.sc (.int .i64)),(12,.box (.val (.arr 65 (.int .u8))))])] Tryz.func185 (by kernel_rfl) rfl fun _=>by kernel_rfl
end
end Go.Proofs.YtjhdoneobdbeaaaGreatDoor
