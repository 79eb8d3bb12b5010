import Derived.Test.YtnndahnmlmgenaaGreatDoorE
/- Functions on typed data: what the evaluation of each Go function is, and that it is sound. -/
set_option linter.unusedVariables false
namespace Go.Proofs.YtnndahnmlmgenaaGreatDoor
open Go Go.Tm
noncomputable section
set_option maxRecDepth 100000
variable {G : List (Nat × Obj)}
theorem qqs:Sound Tryz.prog G 128 qit:=qadm (by decide) Tryz.func128 (by kernel_rfl) (by kernel_rfl) (Any.Builder_copyCheck_fresh Tryz.lays240 Tryz.Builder_X72_240) (Any.Builder_copyCheck_used Tryz.lays240 Tryz.Builder_X72_240)
def qav (a0:Dq12) (a1:List UInt8):Option ((Int×Bool×Unit)×(Dq12×Unit)) :=
 (qga ((a0.1,a0.2.1,a0.2.2):Dq12)).bind fun y158 =>
 bif room (List.length y158.2.1.2.1+List.length (bytesOf a1)) 1 then
  some ((lenI a1,true,()),(((y158.2.1.1,(y158.2.1.2.1++(bytesOf a1)),y158.2.1.2.2):Dq12),()))
 else none
def qh0:Entry:=⟨⟨[.io (.pair (.val (.ref 122)) (.pair (.rows (.int .u8)) (.val (.unit)))),.v (.str)],[.v (.val (.int .i64)),.v (.val (.err))],true⟩,fun x=>qav x.1 x.2.1⟩
theorem qpf:Sound Tryz.prog G 68 qh0:=qab (envS (l:=[(128,qit)]) ⟨(qqs),trivial⟩) [] Tryz.func68 (by kernel_rfl) rfl fun _=>by kernel_rfl
def qf6 (a0:Nat):Option Dq9 :=
 some (((! (fEq .f32 a0 a0)),()),())
def qmu:Entry:=⟨⟨[.v (.flt .f32)],[.v (.val (.bool))],false⟩,fun x=>qf6 x.1⟩
theorem qr3:Sound Tryz.prog G 90 qmu:=qab (envS (l:=[]) trivial) [] Tryz.func90 (by kernel_rfl) rfl fun _=>by kernel_rfl
def qcs (a0:Int):Option Dq9 :=
 some (((iEq (iAnd .i64 a0 (iSub .i64 a0 1)) 0),()),())
def qgu:Entry:=⟨⟨[.v (.int .i64)],[.v (.val (.bool))],false⟩,fun x=>qcs x.1⟩
theorem qm9:Sound Tryz.prog G 243 qgu:=qab (envS (l:=[]) trivial) [] Tryz.func243 (by kernel_rfl) rfl fun _=>by kernel_rfl
theorem qr6 (db:GDeb Tryz.prog G):Sound Tryz.prog G 244 qft:=qagg Tryz.func244 (by kernel_rfl) (by kernel_rfl) db Tryz.trail
def qn3 (x182:Int) (x184:Int) (x181:Int) (a3:Bool) (a4:Bool) (s191:Dq23):Option (Dq23⊕Dq25) :=
 bif (iLe x182 s191.1) then
  let x193:=iSub .i64 s191.2.1 1
  let x194:=iAnd .u64 s191.1 x184
  bif inB x194 (List.length ([48,49,50,51,52,53,54,55,56,57,97,98,99,100,101,102,103,104,105,106,107,108,109,110,111,112,113,114,115,116,117,118,119,120,121,122])) then
   bif inB x193 65 then
    bif iLe 0 x181 then
     some (Sum.inl ((iShr .u64 s191.1 x181),x193,Vec.set 65 s191.2.2.1 x193.toNat (strAt ([48,49,50,51,52,53,54,55,56,57,97,98,99,100,101,102,103,104,105,106,107,108,109,110,111,112,113,114,115,116,117,118,119,120,121,122]) x194),()))
    else none
   else none
  else none
 else
 Option.map Sum.inr (
  let x197:=iSub .i64 s191.2.1 1
  bif inB s191.1 (List.length ([48,49,50,51,52,53,54,55,56,57,97,98,99,100,101,102,103,104,105,106,107,108,109,110,111,112,113,114,115,116,117,118,119,120,121,122])) then
   let x198:=strAt ([48,49,50,51,52,53,54,55,56,57,97,98,99,100,101,102,103,104,105,106,107,108,109,110,111,112,113,114,115,116,117,118,119,120,121,122]) s191.1
   bif inB x197 65 then
    bif a3 then
     let x199:=iSub .i64 x197 1
     bif inB x199 65 then
      bif a4 then
       bif inS x199 Lq12 65 then none else none
      else
      bif inS x199 Lq12 65 then
       some ((([]:(List Int)),(ofBytes (List.take (65-x199.toNat) (List.drop x199.toNat ([Vec.getD 65 (Vec.set 65 (Vec.set 65 s191.2.2.1 x197.toNat x198) x199.toNat (45:Int)) 0 (0:Int),Vec.getD 65 (Vec.set 65 (Vec.set 65 s191.2.2.1 x197.toNat x198) x199.toNat (45:Int)) 1 (0:Int),Vec.getD 65 (Vec.set 65 (Vec.set 65 s191.2.2.1 x197.toNat x198) x199.toNat (45:Int)) 2 (0:Int),Vec.getD 65 (Vec.set 65 (Vec.set 65 s191.2.2.1 x197.toNat x198) x199.toNat (45:Int)) 3 (0:Int),Vec.getD 65 (Vec.set 65 (Vec.set 65 s191.2.2.1 x197.toNat x198) x199.toNat (45:Int)) 4 (0:Int),Vec.getD 65 (Vec.set 65 (Vec.set 65 s191.2.2.1 x197.toNat x198) x199.toNat (45:Int)) 5 (0:Int),Vec.getD 65 (Vec.set 65 (Vec.set 65 s191.2.2.1 x197.toNat x198) x199.toNat (45:Int)) 6 (0:Int),Vec.getD 65 (Vec.set 65 (Vec.set 65 s191.2.2.1 x197.toNat x198) x199.toNat (45:Int)) 7 (0:Int),Vec.getD 65 (Vec.set 65 (Vec.set 65 s191.2.2.1 x197.toNat x198) x199.toNat (45:Int)) 8 (0:Int),Vec.getD 65 (Vec.set 65 (Vec.set 65 s191.2.2.1 x197.toNat x198) x199.toNat (45:Int)) 9 (0:Int),Vec.getD 65 (Vec.set 65 (Vec.set 65 s191.2.2.1 x197.toNat x198) x199.toNat (45:Int)) 10 (0:Int),Vec.getD 65 (Vec.set 65 (Vec.set 65 s191.2.2.1 x197.toNat x198) x199.toNat (45:Int)) 11 (0:Int),Vec.getD 65 (Vec.set 65 (Vec.set 65 s191.2.2.1 x197.toNat x198) x199.toNat (45:Int)) 12 (0:Int),Vec.getD 65 (Vec.set 65 (Vec.set 65 s191.2.2.1 x197.toNat x198) x199.toNat (45:Int)) 13 (0:Int),Vec.getD 65 (Vec.set 65 (Vec.set 65 s191.2.2.1 x197.toNat x198) x199.toNat (45:Int)) 14 (0:Int),Vec.getD 65 (Vec.set 65 (Vec.set 65 s191.2.2.1 x197.toNat x198) x199.toNat (45:Int)) 15 (0:Int),Vec.getD 65 (Vec.set 65 (Vec.set 65 s191.2.2.1 x197.toNat x198) x199.toNat (45:Int)) 16 (0:Int),Vec.getD 65 (Vec.set 65 (Vec.set 65 s191.2.2.1 x197.toNat x198) x199.toNat (45:Int)) 17 (0:Int),Vec.getD 65 (Vec.set 65 (Vec.set 65 s191.2.2.1 x197.toNat x198) x199.toNat (45:Int)) 18 (0:Int),Vec.getD 65 (Vec.set 65 (Vec.set 65 s191.2.2.1 x197.toNat x198) x199.toNat (45:Int)) 19 (0:Int),Vec.getD 65 (Vec.set 65 (Vec.set 65 s191.2.2.1 x197.toNat x198) x199.toNat (45:Int)) 20 (0:Int),Vec.getD 65 (Vec.set 65 (Vec.set 65 s191.2.2.1 x197.toNat x198) x199.toNat (45:Int)) 21 (0:Int),Vec.getD 65 (Vec.set 65 (Vec.set 65 s191.2.2.1 x197.toNat x198) x199.toNat (45:Int)) 22 (0:Int),Vec.getD 65 (Vec.set 65 (Vec.set 65 s191.2.2.1 x197.toNat x198) x199.toNat (45:Int)) 23 (0:Int),Vec.getD 65 (Vec.set 65 (Vec.set 65 s191.2.2.1 x197.toNat x198) x199.toNat (45:Int)) 24 (0:Int),Vec.getD 65 (Vec.set 65 (Vec.set 65 s191.2.2.1 x197.toNat x198) x199.toNat (45:Int)) 25 (0:Int),Vec.getD 65 (Vec.set 65 (Vec.set 65 s191.2.2.1 x197.toNat x198) x199.toNat (45:Int)) 26 (0:Int),Vec.getD 65 (Vec.set 65 (Vec.set 65 s191.2.2.1 x197.toNat x198) x199.toNat (45:Int)) 27 (0:Int),Vec.getD 65 (Vec.set 65 (Vec.set 65 s191.2.2.1 x197.toNat x198) x199.toNat (45:Int)) 28 (0:Int),Vec.getD 65 (Vec.set 65 (Vec.set 65 s191.2.2.1 x197.toNat x198) x199.toNat (45:Int)) 29 (0:Int),Vec.getD 65 (Vec.set 65 (Vec.set 65 s191.2.2.1 x197.toNat x198) x199.toNat (45:Int)) 30 (0:Int),Vec.getD 65 (Vec.set 65 (Vec.set 65 s191.2.2.1 x197.toNat x198) x199.toNat (45:Int)) 31 (0:Int),Vec.getD 65 (Vec.set 65 (Vec.set 65 s191.2.2.1 x197.toNat x198) x199.toNat (45:Int)) 32 (0:Int),Vec.getD 65 (Vec.set 65 (Vec.set 65 s191.2.2.1 x197.toNat x198) x199.toNat (45:Int)) 33 (0:Int),Vec.getD 65 (Vec.set 65 (Vec.set 65 s191.2.2.1 x197.toNat x198) x199.toNat (45:Int)) 34 (0:Int),Vec.getD 65 (Vec.set 65 (Vec.set 65 s191.2.2.1 x197.toNat x198) x199.toNat (45:Int)) 35 (0:Int),Vec.getD 65 (Vec.set 65 (Vec.set 65 s191.2.2.1 x197.toNat x198) x199.toNat (45:Int)) 36 (0:Int),Vec.getD 65 (Vec.set 65 (Vec.set 65 s191.2.2.1 x197.toNat x198) x199.toNat (45:Int)) 37 (0:Int),Vec.getD 65 (Vec.set 65 (Vec.set 65 s191.2.2.1 x197.toNat x198) x199.toNat (45:Int)) 38 (0:Int),Vec.getD 65 (Vec.set 65 (Vec.set 65 s191.2.2.1 x197.toNat x198) x199.toNat (45:Int)) 39 (0:Int),Vec.getD 65 (Vec.set 65 (Vec.set 65 s191.2.2.1 x197.toNat x198) x199.toNat (45:Int)) 40 (0:Int),Vec.getD 65 (Vec.set 65 (Vec.set 65 s191.2.2.1 x197.toNat x198) x199.toNat (45:Int)) 41 (0:Int),Vec.getD 65 (Vec.set 65 (Vec.set 65 s191.2.2.1 x197.toNat x198) x199.toNat (45:Int)) 42 (0:Int),Vec.getD 65 (Vec.set 65 (Vec.set 65 s191.2.2.1 x197.toNat x198) x199.toNat (45:Int)) 43 (0:Int),Vec.getD 65 (Vec.set 65 (Vec.set 65 s191.2.2.1 x197.toNat x198) x199.toNat (45:Int)) 44 (0:Int),Vec.getD 65 (Vec.set 65 (Vec.set 65 s191.2.2.1 x197.toNat x198) x199.toNat (45:Int)) 45 (0:Int),Vec.getD 65 (Vec.set 65 (Vec.set 65 s191.2.2.1 x197.toNat x198) x199.toNat (45:Int)) 46 (0:Int),Vec.getD 65 (Vec.set 65 (Vec.set 65 s191.2.2.1 x197.toNat x198) x199.toNat (45:Int)) 47 (0:Int),Vec.getD 65 (Vec.set 65 (Vec.set 65 s191.2.2.1 x197.toNat x198) x199.toNat (45:Int)) 48 (0:Int),Vec.getD 65 (Vec.set 65 (Vec.set 65 s191.2.2.1 x197.toNat x198) x199.toNat (45:Int)) 49 (0:Int),Vec.getD 65 (Vec.set 65 (Vec.set 65 s191.2.2.1 x197.toNat x198) x199.toNat (45:Int)) 50 (0:Int),Vec.getD 65 (Vec.set 65 (Vec.set 65 s191.2.2.1 x197.toNat x198) x199.toNat (45:Int)) 51 (0:Int),Vec.getD 65 (Vec.set 65 (Vec.set 65 s191.2.2.1 x197.toNat x198) x199.toNat (45:Int)) 52 (0:Int),Vec.getD 65 (Vec.set 65 (Vec.set 65 s191.2.2.1 x197.toNat x198) x199.toNat (45:Int)) 53 (0:Int),Vec.getD 65 (Vec.set 65 (Vec.set 65 s191.2.2.1 x197.toNat x198) x199.toNat (45:Int)) 54 (0:Int),Vec.getD 65 (Vec.set 65 (Vec.set 65 s191.2.2.1 x197.toNat x198) x199.toNat (45:Int)) 55 (0:Int),Vec.getD 65 (Vec.set 65 (Vec.set 65 s191.2.2.1 x197.toNat x198) x199.toNat (45:Int)) 56 (0:Int),Vec.getD 65 (Vec.set 65 (Vec.set 65 s191.2.2.1 x197.toNat x198) x199.toNat (45:Int)) 57 (0:Int),Vec.getD 65 (Vec.set 65 (Vec.set 65 s191.2.2.1 x197.toNat x198) x199.toNat (45:Int)) 58 (0:Int),Vec.getD 65 (Vec.set 65 (Vec.set 65 s191.2.2.1 x197.toNat x198) x199.toNat (45:Int)) 59 (0:Int),Vec.getD 65 (Vec.set 65 (Vec.set 65 s191.2.2.1 x197.toNat x198) x199.toNat (45:Int)) 60 (0:Int),Vec.getD 65 (Vec.set 65 (Vec.set 65 s191.2.2.1 x197.toNat x198) x199.toNat (45:Int)) 61 (0:Int),Vec.getD 65 (Vec.set 65 (Vec.set 65 s191.2.2.1 x197.toNat x198) x199.toNat (45:Int)) 62 (0:Int),Vec.getD 65 (Vec.set 65 (Vec.set 65 s191.2.2.1 x197.toNat x198) x199.toNat (45:Int)) 63 (0:Int),Vec.getD 65 (Vec.set 65 (Vec.set 65 s191.2.2.1 x197.toNat x198) x199.toNat (45:Int)) 64 (0:Int)]:(List Int))))),()),())
      else none
     else none
    else
    bif a4 then
     bif inS x197 Lq12 65 then none else none
    else
    bif inS x197 Lq12 65 then
     some ((([]:(List Int)),(ofBytes (List.take (65-x197.toNat) (List.drop x197.toNat ([Vec.getD 65 (Vec.set 65 s191.2.2.1 x197.toNat x198) 0 (0:Int),Vec.getD 65 (Vec.set 65 s191.2.2.1 x197.toNat x198) 1 (0:Int),Vec.getD 65 (Vec.set 65 s191.2.2.1 x197.toNat x198) 2 (0:Int),Vec.getD 65 (Vec.set 65 s191.2.2.1 x197.toNat x198) 3 (0:Int),Vec.getD 65 (Vec.set 65 s191.2.2.1 x197.toNat x198) 4 (0:Int),Vec.getD 65 (Vec.set 65 s191.2.2.1 x197.toNat x198) 5 (0:Int),Vec.getD 65 (Vec.set 65 s191.2.2.1 x197.toNat x198) 6 (0:Int),Vec.getD 65 (Vec.set 65 s191.2.2.1 x197.toNat x198) 7 (0:Int),Vec.getD 65 (Vec.set 65 s191.2.2.1 x197.toNat x198) 8 (0:Int),Vec.getD 65 (Vec.set 65 s191.2.2.1 x197.toNat x198) 9 (0:Int),Vec.getD 65 (Vec.set 65 s191.2.2.1 x197.toNat x198) 10 (0:Int),Vec.getD 65 (Vec.set 65 s191.2.2.1 x197.toNat x198) 11 (0:Int),Vec.getD 65 (Vec.set 65 s191.2.2.1 x197.toNat x198) 12 (0:Int),Vec.getD 65 (Vec.set 65 s191.2.2.1 x197.toNat x198) 13 (0:Int),Vec.getD 65 (Vec.set 65 s191.2.2.1 x197.toNat x198) 14 (0:Int),Vec.getD 65 (Vec.set 65 s191.2.2.1 x197.toNat x198) 15 (0:Int),Vec.getD 65 (Vec.set 65 s191.2.2.1 x197.toNat x198) 16 (0:Int),Vec.getD 65 (Vec.set 65 s191.2.2.1 x197.toNat x198) 17 (0:Int),Vec.getD 65 (Vec.set 65 s191.2.2.1 x197.toNat x198) 18 (0:Int),Vec.getD 65 (Vec.set 65 s191.2.2.1 x197.toNat x198) 19 (0:Int),Vec.getD 65 (Vec.set 65 s191.2.2.1 x197.toNat x198) 20 (0:Int),Vec.getD 65 (Vec.set 65 s191.2.2.1 x197.toNat x198) 21 (0:Int),Vec.getD 65 (Vec.set 65 s191.2.2.1 x197.toNat x198) 22 (0:Int),Vec.getD 65 (Vec.set 65 s191.2.2.1 x197.toNat x198) 23 (0:Int),Vec.getD 65 (Vec.set 65 s191.2.2.1 x197.toNat x198) 24 (0:Int),Vec.getD 65 (Vec.set 65 s191.2.2.1 x197.toNat x198) 25 (0:Int),Vec.getD 65 (Vec.set 65 s191.2.2.1 x197.toNat x198) 26 (0:Int),Vec.getD 65 (Vec.set 65 s191.2.2.1 x197.toNat x198) 27 (0:Int),Vec.getD 65 (Vec.set 65 s191.2.2.1 x197.toNat x198) 28 (0:Int),Vec.getD 65 (Vec.set 65 s191.2.2.1 x197.toNat x198) 29 (0:Int),Vec.getD 65 (Vec.set 65 s191.2.2.1 x197.toNat x198) 30 (0:Int),Vec.getD 65 (Vec.set 65 s191.2.2.1 x197.toNat x198) 31 (0:Int),Vec.getD 65 (Vec.set 65 s191.2.2.1 x197.toNat x198) 32 (0:Int),Vec.getD 65 (Vec.set 65 s191.2.2.1 x197.toNat x198) 33 (0:Int),Vec.getD 65 (Vec.set 65 s191.2.2.1 x197.toNat x198) 34 (0:Int),Vec.getD 65 (Vec.set 65 s191.2.2.1 x197.toNat x198) 35 (0:Int),Vec.getD 65 (Vec.set 65 s191.2.2.1 x197.toNat x198) 36 (0:Int),Vec.getD 65 (Vec.set 65 s191.2.2.1 x197.toNat x198) 37 (0:Int),Vec.getD 65 (Vec.set 65 s191.2.2.1 x197.toNat x198) 38 (0:Int),Vec.getD 65 (Vec.set 65 s191.2.2.1 x197.toNat x198) 39 (0:Int),Vec.getD 65 (Vec.set 65 s191.2.2.1 x197.toNat x198) 40 (0:Int),Vec.getD 65 (Vec.set 65 s191.2.2.1 x197.toNat x198) 41 (0:Int),Vec.getD 65 (Vec.set 65 s191.2.2.1 x197.toNat x198) 42 (0:Int),Vec.getD 65 (Vec.set 65 s191.2.2.1 x197.toNat x198) 43 (0:Int),Vec.getD 65 (Vec.set 65 s191.2.2.1 x197.toNat x198) 44 (0:Int),Vec.getD 65 (Vec.set 65 s191.2.2.1 x197.toNat x198) 45 (0:Int),Vec.getD 65 (Vec.set 65 s191.2.2.1 x197.toNat x198) 46 (0:Int),Vec.getD 65 (Vec.set 65 s191.2.2.1 x197.toNat x198) 47 (0:Int),Vec.getD 65 (Vec.set 65 s191.2.2.1 x197.toNat x198) 48 (0:Int),Vec.getD 65 (Vec.set 65 s191.2.2.1 x197.toNat x198) 49 (0:Int),Vec.getD 65 (Vec.set 65 s191.2.2.1 x197.toNat x198) 50 (0:Int),Vec.getD 65 (Vec.set 65 s191.2.2.1 x197.toNat x198) 51 (0:Int),Vec.getD 65 (Vec.set 65 s191.2.2.1 x197.toNat x198) 52 (0:Int),Vec.getD 65 (Vec.set 65 s191.2.2.1 x197.toNat x198) 53 (0:Int),Vec.getD 65 (Vec.set 65 s191.2.2.1 x197.toNat x198) 54 (0:Int),Vec.getD 65 (Vec.set 65 s191.2.2.1 x197.toNat x198) 55 (0:Int),Vec.getD 65 (Vec.set 65 s191.2.2.1 x197.toNat x198) 56 (0:Int),Vec.getD 65 (Vec.set 65 s191.2.2.1 x197.toNat x198) 57 (0:Int),Vec.getD 65 (Vec.set 65 s191.2.2.1 x197.toNat x198) 58 (0:Int),Vec.getD 65 (Vec.set 65 s191.2.2.1 x197.toNat x198) 59 (0:Int),Vec.getD 65 (Vec.set 65 s191.2.2.1 x197.toNat x198) 60 (0:Int),Vec.getD 65 (Vec.set 65 s191.2.2.1 x197.toNat x198) 61 (0:Int),Vec.getD 65 (Vec.set 65 s191.2.2.1 x197.toNat x198) 62 (0:Int),Vec.getD 65 (Vec.set 65 s191.2.2.1 x197.toNat x198) 63 (0:Int),Vec.getD 65 (Vec.set 65 s191.2.2.1 x197.toNat x198) 64 (0:Int)]:(List Int))))),()),())
    else none
   else none
  else none)
def qn4 (x202:Int) (a3:Bool) (a4:Bool) (s210:Dq23):Option (Dq23⊕Dq25) :=
 bif (iLe x202 s210.1) then
  let x212:=iSub .i64 s210.2.1 1
  bif iEq x202 0 then none else
  let x213:=iQuo .u64 s210.1 x202
  let x215:=iSub .u64 s210.1 (iMul .u64 x213 x202)
  bif inB x215 (List.length ([48,49,50,51,52,53,54,55,56,57,97,98,99,100,101,102,103,104,105,106,107,108,109,110,111,112,113,114,115,116,117,118,119,120,121,122])) then
   bif inB x212 65 then some (Sum.inl (x213,x212,Vec.set 65 s210.2.2.1 x212.toNat (strAt ([48,49,50,51,52,53,54,55,56,57,97,98,99,100,101,102,103,104,105,106,107,108,109,110,111,112,113,114,115,116,117,118,119,120,121,122]) x215),())) else none
  else none
 else
 Option.map Sum.inr (
  let x217:=iSub .i64 s210.2.1 1
  bif inB s210.1 (List.length ([48,49,50,51,52,53,54,55,56,57,97,98,99,100,101,102,103,104,105,106,107,108,109,110,111,112,113,114,115,116,117,118,119,120,121,122])) then
   let x218:=strAt ([48,49,50,51,52,53,54,55,56,57,97,98,99,100,101,102,103,104,105,106,107,108,109,110,111,112,113,114,115,116,117,118,119,120,121,122]) s210.1
   bif inB x217 65 then
    bif a3 then
     let x219:=iSub .i64 x217 1
     bif inB x219 65 then
      bif a4 then
       bif inS x219 Lq12 65 then none else none
      else
      bif inS x219 Lq12 65 then
       some ((([]:(List Int)),(ofBytes (List.take (65-x219.toNat) (List.drop x219.toNat ([Vec.getD 65 (Vec.set 65 (Vec.set 65 s210.2.2.1 x217.toNat x218) x219.toNat (45:Int)) 0 (0:Int),Vec.getD 65 (Vec.set 65 (Vec.set 65 s210.2.2.1 x217.toNat x218) x219.toNat (45:Int)) 1 (0:Int),Vec.getD 65 (Vec.set 65 (Vec.set 65 s210.2.2.1 x217.toNat x218) x219.toNat (45:Int)) 2 (0:Int),Vec.getD 65 (Vec.set 65 (Vec.set 65 s210.2.2.1 x217.toNat x218) x219.toNat (45:Int)) 3 (0:Int),Vec.getD 65 (Vec.set 65 (Vec.set 65 s210.2.2.1 x217.toNat x218) x219.toNat (45:Int)) 4 (0:Int),Vec.getD 65 (Vec.set 65 (Vec.set 65 s210.2.2.1 x217.toNat x218) x219.toNat (45:Int)) 5 (0:Int),Vec.getD 65 (Vec.set 65 (Vec.set 65 s210.2.2.1 x217.toNat x218) x219.toNat (45:Int)) 6 (0:Int),Vec.getD 65 (Vec.set 65 (Vec.set 65 s210.2.2.1 x217.toNat x218) x219.toNat (45:Int)) 7 (0:Int),Vec.getD 65 (Vec.set 65 (Vec.set 65 s210.2.2.1 x217.toNat x218) x219.toNat (45:Int)) 8 (0:Int),Vec.getD 65 (Vec.set 65 (Vec.set 65 s210.2.2.1 x217.toNat x218) x219.toNat (45:Int)) 9 (0:Int),Vec.getD 65 (Vec.set 65 (Vec.set 65 s210.2.2.1 x217.toNat x218) x219.toNat (45:Int)) 10 (0:Int),Vec.getD 65 (Vec.set 65 (Vec.set 65 s210.2.2.1 x217.toNat x218) x219.toNat (45:Int)) 11 (0:Int),Vec.getD 65 (Vec.set 65 (Vec.set 65 s210.2.2.1 x217.toNat x218) x219.toNat (45:Int)) 12 (0:Int),Vec.getD 65 (Vec.set 65 (Vec.set 65 s210.2.2.1 x217.toNat x218) x219.toNat (45:Int)) 13 (0:Int),Vec.getD 65 (Vec.set 65 (Vec.set 65 s210.2.2.1 x217.toNat x218) x219.toNat (45:Int)) 14 (0:Int),Vec.getD 65 (Vec.set 65 (Vec.set 65 s210.2.2.1 x217.toNat x218) x219.toNat (45:Int)) 15 (0:Int),Vec.getD 65 (Vec.set 65 (Vec.set 65 s210.2.2.1 x217.toNat x218) x219.toNat (45:Int)) 16 (0:Int),Vec.getD 65 (Vec.set 65 (Vec.set 65 s210.2.2.1 x217.toNat x218) x219.toNat (45:Int)) 17 (0:Int),Vec.getD 65 (Vec.set 65 (Vec.set 65 s210.2.2.1 x217.toNat x218) x219.toNat (45:Int)) 18 (0:Int),Vec.getD 65 (Vec.set 65 (Vec.set 65 s210.2.2.1 x217.toNat x218) x219.toNat (45:Int)) 19 (0:Int),Vec.getD 65 (Vec.set 65 (Vec.set 65 s210.2.2.1 x217.toNat x218) x219.toNat (45:Int)) 20 (0:Int),Vec.getD 65 (Vec.set 65 (Vec.set 65 s210.2.2.1 x217.toNat x218) x219.toNat (45:Int)) 21 (0:Int),Vec.getD 65 (Vec.set 65 (Vec.set 65 s210.2.2.1 x217.toNat x218) x219.toNat (45:Int)) 22 (0:Int),Vec.getD 65 (Vec.set 65 (Vec.set 65 s210.2.2.1 x217.toNat x218) x219.toNat (45:Int)) 23 (0:Int),Vec.getD 65 (Vec.set 65 (Vec.set 65 s210.2.2.1 x217.toNat x218) x219.toNat (45:Int)) 24 (0:Int),Vec.getD 65 (Vec.set 65 (Vec.set 65 s210.2.2.1 x217.toNat x218) x219.toNat (45:Int)) 25 (0:Int),Vec.getD 65 (Vec.set 65 (Vec.set 65 s210.2.2.1 x217.toNat x218) x219.toNat (45:Int)) 26 (0:Int),Vec.getD 65 (Vec.set 65 (Vec.set 65 s210.2.2.1 x217.toNat x218) x219.toNat (45:Int)) 27 (0:Int),Vec.getD 65 (Vec.set 65 (Vec.set 65 s210.2.2.1 x217.toNat x218) x219.toNat (45:Int)) 28 (0:Int),Vec.getD 65 (Vec.set 65 (Vec.set 65 s210.2.2.1 x217.toNat x218) x219.toNat (45:Int)) 29 (0:Int),Vec.getD 65 (Vec.set 65 (Vec.set 65 s210.2.2.1 x217.toNat x218) x219.toNat (45:Int)) 30 (0:Int),Vec.getD 65 (Vec.set 65 (Vec.set 65 s210.2.2.1 x217.toNat x218) x219.toNat (45:Int)) 31 (0:Int),Vec.getD 65 (Vec.set 65 (Vec.set 65 s210.2.2.1 x217.toNat x218) x219.toNat (45:Int)) 32 (0:Int),Vec.getD 65 (Vec.set 65 (Vec.set 65 s210.2.2.1 x217.toNat x218) x219.toNat (45:Int)) 33 (0:Int),Vec.getD 65 (Vec.set 65 (Vec.set 65 s210.2.2.1 x217.toNat x218) x219.toNat (45:Int)) 34 (0:Int),Vec.getD 65 (Vec.set 65 (Vec.set 65 s210.2.2.1 x217.toNat x218) x219.toNat (45:Int)) 35 (0:Int),Vec.getD 65 (Vec.set 65 (Vec.set 65 s210.2.2.1 x217.toNat x218) x219.toNat (45:Int)) 36 (0:Int),Vec.getD 65 (Vec.set 65 (Vec.set 65 s210.2.2.1 x217.toNat x218) x219.toNat (45:Int)) 37 (0:Int),Vec.getD 65 (Vec.set 65 (Vec.set 65 s210.2.2.1 x217.toNat x218) x219.toNat (45:Int)) 38 (0:Int),Vec.getD 65 (Vec.set 65 (Vec.set 65 s210.2.2.1 x217.toNat x218) x219.toNat (45:Int)) 39 (0:Int),Vec.getD 65 (Vec.set 65 (Vec.set 65 s210.2.2.1 x217.toNat x218) x219.toNat (45:Int)) 40 (0:Int),Vec.getD 65 (Vec.set 65 (Vec.set 65 s210.2.2.1 x217.toNat x218) x219.toNat (45:Int)) 41 (0:Int),Vec.getD 65 (Vec.set 65 (Vec.set 65 s210.2.2.1 x217.toNat x218) x219.toNat (45:Int)) 42 (0:Int),Vec.getD 65 (Vec.set 65 (Vec.set 65 s210.2.2.1 x217.toNat x218) x219.toNat (45:Int)) 43 (0:Int),Vec.getD 65 (Vec.set 65 (Vec.set 65 s210.2.2.1 x217.toNat x218) x219.toNat (45:Int)) 44 (0:Int),Vec.getD 65 (Vec.set 65 (Vec.set 65 s210.2.2.1 x217.toNat x218) x219.toNat (45:Int)) 45 (0:Int),Vec.getD 65 (Vec.set 65 (Vec.set 65 s210.2.2.1 x217.toNat x218) x219.toNat (45:Int)) 46 (0:Int),Vec.getD 65 (Vec.set 65 (Vec.set 65 s210.2.2.1 x217.toNat x218) x219.toNat (45:Int)) 47 (0:Int),Vec.getD 65 (Vec.set 65 (Vec.set 65 s210.2.2.1 x217.toNat x218) x219.toNat (45:Int)) 48 (0:Int),Vec.getD 65 (Vec.set 65 (Vec.set 65 s210.2.2.1 x217.toNat x218) x219.toNat (45:Int)) 49 (0:Int),Vec.getD 65 (Vec.set 65 (Vec.set 65 s210.2.2.1 x217.toNat x218) x219.toNat (45:Int)) 50 (0:Int),Vec.getD 65 (Vec.set 65 (Vec.set 65 s210.2.2.1 x217.toNat x218) x219.toNat (45:Int)) 51 (0:Int),Vec.getD 65 (Vec.set 65 (Vec.set 65 s210.2.2.1 x217.toNat x218) x219.toNat (45:Int)) 52 (0:Int),Vec.getD 65 (Vec.set 65 (Vec.set 65 s210.2.2.1 x217.toNat x218) x219.toNat (45:Int)) 53 (0:Int),Vec.getD 65 (Vec.set 65 (Vec.set 65 s210.2.2.1 x217.toNat x218) x219.toNat (45:Int)) 54 (0:Int),Vec.getD 65 (Vec.set 65 (Vec.set 65 s210.2.2.1 x217.toNat x218) x219.toNat (45:Int)) 55 (0:Int),Vec.getD 65 (Vec.set 65 (Vec.set 65 s210.2.2.1 x217.toNat x218) x219.toNat (45:Int)) 56 (0:Int),Vec.getD 65 (Vec.set 65 (Vec.set 65 s210.2.2.1 x217.toNat x218) x219.toNat (45:Int)) 57 (0:Int),Vec.getD 65 (Vec.set 65 (Vec.set 65 s210.2.2.1 x217.toNat x218) x219.toNat (45:Int)) 58 (0:Int),Vec.getD 65 (Vec.set 65 (Vec.set 65 s210.2.2.1 x217.toNat x218) x219.toNat (45:Int)) 59 (0:Int),Vec.getD 65 (Vec.set 65 (Vec.set 65 s210.2.2.1 x217.toNat x218) x219.toNat (45:Int)) 60 (0:Int),Vec.getD 65 (Vec.set 65 (Vec.set 65 s210.2.2.1 x217.toNat x218) x219.toNat (45:Int)) 61 (0:Int),Vec.getD 65 (Vec.set 65 (Vec.set 65 s210.2.2.1 x217.toNat x218) x219.toNat (45:Int)) 62 (0:Int),Vec.getD 65 (Vec.set 65 (Vec.set 65 s210.2.2.1 x217.toNat x218) x219.toNat (45:Int)) 63 (0:Int),Vec.getD 65 (Vec.set 65 (Vec.set 65 s210.2.2.1 x217.toNat x218) x219.toNat (45:Int)) 64 (0:Int)]:(List Int))))),()),())
      else none
     else none
    else
    bif a4 then
     bif inS x217 Lq12 65 then none else none
    else
    bif inS x217 Lq12 65 then
     some ((([]:(List Int)),(ofBytes (List.take (65-x217.toNat) (List.drop x217.toNat ([Vec.getD 65 (Vec.set 65 s210.2.2.1 x217.toNat x218) 0 (0:Int),Vec.getD 65 (Vec.set 65 s210.2.2.1 x217.toNat x218) 1 (0:Int),Vec.getD 65 (Vec.set 65 s210.2.2.1 x217.toNat x218) 2 (0:Int),Vec.getD 65 (Vec.set 65 s210.2.2.1 x217.toNat x218) 3 (0:Int),Vec.getD 65 (Vec.set 65 s210.2.2.1 x217.toNat x218) 4 (0:Int),Vec.getD 65 (Vec.set 65 s210.2.2.1 x217.toNat x218) 5 (0:Int),Vec.getD 65 (Vec.set 65 s210.2.2.1 x217.toNat x218) 6 (0:Int),Vec.getD 65 (Vec.set 65 s210.2.2.1 x217.toNat x218) 7 (0:Int),Vec.getD 65 (Vec.set 65 s210.2.2.1 x217.toNat x218) 8 (0:Int),Vec.getD 65 (Vec.set 65 s210.2.2.1 x217.toNat x218) 9 (0:Int),Vec.getD 65 (Vec.set 65 s210.2.2.1 x217.toNat x218) 10 (0:Int),Vec.getD 65 (Vec.set 65 s210.2.2.1 x217.toNat x218) 11 (0:Int),Vec.getD 65 (Vec.set 65 s210.2.2.1 x217.toNat x218) 12 (0:Int),Vec.getD 65 (Vec.set 65 s210.2.2.1 x217.toNat x218) 13 (0:Int),Vec.getD 65 (Vec.set 65 s210.2.2.1 x217.toNat x218) 14 (0:Int),Vec.getD 65 (Vec.set 65 s210.2.2.1 x217.toNat x218) 15 (0:Int),Vec.getD 65 (Vec.set 65 s210.2.2.1 x217.toNat x218) 16 (0:Int),Vec.getD 65 (Vec.set 65 s210.2.2.1 x217.toNat x218) 17 (0:Int),Vec.getD 65 (Vec.set 65 s210.2.2.1 x217.toNat x218) 18 (0:Int),Vec.getD 65 (Vec.set 65 s210.2.2.1 x217.toNat x218) 19 (0:Int),Vec.getD 65 (Vec.set 65 s210.2.2.1 x217.toNat x218) 20 (0:Int),Vec.getD 65 (Vec.set 65 s210.2.2.1 x217.toNat x218) 21 (0:Int),Vec.getD 65 (Vec.set 65 s210.2.2.1 x217.toNat x218) 22 (0:Int),Vec.getD 65 (Vec.set 65 s210.2.2.1 x217.toNat x218) 23 (0:Int),Vec.getD 65 (Vec.set 65 s210.2.2.1 x217.toNat x218) 24 (0:Int),Vec.getD 65 (Vec.set 65 s210.2.2.1 x217.toNat x218) 25 (0:Int),Vec.getD 65 (Vec.set 65 s210.2.2.1 x217.toNat x218) 26 (0:Int),Vec.getD 65 (Vec.set 65 s210.2.2.1 x217.toNat x218) 27 (0:Int),Vec.getD 65 (Vec.set 65 s210.2.2.1 x217.toNat x218) 28 (0:Int),Vec.getD 65 (Vec.set 65 s210.2.2.1 x217.toNat x218) 29 (0:Int),Vec.getD 65 (Vec.set 65 s210.2.2.1 x217.toNat x218) 30 (0:Int),Vec.getD 65 (Vec.set 65 s210.2.2.1 x217.toNat x218) 31 (0:Int),Vec.getD 65 (Vec.set 65 s210.2.2.1 x217.toNat x218) 32 (0:Int),Vec.getD 65 (Vec.set 65 s210.2.2.1 x217.toNat x218) 33 (0:Int),Vec.getD 65 (Vec.set 65 s210.2.2.1 x217.toNat x218) 34 (0:Int),Vec.getD 65 (Vec.set 65 s210.2.2.1 x217.toNat x218) 35 (0:Int),Vec.getD 65 (Vec.set 65 s210.2.2.1 x217.toNat x218) 36 (0:Int),Vec.getD 65 (Vec.set 65 s210.2.2.1 x217.toNat x218) 37 (0:Int),Vec.getD 65 (Vec.set 65 s210.2.2.1 x217.toNat x218) 38 (0:Int),Vec.getD 65 (Vec.set 65 s210.2.2.1 x217.toNat x218) 39 (0:Int),Vec.getD 65 (Vec.set 65 s210.2.2.1 x217.toNat x218) 40 (0:Int),Vec.getD 65 (Vec.set 65 s210.2.2.1 x217.toNat x218) 41 (0:Int),Vec.getD 65 (Vec.set 65 s210.2.2.1 x217.toNat x218) 42 (0:Int),Vec.getD 65 (Vec.set 65 s210.2.2.1 x217.toNat x218) 43 (0:Int),Vec.getD 65 (Vec.set 65 s210.2.2.1 x217.toNat x218) 44 (0:Int),Vec.getD 65 (Vec.set 65 s210.2.2.1 x217.toNat x218) 45 (0:Int),Vec.getD 65 (Vec.set 65 s210.2.2.1 x217.toNat x218) 46 (0:Int),Vec.getD 65 (Vec.set 65 s210.2.2.1 x217.toNat x218) 47 (0:Int),Vec.getD 65 (Vec.set 65 s210.2.2.1 x217.toNat x218) 48 (0:Int),Vec.getD 65 (Vec.set 65 s210.2.2.1 x217.toNat x218) 49 (0:Int),Vec.getD 65 (Vec.set 65 s210.2.2.1 x217.toNat x218) 50 (0:Int),Vec.getD 65 (Vec.set 65 s210.2.2.1 x217.toNat x218) 51 (0:Int),Vec.getD 65 (Vec.set 65 s210.2.2.1 x217.toNat x218) 52 (0:Int),Vec.getD 65 (Vec.set 65 s210.2.2.1 x217.toNat x218) 53 (0:Int),Vec.getD 65 (Vec.set 65 s210.2.2.1 x217.toNat x218) 54 (0:Int),Vec.getD 65 (Vec.set 65 s210.2.2.1 x217.toNat x218) 55 (0:Int),Vec.getD 65 (Vec.set 65 s210.2.2.1 x217.toNat x218) 56 (0:Int),Vec.getD 65 (Vec.set 65 s210.2.2.1 x217.toNat x218) 57 (0:Int),Vec.getD 65 (Vec.set 65 s210.2.2.1 x217.toNat x218) 58 (0:Int),Vec.getD 65 (Vec.set 65 s210.2.2.1 x217.toNat x218) 59 (0:Int),Vec.getD 65 (Vec.set 65 s210.2.2.1 x217.toNat x218) 60 (0:Int),Vec.getD 65 (Vec.set 65 s210.2.2.1 x217.toNat x218) 61 (0:Int),Vec.getD 65 (Vec.set 65 s210.2.2.1 x217.toNat x218) 62 (0:Int),Vec.getD 65 (Vec.set 65 s210.2.2.1 x217.toNat x218) 63 (0:Int),Vec.getD 65 (Vec.set 65 s210.2.2.1 x217.toNat x218) 64 (0:Int)]:(List Int))))),()),())
    else none
   else none
  else none)
def qca (x226:Int) (x228:Int) (x225:Int) (a3:Bool) (a4:Bool) (s235:Dq23):Option (Dq23⊕Dq25) :=
 bif (iLe x226 s235.1) then
  let x237:=iSub .i64 s235.2.1 1
  let x238:=iAnd .u64 s235.1 x228
  bif inB x238 (List.length ([48,49,50,51,52,53,54,55,56,57,97,98,99,100,101,102,103,104,105,106,107,108,109,110,111,112,113,114,115,116,117,118,119,120,121,122])) then
   bif inB x237 65 then
    bif iLe 0 x225 then
     some (Sum.inl ((iShr .u64 s235.1 x225),x237,Vec.set 65 s235.2.2.1 x237.toNat (strAt ([48,49,50,51,52,53,54,55,56,57,97,98,99,100,101,102,103,104,105,106,107,108,109,110,111,112,113,114,115,116,117,118,119,120,121,122]) x238),()))
    else none
   else none
  else none
 else
 Option.map Sum.inr (
  let x241:=iSub .i64 s235.2.1 1
  bif inB s235.1 (List.length ([48,49,50,51,52,53,54,55,56,57,97,98,99,100,101,102,103,104,105,106,107,108,109,110,111,112,113,114,115,116,117,118,119,120,121,122])) then
   let x242:=strAt ([48,49,50,51,52,53,54,55,56,57,97,98,99,100,101,102,103,104,105,106,107,108,109,110,111,112,113,114,115,116,117,118,119,120,121,122]) s235.1
   bif inB x241 65 then
    bif a3 then
     let x243:=iSub .i64 x241 1
     bif inB x243 65 then
      bif a4 then
       bif inS x243 Lq12 65 then none else none
      else
      bif inS x243 Lq12 65 then
       some ((([]:(List Int)),(ofBytes (List.take (65-x243.toNat) (List.drop x243.toNat ([Vec.getD 65 (Vec.set 65 (Vec.set 65 s235.2.2.1 x241.toNat x242) x243.toNat (45:Int)) 0 (0:Int),Vec.getD 65 (Vec.set 65 (Vec.set 65 s235.2.2.1 x241.toNat x242) x243.toNat (45:Int)) 1 (0:Int),Vec.getD 65 (Vec.set 65 (Vec.set 65 s235.2.2.1 x241.toNat x242) x243.toNat (45:Int)) 2 (0:Int),Vec.getD 65 (Vec.set 65 (Vec.set 65 s235.2.2.1 x241.toNat x242) x243.toNat (45:Int)) 3 (0:Int),Vec.getD 65 (Vec.set 65 (Vec.set 65 s235.2.2.1 x241.toNat x242) x243.toNat (45:Int)) 4 (0:Int),Vec.getD 65 (Vec.set 65 (Vec.set 65 s235.2.2.1 x241.toNat x242) x243.toNat (45:Int)) 5 (0:Int),Vec.getD 65 (Vec.set 65 (Vec.set 65 s235.2.2.1 x241.toNat x242) x243.toNat (45:Int)) 6 (0:Int),Vec.getD 65 (Vec.set 65 (Vec.set 65 s235.2.2.1 x241.toNat x242) x243.toNat (45:Int)) 7 (0:Int),Vec.getD 65 (Vec.set 65 (Vec.set 65 s235.2.2.1 x241.toNat x242) x243.toNat (45:Int)) 8 (0:Int),Vec.getD 65 (Vec.set 65 (Vec.set 65 s235.2.2.1 x241.toNat x242) x243.toNat (45:Int)) 9 (0:Int),Vec.getD 65 (Vec.set 65 (Vec.set 65 s235.2.2.1 x241.toNat x242) x243.toNat (45:Int)) 10 (0:Int),Vec.getD 65 (Vec.set 65 (Vec.set 65 s235.2.2.1 x241.toNat x242) x243.toNat (45:Int)) 11 (0:Int),Vec.getD 65 (Vec.set 65 (Vec.set 65 s235.2.2.1 x241.toNat x242) x243.toNat (45:Int)) 12 (0:Int),Vec.getD 65 (Vec.set 65 (Vec.set 65 s235.2.2.1 x241.toNat x242) x243.toNat (45:Int)) 13 (0:Int),Vec.getD 65 (Vec.set 65 (Vec.set 65 s235.2.2.1 x241.toNat x242) x243.toNat (45:Int)) 14 (0:Int),Vec.getD 65 (Vec.set 65 (Vec.set 65 s235.2.2.1 x241.toNat x242) x243.toNat (45:Int)) 15 (0:Int),Vec.getD 65 (Vec.set 65 (Vec.set 65 s235.2.2.1 x241.toNat x242) x243.toNat (45:Int)) 16 (0:Int),Vec.getD 65 (Vec.set 65 (Vec.set 65 s235.2.2.1 x241.toNat x242) x243.toNat (45:Int)) 17 (0:Int),Vec.getD 65 (Vec.set 65 (Vec.set 65 s235.2.2.1 x241.toNat x242) x243.toNat (45:Int)) 18 (0:Int),Vec.getD 65 (Vec.set 65 (Vec.set 65 s235.2.2.1 x241.toNat x242) x243.toNat (45:Int)) 19 (0:Int),Vec.getD 65 (Vec.set 65 (Vec.set 65 s235.2.2.1 x241.toNat x242) x243.toNat (45:Int)) 20 (0:Int),Vec.getD 65 (Vec.set 65 (Vec.set 65 s235.2.2.1 x241.toNat x242) x243.toNat (45:Int)) 21 (0:Int),Vec.getD 65 (Vec.set 65 (Vec.set 65 s235.2.2.1 x241.toNat x242) x243.toNat (45:Int)) 22 (0:Int),Vec.getD 65 (Vec.set 65 (Vec.set 65 s235.2.2.1 x241.toNat x242) x243.toNat (45:Int)) 23 (0:Int),Vec.getD 65 (Vec.set 65 (Vec.set 65 s235.2.2.1 x241.toNat x242) x243.toNat (45:Int)) 24 (0:Int),Vec.getD 65 (Vec.set 65 (Vec.set 65 s235.2.2.1 x241.toNat x242) x243.toNat (45:Int)) 25 (0:Int),Vec.getD 65 (Vec.set 65 (Vec.set 65 s235.2.2.1 x241.toNat x242) x243.toNat (45:Int)) 26 (0:Int),Vec.getD 65 (Vec.set 65 (Vec.set 65 s235.2.2.1 x241.toNat x242) x243.toNat (45:Int)) 27 (0:Int),Vec.getD 65 (Vec.set 65 (Vec.set 65 s235.2.2.1 x241.toNat x242) x243.toNat (45:Int)) 28 (0:Int),Vec.getD 65 (Vec.set 65 (Vec.set 65 s235.2.2.1 x241.toNat x242) x243.toNat (45:Int)) 29 (0:Int),Vec.getD 65 (Vec.set 65 (Vec.set 65 s235.2.2.1 x241.toNat x242) x243.toNat (45:Int)) 30 (0:Int),Vec.getD 65 (Vec.set 65 (Vec.set 65 s235.2.2.1 x241.toNat x242) x243.toNat (45:Int)) 31 (0:Int),Vec.getD 65 (Vec.set 65 (Vec.set 65 s235.2.2.1 x241.toNat x242) x243.toNat (45:Int)) 32 (0:Int),Vec.getD 65 (Vec.set 65 (Vec.set 65 s235.2.2.1 x241.toNat x242) x243.toNat (45:Int)) 33 (0:Int),Vec.getD 65 (Vec.set 65 (Vec.set 65 s235.2.2.1 x241.toNat x242) x243.toNat (45:Int)) 34 (0:Int),Vec.getD 65 (Vec.set 65 (Vec.set 65 s235.2.2.1 x241.toNat x242) x243.toNat (45:Int)) 35 (0:Int),Vec.getD 65 (Vec.set 65 (Vec.set 65 s235.2.2.1 x241.toNat x242) x243.toNat (45:Int)) 36 (0:Int),Vec.getD 65 (Vec.set 65 (Vec.set 65 s235.2.2.1 x241.toNat x242) x243.toNat (45:Int)) 37 (0:Int),Vec.getD 65 (Vec.set 65 (Vec.set 65 s235.2.2.1 x241.toNat x242) x243.toNat (45:Int)) 38 (0:Int),Vec.getD 65 (Vec.set 65 (Vec.set 65 s235.2.2.1 x241.toNat x242) x243.toNat (45:Int)) 39 (0:Int),Vec.getD 65 (Vec.set 65 (Vec.set 65 s235.2.2.1 x241.toNat x242) x243.toNat (45:Int)) 40 (0:Int),Vec.getD 65 (Vec.set 65 (Vec.set 65 s235.2.2.1 x241.toNat x242) x243.toNat (45:Int)) 41 (0:Int),Vec.getD 65 (Vec.set 65 (Vec.set 65 s235.2.2.1 x241.toNat x242) x243.toNat (45:Int)) 42 (0:Int),Vec.getD 65 (Vec.set 65 (Vec.set 65 s235.2.2.1 x241.toNat x242) x243.toNat (45:Int)) 43 (0:Int),Vec.getD 65 (Vec.set 65 (Vec.set 65 s235.2.2.1 x241.toNat x242) x243.toNat (45:Int)) 44 (0:Int),Vec.getD 65 (Vec.set 65 (Vec.set 65 s235.2.2.1 x241.toNat x242) x243.toNat (45:Int)) 45 (0:Int),Vec.getD 65 (Vec.set 65 (Vec.set 65 s235.2.2.1 x241.toNat x242) x243.toNat (45:Int)) 46 (0:Int),Vec.getD 65 (Vec.set 65 (Vec.set 65 s235.2.2.1 x241.toNat x242) x243.toNat (45:Int)) 47 (0:Int),Vec.getD 65 (Vec.set 65 (Vec.set 65 s235.2.2.1 x241.toNat x242) x243.toNat (45:Int)) 48 (0:Int),Vec.getD 65 (Vec.set 65 (Vec.set 65 s235.2.2.1 x241.toNat x242) x243.toNat (45:Int)) 49 (0:Int),Vec.getD 65 (Vec.set 65 (Vec.set 65 s235.2.2.1 x241.toNat x242) x243.toNat (45:Int)) 50 (0:Int),Vec.getD 65 (Vec.set 65 (Vec.set 65 s235.2.2.1 x241.toNat x242) x243.toNat (45:Int)) 51 (0:Int),Vec.getD 65 (Vec.set 65 (Vec.set 65 s235.2.2.1 x241.toNat x242) x243.toNat (45:Int)) 52 (0:Int),Vec.getD 65 (Vec.set 65 (Vec.set 65 s235.2.2.1 x241.toNat x242) x243.toNat (45:Int)) 53 (0:Int),Vec.getD 65 (Vec.set 65 (Vec.set 65 s235.2.2.1 x241.toNat x242) x243.toNat (45:Int)) 54 (0:Int),Vec.getD 65 (Vec.set 65 (Vec.set 65 s235.2.2.1 x241.toNat x242) x243.toNat (45:Int)) 55 (0:Int),Vec.getD 65 (Vec.set 65 (Vec.set 65 s235.2.2.1 x241.toNat x242) x243.toNat (45:Int)) 56 (0:Int),Vec.getD 65 (Vec.set 65 (Vec.set 65 s235.2.2.1 x241.toNat x242) x243.toNat (45:Int)) 57 (0:Int),Vec.getD 65 (Vec.set 65 (Vec.set 65 s235.2.2.1 x241.toNat x242) x243.toNat (45:Int)) 58 (0:Int),Vec.getD 65 (Vec.set 65 (Vec.set 65 s235.2.2.1 x241.toNat x242) x243.toNat (45:Int)) 59 (0:Int),Vec.getD 65 (Vec.set 65 (Vec.set 65 s235.2.2.1 x241.toNat x242) x243.toNat (45:Int)) 60 (0:Int),Vec.getD 65 (Vec.set 65 (Vec.set 65 s235.2.2.1 x241.toNat x242) x243.toNat (45:Int)) 61 (0:Int),Vec.getD 65 (Vec.set 65 (Vec.set 65 s235.2.2.1 x241.toNat x242) x243.toNat (45:Int)) 62 (0:Int),Vec.getD 65 (Vec.set 65 (Vec.set 65 s235.2.2.1 x241.toNat x242) x243.toNat (45:Int)) 63 (0:Int),Vec.getD 65 (Vec.set 65 (Vec.set 65 s235.2.2.1 x241.toNat x242) x243.toNat (45:Int)) 64 (0:Int)]:(List Int))))),()),())
      else none
     else none
    else
    bif a4 then
     bif inS x241 Lq12 65 then none else none
    else
    bif inS x241 Lq12 65 then
     some ((([]:(List Int)),(ofBytes (List.take (65-x241.toNat) (List.drop x241.toNat ([Vec.getD 65 (Vec.set 65 s235.2.2.1 x241.toNat x242) 0 (0:Int),Vec.getD 65 (Vec.set 65 s235.2.2.1 x241.toNat x242) 1 (0:Int),Vec.getD 65 (Vec.set 65 s235.2.2.1 x241.toNat x242) 2 (0:Int),Vec.getD 65 (Vec.set 65 s235.2.2.1 x241.toNat x242) 3 (0:Int),Vec.getD 65 (Vec.set 65 s235.2.2.1 x241.toNat x242) 4 (0:Int),Vec.getD 65 (Vec.set 65 s235.2.2.1 x241.toNat x242) 5 (0:Int),Vec.getD 65 (Vec.set 65 s235.2.2.1 x241.toNat x242) 6 (0:Int),Vec.getD 65 (Vec.set 65 s235.2.2.1 x241.toNat x242) 7 (0:Int),Vec.getD 65 (Vec.set 65 s235.2.2.1 x241.toNat x242) 8 (0:Int),Vec.getD 65 (Vec.set 65 s235.2.2.1 x241.toNat x242) 9 (0:Int),Vec.getD 65 (Vec.set 65 s235.2.2.1 x241.toNat x242) 10 (0:Int),Vec.getD 65 (Vec.set 65 s235.2.2.1 x241.toNat x242) 11 (0:Int),Vec.getD 65 (Vec.set 65 s235.2.2.1 x241.toNat x242) 12 (0:Int),Vec.getD 65 (Vec.set 65 s235.2.2.1 x241.toNat x242) 13 (0:Int),Vec.getD 65 (Vec.set 65 s235.2.2.1 x241.toNat x242) 14 (0:Int),Vec.getD 65 (Vec.set 65 s235.2.2.1 x241.toNat x242) 15 (0:Int),Vec.getD 65 (Vec.set 65 s235.2.2.1 x241.toNat x242) 16 (0:Int),Vec.getD 65 (Vec.set 65 s235.2.2.1 x241.toNat x242) 17 (0:Int),Vec.getD 65 (Vec.set 65 s235.2.2.1 x241.toNat x242) 18 (0:Int),Vec.getD 65 (Vec.set 65 s235.2.2.1 x241.toNat x242) 19 (0:Int),Vec.getD 65 (Vec.set 65 s235.2.2.1 x241.toNat x242) 20 (0:Int),Vec.getD 65 (Vec.set 65 s235.2.2.1 x241.toNat x242) 21 (0:Int),Vec.getD 65 (Vec.set 65 s235.2.2.1 x241.toNat x242) 22 (0:Int),Vec.getD 65 (Vec.set 65 s235.2.2.1 x241.toNat x242) 23 (0:Int),Vec.getD 65 (Vec.set 65 s235.2.2.1 x241.toNat x242) 24 (0:Int),Vec.getD 65 (Vec.set 65 s235.2.2.1 x241.toNat x242) 25 (0:Int),Vec.getD 65 (Vec.set 65 s235.2.2.1 x241.toNat x242) 26 (0:Int),Vec.getD 65 (Vec.set 65 s235.2.2.1 x241.toNat x242) 27 (0:Int),Vec.getD 65 (Vec.set 65 s235.2.2.1 x241.toNat x242) 28 (0:Int),Vec.getD 65 (Vec.set 65 s235.2.2.1 x241.toNat x242) 29 (0:Int),Vec.getD 65 (Vec.set 65 s235.2.2.1 x241.toNat x242) 30 (0:Int),Vec.getD 65 (Vec.set 65 s235.2.2.1 x241.toNat x242) 31 (0:Int),Vec.getD 65 (Vec.set 65 s235.2.2.1 x241.toNat x242) 32 (0:Int),Vec.getD 65 (Vec.set 65 s235.2.2.1 x241.toNat x242) 33 (0:Int),Vec.getD 65 (Vec.set 65 s235.2.2.1 x241.toNat x242) 34 (0:Int),Vec.getD 65 (Vec.set 65 s235.2.2.1 x241.toNat x242) 35 (0:Int),Vec.getD 65 (Vec.set 65 s235.2.2.1 x241.toNat x242) 36 (0:Int),Vec.getD 65 (Vec.set 65 s235.2.2.1 x241.toNat x242) 37 (0:Int),Vec.getD 65 (Vec.set 65 s235.2.2.1 x241.toNat x242) 38 (0:Int),Vec.getD 65 (Vec.set 65 s235.2.2.1 x241.toNat x242) 39 (0:Int),Vec.getD 65 (Vec.set 65 s235.2.2.1 x241.toNat x242) 40 (0:Int),Vec.getD 65 (Vec.set 65 s235.2.2.1 x241.toNat x242) 41 (0:Int),Vec.getD 65 (Vec.set 65 s235.2.2.1 x241.toNat x242) 42 (0:Int),Vec.getD 65 (Vec.set 65 s235.2.2.1 x241.toNat x242) 43 (0:Int),Vec.getD 65 (Vec.set 65 s235.2.2.1 x241.toNat x242) 44 (0:Int),Vec.getD 65 (Vec.set 65 s235.2.2.1 x241.toNat x242) 45 (0:Int),Vec.getD 65 (Vec.set 65 s235.2.2.1 x241.toNat x242) 46 (0:Int),Vec.getD 65 (Vec.set 65 s235.2.2.1 x241.toNat x242) 47 (0:Int),Vec.getD 65 (Vec.set 65 s235.2.2.1 x241.toNat x242) 48 (0:Int),Vec.getD 65 (Vec.set 65 s235.2.2.1 x241.toNat x242) 49 (0:Int),Vec.getD 65 (Vec.set 65 s235.2.2.1 x241.toNat x242) 50 (0:Int),Vec.getD 65 (Vec.set 65 s235.2.2.1 x241.toNat x242) 51 (0:Int),Vec.getD 65 (Vec.set 65 s235.2.2.1 x241.toNat x242) 52 (0:Int),Vec.getD 65 (Vec.set 65 s235.2.2.1 x241.toNat x242) 53 (0:Int),Vec.getD 65 (Vec.set 65 s235.2.2.1 x241.toNat x242) 54 (0:Int),Vec.getD 65 (Vec.set 65 s235.2.2.1 x241.toNat x242) 55 (0:Int),Vec.getD 65 (Vec.set 65 s235.2.2.1 x241.toNat x242) 56 (0:Int),Vec.getD 65 (Vec.set 65 s235.2.2.1 x241.toNat x242) 57 (0:Int),Vec.getD 65 (Vec.set 65 s235.2.2.1 x241.toNat x242) 58 (0:Int),Vec.getD 65 (Vec.set 65 s235.2.2.1 x241.toNat x242) 59 (0:Int),Vec.getD 65 (Vec.set 65 s235.2.2.1 x241.toNat x242) 60 (0:Int),Vec.getD 65 (Vec.set 65 s235.2.2.1 x241.toNat x242) 61 (0:Int),Vec.getD 65 (Vec.set 65 s235.2.2.1 x241.toNat x242) 62 (0:Int),Vec.getD 65 (Vec.set 65 s235.2.2.1 x241.toNat x242) 63 (0:Int),Vec.getD 65 (Vec.set 65 s235.2.2.1 x241.toNat x242) 64 (0:Int)]:(List Int))))),()),())
    else none
   else none
  else none)
def qmh (x246:Int) (a3:Bool) (a4:Bool) (s254:Dq23):Option (Dq23⊕Dq25) :=
 bif (iLe x246 s254.1) then
  let x256:=iSub .i64 s254.2.1 1
  bif iEq x246 0 then none else
  let x257:=iQuo .u64 s254.1 x246
  let x259:=iSub .u64 s254.1 (iMul .u64 x257 x246)
  bif inB x259 (List.length ([48,49,50,51,52,53,54,55,56,57,97,98,99,100,101,102,103,104,105,106,107,108,109,110,111,112,113,114,115,116,117,118,119,120,121,122])) then
   bif inB x256 65 then some (Sum.inl (x257,x256,Vec.set 65 s254.2.2.1 x256.toNat (strAt ([48,49,50,51,52,53,54,55,56,57,97,98,99,100,101,102,103,104,105,106,107,108,109,110,111,112,113,114,115,116,117,118,119,120,121,122]) x259),())) else none
  else none
 else
 Option.map Sum.inr (
  let x261:=iSub .i64 s254.2.1 1
  bif inB s254.1 (List.length ([48,49,50,51,52,53,54,55,56,57,97,98,99,100,101,102,103,104,105,106,107,108,109,110,111,112,113,114,115,116,117,118,119,120,121,122])) then
   let x262:=strAt ([48,49,50,51,52,53,54,55,56,57,97,98,99,100,101,102,103,104,105,106,107,108,109,110,111,112,113,114,115,116,117,118,119,120,121,122]) s254.1
   bif inB x261 65 then
    bif a3 then
     let x263:=iSub .i64 x261 1
     bif inB x263 65 then
      bif a4 then
       bif inS x263 Lq12 65 then none else none
      else
      bif inS x263 Lq12 65 then
       some ((([]:(List Int)),(ofBytes (List.take (65-x263.toNat) (List.drop x263.toNat ([Vec.getD 65 (Vec.set 65 (Vec.set 65 s254.2.2.1 x261.toNat x262) x263.toNat (45:Int)) 0 (0:Int),Vec.getD 65 (Vec.set 65 (Vec.set 65 s254.2.2.1 x261.toNat x262) x263.toNat (45:Int)) 1 (0:Int),Vec.getD 65 (Vec.set 65 (Vec.set 65 s254.2.2.1 x261.toNat x262) x263.toNat (45:Int)) 2 (0:Int),Vec.getD 65 (Vec.set 65 (Vec.set 65 s254.2.2.1 x261.toNat x262) x263.toNat (45:Int)) 3 (0:Int),Vec.getD 65 (Vec.set 65 (Vec.set 65 s254.2.2.1 x261.toNat x262) x263.toNat (45:Int)) 4 (0:Int),Vec.getD 65 (Vec.set 65 (Vec.set 65 s254.2.2.1 x261.toNat x262) x263.toNat (45:Int)) 5 (0:Int),Vec.getD 65 (Vec.set 65 (Vec.set 65 s254.2.2.1 x261.toNat x262) x263.toNat (45:Int)) 6 (0:Int),Vec.getD 65 (Vec.set 65 (Vec.set 65 s254.2.2.1 x261.toNat x262) x263.toNat (45:Int)) 7 (0:Int),Vec.getD 65 (Vec.set 65 (Vec.set 65 s254.2.2.1 x261.toNat x262) x263.toNat (45:Int)) 8 (0:Int),Vec.getD 65 (Vec.set 65 (Vec.set 65 s254.2.2.1 x261.toNat x262) x263.toNat (45:Int)) 9 (0:Int),Vec.getD 65 (Vec.set 65 (Vec.set 65 s254.2.2.1 x261.toNat x262) x263.toNat (45:Int)) 10 (0:Int),Vec.getD 65 (Vec.set 65 (Vec.set 65 s254.2.2.1 x261.toNat x262) x263.toNat (45:Int)) 11 (0:Int),Vec.getD 65 (Vec.set 65 (Vec.set 65 s254.2.2.1 x261.toNat x262) x263.toNat (45:Int)) 12 (0:Int),Vec.getD 65 (Vec.set 65 (Vec.set 65 s254.2.2.1 x261.toNat x262) x263.toNat (45:Int)) 13 (0:Int),Vec.getD 65 (Vec.set 65 (Vec.set 65 s254.2.2.1 x261.toNat x262) x263.toNat (45:Int)) 14 (0:Int),Vec.getD 65 (Vec.set 65 (Vec.set 65 s254.2.2.1 x261.toNat x262) x263.toNat (45:Int)) 15 (0:Int),Vec.getD 65 (Vec.set 65 (Vec.set 65 s254.2.2.1 x261.toNat x262) x263.toNat (45:Int)) 16 (0:Int),Vec.getD 65 (Vec.set 65 (Vec.set 65 s254.2.2.1 x261.toNat x262) x263.toNat (45:Int)) 17 (0:Int),Vec.getD 65 (Vec.set 65 (Vec.set 65 s254.2.2.1 x261.toNat x262) x263.toNat (45:Int)) 18 (0:Int),Vec.getD 65 (Vec.set 65 (Vec.set 65 s254.2.2.1 x261.toNat x262) x263.toNat (45:Int)) 19 (0:Int),Vec.getD 65 (Vec.set 65 (Vec.set 65 s254.2.2.1 x261.toNat x262) x263.toNat (45:Int)) 20 (0:Int),Vec.getD 65 (Vec.set 65 (Vec.set 65 s254.2.2.1 x261.toNat x262) x263.toNat (45:Int)) 21 (0:Int),Vec.getD 65 (Vec.set 65 (Vec.set 65 s254.2.2.1 x261.toNat x262) x263.toNat (45:Int)) 22 (0:Int),Vec.getD 65 (Vec.set 65 (Vec.set 65 s254.2.2.1 x261.toNat x262) x263.toNat (45:Int)) 23 (0:Int),Vec.getD 65 (Vec.set 65 (Vec.set 65 s254.2.2.1 x261.toNat x262) x263.toNat (45:Int)) 24 (0:Int),Vec.getD 65 (Vec.set 65 (Vec.set 65 s254.2.2.1 x261.toNat x262) x263.toNat (45:Int)) 25 (0:Int),Vec.getD 65 (Vec.set 65 (Vec.set 65 s254.2.2.1 x261.toNat x262) x263.toNat (45:Int)) 26 (0:Int),Vec.getD 65 (Vec.set 65 (Vec.set 65 s254.2.2.1 x261.toNat x262) x263.toNat (45:Int)) 27 (0:Int),Vec.getD 65 (Vec.set 65 (Vec.set 65 s254.2.2.1 x261.toNat x262) x263.toNat (45:Int)) 28 (0:Int),Vec.getD 65 (Vec.set 65 (Vec.set 65 s254.2.2.1 x261.toNat x262) x263.toNat (45:Int)) 29 (0:Int),Vec.getD 65 (Vec.set 65 (Vec.set 65 s254.2.2.1 x261.toNat x262) x263.toNat (45:Int)) 30 (0:Int),Vec.getD 65 (Vec.set 65 (Vec.set 65 s254.2.2.1 x261.toNat x262) x263.toNat (45:Int)) 31 (0:Int),Vec.getD 65 (Vec.set 65 (Vec.set 65 s254.2.2.1 x261.toNat x262) x263.toNat (45:Int)) 32 (0:Int),Vec.getD 65 (Vec.set 65 (Vec.set 65 s254.2.2.1 x261.toNat x262) x263.toNat (45:Int)) 33 (0:Int),Vec.getD 65 (Vec.set 65 (Vec.set 65 s254.2.2.1 x261.toNat x262) x263.toNat (45:Int)) 34 (0:Int),Vec.getD 65 (Vec.set 65 (Vec.set 65 s254.2.2.1 x261.toNat x262) x263.toNat (45:Int)) 35 (0:Int),Vec.getD 65 (Vec.set 65 (Vec.set 65 s254.2.2.1 x261.toNat x262) x263.toNat (45:Int)) 36 (0:Int),Vec.getD 65 (Vec.set 65 (Vec.set 65 s254.2.2.1 x261.toNat x262) x263.toNat (45:Int)) 37 (0:Int),Vec.getD 65 (Vec.set 65 (Vec.set 65 s254.2.2.1 x261.toNat x262) x263.toNat (45:Int)) 38 (0:Int),Vec.getD 65 (Vec.set 65 (Vec.set 65 s254.2.2.1 x261.toNat x262) x263.toNat (45:Int)) 39 (0:Int),Vec.getD 65 (Vec.set 65 (Vec.set 65 s254.2.2.1 x261.toNat x262) x263.toNat (45:Int)) 40 (0:Int),Vec.getD 65 (Vec.set 65 (Vec.set 65 s254.2.2.1 x261.toNat x262) x263.toNat (45:Int)) 41 (0:Int),Vec.getD 65 (Vec.set 65 (Vec.set 65 s254.2.2.1 x261.toNat x262) x263.toNat (45:Int)) 42 (0:Int),Vec.getD 65 (Vec.set 65 (Vec.set 65 s254.2.2.1 x261.toNat x262) x263.toNat (45:Int)) 43 (0:Int),Vec.getD 65 (Vec.set 65 (Vec.set 65 s254.2.2.1 x261.toNat x262) x263.toNat (45:Int)) 44 (0:Int),Vec.getD 65 (Vec.set 65 (Vec.set 65 s254.2.2.1 x261.toNat x262) x263.toNat (45:Int)) 45 (0:Int),Vec.getD 65 (Vec.set 65 (Vec.set 65 s254.2.2.1 x261.toNat x262) x263.toNat (45:Int)) 46 (0:Int),Vec.getD 65 (Vec.set 65 (Vec.set 65 s254.2.2.1 x261.toNat x262) x263.toNat (45:Int)) 47 (0:Int),Vec.getD 65 (Vec.set 65 (Vec.set 65 s254.2.2.1 x261.toNat x262) x263.toNat (45:Int)) 48 (0:Int),Vec.getD 65 (Vec.set 65 (Vec.set 65 s254.2.2.1 x261.toNat x262) x263.toNat (45:Int)) 49 (0:Int),Vec.getD 65 (Vec.set 65 (Vec.set 65 s254.2.2.1 x261.toNat x262) x263.toNat (45:Int)) 50 (0:Int),Vec.getD 65 (Vec.set 65 (Vec.set 65 s254.2.2.1 x261.toNat x262) x263.toNat (45:Int)) 51 (0:Int),Vec.getD 65 (Vec.set 65 (Vec.set 65 s254.2.2.1 x261.toNat x262) x263.toNat (45:Int)) 52 (0:Int),Vec.getD 65 (Vec.set 65 (Vec.set 65 s254.2.2.1 x261.toNat x262) x263.toNat (45:Int)) 53 (0:Int),Vec.getD 65 (Vec.set 65 (Vec.set 65 s254.2.2.1 x261.toNat x262) x263.toNat (45:Int)) 54 (0:Int),Vec.getD 65 (Vec.set 65 (Vec.set 65 s254.2.2.1 x261.toNat x262) x263.toNat (45:Int)) 55 (0:Int),Vec.getD 65 (Vec.set 65 (Vec.set 65 s254.2.2.1 x261.toNat x262) x263.toNat (45:Int)) 56 (0:Int),Vec.getD 65 (Vec.set 65 (Vec.set 65 s254.2.2.1 x261.toNat x262) x263.toNat (45:Int)) 57 (0:Int),Vec.getD 65 (Vec.set 65 (Vec.set 65 s254.2.2.1 x261.toNat x262) x263.toNat (45:Int)) 58 (0:Int),Vec.getD 65 (Vec.set 65 (Vec.set 65 s254.2.2.1 x261.toNat x262) x263.toNat (45:Int)) 59 (0:Int),Vec.getD 65 (Vec.set 65 (Vec.set 65 s254.2.2.1 x261.toNat x262) x263.toNat (45:Int)) 60 (0:Int),Vec.getD 65 (Vec.set 65 (Vec.set 65 s254.2.2.1 x261.toNat x262) x263.toNat (45:Int)) 61 (0:Int),Vec.getD 65 (Vec.set 65 (Vec.set 65 s254.2.2.1 x261.toNat x262) x263.toNat (45:Int)) 62 (0:Int),Vec.getD 65 (Vec.set 65 (Vec.set 65 s254.2.2.1 x261.toNat x262) x263.toNat (45:Int)) 63 (0:Int),Vec.getD 65 (Vec.set 65 (Vec.set 65 s254.2.2.1 x261.toNat x262) x263.toNat (45:Int)) 64 (0:Int)]:(List Int))))),()),())
      else none
     else none
    else
    bif a4 then
     bif inS x261 Lq12 65 then none else none
    else
    bif inS x261 Lq12 65 then
     some ((([]:(List Int)),(ofBytes (List.take (65-x261.toNat) (List.drop x261.toNat ([Vec.getD 65 (Vec.set 65 s254.2.2.1 x261.toNat x262) 0 (0:Int),Vec.getD 65 (Vec.set 65 s254.2.2.1 x261.toNat x262) 1 (0:Int),Vec.getD 65 (Vec.set 65 s254.2.2.1 x261.toNat x262) 2 (0:Int),Vec.getD 65 (Vec.set 65 s254.2.2.1 x261.toNat x262) 3 (0:Int),Vec.getD 65 (Vec.set 65 s254.2.2.1 x261.toNat x262) 4 (0:Int),Vec.getD 65 (Vec.set 65 s254.2.2.1 x261.toNat x262) 5 (0:Int),Vec.getD 65 (Vec.set 65 s254.2.2.1 x261.toNat x262) 6 (0:Int),Vec.getD 65 (Vec.set 65 s254.2.2.1 x261.toNat x262) 7 (0:Int),Vec.getD 65 (Vec.set 65 s254.2.2.1 x261.toNat x262) 8 (0:Int),Vec.getD 65 (Vec.set 65 s254.2.2.1 x261.toNat x262) 9 (0:Int),Vec.getD 65 (Vec.set 65 s254.2.2.1 x261.toNat x262) 10 (0:Int),Vec.getD 65 (Vec.set 65 s254.2.2.1 x261.toNat x262) 11 (0:Int),Vec.getD 65 (Vec.set 65 s254.2.2.1 x261.toNat x262) 12 (0:Int),Vec.getD 65 (Vec.set 65 s254.2.2.1 x261.toNat x262) 13 (0:Int),Vec.getD 65 (Vec.set 65 s254.2.2.1 x261.toNat x262) 14 (0:Int),Vec.getD 65 (Vec.set 65 s254.2.2.1 x261.toNat x262) 15 (0:Int),Vec.getD 65 (Vec.set 65 s254.2.2.1 x261.toNat x262) 16 (0:Int),Vec.getD 65 (Vec.set 65 s254.2.2.1 x261.toNat x262) 17 (0:Int),Vec.getD 65 (Vec.set 65 s254.2.2.1 x261.toNat x262) 18 (0:Int),Vec.getD 65 (Vec.set 65 s254.2.2.1 x261.toNat x262) 19 (0:Int),Vec.getD 65 (Vec.set 65 s254.2.2.1 x261.toNat x262) 20 (0:Int),Vec.getD 65 (Vec.set 65 s254.2.2.1 x261.toNat x262) 21 (0:Int),Vec.getD 65 (Vec.set 65 s254.2.2.1 x261.toNat x262) 22 (0:Int),Vec.getD 65 (Vec.set 65 s254.2.2.1 x261.toNat x262) 23 (0:Int),Vec.getD 65 (Vec.set 65 s254.2.2.1 x261.toNat x262) 24 (0:Int),Vec.getD 65 (Vec.set 65 s254.2.2.1 x261.toNat x262) 25 (0:Int),Vec.getD 65 (Vec.set 65 s254.2.2.1 x261.toNat x262) 26 (0:Int),Vec.getD 65 (Vec.set 65 s254.2.2.1 x261.toNat x262) 27 (0:Int),Vec.getD 65 (Vec.set 65 s254.2.2.1 x261.toNat x262) 28 (0:Int),Vec.getD 65 (Vec.set 65 s254.2.2.1 x261.toNat x262) 29 (0:Int),Vec.getD 65 (Vec.set 65 s254.2.2.1 x261.toNat x262) 30 (0:Int),Vec.getD 65 (Vec.set 65 s254.2.2.1 x261.toNat x262) 31 (0:Int),Vec.getD 65 (Vec.set 65 s254.2.2.1 x261.toNat x262) 32 (0:Int),Vec.getD 65 (Vec.set 65 s254.2.2.1 x261.toNat x262) 33 (0:Int),Vec.getD 65 (Vec.set 65 s254.2.2.1 x261.toNat x262) 34 (0:Int),Vec.getD 65 (Vec.set 65 s254.2.2.1 x261.toNat x262) 35 (0:Int),Vec.getD 65 (Vec.set 65 s254.2.2.1 x261.toNat x262) 36 (0:Int),Vec.getD 65 (Vec.set 65 s254.2.2.1 x261.toNat x262) 37 (0:Int),Vec.getD 65 (Vec.set 65 s254.2.2.1 x261.toNat x262) 38 (0:Int),Vec.getD 65 (Vec.set 65 s254.2.2.1 x261.toNat x262) 39 (0:Int),Vec.getD 65 (Vec.set 65 s254.2.2.1 x261.toNat x262) 40 (0:Int),Vec.getD 65 (Vec.set 65 s254.2.2.1 x261.toNat x262) 41 (0:Int),Vec.getD 65 (Vec.set 65 s254.2.2.1 x261.toNat x262) 42 (0:Int),Vec.getD 65 (Vec.set 65 s254.2.2.1 x261.toNat x262) 43 (0:Int),Vec.getD 65 (Vec.set 65 s254.2.2.1 x261.toNat x262) 44 (0:Int),Vec.getD 65 (Vec.set 65 s254.2.2.1 x261.toNat x262) 45 (0:Int),Vec.getD 65 (Vec.set 65 s254.2.2.1 x261.toNat x262) 46 (0:Int),Vec.getD 65 (Vec.set 65 s254.2.2.1 x261.toNat x262) 47 (0:Int),Vec.getD 65 (Vec.set 65 s254.2.2.1 x261.toNat x262) 48 (0:Int),Vec.getD 65 (Vec.set 65 s254.2.2.1 x261.toNat x262) 49 (0:Int),Vec.getD 65 (Vec.set 65 s254.2.2.1 x261.toNat x262) 50 (0:Int),Vec.getD 65 (Vec.set 65 s254.2.2.1 x261.toNat x262) 51 (0:Int),Vec.getD 65 (Vec.set 65 s254.2.2.1 x261.toNat x262) 52 (0:Int),Vec.getD 65 (Vec.set 65 s254.2.2.1 x261.toNat x262) 53 (0:Int),Vec.getD 65 (Vec.set 65 s254.2.2.1 x261.toNat x262) 54 (0:Int),Vec.getD 65 (Vec.set 65 s254.2.2.1 x261.toNat x262) 55 (0:Int),Vec.getD 65 (Vec.set 65 s254.2.2.1 x261.toNat x262) 56 (0:Int),Vec.getD 65 (Vec.set 65 s254.2.2.1 x261.toNat x262) 57 (0:Int),Vec.getD 65 (Vec.set 65 s254.2.2.1 x261.toNat x262) 58 (0:Int),Vec.getD 65 (Vec.set 65 s254.2.2.1 x261.toNat x262) 59 (0:Int),Vec.getD 65 (Vec.set 65 s254.2.2.1 x261.toNat x262) 60 (0:Int),Vec.getD 65 (Vec.set 65 s254.2.2.1 x261.toNat x262) 61 (0:Int),Vec.getD 65 (Vec.set 65 s254.2.2.1 x261.toNat x262) 62 (0:Int),Vec.getD 65 (Vec.set 65 s254.2.2.1 x261.toNat x262) 63 (0:Int),Vec.getD 65 (Vec.set 65 s254.2.2.1 x261.toNat x262) 64 (0:Int)]:(List Int))))),()),())
    else none
   else none
  else none)
def qdc (a0:(List Int)) (a1:Int) (a2:Int) (a3:Bool) (a4:Bool):Option Dq25 :=
 bif (iLt a2 2) then none else
 bif (iEq a2 10) then none else
 bif (iLt 36 a2) then none else
 bif a3 then
  let x177:=iSub .u64 0 a1
  (qcs a2).bind fun y178 =>
  bif y178.1.1 then
   (qbu (iWrap .u64 a2)).bind fun y180 =>
   let x181:=iWrap .u64 y180.1.1
   let x182:=iWrap .u64 a2
   let x184:=iSub .u64 (iWrap .u64 a2) 1
   run (qn3 x182 x184 x181 a3 a4) (x177,(65:Int),Lq8,())
  else
  let x202:=iWrap .u64 a2
  run (qn4 x202 a3 a4) (x177,(65:Int),Lq8,())
 else
 (qcs a2).bind fun y222 =>
 bif y222.1.1 then
  (qbu (iWrap .u64 a2)).bind fun y224 =>
  let x225:=iWrap .u64 y224.1.1
  let x226:=iWrap .u64 a2
  let x228:=iSub .u64 (iWrap .u64 a2) 1
  run (qca x226 x228 x225 a3 a4) (a1,(65:Int),Lq8,())
 else
 let x246:=iWrap .u64 a2
 run (qmh x246 a3 a4) (a1,(65:Int),Lq8,())
def qhl:Entry:=⟨⟨[.v (.list (.int .u8)),.v (.int .u64),.v (.int .i64),.v (.bool),.v (.bool)],[.v (.rows (.int .u8)),.v (.val (.str))],false⟩,fun x=>qdc x.1 x.2.1 x.2.2.1 x.2.2.2.1 x.2.2.2.2.1⟩
theorem qor (db:GDeb Tryz.prog G):Sound Tryz.prog G 199 qhl:=qab (envS (l:=[(243,qgu),(244,qft)]) ⟨(qm9),(qr6 db),trivial⟩) [(11,.vary [(1,.sc (.int .u64)),(13,.sc (.int .i64)),(12,.box (.val (.arr 65 (.int .u8))))]),(18,.vary [(1,.sc (.int .u64)),(13,.sc (.int .i64)),(12,.box (.val (.arr 65 (.int .u8))))])] Tryz.func199 (by kernel_rfl) rfl fun _=>by kernel_rfl
def qfd (a0:Int) (a1:Int):Option Dq16 :=
 bif (iEq a1 10) then
  bif (iLt a0 100) then
   none
  else none
 else
 (qdc ([]:(List Int)) a0 a1 false false).bind fun y173 =>
 some ((y173.1.2.1,()),())
def qhk:Entry:=⟨⟨[.v (.int .u64),.v (.int .i64)],[.v (.val (.str))],false⟩,fun x=>qfd x.1 x.2.1⟩
theorem qoq (db:GDeb Tryz.prog G):Sound Tryz.prog G 166 qhk:=qab (envS (l:=[(199,qhl)]) ⟨(qor db),trivial⟩) [] Tryz.func166 (by kernel_rfl) rfl fun _=>by kernel_rfl
def qhz (a0:Int) (a1:Int):Option Dq16 :=
 (qfd a0 a1).bind fun y169 =>
 some ((y169.1.1,()),())
def qn2:Entry:=⟨⟨[.v (.int .u64),.v (.int .i64)],[.v (.val (.str))],false⟩,fun x=>qhz x.1 x.2.1⟩
theorem qx1 (db:GDeb Tryz.prog G):Sound Tryz.prog G 131 qn2:=qab (envS (l:=[(166,qhk)]) ⟨(qoq db),trivial⟩) [] Tryz.func131 (by kernel_rfl) rfl fun _=>by kernel_rfl
def qfb (s165:(List UInt8×Unit)):Option ((List UInt8×Unit)⊕Dq16) :=
 bif (iLt (lenI s165.1) 8) then
  bif strRoom ([48]) s165.1 then
   some (Sum.inl ((strCat ([48]) s165.1),()))
  else none
 else
 Option.map Sum.inr (some ((s165.1,()),()))
def qd8 (a0:Nat):Option Dq16 :=
 (qf6 a0).bind fun y160 =>
 bif y160.1.1 then some ((([55,102,99,48,48,48,48,48]:List UInt8),()),()) else
 allSame fun (q161:Nat) =>
 (qhz (iWrap .u64 (bitsF .f32 a0 q161)) (16:Int)).bind fun y164 =>
 run (qfb) (y164.1.1,())
def qhe:Entry:=⟨⟨[.v (.flt .f32)],[.v (.val (.str))],false⟩,fun x=>qd8 x.1⟩
theorem qkv (db:GDeb Tryz.prog G):Sound Tryz.prog G 72 qhe:=qab (envS (l:=[(90,qmu),(131,qn2)]) ⟨(qr3),(qx1 db),trivial⟩) [(4,.vary [(3,.sc (.str))])] Tryz.func72 (by kernel_rfl) rfl fun _=>by kernel_rfl
def qm7 (a0:(List Nat)) (s296:(Int×Unit)):Option ((Int×Unit)⊕Dq9) :=
 bif (iLt s296.1 (lenI a0)) then
  bif inB s296.1 (List.length a0) then
   let x298:=List.getD a0 s296.1.toNat (0:Nat)
   bif (! (fEq .f32 (fSub .f32 x298 x298) 0)) then
    Option.map Sum.inr (some ((false,()),()))
   else
   some (Sum.inl ((iAdd .i64 s296.1 1),()))
  else none
 else
 Option.map Sum.inr (some ((true,()),()))
def qaj (a0:(List Nat)):Option Dq9 :=
 run (qm7 a0) ((0:Int),())
def qbm:Entry:=⟨⟨[.v (.list (.flt .f32))],[.v (.val (.bool))],false⟩,fun x=>qaj x.1⟩
theorem qbq:Sound Tryz.prog G 48 qbm:=qab (envS (l:=[]) trivial) [(2,.vary [(7,.sc (.int .i64))])] Tryz.func48 (by kernel_rfl) rfl fun _=>by kernel_rfl
def qbp (a0:(Vec 3 Nat)):Option Dq9 :=
 (qaj ([Vec.getD 3 a0 0 (0:Nat),Vec.getD 3 a0 1 (0:Nat),Vec.getD 3 a0 2 (0:Nat)]:(List Nat))).bind fun y295 =>
 some ((y295.1.1,()),())
def qdh:Entry:=⟨⟨[.v (.arr 3 (.flt .f32))],[.v (.val (.bool))],false⟩,fun x=>qbp x.1⟩
theorem qeu:Sound Tryz.prog G 98 qdh:=qab (envS (l:=[(48,qbm)]) ⟨(qbq),trivial⟩) [] Tryz.func98 (by kernel_rfl) rfl fun _=>by kernel_rfl
def qdb (a0:Nat) (a1:Nat):Option Dq9 :=
 (qf6 a0).bind fun y307 =>
 bif y307.1.1 then
  (qf6 a1).bind fun y308 =>
  bif y308.1.1 then some ((true,()),()) else
  allSame fun (q309:Nat) =>
  allSame fun (q311:Nat) =>
  some (((iEq (bitsF .f32 a0 q309) (bitsF .f32 a1 q311)),()),())
 else
 allSame fun (q314:Nat) =>
 allSame fun (q316:Nat) =>
 some (((iEq (bitsF .f32 a0 q314) (bitsF .f32 a1 q316)),()),())
def qhh:Entry:=⟨⟨[.v (.flt .f32),.v (.flt .f32)],[.v (.val (.bool))],false⟩,fun x=>qdb x.1 x.2.1⟩
theorem qk0:Sound Tryz.prog G 22 qhh:=qab (envS (l:=[(90,qmu)]) ⟨(qr3),trivial⟩) [] Tryz.func22 (by kernel_rfl) rfl fun _=>by kernel_rfl
def qgp (a0:(Vec 3 Nat)) (a1:(Vec 3 Nat)):Option Dq9 :=
 (qdb (Vec.getD 3 a0 0 (0:Nat)) (Vec.getD 3 a1 0 (0:Nat))).bind fun y321 =>
 bif (! y321.1.1) then some ((false,()),()) else
 (qdb (Vec.getD 3 a0 1 (0:Nat)) (Vec.getD 3 a1 1 (0:Nat))).bind fun y325 =>
 bif (! y325.1.1) then some ((false,()),()) else
 (qdb (Vec.getD 3 a0 2 (0:Nat)) (Vec.getD 3 a1 2 (0:Nat))).bind fun y329 =>
 bif (! y329.1.1) then some ((false,()),()) else some ((true,()),())
def qoc:Entry:=⟨⟨[.v (.arr 3 (.flt .f32)),.v (.arr 3 (.flt .f32))],[.v (.val (.bool))],false⟩,fun x=>qgp x.1 x.2.1⟩
theorem qvb:Sound Tryz.prog G 79 qoc:=qab (envS (l:=[(22,qhh)]) ⟨(qk0),trivial⟩) [(2,.unroll 4)] Tryz.func79 (by kernel_rfl) rfl fun _=>by kernel_rfl
def qc3 (a0:Dq5) (a1:Dq5):Option Dq9 :=
 bif (iEq a0.1 a1.1) then
  (qgp a0.2.1 a1.2.1).bind fun y303 =>
  bif y303.1.1 then
   bif (iEq (Vec.getD 3 a0.2.2.1 0 (0:Int)) (Vec.getD 3 a1.2.2.1 0 (0:Int))&&(iEq (Vec.getD 3 a0.2.2.1 1 (0:Int)) (Vec.getD 3 a1.2.2.1 1 (0:Int))&&(iEq (Vec.getD 3 a0.2.2.1 2 (0:Int)) (Vec.getD 3 a1.2.2.1 2 (0:Int))&&true))) then
    bif (iEq a0.2.2.2.1 a1.2.2.2.1) then
     (qdb a0.2.2.2.2.1 a1.2.2.2.2.1).bind fun y306 =>
     some ((y306.1.1,()),())
    else some ((false,()),())
   else some ((false,()),())
  else some ((false,()),())
 else some ((false,()),())
def ql3:Entry:=⟨⟨[.v Uq1,.v Uq1],[.v (.val (.bool))],false⟩,fun x=>qc3 x.1 x.2.1⟩
theorem qsn:Sound Tryz.prog G 82 ql3:=qab (envS (l:=[(22,qhh),(79,qoc)]) ⟨(qk0),(qvb),trivial⟩) [] Tryz.func82 (by kernel_rfl) rfl fun _=>by kernel_rfl
def qb0 (a0:Int) (a1:Int) (a2:Int):Option Dq9 :=
 bif (iLe a1 a0) then
  some (((iLe a0 a2),()),())
 else some ((false,()),())
def qih:Entry:=⟨⟨[.v (.int .i64),.v (.int .i64),.v (.int .i64)],[.v (.val (.bool))],false⟩,fun x=>qb0 x.1 x.2.1 x.2.2.1⟩
theorem qlr:Sound Tryz.prog G 97 qih:=qab (envS (l:=[]) trivial) [] Tryz.func97 (by kernel_rfl) rfl fun _=>by kernel_rfl
def qkn (a0:Dq5) (a1:Int):Option Dq9 :=
 bif (iEq a0.1 1) then
  (qc3 a0 ((a0.1,(0,0,0,()),(0,0,0,()),0,0,()):Dq5)).bind fun y277 =>
  bif y277.1.1 then
   (qbp a0.2.1).bind fun y278 =>
   bif y278.1.1 then
    (qaj ([a0.2.2.2.2.1]:(List Nat))).bind fun y279 =>
    some ((y279.1.1,()),())
   else some ((false,()),())
  else some ((false,()),())
 else
 bif (iEq a0.1 2) then
  (qc3 a0 ((a0.1,a0.2.1,(0,0,0,()),0,0,()):Dq5)).bind fun y281 =>
  bif y281.1.1 then
   (qbp a0.2.1).bind fun y282 =>
   bif y282.1.1 then
    (qaj ([a0.2.2.2.2.1]:(List Nat))).bind fun y283 =>
    some ((y283.1.1,()),())
   else some ((false,()),())
  else some ((false,()),())
 else
 bif (iEq a0.1 3) then
  (qc3 a0 ((a0.1,(0,0,0,()),a0.2.2.1,0,0,()):Dq5)).bind fun y285 =>
  bif y285.1.1 then
   (qbp a0.2.1).bind fun y286 =>
   bif y286.1.1 then
    (qaj ([a0.2.2.2.2.1]:(List Nat))).bind fun y287 =>
    some ((y287.1.1,()),())
   else some ((false,()),())
  else some ((false,()),())
 else
 bif (iEq a0.1 4) then
  (qb0 a0.2.2.2.1 (0:Int) (iSub .i64 a1 1)).bind fun y290 =>
  bif (! y290.1.1) then some ((false,()),()) else
  (qc3 a0 ((a0.1,(0,0,0,()),(0,0,0,()),a0.2.2.2.1,a0.2.2.2.2.1,()):Dq5)).bind fun y292 =>
  bif y292.1.1 then
   (qbp a0.2.1).bind fun y293 =>
   bif y293.1.1 then
    (qaj ([a0.2.2.2.2.1]:(List Nat))).bind fun y294 =>
    some ((y294.1.1,()),())
   else some ((false,()),())
  else some ((false,()),())
 else some ((false,()),())
def qro:Entry:=⟨⟨[.v Uq1,.v (.int .i64)],[.v (.val (.bool))],false⟩,fun x=>qkn x.1 x.2.1⟩
theorem qz9:Sound Tryz.prog G 57 qro:=qab (envS (l:=[(48,qbm),(82,ql3),(97,qih),(98,qdh)]) ⟨(qbq),(qsn),(qlr),(qeu),trivial⟩) [] Tryz.func57 (by kernel_rfl) rfl fun _=>by kernel_rfl
def qkl (a0:Dq5) (a1:Dq2):Option Dq9 :=
 (qkn a0 (lenI a1.2.2.1)).bind fun y274 =>
 some (((! y274.1.1),()),())
def qrl:Entry:=⟨⟨[.v Uq1,.ro Uq5],[.v (.val (.bool))],false⟩,fun x=>qkl x.1 x.2.1⟩
theorem qz7:Sound Tryz.prog G 56 qrl:=qab (envS (l:=[(57,qro)]) ⟨(qz9),trivial⟩) [] Tryz.func56 (by kernel_rfl) rfl fun _=>by kernel_rfl
def qh5 (a0:(Vec 3 Nat)):Option Dq9 :=
 (qbp a0).bind fun y339 =>
 some (((! y339.1.1),()),())
def qop:Entry:=⟨⟨[.v (.arr 3 (.flt .f32))],[.v (.val (.bool))],false⟩,fun x=>qh5 x.1⟩
theorem qyi:Sound Tryz.prog G 124 qop:=qab (envS (l:=[(98,qdh)]) ⟨(qeu),trivial⟩) [] Tryz.func124 (by kernel_rfl) rfl fun _=>by kernel_rfl
def qe3 (a0:(List (Vec 3 Nat))) (a1:(Dq20→Option Bool)) (s343:(Int×Unit)):Option ((Int×Unit)⊕Dq21) :=
 bif (iLt s343.1 (lenI a0)) then
  bif inB s343.1 (List.length a0) then
   (a1 ((List.getD a0 s343.1.toNat Lq6),())).bind fun y346 =>
   bif y346 then
    Option.map Sum.inr (some ((s343.1,()),()))
   else
   some (Sum.inl ((iAdd .i64 s343.1 1),()))
  else none
 else
 Option.map Sum.inr (some ((((-1:Int):Int),()),()))
def qd4 (a0:(List (Vec 3 Nat))) (a1:(Dq20→Option Bool)):Option Dq21 :=
 run (qe3 a0 a1) ((0:Int),())
def qim:Entry:=⟨⟨[.v (.list (.arr 3 (.flt .f32))),.fn ⟨[.arr 3 (.flt .f32)],.bool⟩],[.v (.val (.int .i64))],false⟩,fun x=>qd4 x.1 x.2.1⟩
theorem qqh:Sound Tryz.prog G 159 qim:=qab (envS (l:=[]) trivial) [(2,.vary [(8,.sc (.int .i64))])] Tryz.func159 (by kernel_rfl) rfl fun _=>by kernel_rfl
def qc4 (a0:(List (Vec 3 Nat))) (a1:(Dq20→Option Bool)):Option Dq9 :=
 (qd4 a0 a1).bind fun y341 =>
 some (((iLe 0 y341.1.1),()),())
def qg7:Entry:=⟨⟨[.v (.list (.arr 3 (.flt .f32))),.fn ⟨[.arr 3 (.flt .f32)],.bool⟩],[.v (.val (.bool))],false⟩,fun x=>qc4 x.1 x.2.1⟩
theorem qn6:Sound Tryz.prog G 123 qg7:=qab (envS (l:=[(159,qim)]) ⟨(qqh),trivial⟩) [] Tryz.func123 (by kernel_rfl) rfl fun _=>by kernel_rfl
def qhj (a0:Int) (a1:(Vec 3 Nat)) (a2:(List (Vec 3 Nat))):Option Dq9 :=
 (qb0 a0 (1:Int) (64:Int)).bind fun y333 =>
 bif y333.1.1 then
  (qbp a1).bind fun y334 =>
  bif y334.1.1 then
   bif (iLe (lenI a2) 6) then
    (qc4 a2 (fun (z336:Dq20)=>(qh5 z336.1).map fun y=>y.1.1)).bind fun y337 =>
    some (((! y337.1.1),()),())
   else some ((false,()),())
  else some ((false,()),())
 else some ((false,()),())
def qk7:Entry:=⟨⟨[.v (.int .i64),.v (.arr 3 (.flt .f32)),.v (.list (.arr 3 (.flt .f32)))],[.v (.val (.bool))],false⟩,fun x=>qhj x.1 x.2.1 x.2.2.1⟩
theorem qrq:Sound Tryz.prog G 54 qk7:=qab (envS (l:=[(97,qih),(98,qdh),(123,qg7),(124,qop)]) ⟨(qlr),(qeu),(qn6),(qyi),trivial⟩) [] Tryz.func54 (by kernel_rfl) rfl fun _=>by kernel_rfl
def qee (a0:(List Dq5)) (a1:((Dq5×Unit)→Option Bool)) (s350:(Int×Unit)):Option ((Int×Unit)⊕Dq21) :=
 bif (iLt s350.1 (lenI a0)) then
  bif inB s350.1 (List.length a0) then
   (a1 ((List.getD a0 s350.1.toNat Lq7),())).bind fun y353 =>
   bif y353 then
    Option.map Sum.inr (some ((s350.1,()),()))
   else
   some (Sum.inl ((iAdd .i64 s350.1 1),()))
  else none
 else
 Option.map Sum.inr (some ((((-1:Int):Int),()),()))
def qdg (a0:(List Dq5)) (a1:((Dq5×Unit)→Option Bool)):Option Dq21 :=
 run (qee a0 a1) ((0:Int),())
def qhr:Entry:=⟨⟨[.v (.list Uq1),.fn ⟨[.pair (.int .i64) Uq8],.bool⟩],[.v (.val (.int .i64))],false⟩,fun x=>qdg x.1 x.2.1⟩
theorem qoy:Sound Tryz.prog G 125 qhr:=qab (envS (l:=[]) trivial) [(2,.vary [(8,.sc (.int .i64))])] Tryz.func125 (by kernel_rfl) rfl fun _=>by kernel_rfl
def qcq (a0:(List Dq5)) (a1:((Dq5×Unit)→Option Bool)):Option Dq9 :=
 (qdg a0 a1).bind fun y348 =>
 some (((iLe 0 y348.1.1),()),())
def qgd:Entry:=⟨⟨[.v (.list Uq1),.fn ⟨[.pair (.int .i64) Uq8],.bool⟩],[.v (.val (.bool))],false⟩,fun x=>qcq x.1 x.2.1⟩
theorem qml:Sound Tryz.prog G 55 qgd:=qab (envS (l:=[(125,qhr)]) ⟨(qoy),trivial⟩) [] Tryz.func55 (by kernel_rfl) rfl fun _=>by kernel_rfl
def qel (a0:Dq2):Option Dq9 :=
 (qhj a0.1 a0.2.1 a0.2.2.1).bind fun y269 =>
 bif y269.1.1 then
  bif (iLe (lenI a0.2.2.2.1) 1200) then
   (qcq a0.2.2.2.1 (fun (z271:(Dq5×Unit))=>(qkl z271.1 a0).map fun y=>y.1.1)).bind fun y272 =>
   some (((! y272.1.1),()),())
  else some ((false,()),())
 else some ((false,()),())
def qe0:Entry:=⟨⟨[.v Uq5],[.v (.val (.bool))],false⟩,fun x=>qel x.1⟩
theorem qgq:Sound Tryz.prog G 12 qe0:=qab (envS (l:=[(54,qk7),(55,qgd),(56,qrl)]) ⟨(qrq),(qml),(qz7),trivial⟩) [] Tryz.func12 (by kernel_rfl) rfl fun _=>by kernel_rfl
theorem qafh:Sound Tryz.prog G 165 strings_Join_en:=qamd Tryz.func165 (by kernel_rfl) (by kernel_rfl) Tryz.strings_Join_none Tryz.strings_Join
def qb4 (a0:(List Nat)) (s356:((List (List UInt8))×Int×Unit)):Option (((List (List UInt8))×Int×Unit)⊕Dq16) :=
 bif (iLt s356.2.1 (lenI a0)) then
  bif inB s356.2.1 (List.length a0) then
   (qd8 (List.getD a0 s356.2.1.toNat (0:Nat))).bind fun y359 =>
   bif room (List.length s356.1+1) 16 then
    some (Sum.inl ((s356.1++([y359.1.1]:(List (List UInt8)))),(iAdd .i64 s356.2.1 1),()))
   else none
  else none
 else
 Option.map Sum.inr (
  (strings_Join s356.1 ([32]:List UInt8)).bind fun y362 =>
  some ((y362.1.1,()),()))
def qi8 (a0:(List Nat)):Option Dq16 :=
 run (qb4 a0) (([]:(List (List UInt8))),(0:Int),())
def qpl:Entry:=⟨⟨[.v (.list (.flt .f32))],[.v (.val (.str))],false⟩,fun x=>qi8 x.1⟩
theorem qza (db:GDeb Tryz.prog G):Sound Tryz.prog G 130 qpl:=qab (envS (l:=[(72,qhe),(165,strings_Join_en)]) ⟨(qkv db),(qafh),trivial⟩) [(3,.vary [(3,.rows (.str)),(9,.sc (.int .i64))])] Tryz.func130 (by kernel_rfl) rfl fun _=>by kernel_rfl
def qid (a0:(Vec 3 Nat)):Option Dq16 :=
 (qi8 ([Vec.getD 3 a0 0 (0:Nat),Vec.getD 3 a0 1 (0:Nat),Vec.getD 3 a0 2 (0:Nat)]:(List Nat))).bind fun y355 =>
 some ((y355.1.1,()),())
def qvg:Entry:=⟨⟨[.v (.arr 3 (.flt .f32))],[.v (.val (.str))],false⟩,fun x=>qid x.1⟩
theorem qaeb (db:GDeb Tryz.prog G):Sound Tryz.prog G 70 qvg:=qab (envS (l:=[(130,qpl)]) ⟨(qza db),trivial⟩) [] Tryz.func70 (by kernel_rfl) rfl fun _=>by kernel_rfl
theorem qpe (tb:GTab Tryz.prog G):Sound Tryz.prog G 129 qf9:=qadu Tryz.func129 (by kernel_rfl) (by kernel_rfl) tb Tryz.strconv_FormatInt_10
def qdx (a0:Int):Option Dq16 :=
 (qb6 (iWrap .i64 a0) (10:Int)).bind fun y364 =>
 some ((y364.1.1,()),())
def qnw:Entry:=⟨⟨[.v (.int .i16)],[.v (.val (.str))],false⟩,fun x=>qdx x.1⟩
theorem qw1 (tb:GTab Tryz.prog G):Sound Tryz.prog G 71 qnw:=qab (envS (l:=[(129,qf9)]) ⟨(qpe tb),trivial⟩) [] Tryz.func71 (by kernel_rfl) rfl fun _=>by kernel_rfl
def qdy (a0:Int):Option Dq16 :=
 (qb6 a0 (10:Int)).bind fun y365 =>
 some ((y365.1.1,()),())
def qif:Entry:=⟨⟨[.v (.int .i64)],[.v (.val (.str))],false⟩,fun x=>qdy x.1⟩
theorem qnx (tb:GTab Tryz.prog G):Sound Tryz.prog G 69 qif:=qab (envS (l:=[(129,qf9)]) ⟨(qpe tb),trivial⟩) [] Tryz.func69 (by kernel_rfl) rfl fun _=>by kernel_rfl
def qdq (a0:Dq2) (s120:(Int×Dq12×Unit)):Option ((Int×Dq12×Unit)⊕Dq16) :=
 bif (iLt s120.1 (lenI a0.2.2.2.1)) then
  bif inB s120.1 (List.length a0.2.2.2.1) then
   let x122:=List.getD a0.2.2.2.1 s120.1.toNat Lq7
   bif (iEq x122.1 1) then
    (qav ((s120.2.1.1,s120.2.1.2.1,s120.2.1.2.2):Dq12) ([116,105,99,107,10]:List UInt8)).bind fun y124 =>
    some (Sum.inl ((iAdd .i64 s120.1 1),((y124.2.1.1,y124.2.1.2.1,y124.2.1.2.2):Dq12),()))
   else
   bif (iEq x122.1 2) then
    (qid x122.2.1).bind fun y127 =>
    bif strRoom ([109,111,118,101,32]) y127.1.1 then
     let x128:=strCat ([109,111,118,101,32]) y127.1.1
     bif strRoom x128 ([10]) then
      (qav ((s120.2.1.1,s120.2.1.2.1,s120.2.1.2.2):Dq12) (strCat x128 ([10]))).bind fun y130 =>
      some (Sum.inl ((iAdd .i64 s120.1 1),((y130.2.1.1,y130.2.1.2.1,y130.2.1.2.2):Dq12),()))
     else none
    else none
   else
   bif (iEq x122.1 3) then
    (qdx (Vec.getD 3 x122.2.2.1 0 (0:Int))).bind fun y134 =>
    bif strRoom ([102,105,120,32]) y134.1.1 then
     let x135:=strCat ([102,105,120,32]) y134.1.1
     bif strRoom x135 ([32]) then
      let x136:=strCat x135 ([32])
      (qdx (Vec.getD 3 x122.2.2.1 1 (0:Int))).bind fun y138 =>
      bif strRoom x136 y138.1.1 then
       let x139:=strCat x136 y138.1.1
       bif strRoom x139 ([32]) then
        let x140:=strCat x139 ([32])
        (qdx (Vec.getD 3 x122.2.2.1 2 (0:Int))).bind fun y142 =>
        bif strRoom x140 y142.1.1 then
         let x143:=strCat x140 y142.1.1
         bif strRoom x143 ([10]) then
          (qav ((s120.2.1.1,s120.2.1.2.1,s120.2.1.2.2):Dq12) (strCat x143 ([10]))).bind fun y145 =>
          some (Sum.inl ((iAdd .i64 s120.1 1),((y145.2.1.1,y145.2.1.2.1,y145.2.1.2.2):Dq12),()))
         else none
        else none
       else none
      else none
     else none
    else none
   else
   bif (iEq x122.1 4) then
    (qdy x122.2.2.2.1).bind fun y148 =>
    bif strRoom ([114,97,110,103,101,32]) y148.1.1 then
     let x149:=strCat ([114,97,110,103,101,32]) y148.1.1
     bif strRoom x149 ([32]) then
      let x150:=strCat x149 ([32])
      (qd8 x122.2.2.2.2.1).bind fun y151 =>
      bif strRoom x150 y151.1.1 then
       let x152:=strCat x150 y151.1.1
       bif strRoom x152 ([10]) then
        (qav ((s120.2.1.1,s120.2.1.2.1,s120.2.1.2.2):Dq12) (strCat x152 ([10]))).bind fun y154 =>
        some (Sum.inl ((iAdd .i64 s120.1 1),((y154.2.1.1,y154.2.1.2.1,y154.2.1.2.2):Dq12),()))
       else none
      else none
     else none
    else none
   else
   some (Sum.inl ((iAdd .i64 s120.1 1),((s120.2.1.1,s120.2.1.2.1,s120.2.1.2.2):Dq12),()))
  else none
 else
 Option.map Sum.inr (
  (bldStr ((s120.2.1.1,s120.2.1.2.1,s120.2.1.2.2):Dq12)).bind fun y157 =>
  some ((y157,()),()))
def qfi (a0:Dq2) (s106:(Int×Dq12×Unit)):Option ((Int×Dq12×Unit)⊕Dq16) :=
 bif (iLt s106.1 (lenI a0.2.2.1)) then
  bif inB s106.1 (List.length a0.2.2.1) then
   (qid (List.getD a0.2.2.1 s106.1.toNat Lq6)).bind fun y109 =>
   bif strRoom ([98,101,97,99,111,110,32]) y109.1.1 then
    let x110:=strCat ([98,101,97,99,111,110,32]) y109.1.1
    bif strRoom x110 ([10]) then
     (qav ((s106.2.1.1,s106.2.1.2.1,s106.2.1.2.2):Dq12) (strCat x110 ([10]))).bind fun y112 =>
     some (Sum.inl ((iAdd .i64 s106.1 1),((y112.2.1.1,y112.2.1.2.1,y112.2.1.2.2):Dq12),()))
    else none
   else none
  else none
 else
 Option.map Sum.inr (run (qdq a0) ((0:Int),((s106.2.1.1,s106.2.1.2.1,s106.2.1.2.2):Dq12),()))
def qh9 (a0:Dq2):Option Dq16 :=
 (qel a0).bind fun y89 =>
 bif (! y89.1.1) then some ((([]:List UInt8),()),()) else
 (qdy a0.1).bind fun y91 =>
 bif strRoom ([108,111,103,32]) y91.1.1 then
  let x92:=strCat ([108,111,103,32]) y91.1.1
  bif strRoom x92 ([32]) then
   let x93:=strCat x92 ([32])
   (qid a0.2.1).bind fun y94 =>
   bif strRoom x93 y94.1.1 then
    let x95:=strCat x93 y94.1.1
    bif strRoom x95 ([10]) then
     (qav (((),[],()):Dq12) (strCat x95 ([10]))).bind fun y97 =>
     run (qfi a0) ((0:Int),((y97.2.1.1,y97.2.1.2.1,y97.2.1.2.2):Dq12),())
    else none
   else none
  else none
 else none
def qu6:Entry:=⟨⟨[.v Uq5],[.v (.val (.str))],false⟩,fun x=>qh9 x.1⟩
theorem qad0 (tb:GTab Tryz.prog G) (db:GDeb Tryz.prog G):Sound Tryz.prog G 16 qu6:=qab (envS (l:=[(12,qe0),(68,qh0),(69,qif),(70,qvg),(71,qnw),(72,qhe)]) ⟨(qgq),(qpf),(qnx tb),(qaeb db),(qw1 tb),(qkv db),trivial⟩) [(6,.vary [(25,.sc (.int .i64)),(3,.box (.pair (.val (.ref 122)) (.pair (.rows (.int .u8)) (.val (.unit)))))]),(11,.vary [(38,.sc (.int .i64)),(3,.box (.pair (.val (.ref 122)) (.pair (.rows (.int .u8)) (.val (.unit)))))])] Tryz.func16 (by kernel_rfl) rfl fun _=>by kernel_rfl
def qjx (a0:(List Nat)) (a1:(List Nat)) (s380:(Nat×Int×Unit)):Option ((Nat×Int×Unit)⊕Dq24) :=
 bif (iLt s380.2.1 (lenI a0)) then
  bif inB s380.2.1 (List.length a0) then
   bif inB s380.2.1 (List.length a1) then
    let x384:=fMul .f32 (List.getD a0 s380.2.1.toNat (0:Nat)) (List.getD a1 s380.2.1.toNat (0:Nat))
    bif (iEq s380.2.1 0) then
     some (Sum.inl (x384,(iAdd .i64 s380.2.1 1),()))
    else
    some (Sum.inl ((fAdd .f32 s380.1 x384),(iAdd .i64 s380.2.1 1),()))
   else none
  else none
 else
 Option.map Sum.inr (some ((s380.1,()),()))
def qax (a0:(List Nat)) (a1:(List Nat)):Option Dq24 :=
 run (qjx a0 a1) ((0:Nat),(0:Int),())
def qjw:Entry:=⟨⟨[.v (.list (.flt .f32)),.v (.list (.flt .f32))],[.v (.val (.flt .f32))],false⟩,fun x=>qax x.1 x.2.1⟩
theorem qmv:Sound Tryz.prog G 154 qjw:=qab (envS (l:=[]) trivial) [(3,.vary [(5,.sc (.flt .f32)),(10,.sc (.int .i64))])] Tryz.func154 (by kernel_rfl) rfl fun _=>by kernel_rfl
def qj4 (a0:(Vec 3 Nat)) (a1:(Vec 3 Nat)):Option Dq24 :=
 (qax ([Vec.getD 3 a0 0 (0:Nat),Vec.getD 3 a0 1 (0:Nat),Vec.getD 3 a0 2 (0:Nat)]:(List Nat)) ([Vec.getD 3 a1 0 (0:Nat),Vec.getD 3 a1 1 (0:Nat),Vec.getD 3 a1 2 (0:Nat)]:(List Nat))).bind fun y379 =>
 some ((y379.1.1,()),())
def qwu:Entry:=⟨⟨[.v (.arr 3 (.flt .f32)),.v (.arr 3 (.flt .f32))],[.v (.val (.flt .f32))],false⟩,fun x=>qj4 x.1 x.2.1⟩
theorem qafo:Sound Tryz.prog G 115 qwu:=qab (envS (l:=[(154,qjw)]) ⟨(qmv),trivial⟩) [] Tryz.func115 (by kernel_rfl) rfl fun _=>by kernel_rfl
theorem qai8:Sound Tryz.prog G 187 qt5:=qaep Tryz.func187 (by kernel_rfl) (by kernel_rfl) (by kernel_rfl) (by kernel_rfl)
def qvn (a0:Nat):Option Dq24 :=
 (qahf a0).bind fun y392 =>
 some ((y392.1.1,()),())
def qt4:Entry:=⟨⟨[.v (.flt .f64)],[.v (.val (.flt .f64))],false⟩,fun x=>qvn x.1⟩
theorem qaai:Sound Tryz.prog G 153 qt4:=qab (envS (l:=[(187,qt5)]) ⟨(qai8),trivial⟩) [] Tryz.func153 (by kernel_rfl) rfl fun _=>by kernel_rfl
def qhi (a0:Nat):Option Dq24 :=
 (fConv .f32 .f64 a0).bind fun y389 =>
 (qvn y389).bind fun y390 =>
 (fConv .f64 .f32 y390.1.1).bind fun y391 =>
 some ((y391,()),())
def qk4:Entry:=⟨⟨[.v (.flt .f32)],[.v (.val (.flt .f32))],false⟩,fun x=>qhi x.1⟩
theorem qom:Sound Tryz.prog G 114 qk4:=qab (envS (l:=[(153,qt4)]) ⟨(qaai),trivial⟩) [] Tryz.func114 (by kernel_rfl) rfl fun _=>by kernel_rfl
def qdo (a0:(Vec 3 Nat)):Option Dq24 :=
 (qj4 a0 a0).bind fun y377 =>
 (qhi y377.1.1).bind fun y378 =>
 some ((y378.1.1,()),())
def qgn:Entry:=⟨⟨[.v (.arr 3 (.flt .f32))],[.v (.val (.flt .f32))],false⟩,fun x=>qdo x.1⟩
theorem qi2:Sound Tryz.prog G 46 qgn:=qab (envS (l:=[(114,qk4),(115,qwu)]) ⟨(qom),(qafo),trivial⟩) [] Tryz.func46 (by kernel_rfl) rfl fun _=>by kernel_rfl
def qhf (a0:Dq3):Option (Dq20×Unit) :=
 some ((((Vec.getD 6 a0.1 0 (0:Nat),Vec.getD 6 a0.1 1 (0:Nat),Vec.getD 6 a0.1 2 (0:Nat),()):(Vec 3 Nat)),()),())
def qkw:Entry:=⟨⟨[.v Uq2],[.v (.val (.arr 3 (.flt .f32)))],false⟩,fun x=>qhf x.1⟩
theorem qri:Sound Tryz.prog G 84 qkw:=qab (envS (l:=[]) trivial) [] Tryz.func84 (by kernel_rfl) rfl fun _=>by kernel_rfl
def qbo (a0:Dq3):Option Dq9 :=
 (qaj ([Vec.getD 6 a0.1 0 (0:Nat),Vec.getD 6 a0.1 1 (0:Nat),Vec.getD 6 a0.1 2 (0:Nat),Vec.getD 6 a0.1 3 (0:Nat),Vec.getD 6 a0.1 4 (0:Nat),Vec.getD 6 a0.1 5 (0:Nat)]:(List Nat))).bind fun y409 =>
 bif (! y409.1.1) then some ((false,()),()) else
 (qaj ([Vec.getD 6 (Vec.getD 6 a0.2.1 0 Lq2) 0 (0:Nat),Vec.getD 6 (Vec.getD 6 a0.2.1 0 Lq2) 1 (0:Nat),Vec.getD 6 (Vec.getD 6 a0.2.1 0 Lq2) 2 (0:Nat),Vec.getD 6 (Vec.getD 6 a0.2.1 0 Lq2) 3 (0:Nat),Vec.getD 6 (Vec.getD 6 a0.2.1 0 Lq2) 4 (0:Nat),Vec.getD 6 (Vec.getD 6 a0.2.1 0 Lq2) 5 (0:Nat)]:(List Nat))).bind fun y411 =>
 bif (! y411.1.1) then some ((false,()),()) else
 bif (fLt .f32 (Vec.getD 6 (Vec.getD 6 a0.2.1 0 Lq2) 0 (0:Nat)) 0) then some ((false,()),()) else
 bif (! (fEq .f32 (Vec.getD 6 (Vec.getD 6 a0.2.1 0 Lq2) 1 (0:Nat)) 0)) then some ((false,()),()) else
 bif (! (fEq .f32 (Vec.getD 6 (Vec.getD 6 a0.2.1 0 Lq2) 2 (0:Nat)) 0)) then some ((false,()),()) else
 bif (! (fEq .f32 (Vec.getD 6 (Vec.getD 6 a0.2.1 0 Lq2) 3 (0:Nat)) 0)) then some ((false,()),()) else
 bif (! (fEq .f32 (Vec.getD 6 (Vec.getD 6 a0.2.1 0 Lq2) 4 (0:Nat)) 0)) then some ((false,()),()) else
 bif (! (fEq .f32 (Vec.getD 6 (Vec.getD 6 a0.2.1 0 Lq2) 5 (0:Nat)) 0)) then some ((false,()),()) else
 (qaj ([Vec.getD 6 (Vec.getD 6 a0.2.1 1 Lq2) 0 (0:Nat),Vec.getD 6 (Vec.getD 6 a0.2.1 1 Lq2) 1 (0:Nat),Vec.getD 6 (Vec.getD 6 a0.2.1 1 Lq2) 2 (0:Nat),Vec.getD 6 (Vec.getD 6 a0.2.1 1 Lq2) 3 (0:Nat),Vec.getD 6 (Vec.getD 6 a0.2.1 1 Lq2) 4 (0:Nat),Vec.getD 6 (Vec.getD 6 a0.2.1 1 Lq2) 5 (0:Nat)]:(List Nat))).bind fun y425 =>
 bif (! y425.1.1) then some ((false,()),()) else
 bif (fLt .f32 (Vec.getD 6 (Vec.getD 6 a0.2.1 1 Lq2) 1 (0:Nat)) 0) then some ((false,()),()) else
 bif (! (fEq .f32 (Vec.getD 6 (Vec.getD 6 a0.2.1 1 Lq2) 2 (0:Nat)) 0)) then some ((false,()),()) else
 bif (! (fEq .f32 (Vec.getD 6 (Vec.getD 6 a0.2.1 1 Lq2) 3 (0:Nat)) 0)) then some ((false,()),()) else
 bif (! (fEq .f32 (Vec.getD 6 (Vec.getD 6 a0.2.1 1 Lq2) 4 (0:Nat)) 0)) then some ((false,()),()) else
 bif (! (fEq .f32 (Vec.getD 6 (Vec.getD 6 a0.2.1 1 Lq2) 5 (0:Nat)) 0)) then some ((false,()),()) else
 (qaj ([Vec.getD 6 (Vec.getD 6 a0.2.1 2 Lq2) 0 (0:Nat),Vec.getD 6 (Vec.getD 6 a0.2.1 2 Lq2) 1 (0:Nat),Vec.getD 6 (Vec.getD 6 a0.2.1 2 Lq2) 2 (0:Nat),Vec.getD 6 (Vec.getD 6 a0.2.1 2 Lq2) 3 (0:Nat),Vec.getD 6 (Vec.getD 6 a0.2.1 2 Lq2) 4 (0:Nat),Vec.getD 6 (Vec.getD 6 a0.2.1 2 Lq2) 5 (0:Nat)]:(List Nat))).bind fun y437 =>
 bif (! y437.1.1) then some ((false,()),()) else
 bif (fLt .f32 (Vec.getD 6 (Vec.getD 6 a0.2.1 2 Lq2) 2 (0:Nat)) 0) then some ((false,()),()) else
 bif (! (fEq .f32 (Vec.getD 6 (Vec.getD 6 a0.2.1 2 Lq2) 3 (0:Nat)) 0)) then some ((false,()),()) else
 bif (! (fEq .f32 (Vec.getD 6 (Vec.getD 6 a0.2.1 2 Lq2) 4 (0:Nat)) 0)) then some ((false,()),()) else
 bif (! (fEq .f32 (Vec.getD 6 (Vec.getD 6 a0.2.1 2 Lq2) 5 (0:Nat)) 0)) then some ((false,()),()) else
 (qaj ([Vec.getD 6 (Vec.getD 6 a0.2.1 3 Lq2) 0 (0:Nat),Vec.getD 6 (Vec.getD 6 a0.2.1 3 Lq2) 1 (0:Nat),Vec.getD 6 (Vec.getD 6 a0.2.1 3 Lq2) 2 (0:Nat),Vec.getD 6 (Vec.getD 6 a0.2.1 3 Lq2) 3 (0:Nat),Vec.getD 6 (Vec.getD 6 a0.2.1 3 Lq2) 4 (0:Nat),Vec.getD 6 (Vec.getD 6 a0.2.1 3 Lq2) 5 (0:Nat)]:(List Nat))).bind fun y447 =>
 bif (! y447.1.1) then some ((false,()),()) else
 bif (fLt .f32 (Vec.getD 6 (Vec.getD 6 a0.2.1 3 Lq2) 3 (0:Nat)) 0) then some ((false,()),()) else
 bif (! (fEq .f32 (Vec.getD 6 (Vec.getD 6 a0.2.1 3 Lq2) 4 (0:Nat)) 0)) then some ((false,()),()) else
 bif (! (fEq .f32 (Vec.getD 6 (Vec.getD 6 a0.2.1 3 Lq2) 5 (0:Nat)) 0)) then some ((false,()),()) else
 (qaj ([Vec.getD 6 (Vec.getD 6 a0.2.1 4 Lq2) 0 (0:Nat),Vec.getD 6 (Vec.getD 6 a0.2.1 4 Lq2) 1 (0:Nat),Vec.getD 6 (Vec.getD 6 a0.2.1 4 Lq2) 2 (0:Nat),Vec.getD 6 (Vec.getD 6 a0.2.1 4 Lq2) 3 (0:Nat),Vec.getD 6 (Vec.getD 6 a0.2.1 4 Lq2) 4 (0:Nat),Vec.getD 6 (Vec.getD 6 a0.2.1 4 Lq2) 5 (0:Nat)]:(List Nat))).bind fun y455 =>
 bif (! y455.1.1) then some ((false,()),()) else
 bif (fLt .f32 (Vec.getD 6 (Vec.getD 6 a0.2.1 4 Lq2) 4 (0:Nat)) 0) then some ((false,()),()) else
 bif (! (fEq .f32 (Vec.getD 6 (Vec.getD 6 a0.2.1 4 Lq2) 5 (0:Nat)) 0)) then some ((false,()),()) else
 (qaj ([Vec.getD 6 (Vec.getD 6 a0.2.1 5 Lq2) 0 (0:Nat),Vec.getD 6 (Vec.getD 6 a0.2.1 5 Lq2) 1 (0:Nat),Vec.getD 6 (Vec.getD 6 a0.2.1 5 Lq2) 2 (0:Nat),Vec.getD 6 (Vec.getD 6 a0.2.1 5 Lq2) 3 (0:Nat),Vec.getD 6 (Vec.getD 6 a0.2.1 5 Lq2) 4 (0:Nat),Vec.getD 6 (Vec.getD 6 a0.2.1 5 Lq2) 5 (0:Nat)]:(List Nat))).bind fun y461 =>
 bif (! y461.1.1) then some ((false,()),()) else
 bif (fLt .f32 (Vec.getD 6 (Vec.getD 6 a0.2.1 5 Lq2) 5 (0:Nat)) 0) then some ((false,()),()) else some ((true,()),())
def qcc:Entry:=⟨⟨[.v Uq2],[.v (.val (.bool))],false⟩,fun x=>qbo x.1⟩
theorem qcv:Sound Tryz.prog G 107 qcc:=qab (envS (l:=[(48,qbm)]) ⟨(qbq),trivial⟩) [(4,.unroll 7),(9,.unroll 6)] Tryz.func107 (by kernel_rfl) rfl fun _=>by kernel_rfl
def qoe (a0:(Vec 6 Nat)) (a1:(Vec 6 Nat)):Option Dq19 :=
 let x401:=Vec.getD 6 a1 0 (0:Nat)
 let x402:=Vec.getD 6 a1 1 (0:Nat)
 let x403:=Vec.getD 6 a1 2 (0:Nat)
 let x404:=Vec.getD 6 a1 3 (0:Nat)
 let x405:=Vec.getD 6 a1 4 (0:Nat)
 let x406:=Vec.getD 6 a1 5 (0:Nat)
 (qbo ((a0,((x401,0,0,0,0,0,()),(0,x402,0,0,0,0,()),(0,0,x403,0,0,0,()),(0,0,0,x404,0,0,()),(0,0,0,0,x405,0,()),(0,0,0,0,0,x406,()),()),()):Dq3)).bind fun y407 =>
 bif (! y407.1.1) then
  some ((Lq1,(1:Int),()),())
 else
 some ((((a0,((x401,0,0,0,0,0,()),(0,x402,0,0,0,0,()),(0,0,x403,0,0,0,()),(0,0,0,x404,0,0,()),(0,0,0,0,x405,0,()),(0,0,0,0,0,x406,()),()),()):Dq3),(0:Int),()),())
def qvc:Entry:=⟨⟨[.v (.arr 6 (.flt .f32)),.v (.arr 6 (.flt .f32))],[.v (.val Uq2),.v (.val (.int .i64))],false⟩,fun x=>qoe x.1 x.2.1⟩
theorem qad7:Sound Tryz.prog G 133 qvc:=qab (envS (l:=[(107,qcc)]) ⟨(qcv),trivial⟩) [(3,.unroll 7)] Tryz.func133 (by kernel_rfl) rfl fun _=>by kernel_rfl
def qfl (a0:Dq2):Option ((Dq3×Unit)×Unit) :=
 (qoe (((Vec.getD 3 a0.2.1 0 (0:Nat)),(Vec.getD 3 a0.2.1 1 (0:Nat)),(Vec.getD 3 a0.2.1 2 (0:Nat)),0,0,0,()):(Vec 6 Nat)) ((1056964608,1056964608,1056964608,1065353216,1065353216,1065353216,()):(Vec 6 Nat))).bind fun y400 =>
 some ((y400.1.1,()),())
def qk1:Entry:=⟨⟨[.v Uq5],[.v (.val Uq2)],false⟩,fun x=>qfl x.1⟩
theorem qrn:Sound Tryz.prog G 75 qk1:=qab (envS (l:=[(133,qvc)]) ⟨(qad7),trivial⟩) [] Tryz.func75 (by kernel_rfl) rfl fun _=>by kernel_rfl
def qgf:Option ((Dq27×Unit)×Unit) :=
 some (((((1031798784,1031798784,1031798784,()),(0,0,0,()),1,0,()):Dq27),()),())
def ql2:Entry:=⟨⟨[],[.v (.val Uq9)],false⟩,fun _=>qgf⟩
theorem qsf:Sound Tryz.prog G 45 ql2:=qab (envS (l:=[]) trivial) [] Tryz.func45 (by kernel_rfl) rfl fun _=>by kernel_rfl
def qlq (a0:Nat):Option Dq9 :=
 some (((fLt .f32 a0 0),()),())
def qsk:Entry:=⟨⟨[.v (.flt .f32)],[.v (.val (.bool))],false⟩,fun x=>qlq x.1⟩
theorem qabk:Sound Tryz.prog G 247 qsk:=qab (envS (l:=[]) trivial) [] Tryz.func247 (by kernel_rfl) rfl fun _=>by kernel_rfl
def qfe (a0:(List Nat)) (a1:((Nat×Unit)→Option Bool)) (s645:(Int×Unit)):Option ((Int×Unit)⊕Dq21) :=
 bif (iLt s645.1 (lenI a0)) then
  bif inB s645.1 (List.length a0) then
   (a1 ((List.getD a0 s645.1.toNat (0:Nat)),())).bind fun y648 =>
   bif y648 then
    Option.map Sum.inr (some ((s645.1,()),()))
   else
   some (Sum.inl ((iAdd .i64 s645.1 1),()))
  else none
 else
 Option.map Sum.inr (some ((((-1:Int):Int),()),()))
def qed (a0:(List Nat)) (a1:((Nat×Unit)→Option Bool)):Option Dq21 :=
 run (qfe a0 a1) ((0:Int),())
def qiw:Entry:=⟨⟨[.v (.list (.flt .f32)),.fn ⟨[.flt .f32],.bool⟩],[.v (.val (.int .i64))],false⟩,fun x=>qed x.1 x.2.1⟩
theorem qrx:Sound Tryz.prog G 261 qiw:=qab (envS (l:=[]) trivial) [(2,.vary [(8,.sc (.int .i64))])] Tryz.func261 (by kernel_rfl) rfl fun _=>by kernel_rfl
def qde (a0:(List Nat)) (a1:((Nat×Unit)→Option Bool)):Option Dq9 :=
 (qed a0 a1).bind fun y643 =>
 some (((iLe 0 y643.1.1),()),())
def qho:Entry:=⟨⟨[.v (.list (.flt .f32)),.fn ⟨[.flt .f32],.bool⟩],[.v (.val (.bool))],false⟩,fun x=>qde x.1 x.2.1⟩
theorem qou:Sound Tryz.prog G 246 qho:=qab (envS (l:=[(261,qiw)]) ⟨(qrx),trivial⟩) [] Tryz.func246 (by kernel_rfl) rfl fun _=>by kernel_rfl
def qgr (a0:(List Nat)):Option Dq9 :=
 (qaj a0).bind fun y638 =>
 bif y638.1.1 then
  (qde a0 (fun (z639:(Nat×Unit))=>(qlq z639.1).map fun y=>y.1.1)).bind fun y640 =>
  some (((! y640.1.1),()),())
 else some ((false,()),())
def qvi:Entry:=⟨⟨[.v (.list (.flt .f32))],[.v (.val (.bool))],false⟩,fun x=>qgr x.1⟩
theorem qaef:Sound Tryz.prog G 201 qvi:=qab (envS (l:=[(48,qbm),(246,qho),(247,qsk)]) ⟨(qbq),(qou),(qabk),trivial⟩) [] Tryz.func201 (by kernel_rfl) rfl fun _=>by kernel_rfl
def qf2 (a0:(Vec 6 (Vec 6 Nat))):Option Dq9 :=
 (qaj ([Vec.getD 6 (Vec.getD 6 a0 0 Lq2) 0 (0:Nat),Vec.getD 6 (Vec.getD 6 a0 0 Lq2) 1 (0:Nat),Vec.getD 6 (Vec.getD 6 a0 0 Lq2) 2 (0:Nat),Vec.getD 6 (Vec.getD 6 a0 0 Lq2) 3 (0:Nat),Vec.getD 6 (Vec.getD 6 a0 0 Lq2) 4 (0:Nat),Vec.getD 6 (Vec.getD 6 a0 0 Lq2) 5 (0:Nat)]:(List Nat))).bind fun y857 =>
 bif (! y857.1.1) then some ((false,()),()) else
 (qaj ([Vec.getD 6 (Vec.getD 6 a0 1 Lq2) 0 (0:Nat),Vec.getD 6 (Vec.getD 6 a0 1 Lq2) 1 (0:Nat),Vec.getD 6 (Vec.getD 6 a0 1 Lq2) 2 (0:Nat),Vec.getD 6 (Vec.getD 6 a0 1 Lq2) 3 (0:Nat),Vec.getD 6 (Vec.getD 6 a0 1 Lq2) 4 (0:Nat),Vec.getD 6 (Vec.getD 6 a0 1 Lq2) 5 (0:Nat)]:(List Nat))).bind fun y859 =>
 bif (! y859.1.1) then some ((false,()),()) else
 (qaj ([Vec.getD 6 (Vec.getD 6 a0 2 Lq2) 0 (0:Nat),Vec.getD 6 (Vec.getD 6 a0 2 Lq2) 1 (0:Nat),Vec.getD 6 (Vec.getD 6 a0 2 Lq2) 2 (0:Nat),Vec.getD 6 (Vec.getD 6 a0 2 Lq2) 3 (0:Nat),Vec.getD 6 (Vec.getD 6 a0 2 Lq2) 4 (0:Nat),Vec.getD 6 (Vec.getD 6 a0 2 Lq2) 5 (0:Nat)]:(List Nat))).bind fun y861 =>
 bif (! y861.1.1) then some ((false,()),()) else
 (qaj ([Vec.getD 6 (Vec.getD 6 a0 3 Lq2) 0 (0:Nat),Vec.getD 6 (Vec.getD 6 a0 3 Lq2) 1 (0:Nat),Vec.getD 6 (Vec.getD 6 a0 3 Lq2) 2 (0:Nat),Vec.getD 6 (Vec.getD 6 a0 3 Lq2) 3 (0:Nat),Vec.getD 6 (Vec.getD 6 a0 3 Lq2) 4 (0:Nat),Vec.getD 6 (Vec.getD 6 a0 3 Lq2) 5 (0:Nat)]:(List Nat))).bind fun y863 =>
 bif (! y863.1.1) then some ((false,()),()) else
 (qaj ([Vec.getD 6 (Vec.getD 6 a0 4 Lq2) 0 (0:Nat),Vec.getD 6 (Vec.getD 6 a0 4 Lq2) 1 (0:Nat),Vec.getD 6 (Vec.getD 6 a0 4 Lq2) 2 (0:Nat),Vec.getD 6 (Vec.getD 6 a0 4 Lq2) 3 (0:Nat),Vec.getD 6 (Vec.getD 6 a0 4 Lq2) 4 (0:Nat),Vec.getD 6 (Vec.getD 6 a0 4 Lq2) 5 (0:Nat)]:(List Nat))).bind fun y865 =>
 bif (! y865.1.1) then some ((false,()),()) else
 (qaj ([Vec.getD 6 (Vec.getD 6 a0 5 Lq2) 0 (0:Nat),Vec.getD 6 (Vec.getD 6 a0 5 Lq2) 1 (0:Nat),Vec.getD 6 (Vec.getD 6 a0 5 Lq2) 2 (0:Nat),Vec.getD 6 (Vec.getD 6 a0 5 Lq2) 3 (0:Nat),Vec.getD 6 (Vec.getD 6 a0 5 Lq2) 4 (0:Nat),Vec.getD 6 (Vec.getD 6 a0 5 Lq2) 5 (0:Nat)]:(List Nat))).bind fun y867 =>
 bif (! y867.1.1) then some ((false,()),()) else some ((true,()),())
def qok:Entry:=⟨⟨[.ro (.arr 6 (.arr 6 (.flt .f32)))],[.v (.val (.bool))],false⟩,fun x=>qf2 x.1⟩
theorem qyh:Sound Tryz.prog G 262 qok:=qab (envS (l:=[(48,qbm)]) ⟨(qbq),trivial⟩) [(2,.unroll 7)] Tryz.func262 (by kernel_rfl) rfl fun _=>by kernel_rfl
def qey (s735:Dq11) (s774:Dq11) (x785:Nat) (x786:Nat) (s798:Dq11):Option (Dq11⊕(Dq11⊕(Dq11⊕Dq13))) :=
 bif (iLt s798.1 6) then
  bif inB s798.1 6 then
   bif inB s735.1 9 then
    let x800:=Vec.getD 9 (Vec.getD 6 s798.2.1 s798.1.toNat Lq3) s735.1.toNat (0:Nat)
    bif inB s798.1 6 then
     bif inB s774.1 9 then
      let x801:=Vec.getD 9 (Vec.getD 6 s798.2.1 s798.1.toNat Lq3) s774.1.toNat (0:Nat)
      let x804:=fAdd .f32 (fMul .f32 x785 x800) (fMul .f32 x786 x801)
      bif inB s798.1 6 then
       bif inB s735.1 9 then
        bif inB s798.1 6 then
         bif inB s774.1 9 then
          some (Sum.inl ((iAdd .i64 s798.1 1),Vec.set 6 (Vec.set 6 s798.2.1 s798.1.toNat (Vec.set 9 (Vec.getD 6 s798.2.1 s798.1.toNat Lq3) s735.1.toNat x804)) s798.1.toNat (Vec.set 9 (Vec.getD 6 (Vec.set 6 s798.2.1 s798.1.toNat (Vec.set 9 (Vec.getD 6 s798.2.1 s798.1.toNat Lq3) s735.1.toNat x804)) s798.1.toNat Lq3) s774.1.toNat (fSub .f32 (fMul .f32 x785 x801) (fMul .f32 x786 x800))),()))
         else none
        else none
       else none
      else none
     else none
    else none
   else none
  else none
 else
 Option.map Sum.inr (
  bif inB s735.1 6 then
   bif inB s774.1 9 then
    some (Sum.inl ((iAdd .i64 s774.1 1),Vec.set 6 s798.2.1 s735.1.toNat (Vec.set 9 (Vec.getD 6 s798.2.1 s735.1.toNat Lq3) s774.1.toNat (0:Nat)),()))
   else none
  else none)
def qdr (s735:Dq11) (s774:Dq11):Option (Dq11⊕(Dq11⊕Dq13)) :=
 bif (iLt s774.1 9) then
  bif inB s735.1 6 then
   bif inB s774.1 9 then
    let x776:=Vec.getD 9 (Vec.getD 6 s774.2.1 s735.1.toNat Lq3) s774.1.toNat (0:Nat)
    bif (fEq .f32 x776 0) then
     some (Sum.inl ((iAdd .i64 s774.1 1),s774.2.1,()))
    else
    bif inB s735.1 6 then
     bif inB s735.1 9 then
      let x779:=Vec.getD 9 (Vec.getD 6 s774.2.1 s735.1.toNat Lq3) s735.1.toNat (0:Nat)
      (qhi (fAdd .f32 (fMul .f32 x779 x779) (fMul .f32 x776 x776))).bind fun y783 =>
      bif (fEq .f32 y783.1.1 0) then
       Option.map Sum.inr (Option.map Sum.inr (some ((Lq4,(4:Int),()),())))
      else
      let x785:=fDiv .f32 x779 y783.1.1
      let x786:=fDiv .f32 x776 y783.1.1
      run (qey s735 s774 x785 x786) (s735.1,s774.2.1,())
     else none
    else none
   else none
  else none
 else
 Option.map Sum.inr (some (Sum.inl ((iAdd .i64 s735.1 1),s774.2.1,())))
def qi3 (s838:Dq15) (s849:Dq15):Option (Dq15⊕(Dq15⊕Dq13)) :=
 bif (iLt s849.1 6) then
  bif inB s849.1 6 then
   bif inB s838.1 6 then
    bif inB s849.1 6 then
     bif inB s838.1 6 then
      some (Sum.inl ((iAdd .i64 s849.1 1),Vec.set 6 s849.2.1 s849.1.toNat (Vec.set 6 (Vec.getD 6 s849.2.1 s849.1.toNat Lq2) s838.1.toNat (fNeg .f32 (Vec.getD 6 (Vec.getD 6 s849.2.1 s849.1.toNat Lq2) s838.1.toNat (0:Nat)))),()))
     else none
    else none
   else none
  else none
 else
 Option.map Sum.inr (some (Sum.inl ((iAdd .i64 s838.1 1),s849.2.1,())))
def qez (s838:Dq15):Option (Dq15⊕Dq13) :=
 bif (iLt s838.1 6) then
  bif inB s838.1 6 then
   bif inB s838.1 6 then
    bif (! (fLt .f32 (Vec.getD 6 (Vec.getD 6 s838.2.1 s838.1.toNat Lq2) s838.1.toNat (0:Nat)) 0)) then
     some (Sum.inl ((iAdd .i64 s838.1 1),s838.2.1,()))
    else run (qi3 s838) (s838.1,s838.2.1,())
   else none
  else none
 else
 Option.map Sum.inr (
  (qf2 s838.2.1).bind fun y855 =>
  bif (! y855.1.1) then
   some ((Lq4,(4:Int),()),())
  else some ((s838.2.1,(0:Int),()),()))
def qgo (s735:Dq11) (s816:Dq15):Option (Dq15⊕Dq13) :=
 bif (iLt s816.1 6) then
  bif inB s816.1 6 then
   let x818:=iAdd .i64 s816.1 1
   bif inS 0 x818 6 then
    bif inB s816.1 6 then
     bif Nat.ble (0+x818.toNat) 6 then
      some (Sum.inl ((iAdd .i64 s816.1 1),Vec.set 6 s816.2.1 s816.1.toNat (Vec.ofList (0:Nat) 6 (spliceL (Vec.toList 6 (Vec.getD 6 s816.2.1 s816.1.toNat Lq2)) 0 (List.take x818.toNat ([Vec.getD 9 (Vec.getD 6 s735.2.1 s816.1.toNat Lq3) 0 (0:Nat),Vec.getD 9 (Vec.getD 6 s735.2.1 s816.1.toNat Lq3) 1 (0:Nat),Vec.getD 9 (Vec.getD 6 s735.2.1 s816.1.toNat Lq3) 2 (0:Nat),Vec.getD 9 (Vec.getD 6 s735.2.1 s816.1.toNat Lq3) 3 (0:Nat),Vec.getD 9 (Vec.getD 6 s735.2.1 s816.1.toNat Lq3) 4 (0:Nat),Vec.getD 9 (Vec.getD 6 s735.2.1 s816.1.toNat Lq3) 5 (0:Nat),Vec.getD 9 (Vec.getD 6 s735.2.1 s816.1.toNat Lq3) 6 (0:Nat),Vec.getD 9 (Vec.getD 6 s735.2.1 s816.1.toNat Lq3) 7 (0:Nat),Vec.getD 9 (Vec.getD 6 s735.2.1 s816.1.toNat Lq3) 8 (0:Nat)]:(List Nat))))),()))
     else none
    else none
   else none
  else none
 else
 Option.map Sum.inr (run (qez) ((0:Int),s816.2.1,()))
def qd7 (s735:Dq11):Option (Dq11⊕Dq13) :=
 bif (iLt s735.1 6) then
  run (qdr s735) ((iAdd .i64 s735.1 1),s735.2.1,())
 else
 Option.map Sum.inr (run (qgo s735) ((0:Int),Lq4,()))
def qn9 (a0:(Vec 6 (Vec 9 Nat))) (s654:(Int×Unit)):Option ((Int×Unit)⊕Dq13) :=
 bif (iLt s654.1 6) then
  bif inB s654.1 6 then
   (qaj ([Vec.getD 9 (Vec.getD 6 a0 s654.1.toNat Lq3) 0 (0:Nat),Vec.getD 9 (Vec.getD 6 a0 s654.1.toNat Lq3) 1 (0:Nat),Vec.getD 9 (Vec.getD 6 a0 s654.1.toNat Lq3) 2 (0:Nat),Vec.getD 9 (Vec.getD 6 a0 s654.1.toNat Lq3) 3 (0:Nat),Vec.getD 9 (Vec.getD 6 a0 s654.1.toNat Lq3) 4 (0:Nat),Vec.getD 9 (Vec.getD 6 a0 s654.1.toNat Lq3) 5 (0:Nat),Vec.getD 9 (Vec.getD 6 a0 s654.1.toNat Lq3) 6 (0:Nat),Vec.getD 9 (Vec.getD 6 a0 s654.1.toNat Lq3) 7 (0:Nat),Vec.getD 9 (Vec.getD 6 a0 s654.1.toNat Lq3) 8 (0:Nat)]:(List Nat))).bind fun y656 =>
   bif (! y656.1.1) then
    Option.map Sum.inr (some ((Lq4,(1:Int),()),()))
   else
   some (Sum.inl ((iAdd .i64 s654.1 1),()))
  else none
 else
 Option.map Sum.inr (run (qd7) ((0:Int),a0,()))
def qtw (a0:(Vec 6 (Vec 9 Nat))):Option Dq13 :=
 run (qn9 a0) ((0:Int),())
def qu7:Entry:=⟨⟨[.v (.arr 6 (.arr 9 (.flt .f32)))],[.v (.val (.arr 6 (.arr 6 (.flt .f32)))),.v (.val (.int .i64))],false⟩,fun x=>qtw x.1⟩
theorem qad1:Sound Tryz.prog G 248 qu7:=qab (envS (l:=[(48,qbm),(114,qk4),(262,qok)]) ⟨(qbq),(qom),(qyh),trivial⟩) [(2,.vary [(19,.sc (.int .i64))]),(8,.vary [(29,.sc (.int .i64)),(1,.box (.val (.arr 6 (.arr 9 (.flt .f32)))))]),(11,.vary [(6,.sc (.int .i64)),(1,.box (.val (.arr 6 (.arr 9 (.flt .f32)))))]),(21,.vary [(12,.sc (.int .i64)),(1,.box (.val (.arr 6 (.arr 9 (.flt .f32)))))]),(30,.vary [(110,.sc (.int .i64)),(15,.box (.val (.arr 6 (.arr 6 (.flt .f32)))))]),(35,.vary [(123,.sc (.int .i64)),(15,.box (.val (.arr 6 (.arr 6 (.flt .f32)))))]),(39,.vary [(18,.sc (.int .i64)),(15,.box (.val (.arr 6 (.arr 6 (.flt .f32)))))])] Tryz.func248 (by kernel_rfl) rfl fun _=>by kernel_rfl
def qd5 (a0:(Vec 6 Nat)) (a1:(Vec 6 (Vec 9 Nat))):Option Dq19 :=
 (qtw a1).bind fun y650 =>
 bif (! (iEq y650.1.2.1 0)) then
  some ((Lq1,(4:Int),()),())
 else
 (qaj ([Vec.getD 6 a0 0 (0:Nat),Vec.getD 6 a0 1 (0:Nat),Vec.getD 6 a0 2 (0:Nat),Vec.getD 6 a0 3 (0:Nat),Vec.getD 6 a0 4 (0:Nat),Vec.getD 6 a0 5 (0:Nat)]:(List Nat))).bind fun y652 =>
 bif (! y652.1.1) then
  some ((Lq1,(4:Int),()),())
 else some ((((a0,y650.1.1,()):Dq3),(0:Int),()),())
def qp9:Entry:=⟨⟨[.v (.arr 6 (.flt .f32)),.v (.arr 6 (.arr 9 (.flt .f32)))],[.v (.val Uq2),.v (.val (.int .i64))],false⟩,fun x=>qd5 x.1 x.2.1⟩
theorem qw3:Sound Tryz.prog G 202 qp9:=qab (envS (l:=[(48,qbm),(248,qu7)]) ⟨(qbq),(qad1),trivial⟩) [] Tryz.func202 (by kernel_rfl) rfl fun _=>by kernel_rfl
end
end Go.Proofs.YtnndahnmlmgenaaGreatDoor
