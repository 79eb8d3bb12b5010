import Derived.Test.YtjhdoneobdbeaaaGreatDoorA3
import Derived.Test.YtjhdoneobdbeaaaGreatDoorH
import Derived.Test.YtjhdoneobdbeaaaGreatDoorK
import Derived.KernelRfl
/- The types of the translation, as the machine has them. -/
namespace Go.Proofs.YtjhdoneobdbeaaaGreatDoor
open Go Go.Tm
def tysTab:List (Nat×Ty):=[(2,.int .i64),(3,.int .i64),(4,.bool),(5,.int .u8),(9,.str),(21,.int .i32),(22,.list (.int .u8)),(24,.flt .f32),(25,.list (.list (.pair (.arr 3 (.flt .f32)) (.pair (.flt .f32) (.pair (.int .i64) (.unit)))))),(27,.pair (.flt .f32) (.pair (.flt .f32) (.pair (.list (.list (.pair (.arr 3 (.flt .f32)) (.pair (.flt .f32) (.pair (.int .i64) (.unit)))))) (.unit)))),(31,.list (.pair (.pair (.flt .f32) (.pair (.list (.pair (.arr 3 (.int .i32)) (.pair (.arr 3 (.flt .f32)) (.pair (.flt .f32) (.pair (.int .i64) (.pair (.int .i64) (.unit))))))) (.unit))) (.pair (.int .i64) (.unit)))),(32,.list (.pair (.int .i64) (.pair (.str) (.unit)))),(34,.pair (.list (.pair (.pair (.flt .f32) (.pair (.list (.pair (.arr 3 (.int .i32)) (.pair (.arr 3 (.flt .f32)) (.pair (.flt .f32) (.pair (.int .i64) (.pair (.int .i64) (.unit))))))) (.unit))) (.pair (.int .i64) (.unit)))) (.pair (.list (.pair (.pair (.flt .f32) (.pair (.list (.pair (.arr 3 (.int .i32)) (.pair (.arr 3 (.flt .f32)) (.pair (.flt .f32) (.pair (.int .i64) (.pair (.int .i64) (.unit))))))) (.unit))) (.pair (.int .i64) (.unit)))) (.pair (.list (.pair (.int .i64) (.pair (.str) (.unit)))) (.unit)))),(43,.list (.pair (.arr 3 (.int .i32)) (.pair (.arr 3 (.flt .f32)) (.pair (.flt .f32) (.pair (.int .i64) (.pair (.int .i64) (.unit))))))),(45,.pair (.flt .f32) (.pair (.list (.pair (.arr 3 (.int .i32)) (.pair (.arr 3 (.flt .f32)) (.pair (.flt .f32) (.pair (.int .i64) (.pair (.int .i64) (.unit))))))) (.unit))),(50,.pair (.pair (.flt .f32) (.pair (.list (.pair (.arr 3 (.int .i32)) (.pair (.arr 3 (.flt .f32)) (.pair (.flt .f32) (.pair (.int .i64) (.pair (.int .i64) (.unit))))))) (.unit))) (.pair (.int .i64) (.unit))),(51,.list (.pair (.arr 3 (.flt .f32)) (.pair (.flt .f32) (.pair (.int .i64) (.unit))))),(55,.pair (.int .i64) (.pair (.int .i64) (.pair (.int .i64) (.unit)))),(57,.list (.list (.pair (.arr 3 (.flt .f32)) (.pair (.flt .f32) (.pair (.int .i64) (.unit)))))),(59,.pair (.flt .f32) (.pair (.flt .f32) (.pair (.list (.list (.pair (.arr 3 (.flt .f32)) (.pair (.flt .f32) (.pair (.int .i64) (.unit)))))) (.unit)))),(81,.ref 0),(87,.pair (.pair (.flt .f32) (.pair (.flt .f32) (.pair (.list (.list (.pair (.arr 3 (.flt .f32)) (.pair (.flt .f32) (.pair (.int .i64) (.unit)))))) (.unit)))) (.pair (.pair (.list (.pair (.pair (.flt .f32) (.pair (.list (.pair (.arr 3 (.int .i32)) (.pair (.arr 3 (.flt .f32)) (.pair (.flt .f32) (.pair (.int .i64) (.pair (.int .i64) (.unit))))))) (.unit))) (.pair (.int .i64) (.unit)))) (.pair (.list (.pair (.pair (.flt .f32) (.pair (.list (.pair (.arr 3 (.int .i32)) (.pair (.arr 3 (.flt .f32)) (.pair (.flt .f32) (.pair (.int .i64) (.pair (.int .i64) (.unit))))))) (.unit))) (.pair (.int .i64) (.unit)))) (.pair (.list (.pair (.int .i64) (.pair (.str) (.unit)))) (.unit)))) (.unit))),(94,.pair (.ref 0) (.pair (.pair (.list (.pair (.pair (.flt .f32) (.pair (.list (.pair (.arr 3 (.int .i32)) (.pair (.arr 3 (.flt .f32)) (.pair (.flt .f32) (.pair (.int .i64) (.pair (.int .i64) (.unit))))))) (.unit))) (.pair (.int .i64) (.unit)))) (.pair (.list (.pair (.pair (.flt .f32) (.pair (.list (.pair (.arr 3 (.int .i32)) (.pair (.arr 3 (.flt .f32)) (.pair (.flt .f32) (.pair (.int .i64) (.pair (.int .i64) (.unit))))))) (.unit))) (.pair (.int .i64) (.unit)))) (.pair (.list (.pair (.int .i64) (.pair (.str) (.unit)))) (.unit)))) (.unit))),(100,.pair (.int .i64) (.pair (.str) (.unit))),(103,.arr 3 (.flt .f32)),(104,.arr 3 (.flt .f32)),(106,.pair (.arr 3 (.flt .f32)) (.pair (.flt .f32) (.pair (.int .i64) (.unit)))),(108,.arr 3 (.int .i32)),(121,.flt .f64),(127,.list (.str)),(132,.list (.int .i64)),(138,.pair (.ref 138) (.pair (.list (.int .u8)) (.unit))),(140,.err),(149,.int .u64),(158,.list (.flt .f32)),(168,.pair (.arr 3 (.int .i32)) (.pair (.arr 3 (.flt .f32)) (.pair (.flt .f32) (.pair (.int .i64) (.pair (.int .i64) (.unit)))))),(170,.list (.pair (.arr 3 (.flt .f32)) (.pair (.flt .f32) (.pair (.int .i64) (.unit))))),(175,.pair (.list (.str)) (.pair (.bool) (.unit))),(200,.int .u32),(205,.pair (.arr 3 (.flt .f32)) (.pair (.flt .f32) (.pair (.int .i64) (.unit)))),(213,.int .u64),(237,.arr 24 (.int .u8)),(268,.arr 65 (.int .u8)),(281,.list (.int .i32))]
def eqTab:List Nat:=[108]
def primTab:List (Nat×PrimD):=[(144,bits32P),(139,bits64P)]
def eatTab:List (Nat×EatD):=[(77,bldEat 138)]
def qd4 (a0:List ((Vec 3 Int)×((Vec 3 Nat)×(Nat×(Int×(Int×Unit)))))) (a1:Int) (a2:List ((Vec 3 Int)×((Vec 3 Nat)×(Nat×(Int×(Int×Unit)))))):Option ((List ((Vec 3 Int)×((Vec 3 Nat)×(Nat×(Int×(Int×Unit)))))×Unit)×(List ((Vec 3 Int)×((Vec 3 Nat)×(Nat×(Int×(Int×Unit)))))×Unit)):=insertF (.pair (.arr 3 (.int .i32)) (.pair (.arr 3 (.flt .f32)) (.pair (.flt .f32) (.pair (.int .i64) (.pair (.int .i64) (.unit)))))) a0 a1 a2 48
def qix:Entry:=insertEn (.pair (.arr 3 (.int .i32)) (.pair (.arr 3 (.flt .f32)) (.pair (.flt .f32) (.pair (.int .i64) (.pair (.int .i64) (.unit)))))) 48
def qf6 (a0:List ((Vec 3 Int)×((Vec 3 Nat)×(Nat×(Int×(Int×Unit)))))) (a1:Int) (a2:Int):Option ((List ((Vec 3 Int)×((Vec 3 Nat)×(Nat×(Int×(Int×Unit)))))×Unit)×Unit):=deleteF (.pair (.arr 3 (.int .i32)) (.pair (.arr 3 (.flt .f32)) (.pair (.flt .f32) (.pair (.int .i64) (.pair (.int .i64) (.unit)))))) a0 a1 a2
def qiw:Entry:=deleteEn (.pair (.arr 3 (.int .i32)) (.pair (.arr 3 (.flt .f32)) (.pair (.flt .f32) (.pair (.int .i64) (.pair (.int .i64) (.unit))))))
def qje (a0:List (Int×(List UInt8×Unit))) (a1:Int) (a2:Int):Option ((List (Int×(List UInt8×Unit))×Unit)×Unit):=deleteF (.pair (.int .i64) (.pair (.str) (.unit))) a0 a1 a2
def qhr:Entry:=deleteEn (.pair (.int .i64) (.pair (.str) (.unit)))
def qhy:Entry:=bccEn 138
noncomputable def env (G:List (Nat×Obj)) (l:List (Nat×Entry)):Env:={ P:=Tryz.prog,tys:=lookT tysTab,fns:=lookF l,eqs:=eqTab,prims:=lookP primTab,G:=G,eats:=lookE eatTab }
theorem qapp:(tysTab.all fun p=>okTy Tryz.prog p.2 p.1)=true:=by kernel_rfl
theorem qapl:eqsB Tryz.prog tysTab eqTab=true:=by kernel_rfl
theorem qaof:Tryz.prog.follows .mixedOrders=true:=by kernel_rfl
theorem qaoq:AllP Tryz.prog primTab:=⟨qahb Tryz.func144 (by kernel_rfl) (by kernel_rfl) (by kernel_rfl) (by kernel_rfl),qahc Tryz.func139 (by kernel_rfl) (by kernel_rfl) (by kernel_rfl) (by kernel_rfl),trivial⟩
set_option maxRecDepth 20000 in
theorem qao4:AllE Tryz.prog eatTab:=⟨qaiw (by omega) Tryz.func77 (by kernel_rfl) (by kernel_rfl) Tryz.bldString Tryz.bldString0,trivial⟩
theorem envS {G:List (Nat×Obj)} {l:List (Nat×Entry)} (h:AllS Tryz.prog G l):EnvT (env G l):=qapi qapp qapl qaof h qaoq qao4
abbrev Dq1:Type:=((Nat×(Nat×((List (List ((Vec 3 Nat)×(Nat×(Int×Unit)))))×Unit)))×(((List ((Nat×((List ((Vec 3 Int)×((Vec 3 Nat)×(Nat×(Int×(Int×Unit))))))×Unit))×(Int×Unit)))×((List ((Nat×((List ((Vec 3 Int)×((Vec 3 Nat)×(Nat×(Int×(Int×Unit))))))×Unit))×(Int×Unit)))×((List (Int×(List UInt8×Unit)))×Unit)))×Unit))
abbrev Dq2:Type:=((Vec 3 Int)×((Vec 3 Nat)×(Nat×(Int×(Int×Unit)))))
abbrev Dq3:Type:=(Nat×((List Dq2)×Unit))
abbrev Dq4:Type:=((Vec 3 Nat)×(Nat×(Int×Unit)))
abbrev Dq5:Type:=((List (List UInt8))×(Bool×Unit))
abbrev Dq6:Type:=(Dq3×(Int×Unit))
abbrev Dq7:Type:=((Bool×Unit)×Unit)
abbrev Dq8:Type:=(Nat×(Nat×((List (List Dq4))×Unit)))
abbrev Dq9:Type:=(Int×(Int×(Int×Unit)))
abbrev Dq10:Type:=((List UInt8×Unit)×Unit)
abbrev Dq11:Type:=(Unit×((List Int)×Unit))
abbrev Dq12:Type:=((Int×Unit)×Unit)
abbrev Dq13:Type:=(((List (List UInt8))×Unit)×Unit)
abbrev Dq14:Type:=((Int×Bool×Unit)×Unit)
abbrev Dq15:Type:=(List UInt8×Int×Unit)
abbrev Dq16:Type:=(Int×Int×(Vec 65 Int)×Unit)
abbrev Dq17:Type:=(List UInt8×Unit)
abbrev Dq18:Type:=((Nat×Unit)×Unit)
abbrev Dq19:Type:=(Int×Int×Unit)
abbrev Dq20:Type:=((Dq3×Int×Unit)×Unit)
abbrev Dq21:Type:=(((List Int)×List UInt8×Unit)×Unit)
abbrev Dq22:Type:=((Int×Unit)×(Dq1×Unit))
abbrev Dq23:Type:=(((Vec 3 Int)×Int×Unit)×Unit)
abbrev Uq1:Ty:=.pair (.arr 3 (.int .i32)) (.pair (.arr 3 (.flt .f32)) (.pair (.flt .f32) (.pair (.int .i64) (.pair (.int .i64) (.unit)))))
abbrev Uq2:Ty:=.pair (.flt .f32) (.pair (.flt .f32) (.pair (.list (.list (.pair (.arr 3 (.flt .f32)) (.pair (.flt .f32) (.pair (.int .i64) (.unit)))))) (.unit)))
abbrev Uq3:Ty:=.pair (.pair (.flt .f32) (.pair (.list Uq1) (.unit))) (.pair (.int .i64) (.unit))
abbrev Uq4:Ty:=.pair (.arr 3 (.flt .f32)) (.pair (.flt .f32) (.pair (.int .i64) (.unit)))
abbrev Uq5:Ty:=.pair (.flt .f32) (.pair (.list Uq1) (.unit))
abbrev Uq6:Ty:=.pair (.int .i64) (.pair (.str) (.unit))
abbrev Uq7:Ty:=.pair (.int .i64) (.pair (.int .i64) (.pair (.int .i64) (.unit)))
abbrev Uq8:Ty:=.pair (.arr 3 (.flt .f32)) (.pair (.flt .f32) (.pair (.int .i64) (.pair (.int .i64) (.unit))))
abbrev Uq9:Ty:=.pair (.bool) (.unit)
abbrev Lq1:Dq2:=((0,0,0,()),(0,0,0,()),0,0,0,())
abbrev Lq2:(Vec 3 Int):=(0,0,0,())
abbrev Lq3:Dq6:=((0,[],()),0,())
abbrev Lq4:Dq3:=(0,[],())
abbrev Lq5:(Vec 65 Int):=(0,0,0,0,0,0,0,0,0,0,0,0,0,0,0,0,0,0,0,0,0,0,0,0,0,0,0,0,0,0,0,0,0,0,0,0,0,0,0,0,0,0,0,0,0,0,0,0,0,0,0,0,0,0,0,0,0,0,0,0,0,0,0,0,0,())
abbrev Lq6:Int:=(-1:Int)
abbrev Lq7:Dq4:=((0,0,0,()),0,0,())
abbrev Lq8:Int:=(65:Nat)
abbrev Lq9:Int:=(-2147483648:Int)
abbrev Lq10:Dq9:=(0,0,0,())
end Go.Proofs.YtjhdoneobdbeaaaGreatDoor
