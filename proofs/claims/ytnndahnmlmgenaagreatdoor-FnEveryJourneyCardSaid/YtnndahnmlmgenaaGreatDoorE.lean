import Derived.Test.YtnndahnmlmgenaaGreatDoorA3
import Derived.Test.YtnndahnmlmgenaaGreatDoorH
import Derived.KernelRfl
/- The types of the translation, as the machine has them. -/
namespace Go.Proofs.YtnndahnmlmgenaaGreatDoor
open Go Go.Tm
def tysTab:List (Nat×Ty):=[(2,.int .i64),(3,.int .i64),(4,.bool),(5,.int .u8),(9,.str),(22,.list (.int .u8)),(24,.flt .f32),(25,.arr 3 (.flt .f32)),(26,.arr 3 (.flt .f32)),(27,.list (.arr 3 (.flt .f32))),(28,.list (.pair (.int .i64) (.pair (.arr 3 (.flt .f32)) (.pair (.int .i64) (.pair (.int .i64) (.unit)))))),(30,.pair (.int .i64) (.pair (.arr 3 (.flt .f32)) (.pair (.list (.arr 3 (.flt .f32))) (.pair (.list (.pair (.int .i64) (.pair (.arr 3 (.flt .f32)) (.pair (.int .i64) (.pair (.int .i64) (.unit)))))) (.unit))))),(32,.int .u32),(34,.list (.pair (.int .i64) (.pair (.arr 3 (.flt .f32)) (.pair (.arr 3 (.int .i16)) (.pair (.int .i64) (.pair (.flt .f32) (.unit))))))),(36,.pair (.int .i64) (.pair (.arr 3 (.flt .f32)) (.pair (.list (.arr 3 (.flt .f32))) (.pair (.list (.pair (.int .i64) (.pair (.arr 3 (.flt .f32)) (.pair (.arr 3 (.int .i16)) (.pair (.int .i64) (.pair (.flt .f32) (.unit))))))) (.unit))))),(42,.int .i16),(44,.arr 3 (.int .i16)),(46,.pair (.int .i64) (.pair (.arr 3 (.flt .f32)) (.pair (.arr 3 (.int .i16)) (.pair (.int .i64) (.pair (.flt .f32) (.unit)))))),(50,.pair (.int .i64) (.pair (.arr 3 (.flt .f32)) (.pair (.int .i64) (.pair (.int .i64) (.unit))))),(54,.list (.int .i64)),(69,.int .u64),(71,.arr 6 (.flt .f32)),(72,.arr 6 (.flt .f32)),(74,.arr 6 (.arr 6 (.flt .f32))),(76,.pair (.arr 6 (.flt .f32)) (.pair (.arr 6 (.arr 6 (.flt .f32))) (.unit))),(92,.pair (.arr 3 (.flt .f32)) (.pair (.arr 3 (.flt .f32)) (.pair (.int .i64) (.pair (.int .i64) (.unit))))),(109,.list (.str)),(122,.pair (.ref 122) (.pair (.list (.int .u8)) (.unit))),(124,.err),(173,.int .u64),(179,.list (.flt .f32)),(186,.pair (.list (.str)) (.pair (.bool) (.unit))),(212,.flt .f64),(225,.list (.pair (.arr 6 (.flt .f32)) (.pair (.flt .f32) (.pair (.flt .f32) (.unit))))),(227,.pair (.arr 6 (.flt .f32)) (.pair (.flt .f32) (.pair (.flt .f32) (.unit)))),(252,.arr 24 (.int .u8)),(258,.arr 9 (.flt .f32)),(259,.arr 6 (.arr 9 (.flt .f32))),(295,.arr 65 (.int .u8))]
def eqTab:List Nat:=[44]
def primTab:List (Nat×PrimD):=[(91,bits32P)]
def eatTab:List (Nat×EatD):=[(73,bldEat 122)]
def qhn:Entry:=bccEn 122
noncomputable def env (G:List (Nat×Obj)) (l:List (Nat×Entry)):Env:={ P:=Tryz.prog,tys:=lookT tysTab,fns:=lookF l,eqs:=eqTab,prims:=lookP primTab,G:=G,eats:=lookE eatTab }
theorem qapw:(tysTab.all fun p=>okTy Tryz.prog p.2 p.1)=true:=by kernel_rfl
theorem qapt:eqsB Tryz.prog tysTab eqTab=true:=by kernel_rfl
theorem qan4:Tryz.prog.follows .mixedOrders=true:=by kernel_rfl
theorem qaoc:AllP Tryz.prog primTab:=⟨qafo Tryz.func91 (by kernel_rfl) (by kernel_rfl) (by kernel_rfl) (by kernel_rfl),trivial⟩
set_option maxRecDepth 20000 in
theorem qaox:AllE Tryz.prog eatTab:=⟨qag7 (by omega) Tryz.func73 (by kernel_rfl) (by kernel_rfl) Tryz.bldString,trivial⟩
theorem envS {G:List (Nat×Obj)} {l:List (Nat×Entry)} (h:AllS Tryz.prog G l):EnvT (env G l):=qapq qapw qapt qan4 h qaoc qaox
abbrev Dq1:Type:=(Int×((Vec 3 Nat)×((List (Vec 3 Nat))×((List (Int×((Vec 3 Nat)×((Vec 3 Int)×(Int×(Nat×Unit))))))×Unit))))
abbrev Dq2:Type:=((Vec 6 Nat)×((Vec 6 (Vec 6 Nat))×Unit))
abbrev Dq3:Type:=(Int×((Vec 3 Nat)×((Vec 3 Int)×(Int×(Nat×Unit)))))
abbrev Dq4:Type:=((List (List UInt8))×(Bool×Unit))
abbrev Dq5:Type:=((Vec 6 Nat)×(Nat×(Nat×Unit)))
abbrev Dq6:Type:=(Int×((Vec 3 Nat)×((List (Vec 3 Nat))×((List (Int×((Vec 3 Nat)×(Int×(Int×Unit)))))×Unit))))
abbrev Dq7:Type:=((Bool×Unit)×Unit)
abbrev Dq8:Type:=(Int×(Vec 6 (Vec 9 Nat))×Unit)
abbrev Dq9:Type:=((Vec 3 Nat)×(Int×(Int×Unit)))
abbrev Dq10:Type:=(Unit×((List Int)×Unit))
abbrev Dq11:Type:=(((Vec 6 (Vec 6 Nat))×Int×Unit)×Unit)
abbrev Dq12:Type:=((List (Vec 3 Nat))×Int×(Vec 3 Nat)×Unit)
abbrev Dq13:Type:=(Int×(Vec 6 (Vec 6 Nat))×Unit)
abbrev Dq14:Type:=((Dq2×Int×Unit)×Unit)
abbrev Dq15:Type:=(((List (Vec 3 Nat))×Int×Unit)×Unit)
abbrev Dq16:Type:=((List UInt8×Unit)×Unit)
abbrev Dq17:Type:=(Int×Int×Int×Dq1×Unit)
abbrev Dq18:Type:=((Vec 3 Nat)×Unit)
abbrev Dq19:Type:=((Int×Unit)×Unit)
abbrev Dq20:Type:=(Int×Int×(Vec 65 Int)×Unit)
abbrev Dq21:Type:=((Dq1×Int×Unit)×Unit)
abbrev Dq22:Type:=((Nat×Unit)×Unit)
abbrev Dq23:Type:=(((List Int)×List UInt8×Unit)×Unit)
abbrev Dq24:Type:=((Vec 3 Nat)×Dq9)
abbrev Dq25:Type:=((Dq2×Bool×Int×Unit)×Unit)
abbrev Dq26:Type:=((Dq5×Int×Unit)×Unit)
abbrev Dq27:Type:=((Dq2×(List Int)×Int×Unit)×Unit)
abbrev Uq1:Ty:=.pair (.int .i64) (.pair (.arr 3 (.flt .f32)) (.pair (.arr 3 (.int .i16)) (.pair (.int .i64) (.pair (.flt .f32) (.unit)))))
abbrev Uq2:Ty:=.pair (.arr 6 (.flt .f32)) (.pair (.arr 6 (.arr 6 (.flt .f32))) (.unit))
abbrev Uq3:Ty:=.pair (.arr 6 (.flt .f32)) (.pair (.flt .f32) (.pair (.flt .f32) (.unit)))
abbrev Uq4:Ty:=.pair (.int .i64) (.pair (.arr 3 (.flt .f32)) (.pair (.list (.arr 3 (.flt .f32))) (.pair (.list Uq1) (.unit))))
abbrev Uq5:Ty:=.pair (.int .i64) (.pair (.arr 3 (.flt .f32)) (.pair (.list (.arr 3 (.flt .f32))) (.pair (.list (.pair (.int .i64) (.pair (.arr 3 (.flt .f32)) (.pair (.int .i64) (.pair (.int .i64) (.unit)))))) (.unit))))
abbrev Uq6:Ty:=.pair (.arr 3 (.flt .f32)) (.pair (.arr 3 (.flt .f32)) (.pair (.int .i64) (.pair (.int .i64) (.unit))))
abbrev Uq7:Ty:=.pair (.bool) (.unit)
abbrev Uq8:Ty:=.pair (.arr 3 (.flt .f32)) (.pair (.arr 3 (.int .i16)) (.pair (.int .i64) (.pair (.flt .f32) (.unit))))
abbrev Lq1:Dq2:=((0,0,0,0,0,0,()),((0,0,0,0,0,0,()),(0,0,0,0,0,0,()),(0,0,0,0,0,0,()),(0,0,0,0,0,0,()),(0,0,0,0,0,0,()),(0,0,0,0,0,0,()),()),())
abbrev Lq2:(Vec 6 Nat):=(0,0,0,0,0,0,())
abbrev Lq3:(Vec 9 Nat):=(0,0,0,0,0,0,0,0,0,())
abbrev Lq4:(Vec 6 (Vec 6 Nat)):=((0,0,0,0,0,0,()),(0,0,0,0,0,0,()),(0,0,0,0,0,0,()),(0,0,0,0,0,0,()),(0,0,0,0,0,0,()),(0,0,0,0,0,0,()),())
abbrev Lq5:(Vec 65 Int):=(0,0,0,0,0,0,0,0,0,0,0,0,0,0,0,0,0,0,0,0,0,0,0,0,0,0,0,0,0,0,0,0,0,0,0,0,0,0,0,0,0,0,0,0,0,0,0,0,0,0,0,0,0,0,0,0,0,0,0,0,0,0,0,0,0,())
abbrev Lq6:(Vec 3 Nat):=(0,0,0,())
abbrev Lq7:Dq5:=((0,0,0,0,0,0,()),0,0,())
abbrev Lq8:(Int×Dq9):=(0,(0,0,0,()),0,0,())
abbrev Lq9:Dq1:=(0,(0,0,0,()),[],[],())
abbrev Lq10:Dq3:=(0,(0,0,0,()),(0,0,0,()),0,0,())
abbrev Lq11:Int:=(65:Nat)
abbrev Lq12:Int:=(-32768:Int)
end Go.Proofs.YtnndahnmlmgenaaGreatDoor
