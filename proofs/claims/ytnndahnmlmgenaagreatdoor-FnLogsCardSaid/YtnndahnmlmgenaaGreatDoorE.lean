import Derived.Test.YtnndahnmlmgenaaGreatDoorA3
import Derived.Test.YtnndahnmlmgenaaGreatDoorH
import Derived.KernelRfl
/- The types of the translation, as the machine has them. -/
namespace Go.Proofs.YtnndahnmlmgenaaGreatDoor
open Go Go.Tm
def tysTab:List (Nat×Ty):=[(2,.int .i64),(3,.int .i64),(4,.bool),(5,.int .u8),(9,.str),(22,.list (.int .u8)),(24,.flt .f32),(25,.arr 3 (.flt .f32)),(26,.arr 3 (.flt .f32)),(27,.list (.arr 3 (.flt .f32))),(28,.list (.pair (.int .i64) (.pair (.arr 3 (.flt .f32)) (.pair (.int .i64) (.pair (.int .i64) (.unit)))))),(30,.pair (.int .i64) (.pair (.arr 3 (.flt .f32)) (.pair (.list (.arr 3 (.flt .f32))) (.pair (.list (.pair (.int .i64) (.pair (.arr 3 (.flt .f32)) (.pair (.int .i64) (.pair (.int .i64) (.unit)))))) (.unit))))),(32,.int .u32),(34,.list (.pair (.int .i64) (.pair (.arr 3 (.flt .f32)) (.pair (.arr 3 (.int .i16)) (.pair (.int .i64) (.pair (.flt .f32) (.unit))))))),(36,.pair (.int .i64) (.pair (.arr 3 (.flt .f32)) (.pair (.list (.arr 3 (.flt .f32))) (.pair (.list (.pair (.int .i64) (.pair (.arr 3 (.flt .f32)) (.pair (.arr 3 (.int .i16)) (.pair (.int .i64) (.pair (.flt .f32) (.unit))))))) (.unit))))),(41,.arr 5 (.int .i64)),(42,.int .i16),(44,.arr 3 (.int .i16)),(46,.pair (.int .i64) (.pair (.arr 3 (.flt .f32)) (.pair (.arr 3 (.int .i16)) (.pair (.int .i64) (.pair (.flt .f32) (.unit)))))),(50,.pair (.int .i64) (.pair (.arr 3 (.flt .f32)) (.pair (.int .i64) (.pair (.int .i64) (.unit))))),(54,.list (.int .i64)),(69,.int .u64),(71,.arr 6 (.flt .f32)),(72,.arr 6 (.flt .f32)),(74,.arr 6 (.arr 6 (.flt .f32))),(76,.pair (.arr 6 (.flt .f32)) (.pair (.arr 6 (.arr 6 (.flt .f32))) (.unit))),(92,.pair (.arr 3 (.flt .f32)) (.pair (.arr 3 (.flt .f32)) (.pair (.int .i64) (.pair (.int .i64) (.unit))))),(109,.list (.str)),(122,.pair (.ref 122) (.pair (.list (.int .u8)) (.unit))),(124,.err),(173,.int .u64),(175,.pair (.list (.int .u8)) (.pair (.int .i64) (.pair (.int .u64) (.unit)))),(179,.list (.flt .f32)),(186,.pair (.list (.str)) (.pair (.bool) (.unit))),(207,.list (.int .i64)),(209,.pair (.pair (.int .i64) (.pair (.arr 3 (.flt .f32)) (.pair (.list (.arr 3 (.flt .f32))) (.pair (.list (.pair (.int .i64) (.pair (.arr 3 (.flt .f32)) (.pair (.int .i64) (.pair (.int .i64) (.unit)))))) (.unit))))) (.pair (.int .i64) (.pair (.int .i64) (.pair (.list (.int .i64)) (.pair (.list (.int .i64)) (.unit)))))),(212,.flt .f64),(225,.list (.pair (.arr 6 (.flt .f32)) (.pair (.flt .f32) (.pair (.flt .f32) (.unit))))),(227,.pair (.arr 6 (.flt .f32)) (.pair (.flt .f32) (.pair (.flt .f32) (.unit)))),(252,.arr 24 (.int .u8)),(258,.arr 9 (.flt .f32)),(259,.arr 6 (.arr 9 (.flt .f32))),(295,.arr 65 (.int .u8))]
def eqTab:List Nat:=[44]
def primTab:List (Nat×PrimD):=[(91,bits32P)]
def eatTab:List (Nat×EatD):=[(73,bldEat 122)]
def qit:Entry:=bccEn 122
noncomputable def env (G:List (Nat×Obj)) (l:List (Nat×Entry)):Env:={ P:=Tryz.prog,tys:=lookT tysTab,fns:=lookF l,eqs:=eqTab,prims:=lookP primTab,G:=G,eats:=lookE eatTab }
theorem qavh:(tysTab.all fun p=>okTy Tryz.prog p.2 p.1)=true:=by kernel_rfl
theorem qava:eqsB Tryz.prog tysTab eqTab=true:=by kernel_rfl
theorem qas8:Tryz.prog.follows .mixedOrders=true:=by kernel_rfl
theorem qatj:AllP Tryz.prog primTab:=⟨qakc Tryz.func91 (by kernel_rfl) (by kernel_rfl) (by kernel_rfl) (by kernel_rfl),trivial⟩
set_option maxRecDepth 20000 in
theorem qat5:AllE Tryz.prog eatTab:=⟨qaly (by omega) Tryz.func73 (by kernel_rfl) (by kernel_rfl) Tryz.bldString,trivial⟩
theorem envS {G:List (Nat×Obj)} {l:List (Nat×Entry)} (h:AllS Tryz.prog G l):EnvT (env G l):=qau7 qavh qava qas8 h qatj qat5
abbrev Dq1:Type:=((Int×((Vec 3 Nat)×((List (Vec 3 Nat))×((List (Int×((Vec 3 Nat)×(Int×(Int×Unit)))))×Unit))))×(Int×(Int×((List Int)×((List Int)×Unit)))))
abbrev Dq2:Type:=(Int×((Vec 3 Nat)×((List (Vec 3 Nat))×((List (Int×((Vec 3 Nat)×((Vec 3 Int)×(Int×(Nat×Unit))))))×Unit))))
abbrev Dq3:Type:=((Vec 6 Nat)×((Vec 6 (Vec 6 Nat))×Unit))
abbrev Dq4:Type:=(Int×((Vec 3 Nat)×((List (Vec 3 Nat))×((List (Int×((Vec 3 Nat)×(Int×(Int×Unit)))))×Unit))))
abbrev Dq5:Type:=(Int×((Vec 3 Nat)×((Vec 3 Int)×(Int×(Nat×Unit)))))
abbrev Dq6:Type:=((List (List UInt8))×(Bool×Unit))
abbrev Dq7:Type:=((Vec 6 Nat)×(Nat×(Nat×Unit)))
abbrev Dq8:Type:=((Vec 3 Nat)×(Int×(Int×Unit)))
abbrev Dq9:Type:=((Bool×Unit)×Unit)
abbrev Dq10:Type:=((List Int)×(Int×(Int×Unit)))
abbrev Dq11:Type:=(Int×(Vec 6 (Vec 9 Nat))×Unit)
abbrev Dq12:Type:=(Unit×((List Int)×Unit))
abbrev Dq13:Type:=(((Vec 6 (Vec 6 Nat))×Int×Unit)×Unit)
abbrev Dq14:Type:=((List (Vec 3 Nat))×Int×(Vec 3 Nat)×Unit)
abbrev Dq15:Type:=(Int×(Vec 6 (Vec 6 Nat))×Unit)
abbrev Dq16:Type:=((List UInt8×Unit)×Unit)
abbrev Dq17:Type:=(((List (Vec 3 Nat))×Int×Unit)×Unit)
abbrev Dq18:Type:=(Int×Int×Int×Dq2×Unit)
abbrev Dq19:Type:=((Dq3×Int×Unit)×Unit)
abbrev Dq20:Type:=((Vec 3 Nat)×Unit)
abbrev Dq21:Type:=((Int×Unit)×Unit)
abbrev Dq22:Type:=((Dq2×Int×Unit)×Unit)
abbrev Dq23:Type:=(Int×Int×(Vec 65 Int)×Unit)
abbrev Dq24:Type:=((Nat×Unit)×Unit)
abbrev Dq25:Type:=(((List Int)×List UInt8×Unit)×Unit)
abbrev Dq26:Type:=(Int×Int×Unit)
abbrev Dq27:Type:=((Vec 3 Nat)×Dq8)
abbrev Dq28:Type:=((List UInt8×Unit)×(Dq10×Unit))
abbrev Dq29:Type:=((Dq3×Bool×Int×Unit)×Unit)
abbrev Dq30:Type:=((Dq7×Int×Unit)×Unit)
abbrev Dq31:Type:=((Nat×Int×Unit)×Unit)
abbrev Dq32:Type:=((Dq3×(List Int)×Int×Unit)×Unit)
abbrev Dq33:Type:=(((List (List UInt8))×Unit)×Unit)
abbrev Dq34:Type:=(((List Int)×Int×Unit)×Unit)
abbrev Uq1:Ty:=.pair (.int .i64) (.pair (.arr 3 (.flt .f32)) (.pair (.arr 3 (.int .i16)) (.pair (.int .i64) (.pair (.flt .f32) (.unit)))))
abbrev Uq2:Ty:=.pair (.arr 6 (.flt .f32)) (.pair (.arr 6 (.arr 6 (.flt .f32))) (.unit))
abbrev Uq3:Ty:=.pair (.int .i64) (.pair (.arr 3 (.flt .f32)) (.pair (.list (.arr 3 (.flt .f32))) (.pair (.list (.pair (.int .i64) (.pair (.arr 3 (.flt .f32)) (.pair (.int .i64) (.pair (.int .i64) (.unit)))))) (.unit))))
abbrev Uq4:Ty:=.pair (.arr 6 (.flt .f32)) (.pair (.flt .f32) (.pair (.flt .f32) (.unit)))
abbrev Uq5:Ty:=.pair (.int .i64) (.pair (.arr 3 (.flt .f32)) (.pair (.list (.arr 3 (.flt .f32))) (.pair (.list Uq1) (.unit))))
abbrev Uq6:Ty:=.pair (.arr 3 (.flt .f32)) (.pair (.int .i64) (.pair (.int .i64) (.unit)))
abbrev Uq7:Ty:=.pair (.list (.int .u8)) (.pair (.int .i64) (.pair (.int .u64) (.unit)))
abbrev Uq8:Ty:=.pair (.arr 3 (.flt .f32)) (.pair (.arr 3 (.int .i16)) (.pair (.int .i64) (.pair (.flt .f32) (.unit))))
abbrev Uq9:Ty:=.pair (.arr 3 (.flt .f32)) Uq6
abbrev Uq10:Ty:=.pair (.int .i64) Uq6
abbrev Uq11:Ty:=.pair (.bool) (.unit)
abbrev Lq1:Dq3:=((0,0,0,0,0,0,()),((0,0,0,0,0,0,()),(0,0,0,0,0,0,()),(0,0,0,0,0,0,()),(0,0,0,0,0,0,()),(0,0,0,0,0,0,()),(0,0,0,0,0,0,()),()),())
abbrev Lq2:(Vec 6 Nat):=(0,0,0,0,0,0,())
abbrev Lq3:(Vec 9 Nat):=(0,0,0,0,0,0,0,0,0,())
abbrev Lq4:(Vec 6 (Vec 6 Nat)):=((0,0,0,0,0,0,()),(0,0,0,0,0,0,()),(0,0,0,0,0,0,()),(0,0,0,0,0,0,()),(0,0,0,0,0,0,()),(0,0,0,0,0,0,()),())
abbrev Lq5:(Int×Dq8):=(0,(0,0,0,()),0,0,())
abbrev Lq6:(Vec 3 Nat):=(0,0,0,())
abbrev Lq7:Dq5:=(0,(0,0,0,()),(0,0,0,()),0,0,())
abbrev Lq8:(Vec 65 Int):=(0,0,0,0,0,0,0,0,0,0,0,0,0,0,0,0,0,0,0,0,0,0,0,0,0,0,0,0,0,0,0,0,0,0,0,0,0,0,0,0,0,0,0,0,0,0,0,0,0,0,0,0,0,0,0,0,0,0,0,0,0,0,0,0,0,())
abbrev Lq9:Dq7:=((0,0,0,0,0,0,()),0,0,())
abbrev Lq10:Dq2:=(0,(0,0,0,()),[],[],())
abbrev Lq11:Dq4:=(0,(0,0,0,()),[],[],())
abbrev Lq12:Int:=(65:Nat)
abbrev Lq13:Int:=(-32768:Int)
end Go.Proofs.YtnndahnmlmgenaaGreatDoor
