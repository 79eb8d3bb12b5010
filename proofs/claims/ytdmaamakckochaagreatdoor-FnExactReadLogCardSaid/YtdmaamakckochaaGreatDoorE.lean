import Derived.Test.YtdmaamakckochaaGreatDoorA3
import Derived.Test.YtdmaamakckochaaGreatDoorH
import Derived.KernelRfl
/- The types of the translation, as the machine has them. -/
namespace Go.Proofs.YtdmaamakckochaaGreatDoor
open Go Go.Tm
def tysTab : List (Nat × Ty) := [(2, .int .i64), (3, .int .i64), (4, .bool), (5, .int .u8), (9, .str), (22, .list (.int .u8)), (27, .int .i16), (38, .flt .f32), (48, .arr 3 (.flt .f32)), (49, .arr 3 (.flt .f32)), (50, .list (.arr 3 (.flt .f32))), (64, .int .u64), (67, .list (.pair (.int .i64) (.pair (.arr 3 (.flt .f32)) (.pair (.arr 3 (.int .i16)) (.pair (.int .i64) (.pair (.flt .f32) (.unit))))))), (69, .pair (.int .i64) (.pair (.arr 3 (.flt .f32)) (.pair (.list (.arr 3 (.flt .f32))) (.pair (.list (.pair (.int .i64) (.pair (.arr 3 (.flt .f32)) (.pair (.arr 3 (.int .i16)) (.pair (.int .i64) (.pair (.flt .f32) (.unit))))))) (.unit))))), (79, .list (.str)), (99, .list (.flt .f32)), (105, .flt .f64), (144, .arr 3 (.int .i16)), (146, .pair (.int .i64) (.pair (.arr 3 (.flt .f32)) (.pair (.arr 3 (.int .i16)) (.pair (.int .i64) (.pair (.flt .f32) (.unit)))))), (164, .int .u64), (173, .err), (202, .pair (.list (.str)) (.pair (.bool) (.unit))), (228, .int .u32), (274, .arr 24 (.int .u8)), (285, .arr 65 (.int .u8))]
def eqTab : List Nat := [144]
def primTab : List (Nat × PrimD) := [(166, bits32P), (216, bits64P)]
noncomputable def env (G : List (Nat × Obj)) (l : List (Nat × Entry)) : Env := { P := Tryz.prog, tys := lookT tysTab, fns := lookF l, eqs := eqTab, prims := lookP primTab, G := G }
theorem tysOK : (tysTab.all fun p => okTy Tryz.prog p.2 p.1) = true := by kernel_rfl
theorem eqsOK : eqsB Tryz.prog tysTab eqTab = true := by kernel_rfl
theorem mixedOK : Tryz.prog.follows .mixedOrders = true := by kernel_rfl
theorem primsOK : AllP Tryz.prog primTab := ⟨bits32_prim Tryz.func166 (by kernel_rfl) (by kernel_rfl) (by kernel_rfl) (by kernel_rfl), bits64_prim Tryz.func216 (by kernel_rfl) (by kernel_rfl) (by kernel_rfl) (by kernel_rfl), trivial⟩
theorem envS {G : List (Nat × Obj)} {l : List (Nat × Entry)} (h : AllS Tryz.prog G l) : EnvT (env G l) := env_s tysOK eqsOK mixedOK h primsOK
end Go.Proofs.YtdmaamakckochaaGreatDoor
