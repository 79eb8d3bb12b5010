import Derived.Test.YtdmaamakckochaaGreatDoorA3
import Derived.Test.YtdmaamakckochaaGreatDoorH
import Derived.KernelRfl
/- The types of the translation, as the machine has them. -/
namespace Go.Proofs.YtdmaamakckochaaGreatDoor
open Go Go.Tm
def tysTab : List (Nat × Ty) := [(2, .int .i64), (3, .int .i64), (5, .int .u8), (9, .str), (21, .int .i32), (22, .list (.int .u8)), (25, .pair (.int .i64) (.pair (.int .i64) (.pair (.list (.int .u8)) (.unit)))), (27, .int .i16), (29, .arr 2 (.int .i16)), (38, .flt .f32), (39, .list (.pair (.arr 3 (.int .i32)) (.pair (.arr 3 (.flt .f32)) (.pair (.flt .f32) (.pair (.int .i64) (.pair (.int .i64) (.unit))))))), (41, .pair (.flt .f32) (.pair (.list (.pair (.arr 3 (.int .i32)) (.pair (.arr 3 (.flt .f32)) (.pair (.flt .f32) (.pair (.int .i64) (.pair (.int .i64) (.unit))))))) (.unit))), (44, .arr 2 (.flt .f32)), (49, .arr 3 (.flt .f32)), (79, .list (.str)), (88, .list (.arr 2 (.int .i16))), (99, .list (.flt .f32)), (102, .arr 3 (.int .i32)), (104, .pair (.arr 3 (.int .i32)) (.pair (.arr 3 (.flt .f32)) (.pair (.flt .f32) (.pair (.int .i64) (.pair (.int .i64) (.unit)))))), (105, .flt .f64), (164, .int .u64), (166, .pair (.list (.int .u8)) (.pair (.int .i64) (.pair (.int .u64) (.unit)))), (220, .list (.int .i32))]
def eqTab : List Nat := [102]
def primTab : List (Nat × PrimD) := [(166, bits32P), (216, bits64P)]
noncomputable def env (G : List (Nat × Obj)) (l : List (Nat × Entry)) : Env := { P := Tryz.prog, tys := lookT tysTab, fns := lookF l, eqs := eqTab, prims := lookP primTab, G := G }
theorem tysOK : (tysTab.all fun p => okTy Tryz.prog p.2 p.1) = true := by kernel_rfl
theorem eqsOK : eqsB Tryz.prog tysTab eqTab = true := by kernel_rfl
theorem mixedOK : Tryz.prog.follows .mixedOrders = true := by kernel_rfl
theorem primsOK : AllP Tryz.prog primTab := ⟨bits32_prim Tryz.func166 (by kernel_rfl) (by kernel_rfl) (by kernel_rfl) (by kernel_rfl), bits64_prim Tryz.func216 (by kernel_rfl) (by kernel_rfl) (by kernel_rfl) (by kernel_rfl), trivial⟩
theorem envS {G : List (Nat × Obj)} {l : List (Nat × Entry)} (h : AllS Tryz.prog G l) : EnvT (env G l) := env_s tysOK eqsOK mixedOK h primsOK
end Go.Proofs.YtdmaamakckochaaGreatDoor
