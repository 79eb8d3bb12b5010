import Derived.Test.YtdmaamakckochaaDoorA3
import Derived.Test.YtdmaamakckochaaDoorH
import Derived.KernelRfl
/- The types of the translation, as the machine has them. -/
namespace Go.Proofs.YtdmaamakckochaaDoor
open Go Go.Tm
def tysTab : List (Nat × Ty) := [(2, .int .i64), (3, .int .i64), (4, .bool), (5, .int .u8), (9, .str), (22, .flt .f32), (26, .flt .f64), (28, .list (.int .u8)), (30, .pair (.int .i64) (.pair (.int .i64) (.pair (.list (.int .u8)) (.unit)))), (36, .pair (.int .i64) (.pair (.int .i64) (.pair (.int .i64) (.unit)))), (38, .pair (.int .i64) (.pair (.int .i64) (.pair (.int .i64) (.unit)))), (48, .arr 3 (.flt .f32)), (49, .list (.arr 3 (.flt .f32))), (59, .list (.pair (.int .i64) (.pair (.arr 3 (.flt .f32)) (.pair (.int .i64) (.pair (.int .i64) (.unit)))))), (61, .pair (.int .i64) (.pair (.arr 3 (.flt .f32)) (.pair (.list (.arr 3 (.flt .f32))) (.pair (.list (.pair (.int .i64) (.pair (.arr 3 (.flt .f32)) (.pair (.int .i64) (.pair (.int .i64) (.unit)))))) (.unit))))), (75, .list (.str)), (87, .list (.int .i64)), (105, .err), (126, .list (.int .i64)), (128, .pair (.pair (.int .i64) (.pair (.arr 3 (.flt .f32)) (.pair (.list (.arr 3 (.flt .f32))) (.pair (.list (.pair (.int .i64) (.pair (.arr 3 (.flt .f32)) (.pair (.int .i64) (.pair (.int .i64) (.unit)))))) (.unit))))) (.pair (.int .i64) (.pair (.int .i64) (.pair (.list (.int .i64)) (.pair (.list (.int .i64)) (.unit)))))), (133, .list (.pair (.int .i64) (.pair (.int .i64) (.unit)))), (135, .pair (.pair (.int .i64) (.pair (.arr 3 (.flt .f32)) (.pair (.list (.arr 3 (.flt .f32))) (.pair (.list (.pair (.int .i64) (.pair (.arr 3 (.flt .f32)) (.pair (.int .i64) (.pair (.int .i64) (.unit)))))) (.unit))))) (.pair (.int .i64) (.pair (.list (.pair (.int .i64) (.pair (.int .i64) (.unit)))) (.pair (.int .i64) (.unit))))), (167, .pair (.list (.str)) (.pair (.bool) (.unit))), (175, .pair (.int .i64) (.pair (.arr 3 (.flt .f32)) (.pair (.int .i64) (.pair (.int .i64) (.unit))))), (195, .pair (.int .i64) (.pair (.int .i64) (.unit)))]
def eqTab : List Nat := []
def primTab : List (Nat × PrimD) := [(107, bits32P)]
noncomputable def env (G : List (Nat × Obj)) (l : List (Nat × Entry)) : Env := { P := Tryd.prog, tys := lookT tysTab, fns := lookF l, eqs := eqTab, prims := lookP primTab, G := G }
theorem tysOK : (tysTab.all fun p => okTy Tryd.prog p.2 p.1) = true := by kernel_rfl
theorem eqsOK : eqsB Tryd.prog tysTab eqTab = true := by kernel_rfl
theorem mixedOK : Tryd.prog.follows .mixedOrders = true := by kernel_rfl
theorem primsOK : AllP Tryd.prog primTab := ⟨bits32_prim Tryd.func107 (by kernel_rfl) (by kernel_rfl) (by kernel_rfl) (by kernel_rfl), trivial⟩
theorem envS {G : List (Nat × Obj)} {l : List (Nat × Entry)} (h : AllS Tryd.prog G l) : EnvT (env G l) := env_s tysOK eqsOK mixedOK h primsOK
end Go.Proofs.YtdmaamakckochaaDoor
