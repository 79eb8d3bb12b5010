import Derived.Test.YtildomllnnnofaaGreatDoorA3
import Derived.Test.YtildomllnnnofaaGreatDoorH
import Derived.KernelRfl
/- The types of the translation, as the machine has them. -/
namespace Go.Proofs.YtildomllnnnofaaGreatDoor
open Go Go.Tm
def tysTab : List (Nat × Ty) := [(2, .int .i64), (3, .int .i64), (5, .int .u8), (9, .str), (22, .list (.int .u8)), (26, .flt .f32), (28, .arr 3 (.flt .f32)), (29, .list (.arr 3 (.flt .f32))), (30, .list (.pair (.int .i64) (.pair (.arr 3 (.flt .f32)) (.pair (.int .i64) (.pair (.int .i64) (.unit)))))), (32, .pair (.int .i64) (.pair (.arr 3 (.flt .f32)) (.pair (.list (.arr 3 (.flt .f32))) (.pair (.list (.pair (.int .i64) (.pair (.arr 3 (.flt .f32)) (.pair (.int .i64) (.pair (.int .i64) (.unit)))))) (.unit))))), (43, .int .u64), (62, .pair (.int .i64) (.pair (.arr 3 (.flt .f32)) (.pair (.int .i64) (.pair (.int .i64) (.unit))))), (89, .list (.str)), (92, .list (.pair (.int .i64) (.pair (.int .i64) (.unit)))), (94, .pair (.pair (.int .i64) (.pair (.arr 3 (.flt .f32)) (.pair (.list (.arr 3 (.flt .f32))) (.pair (.list (.pair (.int .i64) (.pair (.arr 3 (.flt .f32)) (.pair (.int .i64) (.pair (.int .i64) (.unit)))))) (.unit))))) (.pair (.int .i64) (.pair (.list (.pair (.int .i64) (.pair (.int .i64) (.unit)))) (.pair (.int .i64) (.unit))))), (146, .err), (172, .int .u64), (174, .pair (.list (.int .u8)) (.pair (.int .i64) (.pair (.int .u64) (.unit)))), (179, .list (.flt .f32)), (207, .pair (.int .i64) (.pair (.int .i64) (.unit)))]
def eqTab : List Nat := []
def primTab : List (Nat × PrimD) := [(105, bits32P)]
noncomputable def env (G : List (Nat × Obj)) (l : List (Nat × Entry)) : Env := { P := Tryz.prog, tys := lookT tysTab, fns := lookF l, eqs := eqTab, prims := lookP primTab, G := G }
theorem tysOK : (tysTab.all fun p => okTy Tryz.prog p.2 p.1) = true := by kernel_rfl
theorem eqsOK : eqsB Tryz.prog tysTab eqTab = true := by kernel_rfl
theorem mixedOK : Tryz.prog.follows .mixedOrders = true := by kernel_rfl
theorem primsOK : AllP Tryz.prog primTab := ⟨bits32_prim Tryz.func105 (by kernel_rfl) (by kernel_rfl) (by kernel_rfl) (by kernel_rfl), trivial⟩
theorem envS {G : List (Nat × Obj)} {l : List (Nat × Entry)} (h : AllS Tryz.prog G l) : EnvT (env G l) := env_s tysOK eqsOK mixedOK h primsOK
end Go.Proofs.YtildomllnnnofaaGreatDoor
