import Derived.Test.YtildomllnnnofaaDoorA3
import Derived.Test.YtildomllnnnofaaDoorH
import Derived.KernelRfl
/- The types of the translation, as the machine has them. -/
namespace Go.Proofs.YtildomllnnnofaaDoor
open Go Go.Tm
def tysTab : List (Nat × Ty) := [(2, .int .i64), (3, .int .i64), (4, .bool), (5, .int .u8), (9, .str), (22, .flt .f32), (23, .arr 3 (.flt .f32)), (24, .list (.arr 3 (.flt .f32))), (25, .list (.pair (.int .i64) (.pair (.arr 3 (.flt .f32)) (.pair (.arr 3 (.int .i16)) (.pair (.int .i64) (.pair (.flt .f32) (.unit))))))), (27, .pair (.int .i64) (.pair (.arr 3 (.flt .f32)) (.pair (.list (.arr 3 (.flt .f32))) (.pair (.list (.pair (.int .i64) (.pair (.arr 3 (.flt .f32)) (.pair (.arr 3 (.int .i16)) (.pair (.int .i64) (.pair (.flt .f32) (.unit))))))) (.unit))))), (30, .arr 3 (.flt .f32)), (31, .list (.arr 3 (.flt .f32))), (32, .list (.pair (.int .i64) (.pair (.arr 3 (.flt .f32)) (.pair (.arr 3 (.int .i16)) (.pair (.int .i64) (.pair (.flt .f32) (.unit))))))), (34, .pair (.int .i64) (.pair (.arr 3 (.flt .f32)) (.pair (.list (.arr 3 (.flt .f32))) (.pair (.list (.pair (.int .i64) (.pair (.arr 3 (.flt .f32)) (.pair (.arr 3 (.int .i16)) (.pair (.int .i64) (.pair (.flt .f32) (.unit))))))) (.unit))))), (48, .list (.int .u8)), (50, .pair (.ref 50) (.pair (.list (.int .u8)) (.unit))), (57, .int .i16), (58, .arr 3 (.int .i16)), (59, .arr 3 (.int .i16)), (61, .pair (.int .i64) (.pair (.arr 3 (.flt .f32)) (.pair (.arr 3 (.int .i16)) (.pair (.int .i64) (.pair (.flt .f32) (.unit)))))), (74, .pair (.int .i64) (.pair (.arr 3 (.flt .f32)) (.pair (.arr 3 (.int .i16)) (.pair (.int .i64) (.pair (.flt .f32) (.unit)))))), (80, .list (.flt .f32)), (83, .int .u64), (84, .int .u32), (88, .flt .f64), (100, .list (.str)), (105, .arr 24 (.int .u8)), (114, .arr 65 (.int .u8)), (116, .int .u64)]
def eqTab : List Nat := [59]
def primTab : List (Nat × PrimD) := [(41, bits32P)]
def eatTab : List (Nat × EatD) := [(22, bldEat 50)]
def strings_Builder_copyCheck_en : Entry := bccEn 50
noncomputable def env (G : List (Nat × Obj)) (l : List (Nat × Entry)) : Env := { P := Tryd.prog, tys := lookT tysTab, fns := lookF l, eqs := eqTab, prims := lookP primTab, G := G, eats := lookE eatTab }
theorem tysOK : (tysTab.all fun p => okTy Tryd.prog p.2 p.1) = true := by kernel_rfl
theorem eqsOK : eqsB Tryd.prog tysTab eqTab = true := by kernel_rfl
theorem mixedOK : Tryd.prog.follows .mixedOrders = true := by kernel_rfl
theorem primsOK : AllP Tryd.prog primTab := ⟨bits32_prim Tryd.func41 (by kernel_rfl) (by kernel_rfl) (by kernel_rfl) (by kernel_rfl), trivial⟩
theorem eatsOK : AllE Tryd.prog eatTab := ⟨bldStr_eat (by decide) Tryd.func22 (by kernel_rfl) (by kernel_rfl) Tryd.bldString, trivial⟩
theorem envS {G : List (Nat × Obj)} {l : List (Nat × Entry)} (h : AllS Tryd.prog G l) : EnvT (env G l) := env_e tysOK eqsOK mixedOK h primsOK eatsOK
end Go.Proofs.YtildomllnnnofaaDoor
