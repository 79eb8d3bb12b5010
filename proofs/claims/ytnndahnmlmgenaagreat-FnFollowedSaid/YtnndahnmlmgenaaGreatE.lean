import Derived.Test.YtnndahnmlmgenaaGreatA3
import Derived.Test.YtnndahnmlmgenaaGreatProg
import Derived.KernelRfl
/- The types of the translation, as the machine has them. -/
namespace Go.Proofs.YtnndahnmlmgenaaGreat
open Go Go.Tm
def tysTab : List (Nat × Ty) := [(2, .int .i64), (3, .int .i64), (5, .int .u8), (22, .list (.int .u8)), (25, .pair (.int .i64) (.pair (.int .i64) (.pair (.list (.int .u8)) (.unit)))), (27, .list (.arr 2 (.int .i16))), (30, .int .i16), (32, .arr 2 (.int .i16)), (34, .list (.arr 2 (.flt .f32))), (37, .flt .f32), (38, .arr 2 (.flt .f32)), (45, .arr 3 (.flt .f32)), (51, .arr 3 (.flt .f32)), (82, .list (.int .i64)), (85, .list (.arr 2 (.int .i64))), (89, .arr 2 (.int .i64)), (92, .list (.flt .f32)), (105, .flt .f64), (124, .int .u64), (126, .pair (.list (.int .u8)) (.pair (.int .i64) (.pair (.int .u64) (.unit))))]
def eqTab : List Nat := [32, 38]
def primTab : List (Nat × PrimD) := [(133, bits32P), (127, bits64P)]
noncomputable def env (G : List (Nat × Obj)) (l : List (Nat × Entry)) : Env := { P := Tryz.prog, tys := lookT tysTab, fns := lookF l, eqs := eqTab, prims := lookP primTab, G := G }
theorem tysOK : (tysTab.all fun p => okTy Tryz.prog p.2 p.1) = true := by kernel_rfl
theorem eqsOK : eqsB Tryz.prog tysTab eqTab = true := by kernel_rfl
theorem mixedOK : Tryz.prog.follows .mixedOrders = true := by kernel_rfl
theorem primsOK : AllP Tryz.prog primTab := ⟨bits32_prim Tryz.func133 (by kernel_rfl) (by kernel_rfl) (by kernel_rfl) (by kernel_rfl), bits64_prim Tryz.func127 (by kernel_rfl) (by kernel_rfl) (by kernel_rfl) (by kernel_rfl), trivial⟩
theorem envS {G : List (Nat × Obj)} {l : List (Nat × Entry)} (h : AllS Tryz.prog G l) : EnvT (env G l) := env_s tysOK eqsOK mixedOK h primsOK
end Go.Proofs.YtnndahnmlmgenaaGreat
