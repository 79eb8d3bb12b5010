import Derived.Test.YtiakgpcjomgkcaaA3
import Derived.Test.YtiakgpcjomgkcaaProg
import Derived.KernelRfl
/- The types of the translation, as the machine has them. -/
namespace Go.Proofs.Ytiakgpcjomgkcaa
open Go Go.Tm
def tysTab : List (Nat × Ty) := [(2, .int .i64), (3, .int .i64), (4, .bool), (5, .int .u8), (23, .pair (.int .i64) (.pair (.int .i64) (.pair (.int .i64) (.unit)))), (25, .pair (.int .i64) (.pair (.int .i64) (.pair (.int .i64) (.unit)))), (28, .flt .f32), (30, .arr 3 (.flt .f32)), (32, .pair (.arr 3 (.flt .f32)) (.pair (.arr 3 (.flt .f32)) (.pair (.int .i64) (.pair (.int .i64) (.unit))))), (36, .list (.int .u8)), (38, .pair (.int .i64) (.pair (.int .i64) (.pair (.list (.int .u8)) (.unit)))), (39, .int .i16), (40, .arr 2 (.int .i16)), (44, .pair (.int .i64) (.pair (.int .i64) (.pair (.list (.int .u8)) (.unit)))), (46, .arr 2 (.int .i16)), (50, .list (.arr 2 (.int .i16))), (51, .arr 2 (.flt .f32)), (53, .list (.arr 2 (.flt .f32))), (56, .list (.arr 2 (.int .i16))), (82, .list (.flt .f32)), (93, .flt .f64)]
def eqTab : List Nat := []
noncomputable def env (l : List (Nat × Entry)) : Env := { P := Try.prog, tys := lookT tysTab, fns := lookF l, eqs := eqTab }
theorem tysOK : (tysTab.all fun p => okTy Try.prog p.2 p.1) = true := by kernel_rfl
theorem eqsOK : eqsB Try.prog tysTab eqTab = true := by kernel_rfl
theorem mixedOK : Try.prog.follows .mixedOrders = true := by kernel_rfl
theorem envS {l : List (Nat × Entry)} (h : AllS Try.prog l) : EnvS (env l) := env_s tysOK eqsOK mixedOK h
end Go.Proofs.Ytiakgpcjomgkcaa
