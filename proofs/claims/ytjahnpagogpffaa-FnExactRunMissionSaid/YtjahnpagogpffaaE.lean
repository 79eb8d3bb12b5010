import Derived.Test.YtjahnpagogpffaaA3
import Derived.Test.YtjahnpagogpffaaProg
import Derived.KernelRfl
/- The types of the translation, as the machine has them. -/
namespace Go.Proofs.Ytjahnpagogpffaa
open Go Go.Tm
def tysTab : List (Nat × Ty) := [(2, .int .i64), (3, .int .i64), (4, .bool), (22, .flt .f32), (23, .arr 3 (.flt .f32)), (24, .list (.arr 3 (.flt .f32))), (25, .list (.pair (.int .i64) (.pair (.arr 3 (.flt .f32)) (.pair (.int .i64) (.pair (.int .i64) (.unit)))))), (27, .pair (.int .i64) (.pair (.arr 3 (.flt .f32)) (.pair (.list (.arr 3 (.flt .f32))) (.pair (.list (.pair (.int .i64) (.pair (.arr 3 (.flt .f32)) (.pair (.int .i64) (.pair (.int .i64) (.unit)))))) (.unit))))), (28, .int .u32), (30, .arr 3 (.flt .f32)), (31, .list (.arr 3 (.flt .f32))), (32, .list (.pair (.int .i64) (.pair (.arr 3 (.flt .f32)) (.pair (.arr 3 (.int .i16)) (.pair (.int .i64) (.pair (.flt .f32) (.unit))))))), (34, .pair (.int .i64) (.pair (.arr 3 (.flt .f32)) (.pair (.list (.arr 3 (.flt .f32))) (.pair (.list (.pair (.int .i64) (.pair (.arr 3 (.flt .f32)) (.pair (.arr 3 (.int .i16)) (.pair (.int .i64) (.pair (.flt .f32) (.unit))))))) (.unit))))), (37, .list (.pair (.int .i64) (.pair (.arr 3 (.flt .f32)) (.pair (.int .i64) (.pair (.int .i64) (.unit)))))), (39, .pair (.int .i64) (.pair (.arr 3 (.flt .f32)) (.pair (.list (.arr 3 (.flt .f32))) (.pair (.list (.pair (.int .i64) (.pair (.arr 3 (.flt .f32)) (.pair (.int .i64) (.pair (.int .i64) (.unit)))))) (.unit))))), (58, .pair (.int .i64) (.pair (.arr 3 (.flt .f32)) (.pair (.int .i64) (.pair (.int .i64) (.unit))))), (59, .int .i16), (61, .arr 3 (.int .i16)), (63, .pair (.int .i64) (.pair (.arr 3 (.flt .f32)) (.pair (.arr 3 (.int .i16)) (.pair (.int .i64) (.pair (.flt .f32) (.unit)))))), (68, .pair (.arr 3 (.flt .f32)) (.pair (.arr 3 (.flt .f32)) (.pair (.int .i64) (.pair (.int .i64) (.unit))))), (91, .pair (.int .i64) (.pair (.arr 3 (.flt .f32)) (.pair (.int .i64) (.pair (.int .i64) (.unit))))), (97, .list (.flt .f32)), (99, .flt .f64)]
def eqTab : List Nat := []
def primTab : List (Nat × PrimD) := []
noncomputable def env (l : List (Nat × Entry)) : Env := { P := Try.prog, tys := lookT tysTab, fns := lookF l, eqs := eqTab, prims := lookP primTab }
theorem tysOK : (tysTab.all fun p => okTy Try.prog p.2 p.1) = true := by kernel_rfl
theorem eqsOK : eqsB Try.prog tysTab eqTab = true := by kernel_rfl
theorem mixedOK : Try.prog.follows .mixedOrders = true := by kernel_rfl
theorem primsOK : AllP Try.prog primTab := trivial
theorem envS {l : List (Nat × Entry)} (h : AllS Try.prog l) : EnvS (env l) := env_s tysOK eqsOK mixedOK h primsOK
end Go.Proofs.Ytjahnpagogpffaa
