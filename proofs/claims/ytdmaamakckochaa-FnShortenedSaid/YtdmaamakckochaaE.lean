import Derived.Test.YtdmaamakckochaaA3
import Derived.Test.YtdmaamakckochaaProg
import Derived.KernelRfl
/- The types of the translation, as the machine has them. -/
namespace Go.Proofs.Ytdmaamakckochaa
open Go Go.Tm
def tysTab : List (Nat × Ty) := [(2, .int .i64), (3, .int .i64), (5, .int .u8), (22, .list (.int .u8)), (25, .pair (.int .i64) (.pair (.int .i64) (.pair (.list (.int .u8)) (.unit)))), (27, .int .i16), (29, .arr 2 (.int .i16)), (31, .list (.arr 2 (.int .i16))), (48, .list (.int .i16)), (59, .list (.int .i64)), (62, .list (.arr 2 (.int .i64))), (66, .arr 2 (.int .i64)), (71, .int .u64), (73, .pair (.list (.int .u8)) (.pair (.int .i64) (.pair (.int .u64) (.unit))))]
def eqTab : List Nat := [29]
def primTab : List (Nat × PrimD) := []
noncomputable def env (G : List (Nat × Obj)) (l : List (Nat × Entry)) : Env := { P := Try.prog, tys := lookT tysTab, fns := lookF l, eqs := eqTab, prims := lookP primTab, G := G }
theorem tysOK : (tysTab.all fun p => okTy Try.prog p.2 p.1) = true := by kernel_rfl
theorem eqsOK : eqsB Try.prog tysTab eqTab = true := by kernel_rfl
theorem mixedOK : Try.prog.follows .mixedOrders = true := by kernel_rfl
theorem primsOK : AllP Try.prog primTab := trivial
theorem envS {G : List (Nat × Obj)} {l : List (Nat × Entry)} (h : AllS Try.prog G l) : EnvT (env G l) := env_s tysOK eqsOK mixedOK h primsOK
end Go.Proofs.Ytdmaamakckochaa
