import Derived.Test.YtioniijhdkkieaaA3
import Derived.Test.YtioniijhdkkieaaProg
import Derived.KernelRfl
/- The types of the translation, as the machine has them. -/
namespace Go.Proofs.Ytioniijhdkkieaa
open Go Go.Tm
def tysTab : List (Nat × Ty) := [(2, .int .i64), (3, .int .i64), (4, .bool), (49, .flt .f32), (50, .arr 3 (.flt .f32)), (64, .arr 3 (.flt .f32)), (91, .arr 2 (.flt .f32)), (103, .list (.arr 2 (.flt .f32))), (105, .arr 3 (.flt .f32)), (163, .flt .f64), (172, .list (.flt .f32))]
def eqTab : List Nat := []
def primTab : List (Nat × PrimD) := [(216, bits32P), (211, bits64P)]
noncomputable def env (l : List (Nat × Entry)) : Env := { P := Try.prog, tys := lookT tysTab, fns := lookF l, eqs := eqTab, prims := lookP primTab }
theorem tysOK : (tysTab.all fun p => okTy Try.prog p.2 p.1) = true := by kernel_rfl
theorem eqsOK : eqsB Try.prog tysTab eqTab = true := by kernel_rfl
theorem mixedOK : Try.prog.follows .mixedOrders = true := by kernel_rfl
theorem primsOK : AllP Try.prog primTab := ⟨bits32_prim Try.func216 (by kernel_rfl) (by kernel_rfl) (by kernel_rfl) (by kernel_rfl), bits64_prim Try.func211 (by kernel_rfl) (by kernel_rfl) (by kernel_rfl) (by kernel_rfl), trivial⟩
theorem envS {l : List (Nat × Entry)} (h : AllS Try.prog l) : EnvS (env l) := env_s tysOK eqsOK mixedOK h primsOK
end Go.Proofs.Ytioniijhdkkieaa
