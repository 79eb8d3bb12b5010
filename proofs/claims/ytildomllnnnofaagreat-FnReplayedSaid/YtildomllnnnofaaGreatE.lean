import Derived.Test.YtildomllnnnofaaGreatA3
import Derived.Test.YtildomllnnnofaaGreatProg
import Derived.KernelRfl
/- The types of the translation, as the machine has them. -/
namespace Go.Proofs.YtildomllnnnofaaGreat
open Go Go.Tm
def tysTab : List (Nat × Ty) := [(2, .int .i64), (3, .int .i64), (5, .int .u8), (9, .str), (22, .list (.int .u8)), (30, .int .i16), (37, .flt .f32), (51, .arr 3 (.flt .f32)), (55, .list (.arr 3 (.flt .f32))), (56, .list (.pair (.int .i64) (.pair (.arr 3 (.flt .f32)) (.pair (.arr 3 (.int .i16)) (.pair (.int .i64) (.pair (.flt .f32) (.unit))))))), (58, .pair (.int .i64) (.pair (.arr 3 (.flt .f32)) (.pair (.list (.arr 3 (.flt .f32))) (.pair (.list (.pair (.int .i64) (.pair (.arr 3 (.flt .f32)) (.pair (.arr 3 (.int .i16)) (.pair (.int .i64) (.pair (.flt .f32) (.unit))))))) (.unit))))), (60, .arr 6 (.flt .f32)), (61, .arr 6 (.flt .f32)), (63, .arr 6 (.arr 6 (.flt .f32))), (65, .pair (.arr 6 (.flt .f32)) (.pair (.arr 6 (.arr 6 (.flt .f32))) (.unit))), (74, .arr 3 (.int .i16)), (76, .pair (.int .i64) (.pair (.arr 3 (.flt .f32)) (.pair (.arr 3 (.int .i16)) (.pair (.int .i64) (.pair (.flt .f32) (.unit)))))), (82, .list (.int .i64)), (92, .list (.flt .f32)), (105, .flt .f64), (124, .int .u64), (126, .pair (.list (.int .u8)) (.pair (.int .i64) (.pair (.int .u64) (.unit)))), (137, .list (.pair (.int .i64) (.pair (.arr 3 (.flt .f32)) (.pair (.int .i64) (.pair (.int .i64) (.unit)))))), (139, .pair (.int .i64) (.pair (.arr 3 (.flt .f32)) (.pair (.list (.arr 3 (.flt .f32))) (.pair (.list (.pair (.int .i64) (.pair (.arr 3 (.flt .f32)) (.pair (.int .i64) (.pair (.int .i64) (.unit)))))) (.unit))))), (144, .int .u32), (156, .list (.pair (.arr 6 (.flt .f32)) (.pair (.flt .f32) (.pair (.flt .f32) (.unit))))), (158, .pair (.arr 6 (.flt .f32)) (.pair (.flt .f32) (.pair (.flt .f32) (.unit)))), (163, .pair (.arr 3 (.flt .f32)) (.pair (.arr 3 (.flt .f32)) (.pair (.int .i64) (.pair (.int .i64) (.unit))))), (184, .pair (.int .i64) (.pair (.arr 3 (.flt .f32)) (.pair (.int .i64) (.pair (.int .i64) (.unit))))), (194, .arr 9 (.flt .f32)), (195, .arr 6 (.arr 9 (.flt .f32))), (206, .list (.str)), (209, .list (.int .i64)), (211, .pair (.pair (.int .i64) (.pair (.arr 3 (.flt .f32)) (.pair (.list (.arr 3 (.flt .f32))) (.pair (.list (.pair (.int .i64) (.pair (.arr 3 (.flt .f32)) (.pair (.int .i64) (.pair (.int .i64) (.unit)))))) (.unit))))) (.pair (.int .i64) (.pair (.int .i64) (.pair (.list (.int .i64)) (.pair (.list (.int .i64)) (.unit))))))]
def eqTab : List Nat := [74]
def primTab : List (Nat × PrimD) := [(133, bits32P), (127, bits64P)]
noncomputable def env (G : List (Nat × Obj)) (l : List (Nat × Entry)) : Env := { P := Tryz.prog, tys := lookT tysTab, fns := lookF l, eqs := eqTab, prims := lookP primTab, G := G }
theorem qab3 : (tysTab.all fun p => okTy Tryz.prog p.2 p.1) = true := by kernel_rfl
theorem qab1 : eqsB Tryz.prog tysTab eqTab = true := by kernel_rfl
theorem qaal : Tryz.prog.follows .mixedOrders = true := by kernel_rfl
theorem qaad : AllP Tryz.prog primTab := ⟨qsy Tryz.func133 (by kernel_rfl) (by kernel_rfl) (by kernel_rfl) (by kernel_rfl), qs7 Tryz.func127 (by kernel_rfl) (by kernel_rfl) (by kernel_rfl) (by kernel_rfl), trivial⟩
theorem envS {G : List (Nat × Obj)} {l : List (Nat × Entry)} (h : AllS Tryz.prog G l) : EnvT (env G l) := qabt qab3 qab1 qaal h qaad
abbrev Dq1 : Type := ((Int × ((Vec 3 Nat) × ((List (Vec 3 Nat)) × ((List (Int × ((Vec 3 Nat) × (Int × (Int × Unit))))) × Unit)))) × (Int × (Int × ((List Int) × ((List Int) × Unit)))))
abbrev Dq2 : Type := ((Vec 6 Nat) × ((Vec 6 (Vec 6 Nat)) × Unit))
abbrev Dq3 : Type := (Int × ((Vec 3 Nat) × ((List (Vec 3 Nat)) × ((List (Int × ((Vec 3 Nat) × ((Vec 3 Int) × (Int × (Nat × Unit)))))) × Unit))))
abbrev Dq4 : Type := (Int × ((Vec 3 Nat) × ((List (Vec 3 Nat)) × ((List (Int × ((Vec 3 Nat) × (Int × (Int × Unit))))) × Unit))))
abbrev Dq5 : Type := (Int × ((Vec 3 Nat) × ((Vec 3 Int) × (Int × (Nat × Unit)))))
abbrev Dq6 : Type := ((Vec 6 Nat) × (Nat × (Nat × Unit)))
abbrev Dq7 : Type := ((List Int) × (Int × (Int × Unit)))
abbrev Dq8 : Type := (Int × (Vec 6 (Vec 9 Nat)) × Unit)
abbrev Dq9 : Type := ((Bool × Unit) × Unit)
abbrev Dq10 : Type := ((Vec 3 Nat) × (Int × (Int × Unit)))
abbrev Dq11 : Type := (((Vec 6 (Vec 6 Nat)) × Int × Unit) × Unit)
abbrev Dq12 : Type := ((Dq2 × Int × Unit) × Unit)
abbrev Dq13 : Type := (Int × (Vec 6 (Vec 6 Nat)) × Unit)
abbrev Dq14 : Type := ((Vec 3 Nat) × Unit)
abbrev Dq15 : Type := ((Int × Unit) × Unit)
abbrev Dq16 : Type := ((List (Vec 3 Nat)) × Int × (Vec 3 Nat) × Unit)
abbrev Dq17 : Type := ((Nat × Unit) × Unit)
abbrev Dq18 : Type := (((List (Vec 3 Nat)) × Int × Unit) × Unit)
abbrev Dq19 : Type := ((Dq2 × Bool × Int × Unit) × Unit)
abbrev Dq20 : Type := (List UInt8 × Unit)
abbrev Dq21 : Type := (Int × Int × Int × Dq3 × Unit)
abbrev Dq22 : Type := ((Vec 3 Nat) × Dq10)
abbrev Dq23 : Type := ((Dq6 × Int × Unit) × Unit)
abbrev Dq24 : Type := ((Dq2 × (List Int) × Int × Unit) × Unit)
abbrev Dq25 : Type := (((List (List UInt8)) × Unit) × Unit)
abbrev Uq1 : Ty := .pair (.arr 6 (.flt .f32)) (.pair (.arr 6 (.arr 6 (.flt .f32))) (.unit))
abbrev Uq2 : Ty := .pair (.int .i64) (.pair (.arr 3 (.flt .f32)) (.pair (.arr 3 (.int .i16)) (.pair (.int .i64) (.pair (.flt .f32) (.unit)))))
abbrev Uq3 : Ty := .pair (.arr 6 (.flt .f32)) (.pair (.flt .f32) (.pair (.flt .f32) (.unit)))
abbrev Uq4 : Ty := .pair (.int .i64) (.pair (.arr 3 (.flt .f32)) (.pair (.list (.arr 3 (.flt .f32))) (.pair (.list Uq2) (.unit))))
abbrev Uq5 : Ty := .pair (.arr 3 (.flt .f32)) (.pair (.int .i64) (.pair (.int .i64) (.unit)))
abbrev Uq6 : Ty := .pair (.list (.int .u8)) (.pair (.int .i64) (.pair (.int .u64) (.unit)))
abbrev Uq7 : Ty := .pair (.int .i64) Uq5
abbrev Uq8 : Ty := .pair (.arr 3 (.flt .f32)) Uq5
abbrev Uq9 : Ty := .pair (.int .i64) (.pair (.arr 3 (.flt .f32)) (.pair (.list (.arr 3 (.flt .f32))) (.pair (.list Uq7) (.unit))))
abbrev Uq10 : Ty := .pair (.arr 3 (.flt .f32)) (.pair (.arr 3 (.int .i16)) (.pair (.int .i64) (.pair (.flt .f32) (.unit))))
end Go.Proofs.YtildomllnnnofaaGreat
