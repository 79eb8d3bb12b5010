import Derived.Test.YtildomllnnnofaaGreatP4
/- Functions of the program and of the reference in plain terms. -/
namespace Go.Proofs.YtildomllnnnofaaGreat
open Go Go.Tm
set_option linter.unusedVariables false
set_option linter.unusedSimpArgs false
set_option linter.unusedSectionVars false
abbrev TySpot : Ty := .arr 2 (.int .i16)
abbrev DGrid := Int × (Int × ((List Int) × Unit))
def gridB (g : DGrid) : Bool := (iLe 1 g.1 && iLe g.1 24) && ((iLe 1 g.2.1 && iLe g.2.1 24) && iEq (lenI g.2.2.1) (iMul .i64 g.1 g.2.1))
def hasB (g : DGrid) (s : Vec 2 Int) : Bool := (iLe 0 (iWrap .i64 (Vec.getD 2 s 0 (0 : Int))) && iLe (iWrap .i64 (Vec.getD 2 s 0 (0 : Int))) (iSub .i64 g.1 1)) && (iLe 0 (iWrap .i64 (Vec.getD 2 s 1 (0 : Int))) && iLe (iWrap .i64 (Vec.getD 2 s 1 (0 : Int))) (iSub .i64 g.2.1 1))
section
variable {g : DGrid} (hg : gridB g = true) {a b : Vec 2 Int} (ha : Fit TySpot a) (hb : Fit TySpot b) (hha : hasB g a = true) (hhb : hasB g b = true)
include hg ha hb hha hhb
end
end Go.Proofs.YtildomllnnnofaaGreat
