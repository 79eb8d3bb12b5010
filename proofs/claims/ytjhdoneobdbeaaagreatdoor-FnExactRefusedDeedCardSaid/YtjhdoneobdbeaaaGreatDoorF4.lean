import Derived.Test.YtjhdoneobdbeaaaGreatDoorF3
/- Functions on typed data: what the evaluation of each Go function is, and that it is sound. -/
set_option linter.unusedVariables false
namespace Go.Proofs.YtjhdoneobdbeaaaGreatDoor
open Go Go.Tm
set_option maxRecDepth 100000
variable {G : List (Nat × Obj)}
end Go.Proofs.YtjhdoneobdbeaaaGreatDoor
