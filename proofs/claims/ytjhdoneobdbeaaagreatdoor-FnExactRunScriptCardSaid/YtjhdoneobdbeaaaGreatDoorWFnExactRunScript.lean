/- FnExactRunScript, as its tied card says it: for every input the law answers true, and its arguments read behind the call as before; the package variables that the row lists hold what the program's text lays (the card's tie, given). No condition beyond the given row's. -/
import Derived.Test.YtjhdoneobdbeaaaGreatDoorRows
import Derived.Test.YtjhdoneobdbeaaaGreatDoorCards
import Derived.Test.YtjhdoneobdbeaaaGreatDoorTie
import Derived.ProofKit
import Derived.SizedLaws
import Derived.Deep.DeepLaidRun
import Derived.SevenTiedAt
import Derived.Stop.LaidErr
namespace Go.Proofs.YtjhdoneobdbeaaaGreatDoor.fnExactRunScript
open Go
set_option linter.unusedVariables false
theorem own : ownKnob Tryz.prog.godebug = none := by kernel_rfl
theorem laidOut : laidOutB Tryz.prog = true := by kernel_rfl
def cells1 : DataW Unit → List Value
  | .agg ds => ds.map fun | .lit l => l.value | _ => .nilIface
  | _ => []
def cells2 : DataW Unit → List Value
  | .agg ds => ds.flatMap cells1
  | _ => []
def put (h : Array Obj) (g : Nat) (cs : List Value) : Array Obj := h.modify g fun
    | .cells _ t frozen => .cells cs.toArray t frozen
    | o => o
noncomputable def laidWorld (os : Os) : World :=
  let N := (World.settled Tryz.prog os).heap.size
  let w0 := World.holding Tryz.prog os ⟨#[.cells #[.string { data := #[118, 97, 108, 117, 101, 32, 111, 117, 116, 32, 111, 102, 32, 114, 97, 110, 103, 101] }] 292, .cells #[.string { data := #[105, 110, 118, 97, 108, 105, 100, 32, 115, 121, 110, 116, 97, 120] }] 292], #[], []⟩
  { w0 with heap := put (put (put (put (put (put (put (w0.heap) 7 (cells1 Rows.laid_math_bits_deBruijn32tab)) 8 (cells1 Rows.laid_math_bits_deBruijn64tab)) 3 (cells1 Rows.laid_internal_strconv_uint64pow10)) 6 (cells2 Rows.laid_unicode_utf8_acceptRanges)) 2 [.iface 290 (.pointer (some ⟨N + 0, 0, none⟩))]) 1 [.iface 290 (.pointer (some ⟨N + 1, 0, none⟩))]) 5 (cells1 Rows.laid_unicode_utf8_first) }
theorem laid_met (os : Os) (args : Array Value) : laidMet Tryz.prog Rows.fnExactRunScriptRow.laid ((laidWorld os).forCall (fun _ _ => 0) ⟨#[], args, []⟩).memory :=
  laidMet_of_run3 10 (by kernel_rfl) (by kernel_rfl) (by kernel_rfl)
end Go.Proofs.YtjhdoneobdbeaaaGreatDoor.fnExactRunScript
