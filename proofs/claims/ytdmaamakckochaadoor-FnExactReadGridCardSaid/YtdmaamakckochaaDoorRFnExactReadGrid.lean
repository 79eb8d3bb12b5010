/- FnExactReadGrid, as its tied card says it: for every input the law answers true, and its arguments read behind the call as before; the package variables that the row lists hold what the program's text lays (the card's tie, given). No condition beyond the given row's. -/
import Derived.Test.YtdmaamakckochaaDoorRows
import Derived.Test.YtdmaamakckochaaDoorCards
import Derived.Test.YtdmaamakckochaaDoorTie
import Derived.Test.YtdmaamakckochaaDoorP4
import Derived.ProofKit
import Derived.SizedLaws
import Derived.Deep.DeepLaidRun
import Derived.SevenTiedAt
import Derived.Stop.LaidErr
namespace Go.Proofs.YtdmaamakckochaaDoor.fnExactReadGrid
open Go Go.Tm
set_option linter.unusedVariables false
theorem own : ownKnob Tryd.prog.godebug = none := by kernel_rfl
theorem laidOut : laidOutB Tryd.prog = true := by kernel_rfl
/-- the cells of a flat datum -/
def cells1 : DataW Unit → List Value
  | .agg ds => ds.map fun | .lit l => l.value | _ => .nilIface
  | _ => []
def cells2 : DataW Unit → List Value
  | .agg ds => ds.flatMap cells1
  | _ => []
def put (h : Array Obj) (g : Nat) (cs : List Value) : Array Obj := h.modify g fun
    | .cells _ t frozen => .cells cs.toArray t frozen
    | o => o
/-- a start that fits: the listed variables hold what they are listed to hold -/
noncomputable def laidWorld (os : Os) : World :=
  let N := (World.settled Tryd.prog os).heap.size
  let w0 := World.holding Tryd.prog os ⟨#[], #[], []⟩
  { w0 with heap := put (put (w0.heap) 6 (cells2 Rows.laid_unicode_utf8_acceptRanges)) 5 (cells1 Rows.laid_unicode_utf8_first) }
theorem laid_met (os : Os) (args : Array Value) : laidMet Tryd.prog Rows.fnExactReadGridRow.laid ((laidWorld os).forCall (fun _ _ => 0) ⟨#[], args, []⟩).memory :=
  laidMet_of_run3 10 (by kernel_rfl) (by kernel_rfl) (by kernel_rfl)
/-- what the listed variables hold, as the machine asks it -/
theorem facts (W : World) (h : W.ShapedOpen Tryd.prog ∧ laidMet Tryd.prog Rows.fnExactReadGridRow.laid W) : ∃ G, GS G W (fun c => c < W.heap.size) ∧ Sound Tryd.prog G 4 laws_FnExactReadGrid_en := by
  obtain ⟨hsh, hL⟩ := h
  obtain ⟨m1, hm1⟩ := Go.Proofs.cell_of_shapedOpen_int (g := 1) (t := 3) (zero := #[.int .i64 0]) hsh (of_decide_eq_true (by kernel_rfl)) (by kernel_rfl) rfl (by kernel_rfl) (by kernel_rfl) Tryd.underlying3
  obtain ⟨o1, ho1⟩ := cell_obj hm1
  exact ⟨[(1, o1)], (gs_cons ho1 (gs_nil W)), laws_FnExactReadGrid_so (gmax_of ho1 hm1 (by simp))⟩
set_option maxRecDepth 100000 in
theorem lifted (os : Os) (started : os.Started) (H : Type) (enc : TypeId × Value → H) :
    ReturnsInHanded {} Tryd.checked os 4 .any (fun w args => (Rows.fnExactReadGridSpec.pre enc Tryd.prog Tryd.f4 Rows.fnExactReadGridRow.domain false w args ∧ laidMet Tryd.prog Rows.fnExactReadGridRow.laid w) ∧ sizedMet enc Tryd.prog Tryd.f4 (OpenSpec.ofChange Rows.fnExactReadGridSpec) false w args) (Rows.fnExactReadGridSpec.post enc Tryd.prog Tryd.f4 false true false false) :=
  returns_laid (C := Tryd.checked) (X := fun w _ => laidMet Tryd.prog Rows.fnExactReadGridRow.laid w) (fun _ _ _ hh h => h.of_heap hh) own started (by kernel_rfl) Tryd.func4
    (ChangeSpec.witness_at (enc := enc) (C := Tryd.checked) (os := os) (X := fun w _ => laidMet Tryd.prog Rows.fnExactReadGridRow.laid w) false (laidWorld os) #[.string ByteArray.empty] 8 rfl (by kernel_rfl) (by kernel_rfl) (by kernel_rfl) (by kernel_rfl) (by kernel_rfl) (laid_met os _))
    (law_contractX (P := Tryd.prog) (X := fun W => W.ShapedOpen Tryd.prog ∧ laidMet Tryd.prog Rows.fnExactReadGridRow.laid W) (fn := Tryd.f4) (ts := [.str]) laidOut (by kernel_rfl) rfl (by kernel_rfl) Tryd.func4 (by kernel_rfl) rfl (fun W h => facts W h) (fun x h => laws_FnExactReadGrid_plain x.1 h.1) (fun ds h => by
      match ds, h with
      | [d1], _ => rfl) rfl Tryd.underlying4)
theorem over : Rows.fnExactReadGridRow.holds Tryd.pinned (OpenSpec.ofChange Rows.fnExactReadGridSpec) :=
  OpenClaim.holds_of_wide 4 Tryd.f4 rfl rfl rfl rfl rfl rfl rfl ⟨rfl, rfl, rfl, rfl, rfl⟩ rfl rfl rfl rfl rfl (by kernel_rfl) Tryd.func4 (by kernel_rfl)
    (of_decide_eq_true (by kernel_rfl)) (by unfold Func.isWrapper; rw [if_neg (of_decide_eq_false (by kernel_rfl))]; exact ⟨rfl, rfl⟩)
    (fun os started H enc _ => lifted os started H enc)
end Go.Proofs.YtdmaamakckochaaDoor.fnExactReadGrid
namespace Go.Proofs.YtdmaamakckochaaDoor
open Go
/-- THE TIED CARD. -/
theorem fnExactReadGrid_holds : Rows.FnExactReadGridCardSaid :=
  Claim7.holds_tied_plain_at .later [] [.data, .pinned] true (true, "4f8baa6f8d09f76c1a500ea6bbd315269b28bcb1399e629f53735ebd866e1128") true fnExactReadGrid.over (fun _ h => by cases h) (by kernel_rfl) (fun _ h => by cases h) fnExactReadGrid_row_tie rfl ⟨rfl, rfl⟩ (by kernel_rfl) rfl
    (fun f fn hf hfn => by
      obtain rfl : f = 4 := Option.some.inj ((show Tryd.prog.funcNamed "loop.example/g01204/laws.FnExactReadGrid" = some 4 by kernel_rfl).symm.trans hf) |>.symm
      obtain rfl : fn = Tryd.f4 := (Option.some.inj (Tryd.func4.symm.trans hfn)).symm
      exact ⟨by kernel_rfl, fun j t ht => by
        rw [Tryd.params4] at ht
        have key : ∀ t ∈ [9], Tryd.prog.wantsStandIn t = false := by
          intro t ht
          simp only [List.mem_cons, List.mem_nil_iff, or_false] at ht
          subst ht; kernel_rfl
        exact key t (by have := Array.mem_of_getElem? ht; simpa using this)⟩)
    (by kernel_rfl)
#print axioms fnExactReadGrid_holds
end Go.Proofs.YtdmaamakckochaaDoor
