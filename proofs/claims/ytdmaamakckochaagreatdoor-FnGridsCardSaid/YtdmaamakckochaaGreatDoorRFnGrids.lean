/- FnGrids, as its tied card says it: for every input the law answers true, and its arguments read behind the call as before; the package variables that the row lists hold what the program's text lays (the card's tie, given). No condition beyond the given row's. -/
import Derived.Test.YtdmaamakckochaaGreatDoorRows
import Derived.Test.YtdmaamakckochaaGreatDoorCards
import Derived.Test.YtdmaamakckochaaGreatDoorTie
import Derived.Test.YtdmaamakckochaaGreatDoorP13
import Derived.ProofKit
import Derived.SizedLaws
import Derived.Deep.DeepLaidRun
import Derived.SevenTiedAt
import Derived.Stop.LaidErr
namespace Go.Proofs.YtdmaamakckochaaGreatDoor.fnGrids
open Go Go.Tm
set_option linter.unusedVariables false
theorem own : ownKnob Tryz.prog.godebug = none := by kernel_rfl
theorem laidOut : laidOutB Tryz.prog = true := by kernel_rfl
/-- the cells of a flat datum -/
def cells1 : DataW Unit → List Value
  | .agg ds => ds.map fun | .lit l => l.value | _ => .nilIface
  | _ => []
def cells2 : DataW Unit → List Value
  | .agg ds => ds.flatMap cells1
  | _ => []
def put (h : Array Obj) (g : Nat) (cs : List Value) : Array Obj := h.modify g fun
    | .cells _ t frozen => .cells cs.toArray t frozen
    | o => o
/-- a start that fits: the listed variables hold what they are listed to hold -/
noncomputable def laidWorld (os : Os) : World :=
  let N := (World.settled Tryz.prog os).heap.size
  let w0 := World.holding Tryz.prog os ⟨#[], #[], []⟩
  { w0 with heap := put (put (w0.heap) 6 (cells2 Rows.laid_unicode_utf8_acceptRanges)) 5 (cells1 Rows.laid_unicode_utf8_first) }
theorem laid_met (os : Os) (args : Array Value) : laidMet Tryz.prog Rows.fnGridsRow.laid ((laidWorld os).forCall (fun _ _ => 0) ⟨#[], args, []⟩).memory :=
  laidMet_of_run3 10 (by kernel_rfl) (by kernel_rfl) (by kernel_rfl)
/-- what the listed variables hold, as the machine asks it -/
theorem facts (W : World) (h : W.ShapedOpen Tryz.prog ∧ laidMet Tryz.prog Rows.fnGridsRow.laid W) : ∃ G, GS G W (fun c => c < W.heap.size) ∧ Sound Tryz.prog G 3 laws_FnGrids_en := by
  obtain ⟨hsh, hL⟩ := h
  obtain ⟨m1, hm1⟩ := Go.Proofs.cell_of_shapedOpen_int (g := 1) (t := 3) (zero := #[.int .i64 0]) hsh (of_decide_eq_true (by kernel_rfl)) (by kernel_rfl) rfl (by kernel_rfl) (by kernel_rfl) Tryz.underlying3
  obtain ⟨o1, ho1⟩ := cell_obj hm1
  exact ⟨[(1, o1)], (gs_cons ho1 (gs_nil W)), laws_FnGrids_so (gmax_of ho1 hm1 (by simp))⟩
set_option maxRecDepth 100000 in
theorem lifted (os : Os) (started : os.Started) (H : Type) (enc : TypeId × Value → H) :
    ReturnsInHanded {} Tryz.checked os 3 .any (fun w args => (Rows.fnGridsSpec.pre enc Tryz.prog Tryz.f3 Rows.fnGridsRow.domain false w args ∧ laidMet Tryz.prog Rows.fnGridsRow.laid w) ∧ sizedMet enc Tryz.prog Tryz.f3 (OpenSpec.ofChange Rows.fnGridsSpec) false w args) (Rows.fnGridsSpec.post enc Tryz.prog Tryz.f3 false true false false) :=
  returns_laid (C := Tryz.checked) (X := fun w _ => laidMet Tryz.prog Rows.fnGridsRow.laid w) (fun _ _ _ hh h => h.of_heap hh) own started (by kernel_rfl) Tryz.func3
    (ChangeSpec.witness_at (enc := enc) (C := Tryz.checked) (os := os) (X := fun w _ => laidMet Tryz.prog Rows.fnGridsRow.laid w) false (laidWorld os) #[.slice none 0 0, .slice none 0 0] 8 rfl (by kernel_rfl) (by kernel_rfl) (by kernel_rfl) (by kernel_rfl) (by kernel_rfl) (laid_met os _))
    (law_contractX (P := Tryz.prog) (X := fun W => W.ShapedOpen Tryz.prog ∧ laidMet Tryz.prog Rows.fnGridsRow.laid W) (fn := Tryz.f3) (ts := [.list (.int .u8), .list (.int .u8)]) laidOut (by kernel_rfl) rfl (by kernel_rfl) Tryz.func3 (by kernel_rfl) rfl (fun W h => facts W h) (fun x h => laws_FnGrids_plain x.1 h.1 x.2.1 h.2.1) (fun ds h => by
      match ds, h with
      | [d1, d2], _ => rfl) rfl Tryz.underlying4)
theorem over : Rows.fnGridsRow.holds Tryz.pinned (OpenSpec.ofChange Rows.fnGridsSpec) :=
  OpenClaim.holds_of_wide 3 Tryz.f3 rfl rfl rfl rfl rfl rfl rfl ⟨rfl, rfl, rfl, rfl, rfl⟩ rfl rfl rfl rfl rfl (by kernel_rfl) Tryz.func3 (by kernel_rfl)
    (of_decide_eq_true (by kernel_rfl)) (by unfold Func.isWrapper; rw [if_neg (of_decide_eq_false (by kernel_rfl))]; exact ⟨rfl, rfl⟩)
    (fun os started H enc _ => lifted os started H enc)
end Go.Proofs.YtdmaamakckochaaGreatDoor.fnGrids
namespace Go.Proofs.YtdmaamakckochaaGreatDoor
open Go
/-- THE TIED CARD. -/
theorem fnGrids_holds : Rows.FnGridsCardSaid :=
  Claim7.holds_tied_plain_at .later [] [.data, .pinned] true (true, "0fd869e8b5ee7e44d2cfff454f0b97b01086604eb48fc90bd1bb72e7a2b987a0") true fnGrids.over (fun _ h => by cases h) (by kernel_rfl) (fun _ h => by cases h) fnGrids_row_tie rfl ⟨rfl, rfl⟩ (by kernel_rfl) rfl
    (fun f fn hf hfn => by
      obtain rfl : f = 3 := Option.some.inj ((show Tryz.prog.funcNamed "loop.example/g01204/laws.FnGrids" = some 3 by kernel_rfl).symm.trans hf) |>.symm
      obtain rfl : fn = Tryz.f3 := (Option.some.inj (Tryz.func3.symm.trans hfn)).symm
      exact ⟨by kernel_rfl, fun j t ht => by
        rw [Tryz.params3] at ht
        have key : ∀ t ∈ [22, 22], Tryz.prog.wantsStandIn t = false := by
          intro t ht
          simp only [List.mem_cons, List.mem_nil_iff, or_false] at ht
          rcases ht with rfl | rfl <;> kernel_rfl
        exact key t (by have := Array.mem_of_getElem? ht; simpa using this)⟩)
    (by kernel_rfl)
#print axioms fnGrids_holds
end Go.Proofs.YtdmaamakckochaaGreatDoor
