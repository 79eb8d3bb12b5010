/- FnExactLogText, as its tied card says it: for every input the law answers true, and its arguments read behind the call as before; the package variables that the row lists hold what the program's text lays (the card's tie, given). No condition beyond the given row's. -/
import Derived.Test.YtildomllnnnofaaDoorRows
import Derived.Test.YtildomllnnnofaaDoorCards
import Derived.Test.YtildomllnnnofaaDoorTie
import Derived.Test.YtildomllnnnofaaDoorP13
import Derived.ProofKit
import Derived.SizedLaws
import Derived.Deep.DeepLaidRun
import Derived.SevenTiedAt
import Derived.Stop.LaidErr
namespace Go.Proofs.YtildomllnnnofaaDoor.fnExactLogText
open Go Go.Tm
set_option linter.unusedVariables false
theorem own : ownKnob Tryd.prog.godebug = none := by kernel_rfl
theorem laidOut : laidOutB Tryd.prog = true := by kernel_rfl
/-- the cells of a flat datum -/
def cells1 : DataW Unit → List Value
  | .agg ds => ds.map fun | .lit l => l.value | _ => .nilIface
  | _ => []
def cells2 : DataW Unit → List Value
  | .agg ds => ds.flatMap cells1
  | _ => []
def put (h : Array Obj) (g : Nat) (cs : List Value) : Array Obj := h.modify g fun
    | .cells _ t frozen => .cells cs.toArray t frozen
    | o => o
/-- a start that fits: the listed variables hold what they are listed to hold -/
noncomputable def laidWorld (os : Os) : World :=
  let N := (World.settled Tryd.prog os).heap.size
  let w0 := World.holding Tryd.prog os ⟨#[], #[], []⟩
  { w0 with heap := put (put (put (w0.heap) 2 (cells1 Rows.laid_math_bits_deBruijn32tab)) 3 (cells1 Rows.laid_math_bits_deBruijn64tab)) 1 (cells1 Rows.laid_internal_strconv_uint64pow10) }
theorem laid_met (os : Os) (args : Array Value) : laidMet Tryd.prog Rows.fnExactLogTextRow.laid ((laidWorld os).forCall (fun _ _ => 0) ⟨#[], args, []⟩).memory :=
  laidMet_of_run3 10 (by kernel_rfl) (by kernel_rfl) (by kernel_rfl)
theorem gTab : Tryd.prog.globalNamed "internal/strconv.uint64pow10" = some 1 := by kernel_rfl
theorem gDebR : Tryd.prog.globalNamed "math/bits.deBruijn64tab" = some 3 := by kernel_rfl
/-- what the listed variables hold, as the machine asks it -/
theorem facts (W : World) (h : W.ShapedOpen Tryd.prog ∧ laidMet Tryd.prog Rows.fnExactLogTextRow.laid W) : ∃ G, GS G W (fun c => c < W.heap.size) ∧ Sound Tryd.prog G 3 laws_FnExactLogText_en := by
  obtain ⟨hsh, hL⟩ := h
  have hT : Lib.TabIs Tryd.prog W "internal/strconv.uint64pow10" .u64 Lib.pow10Tab := Lib.tabIs_of_head gTab (show (Tryd.prog.globals[1]?).map (·.type) = some 113 by kernel_rfl) Tryd.underlying113 Tryd.underlying83 (by kernel_rfl) (by kernel_rfl) (hL.tail.tail)
  obtain ⟨o2, ho2⟩ := var_obj gTab hT
  have hD : Lib.TabIs Tryd.prog W "math/bits.deBruijn64tab" .u8 deb64 := Lib.tabIs_of_head gDebR (show (Tryd.prog.globals[3]?).map (·.type) = some 121 by kernel_rfl) Tryd.underlying121 Tryd.underlying5 (by kernel_rfl) (by kernel_rfl) (hL.tail)
  obtain ⟨o5, ho5⟩ := var_obj gDebR hD
  exact ⟨[(1, o2), (3, o5)], (gs_cons ho2 (gs_cons ho5 (gs_nil W))), laws_FnExactLogText_so (gtab_of gTab ho2 hT (by simp)) (gdeb_of gDebR ho5 hD (by simp))⟩
set_option maxRecDepth 100000 in
theorem lifted (os : Os) (started : os.Started) (H : Type) (enc : TypeId × Value → H) :
    ReturnsInHanded {} Tryd.checked os 3 .any (fun w args => (Rows.fnExactLogTextSpec.pre enc Tryd.prog Tryd.f3 Rows.fnExactLogTextRow.domain false w args ∧ laidMet Tryd.prog Rows.fnExactLogTextRow.laid w) ∧ sizedMet enc Tryd.prog Tryd.f3 (OpenSpec.ofChange Rows.fnExactLogTextSpec) false w args) (Rows.fnExactLogTextSpec.post enc Tryd.prog Tryd.f3 false true false false) :=
  returns_laid (C := Tryd.checked) (X := fun w _ => laidMet Tryd.prog Rows.fnExactLogTextRow.laid w) (fun _ _ _ hh h => h.of_heap hh) own started (by kernel_rfl) Tryd.func3
    (ChangeSpec.witness_at (enc := enc) (C := Tryd.checked) (os := os) (X := fun w _ => laidMet Tryd.prog Rows.fnExactLogTextRow.laid w) false (laidWorld os) #[.agg #[.int .i64 0, .float .f32 0, .float .f32 0, .float .f32 0, .slice none 0 0, .slice none 0 0]] 8 rfl (by kernel_rfl) (by kernel_rfl) (by kernel_rfl) (by kernel_rfl) (by kernel_rfl) (laid_met os _))
    (law_contractX (P := Tryd.prog) (X := fun W => W.ShapedOpen Tryd.prog ∧ laidMet Tryd.prog Rows.fnExactLogTextRow.laid W) (fn := Tryd.f3) (ts := [.pair (.int .i64) (.pair (.arr 3 (.flt .f32)) (.pair (.list (.arr 3 (.flt .f32))) (.pair (.list (.pair (.int .i64) (.pair (.arr 3 (.flt .f32)) (.pair (.arr 3 (.int .i16)) (.pair (.int .i64) (.pair (.flt .f32) (.unit))))))) (.unit))))]) laidOut (by kernel_rfl) rfl (by kernel_rfl) Tryd.func3 (by kernel_rfl) rfl (fun W h => facts W h) (fun x h => laws_FnExactLogText_plain x.1 h.1) (fun ds h => by
      match ds, h with
      | [d1], _ => rfl) rfl Tryd.underlying4)
theorem over : Rows.fnExactLogTextRow.holds Tryd.pinned (OpenSpec.ofChange Rows.fnExactLogTextSpec) :=
  OpenClaim.holds_of_wide 3 Tryd.f3 rfl rfl rfl rfl rfl rfl rfl ⟨rfl, rfl, rfl, rfl, rfl⟩ rfl rfl rfl rfl rfl (by kernel_rfl) Tryd.func3 (by kernel_rfl)
    (of_decide_eq_true (by kernel_rfl)) (by unfold Func.isWrapper; rw [if_neg (of_decide_eq_false (by kernel_rfl))]; exact ⟨rfl, rfl⟩)
    (fun os started H enc _ => lifted os started H enc)
end Go.Proofs.YtildomllnnnofaaDoor.fnExactLogText
namespace Go.Proofs.YtildomllnnnofaaDoor
open Go
/-- THE TIED CARD. -/
theorem fnExactLogText_holds : Rows.FnExactLogTextCardSaid :=
  Claim7.holds_tied_plain_at .later [] [.data, .data, .data] true (true, "82a5fa59ee9c49518b1994e57475b3e76a8b8fc6cc9fb91b12207eeaca6345a5") false fnExactLogText.over (fun _ h => by cases h) (by kernel_rfl) (fun _ h => by cases h) fnExactLogText_row_tie rfl ⟨rfl, rfl⟩ (by kernel_rfl) rfl
    (fun f fn hf hfn => by
      obtain rfl : f = 3 := Option.some.inj ((show Tryd.prog.funcNamed "loop.example/g01204/laws.FnExactLogText" = some 3 by kernel_rfl).symm.trans hf) |>.symm
      obtain rfl : fn = Tryd.f3 := (Option.some.inj (Tryd.func3.symm.trans hfn)).symm
      exact ⟨by kernel_rfl, fun j t ht => by
        rw [Tryd.params3] at ht
        have key : ∀ t ∈ [27], Tryd.prog.wantsStandIn t = false := by
          intro t ht
          simp only [List.mem_cons, List.mem_nil_iff, or_false] at ht
          subst ht; kernel_rfl
        exact key t (by have := Array.mem_of_getElem? ht; simpa using this)⟩)
    (by kernel_rfl)
#print axioms fnExactLogText_holds
end Go.Proofs.YtildomllnnnofaaDoor
