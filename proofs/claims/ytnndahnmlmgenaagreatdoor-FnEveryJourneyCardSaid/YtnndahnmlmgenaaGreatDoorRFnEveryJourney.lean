/- FnEveryJourney, as its tied card says it: for every input the law answers true, and its arguments read behind the call as before; the package variables that the row lists hold what the program's text lays (the card's tie, given). No condition beyond the given row's. -/
import Derived.Test.YtnndahnmlmgenaaGreatDoorRows
import Derived.Test.YtnndahnmlmgenaaGreatDoorCards
import Derived.Test.YtnndahnmlmgenaaGreatDoorTie
import Derived.Test.YtnndahnmlmgenaaGreatDoorP3
import Derived.ProofKit
import Derived.SizedLaws
import Derived.Deep.DeepLaidRun
import Derived.SevenTiedAt
import Derived.Stop.LaidErr
namespace Go.Proofs.YtnndahnmlmgenaaGreatDoor.fnEveryJourney
open Go Go.Tm
set_option linter.unusedVariables false
theorem own : ownKnob Tryz.prog.godebug = none := by kernel_rfl
theorem laidOut : laidOutB Tryz.prog = true := by kernel_rfl
def cells1 : DataW Unit → List Value
  | .agg ds => ds.map fun | .lit l => l.value | _ => .nilIface
  | _ => []
def cells2 : DataW Unit → List Value
  | .agg ds => ds.flatMap cells1
  | _ => []
def put (h : Array Obj) (g : Nat) (cs : List Value) : Array Obj := h.modify g fun
    | .cells _ t frozen => .cells cs.toArray t frozen
    | o => o
noncomputable def laidWorld (os : Os) : World :=
  let N := (World.settled Tryz.prog os).heap.size
  let w0 := World.holding Tryz.prog os ⟨#[.cells #[.string { data := #[118, 97, 108, 117, 101, 32, 111, 117, 116, 32, 111, 102, 32, 114, 97, 110, 103, 101] }] 309, .cells #[.string { data := #[105, 110, 118, 97, 108, 105, 100, 32, 115, 121, 110, 116, 97, 120] }] 309], #[], []⟩
  { w0 with heap := put (put (put (put (put (put (put (w0.heap) 7 (cells1 Rows.laid_math_bits_deBruijn32tab)) 8 (cells1 Rows.laid_math_bits_deBruijn64tab)) 4 (cells1 Rows.laid_internal_strconv_uint64pow10)) 6 (cells2 Rows.laid_unicode_utf8_acceptRanges)) 3 [.iface 307 (.pointer (some ⟨N + 0, 0, none⟩))]) 2 [.iface 307 (.pointer (some ⟨N + 1, 0, none⟩))]) 5 (cells1 Rows.laid_unicode_utf8_first) }
theorem laid_met (os : Os) (args : Array Value) : laidMet Tryz.prog Rows.fnEveryJourneyRow.laid ((laidWorld os).forCall (fun _ _ => 0) ⟨#[], args, []⟩).memory :=
  laidMet_of_run3 10 (by kernel_rfl) (by kernel_rfl) (by kernel_rfl)
theorem gTab : Tryz.prog.globalNamed "internal/strconv.uint64pow10" = some 4 := by kernel_rfl
theorem gDebR : Tryz.prog.globalNamed "math/bits.deBruijn64tab" = some 8 := by kernel_rfl
theorem star : "*" ++ "errors.errorString" = "*errors.errorString" := by decide
theorem rowErr (u : TypeId) (h : Tryz.prog.typeName? 3 u = some "*errors.errorString") : u = 307 :=
  typeName_ptr_named (nm := "errors.errorString") (by rw [star]; kernel_rfl) (by kernel_rfl) (by decide) u (by rw [star]; exact h)
theorem gsy : Tryz.prog.globalNamed "strconv.ErrSyntax" = some 2 := by kernel_rfl
theorem gra : Tryz.prog.globalNamed "strconv.ErrRange" = some 3 := by kernel_rfl
theorem facts (W : World) (h : W.ShapedOpen Tryz.prog ∧ laidMet Tryz.prog Rows.fnEveryJourneyRow.laid W) : ∃ G, GS G W (fun c => c < W.heap.size) ∧ Sound Tryz.prog G 5 qkp := by
  obtain ⟨hsh, hL⟩ := h
  obtain ⟨m1, hm1⟩ := Go.Proofs.cell_of_shapedOpen_int (g := 1) (t := 3) (zero := #[.int .i64 0]) hsh (of_decide_eq_true (by kernel_rfl)) (by kernel_rfl) rfl (by kernel_rfl) (by kernel_rfl) Tryz.underlying3
  obtain ⟨o1, ho1⟩ := qy2 hm1
  have hT : Lib.TabIs Tryz.prog W "internal/strconv.uint64pow10" .u64 Lib.pow10Tab := Lib.tabIs_of_head gTab (show (Tryz.prog.globals[4]?).map (·.type) = some 294 by kernel_rfl) Tryz.underlying294 Tryz.underlying173 (by kernel_rfl) (by kernel_rfl) (hL.tail.tail)
  obtain ⟨o2, ho2⟩ := qag3 gTab hT
  have hD : Lib.TabIs Tryz.prog W "math/bits.deBruijn64tab" .u8 deb64 := Lib.tabIs_of_head gDebR (show (Tryz.prog.globals[8]?).map (·.type) = some 320 by kernel_rfl) Tryz.underlying320 Tryz.underlying5 (by kernel_rfl) (by kernel_rfl) (hL.tail)
  obtain ⟨o5, ho5⟩ := qag3 gDebR hD
  obtain ⟨a3, s3, hv3, -, -, -⟩ := laid_sentinel (hL.tail.tail.tail.tail.tail) gsy (show (Tryz.prog.globals[2]?).map (·.type) = some 124 by kernel_rfl) Tryz.underlying124 rowErr Tryz.underlying307 Tryz.underlying309 rfl rfl Tryz.underlying9 (by kernel_rfl) (by kernel_rfl)
  have hc3 : W.cell? ⟨2, 0, none⟩ = some (.iface 307 (.pointer (some a3))) := by have h0 := World.var?_cell gsy hv3 0; simpa using h0
  obtain ⟨o3, ho3⟩ := qy2 hc3
  obtain ⟨a4, s4, hv4, -, -, -⟩ := laid_sentinel (hL.tail.tail.tail.tail) gra (show (Tryz.prog.globals[3]?).map (·.type) = some 124 by kernel_rfl) Tryz.underlying124 rowErr Tryz.underlying307 Tryz.underlying309 rfl rfl Tryz.underlying9 (by kernel_rfl) (by kernel_rfl)
  have hc4 : W.cell? ⟨3, 0, none⟩ = some (.iface 307 (.pointer (some a4))) := by have h0 := World.var?_cell gra hv4 0; simpa using h0
  obtain ⟨o4, ho4⟩ := qy2 hc4
  exact ⟨[(1, o1), (4, o2), (8, o5), (2, o3), (3, o4)], (qs9 ho1 (qs9 ho2 (qs9 ho5 (qs9 ho3 (qs9 ho4 (qao3 W)))))), qsx (qano ho1 hm1 (by simp)) (qanp gTab ho2 hT (by simp)) (qagm ho3 hc3 (by simp)) (qagm ho4 hc4 (by simp)) (qann gDebR ho5 hD (by simp))⟩
set_option maxRecDepth 100000 in
theorem lifted (os : Os) (started : os.Started) (H : Type) (enc : TypeId × Value → H) :
    ReturnsInHanded {} Tryz.checked os 5 .any (fun w args => (Rows.fnEveryJourneySpec.pre enc Tryz.prog Tryz.f5 Rows.fnEveryJourneyRow.domain false w args ∧ laidMet Tryz.prog Rows.fnEveryJourneyRow.laid w) ∧ sizedMet enc Tryz.prog Tryz.f5 (OpenSpec.ofChange Rows.fnEveryJourneySpec) false w args) (Rows.fnEveryJourneySpec.post enc Tryz.prog Tryz.f5 false true false false) :=
  qafa (C := Tryz.checked) (X := fun w _ => laidMet Tryz.prog Rows.fnEveryJourneyRow.laid w) (fun _ _ _ hh h => h.of_heap hh) own started (by kernel_rfl) Tryz.func5
    (ChangeSpec.witness_at (enc := enc) (C := Tryz.checked) (os := os) (X := fun w _ => laidMet Tryz.prog Rows.fnEveryJourneyRow.laid w) false (laidWorld os) #[.agg #[.int .i64 0, .float .f32 0, .float .f32 0, .float .f32 0, .slice none 0 0, .slice none 0 0], .int .u32 0, .int .i64 0] 8 rfl (by kernel_rfl) (by kernel_rfl) (by kernel_rfl) (by kernel_rfl) (by kernel_rfl) (laid_met os _))
    (qadw (P := Tryz.prog) (X := fun W => W.ShapedOpen Tryz.prog ∧ laidMet Tryz.prog Rows.fnEveryJourneyRow.laid W) (fn := Tryz.f5) (ts := [.pair (.int .i64) (.pair (.arr 3 (.flt .f32)) (.pair (.list (.arr 3 (.flt .f32))) (.pair (.list (.pair (.int .i64) (.pair (.arr 3 (.flt .f32)) (.pair (.int .i64) (.pair (.int .i64) (.unit)))))) (.unit)))), .int .u32, .int .i64]) laidOut (by kernel_rfl) rfl (by kernel_rfl) Tryz.func5 (by kernel_rfl) rfl (fun W h => facts W h) (fun x h => qqe x.1 h.1 x.2.1 h.2.1 x.2.2.1 h.2.2.1) (fun ds h => by
      match ds, h with
      | [d1, d2, d3], _ => rfl) rfl Tryz.underlying4)
theorem over : Rows.fnEveryJourneyRow.holds Tryz.pinned (OpenSpec.ofChange Rows.fnEveryJourneySpec) :=
  OpenClaim.holds_of_wide 5 Tryz.f5 rfl rfl rfl rfl rfl rfl rfl ⟨rfl, rfl, rfl, rfl, rfl⟩ rfl rfl rfl rfl rfl (by kernel_rfl) Tryz.func5 (by kernel_rfl)
    (of_decide_eq_true (by kernel_rfl)) (by unfold Func.isWrapper; rw [if_neg (of_decide_eq_false (by kernel_rfl))]; exact ⟨rfl, rfl⟩)
    (fun os started H enc _ => lifted os started H enc)
end Go.Proofs.YtnndahnmlmgenaaGreatDoor.fnEveryJourney
namespace Go.Proofs.YtnndahnmlmgenaaGreatDoor
open Go
theorem fnEveryJourney_holds : Rows.FnEveryJourneyCardSaid :=
  Claim7.holds_tied_plain_at .later [] [.data, .data, .data, .data, .sentinel, .sentinel, .pinned] true (true, "cc5da185f62b31623a4b9485af3b416095095a76f0d8624b18ade8899738107a") true fnEveryJourney.over (fun _ h => by cases h) (by kernel_rfl) (fun _ h => by cases h) fnEveryJourney_row_tie rfl ⟨rfl, rfl⟩ (by kernel_rfl) rfl
    (fun f fn hf hfn => by
      obtain rfl : f = 5 := Option.some.inj ((show Tryz.prog.funcNamed "loop.example/g01204/laws.FnEveryJourney" = some 5 by kernel_rfl).symm.trans hf) |>.symm
      obtain rfl : fn = Tryz.f5 := (Option.some.inj (Tryz.func5.symm.trans hfn)).symm
      exact ⟨by kernel_rfl, fun j t ht => by
        rw [Tryz.params5] at ht
        have key : ∀ t ∈ [30, 32, 2], Tryz.prog.wantsStandIn t = false := by
          intro t ht
          simp only [List.mem_cons, List.mem_nil_iff, or_false] at ht
          rcases ht with rfl | rfl | rfl <;> kernel_rfl
        exact key t (by have := Array.mem_of_getElem? ht; simpa using this)⟩)
    (by kernel_rfl)
#print axioms fnEveryJourney_holds
end Go.Proofs.YtnndahnmlmgenaaGreatDoor
