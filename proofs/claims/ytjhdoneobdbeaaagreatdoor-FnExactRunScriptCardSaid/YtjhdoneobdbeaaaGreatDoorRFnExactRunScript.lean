/- FnExactRunScript, as its tied card says it: for every input the law answers true, and its arguments read behind the call as before; the package variables that the row lists hold what the program's text lays (the card's tie, given). No condition beyond the given row's. -/
import Derived.Test.YtjhdoneobdbeaaaGreatDoorRows
import Derived.Test.YtjhdoneobdbeaaaGreatDoorCards
import Derived.Test.YtjhdoneobdbeaaaGreatDoorTie
import Derived.Test.YtjhdoneobdbeaaaGreatDoorP8
import Derived.ProofKit
import Derived.SizedLaws
import Derived.Deep.DeepLaidRun
import Derived.SevenTiedAt
import Derived.Stop.LaidErr
import Derived.Test.YtjhdoneobdbeaaaGreatDoorJFnExactRunScript
import Derived.Test.YtjhdoneobdbeaaaGreatDoorWFnExactRunScript
namespace Go.Proofs.YtjhdoneobdbeaaaGreatDoor.fnExactRunScript
open Go Go.Tm
set_option linter.unusedVariables false
theorem gTab : Tryz.prog.globalNamed "internal/strconv.uint64pow10" = some 3 := by kernel_rfl
theorem gDebR : Tryz.prog.globalNamed "math/bits.deBruijn64tab" = some 8 := by kernel_rfl
theorem star : "*" ++ "errors.errorString" = "*errors.errorString" := by decide
theorem rowErr (u : TypeId) (h : Tryz.prog.typeName? 3 u = some "*errors.errorString") : u = 290 :=
  typeName_ptr_named (nm := "errors.errorString") (by rw [star]; kernel_rfl) (by kernel_rfl) (by decide) u (by rw [star]; exact h)
theorem gsy : Tryz.prog.globalNamed "strconv.ErrSyntax" = some 1 := by kernel_rfl
theorem gra : Tryz.prog.globalNamed "strconv.ErrRange" = some 2 := by kernel_rfl
theorem facts (W : World) (h : W.ShapedOpen Tryz.prog ∧ laidMet Tryz.prog Rows.fnExactRunScriptRow.laid W) : ∃ G, GS G W (fun c => c < W.heap.size) ∧ Sound Tryz.prog G 8 qjy := by
  obtain ⟨hsh, hL⟩ := h
  obtain ⟨m1, hm1⟩ := Go.Proofs.cell_of_shapedOpen_int (g := 4) (t := 3) (zero := #[.int .i64 0]) hsh (of_decide_eq_true (by kernel_rfl)) (by kernel_rfl) rfl (by kernel_rfl) (by kernel_rfl) Tryz.underlying3
  obtain ⟨o1, ho1⟩ := qzq hm1
  have hT : Lib.TabIs Tryz.prog W "internal/strconv.uint64pow10" .u64 Lib.pow10Tab := Lib.tabIs_of_head gTab (show (Tryz.prog.globals[3]?).map (·.type) = some 267 by kernel_rfl) Tryz.underlying267 Tryz.underlying149 (by kernel_rfl) (by kernel_rfl) (hL.tail.tail)
  obtain ⟨o2, ho2⟩ := qair gTab hT
  have hD : Lib.TabIs Tryz.prog W "math/bits.deBruijn64tab" .u8 deb64 := Lib.tabIs_of_head gDebR (show (Tryz.prog.globals[8]?).map (·.type) = some 312 by kernel_rfl) Tryz.underlying312 Tryz.underlying5 (by kernel_rfl) (by kernel_rfl) (hL.tail)
  obtain ⟨o5, ho5⟩ := qair gDebR hD
  obtain ⟨a3, s3, hv3, -, -, -⟩ := laid_sentinel (hL.tail.tail.tail.tail.tail) gsy (show (Tryz.prog.globals[1]?).map (·.type) = some 140 by kernel_rfl) Tryz.underlying140 rowErr Tryz.underlying290 Tryz.underlying292 rfl rfl Tryz.underlying9 (by kernel_rfl) (by kernel_rfl)
  have hc3 : W.cell? ⟨1, 0, none⟩ = some (.iface 290 (.pointer (some a3))) := by have h0 := World.var?_cell gsy hv3 0; simpa using h0
  obtain ⟨o3, ho3⟩ := qzq hc3
  obtain ⟨a4, s4, hv4, -, -, -⟩ := laid_sentinel (hL.tail.tail.tail.tail) gra (show (Tryz.prog.globals[2]?).map (·.type) = some 140 by kernel_rfl) Tryz.underlying140 rowErr Tryz.underlying290 Tryz.underlying292 rfl rfl Tryz.underlying9 (by kernel_rfl) (by kernel_rfl)
  have hc4 : W.cell? ⟨2, 0, none⟩ = some (.iface 290 (.pointer (some a4))) := by have h0 := World.var?_cell gra hv4 0; simpa using h0
  obtain ⟨o4, ho4⟩ := qzq hc4
  exact ⟨[(4, o1), (3, o2), (8, o5), (1, o3), (2, o4)], (qt5 ho1 (qt5 ho2 (qt5 ho5 (qt5 ho3 (qt5 ho4 (qao8 W)))))), qrk (qan2 ho1 hm1 (by simp)) (qan3 gTab ho2 hT (by simp)) (qah8 ho3 hc3 (by simp)) (qah8 ho4 hc4 (by simp)) (qan1 gDebR ho5 hD (by simp))⟩
set_option maxRecDepth 100000 in
theorem lifted (os : Os) (started : os.Started) (H : Type) (enc : TypeId × Value → H) :
    ReturnsInHanded {} Tryz.checked os 8 .any (fun w args => (Rows.fnExactRunScriptSpec.pre enc Tryz.prog Tryz.f8 Rows.fnExactRunScriptRow.domain false w args ∧ laidMet Tryz.prog Rows.fnExactRunScriptRow.laid w) ∧ sizedMet enc Tryz.prog Tryz.f8 (OpenSpec.ofChange Rows.fnExactRunScriptSpec) false w args) (Rows.fnExactRunScriptSpec.post enc Tryz.prog Tryz.f8 false true false false) :=
  qagx (C := Tryz.checked) (X := fun w _ => laidMet Tryz.prog Rows.fnExactRunScriptRow.laid w) (fun _ _ _ hh h => h.of_heap hh) own started (by kernel_rfl) Tryz.func8
    (ChangeSpec.witness_at (enc := enc) (C := Tryz.checked) (os := os) (X := fun w _ => laidMet Tryz.prog Rows.fnExactRunScriptRow.laid w) false (laidWorld os) #[.agg #[.float .f32 0, .float .f32 0, .slice none 0 0], .string ByteArray.empty] 8 rfl (by kernel_rfl) (by kernel_rfl) (by kernel_rfl) (by kernel_rfl) (by kernel_rfl) (laid_met os _))
    (qae8 (P := Tryz.prog) (X := fun W => W.ShapedOpen Tryz.prog ∧ laidMet Tryz.prog Rows.fnExactRunScriptRow.laid W) (fn := Tryz.f8) (ts := [.pair (.flt .f32) (.pair (.flt .f32) (.pair (.list (.list (.pair (.arr 3 (.flt .f32)) (.pair (.flt .f32) (.pair (.int .i64) (.unit)))))) (.unit))), .str]) laidOut (by kernel_rfl) rfl (by kernel_rfl) Tryz.func8 (by kernel_rfl) rfl (fun W h => facts W h) (fun x h => qpl x.1 h.1 x.2.1 h.2.1) (fun ds h => by
      match ds, h with
      | [d1, d2], _ => rfl) rfl Tryz.underlying4)
theorem over : Rows.fnExactRunScriptRow.holds Tryz.pinned (OpenSpec.ofChange Rows.fnExactRunScriptSpec) :=
  OpenClaim.holds_of_wide 8 Tryz.f8 rfl rfl rfl rfl rfl rfl rfl ⟨rfl, rfl, rfl, rfl, rfl⟩ rfl rfl rfl rfl rfl (by kernel_rfl) Tryz.func8 fnExactRunScript_jf
    (of_decide_eq_true (by kernel_rfl)) (by unfold Func.isWrapper; rw [if_neg (of_decide_eq_false (by kernel_rfl))]; exact ⟨rfl, rfl⟩)
    (fun os started H enc _ => lifted os started H enc)
end Go.Proofs.YtjhdoneobdbeaaaGreatDoor.fnExactRunScript
namespace Go.Proofs.YtjhdoneobdbeaaaGreatDoor
open Go
theorem fnExactRunScript_holds : Rows.FnExactRunScriptCardSaid :=
  Claim7.holds_tied_plain_at .later [] [.data, .data, .data, .data, .sentinel, .sentinel, .pinned] true (true, "7fc17a699b14511454dcf0ded065ce46603fae18be67429fa593f0b39b12d3c7") true fnExactRunScript.over (fun _ h => by cases h) (by kernel_rfl) (fun _ h => by cases h) fnExactRunScript_row_tie rfl ⟨rfl, rfl⟩ (by kernel_rfl) rfl
    (fun f fn hf hfn => by
      obtain rfl : f = 8 := Option.some.inj ((show Tryz.prog.funcNamed "loop.example/g01204/laws.FnExactRunScript" = some 8 by kernel_rfl).symm.trans hf) |>.symm
      obtain rfl : fn = Tryz.f8 := (Option.some.inj (Tryz.func8.symm.trans hfn)).symm
      exact ⟨by kernel_rfl, fun j t ht => by
        rw [Tryz.params8] at ht
        have key : ∀ t ∈ [59, 9], Tryz.prog.wantsStandIn t = false := by
          intro t ht
          simp only [List.mem_cons, List.mem_nil_iff, or_false] at ht
          rcases ht with rfl | rfl <;> kernel_rfl
        exact key t (by have := Array.mem_of_getElem? ht; simpa using this)⟩)
    (by kernel_rfl)
#print axioms fnExactRunScript_holds
end Go.Proofs.YtjhdoneobdbeaaaGreatDoor
