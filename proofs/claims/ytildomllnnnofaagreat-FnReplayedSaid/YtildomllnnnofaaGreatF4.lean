import Derived.Test.YtildomllnnnofaaGreatF3
/- Functions on typed data: what the evaluation of each Go function is, and that it is sound. -/
namespace Go.Proofs.YtildomllnnnofaaGreat
open Go Go.Tm
noncomputable section
set_option linter.unusedVariables false
set_option maxRecDepth 100000
variable {G : List (Nat × Obj)}
def spec_SameState (a0 : Dq2) (a1 : Dq2) : Option Dq9 :=
  (spec_l03Same a0 a1).bind fun y2969 =>
  some ((y2969.1.1, ()), ())
def spec_SameState_en : Entry := ⟨⟨[.v Uq1, .v Uq1], [.v (.val (.bool))], false⟩, fun x => spec_SameState x.1 x.2.1⟩
theorem ql4 : Sound Tryz.prog G 27 spec_SameState_en := qab (envS (l := [(70, spec_l03Same_en)]) ⟨(qnz), trivial⟩) [] Tryz.func27 (by kernel_rfl) rfl fun _ => by kernel_rfl
def laws_FnReplayed_l19 (y13 : Dq15) (y2 : ((Dq3 × Unit) × Unit)) (y5 : Dq12) (y14 : Dq12) (s29 : (Int × Dq2 × Unit)) : Option ((Int × Dq2 × Unit) ⊕ Dq9) :=
  bif (iLt s29.1 y13.1.1) then
    bif inB s29.1 (List.length y2.1.1.2.2.2.1) then
      (impl_TakeEntry ((y2.1.1.1, y2.1.1.2.1, y2.1.1.2.2.1, y2.1.1.2.2.2.1, y2.1.1.2.2.2.2) : Dq3) s29.2.1 (List.getD y2.1.1.2.2.2.1 s29.1.toNat ((0, (0, 0, 0, ()), (0, 0, 0, ()), 0, 0, ()) : Dq5))).bind fun y32 =>
      bif (! (iEq y32.1.2.2.1 0)) then
        Option.map Sum.inr (some ((false, ()), ()))
      else
      bif (! y32.1.2.1) then
        bif inB s29.1 (List.length y2.1.1.2.2.2.1) then
          bif (iLt ((List.getD y2.1.1.2.2.2.1 s29.1.toNat ((0, (0, 0, 0, ()), (0, 0, 0, ()), 0, 0, ()) : Dq5)).1) 3) then
            Option.map Sum.inr (some ((false, ()), ()))
          else
          some (Sum.inl ((iAdd .i64 s29.1 1), y32.1.1, ()))
        else none
      else
      some (Sum.inl ((iAdd .i64 s29.1 1), y32.1.1, ()))
    else none
  else
  Option.map Sum.inr (
    (impl_ReplayFrom ((y2.1.1.1, y2.1.1.2.1, y2.1.1.2.2.1, y2.1.1.2.2.2.1, y2.1.1.2.2.2.2) : Dq3) y5.1.1 (iAdd .i64 y13.1.1 1) y13.1.1).bind fun y40 =>
    (spec_SameState s29.2.1 y14.1.1).bind fun y41 =>
    bif y41.1.1 then
      some (((iEq y40.1.2.1 2), ()), ())
    else some ((false, ()), ()))
def laws_FnReplayed (a0 : (List Int)) (a1 : (List Int)) : Option Dq9 :=
  (laws_a2Long a0 a1).bind fun y1 =>
  bif y1.1.1 then some ((true, ()), ()) else
  (spec_A2Log a0).bind fun y2 =>
  (impl_ReplayLog ((y2.1.1.1, y2.1.1.2.1, y2.1.1.2.2.1, y2.1.1.2.2.2.1, y2.1.1.2.2.2.2) : Dq3)).bind fun y3 =>
  (spec_ReplayLog ((y2.1.1.1, y2.1.1.2.1, y2.1.1.2.2.1, y2.1.1.2.2.2.1, y2.1.1.2.2.2.2) : Dq3)).bind fun y4 =>
  (impl_FirstState ((y2.1.1.1, y2.1.1.2.1, y2.1.1.2.2.1, y2.1.1.2.2.2.1, y2.1.1.2.2.2.2) : Dq3)).bind fun y5 =>
  bif (! (iEq y3.1.2.1 y4.1.2.1)) then some ((false, ()), ()) else
  (spec_SameState y3.1.1 y4.1.1).bind fun y7 =>
  bif (! y7.1.1) then some ((false, ()), ()) else
  bif (! (iEq y5.1.2.1 0)) then some ((false, ()), ()) else
  bif (! (iEq y3.1.2.1 0)) then
    some (((iEq y3.1.2.1 4), ()), ())
  else
  (laws_a2At a1 (0 : Int) (iAdd .i64 (lenI y2.1.1.2.2.2.1) 1)).bind fun y13 =>
  (impl_ReplayFrom ((y2.1.1.1, y2.1.1.2.1, y2.1.1.2.2.1, y2.1.1.2.2.2.1, y2.1.1.2.2.2.2) : Dq3) y5.1.1 (0 : Int) y13.1.1).bind fun y14 =>
  (impl_ReplayFrom ((y2.1.1.1, y2.1.1.2.1, y2.1.1.2.2.1, y2.1.1.2.2.2.1, y2.1.1.2.2.2.2) : Dq3) y14.1.1 y13.1.1 (lenI y2.1.1.2.2.2.1)).bind fun y15 =>
  bif (! (iEq y14.1.2.1 0)) then some ((false, ()), ()) else
  bif (! (iEq y15.1.2.1 0)) then some ((false, ()), ()) else
  (spec_SameState y15.1.1 y4.1.1).bind fun y18 =>
  bif (! y18.1.1) then some ((false, ()), ()) else run (laws_FnReplayed_l19 y13 y2 y5 y14) ((0 : Int), y5.1.1, ())
def laws_FnReplayed_en : Entry := ⟨⟨[.v (.list (.int .u8)), .v (.list (.int .u8))], [.v (.val (.bool))], false⟩, fun x => laws_FnReplayed x.1 x.2.1⟩
theorem qk4 : Sound Tryz.prog G 4 laws_FnReplayed_en := qab (envS (l := [(22, laws_a2Long_en), (23, spec_A2Log_en), (24, impl_ReplayLog_en), (25, spec_ReplayLog_en), (26, impl_FirstState_en), (27, spec_SameState_en), (28, laws_a2At_en), (29, impl_ReplayFrom_en), (30, impl_TakeEntry_en)]) ⟨(qoy), (qqy), (qmd), (qlt), (qkk), (ql4), (qrm), (qkm), (qma), trivial⟩) [(19, .vary [(19, .sc (.int .i64)), (18, .box (.val Uq1))])] Tryz.func4 (by kernel_rfl) rfl fun _ => by kernel_rfl
end
end Go.Proofs.YtildomllnnnofaaGreat
