/- Functions of the program and of the reference in plain terms. -/
import Derived.Test.YtdmaamakckochaaGreatDoorP3
namespace Go.Proofs.YtdmaamakckochaaGreatDoor
open Go Go.Tm
set_option linter.unusedVariables false
set_option linter.unusedSimpArgs false
set_option linter.unusedSectionVars false
/-! the reference's text of a grid -/
noncomputable def spec_l07Sign (a0 : Int) : Option ((Int × Unit) × Unit) :=
  bif (iEq a0 0) then some (((46 : Int), ()), ()) else
  bif (iEq a0 255) then some (((35 : Int), ()), ()) else
  bif (iEq (iRem .u8 a0 10) 0) then
    bif (iLe a0 90) then
      some (((iAdd .u8 48 (iQuo .u8 a0 10)), ()), ())
    else some (((63 : Int), ()), ())
  else some (((63 : Int), ()), ())

noncomputable def spec_l07Text_l3 (a0 : (Int × (Int × ((List Int) × Unit)))) (s164 : ((List Int) × Int × Unit)) : Option (((List Int) × Int × Unit) ⊕ ((List UInt8 × Unit) × Unit)) :=
  bif (iLt s164.2.1 (lenI a0.2.2.1)) then
    bif inB s164.2.1 (List.length a0.2.2.1) then
      (spec_l07Sign (List.getD a0.2.2.1 s164.2.1.toNat (0 : Int))).bind fun y167 =>
      bif room (List.length s164.1 + 1) 1 then
        let l168 := s164.1 ++ ([y167.1.1] : (List Int))
        bif iEq a0.1 0 then none else
        bif (iEq (iRem .i64 (iAdd .i64 s164.2.1 1) a0.1) 0) then
          bif room (List.length l168 + 1) 1 then
            some (Sum.inl ((l168 ++ ([10] : (List Int))), (iAdd .i64 s164.2.1 1), ()))
          else none
        else
        some (Sum.inl (l168, (iAdd .i64 s164.2.1 1), ()))
      else none
    else none
  else
  Option.map Sum.inr (some (((ofBytes s164.1), ()), ()))

noncomputable def spec_l07Text (a0 : (Int × (Int × ((List Int) × Unit)))) : Option ((List UInt8 × Unit) × Unit) :=
  run (spec_l07Text_l3 a0) (([] : (List Int)), (0 : Int), ())
end Go.Proofs.YtdmaamakckochaaGreatDoor
