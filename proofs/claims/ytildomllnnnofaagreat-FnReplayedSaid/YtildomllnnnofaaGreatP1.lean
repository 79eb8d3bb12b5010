import Derived.Test.YtildomllnnnofaaGreatL
/- Functions of the program and of the reference in plain terms. -/
namespace Go.Proofs.YtildomllnnnofaaGreat
open Go Go.Tm
set_option linter.unusedVariables false
set_option linter.unusedSimpArgs false
set_option linter.unusedSectionVars false
noncomputable def impl_ticksOf_l3 (a0 : (Int × ((Vec 3 Nat) × ((List (Vec 3 Nat)) × ((List (Int × ((Vec 3 Nat) × (Int × (Int × Unit))))) × Unit))))) (s1432 : (Int × Int × Unit)) : Option ((Int × Int × Unit) ⊕ ((Int × Unit) × Unit)) :=
  bif (iLt s1432.2.1 (lenI a0.2.2.2.1)) then
    bif inB s1432.2.1 (List.length a0.2.2.2.1) then
      some (Sum.inl ((iAdd .i64 s1432.1 (List.getD a0.2.2.2.1 s1432.2.1.toNat ((0, (0, 0, 0, ()), 0, 0, ()) : (Int × ((Vec 3 Nat) × (Int × (Int × Unit)))))).1), (iAdd .i64 s1432.2.1 1), ()))
    else none
  else
  Option.map Sum.inr (some ((s1432.1, ()), ()))
noncomputable def impl_ticksOf (a0 : (Int × ((Vec 3 Nat) × ((List (Vec 3 Nat)) × ((List (Int × ((Vec 3 Nat) × (Int × (Int × Unit))))) × Unit))))) : Option ((Int × Unit) × Unit) :=
  run (impl_ticksOf_l3 a0) ((0 : Int), (0 : Int), ())
noncomputable def impl_compiler_addLeg (a0 : ((Int × ((Vec 3 Nat) × ((List (Vec 3 Nat)) × ((List (Int × ((Vec 3 Nat) × (Int × (Int × Unit))))) × Unit)))) × (Int × ((List (Int × (Int × Unit))) × (Int × Unit))))) (a1 : (Vec 3 Nat)) (a2 : Int) : Option ((Int × Unit) × (((Int × ((Vec 3 Nat) × ((List (Vec 3 Nat)) × ((List (Int × ((Vec 3 Nat) × (Int × (Int × Unit))))) × Unit)))) × (Int × ((List (Int × (Int × Unit))) × (Int × Unit)))) × Unit)) :=
  (impl_within a2 (1 : Int) (400 : Int)).bind fun y171 =>
  bif (! y171.1.1) then
    some (((2 : Int), ()), ((((a0.1.1, a0.1.2.1, a0.1.2.2.1, a0.1.2.2.2.1, a0.1.2.2.2.2), a0.2.1, a0.2.2.1, a0.2.2.2) : ((Int × ((Vec 3 Nat) × ((List (Vec 3 Nat)) × ((List (Int × ((Vec 3 Nat) × (Int × (Int × Unit))))) × Unit)))) × (Int × ((List (Int × (Int × Unit))) × (Int × Unit))))), ()))
  else
  bif (iEq (lenI a0.1.2.2.2.1) 64) then
    some (((3 : Int), ()), ((((a0.1.1, a0.1.2.1, a0.1.2.2.1, a0.1.2.2.2.1, a0.1.2.2.2.2), a0.2.1, a0.2.2.1, a0.2.2.2) : ((Int × ((Vec 3 Nat) × ((List (Vec 3 Nat)) × ((List (Int × ((Vec 3 Nat) × (Int × (Int × Unit))))) × Unit)))) × (Int × ((List (Int × (Int × Unit))) × (Int × Unit))))), ()))
  else
  (impl_ticksOf ((a0.1.1, a0.1.2.1, a0.1.2.2.1, a0.1.2.2.2.1, a0.1.2.2.2.2) : (Int × ((Vec 3 Nat) × ((List (Vec 3 Nat)) × ((List (Int × ((Vec 3 Nat) × (Int × (Int × Unit))))) × Unit)))))).bind fun y174 =>
  bif (iLt 400 (iAdd .i64 y174.1.1 a2)) then
    some (((3 : Int), ()), ((((a0.1.1, a0.1.2.1, a0.1.2.2.1, a0.1.2.2.2.1, a0.1.2.2.2.2), a0.2.1, a0.2.2.1, a0.2.2.2) : ((Int × ((Vec 3 Nat) × ((List (Vec 3 Nat)) × ((List (Int × ((Vec 3 Nat) × (Int × (Int × Unit))))) × Unit)))) × (Int × ((List (Int × (Int × Unit))) × (Int × Unit))))), ()))
  else
  bif room (List.length a0.1.2.2.2.1 + 1) 40 then
    some (((0 : Int), ()), ((((a0.1.1, a0.1.2.1, a0.1.2.2.1, (a0.1.2.2.2.1 ++ ([(a2, a1, a0.2.1, (-1 : Int), ())] : (List (Int × ((Vec 3 Nat) × (Int × (Int × Unit))))))), a0.1.2.2.2.2), a0.2.1, a0.2.2.1, a0.2.2.2) : ((Int × ((Vec 3 Nat) × ((List (Vec 3 Nat)) × ((List (Int × ((Vec 3 Nat) × (Int × (Int × Unit))))) × Unit)))) × (Int × ((List (Int × (Int × Unit))) × (Int × Unit))))), ()))
  else none
noncomputable def impl_compiler_about (a0 : ((Int × ((Vec 3 Nat) × ((List (Vec 3 Nat)) × ((List (Int × ((Vec 3 Nat) × (Int × (Int × Unit))))) × Unit)))) × (Int × ((List (Int × (Int × Unit))) × (Int × Unit))))) (a1 : List UInt8) (a2 : Int) : Option ((Int × Unit) × (((Int × ((Vec 3 Nat) × ((List (Vec 3 Nat)) × ((List (Int × ((Vec 3 Nat) × (Int × (Int × Unit))))) × Unit)))) × (Int × ((List (Int × (Int × Unit))) × (Int × Unit)))) × Unit)) :=
  bif (sEq a1 ([114, 97, 116, 101])) then
    (impl_within a2 (1 : Int) (64 : Int)).bind fun y150 =>
    bif (! y150.1.1) then
      some (((2 : Int), ()), ((((a0.1.1, a0.1.2.1, a0.1.2.2.1, a0.1.2.2.2.1, a0.1.2.2.2.2), a0.2.1, a0.2.2.1, a0.2.2.2) : ((Int × ((Vec 3 Nat) × ((List (Vec 3 Nat)) × ((List (Int × ((Vec 3 Nat) × (Int × (Int × Unit))))) × Unit)))) × (Int × ((List (Int × (Int × Unit))) × (Int × Unit))))), ()))
    else
    bif (iLt 0 (lenI a0.1.2.2.2.1)) then
      some (((4 : Int), ()), ((((a0.1.1, a0.1.2.1, a0.1.2.2.1, a0.1.2.2.2.1, a0.1.2.2.2.2), a0.2.1, a0.2.2.1, a0.2.2.2) : ((Int × ((Vec 3 Nat) × ((List (Vec 3 Nat)) × ((List (Int × ((Vec 3 Nat) × (Int × (Int × Unit))))) × Unit)))) × (Int × ((List (Int × (Int × Unit))) × (Int × Unit))))), ()))
    else
    some (((0 : Int), ()), ((((a2, a0.1.2.1, a0.1.2.2.1, a0.1.2.2.2.1, a0.1.2.2.2.2), a0.2.1, a0.2.2.1, a0.2.2.2) : ((Int × ((Vec 3 Nat) × ((List (Vec 3 Nat)) × ((List (Int × ((Vec 3 Nat) × (Int × (Int × Unit))))) × Unit)))) × (Int × ((List (Int × (Int × Unit))) × (Int × Unit))))), ()))
  else
  bif (sEq a1 ([102, 105, 120])) then
    bif (iLt 400 a2) then
      some (((2 : Int), ()), ((((a0.1.1, a0.1.2.1, a0.1.2.2.1, a0.1.2.2.2.1, a0.1.2.2.2.2), a0.2.1, a0.2.2.1, a0.2.2.2) : ((Int × ((Vec 3 Nat) × ((List (Vec 3 Nat)) × ((List (Int × ((Vec 3 Nat) × (Int × (Int × Unit))))) × Unit)))) × (Int × ((List (Int × (Int × Unit))) × (Int × Unit))))), ()))
    else
    some (((0 : Int), ()), ((((a0.1.1, a0.1.2.1, a0.1.2.2.1, a0.1.2.2.2.1, a0.1.2.2.2.2), a2, a0.2.2.1, a0.2.2.2) : ((Int × ((Vec 3 Nat) × ((List (Vec 3 Nat)) × ((List (Int × ((Vec 3 Nat) × (Int × (Int × Unit))))) × Unit)))) × (Int × ((List (Int × (Int × Unit))) × (Int × Unit))))), ()))
  else
  bif (sEq a1 ([104, 111, 108, 100])) then
    (impl_compiler_addLeg (((a0.1.1, a0.1.2.1, a0.1.2.2.1, a0.1.2.2.2.1, a0.1.2.2.2.2), a0.2.1, a0.2.2.1, a0.2.2.2) : ((Int × ((Vec 3 Nat) × ((List (Vec 3 Nat)) × ((List (Int × ((Vec 3 Nat) × (Int × (Int × Unit))))) × Unit)))) × (Int × ((List (Int × (Int × Unit))) × (Int × Unit))))) ((0, 0, 0, ()) : (Vec 3 Nat)) a2).bind fun y156 =>
    some ((y156.1.1, ()), ((((y156.2.1.1.1, y156.2.1.1.2.1, y156.2.1.1.2.2.1, y156.2.1.1.2.2.2.1, y156.2.1.1.2.2.2.2), y156.2.1.2.1, y156.2.1.2.2.1, y156.2.1.2.2.2) : ((Int × ((Vec 3 Nat) × ((List (Vec 3 Nat)) × ((List (Int × ((Vec 3 Nat) × (Int × (Int × Unit))))) × Unit)))) × (Int × ((List (Int × (Int × Unit))) × (Int × Unit))))), ()))
  else
  bif (sEq a1 ([114, 97, 110, 103, 101])) then
    bif (iLe (lenI a0.1.2.2.1) a2) then
      some (((2 : Int), ()), ((((a0.1.1, a0.1.2.1, a0.1.2.2.1, a0.1.2.2.2.1, a0.1.2.2.2.2), a0.2.1, a0.2.2.1, a0.2.2.2) : ((Int × ((Vec 3 Nat) × ((List (Vec 3 Nat)) × ((List (Int × ((Vec 3 Nat) × (Int × (Int × Unit))))) × Unit)))) × (Int × ((List (Int × (Int × Unit))) × (Int × Unit))))), ()))
    else
    bif (iEq (lenI a0.1.2.2.2.1) 0) then
      some (((4 : Int), ()), ((((a0.1.1, a0.1.2.1, a0.1.2.2.1, a0.1.2.2.2.1, a0.1.2.2.2.2), a0.2.1, a0.2.2.1, a0.2.2.2) : ((Int × ((Vec 3 Nat) × ((List (Vec 3 Nat)) × ((List (Int × ((Vec 3 Nat) × (Int × (Int × Unit))))) × Unit)))) × (Int × ((List (Int × (Int × Unit))) × (Int × Unit))))), ()))
    else
    let x160 := iSub .i64 (lenI a0.1.2.2.2.1) 1
    bif inB x160 (List.length a0.1.2.2.2.1) then
      bif (iLe 0 (((((List.getD a0.1.2.2.2.1 x160.toNat ((0, (0, 0, 0, ()), 0, 0, ()) : (Int × ((Vec 3 Nat) × (Int × (Int × Unit)))))).2).2).2).1)) then
        some (((4 : Int), ()), ((((a0.1.1, a0.1.2.1, a0.1.2.2.1, a0.1.2.2.2.1, a0.1.2.2.2.2), a0.2.1, a0.2.2.1, a0.2.2.2) : ((Int × ((Vec 3 Nat) × ((List (Vec 3 Nat)) × ((List (Int × ((Vec 3 Nat) × (Int × (Int × Unit))))) × Unit)))) × (Int × ((List (Int × (Int × Unit))) × (Int × Unit))))), ()))
      else
      let x163 := iSub .i64 (lenI a0.1.2.2.2.1) 1
      bif inB x163 (List.length a0.1.2.2.2.1) then
        some (((0 : Int), ()), ((((a0.1.1, a0.1.2.1, a0.1.2.2.1, (List.set a0.1.2.2.2.1 x163.toNat (((List.getD a0.1.2.2.2.1 x163.toNat ((0, (0, 0, 0, ()), 0, 0, ()) : (Int × ((Vec 3 Nat) × (Int × (Int × Unit)))))).1, ((List.getD a0.1.2.2.2.1 x163.toNat ((0, (0, 0, 0, ()), 0, 0, ()) : (Int × ((Vec 3 Nat) × (Int × (Int × Unit)))))).2).1, (((List.getD a0.1.2.2.2.1 x163.toNat ((0, (0, 0, 0, ()), 0, 0, ()) : (Int × ((Vec 3 Nat) × (Int × (Int × Unit)))))).2).2).1, a2, ((((List.getD a0.1.2.2.2.1 x163.toNat ((0, (0, 0, 0, ()), 0, 0, ()) : (Int × ((Vec 3 Nat) × (Int × (Int × Unit)))))).2).2).2).2) : (Int × ((Vec 3 Nat) × (Int × (Int × Unit)))))), a0.1.2.2.2.2), a0.2.1, a0.2.2.1, a0.2.2.2) : ((Int × ((Vec 3 Nat) × ((List (Vec 3 Nat)) × ((List (Int × ((Vec 3 Nat) × (Int × (Int × Unit))))) × Unit)))) × (Int × ((List (Int × (Int × Unit))) × (Int × Unit))))), ()))
      else none
    else none
  else
  bif (sEq a1 ([114, 101, 112, 101, 97, 116])) then
    (impl_within a2 (1 : Int) (16 : Int)).bind fun y166 =>
    bif (! y166.1.1) then
      some (((2 : Int), ()), ((((a0.1.1, a0.1.2.1, a0.1.2.2.1, a0.1.2.2.2.1, a0.1.2.2.2.2), a0.2.1, a0.2.2.1, a0.2.2.2) : ((Int × ((Vec 3 Nat) × ((List (Vec 3 Nat)) × ((List (Int × ((Vec 3 Nat) × (Int × (Int × Unit))))) × Unit)))) × (Int × ((List (Int × (Int × Unit))) × (Int × Unit))))), ()))
    else
    bif (iEq (lenI a0.2.2.1) 3) then
      some (((3 : Int), ()), ((((a0.1.1, a0.1.2.1, a0.1.2.2.1, a0.1.2.2.2.1, a0.1.2.2.2.2), a0.2.1, a0.2.2.1, a0.2.2.2) : ((Int × ((Vec 3 Nat) × ((List (Vec 3 Nat)) × ((List (Int × ((Vec 3 Nat) × (Int × (Int × Unit))))) × Unit)))) × (Int × ((List (Int × (Int × Unit))) × (Int × Unit))))), ()))
    else
    bif room (List.length a0.2.2.1 + 1) 16 then
      some (((0 : Int), ()), ((((a0.1.1, a0.1.2.1, a0.1.2.2.1, a0.1.2.2.2.1, a0.1.2.2.2.2), a0.2.1, (a0.2.2.1 ++ ([(a0.2.2.2.1, (iSub .i64 a2 1), ())] : (List (Int × (Int × Unit))))), a0.2.2.2) : ((Int × ((Vec 3 Nat) × ((List (Vec 3 Nat)) × ((List (Int × ((Vec 3 Nat) × (Int × (Int × Unit))))) × Unit)))) × (Int × ((List (Int × (Int × Unit))) × (Int × Unit))))), ()))
    else none
  else
  some (((5 : Int), ()), ((((a0.1.1, a0.1.2.1, a0.1.2.2.1, a0.1.2.2.2.1, a0.1.2.2.2.2), a0.2.1, a0.2.2.1, a0.2.2.2) : ((Int × ((Vec 3 Nat) × ((List (Vec 3 Nat)) × ((List (Int × ((Vec 3 Nat) × (Int × (Int × Unit))))) × Unit)))) × (Int × ((List (Int × (Int × Unit))) × (Int × Unit))))), ()))
noncomputable def impl_compiler_end (a0 : ((Int × ((Vec 3 Nat) × ((List (Vec 3 Nat)) × ((List (Int × ((Vec 3 Nat) × (Int × (Int × Unit))))) × Unit)))) × (Int × ((List (Int × (Int × Unit))) × (Int × Unit))))) : Option ((Int × Unit) × (((Int × ((Vec 3 Nat) × ((List (Vec 3 Nat)) × ((List (Int × ((Vec 3 Nat) × (Int × (Int × Unit))))) × Unit)))) × (Int × ((List (Int × (Int × Unit))) × (Int × Unit)))) × Unit)) :=
  let x185 := iSub .i64 (lenI a0.2.2.1) 1
  bif (iLt x185 0) then
    some (((4 : Int), ()), ((((a0.1.1, a0.1.2.1, a0.1.2.2.1, a0.1.2.2.2.1, a0.1.2.2.2.2), a0.2.1, a0.2.2.1, a0.2.2.2) : ((Int × ((Vec 3 Nat) × ((List (Vec 3 Nat)) × ((List (Int × ((Vec 3 Nat) × (Int × (Int × Unit))))) × Unit)))) × (Int × ((List (Int × (Int × Unit))) × (Int × Unit))))), ()))
  else
  bif inB x185 (List.length a0.2.2.1) then
    bif (iLt 0 (((List.getD a0.2.2.1 x185.toNat ((0, 0, ()) : (Int × (Int × Unit)))).2).1)) then
      let w191 := List.set a0.2.2.1 x185.toNat (((List.getD a0.2.2.1 x185.toNat ((0, 0, ()) : (Int × (Int × Unit)))).1, (iSub .i64 (((List.getD a0.2.2.1 x185.toNat ((0, 0, ()) : (Int × (Int × Unit)))).2).1) 1), ((List.getD a0.2.2.1 x185.toNat ((0, 0, ()) : (Int × (Int × Unit)))).2).2) : (Int × (Int × Unit)))
      some (((0 : Int), ()), ((((a0.1.1, a0.1.2.1, a0.1.2.2.1, a0.1.2.2.2.1, a0.1.2.2.2.2), a0.2.1, w191, ((List.getD w191 x185.toNat ((0, 0, ()) : (Int × (Int × Unit)))).1), a0.2.2.2.2) : ((Int × ((Vec 3 Nat) × ((List (Vec 3 Nat)) × ((List (Int × ((Vec 3 Nat) × (Int × (Int × Unit))))) × Unit)))) × (Int × ((List (Int × (Int × Unit))) × (Int × Unit))))), ()))
    else
    bif inS 0 x185 (List.length a0.2.2.1) then
      some (((0 : Int), ()), ((((a0.1.1, a0.1.2.1, a0.1.2.2.1, a0.1.2.2.2.1, a0.1.2.2.2.2), a0.2.1, List.take x185.toNat (List.drop 0 a0.2.2.1), a0.2.2.2) : ((Int × ((Vec 3 Nat) × ((List (Vec 3 Nat)) × ((List (Int × ((Vec 3 Nat) × (Int × (Int × Unit))))) × Unit)))) × (Int × ((List (Int × (Int × Unit))) × (Int × Unit))))), ()))
    else none
  else none
noncomputable def impl_decimal_int64 (a0 : Int) : Option ((List UInt8 × Unit) × Unit) :=
  (strconv_FormatInt a0 (10 : Int)).bind fun y365 =>
  some ((y365.1.1, ()), ())
noncomputable def impl_whole (a0 : List UInt8) : Option ((Int × Bool × Unit) × Unit) :=
  (strconv_ParseInt a0 (10 : Int) (64 : Int)).bind fun y223 =>
  bif y223.1.2.1 then
    (impl_within y223.1.1 (0 : Int) (999999 : Int)).bind fun y224 =>
    bif y224.1.1 then
      (impl_decimal_int64 y223.1.1).bind fun y225 =>
      some ((y223.1.1, (sEq y225.1.1 a0), ()), ())
    else some ((y223.1.1, false, ()), ())
  else some ((y223.1.1, false, ()), ())
noncomputable def impl_ReadFraction (a0 : List UInt8) : Option ((Nat × Int × Unit) × Unit) :=
  (strings_Cut a0 ([47] : List UInt8)).bind fun y193 =>
  (strings_CutPrefix y193.1.1 ([45] : List UInt8)).bind fun y194 =>
  (impl_whole y194.1.1).bind fun y195 =>
  bif y194.1.2.1 then
    let x196 := iSub .i64 0 y195.1.1
    bif y193.1.2.2.1 then
      (impl_whole y193.1.2.1).bind fun y197 =>
      bif y195.1.2.1 then
        bif y197.1.2.1 then
          (impl_within y197.1.1 (2 : Int) (1024 : Int)).bind fun y198 =>
          bif y198.1.1 then
            bif (! (iEq (iAnd .i64 y197.1.1 (iSub .i64 y197.1.1 1)) 0)) then some (((0 : Nat), (5 : Int), ()), ()) else
            some (((fDiv .f32 (fOfInt .f32 x196) (fOfInt .f32 y197.1.1)), (0 : Int), ()), ())
          else some (((0 : Nat), (5 : Int), ()), ())
        else some (((0 : Nat), (5 : Int), ()), ())
      else some (((0 : Nat), (5 : Int), ()), ())
    else
    bif (! y195.1.2.1) then some (((0 : Nat), (5 : Int), ()), ()) else
    some (((fDiv .f32 (fOfInt .f32 x196) (fOfInt .f32 1)), (0 : Int), ()), ())
  else
  bif y193.1.2.2.1 then
    (impl_whole y193.1.2.1).bind fun y210 =>
    bif y195.1.2.1 then
      bif y210.1.2.1 then
        (impl_within y210.1.1 (2 : Int) (1024 : Int)).bind fun y211 =>
        bif y211.1.1 then
          bif (! (iEq (iAnd .i64 y210.1.1 (iSub .i64 y210.1.1 1)) 0)) then some (((0 : Nat), (5 : Int), ()), ()) else
          some (((fDiv .f32 (fOfInt .f32 y195.1.1) (fOfInt .f32 y210.1.1)), (0 : Int), ()), ())
        else some (((0 : Nat), (5 : Int), ()), ())
      else some (((0 : Nat), (5 : Int), ()), ())
    else some (((0 : Nat), (5 : Int), ()), ())
  else
  bif (! y195.1.2.1) then some (((0 : Nat), (5 : Int), ()), ()) else
  some (((fDiv .f32 (fOfInt .f32 y195.1.1) (fOfInt .f32 1)), (0 : Int), ()), ())
noncomputable def impl_compiler_compile (a0 : ((Int × ((Vec 3 Nat) × ((List (Vec 3 Nat)) × ((List (Int × ((Vec 3 Nat) × (Int × (Int × Unit))))) × Unit)))) × (Int × ((List (Int × (Int × Unit))) × (Int × Unit))))) (a1 : List UInt8) : Option ((Int × Unit) × (((Int × ((Vec 3 Nat) × ((List (Vec 3 Nat)) × ((List (Int × ((Vec 3 Nat) × (Int × (Int × Unit))))) × Unit)))) × (Int × ((List (Int × (Int × Unit))) × (Int × Unit)))) × Unit)) :=
  (strings_Split a1 ([32] : List UInt8)).bind fun y88 =>
  bif (sEq a1 ([101, 110, 100])) then
    (impl_compiler_end (((a0.1.1, a0.1.2.1, a0.1.2.2.1, a0.1.2.2.2.1, a0.1.2.2.2.2), a0.2.1, a0.2.2.1, a0.2.2.2) : ((Int × ((Vec 3 Nat) × ((List (Vec 3 Nat)) × ((List (Int × ((Vec 3 Nat) × (Int × (Int × Unit))))) × Unit)))) × (Int × ((List (Int × (Int × Unit))) × (Int × Unit)))))).bind fun y90 =>
    some ((y90.1.1, ()), ((((y90.2.1.1.1, y90.2.1.1.2.1, y90.2.1.1.2.2.1, y90.2.1.1.2.2.2.1, y90.2.1.1.2.2.2.2), y90.2.1.2.1, y90.2.1.2.2.1, y90.2.1.2.2.2) : ((Int × ((Vec 3 Nat) × ((List (Vec 3 Nat)) × ((List (Int × ((Vec 3 Nat) × (Int × (Int × Unit))))) × Unit)))) × (Int × ((List (Int × (Int × Unit))) × (Int × Unit))))), ()))
  else
  bif (iEq (lenI y88.1.1) 2) then
    bif inB 1 (List.length y88.1.1) then
      (impl_whole (List.getD y88.1.1 1 ([] : List UInt8))).bind fun y93 =>
      bif (! y93.1.2.1) then
        some (((5 : Int), ()), ((((a0.1.1, a0.1.2.1, a0.1.2.2.1, a0.1.2.2.2.1, a0.1.2.2.2.2), a0.2.1, a0.2.2.1, a0.2.2.2) : ((Int × ((Vec 3 Nat) × ((List (Vec 3 Nat)) × ((List (Int × ((Vec 3 Nat) × (Int × (Int × Unit))))) × Unit)))) × (Int × ((List (Int × (Int × Unit))) × (Int × Unit))))), ()))
      else
      bif inB 0 (List.length y88.1.1) then
        (impl_compiler_about (((a0.1.1, a0.1.2.1, a0.1.2.2.1, a0.1.2.2.2.1, a0.1.2.2.2.2), a0.2.1, a0.2.2.1, a0.2.2.2) : ((Int × ((Vec 3 Nat) × ((List (Vec 3 Nat)) × ((List (Int × ((Vec 3 Nat) × (Int × (Int × Unit))))) × Unit)))) × (Int × ((List (Int × (Int × Unit))) × (Int × Unit))))) (List.getD y88.1.1 0 ([] : List UInt8)) y93.1.1).bind fun y96 =>
        some ((y96.1.1, ()), ((((y96.2.1.1.1, y96.2.1.1.2.1, y96.2.1.1.2.2.1, y96.2.1.1.2.2.2.1, y96.2.1.1.2.2.2.2), y96.2.1.2.1, y96.2.1.2.2.1, y96.2.1.2.2.2) : ((Int × ((Vec 3 Nat) × ((List (Vec 3 Nat)) × ((List (Int × ((Vec 3 Nat) × (Int × (Int × Unit))))) × Unit)))) × (Int × ((List (Int × (Int × Unit))) × (Int × Unit))))), ()))
      else none
    else none
  else
  bif (iLt (lenI y88.1.1) 4) then
    some (((5 : Int), ()), ((((a0.1.1, a0.1.2.1, a0.1.2.2.1, a0.1.2.2.2.1, a0.1.2.2.2.2), a0.2.1, a0.2.2.1, a0.2.2.2) : ((Int × ((Vec 3 Nat) × ((List (Vec 3 Nat)) × ((List (Int × ((Vec 3 Nat) × (Int × (Int × Unit))))) × Unit)))) × (Int × ((List (Int × (Int × Unit))) × (Int × Unit))))), ()))
  else
  bif inB 1 (List.length y88.1.1) then
    (impl_ReadFraction (List.getD y88.1.1 1 ([] : List UInt8))).bind fun y99 =>
    bif (! (iEq y99.1.2.1 0)) then
      some (((5 : Int), ()), ((((a0.1.1, a0.1.2.1, a0.1.2.2.1, a0.1.2.2.2.1, a0.1.2.2.2.2), a0.2.1, a0.2.2.1, a0.2.2.2) : ((Int × ((Vec 3 Nat) × ((List (Vec 3 Nat)) × ((List (Int × ((Vec 3 Nat) × (Int × (Int × Unit))))) × Unit)))) × (Int × ((List (Int × (Int × Unit))) × (Int × Unit))))), ()))
    else
    bif inB 2 (List.length y88.1.1) then
      (impl_ReadFraction (List.getD y88.1.1 2 ([] : List UInt8))).bind fun y102 =>
      bif (! (iEq y102.1.2.1 0)) then
        some (((5 : Int), ()), ((((a0.1.1, a0.1.2.1, a0.1.2.2.1, a0.1.2.2.2.1, a0.1.2.2.2.2), a0.2.1, a0.2.2.1, a0.2.2.2) : ((Int × ((Vec 3 Nat) × ((List (Vec 3 Nat)) × ((List (Int × ((Vec 3 Nat) × (Int × (Int × Unit))))) × Unit)))) × (Int × ((List (Int × (Int × Unit))) × (Int × Unit))))), ()))
      else
      bif inB 3 (List.length y88.1.1) then
        (impl_ReadFraction (List.getD y88.1.1 3 ([] : List UInt8))).bind fun y105 =>
        bif (! (iEq y105.1.2.1 0)) then
          some (((5 : Int), ()), ((((a0.1.1, a0.1.2.1, a0.1.2.2.1, a0.1.2.2.2.1, a0.1.2.2.2.2), a0.2.1, a0.2.2.1, a0.2.2.2) : ((Int × ((Vec 3 Nat) × ((List (Vec 3 Nat)) × ((List (Int × ((Vec 3 Nat) × (Int × (Int × Unit))))) × Unit)))) × (Int × ((List (Int × (Int × Unit))) × (Int × Unit))))), ()))
        else
        bif inB 0 (List.length y88.1.1) then
          bif (sEq (List.getD y88.1.1 0 ([] : List UInt8)) ([115, 116, 97, 114, 116])) then
            bif (iEq (lenI y88.1.1) 4) then
              bif (iLt 0 (lenI a0.1.2.2.2.1)) then
                some (((4 : Int), ()), ((((a0.1.1, a0.1.2.1, a0.1.2.2.1, a0.1.2.2.2.1, a0.1.2.2.2.2), a0.2.1, a0.2.2.1, a0.2.2.2) : ((Int × ((Vec 3 Nat) × ((List (Vec 3 Nat)) × ((List (Int × ((Vec 3 Nat) × (Int × (Int × Unit))))) × Unit)))) × (Int × ((List (Int × (Int × Unit))) × (Int × Unit))))), ()))
              else
              some (((0 : Int), ()), ((((a0.1.1, (y99.1.1, y102.1.1, y105.1.1, ()), a0.1.2.2.1, a0.1.2.2.2.1, a0.1.2.2.2.2), a0.2.1, a0.2.2.1, a0.2.2.2) : ((Int × ((Vec 3 Nat) × ((List (Vec 3 Nat)) × ((List (Int × ((Vec 3 Nat) × (Int × (Int × Unit))))) × Unit)))) × (Int × ((List (Int × (Int × Unit))) × (Int × Unit))))), ()))
            else
            bif inB 0 (List.length y88.1.1) then
              bif (sEq (List.getD y88.1.1 0 ([] : List UInt8)) ([98, 101, 97, 99, 111, 110])) then
                bif (iEq (lenI y88.1.1) 4) then
                  bif (iEq (lenI a0.1.2.2.1) 6) then
                    some (((3 : Int), ()), ((((a0.1.1, a0.1.2.1, a0.1.2.2.1, a0.1.2.2.2.1, a0.1.2.2.2.2), a0.2.1, a0.2.2.1, a0.2.2.2) : ((Int × ((Vec 3 Nat) × ((List (Vec 3 Nat)) × ((List (Int × ((Vec 3 Nat) × (Int × (Int × Unit))))) × Unit)))) × (Int × ((List (Int × (Int × Unit))) × (Int × Unit))))), ()))
                  else
                  bif room (List.length a0.1.2.2.1 + 1) 12 then
                    some (((0 : Int), ()), ((((a0.1.1, a0.1.2.1, (a0.1.2.2.1 ++ ([(y99.1.1, y102.1.1, y105.1.1, ())] : (List (Vec 3 Nat)))), a0.1.2.2.2.1, a0.1.2.2.2.2), a0.2.1, a0.2.2.1, a0.2.2.2) : ((Int × ((Vec 3 Nat) × ((List (Vec 3 Nat)) × ((List (Int × ((Vec 3 Nat) × (Int × (Int × Unit))))) × Unit)))) × (Int × ((List (Int × (Int × Unit))) × (Int × Unit))))), ()))
                  else none
                else
                bif inB 0 (List.length y88.1.1) then
                  bif (sEq (List.getD y88.1.1 0 ([] : List UInt8)) ([109, 111, 118, 101])) then
                    bif (iEq (lenI y88.1.1) 5) then
                      bif inB 4 (List.length y88.1.1) then
                        (impl_whole (List.getD y88.1.1 4 ([] : List UInt8))).bind fun y120 =>
                        bif (! y120.1.2.1) then
                          some (((5 : Int), ()), ((((a0.1.1, a0.1.2.1, a0.1.2.2.1, a0.1.2.2.2.1, a0.1.2.2.2.2), a0.2.1, a0.2.2.1, a0.2.2.2) : ((Int × ((Vec 3 Nat) × ((List (Vec 3 Nat)) × ((List (Int × ((Vec 3 Nat) × (Int × (Int × Unit))))) × Unit)))) × (Int × ((List (Int × (Int × Unit))) × (Int × Unit))))), ()))
                        else
                        (impl_compiler_addLeg (((a0.1.1, a0.1.2.1, a0.1.2.2.1, a0.1.2.2.2.1, a0.1.2.2.2.2), a0.2.1, a0.2.2.1, a0.2.2.2) : ((Int × ((Vec 3 Nat) × ((List (Vec 3 Nat)) × ((List (Int × ((Vec 3 Nat) × (Int × (Int × Unit))))) × Unit)))) × (Int × ((List (Int × (Int × Unit))) × (Int × Unit))))) ((y99.1.1, y102.1.1, y105.1.1, ()) : (Vec 3 Nat)) y120.1.1).bind fun y122 =>
                        some ((y122.1.1, ()), ((((y122.2.1.1.1, y122.2.1.1.2.1, y122.2.1.1.2.2.1, y122.2.1.1.2.2.2.1, y122.2.1.1.2.2.2.2), y122.2.1.2.1, y122.2.1.2.2.1, y122.2.1.2.2.2) : ((Int × ((Vec 3 Nat) × ((List (Vec 3 Nat)) × ((List (Int × ((Vec 3 Nat) × (Int × (Int × Unit))))) × Unit)))) × (Int × ((List (Int × (Int × Unit))) × (Int × Unit))))), ()))
                      else none
                    else
                    some (((5 : Int), ()), ((((a0.1.1, a0.1.2.1, a0.1.2.2.1, a0.1.2.2.2.1, a0.1.2.2.2.2), a0.2.1, a0.2.2.1, a0.2.2.2) : ((Int × ((Vec 3 Nat) × ((List (Vec 3 Nat)) × ((List (Int × ((Vec 3 Nat) × (Int × (Int × Unit))))) × Unit)))) × (Int × ((List (Int × (Int × Unit))) × (Int × Unit))))), ()))
                  else
                  some (((5 : Int), ()), ((((a0.1.1, a0.1.2.1, a0.1.2.2.1, a0.1.2.2.2.1, a0.1.2.2.2.2), a0.2.1, a0.2.2.1, a0.2.2.2) : ((Int × ((Vec 3 Nat) × ((List (Vec 3 Nat)) × ((List (Int × ((Vec 3 Nat) × (Int × (Int × Unit))))) × Unit)))) × (Int × ((List (Int × (Int × Unit))) × (Int × Unit))))), ()))
                else none
              else
              bif inB 0 (List.length y88.1.1) then
                bif (sEq (List.getD y88.1.1 0 ([] : List UInt8)) ([109, 111, 118, 101])) then
                  bif (iEq (lenI y88.1.1) 5) then
                    bif inB 4 (List.length y88.1.1) then
                      (impl_whole (List.getD y88.1.1 4 ([] : List UInt8))).bind fun y127 =>
                      bif (! y127.1.2.1) then
                        some (((5 : Int), ()), ((((a0.1.1, a0.1.2.1, a0.1.2.2.1, a0.1.2.2.2.1, a0.1.2.2.2.2), a0.2.1, a0.2.2.1, a0.2.2.2) : ((Int × ((Vec 3 Nat) × ((List (Vec 3 Nat)) × ((List (Int × ((Vec 3 Nat) × (Int × (Int × Unit))))) × Unit)))) × (Int × ((List (Int × (Int × Unit))) × (Int × Unit))))), ()))
                      else
                      (impl_compiler_addLeg (((a0.1.1, a0.1.2.1, a0.1.2.2.1, a0.1.2.2.2.1, a0.1.2.2.2.2), a0.2.1, a0.2.2.1, a0.2.2.2) : ((Int × ((Vec 3 Nat) × ((List (Vec 3 Nat)) × ((List (Int × ((Vec 3 Nat) × (Int × (Int × Unit))))) × Unit)))) × (Int × ((List (Int × (Int × Unit))) × (Int × Unit))))) ((y99.1.1, y102.1.1, y105.1.1, ()) : (Vec 3 Nat)) y127.1.1).bind fun y129 =>
                      some ((y129.1.1, ()), ((((y129.2.1.1.1, y129.2.1.1.2.1, y129.2.1.1.2.2.1, y129.2.1.1.2.2.2.1, y129.2.1.1.2.2.2.2), y129.2.1.2.1, y129.2.1.2.2.1, y129.2.1.2.2.2) : ((Int × ((Vec 3 Nat) × ((List (Vec 3 Nat)) × ((List (Int × ((Vec 3 Nat) × (Int × (Int × Unit))))) × Unit)))) × (Int × ((List (Int × (Int × Unit))) × (Int × Unit))))), ()))
                    else none
                  else
                  some (((5 : Int), ()), ((((a0.1.1, a0.1.2.1, a0.1.2.2.1, a0.1.2.2.2.1, a0.1.2.2.2.2), a0.2.1, a0.2.2.1, a0.2.2.2) : ((Int × ((Vec 3 Nat) × ((List (Vec 3 Nat)) × ((List (Int × ((Vec 3 Nat) × (Int × (Int × Unit))))) × Unit)))) × (Int × ((List (Int × (Int × Unit))) × (Int × Unit))))), ()))
                else
                some (((5 : Int), ()), ((((a0.1.1, a0.1.2.1, a0.1.2.2.1, a0.1.2.2.2.1, a0.1.2.2.2.2), a0.2.1, a0.2.2.1, a0.2.2.2) : ((Int × ((Vec 3 Nat) × ((List (Vec 3 Nat)) × ((List (Int × ((Vec 3 Nat) × (Int × (Int × Unit))))) × Unit)))) × (Int × ((List (Int × (Int × Unit))) × (Int × Unit))))), ()))
              else none
            else none
          else
          bif inB 0 (List.length y88.1.1) then
            bif (sEq (List.getD y88.1.1 0 ([] : List UInt8)) ([98, 101, 97, 99, 111, 110])) then
              bif (iEq (lenI y88.1.1) 4) then
                bif (iEq (lenI a0.1.2.2.1) 6) then
                  some (((3 : Int), ()), ((((a0.1.1, a0.1.2.1, a0.1.2.2.1, a0.1.2.2.2.1, a0.1.2.2.2.2), a0.2.1, a0.2.2.1, a0.2.2.2) : ((Int × ((Vec 3 Nat) × ((List (Vec 3 Nat)) × ((List (Int × ((Vec 3 Nat) × (Int × (Int × Unit))))) × Unit)))) × (Int × ((List (Int × (Int × Unit))) × (Int × Unit))))), ()))
                else
                bif room (List.length a0.1.2.2.1 + 1) 12 then
                  some (((0 : Int), ()), ((((a0.1.1, a0.1.2.1, (a0.1.2.2.1 ++ ([(y99.1.1, y102.1.1, y105.1.1, ())] : (List (Vec 3 Nat)))), a0.1.2.2.2.1, a0.1.2.2.2.2), a0.2.1, a0.2.2.1, a0.2.2.2) : ((Int × ((Vec 3 Nat) × ((List (Vec 3 Nat)) × ((List (Int × ((Vec 3 Nat) × (Int × (Int × Unit))))) × Unit)))) × (Int × ((List (Int × (Int × Unit))) × (Int × Unit))))), ()))
                else none
              else
              bif inB 0 (List.length y88.1.1) then
                bif (sEq (List.getD y88.1.1 0 ([] : List UInt8)) ([109, 111, 118, 101])) then
                  bif (iEq (lenI y88.1.1) 5) then
                    bif inB 4 (List.length y88.1.1) then
                      (impl_whole (List.getD y88.1.1 4 ([] : List UInt8))).bind fun y139 =>
                      bif (! y139.1.2.1) then
                        some (((5 : Int), ()), ((((a0.1.1, a0.1.2.1, a0.1.2.2.1, a0.1.2.2.2.1, a0.1.2.2.2.2), a0.2.1, a0.2.2.1, a0.2.2.2) : ((Int × ((Vec 3 Nat) × ((List (Vec 3 Nat)) × ((List (Int × ((Vec 3 Nat) × (Int × (Int × Unit))))) × Unit)))) × (Int × ((List (Int × (Int × Unit))) × (Int × Unit))))), ()))
                      else
                      (impl_compiler_addLeg (((a0.1.1, a0.1.2.1, a0.1.2.2.1, a0.1.2.2.2.1, a0.1.2.2.2.2), a0.2.1, a0.2.2.1, a0.2.2.2) : ((Int × ((Vec 3 Nat) × ((List (Vec 3 Nat)) × ((List (Int × ((Vec 3 Nat) × (Int × (Int × Unit))))) × Unit)))) × (Int × ((List (Int × (Int × Unit))) × (Int × Unit))))) ((y99.1.1, y102.1.1, y105.1.1, ()) : (Vec 3 Nat)) y139.1.1).bind fun y141 =>
                      some ((y141.1.1, ()), ((((y141.2.1.1.1, y141.2.1.1.2.1, y141.2.1.1.2.2.1, y141.2.1.1.2.2.2.1, y141.2.1.1.2.2.2.2), y141.2.1.2.1, y141.2.1.2.2.1, y141.2.1.2.2.2) : ((Int × ((Vec 3 Nat) × ((List (Vec 3 Nat)) × ((List (Int × ((Vec 3 Nat) × (Int × (Int × Unit))))) × Unit)))) × (Int × ((List (Int × (Int × Unit))) × (Int × Unit))))), ()))
                    else none
                  else
                  some (((5 : Int), ()), ((((a0.1.1, a0.1.2.1, a0.1.2.2.1, a0.1.2.2.2.1, a0.1.2.2.2.2), a0.2.1, a0.2.2.1, a0.2.2.2) : ((Int × ((Vec 3 Nat) × ((List (Vec 3 Nat)) × ((List (Int × ((Vec 3 Nat) × (Int × (Int × Unit))))) × Unit)))) × (Int × ((List (Int × (Int × Unit))) × (Int × Unit))))), ()))
                else
                some (((5 : Int), ()), ((((a0.1.1, a0.1.2.1, a0.1.2.2.1, a0.1.2.2.2.1, a0.1.2.2.2.2), a0.2.1, a0.2.2.1, a0.2.2.2) : ((Int × ((Vec 3 Nat) × ((List (Vec 3 Nat)) × ((List (Int × ((Vec 3 Nat) × (Int × (Int × Unit))))) × Unit)))) × (Int × ((List (Int × (Int × Unit))) × (Int × Unit))))), ()))
              else none
            else
            bif inB 0 (List.length y88.1.1) then
              bif (sEq (List.getD y88.1.1 0 ([] : List UInt8)) ([109, 111, 118, 101])) then
                bif (iEq (lenI y88.1.1) 5) then
                  bif inB 4 (List.length y88.1.1) then
                    (impl_whole (List.getD y88.1.1 4 ([] : List UInt8))).bind fun y146 =>
                    bif (! y146.1.2.1) then
                      some (((5 : Int), ()), ((((a0.1.1, a0.1.2.1, a0.1.2.2.1, a0.1.2.2.2.1, a0.1.2.2.2.2), a0.2.1, a0.2.2.1, a0.2.2.2) : ((Int × ((Vec 3 Nat) × ((List (Vec 3 Nat)) × ((List (Int × ((Vec 3 Nat) × (Int × (Int × Unit))))) × Unit)))) × (Int × ((List (Int × (Int × Unit))) × (Int × Unit))))), ()))
                    else
                    (impl_compiler_addLeg (((a0.1.1, a0.1.2.1, a0.1.2.2.1, a0.1.2.2.2.1, a0.1.2.2.2.2), a0.2.1, a0.2.2.1, a0.2.2.2) : ((Int × ((Vec 3 Nat) × ((List (Vec 3 Nat)) × ((List (Int × ((Vec 3 Nat) × (Int × (Int × Unit))))) × Unit)))) × (Int × ((List (Int × (Int × Unit))) × (Int × Unit))))) ((y99.1.1, y102.1.1, y105.1.1, ()) : (Vec 3 Nat)) y146.1.1).bind fun y148 =>
                    some ((y148.1.1, ()), ((((y148.2.1.1.1, y148.2.1.1.2.1, y148.2.1.1.2.2.1, y148.2.1.1.2.2.2.1, y148.2.1.1.2.2.2.2), y148.2.1.2.1, y148.2.1.2.2.1, y148.2.1.2.2.2) : ((Int × ((Vec 3 Nat) × ((List (Vec 3 Nat)) × ((List (Int × ((Vec 3 Nat) × (Int × (Int × Unit))))) × Unit)))) × (Int × ((List (Int × (Int × Unit))) × (Int × Unit))))), ()))
                  else none
                else
                some (((5 : Int), ()), ((((a0.1.1, a0.1.2.1, a0.1.2.2.1, a0.1.2.2.2.1, a0.1.2.2.2.2), a0.2.1, a0.2.2.1, a0.2.2.2) : ((Int × ((Vec 3 Nat) × ((List (Vec 3 Nat)) × ((List (Int × ((Vec 3 Nat) × (Int × (Int × Unit))))) × Unit)))) × (Int × ((List (Int × (Int × Unit))) × (Int × Unit))))), ()))
              else
              some (((5 : Int), ()), ((((a0.1.1, a0.1.2.1, a0.1.2.2.1, a0.1.2.2.2.1, a0.1.2.2.2.2), a0.2.1, a0.2.2.1, a0.2.2.2) : ((Int × ((Vec 3 Nat) × ((List (Vec 3 Nat)) × ((List (Int × ((Vec 3 Nat) × (Int × (Int × Unit))))) × Unit)))) × (Int × ((List (Int × (Int × Unit))) × (Int × Unit))))), ()))
            else none
          else none
        else none
      else none
    else none
  else none
noncomputable def impl_textLines (a0 : List UInt8) : Option (((List (List UInt8)) × Unit) × Unit) :=
  (strings_Split a0 ([10] : List UInt8)).bind fun y228 =>
  let x229 := iSub .i64 (lenI y228.1.1) 1
  bif inB x229 (List.length y228.1.1) then
    bif (sEq (List.getD y228.1.1 x229.toNat ([] : List UInt8)) ([])) then
      bif inS 0 x229 (List.length y228.1.1) then some ((List.take x229.toNat (List.drop 0 y228.1.1), ()), ()) else none
    else some ((y228.1.1, ()), ())
  else none
noncomputable def impl_CompileMission_l5 (y73 : (((List (List UInt8)) × Unit) × Unit)) (s81 : (((Int × ((Vec 3 Nat) × ((List (Vec 3 Nat)) × ((List (Int × ((Vec 3 Nat) × (Int × (Int × Unit))))) × Unit)))) × (Int × ((List (Int × (Int × Unit))) × (Int × Unit)))) × Unit)) : Option ((((Int × ((Vec 3 Nat) × ((List (Vec 3 Nat)) × ((List (Int × ((Vec 3 Nat) × (Int × (Int × Unit))))) × Unit)))) × (Int × ((List (Int × (Int × Unit))) × (Int × Unit)))) × Unit) ⊕ (((Int × ((Vec 3 Nat) × ((List (Vec 3 Nat)) × ((List (Int × ((Vec 3 Nat) × (Int × (Int × Unit))))) × Unit)))) × Int × Int × Unit) × Unit)) :=
  bif (iLt s81.1.2.2.2.1 (lenI y73.1.1)) then
    bif inB s81.1.2.2.2.1 (List.length y73.1.1) then
      (impl_compiler_compile (((s81.1.1.1, s81.1.1.2.1, s81.1.1.2.2.1, s81.1.1.2.2.2.1, s81.1.1.2.2.2.2), s81.1.2.1, s81.1.2.2.1, (iAdd .i64 s81.1.2.2.2.1 1), s81.1.2.2.2.2) : ((Int × ((Vec 3 Nat) × ((List (Vec 3 Nat)) × ((List (Int × ((Vec 3 Nat) × (Int × (Int × Unit))))) × Unit)))) × (Int × ((List (Int × (Int × Unit))) × (Int × Unit))))) (List.getD y73.1.1 s81.1.2.2.2.1.toNat ([] : List UInt8))).bind fun y85 =>
      bif (! (iEq y85.1.1 0)) then
        Option.map Sum.inr (some ((((0, (0, 0, 0, ()), [], [], ()) : (Int × ((Vec 3 Nat) × ((List (Vec 3 Nat)) × ((List (Int × ((Vec 3 Nat) × (Int × (Int × Unit))))) × Unit))))), s81.1.2.2.2.1, y85.1.1, ()), ()))
      else
      some (Sum.inl ((((y85.2.1.1.1, y85.2.1.1.2.1, y85.2.1.1.2.2.1, y85.2.1.1.2.2.2.1, y85.2.1.1.2.2.2.2), y85.2.1.2.1, y85.2.1.2.2.1, y85.2.1.2.2.2) : ((Int × ((Vec 3 Nat) × ((List (Vec 3 Nat)) × ((List (Int × ((Vec 3 Nat) × (Int × (Int × Unit))))) × Unit)))) × (Int × ((List (Int × (Int × Unit))) × (Int × Unit))))), ()))
    else none
  else
  Option.map Sum.inr (
    bif (iLt 0 (lenI s81.1.2.2.1)) then some ((((0, (0, 0, 0, ()), [], [], ()) : (Int × ((Vec 3 Nat) × ((List (Vec 3 Nat)) × ((List (Int × ((Vec 3 Nat) × (Int × (Int × Unit))))) × Unit))))), lenI y73.1.1, (4 : Int), ()), ()) else
    some ((((s81.1.1.1, s81.1.1.2.1, s81.1.1.2.2.1, s81.1.1.2.2.2.1, s81.1.1.2.2.2.2) : (Int × ((Vec 3 Nat) × ((List (Vec 3 Nat)) × ((List (Int × ((Vec 3 Nat) × (Int × (Int × Unit))))) × Unit))))), (0 : Int), (0 : Int), ()), ()))
noncomputable def impl_CompileMission (a0 : List UInt8) : Option (((Int × ((Vec 3 Nat) × ((List (Vec 3 Nat)) × ((List (Int × ((Vec 3 Nat) × (Int × (Int × Unit))))) × Unit)))) × Int × Int × Unit) × Unit) :=
  (impl_textLines a0).bind fun y73 =>
  bif (iLt 4000 (lenI a0)) then some ((((0, (0, 0, 0, ()), [], [], ()) : (Int × ((Vec 3 Nat) × ((List (Vec 3 Nat)) × ((List (Int × ((Vec 3 Nat) × (Int × (Int × Unit))))) × Unit))))), (0 : Int), (2 : Int), ()), ()) else
  bif (iLt 200 (lenI y73.1.1)) then some ((((0, (0, 0, 0, ()), [], [], ()) : (Int × ((Vec 3 Nat) × ((List (Vec 3 Nat)) × ((List (Int × ((Vec 3 Nat) × (Int × (Int × Unit))))) × Unit))))), (0 : Int), (2 : Int), ()), ()) else
  run (impl_CompileMission_l5 y73) ((((8, (0, 0, 0, ()), [], [], ()), 0, [], 0, ()) : ((Int × ((Vec 3 Nat) × ((List (Vec 3 Nat)) × ((List (Int × ((Vec 3 Nat) × (Int × (Int × Unit))))) × Unit)))) × (Int × ((List (Int × (Int × Unit))) × (Int × Unit))))), ())
noncomputable def impl_ShakeCounts (a0 : (Vec 3 Int)) (a1 : Int) (a2 : Int) : Option (((Vec 3 Int) × Int × Int × Unit) × Unit) :=
  bif (iLt a2 0) then some ((((0, 0, 0, ()) : (Vec 3 Int)), (0 : Int), (2 : Int), ()), ()) else
  let x1305 := iAdd .u32 (iMul .u32 1664525 a1) 1013904223
  let x1310 := iAdd .i64 (iMul .i64 2 (iWrap .i64 a2)) 1
  bif iEq x1310 0 then none else
  let x1319 := iWrap .i16 (iMin 32767 (iMax (-32768 : Int) (iAdd .i64 (iWrap .i64 (Vec.getD 3 a0 0 (0 : Int))) (iSub .i64 (iRem .i64 (iWrap .i64 (iShr .u32 x1305 16)) x1310) (iWrap .i64 a2)))))
  let x1321 := iAdd .u32 (iMul .u32 1664525 x1305) 1013904223
  let x1326 := iAdd .i64 (iMul .i64 2 (iWrap .i64 a2)) 1
  bif iEq x1326 0 then none else
  let x1335 := iWrap .i16 (iMin 32767 (iMax (-32768 : Int) (iAdd .i64 (iWrap .i64 (Vec.getD 3 (Vec.set 3 a0 0 x1319) 1 (0 : Int))) (iSub .i64 (iRem .i64 (iWrap .i64 (iShr .u32 x1321 16)) x1326) (iWrap .i64 a2)))))
  let x1337 := iAdd .u32 (iMul .u32 1664525 x1321) 1013904223
  let x1342 := iAdd .i64 (iMul .i64 2 (iWrap .i64 a2)) 1
  bif iEq x1342 0 then none else
  some (((Vec.set 3 (Vec.set 3 (Vec.set 3 a0 0 x1319) 1 x1335) 2 (iWrap .i16 (iMin 32767 (iMax (-32768 : Int) (iAdd .i64 (iWrap .i64 (Vec.getD 3 (Vec.set 3 (Vec.set 3 a0 0 x1319) 1 x1335) 2 (0 : Int))) (iSub .i64 (iRem .i64 (iWrap .i64 (iShr .u32 x1337 16)) x1342) (iWrap .i64 a2))))))), x1337, (0 : Int), ()), ())
noncomputable def impl_ToCount (a0 : Nat) : Option ((Int × Unit) × Unit) :=
  (impl_isNaN a0).bind fun y1455 =>
  bif y1455.1.1 then some (((0 : Int), ()), ()) else
  (fConv .f32 .f64 a0).bind fun y1456 =>
  (math_RoundToEven y1456).bind fun y1457 =>
  (fToInt .f64 (fMin .f64 4674736138332667904 (fMax .f64 13898108450065350656 y1457.1.1)) .i16).bind fun n1460 =>
  some ((n1460, ()), ())
noncomputable def impl_countsOf (a0 : ((Vec 3 Nat) × ((Vec 3 Nat) × (Int × (Int × Unit))))) (a1 : (Vec 3 Nat)) : Option (((Vec 3 Int) × Unit) × Unit) :=
  (impl_ToCount (fDiv .f32 (fSub .f32 (Vec.getD 3 a1 0 (0 : Nat)) (Vec.getD 3 a0.2.1 0 (0 : Nat))) (Vec.getD 3 a0.1 0 (0 : Nat)))).bind fun y1442 =>
  (impl_ToCount (fDiv .f32 (fSub .f32 (Vec.getD 3 a1 1 (0 : Nat)) (Vec.getD 3 a0.2.1 1 (0 : Nat))) (Vec.getD 3 a0.1 1 (0 : Nat)))).bind fun y1448 =>
  (impl_ToCount (fDiv .f32 (fSub .f32 (Vec.getD 3 a1 2 (0 : Nat)) (Vec.getD 3 a0.2.1 2 (0 : Nat))) (Vec.getD 3 a0.1 2 (0 : Nat)))).bind fun y1454 =>
  some ((((y1442.1.1, y1448.1.1, y1454.1.1, ()) : (Vec 3 Int)), ()), ())
noncomputable def spec_ReadFraction (s : List UInt8) : Option ((Nat × Int × Unit) × Unit) :=
  (spec_l08Fraction s).bind fun y =>
  bif (! y.1.2.1) then some (((0 : Nat), (5 : Int), ()), ()) else some ((y.1.1, (0 : Int), ()), ())
end Go.Proofs.YtildomllnnnofaaGreat
