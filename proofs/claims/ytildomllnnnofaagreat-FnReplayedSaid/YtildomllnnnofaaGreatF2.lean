import Derived.Test.YtildomllnnnofaaGreatF1
/- Functions on typed data: what the evaluation of each Go function is, and that it is sound. -/
namespace Go.Proofs.YtildomllnnnofaaGreat
open Go Go.Tm
noncomputable section
set_option linter.unusedVariables false
set_option maxRecDepth 100000
variable {G : List (Nat × Obj)}
def spec_l08Work_seen (a0 : Dq1) (a1 : Int) : Option ((Int × Unit) × (Dq1 × Unit)) :=
  bif (iLe (lenI a0.1.2.2.1) a1) then
    some (((2 : Int), ()), ((((a0.1.1, a0.1.2.1, a0.1.2.2.1, a0.1.2.2.2.1, a0.1.2.2.2.2), a0.2.1, a0.2.2.1, a0.2.2.2.1, a0.2.2.2.2.1, a0.2.2.2.2.2) : Dq1), ()))
  else
  let x1350 := iSub .i64 (lenI a0.1.2.2.2.1) 1
  bif (iLt x1350 0) then
    some (((4 : Int), ()), ((((a0.1.1, a0.1.2.1, a0.1.2.2.1, a0.1.2.2.2.1, a0.1.2.2.2.2), a0.2.1, a0.2.2.1, a0.2.2.2.1, a0.2.2.2.2.1, a0.2.2.2.2.2) : Dq1), ()))
  else
  bif inB x1350 (List.length a0.1.2.2.2.1) then
    bif (iLe 0 (((((List.getD a0.1.2.2.2.1 x1350.toNat ((0, (0, 0, 0, ()), 0, 0, ()) : (Int × Dq10))).2).2).2).1)) then
      some (((4 : Int), ()), ((((a0.1.1, a0.1.2.1, a0.1.2.2.1, a0.1.2.2.2.1, a0.1.2.2.2.2), a0.2.1, a0.2.2.1, a0.2.2.2.1, a0.2.2.2.2.1, a0.2.2.2.2.2) : Dq1), ()))
    else
    bif inB x1350 (List.length a0.1.2.2.2.1) then
      some (((0 : Int), ()), ((((a0.1.1, a0.1.2.1, a0.1.2.2.1, (List.set a0.1.2.2.2.1 x1350.toNat (((List.getD a0.1.2.2.2.1 x1350.toNat ((0, (0, 0, 0, ()), 0, 0, ()) : (Int × Dq10))).1, ((List.getD a0.1.2.2.2.1 x1350.toNat ((0, (0, 0, 0, ()), 0, 0, ()) : (Int × Dq10))).2).1, (((List.getD a0.1.2.2.2.1 x1350.toNat ((0, (0, 0, 0, ()), 0, 0, ()) : (Int × Dq10))).2).2).1, a1, ((((List.getD a0.1.2.2.2.1 x1350.toNat ((0, (0, 0, 0, ()), 0, 0, ()) : (Int × Dq10))).2).2).2).2) : (Int × Dq10))), a0.1.2.2.2.2), a0.2.1, a0.2.2.1, a0.2.2.2.1, a0.2.2.2.2.1, a0.2.2.2.2.2) : Dq1), ()))
    else none
  else none
def spec_l08Work_seen_en : Entry := ⟨⟨[.io (.pair (.pair (.val (.int .i64)) (.pair (.val (.arr 3 (.flt .f32))) (.pair (.rows (.arr 3 (.flt .f32))) (.pair (.rows Uq7) (.val (.unit)))))) (.pair (.val (.int .i64)) (.pair (.val (.int .i64)) (.pair (.rows (.int .i64)) (.pair (.rows (.int .i64)) (.val (.unit))))))), .v (.int .i64)], [.v (.val (.int .i64))], false⟩, fun x => spec_l08Work_seen x.1 x.2.1⟩
theorem qjk : Sound Tryz.prog G 212 spec_l08Work_seen_en := qab (envS (l := []) trivial) [] Tryz.func212 (by kernel_rfl) rfl fun _ => by kernel_rfl
def spec_l08Work_one (a0 : Dq1) (a1 : List UInt8) (a2 : Int) (a3 : Int) : Option ((Int × Unit) × (Dq1 × Unit)) :=
  bif (sEq a1 ([114, 97, 116, 101])) then
    (spec_l00In a2 (1 : Int) (64 : Int)).bind fun y1324 =>
    bif (! y1324.1.1) then
      some (((2 : Int), ()), ((((a0.1.1, a0.1.2.1, a0.1.2.2.1, a0.1.2.2.2.1, a0.1.2.2.2.2), a0.2.1, a0.2.2.1, a0.2.2.2.1, a0.2.2.2.2.1, a0.2.2.2.2.2) : Dq1), ()))
    else
    bif (iLt 0 (lenI a0.1.2.2.2.1)) then
      some (((4 : Int), ()), ((((a0.1.1, a0.1.2.1, a0.1.2.2.1, a0.1.2.2.2.1, a0.1.2.2.2.2), a0.2.1, a0.2.2.1, a0.2.2.2.1, a0.2.2.2.2.1, a0.2.2.2.2.2) : Dq1), ()))
    else
    some (((0 : Int), ()), ((((a2, a0.1.2.1, a0.1.2.2.1, a0.1.2.2.2.1, a0.1.2.2.2.2), a0.2.1, a0.2.2.1, a0.2.2.2.1, a0.2.2.2.2.1, a0.2.2.2.2.2) : Dq1), ()))
  else
  bif (sEq a1 ([102, 105, 120])) then
    bif (iLt 400 a2) then
      some (((2 : Int), ()), ((((a0.1.1, a0.1.2.1, a0.1.2.2.1, a0.1.2.2.2.1, a0.1.2.2.2.2), a0.2.1, a0.2.2.1, a0.2.2.2.1, a0.2.2.2.2.1, a0.2.2.2.2.2) : Dq1), ()))
    else
    some (((0 : Int), ()), ((((a0.1.1, a0.1.2.1, a0.1.2.2.1, a0.1.2.2.2.1, a0.1.2.2.2.2), a2, a0.2.2.1, a0.2.2.2.1, a0.2.2.2.2.1, a0.2.2.2.2.2) : Dq1), ()))
  else
  bif (sEq a1 ([104, 111, 108, 100])) then
    (spec_l08Work_leg (((a0.1.1, a0.1.2.1, a0.1.2.2.1, a0.1.2.2.2.1, a0.1.2.2.2.2), a0.2.1, a0.2.2.1, a0.2.2.2.1, a0.2.2.2.2.1, a0.2.2.2.2.2) : Dq1) ((0, 0, 0, ()) : (Vec 3 Nat)) a2).bind fun y1330 =>
    some ((y1330.1.1, ()), ((((y1330.2.1.1.1, y1330.2.1.1.2.1, y1330.2.1.1.2.2.1, y1330.2.1.1.2.2.2.1, y1330.2.1.1.2.2.2.2), y1330.2.1.2.1, y1330.2.1.2.2.1, y1330.2.1.2.2.2.1, y1330.2.1.2.2.2.2.1, y1330.2.1.2.2.2.2.2) : Dq1), ()))
  else
  bif (sEq a1 ([114, 97, 110, 103, 101])) then
    (spec_l08Work_seen (((a0.1.1, a0.1.2.1, a0.1.2.2.1, a0.1.2.2.2.1, a0.1.2.2.2.2), a0.2.1, a0.2.2.1, a0.2.2.2.1, a0.2.2.2.2.1, a0.2.2.2.2.2) : Dq1) a2).bind fun y1332 =>
    some ((y1332.1.1, ()), ((((y1332.2.1.1.1, y1332.2.1.1.2.1, y1332.2.1.1.2.2.1, y1332.2.1.1.2.2.2.1, y1332.2.1.1.2.2.2.2), y1332.2.1.2.1, y1332.2.1.2.2.1, y1332.2.1.2.2.2.1, y1332.2.1.2.2.2.2.1, y1332.2.1.2.2.2.2.2) : Dq1), ()))
  else
  (spec_l00In a2 (1 : Int) (16 : Int)).bind fun y1333 =>
  bif (! y1333.1.1) then
    some (((2 : Int), ()), ((((a0.1.1, a0.1.2.1, a0.1.2.2.1, a0.1.2.2.2.1, a0.1.2.2.2.2), a0.2.1, a0.2.2.1, a0.2.2.2.1, a0.2.2.2.2.1, a0.2.2.2.2.2) : Dq1), ()))
  else
  bif (iEq (lenI a0.2.2.2.1) 3) then
    some (((3 : Int), ()), ((((a0.1.1, a0.1.2.1, a0.1.2.2.1, a0.1.2.2.2.1, a0.1.2.2.2.2), a0.2.1, a0.2.2.1, a0.2.2.2.1, a0.2.2.2.2.1, a0.2.2.2.2.2) : Dq1), ()))
  else
  bif room (List.length a0.2.2.2.1 + 1) 8 then
    bif room (List.length a0.2.2.2.2.1 + 1) 8 then
      some (((0 : Int), ()), ((((a0.1.1, a0.1.2.1, a0.1.2.2.1, a0.1.2.2.2.1, a0.1.2.2.2.2), a0.2.1, a0.2.2.1, (a0.2.2.2.1 ++ ([(iAdd .i64 a3 1)] : (List Int))), (a0.2.2.2.2.1 ++ ([(iSub .i64 a2 1)] : (List Int))), a0.2.2.2.2.2) : Dq1), ()))
    else none
  else none
def spec_l08Work_one_en : Entry := ⟨⟨[.io (.pair (.pair (.val (.int .i64)) (.pair (.val (.arr 3 (.flt .f32))) (.pair (.rows (.arr 3 (.flt .f32))) (.pair (.rows Uq7) (.val (.unit)))))) (.pair (.val (.int .i64)) (.pair (.val (.int .i64)) (.pair (.rows (.int .i64)) (.pair (.rows (.int .i64)) (.val (.unit))))))), .v (.str), .v (.int .i64), .v (.int .i64)], [.v (.val (.int .i64))], false⟩, fun x => spec_l08Work_one x.1 x.2.1 x.2.2.1 x.2.2.2.1⟩
theorem qjw : Sound Tryz.prog G 201 spec_l08Work_one_en := qab (envS (l := [(120, spec_l00In_en), (211, spec_l08Work_leg_en), (212, spec_l08Work_seen_en)]) ⟨(qb9), (qe9), (qjk), trivial⟩) [] Tryz.func201 (by kernel_rfl) rfl fun _ => by kernel_rfl
def spec_l01Split_l4 (a0 : List UInt8) (a1 : Int) (s1454 : ((List (List UInt8)) × Int × Int × Unit)) : Option (((List (List UInt8)) × Int × Int × Unit) ⊕ Dq25) :=
  bif (iLt s1454.2.2.1 (lenI a0)) then
    bif inB s1454.2.2.1 (List.length a0) then
      bif (iEq (strAt a0 s1454.2.2.1) a1) then
        bif inS s1454.2.1 s1454.2.2.1 (List.length a0) then
          bif room (List.length s1454.1 + 1) 16 then
            some (Sum.inl ((s1454.1 ++ ([(subL a0 s1454.2.1 s1454.2.2.1)] : (List (List UInt8)))), (iAdd .i64 s1454.2.2.1 1), (iAdd .i64 s1454.2.2.1 1), ()))
          else none
        else none
      else
      some (Sum.inl (s1454.1, s1454.2.1, (iAdd .i64 s1454.2.2.1 1), ()))
    else none
  else
  Option.map Sum.inr (
    bif inS s1454.2.1 (lenI a0) (List.length a0) then
      bif room (List.length s1454.1 + 1) 16 then
        some (((s1454.1 ++ ([(dropL a0 s1454.2.1)] : (List (List UInt8)))), ()), ())
      else none
    else none)
def spec_l01Split (a0 : List UInt8) (a1 : Int) : Option Dq25 :=
  run (spec_l01Split_l4 a0 a1) (([] : (List (List UInt8))), (0 : Int), (0 : Int), ())
def spec_l01Split_en : Entry := ⟨⟨[.v (.str), .v (.int .u8)], [.v (.rows (.str))], false⟩, fun x => spec_l01Split x.1 x.2.1⟩
theorem qeg : Sound Tryz.prog G 167 spec_l01Split_en := qab (envS (l := []) trivial) [(4, .vary [(5, .rows (.str)), (6, .sc (.int .i64)), (7, .sc (.int .i64))])] Tryz.func167 (by kernel_rfl) rfl fun _ => by kernel_rfl
def spec_l01Number_l5 (a0 : List UInt8) (s1472 : (Int × Int × Unit)) : Option ((Int × Int × Unit) ⊕ ((Int × Bool × Unit) × Unit)) :=
  bif (iLt s1472.2.1 (lenI a0)) then
    bif inB s1472.2.1 (List.length a0) then
      bif (iLt (strAt a0 s1472.2.1) 48) then
        Option.map Sum.inr (some (((0 : Int), false, ()), ()))
      else
      bif inB s1472.2.1 (List.length a0) then
        bif (iLt 57 (strAt a0 s1472.2.1)) then
          Option.map Sum.inr (some (((0 : Int), false, ()), ()))
        else
        bif inB s1472.2.1 (List.length a0) then
          some (Sum.inl ((iAdd .i64 (iMul .i64 s1472.1 10) (iWrap .i64 (iSub .u8 (strAt a0 s1472.2.1) 48))), (iAdd .i64 s1472.2.1 1), ()))
        else none
      else none
    else none
  else
  Option.map Sum.inr (some ((s1472.1, true, ()), ()))
def spec_l01Number_l5_2 (a0 : List UInt8) (s1484 : (Int × Int × Unit)) : Option ((Int × Int × Unit) ⊕ ((Int × Bool × Unit) × Unit)) :=
  bif (iLt s1484.2.1 (lenI a0)) then
    bif inB s1484.2.1 (List.length a0) then
      bif (iLt (strAt a0 s1484.2.1) 48) then
        Option.map Sum.inr (some (((0 : Int), false, ()), ()))
      else
      bif inB s1484.2.1 (List.length a0) then
        bif (iLt 57 (strAt a0 s1484.2.1)) then
          Option.map Sum.inr (some (((0 : Int), false, ()), ()))
        else
        bif inB s1484.2.1 (List.length a0) then
          some (Sum.inl ((iAdd .i64 (iMul .i64 s1484.1 10) (iWrap .i64 (iSub .u8 (strAt a0 s1484.2.1) 48))), (iAdd .i64 s1484.2.1 1), ()))
        else none
      else none
    else none
  else
  Option.map Sum.inr (some ((s1484.1, true, ()), ()))
def spec_l01Number (a0 : List UInt8) : Option ((Int × Bool × Unit) × Unit) :=
  bif (iLt (lenI a0) 1) then some (((0 : Int), false, ()), ()) else
  bif (iLt 9 (lenI a0)) then some (((0 : Int), false, ()), ()) else
  bif inB 0 (List.length a0) then
    bif (iEq (strAt a0 0) 48) then
      bif (iLt 1 (lenI a0)) then some (((0 : Int), false, ()), ()) else run (spec_l01Number_l5 a0) ((0 : Int), (0 : Int), ())
    else run (spec_l01Number_l5_2 a0) ((0 : Int), (0 : Int), ())
  else none
def spec_l01Number_en : Entry := ⟨⟨[.v (.str)], [.v (.val (.int .i64)), .v (.val (.bool))], false⟩, fun x => spec_l01Number x.1⟩
theorem qls : Sound Tryz.prog G 210 spec_l01Number_en := qab (envS (l := []) trivial) [(5, .vary [(4, .sc (.int .i64)), (5, .sc (.int .i64))])] Tryz.func210 (by kernel_rfl) rfl fun _ => by kernel_rfl
def spec_l08Whole (a0 : List UInt8) : Option ((Int × Bool × Unit) × Unit) :=
  bif (iLt 6 (lenI a0)) then some (((0 : Int), false, ()), ()) else
  (spec_l01Number a0).bind fun y1466 =>
  some ((y1466.1.1, y1466.1.2.1, ()), ())
def spec_l08Whole_en : Entry := ⟨⟨[.v (.str)], [.v (.val (.int .i64)), .v (.val (.bool))], false⟩, fun x => spec_l08Whole x.1⟩
theorem qd6 : Sound Tryz.prog G 200 spec_l08Whole_en := qab (envS (l := [(210, spec_l01Number_en)]) ⟨(qls), trivial⟩) [] Tryz.func200 (by kernel_rfl) rfl fun _ => by kernel_rfl
def spec_l08Fraction (a0 : List UInt8) : Option ((Nat × Bool × Unit) × Unit) :=
  (spec_l01Split a0 (47 : Int)).bind fun y1394 =>
  bif inB 0 (List.length y1394.1.1) then
    let x1395 := List.getD y1394.1.1 0 ([] : List UInt8)
    bif (iLt 0 (lenI x1395)) then
      bif inB 0 (List.length x1395) then
        bif (iEq (strAt x1395 0) 45) then
          bif inS 1 (lenI x1395) (List.length x1395) then
            (spec_l08Whole (dropL x1395 1)).bind fun y1400 =>
            bif (! y1400.1.2.1) then some (((0 : Nat), false, ()), ()) else
            bif (iLt 2 (lenI y1394.1.1)) then some (((0 : Nat), false, ()), ()) else
            bif (iEq (lenI y1394.1.1) 1) then
              some (((fOfInt .f32 (iMul .i64 (-1 : Int) y1400.1.1)), true, ()), ())
            else
            bif inB 1 (List.length y1394.1.1) then
              (spec_l08Whole (List.getD y1394.1.1 1 ([] : List UInt8))).bind fun y1407 =>
              bif (! y1407.1.2.1) then some (((0 : Nat), false, ()), ()) else
              bif (iLt y1407.1.1 2) then some (((0 : Nat), false, ()), ()) else
              bif (iLt 1024 y1407.1.1) then some (((0 : Nat), false, ()), ()) else
              bif (! (iEq (iAnd .i64 y1407.1.1 (iSub .i64 y1407.1.1 1)) 0)) then some (((0 : Nat), false, ()), ()) else
              some (((fDiv .f32 (fOfInt .f32 (iMul .i64 (-1 : Int) y1400.1.1)) (fOfInt .f32 y1407.1.1)), true, ()), ())
            else none
          else none
        else
        (spec_l08Whole x1395).bind fun y1418 =>
        bif (! y1418.1.2.1) then some (((0 : Nat), false, ()), ()) else
        bif (iLt 2 (lenI y1394.1.1)) then some (((0 : Nat), false, ()), ()) else
        bif (iEq (lenI y1394.1.1) 1) then
          some (((fOfInt .f32 (iMul .i64 1 y1418.1.1)), true, ()), ())
        else
        bif inB 1 (List.length y1394.1.1) then
          (spec_l08Whole (List.getD y1394.1.1 1 ([] : List UInt8))).bind fun y1425 =>
          bif (! y1425.1.2.1) then some (((0 : Nat), false, ()), ()) else
          bif (iLt y1425.1.1 2) then some (((0 : Nat), false, ()), ()) else
          bif (iLt 1024 y1425.1.1) then some (((0 : Nat), false, ()), ()) else
          bif (! (iEq (iAnd .i64 y1425.1.1 (iSub .i64 y1425.1.1 1)) 0)) then some (((0 : Nat), false, ()), ()) else
          some (((fDiv .f32 (fOfInt .f32 (iMul .i64 1 y1418.1.1)) (fOfInt .f32 y1425.1.1)), true, ()), ())
        else none
      else none
    else
    (spec_l08Whole x1395).bind fun y1436 =>
    bif (! y1436.1.2.1) then some (((0 : Nat), false, ()), ()) else
    bif (iLt 2 (lenI y1394.1.1)) then some (((0 : Nat), false, ()), ()) else
    bif (iEq (lenI y1394.1.1) 1) then
      some (((fOfInt .f32 (iMul .i64 1 y1436.1.1)), true, ()), ())
    else
    bif inB 1 (List.length y1394.1.1) then
      (spec_l08Whole (List.getD y1394.1.1 1 ([] : List UInt8))).bind fun y1443 =>
      bif (! y1443.1.2.1) then some (((0 : Nat), false, ()), ()) else
      bif (iLt y1443.1.1 2) then some (((0 : Nat), false, ()), ()) else
      bif (iLt 1024 y1443.1.1) then some (((0 : Nat), false, ()), ()) else
      bif (! (iEq (iAnd .i64 y1443.1.1 (iSub .i64 y1443.1.1 1)) 0)) then some (((0 : Nat), false, ()), ()) else
      some (((fDiv .f32 (fOfInt .f32 (iMul .i64 1 y1436.1.1)) (fOfInt .f32 y1443.1.1)), true, ()), ())
    else none
  else none
def spec_l08Fraction_en : Entry := ⟨⟨[.v (.str)], [.v (.val (.flt .f32)), .v (.val (.bool))], false⟩, fun x => spec_l08Fraction x.1⟩
theorem qj0 : Sound Tryz.prog G 216 spec_l08Fraction_en := qab (envS (l := [(167, spec_l01Split_en), (200, spec_l08Whole_en)]) ⟨(qeg), (qd6), trivial⟩) [] Tryz.func216 (by kernel_rfl) rfl fun _ => by kernel_rfl
def spec_l08Vec (a0 : (List (List UInt8))) : Option (((Vec 3 Nat) × Bool × Unit) × Unit) :=
  bif inB 0 (List.length a0) then
    (spec_l08Fraction (List.getD a0 0 ([] : List UInt8))).bind fun y1386 =>
    bif (! y1386.1.2.1) then some ((((0, 0, 0, ()) : (Vec 3 Nat)), false, ()), ()) else
    bif inB 1 (List.length a0) then
      (spec_l08Fraction (List.getD a0 1 ([] : List UInt8))).bind fun y1389 =>
      bif (! y1389.1.2.1) then some ((((0, 0, 0, ()) : (Vec 3 Nat)), false, ()), ()) else
      bif inB 2 (List.length a0) then
        (spec_l08Fraction (List.getD a0 2 ([] : List UInt8))).bind fun y1392 =>
        bif (! y1392.1.2.1) then some ((((0, 0, 0, ()) : (Vec 3 Nat)), false, ()), ()) else some ((((y1386.1.1, y1389.1.1, y1392.1.1, ()) : (Vec 3 Nat)), true, ()), ())
      else none
    else none
  else none
def spec_l08Vec_en : Entry := ⟨⟨[.v (.list (.str))], [.v (.val (.arr 3 (.flt .f32))), .v (.val (.bool))], false⟩, fun x => spec_l08Vec x.1⟩
theorem qo8 : Sound Tryz.prog G 213 spec_l08Vec_en := qab (envS (l := [(216, spec_l08Fraction_en)]) ⟨(qj0), trivial⟩) [(3, .unroll 4)] Tryz.func213 (by kernel_rfl) rfl fun _ => by kernel_rfl
def spec_l08Work_three (a0 : Dq1) (a1 : (List (List UInt8))) : Option ((Int × Unit) × (Dq1 × Unit)) :=
  bif inB 0 (List.length a1) then
    bif (sEq (List.getD a1 0 ([] : List UInt8)) ([109, 111, 118, 101])) then
      bif (! (iEq (lenI a1) 5)) then
        some (((5 : Int), ()), ((((a0.1.1, a0.1.2.1, a0.1.2.2.1, a0.1.2.2.2.1, a0.1.2.2.2.2), a0.2.1, a0.2.2.1, a0.2.2.2.1, a0.2.2.2.2.1, a0.2.2.2.2.2) : Dq1), ()))
      else
      bif inS 1 (lenI a1) (List.length a1) then
        (spec_l08Vec (dropL a1 1)).bind fun y1359 =>
        bif (! y1359.1.2.1) then
          some (((5 : Int), ()), ((((a0.1.1, a0.1.2.1, a0.1.2.2.1, a0.1.2.2.2.1, a0.1.2.2.2.2), a0.2.1, a0.2.2.1, a0.2.2.2.1, a0.2.2.2.2.1, a0.2.2.2.2.2) : Dq1), ()))
        else
        bif inB 0 (List.length a1) then
          let x1361 := List.getD a1 0 ([] : List UInt8)
          bif (sEq x1361 ([115, 116, 97, 114, 116])) then
            bif (iLt 0 (lenI a0.1.2.2.2.1)) then
              some (((4 : Int), ()), ((((a0.1.1, a0.1.2.1, a0.1.2.2.1, a0.1.2.2.2.1, a0.1.2.2.2.2), a0.2.1, a0.2.2.1, a0.2.2.2.1, a0.2.2.2.2.1, a0.2.2.2.2.2) : Dq1), ()))
            else
            some (((0 : Int), ()), ((((a0.1.1, y1359.1.1, a0.1.2.2.1, a0.1.2.2.2.1, a0.1.2.2.2.2), a0.2.1, a0.2.2.1, a0.2.2.2.1, a0.2.2.2.2.1, a0.2.2.2.2.2) : Dq1), ()))
          else
          bif (sEq x1361 ([98, 101, 97, 99, 111, 110])) then
            bif (iEq (lenI a0.1.2.2.1) 6) then
              some (((3 : Int), ()), ((((a0.1.1, a0.1.2.1, a0.1.2.2.1, a0.1.2.2.2.1, a0.1.2.2.2.2), a0.2.1, a0.2.2.1, a0.2.2.2.1, a0.2.2.2.2.1, a0.2.2.2.2.2) : Dq1), ()))
            else
            bif room (List.length a0.1.2.2.1 + 1) 12 then
              some (((0 : Int), ()), ((((a0.1.1, a0.1.2.1, (a0.1.2.2.1 ++ ([y1359.1.1] : (List (Vec 3 Nat)))), a0.1.2.2.2.1, a0.1.2.2.2.2), a0.2.1, a0.2.2.1, a0.2.2.2.1, a0.2.2.2.2.1, a0.2.2.2.2.2) : Dq1), ()))
            else none
          else
          bif inB 4 (List.length a1) then
            (spec_l08Whole (List.getD a1 4 ([] : List UInt8))).bind fun y1368 =>
            bif (! y1368.1.2.1) then
              some (((5 : Int), ()), ((((a0.1.1, a0.1.2.1, a0.1.2.2.1, a0.1.2.2.2.1, a0.1.2.2.2.2), a0.2.1, a0.2.2.1, a0.2.2.2.1, a0.2.2.2.2.1, a0.2.2.2.2.2) : Dq1), ()))
            else
            (spec_l08Work_leg (((a0.1.1, a0.1.2.1, a0.1.2.2.1, a0.1.2.2.2.1, a0.1.2.2.2.2), a0.2.1, a0.2.2.1, a0.2.2.2.1, a0.2.2.2.2.1, a0.2.2.2.2.2) : Dq1) y1359.1.1 y1368.1.1).bind fun y1370 =>
            some ((y1370.1.1, ()), ((((y1370.2.1.1.1, y1370.2.1.1.2.1, y1370.2.1.1.2.2.1, y1370.2.1.1.2.2.2.1, y1370.2.1.1.2.2.2.2), y1370.2.1.2.1, y1370.2.1.2.2.1, y1370.2.1.2.2.2.1, y1370.2.1.2.2.2.2.1, y1370.2.1.2.2.2.2.2) : Dq1), ()))
          else none
        else none
      else none
    else
    bif (! (iEq (lenI a1) 4)) then
      some (((5 : Int), ()), ((((a0.1.1, a0.1.2.1, a0.1.2.2.1, a0.1.2.2.2.1, a0.1.2.2.2.2), a0.2.1, a0.2.2.1, a0.2.2.2.1, a0.2.2.2.2.1, a0.2.2.2.2.2) : Dq1), ()))
    else
    bif inS 1 (lenI a1) (List.length a1) then
      (spec_l08Vec (dropL a1 1)).bind fun y1373 =>
      bif (! y1373.1.2.1) then
        some (((5 : Int), ()), ((((a0.1.1, a0.1.2.1, a0.1.2.2.1, a0.1.2.2.2.1, a0.1.2.2.2.2), a0.2.1, a0.2.2.1, a0.2.2.2.1, a0.2.2.2.2.1, a0.2.2.2.2.2) : Dq1), ()))
      else
      bif inB 0 (List.length a1) then
        let x1375 := List.getD a1 0 ([] : List UInt8)
        bif (sEq x1375 ([115, 116, 97, 114, 116])) then
          bif (iLt 0 (lenI a0.1.2.2.2.1)) then
            some (((4 : Int), ()), ((((a0.1.1, a0.1.2.1, a0.1.2.2.1, a0.1.2.2.2.1, a0.1.2.2.2.2), a0.2.1, a0.2.2.1, a0.2.2.2.1, a0.2.2.2.2.1, a0.2.2.2.2.2) : Dq1), ()))
          else
          some (((0 : Int), ()), ((((a0.1.1, y1373.1.1, a0.1.2.2.1, a0.1.2.2.2.1, a0.1.2.2.2.2), a0.2.1, a0.2.2.1, a0.2.2.2.1, a0.2.2.2.2.1, a0.2.2.2.2.2) : Dq1), ()))
        else
        bif (sEq x1375 ([98, 101, 97, 99, 111, 110])) then
          bif (iEq (lenI a0.1.2.2.1) 6) then
            some (((3 : Int), ()), ((((a0.1.1, a0.1.2.1, a0.1.2.2.1, a0.1.2.2.2.1, a0.1.2.2.2.2), a0.2.1, a0.2.2.1, a0.2.2.2.1, a0.2.2.2.2.1, a0.2.2.2.2.2) : Dq1), ()))
          else
          bif room (List.length a0.1.2.2.1 + 1) 12 then
            some (((0 : Int), ()), ((((a0.1.1, a0.1.2.1, (a0.1.2.2.1 ++ ([y1373.1.1] : (List (Vec 3 Nat)))), a0.1.2.2.2.1, a0.1.2.2.2.2), a0.2.1, a0.2.2.1, a0.2.2.2.1, a0.2.2.2.2.1, a0.2.2.2.2.2) : Dq1), ()))
          else none
        else
        bif inB 4 (List.length a1) then
          (spec_l08Whole (List.getD a1 4 ([] : List UInt8))).bind fun y1382 =>
          bif (! y1382.1.2.1) then
            some (((5 : Int), ()), ((((a0.1.1, a0.1.2.1, a0.1.2.2.1, a0.1.2.2.2.1, a0.1.2.2.2.2), a0.2.1, a0.2.2.1, a0.2.2.2.1, a0.2.2.2.2.1, a0.2.2.2.2.2) : Dq1), ()))
          else
          (spec_l08Work_leg (((a0.1.1, a0.1.2.1, a0.1.2.2.1, a0.1.2.2.2.1, a0.1.2.2.2.2), a0.2.1, a0.2.2.1, a0.2.2.2.1, a0.2.2.2.2.1, a0.2.2.2.2.2) : Dq1) y1373.1.1 y1382.1.1).bind fun y1384 =>
          some ((y1384.1.1, ()), ((((y1384.2.1.1.1, y1384.2.1.1.2.1, y1384.2.1.1.2.2.1, y1384.2.1.1.2.2.2.1, y1384.2.1.1.2.2.2.2), y1384.2.1.2.1, y1384.2.1.2.2.1, y1384.2.1.2.2.2.1, y1384.2.1.2.2.2.2.1, y1384.2.1.2.2.2.2.2) : Dq1), ()))
        else none
      else none
    else none
  else none
def spec_l08Work_three_en : Entry := ⟨⟨[.io (.pair (.pair (.val (.int .i64)) (.pair (.val (.arr 3 (.flt .f32))) (.pair (.rows (.arr 3 (.flt .f32))) (.pair (.rows Uq7) (.val (.unit)))))) (.pair (.val (.int .i64)) (.pair (.val (.int .i64)) (.pair (.rows (.int .i64)) (.pair (.rows (.int .i64)) (.val (.unit))))))), .v (.list (.str))], [.v (.val (.int .i64))], false⟩, fun x => spec_l08Work_three x.1 x.2.1⟩
theorem qia : Sound Tryz.prog G 202 spec_l08Work_three_en := qab (envS (l := [(200, spec_l08Whole_en), (211, spec_l08Work_leg_en), (213, spec_l08Vec_en)]) ⟨(qd6), (qe9), (qo8), trivial⟩) [] Tryz.func202 (by kernel_rfl) rfl fun _ => by kernel_rfl
def spec_l08Work_line (a0 : Dq1) (a1 : List UInt8) (a2 : Int) : Option ((Int × Int × Unit) × (Dq1 × Unit)) :=
  (spec_l01Split a1 (32 : Int)).bind fun y1086 =>
  bif inB 0 (List.length y1086.1.1) then
    let x1087 := List.getD y1086.1.1 0 ([] : List UInt8)
    let x1088 := sEq x1087 ([114, 97, 116, 101])
    bif x1088 then
      bif x1088 then
        bif (! (iEq (lenI y1086.1.1) 2)) then
          some ((a2, (5 : Int), ()), ((((a0.1.1, a0.1.2.1, a0.1.2.2.1, a0.1.2.2.2.1, a0.1.2.2.2.2), a0.2.1, a0.2.2.1, a0.2.2.2.1, a0.2.2.2.2.1, a0.2.2.2.2.2) : Dq1), ()))
        else
        bif inB 1 (List.length y1086.1.1) then
          (spec_l08Whole (List.getD y1086.1.1 1 ([] : List UInt8))).bind fun y1091 =>
          bif (! y1091.1.2.1) then
            some ((a2, (5 : Int), ()), ((((a0.1.1, a0.1.2.1, a0.1.2.2.1, a0.1.2.2.2.1, a0.1.2.2.2.2), a0.2.1, a0.2.2.1, a0.2.2.2.1, a0.2.2.2.2.1, a0.2.2.2.2.2) : Dq1), ()))
          else
          bif inB 0 (List.length y1086.1.1) then
            (spec_l08Work_one (((a0.1.1, a0.1.2.1, a0.1.2.2.1, a0.1.2.2.2.1, a0.1.2.2.2.2), a0.2.1, a0.2.2.1, a0.2.2.2.1, a0.2.2.2.2.1, a0.2.2.2.2.2) : Dq1) (List.getD y1086.1.1 0 ([] : List UInt8)) y1091.1.1 a2).bind fun y1095 =>
            some (((iAdd .i64 a2 1), y1095.1.1, ()), ((((y1095.2.1.1.1, y1095.2.1.1.2.1, y1095.2.1.1.2.2.1, y1095.2.1.1.2.2.2.1, y1095.2.1.1.2.2.2.2), y1095.2.1.2.1, y1095.2.1.2.2.1, y1095.2.1.2.2.2.1, y1095.2.1.2.2.2.2.1, y1095.2.1.2.2.2.2.2) : Dq1), ()))
          else none
        else none
      else
      let x1096 := sEq x1087 ([115, 116, 97, 114, 116])
      bif x1096 then
        bif x1096 then
          (spec_l08Work_three (((a0.1.1, a0.1.2.1, a0.1.2.2.1, a0.1.2.2.2.1, a0.1.2.2.2.2), a0.2.1, a0.2.2.1, a0.2.2.2.1, a0.2.2.2.2.1, a0.2.2.2.2.2) : Dq1) y1086.1.1).bind fun y1098 =>
          some (((iAdd .i64 a2 1), y1098.1.1, ()), ((((y1098.2.1.1.1, y1098.2.1.1.2.1, y1098.2.1.1.2.2.1, y1098.2.1.1.2.2.2.1, y1098.2.1.1.2.2.2.2), y1098.2.1.2.1, y1098.2.1.2.2.1, y1098.2.1.2.2.2.1, y1098.2.1.2.2.2.2.1, y1098.2.1.2.2.2.2.2) : Dq1), ()))
        else
        bif (sEq x1087 ([101, 110, 100])) then
          bif (! (iEq (lenI y1086.1.1) 1)) then
            some ((a2, (5 : Int), ()), ((((a0.1.1, a0.1.2.1, a0.1.2.2.1, a0.1.2.2.2.1, a0.1.2.2.2.2), a0.2.1, a0.2.2.1, a0.2.2.2.1, a0.2.2.2.2.1, a0.2.2.2.2.2) : Dq1), ()))
          else
          let x1101 := iSub .i64 (lenI a0.2.2.2.1) 1
          bif (iLt x1101 0) then
            some ((a2, (4 : Int), ()), ((((a0.1.1, a0.1.2.1, a0.1.2.2.1, a0.1.2.2.2.1, a0.1.2.2.2.2), a0.2.1, a0.2.2.1, a0.2.2.2.1, a0.2.2.2.2.1, a0.2.2.2.2.2) : Dq1), ()))
          else
          bif inB x1101 (List.length a0.2.2.2.2.1) then
            bif (iLt 0 (List.getD a0.2.2.2.2.1 x1101.toNat (0 : Int))) then
              bif inB x1101 (List.length a0.2.2.2.2.1) then
                bif inB x1101 (List.length a0.2.2.2.2.1) then
                  bif inB x1101 (List.length a0.2.2.2.1) then
                    some (((List.getD a0.2.2.2.1 x1101.toNat (0 : Int)), (0 : Int), ()), ((((a0.1.1, a0.1.2.1, a0.1.2.2.1, a0.1.2.2.2.1, a0.1.2.2.2.2), a0.2.1, a0.2.2.1, a0.2.2.2.1, List.set a0.2.2.2.2.1 x1101.toNat (iSub .i64 (List.getD a0.2.2.2.2.1 x1101.toNat (0 : Int)) 1), a0.2.2.2.2.2) : Dq1), ()))
                  else none
                else none
              else none
            else
            bif inS 0 x1101 (List.length a0.2.2.2.1) then
              bif inS 0 x1101 (List.length a0.2.2.2.2.1) then
                some (((iAdd .i64 a2 1), (0 : Int), ()), ((((a0.1.1, a0.1.2.1, a0.1.2.2.1, a0.1.2.2.2.1, a0.1.2.2.2.2), a0.2.1, a0.2.2.1, List.take x1101.toNat (List.drop 0 a0.2.2.2.1), List.take x1101.toNat (List.drop 0 a0.2.2.2.2.1), a0.2.2.2.2.2) : Dq1), ()))
              else none
            else none
          else none
        else
        some ((a2, (5 : Int), ()), ((((a0.1.1, a0.1.2.1, a0.1.2.2.1, a0.1.2.2.2.1, a0.1.2.2.2.2), a0.2.1, a0.2.2.1, a0.2.2.2.1, a0.2.2.2.2.1, a0.2.2.2.2.2) : Dq1), ()))
      else
      let x1109 := sEq x1087 ([98, 101, 97, 99, 111, 110])
      bif x1109 then
        bif x1109 then
          (spec_l08Work_three (((a0.1.1, a0.1.2.1, a0.1.2.2.1, a0.1.2.2.2.1, a0.1.2.2.2.2), a0.2.1, a0.2.2.1, a0.2.2.2.1, a0.2.2.2.2.1, a0.2.2.2.2.2) : Dq1) y1086.1.1).bind fun y1111 =>
          some (((iAdd .i64 a2 1), y1111.1.1, ()), ((((y1111.2.1.1.1, y1111.2.1.1.2.1, y1111.2.1.1.2.2.1, y1111.2.1.1.2.2.2.1, y1111.2.1.1.2.2.2.2), y1111.2.1.2.1, y1111.2.1.2.2.1, y1111.2.1.2.2.2.1, y1111.2.1.2.2.2.2.1, y1111.2.1.2.2.2.2.2) : Dq1), ()))
        else
        bif (sEq x1087 ([101, 110, 100])) then
          bif (! (iEq (lenI y1086.1.1) 1)) then
            some ((a2, (5 : Int), ()), ((((a0.1.1, a0.1.2.1, a0.1.2.2.1, a0.1.2.2.2.1, a0.1.2.2.2.2), a0.2.1, a0.2.2.1, a0.2.2.2.1, a0.2.2.2.2.1, a0.2.2.2.2.2) : Dq1), ()))
          else
          let x1114 := iSub .i64 (lenI a0.2.2.2.1) 1
          bif (iLt x1114 0) then
            some ((a2, (4 : Int), ()), ((((a0.1.1, a0.1.2.1, a0.1.2.2.1, a0.1.2.2.2.1, a0.1.2.2.2.2), a0.2.1, a0.2.2.1, a0.2.2.2.1, a0.2.2.2.2.1, a0.2.2.2.2.2) : Dq1), ()))
          else
          bif inB x1114 (List.length a0.2.2.2.2.1) then
            bif (iLt 0 (List.getD a0.2.2.2.2.1 x1114.toNat (0 : Int))) then
              bif inB x1114 (List.length a0.2.2.2.2.1) then
                bif inB x1114 (List.length a0.2.2.2.2.1) then
                  bif inB x1114 (List.length a0.2.2.2.1) then
                    some (((List.getD a0.2.2.2.1 x1114.toNat (0 : Int)), (0 : Int), ()), ((((a0.1.1, a0.1.2.1, a0.1.2.2.1, a0.1.2.2.2.1, a0.1.2.2.2.2), a0.2.1, a0.2.2.1, a0.2.2.2.1, List.set a0.2.2.2.2.1 x1114.toNat (iSub .i64 (List.getD a0.2.2.2.2.1 x1114.toNat (0 : Int)) 1), a0.2.2.2.2.2) : Dq1), ()))
                  else none
                else none
              else none
            else
            bif inS 0 x1114 (List.length a0.2.2.2.1) then
              bif inS 0 x1114 (List.length a0.2.2.2.2.1) then
                some (((iAdd .i64 a2 1), (0 : Int), ()), ((((a0.1.1, a0.1.2.1, a0.1.2.2.1, a0.1.2.2.2.1, a0.1.2.2.2.2), a0.2.1, a0.2.2.1, List.take x1114.toNat (List.drop 0 a0.2.2.2.1), List.take x1114.toNat (List.drop 0 a0.2.2.2.2.1), a0.2.2.2.2.2) : Dq1), ()))
              else none
            else none
          else none
        else
        some ((a2, (5 : Int), ()), ((((a0.1.1, a0.1.2.1, a0.1.2.2.1, a0.1.2.2.2.1, a0.1.2.2.2.2), a0.2.1, a0.2.2.1, a0.2.2.2.1, a0.2.2.2.2.1, a0.2.2.2.2.2) : Dq1), ()))
      else
      bif (sEq x1087 ([109, 111, 118, 101])) then
        (spec_l08Work_three (((a0.1.1, a0.1.2.1, a0.1.2.2.1, a0.1.2.2.2.1, a0.1.2.2.2.2), a0.2.1, a0.2.2.1, a0.2.2.2.1, a0.2.2.2.2.1, a0.2.2.2.2.2) : Dq1) y1086.1.1).bind fun y1124 =>
        some (((iAdd .i64 a2 1), y1124.1.1, ()), ((((y1124.2.1.1.1, y1124.2.1.1.2.1, y1124.2.1.1.2.2.1, y1124.2.1.1.2.2.2.1, y1124.2.1.1.2.2.2.2), y1124.2.1.2.1, y1124.2.1.2.2.1, y1124.2.1.2.2.2.1, y1124.2.1.2.2.2.2.1, y1124.2.1.2.2.2.2.2) : Dq1), ()))
      else
      bif (sEq x1087 ([101, 110, 100])) then
        bif (! (iEq (lenI y1086.1.1) 1)) then
          some ((a2, (5 : Int), ()), ((((a0.1.1, a0.1.2.1, a0.1.2.2.1, a0.1.2.2.2.1, a0.1.2.2.2.2), a0.2.1, a0.2.2.1, a0.2.2.2.1, a0.2.2.2.2.1, a0.2.2.2.2.2) : Dq1), ()))
        else
        let x1127 := iSub .i64 (lenI a0.2.2.2.1) 1
        bif (iLt x1127 0) then
          some ((a2, (4 : Int), ()), ((((a0.1.1, a0.1.2.1, a0.1.2.2.1, a0.1.2.2.2.1, a0.1.2.2.2.2), a0.2.1, a0.2.2.1, a0.2.2.2.1, a0.2.2.2.2.1, a0.2.2.2.2.2) : Dq1), ()))
        else
        bif inB x1127 (List.length a0.2.2.2.2.1) then
          bif (iLt 0 (List.getD a0.2.2.2.2.1 x1127.toNat (0 : Int))) then
            bif inB x1127 (List.length a0.2.2.2.2.1) then
              bif inB x1127 (List.length a0.2.2.2.2.1) then
                bif inB x1127 (List.length a0.2.2.2.1) then
                  some (((List.getD a0.2.2.2.1 x1127.toNat (0 : Int)), (0 : Int), ()), ((((a0.1.1, a0.1.2.1, a0.1.2.2.1, a0.1.2.2.2.1, a0.1.2.2.2.2), a0.2.1, a0.2.2.1, a0.2.2.2.1, List.set a0.2.2.2.2.1 x1127.toNat (iSub .i64 (List.getD a0.2.2.2.2.1 x1127.toNat (0 : Int)) 1), a0.2.2.2.2.2) : Dq1), ()))
                else none
              else none
            else none
          else
          bif inS 0 x1127 (List.length a0.2.2.2.1) then
            bif inS 0 x1127 (List.length a0.2.2.2.2.1) then
              some (((iAdd .i64 a2 1), (0 : Int), ()), ((((a0.1.1, a0.1.2.1, a0.1.2.2.1, a0.1.2.2.2.1, a0.1.2.2.2.2), a0.2.1, a0.2.2.1, List.take x1127.toNat (List.drop 0 a0.2.2.2.1), List.take x1127.toNat (List.drop 0 a0.2.2.2.2.1), a0.2.2.2.2.2) : Dq1), ()))
            else none
          else none
        else none
      else
      some ((a2, (5 : Int), ()), ((((a0.1.1, a0.1.2.1, a0.1.2.2.1, a0.1.2.2.2.1, a0.1.2.2.2.2), a0.2.1, a0.2.2.1, a0.2.2.2.1, a0.2.2.2.2.1, a0.2.2.2.2.2) : Dq1), ()))
    else
    let x1135 := sEq x1087 ([102, 105, 120])
    bif x1135 then
      bif x1135 then
        bif (! (iEq (lenI y1086.1.1) 2)) then
          some ((a2, (5 : Int), ()), ((((a0.1.1, a0.1.2.1, a0.1.2.2.1, a0.1.2.2.2.1, a0.1.2.2.2.2), a0.2.1, a0.2.2.1, a0.2.2.2.1, a0.2.2.2.2.1, a0.2.2.2.2.2) : Dq1), ()))
        else
        bif inB 1 (List.length y1086.1.1) then
          (spec_l08Whole (List.getD y1086.1.1 1 ([] : List UInt8))).bind fun y1138 =>
          bif (! y1138.1.2.1) then
            some ((a2, (5 : Int), ()), ((((a0.1.1, a0.1.2.1, a0.1.2.2.1, a0.1.2.2.2.1, a0.1.2.2.2.2), a0.2.1, a0.2.2.1, a0.2.2.2.1, a0.2.2.2.2.1, a0.2.2.2.2.2) : Dq1), ()))
          else
          bif inB 0 (List.length y1086.1.1) then
            (spec_l08Work_one (((a0.1.1, a0.1.2.1, a0.1.2.2.1, a0.1.2.2.2.1, a0.1.2.2.2.2), a0.2.1, a0.2.2.1, a0.2.2.2.1, a0.2.2.2.2.1, a0.2.2.2.2.2) : Dq1) (List.getD y1086.1.1 0 ([] : List UInt8)) y1138.1.1 a2).bind fun y1142 =>
            some (((iAdd .i64 a2 1), y1142.1.1, ()), ((((y1142.2.1.1.1, y1142.2.1.1.2.1, y1142.2.1.1.2.2.1, y1142.2.1.1.2.2.2.1, y1142.2.1.1.2.2.2.2), y1142.2.1.2.1, y1142.2.1.2.2.1, y1142.2.1.2.2.2.1, y1142.2.1.2.2.2.2.1, y1142.2.1.2.2.2.2.2) : Dq1), ()))
          else none
        else none
      else
      let x1143 := sEq x1087 ([115, 116, 97, 114, 116])
      bif x1143 then
        bif x1143 then
          (spec_l08Work_three (((a0.1.1, a0.1.2.1, a0.1.2.2.1, a0.1.2.2.2.1, a0.1.2.2.2.2), a0.2.1, a0.2.2.1, a0.2.2.2.1, a0.2.2.2.2.1, a0.2.2.2.2.2) : Dq1) y1086.1.1).bind fun y1145 =>
          some (((iAdd .i64 a2 1), y1145.1.1, ()), ((((y1145.2.1.1.1, y1145.2.1.1.2.1, y1145.2.1.1.2.2.1, y1145.2.1.1.2.2.2.1, y1145.2.1.1.2.2.2.2), y1145.2.1.2.1, y1145.2.1.2.2.1, y1145.2.1.2.2.2.1, y1145.2.1.2.2.2.2.1, y1145.2.1.2.2.2.2.2) : Dq1), ()))
        else
        bif (sEq x1087 ([101, 110, 100])) then
          bif (! (iEq (lenI y1086.1.1) 1)) then
            some ((a2, (5 : Int), ()), ((((a0.1.1, a0.1.2.1, a0.1.2.2.1, a0.1.2.2.2.1, a0.1.2.2.2.2), a0.2.1, a0.2.2.1, a0.2.2.2.1, a0.2.2.2.2.1, a0.2.2.2.2.2) : Dq1), ()))
          else
          let x1148 := iSub .i64 (lenI a0.2.2.2.1) 1
          bif (iLt x1148 0) then
            some ((a2, (4 : Int), ()), ((((a0.1.1, a0.1.2.1, a0.1.2.2.1, a0.1.2.2.2.1, a0.1.2.2.2.2), a0.2.1, a0.2.2.1, a0.2.2.2.1, a0.2.2.2.2.1, a0.2.2.2.2.2) : Dq1), ()))
          else
          bif inB x1148 (List.length a0.2.2.2.2.1) then
            bif (iLt 0 (List.getD a0.2.2.2.2.1 x1148.toNat (0 : Int))) then
              bif inB x1148 (List.length a0.2.2.2.2.1) then
                bif inB x1148 (List.length a0.2.2.2.2.1) then
                  bif inB x1148 (List.length a0.2.2.2.1) then
                    some (((List.getD a0.2.2.2.1 x1148.toNat (0 : Int)), (0 : Int), ()), ((((a0.1.1, a0.1.2.1, a0.1.2.2.1, a0.1.2.2.2.1, a0.1.2.2.2.2), a0.2.1, a0.2.2.1, a0.2.2.2.1, List.set a0.2.2.2.2.1 x1148.toNat (iSub .i64 (List.getD a0.2.2.2.2.1 x1148.toNat (0 : Int)) 1), a0.2.2.2.2.2) : Dq1), ()))
                  else none
                else none
              else none
            else
            bif inS 0 x1148 (List.length a0.2.2.2.1) then
              bif inS 0 x1148 (List.length a0.2.2.2.2.1) then
                some (((iAdd .i64 a2 1), (0 : Int), ()), ((((a0.1.1, a0.1.2.1, a0.1.2.2.1, a0.1.2.2.2.1, a0.1.2.2.2.2), a0.2.1, a0.2.2.1, List.take x1148.toNat (List.drop 0 a0.2.2.2.1), List.take x1148.toNat (List.drop 0 a0.2.2.2.2.1), a0.2.2.2.2.2) : Dq1), ()))
              else none
            else none
          else none
        else
        some ((a2, (5 : Int), ()), ((((a0.1.1, a0.1.2.1, a0.1.2.2.1, a0.1.2.2.2.1, a0.1.2.2.2.2), a0.2.1, a0.2.2.1, a0.2.2.2.1, a0.2.2.2.2.1, a0.2.2.2.2.2) : Dq1), ()))
      else
      let x1156 := sEq x1087 ([98, 101, 97, 99, 111, 110])
      bif x1156 then
        bif x1156 then
          (spec_l08Work_three (((a0.1.1, a0.1.2.1, a0.1.2.2.1, a0.1.2.2.2.1, a0.1.2.2.2.2), a0.2.1, a0.2.2.1, a0.2.2.2.1, a0.2.2.2.2.1, a0.2.2.2.2.2) : Dq1) y1086.1.1).bind fun y1158 =>
          some (((iAdd .i64 a2 1), y1158.1.1, ()), ((((y1158.2.1.1.1, y1158.2.1.1.2.1, y1158.2.1.1.2.2.1, y1158.2.1.1.2.2.2.1, y1158.2.1.1.2.2.2.2), y1158.2.1.2.1, y1158.2.1.2.2.1, y1158.2.1.2.2.2.1, y1158.2.1.2.2.2.2.1, y1158.2.1.2.2.2.2.2) : Dq1), ()))
        else
        bif (sEq x1087 ([101, 110, 100])) then
          bif (! (iEq (lenI y1086.1.1) 1)) then
            some ((a2, (5 : Int), ()), ((((a0.1.1, a0.1.2.1, a0.1.2.2.1, a0.1.2.2.2.1, a0.1.2.2.2.2), a0.2.1, a0.2.2.1, a0.2.2.2.1, a0.2.2.2.2.1, a0.2.2.2.2.2) : Dq1), ()))
          else
          let x1161 := iSub .i64 (lenI a0.2.2.2.1) 1
          bif (iLt x1161 0) then
            some ((a2, (4 : Int), ()), ((((a0.1.1, a0.1.2.1, a0.1.2.2.1, a0.1.2.2.2.1, a0.1.2.2.2.2), a0.2.1, a0.2.2.1, a0.2.2.2.1, a0.2.2.2.2.1, a0.2.2.2.2.2) : Dq1), ()))
          else
          bif inB x1161 (List.length a0.2.2.2.2.1) then
            bif (iLt 0 (List.getD a0.2.2.2.2.1 x1161.toNat (0 : Int))) then
              bif inB x1161 (List.length a0.2.2.2.2.1) then
                bif inB x1161 (List.length a0.2.2.2.2.1) then
                  bif inB x1161 (List.length a0.2.2.2.1) then
                    some (((List.getD a0.2.2.2.1 x1161.toNat (0 : Int)), (0 : Int), ()), ((((a0.1.1, a0.1.2.1, a0.1.2.2.1, a0.1.2.2.2.1, a0.1.2.2.2.2), a0.2.1, a0.2.2.1, a0.2.2.2.1, List.set a0.2.2.2.2.1 x1161.toNat (iSub .i64 (List.getD a0.2.2.2.2.1 x1161.toNat (0 : Int)) 1), a0.2.2.2.2.2) : Dq1), ()))
                  else none
                else none
              else none
            else
            bif inS 0 x1161 (List.length a0.2.2.2.1) then
              bif inS 0 x1161 (List.length a0.2.2.2.2.1) then
                some (((iAdd .i64 a2 1), (0 : Int), ()), ((((a0.1.1, a0.1.2.1, a0.1.2.2.1, a0.1.2.2.2.1, a0.1.2.2.2.2), a0.2.1, a0.2.2.1, List.take x1161.toNat (List.drop 0 a0.2.2.2.1), List.take x1161.toNat (List.drop 0 a0.2.2.2.2.1), a0.2.2.2.2.2) : Dq1), ()))
              else none
            else none
          else none
        else
        some ((a2, (5 : Int), ()), ((((a0.1.1, a0.1.2.1, a0.1.2.2.1, a0.1.2.2.2.1, a0.1.2.2.2.2), a0.2.1, a0.2.2.1, a0.2.2.2.1, a0.2.2.2.2.1, a0.2.2.2.2.2) : Dq1), ()))
      else
      bif (sEq x1087 ([109, 111, 118, 101])) then
        (spec_l08Work_three (((a0.1.1, a0.1.2.1, a0.1.2.2.1, a0.1.2.2.2.1, a0.1.2.2.2.2), a0.2.1, a0.2.2.1, a0.2.2.2.1, a0.2.2.2.2.1, a0.2.2.2.2.2) : Dq1) y1086.1.1).bind fun y1171 =>
        some (((iAdd .i64 a2 1), y1171.1.1, ()), ((((y1171.2.1.1.1, y1171.2.1.1.2.1, y1171.2.1.1.2.2.1, y1171.2.1.1.2.2.2.1, y1171.2.1.1.2.2.2.2), y1171.2.1.2.1, y1171.2.1.2.2.1, y1171.2.1.2.2.2.1, y1171.2.1.2.2.2.2.1, y1171.2.1.2.2.2.2.2) : Dq1), ()))
      else
      bif (sEq x1087 ([101, 110, 100])) then
        bif (! (iEq (lenI y1086.1.1) 1)) then
          some ((a2, (5 : Int), ()), ((((a0.1.1, a0.1.2.1, a0.1.2.2.1, a0.1.2.2.2.1, a0.1.2.2.2.2), a0.2.1, a0.2.2.1, a0.2.2.2.1, a0.2.2.2.2.1, a0.2.2.2.2.2) : Dq1), ()))
        else
        let x1174 := iSub .i64 (lenI a0.2.2.2.1) 1
        bif (iLt x1174 0) then
          some ((a2, (4 : Int), ()), ((((a0.1.1, a0.1.2.1, a0.1.2.2.1, a0.1.2.2.2.1, a0.1.2.2.2.2), a0.2.1, a0.2.2.1, a0.2.2.2.1, a0.2.2.2.2.1, a0.2.2.2.2.2) : Dq1), ()))
        else
        bif inB x1174 (List.length a0.2.2.2.2.1) then
          bif (iLt 0 (List.getD a0.2.2.2.2.1 x1174.toNat (0 : Int))) then
            bif inB x1174 (List.length a0.2.2.2.2.1) then
              bif inB x1174 (List.length a0.2.2.2.2.1) then
                bif inB x1174 (List.length a0.2.2.2.1) then
                  some (((List.getD a0.2.2.2.1 x1174.toNat (0 : Int)), (0 : Int), ()), ((((a0.1.1, a0.1.2.1, a0.1.2.2.1, a0.1.2.2.2.1, a0.1.2.2.2.2), a0.2.1, a0.2.2.1, a0.2.2.2.1, List.set a0.2.2.2.2.1 x1174.toNat (iSub .i64 (List.getD a0.2.2.2.2.1 x1174.toNat (0 : Int)) 1), a0.2.2.2.2.2) : Dq1), ()))
                else none
              else none
            else none
          else
          bif inS 0 x1174 (List.length a0.2.2.2.1) then
            bif inS 0 x1174 (List.length a0.2.2.2.2.1) then
              some (((iAdd .i64 a2 1), (0 : Int), ()), ((((a0.1.1, a0.1.2.1, a0.1.2.2.1, a0.1.2.2.2.1, a0.1.2.2.2.2), a0.2.1, a0.2.2.1, List.take x1174.toNat (List.drop 0 a0.2.2.2.1), List.take x1174.toNat (List.drop 0 a0.2.2.2.2.1), a0.2.2.2.2.2) : Dq1), ()))
            else none
          else none
        else none
      else
      some ((a2, (5 : Int), ()), ((((a0.1.1, a0.1.2.1, a0.1.2.2.1, a0.1.2.2.2.1, a0.1.2.2.2.2), a0.2.1, a0.2.2.1, a0.2.2.2.1, a0.2.2.2.2.1, a0.2.2.2.2.2) : Dq1), ()))
    else
    let x1182 := sEq x1087 ([104, 111, 108, 100])
    bif x1182 then
      bif x1182 then
        bif (! (iEq (lenI y1086.1.1) 2)) then
          some ((a2, (5 : Int), ()), ((((a0.1.1, a0.1.2.1, a0.1.2.2.1, a0.1.2.2.2.1, a0.1.2.2.2.2), a0.2.1, a0.2.2.1, a0.2.2.2.1, a0.2.2.2.2.1, a0.2.2.2.2.2) : Dq1), ()))
        else
        bif inB 1 (List.length y1086.1.1) then
          (spec_l08Whole (List.getD y1086.1.1 1 ([] : List UInt8))).bind fun y1185 =>
          bif (! y1185.1.2.1) then
            some ((a2, (5 : Int), ()), ((((a0.1.1, a0.1.2.1, a0.1.2.2.1, a0.1.2.2.2.1, a0.1.2.2.2.2), a0.2.1, a0.2.2.1, a0.2.2.2.1, a0.2.2.2.2.1, a0.2.2.2.2.2) : Dq1), ()))
          else
          bif inB 0 (List.length y1086.1.1) then
            (spec_l08Work_one (((a0.1.1, a0.1.2.1, a0.1.2.2.1, a0.1.2.2.2.1, a0.1.2.2.2.2), a0.2.1, a0.2.2.1, a0.2.2.2.1, a0.2.2.2.2.1, a0.2.2.2.2.2) : Dq1) (List.getD y1086.1.1 0 ([] : List UInt8)) y1185.1.1 a2).bind fun y1189 =>
            some (((iAdd .i64 a2 1), y1189.1.1, ()), ((((y1189.2.1.1.1, y1189.2.1.1.2.1, y1189.2.1.1.2.2.1, y1189.2.1.1.2.2.2.1, y1189.2.1.1.2.2.2.2), y1189.2.1.2.1, y1189.2.1.2.2.1, y1189.2.1.2.2.2.1, y1189.2.1.2.2.2.2.1, y1189.2.1.2.2.2.2.2) : Dq1), ()))
          else none
        else none
      else
      let x1190 := sEq x1087 ([115, 116, 97, 114, 116])
      bif x1190 then
        bif x1190 then
          (spec_l08Work_three (((a0.1.1, a0.1.2.1, a0.1.2.2.1, a0.1.2.2.2.1, a0.1.2.2.2.2), a0.2.1, a0.2.2.1, a0.2.2.2.1, a0.2.2.2.2.1, a0.2.2.2.2.2) : Dq1) y1086.1.1).bind fun y1192 =>
          some (((iAdd .i64 a2 1), y1192.1.1, ()), ((((y1192.2.1.1.1, y1192.2.1.1.2.1, y1192.2.1.1.2.2.1, y1192.2.1.1.2.2.2.1, y1192.2.1.1.2.2.2.2), y1192.2.1.2.1, y1192.2.1.2.2.1, y1192.2.1.2.2.2.1, y1192.2.1.2.2.2.2.1, y1192.2.1.2.2.2.2.2) : Dq1), ()))
        else
        bif (sEq x1087 ([101, 110, 100])) then
          bif (! (iEq (lenI y1086.1.1) 1)) then
            some ((a2, (5 : Int), ()), ((((a0.1.1, a0.1.2.1, a0.1.2.2.1, a0.1.2.2.2.1, a0.1.2.2.2.2), a0.2.1, a0.2.2.1, a0.2.2.2.1, a0.2.2.2.2.1, a0.2.2.2.2.2) : Dq1), ()))
          else
          let x1195 := iSub .i64 (lenI a0.2.2.2.1) 1
          bif (iLt x1195 0) then
            some ((a2, (4 : Int), ()), ((((a0.1.1, a0.1.2.1, a0.1.2.2.1, a0.1.2.2.2.1, a0.1.2.2.2.2), a0.2.1, a0.2.2.1, a0.2.2.2.1, a0.2.2.2.2.1, a0.2.2.2.2.2) : Dq1), ()))
          else
          bif inB x1195 (List.length a0.2.2.2.2.1) then
            bif (iLt 0 (List.getD a0.2.2.2.2.1 x1195.toNat (0 : Int))) then
              bif inB x1195 (List.length a0.2.2.2.2.1) then
                bif inB x1195 (List.length a0.2.2.2.2.1) then
                  bif inB x1195 (List.length a0.2.2.2.1) then
                    some (((List.getD a0.2.2.2.1 x1195.toNat (0 : Int)), (0 : Int), ()), ((((a0.1.1, a0.1.2.1, a0.1.2.2.1, a0.1.2.2.2.1, a0.1.2.2.2.2), a0.2.1, a0.2.2.1, a0.2.2.2.1, List.set a0.2.2.2.2.1 x1195.toNat (iSub .i64 (List.getD a0.2.2.2.2.1 x1195.toNat (0 : Int)) 1), a0.2.2.2.2.2) : Dq1), ()))
                  else none
                else none
              else none
            else
            bif inS 0 x1195 (List.length a0.2.2.2.1) then
              bif inS 0 x1195 (List.length a0.2.2.2.2.1) then
                some (((iAdd .i64 a2 1), (0 : Int), ()), ((((a0.1.1, a0.1.2.1, a0.1.2.2.1, a0.1.2.2.2.1, a0.1.2.2.2.2), a0.2.1, a0.2.2.1, List.take x1195.toNat (List.drop 0 a0.2.2.2.1), List.take x1195.toNat (List.drop 0 a0.2.2.2.2.1), a0.2.2.2.2.2) : Dq1), ()))
              else none
            else none
          else none
        else
        some ((a2, (5 : Int), ()), ((((a0.1.1, a0.1.2.1, a0.1.2.2.1, a0.1.2.2.2.1, a0.1.2.2.2.2), a0.2.1, a0.2.2.1, a0.2.2.2.1, a0.2.2.2.2.1, a0.2.2.2.2.2) : Dq1), ()))
      else
      let x1203 := sEq x1087 ([98, 101, 97, 99, 111, 110])
      bif x1203 then
        bif x1203 then
          (spec_l08Work_three (((a0.1.1, a0.1.2.1, a0.1.2.2.1, a0.1.2.2.2.1, a0.1.2.2.2.2), a0.2.1, a0.2.2.1, a0.2.2.2.1, a0.2.2.2.2.1, a0.2.2.2.2.2) : Dq1) y1086.1.1).bind fun y1205 =>
          some (((iAdd .i64 a2 1), y1205.1.1, ()), ((((y1205.2.1.1.1, y1205.2.1.1.2.1, y1205.2.1.1.2.2.1, y1205.2.1.1.2.2.2.1, y1205.2.1.1.2.2.2.2), y1205.2.1.2.1, y1205.2.1.2.2.1, y1205.2.1.2.2.2.1, y1205.2.1.2.2.2.2.1, y1205.2.1.2.2.2.2.2) : Dq1), ()))
        else
        bif (sEq x1087 ([101, 110, 100])) then
          bif (! (iEq (lenI y1086.1.1) 1)) then
            some ((a2, (5 : Int), ()), ((((a0.1.1, a0.1.2.1, a0.1.2.2.1, a0.1.2.2.2.1, a0.1.2.2.2.2), a0.2.1, a0.2.2.1, a0.2.2.2.1, a0.2.2.2.2.1, a0.2.2.2.2.2) : Dq1), ()))
          else
          let x1208 := iSub .i64 (lenI a0.2.2.2.1) 1
          bif (iLt x1208 0) then
            some ((a2, (4 : Int), ()), ((((a0.1.1, a0.1.2.1, a0.1.2.2.1, a0.1.2.2.2.1, a0.1.2.2.2.2), a0.2.1, a0.2.2.1, a0.2.2.2.1, a0.2.2.2.2.1, a0.2.2.2.2.2) : Dq1), ()))
          else
          bif inB x1208 (List.length a0.2.2.2.2.1) then
            bif (iLt 0 (List.getD a0.2.2.2.2.1 x1208.toNat (0 : Int))) then
              bif inB x1208 (List.length a0.2.2.2.2.1) then
                bif inB x1208 (List.length a0.2.2.2.2.1) then
                  bif inB x1208 (List.length a0.2.2.2.1) then
                    some (((List.getD a0.2.2.2.1 x1208.toNat (0 : Int)), (0 : Int), ()), ((((a0.1.1, a0.1.2.1, a0.1.2.2.1, a0.1.2.2.2.1, a0.1.2.2.2.2), a0.2.1, a0.2.2.1, a0.2.2.2.1, List.set a0.2.2.2.2.1 x1208.toNat (iSub .i64 (List.getD a0.2.2.2.2.1 x1208.toNat (0 : Int)) 1), a0.2.2.2.2.2) : Dq1), ()))
                  else none
                else none
              else none
            else
            bif inS 0 x1208 (List.length a0.2.2.2.1) then
              bif inS 0 x1208 (List.length a0.2.2.2.2.1) then
                some (((iAdd .i64 a2 1), (0 : Int), ()), ((((a0.1.1, a0.1.2.1, a0.1.2.2.1, a0.1.2.2.2.1, a0.1.2.2.2.2), a0.2.1, a0.2.2.1, List.take x1208.toNat (List.drop 0 a0.2.2.2.1), List.take x1208.toNat (List.drop 0 a0.2.2.2.2.1), a0.2.2.2.2.2) : Dq1), ()))
              else none
            else none
          else none
        else
        some ((a2, (5 : Int), ()), ((((a0.1.1, a0.1.2.1, a0.1.2.2.1, a0.1.2.2.2.1, a0.1.2.2.2.2), a0.2.1, a0.2.2.1, a0.2.2.2.1, a0.2.2.2.2.1, a0.2.2.2.2.2) : Dq1), ()))
      else
      bif (sEq x1087 ([109, 111, 118, 101])) then
        (spec_l08Work_three (((a0.1.1, a0.1.2.1, a0.1.2.2.1, a0.1.2.2.2.1, a0.1.2.2.2.2), a0.2.1, a0.2.2.1, a0.2.2.2.1, a0.2.2.2.2.1, a0.2.2.2.2.2) : Dq1) y1086.1.1).bind fun y1218 =>
        some (((iAdd .i64 a2 1), y1218.1.1, ()), ((((y1218.2.1.1.1, y1218.2.1.1.2.1, y1218.2.1.1.2.2.1, y1218.2.1.1.2.2.2.1, y1218.2.1.1.2.2.2.2), y1218.2.1.2.1, y1218.2.1.2.2.1, y1218.2.1.2.2.2.1, y1218.2.1.2.2.2.2.1, y1218.2.1.2.2.2.2.2) : Dq1), ()))
      else
      bif (sEq x1087 ([101, 110, 100])) then
        bif (! (iEq (lenI y1086.1.1) 1)) then
          some ((a2, (5 : Int), ()), ((((a0.1.1, a0.1.2.1, a0.1.2.2.1, a0.1.2.2.2.1, a0.1.2.2.2.2), a0.2.1, a0.2.2.1, a0.2.2.2.1, a0.2.2.2.2.1, a0.2.2.2.2.2) : Dq1), ()))
        else
        let x1221 := iSub .i64 (lenI a0.2.2.2.1) 1
        bif (iLt x1221 0) then
          some ((a2, (4 : Int), ()), ((((a0.1.1, a0.1.2.1, a0.1.2.2.1, a0.1.2.2.2.1, a0.1.2.2.2.2), a0.2.1, a0.2.2.1, a0.2.2.2.1, a0.2.2.2.2.1, a0.2.2.2.2.2) : Dq1), ()))
        else
        bif inB x1221 (List.length a0.2.2.2.2.1) then
          bif (iLt 0 (List.getD a0.2.2.2.2.1 x1221.toNat (0 : Int))) then
            bif inB x1221 (List.length a0.2.2.2.2.1) then
              bif inB x1221 (List.length a0.2.2.2.2.1) then
                bif inB x1221 (List.length a0.2.2.2.1) then
                  some (((List.getD a0.2.2.2.1 x1221.toNat (0 : Int)), (0 : Int), ()), ((((a0.1.1, a0.1.2.1, a0.1.2.2.1, a0.1.2.2.2.1, a0.1.2.2.2.2), a0.2.1, a0.2.2.1, a0.2.2.2.1, List.set a0.2.2.2.2.1 x1221.toNat (iSub .i64 (List.getD a0.2.2.2.2.1 x1221.toNat (0 : Int)) 1), a0.2.2.2.2.2) : Dq1), ()))
                else none
              else none
            else none
          else
          bif inS 0 x1221 (List.length a0.2.2.2.1) then
            bif inS 0 x1221 (List.length a0.2.2.2.2.1) then
              some (((iAdd .i64 a2 1), (0 : Int), ()), ((((a0.1.1, a0.1.2.1, a0.1.2.2.1, a0.1.2.2.2.1, a0.1.2.2.2.2), a0.2.1, a0.2.2.1, List.take x1221.toNat (List.drop 0 a0.2.2.2.1), List.take x1221.toNat (List.drop 0 a0.2.2.2.2.1), a0.2.2.2.2.2) : Dq1), ()))
            else none
          else none
        else none
      else
      some ((a2, (5 : Int), ()), ((((a0.1.1, a0.1.2.1, a0.1.2.2.1, a0.1.2.2.2.1, a0.1.2.2.2.2), a0.2.1, a0.2.2.1, a0.2.2.2.1, a0.2.2.2.2.1, a0.2.2.2.2.2) : Dq1), ()))
    else
    let x1229 := sEq x1087 ([114, 97, 110, 103, 101])
    bif x1229 then
      bif x1229 then
        bif (! (iEq (lenI y1086.1.1) 2)) then
          some ((a2, (5 : Int), ()), ((((a0.1.1, a0.1.2.1, a0.1.2.2.1, a0.1.2.2.2.1, a0.1.2.2.2.2), a0.2.1, a0.2.2.1, a0.2.2.2.1, a0.2.2.2.2.1, a0.2.2.2.2.2) : Dq1), ()))
        else
        bif inB 1 (List.length y1086.1.1) then
          (spec_l08Whole (List.getD y1086.1.1 1 ([] : List UInt8))).bind fun y1232 =>
          bif (! y1232.1.2.1) then
            some ((a2, (5 : Int), ()), ((((a0.1.1, a0.1.2.1, a0.1.2.2.1, a0.1.2.2.2.1, a0.1.2.2.2.2), a0.2.1, a0.2.2.1, a0.2.2.2.1, a0.2.2.2.2.1, a0.2.2.2.2.2) : Dq1), ()))
          else
          bif inB 0 (List.length y1086.1.1) then
            (spec_l08Work_one (((a0.1.1, a0.1.2.1, a0.1.2.2.1, a0.1.2.2.2.1, a0.1.2.2.2.2), a0.2.1, a0.2.2.1, a0.2.2.2.1, a0.2.2.2.2.1, a0.2.2.2.2.2) : Dq1) (List.getD y1086.1.1 0 ([] : List UInt8)) y1232.1.1 a2).bind fun y1236 =>
            some (((iAdd .i64 a2 1), y1236.1.1, ()), ((((y1236.2.1.1.1, y1236.2.1.1.2.1, y1236.2.1.1.2.2.1, y1236.2.1.1.2.2.2.1, y1236.2.1.1.2.2.2.2), y1236.2.1.2.1, y1236.2.1.2.2.1, y1236.2.1.2.2.2.1, y1236.2.1.2.2.2.2.1, y1236.2.1.2.2.2.2.2) : Dq1), ()))
          else none
        else none
      else
      let x1237 := sEq x1087 ([115, 116, 97, 114, 116])
      bif x1237 then
        bif x1237 then
          (spec_l08Work_three (((a0.1.1, a0.1.2.1, a0.1.2.2.1, a0.1.2.2.2.1, a0.1.2.2.2.2), a0.2.1, a0.2.2.1, a0.2.2.2.1, a0.2.2.2.2.1, a0.2.2.2.2.2) : Dq1) y1086.1.1).bind fun y1239 =>
          some (((iAdd .i64 a2 1), y1239.1.1, ()), ((((y1239.2.1.1.1, y1239.2.1.1.2.1, y1239.2.1.1.2.2.1, y1239.2.1.1.2.2.2.1, y1239.2.1.1.2.2.2.2), y1239.2.1.2.1, y1239.2.1.2.2.1, y1239.2.1.2.2.2.1, y1239.2.1.2.2.2.2.1, y1239.2.1.2.2.2.2.2) : Dq1), ()))
        else
        bif (sEq x1087 ([101, 110, 100])) then
          bif (! (iEq (lenI y1086.1.1) 1)) then
            some ((a2, (5 : Int), ()), ((((a0.1.1, a0.1.2.1, a0.1.2.2.1, a0.1.2.2.2.1, a0.1.2.2.2.2), a0.2.1, a0.2.2.1, a0.2.2.2.1, a0.2.2.2.2.1, a0.2.2.2.2.2) : Dq1), ()))
          else
          let x1242 := iSub .i64 (lenI a0.2.2.2.1) 1
          bif (iLt x1242 0) then
            some ((a2, (4 : Int), ()), ((((a0.1.1, a0.1.2.1, a0.1.2.2.1, a0.1.2.2.2.1, a0.1.2.2.2.2), a0.2.1, a0.2.2.1, a0.2.2.2.1, a0.2.2.2.2.1, a0.2.2.2.2.2) : Dq1), ()))
          else
          bif inB x1242 (List.length a0.2.2.2.2.1) then
            bif (iLt 0 (List.getD a0.2.2.2.2.1 x1242.toNat (0 : Int))) then
              bif inB x1242 (List.length a0.2.2.2.2.1) then
                bif inB x1242 (List.length a0.2.2.2.2.1) then
                  bif inB x1242 (List.length a0.2.2.2.1) then
                    some (((List.getD a0.2.2.2.1 x1242.toNat (0 : Int)), (0 : Int), ()), ((((a0.1.1, a0.1.2.1, a0.1.2.2.1, a0.1.2.2.2.1, a0.1.2.2.2.2), a0.2.1, a0.2.2.1, a0.2.2.2.1, List.set a0.2.2.2.2.1 x1242.toNat (iSub .i64 (List.getD a0.2.2.2.2.1 x1242.toNat (0 : Int)) 1), a0.2.2.2.2.2) : Dq1), ()))
                  else none
                else none
              else none
            else
            bif inS 0 x1242 (List.length a0.2.2.2.1) then
              bif inS 0 x1242 (List.length a0.2.2.2.2.1) then
                some (((iAdd .i64 a2 1), (0 : Int), ()), ((((a0.1.1, a0.1.2.1, a0.1.2.2.1, a0.1.2.2.2.1, a0.1.2.2.2.2), a0.2.1, a0.2.2.1, List.take x1242.toNat (List.drop 0 a0.2.2.2.1), List.take x1242.toNat (List.drop 0 a0.2.2.2.2.1), a0.2.2.2.2.2) : Dq1), ()))
              else none
            else none
          else none
        else
        some ((a2, (5 : Int), ()), ((((a0.1.1, a0.1.2.1, a0.1.2.2.1, a0.1.2.2.2.1, a0.1.2.2.2.2), a0.2.1, a0.2.2.1, a0.2.2.2.1, a0.2.2.2.2.1, a0.2.2.2.2.2) : Dq1), ()))
      else
      let x1250 := sEq x1087 ([98, 101, 97, 99, 111, 110])
      bif x1250 then
        bif x1250 then
          (spec_l08Work_three (((a0.1.1, a0.1.2.1, a0.1.2.2.1, a0.1.2.2.2.1, a0.1.2.2.2.2), a0.2.1, a0.2.2.1, a0.2.2.2.1, a0.2.2.2.2.1, a0.2.2.2.2.2) : Dq1) y1086.1.1).bind fun y1252 =>
          some (((iAdd .i64 a2 1), y1252.1.1, ()), ((((y1252.2.1.1.1, y1252.2.1.1.2.1, y1252.2.1.1.2.2.1, y1252.2.1.1.2.2.2.1, y1252.2.1.1.2.2.2.2), y1252.2.1.2.1, y1252.2.1.2.2.1, y1252.2.1.2.2.2.1, y1252.2.1.2.2.2.2.1, y1252.2.1.2.2.2.2.2) : Dq1), ()))
        else
        bif (sEq x1087 ([101, 110, 100])) then
          bif (! (iEq (lenI y1086.1.1) 1)) then
            some ((a2, (5 : Int), ()), ((((a0.1.1, a0.1.2.1, a0.1.2.2.1, a0.1.2.2.2.1, a0.1.2.2.2.2), a0.2.1, a0.2.2.1, a0.2.2.2.1, a0.2.2.2.2.1, a0.2.2.2.2.2) : Dq1), ()))
          else
          let x1255 := iSub .i64 (lenI a0.2.2.2.1) 1
          bif (iLt x1255 0) then
            some ((a2, (4 : Int), ()), ((((a0.1.1, a0.1.2.1, a0.1.2.2.1, a0.1.2.2.2.1, a0.1.2.2.2.2), a0.2.1, a0.2.2.1, a0.2.2.2.1, a0.2.2.2.2.1, a0.2.2.2.2.2) : Dq1), ()))
          else
          bif inB x1255 (List.length a0.2.2.2.2.1) then
            bif (iLt 0 (List.getD a0.2.2.2.2.1 x1255.toNat (0 : Int))) then
              bif inB x1255 (List.length a0.2.2.2.2.1) then
                bif inB x1255 (List.length a0.2.2.2.2.1) then
                  bif inB x1255 (List.length a0.2.2.2.1) then
                    some (((List.getD a0.2.2.2.1 x1255.toNat (0 : Int)), (0 : Int), ()), ((((a0.1.1, a0.1.2.1, a0.1.2.2.1, a0.1.2.2.2.1, a0.1.2.2.2.2), a0.2.1, a0.2.2.1, a0.2.2.2.1, List.set a0.2.2.2.2.1 x1255.toNat (iSub .i64 (List.getD a0.2.2.2.2.1 x1255.toNat (0 : Int)) 1), a0.2.2.2.2.2) : Dq1), ()))
                  else none
                else none
              else none
            else
            bif inS 0 x1255 (List.length a0.2.2.2.1) then
              bif inS 0 x1255 (List.length a0.2.2.2.2.1) then
                some (((iAdd .i64 a2 1), (0 : Int), ()), ((((a0.1.1, a0.1.2.1, a0.1.2.2.1, a0.1.2.2.2.1, a0.1.2.2.2.2), a0.2.1, a0.2.2.1, List.take x1255.toNat (List.drop 0 a0.2.2.2.1), List.take x1255.toNat (List.drop 0 a0.2.2.2.2.1), a0.2.2.2.2.2) : Dq1), ()))
              else none
            else none
          else none
        else
        some ((a2, (5 : Int), ()), ((((a0.1.1, a0.1.2.1, a0.1.2.2.1, a0.1.2.2.2.1, a0.1.2.2.2.2), a0.2.1, a0.2.2.1, a0.2.2.2.1, a0.2.2.2.2.1, a0.2.2.2.2.2) : Dq1), ()))
      else
      bif (sEq x1087 ([109, 111, 118, 101])) then
        (spec_l08Work_three (((a0.1.1, a0.1.2.1, a0.1.2.2.1, a0.1.2.2.2.1, a0.1.2.2.2.2), a0.2.1, a0.2.2.1, a0.2.2.2.1, a0.2.2.2.2.1, a0.2.2.2.2.2) : Dq1) y1086.1.1).bind fun y1265 =>
        some (((iAdd .i64 a2 1), y1265.1.1, ()), ((((y1265.2.1.1.1, y1265.2.1.1.2.1, y1265.2.1.1.2.2.1, y1265.2.1.1.2.2.2.1, y1265.2.1.1.2.2.2.2), y1265.2.1.2.1, y1265.2.1.2.2.1, y1265.2.1.2.2.2.1, y1265.2.1.2.2.2.2.1, y1265.2.1.2.2.2.2.2) : Dq1), ()))
      else
      bif (sEq x1087 ([101, 110, 100])) then
        bif (! (iEq (lenI y1086.1.1) 1)) then
          some ((a2, (5 : Int), ()), ((((a0.1.1, a0.1.2.1, a0.1.2.2.1, a0.1.2.2.2.1, a0.1.2.2.2.2), a0.2.1, a0.2.2.1, a0.2.2.2.1, a0.2.2.2.2.1, a0.2.2.2.2.2) : Dq1), ()))
        else
        let x1268 := iSub .i64 (lenI a0.2.2.2.1) 1
        bif (iLt x1268 0) then
          some ((a2, (4 : Int), ()), ((((a0.1.1, a0.1.2.1, a0.1.2.2.1, a0.1.2.2.2.1, a0.1.2.2.2.2), a0.2.1, a0.2.2.1, a0.2.2.2.1, a0.2.2.2.2.1, a0.2.2.2.2.2) : Dq1), ()))
        else
        bif inB x1268 (List.length a0.2.2.2.2.1) then
          bif (iLt 0 (List.getD a0.2.2.2.2.1 x1268.toNat (0 : Int))) then
            bif inB x1268 (List.length a0.2.2.2.2.1) then
              bif inB x1268 (List.length a0.2.2.2.2.1) then
                bif inB x1268 (List.length a0.2.2.2.1) then
                  some (((List.getD a0.2.2.2.1 x1268.toNat (0 : Int)), (0 : Int), ()), ((((a0.1.1, a0.1.2.1, a0.1.2.2.1, a0.1.2.2.2.1, a0.1.2.2.2.2), a0.2.1, a0.2.2.1, a0.2.2.2.1, List.set a0.2.2.2.2.1 x1268.toNat (iSub .i64 (List.getD a0.2.2.2.2.1 x1268.toNat (0 : Int)) 1), a0.2.2.2.2.2) : Dq1), ()))
                else none
              else none
            else none
          else
          bif inS 0 x1268 (List.length a0.2.2.2.1) then
            bif inS 0 x1268 (List.length a0.2.2.2.2.1) then
              some (((iAdd .i64 a2 1), (0 : Int), ()), ((((a0.1.1, a0.1.2.1, a0.1.2.2.1, a0.1.2.2.2.1, a0.1.2.2.2.2), a0.2.1, a0.2.2.1, List.take x1268.toNat (List.drop 0 a0.2.2.2.1), List.take x1268.toNat (List.drop 0 a0.2.2.2.2.1), a0.2.2.2.2.2) : Dq1), ()))
            else none
          else none
        else none
      else
      some ((a2, (5 : Int), ()), ((((a0.1.1, a0.1.2.1, a0.1.2.2.1, a0.1.2.2.2.1, a0.1.2.2.2.2), a0.2.1, a0.2.2.1, a0.2.2.2.1, a0.2.2.2.2.1, a0.2.2.2.2.2) : Dq1), ()))
    else
    bif (sEq x1087 ([114, 101, 112, 101, 97, 116])) then
      bif (! (iEq (lenI y1086.1.1) 2)) then
        some ((a2, (5 : Int), ()), ((((a0.1.1, a0.1.2.1, a0.1.2.2.1, a0.1.2.2.2.1, a0.1.2.2.2.2), a0.2.1, a0.2.2.1, a0.2.2.2.1, a0.2.2.2.2.1, a0.2.2.2.2.2) : Dq1), ()))
      else
      bif inB 1 (List.length y1086.1.1) then
        (spec_l08Whole (List.getD y1086.1.1 1 ([] : List UInt8))).bind fun y1279 =>
        bif (! y1279.1.2.1) then
          some ((a2, (5 : Int), ()), ((((a0.1.1, a0.1.2.1, a0.1.2.2.1, a0.1.2.2.2.1, a0.1.2.2.2.2), a0.2.1, a0.2.2.1, a0.2.2.2.1, a0.2.2.2.2.1, a0.2.2.2.2.2) : Dq1), ()))
        else
        bif inB 0 (List.length y1086.1.1) then
          (spec_l08Work_one (((a0.1.1, a0.1.2.1, a0.1.2.2.1, a0.1.2.2.2.1, a0.1.2.2.2.2), a0.2.1, a0.2.2.1, a0.2.2.2.1, a0.2.2.2.2.1, a0.2.2.2.2.2) : Dq1) (List.getD y1086.1.1 0 ([] : List UInt8)) y1279.1.1 a2).bind fun y1283 =>
          some (((iAdd .i64 a2 1), y1283.1.1, ()), ((((y1283.2.1.1.1, y1283.2.1.1.2.1, y1283.2.1.1.2.2.1, y1283.2.1.1.2.2.2.1, y1283.2.1.1.2.2.2.2), y1283.2.1.2.1, y1283.2.1.2.2.1, y1283.2.1.2.2.2.1, y1283.2.1.2.2.2.2.1, y1283.2.1.2.2.2.2.2) : Dq1), ()))
        else none
      else none
    else
    let x1284 := sEq x1087 ([115, 116, 97, 114, 116])
    bif x1284 then
      bif x1284 then
        (spec_l08Work_three (((a0.1.1, a0.1.2.1, a0.1.2.2.1, a0.1.2.2.2.1, a0.1.2.2.2.2), a0.2.1, a0.2.2.1, a0.2.2.2.1, a0.2.2.2.2.1, a0.2.2.2.2.2) : Dq1) y1086.1.1).bind fun y1286 =>
        some (((iAdd .i64 a2 1), y1286.1.1, ()), ((((y1286.2.1.1.1, y1286.2.1.1.2.1, y1286.2.1.1.2.2.1, y1286.2.1.1.2.2.2.1, y1286.2.1.1.2.2.2.2), y1286.2.1.2.1, y1286.2.1.2.2.1, y1286.2.1.2.2.2.1, y1286.2.1.2.2.2.2.1, y1286.2.1.2.2.2.2.2) : Dq1), ()))
      else
      bif (sEq x1087 ([101, 110, 100])) then
        bif (! (iEq (lenI y1086.1.1) 1)) then
          some ((a2, (5 : Int), ()), ((((a0.1.1, a0.1.2.1, a0.1.2.2.1, a0.1.2.2.2.1, a0.1.2.2.2.2), a0.2.1, a0.2.2.1, a0.2.2.2.1, a0.2.2.2.2.1, a0.2.2.2.2.2) : Dq1), ()))
        else
        let x1289 := iSub .i64 (lenI a0.2.2.2.1) 1
        bif (iLt x1289 0) then
          some ((a2, (4 : Int), ()), ((((a0.1.1, a0.1.2.1, a0.1.2.2.1, a0.1.2.2.2.1, a0.1.2.2.2.2), a0.2.1, a0.2.2.1, a0.2.2.2.1, a0.2.2.2.2.1, a0.2.2.2.2.2) : Dq1), ()))
        else
        bif inB x1289 (List.length a0.2.2.2.2.1) then
          bif (iLt 0 (List.getD a0.2.2.2.2.1 x1289.toNat (0 : Int))) then
            bif inB x1289 (List.length a0.2.2.2.2.1) then
              bif inB x1289 (List.length a0.2.2.2.2.1) then
                bif inB x1289 (List.length a0.2.2.2.1) then
                  some (((List.getD a0.2.2.2.1 x1289.toNat (0 : Int)), (0 : Int), ()), ((((a0.1.1, a0.1.2.1, a0.1.2.2.1, a0.1.2.2.2.1, a0.1.2.2.2.2), a0.2.1, a0.2.2.1, a0.2.2.2.1, List.set a0.2.2.2.2.1 x1289.toNat (iSub .i64 (List.getD a0.2.2.2.2.1 x1289.toNat (0 : Int)) 1), a0.2.2.2.2.2) : Dq1), ()))
                else none
              else none
            else none
          else
          bif inS 0 x1289 (List.length a0.2.2.2.1) then
            bif inS 0 x1289 (List.length a0.2.2.2.2.1) then
              some (((iAdd .i64 a2 1), (0 : Int), ()), ((((a0.1.1, a0.1.2.1, a0.1.2.2.1, a0.1.2.2.2.1, a0.1.2.2.2.2), a0.2.1, a0.2.2.1, List.take x1289.toNat (List.drop 0 a0.2.2.2.1), List.take x1289.toNat (List.drop 0 a0.2.2.2.2.1), a0.2.2.2.2.2) : Dq1), ()))
            else none
          else none
        else none
      else
      some ((a2, (5 : Int), ()), ((((a0.1.1, a0.1.2.1, a0.1.2.2.1, a0.1.2.2.2.1, a0.1.2.2.2.2), a0.2.1, a0.2.2.1, a0.2.2.2.1, a0.2.2.2.2.1, a0.2.2.2.2.2) : Dq1), ()))
    else
    let x1297 := sEq x1087 ([98, 101, 97, 99, 111, 110])
    bif x1297 then
      bif x1297 then
        (spec_l08Work_three (((a0.1.1, a0.1.2.1, a0.1.2.2.1, a0.1.2.2.2.1, a0.1.2.2.2.2), a0.2.1, a0.2.2.1, a0.2.2.2.1, a0.2.2.2.2.1, a0.2.2.2.2.2) : Dq1) y1086.1.1).bind fun y1299 =>
        some (((iAdd .i64 a2 1), y1299.1.1, ()), ((((y1299.2.1.1.1, y1299.2.1.1.2.1, y1299.2.1.1.2.2.1, y1299.2.1.1.2.2.2.1, y1299.2.1.1.2.2.2.2), y1299.2.1.2.1, y1299.2.1.2.2.1, y1299.2.1.2.2.2.1, y1299.2.1.2.2.2.2.1, y1299.2.1.2.2.2.2.2) : Dq1), ()))
      else
      bif (sEq x1087 ([101, 110, 100])) then
        bif (! (iEq (lenI y1086.1.1) 1)) then
          some ((a2, (5 : Int), ()), ((((a0.1.1, a0.1.2.1, a0.1.2.2.1, a0.1.2.2.2.1, a0.1.2.2.2.2), a0.2.1, a0.2.2.1, a0.2.2.2.1, a0.2.2.2.2.1, a0.2.2.2.2.2) : Dq1), ()))
        else
        let x1302 := iSub .i64 (lenI a0.2.2.2.1) 1
        bif (iLt x1302 0) then
          some ((a2, (4 : Int), ()), ((((a0.1.1, a0.1.2.1, a0.1.2.2.1, a0.1.2.2.2.1, a0.1.2.2.2.2), a0.2.1, a0.2.2.1, a0.2.2.2.1, a0.2.2.2.2.1, a0.2.2.2.2.2) : Dq1), ()))
        else
        bif inB x1302 (List.length a0.2.2.2.2.1) then
          bif (iLt 0 (List.getD a0.2.2.2.2.1 x1302.toNat (0 : Int))) then
            bif inB x1302 (List.length a0.2.2.2.2.1) then
              bif inB x1302 (List.length a0.2.2.2.2.1) then
                bif inB x1302 (List.length a0.2.2.2.1) then
                  some (((List.getD a0.2.2.2.1 x1302.toNat (0 : Int)), (0 : Int), ()), ((((a0.1.1, a0.1.2.1, a0.1.2.2.1, a0.1.2.2.2.1, a0.1.2.2.2.2), a0.2.1, a0.2.2.1, a0.2.2.2.1, List.set a0.2.2.2.2.1 x1302.toNat (iSub .i64 (List.getD a0.2.2.2.2.1 x1302.toNat (0 : Int)) 1), a0.2.2.2.2.2) : Dq1), ()))
                else none
              else none
            else none
          else
          bif inS 0 x1302 (List.length a0.2.2.2.1) then
            bif inS 0 x1302 (List.length a0.2.2.2.2.1) then
              some (((iAdd .i64 a2 1), (0 : Int), ()), ((((a0.1.1, a0.1.2.1, a0.1.2.2.1, a0.1.2.2.2.1, a0.1.2.2.2.2), a0.2.1, a0.2.2.1, List.take x1302.toNat (List.drop 0 a0.2.2.2.1), List.take x1302.toNat (List.drop 0 a0.2.2.2.2.1), a0.2.2.2.2.2) : Dq1), ()))
            else none
          else none
        else none
      else
      some ((a2, (5 : Int), ()), ((((a0.1.1, a0.1.2.1, a0.1.2.2.1, a0.1.2.2.2.1, a0.1.2.2.2.2), a0.2.1, a0.2.2.1, a0.2.2.2.1, a0.2.2.2.2.1, a0.2.2.2.2.2) : Dq1), ()))
    else
    bif (sEq x1087 ([109, 111, 118, 101])) then
      (spec_l08Work_three (((a0.1.1, a0.1.2.1, a0.1.2.2.1, a0.1.2.2.2.1, a0.1.2.2.2.2), a0.2.1, a0.2.2.1, a0.2.2.2.1, a0.2.2.2.2.1, a0.2.2.2.2.2) : Dq1) y1086.1.1).bind fun y1312 =>
      some (((iAdd .i64 a2 1), y1312.1.1, ()), ((((y1312.2.1.1.1, y1312.2.1.1.2.1, y1312.2.1.1.2.2.1, y1312.2.1.1.2.2.2.1, y1312.2.1.1.2.2.2.2), y1312.2.1.2.1, y1312.2.1.2.2.1, y1312.2.1.2.2.2.1, y1312.2.1.2.2.2.2.1, y1312.2.1.2.2.2.2.2) : Dq1), ()))
    else
    bif (sEq x1087 ([101, 110, 100])) then
      bif (! (iEq (lenI y1086.1.1) 1)) then
        some ((a2, (5 : Int), ()), ((((a0.1.1, a0.1.2.1, a0.1.2.2.1, a0.1.2.2.2.1, a0.1.2.2.2.2), a0.2.1, a0.2.2.1, a0.2.2.2.1, a0.2.2.2.2.1, a0.2.2.2.2.2) : Dq1), ()))
      else
      let x1315 := iSub .i64 (lenI a0.2.2.2.1) 1
      bif (iLt x1315 0) then
        some ((a2, (4 : Int), ()), ((((a0.1.1, a0.1.2.1, a0.1.2.2.1, a0.1.2.2.2.1, a0.1.2.2.2.2), a0.2.1, a0.2.2.1, a0.2.2.2.1, a0.2.2.2.2.1, a0.2.2.2.2.2) : Dq1), ()))
      else
      bif inB x1315 (List.length a0.2.2.2.2.1) then
        bif (iLt 0 (List.getD a0.2.2.2.2.1 x1315.toNat (0 : Int))) then
          bif inB x1315 (List.length a0.2.2.2.2.1) then
            bif inB x1315 (List.length a0.2.2.2.2.1) then
              bif inB x1315 (List.length a0.2.2.2.1) then
                some (((List.getD a0.2.2.2.1 x1315.toNat (0 : Int)), (0 : Int), ()), ((((a0.1.1, a0.1.2.1, a0.1.2.2.1, a0.1.2.2.2.1, a0.1.2.2.2.2), a0.2.1, a0.2.2.1, a0.2.2.2.1, List.set a0.2.2.2.2.1 x1315.toNat (iSub .i64 (List.getD a0.2.2.2.2.1 x1315.toNat (0 : Int)) 1), a0.2.2.2.2.2) : Dq1), ()))
              else none
            else none
          else none
        else
        bif inS 0 x1315 (List.length a0.2.2.2.1) then
          bif inS 0 x1315 (List.length a0.2.2.2.2.1) then
            some (((iAdd .i64 a2 1), (0 : Int), ()), ((((a0.1.1, a0.1.2.1, a0.1.2.2.1, a0.1.2.2.2.1, a0.1.2.2.2.2), a0.2.1, a0.2.2.1, List.take x1315.toNat (List.drop 0 a0.2.2.2.1), List.take x1315.toNat (List.drop 0 a0.2.2.2.2.1), a0.2.2.2.2.2) : Dq1), ()))
          else none
        else none
      else none
    else
    some ((a2, (5 : Int), ()), ((((a0.1.1, a0.1.2.1, a0.1.2.2.1, a0.1.2.2.2.1, a0.1.2.2.2.2), a0.2.1, a0.2.2.1, a0.2.2.2.1, a0.2.2.2.2.1, a0.2.2.2.2.2) : Dq1), ()))
  else none
def spec_l08Work_line_en : Entry := ⟨⟨[.io (.pair (.pair (.val (.int .i64)) (.pair (.val (.arr 3 (.flt .f32))) (.pair (.rows (.arr 3 (.flt .f32))) (.pair (.rows Uq7) (.val (.unit)))))) (.pair (.val (.int .i64)) (.pair (.val (.int .i64)) (.pair (.rows (.int .i64)) (.pair (.rows (.int .i64)) (.val (.unit))))))), .v (.str), .v (.int .i64)], [.v (.val (.int .i64)), .v (.val (.int .i64))], false⟩, fun x => spec_l08Work_line x.1 x.2.1 x.2.2.1⟩
theorem qi8 : Sound Tryz.prog G 168 spec_l08Work_line_en := qab (envS (l := [(167, spec_l01Split_en), (200, spec_l08Whole_en), (201, spec_l08Work_one_en), (202, spec_l08Work_three_en)]) ⟨(qeg), (qd6), (qjw), (qia), trivial⟩) [] Tryz.func168 (by kernel_rfl) rfl fun _ => by kernel_rfl
def spec_CompileMission_l8 (x1059 : Int) (y1055 : Dq25) (s1067 : (Int × Dq1 × Unit)) : Option ((Int × Dq1 × Unit) ⊕ ((Dq4 × Int × Int × Unit) × Unit)) :=
  bif (iLt s1067.1 ((x1059.toNat : Nat) : Int)) then
    bif inB s1067.1 x1059.toNat then
      (spec_l08Work_line (((s1067.2.1.1.1, s1067.2.1.1.2.1, s1067.2.1.1.2.2.1, s1067.2.1.1.2.2.2.1, s1067.2.1.1.2.2.2.2), s1067.2.1.2.1, s1067.2.1.2.2.1, s1067.2.1.2.2.2.1, s1067.2.1.2.2.2.2.1, s1067.2.1.2.2.2.2.2) : Dq1) (List.getD y1055.1.1 (0 + s1067.1.toNat) ([] : List UInt8)) s1067.1).bind fun y1070 =>
      bif (! (iEq y1070.1.2.1 0)) then
        Option.map Sum.inr (some ((((0, (0, 0, 0, ()), [], [], ()) : Dq4), s1067.1, y1070.1.2.1, ()), ()))
      else
      some (Sum.inl (y1070.1.1, (((y1070.2.1.1.1, y1070.2.1.1.2.1, y1070.2.1.1.2.2.1, y1070.2.1.1.2.2.2.1, y1070.2.1.1.2.2.2.2), y1070.2.1.2.1, y1070.2.1.2.2.1, y1070.2.1.2.2.2.1, y1070.2.1.2.2.2.2.1, y1070.2.1.2.2.2.2.2) : Dq1), ()))
    else none
  else
  Option.map Sum.inr (
    bif (iLt 0 (lenI s1067.2.1.2.2.2.1)) then
      some ((((0, (0, 0, 0, ()), [], [], ()) : Dq4), ((x1059.toNat : Nat) : Int), (4 : Int), ()), ())
    else
    some ((((s1067.2.1.1.1, s1067.2.1.1.2.1, s1067.2.1.1.2.2.1, s1067.2.1.1.2.2.2.1, s1067.2.1.1.2.2.2.2) : Dq4), (0 : Int), (0 : Int), ()), ()))
def spec_CompileMission_l8_2 (y1055 : Dq25) (s1080 : (Int × Dq1 × Unit)) : Option ((Int × Dq1 × Unit) ⊕ ((Dq4 × Int × Int × Unit) × Unit)) :=
  bif (iLt s1080.1 (lenI y1055.1.1)) then
    bif inB s1080.1 (List.length y1055.1.1) then
      (spec_l08Work_line (((s1080.2.1.1.1, s1080.2.1.1.2.1, s1080.2.1.1.2.2.1, s1080.2.1.1.2.2.2.1, s1080.2.1.1.2.2.2.2), s1080.2.1.2.1, s1080.2.1.2.2.1, s1080.2.1.2.2.2.1, s1080.2.1.2.2.2.2.1, s1080.2.1.2.2.2.2.2) : Dq1) (List.getD y1055.1.1 s1080.1.toNat ([] : List UInt8)) s1080.1).bind fun y1083 =>
      bif (! (iEq y1083.1.2.1 0)) then
        Option.map Sum.inr (some ((((0, (0, 0, 0, ()), [], [], ()) : Dq4), s1080.1, y1083.1.2.1, ()), ()))
      else
      some (Sum.inl (y1083.1.1, (((y1083.2.1.1.1, y1083.2.1.1.2.1, y1083.2.1.1.2.2.1, y1083.2.1.1.2.2.2.1, y1083.2.1.1.2.2.2.2), y1083.2.1.2.1, y1083.2.1.2.2.1, y1083.2.1.2.2.2.1, y1083.2.1.2.2.2.2.1, y1083.2.1.2.2.2.2.2) : Dq1), ()))
    else none
  else
  Option.map Sum.inr (
    bif (iLt 0 (lenI s1080.2.1.2.2.2.1)) then some ((((0, (0, 0, 0, ()), [], [], ()) : Dq4), lenI y1055.1.1, (4 : Int), ()), ()) else
    some ((((s1080.2.1.1.1, s1080.2.1.1.2.1, s1080.2.1.1.2.2.1, s1080.2.1.1.2.2.2.1, s1080.2.1.1.2.2.2.2) : Dq4), (0 : Int), (0 : Int), ()), ()))
def spec_CompileMission (a0 : List UInt8) : Option ((Dq4 × Int × Int × Unit) × Unit) :=
  (spec_l01Split a0 (10 : Int)).bind fun y1055 =>
  let x1056 := iSub .i64 (lenI y1055.1.1) 1
  bif inB x1056 (List.length y1055.1.1) then
    bif (sEq (List.getD y1055.1.1 x1056.toNat ([] : List UInt8)) ([])) then
      let x1059 := iSub .i64 (lenI y1055.1.1) 1
      bif inS 0 x1059 (List.length y1055.1.1) then
        bif (iLt 4000 (lenI a0)) then some ((((0, (0, 0, 0, ()), [], [], ()) : Dq4), (0 : Int), (2 : Int), ()), ()) else
        bif (iLt 200 ((x1059.toNat : Nat) : Int)) then some ((((0, (0, 0, 0, ()), [], [], ()) : Dq4), (0 : Int), (2 : Int), ()), ()) else
        run (spec_CompileMission_l8 x1059 y1055) ((0 : Int), (((8, (0, 0, 0, ()), [], [], ()), 0, 0, [], [], ()) : Dq1), ())
      else none
    else
    bif (iLt 4000 (lenI a0)) then some ((((0, (0, 0, 0, ()), [], [], ()) : Dq4), (0 : Int), (2 : Int), ()), ()) else
    bif (iLt 200 (lenI y1055.1.1)) then some ((((0, (0, 0, 0, ()), [], [], ()) : Dq4), (0 : Int), (2 : Int), ()), ()) else
    run (spec_CompileMission_l8_2 y1055) ((0 : Int), (((8, (0, 0, 0, ()), [], [], ()), 0, 0, [], [], ()) : Dq1), ())
  else none
def spec_CompileMission_en : Entry := ⟨⟨[.v (.str)], [.v (.pair (.val (.int .i64)) (.pair (.val (.arr 3 (.flt .f32))) (.pair (.rows (.arr 3 (.flt .f32))) (.pair (.rows Uq7) (.val (.unit)))))), .v (.val (.int .i64)), .v (.val (.int .i64))], false⟩, fun x => spec_CompileMission x.1⟩
theorem qhx : Sound Tryz.prog G 134 spec_CompileMission_en := qab (envS (l := [(167, spec_l01Split_en), (168, spec_l08Work_line_en)]) ⟨(qeg), (qi8), trivial⟩) [(8, .vary [(7, .sc (.int .i64)), (6, .box (.pair (.pair (.val (.int .i64)) (.pair (.val (.arr 3 (.flt .f32))) (.pair (.rows (.arr 3 (.flt .f32))) (.pair (.rows Uq7) (.val (.unit)))))) (.pair (.val (.int .i64)) (.pair (.val (.int .i64)) (.pair (.rows (.int .i64)) (.pair (.rows (.int .i64)) (.val (.unit))))))))])] Tryz.func134 (by kernel_rfl) rfl fun _ => by kernel_rfl
def spec_l00Src_text (a0 : Dq7) (a1 : (List (List UInt8))) : Option (Dq20 × (Dq7 × Unit)) :=
  (spec_l00Src_pick a0 (lenI a1)).bind fun y1573 =>
  bif inB y1573.1.1 (List.length a1) then
    some (((List.getD a1 y1573.1.1.toNat ([] : List UInt8)), ()), (y1573.2.1, ()))
  else none
def spec_l00Src_text_en : Entry := ⟨⟨[.io (.val Uq6), .v (.list (.str))], [.v (.val (.str))], true⟩, fun x => spec_l00Src_text x.1 x.2.1⟩
theorem qe8 : Sound Tryz.prog G 169 spec_l00Src_text_en := qab (envS (l := [(38, spec_l00Src_pick_en)]) ⟨(qb7), trivial⟩) [] Tryz.func169 (by kernel_rfl) rfl fun _ => by kernel_rfl
def spec_Decimal_r (rec_ : Int → Option (Dq20 × Unit)) (a0 : Int) : Option (Dq20 × Unit) :=
  bif (iLe 10 a0) then
    (rec_ (iQuo .i64 a0 10)).bind fun y1577 =>
    let x1581 := ofBytes ([(iWrap .u8 (iAdd .i64 48 (iRem .i64 a0 10)))])
    bif strRoom y1577.1.1 x1581 then
      some (((strCat y1577.1.1 x1581), ()), ())
    else none
  else
  some (((ofBytes ([(iWrap .u8 (iAdd .i64 48 a0))])), ()), ())
def spec_Decimal_n : Nat → Int → Option (Dq20 × Unit)
  | 0 => fun _ => none
  | k + 1 => spec_Decimal_r (spec_Decimal_n k)
def spec_Decimal : Int → Option (Dq20 × Unit) := spec_Decimal_n 64
def spec_Decimal_sg : Sig := ⟨[.v (.int .i64)], [.v (.val (.str))], false⟩
def spec_Decimal_en : Entry := ⟨spec_Decimal_sg, fun x => spec_Decimal x.1⟩
theorem qox (rec_ : Int → Option (Dq20 × Unit)) {G : List (Nat × Obj)} (x : spec_Decimal_sg.dom) : body (env G [(170, ⟨spec_Decimal_sg, fun x => rec_ x.1⟩)]) [] Tryz.f170 spec_Decimal_sg x = spec_Decimal_r rec_ x.1 := by kernel_rfl
theorem qno : Sound Tryz.prog G 170 spec_Decimal_en := by
  have h : ∀ k, Sound Tryz.prog G 170 ⟨spec_Decimal_sg, fun x => spec_Decimal_n k x.1⟩ := by
    intro k
    induction k with
    | zero => exact ⟨rfl, fun _ _ _ _ _ _ _ _ _ _ _ h => by cases h⟩
    | succ k ih => exact qju (envS (l := [(170, ⟨spec_Decimal_sg, fun x => spec_Decimal_n k x.1⟩)]) (⟨ih, trivial⟩)) Tryz.func170 (by kernel_rfl) rfl (fun x y h => (qox (spec_Decimal_n k) (G := G) x).trans h)
  exact h 64
def spec_l08Number (a0 : Dq7) : Option (Dq20 × (Dq7 × Unit)) :=
  (spec_l00Src_text a0 ([[48], [49], [45, 49], [49, 47, 50], [50], [45, 51, 47, 52], [48], [52], [49, 47, 56]] : (List (List UInt8)))).bind fun y1586 =>
  some ((y1586.1.1, ()), (y1586.2.1, ()))
def spec_l08Number_en : Entry := ⟨⟨[.io (.val Uq6)], [.v (.val (.str))], true⟩, fun x => spec_l08Number x.1⟩
theorem ql6 : Sound Tryz.prog G 171 spec_l08Number_en := qab (envS (l := [(169, spec_l00Src_text_en)]) ⟨(qe8), trivial⟩) [] Tryz.func171 (by kernel_rfl) rfl fun _ => by kernel_rfl
def spec_l08Told_l23 (s1513 : (List UInt8 × Int × Int × Dq7 × Unit)) (s1569 : (List UInt8 × Int × Unit)) : Option ((List UInt8 × Int × Unit) ⊕ (Dq20 × (Dq7 × Unit))) :=
  bif (iLt 0 s1569.2.1) then
    bif strRoom s1569.1 ([101, 110, 100, 10]) then
      some (Sum.inl ((strCat s1569.1 ([101, 110, 100, 10])), (iSub .i64 s1569.2.1 1), ()))
    else none
  else
  Option.map Sum.inr (some ((s1569.1, ()), (s1513.2.2.2.1, ())))
def spec_l08Told_l6 (s1513 : (List UInt8 × Int × Int × Dq7 × Unit)) : Option ((List UInt8 × Int × Int × Dq7 × Unit) ⊕ (Dq20 × (Dq7 × Unit))) :=
  bif (iLt 0 s1513.2.2.1) then
    (spec_l00Src_pick s1513.2.2.2.1 (8 : Int)).bind fun y1515 =>
    bif (iEq y1515.1.1 0) then
      (spec_l00Src_pick y1515.2.1 (6 : Int)).bind fun y1517 =>
      (spec_Decimal y1517.1.1).bind fun y1518 =>
      bif strRoom ([102, 105, 120, 32]) y1518.1.1 then
        let x1519 := strCat ([102, 105, 120, 32]) y1518.1.1
        bif strRoom x1519 ([10]) then
          let x1520 := strCat x1519 ([10])
          bif strRoom s1513.1 x1520 then
            some (Sum.inl ((strCat s1513.1 x1520), s1513.2.1, (iSub .i64 s1513.2.2.1 1), y1517.2.1, ()))
          else none
        else none
      else none
    else
    bif (iEq y1515.1.1 1) then
      (spec_l00Src_pick y1515.2.1 (6 : Int)).bind fun y1524 =>
      (spec_Decimal (iAdd .i64 1 y1524.1.1)).bind fun y1526 =>
      bif strRoom ([104, 111, 108, 100, 32]) y1526.1.1 then
        let x1527 := strCat ([104, 111, 108, 100, 32]) y1526.1.1
        bif strRoom x1527 ([10]) then
          let x1528 := strCat x1527 ([10])
          bif strRoom s1513.1 x1528 then
            some (Sum.inl ((strCat s1513.1 x1528), s1513.2.1, (iSub .i64 s1513.2.2.1 1), y1524.2.1, ()))
          else none
        else none
      else none
    else
    bif (iEq y1515.1.1 2) then
      (spec_l00Src_pick y1515.2.1 (3 : Int)).bind fun y1532 =>
      (spec_Decimal y1532.1.1).bind fun y1533 =>
      bif strRoom ([114, 97, 110, 103, 101, 32]) y1533.1.1 then
        let x1534 := strCat ([114, 97, 110, 103, 101, 32]) y1533.1.1
        bif strRoom x1534 ([10]) then
          let x1535 := strCat x1534 ([10])
          bif strRoom s1513.1 x1535 then
            some (Sum.inl ((strCat s1513.1 x1535), s1513.2.1, (iSub .i64 s1513.2.2.1 1), y1532.2.1, ()))
          else none
        else none
      else none
    else
    bif (iEq y1515.1.1 3) then
      (spec_l00Src_pick y1515.2.1 (3 : Int)).bind fun y1539 =>
      (spec_Decimal (iAdd .i64 1 y1539.1.1)).bind fun y1541 =>
      bif strRoom ([114, 101, 112, 101, 97, 116, 32]) y1541.1.1 then
        let x1542 := strCat ([114, 101, 112, 101, 97, 116, 32]) y1541.1.1
        bif strRoom x1542 ([10]) then
          let x1543 := strCat x1542 ([10])
          bif strRoom s1513.1 x1543 then
            some (Sum.inl ((strCat s1513.1 x1543), (iAdd .i64 s1513.2.1 1), (iSub .i64 s1513.2.2.1 1), y1539.2.1, ()))
          else none
        else none
      else none
    else
    bif (iEq y1515.1.1 4) then
      bif (iLt 0 s1513.2.1) then
        bif strRoom s1513.1 ([101, 110, 100, 10]) then
          some (Sum.inl ((strCat s1513.1 ([101, 110, 100, 10])), (iSub .i64 s1513.2.1 1), (iSub .i64 s1513.2.2.1 1), y1515.2.1, ()))
        else none
      else
      some (Sum.inl (s1513.1, s1513.2.1, (iSub .i64 s1513.2.2.1 1), y1515.2.1, ()))
    else
    (spec_l08Number y1515.2.1).bind fun y1553 =>
    bif strRoom ([109, 111, 118, 101, 32]) y1553.1.1 then
      let x1554 := strCat ([109, 111, 118, 101, 32]) y1553.1.1
      bif strRoom x1554 ([32]) then
        let x1555 := strCat x1554 ([32])
        (spec_l08Number y1553.2.1).bind fun y1556 =>
        bif strRoom x1555 y1556.1.1 then
          let x1557 := strCat x1555 y1556.1.1
          bif strRoom x1557 ([32]) then
            let x1558 := strCat x1557 ([32])
            (spec_l08Number y1556.2.1).bind fun y1559 =>
            bif strRoom x1558 y1559.1.1 then
              let x1560 := strCat x1558 y1559.1.1
              bif strRoom x1560 ([32]) then
                let x1561 := strCat x1560 ([32])
                (spec_l00Src_pick y1559.2.1 (8 : Int)).bind fun y1562 =>
                (spec_Decimal (iAdd .i64 1 y1562.1.1)).bind fun y1564 =>
                bif strRoom x1561 y1564.1.1 then
                  let x1565 := strCat x1561 y1564.1.1
                  bif strRoom x1565 ([10]) then
                    let x1566 := strCat x1565 ([10])
                    bif strRoom s1513.1 x1566 then
                      some (Sum.inl ((strCat s1513.1 x1566), s1513.2.1, (iSub .i64 s1513.2.2.1 1), y1562.2.1, ()))
                    else none
                  else none
                else none
              else none
            else none
          else none
        else none
      else none
    else none
  else
  Option.map Sum.inr (run (spec_l08Told_l23 s1513) (s1513.1, s1513.2.1, ()))
def spec_l08Told (a0 : Dq7) (a1 : Int) : Option (Dq20 × (Dq7 × Unit)) :=
  (spec_l00Src_text a0 ([[], [114, 97, 116, 101, 32, 52, 10], [114, 97, 116, 101, 32, 49, 54, 10], [115, 116, 97, 114, 116, 32, 49, 32, 48, 32, 45, 49, 47, 50, 10]] : (List (List UInt8)))).bind fun y1496 =>
  (spec_l00Src_text y1496.2.1 ([[], [98, 101, 97, 99, 111, 110, 32, 53, 32, 53, 32, 48, 10], [98, 101, 97, 99, 111, 110, 32, 48, 32, 48, 32, 48, 10, 98, 101, 97, 99, 111, 110, 32, 45, 52, 32, 50, 32, 49, 10]] : (List (List UInt8)))).bind fun y1497 =>
  bif strRoom y1496.1.1 y1497.1.1 then
    let x1498 := strCat y1496.1.1 y1497.1.1
    (spec_l00Src_text y1497.2.1 ([[102, 105, 120, 32, 52, 10], [102, 105, 120, 32, 50, 10], [], [102, 105, 120, 32, 49, 10]] : (List (List UInt8)))).bind fun y1499 =>
    bif strRoom x1498 y1499.1.1 then
      (spec_l00Src_pick y1499.2.1 (iAdd .i64 a1 1)).bind fun y1502 =>
      run (spec_l08Told_l6) ((strCat x1498 y1499.1.1), (0 : Int), y1502.1.1, y1502.2.1, ())
    else none
  else none
def spec_l08Told_en : Entry := ⟨⟨[.io (.val Uq6), .v (.int .i64)], [.v (.val (.str))], true⟩, fun x => spec_l08Told x.1 x.2.1⟩
theorem qnv : Sound Tryz.prog G 135 spec_l08Told_en := qab (envS (l := [(38, spec_l00Src_pick_en), (169, spec_l00Src_text_en), (170, spec_Decimal_en), (171, spec_l08Number_en)]) ⟨(qb7), (qe8), (qno), (ql6), trivial⟩) [(6, .vary [(5, .sc (.str)), (6, .sc (.int .i64)), (7, .sc (.int .i64)), (0, .box (.val Uq6))]), (23, .vary [(5, .sc (.str)), (6, .sc (.int .i64))])] Tryz.func135 (by kernel_rfl) rfl fun _ => by kernel_rfl
def spec_l08Drawn (a0 : Dq7) : Option ((Dq4 × Unit) × (Dq7 × Unit)) :=
  (spec_l08Told a0 (6 : Int)).bind fun y1051 =>
  (spec_CompileMission y1051.1.1).bind fun y1052 =>
  bif (! (iEq y1052.1.2.2.1 0)) then
    (spec_CompileMission ([98, 101, 97, 99, 111, 110, 32, 53, 32, 53, 32, 48, 10, 102, 105, 120, 32, 50, 10, 109, 111, 118, 101, 32, 49, 32, 49, 47, 50, 32, 48, 32, 54, 10, 114, 97, 110, 103, 101, 32, 48, 10, 109, 111, 118, 101, 32, 45, 49, 32, 48, 32, 49, 32, 52, 10] : List UInt8)).bind fun y1054 =>
    some ((((y1054.1.1.1, y1054.1.1.2.1, y1054.1.1.2.2.1, y1054.1.1.2.2.2.1, y1054.1.1.2.2.2.2) : Dq4), ()), (y1051.2.1, ()))
  else
  some ((((y1052.1.1.1, y1052.1.1.2.1, y1052.1.1.2.2.1, y1052.1.1.2.2.2.1, y1052.1.1.2.2.2.2) : Dq4), ()), (y1051.2.1, ()))
def spec_l08Drawn_en : Entry := ⟨⟨[.io (.val Uq6)], [.v (.pair (.val (.int .i64)) (.pair (.val (.arr 3 (.flt .f32))) (.pair (.rows (.arr 3 (.flt .f32))) (.pair (.rows Uq7) (.val (.unit))))))], true⟩, fun x => spec_l08Drawn x.1⟩
theorem qm8 : Sound Tryz.prog G 100 spec_l08Drawn_en := qab (envS (l := [(134, spec_CompileMission_en), (135, spec_l08Told_en)]) ⟨(qhx), (qnv), trivial⟩) [] Tryz.func100 (by kernel_rfl) rfl fun _ => by kernel_rfl
theorem qj4 : Sound Tryz.prog G 60 math_RoundToEven_en := qst (name := "math.RoundToEven") Tryz.func60 (by kernel_rfl) (by kernel_rfl) (by kernel_rfl) (by kernel_rfl)
def spec_l04Count (a0 : Nat) : Option Dq15 :=
  (fConv .f32 .f64 a0).bind fun y1694 =>
  (math_RoundToEven y1694).bind fun y1695 =>
  bif (! (fEq .f64 y1695.1.1 y1695.1.1)) then some (((0 : Int), ()), ()) else
  bif (fLt .f64 4674736138332667904 y1695.1.1) then some (((32767 : Int), ()), ()) else
  bif (fLt .f64 y1695.1.1 13898108450065350656) then some ((((-32768 : Int) : Int), ()), ()) else
  (fToInt .f64 y1695.1.1 .i16).bind fun n1699 =>
  some ((n1699, ()), ())
def spec_l04Count_en : Entry := ⟨⟨[.v (.flt .f32)], [.v (.val (.int .i16))], false⟩, fun x => spec_l04Count x.1⟩
theorem qm3 : Sound Tryz.prog G 203 spec_l04Count_en := qab (envS (l := [(60, math_RoundToEven_en)]) ⟨(qj4), trivial⟩) [] Tryz.func203 (by kernel_rfl) rfl fun _ => by kernel_rfl
def spec_l04Counts (a0 : Dq22) (a1 : (Vec 3 Nat)) : Option (((Vec 3 Int) × Unit) × Unit) :=
  (spec_l04Count (fDiv .f32 (fSub .f32 (Vec.getD 3 a1 0 (0 : Nat)) (Vec.getD 3 a0.2.1 0 (0 : Nat))) (Vec.getD 3 a0.1 0 (0 : Nat)))).bind fun y1681 =>
  (spec_l04Count (fDiv .f32 (fSub .f32 (Vec.getD 3 a1 1 (0 : Nat)) (Vec.getD 3 a0.2.1 1 (0 : Nat))) (Vec.getD 3 a0.1 1 (0 : Nat)))).bind fun y1687 =>
  (spec_l04Count (fDiv .f32 (fSub .f32 (Vec.getD 3 a1 2 (0 : Nat)) (Vec.getD 3 a0.2.1 2 (0 : Nat))) (Vec.getD 3 a0.1 2 (0 : Nat)))).bind fun y1693 =>
  some ((((y1681.1.1, y1687.1.1, y1693.1.1, ()) : (Vec 3 Int)), ()), ())
def spec_l04Counts_en : Entry := ⟨⟨[.ro Uq8, .v (.arr 3 (.flt .f32))], [.v (.val (.arr 3 (.int .i16)))], false⟩, fun x => spec_l04Counts x.1 x.2.1⟩
theorem ql0 : Sound Tryz.prog G 175 spec_l04Counts_en := qab (envS (l := [(203, spec_l04Count_en)]) ⟨(qm3), trivial⟩) [(3, .unroll 4)] Tryz.func175 (by kernel_rfl) rfl fun _ => by kernel_rfl
def spec_l01Finite (a0 : Nat) : Option Dq9 :=
  some (((fEq .f32 (fSub .f32 a0 a0) 0), ()), ())
def spec_l01Finite_en : Entry := ⟨⟨[.v (.flt .f32)], [.v (.val (.bool))], false⟩, fun x => spec_l01Finite x.1⟩
theorem qaw : Sound Tryz.prog G 53 spec_l01Finite_en := qab (envS (l := []) trivial) [] Tryz.func53 (by kernel_rfl) rfl fun _ => by kernel_rfl
def spec_l01Vec (a0 : (Vec 3 Nat)) : Option Dq9 :=
  (spec_l01Finite (Vec.getD 3 a0 0 (0 : Nat))).bind fun y1711 =>
  bif y1711.1.1 then
    (spec_l01Finite (Vec.getD 3 a0 1 (0 : Nat))).bind fun y1713 =>
    bif y1713.1.1 then
      (spec_l01Finite (Vec.getD 3 a0 2 (0 : Nat))).bind fun y1715 =>
      some ((y1715.1.1, ()), ())
    else some ((false, ()), ())
  else some ((false, ()), ())
def spec_l01Vec_en : Entry := ⟨⟨[.v (.arr 3 (.flt .f32))], [.v (.val (.bool))], false⟩, fun x => spec_l01Vec x.1⟩
theorem qdp : Sound Tryz.prog G 91 spec_l01Vec_en := qab (envS (l := [(53, spec_l01Finite_en)]) ⟨(qaw), trivial⟩) [] Tryz.func91 (by kernel_rfl) rfl fun _ => by kernel_rfl
def spec_l04Sensor (a0 : Dq22) : Option Dq9 :=
  bif (fEq .f32 (Vec.getD 3 a0.1 0 (0 : Nat)) 0) then some ((false, ()), ()) else
  bif (fEq .f32 (Vec.getD 3 a0.1 1 (0 : Nat)) 0) then some ((false, ()), ()) else
  bif (fEq .f32 (Vec.getD 3 a0.1 2 (0 : Nat)) 0) then some ((false, ()), ()) else
  (spec_l01Vec a0.1).bind fun y1706 =>
  bif y1706.1.1 then
    (spec_l01Vec a0.2.1).bind fun y1707 =>
    bif y1707.1.1 then
      (spec_l00In a0.2.2.1 (1 : Int) (1000000 : Int)).bind fun y1708 =>
      bif y1708.1.1 then
        (spec_l00In a0.2.2.2.1 (0 : Int) (1000000 : Int)).bind fun y1709 =>
        some ((y1709.1.1, ()), ())
      else some ((false, ()), ())
    else some ((false, ()), ())
  else some ((false, ()), ())
def spec_l04Sensor_en : Entry := ⟨⟨[.ro Uq8], [.v (.val (.bool))], false⟩, fun x => spec_l04Sensor x.1⟩
theorem ql8 : Sound Tryz.prog G 174 spec_l04Sensor_en := qab (envS (l := [(91, spec_l01Vec_en), (120, spec_l00In_en)]) ⟨(qdp), (qb9), trivial⟩) [(2, .unroll 4)] Tryz.func174 (by kernel_rfl) rfl fun _ => by kernel_rfl
def spec_CountsOf (a0 : Dq22) (a1 : (Vec 3 Nat)) : Option (((Vec 3 Int) × Int × Unit) × Unit) :=
  (spec_l04Sensor a0).bind fun y1673 =>
  bif (! y1673.1.1) then some ((((0, 0, 0, ()) : (Vec 3 Int)), (1 : Int), ()), ()) else
  (spec_l04Counts a0 a1).bind fun y1675 =>
  some ((y1675.1.1, (0 : Int), ()), ())
def spec_CountsOf_en : Entry := ⟨⟨[.v Uq8, .v (.arr 3 (.flt .f32))], [.v (.val (.arr 3 (.int .i16))), .v (.val (.int .i64))], false⟩, fun x => spec_CountsOf x.1 x.2.1⟩
theorem qne : Sound Tryz.prog G 137 spec_CountsOf_en := qab (envS (l := [(174, spec_l04Sensor_en), (175, spec_l04Counts_en)]) ⟨(ql8), (ql0), trivial⟩) [] Tryz.func137 (by kernel_rfl) rfl fun _ => by kernel_rfl
end
end Go.Proofs.YtildomllnnnofaaGreat
