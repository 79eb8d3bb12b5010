import Derived.Test.YtildomllnnnofaaDoorF1
/- Functions on typed data: what the evaluation of each Go function is, and that it is sound. -/
namespace Go.Proofs.YtildomllnnnofaaDoor
open Go Go.Tm
set_option linter.unusedVariables false
set_option maxRecDepth 100000
variable {G : List (Nat × Obj)}
-- loop.example/g01204/spec.l01Row
noncomputable def spec_l01Row_l3 (a0 : (List Nat)) (s539 : (List UInt8 × Int × Unit)) : Option ((List UInt8 × Int × Unit) ⊕ ((List UInt8 × Unit) × Unit)) :=
  bif (iLt s539.2.1 (lenI a0)) then
    bif (iLt 0 s539.2.1) then
      bif strRoom s539.1 ([32]) then
        let x542 := strCat s539.1 ([32])
        bif inB s539.2.1 (List.length a0) then
          (spec_l01Hex (List.getD a0 s539.2.1.toNat (0 : Nat))).bind fun y544 =>
          bif strRoom x542 y544.1.1 then
            some (Sum.inl ((strCat x542 y544.1.1), (iAdd .i64 s539.2.1 1), ()))
          else none
        else none
      else none
    else
    bif inB s539.2.1 (List.length a0) then
      (spec_l01Hex (List.getD a0 s539.2.1.toNat (0 : Nat))).bind fun y548 =>
      bif strRoom s539.1 y548.1.1 then
        some (Sum.inl ((strCat s539.1 y548.1.1), (iAdd .i64 s539.2.1 1), ()))
      else none
    else none
  else
  Option.map Sum.inr (some ((s539.1, ()), ()))
noncomputable def spec_l01Row (a0 : (List Nat)) : Option ((List UInt8 × Unit) × Unit) :=
  run (spec_l01Row_l3 a0) (([] : List UInt8), (0 : Int), ())
noncomputable def spec_l01Row_en : Entry := ⟨⟨[.v (.list (.flt .f32))], [.v (.val (.str))], false⟩, fun x => spec_l01Row x.1⟩
theorem spec_l01Row_so : Sound Tryd.prog G 49 spec_l01Row_en := so_of (envS (l := [(51, spec_l01Hex_en)]) ⟨(spec_l01Hex_so), trivial⟩) [(3, .vary [(3, .sc (.str)), (4, .sc (.int .i64))])] Tryd.func49 (by kernel_rfl) rfl fun _ => by kernel_rfl

-- loop.example/g01204/spec.VecText
noncomputable def spec_VecText (a0 : (Vec 3 Nat)) : Option ((List UInt8 × Unit) × Unit) :=
  (spec_l01Row ([Vec.getD 3 a0 0 (0 : Nat), Vec.getD 3 a0 1 (0 : Nat), Vec.getD 3 a0 2 (0 : Nat)] : (List Nat))).bind fun y538 =>
  some ((y538.1.1, ()), ())
noncomputable def spec_VecText_en : Entry := ⟨⟨[.v (.arr 3 (.flt .f32))], [.v (.val (.str))], false⟩, fun x => spec_VecText x.1⟩
theorem spec_VecText_so : Sound Tryd.prog G 29 spec_VecText_en := so_of (envS (l := [(49, spec_l01Row_en)]) ⟨(spec_l01Row_so), trivial⟩) [] Tryd.func29 (by kernel_rfl) rfl fun _ => by kernel_rfl

-- loop.example/g01204/spec.l08Signed
noncomputable def spec_l08Signed (a0 : Int) : Option ((List UInt8 × Unit) × Unit) :=
  bif (iLt a0 0) then
    (spec_Decimal (iSub .i64 0 a0)).bind fun y612 =>
    bif strRoom ([45]) y612.1.1 then
      some (((strCat ([45]) y612.1.1), ()), ())
    else none
  else
  (spec_Decimal a0).bind fun y614 =>
  some ((y614.1.1, ()), ())
noncomputable def spec_l08Signed_en : Entry := ⟨⟨[.v (.int .i64)], [.v (.val (.str))], false⟩, fun x => spec_l08Signed x.1⟩
theorem spec_l08Signed_so : Sound Tryd.prog G 50 spec_l08Signed_en := so_of (envS (l := [(28, spec_Decimal_en)]) ⟨(spec_Decimal_so), trivial⟩) [] Tryd.func50 (by kernel_rfl) rfl fun _ => by kernel_rfl

-- loop.example/g01204/spec.l08Line
noncomputable def spec_l08Line (a0 : (Int × ((Vec 3 Nat) × ((Vec 3 Int) × (Int × (Nat × Unit)))))) : Option ((List UInt8 × Unit) × Unit) :=
  bif (iEq a0.1 1) then some ((([116, 105, 99, 107, 10] : List UInt8), ()), ()) else
  bif (iEq a0.1 2) then
    (spec_VecText a0.2.1).bind fun y585 =>
    bif strRoom ([109, 111, 118, 101, 32]) y585.1.1 then
      let x586 := strCat ([109, 111, 118, 101, 32]) y585.1.1
      bif strRoom x586 ([10]) then
        some (((strCat x586 ([10])), ()), ())
      else none
    else none
  else
  bif (iEq a0.1 3) then
    (spec_l08Signed (iWrap .i64 (Vec.getD 3 a0.2.2.1 0 (0 : Int)))).bind fun y591 =>
    bif strRoom ([102, 105, 120, 32]) y591.1.1 then
      let x592 := strCat ([102, 105, 120, 32]) y591.1.1
      bif strRoom x592 ([32]) then
        let x593 := strCat x592 ([32])
        (spec_l08Signed (iWrap .i64 (Vec.getD 3 a0.2.2.1 1 (0 : Int)))).bind fun y596 =>
        bif strRoom x593 y596.1.1 then
          let x597 := strCat x593 y596.1.1
          bif strRoom x597 ([32]) then
            let x598 := strCat x597 ([32])
            (spec_l08Signed (iWrap .i64 (Vec.getD 3 a0.2.2.1 2 (0 : Int)))).bind fun y601 =>
            bif strRoom x598 y601.1.1 then
              let x602 := strCat x598 y601.1.1
              bif strRoom x602 ([10]) then
                some (((strCat x602 ([10])), ()), ())
              else none
            else none
          else none
        else none
      else none
    else none
  else
  (spec_Decimal a0.2.2.2.1).bind fun y604 =>
  bif strRoom ([114, 97, 110, 103, 101, 32]) y604.1.1 then
    let x605 := strCat ([114, 97, 110, 103, 101, 32]) y604.1.1
    bif strRoom x605 ([32]) then
      let x606 := strCat x605 ([32])
      (spec_l01Hex a0.2.2.2.2.1).bind fun y607 =>
      bif strRoom x606 y607.1.1 then
        let x608 := strCat x606 y607.1.1
        bif strRoom x608 ([10]) then
          some (((strCat x608 ([10])), ()), ())
        else none
      else none
    else none
  else none
noncomputable def spec_l08Line_en : Entry := ⟨⟨[.ro (.pair (.int .i64) (.pair (.arr 3 (.flt .f32)) (.pair (.arr 3 (.int .i16)) (.pair (.int .i64) (.pair (.flt .f32) (.unit))))))], [.v (.val (.str))], false⟩, fun x => spec_l08Line x.1⟩
theorem spec_l08Line_so : Sound Tryd.prog G 30 spec_l08Line_en := so_of (envS (l := [(28, spec_Decimal_en), (29, spec_VecText_en), (50, spec_l08Signed_en), (51, spec_l01Hex_en)]) ⟨(spec_Decimal_so), (spec_VecText_so), (spec_l08Signed_so), (spec_l01Hex_so), trivial⟩) [] Tryd.func30 (by kernel_rfl) rfl fun _ => by kernel_rfl

-- loop.example/g01204/spec.l08Text
noncomputable def spec_l08Text_l7 (a0 : (Int × ((Vec 3 Nat) × ((List (Vec 3 Nat)) × ((List (Int × ((Vec 3 Nat) × ((Vec 3 Int) × (Int × (Nat × Unit)))))) × Unit))))) (s522 : (List UInt8 × Int × Unit)) : Option ((List UInt8 × Int × Unit) ⊕ ((List UInt8 × Unit) × Unit)) :=
  bif (iLt s522.2.1 (lenI a0.2.2.2.1)) then
    bif inB s522.2.1 (List.length a0.2.2.2.1) then
      (spec_l08Line (List.getD a0.2.2.2.1 s522.2.1.toNat ((0, (0, 0, 0, ()), (0, 0, 0, ()), 0, 0, ()) : (Int × ((Vec 3 Nat) × ((Vec 3 Int) × (Int × (Nat × Unit)))))))).bind fun y524 =>
      bif strRoom s522.1 y524.1.1 then
        some (Sum.inl ((strCat s522.1 y524.1.1), (iAdd .i64 s522.2.1 1), ()))
      else none
    else none
  else
  Option.map Sum.inr (some ((s522.1, ()), ()))
noncomputable def spec_l08Text_l3 (a0 : (Int × ((Vec 3 Nat) × ((List (Vec 3 Nat)) × ((List (Int × ((Vec 3 Nat) × ((Vec 3 Int) × (Int × (Nat × Unit)))))) × Unit))))) (s514 : (List UInt8 × Int × Unit)) : Option ((List UInt8 × Int × Unit) ⊕ ((List UInt8 × Unit) × Unit)) :=
  bif (iLt s514.2.1 (lenI a0.2.2.1)) then
    bif inB s514.2.1 (List.length a0.2.2.1) then
      (spec_VecText (List.getD a0.2.2.1 s514.2.1.toNat ((0, 0, 0, ()) : (Vec 3 Nat)))).bind fun y517 =>
      bif strRoom ([98, 101, 97, 99, 111, 110, 32]) y517.1.1 then
        let x518 := strCat ([98, 101, 97, 99, 111, 110, 32]) y517.1.1
        bif strRoom x518 ([10]) then
          let x519 := strCat x518 ([10])
          bif strRoom s514.1 x519 then
            some (Sum.inl ((strCat s514.1 x519), (iAdd .i64 s514.2.1 1), ()))
          else none
        else none
      else none
    else none
  else
  Option.map Sum.inr (run (spec_l08Text_l7 a0) (s514.1, (0 : Int), ()))
noncomputable def spec_l08Text (a0 : (Int × ((Vec 3 Nat) × ((List (Vec 3 Nat)) × ((List (Int × ((Vec 3 Nat) × ((Vec 3 Int) × (Int × (Nat × Unit)))))) × Unit))))) : Option ((List UInt8 × Unit) × Unit) :=
  (spec_Decimal a0.1).bind fun y508 =>
  bif strRoom ([108, 111, 103, 32]) y508.1.1 then
    let x509 := strCat ([108, 111, 103, 32]) y508.1.1
    bif strRoom x509 ([32]) then
      let x510 := strCat x509 ([32])
      (spec_VecText a0.2.1).bind fun y511 =>
      bif strRoom x510 y511.1.1 then
        let x512 := strCat x510 y511.1.1
        bif strRoom x512 ([10]) then
          run (spec_l08Text_l3 a0) ((strCat x512 ([10])), (0 : Int), ())
        else none
      else none
    else none
  else none
noncomputable def spec_l08Text_en : Entry := ⟨⟨[.ro (.pair (.int .i64) (.pair (.arr 3 (.flt .f32)) (.pair (.list (.arr 3 (.flt .f32))) (.pair (.list (.pair (.int .i64) (.pair (.arr 3 (.flt .f32)) (.pair (.arr 3 (.int .i16)) (.pair (.int .i64) (.pair (.flt .f32) (.unit))))))) (.unit)))))], [.v (.val (.str))], false⟩, fun x => spec_l08Text x.1⟩
theorem spec_l08Text_so : Sound Tryd.prog G 12 spec_l08Text_en := so_of (envS (l := [(28, spec_Decimal_en), (29, spec_VecText_en), (30, spec_l08Line_en)]) ⟨(spec_Decimal_so), (spec_VecText_so), (spec_l08Line_so), trivial⟩) [(3, .vary [(3, .sc (.str)), (4, .sc (.int .i64))]), (7, .vary [(3, .sc (.str)), (5, .sc (.int .i64))])] Tryd.func12 (by kernel_rfl) rfl fun _ => by kernel_rfl

-- loop.example/g01204/spec.LogText
noncomputable def spec_LogText (a0 : (Int × ((Vec 3 Nat) × ((List (Vec 3 Nat)) × ((List (Int × ((Vec 3 Nat) × ((Vec 3 Int) × (Int × (Nat × Unit)))))) × Unit))))) : Option ((List UInt8 × Unit) × Unit) :=
  (spec_l08Log a0).bind fun y404 =>
  bif (! y404.1.1) then some ((([] : List UInt8), ()), ()) else
  (spec_l08Text a0).bind fun y406 =>
  some ((y406.1.1, ()), ())
noncomputable def spec_LogText_en : Entry := ⟨⟨[.v (.pair (.int .i64) (.pair (.arr 3 (.flt .f32)) (.pair (.list (.arr 3 (.flt .f32))) (.pair (.list (.pair (.int .i64) (.pair (.arr 3 (.flt .f32)) (.pair (.arr 3 (.int .i16)) (.pair (.int .i64) (.pair (.flt .f32) (.unit))))))) (.unit)))))], [.v (.val (.str))], false⟩, fun x => spec_LogText x.1⟩
theorem spec_LogText_so : Sound Tryd.prog G 5 spec_LogText_en := so_of (envS (l := [(11, spec_l08Log_en), (12, spec_l08Text_en)]) ⟨(spec_l08Log_so), (spec_l08Text_so), trivial⟩) [] Tryd.func5 (by kernel_rfl) rfl fun _ => by kernel_rfl

-- loop.example/g01204/laws.FnExactLogText
noncomputable def laws_FnExactLogText (a0 : (Int × ((Vec 3 Nat) × ((List (Vec 3 Nat)) × ((List (Int × ((Vec 3 Nat) × ((Vec 3 Int) × (Int × (Nat × Unit)))))) × Unit))))) : Option ((Bool × Unit) × Unit) :=
  (laws_szLog a0 (1048576 : Int)).bind fun y1 =>
  bif (iLt y1.1.1 0) then some ((true, ()), ()) else
  (laws_toLog a0).bind fun y3 =>
  (spec_LogText ((y3.1.1.1, y3.1.1.2.1, y3.1.1.2.2.1, y3.1.1.2.2.2.1, y3.1.1.2.2.2.2) : (Int × ((Vec 3 Nat) × ((List (Vec 3 Nat)) × ((List (Int × ((Vec 3 Nat) × ((Vec 3 Int) × (Int × (Nat × Unit)))))) × Unit)))))).bind fun y4 =>
  (laws_toLog a0).bind fun y5 =>
  (impl_LogText ((y5.1.1.1, y5.1.1.2.1, y5.1.1.2.2.1, y5.1.1.2.2.2.1, y5.1.1.2.2.2.2) : (Int × ((Vec 3 Nat) × ((List (Vec 3 Nat)) × ((List (Int × ((Vec 3 Nat) × ((Vec 3 Int) × (Int × (Nat × Unit)))))) × Unit)))))).bind fun y6 =>
  bif (! (sEq y6.1.1 y4.1.1)) then some ((false, ()), ()) else
  (laws_toLog a0).bind fun y8 =>
  (laws_eqLog ((y5.1.1.1, y5.1.1.2.1, y5.1.1.2.2.1, y5.1.1.2.2.2.1, y5.1.1.2.2.2.2) : (Int × ((Vec 3 Nat) × ((List (Vec 3 Nat)) × ((List (Int × ((Vec 3 Nat) × ((Vec 3 Int) × (Int × (Nat × Unit)))))) × Unit))))) ((y8.1.1.1, y8.1.1.2.1, y8.1.1.2.2.1, y8.1.1.2.2.2.1, y8.1.1.2.2.2.2) : (Int × ((Vec 3 Nat) × ((List (Vec 3 Nat)) × ((List (Int × ((Vec 3 Nat) × ((Vec 3 Int) × (Int × (Nat × Unit)))))) × Unit)))))).bind fun y9 =>
  bif (! y9.1.1) then some ((false, ()), ()) else some ((true, ()), ())
noncomputable def laws_FnExactLogText_en : Entry := ⟨⟨[.v (.pair (.int .i64) (.pair (.arr 3 (.flt .f32)) (.pair (.list (.arr 3 (.flt .f32))) (.pair (.list (.pair (.int .i64) (.pair (.arr 3 (.flt .f32)) (.pair (.arr 3 (.int .i16)) (.pair (.int .i64) (.pair (.flt .f32) (.unit))))))) (.unit)))))], [.v (.val (.bool))], false⟩, fun x => laws_FnExactLogText x.1⟩
theorem laws_FnExactLogText_so (tb : GTab Tryd.prog G) (db : GDeb Tryd.prog G) : Sound Tryd.prog G 3 laws_FnExactLogText_en := so_of (envS (l := [(4, laws_szLog_en), (5, spec_LogText_en), (6, laws_toLog_en), (7, impl_LogText_en), (8, laws_eqLog_en)]) ⟨(laws_szLog_so), (spec_LogText_so), (laws_toLog_so), (impl_LogText_so tb db), (laws_eqLog_so), trivial⟩) [] Tryd.func3 (by kernel_rfl) rfl fun _ => by kernel_rfl

end Go.Proofs.YtildomllnnnofaaDoor
