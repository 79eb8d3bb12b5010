import Derived.Test.YtioniijhdkkieaaE
/- Functions on typed data: what the evaluation of each Go function is, and that it is sound. -/
namespace Go.Proofs.Ytioniijhdkkieaa
open Go Go.Tm
set_option linter.unusedVariables false
set_option maxRecDepth 100000
-- (loop.example/g01204/impl.Grid).at
noncomputable def impl_Grid_at (a0 : (Int × (Int × ((List Int) × Unit)))) (a1 : (Vec 2 Int)) : Option ((Int × Unit) × Unit) :=
  some (((iAdd .i64 (iMul .i64 (iWrap .i64 (Vec.getD 2 a1 1 (0 : Int))) a0.1) (iWrap .i64 (Vec.getD 2 a1 0 (0 : Int)))), ()), ())
noncomputable def impl_Grid_at_sg : Sig := ⟨[.v (.pair (.int .i64) (.pair (.int .i64) (.pair (.list (.int .u8)) (.unit)))), .v (.arr 2 (.int .i16))], [.v (.val (.int .i64))], false⟩
noncomputable def impl_Grid_at_en : Entry := ⟨impl_Grid_at_sg, fun x => impl_Grid_at x.1 x.2.1⟩
theorem impl_Grid_at_eq (x : impl_Grid_at_sg.dom) : body (env []) [] Try.f91 impl_Grid_at_sg x = impl_Grid_at x.1 x.2.1 := by kernel_rfl
theorem impl_Grid_at_so : Sound Try.prog 91 impl_Grid_at_en := sound_of_body (envS (l := []) (trivial)) Try.func91 (by kernel_rfl) rfl (fun x y h => (impl_Grid_at_eq x).trans h)

-- loop.example/g01204/impl.within
noncomputable def impl_within (a0 : Int) (a1 : Int) (a2 : Int) : Option ((Bool × Unit) × Unit) :=
  bif (iLe a1 a0) then
    some (((iLe a0 a2), ()), ())
  else some ((false, ()), ())
noncomputable def impl_within_sg : Sig := ⟨[.v (.int .i64), .v (.int .i64), .v (.int .i64)], [.v (.val (.bool))], false⟩
noncomputable def impl_within_en : Entry := ⟨impl_within_sg, fun x => impl_within x.1 x.2.1 x.2.2.1⟩
theorem impl_within_eq (x : impl_within_sg.dom) : body (env []) [] Try.f99 impl_within_sg x = impl_within x.1 x.2.1 x.2.2.1 := by kernel_rfl
theorem impl_within_so : Sound Try.prog 99 impl_within_en := sound_of_body (envS (l := []) (trivial)) Try.func99 (by kernel_rfl) rfl (fun x y h => (impl_within_eq x).trans h)

-- (loop.example/g01204/impl.Grid).has
noncomputable def impl_Grid_has (a0 : (Int × (Int × ((List Int) × Unit)))) (a1 : (Vec 2 Int)) : Option ((Bool × Unit) × Unit) :=
  (impl_within (iWrap .i64 (Vec.getD 2 a1 0 (0 : Int))) (0 : Int) (iSub .i64 a0.1 1)).bind fun y171 =>
  bif y171.1.1 then
    (impl_within (iWrap .i64 (Vec.getD 2 a1 1 (0 : Int))) (0 : Int) (iSub .i64 a0.2.1 1)).bind fun y175 =>
    some ((y175.1.1, ()), ())
  else some ((false, ()), ())
noncomputable def impl_Grid_has_sg : Sig := ⟨[.v (.pair (.int .i64) (.pair (.int .i64) (.pair (.list (.int .u8)) (.unit)))), .v (.arr 2 (.int .i16))], [.v (.val (.bool))], false⟩
noncomputable def impl_Grid_has_en : Entry := ⟨impl_Grid_has_sg, fun x => impl_Grid_has x.1 x.2.1⟩
theorem impl_Grid_has_eq (x : impl_Grid_has_sg.dom) : body (env [(99, impl_within_en)]) [] Try.f136 impl_Grid_has_sg x = impl_Grid_has x.1 x.2.1 := by kernel_rfl
theorem impl_Grid_has_so : Sound Try.prog 136 impl_Grid_has_en := sound_of_body (envS (l := [(99, impl_within_en)]) (⟨impl_within_so, trivial⟩)) Try.func136 (by kernel_rfl) rfl (fun x y h => (impl_Grid_has_eq x).trans h)

-- (loop.example/g01204/impl.Grid).isWall
noncomputable def impl_Grid_isWall (a0 : (Int × (Int × ((List Int) × Unit)))) (a1 : (Vec 2 Int)) : Option ((Bool × Unit) × Unit) :=
  (impl_Grid_at a0 a1).bind fun y178 =>
  bif inB y178.1.1 (List.length a0.2.2.1) then
    some (((iEq (List.getD a0.2.2.1 y178.1.1.toNat (0 : Int)) 255), ()), ())
  else none
noncomputable def impl_Grid_isWall_sg : Sig := ⟨[.v (.pair (.int .i64) (.pair (.int .i64) (.pair (.list (.int .u8)) (.unit)))), .v (.arr 2 (.int .i16))], [.v (.val (.bool))], false⟩
noncomputable def impl_Grid_isWall_en : Entry := ⟨impl_Grid_isWall_sg, fun x => impl_Grid_isWall x.1 x.2.1⟩
theorem impl_Grid_isWall_eq (x : impl_Grid_isWall_sg.dom) : body (env [(91, impl_Grid_at_en)]) [] Try.f66 impl_Grid_isWall_sg x = impl_Grid_isWall x.1 x.2.1 := by kernel_rfl
theorem impl_Grid_isWall_so : Sound Try.prog 66 impl_Grid_isWall_en := sound_of_body (envS (l := [(91, impl_Grid_at_en)]) (⟨impl_Grid_at_so, trivial⟩)) Try.func66 (by kernel_rfl) rfl (fun x y h => (impl_Grid_isWall_eq x).trans h)

-- (loop.example/g01204/impl.Grid).stepCost
noncomputable def impl_Grid_stepCost (a0 : (Int × (Int × ((List Int) × Unit)))) (a1 : (Vec 2 Int)) (a2 : (Vec 2 Int)) : Option ((Int × Bool × Unit) × Unit) :=
  let x185 := iSub .i64 (iWrap .i64 (Vec.getD 2 a2 0 (0 : Int))) (iWrap .i64 (Vec.getD 2 a1 0 (0 : Int)))
  let x190 := iSub .i64 (iWrap .i64 (Vec.getD 2 a2 1 (0 : Int))) (iWrap .i64 (Vec.getD 2 a1 1 (0 : Int)))
  (impl_within x185 ((-1 : Int) : Int) (1 : Int)).bind fun y191 =>
  bif (! y191.1.1) then some (((0 : Int), false, ()), ()) else
  (impl_within x190 ((-1 : Int) : Int) (1 : Int)).bind fun y193 =>
  bif (! y193.1.1) then some (((0 : Int), false, ()), ()) else
  bif (iEq x185 0) then
    bif (iEq x190 0) then some (((0 : Int), false, ()), ()) else
    (impl_Grid_has a0 a2).bind fun y197 =>
    bif (! y197.1.1) then some (((0 : Int), false, ()), ()) else
    (impl_Grid_isWall a0 a2).bind fun y199 =>
    bif y199.1.1 then some (((0 : Int), false, ()), ()) else
    (impl_Grid_at a0 a2).bind fun y200 =>
    bif inB y200.1.1 (List.length a0.2.2.1) then
      let x203 := iAdd .i64 10 (iWrap .i64 (List.getD a0.2.2.1 y200.1.1.toNat (0 : Int)))
      bif (! (iEq x185 0)) then
        bif (! (iEq x190 0)) then
          (impl_Grid_isWall a0 (((Vec.getD 2 a1 0 (0 : Int)), (Vec.getD 2 a2 1 (0 : Int)), ()) : (Vec 2 Int))).bind fun y208 =>
          bif y208.1.1 then some (((0 : Int), false, ()), ()) else
          (impl_Grid_isWall a0 (((Vec.getD 2 a2 0 (0 : Int)), (Vec.getD 2 a1 1 (0 : Int)), ()) : (Vec 2 Int))).bind fun y211 =>
          bif y211.1.1 then some (((0 : Int), false, ()), ()) else
          some (((iAdd .i64 x203 4), true, ()), ())
        else some ((x203, true, ()), ())
      else some ((x203, true, ()), ())
    else none
  else
  (impl_Grid_has a0 a2).bind fun y213 =>
  bif (! y213.1.1) then some (((0 : Int), false, ()), ()) else
  (impl_Grid_isWall a0 a2).bind fun y215 =>
  bif y215.1.1 then some (((0 : Int), false, ()), ()) else
  (impl_Grid_at a0 a2).bind fun y216 =>
  bif inB y216.1.1 (List.length a0.2.2.1) then
    let x219 := iAdd .i64 10 (iWrap .i64 (List.getD a0.2.2.1 y216.1.1.toNat (0 : Int)))
    bif (! (iEq x185 0)) then
      bif (! (iEq x190 0)) then
        (impl_Grid_isWall a0 (((Vec.getD 2 a1 0 (0 : Int)), (Vec.getD 2 a2 1 (0 : Int)), ()) : (Vec 2 Int))).bind fun y224 =>
        bif y224.1.1 then some (((0 : Int), false, ()), ()) else
        (impl_Grid_isWall a0 (((Vec.getD 2 a2 0 (0 : Int)), (Vec.getD 2 a1 1 (0 : Int)), ()) : (Vec 2 Int))).bind fun y227 =>
        bif y227.1.1 then some (((0 : Int), false, ()), ()) else
        some (((iAdd .i64 x219 4), true, ()), ())
      else some ((x219, true, ()), ())
    else some ((x219, true, ()), ())
  else none
noncomputable def impl_Grid_stepCost_sg : Sig := ⟨[.v (.pair (.int .i64) (.pair (.int .i64) (.pair (.list (.int .u8)) (.unit)))), .v (.arr 2 (.int .i16)), .v (.arr 2 (.int .i16))], [.v (.val (.int .i64)), .v (.val (.bool))], false⟩
noncomputable def impl_Grid_stepCost_en : Entry := ⟨impl_Grid_stepCost_sg, fun x => impl_Grid_stepCost x.1 x.2.1 x.2.2.1⟩
theorem impl_Grid_stepCost_eq (x : impl_Grid_stepCost_sg.dom) : body (env [(66, impl_Grid_isWall_en), (91, impl_Grid_at_en), (99, impl_within_en), (136, impl_Grid_has_en)]) [] Try.f93 impl_Grid_stepCost_sg x = impl_Grid_stepCost x.1 x.2.1 x.2.2.1 := by kernel_rfl
theorem impl_Grid_stepCost_so : Sound Try.prog 93 impl_Grid_stepCost_en := sound_of_body (envS (l := [(66, impl_Grid_isWall_en), (91, impl_Grid_at_en), (99, impl_within_en), (136, impl_Grid_has_en)]) (⟨impl_Grid_isWall_so, impl_Grid_at_so, impl_within_so, impl_Grid_has_so, trivial⟩)) Try.func93 (by kernel_rfl) rfl (fun x y h => (impl_Grid_stepCost_eq x).trans h)

-- loop.example/g01204/impl.ways
noncomputable def impl_ways : Option (((List (Vec 2 Int)) × Unit) × Unit) :=
  some ((([(1, 0, ()), (0, 1, ()), ((-1 : Int), 0, ()), (0, (-1 : Int), ()), (1, 1, ()), ((-1 : Int), 1, ()), ((-1 : Int), (-1 : Int), ()), (1, (-1 : Int), ())] : (List (Vec 2 Int))), ()), ())
noncomputable def impl_ways_sg : Sig := ⟨[], [.v (.rows (.arr 2 (.int .i16)))], false⟩
noncomputable def impl_ways_en : Entry := ⟨impl_ways_sg, fun _ => impl_ways⟩
theorem impl_ways_eq (x : impl_ways_sg.dom) : body (env []) [] Try.f92 impl_ways_sg x = impl_ways  := by kernel_rfl
theorem impl_ways_so : Sound Try.prog 92 impl_ways_en := sound_of_body (envS (l := []) (trivial)) Try.func92 (by kernel_rfl) rfl (fun x y h => (impl_ways_eq x).trans h)

-- math/bits.Mul64
noncomputable def math_bits_Mul64 (a0 : Int) (a1 : Int) : Option ((Int × Int × Unit) × Unit) :=
  let x246 := iAnd .u64 a0 4294967295
  let x247 := iShr .u64 a0 32
  let x248 := iAnd .u64 a1 4294967295
  let x249 := iShr .u64 a1 32
  let x253 := iAdd .u64 (iMul .u64 x247 x248) (iShr .u64 (iMul .u64 x246 x248) 32)
  some (((iAdd .u64 (iAdd .u64 (iMul .u64 x247 x249) (iShr .u64 x253 32)) (iShr .u64 (iAdd .u64 (iAnd .u64 x253 4294967295) (iMul .u64 x246 x249)) 32)), (iMul .u64 a0 a1), ()), ())
noncomputable def math_bits_Mul64_sg : Sig := ⟨[.v (.int .u64), .v (.int .u64)], [.v (.val (.int .u64)), .v (.val (.int .u64))], false⟩
noncomputable def math_bits_Mul64_en : Entry := ⟨math_bits_Mul64_sg, fun x => math_bits_Mul64 x.1 x.2.1⟩
theorem math_bits_Mul64_eq (x : math_bits_Mul64_sg.dom) : body (env []) [] Try.f215 math_bits_Mul64_sg x = math_bits_Mul64 x.1 x.2.1 := by kernel_rfl
theorem math_bits_Mul64_so : Sound Try.prog 215 math_bits_Mul64_en := sound_of_body (envS (l := []) (trivial)) Try.func215 (by kernel_rfl) rfl (fun x y h => (math_bits_Mul64_eq x).trans h)

-- math/bits.Mul
noncomputable def math_bits_Mul (a0 : Int) (a1 : Int) : Option ((Int × Int × Unit) × Unit) :=
  (math_bits_Mul64 a0 a1).bind fun y245 =>
  some ((y245.1.1, y245.1.2.1, ()), ())
noncomputable def math_bits_Mul_sg : Sig := ⟨[.v (.int .u64), .v (.int .u64)], [.v (.val (.int .u64)), .v (.val (.int .u64))], false⟩
noncomputable def math_bits_Mul_en : Entry := ⟨math_bits_Mul_sg, fun x => math_bits_Mul x.1 x.2.1⟩
theorem math_bits_Mul_eq (x : math_bits_Mul_sg.dom) : body (env [(215, math_bits_Mul64_en)]) [] Try.f186 math_bits_Mul_sg x = math_bits_Mul x.1 x.2.1 := by kernel_rfl
theorem math_bits_Mul_so : Sound Try.prog 186 math_bits_Mul_en := sound_of_body (envS (l := [(215, math_bits_Mul64_en)]) (⟨math_bits_Mul64_so, trivial⟩)) Try.func186 (by kernel_rfl) rfl (fun x y h => (math_bits_Mul_eq x).trans h)

-- slices.Repeat[[]int64,int64]
noncomputable def slices_Repeat_int64_l8 (s241 : (Int × (List Int) × Unit)) : Option ((Int × (List Int) × Unit) ⊕ (((List Int) × Unit) × Unit)) :=
  bif (iLt s241.1 (lenI s241.2.1)) then
    bif inS s241.1 ((List.length s241.2.1 : Nat) : Int) (List.length s241.2.1) then
      bif inS 0 s241.1 (List.length s241.2.1) then
        bif Nat.ble (s241.1.toNat + ((List.length s241.2.1) - s241.1.toNat)) (List.length s241.2.1) then
          some (Sum.inl ((iAdd .i64 s241.1 (Int.ofNat (min (List.length (List.take s241.1.toNat (List.drop 0 s241.2.1))) ((List.length s241.2.1) - s241.1.toNat)))), (spliceL s241.2.1 s241.1.toNat (List.take ((List.length s241.2.1) - s241.1.toNat) (List.take s241.1.toNat (List.drop 0 s241.2.1)))), ()))
        else none
      else none
    else none
  else
  Option.map Sum.inr (some ((s241.2.1, ()), ()))
noncomputable def slices_Repeat_int64 (a0 : (List Int)) (a1 : Int) : Option (((List Int) × Unit) × Unit) :=
  bif (iLt a1 0) then none else
  (math_bits_Mul (iWrap .u64 (lenI a0)) (iWrap .u64 a1)).bind fun y232 =>
  bif (iLt 0 y232.1.1) then none else
  bif (iLt 9223372036854775807 y232.1.2.1) then none else
  let x235 := iWrap .i64 y232.1.2.1
  bif (iLe 0 x235 && iLe x235 x235 && room x235.toNat 8) then
    run (slices_Repeat_int64_l8) (Int.ofNat (min (List.length a0) (List.length (List.replicate x235.toNat (0 : Int)))), (spliceL (List.replicate x235.toNat (0 : Int)) 0 (List.take (List.length (List.replicate x235.toNat (0 : Int))) a0)), ())
  else none
noncomputable def slices_Repeat_int64_sg : Sig := ⟨[.v (.list (.int .i64)), .v (.int .i64)], [.v (.rows (.int .i64))], false⟩
noncomputable def slices_Repeat_int64_en : Entry := ⟨slices_Repeat_int64_sg, fun x => slices_Repeat_int64 x.1 x.2.1⟩
theorem slices_Repeat_int64_eq (x : slices_Repeat_int64_sg.dom) : body (env [(186, math_bits_Mul_en)]) [(8, .vary [(8, .sc (.int .i64)), (7, .mrows (.int .i64))])] Try.f137 slices_Repeat_int64_sg x = slices_Repeat_int64 x.1 x.2.1 := by kernel_rfl
theorem slices_Repeat_int64_so : Sound Try.prog 137 slices_Repeat_int64_en := sound_of_body (envS (l := [(186, math_bits_Mul_en)]) (⟨math_bits_Mul_so, trivial⟩)) Try.func137 (by kernel_rfl) rfl (fun x y h => (slices_Repeat_int64_eq x).trans h)

-- (loop.example/g01204/impl.Grid).costsTo
noncomputable def impl_Grid_costsTo_l8 (y104 : (((List (Vec 2 Int)) × Unit) × Unit)) (x103 : (Vec 2 Int)) (a0 : (Int × (Int × ((List Int) × Unit)))) (s131 : ((List (Vec 2 Int)) × Int × (List Int) × Unit)) : Option (((List (Vec 2 Int)) × Int × (List Int) × Unit) ⊕ (((List (Vec 2 Int)) × (List Int) × Unit) ⊕ (((List Int) × Unit) × Unit))) :=
  bif (iLt s131.2.1 (lenI y104.1.1)) then
    bif inB s131.2.1 (List.length y104.1.1) then
      let x133 := List.getD y104.1.1 s131.2.1.toNat ((0, 0, ()) : (Vec 2 Int))
      let x136 := iAdd .i16 (Vec.getD 2 x103 0 (0 : Int)) (Vec.getD 2 x133 0 (0 : Int))
      let x139 := iAdd .i16 (Vec.getD 2 x103 1 (0 : Int)) (Vec.getD 2 x133 1 (0 : Int))
      (impl_Grid_has a0 ((x136, x139, ()) : (Vec 2 Int))).bind fun y140 =>
      bif (! y140.1.1) then
        some (Sum.inl (s131.1, (iAdd .i64 s131.2.1 1), s131.2.2.1, ()))
      else
      (impl_Grid_isWall a0 ((x136, x139, ()) : (Vec 2 Int))).bind fun y143 =>
      bif y143.1.1 then
        some (Sum.inl (s131.1, (iAdd .i64 s131.2.1 1), s131.2.2.1, ()))
      else
      (impl_Grid_stepCost a0 ((x136, x139, ()) : (Vec 2 Int)) x103).bind fun y145 =>
      bif (! y145.1.2.1) then
        some (Sum.inl (s131.1, (iAdd .i64 s131.2.1 1), s131.2.2.1, ()))
      else
      (impl_Grid_at a0 x103).bind fun y148 =>
      bif inB y148.1.1 (List.length s131.2.2.1) then
        let x150 := iAdd .i64 (List.getD s131.2.2.1 y148.1.1.toNat (0 : Int)) y145.1.1
        (impl_Grid_at a0 ((x136, x139, ()) : (Vec 2 Int))).bind fun y151 =>
        bif inB y151.1.1 (List.length s131.2.2.1) then
          let x152 := List.getD s131.2.2.1 y151.1.1.toNat (0 : Int)
          bif (iLt x152 0) then
            (impl_Grid_at a0 ((x136, x139, ()) : (Vec 2 Int))).bind fun y154 =>
            bif inB y154.1.1 (List.length s131.2.2.1) then
              bif room (List.length s131.1 + 1) 4 then
                some (Sum.inl ((s131.1 ++ ([(x136, x139, ())] : (List (Vec 2 Int)))), (iAdd .i64 s131.2.1 1), List.set s131.2.2.1 y154.1.1.toNat x150, ()))
              else none
            else none
          else
          bif (iLt x150 x152) then
            (impl_Grid_at a0 ((x136, x139, ()) : (Vec 2 Int))).bind fun y158 =>
            bif inB y158.1.1 (List.length s131.2.2.1) then
              bif room (List.length s131.1 + 1) 4 then
                some (Sum.inl ((s131.1 ++ ([(x136, x139, ())] : (List (Vec 2 Int)))), (iAdd .i64 s131.2.1 1), List.set s131.2.2.1 y158.1.1.toNat x150, ()))
              else none
            else none
          else
          some (Sum.inl (s131.1, (iAdd .i64 s131.2.1 1), s131.2.2.1, ()))
        else none
      else none
    else none
  else
  Option.map Sum.inr (bif inS 1 ((List.length s131.1 : Nat) : Int) (List.length s131.1) then some (Sum.inl (List.take ((List.length s131.1) - 1) (List.drop 1 s131.1), s131.2.2.1, ())) else none)
noncomputable def impl_Grid_costsTo_l4 (a0 : (Int × (Int × ((List Int) × Unit)))) (s101 : ((List (Vec 2 Int)) × (List Int) × Unit)) : Option (((List (Vec 2 Int)) × (List Int) × Unit) ⊕ (((List Int) × Unit) × Unit)) :=
  bif (iLt 0 (lenI s101.1)) then
    bif inB 0 (List.length s101.1) then
      let x103 := List.getD s101.1 0 ((0, 0, ()) : (Vec 2 Int))
      (impl_ways).bind fun y104 =>
      run (impl_Grid_costsTo_l8 y104 x103 a0) (s101.1, (0 : Int), s101.2.1, ())
    else none
  else
  Option.map Sum.inr (some ((s101.2.1, ()), ()))
noncomputable def impl_Grid_costsTo (a0 : (Int × (Int × ((List Int) × Unit)))) (a1 : (Vec 2 Int)) : Option (((List Int) × Unit) × Unit) :=
  (slices_Repeat_int64 ([(-1 : Int)] : (List Int)) (lenI a0.2.2.1)).bind fun y37 =>
  (impl_Grid_at a0 a1).bind fun y38 =>
  bif inB y38.1.1 (List.length y37.1.1) then run (impl_Grid_costsTo_l4 a0) (([a1] : (List (Vec 2 Int))), List.set y37.1.1 y38.1.1.toNat (0 : Int), ()) else none
noncomputable def impl_Grid_costsTo_sg : Sig := ⟨[.v (.pair (.int .i64) (.pair (.int .i64) (.pair (.list (.int .u8)) (.unit)))), .v (.arr 2 (.int .i16))], [.v (.rows (.int .i64))], false⟩
noncomputable def impl_Grid_costsTo_en : Entry := ⟨impl_Grid_costsTo_sg, fun x => impl_Grid_costsTo x.1 x.2.1⟩
theorem impl_Grid_costsTo_eq (x : impl_Grid_costsTo_sg.dom) : body (env [(66, impl_Grid_isWall_en), (91, impl_Grid_at_en), (92, impl_ways_en), (93, impl_Grid_stepCost_en), (136, impl_Grid_has_en), (137, slices_Repeat_int64_en)]) [(4, .vary [(6, .rows (.arr 2 (.int .i16))), (5, .mrows (.int .i64))]), (8, .vary [(6, .rows (.arr 2 (.int .i16))), (37, .sc (.int .i64)), (5, .mrows (.int .i64))])] Try.f67 impl_Grid_costsTo_sg x = impl_Grid_costsTo x.1 x.2.1 := by kernel_rfl
theorem impl_Grid_costsTo_so : Sound Try.prog 67 impl_Grid_costsTo_en := sound_of_body (envS (l := [(66, impl_Grid_isWall_en), (91, impl_Grid_at_en), (92, impl_ways_en), (93, impl_Grid_stepCost_en), (136, impl_Grid_has_en), (137, slices_Repeat_int64_en)]) (⟨impl_Grid_isWall_so, impl_Grid_at_so, impl_ways_so, impl_Grid_stepCost_so, impl_Grid_has_so, slices_Repeat_int64_so, trivial⟩)) Try.func67 (by kernel_rfl) rfl (fun x y h => (impl_Grid_costsTo_eq x).trans h)

-- loop.example/g01204/impl.ValidGrid
noncomputable def impl_ValidGrid (a0 : (Int × (Int × ((List Int) × Unit)))) : Option ((Bool × Unit) × Unit) :=
  (impl_within a0.1 (1 : Int) (24 : Int)).bind fun y267 =>
  bif y267.1.1 then
    (impl_within a0.2.1 (1 : Int) (24 : Int)).bind fun y268 =>
    bif y268.1.1 then
      some (((iEq (lenI a0.2.2.1) (iMul .i64 a0.1 a0.2.1)), ()), ())
    else some ((false, ()), ())
  else some ((false, ()), ())
noncomputable def impl_ValidGrid_sg : Sig := ⟨[.v (.pair (.int .i64) (.pair (.int .i64) (.pair (.list (.int .u8)) (.unit))))], [.v (.val (.bool))], false⟩
noncomputable def impl_ValidGrid_en : Entry := ⟨impl_ValidGrid_sg, fun x => impl_ValidGrid x.1⟩
theorem impl_ValidGrid_eq (x : impl_ValidGrid_sg.dom) : body (env [(99, impl_within_en)]) [] Try.f98 impl_ValidGrid_sg x = impl_ValidGrid x.1 := by kernel_rfl
theorem impl_ValidGrid_so : Sound Try.prog 98 impl_ValidGrid_en := sound_of_body (envS (l := [(99, impl_within_en)]) (⟨impl_within_so, trivial⟩)) Try.func98 (by kernel_rfl) rfl (fun x y h => (impl_ValidGrid_eq x).trans h)

-- loop.example/g01204/impl.checkSpots$1
noncomputable def impl_checkSpots_1 (a0 : (Vec 2 Int)) (a1 : (Int × (Int × ((List Int) × Unit)))) : Option ((Bool × Unit) × Unit) :=
  (impl_Grid_has a1 a0).bind fun y271 =>
  some (((! y271.1.1), ()), ())
noncomputable def impl_checkSpots_1_sg : Sig := ⟨[.v (.arr 2 (.int .i16)), .ro (.pair (.int .i64) (.pair (.int .i64) (.pair (.list (.int .u8)) (.unit))))], [.v (.val (.bool))], false⟩
noncomputable def impl_checkSpots_1_en : Entry := ⟨impl_checkSpots_1_sg, fun x => impl_checkSpots_1 x.1 x.2.1⟩
theorem impl_checkSpots_1_eq (x : impl_checkSpots_1_sg.dom) : body (env [(136, impl_Grid_has_en)]) [] Try.f135 impl_checkSpots_1_sg x = impl_checkSpots_1 x.1 x.2.1 := by kernel_rfl
theorem impl_checkSpots_1_so : Sound Try.prog 135 impl_checkSpots_1_en := sound_of_body (envS (l := [(136, impl_Grid_has_en)]) (⟨impl_Grid_has_so, trivial⟩)) Try.func135 (by kernel_rfl) rfl (fun x y h => (impl_checkSpots_1_eq x).trans h)

-- slices.IndexFunc[[]loop.example/g01204/impl.Spot,loop.example/g01204/impl.Spot]
noncomputable def slices_IndexFunc_impl_Spot_l2 (a0 : (List (Vec 2 Int))) (a1 : (((Vec 2 Int) × Unit) → Option Bool)) (s275 : (Int × Unit)) : Option ((Int × Unit) ⊕ ((Int × Unit) × Unit)) :=
  bif (iLt s275.1 (lenI a0)) then
    bif inB s275.1 (List.length a0) then
      (a1 ((List.getD a0 s275.1.toNat ((0, 0, ()) : (Vec 2 Int))), ())).bind fun y278 =>
      bif y278 then
        Option.map Sum.inr (some ((s275.1, ()), ()))
      else
      some (Sum.inl ((iAdd .i64 s275.1 1), ()))
    else none
  else
  Option.map Sum.inr (some ((((-1 : Int) : Int), ()), ()))
noncomputable def slices_IndexFunc_impl_Spot (a0 : (List (Vec 2 Int))) (a1 : (((Vec 2 Int) × Unit) → Option Bool)) : Option ((Int × Unit) × Unit) :=
  run (slices_IndexFunc_impl_Spot_l2 a0 a1) ((0 : Int), ())
noncomputable def slices_IndexFunc_impl_Spot_sg : Sig := ⟨[.v (.list (.arr 2 (.int .i16))), .fn ⟨[.arr 2 (.int .i16)], .bool⟩], [.v (.val (.int .i64))], false⟩
noncomputable def slices_IndexFunc_impl_Spot_en : Entry := ⟨slices_IndexFunc_impl_Spot_sg, fun x => slices_IndexFunc_impl_Spot x.1 x.2.1⟩
theorem slices_IndexFunc_impl_Spot_eq (x : slices_IndexFunc_impl_Spot_sg.dom) : body (env []) [(2, .vary [(8, .sc (.int .i64))])] Try.f185 slices_IndexFunc_impl_Spot_sg x = slices_IndexFunc_impl_Spot x.1 x.2.1 := by kernel_rfl
theorem slices_IndexFunc_impl_Spot_so : Sound Try.prog 185 slices_IndexFunc_impl_Spot_en := sound_of_body (envS (l := []) (trivial)) Try.func185 (by kernel_rfl) rfl (fun x y h => (slices_IndexFunc_impl_Spot_eq x).trans h)

-- slices.ContainsFunc[[]loop.example/g01204/impl.Spot,loop.example/g01204/impl.Spot]
noncomputable def slices_ContainsFunc_impl_Spot (a0 : (List (Vec 2 Int))) (a1 : (((Vec 2 Int) × Unit) → Option Bool)) : Option ((Bool × Unit) × Unit) :=
  (slices_IndexFunc_impl_Spot a0 a1).bind fun y273 =>
  some (((iLe 0 y273.1.1), ()), ())
noncomputable def slices_ContainsFunc_impl_Spot_sg : Sig := ⟨[.v (.list (.arr 2 (.int .i16))), .fn ⟨[.arr 2 (.int .i16)], .bool⟩], [.v (.val (.bool))], false⟩
noncomputable def slices_ContainsFunc_impl_Spot_en : Entry := ⟨slices_ContainsFunc_impl_Spot_sg, fun x => slices_ContainsFunc_impl_Spot x.1 x.2.1⟩
theorem slices_ContainsFunc_impl_Spot_eq (x : slices_ContainsFunc_impl_Spot_sg.dom) : body (env [(185, slices_IndexFunc_impl_Spot_en)]) [] Try.f134 slices_ContainsFunc_impl_Spot_sg x = slices_ContainsFunc_impl_Spot x.1 x.2.1 := by kernel_rfl
theorem slices_ContainsFunc_impl_Spot_so : Sound Try.prog 134 slices_ContainsFunc_impl_Spot_en := sound_of_body (envS (l := [(185, slices_IndexFunc_impl_Spot_en)]) (⟨slices_IndexFunc_impl_Spot_so, trivial⟩)) Try.func134 (by kernel_rfl) rfl (fun x y h => (slices_ContainsFunc_impl_Spot_eq x).trans h)

-- loop.example/g01204/impl.checkSpots
noncomputable def impl_checkSpots (a0 : (Int × (Int × ((List Int) × Unit)))) (a1 : (List (Vec 2 Int))) : Option ((Int × Unit) × Unit) :=
  (impl_ValidGrid a0).bind fun y263 =>
  bif (! y263.1.1) then some (((1 : Int), ()), ()) else
  (slices_ContainsFunc_impl_Spot a1 (fun (z265 : ((Vec 2 Int) × Unit)) => (impl_checkSpots_1 z265.1 a0).map fun y => y.1.1)).bind fun y266 =>
  bif y266.1.1 then some (((2 : Int), ()), ()) else some (((0 : Int), ()), ())
noncomputable def impl_checkSpots_sg : Sig := ⟨[.v (.pair (.int .i64) (.pair (.int .i64) (.pair (.list (.int .u8)) (.unit)))), .v (.list (.arr 2 (.int .i16)))], [.v (.val (.int .i64))], false⟩
noncomputable def impl_checkSpots_en : Entry := ⟨impl_checkSpots_sg, fun x => impl_checkSpots x.1 x.2.1⟩
theorem impl_checkSpots_eq (x : impl_checkSpots_sg.dom) : body (env [(98, impl_ValidGrid_en), (134, slices_ContainsFunc_impl_Spot_en), (135, impl_checkSpots_1_en)]) [] Try.f65 impl_checkSpots_sg x = impl_checkSpots x.1 x.2.1 := by kernel_rfl
theorem impl_checkSpots_so : Sound Try.prog 65 impl_checkSpots_en := sound_of_body (envS (l := [(98, impl_ValidGrid_en), (134, slices_ContainsFunc_impl_Spot_en), (135, impl_checkSpots_1_en)]) (⟨impl_ValidGrid_so, slices_ContainsFunc_impl_Spot_so, impl_checkSpots_1_so, trivial⟩)) Try.func65 (by kernel_rfl) rfl (fun x y h => (impl_checkSpots_eq x).trans h)

-- loop.example/g01204/impl.CostsTo
noncomputable def impl_CostsTo (a0 : (Int × (Int × ((List Int) × Unit)))) (a1 : (Vec 2 Int)) : Option (((List Int) × Int × Unit) × Unit) :=
  (impl_checkSpots a0 ([a1] : (List (Vec 2 Int)))).bind fun y33 =>
  bif (! (iEq y33.1.1 0)) then some ((([] : (List Int)), y33.1.1, ()), ()) else
  (impl_Grid_isWall a0 a1).bind fun y35 =>
  bif y35.1.1 then some ((([] : (List Int)), (4 : Int), ()), ()) else
  (impl_Grid_costsTo a0 a1).bind fun y36 =>
  some ((y36.1.1, (0 : Int), ()), ())
noncomputable def impl_CostsTo_sg : Sig := ⟨[.v (.pair (.int .i64) (.pair (.int .i64) (.pair (.list (.int .u8)) (.unit)))), .v (.arr 2 (.int .i16))], [.v (.rows (.int .i64)), .v (.val (.int .i64))], false⟩
noncomputable def impl_CostsTo_en : Entry := ⟨impl_CostsTo_sg, fun x => impl_CostsTo x.1 x.2.1⟩
theorem impl_CostsTo_eq (x : impl_CostsTo_sg.dom) : body (env [(65, impl_checkSpots_en), (66, impl_Grid_isWall_en), (67, impl_Grid_costsTo_en)]) [] Try.f15 impl_CostsTo_sg x = impl_CostsTo x.1 x.2.1 := by kernel_rfl
theorem impl_CostsTo_so : Sound Try.prog 15 impl_CostsTo_en := sound_of_body (envS (l := [(65, impl_checkSpots_en), (66, impl_Grid_isWall_en), (67, impl_Grid_costsTo_en)]) (⟨impl_checkSpots_so, impl_Grid_isWall_so, impl_Grid_costsTo_so, trivial⟩)) Try.func15 (by kernel_rfl) rfl (fun x y h => (impl_CostsTo_eq x).trans h)

-- loop.example/g01204/laws.eqByteS
noncomputable def laws_eqByteS_l4 (a0 : (List Int)) (a1 : (List Int)) (s285 : (Int × Unit)) : Option ((Int × Unit) ⊕ ((Bool × Unit) × Unit)) :=
  bif (iLt s285.1 (lenI a0)) then
    bif inB s285.1 (List.length a0) then
      bif inB s285.1 (List.length a1) then
        bif (! (iEq (List.getD a0 s285.1.toNat (0 : Int)) (List.getD a1 s285.1.toNat (0 : Int)))) then
          Option.map Sum.inr (some ((false, ()), ()))
        else
        some (Sum.inl ((iAdd .i64 s285.1 1), ()))
      else none
    else none
  else
  Option.map Sum.inr (some ((true, ()), ()))
noncomputable def laws_eqByteS (a0 : (List Int)) (a1 : (List Int)) : Option ((Bool × Unit) × Unit) :=
  bif (! (iEq (lenI a0) (lenI a1))) then some ((false, ()), ()) else run (laws_eqByteS_l4 a0 a1) ((0 : Int), ())
noncomputable def laws_eqByteS_sg : Sig := ⟨[.v (.list (.int .u8)), .v (.list (.int .u8))], [.v (.val (.bool))], false⟩
noncomputable def laws_eqByteS_en : Entry := ⟨laws_eqByteS_sg, fun x => laws_eqByteS x.1 x.2.1⟩
theorem laws_eqByteS_eq (x : laws_eqByteS_sg.dom) : body (env []) [(4, .vary [(5, .sc (.int .i64))])] Try.f68 laws_eqByteS_sg x = laws_eqByteS x.1 x.2.1 := by kernel_rfl
theorem laws_eqByteS_so : Sound Try.prog 68 laws_eqByteS_en := sound_of_body (envS (l := []) (trivial)) Try.func68 (by kernel_rfl) rfl (fun x y h => (laws_eqByteS_eq x).trans h)

-- loop.example/g01204/laws.eqGrid
noncomputable def laws_eqGrid (a0 : (Int × (Int × ((List Int) × Unit)))) (a1 : (Int × (Int × ((List Int) × Unit)))) : Option ((Bool × Unit) × Unit) :=
  bif (! (iEq a0.1 a1.1)) then some ((false, ()), ()) else
  bif (! (iEq a0.2.1 a1.2.1)) then some ((false, ()), ()) else
  (laws_eqByteS a0.2.2.1 a1.2.2.1).bind fun y282 =>
  bif (! y282.1.1) then some ((false, ()), ()) else some ((true, ()), ())
noncomputable def laws_eqGrid_sg : Sig := ⟨[.v (.pair (.int .i64) (.pair (.int .i64) (.pair (.list (.int .u8)) (.unit)))), .v (.pair (.int .i64) (.pair (.int .i64) (.pair (.list (.int .u8)) (.unit))))], [.v (.val (.bool))], false⟩
noncomputable def laws_eqGrid_en : Entry := ⟨laws_eqGrid_sg, fun x => laws_eqGrid x.1 x.2.1⟩
theorem laws_eqGrid_eq (x : laws_eqGrid_sg.dom) : body (env [(68, laws_eqByteS_en)]) [] Try.f17 laws_eqGrid_sg x = laws_eqGrid x.1 x.2.1 := by kernel_rfl
theorem laws_eqGrid_so : Sound Try.prog 17 laws_eqGrid_en := sound_of_body (envS (l := [(68, laws_eqByteS_en)]) (⟨laws_eqByteS_so, trivial⟩)) Try.func17 (by kernel_rfl) rfl (fun x y h => (laws_eqGrid_eq x).trans h)

-- loop.example/g01204/laws.eqInt64S
noncomputable def laws_eqInt64S_l4 (a0 : (List Int)) (a1 : (List Int)) (s292 : (Int × Unit)) : Option ((Int × Unit) ⊕ ((Bool × Unit) × Unit)) :=
  bif (iLt s292.1 (lenI a0)) then
    bif inB s292.1 (List.length a0) then
      bif inB s292.1 (List.length a1) then
        bif (! (iEq (List.getD a0 s292.1.toNat (0 : Int)) (List.getD a1 s292.1.toNat (0 : Int)))) then
          Option.map Sum.inr (some ((false, ()), ()))
        else
        some (Sum.inl ((iAdd .i64 s292.1 1), ()))
      else none
    else none
  else
  Option.map Sum.inr (some ((true, ()), ()))
noncomputable def laws_eqInt64S (a0 : (List Int)) (a1 : (List Int)) : Option ((Bool × Unit) × Unit) :=
  bif (! (iEq (lenI a0) (lenI a1))) then some ((false, ()), ()) else run (laws_eqInt64S_l4 a0 a1) ((0 : Int), ())
noncomputable def laws_eqInt64S_sg : Sig := ⟨[.v (.list (.int .i64)), .v (.list (.int .i64))], [.v (.val (.bool))], false⟩
noncomputable def laws_eqInt64S_en : Entry := ⟨laws_eqInt64S_sg, fun x => laws_eqInt64S x.1 x.2.1⟩
theorem laws_eqInt64S_eq (x : laws_eqInt64S_sg.dom) : body (env []) [(4, .vary [(5, .sc (.int .i64))])] Try.f16 laws_eqInt64S_sg x = laws_eqInt64S x.1 x.2.1 := by kernel_rfl
theorem laws_eqInt64S_so : Sound Try.prog 16 laws_eqInt64S_en := sound_of_body (envS (l := []) (trivial)) Try.func16 (by kernel_rfl) rfl (fun x y h => (laws_eqInt64S_eq x).trans h)

-- loop.example/g01204/laws.heldInt64S
noncomputable def laws_heldInt64S_l2 (a0 : (List Int)) (s298 : (Int × Int × Unit)) : Option ((Int × Int × Unit) ⊕ ((Int × Unit) × Unit)) :=
  bif (iLt s298.2.1 (lenI a0)) then
    bif inB s298.2.1 (List.length a0) then
      bif (! (iEq (List.getD a0 s298.2.1.toNat (0 : Int)) s298.1)) then
        Option.map Sum.inr (some ((((-1 : Int) : Int), ()), ()))
      else
      some (Sum.inl ((iAdd .i64 s298.1 1), (iAdd .i64 s298.2.1 1), ()))
    else none
  else
  Option.map Sum.inr (some ((s298.1, ()), ()))
noncomputable def laws_heldInt64S (a0 : (List Int)) (a1 : Int) : Option ((Int × Unit) × Unit) :=
  run (laws_heldInt64S_l2 a0) (a1, (0 : Int), ())
noncomputable def laws_heldInt64S_sg : Sig := ⟨[.v (.list (.int .i64)), .v (.int .i64)], [.v (.val (.int .i64))], false⟩
noncomputable def laws_heldInt64S_en : Entry := ⟨laws_heldInt64S_sg, fun x => laws_heldInt64S x.1 x.2.1⟩
theorem laws_heldInt64S_eq (x : laws_heldInt64S_sg.dom) : body (env []) [(2, .vary [(1, .sc (.int .i64)), (5, .sc (.int .i64))])] Try.f20 laws_heldInt64S_sg x = laws_heldInt64S x.1 x.2.1 := by kernel_rfl
theorem laws_heldInt64S_so : Sound Try.prog 20 laws_heldInt64S_en := sound_of_body (envS (l := []) (trivial)) Try.func20 (by kernel_rfl) rfl (fun x y h => (laws_heldInt64S_eq x).trans h)

-- loop.example/g01204/laws.markByteS
noncomputable def laws_markByteS_l2 (s310 : (Int × Int × (List Int) × Unit)) : Option ((Int × Int × (List Int) × Unit) ⊕ ((Int × Unit) × ((List Int) × Unit))) :=
  bif (iLt s310.2.1 (lenI s310.2.2.1)) then
    bif inB s310.2.1 (List.length s310.2.2.1) then
      some (Sum.inl ((iAdd .i64 s310.1 1), (iAdd .i64 s310.2.1 1), List.set s310.2.2.1 s310.2.1.toNat (iWrap .u8 s310.1), ()))
    else none
  else
  Option.map Sum.inr (some ((s310.1, ()), (s310.2.2.1, ())))
noncomputable def laws_markByteS (a0 : (List Int)) (a1 : Int) : Option ((Int × Unit) × ((List Int) × Unit)) :=
  run (laws_markByteS_l2) (a1, (0 : Int), a0, ())
noncomputable def laws_markByteS_sg : Sig := ⟨[.mv (.rows (.int .u8)), .v (.int .i64)], [.v (.val (.int .i64))], false⟩
noncomputable def laws_markByteS_en : Entry := ⟨laws_markByteS_sg, fun x => laws_markByteS x.1 x.2.1⟩
theorem laws_markByteS_eq (x : laws_markByteS_sg.dom) : body (env []) [(2, .vary [(1, .sc (.int .i64)), (5, .sc (.int .i64)), (0, .mrows (.int .u8))])] Try.f69 laws_markByteS_sg x = laws_markByteS x.1 x.2.1 := by kernel_rfl
theorem laws_markByteS_so : Sound Try.prog 69 laws_markByteS_en := sound_of_body (envS (l := []) (trivial)) Try.func69 (by kernel_rfl) rfl (fun x y h => (laws_markByteS_eq x).trans h)

-- loop.example/g01204/laws.markGrid
noncomputable def laws_markGrid (a0 : (Int × (Int × ((List Int) × Unit)))) (a1 : Int) : Option ((Int × Unit) × ((Int × (Int × ((List Int) × Unit))) × Unit)) :=
  (laws_markByteS a0.2.2.1 a1).bind fun y304 =>
  some ((y304.1.1, ()), (((a0.1, a0.2.1, y304.2.1, a0.2.2.2) : (Int × (Int × ((List Int) × Unit)))), ()))
noncomputable def laws_markGrid_sg : Sig := ⟨[.mv (.pair (.val (.int .i64)) (.pair (.val (.int .i64)) (.pair (.rows (.int .u8)) (.val (.unit))))), .v (.int .i64)], [.v (.val (.int .i64))], false⟩
noncomputable def laws_markGrid_en : Entry := ⟨laws_markGrid_sg, fun x => laws_markGrid x.1 x.2.1⟩
theorem laws_markGrid_eq (x : laws_markGrid_sg.dom) : body (env [(69, laws_markByteS_en)]) [] Try.f18 laws_markGrid_sg x = laws_markGrid x.1 x.2.1 := by kernel_rfl
theorem laws_markGrid_so : Sound Try.prog 18 laws_markGrid_en := sound_of_body (envS (l := [(69, laws_markByteS_en)]) (⟨laws_markByteS_so, trivial⟩)) Try.func18 (by kernel_rfl) rfl (fun x y h => (laws_markGrid_eq x).trans h)

-- loop.example/g01204/laws.markInt64S
noncomputable def laws_markInt64S_l2 (s319 : (Int × Int × (List Int) × Unit)) : Option ((Int × Int × (List Int) × Unit) ⊕ ((Int × Unit) × ((List Int) × Unit))) :=
  bif (iLt s319.2.1 (lenI s319.2.2.1)) then
    bif inB s319.2.1 (List.length s319.2.2.1) then
      some (Sum.inl ((iAdd .i64 s319.1 1), (iAdd .i64 s319.2.1 1), (List.set s319.2.2.1 s319.2.1.toNat s319.1), ()))
    else none
  else
  Option.map Sum.inr (some ((s319.1, ()), (s319.2.2.1, ())))
noncomputable def laws_markInt64S (a0 : (List Int)) (a1 : Int) : Option ((Int × Unit) × ((List Int) × Unit)) :=
  run (laws_markInt64S_l2) (a1, (0 : Int), a0, ())
noncomputable def laws_markInt64S_sg : Sig := ⟨[.mv (.rows (.int .i64)), .v (.int .i64)], [.v (.val (.int .i64))], false⟩
noncomputable def laws_markInt64S_en : Entry := ⟨laws_markInt64S_sg, fun x => laws_markInt64S x.1 x.2.1⟩
theorem laws_markInt64S_eq (x : laws_markInt64S_sg.dom) : body (env []) [(2, .vary [(1, .sc (.int .i64)), (5, .sc (.int .i64)), (0, .mrows (.int .i64))])] Try.f19 laws_markInt64S_sg x = laws_markInt64S x.1 x.2.1 := by kernel_rfl
theorem laws_markInt64S_so : Sound Try.prog 19 laws_markInt64S_en := sound_of_body (envS (l := []) (trivial)) Try.func19 (by kernel_rfl) rfl (fun x y h => (laws_markInt64S_eq x).trans h)

-- loop.example/g01204/laws.szByteS
noncomputable def laws_szByteS (a0 : (List Int)) (a1 : Int) : Option ((Int × Unit) × Unit) :=
  let x326 := iSub .i64 a1 (lenI a0)
  bif (iLt x326 0) then some ((((-1 : Int) : Int), ()), ()) else some ((x326, ()), ())
noncomputable def laws_szByteS_sg : Sig := ⟨[.v (.list (.int .u8)), .v (.int .i64)], [.v (.val (.int .i64))], false⟩
noncomputable def laws_szByteS_en : Entry := ⟨laws_szByteS_sg, fun x => laws_szByteS x.1 x.2.1⟩
theorem laws_szByteS_eq (x : laws_szByteS_sg.dom) : body (env []) [] Try.f61 laws_szByteS_sg x = laws_szByteS x.1 x.2.1 := by kernel_rfl
theorem laws_szByteS_so : Sound Try.prog 61 laws_szByteS_en := sound_of_body (envS (l := []) (trivial)) Try.func61 (by kernel_rfl) rfl (fun x y h => (laws_szByteS_eq x).trans h)

-- loop.example/g01204/laws.szGrid
noncomputable def laws_szGrid (a0 : (Int × (Int × ((List Int) × Unit)))) (a1 : Int) : Option ((Int × Unit) × Unit) :=
  (laws_szByteS a0.2.2.1 a1).bind fun y324 =>
  bif (iLt y324.1.1 0) then some ((((-1 : Int) : Int), ()), ()) else some ((y324.1.1, ()), ())
noncomputable def laws_szGrid_sg : Sig := ⟨[.v (.pair (.int .i64) (.pair (.int .i64) (.pair (.list (.int .u8)) (.unit)))), .v (.int .i64)], [.v (.val (.int .i64))], false⟩
noncomputable def laws_szGrid_en : Entry := ⟨laws_szGrid_sg, fun x => laws_szGrid x.1 x.2.1⟩
theorem laws_szGrid_eq (x : laws_szGrid_sg.dom) : body (env [(61, laws_szByteS_en)]) [] Try.f11 laws_szGrid_sg x = laws_szGrid x.1 x.2.1 := by kernel_rfl
theorem laws_szGrid_so : Sound Try.prog 11 laws_szGrid_en := sound_of_body (envS (l := [(61, laws_szByteS_en)]) (⟨laws_szByteS_so, trivial⟩)) Try.func11 (by kernel_rfl) rfl (fun x y h => (laws_szGrid_eq x).trans h)

-- loop.example/g01204/laws.toByteS
noncomputable def laws_toByteS_l3 (a0 : (List Int)) (s334 : (Int × (List Int) × Unit)) : Option ((Int × (List Int) × Unit) ⊕ (((List Int) × Unit) × Unit)) :=
  bif (iLt s334.1 (lenI a0)) then
    bif inB s334.1 (List.length a0) then
      bif inB s334.1 (List.length s334.2.1) then
        some (Sum.inl ((iAdd .i64 s334.1 1), List.set s334.2.1 s334.1.toNat (List.getD a0 s334.1.toNat (0 : Int)), ()))
      else none
    else none
  else
  Option.map Sum.inr (some ((s334.2.1, ()), ()))
noncomputable def laws_toByteS (a0 : (List Int)) : Option (((List Int) × Unit) × Unit) :=
  bif (iLe 0 (lenI a0) && iLe (lenI a0) (lenI a0) && room (lenI a0).toNat 1) then run (laws_toByteS_l3 a0) ((0 : Int), List.replicate (lenI a0).toNat (0 : Int), ()) else none
noncomputable def laws_toByteS_sg : Sig := ⟨[.v (.list (.int .u8))], [.v (.rows (.int .u8))], false⟩
noncomputable def laws_toByteS_en : Entry := ⟨laws_toByteS_sg, fun x => laws_toByteS x.1⟩
theorem laws_toByteS_eq (x : laws_toByteS_sg.dom) : body (env []) [(3, .vary [(4, .sc (.int .i64)), (3, .mrows (.int .u8))])] Try.f64 laws_toByteS_sg x = laws_toByteS x.1 := by kernel_rfl
theorem laws_toByteS_so : Sound Try.prog 64 laws_toByteS_en := sound_of_body (envS (l := []) (trivial)) Try.func64 (by kernel_rfl) rfl (fun x y h => (laws_toByteS_eq x).trans h)

-- loop.example/g01204/laws.toGrid
noncomputable def laws_toGrid (a0 : (Int × (Int × ((List Int) × Unit)))) : Option (((Int × (Int × ((List Int) × Unit))) × Unit) × Unit) :=
  (laws_toByteS a0.2.2.1).bind fun y328 =>
  some ((((a0.1, a0.2.1, y328.1.1, ()) : (Int × (Int × ((List Int) × Unit)))), ()), ())
noncomputable def laws_toGrid_sg : Sig := ⟨[.v (.pair (.int .i64) (.pair (.int .i64) (.pair (.list (.int .u8)) (.unit))))], [.v (.pair (.val (.int .i64)) (.pair (.val (.int .i64)) (.pair (.rows (.int .u8)) (.val (.unit)))))], false⟩
noncomputable def laws_toGrid_en : Entry := ⟨laws_toGrid_sg, fun x => laws_toGrid x.1⟩
theorem laws_toGrid_eq (x : laws_toGrid_sg.dom) : body (env [(64, laws_toByteS_en)]) [] Try.f13 laws_toGrid_sg x = laws_toGrid x.1 := by kernel_rfl
theorem laws_toGrid_so : Sound Try.prog 13 laws_toGrid_en := sound_of_body (envS (l := [(64, laws_toByteS_en)]) (⟨laws_toByteS_so, trivial⟩)) Try.func13 (by kernel_rfl) rfl (fun x y h => (laws_toGrid_eq x).trans h)

-- loop.example/g01204/laws.toSpot
noncomputable def laws_toSpot (a0 : (Vec 2 Int)) : Option (((Vec 2 Int) × Unit) × Unit) :=
  some (((((Vec.getD 2 a0 0 (0 : Int)), (Vec.getD 2 a0 1 (0 : Int)), ()) : (Vec 2 Int)), ()), ())
noncomputable def laws_toSpot_sg : Sig := ⟨[.v (.arr 2 (.int .i16))], [.v (.val (.arr 2 (.int .i16)))], false⟩
noncomputable def laws_toSpot_en : Entry := ⟨laws_toSpot_sg, fun x => laws_toSpot x.1⟩
theorem laws_toSpot_eq (x : laws_toSpot_sg.dom) : body (env []) [(3, .unroll 3)] Try.f14 laws_toSpot_sg x = laws_toSpot x.1 := by kernel_rfl
theorem laws_toSpot_so : Sound Try.prog 14 laws_toSpot_en := sound_of_body (envS (l := []) (trivial)) Try.func14 (by kernel_rfl) rfl (fun x y h => (laws_toSpot_eq x).trans h)

-- loop.example/g01204/spec.l07Index
noncomputable def spec_l07Index (a0 : (Int × (Int × ((List Int) × Unit)))) (a1 : (Vec 2 Int)) : Option ((Int × Unit) × Unit) :=
  some (((iAdd .i64 (iMul .i64 (iWrap .i64 (Vec.getD 2 a1 1 (0 : Int))) a0.1) (iWrap .i64 (Vec.getD 2 a1 0 (0 : Int)))), ()), ())
noncomputable def spec_l07Index_sg : Sig := ⟨[.ro (.pair (.int .i64) (.pair (.int .i64) (.pair (.list (.int .u8)) (.unit)))), .v (.arr 2 (.int .i16))], [.v (.val (.int .i64))], false⟩
noncomputable def spec_l07Index_en : Entry := ⟨spec_l07Index_sg, fun x => spec_l07Index x.1 x.2.1⟩
theorem spec_l07Index_eq (x : spec_l07Index_sg.dom) : body (env []) [] Try.f94 spec_l07Index_sg x = spec_l07Index x.1 x.2.1 := by kernel_rfl
theorem spec_l07Index_so : Sound Try.prog 94 spec_l07Index_en := sound_of_body (envS (l := []) (trivial)) Try.func94 (by kernel_rfl) rfl (fun x y h => (spec_l07Index_eq x).trans h)

-- loop.example/g01204/spec.l00In
noncomputable def spec_l00In (a0 : Int) (a1 : Int) (a2 : Int) : Option ((Bool × Unit) × Unit) :=
  bif (iLe a1 a0) then
    some (((iLe a0 a2), ()), ())
  else some ((false, ()), ())
noncomputable def spec_l00In_sg : Sig := ⟨[.v (.int .i64), .v (.int .i64), .v (.int .i64)], [.v (.val (.bool))], false⟩
noncomputable def spec_l00In_en : Entry := ⟨spec_l00In_sg, fun x => spec_l00In x.1 x.2.1 x.2.2.1⟩
theorem spec_l00In_eq (x : spec_l00In_sg.dom) : body (env []) [] Try.f101 spec_l00In_sg x = spec_l00In x.1 x.2.1 x.2.2.1 := by kernel_rfl
theorem spec_l00In_so : Sound Try.prog 101 spec_l00In_en := sound_of_body (envS (l := []) (trivial)) Try.func101 (by kernel_rfl) rfl (fun x y h => (spec_l00In_eq x).trans h)

-- loop.example/g01204/spec.l07At
noncomputable def spec_l07At (a0 : (Int × (Int × ((List Int) × Unit)))) (a1 : Int) (a2 : Int) : Option ((Bool × Unit) × Unit) :=
  (spec_l00In a1 (0 : Int) (iSub .i64 a0.1 1)).bind fun y580 =>
  bif y580.1.1 then
    (spec_l00In a2 (0 : Int) (iSub .i64 a0.2.1 1)).bind fun y582 =>
    some ((y582.1.1, ()), ())
  else some ((false, ()), ())
noncomputable def spec_l07At_sg : Sig := ⟨[.ro (.pair (.int .i64) (.pair (.int .i64) (.pair (.list (.int .u8)) (.unit)))), .v (.int .i64), .v (.int .i64)], [.v (.val (.bool))], false⟩
noncomputable def spec_l07At_en : Entry := ⟨spec_l07At_sg, fun x => spec_l07At x.1 x.2.1 x.2.2.1⟩
theorem spec_l07At_eq (x : spec_l07At_sg.dom) : body (env [(101, spec_l00In_en)]) [] Try.f151 spec_l07At_sg x = spec_l07At x.1 x.2.1 x.2.2.1 := by kernel_rfl
theorem spec_l07At_so : Sound Try.prog 151 spec_l07At_en := sound_of_body (envS (l := [(101, spec_l00In_en)]) (⟨spec_l00In_so, trivial⟩)) Try.func151 (by kernel_rfl) rfl (fun x y h => (spec_l07At_eq x).trans h)

-- loop.example/g01204/spec.l07Wall
noncomputable def spec_l07Wall (a0 : (Int × (Int × ((List Int) × Unit)))) (a1 : (Vec 2 Int)) : Option ((Bool × Unit) × Unit) :=
  (spec_l07Index a0 a1).bind fun y585 =>
  bif inB y585.1.1 (List.length a0.2.2.1) then
    some (((iEq (List.getD a0.2.2.1 y585.1.1.toNat (0 : Int)) 255), ()), ())
  else none
noncomputable def spec_l07Wall_sg : Sig := ⟨[.ro (.pair (.int .i64) (.pair (.int .i64) (.pair (.list (.int .u8)) (.unit)))), .v (.arr 2 (.int .i16))], [.v (.val (.bool))], false⟩
noncomputable def spec_l07Wall_en : Entry := ⟨spec_l07Wall_sg, fun x => spec_l07Wall x.1 x.2.1⟩
theorem spec_l07Wall_eq (x : spec_l07Wall_sg.dom) : body (env [(94, spec_l07Index_en)]) [] Try.f133 spec_l07Wall_sg x = spec_l07Wall x.1 x.2.1 := by kernel_rfl
theorem spec_l07Wall_so : Sound Try.prog 133 spec_l07Wall_en := sound_of_body (envS (l := [(94, spec_l07Index_en)]) (⟨spec_l07Index_so, trivial⟩)) Try.func133 (by kernel_rfl) rfl (fun x y h => (spec_l07Wall_eq x).trans h)

-- loop.example/g01204/spec.l07Move
noncomputable def spec_l07Move (a0 : (Int × (Int × ((List Int) × Unit)))) (a1 : (Vec 2 Int)) (a2 : Int) (a3 : Int) : Option (((Vec 2 Int) × Int × Bool × Unit) × Unit) :=
  let x552 := iAdd .i64 (iWrap .i64 (Vec.getD 2 a1 0 (0 : Int))) a2
  let x555 := iAdd .i64 (iWrap .i64 (Vec.getD 2 a1 1 (0 : Int))) a3
  (spec_l07At a0 x552 x555).bind fun y556 =>
  bif (! y556.1.1) then some ((((0, 0, ()) : (Vec 2 Int)), (0 : Int), false, ()), ()) else
  let x558 := iWrap .i16 x552
  let x559 := iWrap .i16 x555
  (spec_l07Wall a0 ((x558, x559, ()) : (Vec 2 Int))).bind fun y560 =>
  bif y560.1.1 then some ((((0, 0, ()) : (Vec 2 Int)), (0 : Int), false, ()), ()) else
  bif (! (iEq a2 0)) then
    bif (! (iEq a3 0)) then
      (spec_l07Wall a0 ((x558, (Vec.getD 2 a1 1 (0 : Int)), ()) : (Vec 2 Int))).bind fun y564 =>
      bif y564.1.1 then some ((((0, 0, ()) : (Vec 2 Int)), (0 : Int), false, ()), ()) else
      (spec_l07Wall a0 (((Vec.getD 2 a1 0 (0 : Int)), x559, ()) : (Vec 2 Int))).bind fun y566 =>
      bif y566.1.1 then some ((((0, 0, ()) : (Vec 2 Int)), (0 : Int), false, ()), ()) else
      (spec_l07Index a0 ((x558, x559, ()) : (Vec 2 Int))).bind fun y567 =>
      bif inB y567.1.1 (List.length a0.2.2.1) then
        some ((((x558, x559, ()) : (Vec 2 Int)), (iAdd .i64 14 (iWrap .i64 (List.getD a0.2.2.1 y567.1.1.toNat (0 : Int)))), true, ()), ())
      else none
    else
    (spec_l07Index a0 ((x558, x559, ()) : (Vec 2 Int))).bind fun y571 =>
    bif inB y571.1.1 (List.length a0.2.2.1) then
      some ((((x558, x559, ()) : (Vec 2 Int)), (iAdd .i64 10 (iWrap .i64 (List.getD a0.2.2.1 y571.1.1.toNat (0 : Int)))), true, ()), ())
    else none
  else
  (spec_l07Index a0 ((x558, x559, ()) : (Vec 2 Int))).bind fun y575 =>
  bif inB y575.1.1 (List.length a0.2.2.1) then
    some ((((x558, x559, ()) : (Vec 2 Int)), (iAdd .i64 10 (iWrap .i64 (List.getD a0.2.2.1 y575.1.1.toNat (0 : Int)))), true, ()), ())
  else none
noncomputable def spec_l07Move_sg : Sig := ⟨[.ro (.pair (.int .i64) (.pair (.int .i64) (.pair (.list (.int .u8)) (.unit)))), .v (.arr 2 (.int .i16)), .v (.int .i64), .v (.int .i64)], [.v (.val (.arr 2 (.int .i16))), .v (.val (.int .i64)), .v (.val (.bool))], false⟩
noncomputable def spec_l07Move_en : Entry := ⟨spec_l07Move_sg, fun x => spec_l07Move x.1 x.2.1 x.2.2.1 x.2.2.2.1⟩
theorem spec_l07Move_eq (x : spec_l07Move_sg.dom) : body (env [(94, spec_l07Index_en), (133, spec_l07Wall_en), (151, spec_l07At_en)]) [] Try.f96 spec_l07Move_sg x = spec_l07Move x.1 x.2.1 x.2.2.1 x.2.2.2.1 := by kernel_rfl
theorem spec_l07Move_so : Sound Try.prog 96 spec_l07Move_en := sound_of_body (envS (l := [(94, spec_l07Index_en), (133, spec_l07Wall_en), (151, spec_l07At_en)]) (⟨spec_l07Index_so, spec_l07Wall_so, spec_l07At_so, trivial⟩)) Try.func96 (by kernel_rfl) rfl (fun x y h => (spec_l07Move_eq x).trans h)

-- loop.example/g01204/spec.l07Ways
noncomputable def spec_l07Ways : Option (((List (Vec 2 Int)) × Unit) × Unit) :=
  some ((([(1, 0, ()), (0, 1, ()), ((-1 : Int), 0, ()), (0, (-1 : Int), ()), (1, 1, ()), ((-1 : Int), 1, ()), ((-1 : Int), (-1 : Int), ()), (1, (-1 : Int), ())] : (List (Vec 2 Int))), ()), ())
noncomputable def spec_l07Ways_sg : Sig := ⟨[], [.v (.rows (.arr 2 (.int .i64)))], false⟩
noncomputable def spec_l07Ways_en : Entry := ⟨spec_l07Ways_sg, fun _ => spec_l07Ways⟩
theorem spec_l07Ways_eq (x : spec_l07Ways_sg.dom) : body (env []) [] Try.f95 spec_l07Ways_sg x = spec_l07Ways  := by kernel_rfl
theorem spec_l07Ways_so : Sound Try.prog 95 spec_l07Ways_en := sound_of_body (envS (l := []) (trivial)) Try.func95 (by kernel_rfl) rfl (fun x y h => (spec_l07Ways_eq x).trans h)

-- loop.example/g01204/spec.l07Costs
noncomputable def spec_l07Costs_l17 (y353 : (((List (Vec 2 Int)) × Unit) × Unit)) (a0 : (Int × (Int × ((List Int) × Unit)))) (x500 : Int) (x502 : Int) (s497 : (Bool × Int × (List Int) × Unit)) (s522 : (Bool × Int × (List Int) × Unit)) : Option ((Bool × Int × (List Int) × Unit) ⊕ ((Bool × Int × (List Int) × Unit) ⊕ ((Bool × (List Int) × Unit) ⊕ (((List Int) × Unit) × Unit)))) :=
  bif (iLt s522.2.1 8) then
    bif inB s522.2.1 (List.length y353.1.1) then
      bif inB s522.2.1 (List.length y353.1.1) then
        (spec_l07Move a0 ((x500, x502, ()) : (Vec 2 Int)) (Vec.getD 2 (List.getD y353.1.1 s522.2.1.toNat ((0, 0, ()) : (Vec 2 Int))) 0 (0 : Int)) (Vec.getD 2 (List.getD y353.1.1 s522.2.1.toNat ((0, 0, ()) : (Vec 2 Int))) 1 (0 : Int))).bind fun y526 =>
        bif (! y526.1.2.2.1) then
          some (Sum.inl (s522.1, (iAdd .i64 s522.2.1 1), s522.2.2.1, ()))
        else
        (spec_l07Index a0 y526.1.1).bind fun y529 =>
        bif inB y529.1.1 (List.length s522.2.2.1) then
          bif (iLt (List.getD s522.2.2.1 y529.1.1.toNat (0 : Int)) 0) then
            some (Sum.inl (s522.1, (iAdd .i64 s522.2.1 1), s522.2.2.1, ()))
          else
          (spec_l07Index a0 y526.1.1).bind fun y533 =>
          bif inB y533.1.1 (List.length s522.2.2.1) then
            let x535 := iAdd .i64 y526.1.2.1 (List.getD s522.2.2.1 y533.1.1.toNat (0 : Int))
            bif inB s497.2.1 (List.length s522.2.2.1) then
              bif (iLt (List.getD s522.2.2.1 s497.2.1.toNat (0 : Int)) 0) then
                bif inB s497.2.1 (List.length s522.2.2.1) then
                  some (Sum.inl (true, (iAdd .i64 s522.2.1 1), List.set s522.2.2.1 s497.2.1.toNat x535, ()))
                else none
              else
              bif inB s497.2.1 (List.length s522.2.2.1) then
                bif (iLt x535 (List.getD s522.2.2.1 s497.2.1.toNat (0 : Int))) then
                  bif inB s497.2.1 (List.length s522.2.2.1) then
                    some (Sum.inl (true, (iAdd .i64 s522.2.1 1), List.set s522.2.2.1 s497.2.1.toNat x535, ()))
                  else none
                else
                some (Sum.inl (s522.1, (iAdd .i64 s522.2.1 1), s522.2.2.1, ()))
              else none
            else none
          else none
        else none
      else none
    else none
  else
  Option.map Sum.inr (some (Sum.inl (s522.1, (iAdd .i64 s497.2.1 1), s522.2.2.1, ())))
noncomputable def spec_l07Costs_l12 (a0 : (Int × (Int × ((List Int) × Unit)))) (y353 : (((List (Vec 2 Int)) × Unit) × Unit)) (s497 : (Bool × Int × (List Int) × Unit)) : Option ((Bool × Int × (List Int) × Unit) ⊕ ((Bool × (List Int) × Unit) ⊕ (((List Int) × Unit) × Unit))) :=
  bif (iLt s497.2.1 (lenI s497.2.2.1)) then
    bif iEq a0.1 0 then none else
    let x500 := iWrap .i16 (iRem .i64 s497.2.1 a0.1)
    bif iEq a0.1 0 then none else
    let x502 := iWrap .i16 (iQuo .i64 s497.2.1 a0.1)
    (spec_l07Wall a0 ((x500, x502, ()) : (Vec 2 Int))).bind fun y503 =>
    bif y503.1.1 then
      some (Sum.inl (s497.1, (iAdd .i64 s497.2.1 1), s497.2.2.1, ()))
    else run (spec_l07Costs_l17 y353 a0 x500 x502 s497) (s497.1, (0 : Int), s497.2.2.1, ())
  else
  Option.map Sum.inr (some (Sum.inl (s497.1, s497.2.2.1, ())))
noncomputable def spec_l07Costs_l9 (a0 : (Int × (Int × ((List Int) × Unit)))) (y353 : (((List (Vec 2 Int)) × Unit) × Unit)) (s449 : (Bool × (List Int) × Unit)) : Option ((Bool × (List Int) × Unit) ⊕ (((List Int) × Unit) × Unit)) :=
  bif s449.1 then run (spec_l07Costs_l12 a0 y353) (false, (0 : Int), s449.2.1, ()) else
  Option.map Sum.inr (some ((s449.2.1, ()), ()))
noncomputable def spec_l07Costs_l3 (a0 : (Int × (Int × ((List Int) × Unit)))) (a1 : (Vec 2 Int)) (s347 : (Int × (List Int) × Unit)) : Option ((Int × (List Int) × Unit) ⊕ (((List Int) × Unit) × Unit)) :=
  bif (iLt s347.1 (lenI s347.2.1)) then
    bif inB s347.1 (List.length s347.2.1) then
      some (Sum.inl ((iAdd .i64 s347.1 1), (List.set s347.2.1 s347.1.toNat ((-1 : Int) : Int)), ()))
    else none
  else
  Option.map Sum.inr (
    (spec_l07Index a0 a1).bind fun y351 =>
    bif inB y351.1.1 (List.length s347.2.1) then
      (spec_l07Ways).bind fun y353 =>
      run (spec_l07Costs_l9 a0 y353) (true, (List.set s347.2.1 y351.1.1.toNat (0 : Int)), ())
    else none)
noncomputable def spec_l07Costs (a0 : (Int × (Int × ((List Int) × Unit)))) (a1 : (Vec 2 Int)) : Option (((List Int) × Unit) × Unit) :=
  bif (iLe 0 (lenI a0.2.2.1) && iLe (lenI a0.2.2.1) (lenI a0.2.2.1) && room (lenI a0.2.2.1).toNat 8) then run (spec_l07Costs_l3 a0 a1) ((0 : Int), List.replicate (lenI a0.2.2.1).toNat (0 : Int), ()) else none
noncomputable def spec_l07Costs_sg : Sig := ⟨[.ro (.pair (.int .i64) (.pair (.int .i64) (.pair (.list (.int .u8)) (.unit)))), .v (.arr 2 (.int .i16))], [.v (.rows (.int .i64))], false⟩
noncomputable def spec_l07Costs_en : Entry := ⟨spec_l07Costs_sg, fun x => spec_l07Costs x.1 x.2.1⟩
theorem spec_l07Costs_eq (x : spec_l07Costs_sg.dom) : body (env [(94, spec_l07Index_en), (95, spec_l07Ways_en), (96, spec_l07Move_en), (133, spec_l07Wall_en)]) [(3, .vary [(6, .sc (.int .i64)), (5, .mrows (.int .i64))]), (9, .vary [(8, .sc (.bool)), (5, .mrows (.int .i64))]), (12, .vary [(8, .sc (.bool)), (9, .sc (.int .i64)), (5, .mrows (.int .i64))]), (17, .vary [(8, .sc (.bool)), (11, .sc (.int .i64)), (5, .mrows (.int .i64))])] Try.f63 spec_l07Costs_sg x = spec_l07Costs x.1 x.2.1 := by kernel_rfl
theorem spec_l07Costs_so : Sound Try.prog 63 spec_l07Costs_en := sound_of_body (envS (l := [(94, spec_l07Index_en), (95, spec_l07Ways_en), (96, spec_l07Move_en), (133, spec_l07Wall_en)]) (⟨spec_l07Index_so, spec_l07Ways_so, spec_l07Move_so, spec_l07Wall_so, trivial⟩)) Try.func63 (by kernel_rfl) rfl (fun x y h => (spec_l07Costs_eq x).trans h)

-- loop.example/g01204/spec.l07Ok
noncomputable def spec_l07Ok (a0 : (Int × (Int × ((List Int) × Unit)))) : Option ((Bool × Unit) × Unit) :=
  (spec_l00In a0.1 (1 : Int) (24 : Int)).bind fun y603 =>
  bif y603.1.1 then
    (spec_l00In a0.2.1 (1 : Int) (24 : Int)).bind fun y604 =>
    bif y604.1.1 then
      some (((iEq (lenI a0.2.2.1) (iMul .i64 a0.1 a0.2.1)), ()), ())
    else some ((false, ()), ())
  else some ((false, ()), ())
noncomputable def spec_l07Ok_sg : Sig := ⟨[.ro (.pair (.int .i64) (.pair (.int .i64) (.pair (.list (.int .u8)) (.unit))))], [.v (.val (.bool))], false⟩
noncomputable def spec_l07Ok_en : Entry := ⟨spec_l07Ok_sg, fun x => spec_l07Ok x.1⟩
theorem spec_l07Ok_eq (x : spec_l07Ok_sg.dom) : body (env [(101, spec_l00In_en)]) [] Try.f138 spec_l07Ok_sg x = spec_l07Ok x.1 := by kernel_rfl
theorem spec_l07Ok_so : Sound Try.prog 138 spec_l07Ok_en := sound_of_body (envS (l := [(101, spec_l00In_en)]) (⟨spec_l00In_so, trivial⟩)) Try.func138 (by kernel_rfl) rfl (fun x y h => (spec_l07Ok_eq x).trans h)

-- loop.example/g01204/spec.l07Spot
noncomputable def spec_l07Spot (a0 : (Int × (Int × ((List Int) × Unit)))) (a1 : (Vec 2 Int)) : Option ((Bool × Unit) × Unit) :=
  (spec_l07At a0 (iWrap .i64 (Vec.getD 2 a1 0 (0 : Int))) (iWrap .i64 (Vec.getD 2 a1 1 (0 : Int)))).bind fun y611 =>
  some ((y611.1.1, ()), ())
noncomputable def spec_l07Spot_sg : Sig := ⟨[.ro (.pair (.int .i64) (.pair (.int .i64) (.pair (.list (.int .u8)) (.unit)))), .v (.arr 2 (.int .i16))], [.v (.val (.bool))], false⟩
noncomputable def spec_l07Spot_en : Entry := ⟨spec_l07Spot_sg, fun x => spec_l07Spot x.1 x.2.1⟩
theorem spec_l07Spot_eq (x : spec_l07Spot_sg.dom) : body (env [(151, spec_l07At_en)]) [] Try.f139 spec_l07Spot_sg x = spec_l07Spot x.1 x.2.1 := by kernel_rfl
theorem spec_l07Spot_so : Sound Try.prog 139 spec_l07Spot_en := sound_of_body (envS (l := [(151, spec_l07At_en)]) (⟨spec_l07At_so, trivial⟩)) Try.func139 (by kernel_rfl) rfl (fun x y h => (spec_l07Spot_eq x).trans h)

-- loop.example/g01204/spec.l07Asked
noncomputable def spec_l07Asked_l4 (a1 : (List (Vec 2 Int))) (a0 : (Int × (Int × ((List Int) × Unit)))) (s597 : (Int × Unit)) : Option ((Int × Unit) ⊕ ((Int × Unit) × Unit)) :=
  bif (iLt s597.1 (lenI a1)) then
    bif inB s597.1 (List.length a1) then
      (spec_l07Spot a0 (List.getD a1 s597.1.toNat ((0, 0, ()) : (Vec 2 Int)))).bind fun y600 =>
      bif (! y600.1.1) then
        Option.map Sum.inr (some (((2 : Int), ()), ()))
      else
      some (Sum.inl ((iAdd .i64 s597.1 1), ()))
    else none
  else
  Option.map Sum.inr (some (((0 : Int), ()), ()))
noncomputable def spec_l07Asked (a0 : (Int × (Int × ((List Int) × Unit)))) (a1 : (List (Vec 2 Int))) : Option ((Int × Unit) × Unit) :=
  (spec_l07Ok a0).bind fun y595 =>
  bif (! y595.1.1) then some (((1 : Int), ()), ()) else run (spec_l07Asked_l4 a1 a0) ((0 : Int), ())
noncomputable def spec_l07Asked_sg : Sig := ⟨[.ro (.pair (.int .i64) (.pair (.int .i64) (.pair (.list (.int .u8)) (.unit)))), .v (.list (.arr 2 (.int .i16)))], [.v (.val (.int .i64))], false⟩
noncomputable def spec_l07Asked_en : Entry := ⟨spec_l07Asked_sg, fun x => spec_l07Asked x.1 x.2.1⟩
theorem spec_l07Asked_eq (x : spec_l07Asked_sg.dom) : body (env [(138, spec_l07Ok_en), (139, spec_l07Spot_en)]) [(4, .vary [(5, .sc (.int .i64))])] Try.f132 spec_l07Asked_sg x = spec_l07Asked x.1 x.2.1 := by kernel_rfl
theorem spec_l07Asked_so : Sound Try.prog 132 spec_l07Asked_en := sound_of_body (envS (l := [(138, spec_l07Ok_en), (139, spec_l07Spot_en)]) (⟨spec_l07Ok_so, spec_l07Spot_so, trivial⟩)) Try.func132 (by kernel_rfl) rfl (fun x y h => (spec_l07Asked_eq x).trans h)

-- loop.example/g01204/spec.l07Open
noncomputable def spec_l07Open_l5 (a1 : (List (Vec 2 Int))) (a0 : (Int × (Int × ((List Int) × Unit)))) (s590 : (Int × Unit)) : Option ((Int × Unit) ⊕ ((Int × Unit) × Unit)) :=
  bif (iLt s590.1 (lenI a1)) then
    bif inB s590.1 (List.length a1) then
      (spec_l07Wall a0 (List.getD a1 s590.1.toNat ((0, 0, ()) : (Vec 2 Int)))).bind fun y593 =>
      bif y593.1.1 then
        Option.map Sum.inr (some (((4 : Int), ()), ()))
      else
      some (Sum.inl ((iAdd .i64 s590.1 1), ()))
    else none
  else
  Option.map Sum.inr (some (((0 : Int), ()), ()))
noncomputable def spec_l07Open (a0 : (Int × (Int × ((List Int) × Unit)))) (a1 : (List (Vec 2 Int))) : Option ((Int × Unit) × Unit) :=
  (spec_l07Asked a0 a1).bind fun y588 =>
  bif (! (iEq y588.1.1 0)) then some ((y588.1.1, ()), ()) else run (spec_l07Open_l5 a1 a0) ((0 : Int), ())
noncomputable def spec_l07Open_sg : Sig := ⟨[.ro (.pair (.int .i64) (.pair (.int .i64) (.pair (.list (.int .u8)) (.unit)))), .v (.list (.arr 2 (.int .i16)))], [.v (.val (.int .i64))], false⟩
noncomputable def spec_l07Open_en : Entry := ⟨spec_l07Open_sg, fun x => spec_l07Open x.1 x.2.1⟩
theorem spec_l07Open_eq (x : spec_l07Open_sg.dom) : body (env [(132, spec_l07Asked_en), (133, spec_l07Wall_en)]) [(5, .vary [(6, .sc (.int .i64))])] Try.f62 spec_l07Open_sg x = spec_l07Open x.1 x.2.1 := by kernel_rfl
theorem spec_l07Open_so : Sound Try.prog 62 spec_l07Open_en := sound_of_body (envS (l := [(132, spec_l07Asked_en), (133, spec_l07Wall_en)]) (⟨spec_l07Asked_so, spec_l07Wall_so, trivial⟩)) Try.func62 (by kernel_rfl) rfl (fun x y h => (spec_l07Open_eq x).trans h)

-- loop.example/g01204/spec.CostsTo
noncomputable def spec_CostsTo (a0 : (Int × (Int × ((List Int) × Unit)))) (a1 : (Vec 2 Int)) : Option (((List Int) × Int × Unit) × Unit) :=
  (spec_l07Open a0 ([a1] : (List (Vec 2 Int)))).bind fun y340 =>
  bif (! (iEq y340.1.1 0)) then some ((([] : (List Int)), y340.1.1, ()), ()) else
  (spec_l07Costs a0 a1).bind fun y342 =>
  some ((y342.1.1, (0 : Int), ()), ())
noncomputable def spec_CostsTo_sg : Sig := ⟨[.v (.pair (.int .i64) (.pair (.int .i64) (.pair (.list (.int .u8)) (.unit)))), .v (.arr 2 (.int .i16))], [.v (.rows (.int .i64)), .v (.val (.int .i64))], false⟩
noncomputable def spec_CostsTo_en : Entry := ⟨spec_CostsTo_sg, fun x => spec_CostsTo x.1 x.2.1⟩
theorem spec_CostsTo_eq (x : spec_CostsTo_sg.dom) : body (env [(62, spec_l07Open_en), (63, spec_l07Costs_en)]) [] Try.f12 spec_CostsTo_sg x = spec_CostsTo x.1 x.2.1 := by kernel_rfl
theorem spec_CostsTo_so : Sound Try.prog 12 spec_CostsTo_en := sound_of_body (envS (l := [(62, spec_l07Open_en), (63, spec_l07Costs_en)]) (⟨spec_l07Open_so, spec_l07Costs_so, trivial⟩)) Try.func12 (by kernel_rfl) rfl (fun x y h => (spec_CostsTo_eq x).trans h)

-- loop.example/g01204/laws.FnExactCostsTo
noncomputable def laws_FnExactCostsTo (a0 : (Int × (Int × ((List Int) × Unit)))) (a1 : (Vec 2 Int)) : Option ((Bool × Unit) × Unit) :=
  (laws_szGrid a0 (1048576 : Int)).bind fun y1 =>
  bif (iLt y1.1.1 0) then some ((true, ()), ()) else
  (laws_toGrid a0).bind fun y3 =>
  (laws_toSpot a1).bind fun y4 =>
  (spec_CostsTo ((y3.1.1.1, y3.1.1.2.1, y3.1.1.2.2.1, y3.1.1.2.2.2) : (Int × (Int × ((List Int) × Unit)))) y4.1.1).bind fun y5 =>
  (laws_toGrid a0).bind fun y6 =>
  (laws_toSpot a1).bind fun y7 =>
  (impl_CostsTo ((y6.1.1.1, y6.1.1.2.1, y6.1.1.2.2.1, y6.1.1.2.2.2) : (Int × (Int × ((List Int) × Unit)))) y7.1.1).bind fun y8 =>
  (laws_eqInt64S y8.1.1 y5.1.1).bind fun y9 =>
  bif (! y9.1.1) then some ((false, ()), ()) else
  bif (! (iEq y8.1.2.1 y5.1.2.1)) then some ((false, ()), ()) else
  (laws_toGrid a0).bind fun y12 =>
  (laws_eqGrid ((y6.1.1.1, y6.1.1.2.1, y6.1.1.2.2.1, y6.1.1.2.2.2) : (Int × (Int × ((List Int) × Unit)))) ((y12.1.1.1, y12.1.1.2.1, y12.1.1.2.2.1, y12.1.1.2.2.2) : (Int × (Int × ((List Int) × Unit))))).bind fun y13 =>
  bif (! y13.1.1) then some ((false, ()), ()) else
  (laws_markGrid ((y6.1.1.1, y6.1.1.2.1, y6.1.1.2.2.1, y6.1.1.2.2.2) : (Int × (Int × ((List Int) × Unit)))) (1 : Int)).bind fun y15 =>
  bif (iLt y15.1.1 0) then some ((false, ()), ()) else
  (laws_eqInt64S y8.1.1 y5.1.1).bind fun y17 =>
  bif (! y17.1.1) then some ((false, ()), ()) else
  bif (! (iEq y8.1.2.1 y5.1.2.1)) then some ((false, ()), ()) else
  (laws_markInt64S y8.1.1 (1 : Int)).bind fun y20 =>
  (laws_heldInt64S y20.2.1 (1 : Int)).bind fun y21 =>
  bif (iLt y21.1.1 0) then some ((false, ()), ()) else
  bif (! (iEq y21.1.1 y20.1.1)) then some ((false, ()), ()) else
  (laws_toGrid a0).bind fun y24 =>
  (laws_toSpot a1).bind fun y25 =>
  (impl_CostsTo ((y24.1.1.1, y24.1.1.2.1, y24.1.1.2.2.1, y24.1.1.2.2.2) : (Int × (Int × ((List Int) × Unit)))) y25.1.1).bind fun y26 =>
  (laws_eqInt64S y26.1.1 y5.1.1).bind fun y27 =>
  bif (! y27.1.1) then some ((false, ()), ()) else
  bif (! (iEq y26.1.2.1 y5.1.2.1)) then some ((false, ()), ()) else
  (laws_heldInt64S y20.2.1 (1 : Int)).bind fun y30 =>
  bif (iLt y30.1.1 0) then some ((false, ()), ()) else
  bif (! (iEq y30.1.1 y20.1.1)) then some ((false, ()), ()) else some ((true, ()), ())
noncomputable def laws_FnExactCostsTo_sg : Sig := ⟨[.v (.pair (.int .i64) (.pair (.int .i64) (.pair (.list (.int .u8)) (.unit)))), .v (.arr 2 (.int .i16))], [.v (.val (.bool))], false⟩
noncomputable def laws_FnExactCostsTo_en : Entry := ⟨laws_FnExactCostsTo_sg, fun x => laws_FnExactCostsTo x.1 x.2.1⟩
theorem laws_FnExactCostsTo_eq (x : laws_FnExactCostsTo_sg.dom) : body (env [(11, laws_szGrid_en), (12, spec_CostsTo_en), (13, laws_toGrid_en), (14, laws_toSpot_en), (15, impl_CostsTo_en), (16, laws_eqInt64S_en), (17, laws_eqGrid_en), (18, laws_markGrid_en), (19, laws_markInt64S_en), (20, laws_heldInt64S_en)]) [] Try.f3 laws_FnExactCostsTo_sg x = laws_FnExactCostsTo x.1 x.2.1 := by kernel_rfl
theorem laws_FnExactCostsTo_so : Sound Try.prog 3 laws_FnExactCostsTo_en := sound_of_body (envS (l := [(11, laws_szGrid_en), (12, spec_CostsTo_en), (13, laws_toGrid_en), (14, laws_toSpot_en), (15, impl_CostsTo_en), (16, laws_eqInt64S_en), (17, laws_eqGrid_en), (18, laws_markGrid_en), (19, laws_markInt64S_en), (20, laws_heldInt64S_en)]) (⟨laws_szGrid_so, spec_CostsTo_so, laws_toGrid_so, laws_toSpot_so, impl_CostsTo_so, laws_eqInt64S_so, laws_eqGrid_so, laws_markGrid_so, laws_markInt64S_so, laws_heldInt64S_so, trivial⟩)) Try.func3 (by kernel_rfl) rfl (fun x y h => (laws_FnExactCostsTo_eq x).trans h)

-- loop.example/g01204/impl.quotient
noncomputable def impl_quotient (a0 : Int) (a1 : Int) : Option ((Int × Unit) × Unit) :=
  bif iEq a1 0 then none else
  let x706 := iQuo .i64 a0 a1
  bif iEq a1 0 then none else
  bif (iLt (iRem .i64 a0 a1) 0) then
    some (((iSub .i64 x706 1), ()), ())
  else some ((x706, ()), ())
noncomputable def impl_quotient_sg : Sig := ⟨[.v (.int .i64), .v (.int .i64)], [.v (.val (.int .i64))], false⟩
noncomputable def impl_quotient_en : Entry := ⟨impl_quotient_sg, fun x => impl_quotient x.1 x.2.1⟩
theorem impl_quotient_eq (x : impl_quotient_sg.dom) : body (env []) [] Try.f152 impl_quotient_sg x = impl_quotient x.1 x.2.1 := by kernel_rfl
theorem impl_quotient_so : Sound Try.prog 152 impl_quotient_en := sound_of_body (envS (l := []) (trivial)) Try.func152 (by kernel_rfl) rfl (fun x y h => (impl_quotient_eq x).trans h)

-- loop.example/g01204/impl.spotsBetween
noncomputable def impl_spotsBetween_l6 (x687 : Int) (x681 : Int) (x684 : Int) (x676 : Int) (x678 : Int) (s688 : ((List (Vec 2 Int)) × Int × Unit)) : Option (((List (Vec 2 Int)) × Int × Unit) ⊕ (((List (Vec 2 Int)) × Unit) × Unit)) :=
  bif (iLe s688.2.1 x687) then
    (impl_quotient (iAdd .i64 (iMul .i64 (iMul .i64 2 s688.2.1) x681) x687) (iMul .i64 2 x687)).bind fun y694 =>
    (impl_quotient (iAdd .i64 (iMul .i64 (iMul .i64 2 s688.2.1) x684) x687) (iMul .i64 2 x687)).bind fun y701 =>
    bif room (List.length s688.1 + 1) 4 then
      some (Sum.inl ((s688.1 ++ ([((iWrap .i16 (iAdd .i64 x676 y694.1.1)), (iWrap .i16 (iAdd .i64 x678 y701.1.1)), ())] : (List (Vec 2 Int)))), (iAdd .i64 s688.2.1 1), ()))
    else none
  else
  Option.map Sum.inr (some ((s688.1, ()), ()))
noncomputable def impl_spotsBetween (a0 : (Vec 2 Int)) (a1 : (Vec 2 Int)) : Option (((List (Vec 2 Int)) × Unit) × Unit) :=
  let x676 := iWrap .i64 (Vec.getD 2 a0 0 (0 : Int))
  let x678 := iWrap .i64 (Vec.getD 2 a0 1 (0 : Int))
  let x681 := iSub .i64 (iWrap .i64 (Vec.getD 2 a1 0 (0 : Int))) x676
  let x684 := iSub .i64 (iWrap .i64 (Vec.getD 2 a1 1 (0 : Int))) x678
  let x687 := iMax (iMax (iMax x681 (iSub .i64 0 x681)) x684) (iSub .i64 0 x684)
  run (impl_spotsBetween_l6 x687 x681 x684 x676 x678) (([a0] : (List (Vec 2 Int))), (1 : Int), ())
noncomputable def impl_spotsBetween_sg : Sig := ⟨[.v (.arr 2 (.int .i16)), .v (.arr 2 (.int .i16))], [.v (.rows (.arr 2 (.int .i16)))], false⟩
noncomputable def impl_spotsBetween_en : Entry := ⟨impl_spotsBetween_sg, fun x => impl_spotsBetween x.1 x.2.1⟩
theorem impl_spotsBetween_eq (x : impl_spotsBetween_sg.dom) : body (env [(152, impl_quotient_en)]) [(6, .vary [(10, .rows (.arr 2 (.int .i16))), (11, .sc (.int .i64))])] Try.f100 impl_spotsBetween_sg x = impl_spotsBetween x.1 x.2.1 := by kernel_rfl
theorem impl_spotsBetween_so : Sound Try.prog 100 impl_spotsBetween_en := sound_of_body (envS (l := [(152, impl_quotient_en)]) (⟨impl_quotient_so, trivial⟩)) Try.func100 (by kernel_rfl) rfl (fun x y h => (impl_spotsBetween_eq x).trans h)

-- (loop.example/g01204/impl.Grid).sees
noncomputable def impl_Grid_sees_l5 (y665 : (((List (Vec 2 Int)) × Unit) × Unit)) (a0 : (Int × (Int × ((List Int) × Unit)))) (s667 : (Int × Unit)) : Option ((Int × Unit) ⊕ ((Bool × Unit) × Unit)) :=
  bif (iLt s667.1 (lenI y665.1.1)) then
    let x669 := iSub .i64 s667.1 1
    bif inB x669 (List.length y665.1.1) then
      bif inB s667.1 (List.length y665.1.1) then
        (impl_Grid_stepCost a0 (List.getD y665.1.1 x669.toNat ((0, 0, ()) : (Vec 2 Int))) (List.getD y665.1.1 s667.1.toNat ((0, 0, ()) : (Vec 2 Int)))).bind fun y672 =>
        bif (! y672.1.2.1) then
          Option.map Sum.inr (some ((false, ()), ()))
        else
        some (Sum.inl ((iAdd .i64 s667.1 1), ()))
      else none
    else none
  else
  Option.map Sum.inr (some ((true, ()), ()))
noncomputable def impl_Grid_sees (a0 : (Int × (Int × ((List Int) × Unit)))) (a1 : (Vec 2 Int)) (a2 : (Vec 2 Int)) : Option ((Bool × Unit) × Unit) :=
  (impl_spotsBetween a1 a2).bind fun y665 =>
  (impl_Grid_isWall a0 a1).bind fun y666 =>
  bif y666.1.1 then some ((false, ()), ()) else run (impl_Grid_sees_l5 y665 a0) ((1 : Int), ())
noncomputable def impl_Grid_sees_sg : Sig := ⟨[.v (.pair (.int .i64) (.pair (.int .i64) (.pair (.list (.int .u8)) (.unit)))), .v (.arr 2 (.int .i16)), .v (.arr 2 (.int .i16))], [.v (.val (.bool))], false⟩
noncomputable def impl_Grid_sees_en : Entry := ⟨impl_Grid_sees_sg, fun x => impl_Grid_sees x.1 x.2.1 x.2.2.1⟩
theorem impl_Grid_sees_eq (x : impl_Grid_sees_sg.dom) : body (env [(66, impl_Grid_isWall_en), (93, impl_Grid_stepCost_en), (100, impl_spotsBetween_en)]) [(5, .vary [(8, .sc (.int .i64))])] Try.f72 impl_Grid_sees_sg x = impl_Grid_sees x.1 x.2.1 x.2.2.1 := by kernel_rfl
theorem impl_Grid_sees_so : Sound Try.prog 72 impl_Grid_sees_en := sound_of_body (envS (l := [(66, impl_Grid_isWall_en), (93, impl_Grid_stepCost_en), (100, impl_spotsBetween_en)]) (⟨impl_Grid_isWall_so, impl_Grid_stepCost_so, impl_spotsBetween_so, trivial⟩)) Try.func72 (by kernel_rfl) rfl (fun x y h => (impl_Grid_sees_eq x).trans h)

-- (loop.example/g01204/impl.Grid).routeCost
noncomputable def impl_Grid_routeCost_l5 (a1 : (List (Vec 2 Int))) (a0 : (Int × (Int × ((List Int) × Unit)))) (s720 : (Int × Int × Unit)) : Option ((Int × Int × Unit) ⊕ ((Int × Bool × Unit) × Unit)) :=
  bif (iLt s720.2.1 (lenI a1)) then
    let x722 := iSub .i64 s720.2.1 1
    bif inB x722 (List.length a1) then
      bif inB s720.2.1 (List.length a1) then
        (impl_Grid_stepCost a0 (List.getD a1 x722.toNat ((0, 0, ()) : (Vec 2 Int))) (List.getD a1 s720.2.1.toNat ((0, 0, ()) : (Vec 2 Int)))).bind fun y725 =>
        bif (! y725.1.2.1) then
          Option.map Sum.inr (some (((0 : Int), false, ()), ()))
        else
        some (Sum.inl ((iAdd .i64 s720.1 y725.1.1), (iAdd .i64 s720.2.1 1), ()))
      else none
    else none
  else
  Option.map Sum.inr (some ((s720.1, true, ()), ()))
noncomputable def impl_Grid_routeCost (a0 : (Int × (Int × ((List Int) × Unit)))) (a1 : (List (Vec 2 Int))) : Option ((Int × Bool × Unit) × Unit) :=
  (impl_within (lenI a1) (1 : Int) (600 : Int)).bind fun y713 =>
  bif (! y713.1.1) then some (((0 : Int), false, ()), ()) else
  bif inB 0 (List.length a1) then
    (impl_Grid_has a0 (List.getD a1 0 ((0, 0, ()) : (Vec 2 Int)))).bind fun y716 =>
    bif (! y716.1.1) then some (((0 : Int), false, ()), ()) else
    bif inB 0 (List.length a1) then
      (impl_Grid_isWall a0 (List.getD a1 0 ((0, 0, ()) : (Vec 2 Int)))).bind fun y719 =>
      bif y719.1.1 then some (((0 : Int), false, ()), ()) else run (impl_Grid_routeCost_l5 a1 a0) ((0 : Int), (1 : Int), ())
    else none
  else none
noncomputable def impl_Grid_routeCost_sg : Sig := ⟨[.v (.pair (.int .i64) (.pair (.int .i64) (.pair (.list (.int .u8)) (.unit)))), .v (.list (.arr 2 (.int .i16)))], [.v (.val (.int .i64)), .v (.val (.bool))], false⟩
noncomputable def impl_Grid_routeCost_en : Entry := ⟨impl_Grid_routeCost_sg, fun x => impl_Grid_routeCost x.1 x.2.1⟩
theorem impl_Grid_routeCost_eq (x : impl_Grid_routeCost_sg.dom) : body (env [(66, impl_Grid_isWall_en), (93, impl_Grid_stepCost_en), (99, impl_within_en), (136, impl_Grid_has_en)]) [(5, .vary [(6, .sc (.int .i64)), (7, .sc (.int .i64))])] Try.f97 impl_Grid_routeCost_sg x = impl_Grid_routeCost x.1 x.2.1 := by kernel_rfl
theorem impl_Grid_routeCost_so : Sound Try.prog 97 impl_Grid_routeCost_en := sound_of_body (envS (l := [(66, impl_Grid_isWall_en), (93, impl_Grid_stepCost_en), (99, impl_within_en), (136, impl_Grid_has_en)]) (⟨impl_Grid_isWall_so, impl_Grid_stepCost_so, impl_within_so, impl_Grid_has_so, trivial⟩)) Try.func97 (by kernel_rfl) rfl (fun x y h => (impl_Grid_routeCost_eq x).trans h)

-- loop.example/g01204/impl.ValidRoute
noncomputable def impl_ValidRoute (a0 : (Int × (Int × ((List Int) × Unit)))) (a1 : (List (Vec 2 Int))) : Option ((Bool × Unit) × Unit) :=
  (impl_ValidGrid a0).bind fun y710 =>
  bif (! y710.1.1) then some ((false, ()), ()) else
  (impl_Grid_routeCost a0 a1).bind fun y712 =>
  some ((y712.1.2.1, ()), ())
noncomputable def impl_ValidRoute_sg : Sig := ⟨[.v (.pair (.int .i64) (.pair (.int .i64) (.pair (.list (.int .u8)) (.unit)))), .v (.list (.arr 2 (.int .i16)))], [.v (.val (.bool))], false⟩
noncomputable def impl_ValidRoute_en : Entry := ⟨impl_ValidRoute_sg, fun x => impl_ValidRoute x.1 x.2.1⟩
theorem impl_ValidRoute_eq (x : impl_ValidRoute_sg.dom) : body (env [(97, impl_Grid_routeCost_en), (98, impl_ValidGrid_en)]) [] Try.f42 impl_ValidRoute_sg x = impl_ValidRoute x.1 x.2.1 := by kernel_rfl
theorem impl_ValidRoute_so : Sound Try.prog 42 impl_ValidRoute_en := sound_of_body (envS (l := [(97, impl_Grid_routeCost_en), (98, impl_ValidGrid_en)]) (⟨impl_Grid_routeCost_so, impl_ValidGrid_so, trivial⟩)) Try.func42 (by kernel_rfl) rfl (fun x y h => (impl_ValidRoute_eq x).trans h)

-- loop.example/g01204/impl.ShortenRoute
noncomputable def impl_ShortenRoute_l7 (s653 : ((List (Vec 2 Int)) × Int × Unit)) (a1 : (List (Vec 2 Int))) (a0 : (Int × (Int × ((List Int) × Unit)))) (s657 : (Int × Unit)) : Option ((Int × Unit) ⊕ (((List (Vec 2 Int)) × Int × Unit) ⊕ (((List (Vec 2 Int)) × Int × Unit) × Unit))) :=
  bif inB s653.2.1 (List.length a1) then
    bif inB s657.1 (List.length a1) then
      (impl_Grid_sees a0 (List.getD a1 s653.2.1.toNat ((0, 0, ()) : (Vec 2 Int))) (List.getD a1 s657.1.toNat ((0, 0, ()) : (Vec 2 Int)))).bind fun y660 =>
      bif (! y660.1.1) then
        some (Sum.inl ((iSub .i64 s657.1 1), ()))
      else
      Option.map Sum.inr (
        bif inB s657.1 (List.length a1) then
          bif room (List.length s653.1 + 1) 4 then
            some (Sum.inl ((s653.1 ++ ([(List.getD a1 s657.1.toNat ((0, 0, ()) : (Vec 2 Int)))] : (List (Vec 2 Int)))), s657.1, ()))
          else none
        else none)
    else none
  else none
noncomputable def impl_ShortenRoute_l5 (a1 : (List (Vec 2 Int))) (a0 : (Int × (Int × ((List Int) × Unit)))) (s653 : ((List (Vec 2 Int)) × Int × Unit)) : Option (((List (Vec 2 Int)) × Int × Unit) ⊕ (((List (Vec 2 Int)) × Int × Unit) × Unit)) :=
  bif (iLt s653.2.1 (iSub .i64 (lenI a1) 1)) then
    run (impl_ShortenRoute_l7 s653 a1 a0) ((iSub .i64 (lenI a1) 1), ())
  else
  Option.map Sum.inr (some ((s653.1, (0 : Int), ()), ()))
noncomputable def impl_ShortenRoute (a0 : (Int × (Int × ((List Int) × Unit)))) (a1 : (List (Vec 2 Int))) : Option (((List (Vec 2 Int)) × Int × Unit) × Unit) :=
  (impl_ValidRoute a0 a1).bind fun y650 =>
  bif (! y650.1.1) then some ((([] : (List (Vec 2 Int))), (1 : Int), ()), ()) else
  bif inB 0 (List.length a1) then
    run (impl_ShortenRoute_l5 a1 a0) (([(List.getD a1 0 ((0, 0, ()) : (Vec 2 Int)))] : (List (Vec 2 Int))), (0 : Int), ())
  else none
noncomputable def impl_ShortenRoute_sg : Sig := ⟨[.v (.pair (.int .i64) (.pair (.int .i64) (.pair (.list (.int .u8)) (.unit)))), .v (.list (.arr 2 (.int .i16)))], [.v (.rows (.arr 2 (.int .i16))), .v (.val (.int .i64))], false⟩
noncomputable def impl_ShortenRoute_en : Entry := ⟨impl_ShortenRoute_sg, fun x => impl_ShortenRoute x.1 x.2.1⟩
theorem impl_ShortenRoute_eq (x : impl_ShortenRoute_sg.dom) : body (env [(42, impl_ValidRoute_en), (72, impl_Grid_sees_en)]) [(5, .vary [(6, .rows (.arr 2 (.int .i16))), (7, .sc (.int .i64))]), (7, .vary [(8, .sc (.int .i64))])] Try.f24 impl_ShortenRoute_sg x = impl_ShortenRoute x.1 x.2.1 := by kernel_rfl
theorem impl_ShortenRoute_so : Sound Try.prog 24 impl_ShortenRoute_en := sound_of_body (envS (l := [(42, impl_ValidRoute_en), (72, impl_Grid_sees_en)]) (⟨impl_ValidRoute_so, impl_Grid_sees_so, trivial⟩)) Try.func24 (by kernel_rfl) rfl (fun x y h => (impl_ShortenRoute_eq x).trans h)

-- loop.example/g01204/laws.eqSpot
noncomputable def laws_eqSpot (a0 : (Vec 2 Int)) (a1 : (Vec 2 Int)) : Option ((Bool × Unit) × Unit) :=
  bif (! (iEq (Vec.getD 2 a0 0 (0 : Int)) (Vec.getD 2 a1 0 (0 : Int)))) then some ((false, ()), ()) else
  bif (! (iEq (Vec.getD 2 a0 1 (0 : Int)) (Vec.getD 2 a1 1 (0 : Int)))) then some ((false, ()), ()) else some ((true, ()), ())
noncomputable def laws_eqSpot_sg : Sig := ⟨[.v (.arr 2 (.int .i16)), .v (.arr 2 (.int .i16))], [.v (.val (.bool))], false⟩
noncomputable def laws_eqSpot_en : Entry := ⟨laws_eqSpot_sg, fun x => laws_eqSpot x.1 x.2.1⟩
theorem laws_eqSpot_eq (x : laws_eqSpot_sg.dom) : body (env []) [(2, .unroll 3)] Try.f73 laws_eqSpot_sg x = laws_eqSpot x.1 x.2.1 := by kernel_rfl
theorem laws_eqSpot_so : Sound Try.prog 73 laws_eqSpot_en := sound_of_body (envS (l := []) (trivial)) Try.func73 (by kernel_rfl) rfl (fun x y h => (laws_eqSpot_eq x).trans h)

-- loop.example/g01204/laws.eqSpotS
noncomputable def laws_eqSpotS_l4 (a0 : (List (Vec 2 Int))) (a1 : (List (Vec 2 Int))) (s730 : (Int × Unit)) : Option ((Int × Unit) ⊕ ((Bool × Unit) × Unit)) :=
  bif (iLt s730.1 (lenI a0)) then
    bif inB s730.1 (List.length a0) then
      bif inB s730.1 (List.length a1) then
        (laws_eqSpot (List.getD a0 s730.1.toNat ((0, 0, ()) : (Vec 2 Int))) (List.getD a1 s730.1.toNat ((0, 0, ()) : (Vec 2 Int)))).bind fun y734 =>
        bif (! y734.1.1) then
          Option.map Sum.inr (some ((false, ()), ()))
        else
        some (Sum.inl ((iAdd .i64 s730.1 1), ()))
      else none
    else none
  else
  Option.map Sum.inr (some ((true, ()), ()))
noncomputable def laws_eqSpotS (a0 : (List (Vec 2 Int))) (a1 : (List (Vec 2 Int))) : Option ((Bool × Unit) × Unit) :=
  bif (! (iEq (lenI a0) (lenI a1))) then some ((false, ()), ()) else run (laws_eqSpotS_l4 a0 a1) ((0 : Int), ())
noncomputable def laws_eqSpotS_sg : Sig := ⟨[.v (.list (.arr 2 (.int .i16))), .v (.list (.arr 2 (.int .i16)))], [.v (.val (.bool))], false⟩
noncomputable def laws_eqSpotS_en : Entry := ⟨laws_eqSpotS_sg, fun x => laws_eqSpotS x.1 x.2.1⟩
theorem laws_eqSpotS_eq (x : laws_eqSpotS_sg.dom) : body (env [(73, laws_eqSpot_en)]) [(4, .vary [(5, .sc (.int .i64))])] Try.f25 laws_eqSpotS_sg x = laws_eqSpotS x.1 x.2.1 := by kernel_rfl
theorem laws_eqSpotS_so : Sound Try.prog 25 laws_eqSpotS_en := sound_of_body (envS (l := [(73, laws_eqSpot_en)]) (⟨laws_eqSpot_so, trivial⟩)) Try.func25 (by kernel_rfl) rfl (fun x y h => (laws_eqSpotS_eq x).trans h)

-- loop.example/g01204/laws.heldSpotS
noncomputable def laws_heldSpotS_l2 (a0 : (List (Vec 2 Int))) (s743 : (Int × Int × Unit)) : Option ((Int × Int × Unit) ⊕ ((Int × Unit) × Unit)) :=
  bif (iLt s743.2.1 (lenI a0)) then
    bif inB s743.2.1 (List.length a0) then
      bif (! (iEq (Vec.getD 2 (List.getD a0 s743.2.1.toNat ((0, 0, ()) : (Vec 2 Int))) 0 (0 : Int)) (iWrap .i16 s743.1))) then
        Option.map Sum.inr (some ((((-1 : Int) : Int), ()), ()))
      else
      let x748 := iAdd .i64 s743.1 1
      bif inB s743.2.1 (List.length a0) then
        bif (! (iEq (Vec.getD 2 (List.getD a0 s743.2.1.toNat ((0, 0, ()) : (Vec 2 Int))) 1 (0 : Int)) (iWrap .i16 x748))) then
          Option.map Sum.inr (some ((((-1 : Int) : Int), ()), ()))
        else
        some (Sum.inl ((iAdd .i64 x748 1), (iAdd .i64 s743.2.1 1), ()))
      else none
    else none
  else
  Option.map Sum.inr (some ((s743.1, ()), ()))
noncomputable def laws_heldSpotS (a0 : (List (Vec 2 Int))) (a1 : Int) : Option ((Int × Unit) × Unit) :=
  run (laws_heldSpotS_l2 a0) (a1, (0 : Int), ())
noncomputable def laws_heldSpotS_sg : Sig := ⟨[.v (.list (.arr 2 (.int .i16))), .v (.int .i64)], [.v (.val (.int .i64))], false⟩
noncomputable def laws_heldSpotS_en : Entry := ⟨laws_heldSpotS_sg, fun x => laws_heldSpotS x.1 x.2.1⟩
theorem laws_heldSpotS_eq (x : laws_heldSpotS_sg.dom) : body (env []) [(2, .vary [(1, .sc (.int .i64)), (5, .sc (.int .i64))]), (5, .unroll 3)] Try.f27 laws_heldSpotS_sg x = laws_heldSpotS x.1 x.2.1 := by kernel_rfl
theorem laws_heldSpotS_so : Sound Try.prog 27 laws_heldSpotS_en := sound_of_body (envS (l := []) (trivial)) Try.func27 (by kernel_rfl) rfl (fun x y h => (laws_heldSpotS_eq x).trans h)

-- loop.example/g01204/laws.markSpotS
noncomputable def laws_markSpotS_l2 (s763 : (Int × Int × (List (Vec 2 Int)) × Unit)) : Option ((Int × Int × (List (Vec 2 Int)) × Unit) ⊕ ((Int × Unit) × ((List (Vec 2 Int)) × Unit))) :=
  bif (iLt s763.2.1 (lenI s763.2.2.1)) then
    bif inB s763.2.1 (List.length s763.2.2.1) then
      let w766 := List.set s763.2.2.1 s763.2.1.toNat (Vec.set 2 (List.getD s763.2.2.1 s763.2.1.toNat ((0, 0, ()) : (Vec 2 Int))) 0 (iWrap .i16 s763.1))
      let x767 := iAdd .i64 s763.1 1
      bif inB s763.2.1 (List.length w766) then
        some (Sum.inl ((iAdd .i64 x767 1), (iAdd .i64 s763.2.1 1), (List.set w766 s763.2.1.toNat (Vec.set 2 (List.getD w766 s763.2.1.toNat ((0, 0, ()) : (Vec 2 Int))) 1 (iWrap .i16 x767))), ()))
      else none
    else none
  else
  Option.map Sum.inr (some ((s763.1, ()), (s763.2.2.1, ())))
noncomputable def laws_markSpotS (a0 : (List (Vec 2 Int))) (a1 : Int) : Option ((Int × Unit) × ((List (Vec 2 Int)) × Unit)) :=
  run (laws_markSpotS_l2) (a1, (0 : Int), a0, ())
noncomputable def laws_markSpotS_sg : Sig := ⟨[.mv (.rows (.arr 2 (.int .i16))), .v (.int .i64)], [.v (.val (.int .i64))], false⟩
noncomputable def laws_markSpotS_en : Entry := ⟨laws_markSpotS_sg, fun x => laws_markSpotS x.1 x.2.1⟩
theorem laws_markSpotS_eq (x : laws_markSpotS_sg.dom) : body (env []) [(2, .vary [(1, .sc (.int .i64)), (5, .sc (.int .i64)), (0, .mrows (.arr 2 (.int .i16)))]), (5, .unroll 3)] Try.f26 laws_markSpotS_sg x = laws_markSpotS x.1 x.2.1 := by kernel_rfl
theorem laws_markSpotS_so : Sound Try.prog 26 laws_markSpotS_en := sound_of_body (envS (l := []) (trivial)) Try.func26 (by kernel_rfl) rfl (fun x y h => (laws_markSpotS_eq x).trans h)

-- loop.example/g01204/laws.szSpotS
noncomputable def laws_szSpotS (a0 : (List (Vec 2 Int))) (a1 : Int) : Option ((Int × Unit) × Unit) :=
  let x772 := iSub .i64 a1 (lenI a0)
  bif (iLt x772 0) then some ((((-1 : Int) : Int), ()), ()) else some ((x772, ()), ())
noncomputable def laws_szSpotS_sg : Sig := ⟨[.v (.list (.arr 2 (.int .i16))), .v (.int .i64)], [.v (.val (.int .i64))], false⟩
noncomputable def laws_szSpotS_en : Entry := ⟨laws_szSpotS_sg, fun x => laws_szSpotS x.1 x.2.1⟩
theorem laws_szSpotS_eq (x : laws_szSpotS_sg.dom) : body (env []) [] Try.f21 laws_szSpotS_sg x = laws_szSpotS x.1 x.2.1 := by kernel_rfl
theorem laws_szSpotS_so : Sound Try.prog 21 laws_szSpotS_en := sound_of_body (envS (l := []) (trivial)) Try.func21 (by kernel_rfl) rfl (fun x y h => (laws_szSpotS_eq x).trans h)

-- loop.example/g01204/laws.toSpotS
noncomputable def laws_toSpotS_l3 (a0 : (List (Vec 2 Int))) (s780 : (Int × (List (Vec 2 Int)) × Unit)) : Option ((Int × (List (Vec 2 Int)) × Unit) ⊕ (((List (Vec 2 Int)) × Unit) × Unit)) :=
  bif (iLt s780.1 (lenI a0)) then
    bif inB s780.1 (List.length a0) then
      (laws_toSpot (List.getD a0 s780.1.toNat ((0, 0, ()) : (Vec 2 Int)))).bind fun y783 =>
      bif inB s780.1 (List.length s780.2.1) then
        some (Sum.inl ((iAdd .i64 s780.1 1), List.set s780.2.1 s780.1.toNat y783.1.1, ()))
      else none
    else none
  else
  Option.map Sum.inr (some ((s780.2.1, ()), ()))
noncomputable def laws_toSpotS (a0 : (List (Vec 2 Int))) : Option (((List (Vec 2 Int)) × Unit) × Unit) :=
  bif (iLe 0 (lenI a0) && iLe (lenI a0) (lenI a0) && room (lenI a0).toNat 4) then run (laws_toSpotS_l3 a0) ((0 : Int), List.replicate (lenI a0).toNat ((0, 0, ()) : (Vec 2 Int)), ()) else none
noncomputable def laws_toSpotS_sg : Sig := ⟨[.v (.list (.arr 2 (.int .i16)))], [.v (.rows (.arr 2 (.int .i16)))], false⟩
noncomputable def laws_toSpotS_en : Entry := ⟨laws_toSpotS_sg, fun x => laws_toSpotS x.1⟩
theorem laws_toSpotS_eq (x : laws_toSpotS_sg.dom) : body (env [(14, laws_toSpot_en)]) [(3, .vary [(4, .sc (.int .i64)), (3, .mrows (.arr 2 (.int .i16)))])] Try.f23 laws_toSpotS_sg x = laws_toSpotS x.1 := by kernel_rfl
theorem laws_toSpotS_so : Sound Try.prog 23 laws_toSpotS_en := sound_of_body (envS (l := [(14, laws_toSpot_en)]) (⟨laws_toSpot_so, trivial⟩)) Try.func23 (by kernel_rfl) rfl (fun x y h => (laws_toSpotS_eq x).trans h)

-- loop.example/g01204/spec.l07Route
noncomputable def spec_l07Route_l6 (a1 : (List (Vec 2 Int))) (a0 : (Int × (Int × ((List Int) × Unit)))) (s811 : (Int × Int × Unit)) : Option ((Int × Int × Unit) ⊕ ((Int × Bool × Unit) × Unit)) :=
  bif (iLt s811.2.1 (lenI a1)) then
    bif inB s811.2.1 (List.length a1) then
      let x815 := iSub .i64 s811.2.1 1
      bif inB x815 (List.length a1) then
        let x818 := iSub .i64 (iWrap .i64 (Vec.getD 2 (List.getD a1 s811.2.1.toNat ((0, 0, ()) : (Vec 2 Int))) 0 (0 : Int))) (iWrap .i64 (Vec.getD 2 (List.getD a1 x815.toNat ((0, 0, ()) : (Vec 2 Int))) 0 (0 : Int)))
        bif inB s811.2.1 (List.length a1) then
          let x821 := iSub .i64 s811.2.1 1
          bif inB x821 (List.length a1) then
            let x824 := iSub .i64 (iWrap .i64 (Vec.getD 2 (List.getD a1 s811.2.1.toNat ((0, 0, ()) : (Vec 2 Int))) 1 (0 : Int))) (iWrap .i64 (Vec.getD 2 (List.getD a1 x821.toNat ((0, 0, ()) : (Vec 2 Int))) 1 (0 : Int)))
            bif (iEq x818 0) then
              bif (iEq x824 0) then
                Option.map Sum.inr (some (((0 : Int), false, ()), ()))
              else
              (spec_l00In x818 ((-1 : Int) : Int) (1 : Int)).bind fun y827 =>
              bif (! y827.1.1) then
                Option.map Sum.inr (some (((0 : Int), false, ()), ()))
              else
              (spec_l00In x824 ((-1 : Int) : Int) (1 : Int)).bind fun y829 =>
              bif (! y829.1.1) then
                Option.map Sum.inr (some (((0 : Int), false, ()), ()))
              else
              let x831 := iSub .i64 s811.2.1 1
              bif inB x831 (List.length a1) then
                (spec_l07Move a0 (List.getD a1 x831.toNat ((0, 0, ()) : (Vec 2 Int))) x818 x824).bind fun y833 =>
                bif (! y833.1.2.2.1) then
                  Option.map Sum.inr (some (((0 : Int), false, ()), ()))
                else
                some (Sum.inl ((iAdd .i64 s811.1 y833.1.2.1), (iAdd .i64 s811.2.1 1), ()))
              else none
            else
            (spec_l00In x818 ((-1 : Int) : Int) (1 : Int)).bind fun y837 =>
            bif (! y837.1.1) then
              Option.map Sum.inr (some (((0 : Int), false, ()), ()))
            else
            (spec_l00In x824 ((-1 : Int) : Int) (1 : Int)).bind fun y839 =>
            bif (! y839.1.1) then
              Option.map Sum.inr (some (((0 : Int), false, ()), ()))
            else
            let x841 := iSub .i64 s811.2.1 1
            bif inB x841 (List.length a1) then
              (spec_l07Move a0 (List.getD a1 x841.toNat ((0, 0, ()) : (Vec 2 Int))) x818 x824).bind fun y843 =>
              bif (! y843.1.2.2.1) then
                Option.map Sum.inr (some (((0 : Int), false, ()), ()))
              else
              some (Sum.inl ((iAdd .i64 s811.1 y843.1.2.1), (iAdd .i64 s811.2.1 1), ()))
            else none
          else none
        else none
      else none
    else none
  else
  Option.map Sum.inr (some ((s811.1, true, ()), ()))
noncomputable def spec_l07Route (a0 : (Int × (Int × ((List Int) × Unit)))) (a1 : (List (Vec 2 Int))) : Option ((Int × Bool × Unit) × Unit) :=
  (spec_l07Ok a0).bind fun y802 =>
  bif (! y802.1.1) then some (((0 : Int), false, ()), ()) else
  (spec_l00In (lenI a1) (1 : Int) (600 : Int)).bind fun y804 =>
  bif (! y804.1.1) then some (((0 : Int), false, ()), ()) else
  bif inB 0 (List.length a1) then
    (spec_l07Spot a0 (List.getD a1 0 ((0, 0, ()) : (Vec 2 Int)))).bind fun y807 =>
    bif (! y807.1.1) then some (((0 : Int), false, ()), ()) else
    bif inB 0 (List.length a1) then
      (spec_l07Wall a0 (List.getD a1 0 ((0, 0, ()) : (Vec 2 Int)))).bind fun y810 =>
      bif y810.1.1 then some (((0 : Int), false, ()), ()) else run (spec_l07Route_l6 a1 a0) ((0 : Int), (1 : Int), ())
    else none
  else none
noncomputable def spec_l07Route_sg : Sig := ⟨[.ro (.pair (.int .i64) (.pair (.int .i64) (.pair (.list (.int .u8)) (.unit)))), .v (.list (.arr 2 (.int .i16)))], [.v (.val (.int .i64)), .v (.val (.bool))], false⟩
noncomputable def spec_l07Route_en : Entry := ⟨spec_l07Route_sg, fun x => spec_l07Route x.1 x.2.1⟩
theorem spec_l07Route_eq (x : spec_l07Route_sg.dom) : body (env [(96, spec_l07Move_en), (101, spec_l00In_en), (133, spec_l07Wall_en), (138, spec_l07Ok_en), (139, spec_l07Spot_en)]) [(6, .vary [(7, .sc (.int .i64)), (8, .sc (.int .i64))])] Try.f70 spec_l07Route_sg x = spec_l07Route x.1 x.2.1 := by kernel_rfl
theorem spec_l07Route_so : Sound Try.prog 70 spec_l07Route_en := sound_of_body (envS (l := [(96, spec_l07Move_en), (101, spec_l00In_en), (133, spec_l07Wall_en), (138, spec_l07Ok_en), (139, spec_l07Spot_en)]) (⟨spec_l07Move_so, spec_l00In_so, spec_l07Wall_so, spec_l07Ok_so, spec_l07Spot_so, trivial⟩)) Try.func70 (by kernel_rfl) rfl (fun x y h => (spec_l07Route_eq x).trans h)

-- loop.example/g01204/spec.l00Max
noncomputable def spec_l00Max (a0 : Int) (a1 : Int) : Option ((Int × Unit) × Unit) :=
  bif (iLt a1 a0) then some ((a0, ()), ()) else some ((a1, ()), ())
noncomputable def spec_l00Max_sg : Sig := ⟨[.v (.int .i64), .v (.int .i64)], [.v (.val (.int .i64))], false⟩
noncomputable def spec_l00Max_en : Entry := ⟨spec_l00Max_sg, fun x => spec_l00Max x.1 x.2.1⟩
theorem spec_l00Max_eq (x : spec_l00Max_sg.dom) : body (env []) [] Try.f153 spec_l00Max_sg x = spec_l00Max x.1 x.2.1 := by kernel_rfl
theorem spec_l00Max_so : Sound Try.prog 153 spec_l00Max_en := sound_of_body (envS (l := []) (trivial)) Try.func153 (by kernel_rfl) rfl (fun x y h => (spec_l00Max_eq x).trans h)

-- loop.example/g01204/spec.l07Floor
noncomputable def spec_l07Floor (a0 : Int) (a1 : Int) : Option ((Int × Unit) × Unit) :=
  bif iEq a1 0 then none else
  let x912 := iQuo .i64 a0 a1
  bif iEq a1 0 then none else
  bif (iLt (iRem .i64 a0 a1) 0) then
    some (((iSub .i64 x912 1), ()), ())
  else some ((x912, ()), ())
noncomputable def spec_l07Floor_sg : Sig := ⟨[.v (.int .i64), .v (.int .i64)], [.v (.val (.int .i64))], false⟩
noncomputable def spec_l07Floor_en : Entry := ⟨spec_l07Floor_sg, fun x => spec_l07Floor x.1 x.2.1⟩
theorem spec_l07Floor_eq (x : spec_l07Floor_sg.dom) : body (env []) [] Try.f154 spec_l07Floor_sg x = spec_l07Floor x.1 x.2.1 := by kernel_rfl
theorem spec_l07Floor_so : Sound Try.prog 154 spec_l07Floor_en := sound_of_body (envS (l := []) (trivial)) Try.func154 (by kernel_rfl) rfl (fun x y h => (spec_l07Floor_eq x).trans h)

-- loop.example/g01204/spec.l07Line
noncomputable def spec_l07Line_l8 (y887 : ((Int × Unit) × Unit)) (x877 : Int) (x882 : Int) (a0 : (Vec 2 Int)) (s889 : ((List (Vec 2 Int)) × Int × Unit)) : Option (((List (Vec 2 Int)) × Int × Unit) ⊕ (((List (Vec 2 Int)) × Unit) × Unit)) :=
  bif (iLe s889.2.1 y887.1.1) then
    (spec_l07Floor (iAdd .i64 (iMul .i64 (iMul .i64 2 s889.2.1) x877) y887.1.1) (iMul .i64 2 y887.1.1)).bind fun y897 =>
    (spec_l07Floor (iAdd .i64 (iMul .i64 (iMul .i64 2 s889.2.1) x882) y887.1.1) (iMul .i64 2 y887.1.1)).bind fun y905 =>
    bif room (List.length s889.1 + 1) 4 then
      some (Sum.inl ((s889.1 ++ ([((iWrap .i16 (iAdd .i64 (iWrap .i64 (Vec.getD 2 a0 0 (0 : Int))) y897.1.1)), (iWrap .i16 (iAdd .i64 (iWrap .i64 (Vec.getD 2 a0 1 (0 : Int))) y905.1.1)), ())] : (List (Vec 2 Int)))), (iAdd .i64 s889.2.1 1), ()))
    else none
  else
  Option.map Sum.inr (some ((s889.1, ()), ()))
noncomputable def spec_l07Line (a0 : (Vec 2 Int)) (a1 : (Vec 2 Int)) : Option (((List (Vec 2 Int)) × Unit) × Unit) :=
  let x877 := iSub .i64 (iWrap .i64 (Vec.getD 2 a1 0 (0 : Int))) (iWrap .i64 (Vec.getD 2 a0 0 (0 : Int)))
  let x882 := iSub .i64 (iWrap .i64 (Vec.getD 2 a1 1 (0 : Int))) (iWrap .i64 (Vec.getD 2 a0 1 (0 : Int)))
  (spec_l00Max x877 (iSub .i64 0 x877)).bind fun y884 =>
  (spec_l00Max x882 (iSub .i64 0 x882)).bind fun y886 =>
  (spec_l00Max y884.1.1 y886.1.1).bind fun y887 =>
  bif (iEq y887.1.1 0) then some ((([a0] : (List (Vec 2 Int))), ()), ()) else run (spec_l07Line_l8 y887 x877 x882 a0) (([] : (List (Vec 2 Int))), (0 : Int), ())
noncomputable def spec_l07Line_sg : Sig := ⟨[.v (.arr 2 (.int .i16)), .v (.arr 2 (.int .i16))], [.v (.rows (.arr 2 (.int .i16)))], false⟩
noncomputable def spec_l07Line_en : Entry := ⟨spec_l07Line_sg, fun x => spec_l07Line x.1 x.2.1⟩
theorem spec_l07Line_eq (x : spec_l07Line_sg.dom) : body (env [(153, spec_l00Max_en), (154, spec_l07Floor_en)]) [(8, .vary [(8, .rows (.arr 2 (.int .i16))), (9, .sc (.int .i64))])] Try.f102 spec_l07Line_sg x = spec_l07Line x.1 x.2.1 := by kernel_rfl
theorem spec_l07Line_so : Sound Try.prog 102 spec_l07Line_en := sound_of_body (envS (l := [(153, spec_l00Max_en), (154, spec_l07Floor_en)]) (⟨spec_l00Max_so, spec_l07Floor_so, trivial⟩)) Try.func102 (by kernel_rfl) rfl (fun x y h => (spec_l07Line_eq x).trans h)

-- loop.example/g01204/spec.l07Sees
noncomputable def spec_l07Sees_l3 (y847 : (((List (Vec 2 Int)) × Unit) × Unit)) (a0 : (Int × (Int × ((List Int) × Unit)))) (s848 : (Int × Unit)) : Option ((Int × Unit) ⊕ ((Bool × Unit) × Unit)) :=
  bif (iLt s848.1 (lenI y847.1.1)) then
    bif inB s848.1 (List.length y847.1.1) then
      (spec_l07Wall a0 (List.getD y847.1.1 s848.1.toNat ((0, 0, ()) : (Vec 2 Int)))).bind fun y851 =>
      bif y851.1.1 then
        Option.map Sum.inr (some ((false, ()), ()))
      else
      bif (iLt 0 s848.1) then
        bif inB s848.1 (List.length y847.1.1) then
          let x854 := iSub .i64 s848.1 1
          bif inB x854 (List.length y847.1.1) then
            bif (! (iEq (Vec.getD 2 (List.getD y847.1.1 s848.1.toNat ((0, 0, ()) : (Vec 2 Int))) 0 (0 : Int)) (Vec.getD 2 (List.getD y847.1.1 x854.toNat ((0, 0, ()) : (Vec 2 Int))) 0 (0 : Int)))) then
              bif inB s848.1 (List.length y847.1.1) then
                let x858 := iSub .i64 s848.1 1
                bif inB x858 (List.length y847.1.1) then
                  bif (! (iEq (Vec.getD 2 (List.getD y847.1.1 s848.1.toNat ((0, 0, ()) : (Vec 2 Int))) 1 (0 : Int)) (Vec.getD 2 (List.getD y847.1.1 x858.toNat ((0, 0, ()) : (Vec 2 Int))) 1 (0 : Int)))) then
                    bif inB s848.1 (List.length y847.1.1) then
                      let x862 := iSub .i64 s848.1 1
                      bif inB x862 (List.length y847.1.1) then
                        (spec_l07Wall a0 (((Vec.getD 2 (List.getD y847.1.1 s848.1.toNat ((0, 0, ()) : (Vec 2 Int))) 0 (0 : Int)), (Vec.getD 2 (List.getD y847.1.1 x862.toNat ((0, 0, ()) : (Vec 2 Int))) 1 (0 : Int)), ()) : (Vec 2 Int))).bind fun y864 =>
                        bif y864.1.1 then
                          Option.map Sum.inr (some ((false, ()), ()))
                        else
                        let x865 := iSub .i64 s848.1 1
                        bif inB x865 (List.length y847.1.1) then
                          bif inB s848.1 (List.length y847.1.1) then
                            (spec_l07Wall a0 (((Vec.getD 2 (List.getD y847.1.1 x865.toNat ((0, 0, ()) : (Vec 2 Int))) 0 (0 : Int)), (Vec.getD 2 (List.getD y847.1.1 s848.1.toNat ((0, 0, ()) : (Vec 2 Int))) 1 (0 : Int)), ()) : (Vec 2 Int))).bind fun y868 =>
                            bif y868.1.1 then
                              Option.map Sum.inr (some ((false, ()), ()))
                            else
                            some (Sum.inl ((iAdd .i64 s848.1 1), ()))
                          else none
                        else none
                      else none
                    else none
                  else
                  some (Sum.inl ((iAdd .i64 s848.1 1), ()))
                else none
              else none
            else
            some (Sum.inl ((iAdd .i64 s848.1 1), ()))
          else none
        else none
      else
      some (Sum.inl ((iAdd .i64 s848.1 1), ()))
    else none
  else
  Option.map Sum.inr (some ((true, ()), ()))
noncomputable def spec_l07Sees (a0 : (Int × (Int × ((List Int) × Unit)))) (a1 : (Vec 2 Int)) (a2 : (Vec 2 Int)) : Option ((Bool × Unit) × Unit) :=
  (spec_l07Line a1 a2).bind fun y847 =>
  run (spec_l07Sees_l3 y847 a0) ((0 : Int), ())
noncomputable def spec_l07Sees_sg : Sig := ⟨[.ro (.pair (.int .i64) (.pair (.int .i64) (.pair (.list (.int .u8)) (.unit)))), .v (.arr 2 (.int .i16)), .v (.arr 2 (.int .i16))], [.v (.val (.bool))], false⟩
noncomputable def spec_l07Sees_en : Entry := ⟨spec_l07Sees_sg, fun x => spec_l07Sees x.1 x.2.1 x.2.2.1⟩
theorem spec_l07Sees_eq (x : spec_l07Sees_sg.dom) : body (env [(102, spec_l07Line_en), (133, spec_l07Wall_en)]) [(3, .vary [(8, .sc (.int .i64))])] Try.f71 spec_l07Sees_sg x = spec_l07Sees x.1 x.2.1 x.2.2.1 := by kernel_rfl
theorem spec_l07Sees_so : Sound Try.prog 71 spec_l07Sees_en := sound_of_body (envS (l := [(102, spec_l07Line_en), (133, spec_l07Wall_en)]) (⟨spec_l07Line_so, spec_l07Wall_so, trivial⟩)) Try.func71 (by kernel_rfl) rfl (fun x y h => (spec_l07Sees_eq x).trans h)

-- loop.example/g01204/spec.ShortenRoute
noncomputable def spec_ShortenRoute_l9 (s788 : ((List (Vec 2 Int)) × Int × Unit)) (a1 : (List (Vec 2 Int))) (a0 : (Int × (Int × ((List Int) × Unit)))) (s793 : (Int × Int × Unit)) : Option ((Int × Int × Unit) ⊕ (((List (Vec 2 Int)) × Int × Unit) ⊕ (((List (Vec 2 Int)) × Int × Unit) × Unit))) :=
  bif (iLt s793.1 s793.2.1) then
    bif inB s788.2.1 (List.length a1) then
      bif inB s793.2.1 (List.length a1) then
        (spec_l07Sees a0 (List.getD a1 s788.2.1.toNat ((0, 0, ()) : (Vec 2 Int))) (List.getD a1 s793.2.1.toNat ((0, 0, ()) : (Vec 2 Int)))).bind fun y797 =>
        bif y797.1.1 then
          some (Sum.inl (s793.2.1, (iSub .i64 s793.2.1 1), ()))
        else
        some (Sum.inl (s793.1, (iSub .i64 s793.2.1 1), ()))
      else none
    else none
  else
  Option.map Sum.inr (
    bif inB s793.1 (List.length a1) then
      bif room (List.length s788.1 + 1) 4 then
        some (Sum.inl ((s788.1 ++ ([(List.getD a1 s793.1.toNat ((0, 0, ()) : (Vec 2 Int)))] : (List (Vec 2 Int)))), s793.1, ()))
      else none
    else none)
noncomputable def spec_ShortenRoute_l6 (a1 : (List (Vec 2 Int))) (a0 : (Int × (Int × ((List Int) × Unit)))) (s788 : ((List (Vec 2 Int)) × Int × Unit)) : Option (((List (Vec 2 Int)) × Int × Unit) ⊕ (((List (Vec 2 Int)) × Int × Unit) × Unit)) :=
  bif (iLt s788.2.1 (iSub .i64 (lenI a1) 1)) then
    run (spec_ShortenRoute_l9 s788 a1 a0) ((iAdd .i64 s788.2.1 1), (iSub .i64 (lenI a1) 1), ())
  else
  Option.map Sum.inr (some ((s788.1, (0 : Int), ()), ()))
noncomputable def spec_ShortenRoute (a0 : (Int × (Int × ((List Int) × Unit)))) (a1 : (List (Vec 2 Int))) : Option (((List (Vec 2 Int)) × Int × Unit) × Unit) :=
  (spec_l07Route a0 a1).bind fun y785 =>
  bif (! y785.1.2.1) then some ((([] : (List (Vec 2 Int))), (1 : Int), ()), ()) else
  bif inB 0 (List.length a1) then
    run (spec_ShortenRoute_l6 a1 a0) (([(List.getD a1 0 ((0, 0, ()) : (Vec 2 Int)))] : (List (Vec 2 Int))), (0 : Int), ())
  else none
noncomputable def spec_ShortenRoute_sg : Sig := ⟨[.v (.pair (.int .i64) (.pair (.int .i64) (.pair (.list (.int .u8)) (.unit)))), .v (.list (.arr 2 (.int .i16)))], [.v (.rows (.arr 2 (.int .i16))), .v (.val (.int .i64))], false⟩
noncomputable def spec_ShortenRoute_en : Entry := ⟨spec_ShortenRoute_sg, fun x => spec_ShortenRoute x.1 x.2.1⟩
theorem spec_ShortenRoute_eq (x : spec_ShortenRoute_sg.dom) : body (env [(70, spec_l07Route_en), (71, spec_l07Sees_en)]) [(6, .vary [(8, .rows (.arr 2 (.int .i16))), (9, .sc (.int .i64))]), (9, .vary [(10, .sc (.int .i64)), (11, .sc (.int .i64))])] Try.f22 spec_ShortenRoute_sg x = spec_ShortenRoute x.1 x.2.1 := by kernel_rfl
theorem spec_ShortenRoute_so : Sound Try.prog 22 spec_ShortenRoute_en := sound_of_body (envS (l := [(70, spec_l07Route_en), (71, spec_l07Sees_en)]) (⟨spec_l07Route_so, spec_l07Sees_so, trivial⟩)) Try.func22 (by kernel_rfl) rfl (fun x y h => (spec_ShortenRoute_eq x).trans h)

-- loop.example/g01204/laws.FnExactShortenRoute
noncomputable def laws_FnExactShortenRoute (a0 : (Int × (Int × ((List Int) × Unit)))) (a1 : (List (Vec 2 Int))) : Option ((Bool × Unit) × Unit) :=
  (laws_szGrid a0 (1048576 : Int)).bind fun y612 =>
  bif (iLt y612.1.1 0) then some ((true, ()), ()) else
  (laws_szSpotS a1 y612.1.1).bind fun y614 =>
  bif (iLt y614.1.1 0) then some ((true, ()), ()) else
  (laws_toGrid a0).bind fun y616 =>
  (laws_toSpotS a1).bind fun y617 =>
  (spec_ShortenRoute ((y616.1.1.1, y616.1.1.2.1, y616.1.1.2.2.1, y616.1.1.2.2.2) : (Int × (Int × ((List Int) × Unit)))) y617.1.1).bind fun y618 =>
  (laws_toGrid a0).bind fun y619 =>
  (laws_toSpotS a1).bind fun y620 =>
  (impl_ShortenRoute ((y619.1.1.1, y619.1.1.2.1, y619.1.1.2.2.1, y619.1.1.2.2.2) : (Int × (Int × ((List Int) × Unit)))) y620.1.1).bind fun y621 =>
  (laws_eqSpotS y621.1.1 y618.1.1).bind fun y622 =>
  bif (! y622.1.1) then some ((false, ()), ()) else
  bif (! (iEq y621.1.2.1 y618.1.2.1)) then some ((false, ()), ()) else
  (laws_toGrid a0).bind fun y625 =>
  (laws_eqGrid ((y619.1.1.1, y619.1.1.2.1, y619.1.1.2.2.1, y619.1.1.2.2.2) : (Int × (Int × ((List Int) × Unit)))) ((y625.1.1.1, y625.1.1.2.1, y625.1.1.2.2.1, y625.1.1.2.2.2) : (Int × (Int × ((List Int) × Unit))))).bind fun y626 =>
  bif (! y626.1.1) then some ((false, ()), ()) else
  (laws_toSpotS a1).bind fun y628 =>
  (laws_eqSpotS y620.1.1 y628.1.1).bind fun y629 =>
  bif (! y629.1.1) then some ((false, ()), ()) else
  (laws_markGrid ((y619.1.1.1, y619.1.1.2.1, y619.1.1.2.2.1, y619.1.1.2.2.2) : (Int × (Int × ((List Int) × Unit)))) (1 : Int)).bind fun y631 =>
  (laws_markSpotS y620.1.1 y631.1.1).bind fun y632 =>
  bif (iLt y632.1.1 0) then some ((false, ()), ()) else
  (laws_eqSpotS y621.1.1 y618.1.1).bind fun y634 =>
  bif (! y634.1.1) then some ((false, ()), ()) else
  bif (! (iEq y621.1.2.1 y618.1.2.1)) then some ((false, ()), ()) else
  (laws_markSpotS y621.1.1 (1 : Int)).bind fun y637 =>
  (laws_heldSpotS y637.2.1 (1 : Int)).bind fun y638 =>
  bif (iLt y638.1.1 0) then some ((false, ()), ()) else
  bif (! (iEq y638.1.1 y637.1.1)) then some ((false, ()), ()) else
  (laws_toGrid a0).bind fun y641 =>
  (laws_toSpotS a1).bind fun y642 =>
  (impl_ShortenRoute ((y641.1.1.1, y641.1.1.2.1, y641.1.1.2.2.1, y641.1.1.2.2.2) : (Int × (Int × ((List Int) × Unit)))) y642.1.1).bind fun y643 =>
  (laws_eqSpotS y643.1.1 y618.1.1).bind fun y644 =>
  bif (! y644.1.1) then some ((false, ()), ()) else
  bif (! (iEq y643.1.2.1 y618.1.2.1)) then some ((false, ()), ()) else
  (laws_heldSpotS y637.2.1 (1 : Int)).bind fun y647 =>
  bif (iLt y647.1.1 0) then some ((false, ()), ()) else
  bif (! (iEq y647.1.1 y637.1.1)) then some ((false, ()), ()) else some ((true, ()), ())
noncomputable def laws_FnExactShortenRoute_sg : Sig := ⟨[.v (.pair (.int .i64) (.pair (.int .i64) (.pair (.list (.int .u8)) (.unit)))), .v (.list (.arr 2 (.int .i16)))], [.v (.val (.bool))], false⟩
noncomputable def laws_FnExactShortenRoute_en : Entry := ⟨laws_FnExactShortenRoute_sg, fun x => laws_FnExactShortenRoute x.1 x.2.1⟩
theorem laws_FnExactShortenRoute_eq (x : laws_FnExactShortenRoute_sg.dom) : body (env [(11, laws_szGrid_en), (13, laws_toGrid_en), (17, laws_eqGrid_en), (18, laws_markGrid_en), (21, laws_szSpotS_en), (22, spec_ShortenRoute_en), (23, laws_toSpotS_en), (24, impl_ShortenRoute_en), (25, laws_eqSpotS_en), (26, laws_markSpotS_en), (27, laws_heldSpotS_en)]) [] Try.f4 laws_FnExactShortenRoute_sg x = laws_FnExactShortenRoute x.1 x.2.1 := by kernel_rfl
theorem laws_FnExactShortenRoute_so : Sound Try.prog 4 laws_FnExactShortenRoute_en := sound_of_body (envS (l := [(11, laws_szGrid_en), (13, laws_toGrid_en), (17, laws_eqGrid_en), (18, laws_markGrid_en), (21, laws_szSpotS_en), (22, spec_ShortenRoute_en), (23, laws_toSpotS_en), (24, impl_ShortenRoute_en), (25, laws_eqSpotS_en), (26, laws_markSpotS_en), (27, laws_heldSpotS_en)]) (⟨laws_szGrid_so, laws_toGrid_so, laws_eqGrid_so, laws_markGrid_so, laws_szSpotS_so, spec_ShortenRoute_so, laws_toSpotS_so, impl_ShortenRoute_so, laws_eqSpotS_so, laws_markSpotS_so, laws_heldSpotS_so, trivial⟩)) Try.func4 (by kernel_rfl) rfl (fun x y h => (laws_FnExactShortenRoute_eq x).trans h)

-- loop.example/g01204/impl.isFinite
noncomputable def impl_isFinite_l2 (a0 : (List Nat)) (s958 : (Int × Unit)) : Option ((Int × Unit) ⊕ ((Bool × Unit) × Unit)) :=
  bif (iLt s958.1 (lenI a0)) then
    bif inB s958.1 (List.length a0) then
      let x960 := List.getD a0 s958.1.toNat (0 : Nat)
      bif (! (fEq .f32 (fSub .f32 x960 x960) 0)) then
        Option.map Sum.inr (some ((false, ()), ()))
      else
      some (Sum.inl ((iAdd .i64 s958.1 1), ()))
    else none
  else
  Option.map Sum.inr (some ((true, ()), ()))
noncomputable def impl_isFinite (a0 : (List Nat)) : Option ((Bool × Unit) × Unit) :=
  run (impl_isFinite_l2 a0) ((0 : Int), ())
noncomputable def impl_isFinite_sg : Sig := ⟨[.v (.list (.flt .f32))], [.v (.val (.bool))], false⟩
noncomputable def impl_isFinite_en : Entry := ⟨impl_isFinite_sg, fun x => impl_isFinite x.1⟩
theorem impl_isFinite_eq (x : impl_isFinite_sg.dom) : body (env []) [(2, .vary [(7, .sc (.int .i64))])] Try.f111 impl_isFinite_sg x = impl_isFinite x.1 := by kernel_rfl
theorem impl_isFinite_so : Sound Try.prog 111 impl_isFinite_en := sound_of_body (envS (l := []) (trivial)) Try.func111 (by kernel_rfl) rfl (fun x y h => (impl_isFinite_eq x).trans h)

-- loop.example/g01204/impl.IsFiniteVec
noncomputable def impl_IsFiniteVec (a0 : (Vec 3 Nat)) : Option ((Bool × Unit) × Unit) :=
  (impl_isFinite ([Vec.getD 3 a0 0 (0 : Nat), Vec.getD 3 a0 1 (0 : Nat), Vec.getD 3 a0 2 (0 : Nat)] : (List Nat))).bind fun y957 =>
  some ((y957.1.1, ()), ())
noncomputable def impl_IsFiniteVec_sg : Sig := ⟨[.v (.arr 3 (.flt .f32))], [.v (.val (.bool))], false⟩
noncomputable def impl_IsFiniteVec_en : Entry := ⟨impl_IsFiniteVec_sg, fun x => impl_IsFiniteVec x.1⟩
theorem impl_IsFiniteVec_eq (x : impl_IsFiniteVec_sg.dom) : body (env [(111, impl_isFinite_en)]) [] Try.f190 impl_IsFiniteVec_sg x = impl_IsFiniteVec x.1 := by kernel_rfl
theorem impl_IsFiniteVec_so : Sound Try.prog 190 impl_IsFiniteVec_en := sound_of_body (envS (l := [(111, impl_isFinite_en)]) (⟨impl_isFinite_so, trivial⟩)) Try.func190 (by kernel_rfl) rfl (fun x y h => (impl_IsFiniteVec_eq x).trans h)

-- loop.example/g01204/impl.isNaN
noncomputable def impl_isNaN (a0 : Nat) : Option ((Bool × Unit) × Unit) :=
  some (((! (fEq .f32 a0 a0)), ()), ())
noncomputable def impl_isNaN_sg : Sig := ⟨[.v (.flt .f32)], [.v (.val (.bool))], false⟩
noncomputable def impl_isNaN_en : Entry := ⟨impl_isNaN_sg, fun x => impl_isNaN x.1⟩
theorem impl_isNaN_eq (x : impl_isNaN_sg.dom) : body (env []) [] Try.f224 impl_isNaN_sg x = impl_isNaN x.1 := by kernel_rfl
theorem impl_isNaN_so : Sound Try.prog 224 impl_isNaN_en := sound_of_body (envS (l := []) (trivial)) Try.func224 (by kernel_rfl) rfl (fun x y h => (impl_isNaN_eq x).trans h)

-- loop.example/g01204/impl.SameNumber
noncomputable def impl_SameNumber (a0 : Nat) (a1 : Nat) : Option ((Bool × Unit) × Unit) :=
  (impl_isNaN a0).bind fun y969 =>
  bif y969.1.1 then
    (impl_isNaN a1).bind fun y970 =>
    bif y970.1.1 then some ((true, ()), ()) else
    allSame fun (q971 : Nat) =>
    allSame fun (q973 : Nat) =>
    some (((iEq (bitsF .f32 a0 q971) (bitsF .f32 a1 q973)), ()), ())
  else
  allSame fun (q976 : Nat) =>
  allSame fun (q978 : Nat) =>
  some (((iEq (bitsF .f32 a0 q976) (bitsF .f32 a1 q978)), ()), ())
noncomputable def impl_SameNumber_sg : Sig := ⟨[.v (.flt .f32), .v (.flt .f32)], [.v (.val (.bool))], false⟩
noncomputable def impl_SameNumber_en : Entry := ⟨impl_SameNumber_sg, fun x => impl_SameNumber x.1 x.2.1⟩
theorem impl_SameNumber_eq (x : impl_SameNumber_sg.dom) : body (env [(224, impl_isNaN_en)]) [] Try.f219 impl_SameNumber_sg x = impl_SameNumber x.1 x.2.1 := by kernel_rfl
theorem impl_SameNumber_so : Sound Try.prog 219 impl_SameNumber_en := sound_of_body (envS (l := [(224, impl_isNaN_en)]) (⟨impl_isNaN_so, trivial⟩)) Try.func219 (by kernel_rfl) rfl (fun x y h => (impl_SameNumber_eq x).trans h)

-- loop.example/g01204/impl.SameVec
noncomputable def impl_SameVec (a0 : (Vec 3 Nat)) (a1 : (Vec 3 Nat)) : Option ((Bool × Unit) × Unit) :=
  (impl_SameNumber (Vec.getD 3 a0 0 (0 : Nat)) (Vec.getD 3 a1 0 (0 : Nat))).bind fun y984 =>
  bif (! y984.1.1) then some ((false, ()), ()) else
  (impl_SameNumber (Vec.getD 3 a0 1 (0 : Nat)) (Vec.getD 3 a1 1 (0 : Nat))).bind fun y988 =>
  bif (! y988.1.1) then some ((false, ()), ()) else
  (impl_SameNumber (Vec.getD 3 a0 2 (0 : Nat)) (Vec.getD 3 a1 2 (0 : Nat))).bind fun y992 =>
  bif (! y992.1.1) then some ((false, ()), ()) else some ((true, ()), ())
noncomputable def impl_SameVec_sg : Sig := ⟨[.v (.arr 3 (.flt .f32)), .v (.arr 3 (.flt .f32))], [.v (.val (.bool))], false⟩
noncomputable def impl_SameVec_en : Entry := ⟨impl_SameVec_sg, fun x => impl_SameVec x.1 x.2.1⟩
theorem impl_SameVec_eq (x : impl_SameVec_sg.dom) : body (env [(219, impl_SameNumber_en)]) [(2, .unroll 4)] Try.f218 impl_SameVec_sg x = impl_SameVec x.1 x.2.1 := by kernel_rfl
theorem impl_SameVec_so : Sound Try.prog 218 impl_SameVec_en := sound_of_body (envS (l := [(219, impl_SameNumber_en)]) (⟨impl_SameNumber_so, trivial⟩)) Try.func218 (by kernel_rfl) rfl (fun x y h => (impl_SameVec_eq x).trans h)

-- loop.example/g01204/impl.sameEntry
noncomputable def impl_sameEntry (a0 : (Int × ((Vec 3 Nat) × ((Vec 3 Int) × (Int × (Nat × Unit)))))) (a1 : (Int × ((Vec 3 Nat) × ((Vec 3 Int) × (Int × (Nat × Unit)))))) : Option ((Bool × Unit) × Unit) :=
  bif (iEq a0.1 a1.1) then
    (impl_SameVec a0.2.1 a1.2.1).bind fun y965 =>
    bif y965.1.1 then
      bif (iEq (Vec.getD 3 a0.2.2.1 0 (0 : Int)) (Vec.getD 3 a1.2.2.1 0 (0 : Int)) && (iEq (Vec.getD 3 a0.2.2.1 1 (0 : Int)) (Vec.getD 3 a1.2.2.1 1 (0 : Int)) && (iEq (Vec.getD 3 a0.2.2.1 2 (0 : Int)) (Vec.getD 3 a1.2.2.1 2 (0 : Int)) && true))) then
        bif (iEq a0.2.2.2.1 a1.2.2.2.1) then
          (impl_SameNumber a0.2.2.2.2.1 a1.2.2.2.2.1).bind fun y968 =>
          some ((y968.1.1, ()), ())
        else some ((false, ()), ())
      else some ((false, ()), ())
    else some ((false, ()), ())
  else some ((false, ()), ())
noncomputable def impl_sameEntry_sg : Sig := ⟨[.v (.pair (.int .i64) (.pair (.arr 3 (.flt .f32)) (.pair (.arr 3 (.int .i16)) (.pair (.int .i64) (.pair (.flt .f32) (.unit)))))), .v (.pair (.int .i64) (.pair (.arr 3 (.flt .f32)) (.pair (.arr 3 (.int .i16)) (.pair (.int .i64) (.pair (.flt .f32) (.unit))))))], [.v (.val (.bool))], false⟩
noncomputable def impl_sameEntry_en : Entry := ⟨impl_sameEntry_sg, fun x => impl_sameEntry x.1 x.2.1⟩
theorem impl_sameEntry_eq (x : impl_sameEntry_sg.dom) : body (env [(218, impl_SameVec_en), (219, impl_SameNumber_en)]) [] Try.f194 impl_sameEntry_sg x = impl_sameEntry x.1 x.2.1 := by kernel_rfl
theorem impl_sameEntry_so : Sound Try.prog 194 impl_sameEntry_en := sound_of_body (envS (l := [(218, impl_SameVec_en), (219, impl_SameNumber_en)]) (⟨impl_SameVec_so, impl_SameNumber_so, trivial⟩)) Try.func194 (by kernel_rfl) rfl (fun x y h => (impl_sameEntry_eq x).trans h)

-- loop.example/g01204/impl.validEntry
noncomputable def impl_validEntry (a0 : (Int × ((Vec 3 Nat) × ((Vec 3 Int) × (Int × (Nat × Unit)))))) (a1 : Int) : Option ((Bool × Unit) × Unit) :=
  bif (iEq a0.1 1) then
    (impl_sameEntry a0 ((a0.1, (0, 0, 0, ()), (0, 0, 0, ()), 0, 0, ()) : (Int × ((Vec 3 Nat) × ((Vec 3 Int) × (Int × (Nat × Unit))))))).bind fun y939 =>
    bif y939.1.1 then
      (impl_IsFiniteVec a0.2.1).bind fun y940 =>
      bif y940.1.1 then
        (impl_isFinite ([a0.2.2.2.2.1] : (List Nat))).bind fun y941 =>
        some ((y941.1.1, ()), ())
      else some ((false, ()), ())
    else some ((false, ()), ())
  else
  bif (iEq a0.1 2) then
    (impl_sameEntry a0 ((a0.1, a0.2.1, (0, 0, 0, ()), 0, 0, ()) : (Int × ((Vec 3 Nat) × ((Vec 3 Int) × (Int × (Nat × Unit))))))).bind fun y943 =>
    bif y943.1.1 then
      (impl_IsFiniteVec a0.2.1).bind fun y944 =>
      bif y944.1.1 then
        (impl_isFinite ([a0.2.2.2.2.1] : (List Nat))).bind fun y945 =>
        some ((y945.1.1, ()), ())
      else some ((false, ()), ())
    else some ((false, ()), ())
  else
  bif (iEq a0.1 3) then
    (impl_sameEntry a0 ((a0.1, (0, 0, 0, ()), a0.2.2.1, 0, 0, ()) : (Int × ((Vec 3 Nat) × ((Vec 3 Int) × (Int × (Nat × Unit))))))).bind fun y947 =>
    bif y947.1.1 then
      (impl_IsFiniteVec a0.2.1).bind fun y948 =>
      bif y948.1.1 then
        (impl_isFinite ([a0.2.2.2.2.1] : (List Nat))).bind fun y949 =>
        some ((y949.1.1, ()), ())
      else some ((false, ()), ())
    else some ((false, ()), ())
  else
  bif (iEq a0.1 4) then
    (impl_within a0.2.2.2.1 (0 : Int) (iSub .i64 a1 1)).bind fun y952 =>
    bif (! y952.1.1) then some ((false, ()), ()) else
    (impl_sameEntry a0 ((a0.1, (0, 0, 0, ()), (0, 0, 0, ()), a0.2.2.2.1, a0.2.2.2.2.1, ()) : (Int × ((Vec 3 Nat) × ((Vec 3 Int) × (Int × (Nat × Unit))))))).bind fun y954 =>
    bif y954.1.1 then
      (impl_IsFiniteVec a0.2.1).bind fun y955 =>
      bif y955.1.1 then
        (impl_isFinite ([a0.2.2.2.2.1] : (List Nat))).bind fun y956 =>
        some ((y956.1.1, ()), ())
      else some ((false, ()), ())
    else some ((false, ()), ())
  else some ((false, ()), ())
noncomputable def impl_validEntry_sg : Sig := ⟨[.v (.pair (.int .i64) (.pair (.arr 3 (.flt .f32)) (.pair (.arr 3 (.int .i16)) (.pair (.int .i64) (.pair (.flt .f32) (.unit)))))), .v (.int .i64)], [.v (.val (.bool))], false⟩
noncomputable def impl_validEntry_en : Entry := ⟨impl_validEntry_sg, fun x => impl_validEntry x.1 x.2.1⟩
theorem impl_validEntry_eq (x : impl_validEntry_sg.dom) : body (env [(99, impl_within_en), (111, impl_isFinite_en), (190, impl_IsFiniteVec_en), (194, impl_sameEntry_en)]) [] Try.f146 impl_validEntry_sg x = impl_validEntry x.1 x.2.1 := by kernel_rfl
theorem impl_validEntry_so : Sound Try.prog 146 impl_validEntry_en := sound_of_body (envS (l := [(99, impl_within_en), (111, impl_isFinite_en), (190, impl_IsFiniteVec_en), (194, impl_sameEntry_en)]) (⟨impl_within_so, impl_isFinite_so, impl_IsFiniteVec_so, impl_sameEntry_so, trivial⟩)) Try.func146 (by kernel_rfl) rfl (fun x y h => (impl_validEntry_eq x).trans h)

-- loop.example/g01204/impl.ValidLog$1
noncomputable def impl_ValidLog_1 (a0 : (Int × ((Vec 3 Nat) × ((Vec 3 Int) × (Int × (Nat × Unit)))))) (a1 : (Int × ((Vec 3 Nat) × ((List (Vec 3 Nat)) × ((List (Int × ((Vec 3 Nat) × ((Vec 3 Int) × (Int × (Nat × Unit)))))) × Unit))))) : Option ((Bool × Unit) × Unit) :=
  (impl_validEntry a0 (lenI a1.2.2.1)).bind fun y936 =>
  some (((! y936.1.1), ()), ())
noncomputable def impl_ValidLog_1_sg : Sig := ⟨[.v (.pair (.int .i64) (.pair (.arr 3 (.flt .f32)) (.pair (.arr 3 (.int .i16)) (.pair (.int .i64) (.pair (.flt .f32) (.unit)))))), .ro (.pair (.int .i64) (.pair (.arr 3 (.flt .f32)) (.pair (.list (.arr 3 (.flt .f32))) (.pair (.list (.pair (.int .i64) (.pair (.arr 3 (.flt .f32)) (.pair (.arr 3 (.int .i16)) (.pair (.int .i64) (.pair (.flt .f32) (.unit))))))) (.unit)))))], [.v (.val (.bool))], false⟩
noncomputable def impl_ValidLog_1_en : Entry := ⟨impl_ValidLog_1_sg, fun x => impl_ValidLog_1 x.1 x.2.1⟩
theorem impl_ValidLog_1_eq (x : impl_ValidLog_1_sg.dom) : body (env [(146, impl_validEntry_en)]) [] Try.f145 impl_ValidLog_1_sg x = impl_ValidLog_1 x.1 x.2.1 := by kernel_rfl
theorem impl_ValidLog_1_so : Sound Try.prog 145 impl_ValidLog_1_en := sound_of_body (envS (l := [(146, impl_validEntry_en)]) (⟨impl_validEntry_so, trivial⟩)) Try.func145 (by kernel_rfl) rfl (fun x y h => (impl_ValidLog_1_eq x).trans h)

-- loop.example/g01204/impl.validFrame$1
noncomputable def impl_validFrame_1 (a0 : (Vec 3 Nat)) : Option ((Bool × Unit) × Unit) :=
  (impl_IsFiniteVec a0).bind fun y1000 =>
  some (((! y1000.1.1), ()), ())
noncomputable def impl_validFrame_1_sg : Sig := ⟨[.v (.arr 3 (.flt .f32))], [.v (.val (.bool))], false⟩
noncomputable def impl_validFrame_1_en : Entry := ⟨impl_validFrame_1_sg, fun x => impl_validFrame_1 x.1⟩
theorem impl_validFrame_1_eq (x : impl_validFrame_1_sg.dom) : body (env [(190, impl_IsFiniteVec_en)]) [] Try.f192 impl_validFrame_1_sg x = impl_validFrame_1 x.1 := by kernel_rfl
theorem impl_validFrame_1_so : Sound Try.prog 192 impl_validFrame_1_en := sound_of_body (envS (l := [(190, impl_IsFiniteVec_en)]) (⟨impl_IsFiniteVec_so, trivial⟩)) Try.func192 (by kernel_rfl) rfl (fun x y h => (impl_validFrame_1_eq x).trans h)

-- slices.IndexFunc[[]loop.example/g01204/impl.Vec,loop.example/g01204/impl.Vec]
noncomputable def slices_IndexFunc_impl_Vec_l2 (a0 : (List (Vec 3 Nat))) (a1 : (((Vec 3 Nat) × Unit) → Option Bool)) (s1004 : (Int × Unit)) : Option ((Int × Unit) ⊕ ((Int × Unit) × Unit)) :=
  bif (iLt s1004.1 (lenI a0)) then
    bif inB s1004.1 (List.length a0) then
      (a1 ((List.getD a0 s1004.1.toNat ((0, 0, 0, ()) : (Vec 3 Nat))), ())).bind fun y1007 =>
      bif y1007 then
        Option.map Sum.inr (some ((s1004.1, ()), ()))
      else
      some (Sum.inl ((iAdd .i64 s1004.1 1), ()))
    else none
  else
  Option.map Sum.inr (some ((((-1 : Int) : Int), ()), ()))
noncomputable def slices_IndexFunc_impl_Vec (a0 : (List (Vec 3 Nat))) (a1 : (((Vec 3 Nat) × Unit) → Option Bool)) : Option ((Int × Unit) × Unit) :=
  run (slices_IndexFunc_impl_Vec_l2 a0 a1) ((0 : Int), ())
noncomputable def slices_IndexFunc_impl_Vec_sg : Sig := ⟨[.v (.list (.arr 3 (.flt .f32))), .fn ⟨[.arr 3 (.flt .f32)], .bool⟩], [.v (.val (.int .i64))], false⟩
noncomputable def slices_IndexFunc_impl_Vec_en : Entry := ⟨slices_IndexFunc_impl_Vec_sg, fun x => slices_IndexFunc_impl_Vec x.1 x.2.1⟩
theorem slices_IndexFunc_impl_Vec_eq (x : slices_IndexFunc_impl_Vec_sg.dom) : body (env []) [(2, .vary [(8, .sc (.int .i64))])] Try.f217 slices_IndexFunc_impl_Vec_sg x = slices_IndexFunc_impl_Vec x.1 x.2.1 := by kernel_rfl
theorem slices_IndexFunc_impl_Vec_so : Sound Try.prog 217 slices_IndexFunc_impl_Vec_en := sound_of_body (envS (l := []) (trivial)) Try.func217 (by kernel_rfl) rfl (fun x y h => (slices_IndexFunc_impl_Vec_eq x).trans h)

-- slices.ContainsFunc[[]loop.example/g01204/impl.Vec,loop.example/g01204/impl.Vec]
noncomputable def slices_ContainsFunc_impl_Vec (a0 : (List (Vec 3 Nat))) (a1 : (((Vec 3 Nat) × Unit) → Option Bool)) : Option ((Bool × Unit) × Unit) :=
  (slices_IndexFunc_impl_Vec a0 a1).bind fun y1002 =>
  some (((iLe 0 y1002.1.1), ()), ())
noncomputable def slices_ContainsFunc_impl_Vec_sg : Sig := ⟨[.v (.list (.arr 3 (.flt .f32))), .fn ⟨[.arr 3 (.flt .f32)], .bool⟩], [.v (.val (.bool))], false⟩
noncomputable def slices_ContainsFunc_impl_Vec_en : Entry := ⟨slices_ContainsFunc_impl_Vec_sg, fun x => slices_ContainsFunc_impl_Vec x.1 x.2.1⟩
theorem slices_ContainsFunc_impl_Vec_eq (x : slices_ContainsFunc_impl_Vec_sg.dom) : body (env [(217, slices_IndexFunc_impl_Vec_en)]) [] Try.f191 slices_ContainsFunc_impl_Vec_sg x = slices_ContainsFunc_impl_Vec x.1 x.2.1 := by kernel_rfl
theorem slices_ContainsFunc_impl_Vec_so : Sound Try.prog 191 slices_ContainsFunc_impl_Vec_en := sound_of_body (envS (l := [(217, slices_IndexFunc_impl_Vec_en)]) (⟨slices_IndexFunc_impl_Vec_so, trivial⟩)) Try.func191 (by kernel_rfl) rfl (fun x y h => (slices_ContainsFunc_impl_Vec_eq x).trans h)

-- loop.example/g01204/impl.validFrame
noncomputable def impl_validFrame (a0 : Int) (a1 : (Vec 3 Nat)) (a2 : (List (Vec 3 Nat))) : Option ((Bool × Unit) × Unit) :=
  (impl_within a0 (1 : Int) (64 : Int)).bind fun y994 =>
  bif y994.1.1 then
    (impl_IsFiniteVec a1).bind fun y995 =>
    bif y995.1.1 then
      bif (iLe (lenI a2) 6) then
        (slices_ContainsFunc_impl_Vec a2 (fun (z997 : ((Vec 3 Nat) × Unit)) => (impl_validFrame_1 z997.1).map fun y => y.1.1)).bind fun y998 =>
        some (((! y998.1.1), ()), ())
      else some ((false, ()), ())
    else some ((false, ()), ())
  else some ((false, ()), ())
noncomputable def impl_validFrame_sg : Sig := ⟨[.v (.int .i64), .v (.arr 3 (.flt .f32)), .v (.list (.arr 3 (.flt .f32)))], [.v (.val (.bool))], false⟩
noncomputable def impl_validFrame_en : Entry := ⟨impl_validFrame_sg, fun x => impl_validFrame x.1 x.2.1 x.2.2.1⟩
theorem impl_validFrame_eq (x : impl_validFrame_sg.dom) : body (env [(99, impl_within_en), (190, impl_IsFiniteVec_en), (191, slices_ContainsFunc_impl_Vec_en), (192, impl_validFrame_1_en)]) [] Try.f143 impl_validFrame_sg x = impl_validFrame x.1 x.2.1 x.2.2.1 := by kernel_rfl
theorem impl_validFrame_so : Sound Try.prog 143 impl_validFrame_en := sound_of_body (envS (l := [(99, impl_within_en), (190, impl_IsFiniteVec_en), (191, slices_ContainsFunc_impl_Vec_en), (192, impl_validFrame_1_en)]) (⟨impl_within_so, impl_IsFiniteVec_so, slices_ContainsFunc_impl_Vec_so, impl_validFrame_1_so, trivial⟩)) Try.func143 (by kernel_rfl) rfl (fun x y h => (impl_validFrame_eq x).trans h)

-- slices.IndexFunc[[]loop.example/g01204/impl.Entry,loop.example/g01204/impl.Entry]
noncomputable def slices_IndexFunc_impl_Entry_l2 (a0 : (List (Int × ((Vec 3 Nat) × ((Vec 3 Int) × (Int × (Nat × Unit))))))) (a1 : (((Int × ((Vec 3 Nat) × ((Vec 3 Int) × (Int × (Nat × Unit))))) × Unit) → Option Bool)) (s1011 : (Int × Unit)) : Option ((Int × Unit) ⊕ ((Int × Unit) × Unit)) :=
  bif (iLt s1011.1 (lenI a0)) then
    bif inB s1011.1 (List.length a0) then
      (a1 ((List.getD a0 s1011.1.toNat ((0, (0, 0, 0, ()), (0, 0, 0, ()), 0, 0, ()) : (Int × ((Vec 3 Nat) × ((Vec 3 Int) × (Int × (Nat × Unit))))))), ())).bind fun y1014 =>
      bif y1014 then
        Option.map Sum.inr (some ((s1011.1, ()), ()))
      else
      some (Sum.inl ((iAdd .i64 s1011.1 1), ()))
    else none
  else
  Option.map Sum.inr (some ((((-1 : Int) : Int), ()), ()))
noncomputable def slices_IndexFunc_impl_Entry (a0 : (List (Int × ((Vec 3 Nat) × ((Vec 3 Int) × (Int × (Nat × Unit))))))) (a1 : (((Int × ((Vec 3 Nat) × ((Vec 3 Int) × (Int × (Nat × Unit))))) × Unit) → Option Bool)) : Option ((Int × Unit) × Unit) :=
  run (slices_IndexFunc_impl_Entry_l2 a0 a1) ((0 : Int), ())
noncomputable def slices_IndexFunc_impl_Entry_sg : Sig := ⟨[.v (.list (.pair (.int .i64) (.pair (.arr 3 (.flt .f32)) (.pair (.arr 3 (.int .i16)) (.pair (.int .i64) (.pair (.flt .f32) (.unit))))))), .fn ⟨[.pair (.int .i64) (.pair (.arr 3 (.flt .f32)) (.pair (.arr 3 (.int .i16)) (.pair (.int .i64) (.pair (.flt .f32) (.unit)))))], .bool⟩], [.v (.val (.int .i64))], false⟩
noncomputable def slices_IndexFunc_impl_Entry_en : Entry := ⟨slices_IndexFunc_impl_Entry_sg, fun x => slices_IndexFunc_impl_Entry x.1 x.2.1⟩
theorem slices_IndexFunc_impl_Entry_eq (x : slices_IndexFunc_impl_Entry_sg.dom) : body (env []) [(2, .vary [(8, .sc (.int .i64))])] Try.f193 slices_IndexFunc_impl_Entry_sg x = slices_IndexFunc_impl_Entry x.1 x.2.1 := by kernel_rfl
theorem slices_IndexFunc_impl_Entry_so : Sound Try.prog 193 slices_IndexFunc_impl_Entry_en := sound_of_body (envS (l := []) (trivial)) Try.func193 (by kernel_rfl) rfl (fun x y h => (slices_IndexFunc_impl_Entry_eq x).trans h)

-- slices.ContainsFunc[[]loop.example/g01204/impl.Entry,loop.example/g01204/impl.Entry]
noncomputable def slices_ContainsFunc_impl_Entry (a0 : (List (Int × ((Vec 3 Nat) × ((Vec 3 Int) × (Int × (Nat × Unit))))))) (a1 : (((Int × ((Vec 3 Nat) × ((Vec 3 Int) × (Int × (Nat × Unit))))) × Unit) → Option Bool)) : Option ((Bool × Unit) × Unit) :=
  (slices_IndexFunc_impl_Entry a0 a1).bind fun y1009 =>
  some (((iLe 0 y1009.1.1), ()), ())
noncomputable def slices_ContainsFunc_impl_Entry_sg : Sig := ⟨[.v (.list (.pair (.int .i64) (.pair (.arr 3 (.flt .f32)) (.pair (.arr 3 (.int .i16)) (.pair (.int .i64) (.pair (.flt .f32) (.unit))))))), .fn ⟨[.pair (.int .i64) (.pair (.arr 3 (.flt .f32)) (.pair (.arr 3 (.int .i16)) (.pair (.int .i64) (.pair (.flt .f32) (.unit)))))], .bool⟩], [.v (.val (.bool))], false⟩
noncomputable def slices_ContainsFunc_impl_Entry_en : Entry := ⟨slices_ContainsFunc_impl_Entry_sg, fun x => slices_ContainsFunc_impl_Entry x.1 x.2.1⟩
theorem slices_ContainsFunc_impl_Entry_eq (x : slices_ContainsFunc_impl_Entry_sg.dom) : body (env [(193, slices_IndexFunc_impl_Entry_en)]) [] Try.f144 slices_ContainsFunc_impl_Entry_sg x = slices_ContainsFunc_impl_Entry x.1 x.2.1 := by kernel_rfl
theorem slices_ContainsFunc_impl_Entry_so : Sound Try.prog 144 slices_ContainsFunc_impl_Entry_en := sound_of_body (envS (l := [(193, slices_IndexFunc_impl_Entry_en)]) (⟨slices_IndexFunc_impl_Entry_so, trivial⟩)) Try.func144 (by kernel_rfl) rfl (fun x y h => (slices_ContainsFunc_impl_Entry_eq x).trans h)

end Go.Proofs.Ytioniijhdkkieaa
