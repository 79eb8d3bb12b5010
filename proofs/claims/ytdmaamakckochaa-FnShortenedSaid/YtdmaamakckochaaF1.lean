import Derived.Test.YtdmaamakckochaaE
/- Functions on typed data: what the evaluation of each Go function is, and that it is sound. -/
namespace Go.Proofs.Ytdmaamakckochaa
open Go Go.Tm
set_option linter.unusedVariables false
set_option maxRecDepth 100000
-- (loop.example/g01204/impl.Grid).at
noncomputable def impl_Grid_at (a0 : (Int × (Int × ((List Int) × Unit)))) (a1 : (Vec 2 Int)) : Option ((Int × Unit) × Unit) :=
  some (((iAdd .i64 (iMul .i64 (iWrap .i64 (Vec.getD 2 a1 1 (0 : Int))) a0.1) (iWrap .i64 (Vec.getD 2 a1 0 (0 : Int)))), ()), ())
noncomputable def impl_Grid_at_sg : Sig := ⟨[.v (.pair (.int .i64) (.pair (.int .i64) (.pair (.list (.int .u8)) (.unit)))), .v (.arr 2 (.int .i16))], [.v (.val (.int .i64))], false⟩
noncomputable def impl_Grid_at_en : Entry := ⟨impl_Grid_at_sg, fun x => impl_Grid_at x.1 x.2.1⟩
theorem impl_Grid_at_eq {G : List (Nat × Obj)} (x : impl_Grid_at_sg.dom) : body (env G []) [] Try.f25 impl_Grid_at_sg x = impl_Grid_at x.1 x.2.1 := by kernel_rfl
theorem impl_Grid_at_so {G : List (Nat × Obj)} : Sound Try.prog G 25 impl_Grid_at_en := sound_of_body (envS (l := []) (trivial)) Try.func25 (by kernel_rfl) rfl (fun x y h => (impl_Grid_at_eq (G := G) x).trans h)

-- loop.example/g01204/impl.within
noncomputable def impl_within (a0 : Int) (a1 : Int) (a2 : Int) : Option ((Bool × Unit) × Unit) :=
  bif (iLe a1 a0) then
    some (((iLe a0 a2), ()), ())
  else some ((false, ()), ())
noncomputable def impl_within_sg : Sig := ⟨[.v (.int .i64), .v (.int .i64), .v (.int .i64)], [.v (.val (.bool))], false⟩
noncomputable def impl_within_en : Entry := ⟨impl_within_sg, fun x => impl_within x.1 x.2.1 x.2.2.1⟩
theorem impl_within_eq {G : List (Nat × Obj)} (x : impl_within_sg.dom) : body (env G []) [] Try.f19 impl_within_sg x = impl_within x.1 x.2.1 x.2.2.1 := by kernel_rfl
theorem impl_within_so {G : List (Nat × Obj)} : Sound Try.prog G 19 impl_within_en := sound_of_body (envS (l := []) (trivial)) Try.func19 (by kernel_rfl) rfl (fun x y h => (impl_within_eq (G := G) x).trans h)

-- loop.example/g01204/impl.ValidGrid
noncomputable def impl_ValidGrid (a0 : (Int × (Int × ((List Int) × Unit)))) : Option ((Bool × Unit) × Unit) :=
  (impl_within a0.1 (1 : Int) (24 : Int)).bind fun y203 =>
  bif y203.1.1 then
    (impl_within a0.2.1 (1 : Int) (24 : Int)).bind fun y204 =>
    bif y204.1.1 then
      some (((iEq (lenI a0.2.2.1) (iMul .i64 a0.1 a0.2.1)), ()), ())
    else some ((false, ()), ())
  else some ((false, ()), ())
noncomputable def impl_ValidGrid_sg : Sig := ⟨[.v (.pair (.int .i64) (.pair (.int .i64) (.pair (.list (.int .u8)) (.unit))))], [.v (.val (.bool))], false⟩
noncomputable def impl_ValidGrid_en : Entry := ⟨impl_ValidGrid_sg, fun x => impl_ValidGrid x.1⟩
theorem impl_ValidGrid_eq {G : List (Nat × Obj)} (x : impl_ValidGrid_sg.dom) : body (env G [(19, impl_within_en)]) [] Try.f26 impl_ValidGrid_sg x = impl_ValidGrid x.1 := by kernel_rfl
theorem impl_ValidGrid_so {G : List (Nat × Obj)} : Sound Try.prog G 26 impl_ValidGrid_en := sound_of_body (envS (l := [(19, impl_within_en)]) (⟨(impl_within_so), trivial⟩)) Try.func26 (by kernel_rfl) rfl (fun x y h => (impl_ValidGrid_eq (G := G) x).trans h)

-- (loop.example/g01204/impl.Grid).has
noncomputable def impl_Grid_has (a0 : (Int × (Int × ((List Int) × Unit)))) (a1 : (Vec 2 Int)) : Option ((Bool × Unit) × Unit) :=
  (impl_within (iWrap .i64 (Vec.getD 2 a1 0 (0 : Int))) (0 : Int) (iSub .i64 a0.1 1)).bind fun y214 =>
  bif y214.1.1 then
    (impl_within (iWrap .i64 (Vec.getD 2 a1 1 (0 : Int))) (0 : Int) (iSub .i64 a0.2.1 1)).bind fun y218 =>
    some ((y218.1.1, ()), ())
  else some ((false, ()), ())
noncomputable def impl_Grid_has_sg : Sig := ⟨[.v (.pair (.int .i64) (.pair (.int .i64) (.pair (.list (.int .u8)) (.unit)))), .v (.arr 2 (.int .i16))], [.v (.val (.bool))], false⟩
noncomputable def impl_Grid_has_en : Entry := ⟨impl_Grid_has_sg, fun x => impl_Grid_has x.1 x.2.1⟩
theorem impl_Grid_has_eq {G : List (Nat × Obj)} (x : impl_Grid_has_sg.dom) : body (env G [(19, impl_within_en)]) [] Try.f42 impl_Grid_has_sg x = impl_Grid_has x.1 x.2.1 := by kernel_rfl
theorem impl_Grid_has_so {G : List (Nat × Obj)} : Sound Try.prog G 42 impl_Grid_has_en := sound_of_body (envS (l := [(19, impl_within_en)]) (⟨(impl_within_so), trivial⟩)) Try.func42 (by kernel_rfl) rfl (fun x y h => (impl_Grid_has_eq (G := G) x).trans h)

-- loop.example/g01204/impl.checkSpots$1
noncomputable def impl_checkSpots_1 (a0 : (Vec 2 Int)) (a1 : (Int × (Int × ((List Int) × Unit)))) : Option ((Bool × Unit) × Unit) :=
  (impl_Grid_has a1 a0).bind fun y209 =>
  some (((! y209.1.1), ()), ())
noncomputable def impl_checkSpots_1_sg : Sig := ⟨[.v (.arr 2 (.int .i16)), .ro (.pair (.int .i64) (.pair (.int .i64) (.pair (.list (.int .u8)) (.unit))))], [.v (.val (.bool))], false⟩
noncomputable def impl_checkSpots_1_en : Entry := ⟨impl_checkSpots_1_sg, fun x => impl_checkSpots_1 x.1 x.2.1⟩
theorem impl_checkSpots_1_eq {G : List (Nat × Obj)} (x : impl_checkSpots_1_sg.dom) : body (env G [(42, impl_Grid_has_en)]) [] Try.f41 impl_checkSpots_1_sg x = impl_checkSpots_1 x.1 x.2.1 := by kernel_rfl
theorem impl_checkSpots_1_so {G : List (Nat × Obj)} : Sound Try.prog G 41 impl_checkSpots_1_en := sound_of_body (envS (l := [(42, impl_Grid_has_en)]) (⟨(impl_Grid_has_so), trivial⟩)) Try.func41 (by kernel_rfl) rfl (fun x y h => (impl_checkSpots_1_eq (G := G) x).trans h)

-- slices.IndexFunc[[]loop.example/g01204/impl.Spot,loop.example/g01204/impl.Spot]
noncomputable def slices_IndexFunc_impl_Spot_l2 (a0 : (List (Vec 2 Int))) (a1 : (((Vec 2 Int) × Unit) → Option Bool)) (s221 : (Int × Unit)) : Option ((Int × Unit) ⊕ ((Int × Unit) × Unit)) :=
  bif (iLt s221.1 (lenI a0)) then
    bif inB s221.1 (List.length a0) then
      (a1 ((List.getD a0 s221.1.toNat ((0, 0, ()) : (Vec 2 Int))), ())).bind fun y224 =>
      bif y224 then
        Option.map Sum.inr (some ((s221.1, ()), ()))
      else
      some (Sum.inl ((iAdd .i64 s221.1 1), ()))
    else none
  else
  Option.map Sum.inr (some ((((-1 : Int) : Int), ()), ()))
noncomputable def slices_IndexFunc_impl_Spot (a0 : (List (Vec 2 Int))) (a1 : (((Vec 2 Int) × Unit) → Option Bool)) : Option ((Int × Unit) × Unit) :=
  run (slices_IndexFunc_impl_Spot_l2 a0 a1) ((0 : Int), ())
noncomputable def slices_IndexFunc_impl_Spot_sg : Sig := ⟨[.v (.list (.arr 2 (.int .i16))), .fn ⟨[.arr 2 (.int .i16)], .bool⟩], [.v (.val (.int .i64))], false⟩
noncomputable def slices_IndexFunc_impl_Spot_en : Entry := ⟨slices_IndexFunc_impl_Spot_sg, fun x => slices_IndexFunc_impl_Spot x.1 x.2.1⟩
theorem slices_IndexFunc_impl_Spot_eq {G : List (Nat × Obj)} (x : slices_IndexFunc_impl_Spot_sg.dom) : body (env G []) [(2, .vary [(8, .sc (.int .i64))])] Try.f50 slices_IndexFunc_impl_Spot_sg x = slices_IndexFunc_impl_Spot x.1 x.2.1 := by kernel_rfl
theorem slices_IndexFunc_impl_Spot_so {G : List (Nat × Obj)} : Sound Try.prog G 50 slices_IndexFunc_impl_Spot_en := sound_of_body (envS (l := []) (trivial)) Try.func50 (by kernel_rfl) rfl (fun x y h => (slices_IndexFunc_impl_Spot_eq (G := G) x).trans h)

-- slices.ContainsFunc[[]loop.example/g01204/impl.Spot,loop.example/g01204/impl.Spot]
noncomputable def slices_ContainsFunc_impl_Spot (a0 : (List (Vec 2 Int))) (a1 : (((Vec 2 Int) × Unit) → Option Bool)) : Option ((Bool × Unit) × Unit) :=
  (slices_IndexFunc_impl_Spot a0 a1).bind fun y219 =>
  some (((iLe 0 y219.1.1), ()), ())
noncomputable def slices_ContainsFunc_impl_Spot_sg : Sig := ⟨[.v (.list (.arr 2 (.int .i16))), .fn ⟨[.arr 2 (.int .i16)], .bool⟩], [.v (.val (.bool))], false⟩
noncomputable def slices_ContainsFunc_impl_Spot_en : Entry := ⟨slices_ContainsFunc_impl_Spot_sg, fun x => slices_ContainsFunc_impl_Spot x.1 x.2.1⟩
theorem slices_ContainsFunc_impl_Spot_eq {G : List (Nat × Obj)} (x : slices_ContainsFunc_impl_Spot_sg.dom) : body (env G [(50, slices_IndexFunc_impl_Spot_en)]) [] Try.f40 slices_ContainsFunc_impl_Spot_sg x = slices_ContainsFunc_impl_Spot x.1 x.2.1 := by kernel_rfl
theorem slices_ContainsFunc_impl_Spot_so {G : List (Nat × Obj)} : Sound Try.prog G 40 slices_ContainsFunc_impl_Spot_en := sound_of_body (envS (l := [(50, slices_IndexFunc_impl_Spot_en)]) (⟨(slices_IndexFunc_impl_Spot_so), trivial⟩)) Try.func40 (by kernel_rfl) rfl (fun x y h => (slices_ContainsFunc_impl_Spot_eq (G := G) x).trans h)

-- loop.example/g01204/impl.checkSpots
noncomputable def impl_checkSpots (a0 : (Int × (Int × ((List Int) × Unit)))) (a1 : (List (Vec 2 Int))) : Option ((Int × Unit) × Unit) :=
  (impl_ValidGrid a0).bind fun y199 =>
  bif (! y199.1.1) then some (((1 : Int), ()), ()) else
  (slices_ContainsFunc_impl_Spot a1 (fun (z201 : ((Vec 2 Int) × Unit)) => (impl_checkSpots_1 z201.1 a0).map fun y => y.1.1)).bind fun y202 =>
  bif y202.1.1 then some (((2 : Int), ()), ()) else some (((0 : Int), ()), ())
noncomputable def impl_checkSpots_sg : Sig := ⟨[.v (.pair (.int .i64) (.pair (.int .i64) (.pair (.list (.int .u8)) (.unit)))), .v (.list (.arr 2 (.int .i16)))], [.v (.val (.int .i64))], false⟩
noncomputable def impl_checkSpots_en : Entry := ⟨impl_checkSpots_sg, fun x => impl_checkSpots x.1 x.2.1⟩
theorem impl_checkSpots_eq {G : List (Nat × Obj)} (x : impl_checkSpots_sg.dom) : body (env G [(26, impl_ValidGrid_en), (40, slices_ContainsFunc_impl_Spot_en), (41, impl_checkSpots_1_en)]) [] Try.f23 impl_checkSpots_sg x = impl_checkSpots x.1 x.2.1 := by kernel_rfl
theorem impl_checkSpots_so {G : List (Nat × Obj)} : Sound Try.prog G 23 impl_checkSpots_en := sound_of_body (envS (l := [(26, impl_ValidGrid_en), (40, slices_ContainsFunc_impl_Spot_en), (41, impl_checkSpots_1_en)]) (⟨(impl_ValidGrid_so), (slices_ContainsFunc_impl_Spot_so), (impl_checkSpots_1_so), trivial⟩)) Try.func23 (by kernel_rfl) rfl (fun x y h => (impl_checkSpots_eq (G := G) x).trans h)

-- loop.example/g01204/impl.CostAt
noncomputable def impl_CostAt (a0 : (Int × (Int × ((List Int) × Unit)))) (a1 : (Vec 2 Int)) : Option ((Int × Int × Unit) × Unit) :=
  (impl_checkSpots a0 ([a1] : (List (Vec 2 Int)))).bind fun y189 =>
  bif (! (iEq y189.1.1 0)) then some (((0 : Int), y189.1.1, ()), ()) else
  (impl_Grid_at a0 a1).bind fun y191 =>
  bif inB y191.1.1 (List.length a0.2.2.1) then
    some (((List.getD a0.2.2.1 y191.1.1.toNat (0 : Int)), (0 : Int), ()), ())
  else none
noncomputable def impl_CostAt_sg : Sig := ⟨[.v (.pair (.int .i64) (.pair (.int .i64) (.pair (.list (.int .u8)) (.unit)))), .v (.arr 2 (.int .i16))], [.v (.val (.int .u8)), .v (.val (.int .i64))], false⟩
noncomputable def impl_CostAt_en : Entry := ⟨impl_CostAt_sg, fun x => impl_CostAt x.1 x.2.1⟩
theorem impl_CostAt_eq {G : List (Nat × Obj)} (x : impl_CostAt_sg.dom) : body (env G [(23, impl_checkSpots_en), (25, impl_Grid_at_en)]) [] Try.f11 impl_CostAt_sg x = impl_CostAt x.1 x.2.1 := by kernel_rfl
theorem impl_CostAt_so {G : List (Nat × Obj)} : Sound Try.prog G 11 impl_CostAt_en := sound_of_body (envS (l := [(23, impl_checkSpots_en), (25, impl_Grid_at_en)]) (⟨(impl_checkSpots_so), (impl_Grid_at_so), trivial⟩)) Try.func11 (by kernel_rfl) rfl (fun x y h => (impl_CostAt_eq (G := G) x).trans h)

-- (loop.example/g01204/impl.Grid).isWall
noncomputable def impl_Grid_isWall (a0 : (Int × (Int × ((List Int) × Unit)))) (a1 : (Vec 2 Int)) : Option ((Bool × Unit) × Unit) :=
  (impl_Grid_at a0 a1).bind fun y239 =>
  bif inB y239.1.1 (List.length a0.2.2.1) then
    some (((iEq (List.getD a0.2.2.1 y239.1.1.toNat (0 : Int)) 255), ()), ())
  else none
noncomputable def impl_Grid_isWall_sg : Sig := ⟨[.v (.pair (.int .i64) (.pair (.int .i64) (.pair (.list (.int .u8)) (.unit)))), .v (.arr 2 (.int .i16))], [.v (.val (.bool))], false⟩
noncomputable def impl_Grid_isWall_en : Entry := ⟨impl_Grid_isWall_sg, fun x => impl_Grid_isWall x.1 x.2.1⟩
theorem impl_Grid_isWall_eq {G : List (Nat × Obj)} (x : impl_Grid_isWall_sg.dom) : body (env G [(25, impl_Grid_at_en)]) [] Try.f43 impl_Grid_isWall_sg x = impl_Grid_isWall x.1 x.2.1 := by kernel_rfl
theorem impl_Grid_isWall_so {G : List (Nat × Obj)} : Sound Try.prog G 43 impl_Grid_isWall_en := sound_of_body (envS (l := [(25, impl_Grid_at_en)]) (⟨(impl_Grid_at_so), trivial⟩)) Try.func43 (by kernel_rfl) rfl (fun x y h => (impl_Grid_isWall_eq (G := G) x).trans h)

-- (loop.example/g01204/impl.Grid).stepCost
noncomputable def impl_Grid_stepCost (a0 : (Int × (Int × ((List Int) × Unit)))) (a1 : (Vec 2 Int)) (a2 : (Vec 2 Int)) : Option ((Int × Bool × Unit) × Unit) :=
  let x246 := iSub .i64 (iWrap .i64 (Vec.getD 2 a2 0 (0 : Int))) (iWrap .i64 (Vec.getD 2 a1 0 (0 : Int)))
  let x251 := iSub .i64 (iWrap .i64 (Vec.getD 2 a2 1 (0 : Int))) (iWrap .i64 (Vec.getD 2 a1 1 (0 : Int)))
  (impl_within x246 ((-1 : Int) : Int) (1 : Int)).bind fun y252 =>
  bif (! y252.1.1) then some (((0 : Int), false, ()), ()) else
  (impl_within x251 ((-1 : Int) : Int) (1 : Int)).bind fun y254 =>
  bif (! y254.1.1) then some (((0 : Int), false, ()), ()) else
  bif (iEq x246 0) then
    bif (iEq x251 0) then some (((0 : Int), false, ()), ()) else
    (impl_Grid_has a0 a2).bind fun y258 =>
    bif (! y258.1.1) then some (((0 : Int), false, ()), ()) else
    (impl_Grid_isWall a0 a2).bind fun y260 =>
    bif y260.1.1 then some (((0 : Int), false, ()), ()) else
    (impl_Grid_at a0 a2).bind fun y261 =>
    bif inB y261.1.1 (List.length a0.2.2.1) then
      let x264 := iAdd .i64 10 (iWrap .i64 (List.getD a0.2.2.1 y261.1.1.toNat (0 : Int)))
      bif (! (iEq x246 0)) then
        bif (! (iEq x251 0)) then
          (impl_Grid_isWall a0 (((Vec.getD 2 a1 0 (0 : Int)), (Vec.getD 2 a2 1 (0 : Int)), ()) : (Vec 2 Int))).bind fun y269 =>
          bif y269.1.1 then some (((0 : Int), false, ()), ()) else
          (impl_Grid_isWall a0 (((Vec.getD 2 a2 0 (0 : Int)), (Vec.getD 2 a1 1 (0 : Int)), ()) : (Vec 2 Int))).bind fun y272 =>
          bif y272.1.1 then some (((0 : Int), false, ()), ()) else
          some (((iAdd .i64 x264 4), true, ()), ())
        else some ((x264, true, ()), ())
      else some ((x264, true, ()), ())
    else none
  else
  (impl_Grid_has a0 a2).bind fun y274 =>
  bif (! y274.1.1) then some (((0 : Int), false, ()), ()) else
  (impl_Grid_isWall a0 a2).bind fun y276 =>
  bif y276.1.1 then some (((0 : Int), false, ()), ()) else
  (impl_Grid_at a0 a2).bind fun y277 =>
  bif inB y277.1.1 (List.length a0.2.2.1) then
    let x280 := iAdd .i64 10 (iWrap .i64 (List.getD a0.2.2.1 y277.1.1.toNat (0 : Int)))
    bif (! (iEq x246 0)) then
      bif (! (iEq x251 0)) then
        (impl_Grid_isWall a0 (((Vec.getD 2 a1 0 (0 : Int)), (Vec.getD 2 a2 1 (0 : Int)), ()) : (Vec 2 Int))).bind fun y285 =>
        bif y285.1.1 then some (((0 : Int), false, ()), ()) else
        (impl_Grid_isWall a0 (((Vec.getD 2 a2 0 (0 : Int)), (Vec.getD 2 a1 1 (0 : Int)), ()) : (Vec 2 Int))).bind fun y288 =>
        bif y288.1.1 then some (((0 : Int), false, ()), ()) else
        some (((iAdd .i64 x280 4), true, ()), ())
      else some ((x280, true, ()), ())
    else some ((x280, true, ()), ())
  else none
noncomputable def impl_Grid_stepCost_sg : Sig := ⟨[.v (.pair (.int .i64) (.pair (.int .i64) (.pair (.list (.int .u8)) (.unit)))), .v (.arr 2 (.int .i16)), .v (.arr 2 (.int .i16))], [.v (.val (.int .i64)), .v (.val (.bool))], false⟩
noncomputable def impl_Grid_stepCost_en : Entry := ⟨impl_Grid_stepCost_sg, fun x => impl_Grid_stepCost x.1 x.2.1 x.2.2.1⟩
theorem impl_Grid_stepCost_eq {G : List (Nat × Obj)} (x : impl_Grid_stepCost_sg.dom) : body (env G [(19, impl_within_en), (25, impl_Grid_at_en), (42, impl_Grid_has_en), (43, impl_Grid_isWall_en)]) [] Try.f44 impl_Grid_stepCost_sg x = impl_Grid_stepCost x.1 x.2.1 x.2.2.1 := by kernel_rfl
theorem impl_Grid_stepCost_so {G : List (Nat × Obj)} : Sound Try.prog G 44 impl_Grid_stepCost_en := sound_of_body (envS (l := [(19, impl_within_en), (25, impl_Grid_at_en), (42, impl_Grid_has_en), (43, impl_Grid_isWall_en)]) (⟨(impl_within_so), (impl_Grid_at_so), (impl_Grid_has_so), (impl_Grid_isWall_so), trivial⟩)) Try.func44 (by kernel_rfl) rfl (fun x y h => (impl_Grid_stepCost_eq (G := G) x).trans h)

-- loop.example/g01204/impl.quotient
noncomputable def impl_quotient (a0 : Int) (a1 : Int) : Option ((Int × Unit) × Unit) :=
  bif iEq a1 0 then none else
  let x321 := iQuo .i64 a0 a1
  bif iEq a1 0 then none else
  bif (iLt (iRem .i64 a0 a1) 0) then
    some (((iSub .i64 x321 1), ()), ())
  else some ((x321, ()), ())
noncomputable def impl_quotient_sg : Sig := ⟨[.v (.int .i64), .v (.int .i64)], [.v (.val (.int .i64))], false⟩
noncomputable def impl_quotient_en : Entry := ⟨impl_quotient_sg, fun x => impl_quotient x.1 x.2.1⟩
theorem impl_quotient_eq {G : List (Nat × Obj)} (x : impl_quotient_sg.dom) : body (env G []) [] Try.f37 impl_quotient_sg x = impl_quotient x.1 x.2.1 := by kernel_rfl
theorem impl_quotient_so {G : List (Nat × Obj)} : Sound Try.prog G 37 impl_quotient_en := sound_of_body (envS (l := []) (trivial)) Try.func37 (by kernel_rfl) rfl (fun x y h => (impl_quotient_eq (G := G) x).trans h)

-- loop.example/g01204/impl.spotsBetween
noncomputable def impl_spotsBetween_l6 (x302 : Int) (x296 : Int) (x299 : Int) (x291 : Int) (x293 : Int) (s303 : ((List (Vec 2 Int)) × Int × Unit)) : Option (((List (Vec 2 Int)) × Int × Unit) ⊕ (((List (Vec 2 Int)) × Unit) × Unit)) :=
  bif (iLe s303.2.1 x302) then
    (impl_quotient (iAdd .i64 (iMul .i64 (iMul .i64 2 s303.2.1) x296) x302) (iMul .i64 2 x302)).bind fun y309 =>
    (impl_quotient (iAdd .i64 (iMul .i64 (iMul .i64 2 s303.2.1) x299) x302) (iMul .i64 2 x302)).bind fun y316 =>
    bif room (List.length s303.1 + 1) 4 then
      some (Sum.inl ((s303.1 ++ ([((iWrap .i16 (iAdd .i64 x291 y309.1.1)), (iWrap .i16 (iAdd .i64 x293 y316.1.1)), ())] : (List (Vec 2 Int)))), (iAdd .i64 s303.2.1 1), ()))
    else none
  else
  Option.map Sum.inr (some ((s303.1, ()), ()))
noncomputable def impl_spotsBetween (a0 : (Vec 2 Int)) (a1 : (Vec 2 Int)) : Option (((List (Vec 2 Int)) × Unit) × Unit) :=
  let x291 := iWrap .i64 (Vec.getD 2 a0 0 (0 : Int))
  let x293 := iWrap .i64 (Vec.getD 2 a0 1 (0 : Int))
  let x296 := iSub .i64 (iWrap .i64 (Vec.getD 2 a1 0 (0 : Int))) x291
  let x299 := iSub .i64 (iWrap .i64 (Vec.getD 2 a1 1 (0 : Int))) x293
  let x302 := iMax (iMax (iMax x296 (iSub .i64 0 x296)) x299) (iSub .i64 0 x299)
  run (impl_spotsBetween_l6 x302 x296 x299 x291 x293) (([a0] : (List (Vec 2 Int))), (1 : Int), ())
noncomputable def impl_spotsBetween_sg : Sig := ⟨[.v (.arr 2 (.int .i16)), .v (.arr 2 (.int .i16))], [.v (.rows (.arr 2 (.int .i16)))], false⟩
noncomputable def impl_spotsBetween_en : Entry := ⟨impl_spotsBetween_sg, fun x => impl_spotsBetween x.1 x.2.1⟩
theorem impl_spotsBetween_eq {G : List (Nat × Obj)} (x : impl_spotsBetween_sg.dom) : body (env G [(37, impl_quotient_en)]) [(6, .vary [(10, .rows (.arr 2 (.int .i16))), (11, .sc (.int .i64))])] Try.f20 impl_spotsBetween_sg x = impl_spotsBetween x.1 x.2.1 := by kernel_rfl
theorem impl_spotsBetween_so {G : List (Nat × Obj)} : Sound Try.prog G 20 impl_spotsBetween_en := sound_of_body (envS (l := [(37, impl_quotient_en)]) (⟨(impl_quotient_so), trivial⟩)) Try.func20 (by kernel_rfl) rfl (fun x y h => (impl_spotsBetween_eq (G := G) x).trans h)

-- (loop.example/g01204/impl.Grid).sees
noncomputable def impl_Grid_sees_l5 (y229 : (((List (Vec 2 Int)) × Unit) × Unit)) (a0 : (Int × (Int × ((List Int) × Unit)))) (s231 : (Int × Unit)) : Option ((Int × Unit) ⊕ ((Bool × Unit) × Unit)) :=
  bif (iLt s231.1 (lenI y229.1.1)) then
    let x233 := iSub .i64 s231.1 1
    bif inB x233 (List.length y229.1.1) then
      bif inB s231.1 (List.length y229.1.1) then
        (impl_Grid_stepCost a0 (List.getD y229.1.1 x233.toNat ((0, 0, ()) : (Vec 2 Int))) (List.getD y229.1.1 s231.1.toNat ((0, 0, ()) : (Vec 2 Int)))).bind fun y236 =>
        bif (! y236.1.2.1) then
          Option.map Sum.inr (some ((false, ()), ()))
        else
        some (Sum.inl ((iAdd .i64 s231.1 1), ()))
      else none
    else none
  else
  Option.map Sum.inr (some ((true, ()), ()))
noncomputable def impl_Grid_sees (a0 : (Int × (Int × ((List Int) × Unit)))) (a1 : (Vec 2 Int)) (a2 : (Vec 2 Int)) : Option ((Bool × Unit) × Unit) :=
  (impl_spotsBetween a1 a2).bind fun y229 =>
  (impl_Grid_isWall a0 a1).bind fun y230 =>
  bif y230.1.1 then some ((false, ()), ()) else run (impl_Grid_sees_l5 y229 a0) ((1 : Int), ())
noncomputable def impl_Grid_sees_sg : Sig := ⟨[.v (.pair (.int .i64) (.pair (.int .i64) (.pair (.list (.int .u8)) (.unit)))), .v (.arr 2 (.int .i16)), .v (.arr 2 (.int .i16))], [.v (.val (.bool))], false⟩
noncomputable def impl_Grid_sees_en : Entry := ⟨impl_Grid_sees_sg, fun x => impl_Grid_sees x.1 x.2.1 x.2.2.1⟩
theorem impl_Grid_sees_eq {G : List (Nat × Obj)} (x : impl_Grid_sees_sg.dom) : body (env G [(20, impl_spotsBetween_en), (43, impl_Grid_isWall_en), (44, impl_Grid_stepCost_en)]) [(5, .vary [(8, .sc (.int .i64))])] Try.f24 impl_Grid_sees_sg x = impl_Grid_sees x.1 x.2.1 x.2.2.1 := by kernel_rfl
theorem impl_Grid_sees_so {G : List (Nat × Obj)} : Sound Try.prog G 24 impl_Grid_sees_en := sound_of_body (envS (l := [(20, impl_spotsBetween_en), (43, impl_Grid_isWall_en), (44, impl_Grid_stepCost_en)]) (⟨(impl_spotsBetween_so), (impl_Grid_isWall_so), (impl_Grid_stepCost_so), trivial⟩)) Try.func24 (by kernel_rfl) rfl (fun x y h => (impl_Grid_sees_eq (G := G) x).trans h)

-- loop.example/g01204/impl.SeesSpot
noncomputable def impl_SeesSpot (a0 : (Int × (Int × ((List Int) × Unit)))) (a1 : (Vec 2 Int)) (a2 : (Vec 2 Int)) : Option ((Bool × Int × Unit) × Unit) :=
  (impl_checkSpots a0 ([a1, a2] : (List (Vec 2 Int)))).bind fun y226 =>
  bif (! (iEq y226.1.1 0)) then some ((false, y226.1.1, ()), ()) else
  (impl_Grid_sees a0 a1 a2).bind fun y228 =>
  some ((y228.1.1, (0 : Int), ()), ())
noncomputable def impl_SeesSpot_sg : Sig := ⟨[.v (.pair (.int .i64) (.pair (.int .i64) (.pair (.list (.int .u8)) (.unit)))), .v (.arr 2 (.int .i16)), .v (.arr 2 (.int .i16))], [.v (.val (.bool)), .v (.val (.int .i64))], false⟩
noncomputable def impl_SeesSpot_en : Entry := ⟨impl_SeesSpot_sg, fun x => impl_SeesSpot x.1 x.2.1 x.2.2.1⟩
theorem impl_SeesSpot_eq {G : List (Nat × Obj)} (x : impl_SeesSpot_sg.dom) : body (env G [(23, impl_checkSpots_en), (24, impl_Grid_sees_en)]) [] Try.f10 impl_SeesSpot_sg x = impl_SeesSpot x.1 x.2.1 x.2.2.1 := by kernel_rfl
theorem impl_SeesSpot_so {G : List (Nat × Obj)} : Sound Try.prog G 10 impl_SeesSpot_en := sound_of_body (envS (l := [(23, impl_checkSpots_en), (24, impl_Grid_sees_en)]) (⟨(impl_checkSpots_so), (impl_Grid_sees_so), trivial⟩)) Try.func10 (by kernel_rfl) rfl (fun x y h => (impl_SeesSpot_eq (G := G) x).trans h)

-- (loop.example/g01204/impl.Grid).routeCost
noncomputable def impl_Grid_routeCost_l5 (a1 : (List (Vec 2 Int))) (a0 : (Int × (Int × ((List Int) × Unit)))) (s350 : (Int × Int × Unit)) : Option ((Int × Int × Unit) ⊕ ((Int × Bool × Unit) × Unit)) :=
  bif (iLt s350.2.1 (lenI a1)) then
    let x352 := iSub .i64 s350.2.1 1
    bif inB x352 (List.length a1) then
      bif inB s350.2.1 (List.length a1) then
        (impl_Grid_stepCost a0 (List.getD a1 x352.toNat ((0, 0, ()) : (Vec 2 Int))) (List.getD a1 s350.2.1.toNat ((0, 0, ()) : (Vec 2 Int)))).bind fun y355 =>
        bif (! y355.1.2.1) then
          Option.map Sum.inr (some (((0 : Int), false, ()), ()))
        else
        some (Sum.inl ((iAdd .i64 s350.1 y355.1.1), (iAdd .i64 s350.2.1 1), ()))
      else none
    else none
  else
  Option.map Sum.inr (some ((s350.1, true, ()), ()))
noncomputable def impl_Grid_routeCost (a0 : (Int × (Int × ((List Int) × Unit)))) (a1 : (List (Vec 2 Int))) : Option ((Int × Bool × Unit) × Unit) :=
  (impl_within (lenI a1) (1 : Int) (600 : Int)).bind fun y343 =>
  bif (! y343.1.1) then some (((0 : Int), false, ()), ()) else
  bif inB 0 (List.length a1) then
    (impl_Grid_has a0 (List.getD a1 0 ((0, 0, ()) : (Vec 2 Int)))).bind fun y346 =>
    bif (! y346.1.1) then some (((0 : Int), false, ()), ()) else
    bif inB 0 (List.length a1) then
      (impl_Grid_isWall a0 (List.getD a1 0 ((0, 0, ()) : (Vec 2 Int)))).bind fun y349 =>
      bif y349.1.1 then some (((0 : Int), false, ()), ()) else run (impl_Grid_routeCost_l5 a1 a0) ((0 : Int), (1 : Int), ())
    else none
  else none
noncomputable def impl_Grid_routeCost_sg : Sig := ⟨[.v (.pair (.int .i64) (.pair (.int .i64) (.pair (.list (.int .u8)) (.unit)))), .v (.list (.arr 2 (.int .i16)))], [.v (.val (.int .i64)), .v (.val (.bool))], false⟩
noncomputable def impl_Grid_routeCost_en : Entry := ⟨impl_Grid_routeCost_sg, fun x => impl_Grid_routeCost x.1 x.2.1⟩
theorem impl_Grid_routeCost_eq {G : List (Nat × Obj)} (x : impl_Grid_routeCost_sg.dom) : body (env G [(19, impl_within_en), (42, impl_Grid_has_en), (43, impl_Grid_isWall_en), (44, impl_Grid_stepCost_en)]) [(5, .vary [(6, .sc (.int .i64)), (7, .sc (.int .i64))])] Try.f27 impl_Grid_routeCost_sg x = impl_Grid_routeCost x.1 x.2.1 := by kernel_rfl
theorem impl_Grid_routeCost_so {G : List (Nat × Obj)} : Sound Try.prog G 27 impl_Grid_routeCost_en := sound_of_body (envS (l := [(19, impl_within_en), (42, impl_Grid_has_en), (43, impl_Grid_isWall_en), (44, impl_Grid_stepCost_en)]) (⟨(impl_within_so), (impl_Grid_has_so), (impl_Grid_isWall_so), (impl_Grid_stepCost_so), trivial⟩)) Try.func27 (by kernel_rfl) rfl (fun x y h => (impl_Grid_routeCost_eq (G := G) x).trans h)

-- loop.example/g01204/impl.ValidRoute
noncomputable def impl_ValidRoute (a0 : (Int × (Int × ((List Int) × Unit)))) (a1 : (List (Vec 2 Int))) : Option ((Bool × Unit) × Unit) :=
  (impl_ValidGrid a0).bind fun y340 =>
  bif (! y340.1.1) then some ((false, ()), ()) else
  (impl_Grid_routeCost a0 a1).bind fun y342 =>
  some ((y342.1.2.1, ()), ())
noncomputable def impl_ValidRoute_sg : Sig := ⟨[.v (.pair (.int .i64) (.pair (.int .i64) (.pair (.list (.int .u8)) (.unit)))), .v (.list (.arr 2 (.int .i16)))], [.v (.val (.bool))], false⟩
noncomputable def impl_ValidRoute_en : Entry := ⟨impl_ValidRoute_sg, fun x => impl_ValidRoute x.1 x.2.1⟩
theorem impl_ValidRoute_eq {G : List (Nat × Obj)} (x : impl_ValidRoute_sg.dom) : body (env G [(26, impl_ValidGrid_en), (27, impl_Grid_routeCost_en)]) [] Try.f12 impl_ValidRoute_sg x = impl_ValidRoute x.1 x.2.1 := by kernel_rfl
theorem impl_ValidRoute_so {G : List (Nat × Obj)} : Sound Try.prog G 12 impl_ValidRoute_en := sound_of_body (envS (l := [(26, impl_ValidGrid_en), (27, impl_Grid_routeCost_en)]) (⟨(impl_ValidGrid_so), (impl_Grid_routeCost_so), trivial⟩)) Try.func12 (by kernel_rfl) rfl (fun x y h => (impl_ValidRoute_eq (G := G) x).trans h)

-- loop.example/g01204/impl.ShortenRoute
noncomputable def impl_ShortenRoute_l7 (s328 : ((List (Vec 2 Int)) × Int × Unit)) (a1 : (List (Vec 2 Int))) (a0 : (Int × (Int × ((List Int) × Unit)))) (s332 : (Int × Unit)) : Option ((Int × Unit) ⊕ (((List (Vec 2 Int)) × Int × Unit) ⊕ (((List (Vec 2 Int)) × Int × Unit) × Unit))) :=
  bif inB s328.2.1 (List.length a1) then
    bif inB s332.1 (List.length a1) then
      (impl_Grid_sees a0 (List.getD a1 s328.2.1.toNat ((0, 0, ()) : (Vec 2 Int))) (List.getD a1 s332.1.toNat ((0, 0, ()) : (Vec 2 Int)))).bind fun y335 =>
      bif (! y335.1.1) then
        some (Sum.inl ((iSub .i64 s332.1 1), ()))
      else
      Option.map Sum.inr (
        bif inB s332.1 (List.length a1) then
          bif room (List.length s328.1 + 1) 4 then
            some (Sum.inl ((s328.1 ++ ([(List.getD a1 s332.1.toNat ((0, 0, ()) : (Vec 2 Int)))] : (List (Vec 2 Int)))), s332.1, ()))
          else none
        else none)
    else none
  else none
noncomputable def impl_ShortenRoute_l5 (a1 : (List (Vec 2 Int))) (a0 : (Int × (Int × ((List Int) × Unit)))) (s328 : ((List (Vec 2 Int)) × Int × Unit)) : Option (((List (Vec 2 Int)) × Int × Unit) ⊕ (((List (Vec 2 Int)) × Int × Unit) × Unit)) :=
  bif (iLt s328.2.1 (iSub .i64 (lenI a1) 1)) then
    run (impl_ShortenRoute_l7 s328 a1 a0) ((iSub .i64 (lenI a1) 1), ())
  else
  Option.map Sum.inr (some ((s328.1, (0 : Int), ()), ()))
noncomputable def impl_ShortenRoute (a0 : (Int × (Int × ((List Int) × Unit)))) (a1 : (List (Vec 2 Int))) : Option (((List (Vec 2 Int)) × Int × Unit) × Unit) :=
  (impl_ValidRoute a0 a1).bind fun y325 =>
  bif (! y325.1.1) then some ((([] : (List (Vec 2 Int))), (1 : Int), ()), ()) else
  bif inB 0 (List.length a1) then
    run (impl_ShortenRoute_l5 a1 a0) (([(List.getD a1 0 ((0, 0, ()) : (Vec 2 Int)))] : (List (Vec 2 Int))), (0 : Int), ())
  else none
noncomputable def impl_ShortenRoute_sg : Sig := ⟨[.v (.pair (.int .i64) (.pair (.int .i64) (.pair (.list (.int .u8)) (.unit)))), .v (.list (.arr 2 (.int .i16)))], [.v (.rows (.arr 2 (.int .i16))), .v (.val (.int .i64))], false⟩
noncomputable def impl_ShortenRoute_en : Entry := ⟨impl_ShortenRoute_sg, fun x => impl_ShortenRoute x.1 x.2.1⟩
theorem impl_ShortenRoute_eq {G : List (Nat × Obj)} (x : impl_ShortenRoute_sg.dom) : body (env G [(12, impl_ValidRoute_en), (24, impl_Grid_sees_en)]) [(5, .vary [(6, .rows (.arr 2 (.int .i16))), (7, .sc (.int .i64))]), (7, .vary [(8, .sc (.int .i64))])] Try.f14 impl_ShortenRoute_sg x = impl_ShortenRoute x.1 x.2.1 := by kernel_rfl
theorem impl_ShortenRoute_so {G : List (Nat × Obj)} : Sound Try.prog G 14 impl_ShortenRoute_en := sound_of_body (envS (l := [(12, impl_ValidRoute_en), (24, impl_Grid_sees_en)]) (⟨(impl_ValidRoute_so), (impl_Grid_sees_so), trivial⟩)) Try.func14 (by kernel_rfl) rfl (fun x y h => (impl_ShortenRoute_eq (G := G) x).trans h)

-- loop.example/g01204/impl.SpotsBetween
noncomputable def impl_SpotsBetween (a0 : (Vec 2 Int)) (a1 : (Vec 2 Int)) : Option (((List (Vec 2 Int)) × Int × Unit) × Unit) :=
  let x359 := Vec.getD 2 a0 0 (0 : Int)
  let x360 := Vec.getD 2 a0 1 (0 : Int)
  let x361 := Vec.getD 2 a1 0 (0 : Int)
  let x362 := Vec.getD 2 a1 1 (0 : Int)
  (impl_within (iWrap .i64 (List.getD ([x359, x360, x361, x362] : (List Int)) 0 (0 : Int))) (0 : Int) (23 : Int)).bind fun y365 =>
  bif (! y365.1.1) then some ((([] : (List (Vec 2 Int))), (2 : Int), ()), ()) else
  (impl_within (iWrap .i64 (List.getD ([x359, x360, x361, x362] : (List Int)) 1 (0 : Int))) (0 : Int) (23 : Int)).bind fun y369 =>
  bif (! y369.1.1) then some ((([] : (List (Vec 2 Int))), (2 : Int), ()), ()) else
  (impl_within (iWrap .i64 (List.getD ([x359, x360, x361, x362] : (List Int)) 2 (0 : Int))) (0 : Int) (23 : Int)).bind fun y373 =>
  bif (! y373.1.1) then some ((([] : (List (Vec 2 Int))), (2 : Int), ()), ()) else
  (impl_within (iWrap .i64 (List.getD ([x359, x360, x361, x362] : (List Int)) 3 (0 : Int))) (0 : Int) (23 : Int)).bind fun y377 =>
  bif (! y377.1.1) then some ((([] : (List (Vec 2 Int))), (2 : Int), ()), ()) else
  (impl_spotsBetween a0 a1).bind fun y379 =>
  some ((y379.1.1, (0 : Int), ()), ())
noncomputable def impl_SpotsBetween_sg : Sig := ⟨[.v (.arr 2 (.int .i16)), .v (.arr 2 (.int .i16))], [.v (.rows (.arr 2 (.int .i16))), .v (.val (.int .i64))], false⟩
noncomputable def impl_SpotsBetween_en : Entry := ⟨impl_SpotsBetween_sg, fun x => impl_SpotsBetween x.1 x.2.1⟩
theorem impl_SpotsBetween_eq {G : List (Nat × Obj)} (x : impl_SpotsBetween_sg.dom) : body (env G [(19, impl_within_en), (20, impl_spotsBetween_en)]) [(2, .unroll 5)] Try.f7 impl_SpotsBetween_sg x = impl_SpotsBetween x.1 x.2.1 := by kernel_rfl
theorem impl_SpotsBetween_so {G : List (Nat × Obj)} : Sound Try.prog G 7 impl_SpotsBetween_en := sound_of_body (envS (l := [(19, impl_within_en), (20, impl_spotsBetween_en)]) (⟨(impl_within_so), (impl_spotsBetween_so), trivial⟩)) Try.func7 (by kernel_rfl) rfl (fun x y h => (impl_SpotsBetween_eq (G := G) x).trans h)

-- loop.example/g01204/laws.f6big
noncomputable def laws_f6big (a0 : (List Int)) : Option ((Bool × Unit) × Unit) :=
  some (((iLt 4096 (lenI a0)), ()), ())
noncomputable def laws_f6big_sg : Sig := ⟨[.v (.list (.int .u8))], [.v (.val (.bool))], false⟩
noncomputable def laws_f6big_en : Entry := ⟨laws_f6big_sg, fun x => laws_f6big x.1⟩
theorem laws_f6big_eq {G : List (Nat × Obj)} (x : laws_f6big_sg.dom) : body (env G []) [] Try.f4 laws_f6big_sg x = laws_f6big x.1 := by kernel_rfl
theorem laws_f6big_so {G : List (Nat × Obj)} : Sound Try.prog G 4 laws_f6big_en := sound_of_body (envS (l := []) (trivial)) Try.func4 (by kernel_rfl) rfl (fun x y h => (laws_f6big_eq (G := G) x).trans h)

-- loop.example/g01204/spec.l07Index
noncomputable def spec_l07Index (a0 : (Int × (Int × ((List Int) × Unit)))) (a1 : (Vec 2 Int)) : Option ((Int × Unit) × Unit) :=
  some (((iAdd .i64 (iMul .i64 (iWrap .i64 (Vec.getD 2 a1 1 (0 : Int))) a0.1) (iWrap .i64 (Vec.getD 2 a1 0 (0 : Int)))), ()), ())
noncomputable def spec_l07Index_sg : Sig := ⟨[.ro (.pair (.int .i64) (.pair (.int .i64) (.pair (.list (.int .u8)) (.unit)))), .v (.arr 2 (.int .i16))], [.v (.val (.int .i64))], false⟩
noncomputable def spec_l07Index_en : Entry := ⟨spec_l07Index_sg, fun x => spec_l07Index x.1 x.2.1⟩
theorem spec_l07Index_eq {G : List (Nat × Obj)} (x : spec_l07Index_sg.dom) : body (env G []) [] Try.f30 spec_l07Index_sg x = spec_l07Index x.1 x.2.1 := by kernel_rfl
theorem spec_l07Index_so {G : List (Nat × Obj)} : Sound Try.prog G 30 spec_l07Index_en := sound_of_body (envS (l := []) (trivial)) Try.func30 (by kernel_rfl) rfl (fun x y h => (spec_l07Index_eq (G := G) x).trans h)

-- loop.example/g01204/spec.l00In
noncomputable def spec_l00In (a0 : Int) (a1 : Int) (a2 : Int) : Option ((Bool × Unit) × Unit) :=
  bif (iLe a1 a0) then
    some (((iLe a0 a2), ()), ())
  else some ((false, ()), ())
noncomputable def spec_l00In_sg : Sig := ⟨[.v (.int .i64), .v (.int .i64), .v (.int .i64)], [.v (.val (.bool))], false⟩
noncomputable def spec_l00In_en : Entry := ⟨spec_l00In_sg, fun x => spec_l00In x.1 x.2.1 x.2.2.1⟩
theorem spec_l00In_eq {G : List (Nat × Obj)} (x : spec_l00In_sg.dom) : body (env G []) [] Try.f21 spec_l00In_sg x = spec_l00In x.1 x.2.1 x.2.2.1 := by kernel_rfl
theorem spec_l00In_so {G : List (Nat × Obj)} : Sound Try.prog G 21 spec_l00In_en := sound_of_body (envS (l := []) (trivial)) Try.func21 (by kernel_rfl) rfl (fun x y h => (spec_l00In_eq (G := G) x).trans h)

-- loop.example/g01204/spec.l07At
noncomputable def spec_l07At (a0 : (Int × (Int × ((List Int) × Unit)))) (a1 : Int) (a2 : Int) : Option ((Bool × Unit) × Unit) :=
  (spec_l00In a1 (0 : Int) (iSub .i64 a0.1 1)).bind fun y663 =>
  bif y663.1.1 then
    (spec_l00In a2 (0 : Int) (iSub .i64 a0.2.1 1)).bind fun y665 =>
    some ((y665.1.1, ()), ())
  else some ((false, ()), ())
noncomputable def spec_l07At_sg : Sig := ⟨[.ro (.pair (.int .i64) (.pair (.int .i64) (.pair (.list (.int .u8)) (.unit)))), .v (.int .i64), .v (.int .i64)], [.v (.val (.bool))], false⟩
noncomputable def spec_l07At_en : Entry := ⟨spec_l07At_sg, fun x => spec_l07At x.1 x.2.1 x.2.2.1⟩
theorem spec_l07At_eq {G : List (Nat × Obj)} (x : spec_l07At_sg.dom) : body (env G [(21, spec_l00In_en)]) [] Try.f47 spec_l07At_sg x = spec_l07At x.1 x.2.1 x.2.2.1 := by kernel_rfl
theorem spec_l07At_so {G : List (Nat × Obj)} : Sound Try.prog G 47 spec_l07At_en := sound_of_body (envS (l := [(21, spec_l00In_en)]) (⟨(spec_l00In_so), trivial⟩)) Try.func47 (by kernel_rfl) rfl (fun x y h => (spec_l07At_eq (G := G) x).trans h)

-- loop.example/g01204/spec.l07Wall
noncomputable def spec_l07Wall (a0 : (Int × (Int × ((List Int) × Unit)))) (a1 : (Vec 2 Int)) : Option ((Bool × Unit) × Unit) :=
  (spec_l07Index a0 a1).bind fun y668 =>
  bif inB y668.1.1 (List.length a0.2.2.1) then
    some (((iEq (List.getD a0.2.2.1 y668.1.1.toNat (0 : Int)) 255), ()), ())
  else none
noncomputable def spec_l07Wall_sg : Sig := ⟨[.ro (.pair (.int .i64) (.pair (.int .i64) (.pair (.list (.int .u8)) (.unit)))), .v (.arr 2 (.int .i16))], [.v (.val (.bool))], false⟩
noncomputable def spec_l07Wall_en : Entry := ⟨spec_l07Wall_sg, fun x => spec_l07Wall x.1 x.2.1⟩
theorem spec_l07Wall_eq {G : List (Nat × Obj)} (x : spec_l07Wall_sg.dom) : body (env G [(30, spec_l07Index_en)]) [] Try.f46 spec_l07Wall_sg x = spec_l07Wall x.1 x.2.1 := by kernel_rfl
theorem spec_l07Wall_so {G : List (Nat × Obj)} : Sound Try.prog G 46 spec_l07Wall_en := sound_of_body (envS (l := [(30, spec_l07Index_en)]) (⟨(spec_l07Index_so), trivial⟩)) Try.func46 (by kernel_rfl) rfl (fun x y h => (spec_l07Wall_eq (G := G) x).trans h)

-- loop.example/g01204/spec.l07Move
noncomputable def spec_l07Move (a0 : (Int × (Int × ((List Int) × Unit)))) (a1 : (Vec 2 Int)) (a2 : Int) (a3 : Int) : Option (((Vec 2 Int) × Int × Bool × Unit) × Unit) :=
  let x635 := iAdd .i64 (iWrap .i64 (Vec.getD 2 a1 0 (0 : Int))) a2
  let x638 := iAdd .i64 (iWrap .i64 (Vec.getD 2 a1 1 (0 : Int))) a3
  (spec_l07At a0 x635 x638).bind fun y639 =>
  bif (! y639.1.1) then some ((((0, 0, ()) : (Vec 2 Int)), (0 : Int), false, ()), ()) else
  let x641 := iWrap .i16 x635
  let x642 := iWrap .i16 x638
  (spec_l07Wall a0 ((x641, x642, ()) : (Vec 2 Int))).bind fun y643 =>
  bif y643.1.1 then some ((((0, 0, ()) : (Vec 2 Int)), (0 : Int), false, ()), ()) else
  bif (! (iEq a2 0)) then
    bif (! (iEq a3 0)) then
      (spec_l07Wall a0 ((x641, (Vec.getD 2 a1 1 (0 : Int)), ()) : (Vec 2 Int))).bind fun y647 =>
      bif y647.1.1 then some ((((0, 0, ()) : (Vec 2 Int)), (0 : Int), false, ()), ()) else
      (spec_l07Wall a0 (((Vec.getD 2 a1 0 (0 : Int)), x642, ()) : (Vec 2 Int))).bind fun y649 =>
      bif y649.1.1 then some ((((0, 0, ()) : (Vec 2 Int)), (0 : Int), false, ()), ()) else
      (spec_l07Index a0 ((x641, x642, ()) : (Vec 2 Int))).bind fun y650 =>
      bif inB y650.1.1 (List.length a0.2.2.1) then
        some ((((x641, x642, ()) : (Vec 2 Int)), (iAdd .i64 14 (iWrap .i64 (List.getD a0.2.2.1 y650.1.1.toNat (0 : Int)))), true, ()), ())
      else none
    else
    (spec_l07Index a0 ((x641, x642, ()) : (Vec 2 Int))).bind fun y654 =>
    bif inB y654.1.1 (List.length a0.2.2.1) then
      some ((((x641, x642, ()) : (Vec 2 Int)), (iAdd .i64 10 (iWrap .i64 (List.getD a0.2.2.1 y654.1.1.toNat (0 : Int)))), true, ()), ())
    else none
  else
  (spec_l07Index a0 ((x641, x642, ()) : (Vec 2 Int))).bind fun y658 =>
  bif inB y658.1.1 (List.length a0.2.2.1) then
    some ((((x641, x642, ()) : (Vec 2 Int)), (iAdd .i64 10 (iWrap .i64 (List.getD a0.2.2.1 y658.1.1.toNat (0 : Int)))), true, ()), ())
  else none
noncomputable def spec_l07Move_sg : Sig := ⟨[.ro (.pair (.int .i64) (.pair (.int .i64) (.pair (.list (.int .u8)) (.unit)))), .v (.arr 2 (.int .i16)), .v (.int .i64), .v (.int .i64)], [.v (.val (.arr 2 (.int .i16))), .v (.val (.int .i64)), .v (.val (.bool))], false⟩
noncomputable def spec_l07Move_en : Entry := ⟨spec_l07Move_sg, fun x => spec_l07Move x.1 x.2.1 x.2.2.1 x.2.2.2.1⟩
theorem spec_l07Move_eq {G : List (Nat × Obj)} (x : spec_l07Move_sg.dom) : body (env G [(30, spec_l07Index_en), (46, spec_l07Wall_en), (47, spec_l07At_en)]) [] Try.f32 spec_l07Move_sg x = spec_l07Move x.1 x.2.1 x.2.2.1 x.2.2.2.1 := by kernel_rfl
theorem spec_l07Move_so {G : List (Nat × Obj)} : Sound Try.prog G 32 spec_l07Move_en := sound_of_body (envS (l := [(30, spec_l07Index_en), (46, spec_l07Wall_en), (47, spec_l07At_en)]) (⟨(spec_l07Index_so), (spec_l07Wall_so), (spec_l07At_so), trivial⟩)) Try.func32 (by kernel_rfl) rfl (fun x y h => (spec_l07Move_eq (G := G) x).trans h)

-- loop.example/g01204/spec.l07Ways
noncomputable def spec_l07Ways : Option (((List (Vec 2 Int)) × Unit) × Unit) :=
  some ((([(1, 0, ()), (0, 1, ()), ((-1 : Int), 0, ()), (0, (-1 : Int), ()), (1, 1, ()), ((-1 : Int), 1, ()), ((-1 : Int), (-1 : Int), ()), (1, (-1 : Int), ())] : (List (Vec 2 Int))), ()), ())
noncomputable def spec_l07Ways_sg : Sig := ⟨[], [.v (.rows (.arr 2 (.int .i64)))], false⟩
noncomputable def spec_l07Ways_en : Entry := ⟨spec_l07Ways_sg, fun _ => spec_l07Ways⟩
theorem spec_l07Ways_eq {G : List (Nat × Obj)} (x : spec_l07Ways_sg.dom) : body (env G []) [] Try.f31 spec_l07Ways_sg x = spec_l07Ways  := by kernel_rfl
theorem spec_l07Ways_so {G : List (Nat × Obj)} : Sound Try.prog G 31 spec_l07Ways_en := sound_of_body (envS (l := []) (trivial)) Try.func31 (by kernel_rfl) rfl (fun x y h => (spec_l07Ways_eq (G := G) x).trans h)

-- loop.example/g01204/spec.l07Costs
noncomputable def spec_l07Costs_l17 (y436 : (((List (Vec 2 Int)) × Unit) × Unit)) (a0 : (Int × (Int × ((List Int) × Unit)))) (x583 : Int) (x585 : Int) (s580 : (Bool × Int × (List Int) × Unit)) (s605 : (Bool × Int × (List Int) × Unit)) : Option ((Bool × Int × (List Int) × Unit) ⊕ ((Bool × Int × (List Int) × Unit) ⊕ ((Bool × (List Int) × Unit) ⊕ (((List Int) × Unit) × Unit)))) :=
  bif (iLt s605.2.1 8) then
    bif inB s605.2.1 (List.length y436.1.1) then
      bif inB s605.2.1 (List.length y436.1.1) then
        (spec_l07Move a0 ((x583, x585, ()) : (Vec 2 Int)) (Vec.getD 2 (List.getD y436.1.1 s605.2.1.toNat ((0, 0, ()) : (Vec 2 Int))) 0 (0 : Int)) (Vec.getD 2 (List.getD y436.1.1 s605.2.1.toNat ((0, 0, ()) : (Vec 2 Int))) 1 (0 : Int))).bind fun y609 =>
        bif (! y609.1.2.2.1) then
          some (Sum.inl (s605.1, (iAdd .i64 s605.2.1 1), s605.2.2.1, ()))
        else
        (spec_l07Index a0 y609.1.1).bind fun y612 =>
        bif inB y612.1.1 (List.length s605.2.2.1) then
          bif (iLt (List.getD s605.2.2.1 y612.1.1.toNat (0 : Int)) 0) then
            some (Sum.inl (s605.1, (iAdd .i64 s605.2.1 1), s605.2.2.1, ()))
          else
          (spec_l07Index a0 y609.1.1).bind fun y616 =>
          bif inB y616.1.1 (List.length s605.2.2.1) then
            let x618 := iAdd .i64 y609.1.2.1 (List.getD s605.2.2.1 y616.1.1.toNat (0 : Int))
            bif inB s580.2.1 (List.length s605.2.2.1) then
              bif (iLt (List.getD s605.2.2.1 s580.2.1.toNat (0 : Int)) 0) then
                bif inB s580.2.1 (List.length s605.2.2.1) then
                  some (Sum.inl (true, (iAdd .i64 s605.2.1 1), List.set s605.2.2.1 s580.2.1.toNat x618, ()))
                else none
              else
              bif inB s580.2.1 (List.length s605.2.2.1) then
                bif (iLt x618 (List.getD s605.2.2.1 s580.2.1.toNat (0 : Int))) then
                  bif inB s580.2.1 (List.length s605.2.2.1) then
                    some (Sum.inl (true, (iAdd .i64 s605.2.1 1), List.set s605.2.2.1 s580.2.1.toNat x618, ()))
                  else none
                else
                some (Sum.inl (s605.1, (iAdd .i64 s605.2.1 1), s605.2.2.1, ()))
              else none
            else none
          else none
        else none
      else none
    else none
  else
  Option.map Sum.inr (some (Sum.inl (s605.1, (iAdd .i64 s580.2.1 1), s605.2.2.1, ())))
noncomputable def spec_l07Costs_l12 (a0 : (Int × (Int × ((List Int) × Unit)))) (y436 : (((List (Vec 2 Int)) × Unit) × Unit)) (s580 : (Bool × Int × (List Int) × Unit)) : Option ((Bool × Int × (List Int) × Unit) ⊕ ((Bool × (List Int) × Unit) ⊕ (((List Int) × Unit) × Unit))) :=
  bif (iLt s580.2.1 (lenI s580.2.2.1)) then
    bif iEq a0.1 0 then none else
    let x583 := iWrap .i16 (iRem .i64 s580.2.1 a0.1)
    bif iEq a0.1 0 then none else
    let x585 := iWrap .i16 (iQuo .i64 s580.2.1 a0.1)
    (spec_l07Wall a0 ((x583, x585, ()) : (Vec 2 Int))).bind fun y586 =>
    bif y586.1.1 then
      some (Sum.inl (s580.1, (iAdd .i64 s580.2.1 1), s580.2.2.1, ()))
    else run (spec_l07Costs_l17 y436 a0 x583 x585 s580) (s580.1, (0 : Int), s580.2.2.1, ())
  else
  Option.map Sum.inr (some (Sum.inl (s580.1, s580.2.2.1, ())))
noncomputable def spec_l07Costs_l9 (a0 : (Int × (Int × ((List Int) × Unit)))) (y436 : (((List (Vec 2 Int)) × Unit) × Unit)) (s532 : (Bool × (List Int) × Unit)) : Option ((Bool × (List Int) × Unit) ⊕ (((List Int) × Unit) × Unit)) :=
  bif s532.1 then run (spec_l07Costs_l12 a0 y436) (false, (0 : Int), s532.2.1, ()) else
  Option.map Sum.inr (some ((s532.2.1, ()), ()))
noncomputable def spec_l07Costs_l3 (a0 : (Int × (Int × ((List Int) × Unit)))) (a1 : (Vec 2 Int)) (s430 : (Int × (List Int) × Unit)) : Option ((Int × (List Int) × Unit) ⊕ (((List Int) × Unit) × Unit)) :=
  bif (iLt s430.1 (lenI s430.2.1)) then
    bif inB s430.1 (List.length s430.2.1) then
      some (Sum.inl ((iAdd .i64 s430.1 1), (List.set s430.2.1 s430.1.toNat ((-1 : Int) : Int)), ()))
    else none
  else
  Option.map Sum.inr (
    (spec_l07Index a0 a1).bind fun y434 =>
    bif inB y434.1.1 (List.length s430.2.1) then
      (spec_l07Ways).bind fun y436 =>
      run (spec_l07Costs_l9 a0 y436) (true, (List.set s430.2.1 y434.1.1.toNat (0 : Int)), ())
    else none)
noncomputable def spec_l07Costs (a0 : (Int × (Int × ((List Int) × Unit)))) (a1 : (Vec 2 Int)) : Option (((List Int) × Unit) × Unit) :=
  bif (iLe 0 (lenI a0.2.2.1) && iLe (lenI a0.2.2.1) (lenI a0.2.2.1) && room (lenI a0.2.2.1).toNat 8) then run (spec_l07Costs_l3 a0 a1) ((0 : Int), List.replicate (lenI a0.2.2.1).toNat (0 : Int), ()) else none
noncomputable def spec_l07Costs_sg : Sig := ⟨[.ro (.pair (.int .i64) (.pair (.int .i64) (.pair (.list (.int .u8)) (.unit)))), .v (.arr 2 (.int .i16))], [.v (.rows (.int .i64))], false⟩
noncomputable def spec_l07Costs_en : Entry := ⟨spec_l07Costs_sg, fun x => spec_l07Costs x.1 x.2.1⟩
theorem spec_l07Costs_eq {G : List (Nat × Obj)} (x : spec_l07Costs_sg.dom) : body (env G [(30, spec_l07Index_en), (31, spec_l07Ways_en), (32, spec_l07Move_en), (46, spec_l07Wall_en)]) [(3, .vary [(6, .sc (.int .i64)), (5, .mrows (.int .i64))]), (9, .vary [(8, .sc (.bool)), (5, .mrows (.int .i64))]), (12, .vary [(8, .sc (.bool)), (9, .sc (.int .i64)), (5, .mrows (.int .i64))]), (17, .vary [(8, .sc (.bool)), (11, .sc (.int .i64)), (5, .mrows (.int .i64))])] Try.f29 spec_l07Costs_sg x = spec_l07Costs x.1 x.2.1 := by kernel_rfl
theorem spec_l07Costs_so {G : List (Nat × Obj)} : Sound Try.prog G 29 spec_l07Costs_en := sound_of_body (envS (l := [(30, spec_l07Index_en), (31, spec_l07Ways_en), (32, spec_l07Move_en), (46, spec_l07Wall_en)]) (⟨(spec_l07Index_so), (spec_l07Ways_so), (spec_l07Move_so), (spec_l07Wall_so), trivial⟩)) Try.func29 (by kernel_rfl) rfl (fun x y h => (spec_l07Costs_eq (G := G) x).trans h)

-- loop.example/g01204/spec.l07Ok
noncomputable def spec_l07Ok (a0 : (Int × (Int × ((List Int) × Unit)))) : Option ((Bool × Unit) × Unit) :=
  (spec_l00In a0.1 (1 : Int) (24 : Int)).bind fun y686 =>
  bif y686.1.1 then
    (spec_l00In a0.2.1 (1 : Int) (24 : Int)).bind fun y687 =>
    bif y687.1.1 then
      some (((iEq (lenI a0.2.2.1) (iMul .i64 a0.1 a0.2.1)), ()), ())
    else some ((false, ()), ())
  else some ((false, ()), ())
noncomputable def spec_l07Ok_sg : Sig := ⟨[.ro (.pair (.int .i64) (.pair (.int .i64) (.pair (.list (.int .u8)) (.unit))))], [.v (.val (.bool))], false⟩
noncomputable def spec_l07Ok_en : Entry := ⟨spec_l07Ok_sg, fun x => spec_l07Ok x.1⟩
theorem spec_l07Ok_eq {G : List (Nat × Obj)} (x : spec_l07Ok_sg.dom) : body (env G [(21, spec_l00In_en)]) [] Try.f48 spec_l07Ok_sg x = spec_l07Ok x.1 := by kernel_rfl
theorem spec_l07Ok_so {G : List (Nat × Obj)} : Sound Try.prog G 48 spec_l07Ok_en := sound_of_body (envS (l := [(21, spec_l00In_en)]) (⟨(spec_l00In_so), trivial⟩)) Try.func48 (by kernel_rfl) rfl (fun x y h => (spec_l07Ok_eq (G := G) x).trans h)

-- loop.example/g01204/spec.l07Spot
noncomputable def spec_l07Spot (a0 : (Int × (Int × ((List Int) × Unit)))) (a1 : (Vec 2 Int)) : Option ((Bool × Unit) × Unit) :=
  (spec_l07At a0 (iWrap .i64 (Vec.getD 2 a1 0 (0 : Int))) (iWrap .i64 (Vec.getD 2 a1 1 (0 : Int)))).bind fun y694 =>
  some ((y694.1.1, ()), ())
noncomputable def spec_l07Spot_sg : Sig := ⟨[.ro (.pair (.int .i64) (.pair (.int .i64) (.pair (.list (.int .u8)) (.unit)))), .v (.arr 2 (.int .i16))], [.v (.val (.bool))], false⟩
noncomputable def spec_l07Spot_en : Entry := ⟨spec_l07Spot_sg, fun x => spec_l07Spot x.1 x.2.1⟩
theorem spec_l07Spot_eq {G : List (Nat × Obj)} (x : spec_l07Spot_sg.dom) : body (env G [(47, spec_l07At_en)]) [] Try.f49 spec_l07Spot_sg x = spec_l07Spot x.1 x.2.1 := by kernel_rfl
theorem spec_l07Spot_so {G : List (Nat × Obj)} : Sound Try.prog G 49 spec_l07Spot_en := sound_of_body (envS (l := [(47, spec_l07At_en)]) (⟨(spec_l07At_so), trivial⟩)) Try.func49 (by kernel_rfl) rfl (fun x y h => (spec_l07Spot_eq (G := G) x).trans h)

-- loop.example/g01204/spec.l07Asked
noncomputable def spec_l07Asked_l4 (a1 : (List (Vec 2 Int))) (a0 : (Int × (Int × ((List Int) × Unit)))) (s680 : (Int × Unit)) : Option ((Int × Unit) ⊕ ((Int × Unit) × Unit)) :=
  bif (iLt s680.1 (lenI a1)) then
    bif inB s680.1 (List.length a1) then
      (spec_l07Spot a0 (List.getD a1 s680.1.toNat ((0, 0, ()) : (Vec 2 Int)))).bind fun y683 =>
      bif (! y683.1.1) then
        Option.map Sum.inr (some (((2 : Int), ()), ()))
      else
      some (Sum.inl ((iAdd .i64 s680.1 1), ()))
    else none
  else
  Option.map Sum.inr (some (((0 : Int), ()), ()))
noncomputable def spec_l07Asked (a0 : (Int × (Int × ((List Int) × Unit)))) (a1 : (List (Vec 2 Int))) : Option ((Int × Unit) × Unit) :=
  (spec_l07Ok a0).bind fun y678 =>
  bif (! y678.1.1) then some (((1 : Int), ()), ()) else run (spec_l07Asked_l4 a1 a0) ((0 : Int), ())
noncomputable def spec_l07Asked_sg : Sig := ⟨[.ro (.pair (.int .i64) (.pair (.int .i64) (.pair (.list (.int .u8)) (.unit)))), .v (.list (.arr 2 (.int .i16)))], [.v (.val (.int .i64))], false⟩
noncomputable def spec_l07Asked_en : Entry := ⟨spec_l07Asked_sg, fun x => spec_l07Asked x.1 x.2.1⟩
theorem spec_l07Asked_eq {G : List (Nat × Obj)} (x : spec_l07Asked_sg.dom) : body (env G [(48, spec_l07Ok_en), (49, spec_l07Spot_en)]) [(4, .vary [(5, .sc (.int .i64))])] Try.f45 spec_l07Asked_sg x = spec_l07Asked x.1 x.2.1 := by kernel_rfl
theorem spec_l07Asked_so {G : List (Nat × Obj)} : Sound Try.prog G 45 spec_l07Asked_en := sound_of_body (envS (l := [(48, spec_l07Ok_en), (49, spec_l07Spot_en)]) (⟨(spec_l07Ok_so), (spec_l07Spot_so), trivial⟩)) Try.func45 (by kernel_rfl) rfl (fun x y h => (spec_l07Asked_eq (G := G) x).trans h)

-- loop.example/g01204/spec.l07Open
noncomputable def spec_l07Open_l5 (a1 : (List (Vec 2 Int))) (a0 : (Int × (Int × ((List Int) × Unit)))) (s673 : (Int × Unit)) : Option ((Int × Unit) ⊕ ((Int × Unit) × Unit)) :=
  bif (iLt s673.1 (lenI a1)) then
    bif inB s673.1 (List.length a1) then
      (spec_l07Wall a0 (List.getD a1 s673.1.toNat ((0, 0, ()) : (Vec 2 Int)))).bind fun y676 =>
      bif y676.1.1 then
        Option.map Sum.inr (some (((4 : Int), ()), ()))
      else
      some (Sum.inl ((iAdd .i64 s673.1 1), ()))
    else none
  else
  Option.map Sum.inr (some (((0 : Int), ()), ()))
noncomputable def spec_l07Open (a0 : (Int × (Int × ((List Int) × Unit)))) (a1 : (List (Vec 2 Int))) : Option ((Int × Unit) × Unit) :=
  (spec_l07Asked a0 a1).bind fun y671 =>
  bif (! (iEq y671.1.1 0)) then some ((y671.1.1, ()), ()) else run (spec_l07Open_l5 a1 a0) ((0 : Int), ())
noncomputable def spec_l07Open_sg : Sig := ⟨[.ro (.pair (.int .i64) (.pair (.int .i64) (.pair (.list (.int .u8)) (.unit)))), .v (.list (.arr 2 (.int .i16)))], [.v (.val (.int .i64))], false⟩
noncomputable def spec_l07Open_en : Entry := ⟨spec_l07Open_sg, fun x => spec_l07Open x.1 x.2.1⟩
theorem spec_l07Open_eq {G : List (Nat × Obj)} (x : spec_l07Open_sg.dom) : body (env G [(45, spec_l07Asked_en), (46, spec_l07Wall_en)]) [(5, .vary [(6, .sc (.int .i64))])] Try.f28 spec_l07Open_sg x = spec_l07Open x.1 x.2.1 := by kernel_rfl
theorem spec_l07Open_so {G : List (Nat × Obj)} : Sound Try.prog G 28 spec_l07Open_en := sound_of_body (envS (l := [(45, spec_l07Asked_en), (46, spec_l07Wall_en)]) (⟨(spec_l07Asked_so), (spec_l07Wall_so), trivial⟩)) Try.func28 (by kernel_rfl) rfl (fun x y h => (spec_l07Open_eq (G := G) x).trans h)

-- loop.example/g01204/spec.BestRoute
noncomputable def spec_BestRoute_l14 (y387 : (((List (Vec 2 Int)) × Unit) × Unit)) (a0 : (Int × (Int × ((List Int) × Unit)))) (s405 : ((List (Vec 2 Int)) × (Vec 2 Int) × Unit)) (y383 : (((List Int) × Unit) × Unit)) (x408 : Int) (s409 : (Int × Unit)) : Option ((Int × Unit) ⊕ (((List (Vec 2 Int)) × (Vec 2 Int) × Unit) ⊕ (((List (Vec 2 Int)) × Int × Int × Unit) × Unit))) :=
  bif (iLt s409.1 8) then
    bif inB s409.1 (List.length y387.1.1) then
      bif inB s409.1 (List.length y387.1.1) then
        (spec_l07Move a0 s405.2.1 (Vec.getD 2 (List.getD y387.1.1 s409.1.toNat ((0, 0, ()) : (Vec 2 Int))) 0 (0 : Int)) (Vec.getD 2 (List.getD y387.1.1 s409.1.toNat ((0, 0, ()) : (Vec 2 Int))) 1 (0 : Int))).bind fun y413 =>
        bif y413.1.2.2.1 then
          (spec_l07Index a0 y413.1.1).bind fun y414 =>
          bif inB y414.1.1 (List.length y383.1.1) then
            bif (iLe 0 (List.getD y383.1.1 y414.1.1.toNat (0 : Int))) then
              (spec_l07Index a0 y413.1.1).bind fun y417 =>
              bif inB y417.1.1 (List.length y383.1.1) then
                bif (iEq (iAdd .i64 y413.1.2.1 (List.getD y383.1.1 y417.1.1.toNat (0 : Int))) x408) then
                  Option.map Sum.inr (
                    bif room (List.length s405.1 + 1) 4 then
                      some (Sum.inl ((s405.1 ++ ([y413.1.1] : (List (Vec 2 Int)))), y413.1.1, ()))
                    else none)
                else
                some (Sum.inl ((iAdd .i64 s409.1 1), ()))
              else none
            else
            some (Sum.inl ((iAdd .i64 s409.1 1), ()))
          else none
        else
        some (Sum.inl ((iAdd .i64 s409.1 1), ()))
      else none
    else none
  else
  Option.map Sum.inr (
    bif room (List.length s405.1 + 1) 4 then
      some (Sum.inl ((s405.1 ++ ([s405.2.1] : (List (Vec 2 Int)))), s405.2.1, ()))
    else none)
noncomputable def spec_BestRoute_l11 (a2 : (Vec 2 Int)) (a0 : (Int × (Int × ((List Int) × Unit)))) (y383 : (((List Int) × Unit) × Unit)) (x385 : Int) (y387 : (((List (Vec 2 Int)) × Unit) × Unit)) (s405 : ((List (Vec 2 Int)) × (Vec 2 Int) × Unit)) : Option (((List (Vec 2 Int)) × (Vec 2 Int) × Unit) ⊕ (((List (Vec 2 Int)) × Int × Int × Unit) × Unit)) :=
  bif (! (iEq (Vec.getD 2 s405.2.1 0 (0 : Int)) (Vec.getD 2 a2 0 (0 : Int)) && (iEq (Vec.getD 2 s405.2.1 1 (0 : Int)) (Vec.getD 2 a2 1 (0 : Int)) && true))) then
    (spec_l07Index a0 s405.2.1).bind fun y407 =>
    bif inB y407.1.1 (List.length y383.1.1) then
      let x408 := List.getD y383.1.1 y407.1.1.toNat (0 : Int)
      run (spec_BestRoute_l14 y387 a0 s405 y383 x408) ((0 : Int), ())
    else none
  else
  Option.map Sum.inr (some ((s405.1, x385, (0 : Int), ()), ()))
noncomputable def spec_BestRoute (a0 : (Int × (Int × ((List Int) × Unit)))) (a1 : (Vec 2 Int)) (a2 : (Vec 2 Int)) : Option (((List (Vec 2 Int)) × Int × Int × Unit) × Unit) :=
  (spec_l07Open a0 ([a1, a2] : (List (Vec 2 Int)))).bind fun y381 =>
  bif (! (iEq y381.1.1 0)) then some ((([] : (List (Vec 2 Int))), (0 : Int), y381.1.1, ()), ()) else
  (spec_l07Costs a0 a2).bind fun y383 =>
  (spec_l07Index a0 a1).bind fun y384 =>
  bif inB y384.1.1 (List.length y383.1.1) then
    let x385 := List.getD y383.1.1 y384.1.1.toNat (0 : Int)
    bif (iLt x385 0) then some ((([] : (List (Vec 2 Int))), (0 : Int), (6 : Int), ()), ()) else
    (spec_l07Ways).bind fun y387 =>
    run (spec_BestRoute_l11 a2 a0 y383 x385 y387) (([a1] : (List (Vec 2 Int))), a1, ())
  else none
noncomputable def spec_BestRoute_sg : Sig := ⟨[.v (.pair (.int .i64) (.pair (.int .i64) (.pair (.list (.int .u8)) (.unit)))), .v (.arr 2 (.int .i16)), .v (.arr 2 (.int .i16))], [.v (.rows (.arr 2 (.int .i16))), .v (.val (.int .i64)), .v (.val (.int .i64))], false⟩
noncomputable def spec_BestRoute_en : Entry := ⟨spec_BestRoute_sg, fun x => spec_BestRoute x.1 x.2.1 x.2.2.1⟩
theorem spec_BestRoute_eq {G : List (Nat × Obj)} (x : spec_BestRoute_sg.dom) : body (env G [(28, spec_l07Open_en), (29, spec_l07Costs_en), (30, spec_l07Index_en), (31, spec_l07Ways_en), (32, spec_l07Move_en)]) [(11, .vary [(13, .rows (.arr 2 (.int .i16))), (14, .box (.val (.arr 2 (.int .i16))))]), (14, .vary [(16, .sc (.int .i64))])] Try.f13 spec_BestRoute_sg x = spec_BestRoute x.1 x.2.1 x.2.2.1 := by kernel_rfl
theorem spec_BestRoute_so {G : List (Nat × Obj)} : Sound Try.prog G 13 spec_BestRoute_en := sound_of_body (envS (l := [(28, spec_l07Open_en), (29, spec_l07Costs_en), (30, spec_l07Index_en), (31, spec_l07Ways_en), (32, spec_l07Move_en)]) (⟨(spec_l07Open_so), (spec_l07Costs_so), (spec_l07Index_so), (spec_l07Ways_so), (spec_l07Move_so), trivial⟩)) Try.func13 (by kernel_rfl) rfl (fun x y h => (spec_BestRoute_eq (G := G) x).trans h)

-- loop.example/g01204/spec.l00From
noncomputable def spec_l00From (a0 : (List Int)) : Option ((((List Int) × (Int × (Int × Unit))) × Unit) × Unit) :=
  some ((((a0, 0, 0, ()) : ((List Int) × (Int × (Int × Unit)))), ()), ())
noncomputable def spec_l00From_sg : Sig := ⟨[.v (.list (.int .u8))], [.p (.val (.pair (.list (.int .u8)) (.pair (.int .i64) (.pair (.int .u64) (.unit)))))], true⟩
noncomputable def spec_l00From_en : Entry := ⟨spec_l00From_sg, fun x => spec_l00From x.1⟩
theorem spec_l00From_eq {G : List (Nat × Obj)} (x : spec_l00From_sg.dom) : body (env G []) [] Try.f17 spec_l00From_sg x = spec_l00From x.1 := by kernel_rfl
theorem spec_l00From_so {G : List (Nat × Obj)} : Sound Try.prog G 17 spec_l00From_en := sound_of_body (envS (l := []) (trivial)) Try.func17 (by kernel_rfl) rfl (fun x y h => (spec_l00From_eq (G := G) x).trans h)

-- (*loop.example/g01204/spec.l00Src).next
noncomputable def spec_l00Src_next (a0 : ((List Int) × (Int × (Int × Unit)))) : Option ((Int × Unit) × (((List Int) × (Int × (Int × Unit))) × Unit)) :=
  bif (iLt a0.2.1 (lenI a0.1)) then
    bif inB a0.2.1 (List.length a0.1) then
      let x784 := iWrap .i64 (List.getD a0.1 a0.2.1.toNat (0 : Int))
      let x785 := iAdd .i64 a0.2.1 1
      let x789 := iAdd .u64 (iAdd .u64 (iMul .u64 a0.2.2.1 6364136223846793005) (iWrap .u64 x784)) 1442695040888963407
      bif (iLe x785 (lenI a0.1)) then some ((x784, ()), (((a0.1, x785, x789, a0.2.2.2) : ((List Int) × (Int × (Int × Unit)))), ())) else
      some (((iWrap .i64 (iAnd .u64 (iShr .u64 x789 40) 255)), ()), (((a0.1, x785, x789, a0.2.2.2) : ((List Int) × (Int × (Int × Unit)))), ()))
    else none
  else
  let x794 := iAdd .i64 a0.2.1 1
  let x797 := iAdd .u64 (iAdd .u64 (iMul .u64 a0.2.2.1 6364136223846793005) 0) 1442695040888963407
  bif (iLe x794 (lenI a0.1)) then some (((0 : Int), ()), (((a0.1, x794, x797, a0.2.2.2) : ((List Int) × (Int × (Int × Unit)))), ())) else
  some (((iWrap .i64 (iAnd .u64 (iShr .u64 x797 40) 255)), ()), (((a0.1, x794, x797, a0.2.2.2) : ((List Int) × (Int × (Int × Unit)))), ()))
noncomputable def spec_l00Src_next_sg : Sig := ⟨[.io (.val (.pair (.list (.int .u8)) (.pair (.int .i64) (.pair (.int .u64) (.unit)))))], [.v (.val (.int .i64))], true⟩
noncomputable def spec_l00Src_next_en : Entry := ⟨spec_l00Src_next_sg, fun x => spec_l00Src_next x.1⟩
theorem spec_l00Src_next_eq {G : List (Nat × Obj)} (x : spec_l00Src_next_sg.dom) : body (env G []) [] Try.f36 spec_l00Src_next_sg x = spec_l00Src_next x.1 := by kernel_rfl
theorem spec_l00Src_next_so {G : List (Nat × Obj)} : Sound Try.prog G 36 spec_l00Src_next_en := sound_of_body (envS (l := []) (trivial)) Try.func36 (by kernel_rfl) rfl (fun x y h => (spec_l00Src_next_eq (G := G) x).trans h)

-- (*loop.example/g01204/spec.l00Src).pick
noncomputable def spec_l00Src_pick (a0 : ((List Int) × (Int × (Int × Unit)))) (a1 : Int) : Option ((Int × Unit) × (((List Int) × (Int × (Int × Unit))) × Unit)) :=
  bif (iLe a1 1) then some (((0 : Int), ()), (a0, ())) else
  (spec_l00Src_next a0).bind fun y775 =>
  bif (iLt 200 a1) then
    (spec_l00Src_next y775.2.1).bind fun y778 =>
    bif iEq a1 0 then none else
    some (((iRem .i64 (iAdd .i64 (iMul .i64 y775.1.1 256) y778.1.1) a1), ()), (y778.2.1, ()))
  else
  bif iEq a1 0 then none else
  some (((iRem .i64 y775.1.1 a1), ()), (y775.2.1, ()))
noncomputable def spec_l00Src_pick_sg : Sig := ⟨[.io (.val (.pair (.list (.int .u8)) (.pair (.int .i64) (.pair (.int .u64) (.unit))))), .v (.int .i64)], [.v (.val (.int .i64))], true⟩
noncomputable def spec_l00Src_pick_en : Entry := ⟨spec_l00Src_pick_sg, fun x => spec_l00Src_pick x.1 x.2.1⟩
theorem spec_l00Src_pick_eq {G : List (Nat × Obj)} (x : spec_l00Src_pick_sg.dom) : body (env G [(36, spec_l00Src_next_en)]) [] Try.f18 spec_l00Src_pick_sg x = spec_l00Src_pick x.1 x.2.1 := by kernel_rfl
theorem spec_l00Src_pick_so {G : List (Nat × Obj)} : Sound Try.prog G 18 spec_l00Src_pick_en := sound_of_body (envS (l := [(36, spec_l00Src_next_en)]) (⟨(spec_l00Src_next_so), trivial⟩)) Try.func18 (by kernel_rfl) rfl (fun x y h => (spec_l00Src_pick_eq (G := G) x).trans h)

-- loop.example/g01204/spec.EmptyGrid
noncomputable def spec_EmptyGrid (a0 : Int) (a1 : Int) : Option (((Int × (Int × ((List Int) × Unit))) × Int × Unit) × Unit) :=
  (spec_l00In a0 (1 : Int) (24 : Int)).bind fun y802 =>
  bif (! y802.1.1) then some ((((0, 0, [], ()) : (Int × (Int × ((List Int) × Unit)))), (2 : Int), ()), ()) else
  (spec_l00In a1 (1 : Int) (24 : Int)).bind fun y804 =>
  bif (! y804.1.1) then some ((((0, 0, [], ()) : (Int × (Int × ((List Int) × Unit)))), (2 : Int), ()), ()) else
  let x806 := iMul .i64 a0 a1
  bif (iLe 0 x806 && iLe x806 x806 && room x806.toNat 1) then some ((((a0, a1, List.replicate x806.toNat (0 : Int), ()) : (Int × (Int × ((List Int) × Unit)))), (0 : Int), ()), ()) else none
noncomputable def spec_EmptyGrid_sg : Sig := ⟨[.v (.int .i64), .v (.int .i64)], [.v (.pair (.val (.int .i64)) (.pair (.val (.int .i64)) (.pair (.rows (.int .u8)) (.val (.unit))))), .v (.val (.int .i64))], false⟩
noncomputable def spec_EmptyGrid_en : Entry := ⟨spec_EmptyGrid_sg, fun x => spec_EmptyGrid x.1 x.2.1⟩
theorem spec_EmptyGrid_eq {G : List (Nat × Obj)} (x : spec_EmptyGrid_sg.dom) : body (env G [(21, spec_l00In_en)]) [] Try.f35 spec_EmptyGrid_sg x = spec_EmptyGrid x.1 x.2.1 := by kernel_rfl
theorem spec_EmptyGrid_so {G : List (Nat × Obj)} : Sound Try.prog G 35 spec_EmptyGrid_en := sound_of_body (envS (l := [(21, spec_l00In_en)]) (⟨(spec_l00In_so), trivial⟩)) Try.func35 (by kernel_rfl) rfl (fun x y h => (spec_EmptyGrid_eq (G := G) x).trans h)

-- loop.example/g01204/spec.l07Drawn
noncomputable def spec_l07Drawn_l4 (y702 : ((Int × Unit) × (((List Int) × (Int × (Int × Unit))) × Unit))) (s717 : (Int × (Int × (Int × ((List Int) × Unit))) × ((List Int) × (Int × (Int × Unit))) × Unit)) : Option ((Int × (Int × (Int × ((List Int) × Unit))) × ((List Int) × (Int × (Int × Unit))) × Unit) ⊕ (((Int × (Int × ((List Int) × Unit))) × Unit) × (((List Int) × (Int × (Int × Unit))) × Unit))) :=
  bif (iLt s717.1 (lenI s717.2.1.2.2.1)) then
    (spec_l00Src_pick s717.2.2.1 (12 : Int)).bind fun y719 =>
    let x720 := iEq y719.1.1 0
    bif x720 then
      bif x720 then
        bif (iLt 0 y702.1.1) then
          bif inB s717.1 (List.length s717.2.1.2.2.1) then
            some (Sum.inl ((iAdd .i64 s717.1 1), ((s717.2.1.1, s717.2.1.2.1, (List.set s717.2.1.2.2.1 s717.1.toNat (255 : Int)), s717.2.1.2.2.2) : (Int × (Int × ((List Int) × Unit)))), y719.2.1, ()))
          else none
        else
        some (Sum.inl ((iAdd .i64 s717.1 1), ((s717.2.1.1, s717.2.1.2.1, s717.2.1.2.2.1, s717.2.1.2.2.2) : (Int × (Int × ((List Int) × Unit)))), y719.2.1, ()))
      else
      bif (iEq y719.1.1 3) then
        (spec_l00Src_pick y719.2.1 (9 : Int)).bind fun y726 =>
        bif inB s717.1 (List.length s717.2.1.2.2.1) then
          some (Sum.inl ((iAdd .i64 s717.1 1), ((s717.2.1.1, s717.2.1.2.1, (List.set s717.2.1.2.2.1 s717.1.toNat (iWrap .u8 (iMul .i64 10 (iAdd .i64 1 y726.1.1)))), s717.2.1.2.2.2) : (Int × (Int × ((List Int) × Unit)))), y726.2.1, ()))
        else none
      else
      bif (iEq y719.1.1 4) then
        (spec_l00Src_pick y719.2.1 (256 : Int)).bind fun y733 =>
        bif inB s717.1 (List.length s717.2.1.2.2.1) then
          some (Sum.inl ((iAdd .i64 s717.1 1), ((s717.2.1.1, s717.2.1.2.1, (List.set s717.2.1.2.2.1 s717.1.toNat (iWrap .u8 y733.1.1)), s717.2.1.2.2.2) : (Int × (Int × ((List Int) × Unit)))), y733.2.1, ()))
        else none
      else
      some (Sum.inl ((iAdd .i64 s717.1 1), ((s717.2.1.1, s717.2.1.2.1, s717.2.1.2.2.1, s717.2.1.2.2.2) : (Int × (Int × ((List Int) × Unit)))), y719.2.1, ()))
    else
    let x738 := iEq y719.1.1 1
    bif x738 then
      bif x738 then
        bif (iLt 0 y702.1.1) then
          bif inB s717.1 (List.length s717.2.1.2.2.1) then
            some (Sum.inl ((iAdd .i64 s717.1 1), ((s717.2.1.1, s717.2.1.2.1, (List.set s717.2.1.2.2.1 s717.1.toNat (255 : Int)), s717.2.1.2.2.2) : (Int × (Int × ((List Int) × Unit)))), y719.2.1, ()))
          else none
        else
        some (Sum.inl ((iAdd .i64 s717.1 1), ((s717.2.1.1, s717.2.1.2.1, s717.2.1.2.2.1, s717.2.1.2.2.2) : (Int × (Int × ((List Int) × Unit)))), y719.2.1, ()))
      else
      bif (iEq y719.1.1 3) then
        (spec_l00Src_pick y719.2.1 (9 : Int)).bind fun y744 =>
        bif inB s717.1 (List.length s717.2.1.2.2.1) then
          some (Sum.inl ((iAdd .i64 s717.1 1), ((s717.2.1.1, s717.2.1.2.1, (List.set s717.2.1.2.2.1 s717.1.toNat (iWrap .u8 (iMul .i64 10 (iAdd .i64 1 y744.1.1)))), s717.2.1.2.2.2) : (Int × (Int × ((List Int) × Unit)))), y744.2.1, ()))
        else none
      else
      bif (iEq y719.1.1 4) then
        (spec_l00Src_pick y719.2.1 (256 : Int)).bind fun y751 =>
        bif inB s717.1 (List.length s717.2.1.2.2.1) then
          some (Sum.inl ((iAdd .i64 s717.1 1), ((s717.2.1.1, s717.2.1.2.1, (List.set s717.2.1.2.2.1 s717.1.toNat (iWrap .u8 y751.1.1)), s717.2.1.2.2.2) : (Int × (Int × ((List Int) × Unit)))), y751.2.1, ()))
        else none
      else
      some (Sum.inl ((iAdd .i64 s717.1 1), ((s717.2.1.1, s717.2.1.2.1, s717.2.1.2.2.1, s717.2.1.2.2.2) : (Int × (Int × ((List Int) × Unit)))), y719.2.1, ()))
    else
    bif (iEq y719.1.1 2) then
      bif (iLt 0 y702.1.1) then
        bif inB s717.1 (List.length s717.2.1.2.2.1) then
          some (Sum.inl ((iAdd .i64 s717.1 1), ((s717.2.1.1, s717.2.1.2.1, (List.set s717.2.1.2.2.1 s717.1.toNat (255 : Int)), s717.2.1.2.2.2) : (Int × (Int × ((List Int) × Unit)))), y719.2.1, ()))
        else none
      else
      some (Sum.inl ((iAdd .i64 s717.1 1), ((s717.2.1.1, s717.2.1.2.1, s717.2.1.2.2.1, s717.2.1.2.2.2) : (Int × (Int × ((List Int) × Unit)))), y719.2.1, ()))
    else
    bif (iEq y719.1.1 3) then
      (spec_l00Src_pick y719.2.1 (9 : Int)).bind fun y762 =>
      bif inB s717.1 (List.length s717.2.1.2.2.1) then
        some (Sum.inl ((iAdd .i64 s717.1 1), ((s717.2.1.1, s717.2.1.2.1, (List.set s717.2.1.2.2.1 s717.1.toNat (iWrap .u8 (iMul .i64 10 (iAdd .i64 1 y762.1.1)))), s717.2.1.2.2.2) : (Int × (Int × ((List Int) × Unit)))), y762.2.1, ()))
      else none
    else
    bif (iEq y719.1.1 4) then
      (spec_l00Src_pick y719.2.1 (256 : Int)).bind fun y769 =>
      bif inB s717.1 (List.length s717.2.1.2.2.1) then
        some (Sum.inl ((iAdd .i64 s717.1 1), ((s717.2.1.1, s717.2.1.2.1, (List.set s717.2.1.2.2.1 s717.1.toNat (iWrap .u8 y769.1.1)), s717.2.1.2.2.2) : (Int × (Int × ((List Int) × Unit)))), y769.2.1, ()))
      else none
    else
    some (Sum.inl ((iAdd .i64 s717.1 1), ((s717.2.1.1, s717.2.1.2.1, s717.2.1.2.2.1, s717.2.1.2.2.2) : (Int × (Int × ((List Int) × Unit)))), y719.2.1, ()))
  else
  Option.map Sum.inr (some ((((s717.2.1.1, s717.2.1.2.1, s717.2.1.2.2.1, s717.2.1.2.2.2) : (Int × (Int × ((List Int) × Unit)))), ()), (s717.2.2.1, ())))
noncomputable def spec_l07Drawn (a0 : ((List Int) × (Int × (Int × Unit)))) : Option (((Int × (Int × ((List Int) × Unit))) × Unit) × (((List Int) × (Int × (Int × Unit))) × Unit)) :=
  (spec_l00Src_pick a0 (7 : Int)).bind fun y697 =>
  (spec_l00Src_pick y697.2.1 (7 : Int)).bind fun y699 =>
  (spec_EmptyGrid (iAdd .i64 1 y697.1.1) (iAdd .i64 1 y699.1.1)).bind fun y701 =>
  (spec_l00Src_pick y699.2.1 (4 : Int)).bind fun y702 =>
  run (spec_l07Drawn_l4 y702) ((0 : Int), ((y701.1.1.1, y701.1.1.2.1, y701.1.1.2.2.1, y701.1.1.2.2.2) : (Int × (Int × ((List Int) × Unit)))), y702.2.1, ())
noncomputable def spec_l07Drawn_sg : Sig := ⟨[.io (.val (.pair (.list (.int .u8)) (.pair (.int .i64) (.pair (.int .u64) (.unit)))))], [.v (.pair (.val (.int .i64)) (.pair (.val (.int .i64)) (.pair (.rows (.int .u8)) (.val (.unit)))))], true⟩
noncomputable def spec_l07Drawn_en : Entry := ⟨spec_l07Drawn_sg, fun x => spec_l07Drawn x.1⟩
theorem spec_l07Drawn_eq {G : List (Nat × Obj)} (x : spec_l07Drawn_sg.dom) : body (env G [(18, spec_l00Src_pick_en), (35, spec_EmptyGrid_en)]) [(4, .vary [(6, .sc (.int .i64)), (3, .box (.pair (.val (.int .i64)) (.pair (.val (.int .i64)) (.pair (.rows (.int .u8)) (.val (.unit)))))), (0, .box (.val (.pair (.list (.int .u8)) (.pair (.int .i64) (.pair (.int .u64) (.unit))))))])] Try.f16 spec_l07Drawn_sg x = spec_l07Drawn x.1 := by kernel_rfl
theorem spec_l07Drawn_so {G : List (Nat × Obj)} : Sound Try.prog G 16 spec_l07Drawn_en := sound_of_body (envS (l := [(18, spec_l00Src_pick_en), (35, spec_EmptyGrid_en)]) (⟨(spec_l00Src_pick_so), (spec_EmptyGrid_so), trivial⟩)) Try.func16 (by kernel_rfl) rfl (fun x y h => (spec_l07Drawn_eq (G := G) x).trans h)

-- loop.example/g01204/spec.P6Grid
noncomputable def spec_P6Grid (a0 : (List Int)) : Option (((Int × (Int × ((List Int) × Unit))) × Unit) × Unit) :=
  (spec_l00From a0).bind fun y695 =>
  (spec_l07Drawn y695.1.1).bind fun y696 =>
  some ((((y696.1.1.1, y696.1.1.2.1, y696.1.1.2.2.1, y696.1.1.2.2.2) : (Int × (Int × ((List Int) × Unit)))), ()), ())
noncomputable def spec_P6Grid_sg : Sig := ⟨[.v (.list (.int .u8))], [.v (.pair (.val (.int .i64)) (.pair (.val (.int .i64)) (.pair (.rows (.int .u8)) (.val (.unit)))))], false⟩
noncomputable def spec_P6Grid_en : Entry := ⟨spec_P6Grid_sg, fun x => spec_P6Grid x.1⟩
theorem spec_P6Grid_eq {G : List (Nat × Obj)} (x : spec_P6Grid_sg.dom) : body (env G [(16, spec_l07Drawn_en), (17, spec_l00From_en)]) [] Try.f5 spec_P6Grid_sg x = spec_P6Grid x.1 := by kernel_rfl
theorem spec_P6Grid_so {G : List (Nat × Obj)} : Sound Try.prog G 5 spec_P6Grid_en := sound_of_body (envS (l := [(16, spec_l07Drawn_en), (17, spec_l00From_en)]) (⟨(spec_l07Drawn_so), (spec_l00From_so), trivial⟩)) Try.func5 (by kernel_rfl) rfl (fun x y h => (spec_P6Grid_eq (G := G) x).trans h)

-- loop.example/g01204/spec.P6Spot
noncomputable def spec_P6Spot (a0 : (List Int)) (a1 : (Int × (Int × ((List Int) × Unit)))) : Option (((Vec 2 Int) × Unit) × Unit) :=
  (spec_l00From a0).bind fun y807 =>
  (spec_l00Src_pick y807.1.1 a1.1).bind fun y808 =>
  (spec_l00Src_pick y808.2.1 a1.2.1).bind fun y810 =>
  some (((((iWrap .i16 y808.1.1), (iWrap .i16 y810.1.1), ()) : (Vec 2 Int)), ()), ())
noncomputable def spec_P6Spot_sg : Sig := ⟨[.v (.list (.int .u8)), .v (.pair (.int .i64) (.pair (.int .i64) (.pair (.list (.int .u8)) (.unit))))], [.v (.val (.arr 2 (.int .i16)))], false⟩
noncomputable def spec_P6Spot_en : Entry := ⟨spec_P6Spot_sg, fun x => spec_P6Spot x.1 x.2.1⟩
theorem spec_P6Spot_eq {G : List (Nat × Obj)} (x : spec_P6Spot_sg.dom) : body (env G [(17, spec_l00From_en), (18, spec_l00Src_pick_en)]) [] Try.f6 spec_P6Spot_sg x = spec_P6Spot x.1 x.2.1 := by kernel_rfl
theorem spec_P6Spot_so {G : List (Nat × Obj)} : Sound Try.prog G 6 spec_P6Spot_en := sound_of_body (envS (l := [(17, spec_l00From_en), (18, spec_l00Src_pick_en)]) (⟨(spec_l00From_so), (spec_l00Src_pick_so), trivial⟩)) Try.func6 (by kernel_rfl) rfl (fun x y h => (spec_P6Spot_eq (G := G) x).trans h)

-- loop.example/g01204/spec.SameSpots
noncomputable def spec_SameSpots_l4 (a0 : (List (Vec 2 Int))) (a1 : (List (Vec 2 Int))) (s813 : (Int × Unit)) : Option ((Int × Unit) ⊕ ((Bool × Unit) × Unit)) :=
  bif (iLt s813.1 (lenI a0)) then
    bif inB s813.1 (List.length a0) then
      let x815 := List.getD a0 s813.1.toNat ((0, 0, ()) : (Vec 2 Int))
      bif inB s813.1 (List.length a1) then
        let x816 := List.getD a1 s813.1.toNat ((0, 0, ()) : (Vec 2 Int))
        bif (! (iEq (Vec.getD 2 x815 0 (0 : Int)) (Vec.getD 2 x816 0 (0 : Int)) && (iEq (Vec.getD 2 x815 1 (0 : Int)) (Vec.getD 2 x816 1 (0 : Int)) && true))) then
          Option.map Sum.inr (some ((false, ()), ()))
        else
        some (Sum.inl ((iAdd .i64 s813.1 1), ()))
      else none
    else none
  else
  Option.map Sum.inr (some ((true, ()), ()))
noncomputable def spec_SameSpots (a0 : (List (Vec 2 Int))) (a1 : (List (Vec 2 Int))) : Option ((Bool × Unit) × Unit) :=
  bif (! (iEq (lenI a0) (lenI a1))) then some ((false, ()), ()) else run (spec_SameSpots_l4 a0 a1) ((0 : Int), ())
noncomputable def spec_SameSpots_sg : Sig := ⟨[.v (.list (.arr 2 (.int .i16))), .v (.list (.arr 2 (.int .i16)))], [.v (.val (.bool))], false⟩
noncomputable def spec_SameSpots_en : Entry := ⟨spec_SameSpots_sg, fun x => spec_SameSpots x.1 x.2.1⟩
theorem spec_SameSpots_eq {G : List (Nat × Obj)} (x : spec_SameSpots_sg.dom) : body (env G []) [(4, .vary [(5, .sc (.int .i64))])] Try.f9 spec_SameSpots_sg x = spec_SameSpots x.1 x.2.1 := by kernel_rfl
theorem spec_SameSpots_so {G : List (Nat × Obj)} : Sound Try.prog G 9 spec_SameSpots_en := sound_of_body (envS (l := []) (trivial)) Try.func9 (by kernel_rfl) rfl (fun x y h => (spec_SameSpots_eq (G := G) x).trans h)

-- loop.example/g01204/spec.l07Route
noncomputable def spec_l07Route_l6 (a1 : (List (Vec 2 Int))) (a0 : (Int × (Int × ((List Int) × Unit)))) (s845 : (Int × Int × Unit)) : Option ((Int × Int × Unit) ⊕ ((Int × Bool × Unit) × Unit)) :=
  bif (iLt s845.2.1 (lenI a1)) then
    bif inB s845.2.1 (List.length a1) then
      let x849 := iSub .i64 s845.2.1 1
      bif inB x849 (List.length a1) then
        let x852 := iSub .i64 (iWrap .i64 (Vec.getD 2 (List.getD a1 s845.2.1.toNat ((0, 0, ()) : (Vec 2 Int))) 0 (0 : Int))) (iWrap .i64 (Vec.getD 2 (List.getD a1 x849.toNat ((0, 0, ()) : (Vec 2 Int))) 0 (0 : Int)))
        bif inB s845.2.1 (List.length a1) then
          let x855 := iSub .i64 s845.2.1 1
          bif inB x855 (List.length a1) then
            let x858 := iSub .i64 (iWrap .i64 (Vec.getD 2 (List.getD a1 s845.2.1.toNat ((0, 0, ()) : (Vec 2 Int))) 1 (0 : Int))) (iWrap .i64 (Vec.getD 2 (List.getD a1 x855.toNat ((0, 0, ()) : (Vec 2 Int))) 1 (0 : Int)))
            bif (iEq x852 0) then
              bif (iEq x858 0) then
                Option.map Sum.inr (some (((0 : Int), false, ()), ()))
              else
              (spec_l00In x852 ((-1 : Int) : Int) (1 : Int)).bind fun y861 =>
              bif (! y861.1.1) then
                Option.map Sum.inr (some (((0 : Int), false, ()), ()))
              else
              (spec_l00In x858 ((-1 : Int) : Int) (1 : Int)).bind fun y863 =>
              bif (! y863.1.1) then
                Option.map Sum.inr (some (((0 : Int), false, ()), ()))
              else
              let x865 := iSub .i64 s845.2.1 1
              bif inB x865 (List.length a1) then
                (spec_l07Move a0 (List.getD a1 x865.toNat ((0, 0, ()) : (Vec 2 Int))) x852 x858).bind fun y867 =>
                bif (! y867.1.2.2.1) then
                  Option.map Sum.inr (some (((0 : Int), false, ()), ()))
                else
                some (Sum.inl ((iAdd .i64 s845.1 y867.1.2.1), (iAdd .i64 s845.2.1 1), ()))
              else none
            else
            (spec_l00In x852 ((-1 : Int) : Int) (1 : Int)).bind fun y871 =>
            bif (! y871.1.1) then
              Option.map Sum.inr (some (((0 : Int), false, ()), ()))
            else
            (spec_l00In x858 ((-1 : Int) : Int) (1 : Int)).bind fun y873 =>
            bif (! y873.1.1) then
              Option.map Sum.inr (some (((0 : Int), false, ()), ()))
            else
            let x875 := iSub .i64 s845.2.1 1
            bif inB x875 (List.length a1) then
              (spec_l07Move a0 (List.getD a1 x875.toNat ((0, 0, ()) : (Vec 2 Int))) x852 x858).bind fun y877 =>
              bif (! y877.1.2.2.1) then
                Option.map Sum.inr (some (((0 : Int), false, ()), ()))
              else
              some (Sum.inl ((iAdd .i64 s845.1 y877.1.2.1), (iAdd .i64 s845.2.1 1), ()))
            else none
          else none
        else none
      else none
    else none
  else
  Option.map Sum.inr (some ((s845.1, true, ()), ()))
noncomputable def spec_l07Route (a0 : (Int × (Int × ((List Int) × Unit)))) (a1 : (List (Vec 2 Int))) : Option ((Int × Bool × Unit) × Unit) :=
  (spec_l07Ok a0).bind fun y836 =>
  bif (! y836.1.1) then some (((0 : Int), false, ()), ()) else
  (spec_l00In (lenI a1) (1 : Int) (600 : Int)).bind fun y838 =>
  bif (! y838.1.1) then some (((0 : Int), false, ()), ()) else
  bif inB 0 (List.length a1) then
    (spec_l07Spot a0 (List.getD a1 0 ((0, 0, ()) : (Vec 2 Int)))).bind fun y841 =>
    bif (! y841.1.1) then some (((0 : Int), false, ()), ()) else
    bif inB 0 (List.length a1) then
      (spec_l07Wall a0 (List.getD a1 0 ((0, 0, ()) : (Vec 2 Int)))).bind fun y844 =>
      bif y844.1.1 then some (((0 : Int), false, ()), ()) else run (spec_l07Route_l6 a1 a0) ((0 : Int), (1 : Int), ())
    else none
  else none
noncomputable def spec_l07Route_sg : Sig := ⟨[.ro (.pair (.int .i64) (.pair (.int .i64) (.pair (.list (.int .u8)) (.unit)))), .v (.list (.arr 2 (.int .i16)))], [.v (.val (.int .i64)), .v (.val (.bool))], false⟩
noncomputable def spec_l07Route_en : Entry := ⟨spec_l07Route_sg, fun x => spec_l07Route x.1 x.2.1⟩
theorem spec_l07Route_eq {G : List (Nat × Obj)} (x : spec_l07Route_sg.dom) : body (env G [(21, spec_l00In_en), (32, spec_l07Move_en), (46, spec_l07Wall_en), (48, spec_l07Ok_en), (49, spec_l07Spot_en)]) [(6, .vary [(7, .sc (.int .i64)), (8, .sc (.int .i64))])] Try.f33 spec_l07Route_sg x = spec_l07Route x.1 x.2.1 := by kernel_rfl
theorem spec_l07Route_so {G : List (Nat × Obj)} : Sound Try.prog G 33 spec_l07Route_en := sound_of_body (envS (l := [(21, spec_l00In_en), (32, spec_l07Move_en), (46, spec_l07Wall_en), (48, spec_l07Ok_en), (49, spec_l07Spot_en)]) (⟨(spec_l00In_so), (spec_l07Move_so), (spec_l07Wall_so), (spec_l07Ok_so), (spec_l07Spot_so), trivial⟩)) Try.func33 (by kernel_rfl) rfl (fun x y h => (spec_l07Route_eq (G := G) x).trans h)

-- loop.example/g01204/spec.l00Max
noncomputable def spec_l00Max (a0 : Int) (a1 : Int) : Option ((Int × Unit) × Unit) :=
  bif (iLt a1 a0) then some ((a0, ()), ()) else some ((a1, ()), ())
noncomputable def spec_l00Max_sg : Sig := ⟨[.v (.int .i64), .v (.int .i64)], [.v (.val (.int .i64))], false⟩
noncomputable def spec_l00Max_en : Entry := ⟨spec_l00Max_sg, fun x => spec_l00Max x.1 x.2.1⟩
theorem spec_l00Max_eq {G : List (Nat × Obj)} (x : spec_l00Max_sg.dom) : body (env G []) [] Try.f38 spec_l00Max_sg x = spec_l00Max x.1 x.2.1 := by kernel_rfl
theorem spec_l00Max_so {G : List (Nat × Obj)} : Sound Try.prog G 38 spec_l00Max_en := sound_of_body (envS (l := []) (trivial)) Try.func38 (by kernel_rfl) rfl (fun x y h => (spec_l00Max_eq (G := G) x).trans h)

-- loop.example/g01204/spec.l07Floor
noncomputable def spec_l07Floor (a0 : Int) (a1 : Int) : Option ((Int × Unit) × Unit) :=
  bif iEq a1 0 then none else
  let x946 := iQuo .i64 a0 a1
  bif iEq a1 0 then none else
  bif (iLt (iRem .i64 a0 a1) 0) then
    some (((iSub .i64 x946 1), ()), ())
  else some ((x946, ()), ())
noncomputable def spec_l07Floor_sg : Sig := ⟨[.v (.int .i64), .v (.int .i64)], [.v (.val (.int .i64))], false⟩
noncomputable def spec_l07Floor_en : Entry := ⟨spec_l07Floor_sg, fun x => spec_l07Floor x.1 x.2.1⟩
theorem spec_l07Floor_eq {G : List (Nat × Obj)} (x : spec_l07Floor_sg.dom) : body (env G []) [] Try.f39 spec_l07Floor_sg x = spec_l07Floor x.1 x.2.1 := by kernel_rfl
theorem spec_l07Floor_so {G : List (Nat × Obj)} : Sound Try.prog G 39 spec_l07Floor_en := sound_of_body (envS (l := []) (trivial)) Try.func39 (by kernel_rfl) rfl (fun x y h => (spec_l07Floor_eq (G := G) x).trans h)

-- loop.example/g01204/spec.l07Line
noncomputable def spec_l07Line_l8 (y921 : ((Int × Unit) × Unit)) (x911 : Int) (x916 : Int) (a0 : (Vec 2 Int)) (s923 : ((List (Vec 2 Int)) × Int × Unit)) : Option (((List (Vec 2 Int)) × Int × Unit) ⊕ (((List (Vec 2 Int)) × Unit) × Unit)) :=
  bif (iLe s923.2.1 y921.1.1) then
    (spec_l07Floor (iAdd .i64 (iMul .i64 (iMul .i64 2 s923.2.1) x911) y921.1.1) (iMul .i64 2 y921.1.1)).bind fun y931 =>
    (spec_l07Floor (iAdd .i64 (iMul .i64 (iMul .i64 2 s923.2.1) x916) y921.1.1) (iMul .i64 2 y921.1.1)).bind fun y939 =>
    bif room (List.length s923.1 + 1) 4 then
      some (Sum.inl ((s923.1 ++ ([((iWrap .i16 (iAdd .i64 (iWrap .i64 (Vec.getD 2 a0 0 (0 : Int))) y931.1.1)), (iWrap .i16 (iAdd .i64 (iWrap .i64 (Vec.getD 2 a0 1 (0 : Int))) y939.1.1)), ())] : (List (Vec 2 Int)))), (iAdd .i64 s923.2.1 1), ()))
    else none
  else
  Option.map Sum.inr (some ((s923.1, ()), ()))
noncomputable def spec_l07Line (a0 : (Vec 2 Int)) (a1 : (Vec 2 Int)) : Option (((List (Vec 2 Int)) × Unit) × Unit) :=
  let x911 := iSub .i64 (iWrap .i64 (Vec.getD 2 a1 0 (0 : Int))) (iWrap .i64 (Vec.getD 2 a0 0 (0 : Int)))
  let x916 := iSub .i64 (iWrap .i64 (Vec.getD 2 a1 1 (0 : Int))) (iWrap .i64 (Vec.getD 2 a0 1 (0 : Int)))
  (spec_l00Max x911 (iSub .i64 0 x911)).bind fun y918 =>
  (spec_l00Max x916 (iSub .i64 0 x916)).bind fun y920 =>
  (spec_l00Max y918.1.1 y920.1.1).bind fun y921 =>
  bif (iEq y921.1.1 0) then some ((([a0] : (List (Vec 2 Int))), ()), ()) else run (spec_l07Line_l8 y921 x911 x916 a0) (([] : (List (Vec 2 Int))), (0 : Int), ())
noncomputable def spec_l07Line_sg : Sig := ⟨[.v (.arr 2 (.int .i16)), .v (.arr 2 (.int .i16))], [.v (.rows (.arr 2 (.int .i16)))], false⟩
noncomputable def spec_l07Line_en : Entry := ⟨spec_l07Line_sg, fun x => spec_l07Line x.1 x.2.1⟩
theorem spec_l07Line_eq {G : List (Nat × Obj)} (x : spec_l07Line_sg.dom) : body (env G [(38, spec_l00Max_en), (39, spec_l07Floor_en)]) [(8, .vary [(8, .rows (.arr 2 (.int .i16))), (9, .sc (.int .i64))])] Try.f22 spec_l07Line_sg x = spec_l07Line x.1 x.2.1 := by kernel_rfl
theorem spec_l07Line_so {G : List (Nat × Obj)} : Sound Try.prog G 22 spec_l07Line_en := sound_of_body (envS (l := [(38, spec_l00Max_en), (39, spec_l07Floor_en)]) (⟨(spec_l00Max_so), (spec_l07Floor_so), trivial⟩)) Try.func22 (by kernel_rfl) rfl (fun x y h => (spec_l07Line_eq (G := G) x).trans h)

-- loop.example/g01204/spec.l07Sees
noncomputable def spec_l07Sees_l3 (y881 : (((List (Vec 2 Int)) × Unit) × Unit)) (a0 : (Int × (Int × ((List Int) × Unit)))) (s882 : (Int × Unit)) : Option ((Int × Unit) ⊕ ((Bool × Unit) × Unit)) :=
  bif (iLt s882.1 (lenI y881.1.1)) then
    bif inB s882.1 (List.length y881.1.1) then
      (spec_l07Wall a0 (List.getD y881.1.1 s882.1.toNat ((0, 0, ()) : (Vec 2 Int)))).bind fun y885 =>
      bif y885.1.1 then
        Option.map Sum.inr (some ((false, ()), ()))
      else
      bif (iLt 0 s882.1) then
        bif inB s882.1 (List.length y881.1.1) then
          let x888 := iSub .i64 s882.1 1
          bif inB x888 (List.length y881.1.1) then
            bif (! (iEq (Vec.getD 2 (List.getD y881.1.1 s882.1.toNat ((0, 0, ()) : (Vec 2 Int))) 0 (0 : Int)) (Vec.getD 2 (List.getD y881.1.1 x888.toNat ((0, 0, ()) : (Vec 2 Int))) 0 (0 : Int)))) then
              bif inB s882.1 (List.length y881.1.1) then
                let x892 := iSub .i64 s882.1 1
                bif inB x892 (List.length y881.1.1) then
                  bif (! (iEq (Vec.getD 2 (List.getD y881.1.1 s882.1.toNat ((0, 0, ()) : (Vec 2 Int))) 1 (0 : Int)) (Vec.getD 2 (List.getD y881.1.1 x892.toNat ((0, 0, ()) : (Vec 2 Int))) 1 (0 : Int)))) then
                    bif inB s882.1 (List.length y881.1.1) then
                      let x896 := iSub .i64 s882.1 1
                      bif inB x896 (List.length y881.1.1) then
                        (spec_l07Wall a0 (((Vec.getD 2 (List.getD y881.1.1 s882.1.toNat ((0, 0, ()) : (Vec 2 Int))) 0 (0 : Int)), (Vec.getD 2 (List.getD y881.1.1 x896.toNat ((0, 0, ()) : (Vec 2 Int))) 1 (0 : Int)), ()) : (Vec 2 Int))).bind fun y898 =>
                        bif y898.1.1 then
                          Option.map Sum.inr (some ((false, ()), ()))
                        else
                        let x899 := iSub .i64 s882.1 1
                        bif inB x899 (List.length y881.1.1) then
                          bif inB s882.1 (List.length y881.1.1) then
                            (spec_l07Wall a0 (((Vec.getD 2 (List.getD y881.1.1 x899.toNat ((0, 0, ()) : (Vec 2 Int))) 0 (0 : Int)), (Vec.getD 2 (List.getD y881.1.1 s882.1.toNat ((0, 0, ()) : (Vec 2 Int))) 1 (0 : Int)), ()) : (Vec 2 Int))).bind fun y902 =>
                            bif y902.1.1 then
                              Option.map Sum.inr (some ((false, ()), ()))
                            else
                            some (Sum.inl ((iAdd .i64 s882.1 1), ()))
                          else none
                        else none
                      else none
                    else none
                  else
                  some (Sum.inl ((iAdd .i64 s882.1 1), ()))
                else none
              else none
            else
            some (Sum.inl ((iAdd .i64 s882.1 1), ()))
          else none
        else none
      else
      some (Sum.inl ((iAdd .i64 s882.1 1), ()))
    else none
  else
  Option.map Sum.inr (some ((true, ()), ()))
noncomputable def spec_l07Sees (a0 : (Int × (Int × ((List Int) × Unit)))) (a1 : (Vec 2 Int)) (a2 : (Vec 2 Int)) : Option ((Bool × Unit) × Unit) :=
  (spec_l07Line a1 a2).bind fun y881 =>
  run (spec_l07Sees_l3 y881 a0) ((0 : Int), ())
noncomputable def spec_l07Sees_sg : Sig := ⟨[.ro (.pair (.int .i64) (.pair (.int .i64) (.pair (.list (.int .u8)) (.unit)))), .v (.arr 2 (.int .i16)), .v (.arr 2 (.int .i16))], [.v (.val (.bool))], false⟩
noncomputable def spec_l07Sees_en : Entry := ⟨spec_l07Sees_sg, fun x => spec_l07Sees x.1 x.2.1 x.2.2.1⟩
theorem spec_l07Sees_eq {G : List (Nat × Obj)} (x : spec_l07Sees_sg.dom) : body (env G [(22, spec_l07Line_en), (46, spec_l07Wall_en)]) [(3, .vary [(8, .sc (.int .i64))])] Try.f34 spec_l07Sees_sg x = spec_l07Sees x.1 x.2.1 x.2.2.1 := by kernel_rfl
theorem spec_l07Sees_so {G : List (Nat × Obj)} : Sound Try.prog G 34 spec_l07Sees_en := sound_of_body (envS (l := [(22, spec_l07Line_en), (46, spec_l07Wall_en)]) (⟨(spec_l07Line_so), (spec_l07Wall_so), trivial⟩)) Try.func34 (by kernel_rfl) rfl (fun x y h => (spec_l07Sees_eq (G := G) x).trans h)

-- loop.example/g01204/spec.ShortenRoute
noncomputable def spec_ShortenRoute_l9 (s822 : ((List (Vec 2 Int)) × Int × Unit)) (a1 : (List (Vec 2 Int))) (a0 : (Int × (Int × ((List Int) × Unit)))) (s827 : (Int × Int × Unit)) : Option ((Int × Int × Unit) ⊕ (((List (Vec 2 Int)) × Int × Unit) ⊕ (((List (Vec 2 Int)) × Int × Unit) × Unit))) :=
  bif (iLt s827.1 s827.2.1) then
    bif inB s822.2.1 (List.length a1) then
      bif inB s827.2.1 (List.length a1) then
        (spec_l07Sees a0 (List.getD a1 s822.2.1.toNat ((0, 0, ()) : (Vec 2 Int))) (List.getD a1 s827.2.1.toNat ((0, 0, ()) : (Vec 2 Int)))).bind fun y831 =>
        bif y831.1.1 then
          some (Sum.inl (s827.2.1, (iSub .i64 s827.2.1 1), ()))
        else
        some (Sum.inl (s827.1, (iSub .i64 s827.2.1 1), ()))
      else none
    else none
  else
  Option.map Sum.inr (
    bif inB s827.1 (List.length a1) then
      bif room (List.length s822.1 + 1) 4 then
        some (Sum.inl ((s822.1 ++ ([(List.getD a1 s827.1.toNat ((0, 0, ()) : (Vec 2 Int)))] : (List (Vec 2 Int)))), s827.1, ()))
      else none
    else none)
noncomputable def spec_ShortenRoute_l6 (a1 : (List (Vec 2 Int))) (a0 : (Int × (Int × ((List Int) × Unit)))) (s822 : ((List (Vec 2 Int)) × Int × Unit)) : Option (((List (Vec 2 Int)) × Int × Unit) ⊕ (((List (Vec 2 Int)) × Int × Unit) × Unit)) :=
  bif (iLt s822.2.1 (iSub .i64 (lenI a1) 1)) then
    run (spec_ShortenRoute_l9 s822 a1 a0) ((iAdd .i64 s822.2.1 1), (iSub .i64 (lenI a1) 1), ())
  else
  Option.map Sum.inr (some ((s822.1, (0 : Int), ()), ()))
noncomputable def spec_ShortenRoute (a0 : (Int × (Int × ((List Int) × Unit)))) (a1 : (List (Vec 2 Int))) : Option (((List (Vec 2 Int)) × Int × Unit) × Unit) :=
  (spec_l07Route a0 a1).bind fun y819 =>
  bif (! y819.1.2.1) then some ((([] : (List (Vec 2 Int))), (1 : Int), ()), ()) else
  bif inB 0 (List.length a1) then
    run (spec_ShortenRoute_l6 a1 a0) (([(List.getD a1 0 ((0, 0, ()) : (Vec 2 Int)))] : (List (Vec 2 Int))), (0 : Int), ())
  else none
noncomputable def spec_ShortenRoute_sg : Sig := ⟨[.v (.pair (.int .i64) (.pair (.int .i64) (.pair (.list (.int .u8)) (.unit)))), .v (.list (.arr 2 (.int .i16)))], [.v (.rows (.arr 2 (.int .i16))), .v (.val (.int .i64))], false⟩
noncomputable def spec_ShortenRoute_en : Entry := ⟨spec_ShortenRoute_sg, fun x => spec_ShortenRoute x.1 x.2.1⟩
theorem spec_ShortenRoute_eq {G : List (Nat × Obj)} (x : spec_ShortenRoute_sg.dom) : body (env G [(33, spec_l07Route_en), (34, spec_l07Sees_en)]) [(6, .vary [(8, .rows (.arr 2 (.int .i16))), (9, .sc (.int .i64))]), (9, .vary [(10, .sc (.int .i64)), (11, .sc (.int .i64))])] Try.f15 spec_ShortenRoute_sg x = spec_ShortenRoute x.1 x.2.1 := by kernel_rfl
theorem spec_ShortenRoute_so {G : List (Nat × Obj)} : Sound Try.prog G 15 spec_ShortenRoute_en := sound_of_body (envS (l := [(33, spec_l07Route_en), (34, spec_l07Sees_en)]) (⟨(spec_l07Route_so), (spec_l07Sees_so), trivial⟩)) Try.func15 (by kernel_rfl) rfl (fun x y h => (spec_ShortenRoute_eq (G := G) x).trans h)

-- loop.example/g01204/spec.SpotsBetween
noncomputable def spec_SpotsBetween (a0 : (Vec 2 Int)) (a1 : (Vec 2 Int)) : Option (((List (Vec 2 Int)) × Int × Unit) × Unit) :=
  (spec_l00In (iWrap .i64 (Vec.getD 2 a0 0 (0 : Int))) (0 : Int) (23 : Int)).bind fun y952 =>
  bif (! y952.1.1) then some ((([] : (List (Vec 2 Int))), (2 : Int), ()), ()) else
  (spec_l00In (iWrap .i64 (Vec.getD 2 a1 0 (0 : Int))) (0 : Int) (23 : Int)).bind fun y956 =>
  bif (! y956.1.1) then some ((([] : (List (Vec 2 Int))), (2 : Int), ()), ()) else
  (spec_l00In (iWrap .i64 (Vec.getD 2 a0 1 (0 : Int))) (0 : Int) (23 : Int)).bind fun y960 =>
  bif (! y960.1.1) then some ((([] : (List (Vec 2 Int))), (2 : Int), ()), ()) else
  (spec_l00In (iWrap .i64 (Vec.getD 2 a1 1 (0 : Int))) (0 : Int) (23 : Int)).bind fun y964 =>
  bif (! y964.1.1) then some ((([] : (List (Vec 2 Int))), (2 : Int), ()), ()) else
  (spec_l07Line a0 a1).bind fun y966 =>
  some ((y966.1.1, (0 : Int), ()), ())
noncomputable def spec_SpotsBetween_sg : Sig := ⟨[.v (.arr 2 (.int .i16)), .v (.arr 2 (.int .i16))], [.v (.rows (.arr 2 (.int .i16))), .v (.val (.int .i64))], false⟩
noncomputable def spec_SpotsBetween_en : Entry := ⟨spec_SpotsBetween_sg, fun x => spec_SpotsBetween x.1 x.2.1⟩
theorem spec_SpotsBetween_eq {G : List (Nat × Obj)} (x : spec_SpotsBetween_sg.dom) : body (env G [(21, spec_l00In_en), (22, spec_l07Line_en)]) [(2, .unroll 3)] Try.f8 spec_SpotsBetween_sg x = spec_SpotsBetween x.1 x.2.1 := by kernel_rfl
theorem spec_SpotsBetween_so {G : List (Nat × Obj)} : Sound Try.prog G 8 spec_SpotsBetween_en := sound_of_body (envS (l := [(21, spec_l00In_en), (22, spec_l07Line_en)]) (⟨(spec_l00In_so), (spec_l07Line_so), trivial⟩)) Try.func8 (by kernel_rfl) rfl (fun x y h => (spec_SpotsBetween_eq (G := G) x).trans h)

-- loop.example/g01204/laws.FnShortened
noncomputable def laws_FnShortened_l29 (y51 : (((List (Vec 2 Int)) × Int × Unit) × Unit)) (y3 : (((Int × (Int × ((List Int) × Unit))) × Unit) × Unit)) (s62 : (Int × Unit)) : Option ((Int × Unit) ⊕ ((Bool × Unit) × Unit)) :=
  bif (iLt s62.1 (lenI y51.1.1)) then
    let x64 := iSub .i64 s62.1 1
    bif inB x64 (List.length y51.1.1) then
      bif inB s62.1 (List.length y51.1.1) then
        (impl_SeesSpot ((y3.1.1.1, y3.1.1.2.1, y3.1.1.2.2.1, y3.1.1.2.2.2) : (Int × (Int × ((List Int) × Unit)))) (List.getD y51.1.1 x64.toNat ((0, 0, ()) : (Vec 2 Int))) (List.getD y51.1.1 s62.1.toNat ((0, 0, ()) : (Vec 2 Int)))).bind fun y67 =>
        bif (! (iEq y67.1.2.1 0)) then
          Option.map Sum.inr (some ((false, ()), ()))
        else
        bif (! y67.1.1) then
          Option.map Sum.inr (some ((false, ()), ()))
        else
        some (Sum.inl ((iAdd .i64 s62.1 1), ()))
      else none
    else none
  else
  Option.map Sum.inr (some ((true, ()), ()))
noncomputable def laws_FnShortened_l29_2 (y74 : (((List (Vec 2 Int)) × Int × Unit) × Unit)) (y3 : (((Int × (Int × ((List Int) × Unit))) × Unit) × Unit)) (s85 : (Int × Unit)) : Option ((Int × Unit) ⊕ ((Bool × Unit) × Unit)) :=
  bif (iLt s85.1 (lenI y74.1.1)) then
    let x87 := iSub .i64 s85.1 1
    bif inB x87 (List.length y74.1.1) then
      bif inB s85.1 (List.length y74.1.1) then
        (impl_SeesSpot ((y3.1.1.1, y3.1.1.2.1, y3.1.1.2.2.1, y3.1.1.2.2.2) : (Int × (Int × ((List Int) × Unit)))) (List.getD y74.1.1 x87.toNat ((0, 0, ()) : (Vec 2 Int))) (List.getD y74.1.1 s85.1.toNat ((0, 0, ()) : (Vec 2 Int)))).bind fun y90 =>
        bif (! (iEq y90.1.2.1 0)) then
          Option.map Sum.inr (some ((false, ()), ()))
        else
        bif (! y90.1.1) then
          Option.map Sum.inr (some ((false, ()), ()))
        else
        some (Sum.inl ((iAdd .i64 s85.1 1), ()))
      else none
    else none
  else
  Option.map Sum.inr (some ((true, ()), ()))
noncomputable def laws_FnShortened_l29_3 (y97 : (((List (Vec 2 Int)) × Int × Unit) × Unit)) (y3 : (((Int × (Int × ((List Int) × Unit))) × Unit) × Unit)) (s108 : (Int × Unit)) : Option ((Int × Unit) ⊕ ((Bool × Unit) × Unit)) :=
  bif (iLt s108.1 (lenI y97.1.1)) then
    let x110 := iSub .i64 s108.1 1
    bif inB x110 (List.length y97.1.1) then
      bif inB s108.1 (List.length y97.1.1) then
        (impl_SeesSpot ((y3.1.1.1, y3.1.1.2.1, y3.1.1.2.2.1, y3.1.1.2.2.2) : (Int × (Int × ((List Int) × Unit)))) (List.getD y97.1.1 x110.toNat ((0, 0, ()) : (Vec 2 Int))) (List.getD y97.1.1 s108.1.toNat ((0, 0, ()) : (Vec 2 Int)))).bind fun y113 =>
        bif (! (iEq y113.1.2.1 0)) then
          Option.map Sum.inr (some ((false, ()), ()))
        else
        bif (! y113.1.1) then
          Option.map Sum.inr (some ((false, ()), ()))
        else
        some (Sum.inl ((iAdd .i64 s108.1 1), ()))
      else none
    else none
  else
  Option.map Sum.inr (some ((true, ()), ()))
noncomputable def laws_FnShortened_l29_4 (y123 : (((List (Vec 2 Int)) × Int × Unit) × Unit)) (y3 : (((Int × (Int × ((List Int) × Unit))) × Unit) × Unit)) (s134 : (Int × Unit)) : Option ((Int × Unit) ⊕ ((Bool × Unit) × Unit)) :=
  bif (iLt s134.1 (lenI y123.1.1)) then
    let x136 := iSub .i64 s134.1 1
    bif inB x136 (List.length y123.1.1) then
      bif inB s134.1 (List.length y123.1.1) then
        (impl_SeesSpot ((y3.1.1.1, y3.1.1.2.1, y3.1.1.2.2.1, y3.1.1.2.2.2) : (Int × (Int × ((List Int) × Unit)))) (List.getD y123.1.1 x136.toNat ((0, 0, ()) : (Vec 2 Int))) (List.getD y123.1.1 s134.1.toNat ((0, 0, ()) : (Vec 2 Int)))).bind fun y139 =>
        bif (! (iEq y139.1.2.1 0)) then
          Option.map Sum.inr (some ((false, ()), ()))
        else
        bif (! y139.1.1) then
          Option.map Sum.inr (some ((false, ()), ()))
        else
        some (Sum.inl ((iAdd .i64 s134.1 1), ()))
      else none
    else none
  else
  Option.map Sum.inr (some ((true, ()), ()))
noncomputable def laws_FnShortened_l29_5 (y146 : (((List (Vec 2 Int)) × Int × Unit) × Unit)) (y3 : (((Int × (Int × ((List Int) × Unit))) × Unit) × Unit)) (s157 : (Int × Unit)) : Option ((Int × Unit) ⊕ ((Bool × Unit) × Unit)) :=
  bif (iLt s157.1 (lenI y146.1.1)) then
    let x159 := iSub .i64 s157.1 1
    bif inB x159 (List.length y146.1.1) then
      bif inB s157.1 (List.length y146.1.1) then
        (impl_SeesSpot ((y3.1.1.1, y3.1.1.2.1, y3.1.1.2.2.1, y3.1.1.2.2.2) : (Int × (Int × ((List Int) × Unit)))) (List.getD y146.1.1 x159.toNat ((0, 0, ()) : (Vec 2 Int))) (List.getD y146.1.1 s157.1.toNat ((0, 0, ()) : (Vec 2 Int)))).bind fun y162 =>
        bif (! (iEq y162.1.2.1 0)) then
          Option.map Sum.inr (some ((false, ()), ()))
        else
        bif (! y162.1.1) then
          Option.map Sum.inr (some ((false, ()), ()))
        else
        some (Sum.inl ((iAdd .i64 s157.1 1), ()))
      else none
    else none
  else
  Option.map Sum.inr (some ((true, ()), ()))
noncomputable def laws_FnShortened_l29_6 (y169 : (((List (Vec 2 Int)) × Int × Unit) × Unit)) (y3 : (((Int × (Int × ((List Int) × Unit))) × Unit) × Unit)) (s180 : (Int × Unit)) : Option ((Int × Unit) ⊕ ((Bool × Unit) × Unit)) :=
  bif (iLt s180.1 (lenI y169.1.1)) then
    let x182 := iSub .i64 s180.1 1
    bif inB x182 (List.length y169.1.1) then
      bif inB s180.1 (List.length y169.1.1) then
        (impl_SeesSpot ((y3.1.1.1, y3.1.1.2.1, y3.1.1.2.2.1, y3.1.1.2.2.2) : (Int × (Int × ((List Int) × Unit)))) (List.getD y169.1.1 x182.toNat ((0, 0, ()) : (Vec 2 Int))) (List.getD y169.1.1 s180.1.toNat ((0, 0, ()) : (Vec 2 Int)))).bind fun y185 =>
        bif (! (iEq y185.1.2.1 0)) then
          Option.map Sum.inr (some ((false, ()), ()))
        else
        bif (! y185.1.1) then
          Option.map Sum.inr (some ((false, ()), ()))
        else
        some (Sum.inl ((iAdd .i64 s180.1 1), ()))
      else none
    else none
  else
  Option.map Sum.inr (some ((true, ()), ()))
noncomputable def laws_FnShortened_l11 (y7 : (((List (Vec 2 Int)) × Int × Unit) × Unit)) (y3 : (((Int × (Int × ((List Int) × Unit))) × Unit) × Unit)) (y4 : (((Vec 2 Int) × Unit) × Unit)) (y5 : (((Vec 2 Int) × Unit) × Unit)) (s17 : (Int × Unit)) : Option ((Int × Unit) ⊕ ((Bool × Unit) × Unit)) :=
  bif (iLt s17.1 (lenI y7.1.1)) then
    bif inB s17.1 (List.length y7.1.1) then
      let x20 := iSub .i64 s17.1 1
      bif inB x20 (List.length y7.1.1) then
        let x22 := iSub .i16 (Vec.getD 2 (List.getD y7.1.1 s17.1.toNat ((0, 0, ()) : (Vec 2 Int))) 0 (0 : Int)) (Vec.getD 2 (List.getD y7.1.1 x20.toNat ((0, 0, ()) : (Vec 2 Int))) 0 (0 : Int))
        bif inB s17.1 (List.length y7.1.1) then
          let x24 := iSub .i64 s17.1 1
          bif inB x24 (List.length y7.1.1) then
            let x26 := iSub .i16 (Vec.getD 2 (List.getD y7.1.1 s17.1.toNat ((0, 0, ()) : (Vec 2 Int))) 1 (0 : Int)) (Vec.getD 2 (List.getD y7.1.1 x24.toNat ((0, 0, ()) : (Vec 2 Int))) 1 (0 : Int))
            bif (iEq x22 0) then
              bif (iEq x26 0) then
                Option.map Sum.inr (some ((false, ()), ()))
              else
              bif (iLt 1 x22) then
                Option.map Sum.inr (some ((false, ()), ()))
              else
              bif (iLt x22 (-1 : Int)) then
                Option.map Sum.inr (some ((false, ()), ()))
              else
              bif (iLt 1 x26) then
                Option.map Sum.inr (some ((false, ()), ()))
              else
              bif (iLt x26 (-1 : Int)) then
                Option.map Sum.inr (some ((false, ()), ()))
              else
              some (Sum.inl ((iAdd .i64 s17.1 1), ()))
            else
            bif (iLt 1 x22) then
              Option.map Sum.inr (some ((false, ()), ()))
            else
            bif (iLt x22 (-1 : Int)) then
              Option.map Sum.inr (some ((false, ()), ()))
            else
            bif (iLt 1 x26) then
              Option.map Sum.inr (some ((false, ()), ()))
            else
            bif (iLt x26 (-1 : Int)) then
              Option.map Sum.inr (some ((false, ()), ()))
            else
            some (Sum.inl ((iAdd .i64 s17.1 1), ()))
          else none
        else none
      else none
    else none
  else
  Option.map Sum.inr (
    (impl_SeesSpot ((y3.1.1.1, y3.1.1.2.1, y3.1.1.2.2.1, y3.1.1.2.2.2) : (Int × (Int × ((List Int) × Unit)))) y4.1.1 y5.1.1).bind fun y39 =>
    (impl_CostAt ((y3.1.1.1, y3.1.1.2.1, y3.1.1.2.2.1, y3.1.1.2.2.2) : (Int × (Int × ((List Int) × Unit)))) y4.1.1).bind fun y40 =>
    bif (! (iEq y39.1.2.1 0)) then some ((false, ()), ()) else
    bif (! (iEq y40.1.2.1 0)) then some ((false, ()), ()) else
    bif y39.1.1 then
      (impl_ValidRoute ((y3.1.1.1, y3.1.1.2.1, y3.1.1.2.2.1, y3.1.1.2.2.2) : (Int × (Int × ((List Int) × Unit)))) y7.1.1).bind fun y43 =>
      bif (! y43.1.1) then some ((false, ()), ()) else
      bif (! y39.1.1) then
        bif (! (iEq y40.1.1 255)) then
          (impl_ValidRoute ((y3.1.1.1, y3.1.1.2.1, y3.1.1.2.2.1, y3.1.1.2.2.2) : (Int × (Int × ((List Int) × Unit)))) y7.1.1).bind fun y47 =>
          bif y47.1.1 then some ((false, ()), ()) else
          (spec_BestRoute ((y3.1.1.1, y3.1.1.2.1, y3.1.1.2.2.1, y3.1.1.2.2.2) : (Int × (Int × ((List Int) × Unit)))) y4.1.1 y5.1.1).bind fun y48 =>
          bif (! (iEq y48.1.2.2.1 0)) then some ((true, ()), ()) else
          (impl_ShortenRoute ((y3.1.1.1, y3.1.1.2.1, y3.1.1.2.2.1, y3.1.1.2.2.2) : (Int × (Int × ((List Int) × Unit)))) y48.1.1).bind fun y50 =>
          (spec_ShortenRoute ((y3.1.1.1, y3.1.1.2.1, y3.1.1.2.2.1, y3.1.1.2.2.2) : (Int × (Int × ((List Int) × Unit)))) y48.1.1).bind fun y51 =>
          bif (! (iEq y50.1.2.1 y51.1.2.1)) then some ((false, ()), ()) else
          bif (! (iEq y50.1.2.1 0)) then some ((false, ()), ()) else
          (spec_SameSpots y50.1.1 y51.1.1).bind fun y54 =>
          bif (! y54.1.1) then some ((false, ()), ()) else
          bif inB 0 (List.length y51.1.1) then
            let x56 := List.getD y51.1.1 0 ((0, 0, ()) : (Vec 2 Int))
            bif (! (iEq (Vec.getD 2 x56 0 (0 : Int)) (Vec.getD 2 y4.1.1 0 (0 : Int)) && (iEq (Vec.getD 2 x56 1 (0 : Int)) (Vec.getD 2 y4.1.1 1 (0 : Int)) && true))) then some ((false, ()), ()) else
            let x58 := iSub .i64 (lenI y51.1.1) 1
            bif inB x58 (List.length y51.1.1) then
              let x59 := List.getD y51.1.1 x58.toNat ((0, 0, ()) : (Vec 2 Int))
              bif (! (iEq (Vec.getD 2 x59 0 (0 : Int)) (Vec.getD 2 y5.1.1 0 (0 : Int)) && (iEq (Vec.getD 2 x59 1 (0 : Int)) (Vec.getD 2 y5.1.1 1 (0 : Int)) && true))) then some ((false, ()), ()) else
              bif (iLt (lenI y48.1.1) (lenI y51.1.1)) then some ((false, ()), ()) else run (laws_FnShortened_l29 y51 y3) ((1 : Int), ())
            else none
          else none
        else
        (spec_BestRoute ((y3.1.1.1, y3.1.1.2.1, y3.1.1.2.2.1, y3.1.1.2.2.2) : (Int × (Int × ((List Int) × Unit)))) y4.1.1 y5.1.1).bind fun y71 =>
        bif (! (iEq y71.1.2.2.1 0)) then some ((true, ()), ()) else
        (impl_ShortenRoute ((y3.1.1.1, y3.1.1.2.1, y3.1.1.2.2.1, y3.1.1.2.2.2) : (Int × (Int × ((List Int) × Unit)))) y71.1.1).bind fun y73 =>
        (spec_ShortenRoute ((y3.1.1.1, y3.1.1.2.1, y3.1.1.2.2.1, y3.1.1.2.2.2) : (Int × (Int × ((List Int) × Unit)))) y71.1.1).bind fun y74 =>
        bif (! (iEq y73.1.2.1 y74.1.2.1)) then some ((false, ()), ()) else
        bif (! (iEq y73.1.2.1 0)) then some ((false, ()), ()) else
        (spec_SameSpots y73.1.1 y74.1.1).bind fun y77 =>
        bif (! y77.1.1) then some ((false, ()), ()) else
        bif inB 0 (List.length y74.1.1) then
          let x79 := List.getD y74.1.1 0 ((0, 0, ()) : (Vec 2 Int))
          bif (! (iEq (Vec.getD 2 x79 0 (0 : Int)) (Vec.getD 2 y4.1.1 0 (0 : Int)) && (iEq (Vec.getD 2 x79 1 (0 : Int)) (Vec.getD 2 y4.1.1 1 (0 : Int)) && true))) then some ((false, ()), ()) else
          let x81 := iSub .i64 (lenI y74.1.1) 1
          bif inB x81 (List.length y74.1.1) then
            let x82 := List.getD y74.1.1 x81.toNat ((0, 0, ()) : (Vec 2 Int))
            bif (! (iEq (Vec.getD 2 x82 0 (0 : Int)) (Vec.getD 2 y5.1.1 0 (0 : Int)) && (iEq (Vec.getD 2 x82 1 (0 : Int)) (Vec.getD 2 y5.1.1 1 (0 : Int)) && true))) then some ((false, ()), ()) else
            bif (iLt (lenI y71.1.1) (lenI y74.1.1)) then some ((false, ()), ()) else run (laws_FnShortened_l29_2 y74 y3) ((1 : Int), ())
          else none
        else none
      else
      (spec_BestRoute ((y3.1.1.1, y3.1.1.2.1, y3.1.1.2.2.1, y3.1.1.2.2.2) : (Int × (Int × ((List Int) × Unit)))) y4.1.1 y5.1.1).bind fun y94 =>
      bif (! (iEq y94.1.2.2.1 0)) then some ((true, ()), ()) else
      (impl_ShortenRoute ((y3.1.1.1, y3.1.1.2.1, y3.1.1.2.2.1, y3.1.1.2.2.2) : (Int × (Int × ((List Int) × Unit)))) y94.1.1).bind fun y96 =>
      (spec_ShortenRoute ((y3.1.1.1, y3.1.1.2.1, y3.1.1.2.2.1, y3.1.1.2.2.2) : (Int × (Int × ((List Int) × Unit)))) y94.1.1).bind fun y97 =>
      bif (! (iEq y96.1.2.1 y97.1.2.1)) then some ((false, ()), ()) else
      bif (! (iEq y96.1.2.1 0)) then some ((false, ()), ()) else
      (spec_SameSpots y96.1.1 y97.1.1).bind fun y100 =>
      bif (! y100.1.1) then some ((false, ()), ()) else
      bif inB 0 (List.length y97.1.1) then
        let x102 := List.getD y97.1.1 0 ((0, 0, ()) : (Vec 2 Int))
        bif (! (iEq (Vec.getD 2 x102 0 (0 : Int)) (Vec.getD 2 y4.1.1 0 (0 : Int)) && (iEq (Vec.getD 2 x102 1 (0 : Int)) (Vec.getD 2 y4.1.1 1 (0 : Int)) && true))) then some ((false, ()), ()) else
        let x104 := iSub .i64 (lenI y97.1.1) 1
        bif inB x104 (List.length y97.1.1) then
          let x105 := List.getD y97.1.1 x104.toNat ((0, 0, ()) : (Vec 2 Int))
          bif (! (iEq (Vec.getD 2 x105 0 (0 : Int)) (Vec.getD 2 y5.1.1 0 (0 : Int)) && (iEq (Vec.getD 2 x105 1 (0 : Int)) (Vec.getD 2 y5.1.1 1 (0 : Int)) && true))) then some ((false, ()), ()) else
          bif (iLt (lenI y94.1.1) (lenI y97.1.1)) then some ((false, ()), ()) else run (laws_FnShortened_l29_3 y97 y3) ((1 : Int), ())
        else none
      else none
    else
    bif (! y39.1.1) then
      bif (! (iEq y40.1.1 255)) then
        (impl_ValidRoute ((y3.1.1.1, y3.1.1.2.1, y3.1.1.2.2.1, y3.1.1.2.2.2) : (Int × (Int × ((List Int) × Unit)))) y7.1.1).bind fun y119 =>
        bif y119.1.1 then some ((false, ()), ()) else
        (spec_BestRoute ((y3.1.1.1, y3.1.1.2.1, y3.1.1.2.2.1, y3.1.1.2.2.2) : (Int × (Int × ((List Int) × Unit)))) y4.1.1 y5.1.1).bind fun y120 =>
        bif (! (iEq y120.1.2.2.1 0)) then some ((true, ()), ()) else
        (impl_ShortenRoute ((y3.1.1.1, y3.1.1.2.1, y3.1.1.2.2.1, y3.1.1.2.2.2) : (Int × (Int × ((List Int) × Unit)))) y120.1.1).bind fun y122 =>
        (spec_ShortenRoute ((y3.1.1.1, y3.1.1.2.1, y3.1.1.2.2.1, y3.1.1.2.2.2) : (Int × (Int × ((List Int) × Unit)))) y120.1.1).bind fun y123 =>
        bif (! (iEq y122.1.2.1 y123.1.2.1)) then some ((false, ()), ()) else
        bif (! (iEq y122.1.2.1 0)) then some ((false, ()), ()) else
        (spec_SameSpots y122.1.1 y123.1.1).bind fun y126 =>
        bif (! y126.1.1) then some ((false, ()), ()) else
        bif inB 0 (List.length y123.1.1) then
          let x128 := List.getD y123.1.1 0 ((0, 0, ()) : (Vec 2 Int))
          bif (! (iEq (Vec.getD 2 x128 0 (0 : Int)) (Vec.getD 2 y4.1.1 0 (0 : Int)) && (iEq (Vec.getD 2 x128 1 (0 : Int)) (Vec.getD 2 y4.1.1 1 (0 : Int)) && true))) then some ((false, ()), ()) else
          let x130 := iSub .i64 (lenI y123.1.1) 1
          bif inB x130 (List.length y123.1.1) then
            let x131 := List.getD y123.1.1 x130.toNat ((0, 0, ()) : (Vec 2 Int))
            bif (! (iEq (Vec.getD 2 x131 0 (0 : Int)) (Vec.getD 2 y5.1.1 0 (0 : Int)) && (iEq (Vec.getD 2 x131 1 (0 : Int)) (Vec.getD 2 y5.1.1 1 (0 : Int)) && true))) then some ((false, ()), ()) else
            bif (iLt (lenI y120.1.1) (lenI y123.1.1)) then some ((false, ()), ()) else run (laws_FnShortened_l29_4 y123 y3) ((1 : Int), ())
          else none
        else none
      else
      (spec_BestRoute ((y3.1.1.1, y3.1.1.2.1, y3.1.1.2.2.1, y3.1.1.2.2.2) : (Int × (Int × ((List Int) × Unit)))) y4.1.1 y5.1.1).bind fun y143 =>
      bif (! (iEq y143.1.2.2.1 0)) then some ((true, ()), ()) else
      (impl_ShortenRoute ((y3.1.1.1, y3.1.1.2.1, y3.1.1.2.2.1, y3.1.1.2.2.2) : (Int × (Int × ((List Int) × Unit)))) y143.1.1).bind fun y145 =>
      (spec_ShortenRoute ((y3.1.1.1, y3.1.1.2.1, y3.1.1.2.2.1, y3.1.1.2.2.2) : (Int × (Int × ((List Int) × Unit)))) y143.1.1).bind fun y146 =>
      bif (! (iEq y145.1.2.1 y146.1.2.1)) then some ((false, ()), ()) else
      bif (! (iEq y145.1.2.1 0)) then some ((false, ()), ()) else
      (spec_SameSpots y145.1.1 y146.1.1).bind fun y149 =>
      bif (! y149.1.1) then some ((false, ()), ()) else
      bif inB 0 (List.length y146.1.1) then
        let x151 := List.getD y146.1.1 0 ((0, 0, ()) : (Vec 2 Int))
        bif (! (iEq (Vec.getD 2 x151 0 (0 : Int)) (Vec.getD 2 y4.1.1 0 (0 : Int)) && (iEq (Vec.getD 2 x151 1 (0 : Int)) (Vec.getD 2 y4.1.1 1 (0 : Int)) && true))) then some ((false, ()), ()) else
        let x153 := iSub .i64 (lenI y146.1.1) 1
        bif inB x153 (List.length y146.1.1) then
          let x154 := List.getD y146.1.1 x153.toNat ((0, 0, ()) : (Vec 2 Int))
          bif (! (iEq (Vec.getD 2 x154 0 (0 : Int)) (Vec.getD 2 y5.1.1 0 (0 : Int)) && (iEq (Vec.getD 2 x154 1 (0 : Int)) (Vec.getD 2 y5.1.1 1 (0 : Int)) && true))) then some ((false, ()), ()) else
          bif (iLt (lenI y143.1.1) (lenI y146.1.1)) then some ((false, ()), ()) else run (laws_FnShortened_l29_5 y146 y3) ((1 : Int), ())
        else none
      else none
    else
    (spec_BestRoute ((y3.1.1.1, y3.1.1.2.1, y3.1.1.2.2.1, y3.1.1.2.2.2) : (Int × (Int × ((List Int) × Unit)))) y4.1.1 y5.1.1).bind fun y166 =>
    bif (! (iEq y166.1.2.2.1 0)) then some ((true, ()), ()) else
    (impl_ShortenRoute ((y3.1.1.1, y3.1.1.2.1, y3.1.1.2.2.1, y3.1.1.2.2.2) : (Int × (Int × ((List Int) × Unit)))) y166.1.1).bind fun y168 =>
    (spec_ShortenRoute ((y3.1.1.1, y3.1.1.2.1, y3.1.1.2.2.1, y3.1.1.2.2.2) : (Int × (Int × ((List Int) × Unit)))) y166.1.1).bind fun y169 =>
    bif (! (iEq y168.1.2.1 y169.1.2.1)) then some ((false, ()), ()) else
    bif (! (iEq y168.1.2.1 0)) then some ((false, ()), ()) else
    (spec_SameSpots y168.1.1 y169.1.1).bind fun y172 =>
    bif (! y172.1.1) then some ((false, ()), ()) else
    bif inB 0 (List.length y169.1.1) then
      let x174 := List.getD y169.1.1 0 ((0, 0, ()) : (Vec 2 Int))
      bif (! (iEq (Vec.getD 2 x174 0 (0 : Int)) (Vec.getD 2 y4.1.1 0 (0 : Int)) && (iEq (Vec.getD 2 x174 1 (0 : Int)) (Vec.getD 2 y4.1.1 1 (0 : Int)) && true))) then some ((false, ()), ()) else
      let x176 := iSub .i64 (lenI y169.1.1) 1
      bif inB x176 (List.length y169.1.1) then
        let x177 := List.getD y169.1.1 x176.toNat ((0, 0, ()) : (Vec 2 Int))
        bif (! (iEq (Vec.getD 2 x177 0 (0 : Int)) (Vec.getD 2 y5.1.1 0 (0 : Int)) && (iEq (Vec.getD 2 x177 1 (0 : Int)) (Vec.getD 2 y5.1.1 1 (0 : Int)) && true))) then some ((false, ()), ()) else
        bif (iLt (lenI y166.1.1) (lenI y169.1.1)) then some ((false, ()), ()) else run (laws_FnShortened_l29_6 y169 y3) ((1 : Int), ())
      else none
    else none)
noncomputable def laws_FnShortened (a0 : (List Int)) (a1 : (List Int)) : Option ((Bool × Unit) × Unit) :=
  (laws_f6big a0).bind fun y1 =>
  bif y1.1.1 then some ((true, ()), ()) else
  (laws_f6big a1).bind fun y2 =>
  bif y2.1.1 then some ((true, ()), ()) else
  (spec_P6Grid a0).bind fun y3 =>
  (spec_P6Spot a1 ((y3.1.1.1, y3.1.1.2.1, y3.1.1.2.2.1, y3.1.1.2.2.2) : (Int × (Int × ((List Int) × Unit))))).bind fun y4 =>
  (spec_P6Spot a0 ((y3.1.1.1, y3.1.1.2.1, y3.1.1.2.2.1, y3.1.1.2.2.2) : (Int × (Int × ((List Int) × Unit))))).bind fun y5 =>
  (impl_SpotsBetween y4.1.1 y5.1.1).bind fun y6 =>
  (spec_SpotsBetween y4.1.1 y5.1.1).bind fun y7 =>
  bif (! (iEq y6.1.2.1 y7.1.2.1)) then some ((false, ()), ()) else
  bif (! (iEq y6.1.2.1 0)) then some ((false, ()), ()) else
  (spec_SameSpots y6.1.1 y7.1.1).bind fun y10 =>
  bif (! y10.1.1) then some ((false, ()), ()) else
  bif inB 0 (List.length y7.1.1) then
    let x12 := List.getD y7.1.1 0 ((0, 0, ()) : (Vec 2 Int))
    bif (! (iEq (Vec.getD 2 x12 0 (0 : Int)) (Vec.getD 2 y4.1.1 0 (0 : Int)) && (iEq (Vec.getD 2 x12 1 (0 : Int)) (Vec.getD 2 y4.1.1 1 (0 : Int)) && true))) then some ((false, ()), ()) else
    let x14 := iSub .i64 (lenI y7.1.1) 1
    bif inB x14 (List.length y7.1.1) then
      let x15 := List.getD y7.1.1 x14.toNat ((0, 0, ()) : (Vec 2 Int))
      bif (! (iEq (Vec.getD 2 x15 0 (0 : Int)) (Vec.getD 2 y5.1.1 0 (0 : Int)) && (iEq (Vec.getD 2 x15 1 (0 : Int)) (Vec.getD 2 y5.1.1 1 (0 : Int)) && true))) then some ((false, ()), ()) else run (laws_FnShortened_l11 y7 y3 y4 y5) ((1 : Int), ())
    else none
  else none
noncomputable def laws_FnShortened_sg : Sig := ⟨[.v (.list (.int .u8)), .v (.list (.int .u8))], [.v (.val (.bool))], false⟩
noncomputable def laws_FnShortened_en : Entry := ⟨laws_FnShortened_sg, fun x => laws_FnShortened x.1 x.2.1⟩
theorem laws_FnShortened_eq {G : List (Nat × Obj)} (x : laws_FnShortened_sg.dom) : body (env G [(4, laws_f6big_en), (5, spec_P6Grid_en), (6, spec_P6Spot_en), (7, impl_SpotsBetween_en), (8, spec_SpotsBetween_en), (9, spec_SameSpots_en), (10, impl_SeesSpot_en), (11, impl_CostAt_en), (12, impl_ValidRoute_en), (13, spec_BestRoute_en), (14, impl_ShortenRoute_en), (15, spec_ShortenRoute_en)]) [(11, .vary [(12, .sc (.int .i64))]), (29, .vary [(26, .sc (.int .i64))])] Try.f3 laws_FnShortened_sg x = laws_FnShortened x.1 x.2.1 := by kernel_rfl
theorem laws_FnShortened_so {G : List (Nat × Obj)} : Sound Try.prog G 3 laws_FnShortened_en := sound_of_body (envS (l := [(4, laws_f6big_en), (5, spec_P6Grid_en), (6, spec_P6Spot_en), (7, impl_SpotsBetween_en), (8, spec_SpotsBetween_en), (9, spec_SameSpots_en), (10, impl_SeesSpot_en), (11, impl_CostAt_en), (12, impl_ValidRoute_en), (13, spec_BestRoute_en), (14, impl_ShortenRoute_en), (15, spec_ShortenRoute_en)]) (⟨(laws_f6big_so), (spec_P6Grid_so), (spec_P6Spot_so), (impl_SpotsBetween_so), (spec_SpotsBetween_so), (spec_SameSpots_so), (impl_SeesSpot_so), (impl_CostAt_so), (impl_ValidRoute_so), (spec_BestRoute_so), (impl_ShortenRoute_so), (spec_ShortenRoute_so), trivial⟩)) Try.func3 (by kernel_rfl) rfl (fun x y h => (laws_FnShortened_eq (G := G) x).trans h)

end Go.Proofs.Ytdmaamakckochaa
