import Derived.Test.YtpblnidbjglgmaaE
/- Functions on typed data: what the evaluation of each Go function is, and that it is sound. -/
namespace Go.Proofs.Ytpblnidbjglgmaa
open Go Go.Tm
set_option linter.unusedVariables false
set_option maxRecDepth 100000
-- loop.example/g01204/impl.within
noncomputable def impl_within (a0 : Int) (a1 : Int) (a2 : Int) : Option ((Bool × Unit) × Unit) :=
  bif (iLe a1 a0) then
    some (((iLe a0 a2), ()), ())
  else some ((false, ()), ())
noncomputable def impl_within_sg : Sig := ⟨[.v (.int .i64), .v (.int .i64), .v (.int .i64)], [.v (.val (.bool))], false⟩
noncomputable def impl_within_en : Entry := ⟨impl_within_sg, fun x => impl_within x.1 x.2.1 x.2.2.1⟩
theorem impl_within_eq (x : impl_within_sg.dom) : body (env []) [] Try.f93 impl_within_sg x = impl_within x.1 x.2.1 x.2.2.1 := by kernel_rfl
theorem impl_within_so : Sound Try.prog 93 impl_within_en := sound_of_body (envS (l := []) (trivial)) Try.func93 (by kernel_rfl) rfl (fun x y h => (impl_within_eq x).trans h)

-- (loop.example/g01204/impl.Grid).has
noncomputable def impl_Grid_has (a0 : (Int × (Int × ((List Int) × Unit)))) (a1 : (Vec 2 Int)) : Option ((Bool × Unit) × Unit) :=
  (impl_within (iWrap .i64 (Vec.getD 2 a1 0 (0 : Int))) (0 : Int) (iSub .i64 a0.1 1)).bind fun y40 =>
  bif y40.1.1 then
    (impl_within (iWrap .i64 (Vec.getD 2 a1 1 (0 : Int))) (0 : Int) (iSub .i64 a0.2.1 1)).bind fun y44 =>
    some ((y44.1.1, ()), ())
  else some ((false, ()), ())
noncomputable def impl_Grid_has_sg : Sig := ⟨[.v (.pair (.int .i64) (.pair (.int .i64) (.pair (.list (.int .u8)) (.unit)))), .v (.arr 2 (.int .i16))], [.v (.val (.bool))], false⟩
noncomputable def impl_Grid_has_en : Entry := ⟨impl_Grid_has_sg, fun x => impl_Grid_has x.1 x.2.1⟩
theorem impl_Grid_has_eq (x : impl_Grid_has_sg.dom) : body (env [(93, impl_within_en)]) [] Try.f131 impl_Grid_has_sg x = impl_Grid_has x.1 x.2.1 := by kernel_rfl
theorem impl_Grid_has_so : Sound Try.prog 131 impl_Grid_has_en := sound_of_body (envS (l := [(93, impl_within_en)]) (⟨impl_within_so, trivial⟩)) Try.func131 (by kernel_rfl) rfl (fun x y h => (impl_Grid_has_eq x).trans h)

-- (loop.example/g01204/impl.Grid).at
noncomputable def impl_Grid_at (a0 : (Int × (Int × ((List Int) × Unit)))) (a1 : (Vec 2 Int)) : Option ((Int × Unit) × Unit) :=
  some (((iAdd .i64 (iMul .i64 (iWrap .i64 (Vec.getD 2 a1 1 (0 : Int))) a0.1) (iWrap .i64 (Vec.getD 2 a1 0 (0 : Int)))), ()), ())
noncomputable def impl_Grid_at_sg : Sig := ⟨[.v (.pair (.int .i64) (.pair (.int .i64) (.pair (.list (.int .u8)) (.unit)))), .v (.arr 2 (.int .i16))], [.v (.val (.int .i64))], false⟩
noncomputable def impl_Grid_at_en : Entry := ⟨impl_Grid_at_sg, fun x => impl_Grid_at x.1 x.2.1⟩
theorem impl_Grid_at_eq (x : impl_Grid_at_sg.dom) : body (env []) [] Try.f169 impl_Grid_at_sg x = impl_Grid_at x.1 x.2.1 := by kernel_rfl
theorem impl_Grid_at_so : Sound Try.prog 169 impl_Grid_at_en := sound_of_body (envS (l := []) (trivial)) Try.func169 (by kernel_rfl) rfl (fun x y h => (impl_Grid_at_eq x).trans h)

-- (loop.example/g01204/impl.Grid).isWall
noncomputable def impl_Grid_isWall (a0 : (Int × (Int × ((List Int) × Unit)))) (a1 : (Vec 2 Int)) : Option ((Bool × Unit) × Unit) :=
  (impl_Grid_at a0 a1).bind fun y47 =>
  bif inB y47.1.1 (List.length a0.2.2.1) then
    some (((iEq (List.getD a0.2.2.1 y47.1.1.toNat (0 : Int)) 255), ()), ())
  else none
noncomputable def impl_Grid_isWall_sg : Sig := ⟨[.v (.pair (.int .i64) (.pair (.int .i64) (.pair (.list (.int .u8)) (.unit)))), .v (.arr 2 (.int .i16))], [.v (.val (.bool))], false⟩
noncomputable def impl_Grid_isWall_en : Entry := ⟨impl_Grid_isWall_sg, fun x => impl_Grid_isWall x.1 x.2.1⟩
theorem impl_Grid_isWall_eq (x : impl_Grid_isWall_sg.dom) : body (env [(169, impl_Grid_at_en)]) [] Try.f132 impl_Grid_isWall_sg x = impl_Grid_isWall x.1 x.2.1 := by kernel_rfl
theorem impl_Grid_isWall_so : Sound Try.prog 132 impl_Grid_isWall_en := sound_of_body (envS (l := [(169, impl_Grid_at_en)]) (⟨impl_Grid_at_so, trivial⟩)) Try.func132 (by kernel_rfl) rfl (fun x y h => (impl_Grid_isWall_eq x).trans h)

-- (loop.example/g01204/impl.Grid).stepCost
noncomputable def impl_Grid_stepCost (a0 : (Int × (Int × ((List Int) × Unit)))) (a1 : (Vec 2 Int)) (a2 : (Vec 2 Int)) : Option ((Int × Bool × Unit) × Unit) :=
  let x60 := iSub .i64 (iWrap .i64 (Vec.getD 2 a2 0 (0 : Int))) (iWrap .i64 (Vec.getD 2 a1 0 (0 : Int)))
  let x65 := iSub .i64 (iWrap .i64 (Vec.getD 2 a2 1 (0 : Int))) (iWrap .i64 (Vec.getD 2 a1 1 (0 : Int)))
  (impl_within x60 ((-1 : Int) : Int) (1 : Int)).bind fun y66 =>
  bif (! y66.1.1) then some (((0 : Int), false, ()), ()) else
  (impl_within x65 ((-1 : Int) : Int) (1 : Int)).bind fun y68 =>
  bif (! y68.1.1) then some (((0 : Int), false, ()), ()) else
  bif (iEq x60 0) then
    bif (iEq x65 0) then some (((0 : Int), false, ()), ()) else
    (impl_Grid_has a0 a2).bind fun y72 =>
    bif (! y72.1.1) then some (((0 : Int), false, ()), ()) else
    (impl_Grid_isWall a0 a2).bind fun y74 =>
    bif y74.1.1 then some (((0 : Int), false, ()), ()) else
    (impl_Grid_at a0 a2).bind fun y75 =>
    bif inB y75.1.1 (List.length a0.2.2.1) then
      let x78 := iAdd .i64 10 (iWrap .i64 (List.getD a0.2.2.1 y75.1.1.toNat (0 : Int)))
      bif (! (iEq x60 0)) then
        bif (! (iEq x65 0)) then
          (impl_Grid_isWall a0 (((Vec.getD 2 a1 0 (0 : Int)), (Vec.getD 2 a2 1 (0 : Int)), ()) : (Vec 2 Int))).bind fun y83 =>
          bif y83.1.1 then some (((0 : Int), false, ()), ()) else
          (impl_Grid_isWall a0 (((Vec.getD 2 a2 0 (0 : Int)), (Vec.getD 2 a1 1 (0 : Int)), ()) : (Vec 2 Int))).bind fun y86 =>
          bif y86.1.1 then some (((0 : Int), false, ()), ()) else
          some (((iAdd .i64 x78 4), true, ()), ())
        else some ((x78, true, ()), ())
      else some ((x78, true, ()), ())
    else none
  else
  (impl_Grid_has a0 a2).bind fun y88 =>
  bif (! y88.1.1) then some (((0 : Int), false, ()), ()) else
  (impl_Grid_isWall a0 a2).bind fun y90 =>
  bif y90.1.1 then some (((0 : Int), false, ()), ()) else
  (impl_Grid_at a0 a2).bind fun y91 =>
  bif inB y91.1.1 (List.length a0.2.2.1) then
    let x94 := iAdd .i64 10 (iWrap .i64 (List.getD a0.2.2.1 y91.1.1.toNat (0 : Int)))
    bif (! (iEq x60 0)) then
      bif (! (iEq x65 0)) then
        (impl_Grid_isWall a0 (((Vec.getD 2 a1 0 (0 : Int)), (Vec.getD 2 a2 1 (0 : Int)), ()) : (Vec 2 Int))).bind fun y99 =>
        bif y99.1.1 then some (((0 : Int), false, ()), ()) else
        (impl_Grid_isWall a0 (((Vec.getD 2 a2 0 (0 : Int)), (Vec.getD 2 a1 1 (0 : Int)), ()) : (Vec 2 Int))).bind fun y102 =>
        bif y102.1.1 then some (((0 : Int), false, ()), ()) else
        some (((iAdd .i64 x94 4), true, ()), ())
      else some ((x94, true, ()), ())
    else some ((x94, true, ()), ())
  else none
noncomputable def impl_Grid_stepCost_sg : Sig := ⟨[.v (.pair (.int .i64) (.pair (.int .i64) (.pair (.list (.int .u8)) (.unit)))), .v (.arr 2 (.int .i16)), .v (.arr 2 (.int .i16))], [.v (.val (.int .i64)), .v (.val (.bool))], false⟩
noncomputable def impl_Grid_stepCost_en : Entry := ⟨impl_Grid_stepCost_sg, fun x => impl_Grid_stepCost x.1 x.2.1 x.2.2.1⟩
theorem impl_Grid_stepCost_eq (x : impl_Grid_stepCost_sg.dom) : body (env [(93, impl_within_en), (131, impl_Grid_has_en), (132, impl_Grid_isWall_en), (169, impl_Grid_at_en)]) [] Try.f133 impl_Grid_stepCost_sg x = impl_Grid_stepCost x.1 x.2.1 x.2.2.1 := by kernel_rfl
theorem impl_Grid_stepCost_so : Sound Try.prog 133 impl_Grid_stepCost_en := sound_of_body (envS (l := [(93, impl_within_en), (131, impl_Grid_has_en), (132, impl_Grid_isWall_en), (169, impl_Grid_at_en)]) (⟨impl_within_so, impl_Grid_has_so, impl_Grid_isWall_so, impl_Grid_at_so, trivial⟩)) Try.func133 (by kernel_rfl) rfl (fun x y h => (impl_Grid_stepCost_eq x).trans h)

-- (loop.example/g01204/impl.Grid).routeCost
noncomputable def impl_Grid_routeCost_l5 (a1 : (List (Vec 2 Int))) (a0 : (Int × (Int × ((List Int) × Unit)))) (s28 : (Int × Int × Unit)) : Option ((Int × Int × Unit) ⊕ ((Int × Bool × Unit) × Unit)) :=
  bif (iLt s28.2.1 (lenI a1)) then
    let x30 := iSub .i64 s28.2.1 1
    bif inB x30 (List.length a1) then
      bif inB s28.2.1 (List.length a1) then
        (impl_Grid_stepCost a0 (List.getD a1 x30.toNat ((0, 0, ()) : (Vec 2 Int))) (List.getD a1 s28.2.1.toNat ((0, 0, ()) : (Vec 2 Int)))).bind fun y33 =>
        bif (! y33.1.2.1) then
          Option.map Sum.inr (some (((0 : Int), false, ()), ()))
        else
        some (Sum.inl ((iAdd .i64 s28.1 y33.1.1), (iAdd .i64 s28.2.1 1), ()))
      else none
    else none
  else
  Option.map Sum.inr (some ((s28.1, true, ()), ()))
noncomputable def impl_Grid_routeCost (a0 : (Int × (Int × ((List Int) × Unit)))) (a1 : (List (Vec 2 Int))) : Option ((Int × Bool × Unit) × Unit) :=
  (impl_within (lenI a1) (1 : Int) (600 : Int)).bind fun y21 =>
  bif (! y21.1.1) then some (((0 : Int), false, ()), ()) else
  bif inB 0 (List.length a1) then
    (impl_Grid_has a0 (List.getD a1 0 ((0, 0, ()) : (Vec 2 Int)))).bind fun y24 =>
    bif (! y24.1.1) then some (((0 : Int), false, ()), ()) else
    bif inB 0 (List.length a1) then
      (impl_Grid_isWall a0 (List.getD a1 0 ((0, 0, ()) : (Vec 2 Int)))).bind fun y27 =>
      bif y27.1.1 then some (((0 : Int), false, ()), ()) else run (impl_Grid_routeCost_l5 a1 a0) ((0 : Int), (1 : Int), ())
    else none
  else none
noncomputable def impl_Grid_routeCost_sg : Sig := ⟨[.v (.pair (.int .i64) (.pair (.int .i64) (.pair (.list (.int .u8)) (.unit)))), .v (.list (.arr 2 (.int .i16)))], [.v (.val (.int .i64)), .v (.val (.bool))], false⟩
noncomputable def impl_Grid_routeCost_en : Entry := ⟨impl_Grid_routeCost_sg, fun x => impl_Grid_routeCost x.1 x.2.1⟩
theorem impl_Grid_routeCost_eq (x : impl_Grid_routeCost_sg.dom) : body (env [(93, impl_within_en), (131, impl_Grid_has_en), (132, impl_Grid_isWall_en), (133, impl_Grid_stepCost_en)]) [(5, .vary [(6, .sc (.int .i64)), (7, .sc (.int .i64))])] Try.f69 impl_Grid_routeCost_sg x = impl_Grid_routeCost x.1 x.2.1 := by kernel_rfl
theorem impl_Grid_routeCost_so : Sound Try.prog 69 impl_Grid_routeCost_en := sound_of_body (envS (l := [(93, impl_within_en), (131, impl_Grid_has_en), (132, impl_Grid_isWall_en), (133, impl_Grid_stepCost_en)]) (⟨impl_within_so, impl_Grid_has_so, impl_Grid_isWall_so, impl_Grid_stepCost_so, trivial⟩)) Try.func69 (by kernel_rfl) rfl (fun x y h => (impl_Grid_routeCost_eq x).trans h)

-- loop.example/g01204/impl.ValidGrid
noncomputable def impl_ValidGrid (a0 : (Int × (Int × ((List Int) × Unit)))) : Option ((Bool × Unit) × Unit) :=
  (impl_within a0.1 (1 : Int) (24 : Int)).bind fun y104 =>
  bif y104.1.1 then
    (impl_within a0.2.1 (1 : Int) (24 : Int)).bind fun y105 =>
    bif y105.1.1 then
      some (((iEq (lenI a0.2.2.1) (iMul .i64 a0.1 a0.2.1)), ()), ())
    else some ((false, ()), ())
  else some ((false, ()), ())
noncomputable def impl_ValidGrid_sg : Sig := ⟨[.v (.pair (.int .i64) (.pair (.int .i64) (.pair (.list (.int .u8)) (.unit))))], [.v (.val (.bool))], false⟩
noncomputable def impl_ValidGrid_en : Entry := ⟨impl_ValidGrid_sg, fun x => impl_ValidGrid x.1⟩
theorem impl_ValidGrid_eq (x : impl_ValidGrid_sg.dom) : body (env [(93, impl_within_en)]) [] Try.f68 impl_ValidGrid_sg x = impl_ValidGrid x.1 := by kernel_rfl
theorem impl_ValidGrid_so : Sound Try.prog 68 impl_ValidGrid_en := sound_of_body (envS (l := [(93, impl_within_en)]) (⟨impl_within_so, trivial⟩)) Try.func68 (by kernel_rfl) rfl (fun x y h => (impl_ValidGrid_eq x).trans h)

-- loop.example/g01204/impl.ValidRoute
noncomputable def impl_ValidRoute (a0 : (Int × (Int × ((List Int) × Unit)))) (a1 : (List (Vec 2 Int))) : Option ((Bool × Unit) × Unit) :=
  (impl_ValidGrid a0).bind fun y18 =>
  bif (! y18.1.1) then some ((false, ()), ()) else
  (impl_Grid_routeCost a0 a1).bind fun y20 =>
  some ((y20.1.2.1, ()), ())
noncomputable def impl_ValidRoute_sg : Sig := ⟨[.v (.pair (.int .i64) (.pair (.int .i64) (.pair (.list (.int .u8)) (.unit)))), .v (.list (.arr 2 (.int .i16)))], [.v (.val (.bool))], false⟩
noncomputable def impl_ValidRoute_en : Entry := ⟨impl_ValidRoute_sg, fun x => impl_ValidRoute x.1 x.2.1⟩
theorem impl_ValidRoute_eq (x : impl_ValidRoute_sg.dom) : body (env [(68, impl_ValidGrid_en), (69, impl_Grid_routeCost_en)]) [] Try.f20 impl_ValidRoute_sg x = impl_ValidRoute x.1 x.2.1 := by kernel_rfl
theorem impl_ValidRoute_so : Sound Try.prog 20 impl_ValidRoute_en := sound_of_body (envS (l := [(68, impl_ValidGrid_en), (69, impl_Grid_routeCost_en)]) (⟨impl_ValidGrid_so, impl_Grid_routeCost_so, trivial⟩)) Try.func20 (by kernel_rfl) rfl (fun x y h => (impl_ValidRoute_eq x).trans h)

-- loop.example/g01204/laws.eqByteS
noncomputable def laws_eqByteS_l4 (a0 : (List Int)) (a1 : (List Int)) (s113 : (Int × Unit)) : Option ((Int × Unit) ⊕ ((Bool × Unit) × Unit)) :=
  bif (iLt s113.1 (lenI a0)) then
    bif inB s113.1 (List.length a0) then
      bif inB s113.1 (List.length a1) then
        bif (! (iEq (List.getD a0 s113.1.toNat (0 : Int)) (List.getD a1 s113.1.toNat (0 : Int)))) then
          Option.map Sum.inr (some ((false, ()), ()))
        else
        some (Sum.inl ((iAdd .i64 s113.1 1), ()))
      else none
    else none
  else
  Option.map Sum.inr (some ((true, ()), ()))
noncomputable def laws_eqByteS (a0 : (List Int)) (a1 : (List Int)) : Option ((Bool × Unit) × Unit) :=
  bif (! (iEq (lenI a0) (lenI a1))) then some ((false, ()), ()) else run (laws_eqByteS_l4 a0 a1) ((0 : Int), ())
noncomputable def laws_eqByteS_sg : Sig := ⟨[.v (.list (.int .u8)), .v (.list (.int .u8))], [.v (.val (.bool))], false⟩
noncomputable def laws_eqByteS_en : Entry := ⟨laws_eqByteS_sg, fun x => laws_eqByteS x.1 x.2.1⟩
theorem laws_eqByteS_eq (x : laws_eqByteS_sg.dom) : body (env []) [(4, .vary [(5, .sc (.int .i64))])] Try.f70 laws_eqByteS_sg x = laws_eqByteS x.1 x.2.1 := by kernel_rfl
theorem laws_eqByteS_so : Sound Try.prog 70 laws_eqByteS_en := sound_of_body (envS (l := []) (trivial)) Try.func70 (by kernel_rfl) rfl (fun x y h => (laws_eqByteS_eq x).trans h)

-- loop.example/g01204/laws.eqGrid
noncomputable def laws_eqGrid (a0 : (Int × (Int × ((List Int) × Unit)))) (a1 : (Int × (Int × ((List Int) × Unit)))) : Option ((Bool × Unit) × Unit) :=
  bif (! (iEq a0.1 a1.1)) then some ((false, ()), ()) else
  bif (! (iEq a0.2.1 a1.2.1)) then some ((false, ()), ()) else
  (laws_eqByteS a0.2.2.1 a1.2.2.1).bind fun y110 =>
  bif (! y110.1.1) then some ((false, ()), ()) else some ((true, ()), ())
noncomputable def laws_eqGrid_sg : Sig := ⟨[.v (.pair (.int .i64) (.pair (.int .i64) (.pair (.list (.int .u8)) (.unit)))), .v (.pair (.int .i64) (.pair (.int .i64) (.pair (.list (.int .u8)) (.unit))))], [.v (.val (.bool))], false⟩
noncomputable def laws_eqGrid_en : Entry := ⟨laws_eqGrid_sg, fun x => laws_eqGrid x.1 x.2.1⟩
theorem laws_eqGrid_eq (x : laws_eqGrid_sg.dom) : body (env [(70, laws_eqByteS_en)]) [] Try.f21 laws_eqGrid_sg x = laws_eqGrid x.1 x.2.1 := by kernel_rfl
theorem laws_eqGrid_so : Sound Try.prog 21 laws_eqGrid_en := sound_of_body (envS (l := [(70, laws_eqByteS_en)]) (⟨laws_eqByteS_so, trivial⟩)) Try.func21 (by kernel_rfl) rfl (fun x y h => (laws_eqGrid_eq x).trans h)

-- loop.example/g01204/laws.eqSpot
noncomputable def laws_eqSpot (a0 : (Vec 2 Int)) (a1 : (Vec 2 Int)) : Option ((Bool × Unit) × Unit) :=
  bif (! (iEq (Vec.getD 2 a0 0 (0 : Int)) (Vec.getD 2 a1 0 (0 : Int)))) then some ((false, ()), ()) else
  bif (! (iEq (Vec.getD 2 a0 1 (0 : Int)) (Vec.getD 2 a1 1 (0 : Int)))) then some ((false, ()), ()) else some ((true, ()), ())
noncomputable def laws_eqSpot_sg : Sig := ⟨[.v (.arr 2 (.int .i16)), .v (.arr 2 (.int .i16))], [.v (.val (.bool))], false⟩
noncomputable def laws_eqSpot_en : Entry := ⟨laws_eqSpot_sg, fun x => laws_eqSpot x.1 x.2.1⟩
theorem laws_eqSpot_eq (x : laws_eqSpot_sg.dom) : body (env []) [(2, .unroll 3)] Try.f71 laws_eqSpot_sg x = laws_eqSpot x.1 x.2.1 := by kernel_rfl
theorem laws_eqSpot_so : Sound Try.prog 71 laws_eqSpot_en := sound_of_body (envS (l := []) (trivial)) Try.func71 (by kernel_rfl) rfl (fun x y h => (laws_eqSpot_eq x).trans h)

-- loop.example/g01204/laws.eqSpotS
noncomputable def laws_eqSpotS_l4 (a0 : (List (Vec 2 Int))) (a1 : (List (Vec 2 Int))) (s120 : (Int × Unit)) : Option ((Int × Unit) ⊕ ((Bool × Unit) × Unit)) :=
  bif (iLt s120.1 (lenI a0)) then
    bif inB s120.1 (List.length a0) then
      bif inB s120.1 (List.length a1) then
        (laws_eqSpot (List.getD a0 s120.1.toNat ((0, 0, ()) : (Vec 2 Int))) (List.getD a1 s120.1.toNat ((0, 0, ()) : (Vec 2 Int)))).bind fun y124 =>
        bif (! y124.1.1) then
          Option.map Sum.inr (some ((false, ()), ()))
        else
        some (Sum.inl ((iAdd .i64 s120.1 1), ()))
      else none
    else none
  else
  Option.map Sum.inr (some ((true, ()), ()))
noncomputable def laws_eqSpotS (a0 : (List (Vec 2 Int))) (a1 : (List (Vec 2 Int))) : Option ((Bool × Unit) × Unit) :=
  bif (! (iEq (lenI a0) (lenI a1))) then some ((false, ()), ()) else run (laws_eqSpotS_l4 a0 a1) ((0 : Int), ())
noncomputable def laws_eqSpotS_sg : Sig := ⟨[.v (.list (.arr 2 (.int .i16))), .v (.list (.arr 2 (.int .i16)))], [.v (.val (.bool))], false⟩
noncomputable def laws_eqSpotS_en : Entry := ⟨laws_eqSpotS_sg, fun x => laws_eqSpotS x.1 x.2.1⟩
theorem laws_eqSpotS_eq (x : laws_eqSpotS_sg.dom) : body (env [(71, laws_eqSpot_en)]) [(4, .vary [(5, .sc (.int .i64))])] Try.f22 laws_eqSpotS_sg x = laws_eqSpotS x.1 x.2.1 := by kernel_rfl
theorem laws_eqSpotS_so : Sound Try.prog 22 laws_eqSpotS_en := sound_of_body (envS (l := [(71, laws_eqSpot_en)]) (⟨laws_eqSpot_so, trivial⟩)) Try.func22 (by kernel_rfl) rfl (fun x y h => (laws_eqSpotS_eq x).trans h)

-- loop.example/g01204/laws.szByteS
noncomputable def laws_szByteS (a0 : (List Int)) (a1 : Int) : Option ((Int × Unit) × Unit) :=
  let x135 := iSub .i64 a1 (lenI a0)
  bif (iLt x135 0) then some ((((-1 : Int) : Int), ()), ()) else some ((x135, ()), ())
noncomputable def laws_szByteS_sg : Sig := ⟨[.v (.list (.int .u8)), .v (.int .i64)], [.v (.val (.int .i64))], false⟩
noncomputable def laws_szByteS_en : Entry := ⟨laws_szByteS_sg, fun x => laws_szByteS x.1 x.2.1⟩
theorem laws_szByteS_eq (x : laws_szByteS_sg.dom) : body (env []) [] Try.f65 laws_szByteS_sg x = laws_szByteS x.1 x.2.1 := by kernel_rfl
theorem laws_szByteS_so : Sound Try.prog 65 laws_szByteS_en := sound_of_body (envS (l := []) (trivial)) Try.func65 (by kernel_rfl) rfl (fun x y h => (laws_szByteS_eq x).trans h)

-- loop.example/g01204/laws.szGrid
noncomputable def laws_szGrid (a0 : (Int × (Int × ((List Int) × Unit)))) (a1 : Int) : Option ((Int × Unit) × Unit) :=
  (laws_szByteS a0.2.2.1 a1).bind fun y133 =>
  bif (iLt y133.1.1 0) then some ((((-1 : Int) : Int), ()), ()) else some ((y133.1.1, ()), ())
noncomputable def laws_szGrid_sg : Sig := ⟨[.v (.pair (.int .i64) (.pair (.int .i64) (.pair (.list (.int .u8)) (.unit)))), .v (.int .i64)], [.v (.val (.int .i64))], false⟩
noncomputable def laws_szGrid_en : Entry := ⟨laws_szGrid_sg, fun x => laws_szGrid x.1 x.2.1⟩
theorem laws_szGrid_eq (x : laws_szGrid_sg.dom) : body (env [(65, laws_szByteS_en)]) [] Try.f15 laws_szGrid_sg x = laws_szGrid x.1 x.2.1 := by kernel_rfl
theorem laws_szGrid_so : Sound Try.prog 15 laws_szGrid_en := sound_of_body (envS (l := [(65, laws_szByteS_en)]) (⟨laws_szByteS_so, trivial⟩)) Try.func15 (by kernel_rfl) rfl (fun x y h => (laws_szGrid_eq x).trans h)

-- loop.example/g01204/laws.szSpotS
noncomputable def laws_szSpotS (a0 : (List (Vec 2 Int))) (a1 : Int) : Option ((Int × Unit) × Unit) :=
  let x137 := iSub .i64 a1 (lenI a0)
  bif (iLt x137 0) then some ((((-1 : Int) : Int), ()), ()) else some ((x137, ()), ())
noncomputable def laws_szSpotS_sg : Sig := ⟨[.v (.list (.arr 2 (.int .i16))), .v (.int .i64)], [.v (.val (.int .i64))], false⟩
noncomputable def laws_szSpotS_en : Entry := ⟨laws_szSpotS_sg, fun x => laws_szSpotS x.1 x.2.1⟩
theorem laws_szSpotS_eq (x : laws_szSpotS_sg.dom) : body (env []) [] Try.f16 laws_szSpotS_sg x = laws_szSpotS x.1 x.2.1 := by kernel_rfl
theorem laws_szSpotS_so : Sound Try.prog 16 laws_szSpotS_en := sound_of_body (envS (l := []) (trivial)) Try.func16 (by kernel_rfl) rfl (fun x y h => (laws_szSpotS_eq x).trans h)

-- loop.example/g01204/laws.toByteS
noncomputable def laws_toByteS_l3 (a0 : (List Int)) (s145 : (Int × (List Int) × Unit)) : Option ((Int × (List Int) × Unit) ⊕ (((List Int) × Unit) × Unit)) :=
  bif (iLt s145.1 (lenI a0)) then
    bif inB s145.1 (List.length a0) then
      bif inB s145.1 (List.length s145.2.1) then
        some (Sum.inl ((iAdd .i64 s145.1 1), List.set s145.2.1 s145.1.toNat (List.getD a0 s145.1.toNat (0 : Int)), ()))
      else none
    else none
  else
  Option.map Sum.inr (some ((s145.2.1, ()), ()))
noncomputable def laws_toByteS (a0 : (List Int)) : Option (((List Int) × Unit) × Unit) :=
  bif (iLe 0 (lenI a0) && iLe (lenI a0) (lenI a0) && room (lenI a0).toNat 1) then run (laws_toByteS_l3 a0) ((0 : Int), List.replicate (lenI a0).toNat (0 : Int), ()) else none
noncomputable def laws_toByteS_sg : Sig := ⟨[.v (.list (.int .u8))], [.v (.rows (.int .u8))], false⟩
noncomputable def laws_toByteS_en : Entry := ⟨laws_toByteS_sg, fun x => laws_toByteS x.1⟩
theorem laws_toByteS_eq (x : laws_toByteS_sg.dom) : body (env []) [(3, .vary [(4, .sc (.int .i64)), (3, .mrows (.int .u8))])] Try.f67 laws_toByteS_sg x = laws_toByteS x.1 := by kernel_rfl
theorem laws_toByteS_so : Sound Try.prog 67 laws_toByteS_en := sound_of_body (envS (l := []) (trivial)) Try.func67 (by kernel_rfl) rfl (fun x y h => (laws_toByteS_eq x).trans h)

-- loop.example/g01204/laws.toGrid
noncomputable def laws_toGrid (a0 : (Int × (Int × ((List Int) × Unit)))) : Option (((Int × (Int × ((List Int) × Unit))) × Unit) × Unit) :=
  (laws_toByteS a0.2.2.1).bind fun y139 =>
  some ((((a0.1, a0.2.1, y139.1.1, ()) : (Int × (Int × ((List Int) × Unit)))), ()), ())
noncomputable def laws_toGrid_sg : Sig := ⟨[.v (.pair (.int .i64) (.pair (.int .i64) (.pair (.list (.int .u8)) (.unit))))], [.v (.pair (.val (.int .i64)) (.pair (.val (.int .i64)) (.pair (.rows (.int .u8)) (.val (.unit)))))], false⟩
noncomputable def laws_toGrid_en : Entry := ⟨laws_toGrid_sg, fun x => laws_toGrid x.1⟩
theorem laws_toGrid_eq (x : laws_toGrid_sg.dom) : body (env [(67, laws_toByteS_en)]) [] Try.f18 laws_toGrid_sg x = laws_toGrid x.1 := by kernel_rfl
theorem laws_toGrid_so : Sound Try.prog 18 laws_toGrid_en := sound_of_body (envS (l := [(67, laws_toByteS_en)]) (⟨laws_toByteS_so, trivial⟩)) Try.func18 (by kernel_rfl) rfl (fun x y h => (laws_toGrid_eq x).trans h)

-- loop.example/g01204/laws.toSpot
noncomputable def laws_toSpot (a0 : (Vec 2 Int)) : Option (((Vec 2 Int) × Unit) × Unit) :=
  some (((((Vec.getD 2 a0 0 (0 : Int)), (Vec.getD 2 a0 1 (0 : Int)), ()) : (Vec 2 Int)), ()), ())
noncomputable def laws_toSpot_sg : Sig := ⟨[.v (.arr 2 (.int .i16))], [.v (.val (.arr 2 (.int .i16)))], false⟩
noncomputable def laws_toSpot_en : Entry := ⟨laws_toSpot_sg, fun x => laws_toSpot x.1⟩
theorem laws_toSpot_eq (x : laws_toSpot_sg.dom) : body (env []) [(3, .unroll 3)] Try.f39 laws_toSpot_sg x = laws_toSpot x.1 := by kernel_rfl
theorem laws_toSpot_so : Sound Try.prog 39 laws_toSpot_en := sound_of_body (envS (l := []) (trivial)) Try.func39 (by kernel_rfl) rfl (fun x y h => (laws_toSpot_eq x).trans h)

-- loop.example/g01204/laws.toSpotS
noncomputable def laws_toSpotS_l3 (a0 : (List (Vec 2 Int))) (s155 : (Int × (List (Vec 2 Int)) × Unit)) : Option ((Int × (List (Vec 2 Int)) × Unit) ⊕ (((List (Vec 2 Int)) × Unit) × Unit)) :=
  bif (iLt s155.1 (lenI a0)) then
    bif inB s155.1 (List.length a0) then
      (laws_toSpot (List.getD a0 s155.1.toNat ((0, 0, ()) : (Vec 2 Int)))).bind fun y158 =>
      bif inB s155.1 (List.length s155.2.1) then
        some (Sum.inl ((iAdd .i64 s155.1 1), List.set s155.2.1 s155.1.toNat y158.1.1, ()))
      else none
    else none
  else
  Option.map Sum.inr (some ((s155.2.1, ()), ()))
noncomputable def laws_toSpotS (a0 : (List (Vec 2 Int))) : Option (((List (Vec 2 Int)) × Unit) × Unit) :=
  bif (iLe 0 (lenI a0) && iLe (lenI a0) (lenI a0) && room (lenI a0).toNat 4) then run (laws_toSpotS_l3 a0) ((0 : Int), List.replicate (lenI a0).toNat ((0, 0, ()) : (Vec 2 Int)), ()) else none
noncomputable def laws_toSpotS_sg : Sig := ⟨[.v (.list (.arr 2 (.int .i16)))], [.v (.rows (.arr 2 (.int .i16)))], false⟩
noncomputable def laws_toSpotS_en : Entry := ⟨laws_toSpotS_sg, fun x => laws_toSpotS x.1⟩
theorem laws_toSpotS_eq (x : laws_toSpotS_sg.dom) : body (env [(39, laws_toSpot_en)]) [(3, .vary [(4, .sc (.int .i64)), (3, .mrows (.arr 2 (.int .i16)))])] Try.f19 laws_toSpotS_sg x = laws_toSpotS x.1 := by kernel_rfl
theorem laws_toSpotS_so : Sound Try.prog 19 laws_toSpotS_en := sound_of_body (envS (l := [(39, laws_toSpot_en)]) (⟨laws_toSpot_so, trivial⟩)) Try.func19 (by kernel_rfl) rfl (fun x y h => (laws_toSpotS_eq x).trans h)

-- loop.example/g01204/spec.l00In
noncomputable def spec_l00In (a0 : Int) (a1 : Int) (a2 : Int) : Option ((Bool × Unit) × Unit) :=
  bif (iLe a1 a0) then
    some (((iLe a0 a2), ()), ())
  else some ((false, ()), ())
noncomputable def spec_l00In_sg : Sig := ⟨[.v (.int .i64), .v (.int .i64), .v (.int .i64)], [.v (.val (.bool))], false⟩
noncomputable def spec_l00In_en : Entry := ⟨spec_l00In_sg, fun x => spec_l00In x.1 x.2.1 x.2.2.1⟩
theorem spec_l00In_eq (x : spec_l00In_sg.dom) : body (env []) [] Try.f127 spec_l00In_sg x = spec_l00In x.1 x.2.1 x.2.2.1 := by kernel_rfl
theorem spec_l00In_so : Sound Try.prog 127 spec_l00In_en := sound_of_body (envS (l := []) (trivial)) Try.func127 (by kernel_rfl) rfl (fun x y h => (spec_l00In_eq x).trans h)

-- loop.example/g01204/spec.l07At
noncomputable def spec_l07At (a0 : (Int × (Int × ((List Int) × Unit)))) (a1 : Int) (a2 : Int) : Option ((Bool × Unit) × Unit) :=
  (spec_l00In a1 (0 : Int) (iSub .i64 a0.1 1)).bind fun y240 =>
  bif y240.1.1 then
    (spec_l00In a2 (0 : Int) (iSub .i64 a0.2.1 1)).bind fun y242 =>
    some ((y242.1.1, ()), ())
  else some ((false, ()), ())
noncomputable def spec_l07At_sg : Sig := ⟨[.ro (.pair (.int .i64) (.pair (.int .i64) (.pair (.list (.int .u8)) (.unit)))), .v (.int .i64), .v (.int .i64)], [.v (.val (.bool))], false⟩
noncomputable def spec_l07At_en : Entry := ⟨spec_l07At_sg, fun x => spec_l07At x.1 x.2.1 x.2.2.1⟩
theorem spec_l07At_eq (x : spec_l07At_sg.dom) : body (env [(127, spec_l00In_en)]) [] Try.f167 spec_l07At_sg x = spec_l07At x.1 x.2.1 x.2.2.1 := by kernel_rfl
theorem spec_l07At_so : Sound Try.prog 167 spec_l07At_en := sound_of_body (envS (l := [(127, spec_l00In_en)]) (⟨spec_l00In_so, trivial⟩)) Try.func167 (by kernel_rfl) rfl (fun x y h => (spec_l07At_eq x).trans h)

-- loop.example/g01204/spec.l07Index
noncomputable def spec_l07Index (a0 : (Int × (Int × ((List Int) × Unit)))) (a1 : (Vec 2 Int)) : Option ((Int × Unit) × Unit) :=
  some (((iAdd .i64 (iMul .i64 (iWrap .i64 (Vec.getD 2 a1 1 (0 : Int))) a0.1) (iWrap .i64 (Vec.getD 2 a1 0 (0 : Int)))), ()), ())
noncomputable def spec_l07Index_sg : Sig := ⟨[.ro (.pair (.int .i64) (.pair (.int .i64) (.pair (.list (.int .u8)) (.unit)))), .v (.arr 2 (.int .i16))], [.v (.val (.int .i64))], false⟩
noncomputable def spec_l07Index_en : Entry := ⟨spec_l07Index_sg, fun x => spec_l07Index x.1 x.2.1⟩
theorem spec_l07Index_eq (x : spec_l07Index_sg.dom) : body (env []) [] Try.f168 spec_l07Index_sg x = spec_l07Index x.1 x.2.1 := by kernel_rfl
theorem spec_l07Index_so : Sound Try.prog 168 spec_l07Index_en := sound_of_body (envS (l := []) (trivial)) Try.func168 (by kernel_rfl) rfl (fun x y h => (spec_l07Index_eq x).trans h)

-- loop.example/g01204/spec.l07Wall
noncomputable def spec_l07Wall (a0 : (Int × (Int × ((List Int) × Unit)))) (a1 : (Vec 2 Int)) : Option ((Bool × Unit) × Unit) :=
  (spec_l07Index a0 a1).bind fun y249 =>
  bif inB y249.1.1 (List.length a0.2.2.1) then
    some (((iEq (List.getD a0.2.2.1 y249.1.1.toNat (0 : Int)) 255), ()), ())
  else none
noncomputable def spec_l07Wall_sg : Sig := ⟨[.ro (.pair (.int .i64) (.pair (.int .i64) (.pair (.list (.int .u8)) (.unit)))), .v (.arr 2 (.int .i16))], [.v (.val (.bool))], false⟩
noncomputable def spec_l07Wall_en : Entry := ⟨spec_l07Wall_sg, fun x => spec_l07Wall x.1 x.2.1⟩
theorem spec_l07Wall_eq (x : spec_l07Wall_sg.dom) : body (env [(168, spec_l07Index_en)]) [] Try.f129 spec_l07Wall_sg x = spec_l07Wall x.1 x.2.1 := by kernel_rfl
theorem spec_l07Wall_so : Sound Try.prog 129 spec_l07Wall_en := sound_of_body (envS (l := [(168, spec_l07Index_en)]) (⟨spec_l07Index_so, trivial⟩)) Try.func129 (by kernel_rfl) rfl (fun x y h => (spec_l07Wall_eq x).trans h)

-- loop.example/g01204/spec.l07Move
noncomputable def spec_l07Move (a0 : (Int × (Int × ((List Int) × Unit)))) (a1 : (Vec 2 Int)) (a2 : Int) (a3 : Int) : Option (((Vec 2 Int) × Int × Bool × Unit) × Unit) :=
  let x212 := iAdd .i64 (iWrap .i64 (Vec.getD 2 a1 0 (0 : Int))) a2
  let x215 := iAdd .i64 (iWrap .i64 (Vec.getD 2 a1 1 (0 : Int))) a3
  (spec_l07At a0 x212 x215).bind fun y216 =>
  bif (! y216.1.1) then some ((((0, 0, ()) : (Vec 2 Int)), (0 : Int), false, ()), ()) else
  let x218 := iWrap .i16 x212
  let x219 := iWrap .i16 x215
  (spec_l07Wall a0 ((x218, x219, ()) : (Vec 2 Int))).bind fun y220 =>
  bif y220.1.1 then some ((((0, 0, ()) : (Vec 2 Int)), (0 : Int), false, ()), ()) else
  bif (! (iEq a2 0)) then
    bif (! (iEq a3 0)) then
      (spec_l07Wall a0 ((x218, (Vec.getD 2 a1 1 (0 : Int)), ()) : (Vec 2 Int))).bind fun y224 =>
      bif y224.1.1 then some ((((0, 0, ()) : (Vec 2 Int)), (0 : Int), false, ()), ()) else
      (spec_l07Wall a0 (((Vec.getD 2 a1 0 (0 : Int)), x219, ()) : (Vec 2 Int))).bind fun y226 =>
      bif y226.1.1 then some ((((0, 0, ()) : (Vec 2 Int)), (0 : Int), false, ()), ()) else
      (spec_l07Index a0 ((x218, x219, ()) : (Vec 2 Int))).bind fun y227 =>
      bif inB y227.1.1 (List.length a0.2.2.1) then
        some ((((x218, x219, ()) : (Vec 2 Int)), (iAdd .i64 14 (iWrap .i64 (List.getD a0.2.2.1 y227.1.1.toNat (0 : Int)))), true, ()), ())
      else none
    else
    (spec_l07Index a0 ((x218, x219, ()) : (Vec 2 Int))).bind fun y231 =>
    bif inB y231.1.1 (List.length a0.2.2.1) then
      some ((((x218, x219, ()) : (Vec 2 Int)), (iAdd .i64 10 (iWrap .i64 (List.getD a0.2.2.1 y231.1.1.toNat (0 : Int)))), true, ()), ())
    else none
  else
  (spec_l07Index a0 ((x218, x219, ()) : (Vec 2 Int))).bind fun y235 =>
  bif inB y235.1.1 (List.length a0.2.2.1) then
    some ((((x218, x219, ()) : (Vec 2 Int)), (iAdd .i64 10 (iWrap .i64 (List.getD a0.2.2.1 y235.1.1.toNat (0 : Int)))), true, ()), ())
  else none
noncomputable def spec_l07Move_sg : Sig := ⟨[.ro (.pair (.int .i64) (.pair (.int .i64) (.pair (.list (.int .u8)) (.unit)))), .v (.arr 2 (.int .i16)), .v (.int .i64), .v (.int .i64)], [.v (.val (.arr 2 (.int .i16))), .v (.val (.int .i64)), .v (.val (.bool))], false⟩
noncomputable def spec_l07Move_en : Entry := ⟨spec_l07Move_sg, fun x => spec_l07Move x.1 x.2.1 x.2.2.1 x.2.2.2.1⟩
theorem spec_l07Move_eq (x : spec_l07Move_sg.dom) : body (env [(129, spec_l07Wall_en), (167, spec_l07At_en), (168, spec_l07Index_en)]) [] Try.f130 spec_l07Move_sg x = spec_l07Move x.1 x.2.1 x.2.2.1 x.2.2.2.1 := by kernel_rfl
theorem spec_l07Move_so : Sound Try.prog 130 spec_l07Move_en := sound_of_body (envS (l := [(129, spec_l07Wall_en), (167, spec_l07At_en), (168, spec_l07Index_en)]) (⟨spec_l07Wall_so, spec_l07At_so, spec_l07Index_so, trivial⟩)) Try.func130 (by kernel_rfl) rfl (fun x y h => (spec_l07Move_eq x).trans h)

-- loop.example/g01204/spec.l07Ok
noncomputable def spec_l07Ok (a0 : (Int × (Int × ((List Int) × Unit)))) : Option ((Bool × Unit) × Unit) :=
  (spec_l00In a0.1 (1 : Int) (24 : Int)).bind fun y252 =>
  bif y252.1.1 then
    (spec_l00In a0.2.1 (1 : Int) (24 : Int)).bind fun y253 =>
    bif y253.1.1 then
      some (((iEq (lenI a0.2.2.1) (iMul .i64 a0.1 a0.2.1)), ()), ())
    else some ((false, ()), ())
  else some ((false, ()), ())
noncomputable def spec_l07Ok_sg : Sig := ⟨[.ro (.pair (.int .i64) (.pair (.int .i64) (.pair (.list (.int .u8)) (.unit))))], [.v (.val (.bool))], false⟩
noncomputable def spec_l07Ok_en : Entry := ⟨spec_l07Ok_sg, fun x => spec_l07Ok x.1⟩
theorem spec_l07Ok_eq (x : spec_l07Ok_sg.dom) : body (env [(127, spec_l00In_en)]) [] Try.f126 spec_l07Ok_sg x = spec_l07Ok x.1 := by kernel_rfl
theorem spec_l07Ok_so : Sound Try.prog 126 spec_l07Ok_en := sound_of_body (envS (l := [(127, spec_l00In_en)]) (⟨spec_l00In_so, trivial⟩)) Try.func126 (by kernel_rfl) rfl (fun x y h => (spec_l07Ok_eq x).trans h)

-- loop.example/g01204/spec.l07Spot
noncomputable def spec_l07Spot (a0 : (Int × (Int × ((List Int) × Unit)))) (a1 : (Vec 2 Int)) : Option ((Bool × Unit) × Unit) :=
  (spec_l07At a0 (iWrap .i64 (Vec.getD 2 a1 0 (0 : Int))) (iWrap .i64 (Vec.getD 2 a1 1 (0 : Int)))).bind fun y260 =>
  some ((y260.1.1, ()), ())
noncomputable def spec_l07Spot_sg : Sig := ⟨[.ro (.pair (.int .i64) (.pair (.int .i64) (.pair (.list (.int .u8)) (.unit)))), .v (.arr 2 (.int .i16))], [.v (.val (.bool))], false⟩
noncomputable def spec_l07Spot_en : Entry := ⟨spec_l07Spot_sg, fun x => spec_l07Spot x.1 x.2.1⟩
theorem spec_l07Spot_eq (x : spec_l07Spot_sg.dom) : body (env [(167, spec_l07At_en)]) [] Try.f128 spec_l07Spot_sg x = spec_l07Spot x.1 x.2.1 := by kernel_rfl
theorem spec_l07Spot_so : Sound Try.prog 128 spec_l07Spot_en := sound_of_body (envS (l := [(167, spec_l07At_en)]) (⟨spec_l07At_so, trivial⟩)) Try.func128 (by kernel_rfl) rfl (fun x y h => (spec_l07Spot_eq x).trans h)

-- loop.example/g01204/spec.l07Route
noncomputable def spec_l07Route_l6 (a1 : (List (Vec 2 Int))) (a0 : (Int × (Int × ((List Int) × Unit)))) (s172 : (Int × Int × Unit)) : Option ((Int × Int × Unit) ⊕ ((Int × Bool × Unit) × Unit)) :=
  bif (iLt s172.2.1 (lenI a1)) then
    bif inB s172.2.1 (List.length a1) then
      let x176 := iSub .i64 s172.2.1 1
      bif inB x176 (List.length a1) then
        let x179 := iSub .i64 (iWrap .i64 (Vec.getD 2 (List.getD a1 s172.2.1.toNat ((0, 0, ()) : (Vec 2 Int))) 0 (0 : Int))) (iWrap .i64 (Vec.getD 2 (List.getD a1 x176.toNat ((0, 0, ()) : (Vec 2 Int))) 0 (0 : Int)))
        bif inB s172.2.1 (List.length a1) then
          let x182 := iSub .i64 s172.2.1 1
          bif inB x182 (List.length a1) then
            let x185 := iSub .i64 (iWrap .i64 (Vec.getD 2 (List.getD a1 s172.2.1.toNat ((0, 0, ()) : (Vec 2 Int))) 1 (0 : Int))) (iWrap .i64 (Vec.getD 2 (List.getD a1 x182.toNat ((0, 0, ()) : (Vec 2 Int))) 1 (0 : Int)))
            bif (iEq x179 0) then
              bif (iEq x185 0) then
                Option.map Sum.inr (some (((0 : Int), false, ()), ()))
              else
              (spec_l00In x179 ((-1 : Int) : Int) (1 : Int)).bind fun y188 =>
              bif (! y188.1.1) then
                Option.map Sum.inr (some (((0 : Int), false, ()), ()))
              else
              (spec_l00In x185 ((-1 : Int) : Int) (1 : Int)).bind fun y190 =>
              bif (! y190.1.1) then
                Option.map Sum.inr (some (((0 : Int), false, ()), ()))
              else
              let x192 := iSub .i64 s172.2.1 1
              bif inB x192 (List.length a1) then
                (spec_l07Move a0 (List.getD a1 x192.toNat ((0, 0, ()) : (Vec 2 Int))) x179 x185).bind fun y194 =>
                bif (! y194.1.2.2.1) then
                  Option.map Sum.inr (some (((0 : Int), false, ()), ()))
                else
                some (Sum.inl ((iAdd .i64 s172.1 y194.1.2.1), (iAdd .i64 s172.2.1 1), ()))
              else none
            else
            (spec_l00In x179 ((-1 : Int) : Int) (1 : Int)).bind fun y198 =>
            bif (! y198.1.1) then
              Option.map Sum.inr (some (((0 : Int), false, ()), ()))
            else
            (spec_l00In x185 ((-1 : Int) : Int) (1 : Int)).bind fun y200 =>
            bif (! y200.1.1) then
              Option.map Sum.inr (some (((0 : Int), false, ()), ()))
            else
            let x202 := iSub .i64 s172.2.1 1
            bif inB x202 (List.length a1) then
              (spec_l07Move a0 (List.getD a1 x202.toNat ((0, 0, ()) : (Vec 2 Int))) x179 x185).bind fun y204 =>
              bif (! y204.1.2.2.1) then
                Option.map Sum.inr (some (((0 : Int), false, ()), ()))
              else
              some (Sum.inl ((iAdd .i64 s172.1 y204.1.2.1), (iAdd .i64 s172.2.1 1), ()))
            else none
          else none
        else none
      else none
    else none
  else
  Option.map Sum.inr (some ((s172.1, true, ()), ()))
noncomputable def spec_l07Route (a0 : (Int × (Int × ((List Int) × Unit)))) (a1 : (List (Vec 2 Int))) : Option ((Int × Bool × Unit) × Unit) :=
  (spec_l07Ok a0).bind fun y163 =>
  bif (! y163.1.1) then some (((0 : Int), false, ()), ()) else
  (spec_l00In (lenI a1) (1 : Int) (600 : Int)).bind fun y165 =>
  bif (! y165.1.1) then some (((0 : Int), false, ()), ()) else
  bif inB 0 (List.length a1) then
    (spec_l07Spot a0 (List.getD a1 0 ((0, 0, ()) : (Vec 2 Int)))).bind fun y168 =>
    bif (! y168.1.1) then some (((0 : Int), false, ()), ()) else
    bif inB 0 (List.length a1) then
      (spec_l07Wall a0 (List.getD a1 0 ((0, 0, ()) : (Vec 2 Int)))).bind fun y171 =>
      bif y171.1.1 then some (((0 : Int), false, ()), ()) else run (spec_l07Route_l6 a1 a0) ((0 : Int), (1 : Int), ())
    else none
  else none
noncomputable def spec_l07Route_sg : Sig := ⟨[.ro (.pair (.int .i64) (.pair (.int .i64) (.pair (.list (.int .u8)) (.unit)))), .v (.list (.arr 2 (.int .i16)))], [.v (.val (.int .i64)), .v (.val (.bool))], false⟩
noncomputable def spec_l07Route_en : Entry := ⟨spec_l07Route_sg, fun x => spec_l07Route x.1 x.2.1⟩
theorem spec_l07Route_eq (x : spec_l07Route_sg.dom) : body (env [(126, spec_l07Ok_en), (127, spec_l00In_en), (128, spec_l07Spot_en), (129, spec_l07Wall_en), (130, spec_l07Move_en)]) [(6, .vary [(7, .sc (.int .i64)), (8, .sc (.int .i64))])] Try.f66 spec_l07Route_sg x = spec_l07Route x.1 x.2.1 := by kernel_rfl
theorem spec_l07Route_so : Sound Try.prog 66 spec_l07Route_en := sound_of_body (envS (l := [(126, spec_l07Ok_en), (127, spec_l00In_en), (128, spec_l07Spot_en), (129, spec_l07Wall_en), (130, spec_l07Move_en)]) (⟨spec_l07Ok_so, spec_l00In_so, spec_l07Spot_so, spec_l07Wall_so, spec_l07Move_so, trivial⟩)) Try.func66 (by kernel_rfl) rfl (fun x y h => (spec_l07Route_eq x).trans h)

-- loop.example/g01204/spec.ValidRoute
noncomputable def spec_ValidRoute (a0 : (Int × (Int × ((List Int) × Unit)))) (a1 : (List (Vec 2 Int))) : Option ((Bool × Unit) × Unit) :=
  (spec_l07Route a0 a1).bind fun y162 =>
  some ((y162.1.2.1, ()), ())
noncomputable def spec_ValidRoute_sg : Sig := ⟨[.v (.pair (.int .i64) (.pair (.int .i64) (.pair (.list (.int .u8)) (.unit)))), .v (.list (.arr 2 (.int .i16)))], [.v (.val (.bool))], false⟩
noncomputable def spec_ValidRoute_en : Entry := ⟨spec_ValidRoute_sg, fun x => spec_ValidRoute x.1 x.2.1⟩
theorem spec_ValidRoute_eq (x : spec_ValidRoute_sg.dom) : body (env [(66, spec_l07Route_en)]) [] Try.f17 spec_ValidRoute_sg x = spec_ValidRoute x.1 x.2.1 := by kernel_rfl
theorem spec_ValidRoute_so : Sound Try.prog 17 spec_ValidRoute_en := sound_of_body (envS (l := [(66, spec_l07Route_en)]) (⟨spec_l07Route_so, trivial⟩)) Try.func17 (by kernel_rfl) rfl (fun x y h => (spec_ValidRoute_eq x).trans h)

-- loop.example/g01204/laws.FnExactValidRoute
noncomputable def laws_FnExactValidRoute (a0 : (Int × (Int × ((List Int) × Unit)))) (a1 : (List (Vec 2 Int))) : Option ((Bool × Unit) × Unit) :=
  (laws_szGrid a0 (1048576 : Int)).bind fun y1 =>
  bif (iLt y1.1.1 0) then some ((true, ()), ()) else
  (laws_szSpotS a1 y1.1.1).bind fun y3 =>
  bif (iLt y3.1.1 0) then some ((true, ()), ()) else
  (laws_toGrid a0).bind fun y5 =>
  (laws_toSpotS a1).bind fun y6 =>
  (spec_ValidRoute ((y5.1.1.1, y5.1.1.2.1, y5.1.1.2.2.1, y5.1.1.2.2.2) : (Int × (Int × ((List Int) × Unit)))) y6.1.1).bind fun y7 =>
  (laws_toGrid a0).bind fun y8 =>
  (laws_toSpotS a1).bind fun y9 =>
  (impl_ValidRoute ((y8.1.1.1, y8.1.1.2.1, y8.1.1.2.2.1, y8.1.1.2.2.2) : (Int × (Int × ((List Int) × Unit)))) y9.1.1).bind fun y10 =>
  bif (! (bEq y10.1.1 y7.1.1)) then some ((false, ()), ()) else
  (laws_toGrid a0).bind fun y12 =>
  (laws_eqGrid ((y8.1.1.1, y8.1.1.2.1, y8.1.1.2.2.1, y8.1.1.2.2.2) : (Int × (Int × ((List Int) × Unit)))) ((y12.1.1.1, y12.1.1.2.1, y12.1.1.2.2.1, y12.1.1.2.2.2) : (Int × (Int × ((List Int) × Unit))))).bind fun y13 =>
  bif (! y13.1.1) then some ((false, ()), ()) else
  (laws_toSpotS a1).bind fun y15 =>
  (laws_eqSpotS y9.1.1 y15.1.1).bind fun y16 =>
  bif (! y16.1.1) then some ((false, ()), ()) else some ((true, ()), ())
noncomputable def laws_FnExactValidRoute_sg : Sig := ⟨[.v (.pair (.int .i64) (.pair (.int .i64) (.pair (.list (.int .u8)) (.unit)))), .v (.list (.arr 2 (.int .i16)))], [.v (.val (.bool))], false⟩
noncomputable def laws_FnExactValidRoute_en : Entry := ⟨laws_FnExactValidRoute_sg, fun x => laws_FnExactValidRoute x.1 x.2.1⟩
theorem laws_FnExactValidRoute_eq (x : laws_FnExactValidRoute_sg.dom) : body (env [(15, laws_szGrid_en), (16, laws_szSpotS_en), (17, spec_ValidRoute_en), (18, laws_toGrid_en), (19, laws_toSpotS_en), (20, impl_ValidRoute_en), (21, laws_eqGrid_en), (22, laws_eqSpotS_en)]) [] Try.f3 laws_FnExactValidRoute_sg x = laws_FnExactValidRoute x.1 x.2.1 := by kernel_rfl
theorem laws_FnExactValidRoute_so : Sound Try.prog 3 laws_FnExactValidRoute_en := sound_of_body (envS (l := [(15, laws_szGrid_en), (16, laws_szSpotS_en), (17, spec_ValidRoute_en), (18, laws_toGrid_en), (19, laws_toSpotS_en), (20, impl_ValidRoute_en), (21, laws_eqGrid_en), (22, laws_eqSpotS_en)]) (⟨laws_szGrid_so, laws_szSpotS_so, spec_ValidRoute_so, laws_toGrid_so, laws_toSpotS_so, impl_ValidRoute_so, laws_eqGrid_so, laws_eqSpotS_so, trivial⟩)) Try.func3 (by kernel_rfl) rfl (fun x y h => (laws_FnExactValidRoute_eq x).trans h)

-- loop.example/g01204/impl.isFinite
noncomputable def impl_isFinite_l2 (a0 : (List Nat)) (s292 : (Int × Unit)) : Option ((Int × Unit) ⊕ ((Bool × Unit) × Unit)) :=
  bif (iLt s292.1 (lenI a0)) then
    bif inB s292.1 (List.length a0) then
      let x294 := List.getD a0 s292.1.toNat (0 : Nat)
      bif (! (fEq .f32 (fSub .f32 x294 x294) 0)) then
        Option.map Sum.inr (some ((false, ()), ()))
      else
      some (Sum.inl ((iAdd .i64 s292.1 1), ()))
    else none
  else
  Option.map Sum.inr (some ((true, ()), ()))
noncomputable def impl_isFinite (a0 : (List Nat)) : Option ((Bool × Unit) × Unit) :=
  run (impl_isFinite_l2 a0) ((0 : Int), ())
noncomputable def impl_isFinite_sg : Sig := ⟨[.v (.list (.flt .f32))], [.v (.val (.bool))], false⟩
noncomputable def impl_isFinite_en : Entry := ⟨impl_isFinite_sg, fun x => impl_isFinite x.1⟩
theorem impl_isFinite_eq (x : impl_isFinite_sg.dom) : body (env []) [(2, .vary [(7, .sc (.int .i64))])] Try.f108 impl_isFinite_sg x = impl_isFinite x.1 := by kernel_rfl
theorem impl_isFinite_so : Sound Try.prog 108 impl_isFinite_en := sound_of_body (envS (l := []) (trivial)) Try.func108 (by kernel_rfl) rfl (fun x y h => (impl_isFinite_eq x).trans h)

-- loop.example/g01204/impl.isWay$1
noncomputable def impl_isWay_1 (a0 : (Vec 2 Nat)) : Option ((Bool × Unit) × Unit) :=
  (impl_isFinite ([Vec.getD 2 a0 0 (0 : Nat), Vec.getD 2 a0 1 (0 : Nat)] : (List Nat))).bind fun y290 =>
  some (((! y290.1.1), ()), ())
noncomputable def impl_isWay_1_sg : Sig := ⟨[.v (.arr 2 (.flt .f32))], [.v (.val (.bool))], false⟩
noncomputable def impl_isWay_1_en : Entry := ⟨impl_isWay_1_sg, fun x => impl_isWay_1 x.1⟩
theorem impl_isWay_1_eq (x : impl_isWay_1_sg.dom) : body (env [(108, impl_isFinite_en)]) [] Try.f137 impl_isWay_1_sg x = impl_isWay_1 x.1 := by kernel_rfl
theorem impl_isWay_1_so : Sound Try.prog 137 impl_isWay_1_en := sound_of_body (envS (l := [(108, impl_isFinite_en)]) (⟨impl_isFinite_so, trivial⟩)) Try.func137 (by kernel_rfl) rfl (fun x y h => (impl_isWay_1_eq x).trans h)

-- slices.IndexFunc[[][2]float32,[2]float32]
noncomputable def slices_IndexFunc_A2float32_l2 (a0 : (List (Vec 2 Nat))) (a1 : (((Vec 2 Nat) × Unit) → Option Bool)) (s300 : (Int × Unit)) : Option ((Int × Unit) ⊕ ((Int × Unit) × Unit)) :=
  bif (iLt s300.1 (lenI a0)) then
    bif inB s300.1 (List.length a0) then
      (a1 ((List.getD a0 s300.1.toNat ((0, 0, ()) : (Vec 2 Nat))), ())).bind fun y303 =>
      bif y303 then
        Option.map Sum.inr (some ((s300.1, ()), ()))
      else
      some (Sum.inl ((iAdd .i64 s300.1 1), ()))
    else none
  else
  Option.map Sum.inr (some ((((-1 : Int) : Int), ()), ()))
noncomputable def slices_IndexFunc_A2float32 (a0 : (List (Vec 2 Nat))) (a1 : (((Vec 2 Nat) × Unit) → Option Bool)) : Option ((Int × Unit) × Unit) :=
  run (slices_IndexFunc_A2float32_l2 a0 a1) ((0 : Int), ())
noncomputable def slices_IndexFunc_A2float32_sg : Sig := ⟨[.v (.list (.arr 2 (.flt .f32))), .fn ⟨[.arr 2 (.flt .f32)], .bool⟩], [.v (.val (.int .i64))], false⟩
noncomputable def slices_IndexFunc_A2float32_en : Entry := ⟨slices_IndexFunc_A2float32_sg, fun x => slices_IndexFunc_A2float32 x.1 x.2.1⟩
theorem slices_IndexFunc_A2float32_eq (x : slices_IndexFunc_A2float32_sg.dom) : body (env []) [(2, .vary [(8, .sc (.int .i64))])] Try.f171 slices_IndexFunc_A2float32_sg x = slices_IndexFunc_A2float32 x.1 x.2.1 := by kernel_rfl
theorem slices_IndexFunc_A2float32_so : Sound Try.prog 171 slices_IndexFunc_A2float32_en := sound_of_body (envS (l := []) (trivial)) Try.func171 (by kernel_rfl) rfl (fun x y h => (slices_IndexFunc_A2float32_eq x).trans h)

-- slices.ContainsFunc[[][2]float32,[2]float32]
noncomputable def slices_ContainsFunc_A2float32 (a0 : (List (Vec 2 Nat))) (a1 : (((Vec 2 Nat) × Unit) → Option Bool)) : Option ((Bool × Unit) × Unit) :=
  (slices_IndexFunc_A2float32 a0 a1).bind fun y298 =>
  some (((iLe 0 y298.1.1), ()), ())
noncomputable def slices_ContainsFunc_A2float32_sg : Sig := ⟨[.v (.list (.arr 2 (.flt .f32))), .fn ⟨[.arr 2 (.flt .f32)], .bool⟩], [.v (.val (.bool))], false⟩
noncomputable def slices_ContainsFunc_A2float32_en : Entry := ⟨slices_ContainsFunc_A2float32_sg, fun x => slices_ContainsFunc_A2float32 x.1 x.2.1⟩
theorem slices_ContainsFunc_A2float32_eq (x : slices_ContainsFunc_A2float32_sg.dom) : body (env [(171, slices_IndexFunc_A2float32_en)]) [] Try.f136 slices_ContainsFunc_A2float32_sg x = slices_ContainsFunc_A2float32 x.1 x.2.1 := by kernel_rfl
theorem slices_ContainsFunc_A2float32_so : Sound Try.prog 136 slices_ContainsFunc_A2float32_en := sound_of_body (envS (l := [(171, slices_IndexFunc_A2float32_en)]) (⟨slices_IndexFunc_A2float32_so, trivial⟩)) Try.func136 (by kernel_rfl) rfl (fun x y h => (slices_ContainsFunc_A2float32_eq x).trans h)

-- loop.example/g01204/impl.isWay
noncomputable def impl_isWay (a0 : (List (Vec 2 Nat))) : Option ((Bool × Unit) × Unit) :=
  (impl_within (lenI a0) (1 : Int) (600 : Int)).bind fun y286 =>
  bif y286.1.1 then
    (slices_ContainsFunc_A2float32 a0 (fun (z287 : ((Vec 2 Nat) × Unit)) => (impl_isWay_1 z287.1).map fun y => y.1.1)).bind fun y288 =>
    some (((! y288.1.1), ()), ())
  else some ((false, ()), ())
noncomputable def impl_isWay_sg : Sig := ⟨[.v (.list (.arr 2 (.flt .f32)))], [.v (.val (.bool))], false⟩
noncomputable def impl_isWay_en : Entry := ⟨impl_isWay_sg, fun x => impl_isWay x.1⟩
theorem impl_isWay_eq (x : impl_isWay_sg.dom) : body (env [(93, impl_within_en), (136, slices_ContainsFunc_A2float32_en), (137, impl_isWay_1_en)]) [] Try.f75 impl_isWay_sg x = impl_isWay x.1 := by kernel_rfl
theorem impl_isWay_so : Sound Try.prog 75 impl_isWay_en := sound_of_body (envS (l := [(93, impl_within_en), (136, slices_ContainsFunc_A2float32_en), (137, impl_isWay_1_en)]) (⟨impl_within_so, slices_ContainsFunc_A2float32_so, impl_isWay_1_so, trivial⟩)) Try.func75 (by kernel_rfl) rfl (fun x y h => (impl_isWay_eq x).trans h)

theorem math_sqrt_so : Sound Try.prog 170 math_sqrt_en := math_sqrt_sound Try.func170 (by kernel_rfl) (by kernel_rfl) (by kernel_rfl) (by kernel_rfl)

-- math.Sqrt
noncomputable def math_Sqrt (a0 : Nat) : Option ((Nat × Unit) × Unit) :=
  (math_sqrt a0).bind fun y308 =>
  some ((y308.1.1, ()), ())
noncomputable def math_Sqrt_sg : Sig := ⟨[.v (.flt .f64)], [.v (.val (.flt .f64))], false⟩
noncomputable def math_Sqrt_en : Entry := ⟨math_Sqrt_sg, fun x => math_Sqrt x.1⟩
theorem math_Sqrt_eq (x : math_Sqrt_sg.dom) : body (env [(170, math_sqrt_en)]) [] Try.f135 math_Sqrt_sg x = math_Sqrt x.1 := by kernel_rfl
theorem math_Sqrt_so : Sound Try.prog 135 math_Sqrt_en := sound_of_body (envS (l := [(170, math_sqrt_en)]) (⟨math_sqrt_so, trivial⟩)) Try.func135 (by kernel_rfl) rfl (fun x y h => (math_Sqrt_eq x).trans h)

-- loop.example/g01204/impl.root
noncomputable def impl_root (a0 : Nat) : Option ((Nat × Unit) × Unit) :=
  (fConv .f32 .f64 a0).bind fun y305 =>
  (math_Sqrt y305).bind fun y306 =>
  (fConv .f64 .f32 y306.1.1).bind fun y307 =>
  some ((y307, ()), ())
noncomputable def impl_root_sg : Sig := ⟨[.v (.flt .f32)], [.v (.val (.flt .f32))], false⟩
noncomputable def impl_root_en : Entry := ⟨impl_root_sg, fun x => impl_root x.1⟩
theorem impl_root_eq (x : impl_root_sg.dom) : body (env [(135, math_Sqrt_en)]) [] Try.f76 impl_root_sg x = impl_root x.1 := by kernel_rfl
theorem impl_root_so : Sound Try.prog 76 impl_root_en := sound_of_body (envS (l := [(135, math_Sqrt_en)]) (⟨math_Sqrt_so, trivial⟩)) Try.func76 (by kernel_rfl) rfl (fun x y h => (impl_root_eq x).trans h)

-- loop.example/g01204/impl.square
noncomputable def impl_square (a0 : (Vec 2 Nat)) (a1 : (Vec 2 Nat)) : Option ((Nat × Unit) × Unit) :=
  let x311 := fSub .f32 (Vec.getD 2 a1 0 (0 : Nat)) (Vec.getD 2 a0 0 (0 : Nat))
  let x314 := fSub .f32 (Vec.getD 2 a1 1 (0 : Nat)) (Vec.getD 2 a0 1 (0 : Nat))
  some (((fAdd .f32 (fMul .f32 x311 x311) (fMul .f32 x314 x314)), ()), ())
noncomputable def impl_square_sg : Sig := ⟨[.v (.arr 2 (.flt .f32)), .v (.arr 2 (.flt .f32))], [.v (.val (.flt .f32))], false⟩
noncomputable def impl_square_en : Entry := ⟨impl_square_sg, fun x => impl_square x.1 x.2.1⟩
theorem impl_square_eq (x : impl_square_sg.dom) : body (env []) [] Try.f77 impl_square_sg x = impl_square x.1 x.2.1 := by kernel_rfl
theorem impl_square_so : Sound Try.prog 77 impl_square_en := sound_of_body (envS (l := []) (trivial)) Try.func77 (by kernel_rfl) rfl (fun x y h => (impl_square_eq x).trans h)

-- loop.example/g01204/impl.LengthOfWay
noncomputable def impl_LengthOfWay_l5 (a0 : (List (Vec 2 Nat))) (s277 : (Nat × Int × Unit)) : Option ((Nat × Int × Unit) ⊕ ((Nat × Int × Unit) × Unit)) :=
  bif (iLt s277.2.1 (lenI a0)) then
    let x279 := iSub .i64 s277.2.1 1
    bif inB x279 (List.length a0) then
      bif inB s277.2.1 (List.length a0) then
        (impl_square (List.getD a0 x279.toNat ((0, 0, ()) : (Vec 2 Nat))) (List.getD a0 s277.2.1.toNat ((0, 0, ()) : (Vec 2 Nat)))).bind fun y282 =>
        (impl_root y282.1.1).bind fun y283 =>
        some (Sum.inl ((fAdd .f32 s277.1 y283.1.1), (iAdd .i64 s277.2.1 1), ()))
      else none
    else none
  else
  Option.map Sum.inr (some ((s277.1, (0 : Int), ()), ()))
noncomputable def impl_LengthOfWay (a0 : (List (Vec 2 Nat))) : Option ((Nat × Int × Unit) × Unit) :=
  (impl_isWay a0).bind fun y275 =>
  bif (! y275.1.1) then some (((0 : Nat), (2 : Int), ()), ()) else run (impl_LengthOfWay_l5 a0) ((0 : Nat), (1 : Int), ())
noncomputable def impl_LengthOfWay_sg : Sig := ⟨[.v (.list (.arr 2 (.flt .f32)))], [.v (.val (.flt .f32)), .v (.val (.int .i64))], false⟩
noncomputable def impl_LengthOfWay_en : Entry := ⟨impl_LengthOfWay_sg, fun x => impl_LengthOfWay x.1⟩
theorem impl_LengthOfWay_eq (x : impl_LengthOfWay_sg.dom) : body (env [(75, impl_isWay_en), (76, impl_root_en), (77, impl_square_en)]) [(5, .vary [(4, .sc (.flt .f32)), (5, .sc (.int .i64))])] Try.f26 impl_LengthOfWay_sg x = impl_LengthOfWay x.1 := by kernel_rfl
theorem impl_LengthOfWay_so : Sound Try.prog 26 impl_LengthOfWay_en := sound_of_body (envS (l := [(75, impl_isWay_en), (76, impl_root_en), (77, impl_square_en)]) (⟨impl_isWay_so, impl_root_so, impl_square_so, trivial⟩)) Try.func26 (by kernel_rfl) rfl (fun x y h => (impl_LengthOfWay_eq x).trans h)

-- loop.example/g01204/laws.sameFloat
noncomputable def laws_sameFloat (a0 : Nat) (a1 : Nat) : Option ((Bool × Unit) × Unit) :=
  bif (! (fEq .f64 a0 a0)) then
    bif (! (fEq .f64 a0 a0)) then
      some (((! (fEq .f64 a1 a1)), ()), ())
    else some ((false, ()), ())
  else
  bif (! (fEq .f64 a1 a1)) then
    bif (! (fEq .f64 a0 a0)) then
      some (((! (fEq .f64 a1 a1)), ()), ())
    else some ((false, ()), ())
  else
  bif (fEq .f64 a0 0) then
    bif (fEq .f64 a1 0) then
      some (((bEq (fLt .f64 0 (fDiv .f64 4607182418800017408 a0)) (fLt .f64 0 (fDiv .f64 4607182418800017408 a1))), ()), ())
    else
    some (((fEq .f64 a0 a1), ()), ())
  else
  some (((fEq .f64 a0 a1), ()), ())
noncomputable def laws_sameFloat_sg : Sig := ⟨[.v (.flt .f64), .v (.flt .f64)], [.v (.val (.bool))], false⟩
noncomputable def laws_sameFloat_en : Entry := ⟨laws_sameFloat_sg, fun x => laws_sameFloat x.1 x.2.1⟩
theorem laws_sameFloat_eq (x : laws_sameFloat_sg.dom) : body (env []) [] Try.f27 laws_sameFloat_sg x = laws_sameFloat x.1 x.2.1 := by kernel_rfl
theorem laws_sameFloat_so : Sound Try.prog 27 laws_sameFloat_en := sound_of_body (envS (l := []) (trivial)) Try.func27 (by kernel_rfl) rfl (fun x y h => (laws_sameFloat_eq x).trans h)

-- loop.example/g01204/laws.eqFloat32A2
noncomputable def laws_eqFloat32A2 (a0 : (Vec 2 Nat)) (a1 : (Vec 2 Nat)) : Option ((Bool × Unit) × Unit) :=
  (fConv .f32 .f64 (Vec.getD 2 a0 0 (0 : Nat))).bind fun y327 =>
  (fConv .f32 .f64 (Vec.getD 2 a1 0 (0 : Nat))).bind fun y329 =>
  (laws_sameFloat y327 y329).bind fun y330 =>
  bif (! y330.1.1) then some ((false, ()), ()) else
  (fConv .f32 .f64 (Vec.getD 2 a0 1 (0 : Nat))).bind fun y333 =>
  (fConv .f32 .f64 (Vec.getD 2 a1 1 (0 : Nat))).bind fun y335 =>
  (laws_sameFloat y333 y335).bind fun y336 =>
  bif (! y336.1.1) then some ((false, ()), ()) else some ((true, ()), ())
noncomputable def laws_eqFloat32A2_sg : Sig := ⟨[.v (.arr 2 (.flt .f32)), .v (.arr 2 (.flt .f32))], [.v (.val (.bool))], false⟩
noncomputable def laws_eqFloat32A2_en : Entry := ⟨laws_eqFloat32A2_sg, fun x => laws_eqFloat32A2 x.1 x.2.1⟩
theorem laws_eqFloat32A2_eq (x : laws_eqFloat32A2_sg.dom) : body (env [(27, laws_sameFloat_en)]) [(2, .unroll 3)] Try.f51 laws_eqFloat32A2_sg x = laws_eqFloat32A2 x.1 x.2.1 := by kernel_rfl
theorem laws_eqFloat32A2_so : Sound Try.prog 51 laws_eqFloat32A2_en := sound_of_body (envS (l := [(27, laws_sameFloat_en)]) (⟨laws_sameFloat_so, trivial⟩)) Try.func51 (by kernel_rfl) rfl (fun x y h => (laws_eqFloat32A2_eq x).trans h)

-- loop.example/g01204/laws.eqFloat32A2S
noncomputable def laws_eqFloat32A2S_l4 (a0 : (List (Vec 2 Nat))) (a1 : (List (Vec 2 Nat))) (s319 : (Int × Unit)) : Option ((Int × Unit) ⊕ ((Bool × Unit) × Unit)) :=
  bif (iLt s319.1 (lenI a0)) then
    bif inB s319.1 (List.length a0) then
      bif inB s319.1 (List.length a1) then
        (laws_eqFloat32A2 (List.getD a0 s319.1.toNat ((0, 0, ()) : (Vec 2 Nat))) (List.getD a1 s319.1.toNat ((0, 0, ()) : (Vec 2 Nat)))).bind fun y323 =>
        bif (! y323.1.1) then
          Option.map Sum.inr (some ((false, ()), ()))
        else
        some (Sum.inl ((iAdd .i64 s319.1 1), ()))
      else none
    else none
  else
  Option.map Sum.inr (some ((true, ()), ()))
noncomputable def laws_eqFloat32A2S (a0 : (List (Vec 2 Nat))) (a1 : (List (Vec 2 Nat))) : Option ((Bool × Unit) × Unit) :=
  bif (! (iEq (lenI a0) (lenI a1))) then some ((false, ()), ()) else run (laws_eqFloat32A2S_l4 a0 a1) ((0 : Int), ())
noncomputable def laws_eqFloat32A2S_sg : Sig := ⟨[.v (.list (.arr 2 (.flt .f32))), .v (.list (.arr 2 (.flt .f32)))], [.v (.val (.bool))], false⟩
noncomputable def laws_eqFloat32A2S_en : Entry := ⟨laws_eqFloat32A2S_sg, fun x => laws_eqFloat32A2S x.1 x.2.1⟩
theorem laws_eqFloat32A2S_eq (x : laws_eqFloat32A2S_sg.dom) : body (env [(51, laws_eqFloat32A2_en)]) [(4, .vary [(5, .sc (.int .i64))])] Try.f28 laws_eqFloat32A2S_sg x = laws_eqFloat32A2S x.1 x.2.1 := by kernel_rfl
theorem laws_eqFloat32A2S_so : Sound Try.prog 28 laws_eqFloat32A2S_en := sound_of_body (envS (l := [(51, laws_eqFloat32A2_en)]) (⟨laws_eqFloat32A2_so, trivial⟩)) Try.func28 (by kernel_rfl) rfl (fun x y h => (laws_eqFloat32A2S_eq x).trans h)

-- loop.example/g01204/laws.szFloat32A2S
noncomputable def laws_szFloat32A2S (a0 : (List (Vec 2 Nat))) (a1 : Int) : Option ((Int × Unit) × Unit) :=
  let x353 := iSub .i64 a1 (lenI a0)
  bif (iLt x353 0) then some ((((-1 : Int) : Int), ()), ()) else some ((x353, ()), ())
noncomputable def laws_szFloat32A2S_sg : Sig := ⟨[.v (.list (.arr 2 (.flt .f32))), .v (.int .i64)], [.v (.val (.int .i64))], false⟩
noncomputable def laws_szFloat32A2S_en : Entry := ⟨laws_szFloat32A2S_sg, fun x => laws_szFloat32A2S x.1 x.2.1⟩
theorem laws_szFloat32A2S_eq (x : laws_szFloat32A2S_sg.dom) : body (env []) [] Try.f23 laws_szFloat32A2S_sg x = laws_szFloat32A2S x.1 x.2.1 := by kernel_rfl
theorem laws_szFloat32A2S_so : Sound Try.prog 23 laws_szFloat32A2S_en := sound_of_body (envS (l := []) (trivial)) Try.func23 (by kernel_rfl) rfl (fun x y h => (laws_szFloat32A2S_eq x).trans h)

-- loop.example/g01204/laws.toFloat32A2
noncomputable def laws_toFloat32A2 (a0 : (Vec 2 Nat)) : Option (((Vec 2 Nat) × Unit) × Unit) :=
  some (((((Vec.getD 2 a0 0 (0 : Nat)), (Vec.getD 2 a0 1 (0 : Nat)), ()) : (Vec 2 Nat)), ()), ())
noncomputable def laws_toFloat32A2_sg : Sig := ⟨[.v (.arr 2 (.flt .f32))], [.v (.val (.arr 2 (.flt .f32)))], false⟩
noncomputable def laws_toFloat32A2_en : Entry := ⟨laws_toFloat32A2_sg, fun x => laws_toFloat32A2 x.1⟩
theorem laws_toFloat32A2_eq (x : laws_toFloat32A2_sg.dom) : body (env []) [(3, .unroll 3)] Try.f49 laws_toFloat32A2_sg x = laws_toFloat32A2 x.1 := by kernel_rfl
theorem laws_toFloat32A2_so : Sound Try.prog 49 laws_toFloat32A2_en := sound_of_body (envS (l := []) (trivial)) Try.func49 (by kernel_rfl) rfl (fun x y h => (laws_toFloat32A2_eq x).trans h)

-- loop.example/g01204/laws.toFloat32A2S
noncomputable def laws_toFloat32A2S_l3 (a0 : (List (Vec 2 Nat))) (s361 : (Int × (List (Vec 2 Nat)) × Unit)) : Option ((Int × (List (Vec 2 Nat)) × Unit) ⊕ (((List (Vec 2 Nat)) × Unit) × Unit)) :=
  bif (iLt s361.1 (lenI a0)) then
    bif inB s361.1 (List.length a0) then
      (laws_toFloat32A2 (List.getD a0 s361.1.toNat ((0, 0, ()) : (Vec 2 Nat)))).bind fun y364 =>
      bif inB s361.1 (List.length s361.2.1) then
        some (Sum.inl ((iAdd .i64 s361.1 1), List.set s361.2.1 s361.1.toNat y364.1.1, ()))
      else none
    else none
  else
  Option.map Sum.inr (some ((s361.2.1, ()), ()))
noncomputable def laws_toFloat32A2S (a0 : (List (Vec 2 Nat))) : Option (((List (Vec 2 Nat)) × Unit) × Unit) :=
  bif (iLe 0 (lenI a0) && iLe (lenI a0) (lenI a0) && room (lenI a0).toNat 8) then run (laws_toFloat32A2S_l3 a0) ((0 : Int), List.replicate (lenI a0).toNat ((0, 0, ()) : (Vec 2 Nat)), ()) else none
noncomputable def laws_toFloat32A2S_sg : Sig := ⟨[.v (.list (.arr 2 (.flt .f32)))], [.v (.rows (.arr 2 (.flt .f32)))], false⟩
noncomputable def laws_toFloat32A2S_en : Entry := ⟨laws_toFloat32A2S_sg, fun x => laws_toFloat32A2S x.1⟩
theorem laws_toFloat32A2S_eq (x : laws_toFloat32A2S_sg.dom) : body (env [(49, laws_toFloat32A2_en)]) [(3, .vary [(4, .sc (.int .i64)), (3, .mrows (.arr 2 (.flt .f32)))])] Try.f25 laws_toFloat32A2S_sg x = laws_toFloat32A2S x.1 := by kernel_rfl
theorem laws_toFloat32A2S_so : Sound Try.prog 25 laws_toFloat32A2S_en := sound_of_body (envS (l := [(49, laws_toFloat32A2_en)]) (⟨laws_toFloat32A2_so, trivial⟩)) Try.func25 (by kernel_rfl) rfl (fun x y h => (laws_toFloat32A2S_eq x).trans h)

-- loop.example/g01204/spec.l01Root
noncomputable def spec_l01Root (a0 : Nat) : Option ((Nat × Unit) × Unit) :=
  (fConv .f32 .f64 a0).bind fun y380 =>
  (math_Sqrt y380).bind fun y381 =>
  (fConv .f64 .f32 y381.1.1).bind fun y382 =>
  some ((y382, ()), ())
noncomputable def spec_l01Root_sg : Sig := ⟨[.v (.flt .f32)], [.v (.val (.flt .f32))], false⟩
noncomputable def spec_l01Root_en : Entry := ⟨spec_l01Root_sg, fun x => spec_l01Root x.1⟩
theorem spec_l01Root_eq (x : spec_l01Root_sg.dom) : body (env [(135, math_Sqrt_en)]) [] Try.f73 spec_l01Root_sg x = spec_l01Root x.1 := by kernel_rfl
theorem spec_l01Root_so : Sound Try.prog 73 spec_l01Root_en := sound_of_body (envS (l := [(135, math_Sqrt_en)]) (⟨math_Sqrt_so, trivial⟩)) Try.func73 (by kernel_rfl) rfl (fun x y h => (spec_l01Root_eq x).trans h)

-- loop.example/g01204/spec.l07Square
noncomputable def spec_l07Square (a0 : (Vec 2 Nat)) (a1 : (Vec 2 Nat)) : Option ((Nat × Unit) × Unit) :=
  let x385 := fSub .f32 (Vec.getD 2 a1 0 (0 : Nat)) (Vec.getD 2 a0 0 (0 : Nat))
  let x388 := fSub .f32 (Vec.getD 2 a1 1 (0 : Nat)) (Vec.getD 2 a0 1 (0 : Nat))
  some (((fAdd .f32 (fMul .f32 x385 x385) (fMul .f32 x388 x388)), ()), ())
noncomputable def spec_l07Square_sg : Sig := ⟨[.v (.arr 2 (.flt .f32)), .v (.arr 2 (.flt .f32))], [.v (.val (.flt .f32))], false⟩
noncomputable def spec_l07Square_en : Entry := ⟨spec_l07Square_sg, fun x => spec_l07Square x.1 x.2.1⟩
theorem spec_l07Square_eq (x : spec_l07Square_sg.dom) : body (env []) [] Try.f74 spec_l07Square_sg x = spec_l07Square x.1 x.2.1 := by kernel_rfl
theorem spec_l07Square_so : Sound Try.prog 74 spec_l07Square_en := sound_of_body (envS (l := []) (trivial)) Try.func74 (by kernel_rfl) rfl (fun x y h => (spec_l07Square_eq x).trans h)

-- loop.example/g01204/spec.l01Finite
noncomputable def spec_l01Finite (a0 : Nat) : Option ((Bool × Unit) × Unit) :=
  some (((fEq .f32 (fSub .f32 a0 a0) 0), ()), ())
noncomputable def spec_l01Finite_sg : Sig := ⟨[.v (.flt .f32)], [.v (.val (.bool))], false⟩
noncomputable def spec_l01Finite_en : Entry := ⟨spec_l01Finite_sg, fun x => spec_l01Finite x.1⟩
theorem spec_l01Finite_eq (x : spec_l01Finite_sg.dom) : body (env []) [] Try.f134 spec_l01Finite_sg x = spec_l01Finite x.1 := by kernel_rfl
theorem spec_l01Finite_so : Sound Try.prog 134 spec_l01Finite_en := sound_of_body (envS (l := []) (trivial)) Try.func134 (by kernel_rfl) rfl (fun x y h => (spec_l01Finite_eq x).trans h)

-- loop.example/g01204/spec.l07Way
noncomputable def spec_l07Way_l2 (a0 : (List (Vec 2 Nat))) (s392 : (Int × Unit)) : Option ((Int × Unit) ⊕ ((Bool × Unit) × Unit)) :=
  bif (iLt s392.1 (lenI a0)) then
    bif inB s392.1 (List.length a0) then
      (spec_l01Finite (Vec.getD 2 (List.getD a0 s392.1.toNat ((0, 0, ()) : (Vec 2 Nat))) 0 (0 : Nat))).bind fun y395 =>
      bif (! y395.1.1) then
        Option.map Sum.inr (some ((false, ()), ()))
      else
      bif inB s392.1 (List.length a0) then
        (spec_l01Finite (Vec.getD 2 (List.getD a0 s392.1.toNat ((0, 0, ()) : (Vec 2 Nat))) 1 (0 : Nat))).bind fun y398 =>
        bif (! y398.1.1) then
          Option.map Sum.inr (some ((false, ()), ()))
        else
        some (Sum.inl ((iAdd .i64 s392.1 1), ()))
      else none
    else none
  else
  Option.map Sum.inr (
    (spec_l00In (lenI a0) (1 : Int) (600 : Int)).bind fun y401 =>
    some ((y401.1.1, ()), ()))
noncomputable def spec_l07Way (a0 : (List (Vec 2 Nat))) : Option ((Bool × Unit) × Unit) :=
  run (spec_l07Way_l2 a0) ((0 : Int), ())
noncomputable def spec_l07Way_sg : Sig := ⟨[.v (.list (.arr 2 (.flt .f32)))], [.v (.val (.bool))], false⟩
noncomputable def spec_l07Way_en : Entry := ⟨spec_l07Way_sg, fun x => spec_l07Way x.1⟩
theorem spec_l07Way_eq (x : spec_l07Way_sg.dom) : body (env [(127, spec_l00In_en), (134, spec_l01Finite_en)]) [(2, .vary [(3, .sc (.int .i64))])] Try.f72 spec_l07Way_sg x = spec_l07Way x.1 := by kernel_rfl
theorem spec_l07Way_so : Sound Try.prog 72 spec_l07Way_en := sound_of_body (envS (l := [(127, spec_l00In_en), (134, spec_l01Finite_en)]) (⟨spec_l00In_so, spec_l01Finite_so, trivial⟩)) Try.func72 (by kernel_rfl) rfl (fun x y h => (spec_l07Way_eq x).trans h)

-- loop.example/g01204/spec.LengthOfWay
noncomputable def spec_LengthOfWay_l5 (a0 : (List (Vec 2 Nat))) (s370 : (Nat × Int × Unit)) : Option ((Nat × Int × Unit) ⊕ ((Nat × Int × Unit) × Unit)) :=
  bif (iLt (iAdd .i64 s370.2.1 1) (lenI a0)) then
    bif inB s370.2.1 (List.length a0) then
      let x374 := iAdd .i64 s370.2.1 1
      bif inB x374 (List.length a0) then
        (spec_l07Square (List.getD a0 s370.2.1.toNat ((0, 0, ()) : (Vec 2 Nat))) (List.getD a0 x374.toNat ((0, 0, ()) : (Vec 2 Nat)))).bind fun y376 =>
        (spec_l01Root y376.1.1).bind fun y377 =>
        some (Sum.inl ((fAdd .f32 s370.1 y377.1.1), (iAdd .i64 s370.2.1 1), ()))
      else none
    else none
  else
  Option.map Sum.inr (some ((s370.1, (0 : Int), ()), ()))
noncomputable def spec_LengthOfWay (a0 : (List (Vec 2 Nat))) : Option ((Nat × Int × Unit) × Unit) :=
  (spec_l07Way a0).bind fun y368 =>
  bif (! y368.1.1) then some (((0 : Nat), (2 : Int), ()), ()) else run (spec_LengthOfWay_l5 a0) ((0 : Nat), (0 : Int), ())
noncomputable def spec_LengthOfWay_sg : Sig := ⟨[.v (.list (.arr 2 (.flt .f32)))], [.v (.val (.flt .f32)), .v (.val (.int .i64))], false⟩
noncomputable def spec_LengthOfWay_en : Entry := ⟨spec_LengthOfWay_sg, fun x => spec_LengthOfWay x.1⟩
theorem spec_LengthOfWay_eq (x : spec_LengthOfWay_sg.dom) : body (env [(72, spec_l07Way_en), (73, spec_l01Root_en), (74, spec_l07Square_en)]) [(5, .vary [(4, .sc (.flt .f32)), (5, .sc (.int .i64))])] Try.f24 spec_LengthOfWay_sg x = spec_LengthOfWay x.1 := by kernel_rfl
theorem spec_LengthOfWay_so : Sound Try.prog 24 spec_LengthOfWay_en := sound_of_body (envS (l := [(72, spec_l07Way_en), (73, spec_l01Root_en), (74, spec_l07Square_en)]) (⟨spec_l07Way_so, spec_l01Root_so, spec_l07Square_so, trivial⟩)) Try.func24 (by kernel_rfl) rfl (fun x y h => (spec_LengthOfWay_eq x).trans h)

-- loop.example/g01204/laws.FnExactLengthOfWay
noncomputable def laws_FnExactLengthOfWay (a0 : (List (Vec 2 Nat))) : Option ((Bool × Unit) × Unit) :=
  (laws_szFloat32A2S a0 (1048576 : Int)).bind fun y261 =>
  bif (iLt y261.1.1 0) then some ((true, ()), ()) else
  (laws_toFloat32A2S a0).bind fun y263 =>
  (spec_LengthOfWay y263.1.1).bind fun y264 =>
  (laws_toFloat32A2S a0).bind fun y265 =>
  (impl_LengthOfWay y265.1.1).bind fun y266 =>
  (fConv .f32 .f64 y266.1.1).bind fun y267 =>
  (fConv .f32 .f64 y264.1.1).bind fun y268 =>
  (laws_sameFloat y267 y268).bind fun y269 =>
  bif (! y269.1.1) then some ((false, ()), ()) else
  bif (! (iEq y266.1.2.1 y264.1.2.1)) then some ((false, ()), ()) else
  (laws_toFloat32A2S a0).bind fun y272 =>
  (laws_eqFloat32A2S y265.1.1 y272.1.1).bind fun y273 =>
  bif (! y273.1.1) then some ((false, ()), ()) else some ((true, ()), ())
noncomputable def laws_FnExactLengthOfWay_sg : Sig := ⟨[.v (.list (.arr 2 (.flt .f32)))], [.v (.val (.bool))], false⟩
noncomputable def laws_FnExactLengthOfWay_en : Entry := ⟨laws_FnExactLengthOfWay_sg, fun x => laws_FnExactLengthOfWay x.1⟩
theorem laws_FnExactLengthOfWay_eq (x : laws_FnExactLengthOfWay_sg.dom) : body (env [(23, laws_szFloat32A2S_en), (24, spec_LengthOfWay_en), (25, laws_toFloat32A2S_en), (26, impl_LengthOfWay_en), (27, laws_sameFloat_en), (28, laws_eqFloat32A2S_en)]) [] Try.f4 laws_FnExactLengthOfWay_sg x = laws_FnExactLengthOfWay x.1 := by kernel_rfl
theorem laws_FnExactLengthOfWay_so : Sound Try.prog 4 laws_FnExactLengthOfWay_en := sound_of_body (envS (l := [(23, laws_szFloat32A2S_en), (24, spec_LengthOfWay_en), (25, laws_toFloat32A2S_en), (26, impl_LengthOfWay_en), (27, laws_sameFloat_en), (28, laws_eqFloat32A2S_en)]) (⟨laws_szFloat32A2S_so, spec_LengthOfWay_so, laws_toFloat32A2S_so, impl_LengthOfWay_so, laws_sameFloat_so, laws_eqFloat32A2S_so, trivial⟩)) Try.func4 (by kernel_rfl) rfl (fun x y h => (laws_FnExactLengthOfWay_eq x).trans h)

-- loop.example/g01204/impl.isNaN
noncomputable def impl_isNaN (a0 : Nat) : Option ((Bool × Unit) × Unit) :=
  some (((! (fEq .f32 a0 a0)), ()), ())
noncomputable def impl_isNaN_sg : Sig := ⟨[.v (.flt .f32)], [.v (.val (.bool))], false⟩
noncomputable def impl_isNaN_en : Entry := ⟨impl_isNaN_sg, fun x => impl_isNaN x.1⟩
theorem impl_isNaN_eq (x : impl_isNaN_sg.dom) : body (env []) [] Try.f173 impl_isNaN_sg x = impl_isNaN x.1 := by kernel_rfl
theorem impl_isNaN_so : Sound Try.prog 173 impl_isNaN_en := sound_of_body (envS (l := []) (trivial)) Try.func173 (by kernel_rfl) rfl (fun x y h => (impl_isNaN_eq x).trans h)

-- loop.example/g01204/impl.SameNumber
noncomputable def impl_SameNumber (a0 : Nat) (a1 : Nat) : Option ((Bool × Unit) × Unit) :=
  (impl_isNaN a0).bind fun y443 =>
  bif y443.1.1 then
    (impl_isNaN a1).bind fun y444 =>
    bif y444.1.1 then some ((true, ()), ()) else
    allSame fun (q445 : Nat) =>
    allSame fun (q447 : Nat) =>
    some (((iEq (bitsF .f32 a0 q445) (bitsF .f32 a1 q447)), ()), ())
  else
  allSame fun (q450 : Nat) =>
  allSame fun (q452 : Nat) =>
  some (((iEq (bitsF .f32 a0 q450) (bitsF .f32 a1 q452)), ()), ())
noncomputable def impl_SameNumber_sg : Sig := ⟨[.v (.flt .f32), .v (.flt .f32)], [.v (.val (.bool))], false⟩
noncomputable def impl_SameNumber_en : Entry := ⟨impl_SameNumber_sg, fun x => impl_SameNumber x.1 x.2.1⟩
theorem impl_SameNumber_eq (x : impl_SameNumber_sg.dom) : body (env [(173, impl_isNaN_en)]) [] Try.f140 impl_SameNumber_sg x = impl_SameNumber x.1 x.2.1 := by kernel_rfl
theorem impl_SameNumber_so : Sound Try.prog 140 impl_SameNumber_en := sound_of_body (envS (l := [(173, impl_isNaN_en)]) (⟨impl_isNaN_so, trivial⟩)) Try.func140 (by kernel_rfl) rfl (fun x y h => (impl_SameNumber_eq x).trans h)

-- loop.example/g01204/impl.SameVec
noncomputable def impl_SameVec (a0 : (Vec 3 Nat)) (a1 : (Vec 3 Nat)) : Option ((Bool × Unit) × Unit) :=
  (impl_SameNumber (Vec.getD 3 a0 0 (0 : Nat)) (Vec.getD 3 a1 0 (0 : Nat))).bind fun y433 =>
  bif (! y433.1.1) then some ((false, ()), ()) else
  (impl_SameNumber (Vec.getD 3 a0 1 (0 : Nat)) (Vec.getD 3 a1 1 (0 : Nat))).bind fun y437 =>
  bif (! y437.1.1) then some ((false, ()), ()) else
  (impl_SameNumber (Vec.getD 3 a0 2 (0 : Nat)) (Vec.getD 3 a1 2 (0 : Nat))).bind fun y441 =>
  bif (! y441.1.1) then some ((false, ()), ()) else some ((true, ()), ())
noncomputable def impl_SameVec_sg : Sig := ⟨[.v (.arr 3 (.flt .f32)), .v (.arr 3 (.flt .f32))], [.v (.val (.bool))], false⟩
noncomputable def impl_SameVec_en : Entry := ⟨impl_SameVec_sg, fun x => impl_SameVec x.1 x.2.1⟩
theorem impl_SameVec_eq (x : impl_SameVec_sg.dom) : body (env [(140, impl_SameNumber_en)]) [(2, .unroll 4)] Try.f85 impl_SameVec_sg x = impl_SameVec x.1 x.2.1 := by kernel_rfl
theorem impl_SameVec_so : Sound Try.prog 85 impl_SameVec_en := sound_of_body (envS (l := [(140, impl_SameNumber_en)]) (⟨impl_SameNumber_so, trivial⟩)) Try.func85 (by kernel_rfl) rfl (fun x y h => (impl_SameVec_eq x).trans h)

-- loop.example/g01204/impl.SameMission$1
noncomputable def impl_SameMission_1 (a0 : (Int × ((Vec 3 Nat) × (Int × (Int × Unit))))) (a1 : (Int × ((Vec 3 Nat) × (Int × (Int × Unit))))) : Option ((Bool × Unit) × Unit) :=
  bif (iEq a0.1 a1.1) then
    (impl_SameVec a0.2.1 a1.2.1).bind fun y428 =>
    bif y428.1.1 then
      bif (iEq a0.2.2.1 a1.2.2.1) then
        some (((iEq a0.2.2.2.1 a1.2.2.2.1), ()), ())
      else some ((false, ()), ())
    else some ((false, ()), ())
  else some ((false, ()), ())
noncomputable def impl_SameMission_1_sg : Sig := ⟨[.v (.pair (.int .i64) (.pair (.arr 3 (.flt .f32)) (.pair (.int .i64) (.pair (.int .i64) (.unit))))), .v (.pair (.int .i64) (.pair (.arr 3 (.flt .f32)) (.pair (.int .i64) (.pair (.int .i64) (.unit)))))], [.v (.val (.bool))], false⟩
noncomputable def impl_SameMission_1_en : Entry := ⟨impl_SameMission_1_sg, fun x => impl_SameMission_1 x.1 x.2.1⟩
theorem impl_SameMission_1_eq (x : impl_SameMission_1_sg.dom) : body (env [(85, impl_SameVec_en)]) [] Try.f88 impl_SameMission_1_sg x = impl_SameMission_1 x.1 x.2.1 := by kernel_rfl
theorem impl_SameMission_1_so : Sound Try.prog 88 impl_SameMission_1_en := sound_of_body (envS (l := [(85, impl_SameVec_en)]) (⟨impl_SameVec_so, trivial⟩)) Try.func88 (by kernel_rfl) rfl (fun x y h => (impl_SameMission_1_eq x).trans h)

-- slices.EqualFunc[[]loop.example/g01204/impl.Leg,[]loop.example/g01204/impl.Leg,loop.example/g01204/impl.Leg,loop.example/g01204/impl.Leg]
noncomputable def slices_EqualFunc_impl_Leg_l4 (a0 : (List (Int × ((Vec 3 Nat) × (Int × (Int × Unit)))))) (a1 : (List (Int × ((Vec 3 Nat) × (Int × (Int × Unit)))))) (a2 : (((Int × ((Vec 3 Nat) × (Int × (Int × Unit)))) × (Int × ((Vec 3 Nat) × (Int × (Int × Unit)))) × Unit) → Option Bool)) (s457 : (Int × Unit)) : Option ((Int × Unit) ⊕ ((Bool × Unit) × Unit)) :=
  bif (iLt s457.1 (lenI a0)) then
    bif inB s457.1 (List.length a0) then
      bif inB s457.1 (List.length a1) then
        (a2 ((List.getD a0 s457.1.toNat ((0, (0, 0, 0, ()), 0, 0, ()) : (Int × ((Vec 3 Nat) × (Int × (Int × Unit)))))), (List.getD a1 s457.1.toNat ((0, (0, 0, 0, ()), 0, 0, ()) : (Int × ((Vec 3 Nat) × (Int × (Int × Unit)))))), ())).bind fun y461 =>
        bif (! y461) then
          Option.map Sum.inr (some ((false, ()), ()))
        else
        some (Sum.inl ((iAdd .i64 s457.1 1), ()))
      else none
    else none
  else
  Option.map Sum.inr (some ((true, ()), ()))
noncomputable def slices_EqualFunc_impl_Leg (a0 : (List (Int × ((Vec 3 Nat) × (Int × (Int × Unit)))))) (a1 : (List (Int × ((Vec 3 Nat) × (Int × (Int × Unit)))))) (a2 : (((Int × ((Vec 3 Nat) × (Int × (Int × Unit)))) × (Int × ((Vec 3 Nat) × (Int × (Int × Unit)))) × Unit) → Option Bool)) : Option ((Bool × Unit) × Unit) :=
  bif (! (iEq (lenI a0) (lenI a1))) then some ((false, ()), ()) else run (slices_EqualFunc_impl_Leg_l4 a0 a1 a2) ((0 : Int), ())
noncomputable def slices_EqualFunc_impl_Leg_sg : Sig := ⟨[.v (.list (.pair (.int .i64) (.pair (.arr 3 (.flt .f32)) (.pair (.int .i64) (.pair (.int .i64) (.unit)))))), .v (.list (.pair (.int .i64) (.pair (.arr 3 (.flt .f32)) (.pair (.int .i64) (.pair (.int .i64) (.unit)))))), .fn ⟨[.pair (.int .i64) (.pair (.arr 3 (.flt .f32)) (.pair (.int .i64) (.pair (.int .i64) (.unit)))), .pair (.int .i64) (.pair (.arr 3 (.flt .f32)) (.pair (.int .i64) (.pair (.int .i64) (.unit))))], .bool⟩], [.v (.val (.bool))], false⟩
noncomputable def slices_EqualFunc_impl_Leg_en : Entry := ⟨slices_EqualFunc_impl_Leg_sg, fun x => slices_EqualFunc_impl_Leg x.1 x.2.1 x.2.2.1⟩
theorem slices_EqualFunc_impl_Leg_eq (x : slices_EqualFunc_impl_Leg_sg.dom) : body (env []) [(4, .vary [(17, .sc (.int .i64))])] Try.f87 slices_EqualFunc_impl_Leg_sg x = slices_EqualFunc_impl_Leg x.1 x.2.1 x.2.2.1 := by kernel_rfl
theorem slices_EqualFunc_impl_Leg_so : Sound Try.prog 87 slices_EqualFunc_impl_Leg_en := sound_of_body (envS (l := []) (trivial)) Try.func87 (by kernel_rfl) rfl (fun x y h => (slices_EqualFunc_impl_Leg_eq x).trans h)

-- slices.EqualFunc[[]loop.example/g01204/impl.Vec,[]loop.example/g01204/impl.Vec,loop.example/g01204/impl.Vec,loop.example/g01204/impl.Vec]
noncomputable def slices_EqualFunc_impl_Vec_l4 (a0 : (List (Vec 3 Nat))) (a1 : (List (Vec 3 Nat))) (a2 : (((Vec 3 Nat) × (Vec 3 Nat) × Unit) → Option Bool)) (s465 : (Int × Unit)) : Option ((Int × Unit) ⊕ ((Bool × Unit) × Unit)) :=
  bif (iLt s465.1 (lenI a0)) then
    bif inB s465.1 (List.length a0) then
      bif inB s465.1 (List.length a1) then
        (a2 ((List.getD a0 s465.1.toNat ((0, 0, 0, ()) : (Vec 3 Nat))), (List.getD a1 s465.1.toNat ((0, 0, 0, ()) : (Vec 3 Nat))), ())).bind fun y469 =>
        bif (! y469) then
          Option.map Sum.inr (some ((false, ()), ()))
        else
        some (Sum.inl ((iAdd .i64 s465.1 1), ()))
      else none
    else none
  else
  Option.map Sum.inr (some ((true, ()), ()))
noncomputable def slices_EqualFunc_impl_Vec (a0 : (List (Vec 3 Nat))) (a1 : (List (Vec 3 Nat))) (a2 : (((Vec 3 Nat) × (Vec 3 Nat) × Unit) → Option Bool)) : Option ((Bool × Unit) × Unit) :=
  bif (! (iEq (lenI a0) (lenI a1))) then some ((false, ()), ()) else run (slices_EqualFunc_impl_Vec_l4 a0 a1 a2) ((0 : Int), ())
noncomputable def slices_EqualFunc_impl_Vec_sg : Sig := ⟨[.v (.list (.arr 3 (.flt .f32))), .v (.list (.arr 3 (.flt .f32))), .fn ⟨[.arr 3 (.flt .f32), .arr 3 (.flt .f32)], .bool⟩], [.v (.val (.bool))], false⟩
noncomputable def slices_EqualFunc_impl_Vec_en : Entry := ⟨slices_EqualFunc_impl_Vec_sg, fun x => slices_EqualFunc_impl_Vec x.1 x.2.1 x.2.2.1⟩
theorem slices_EqualFunc_impl_Vec_eq (x : slices_EqualFunc_impl_Vec_sg.dom) : body (env []) [(4, .vary [(17, .sc (.int .i64))])] Try.f86 slices_EqualFunc_impl_Vec_sg x = slices_EqualFunc_impl_Vec x.1 x.2.1 x.2.2.1 := by kernel_rfl
theorem slices_EqualFunc_impl_Vec_so : Sound Try.prog 86 slices_EqualFunc_impl_Vec_en := sound_of_body (envS (l := []) (trivial)) Try.func86 (by kernel_rfl) rfl (fun x y h => (slices_EqualFunc_impl_Vec_eq x).trans h)

-- loop.example/g01204/impl.SameMission
noncomputable def impl_SameMission (a0 : (Int × ((Vec 3 Nat) × ((List (Vec 3 Nat)) × ((List (Int × ((Vec 3 Nat) × (Int × (Int × Unit))))) × Unit))))) (a1 : (Int × ((Vec 3 Nat) × ((List (Vec 3 Nat)) × ((List (Int × ((Vec 3 Nat) × (Int × (Int × Unit))))) × Unit))))) : Option ((Bool × Unit) × Unit) :=
  bif (iEq a0.1 a1.1) then
    (impl_SameVec a0.2.1 a1.2.1).bind fun y422 =>
    bif y422.1.1 then
      (slices_EqualFunc_impl_Vec a0.2.2.1 a1.2.2.1 (fun (z423 : ((Vec 3 Nat) × (Vec 3 Nat) × Unit)) => (impl_SameVec z423.1 z423.2.1).map fun y => y.1.1)).bind fun y424 =>
      bif y424.1.1 then
        (slices_EqualFunc_impl_Leg a0.2.2.2.1 a1.2.2.2.1 (fun (z425 : ((Int × ((Vec 3 Nat) × (Int × (Int × Unit)))) × (Int × ((Vec 3 Nat) × (Int × (Int × Unit)))) × Unit)) => (impl_SameMission_1 z425.1 z425.2.1).map fun y => y.1.1)).bind fun y426 =>
        some ((y426.1.1, ()), ())
      else some ((false, ()), ())
    else some ((false, ()), ())
  else some ((false, ()), ())
noncomputable def impl_SameMission_sg : Sig := ⟨[.v (.pair (.int .i64) (.pair (.arr 3 (.flt .f32)) (.pair (.list (.arr 3 (.flt .f32))) (.pair (.list (.pair (.int .i64) (.pair (.arr 3 (.flt .f32)) (.pair (.int .i64) (.pair (.int .i64) (.unit)))))) (.unit))))), .v (.pair (.int .i64) (.pair (.arr 3 (.flt .f32)) (.pair (.list (.arr 3 (.flt .f32))) (.pair (.list (.pair (.int .i64) (.pair (.arr 3 (.flt .f32)) (.pair (.int .i64) (.pair (.int .i64) (.unit)))))) (.unit)))))], [.v (.val (.bool))], false⟩
noncomputable def impl_SameMission_en : Entry := ⟨impl_SameMission_sg, fun x => impl_SameMission x.1 x.2.1⟩
theorem impl_SameMission_eq (x : impl_SameMission_sg.dom) : body (env [(85, impl_SameVec_en), (86, slices_EqualFunc_impl_Vec_en), (87, slices_EqualFunc_impl_Leg_en), (88, impl_SameMission_1_en)]) [] Try.f32 impl_SameMission_sg x = impl_SameMission x.1 x.2.1 := by kernel_rfl
theorem impl_SameMission_so : Sound Try.prog 32 impl_SameMission_en := sound_of_body (envS (l := [(85, impl_SameVec_en), (86, slices_EqualFunc_impl_Vec_en), (87, slices_EqualFunc_impl_Leg_en), (88, impl_SameMission_1_en)]) (⟨impl_SameVec_so, slices_EqualFunc_impl_Vec_so, slices_EqualFunc_impl_Leg_so, impl_SameMission_1_so, trivial⟩)) Try.func32 (by kernel_rfl) rfl (fun x y h => (impl_SameMission_eq x).trans h)

-- loop.example/g01204/laws.eqVec
noncomputable def laws_eqVec (a0 : (Vec 3 Nat)) (a1 : (Vec 3 Nat)) : Option ((Bool × Unit) × Unit) :=
  (fConv .f32 .f64 (Vec.getD 3 a0 0 (0 : Nat))).bind fun y493 =>
  (fConv .f32 .f64 (Vec.getD 3 a1 0 (0 : Nat))).bind fun y495 =>
  (laws_sameFloat y493 y495).bind fun y496 =>
  bif (! y496.1.1) then some ((false, ()), ()) else
  (fConv .f32 .f64 (Vec.getD 3 a0 1 (0 : Nat))).bind fun y499 =>
  (fConv .f32 .f64 (Vec.getD 3 a1 1 (0 : Nat))).bind fun y501 =>
  (laws_sameFloat y499 y501).bind fun y502 =>
  bif (! y502.1.1) then some ((false, ()), ()) else
  (fConv .f32 .f64 (Vec.getD 3 a0 2 (0 : Nat))).bind fun y505 =>
  (fConv .f32 .f64 (Vec.getD 3 a1 2 (0 : Nat))).bind fun y507 =>
  (laws_sameFloat y505 y507).bind fun y508 =>
  bif (! y508.1.1) then some ((false, ()), ()) else some ((true, ()), ())
noncomputable def laws_eqVec_sg : Sig := ⟨[.v (.arr 3 (.flt .f32)), .v (.arr 3 (.flt .f32))], [.v (.val (.bool))], false⟩
noncomputable def laws_eqVec_en : Entry := ⟨laws_eqVec_sg, fun x => laws_eqVec x.1 x.2.1⟩
theorem laws_eqVec_eq (x : laws_eqVec_sg.dom) : body (env [(27, laws_sameFloat_en)]) [(2, .unroll 4)] Try.f89 laws_eqVec_sg x = laws_eqVec x.1 x.2.1 := by kernel_rfl
theorem laws_eqVec_so : Sound Try.prog 89 laws_eqVec_en := sound_of_body (envS (l := [(27, laws_sameFloat_en)]) (⟨laws_sameFloat_so, trivial⟩)) Try.func89 (by kernel_rfl) rfl (fun x y h => (laws_eqVec_eq x).trans h)

-- loop.example/g01204/laws.eqLeg
noncomputable def laws_eqLeg (a0 : (Int × ((Vec 3 Nat) × (Int × (Int × Unit))))) (a1 : (Int × ((Vec 3 Nat) × (Int × (Int × Unit))))) : Option ((Bool × Unit) × Unit) :=
  bif (! (iEq a0.1 a1.1)) then some ((false, ()), ()) else
  (laws_eqVec a0.2.1 a1.2.1).bind fun y488 =>
  bif (! y488.1.1) then some ((false, ()), ()) else
  bif (! (iEq a0.2.2.1 a1.2.2.1)) then some ((false, ()), ()) else
  bif (! (iEq a0.2.2.2.1 a1.2.2.2.1)) then some ((false, ()), ()) else some ((true, ()), ())
noncomputable def laws_eqLeg_sg : Sig := ⟨[.v (.pair (.int .i64) (.pair (.arr 3 (.flt .f32)) (.pair (.int .i64) (.pair (.int .i64) (.unit))))), .v (.pair (.int .i64) (.pair (.arr 3 (.flt .f32)) (.pair (.int .i64) (.pair (.int .i64) (.unit)))))], [.v (.val (.bool))], false⟩
noncomputable def laws_eqLeg_en : Entry := ⟨laws_eqLeg_sg, fun x => laws_eqLeg x.1 x.2.1⟩
theorem laws_eqLeg_eq (x : laws_eqLeg_sg.dom) : body (env [(89, laws_eqVec_en)]) [] Try.f141 laws_eqLeg_sg x = laws_eqLeg x.1 x.2.1 := by kernel_rfl
theorem laws_eqLeg_so : Sound Try.prog 141 laws_eqLeg_en := sound_of_body (envS (l := [(89, laws_eqVec_en)]) (⟨laws_eqVec_so, trivial⟩)) Try.func141 (by kernel_rfl) rfl (fun x y h => (laws_eqLeg_eq x).trans h)

-- loop.example/g01204/laws.eqLegS
noncomputable def laws_eqLegS_l4 (a0 : (List (Int × ((Vec 3 Nat) × (Int × (Int × Unit)))))) (a1 : (List (Int × ((Vec 3 Nat) × (Int × (Int × Unit)))))) (s480 : (Int × Unit)) : Option ((Int × Unit) ⊕ ((Bool × Unit) × Unit)) :=
  bif (iLt s480.1 (lenI a0)) then
    bif inB s480.1 (List.length a0) then
      bif inB s480.1 (List.length a1) then
        (laws_eqLeg (List.getD a0 s480.1.toNat ((0, (0, 0, 0, ()), 0, 0, ()) : (Int × ((Vec 3 Nat) × (Int × (Int × Unit)))))) (List.getD a1 s480.1.toNat ((0, (0, 0, 0, ()), 0, 0, ()) : (Int × ((Vec 3 Nat) × (Int × (Int × Unit))))))).bind fun y484 =>
        bif (! y484.1.1) then
          Option.map Sum.inr (some ((false, ()), ()))
        else
        some (Sum.inl ((iAdd .i64 s480.1 1), ()))
      else none
    else none
  else
  Option.map Sum.inr (some ((true, ()), ()))
noncomputable def laws_eqLegS (a0 : (List (Int × ((Vec 3 Nat) × (Int × (Int × Unit)))))) (a1 : (List (Int × ((Vec 3 Nat) × (Int × (Int × Unit)))))) : Option ((Bool × Unit) × Unit) :=
  bif (! (iEq (lenI a0) (lenI a1))) then some ((false, ()), ()) else run (laws_eqLegS_l4 a0 a1) ((0 : Int), ())
noncomputable def laws_eqLegS_sg : Sig := ⟨[.v (.list (.pair (.int .i64) (.pair (.arr 3 (.flt .f32)) (.pair (.int .i64) (.pair (.int .i64) (.unit)))))), .v (.list (.pair (.int .i64) (.pair (.arr 3 (.flt .f32)) (.pair (.int .i64) (.pair (.int .i64) (.unit))))))], [.v (.val (.bool))], false⟩
noncomputable def laws_eqLegS_en : Entry := ⟨laws_eqLegS_sg, fun x => laws_eqLegS x.1 x.2.1⟩
theorem laws_eqLegS_eq (x : laws_eqLegS_sg.dom) : body (env [(141, laws_eqLeg_en)]) [(4, .vary [(5, .sc (.int .i64))])] Try.f90 laws_eqLegS_sg x = laws_eqLegS x.1 x.2.1 := by kernel_rfl
theorem laws_eqLegS_so : Sound Try.prog 90 laws_eqLegS_en := sound_of_body (envS (l := [(141, laws_eqLeg_en)]) (⟨laws_eqLeg_so, trivial⟩)) Try.func90 (by kernel_rfl) rfl (fun x y h => (laws_eqLegS_eq x).trans h)

-- loop.example/g01204/laws.eqVecS
noncomputable def laws_eqVecS_l4 (a0 : (List (Vec 3 Nat))) (a1 : (List (Vec 3 Nat))) (s511 : (Int × Unit)) : Option ((Int × Unit) ⊕ ((Bool × Unit) × Unit)) :=
  bif (iLt s511.1 (lenI a0)) then
    bif inB s511.1 (List.length a0) then
      bif inB s511.1 (List.length a1) then
        (laws_eqVec (List.getD a0 s511.1.toNat ((0, 0, 0, ()) : (Vec 3 Nat))) (List.getD a1 s511.1.toNat ((0, 0, 0, ()) : (Vec 3 Nat)))).bind fun y515 =>
        bif (! y515.1.1) then
          Option.map Sum.inr (some ((false, ()), ()))
        else
        some (Sum.inl ((iAdd .i64 s511.1 1), ()))
      else none
    else none
  else
  Option.map Sum.inr (some ((true, ()), ()))
noncomputable def laws_eqVecS (a0 : (List (Vec 3 Nat))) (a1 : (List (Vec 3 Nat))) : Option ((Bool × Unit) × Unit) :=
  bif (! (iEq (lenI a0) (lenI a1))) then some ((false, ()), ()) else run (laws_eqVecS_l4 a0 a1) ((0 : Int), ())
noncomputable def laws_eqVecS_sg : Sig := ⟨[.v (.list (.arr 3 (.flt .f32))), .v (.list (.arr 3 (.flt .f32)))], [.v (.val (.bool))], false⟩
noncomputable def laws_eqVecS_en : Entry := ⟨laws_eqVecS_sg, fun x => laws_eqVecS x.1 x.2.1⟩
theorem laws_eqVecS_eq (x : laws_eqVecS_sg.dom) : body (env [(89, laws_eqVec_en)]) [(4, .vary [(5, .sc (.int .i64))])] Try.f61 laws_eqVecS_sg x = laws_eqVecS x.1 x.2.1 := by kernel_rfl
theorem laws_eqVecS_so : Sound Try.prog 61 laws_eqVecS_en := sound_of_body (envS (l := [(89, laws_eqVec_en)]) (⟨laws_eqVec_so, trivial⟩)) Try.func61 (by kernel_rfl) rfl (fun x y h => (laws_eqVecS_eq x).trans h)

-- loop.example/g01204/laws.eqMission
noncomputable def laws_eqMission (a0 : (Int × ((Vec 3 Nat) × ((List (Vec 3 Nat)) × ((List (Int × ((Vec 3 Nat) × (Int × (Int × Unit))))) × Unit))))) (a1 : (Int × ((Vec 3 Nat) × ((List (Vec 3 Nat)) × ((List (Int × ((Vec 3 Nat) × (Int × (Int × Unit))))) × Unit))))) : Option ((Bool × Unit) × Unit) :=
  bif (! (iEq a0.1 a1.1)) then some ((false, ()), ()) else
  (laws_eqVec a0.2.1 a1.2.1).bind fun y473 =>
  bif (! y473.1.1) then some ((false, ()), ()) else
  (laws_eqVecS a0.2.2.1 a1.2.2.1).bind fun y475 =>
  bif (! y475.1.1) then some ((false, ()), ()) else
  (laws_eqLegS a0.2.2.2.1 a1.2.2.2.1).bind fun y477 =>
  bif (! y477.1.1) then some ((false, ()), ()) else some ((true, ()), ())
noncomputable def laws_eqMission_sg : Sig := ⟨[.v (.pair (.int .i64) (.pair (.arr 3 (.flt .f32)) (.pair (.list (.arr 3 (.flt .f32))) (.pair (.list (.pair (.int .i64) (.pair (.arr 3 (.flt .f32)) (.pair (.int .i64) (.pair (.int .i64) (.unit)))))) (.unit))))), .v (.pair (.int .i64) (.pair (.arr 3 (.flt .f32)) (.pair (.list (.arr 3 (.flt .f32))) (.pair (.list (.pair (.int .i64) (.pair (.arr 3 (.flt .f32)) (.pair (.int .i64) (.pair (.int .i64) (.unit)))))) (.unit)))))], [.v (.val (.bool))], false⟩
noncomputable def laws_eqMission_en : Entry := ⟨laws_eqMission_sg, fun x => laws_eqMission x.1 x.2.1⟩
theorem laws_eqMission_eq (x : laws_eqMission_sg.dom) : body (env [(61, laws_eqVecS_en), (89, laws_eqVec_en), (90, laws_eqLegS_en)]) [] Try.f33 laws_eqMission_sg x = laws_eqMission x.1 x.2.1 := by kernel_rfl
theorem laws_eqMission_so : Sound Try.prog 33 laws_eqMission_en := sound_of_body (envS (l := [(61, laws_eqVecS_en), (89, laws_eqVec_en), (90, laws_eqLegS_en)]) (⟨laws_eqVecS_so, laws_eqVec_so, laws_eqLegS_so, trivial⟩)) Try.func33 (by kernel_rfl) rfl (fun x y h => (laws_eqMission_eq x).trans h)

-- loop.example/g01204/laws.szLegS
noncomputable def laws_szLegS (a0 : (List (Int × ((Vec 3 Nat) × (Int × (Int × Unit)))))) (a1 : Int) : Option ((Int × Unit) × Unit) :=
  let x522 := iSub .i64 a1 (lenI a0)
  bif (iLt x522 0) then some ((((-1 : Int) : Int), ()), ()) else some ((x522, ()), ())
noncomputable def laws_szLegS_sg : Sig := ⟨[.v (.list (.pair (.int .i64) (.pair (.arr 3 (.flt .f32)) (.pair (.int .i64) (.pair (.int .i64) (.unit)))))), .v (.int .i64)], [.v (.val (.int .i64))], false⟩
noncomputable def laws_szLegS_en : Entry := ⟨laws_szLegS_sg, fun x => laws_szLegS x.1 x.2.1⟩
theorem laws_szLegS_eq (x : laws_szLegS_sg.dom) : body (env []) [] Try.f79 laws_szLegS_sg x = laws_szLegS x.1 x.2.1 := by kernel_rfl
theorem laws_szLegS_so : Sound Try.prog 79 laws_szLegS_en := sound_of_body (envS (l := []) (trivial)) Try.func79 (by kernel_rfl) rfl (fun x y h => (laws_szLegS_eq x).trans h)

-- loop.example/g01204/laws.szVecS
noncomputable def laws_szVecS (a0 : (List (Vec 3 Nat))) (a1 : Int) : Option ((Int × Unit) × Unit) :=
  let x524 := iSub .i64 a1 (lenI a0)
  bif (iLt x524 0) then some ((((-1 : Int) : Int), ()), ()) else some ((x524, ()), ())
noncomputable def laws_szVecS_sg : Sig := ⟨[.v (.list (.arr 3 (.flt .f32))), .v (.int .i64)], [.v (.val (.int .i64))], false⟩
noncomputable def laws_szVecS_en : Entry := ⟨laws_szVecS_sg, fun x => laws_szVecS x.1 x.2.1⟩
theorem laws_szVecS_eq (x : laws_szVecS_sg.dom) : body (env []) [] Try.f78 laws_szVecS_sg x = laws_szVecS x.1 x.2.1 := by kernel_rfl
theorem laws_szVecS_so : Sound Try.prog 78 laws_szVecS_en := sound_of_body (envS (l := []) (trivial)) Try.func78 (by kernel_rfl) rfl (fun x y h => (laws_szVecS_eq x).trans h)

-- loop.example/g01204/laws.szMission
noncomputable def laws_szMission (a0 : (Int × ((Vec 3 Nat) × ((List (Vec 3 Nat)) × ((List (Int × ((Vec 3 Nat) × (Int × (Int × Unit))))) × Unit))))) (a1 : Int) : Option ((Int × Unit) × Unit) :=
  (laws_szVecS a0.2.2.1 a1).bind fun y518 =>
  bif (iLt y518.1.1 0) then some ((((-1 : Int) : Int), ()), ()) else
  (laws_szLegS a0.2.2.2.1 y518.1.1).bind fun y520 =>
  bif (iLt y520.1.1 0) then some ((((-1 : Int) : Int), ()), ()) else some ((y520.1.1, ()), ())
noncomputable def laws_szMission_sg : Sig := ⟨[.v (.pair (.int .i64) (.pair (.arr 3 (.flt .f32)) (.pair (.list (.arr 3 (.flt .f32))) (.pair (.list (.pair (.int .i64) (.pair (.arr 3 (.flt .f32)) (.pair (.int .i64) (.pair (.int .i64) (.unit)))))) (.unit))))), .v (.int .i64)], [.v (.val (.int .i64))], false⟩
noncomputable def laws_szMission_en : Entry := ⟨laws_szMission_sg, fun x => laws_szMission x.1 x.2.1⟩
theorem laws_szMission_eq (x : laws_szMission_sg.dom) : body (env [(78, laws_szVecS_en), (79, laws_szLegS_en)]) [] Try.f29 laws_szMission_sg x = laws_szMission x.1 x.2.1 := by kernel_rfl
theorem laws_szMission_so : Sound Try.prog 29 laws_szMission_en := sound_of_body (envS (l := [(78, laws_szVecS_en), (79, laws_szLegS_en)]) (⟨laws_szVecS_so, laws_szLegS_so, trivial⟩)) Try.func29 (by kernel_rfl) rfl (fun x y h => (laws_szMission_eq x).trans h)

-- loop.example/g01204/laws.toVec
noncomputable def laws_toVec (a0 : (Vec 3 Nat)) : Option (((Vec 3 Nat) × Unit) × Unit) :=
  some (((((Vec.getD 3 a0 0 (0 : Nat)), (Vec.getD 3 a0 1 (0 : Nat)), (Vec.getD 3 a0 2 (0 : Nat)), ()) : (Vec 3 Nat)), ()), ())
noncomputable def laws_toVec_sg : Sig := ⟨[.v (.arr 3 (.flt .f32))], [.v (.val (.arr 3 (.flt .f32)))], false⟩
noncomputable def laws_toVec_en : Entry := ⟨laws_toVec_sg, fun x => laws_toVec x.1⟩
theorem laws_toVec_eq (x : laws_toVec_sg.dom) : body (env []) [(3, .unroll 4)] Try.f82 laws_toVec_sg x = laws_toVec x.1 := by kernel_rfl
theorem laws_toVec_so : Sound Try.prog 82 laws_toVec_en := sound_of_body (envS (l := []) (trivial)) Try.func82 (by kernel_rfl) rfl (fun x y h => (laws_toVec_eq x).trans h)

-- loop.example/g01204/laws.toLeg
noncomputable def laws_toLeg (a0 : (Int × ((Vec 3 Nat) × (Int × (Int × Unit))))) : Option (((Int × ((Vec 3 Nat) × (Int × (Int × Unit)))) × Unit) × Unit) :=
  (laws_toVec a0.2.1).bind fun y540 =>
  some ((((a0.1, y540.1.1, a0.2.2.1, a0.2.2.2.1, ()) : (Int × ((Vec 3 Nat) × (Int × (Int × Unit))))), ()), ())
noncomputable def laws_toLeg_sg : Sig := ⟨[.v (.pair (.int .i64) (.pair (.arr 3 (.flt .f32)) (.pair (.int .i64) (.pair (.int .i64) (.unit)))))], [.v (.val (.pair (.int .i64) (.pair (.arr 3 (.flt .f32)) (.pair (.int .i64) (.pair (.int .i64) (.unit))))))], false⟩
noncomputable def laws_toLeg_en : Entry := ⟨laws_toLeg_sg, fun x => laws_toLeg x.1⟩
theorem laws_toLeg_eq (x : laws_toLeg_sg.dom) : body (env [(82, laws_toVec_en)]) [] Try.f139 laws_toLeg_sg x = laws_toLeg x.1 := by kernel_rfl
theorem laws_toLeg_so : Sound Try.prog 139 laws_toLeg_en := sound_of_body (envS (l := [(82, laws_toVec_en)]) (⟨laws_toVec_so, trivial⟩)) Try.func139 (by kernel_rfl) rfl (fun x y h => (laws_toLeg_eq x).trans h)

-- loop.example/g01204/laws.toLegS
noncomputable def laws_toLegS_l3 (a0 : (List (Int × ((Vec 3 Nat) × (Int × (Int × Unit)))))) (s535 : (Int × (List (Int × ((Vec 3 Nat) × (Int × (Int × Unit))))) × Unit)) : Option ((Int × (List (Int × ((Vec 3 Nat) × (Int × (Int × Unit))))) × Unit) ⊕ (((List (Int × ((Vec 3 Nat) × (Int × (Int × Unit))))) × Unit) × Unit)) :=
  bif (iLt s535.1 (lenI a0)) then
    bif inB s535.1 (List.length a0) then
      (laws_toLeg (List.getD a0 s535.1.toNat ((0, (0, 0, 0, ()), 0, 0, ()) : (Int × ((Vec 3 Nat) × (Int × (Int × Unit))))))).bind fun y538 =>
      bif inB s535.1 (List.length s535.2.1) then
        some (Sum.inl ((iAdd .i64 s535.1 1), List.set s535.2.1 s535.1.toNat y538.1.1, ()))
      else none
    else none
  else
  Option.map Sum.inr (some ((s535.2.1, ()), ()))
noncomputable def laws_toLegS (a0 : (List (Int × ((Vec 3 Nat) × (Int × (Int × Unit)))))) : Option (((List (Int × ((Vec 3 Nat) × (Int × (Int × Unit))))) × Unit) × Unit) :=
  bif (iLe 0 (lenI a0) && iLe (lenI a0) (lenI a0) && room (lenI a0).toNat 40) then run (laws_toLegS_l3 a0) ((0 : Int), List.replicate (lenI a0).toNat ((0, (0, 0, 0, ()), 0, 0, ()) : (Int × ((Vec 3 Nat) × (Int × (Int × Unit))))), ()) else none
noncomputable def laws_toLegS_sg : Sig := ⟨[.v (.list (.pair (.int .i64) (.pair (.arr 3 (.flt .f32)) (.pair (.int .i64) (.pair (.int .i64) (.unit))))))], [.v (.rows (.pair (.int .i64) (.pair (.arr 3 (.flt .f32)) (.pair (.int .i64) (.pair (.int .i64) (.unit))))))], false⟩
noncomputable def laws_toLegS_en : Entry := ⟨laws_toLegS_sg, fun x => laws_toLegS x.1⟩
theorem laws_toLegS_eq (x : laws_toLegS_sg.dom) : body (env [(139, laws_toLeg_en)]) [(3, .vary [(4, .sc (.int .i64)), (3, .mrows (.pair (.int .i64) (.pair (.arr 3 (.flt .f32)) (.pair (.int .i64) (.pair (.int .i64) (.unit))))))])] Try.f84 laws_toLegS_sg x = laws_toLegS x.1 := by kernel_rfl
theorem laws_toLegS_so : Sound Try.prog 84 laws_toLegS_en := sound_of_body (envS (l := [(139, laws_toLeg_en)]) (⟨laws_toLeg_so, trivial⟩)) Try.func84 (by kernel_rfl) rfl (fun x y h => (laws_toLegS_eq x).trans h)

-- loop.example/g01204/laws.toVecS
noncomputable def laws_toVecS_l3 (a0 : (List (Vec 3 Nat))) (s550 : (Int × (List (Vec 3 Nat)) × Unit)) : Option ((Int × (List (Vec 3 Nat)) × Unit) ⊕ (((List (Vec 3 Nat)) × Unit) × Unit)) :=
  bif (iLt s550.1 (lenI a0)) then
    bif inB s550.1 (List.length a0) then
      (laws_toVec (List.getD a0 s550.1.toNat ((0, 0, 0, ()) : (Vec 3 Nat)))).bind fun y553 =>
      bif inB s550.1 (List.length s550.2.1) then
        some (Sum.inl ((iAdd .i64 s550.1 1), List.set s550.2.1 s550.1.toNat y553.1.1, ()))
      else none
    else none
  else
  Option.map Sum.inr (some ((s550.2.1, ()), ()))
noncomputable def laws_toVecS (a0 : (List (Vec 3 Nat))) : Option (((List (Vec 3 Nat)) × Unit) × Unit) :=
  bif (iLe 0 (lenI a0) && iLe (lenI a0) (lenI a0) && room (lenI a0).toNat 12) then run (laws_toVecS_l3 a0) ((0 : Int), List.replicate (lenI a0).toNat ((0, 0, 0, ()) : (Vec 3 Nat)), ()) else none
noncomputable def laws_toVecS_sg : Sig := ⟨[.v (.list (.arr 3 (.flt .f32)))], [.v (.rows (.arr 3 (.flt .f32)))], false⟩
noncomputable def laws_toVecS_en : Entry := ⟨laws_toVecS_sg, fun x => laws_toVecS x.1⟩
theorem laws_toVecS_eq (x : laws_toVecS_sg.dom) : body (env [(82, laws_toVec_en)]) [(3, .vary [(4, .sc (.int .i64)), (3, .mrows (.arr 3 (.flt .f32)))])] Try.f83 laws_toVecS_sg x = laws_toVecS x.1 := by kernel_rfl
theorem laws_toVecS_so : Sound Try.prog 83 laws_toVecS_en := sound_of_body (envS (l := [(82, laws_toVec_en)]) (⟨laws_toVec_so, trivial⟩)) Try.func83 (by kernel_rfl) rfl (fun x y h => (laws_toVecS_eq x).trans h)

-- loop.example/g01204/laws.toMission
noncomputable def laws_toMission (a0 : (Int × ((Vec 3 Nat) × ((List (Vec 3 Nat)) × ((List (Int × ((Vec 3 Nat) × (Int × (Int × Unit))))) × Unit))))) : Option (((Int × ((Vec 3 Nat) × ((List (Vec 3 Nat)) × ((List (Int × ((Vec 3 Nat) × (Int × (Int × Unit))))) × Unit)))) × Unit) × Unit) :=
  (laws_toVec a0.2.1).bind fun y526 =>
  (laws_toVecS a0.2.2.1).bind fun y527 =>
  (laws_toLegS a0.2.2.2.1).bind fun y528 =>
  some ((((a0.1, y526.1.1, y527.1.1, y528.1.1, ()) : (Int × ((Vec 3 Nat) × ((List (Vec 3 Nat)) × ((List (Int × ((Vec 3 Nat) × (Int × (Int × Unit))))) × Unit))))), ()), ())
noncomputable def laws_toMission_sg : Sig := ⟨[.v (.pair (.int .i64) (.pair (.arr 3 (.flt .f32)) (.pair (.list (.arr 3 (.flt .f32))) (.pair (.list (.pair (.int .i64) (.pair (.arr 3 (.flt .f32)) (.pair (.int .i64) (.pair (.int .i64) (.unit)))))) (.unit)))))], [.v (.pair (.val (.int .i64)) (.pair (.val (.arr 3 (.flt .f32))) (.pair (.rows (.arr 3 (.flt .f32))) (.pair (.rows (.pair (.int .i64) (.pair (.arr 3 (.flt .f32)) (.pair (.int .i64) (.pair (.int .i64) (.unit)))))) (.val (.unit))))))], false⟩
noncomputable def laws_toMission_en : Entry := ⟨laws_toMission_sg, fun x => laws_toMission x.1⟩
theorem laws_toMission_eq (x : laws_toMission_sg.dom) : body (env [(82, laws_toVec_en), (83, laws_toVecS_en), (84, laws_toLegS_en)]) [] Try.f31 laws_toMission_sg x = laws_toMission x.1 := by kernel_rfl
theorem laws_toMission_so : Sound Try.prog 31 laws_toMission_en := sound_of_body (envS (l := [(82, laws_toVec_en), (83, laws_toVecS_en), (84, laws_toLegS_en)]) (⟨laws_toVec_so, laws_toVecS_so, laws_toLegS_so, trivial⟩)) Try.func31 (by kernel_rfl) rfl (fun x y h => (laws_toMission_eq x).trans h)

-- loop.example/g01204/spec.l01Same
noncomputable def spec_l01Same (a0 : Nat) (a1 : Nat) : Option ((Bool × Unit) × Unit) :=
  bif (! (fEq .f32 a0 a0)) then
    bif (! (fEq .f32 a0 a0)) then
      some (((! (fEq .f32 a1 a1)), ()), ())
    else some ((false, ()), ())
  else
  bif (! (fEq .f32 a1 a1)) then
    bif (! (fEq .f32 a0 a0)) then
      some (((! (fEq .f32 a1 a1)), ()), ())
    else some ((false, ()), ())
  else
  allSame fun (q586 : Nat) =>
  allSame fun (q588 : Nat) =>
  some (((iEq (bitsF .f32 a0 q586) (bitsF .f32 a1 q588)), ()), ())
noncomputable def spec_l01Same_sg : Sig := ⟨[.v (.flt .f32), .v (.flt .f32)], [.v (.val (.bool))], false⟩
noncomputable def spec_l01Same_en : Entry := ⟨spec_l01Same_sg, fun x => spec_l01Same x.1 x.2.1⟩
theorem spec_l01Same_eq (x : spec_l01Same_sg.dom) : body (env []) [] Try.f138 spec_l01Same_sg x = spec_l01Same x.1 x.2.1 := by kernel_rfl
theorem spec_l01Same_so : Sound Try.prog 138 spec_l01Same_en := sound_of_body (envS (l := []) (trivial)) Try.func138 (by kernel_rfl) rfl (fun x y h => (spec_l01Same_eq x).trans h)

-- loop.example/g01204/spec.l01SameVec
noncomputable def spec_l01SameVec (a0 : (Vec 3 Nat)) (a1 : (Vec 3 Nat)) : Option ((Bool × Unit) × Unit) :=
  (spec_l01Same (Vec.getD 3 a0 0 (0 : Nat)) (Vec.getD 3 a1 0 (0 : Nat))).bind fun y573 =>
  bif y573.1.1 then
    (spec_l01Same (Vec.getD 3 a0 1 (0 : Nat)) (Vec.getD 3 a1 1 (0 : Nat))).bind fun y576 =>
    bif y576.1.1 then
      (spec_l01Same (Vec.getD 3 a0 2 (0 : Nat)) (Vec.getD 3 a1 2 (0 : Nat))).bind fun y579 =>
      some ((y579.1.1, ()), ())
    else some ((false, ()), ())
  else some ((false, ()), ())
noncomputable def spec_l01SameVec_sg : Sig := ⟨[.v (.arr 3 (.flt .f32)), .v (.arr 3 (.flt .f32))], [.v (.val (.bool))], false⟩
noncomputable def spec_l01SameVec_en : Entry := ⟨spec_l01SameVec_sg, fun x => spec_l01SameVec x.1 x.2.1⟩
theorem spec_l01SameVec_eq (x : spec_l01SameVec_sg.dom) : body (env [(138, spec_l01Same_en)]) [] Try.f80 spec_l01SameVec_sg x = spec_l01SameVec x.1 x.2.1 := by kernel_rfl
theorem spec_l01SameVec_so : Sound Try.prog 80 spec_l01SameVec_en := sound_of_body (envS (l := [(138, spec_l01Same_en)]) (⟨spec_l01Same_so, trivial⟩)) Try.func80 (by kernel_rfl) rfl (fun x y h => (spec_l01SameVec_eq x).trans h)

-- loop.example/g01204/spec.l08SameVecs
noncomputable def spec_l08SameVecs_l4 (a0 : (List (Vec 3 Nat))) (a1 : (List (Vec 3 Nat))) (s592 : (Int × Unit)) : Option ((Int × Unit) ⊕ ((Bool × Unit) × Unit)) :=
  bif (iLt s592.1 (lenI a0)) then
    bif inB s592.1 (List.length a0) then
      bif inB s592.1 (List.length a1) then
        (spec_l01SameVec (List.getD a0 s592.1.toNat ((0, 0, 0, ()) : (Vec 3 Nat))) (List.getD a1 s592.1.toNat ((0, 0, 0, ()) : (Vec 3 Nat)))).bind fun y596 =>
        bif (! y596.1.1) then
          Option.map Sum.inr (some ((false, ()), ()))
        else
        some (Sum.inl ((iAdd .i64 s592.1 1), ()))
      else none
    else none
  else
  Option.map Sum.inr (some ((true, ()), ()))
noncomputable def spec_l08SameVecs (a0 : (List (Vec 3 Nat))) (a1 : (List (Vec 3 Nat))) : Option ((Bool × Unit) × Unit) :=
  bif (! (iEq (lenI a0) (lenI a1))) then some ((false, ()), ()) else run (spec_l08SameVecs_l4 a0 a1) ((0 : Int), ())
noncomputable def spec_l08SameVecs_sg : Sig := ⟨[.v (.list (.arr 3 (.flt .f32))), .v (.list (.arr 3 (.flt .f32)))], [.v (.val (.bool))], false⟩
noncomputable def spec_l08SameVecs_en : Entry := ⟨spec_l08SameVecs_sg, fun x => spec_l08SameVecs x.1 x.2.1⟩
theorem spec_l08SameVecs_eq (x : spec_l08SameVecs_sg.dom) : body (env [(80, spec_l01SameVec_en)]) [(4, .vary [(5, .sc (.int .i64))])] Try.f81 spec_l08SameVecs_sg x = spec_l08SameVecs x.1 x.2.1 := by kernel_rfl
theorem spec_l08SameVecs_so : Sound Try.prog 81 spec_l08SameVecs_en := sound_of_body (envS (l := [(80, spec_l01SameVec_en)]) (⟨spec_l01SameVec_so, trivial⟩)) Try.func81 (by kernel_rfl) rfl (fun x y h => (spec_l08SameVecs_eq x).trans h)

-- loop.example/g01204/spec.SameMission
noncomputable def spec_SameMission_l4 (a0 : (Int × ((Vec 3 Nat) × ((List (Vec 3 Nat)) × ((List (Int × ((Vec 3 Nat) × (Int × (Int × Unit))))) × Unit))))) (a1 : (Int × ((Vec 3 Nat) × ((List (Vec 3 Nat)) × ((List (Int × ((Vec 3 Nat) × (Int × (Int × Unit))))) × Unit))))) (s561 : (Int × Unit)) : Option ((Int × Unit) ⊕ ((Bool × Unit) × Unit)) :=
  bif (iLt s561.1 (lenI a0.2.2.2.1)) then
    bif inB s561.1 (List.length a0.2.2.2.1) then
      let x563 := List.getD a0.2.2.2.1 s561.1.toNat ((0, (0, 0, 0, ()), 0, 0, ()) : (Int × ((Vec 3 Nat) × (Int × (Int × Unit)))))
      bif inB s561.1 (List.length a1.2.2.2.1) then
        let x564 := List.getD a1.2.2.2.1 s561.1.toNat ((0, (0, 0, 0, ()), 0, 0, ()) : (Int × ((Vec 3 Nat) × (Int × (Int × Unit)))))
        bif (! (iEq x563.1 x564.1)) then
          Option.map Sum.inr (some ((false, ()), ()))
        else
        (spec_l01SameVec x563.2.1 x564.2.1).bind fun y566 =>
        bif (! y566.1.1) then
          Option.map Sum.inr (some ((false, ()), ()))
        else
        bif (! (iEq x563.2.2.1 x564.2.2.1)) then
          Option.map Sum.inr (some ((false, ()), ()))
        else
        bif (! (iEq x563.2.2.2.1 x564.2.2.2.1)) then
          Option.map Sum.inr (some ((false, ()), ()))
        else
        some (Sum.inl ((iAdd .i64 s561.1 1), ()))
      else none
    else none
  else
  Option.map Sum.inr (some ((true, ()), ()))
noncomputable def spec_SameMission (a0 : (Int × ((Vec 3 Nat) × ((List (Vec 3 Nat)) × ((List (Int × ((Vec 3 Nat) × (Int × (Int × Unit))))) × Unit))))) (a1 : (Int × ((Vec 3 Nat) × ((List (Vec 3 Nat)) × ((List (Int × ((Vec 3 Nat) × (Int × (Int × Unit))))) × Unit))))) : Option ((Bool × Unit) × Unit) :=
  bif (! (iEq a0.1 a1.1)) then some ((false, ()), ()) else
  (spec_l01SameVec a0.2.1 a1.2.1).bind fun y556 =>
  bif (! y556.1.1) then some ((false, ()), ()) else
  (spec_l08SameVecs a0.2.2.1 a1.2.2.1).bind fun y558 =>
  bif (! y558.1.1) then some ((false, ()), ()) else
  bif (! (iEq (lenI a0.2.2.2.1) (lenI a1.2.2.2.1))) then some ((false, ()), ()) else run (spec_SameMission_l4 a0 a1) ((0 : Int), ())
noncomputable def spec_SameMission_sg : Sig := ⟨[.v (.pair (.int .i64) (.pair (.arr 3 (.flt .f32)) (.pair (.list (.arr 3 (.flt .f32))) (.pair (.list (.pair (.int .i64) (.pair (.arr 3 (.flt .f32)) (.pair (.int .i64) (.pair (.int .i64) (.unit)))))) (.unit))))), .v (.pair (.int .i64) (.pair (.arr 3 (.flt .f32)) (.pair (.list (.arr 3 (.flt .f32))) (.pair (.list (.pair (.int .i64) (.pair (.arr 3 (.flt .f32)) (.pair (.int .i64) (.pair (.int .i64) (.unit)))))) (.unit)))))], [.v (.val (.bool))], false⟩
noncomputable def spec_SameMission_en : Entry := ⟨spec_SameMission_sg, fun x => spec_SameMission x.1 x.2.1⟩
theorem spec_SameMission_eq (x : spec_SameMission_sg.dom) : body (env [(80, spec_l01SameVec_en), (81, spec_l08SameVecs_en)]) [(4, .vary [(5, .sc (.int .i64))])] Try.f30 spec_SameMission_sg x = spec_SameMission x.1 x.2.1 := by kernel_rfl
theorem spec_SameMission_so : Sound Try.prog 30 spec_SameMission_en := sound_of_body (envS (l := [(80, spec_l01SameVec_en), (81, spec_l08SameVecs_en)]) (⟨spec_l01SameVec_so, spec_l08SameVecs_so, trivial⟩)) Try.func30 (by kernel_rfl) rfl (fun x y h => (spec_SameMission_eq x).trans h)

-- loop.example/g01204/laws.FnExactSameMission
noncomputable def laws_FnExactSameMission (a0 : (Int × ((Vec 3 Nat) × ((List (Vec 3 Nat)) × ((List (Int × ((Vec 3 Nat) × (Int × (Int × Unit))))) × Unit))))) (a1 : (Int × ((Vec 3 Nat) × ((List (Vec 3 Nat)) × ((List (Int × ((Vec 3 Nat) × (Int × (Int × Unit))))) × Unit))))) : Option ((Bool × Unit) × Unit) :=
  (laws_szMission a0 (1048576 : Int)).bind fun y404 =>
  bif (iLt y404.1.1 0) then some ((true, ()), ()) else
  (laws_szMission a1 y404.1.1).bind fun y406 =>
  bif (iLt y406.1.1 0) then some ((true, ()), ()) else
  (laws_toMission a0).bind fun y408 =>
  (laws_toMission a1).bind fun y409 =>
  (spec_SameMission ((y408.1.1.1, y408.1.1.2.1, y408.1.1.2.2.1, y408.1.1.2.2.2.1, y408.1.1.2.2.2.2) : (Int × ((Vec 3 Nat) × ((List (Vec 3 Nat)) × ((List (Int × ((Vec 3 Nat) × (Int × (Int × Unit))))) × Unit))))) ((y409.1.1.1, y409.1.1.2.1, y409.1.1.2.2.1, y409.1.1.2.2.2.1, y409.1.1.2.2.2.2) : (Int × ((Vec 3 Nat) × ((List (Vec 3 Nat)) × ((List (Int × ((Vec 3 Nat) × (Int × (Int × Unit))))) × Unit)))))).bind fun y410 =>
  (laws_toMission a0).bind fun y411 =>
  (laws_toMission a1).bind fun y412 =>
  (impl_SameMission ((y411.1.1.1, y411.1.1.2.1, y411.1.1.2.2.1, y411.1.1.2.2.2.1, y411.1.1.2.2.2.2) : (Int × ((Vec 3 Nat) × ((List (Vec 3 Nat)) × ((List (Int × ((Vec 3 Nat) × (Int × (Int × Unit))))) × Unit))))) ((y412.1.1.1, y412.1.1.2.1, y412.1.1.2.2.1, y412.1.1.2.2.2.1, y412.1.1.2.2.2.2) : (Int × ((Vec 3 Nat) × ((List (Vec 3 Nat)) × ((List (Int × ((Vec 3 Nat) × (Int × (Int × Unit))))) × Unit)))))).bind fun y413 =>
  bif (! (bEq y413.1.1 y410.1.1)) then some ((false, ()), ()) else
  (laws_toMission a0).bind fun y415 =>
  (laws_eqMission ((y411.1.1.1, y411.1.1.2.1, y411.1.1.2.2.1, y411.1.1.2.2.2.1, y411.1.1.2.2.2.2) : (Int × ((Vec 3 Nat) × ((List (Vec 3 Nat)) × ((List (Int × ((Vec 3 Nat) × (Int × (Int × Unit))))) × Unit))))) ((y415.1.1.1, y415.1.1.2.1, y415.1.1.2.2.1, y415.1.1.2.2.2.1, y415.1.1.2.2.2.2) : (Int × ((Vec 3 Nat) × ((List (Vec 3 Nat)) × ((List (Int × ((Vec 3 Nat) × (Int × (Int × Unit))))) × Unit)))))).bind fun y416 =>
  bif (! y416.1.1) then some ((false, ()), ()) else
  (laws_toMission a1).bind fun y418 =>
  (laws_eqMission ((y412.1.1.1, y412.1.1.2.1, y412.1.1.2.2.1, y412.1.1.2.2.2.1, y412.1.1.2.2.2.2) : (Int × ((Vec 3 Nat) × ((List (Vec 3 Nat)) × ((List (Int × ((Vec 3 Nat) × (Int × (Int × Unit))))) × Unit))))) ((y418.1.1.1, y418.1.1.2.1, y418.1.1.2.2.1, y418.1.1.2.2.2.1, y418.1.1.2.2.2.2) : (Int × ((Vec 3 Nat) × ((List (Vec 3 Nat)) × ((List (Int × ((Vec 3 Nat) × (Int × (Int × Unit))))) × Unit)))))).bind fun y419 =>
  bif (! y419.1.1) then some ((false, ()), ()) else some ((true, ()), ())
noncomputable def laws_FnExactSameMission_sg : Sig := ⟨[.v (.pair (.int .i64) (.pair (.arr 3 (.flt .f32)) (.pair (.list (.arr 3 (.flt .f32))) (.pair (.list (.pair (.int .i64) (.pair (.arr 3 (.flt .f32)) (.pair (.int .i64) (.pair (.int .i64) (.unit)))))) (.unit))))), .v (.pair (.int .i64) (.pair (.arr 3 (.flt .f32)) (.pair (.list (.arr 3 (.flt .f32))) (.pair (.list (.pair (.int .i64) (.pair (.arr 3 (.flt .f32)) (.pair (.int .i64) (.pair (.int .i64) (.unit)))))) (.unit)))))], [.v (.val (.bool))], false⟩
noncomputable def laws_FnExactSameMission_en : Entry := ⟨laws_FnExactSameMission_sg, fun x => laws_FnExactSameMission x.1 x.2.1⟩
theorem laws_FnExactSameMission_eq (x : laws_FnExactSameMission_sg.dom) : body (env [(29, laws_szMission_en), (30, spec_SameMission_en), (31, laws_toMission_en), (32, impl_SameMission_en), (33, laws_eqMission_en)]) [] Try.f5 laws_FnExactSameMission_sg x = laws_FnExactSameMission x.1 x.2.1 := by kernel_rfl
theorem laws_FnExactSameMission_so : Sound Try.prog 5 laws_FnExactSameMission_en := sound_of_body (envS (l := [(29, laws_szMission_en), (30, spec_SameMission_en), (31, laws_toMission_en), (32, impl_SameMission_en), (33, laws_eqMission_en)]) (⟨laws_szMission_so, spec_SameMission_so, laws_toMission_so, impl_SameMission_so, laws_eqMission_so, trivial⟩)) Try.func5 (by kernel_rfl) rfl (fun x y h => (laws_FnExactSameMission_eq x).trans h)

-- loop.example/g01204/impl.RouteCost
noncomputable def impl_RouteCost (a0 : (Int × (Int × ((List Int) × Unit)))) (a1 : (List (Vec 2 Int))) : Option ((Int × Int × Unit) × Unit) :=
  (impl_ValidRoute a0 a1).bind fun y617 =>
  bif (! y617.1.1) then some (((0 : Int), (1 : Int), ()), ()) else
  (impl_Grid_routeCost a0 a1).bind fun y619 =>
  some ((y619.1.1, (0 : Int), ()), ())
noncomputable def impl_RouteCost_sg : Sig := ⟨[.v (.pair (.int .i64) (.pair (.int .i64) (.pair (.list (.int .u8)) (.unit)))), .v (.list (.arr 2 (.int .i16)))], [.v (.val (.int .i64)), .v (.val (.int .i64))], false⟩
noncomputable def impl_RouteCost_en : Entry := ⟨impl_RouteCost_sg, fun x => impl_RouteCost x.1 x.2.1⟩
theorem impl_RouteCost_eq (x : impl_RouteCost_sg.dom) : body (env [(20, impl_ValidRoute_en), (69, impl_Grid_routeCost_en)]) [] Try.f35 impl_RouteCost_sg x = impl_RouteCost x.1 x.2.1 := by kernel_rfl
theorem impl_RouteCost_so : Sound Try.prog 35 impl_RouteCost_en := sound_of_body (envS (l := [(20, impl_ValidRoute_en), (69, impl_Grid_routeCost_en)]) (⟨impl_ValidRoute_so, impl_Grid_routeCost_so, trivial⟩)) Try.func35 (by kernel_rfl) rfl (fun x y h => (impl_RouteCost_eq x).trans h)

-- loop.example/g01204/spec.RouteCost
noncomputable def spec_RouteCost (a0 : (Int × (Int × ((List Int) × Unit)))) (a1 : (List (Vec 2 Int))) : Option ((Int × Int × Unit) × Unit) :=
  (spec_l07Route a0 a1).bind fun y620 =>
  bif (! y620.1.2.1) then some (((0 : Int), (1 : Int), ()), ()) else some ((y620.1.1, (0 : Int), ()), ())
noncomputable def spec_RouteCost_sg : Sig := ⟨[.v (.pair (.int .i64) (.pair (.int .i64) (.pair (.list (.int .u8)) (.unit)))), .v (.list (.arr 2 (.int .i16)))], [.v (.val (.int .i64)), .v (.val (.int .i64))], false⟩
noncomputable def spec_RouteCost_en : Entry := ⟨spec_RouteCost_sg, fun x => spec_RouteCost x.1 x.2.1⟩
theorem spec_RouteCost_eq (x : spec_RouteCost_sg.dom) : body (env [(66, spec_l07Route_en)]) [] Try.f34 spec_RouteCost_sg x = spec_RouteCost x.1 x.2.1 := by kernel_rfl
theorem spec_RouteCost_so : Sound Try.prog 34 spec_RouteCost_en := sound_of_body (envS (l := [(66, spec_l07Route_en)]) (⟨spec_l07Route_so, trivial⟩)) Try.func34 (by kernel_rfl) rfl (fun x y h => (spec_RouteCost_eq x).trans h)

-- loop.example/g01204/laws.FnExactRouteCost
noncomputable def laws_FnExactRouteCost (a0 : (Int × (Int × ((List Int) × Unit)))) (a1 : (List (Vec 2 Int))) : Option ((Bool × Unit) × Unit) :=
  (laws_szGrid a0 (1048576 : Int)).bind fun y599 =>
  bif (iLt y599.1.1 0) then some ((true, ()), ()) else
  (laws_szSpotS a1 y599.1.1).bind fun y601 =>
  bif (iLt y601.1.1 0) then some ((true, ()), ()) else
  (laws_toGrid a0).bind fun y603 =>
  (laws_toSpotS a1).bind fun y604 =>
  (spec_RouteCost ((y603.1.1.1, y603.1.1.2.1, y603.1.1.2.2.1, y603.1.1.2.2.2) : (Int × (Int × ((List Int) × Unit)))) y604.1.1).bind fun y605 =>
  (laws_toGrid a0).bind fun y606 =>
  (laws_toSpotS a1).bind fun y607 =>
  (impl_RouteCost ((y606.1.1.1, y606.1.1.2.1, y606.1.1.2.2.1, y606.1.1.2.2.2) : (Int × (Int × ((List Int) × Unit)))) y607.1.1).bind fun y608 =>
  bif (! (iEq y608.1.1 y605.1.1)) then some ((false, ()), ()) else
  bif (! (iEq y608.1.2.1 y605.1.2.1)) then some ((false, ()), ()) else
  (laws_toGrid a0).bind fun y611 =>
  (laws_eqGrid ((y606.1.1.1, y606.1.1.2.1, y606.1.1.2.2.1, y606.1.1.2.2.2) : (Int × (Int × ((List Int) × Unit)))) ((y611.1.1.1, y611.1.1.2.1, y611.1.1.2.2.1, y611.1.1.2.2.2) : (Int × (Int × ((List Int) × Unit))))).bind fun y612 =>
  bif (! y612.1.1) then some ((false, ()), ()) else
  (laws_toSpotS a1).bind fun y614 =>
  (laws_eqSpotS y607.1.1 y614.1.1).bind fun y615 =>
  bif (! y615.1.1) then some ((false, ()), ()) else some ((true, ()), ())
noncomputable def laws_FnExactRouteCost_sg : Sig := ⟨[.v (.pair (.int .i64) (.pair (.int .i64) (.pair (.list (.int .u8)) (.unit)))), .v (.list (.arr 2 (.int .i16)))], [.v (.val (.bool))], false⟩
noncomputable def laws_FnExactRouteCost_en : Entry := ⟨laws_FnExactRouteCost_sg, fun x => laws_FnExactRouteCost x.1 x.2.1⟩
theorem laws_FnExactRouteCost_eq (x : laws_FnExactRouteCost_sg.dom) : body (env [(15, laws_szGrid_en), (16, laws_szSpotS_en), (18, laws_toGrid_en), (19, laws_toSpotS_en), (21, laws_eqGrid_en), (22, laws_eqSpotS_en), (34, spec_RouteCost_en), (35, impl_RouteCost_en)]) [] Try.f6 laws_FnExactRouteCost_sg x = laws_FnExactRouteCost x.1 x.2.1 := by kernel_rfl
theorem laws_FnExactRouteCost_so : Sound Try.prog 6 laws_FnExactRouteCost_en := sound_of_body (envS (l := [(15, laws_szGrid_en), (16, laws_szSpotS_en), (18, laws_toGrid_en), (19, laws_toSpotS_en), (21, laws_eqGrid_en), (22, laws_eqSpotS_en), (34, spec_RouteCost_en), (35, impl_RouteCost_en)]) (⟨laws_szGrid_so, laws_szSpotS_so, laws_toGrid_so, laws_toSpotS_so, laws_eqGrid_so, laws_eqSpotS_so, spec_RouteCost_so, impl_RouteCost_so, trivial⟩)) Try.func6 (by kernel_rfl) rfl (fun x y h => (laws_FnExactRouteCost_eq x).trans h)

-- loop.example/g01204/impl.IsFiniteVec
noncomputable def impl_IsFiniteVec (a0 : (Vec 3 Nat)) : Option ((Bool × Unit) × Unit) :=
  (impl_isFinite ([Vec.getD 3 a0 0 (0 : Nat), Vec.getD 3 a0 1 (0 : Nat), Vec.getD 3 a0 2 (0 : Nat)] : (List Nat))).bind fun y650 =>
  some ((y650.1.1, ()), ())
noncomputable def impl_IsFiniteVec_sg : Sig := ⟨[.v (.arr 3 (.flt .f32))], [.v (.val (.bool))], false⟩
noncomputable def impl_IsFiniteVec_en : Entry := ⟨impl_IsFiniteVec_sg, fun x => impl_IsFiniteVec x.1⟩
theorem impl_IsFiniteVec_eq (x : impl_IsFiniteVec_sg.dom) : body (env [(108, impl_isFinite_en)]) [] Try.f94 impl_IsFiniteVec_sg x = impl_IsFiniteVec x.1 := by kernel_rfl
theorem impl_IsFiniteVec_so : Sound Try.prog 94 impl_IsFiniteVec_en := sound_of_body (envS (l := [(108, impl_isFinite_en)]) (⟨impl_isFinite_so, trivial⟩)) Try.func94 (by kernel_rfl) rfl (fun x y h => (impl_IsFiniteVec_eq x).trans h)

-- loop.example/g01204/impl.ticksOf
noncomputable def impl_ticksOf_l3 (a0 : (Int × ((Vec 3 Nat) × ((List (Vec 3 Nat)) × ((List (Int × ((Vec 3 Nat) × (Int × (Int × Unit))))) × Unit))))) (s651 : (Int × Int × Unit)) : Option ((Int × Int × Unit) ⊕ ((Int × Unit) × Unit)) :=
  bif (iLt s651.2.1 (lenI a0.2.2.2.1)) then
    bif inB s651.2.1 (List.length a0.2.2.2.1) then
      some (Sum.inl ((iAdd .i64 s651.1 (List.getD a0.2.2.2.1 s651.2.1.toNat ((0, (0, 0, 0, ()), 0, 0, ()) : (Int × ((Vec 3 Nat) × (Int × (Int × Unit)))))).1), (iAdd .i64 s651.2.1 1), ()))
    else none
  else
  Option.map Sum.inr (some ((s651.1, ()), ()))
noncomputable def impl_ticksOf (a0 : (Int × ((Vec 3 Nat) × ((List (Vec 3 Nat)) × ((List (Int × ((Vec 3 Nat) × (Int × (Int × Unit))))) × Unit))))) : Option ((Int × Unit) × Unit) :=
  run (impl_ticksOf_l3 a0) ((0 : Int), (0 : Int), ())
noncomputable def impl_ticksOf_sg : Sig := ⟨[.v (.pair (.int .i64) (.pair (.arr 3 (.flt .f32)) (.pair (.list (.arr 3 (.flt .f32))) (.pair (.list (.pair (.int .i64) (.pair (.arr 3 (.flt .f32)) (.pair (.int .i64) (.pair (.int .i64) (.unit)))))) (.unit)))))], [.v (.val (.int .i64))], false⟩
noncomputable def impl_ticksOf_en : Entry := ⟨impl_ticksOf_sg, fun x => impl_ticksOf x.1⟩
theorem impl_ticksOf_eq (x : impl_ticksOf_sg.dom) : body (env []) [(3, .vary [(3, .sc (.int .i64)), (9, .sc (.int .i64))])] Try.f95 impl_ticksOf_sg x = impl_ticksOf x.1 := by kernel_rfl
theorem impl_ticksOf_so : Sound Try.prog 95 impl_ticksOf_en := sound_of_body (envS (l := []) (trivial)) Try.func95 (by kernel_rfl) rfl (fun x y h => (impl_ticksOf_eq x).trans h)

-- loop.example/g01204/impl.validFrame$1
noncomputable def impl_validFrame_1 (a0 : (Vec 3 Nat)) : Option ((Bool × Unit) × Unit) :=
  (impl_IsFiniteVec a0).bind fun y662 =>
  some (((! y662.1.1), ()), ())
noncomputable def impl_validFrame_1_sg : Sig := ⟨[.v (.arr 3 (.flt .f32))], [.v (.val (.bool))], false⟩
noncomputable def impl_validFrame_1_en : Entry := ⟨impl_validFrame_1_sg, fun x => impl_validFrame_1 x.1⟩
theorem impl_validFrame_1_eq (x : impl_validFrame_1_sg.dom) : body (env [(94, impl_IsFiniteVec_en)]) [] Try.f145 impl_validFrame_1_sg x = impl_validFrame_1 x.1 := by kernel_rfl
theorem impl_validFrame_1_so : Sound Try.prog 145 impl_validFrame_1_en := sound_of_body (envS (l := [(94, impl_IsFiniteVec_en)]) (⟨impl_IsFiniteVec_so, trivial⟩)) Try.func145 (by kernel_rfl) rfl (fun x y h => (impl_validFrame_1_eq x).trans h)

-- slices.IndexFunc[[]loop.example/g01204/impl.Vec,loop.example/g01204/impl.Vec]
noncomputable def slices_IndexFunc_impl_Vec_l2 (a0 : (List (Vec 3 Nat))) (a1 : (((Vec 3 Nat) × Unit) → Option Bool)) (s666 : (Int × Unit)) : Option ((Int × Unit) ⊕ ((Int × Unit) × Unit)) :=
  bif (iLt s666.1 (lenI a0)) then
    bif inB s666.1 (List.length a0) then
      (a1 ((List.getD a0 s666.1.toNat ((0, 0, 0, ()) : (Vec 3 Nat))), ())).bind fun y669 =>
      bif y669 then
        Option.map Sum.inr (some ((s666.1, ()), ()))
      else
      some (Sum.inl ((iAdd .i64 s666.1 1), ()))
    else none
  else
  Option.map Sum.inr (some ((((-1 : Int) : Int), ()), ()))
noncomputable def slices_IndexFunc_impl_Vec (a0 : (List (Vec 3 Nat))) (a1 : (((Vec 3 Nat) × Unit) → Option Bool)) : Option ((Int × Unit) × Unit) :=
  run (slices_IndexFunc_impl_Vec_l2 a0 a1) ((0 : Int), ())
noncomputable def slices_IndexFunc_impl_Vec_sg : Sig := ⟨[.v (.list (.arr 3 (.flt .f32))), .fn ⟨[.arr 3 (.flt .f32)], .bool⟩], [.v (.val (.int .i64))], false⟩
noncomputable def slices_IndexFunc_impl_Vec_en : Entry := ⟨slices_IndexFunc_impl_Vec_sg, fun x => slices_IndexFunc_impl_Vec x.1 x.2.1⟩
theorem slices_IndexFunc_impl_Vec_eq (x : slices_IndexFunc_impl_Vec_sg.dom) : body (env []) [(2, .vary [(8, .sc (.int .i64))])] Try.f174 slices_IndexFunc_impl_Vec_sg x = slices_IndexFunc_impl_Vec x.1 x.2.1 := by kernel_rfl
theorem slices_IndexFunc_impl_Vec_so : Sound Try.prog 174 slices_IndexFunc_impl_Vec_en := sound_of_body (envS (l := []) (trivial)) Try.func174 (by kernel_rfl) rfl (fun x y h => (slices_IndexFunc_impl_Vec_eq x).trans h)

-- slices.ContainsFunc[[]loop.example/g01204/impl.Vec,loop.example/g01204/impl.Vec]
noncomputable def slices_ContainsFunc_impl_Vec (a0 : (List (Vec 3 Nat))) (a1 : (((Vec 3 Nat) × Unit) → Option Bool)) : Option ((Bool × Unit) × Unit) :=
  (slices_IndexFunc_impl_Vec a0 a1).bind fun y664 =>
  some (((iLe 0 y664.1.1), ()), ())
noncomputable def slices_ContainsFunc_impl_Vec_sg : Sig := ⟨[.v (.list (.arr 3 (.flt .f32))), .fn ⟨[.arr 3 (.flt .f32)], .bool⟩], [.v (.val (.bool))], false⟩
noncomputable def slices_ContainsFunc_impl_Vec_en : Entry := ⟨slices_ContainsFunc_impl_Vec_sg, fun x => slices_ContainsFunc_impl_Vec x.1 x.2.1⟩
theorem slices_ContainsFunc_impl_Vec_eq (x : slices_ContainsFunc_impl_Vec_sg.dom) : body (env [(174, slices_IndexFunc_impl_Vec_en)]) [] Try.f144 slices_ContainsFunc_impl_Vec_sg x = slices_ContainsFunc_impl_Vec x.1 x.2.1 := by kernel_rfl
theorem slices_ContainsFunc_impl_Vec_so : Sound Try.prog 144 slices_ContainsFunc_impl_Vec_en := sound_of_body (envS (l := [(174, slices_IndexFunc_impl_Vec_en)]) (⟨slices_IndexFunc_impl_Vec_so, trivial⟩)) Try.func144 (by kernel_rfl) rfl (fun x y h => (slices_ContainsFunc_impl_Vec_eq x).trans h)

-- loop.example/g01204/impl.validFrame
noncomputable def impl_validFrame (a0 : Int) (a1 : (Vec 3 Nat)) (a2 : (List (Vec 3 Nat))) : Option ((Bool × Unit) × Unit) :=
  (impl_within a0 (1 : Int) (64 : Int)).bind fun y656 =>
  bif y656.1.1 then
    (impl_IsFiniteVec a1).bind fun y657 =>
    bif y657.1.1 then
      bif (iLe (lenI a2) 6) then
        (slices_ContainsFunc_impl_Vec a2 (fun (z659 : ((Vec 3 Nat) × Unit)) => (impl_validFrame_1 z659.1).map fun y => y.1.1)).bind fun y660 =>
        some (((! y660.1.1), ()), ())
      else some ((false, ()), ())
    else some ((false, ()), ())
  else some ((false, ()), ())
noncomputable def impl_validFrame_sg : Sig := ⟨[.v (.int .i64), .v (.arr 3 (.flt .f32)), .v (.list (.arr 3 (.flt .f32)))], [.v (.val (.bool))], false⟩
noncomputable def impl_validFrame_en : Entry := ⟨impl_validFrame_sg, fun x => impl_validFrame x.1 x.2.1 x.2.2.1⟩
theorem impl_validFrame_eq (x : impl_validFrame_sg.dom) : body (env [(93, impl_within_en), (94, impl_IsFiniteVec_en), (144, slices_ContainsFunc_impl_Vec_en), (145, impl_validFrame_1_en)]) [] Try.f92 impl_validFrame_sg x = impl_validFrame x.1 x.2.1 x.2.2.1 := by kernel_rfl
theorem impl_validFrame_so : Sound Try.prog 92 impl_validFrame_en := sound_of_body (envS (l := [(93, impl_within_en), (94, impl_IsFiniteVec_en), (144, slices_ContainsFunc_impl_Vec_en), (145, impl_validFrame_1_en)]) (⟨impl_within_so, impl_IsFiniteVec_so, slices_ContainsFunc_impl_Vec_so, impl_validFrame_1_so, trivial⟩)) Try.func92 (by kernel_rfl) rfl (fun x y h => (impl_validFrame_eq x).trans h)

-- loop.example/g01204/impl.ValidMission
noncomputable def impl_ValidMission_l4 (a0 : (Int × ((Vec 3 Nat) × ((List (Vec 3 Nat)) × ((List (Int × ((Vec 3 Nat) × (Int × (Int × Unit))))) × Unit))))) (s635 : (Int × Unit)) : Option ((Int × Unit) ⊕ ((Bool × Unit) × Unit)) :=
  bif (iLt s635.1 (lenI a0.2.2.2.1)) then
    bif inB s635.1 (List.length a0.2.2.2.1) then
      let x637 := List.getD a0.2.2.2.1 s635.1.toNat ((0, (0, 0, 0, ()), 0, 0, ()) : (Int × ((Vec 3 Nat) × (Int × (Int × Unit)))))
      (impl_within x637.1 (1 : Int) (400 : Int)).bind fun y638 =>
      bif (! y638.1.1) then
        Option.map Sum.inr (some ((false, ()), ()))
      else
      (impl_IsFiniteVec x637.2.1).bind fun y640 =>
      bif (! y640.1.1) then
        Option.map Sum.inr (some ((false, ()), ()))
      else
      (impl_within x637.2.2.1 (0 : Int) (400 : Int)).bind fun y642 =>
      bif (! y642.1.1) then
        Option.map Sum.inr (some ((false, ()), ()))
      else
      (impl_within x637.2.2.2.1 ((-1 : Int) : Int) (iSub .i64 (lenI a0.2.2.1) 1)).bind fun y645 =>
      bif (! y645.1.1) then
        Option.map Sum.inr (some ((false, ()), ()))
      else
      some (Sum.inl ((iAdd .i64 s635.1 1), ()))
    else none
  else
  Option.map Sum.inr (
    (impl_ticksOf a0).bind fun y648 =>
    some (((iLe y648.1.1 400), ()), ()))
noncomputable def impl_ValidMission (a0 : (Int × ((Vec 3 Nat) × ((List (Vec 3 Nat)) × ((List (Int × ((Vec 3 Nat) × (Int × (Int × Unit))))) × Unit))))) : Option ((Bool × Unit) × Unit) :=
  (impl_validFrame a0.1 a0.2.1 a0.2.2.1).bind fun y632 =>
  bif (! y632.1.1) then some ((false, ()), ()) else
  bif (iLt 64 (lenI a0.2.2.2.1)) then some ((false, ()), ()) else run (impl_ValidMission_l4 a0) ((0 : Int), ())
noncomputable def impl_ValidMission_sg : Sig := ⟨[.v (.pair (.int .i64) (.pair (.arr 3 (.flt .f32)) (.pair (.list (.arr 3 (.flt .f32))) (.pair (.list (.pair (.int .i64) (.pair (.arr 3 (.flt .f32)) (.pair (.int .i64) (.pair (.int .i64) (.unit)))))) (.unit)))))], [.v (.val (.bool))], false⟩
noncomputable def impl_ValidMission_en : Entry := ⟨impl_ValidMission_sg, fun x => impl_ValidMission x.1⟩
theorem impl_ValidMission_eq (x : impl_ValidMission_sg.dom) : body (env [(92, impl_validFrame_en), (93, impl_within_en), (94, impl_IsFiniteVec_en), (95, impl_ticksOf_en)]) [(4, .vary [(22, .sc (.int .i64))])] Try.f37 impl_ValidMission_sg x = impl_ValidMission x.1 := by kernel_rfl
theorem impl_ValidMission_so : Sound Try.prog 37 impl_ValidMission_en := sound_of_body (envS (l := [(92, impl_validFrame_en), (93, impl_within_en), (94, impl_IsFiniteVec_en), (95, impl_ticksOf_en)]) (⟨impl_validFrame_so, impl_within_so, impl_IsFiniteVec_so, impl_ticksOf_so, trivial⟩)) Try.func37 (by kernel_rfl) rfl (fun x y h => (impl_ValidMission_eq x).trans h)

end Go.Proofs.Ytpblnidbjglgmaa
