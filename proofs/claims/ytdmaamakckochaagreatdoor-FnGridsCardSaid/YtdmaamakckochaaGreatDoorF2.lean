import Derived.Test.YtdmaamakckochaaGreatDoorF1
/- Functions on typed data: what the evaluation of each Go function is, and that it is sound. -/
namespace Go.Proofs.YtdmaamakckochaaGreatDoor
open Go Go.Tm
set_option linter.unusedVariables false
set_option maxRecDepth 100000
-- loop.example/g01204/spec.l05Drawn
noncomputable def spec_l05Drawn_l3 (s1029 : (Int × ((List Int) × (Int × (Int × Unit))) × (Nat × ((List ((Vec 3 Int) × ((Vec 3 Nat) × (Nat × (Int × (Int × Unit)))))) × Unit)) × Unit)) : Option ((Int × ((List Int) × (Int × (Int × Unit))) × (Nat × ((List ((Vec 3 Int) × ((Vec 3 Nat) × (Nat × (Int × (Int × Unit)))))) × Unit)) × Unit) ⊕ (((Nat × ((List ((Vec 3 Int) × ((Vec 3 Nat) × (Nat × (Int × (Int × Unit)))))) × Unit)) × Unit) × (((List Int) × (Int × (Int × Unit))) × Unit))) :=
  bif (iLt 0 s1029.1) then
    (spec_l00Src_pick s1029.2.1 (33 : Int)).bind fun y1031 =>
    (spec_l00Src_pick y1031.2.1 (9 : Int)).bind fun y1035 =>
    (spec_l00Src_pick y1035.2.1 (5 : Int)).bind fun y1039 =>
    (spec_l00Src_pick y1039.2.1 (8 : Int)).bind fun y1043 =>
    (spec_l00Src_pick y1043.2.1 (9 : Int)).bind fun y1047 =>
    (spec_l00Src_pick y1047.2.1 (20 : Int)).bind fun y1050 =>
    (spec_l05See s1029.2.2.1 (((fDiv .f32 (fOfInt .f32 (iSub .i64 y1031.1.1 16)) 1082130432), (fDiv .f32 (fOfInt .f32 (iSub .i64 y1035.1.1 4)) 1082130432), (fDiv .f32 (fOfInt .f32 (iSub .i64 y1039.1.1 2)) 1073741824), ()) : (Vec 3 Nat)) (fDiv .f32 (fOfInt .f32 (iAdd .i64 1 y1043.1.1)) 1082130432) y1050.1.1 (fDiv .f32 (fOfInt .f32 y1047.1.1) 1090519040)).bind fun y1051 =>
    bif (iEq y1051.1.2.2.2.1 0) then
      some (Sum.inl ((iSub .i64 s1029.1 1), y1050.2.1, y1051.1.1, ()))
    else
    some (Sum.inl ((iSub .i64 s1029.1 1), y1050.2.1, y1051.2.1, ()))
  else
  Option.map Sum.inr (some ((s1029.2.2.1, ()), (s1029.2.1, ())))
noncomputable def spec_l05Drawn (a0 : ((List Int) × (Int × (Int × Unit)))) (a1 : Nat) : Option (((Nat × ((List ((Vec 3 Int) × ((Vec 3 Nat) × (Nat × (Int × (Int × Unit)))))) × Unit)) × Unit) × (((List Int) × (Int × (Int × Unit))) × Unit)) :=
  (spec_l00Src_pick a0 (9 : Int)).bind fun y978 =>
  run (spec_l05Drawn_l3) (y978.1.1, y978.2.1, ((a1, [], ()) : (Nat × ((List ((Vec 3 Int) × ((Vec 3 Nat) × (Nat × (Int × (Int × Unit)))))) × Unit))), ())
noncomputable def spec_l05Drawn_sg : Sig := ⟨[.io (.val (.pair (.list (.int .u8)) (.pair (.int .i64) (.pair (.int .u64) (.unit))))), .v (.flt .f32)], [.v (.val (.pair (.flt .f32) (.pair (.list (.pair (.arr 3 (.int .i32)) (.pair (.arr 3 (.flt .f32)) (.pair (.flt .f32) (.pair (.int .i64) (.pair (.int .i64) (.unit))))))) (.unit))))], true⟩
noncomputable def spec_l05Drawn_en : Entry := ⟨spec_l05Drawn_sg, fun x => spec_l05Drawn x.1 x.2.1⟩
theorem spec_l05Drawn_eq {G : List (Nat × Obj)} (x : spec_l05Drawn_sg.dom) : body (env G [(40, spec_l00Src_pick_en), (116, spec_l05See_en)]) [(3, .vary [(6, .sc (.int .i64)), (0, .box (.val (.pair (.list (.int .u8)) (.pair (.int .i64) (.pair (.int .u64) (.unit)))))), (5, .box (.val (.pair (.flt .f32) (.pair (.list (.pair (.arr 3 (.int .i32)) (.pair (.arr 3 (.flt .f32)) (.pair (.flt .f32) (.pair (.int .i64) (.pair (.int .i64) (.unit))))))) (.unit)))))])] Tryz.f56 spec_l05Drawn_sg x = spec_l05Drawn x.1 x.2.1 := by kernel_rfl
theorem spec_l05Drawn_so {G : List (Nat × Obj)} : Sound Tryz.prog G 56 spec_l05Drawn_en := sound_of_body (envS (l := [(40, spec_l00Src_pick_en), (116, spec_l05See_en)]) (⟨(spec_l00Src_pick_so), (spec_l05See_so), trivial⟩)) Tryz.func56 (by kernel_rfl) rfl (fun x y h => (spec_l05Drawn_eq (G := G) x).trans h)

-- loop.example/g01204/spec.P6Map
noncomputable def spec_P6Map (a0 : (List Int)) (a1 : Nat) : Option (((Nat × ((List ((Vec 3 Int) × ((Vec 3 Nat) × (Nat × (Int × (Int × Unit)))))) × Unit)) × Unit) × Unit) :=
  (spec_l00From a0).bind fun y976 =>
  (spec_l05Drawn y976.1.1 a1).bind fun y977 =>
  some ((y977.1.1, ()), ())
noncomputable def spec_P6Map_sg : Sig := ⟨[.v (.list (.int .u8)), .v (.flt .f32)], [.v (.val (.pair (.flt .f32) (.pair (.list (.pair (.arr 3 (.int .i32)) (.pair (.arr 3 (.flt .f32)) (.pair (.flt .f32) (.pair (.int .i64) (.pair (.int .i64) (.unit))))))) (.unit))))], true⟩
noncomputable def spec_P6Map_en : Entry := ⟨spec_P6Map_sg, fun x => spec_P6Map x.1 x.2.1⟩
theorem spec_P6Map_eq {G : List (Nat × Obj)} (x : spec_P6Map_sg.dom) : body (env G [(39, spec_l00From_en), (56, spec_l05Drawn_en)]) [] Tryz.f17 spec_P6Map_sg x = spec_P6Map x.1 x.2.1 := by kernel_rfl
theorem spec_P6Map_so {G : List (Nat × Obj)} : Sound Tryz.prog G 17 spec_P6Map_en := sound_of_body (envS (l := [(39, spec_l00From_en), (56, spec_l05Drawn_en)]) (⟨(spec_l00From_so), (spec_l05Drawn_so), trivial⟩)) Tryz.func17 (by kernel_rfl) rfl (fun x y h => (spec_P6Map_eq (G := G) x).trans h)

-- loop.example/g01204/spec.P6Spot
noncomputable def spec_P6Spot (a0 : (List Int)) (a1 : (Int × (Int × ((List Int) × Unit)))) : Option (((Vec 2 Int) × Unit) × Unit) :=
  (spec_l00From a0).bind fun y1288 =>
  (spec_l00Src_pick y1288.1.1 a1.1).bind fun y1289 =>
  (spec_l00Src_pick y1289.2.1 a1.2.1).bind fun y1291 =>
  some (((((iWrap .i16 y1289.1.1), (iWrap .i16 y1291.1.1), ()) : (Vec 2 Int)), ()), ())
noncomputable def spec_P6Spot_sg : Sig := ⟨[.v (.list (.int .u8)), .v (.pair (.int .i64) (.pair (.int .i64) (.pair (.list (.int .u8)) (.unit))))], [.v (.val (.arr 2 (.int .i16)))], false⟩
noncomputable def spec_P6Spot_en : Entry := ⟨spec_P6Spot_sg, fun x => spec_P6Spot x.1 x.2.1⟩
theorem spec_P6Spot_eq {G : List (Nat × Obj)} (x : spec_P6Spot_sg.dom) : body (env G [(39, spec_l00From_en), (40, spec_l00Src_pick_en)]) [] Tryz.f8 spec_P6Spot_sg x = spec_P6Spot x.1 x.2.1 := by kernel_rfl
theorem spec_P6Spot_so {G : List (Nat × Obj)} : Sound Tryz.prog G 8 spec_P6Spot_en := sound_of_body (envS (l := [(39, spec_l00From_en), (40, spec_l00Src_pick_en)]) (⟨(spec_l00From_so), (spec_l00Src_pick_so), trivial⟩)) Tryz.func8 (by kernel_rfl) rfl (fun x y h => (spec_P6Spot_eq (G := G) x).trans h)

-- loop.example/g01204/spec.SameGrid
noncomputable def spec_SameGrid (a0 : (Int × (Int × ((List Int) × Unit)))) (a1 : (Int × (Int × ((List Int) × Unit)))) : Option ((Bool × Unit) × Unit) :=
  bif (iEq a0.1 a1.1) then
    bif (iEq a0.2.1 a1.2.1) then
      some (((sEq (ofBytes a0.2.2.1) (ofBytes a1.2.2.1)), ()), ())
    else some ((false, ()), ())
  else some ((false, ()), ())
noncomputable def spec_SameGrid_sg : Sig := ⟨[.v (.pair (.int .i64) (.pair (.int .i64) (.pair (.list (.int .u8)) (.unit)))), .v (.pair (.int .i64) (.pair (.int .i64) (.pair (.list (.int .u8)) (.unit))))], [.v (.val (.bool))], false⟩
noncomputable def spec_SameGrid_en : Entry := ⟨spec_SameGrid_sg, fun x => spec_SameGrid x.1 x.2.1⟩
theorem spec_SameGrid_eq {G : List (Nat × Obj)} (x : spec_SameGrid_sg.dom) : body (env G []) [] Tryz.f11 spec_SameGrid_sg x = spec_SameGrid x.1 x.2.1 := by kernel_rfl
theorem spec_SameGrid_so {G : List (Nat × Obj)} : Sound Tryz.prog G 11 spec_SameGrid_en := sound_of_body (envS (l := []) (trivial)) Tryz.func11 (by kernel_rfl) rfl (fun x y h => (spec_SameGrid_eq (G := G) x).trans h)

-- loop.example/g01204/laws.FnGrids
noncomputable def laws_FnGrids_l30 (y67 : (((Int × (Int × ((List Int) × Unit))) × Int × Unit) × Unit)) (y66 : (((Int × (Int × ((List Int) × Unit))) × Int × Unit) × Unit)) (y65 : (((Nat × ((List ((Vec 3 Int) × ((Vec 3 Nat) × (Nat × (Int × (Int × Unit)))))) × Unit)) × Unit) × Unit)) (s68 : (Int × Int × Unit)) : Option ((Int × Int × Unit) ⊕ ((Bool × Unit) × Unit)) :=
  bif (iLt s68.2.1 (lenI y67.1.1.2.2.1)) then
    bif inB s68.2.1 (List.length y67.1.1.2.2.1) then
      bif (iEq (List.getD y67.1.1.2.2.1 s68.2.1.toNat (0 : Int)) 255) then
        some (Sum.inl ((iAdd .i64 s68.1 1), (iAdd .i64 s68.2.1 1), ()))
      else
      some (Sum.inl (s68.1, (iAdd .i64 s68.2.1 1), ()))
    else none
  else
  Option.map Sum.inr (
    bif (iEq y66.1.2.1 y67.1.2.1) then
      bif (iEq y66.1.2.1 0) then
        (spec_SameGrid ((y66.1.1.1, y66.1.1.2.1, y66.1.1.2.2.1, y66.1.1.2.2.2) : (Int × (Int × ((List Int) × Unit)))) ((y67.1.1.1, y67.1.1.2.1, y67.1.1.2.2.1, y67.1.1.2.2.2) : (Int × (Int × ((List Int) × Unit))))).bind fun y77 =>
        bif y77.1.1 then
          some (((iLe s68.1 (lenI y65.1.1.2.1)), ()), ())
        else some ((false, ()), ())
      else some ((false, ()), ())
    else some ((false, ()), ()))
noncomputable def laws_FnGrids_l21 (y31 : (((Int × (Int × ((List Int) × Unit))) × Int × Unit) × Unit)) (y32 : (((Int × (Int × ((List Int) × Unit))) × Int × Unit) × Unit)) (a1 : (List Int)) (s45 : (Int × Unit)) : Option ((Int × Unit) ⊕ ((Bool × Unit) × Unit)) :=
  bif (iLt s45.1 (lenI y31.1.1.2.2.1)) then
    bif inB s45.1 (List.length y31.1.1.2.2.1) then
      bif (iEq (List.getD y31.1.1.2.2.1 s45.1.toNat (0 : Int)) 255) then
        bif inB s45.1 (List.length y32.1.1.2.2.1) then
          bif (! (iEq (List.getD y32.1.1.2.2.1 s45.1.toNat (0 : Int)) 255)) then
            Option.map Sum.inr (some ((false, ()), ()))
          else
          bif inB s45.1 (List.length y32.1.1.2.2.1) then
            bif (! (iEq (List.getD y32.1.1.2.2.1 s45.1.toNat (0 : Int)) 255)) then
              bif inB s45.1 (List.length y32.1.1.2.2.1) then
                bif inB s45.1 (List.length y31.1.1.2.2.1) then
                  bif (! (iEq (List.getD y32.1.1.2.2.1 s45.1.toNat (0 : Int)) (List.getD y31.1.1.2.2.1 s45.1.toNat (0 : Int)))) then
                    Option.map Sum.inr (some ((false, ()), ()))
                  else
                  some (Sum.inl ((iAdd .i64 s45.1 1), ()))
                else none
              else none
            else
            some (Sum.inl ((iAdd .i64 s45.1 1), ()))
          else none
        else none
      else
      bif inB s45.1 (List.length y32.1.1.2.2.1) then
        bif (! (iEq (List.getD y32.1.1.2.2.1 s45.1.toNat (0 : Int)) 255)) then
          bif inB s45.1 (List.length y32.1.1.2.2.1) then
            bif inB s45.1 (List.length y31.1.1.2.2.1) then
              bif (! (iEq (List.getD y32.1.1.2.2.1 s45.1.toNat (0 : Int)) (List.getD y31.1.1.2.2.1 s45.1.toNat (0 : Int)))) then
                Option.map Sum.inr (some ((false, ()), ()))
              else
              some (Sum.inl ((iAdd .i64 s45.1 1), ()))
            else none
          else none
        else
        some (Sum.inl ((iAdd .i64 s45.1 1), ()))
      else none
    else none
  else
  Option.map Sum.inr (
    (spec_P6Map a1 (1065353216 : Nat)).bind fun y65 =>
    (impl_GridOfMarks y65.1.1 (12 : Int) (6 : Int) ((3229614080, 3212836864, ()) : (Vec 2 Nat)) (1061158912 : Nat)).bind fun y66 =>
    (spec_GridOfMarks y65.1.1 (12 : Int) (6 : Int) ((3229614080, 3212836864, ()) : (Vec 2 Nat)) (1061158912 : Nat)).bind fun y67 =>
    run (laws_FnGrids_l30 y67 y66 y65) ((0 : Int), (0 : Int), ()))
noncomputable def laws_FnGrids_l6 (y4 : (((Vec 2 Int) × Unit) × Unit)) (a1 : (List Int)) (s13 : (Int × (Int × (Int × ((List Int) × Unit))) × Unit)) : Option ((Int × (Int × (Int × ((List Int) × Unit))) × Unit) ⊕ ((Bool × Unit) × Unit)) :=
  bif (iLt s13.1 (lenI s13.2.1.2.2.1)) then
    bif inB s13.1 (List.length s13.2.1.2.2.1) then
      bif (! (iEq (List.getD s13.2.1.2.2.1 s13.1.toNat (0 : Int)) 255)) then
        bif inB s13.1 (List.length s13.2.1.2.2.1) then
          bif inB s13.1 (List.length s13.2.1.2.2.1) then
            some (Sum.inl ((iAdd .i64 s13.1 1), ((s13.2.1.1, s13.2.1.2.1, List.set s13.2.1.2.2.1 s13.1.toNat (iMul .u8 (iQuo .u8 (List.getD s13.2.1.2.2.1 s13.1.toNat (0 : Int)) 30) 10), s13.2.1.2.2.2) : (Int × (Int × ((List Int) × Unit)))), ()))
          else none
        else none
      else
      some (Sum.inl ((iAdd .i64 s13.1 1), ((s13.2.1.1, s13.2.1.2.1, s13.2.1.2.2.1, s13.2.1.2.2.2) : (Int × (Int × ((List Int) × Unit)))), ()))
    else none
  else
  Option.map Sum.inr (
    (impl_GridText ((s13.2.1.1, s13.2.1.2.1, s13.2.1.2.2.1, s13.2.1.2.2.2) : (Int × (Int × ((List Int) × Unit))))).bind fun y22 =>
    (impl_ReadGrid y22.1.1).bind fun y23 =>
    bif (! (iEq y23.1.2.1 0)) then some ((false, ()), ()) else
    (spec_SameGrid ((y23.1.1.1, y23.1.1.2.1, y23.1.1.2.2.1, y23.1.1.2.2.2) : (Int × (Int × ((List Int) × Unit)))) ((s13.2.1.1, s13.2.1.2.1, s13.2.1.2.2.1, s13.2.1.2.2.2) : (Int × (Int × ((List Int) × Unit))))).bind fun y25 =>
    bif (! y25.1.1) then some ((false, ()), ()) else
    (impl_SameGrid ((y23.1.1.1, y23.1.1.2.1, y23.1.1.2.2.1, y23.1.1.2.2.2) : (Int × (Int × ((List Int) × Unit)))) ((s13.2.1.1, s13.2.1.2.1, s13.2.1.2.2.1, s13.2.1.2.2.2) : (Int × (Int × ((List Int) × Unit))))).bind fun y27 =>
    bif (! y27.1.1) then some ((false, ()), ()) else
    (impl_ValidGrid ((s13.2.1.1, s13.2.1.2.1, s13.2.1.2.2.1, s13.2.1.2.2.2) : (Int × (Int × ((List Int) × Unit))))).bind fun y29 =>
    bif (! y29.1.1) then some ((false, ()), ()) else
    (impl_WithCost ((s13.2.1.1, s13.2.1.2.1, s13.2.1.2.2.1, s13.2.1.2.2.2) : (Int × (Int × ((List Int) × Unit)))) y4.1.1 (255 : Int)).bind fun y31 =>
    (impl_GrowWalls ((y31.1.1.1, y31.1.1.2.1, y31.1.1.2.2.1, y31.1.1.2.2.2) : (Int × (Int × ((List Int) × Unit)))) (1 : Int)).bind fun y32 =>
    (impl_GrowWalls ((y32.1.1.1, y32.1.1.2.1, y32.1.1.2.2.1, y32.1.1.2.2.2) : (Int × (Int × ((List Int) × Unit)))) (1 : Int)).bind fun y33 =>
    (impl_GrowWalls ((y31.1.1.1, y31.1.1.2.1, y31.1.1.2.2.1, y31.1.1.2.2.2) : (Int × (Int × ((List Int) × Unit)))) (2 : Int)).bind fun y34 =>
    (spec_GrowWalls ((y31.1.1.1, y31.1.1.2.1, y31.1.1.2.2.1, y31.1.1.2.2.2) : (Int × (Int × ((List Int) × Unit)))) (1 : Int)).bind fun y35 =>
    bif (! (iEq y31.1.2.1 0)) then some ((false, ()), ()) else
    bif (! (iEq y32.1.2.1 y35.1.2.1)) then some ((false, ()), ()) else
    bif (! (iEq y32.1.2.1 0)) then some ((false, ()), ()) else
    (spec_SameGrid ((y32.1.1.1, y32.1.1.2.1, y32.1.1.2.2.1, y32.1.1.2.2.2) : (Int × (Int × ((List Int) × Unit)))) ((y35.1.1.1, y35.1.1.2.1, y35.1.1.2.2.1, y35.1.1.2.2.2) : (Int × (Int × ((List Int) × Unit))))).bind fun y39 =>
    bif (! y39.1.1) then some ((false, ()), ()) else
    bif (! (iEq y33.1.2.1 0)) then some ((false, ()), ()) else
    bif (! (iEq y34.1.2.1 0)) then some ((false, ()), ()) else
    (spec_SameGrid ((y33.1.1.1, y33.1.1.2.1, y33.1.1.2.2.1, y33.1.1.2.2.2) : (Int × (Int × ((List Int) × Unit)))) ((y34.1.1.1, y34.1.1.2.1, y34.1.1.2.2.1, y34.1.1.2.2.2) : (Int × (Int × ((List Int) × Unit))))).bind fun y43 =>
    bif (! y43.1.1) then some ((false, ()), ()) else run (laws_FnGrids_l21 y31 y32 a1) ((0 : Int), ()))
noncomputable def laws_FnGrids (a0 : (List Int)) (a1 : (List Int)) : Option ((Bool × Unit) × Unit) :=
  (laws_f6big a0).bind fun y1 =>
  bif y1.1.1 then some ((true, ()), ()) else
  (laws_f6big a1).bind fun y2 =>
  bif y2.1.1 then some ((true, ()), ()) else
  (spec_P6Grid a0).bind fun y3 =>
  (spec_P6Spot a1 ((y3.1.1.1, y3.1.1.2.1, y3.1.1.2.2.1, y3.1.1.2.2.2) : (Int × (Int × ((List Int) × Unit))))).bind fun y4 =>
  run (laws_FnGrids_l6 y4 a1) ((0 : Int), ((y3.1.1.1, y3.1.1.2.1, y3.1.1.2.2.1, y3.1.1.2.2.2) : (Int × (Int × ((List Int) × Unit)))), ())
noncomputable def laws_FnGrids_sg : Sig := ⟨[.v (.list (.int .u8)), .v (.list (.int .u8))], [.v (.val (.bool))], false⟩
noncomputable def laws_FnGrids_en : Entry := ⟨laws_FnGrids_sg, fun x => laws_FnGrids x.1 x.2.1⟩
theorem laws_FnGrids_eq {G : List (Nat × Obj)} (x : laws_FnGrids_sg.dom) : body (env G [(6, laws_f6big_en), (7, spec_P6Grid_en), (8, spec_P6Spot_en), (9, impl_ReadGrid_en), (10, impl_GridText_en), (11, spec_SameGrid_en), (12, impl_SameGrid_en), (13, impl_ValidGrid_en), (14, impl_WithCost_en), (15, impl_GrowWalls_en), (16, spec_GrowWalls_en), (17, spec_P6Map_en), (18, impl_GridOfMarks_en), (19, spec_GridOfMarks_en)]) [(6, .vary [(7, .sc (.int .i64)), (5, .box (.pair (.val (.int .i64)) (.pair (.val (.int .i64)) (.pair (.rows (.int .u8)) (.val (.unit))))))]), (21, .vary [(20, .sc (.int .i64))]), (30, .vary [(26, .sc (.int .i64)), (27, .sc (.int .i64))])] Tryz.f3 laws_FnGrids_sg x = laws_FnGrids x.1 x.2.1 := by kernel_rfl
theorem laws_FnGrids_so {G : List (Nat × Obj)} (mx : GMax 1 G) : Sound Tryz.prog G 3 laws_FnGrids_en := sound_of_body (envS (l := [(6, laws_f6big_en), (7, spec_P6Grid_en), (8, spec_P6Spot_en), (9, impl_ReadGrid_en), (10, impl_GridText_en), (11, spec_SameGrid_en), (12, impl_SameGrid_en), (13, impl_ValidGrid_en), (14, impl_WithCost_en), (15, impl_GrowWalls_en), (16, spec_GrowWalls_en), (17, spec_P6Map_en), (18, impl_GridOfMarks_en), (19, spec_GridOfMarks_en)]) (⟨(laws_f6big_so), (spec_P6Grid_so), (spec_P6Spot_so), (impl_ReadGrid_so mx), (impl_GridText_so), (spec_SameGrid_so), (impl_SameGrid_so), (impl_ValidGrid_so), (impl_WithCost_so), (impl_GrowWalls_so), (spec_GrowWalls_so), (spec_P6Map_so), (impl_GridOfMarks_so), (spec_GridOfMarks_so), trivial⟩)) Tryz.func3 (by kernel_rfl) rfl (fun x y h => (laws_FnGrids_eq (G := G) x).trans h)

end Go.Proofs.YtdmaamakckochaaGreatDoor
