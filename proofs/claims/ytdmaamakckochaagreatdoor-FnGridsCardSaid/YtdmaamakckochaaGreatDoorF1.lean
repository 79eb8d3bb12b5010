import Derived.Test.YtdmaamakckochaaGreatDoorE
/- Functions on typed data: what the evaluation of each Go function is, and that it is sound. -/
namespace Go.Proofs.YtdmaamakckochaaGreatDoor
open Go Go.Tm
set_option linter.unusedVariables false
set_option maxRecDepth 100000
-- loop.example/g01204/impl.within
noncomputable def impl_within (a0 : Int) (a1 : Int) (a2 : Int) : Option ((Bool × Unit) × Unit) :=
  bif (iLe a1 a0) then
    some (((iLe a0 a2), ()), ())
  else some ((false, ()), ())
noncomputable def impl_within_sg : Sig := ⟨[.v (.int .i64), .v (.int .i64), .v (.int .i64)], [.v (.val (.bool))], false⟩
noncomputable def impl_within_en : Entry := ⟨impl_within_sg, fun x => impl_within x.1 x.2.1 x.2.2.1⟩
theorem impl_within_eq {G : List (Nat × Obj)} (x : impl_within_sg.dom) : body (env G []) [] Tryz.f45 impl_within_sg x = impl_within x.1 x.2.1 x.2.2.1 := by kernel_rfl
theorem impl_within_so {G : List (Nat × Obj)} : Sound Tryz.prog G 45 impl_within_en := sound_of_body (envS (l := []) (trivial)) Tryz.func45 (by kernel_rfl) rfl (fun x y h => (impl_within_eq (G := G) x).trans h)

-- loop.example/g01204/impl.EmptyGrid
noncomputable def impl_EmptyGrid (a0 : Int) (a1 : Int) : Option (((Int × (Int × ((List Int) × Unit))) × Int × Unit) × Unit) :=
  (impl_within a0 (1 : Int) (24 : Int)).bind fun y145 =>
  bif (! y145.1.1) then some ((((0, 0, [], ()) : (Int × (Int × ((List Int) × Unit)))), (2 : Int), ()), ()) else
  (impl_within a1 (1 : Int) (24 : Int)).bind fun y147 =>
  bif (! y147.1.1) then some ((((0, 0, [], ()) : (Int × (Int × ((List Int) × Unit)))), (2 : Int), ()), ()) else
  let x149 := iMul .i64 a0 a1
  bif (iLe 0 x149 && iLe x149 x149 && room x149.toNat 1) then some ((((a0, a1, List.replicate x149.toNat (0 : Int), ()) : (Int × (Int × ((List Int) × Unit)))), (0 : Int), ()), ()) else none
noncomputable def impl_EmptyGrid_sg : Sig := ⟨[.v (.int .i64), .v (.int .i64)], [.v (.pair (.val (.int .i64)) (.pair (.val (.int .i64)) (.pair (.rows (.int .u8)) (.val (.unit))))), .v (.val (.int .i64))], false⟩
noncomputable def impl_EmptyGrid_en : Entry := ⟨impl_EmptyGrid_sg, fun x => impl_EmptyGrid x.1 x.2.1⟩
theorem impl_EmptyGrid_eq {G : List (Nat × Obj)} (x : impl_EmptyGrid_sg.dom) : body (env G [(45, impl_within_en)]) [] Tryz.f58 impl_EmptyGrid_sg x = impl_EmptyGrid x.1 x.2.1 := by kernel_rfl
theorem impl_EmptyGrid_so {G : List (Nat × Obj)} : Sound Tryz.prog G 58 impl_EmptyGrid_en := sound_of_body (envS (l := [(45, impl_within_en)]) (⟨(impl_within_so), trivial⟩)) Tryz.func58 (by kernel_rfl) rfl (fun x y h => (impl_EmptyGrid_eq (G := G) x).trans h)

-- cmp.isNaN[int32]
noncomputable def cmp_isNaN_int32 (a0 : Int) : Option ((Bool × Unit) × Unit) :=
  some (((! (iEq a0 a0)), ()), ())
noncomputable def cmp_isNaN_int32_sg : Sig := ⟨[.v (.int .i32)], [.v (.val (.bool))], false⟩
noncomputable def cmp_isNaN_int32_en : Entry := ⟨cmp_isNaN_int32_sg, fun x => cmp_isNaN_int32 x.1⟩
theorem cmp_isNaN_int32_eq {G : List (Nat × Obj)} (x : cmp_isNaN_int32_sg.dom) : body (env G []) [] Tryz.f214 cmp_isNaN_int32_sg x = cmp_isNaN_int32 x.1 := by kernel_rfl
theorem cmp_isNaN_int32_so {G : List (Nat × Obj)} : Sound Tryz.prog G 214 cmp_isNaN_int32_en := sound_of_body (envS (l := []) (trivial)) Tryz.func214 (by kernel_rfl) rfl (fun x y h => (cmp_isNaN_int32_eq (G := G) x).trans h)

-- cmp.Compare[int32]
noncomputable def cmp_Compare_int32 (a0 : Int) (a1 : Int) : Option ((Int × Unit) × Unit) :=
  (cmp_isNaN_int32 a0).bind fun y177 =>
  (cmp_isNaN_int32 a1).bind fun y178 =>
  bif y177.1.1 then
    bif y178.1.1 then some (((0 : Int), ()), ()) else some ((((-1 : Int) : Int), ()), ())
  else
  bif y178.1.1 then some (((1 : Int), ()), ()) else
  bif (iLt a0 a1) then some ((((-1 : Int) : Int), ()), ()) else
  bif (iLt a1 a0) then some (((1 : Int), ()), ()) else some (((0 : Int), ()), ())
noncomputable def cmp_Compare_int32_sg : Sig := ⟨[.v (.int .i32), .v (.int .i32)], [.v (.val (.int .i64))], false⟩
noncomputable def cmp_Compare_int32_en : Entry := ⟨cmp_Compare_int32_sg, fun x => cmp_Compare_int32 x.1 x.2.1⟩
theorem cmp_Compare_int32_eq {G : List (Nat × Obj)} (x : cmp_Compare_int32_sg.dom) : body (env G [(214, cmp_isNaN_int32_en)]) [] Tryz.f193 cmp_Compare_int32_sg x = cmp_Compare_int32 x.1 x.2.1 := by kernel_rfl
theorem cmp_Compare_int32_so {G : List (Nat × Obj)} : Sound Tryz.prog G 193 cmp_Compare_int32_en := sound_of_body (envS (l := [(214, cmp_isNaN_int32_en)]) (⟨(cmp_isNaN_int32_so), trivial⟩)) Tryz.func193 (by kernel_rfl) rfl (fun x y h => (cmp_Compare_int32_eq (G := G) x).trans h)

-- slices.Compare[[]int32,int32]
noncomputable def slices_Compare_int32_l2 (a0 : (List Int)) (a1 : (List Int)) (s168 : (Int × Unit)) : Option ((Int × Unit) ⊕ ((Int × Unit) × Unit)) :=
  bif (iLt s168.1 (lenI a0)) then
    bif inB s168.1 (List.length a0) then
      bif (iLe (lenI a1) s168.1) then
        Option.map Sum.inr (some (((1 : Int), ()), ()))
      else
      bif inB s168.1 (List.length a1) then
        (cmp_Compare_int32 (List.getD a0 s168.1.toNat (0 : Int)) (List.getD a1 s168.1.toNat (0 : Int))).bind fun y173 =>
        bif (! (iEq y173.1.1 0)) then
          Option.map Sum.inr (some ((y173.1.1, ()), ()))
        else
        some (Sum.inl ((iAdd .i64 s168.1 1), ()))
      else none
    else none
  else
  Option.map Sum.inr (bif (iLt (lenI a0) (lenI a1)) then some ((((-1 : Int) : Int), ()), ()) else some (((0 : Int), ()), ()))
noncomputable def slices_Compare_int32 (a0 : (List Int)) (a1 : (List Int)) : Option ((Int × Unit) × Unit) :=
  run (slices_Compare_int32_l2 a0 a1) ((0 : Int), ())
noncomputable def slices_Compare_int32_sg : Sig := ⟨[.v (.list (.int .i32)), .v (.list (.int .i32))], [.v (.val (.int .i64))], false⟩
noncomputable def slices_Compare_int32_en : Entry := ⟨slices_Compare_int32_sg, fun x => slices_Compare_int32 x.1 x.2.1⟩
theorem slices_Compare_int32_eq {G : List (Nat × Obj)} (x : slices_Compare_int32_sg.dom) : body (env G [(193, cmp_Compare_int32_en)]) [(2, .vary [(11, .sc (.int .i64))])] Tryz.f162 slices_Compare_int32_sg x = slices_Compare_int32 x.1 x.2.1 := by kernel_rfl
theorem slices_Compare_int32_so {G : List (Nat × Obj)} : Sound Tryz.prog G 162 slices_Compare_int32_en := sound_of_body (envS (l := [(193, cmp_Compare_int32_en)]) (⟨(cmp_Compare_int32_so), trivial⟩)) Tryz.func162 (by kernel_rfl) rfl (fun x y h => (slices_Compare_int32_eq (G := G) x).trans h)

-- loop.example/g01204/impl.comparePlaces
noncomputable def impl_comparePlaces (a0 : (Vec 3 Int)) (a1 : (Vec 3 Int)) : Option ((Int × Unit) × Unit) :=
  (slices_Compare_int32 ([Vec.getD 3 a0 0 (0 : Int), Vec.getD 3 a0 1 (0 : Int), Vec.getD 3 a0 2 (0 : Int)] : (List Int)) ([Vec.getD 3 a1 0 (0 : Int), Vec.getD 3 a1 1 (0 : Int), Vec.getD 3 a1 2 (0 : Int)] : (List Int))).bind fun y167 =>
  some ((y167.1.1, ()), ())
noncomputable def impl_comparePlaces_sg : Sig := ⟨[.v (.arr 3 (.int .i32)), .v (.arr 3 (.int .i32))], [.v (.val (.int .i64))], false⟩
noncomputable def impl_comparePlaces_en : Entry := ⟨impl_comparePlaces_sg, fun x => impl_comparePlaces x.1 x.2.1⟩
theorem impl_comparePlaces_eq {G : List (Nat × Obj)} (x : impl_comparePlaces_sg.dom) : body (env G [(162, slices_Compare_int32_en)]) [] Tryz.f118 impl_comparePlaces_sg x = impl_comparePlaces x.1 x.2.1 := by kernel_rfl
theorem impl_comparePlaces_so {G : List (Nat × Obj)} : Sound Tryz.prog G 118 impl_comparePlaces_en := sound_of_body (envS (l := [(162, slices_Compare_int32_en)]) (⟨(slices_Compare_int32_so), trivial⟩)) Tryz.func118 (by kernel_rfl) rfl (fun x y h => (impl_comparePlaces_eq (G := G) x).trans h)

-- loop.example/g01204/impl.isFinite
noncomputable def impl_isFinite_l2 (a0 : (List Nat)) (s184 : (Int × Unit)) : Option ((Int × Unit) ⊕ ((Bool × Unit) × Unit)) :=
  bif (iLt s184.1 (lenI a0)) then
    bif inB s184.1 (List.length a0) then
      let x186 := List.getD a0 s184.1.toNat (0 : Nat)
      bif (! (fEq .f32 (fSub .f32 x186 x186) 0)) then
        Option.map Sum.inr (some ((false, ()), ()))
      else
      some (Sum.inl ((iAdd .i64 s184.1 1), ()))
    else none
  else
  Option.map Sum.inr (some ((true, ()), ()))
noncomputable def impl_isFinite (a0 : (List Nat)) : Option ((Bool × Unit) × Unit) :=
  run (impl_isFinite_l2 a0) ((0 : Int), ())
noncomputable def impl_isFinite_sg : Sig := ⟨[.v (.list (.flt .f32))], [.v (.val (.bool))], false⟩
noncomputable def impl_isFinite_en : Entry := ⟨impl_isFinite_sg, fun x => impl_isFinite x.1⟩
theorem impl_isFinite_eq {G : List (Nat × Obj)} (x : impl_isFinite_sg.dom) : body (env G []) [(2, .vary [(7, .sc (.int .i64))])] Tryz.f59 impl_isFinite_sg x = impl_isFinite x.1 := by kernel_rfl
theorem impl_isFinite_so {G : List (Nat × Obj)} : Sound Tryz.prog G 59 impl_isFinite_en := sound_of_body (envS (l := []) (trivial)) Tryz.func59 (by kernel_rfl) rfl (fun x y h => (impl_isFinite_eq (G := G) x).trans h)

-- loop.example/g01204/impl.isSide
noncomputable def impl_isSide (a0 : Nat) : Option ((Bool × Unit) × Unit) :=
  (impl_isFinite ([a0] : (List Nat))).bind fun y182 =>
  bif y182.1.1 then
    some (((fLt .f32 0 a0), ()), ())
  else some ((false, ()), ())
noncomputable def impl_isSide_sg : Sig := ⟨[.v (.flt .f32)], [.v (.val (.bool))], false⟩
noncomputable def impl_isSide_en : Entry := ⟨impl_isSide_sg, fun x => impl_isSide x.1⟩
theorem impl_isSide_eq {G : List (Nat × Obj)} (x : impl_isSide_sg.dom) : body (env G [(59, impl_isFinite_en)]) [] Tryz.f60 impl_isSide_sg x = impl_isSide x.1 := by kernel_rfl
theorem impl_isSide_so {G : List (Nat × Obj)} : Sound Tryz.prog G 60 impl_isSide_en := sound_of_body (envS (l := [(59, impl_isFinite_en)]) (⟨(impl_isFinite_so), trivial⟩)) Tryz.func60 (by kernel_rfl) rfl (fun x y h => (impl_isSide_eq (G := G) x).trans h)

-- loop.example/g01204/impl.IsFiniteVec
noncomputable def impl_IsFiniteVec (a0 : (Vec 3 Nat)) : Option ((Bool × Unit) × Unit) :=
  (impl_isFinite ([Vec.getD 3 a0 0 (0 : Nat), Vec.getD 3 a0 1 (0 : Nat), Vec.getD 3 a0 2 (0 : Nat)] : (List Nat))).bind fun y194 =>
  some ((y194.1.1, ()), ())
noncomputable def impl_IsFiniteVec_sg : Sig := ⟨[.v (.arr 3 (.flt .f32))], [.v (.val (.bool))], false⟩
noncomputable def impl_IsFiniteVec_en : Entry := ⟨impl_IsFiniteVec_sg, fun x => impl_IsFiniteVec x.1⟩
theorem impl_IsFiniteVec_eq {G : List (Nat × Obj)} (x : impl_IsFiniteVec_sg.dom) : body (env G [(59, impl_isFinite_en)]) [] Tryz.f72 impl_IsFiniteVec_sg x = impl_IsFiniteVec x.1 := by kernel_rfl
theorem impl_IsFiniteVec_so {G : List (Nat × Obj)} : Sound Tryz.prog G 72 impl_IsFiniteVec_en := sound_of_body (envS (l := [(59, impl_isFinite_en)]) (⟨(impl_isFinite_so), trivial⟩)) Tryz.func72 (by kernel_rfl) rfl (fun x y h => (impl_IsFiniteVec_eq (G := G) x).trans h)

-- loop.example/g01204/impl.isTime
noncomputable def impl_isTime (a0 : Int) : Option ((Bool × Unit) × Unit) :=
  (impl_within a0 (0 : Int) (1000000000 : Int)).bind fun y195 =>
  some ((y195.1.1, ()), ())
noncomputable def impl_isTime_sg : Sig := ⟨[.v (.int .i64)], [.v (.val (.bool))], false⟩
noncomputable def impl_isTime_en : Entry := ⟨impl_isTime_sg, fun x => impl_isTime x.1⟩
theorem impl_isTime_eq {G : List (Nat × Obj)} (x : impl_isTime_sg.dom) : body (env G [(45, impl_within_en)]) [] Tryz.f161 impl_isTime_sg x = impl_isTime x.1 := by kernel_rfl
theorem impl_isTime_so {G : List (Nat × Obj)} : Sound Tryz.prog G 161 impl_isTime_en := sound_of_body (envS (l := [(45, impl_within_en)]) (⟨(impl_within_so), trivial⟩)) Tryz.func161 (by kernel_rfl) rfl (fun x y h => (impl_isTime_eq (G := G) x).trans h)

-- loop.example/g01204/impl.validMark
noncomputable def impl_validMark (a0 : ((Vec 3 Int) × ((Vec 3 Nat) × (Nat × (Int × (Int × Unit)))))) : Option ((Bool × Unit) × Unit) :=
  (impl_IsFiniteVec a0.2.1).bind fun y190 =>
  bif y190.1.1 then
    (impl_isSide a0.2.2.1).bind fun y191 =>
    bif y191.1.1 then
      (impl_within a0.2.2.2.1 (1 : Int) (1000000 : Int)).bind fun y192 =>
      bif y192.1.1 then
        (impl_isTime a0.2.2.2.2.1).bind fun y193 =>
        some ((y193.1.1, ()), ())
      else some ((false, ()), ())
    else some ((false, ()), ())
  else some ((false, ()), ())
noncomputable def impl_validMark_sg : Sig := ⟨[.v (.pair (.arr 3 (.int .i32)) (.pair (.arr 3 (.flt .f32)) (.pair (.flt .f32) (.pair (.int .i64) (.pair (.int .i64) (.unit))))))], [.v (.val (.bool))], false⟩
noncomputable def impl_validMark_en : Entry := ⟨impl_validMark_sg, fun x => impl_validMark x.1⟩
theorem impl_validMark_eq {G : List (Nat × Obj)} (x : impl_validMark_sg.dom) : body (env G [(45, impl_within_en), (60, impl_isSide_en), (72, impl_IsFiniteVec_en), (161, impl_isTime_en)]) [] Tryz.f117 impl_validMark_sg x = impl_validMark x.1 := by kernel_rfl
theorem impl_validMark_so {G : List (Nat × Obj)} : Sound Tryz.prog G 117 impl_validMark_en := sound_of_body (envS (l := [(45, impl_within_en), (60, impl_isSide_en), (72, impl_IsFiniteVec_en), (161, impl_isTime_en)]) (⟨(impl_within_so), (impl_isSide_so), (impl_IsFiniteVec_so), (impl_isTime_so), trivial⟩)) Tryz.func117 (by kernel_rfl) rfl (fun x y h => (impl_validMark_eq (G := G) x).trans h)

-- loop.example/g01204/impl.ValidMap
noncomputable def impl_ValidMap_l4 (a0 : (Nat × ((List ((Vec 3 Int) × ((Vec 3 Nat) × (Nat × (Int × (Int × Unit)))))) × Unit))) (s155 : (Int × Unit)) : Option ((Int × Unit) ⊕ ((Bool × Unit) × Unit)) :=
  bif (iLt s155.1 (lenI a0.2.1)) then
    bif inB s155.1 (List.length a0.2.1) then
      let x157 := List.getD a0.2.1 s155.1.toNat (((0, 0, 0, ()), (0, 0, 0, ()), 0, 0, 0, ()) : ((Vec 3 Int) × ((Vec 3 Nat) × (Nat × (Int × (Int × Unit))))))
      (impl_validMark x157).bind fun y158 =>
      bif (! y158.1.1) then
        Option.map Sum.inr (some ((false, ()), ()))
      else
      bif (iLt 0 s155.1) then
        let x161 := iSub .i64 s155.1 1
        bif inB x161 (List.length a0.2.1) then
          (impl_comparePlaces x157.1 ((List.getD a0.2.1 x161.toNat (((0, 0, 0, ()), (0, 0, 0, ()), 0, 0, 0, ()) : ((Vec 3 Int) × ((Vec 3 Nat) × (Nat × (Int × (Int × Unit))))))).1)).bind fun y163 =>
          bif (iLe y163.1.1 0) then
            Option.map Sum.inr (some ((false, ()), ()))
          else
          some (Sum.inl ((iAdd .i64 s155.1 1), ()))
        else none
      else
      some (Sum.inl ((iAdd .i64 s155.1 1), ()))
    else none
  else
  Option.map Sum.inr (some ((true, ()), ()))
noncomputable def impl_ValidMap (a0 : (Nat × ((List ((Vec 3 Int) × ((Vec 3 Nat) × (Nat × (Int × (Int × Unit)))))) × Unit))) : Option ((Bool × Unit) × Unit) :=
  (impl_isSide a0.1).bind fun y152 =>
  bif (! y152.1.1) then some ((false, ()), ()) else
  bif (iLt 200 (lenI a0.2.1)) then some ((false, ()), ()) else run (impl_ValidMap_l4 a0) ((0 : Int), ())
noncomputable def impl_ValidMap_sg : Sig := ⟨[.v (.pair (.flt .f32) (.pair (.list (.pair (.arr 3 (.int .i32)) (.pair (.arr 3 (.flt .f32)) (.pair (.flt .f32) (.pair (.int .i64) (.pair (.int .i64) (.unit))))))) (.unit)))], [.v (.val (.bool))], false⟩
noncomputable def impl_ValidMap_en : Entry := ⟨impl_ValidMap_sg, fun x => impl_ValidMap x.1⟩
theorem impl_ValidMap_eq {G : List (Nat × Obj)} (x : impl_ValidMap_sg.dom) : body (env G [(60, impl_isSide_en), (117, impl_validMark_en), (118, impl_comparePlaces_en)]) [(4, .vary [(18, .sc (.int .i64))])] Tryz.f57 impl_ValidMap_sg x = impl_ValidMap x.1 := by kernel_rfl
theorem impl_ValidMap_so {G : List (Nat × Obj)} : Sound Tryz.prog G 57 impl_ValidMap_en := sound_of_body (envS (l := [(60, impl_isSide_en), (117, impl_validMark_en), (118, impl_comparePlaces_en)]) (⟨(impl_isSide_so), (impl_validMark_so), (impl_comparePlaces_so), trivial⟩)) Tryz.func57 (by kernel_rfl) rfl (fun x y h => (impl_ValidMap_eq (G := G) x).trans h)

theorem math_archFloor_so {G : List (Nat × Obj)} : Sound Tryz.prog G 119 math_archFloor_en := round_sound (name := "math.archFloor") Tryz.func119 (by kernel_rfl) (by kernel_rfl) (by kernel_rfl) (by kernel_rfl)

-- math.Floor
noncomputable def math_Floor (a0 : Nat) : Option ((Nat × Unit) × Unit) :=
  (math_archFloor a0).bind fun y196 =>
  some ((y196.1.1, ()), ())
noncomputable def math_Floor_sg : Sig := ⟨[.v (.flt .f64)], [.v (.val (.flt .f64))], false⟩
noncomputable def math_Floor_en : Entry := ⟨math_Floor_sg, fun x => math_Floor x.1⟩
theorem math_Floor_eq {G : List (Nat × Obj)} (x : math_Floor_sg.dom) : body (env G [(119, math_archFloor_en)]) [] Tryz.f61 math_Floor_sg x = math_Floor x.1 := by kernel_rfl
theorem math_Floor_so {G : List (Nat × Obj)} : Sound Tryz.prog G 61 math_Floor_en := sound_of_body (envS (l := [(119, math_archFloor_en)]) (⟨(math_archFloor_so), trivial⟩)) Tryz.func61 (by kernel_rfl) rfl (fun x y h => (math_Floor_eq (G := G) x).trans h)

-- loop.example/g01204/impl.GridOfMarks
noncomputable def impl_GridOfMarks_l7 (a0 : (Nat × ((List ((Vec 3 Int) × ((Vec 3 Nat) × (Nat × (Int × (Int × Unit)))))) × Unit))) (a3 : (Vec 2 Nat)) (a4 : Nat) (a1 : Int) (a2 : Int) (s114 : (Int × (Int × (Int × ((List Int) × Unit))) × Unit)) : Option ((Int × (Int × (Int × ((List Int) × Unit))) × Unit) ⊕ (((Int × (Int × ((List Int) × Unit))) × Int × Unit) × Unit)) :=
  bif (iLt s114.1 (lenI a0.2.1)) then
    bif inB s114.1 (List.length a0.2.1) then
      let x116 := List.getD a0.2.1 s114.1.toNat (((0, 0, 0, ()), (0, 0, 0, ()), 0, 0, 0, ()) : ((Vec 3 Int) × ((Vec 3 Nat) × (Nat × (Int × (Int × Unit))))))
      (fConv .f32 .f64 (fDiv .f32 (fSub .f32 (Vec.getD 3 x116.2.1 0 (0 : Nat)) (Vec.getD 2 a3 0 (0 : Nat))) a4)).bind fun y121 =>
      (math_Floor y121).bind fun y122 =>
      (fConv .f32 .f64 (fDiv .f32 (fSub .f32 (Vec.getD 3 x116.2.1 1 (0 : Nat)) (Vec.getD 2 a3 1 (0 : Nat))) a4)).bind fun y127 =>
      (math_Floor y127).bind fun y128 =>
      bif (fLe .f64 0 y122.1.1) then
        bif (fLt .f64 y122.1.1 (fOfInt .f64 a1)) then
          bif (fLe .f64 0 y128.1.1) then
            bif (fLt .f64 y128.1.1 (fOfInt .f64 a2)) then
              (fToInt .f64 y128.1.1 .i64).bind fun n135 =>
              (fToInt .f64 y122.1.1 .i64).bind fun n137 =>
              let x138 := iAdd .i64 (iMul .i64 n135 a1) n137
              bif inB x138 (List.length s114.2.1.2.2.1) then
                some (Sum.inl ((iAdd .i64 s114.1 1), ((s114.2.1.1, s114.2.1.2.1, (List.set s114.2.1.2.2.1 x138.toNat (255 : Int)), s114.2.1.2.2.2) : (Int × (Int × ((List Int) × Unit)))), ()))
              else none
            else
            some (Sum.inl ((iAdd .i64 s114.1 1), ((s114.2.1.1, s114.2.1.2.1, s114.2.1.2.2.1, s114.2.1.2.2.2) : (Int × (Int × ((List Int) × Unit)))), ()))
          else
          some (Sum.inl ((iAdd .i64 s114.1 1), ((s114.2.1.1, s114.2.1.2.1, s114.2.1.2.2.1, s114.2.1.2.2.2) : (Int × (Int × ((List Int) × Unit)))), ()))
        else
        some (Sum.inl ((iAdd .i64 s114.1 1), ((s114.2.1.1, s114.2.1.2.1, s114.2.1.2.2.1, s114.2.1.2.2.2) : (Int × (Int × ((List Int) × Unit)))), ()))
      else
      some (Sum.inl ((iAdd .i64 s114.1 1), ((s114.2.1.1, s114.2.1.2.1, s114.2.1.2.2.1, s114.2.1.2.2.2) : (Int × (Int × ((List Int) × Unit)))), ()))
    else none
  else
  Option.map Sum.inr (some ((((s114.2.1.1, s114.2.1.2.1, s114.2.1.2.2.1, s114.2.1.2.2.2) : (Int × (Int × ((List Int) × Unit)))), (0 : Int), ()), ()))
noncomputable def impl_GridOfMarks (a0 : (Nat × ((List ((Vec 3 Int) × ((Vec 3 Nat) × (Nat × (Int × (Int × Unit)))))) × Unit))) (a1 : Int) (a2 : Int) (a3 : (Vec 2 Nat)) (a4 : Nat) : Option (((Int × (Int × ((List Int) × Unit))) × Int × Unit) × Unit) :=
  (impl_ValidMap a0).bind fun y79 =>
  bif (! y79.1.1) then some ((((0, 0, [], ()) : (Int × (Int × ((List Int) × Unit)))), (1 : Int), ()), ()) else
  (impl_EmptyGrid a1 a2).bind fun y81 =>
  bif (! (iEq y81.1.2.1 0)) then some ((((0, 0, [], ()) : (Int × (Int × ((List Int) × Unit)))), (2 : Int), ()), ()) else
  (impl_isFinite ([Vec.getD 2 a3 0 (0 : Nat), Vec.getD 2 a3 1 (0 : Nat)] : (List Nat))).bind fun y83 =>
  bif (! y83.1.1) then some ((((0, 0, [], ()) : (Int × (Int × ((List Int) × Unit)))), (2 : Int), ()), ()) else
  (impl_isSide a4).bind fun y85 =>
  bif (! y85.1.1) then some ((((0, 0, [], ()) : (Int × (Int × ((List Int) × Unit)))), (2 : Int), ()), ()) else run (impl_GridOfMarks_l7 a0 a3 a4 a1 a2) ((0 : Int), ((y81.1.1.1, y81.1.1.2.1, y81.1.1.2.2.1, y81.1.1.2.2.2) : (Int × (Int × ((List Int) × Unit)))), ())
noncomputable def impl_GridOfMarks_sg : Sig := ⟨[.v (.pair (.flt .f32) (.pair (.list (.pair (.arr 3 (.int .i32)) (.pair (.arr 3 (.flt .f32)) (.pair (.flt .f32) (.pair (.int .i64) (.pair (.int .i64) (.unit))))))) (.unit))), .v (.int .i64), .v (.int .i64), .v (.arr 2 (.flt .f32)), .v (.flt .f32)], [.v (.pair (.val (.int .i64)) (.pair (.val (.int .i64)) (.pair (.rows (.int .u8)) (.val (.unit))))), .v (.val (.int .i64))], false⟩
noncomputable def impl_GridOfMarks_en : Entry := ⟨impl_GridOfMarks_sg, fun x => impl_GridOfMarks x.1 x.2.1 x.2.2.1 x.2.2.2.1 x.2.2.2.2.1⟩
theorem impl_GridOfMarks_eq {G : List (Nat × Obj)} (x : impl_GridOfMarks_sg.dom) : body (env G [(57, impl_ValidMap_en), (58, impl_EmptyGrid_en), (59, impl_isFinite_en), (60, impl_isSide_en), (61, math_Floor_en)]) [(7, .vary [(44, .sc (.int .i64)), (12, .box (.pair (.val (.int .i64)) (.pair (.val (.int .i64)) (.pair (.rows (.int .u8)) (.val (.unit))))))])] Tryz.f18 impl_GridOfMarks_sg x = impl_GridOfMarks x.1 x.2.1 x.2.2.1 x.2.2.2.1 x.2.2.2.2.1 := by kernel_rfl
theorem impl_GridOfMarks_so {G : List (Nat × Obj)} : Sound Tryz.prog G 18 impl_GridOfMarks_en := sound_of_body (envS (l := [(57, impl_ValidMap_en), (58, impl_EmptyGrid_en), (59, impl_isFinite_en), (60, impl_isSide_en), (61, math_Floor_en)]) (⟨(impl_ValidMap_so), (impl_EmptyGrid_so), (impl_isFinite_so), (impl_isSide_so), (math_Floor_so), trivial⟩)) Tryz.func18 (by kernel_rfl) rfl (fun x y h => (impl_GridOfMarks_eq (G := G) x).trans h)

-- loop.example/g01204/impl.ValidGrid
noncomputable def impl_ValidGrid (a0 : (Int × (Int × ((List Int) × Unit)))) : Option ((Bool × Unit) × Unit) :=
  (impl_within a0.1 (1 : Int) (24 : Int)).bind fun y211 =>
  bif y211.1.1 then
    (impl_within a0.2.1 (1 : Int) (24 : Int)).bind fun y212 =>
    bif y212.1.1 then
      some (((iEq (lenI a0.2.2.1) (iMul .i64 a0.1 a0.2.1)), ()), ())
    else some ((false, ()), ())
  else some ((false, ()), ())
noncomputable def impl_ValidGrid_sg : Sig := ⟨[.v (.pair (.int .i64) (.pair (.int .i64) (.pair (.list (.int .u8)) (.unit))))], [.v (.val (.bool))], false⟩
noncomputable def impl_ValidGrid_en : Entry := ⟨impl_ValidGrid_sg, fun x => impl_ValidGrid x.1⟩
theorem impl_ValidGrid_eq {G : List (Nat × Obj)} (x : impl_ValidGrid_sg.dom) : body (env G [(45, impl_within_en)]) [] Tryz.f13 impl_ValidGrid_sg x = impl_ValidGrid x.1 := by kernel_rfl
theorem impl_ValidGrid_so {G : List (Nat × Obj)} : Sound Tryz.prog G 13 impl_ValidGrid_en := sound_of_body (envS (l := [(45, impl_within_en)]) (⟨(impl_within_so), trivial⟩)) Tryz.func13 (by kernel_rfl) rfl (fun x y h => (impl_ValidGrid_eq (G := G) x).trans h)

-- loop.example/g01204/impl.costLetter
noncomputable def impl_costLetter (a0 : Int) : Option ((Int × Unit) × Unit) :=
  bif (iEq a0 0) then some (((46 : Int), ()), ()) else
  bif (iEq a0 255) then some (((35 : Int), ()), ()) else
  bif (iEq (iRem .u8 a0 10) 0) then
    bif (iLe a0 90) then
      some (((iAdd .u8 48 (iQuo .u8 a0 10)), ()), ())
    else some (((63 : Int), ()), ())
  else some (((63 : Int), ()), ())
noncomputable def impl_costLetter_sg : Sig := ⟨[.v (.int .u8)], [.v (.val (.int .u8))], false⟩
noncomputable def impl_costLetter_en : Entry := ⟨impl_costLetter_sg, fun x => impl_costLetter x.1⟩
theorem impl_costLetter_eq {G : List (Nat × Obj)} (x : impl_costLetter_sg.dom) : body (env G []) [] Tryz.f43 impl_costLetter_sg x = impl_costLetter x.1 := by kernel_rfl
theorem impl_costLetter_so {G : List (Nat × Obj)} : Sound Tryz.prog G 43 impl_costLetter_en := sound_of_body (envS (l := []) (trivial)) Tryz.func43 (by kernel_rfl) rfl (fun x y h => (impl_costLetter_eq (G := G) x).trans h)

-- loop.example/g01204/impl.GridText
noncomputable def impl_GridText_l5 (a0 : (Int × (Int × ((List Int) × Unit)))) (s199 : ((List Int) × Int × Unit)) : Option (((List Int) × Int × Unit) ⊕ ((List UInt8 × Unit) × Unit)) :=
  bif (iLt s199.2.1 (lenI a0.2.2.1)) then
    bif inB s199.2.1 (List.length a0.2.2.1) then
      (impl_costLetter (List.getD a0.2.2.1 s199.2.1.toNat (0 : Int))).bind fun y202 =>
      bif room (List.length s199.1 + 1) 1 then
        let l203 := s199.1 ++ ([y202.1.1] : (List Int))
        bif iEq a0.1 0 then none else
        bif (iEq (iRem .i64 (iAdd .i64 s199.2.1 1) a0.1) 0) then
          bif room (List.length l203 + 1) 1 then
            some (Sum.inl ((l203 ++ ([10] : (List Int))), (iAdd .i64 s199.2.1 1), ()))
          else none
        else
        some (Sum.inl (l203, (iAdd .i64 s199.2.1 1), ()))
      else none
    else none
  else
  Option.map Sum.inr (some (((ofBytes s199.1), ()), ()))
noncomputable def impl_GridText (a0 : (Int × (Int × ((List Int) × Unit)))) : Option ((List UInt8 × Unit) × Unit) :=
  (impl_ValidGrid a0).bind fun y197 =>
  bif (! y197.1.1) then some ((([] : List UInt8), ()), ()) else run (impl_GridText_l5 a0) (([] : (List Int)), (0 : Int), ())
noncomputable def impl_GridText_sg : Sig := ⟨[.v (.pair (.int .i64) (.pair (.int .i64) (.pair (.list (.int .u8)) (.unit))))], [.v (.val (.str))], false⟩
noncomputable def impl_GridText_en : Entry := ⟨impl_GridText_sg, fun x => impl_GridText x.1⟩
theorem impl_GridText_eq {G : List (Nat × Obj)} (x : impl_GridText_sg.dom) : body (env G [(13, impl_ValidGrid_en), (43, impl_costLetter_en)]) [(5, .vary [(3, .rows (.int .u8)), (13, .sc (.int .i64))])] Tryz.f10 impl_GridText_sg x = impl_GridText x.1 := by kernel_rfl
theorem impl_GridText_so {G : List (Nat × Obj)} : Sound Tryz.prog G 10 impl_GridText_en := sound_of_body (envS (l := [(13, impl_ValidGrid_en), (43, impl_costLetter_en)]) (⟨(impl_ValidGrid_so), (impl_costLetter_so), trivial⟩)) Tryz.func10 (by kernel_rfl) rfl (fun x y h => (impl_GridText_eq (G := G) x).trans h)

-- (loop.example/g01204/impl.Grid).at
noncomputable def impl_Grid_at (a0 : (Int × (Int × ((List Int) × Unit)))) (a1 : (Vec 2 Int)) : Option ((Int × Unit) × Unit) :=
  some (((iAdd .i64 (iMul .i64 (iWrap .i64 (Vec.getD 2 a1 1 (0 : Int))) a0.1) (iWrap .i64 (Vec.getD 2 a1 0 (0 : Int)))), ()), ())
noncomputable def impl_Grid_at_sg : Sig := ⟨[.v (.pair (.int .i64) (.pair (.int .i64) (.pair (.list (.int .u8)) (.unit)))), .v (.arr 2 (.int .i16))], [.v (.val (.int .i64))], false⟩
noncomputable def impl_Grid_at_en : Entry := ⟨impl_Grid_at_sg, fun x => impl_Grid_at x.1 x.2.1⟩
theorem impl_Grid_at_eq {G : List (Nat × Obj)} (x : impl_Grid_at_sg.dom) : body (env G []) [] Tryz.f48 impl_Grid_at_sg x = impl_Grid_at x.1 x.2.1 := by kernel_rfl
theorem impl_Grid_at_so {G : List (Nat × Obj)} : Sound Tryz.prog G 48 impl_Grid_at_en := sound_of_body (envS (l := []) (trivial)) Tryz.func48 (by kernel_rfl) rfl (fun x y h => (impl_Grid_at_eq (G := G) x).trans h)

-- (loop.example/g01204/impl.Grid).isWall
noncomputable def impl_Grid_isWall (a0 : (Int × (Int × ((List Int) × Unit)))) (a1 : (Vec 2 Int)) : Option ((Bool × Unit) × Unit) :=
  (impl_Grid_at a0 a1).bind fun y386 =>
  bif inB y386.1.1 (List.length a0.2.2.1) then
    some (((iEq (List.getD a0.2.2.1 y386.1.1.toNat (0 : Int)) 255), ()), ())
  else none
noncomputable def impl_Grid_isWall_sg : Sig := ⟨[.v (.pair (.int .i64) (.pair (.int .i64) (.pair (.list (.int .u8)) (.unit)))), .v (.arr 2 (.int .i16))], [.v (.val (.bool))], false⟩
noncomputable def impl_Grid_isWall_en : Entry := ⟨impl_Grid_isWall_sg, fun x => impl_Grid_isWall x.1 x.2.1⟩
theorem impl_Grid_isWall_eq {G : List (Nat × Obj)} (x : impl_Grid_isWall_sg.dom) : body (env G [(48, impl_Grid_at_en)]) [] Tryz.f50 impl_Grid_isWall_sg x = impl_Grid_isWall x.1 x.2.1 := by kernel_rfl
theorem impl_Grid_isWall_so {G : List (Nat × Obj)} : Sound Tryz.prog G 50 impl_Grid_isWall_en := sound_of_body (envS (l := [(48, impl_Grid_at_en)]) (⟨(impl_Grid_at_so), trivial⟩)) Tryz.func50 (by kernel_rfl) rfl (fun x y h => (impl_Grid_isWall_eq (G := G) x).trans h)

-- (loop.example/g01204/impl.Grid).spots
noncomputable def impl_Grid_spots_l6 (a0 : (Int × (Int × ((List Int) × Unit)))) (s395 : ((List (Vec 2 Int)) × Int × Unit)) (s397 : ((List (Vec 2 Int)) × Int × Unit)) : Option (((List (Vec 2 Int)) × Int × Unit) ⊕ (((List (Vec 2 Int)) × Int × Unit) ⊕ (((List (Vec 2 Int)) × Unit) × Unit))) :=
  bif (iLt s397.2.1 a0.1) then
    bif room (List.length s397.1 + 1) 4 then
      some (Sum.inl ((s397.1 ++ ([((iWrap .i16 s397.2.1), (iWrap .i16 s395.2.1), ())] : (List (Vec 2 Int)))), (iAdd .i64 s397.2.1 1), ()))
    else none
  else
  Option.map Sum.inr (some (Sum.inl (s397.1, (iAdd .i64 s395.2.1 1), ())))
noncomputable def impl_Grid_spots_l3 (a0 : (Int × (Int × ((List Int) × Unit)))) (s395 : ((List (Vec 2 Int)) × Int × Unit)) : Option (((List (Vec 2 Int)) × Int × Unit) ⊕ (((List (Vec 2 Int)) × Unit) × Unit)) :=
  bif (iLt s395.2.1 a0.2.1) then run (impl_Grid_spots_l6 a0 s395) (s395.1, (0 : Int), ()) else
  Option.map Sum.inr (some ((s395.1, ()), ()))
noncomputable def impl_Grid_spots (a0 : (Int × (Int × ((List Int) × Unit)))) : Option (((List (Vec 2 Int)) × Unit) × Unit) :=
  run (impl_Grid_spots_l3 a0) (([] : (List (Vec 2 Int))), (0 : Int), ())
noncomputable def impl_Grid_spots_sg : Sig := ⟨[.v (.pair (.int .i64) (.pair (.int .i64) (.pair (.list (.int .u8)) (.unit))))], [.v (.rows (.arr 2 (.int .i16)))], false⟩
noncomputable def impl_Grid_spots_en : Entry := ⟨impl_Grid_spots_sg, fun x => impl_Grid_spots x.1⟩
theorem impl_Grid_spots_eq {G : List (Nat × Obj)} (x : impl_Grid_spots_sg.dom) : body (env G []) [(3, .vary [(3, .rows (.arr 2 (.int .i16))), (9, .sc (.int .i64))]), (6, .vary [(3, .rows (.arr 2 (.int .i16))), (14, .sc (.int .i64))])] Tryz.f49 impl_Grid_spots_sg x = impl_Grid_spots x.1 := by kernel_rfl
theorem impl_Grid_spots_so {G : List (Nat × Obj)} : Sound Tryz.prog G 49 impl_Grid_spots_en := sound_of_body (envS (l := []) (trivial)) Tryz.func49 (by kernel_rfl) rfl (fun x y h => (impl_Grid_spots_eq (G := G) x).trans h)

-- slices.Clone[[]uint8,uint8]
noncomputable def slices_Clone_uint8 (a0 : (List Int)) : Option (((List Int) × Unit) × Unit) :=
  bif List.isEmpty a0 then
    allSame fun (q405 : Bool) =>
    bif q405 then some ((([] : (List Int)), ()), ()) else
    bif room (0 + List.length a0) 1 then
      some (((([] : (List Int)) ++ a0), ()), ())
    else none
  else
  bif room (0 + List.length a0) 1 then
    some (((([] : (List Int)) ++ a0), ()), ())
  else none
noncomputable def slices_Clone_uint8_sg : Sig := ⟨[.v (.list (.int .u8))], [.v (.rows (.int .u8))], false⟩
noncomputable def slices_Clone_uint8_en : Entry := ⟨slices_Clone_uint8_sg, fun x => slices_Clone_uint8 x.1⟩
theorem slices_Clone_uint8_eq {G : List (Nat × Obj)} (x : slices_Clone_uint8_sg.dom) : body (env G []) [] Tryz.f115 slices_Clone_uint8_sg x = slices_Clone_uint8 x.1 := by kernel_rfl
theorem slices_Clone_uint8_so {G : List (Nat × Obj)} : Sound Tryz.prog G 115 slices_Clone_uint8_en := sound_of_body (envS (l := []) (trivial)) Tryz.func115 (by kernel_rfl) rfl (fun x y h => (slices_Clone_uint8_eq (G := G) x).trans h)

-- loop.example/g01204/impl.ownGrid
noncomputable def impl_ownGrid (a0 : (Int × (Int × ((List Int) × Unit)))) : Option (((Int × (Int × ((List Int) × Unit))) × Unit) × Unit) :=
  (slices_Clone_uint8 a0.2.2.1).bind fun y404 =>
  some ((((a0.1, a0.2.1, y404.1.1, ()) : (Int × (Int × ((List Int) × Unit)))), ()), ())
noncomputable def impl_ownGrid_sg : Sig := ⟨[.v (.pair (.int .i64) (.pair (.int .i64) (.pair (.list (.int .u8)) (.unit))))], [.v (.pair (.val (.int .i64)) (.pair (.val (.int .i64)) (.pair (.rows (.int .u8)) (.val (.unit)))))], false⟩
noncomputable def impl_ownGrid_en : Entry := ⟨impl_ownGrid_sg, fun x => impl_ownGrid x.1⟩
theorem impl_ownGrid_eq {G : List (Nat × Obj)} (x : impl_ownGrid_sg.dom) : body (env G [(115, slices_Clone_uint8_en)]) [] Tryz.f47 impl_ownGrid_sg x = impl_ownGrid x.1 := by kernel_rfl
theorem impl_ownGrid_so {G : List (Nat × Obj)} : Sound Tryz.prog G 47 impl_ownGrid_en := sound_of_body (envS (l := [(115, slices_Clone_uint8_en)]) (⟨(slices_Clone_uint8_so), trivial⟩)) Tryz.func47 (by kernel_rfl) rfl (fun x y h => (impl_ownGrid_eq (G := G) x).trans h)

-- loop.example/g01204/impl.GrowWalls
noncomputable def impl_GrowWalls_l14 (a0 : (Int × (Int × ((List Int) × Unit)))) (x309 : (Vec 2 Int)) (a1 : Int) (s351 : (Int × (Int × (Int × ((List Int) × Unit))) × Unit)) (s373 : (Int × (Int × (Int × ((List Int) × Unit))) × Unit)) : Option ((Int × (Int × (Int × ((List Int) × Unit))) × Unit) ⊕ ((Int × (Int × (Int × ((List Int) × Unit))) × Unit) ⊕ ((Int × (Int × (Int × ((List Int) × Unit))) × Unit) ⊕ (((Int × (Int × ((List Int) × Unit))) × Int × Unit) × Unit)))) :=
  bif (iLe s373.1 (iMin (iSub .i64 a0.1 1) (iAdd .i64 (iWrap .i64 (Vec.getD 2 x309 0 (0 : Int))) a1))) then
    let x381 := iAdd .i64 (iMul .i64 s351.1 a0.1) s373.1
    bif inB x381 (List.length s373.2.1.2.2.1) then
      some (Sum.inl ((iAdd .i64 s373.1 1), ((s373.2.1.1, s373.2.1.2.1, (List.set s373.2.1.2.2.1 x381.toNat (255 : Int)), s373.2.1.2.2.2) : (Int × (Int × ((List Int) × Unit)))), ()))
    else none
  else
  Option.map Sum.inr (some (Sum.inl ((iAdd .i64 s351.1 1), ((s373.2.1.1, s373.2.1.2.1, s373.2.1.2.2.1, s373.2.1.2.2.2) : (Int × (Int × ((List Int) × Unit)))), ())))
noncomputable def impl_GrowWalls_l11 (a0 : (Int × (Int × ((List Int) × Unit)))) (x309 : (Vec 2 Int)) (a1 : Int) (s307 : (Int × (Int × (Int × ((List Int) × Unit))) × Unit)) (s351 : (Int × (Int × (Int × ((List Int) × Unit))) × Unit)) : Option ((Int × (Int × (Int × ((List Int) × Unit))) × Unit) ⊕ ((Int × (Int × (Int × ((List Int) × Unit))) × Unit) ⊕ (((Int × (Int × ((List Int) × Unit))) × Int × Unit) × Unit))) :=
  bif (iLe s351.1 (iMin (iSub .i64 a0.2.1 1) (iAdd .i64 (iWrap .i64 (Vec.getD 2 x309 1 (0 : Int))) a1))) then
    run (impl_GrowWalls_l14 a0 x309 a1 s351) ((iMax 0 (iSub .i64 (iWrap .i64 (Vec.getD 2 x309 0 (0 : Int))) a1)), ((s351.2.1.1, s351.2.1.2.1, s351.2.1.2.2.1, s351.2.1.2.2.2) : (Int × (Int × ((List Int) × Unit)))), ())
  else
  Option.map Sum.inr (some (Sum.inl ((iAdd .i64 s307.1 1), ((s351.2.1.1, s351.2.1.2.1, s351.2.1.2.2.1, s351.2.1.2.2.2) : (Int × (Int × ((List Int) × Unit)))), ())))
noncomputable def impl_GrowWalls_l7 (y227 : (((List (Vec 2 Int)) × Unit) × Unit)) (a0 : (Int × (Int × ((List Int) × Unit)))) (a1 : Int) (s307 : (Int × (Int × (Int × ((List Int) × Unit))) × Unit)) : Option ((Int × (Int × (Int × ((List Int) × Unit))) × Unit) ⊕ (((Int × (Int × ((List Int) × Unit))) × Int × Unit) × Unit)) :=
  bif (iLt s307.1 (lenI y227.1.1)) then
    bif inB s307.1 (List.length y227.1.1) then
      let x309 := List.getD y227.1.1 s307.1.toNat ((0, 0, ()) : (Vec 2 Int))
      (impl_Grid_isWall a0 x309).bind fun y310 =>
      bif (! y310.1.1) then
        some (Sum.inl ((iAdd .i64 s307.1 1), ((s307.2.1.1, s307.2.1.2.1, s307.2.1.2.2.1, s307.2.1.2.2.2) : (Int × (Int × ((List Int) × Unit)))), ()))
      else
      run (impl_GrowWalls_l11 a0 x309 a1 s307) ((iMax 0 (iSub .i64 (iWrap .i64 (Vec.getD 2 x309 1 (0 : Int))) a1)), ((s307.2.1.1, s307.2.1.2.1, s307.2.1.2.2.1, s307.2.1.2.2.2) : (Int × (Int × ((List Int) × Unit)))), ())
    else none
  else
  Option.map Sum.inr (some ((((s307.2.1.1, s307.2.1.2.1, s307.2.1.2.2.1, s307.2.1.2.2.2) : (Int × (Int × ((List Int) × Unit)))), (0 : Int), ()), ()))
noncomputable def impl_GrowWalls (a0 : (Int × (Int × ((List Int) × Unit)))) (a1 : Int) : Option (((Int × (Int × ((List Int) × Unit))) × Int × Unit) × Unit) :=
  (impl_ValidGrid a0).bind fun y222 =>
  bif (! y222.1.1) then some ((((0, 0, [], ()) : (Int × (Int × ((List Int) × Unit)))), (1 : Int), ()), ()) else
  (impl_within a1 (0 : Int) (24 : Int)).bind fun y224 =>
  bif (! y224.1.1) then some ((((0, 0, [], ()) : (Int × (Int × ((List Int) × Unit)))), (2 : Int), ()), ()) else
  (impl_ownGrid a0).bind fun y226 =>
  (impl_Grid_spots a0).bind fun y227 =>
  run (impl_GrowWalls_l7 y227 a0 a1) ((0 : Int), ((y226.1.1.1, y226.1.1.2.1, y226.1.1.2.2.1, y226.1.1.2.2.2) : (Int × (Int × ((List Int) × Unit)))), ())
noncomputable def impl_GrowWalls_sg : Sig := ⟨[.v (.pair (.int .i64) (.pair (.int .i64) (.pair (.list (.int .u8)) (.unit)))), .v (.int .i64)], [.v (.pair (.val (.int .i64)) (.pair (.val (.int .i64)) (.pair (.rows (.int .u8)) (.val (.unit))))), .v (.val (.int .i64))], false⟩
noncomputable def impl_GrowWalls_en : Entry := ⟨impl_GrowWalls_sg, fun x => impl_GrowWalls x.1 x.2.1⟩
theorem impl_GrowWalls_eq {G : List (Nat × Obj)} (x : impl_GrowWalls_sg.dom) : body (env G [(13, impl_ValidGrid_en), (45, impl_within_en), (47, impl_ownGrid_en), (49, impl_Grid_spots_en), (50, impl_Grid_isWall_en)]) [(7, .vary [(26, .sc (.int .i64)), (6, .box (.pair (.val (.int .i64)) (.pair (.val (.int .i64)) (.pair (.rows (.int .u8)) (.val (.unit))))))]), (11, .vary [(9, .sc (.int .i64)), (6, .box (.pair (.val (.int .i64)) (.pair (.val (.int .i64)) (.pair (.rows (.int .u8)) (.val (.unit))))))]), (14, .vary [(10, .sc (.int .i64)), (6, .box (.pair (.val (.int .i64)) (.pair (.val (.int .i64)) (.pair (.rows (.int .u8)) (.val (.unit))))))])] Tryz.f15 impl_GrowWalls_sg x = impl_GrowWalls x.1 x.2.1 := by kernel_rfl
theorem impl_GrowWalls_so {G : List (Nat × Obj)} : Sound Tryz.prog G 15 impl_GrowWalls_en := sound_of_body (envS (l := [(13, impl_ValidGrid_en), (45, impl_within_en), (47, impl_ownGrid_en), (49, impl_Grid_spots_en), (50, impl_Grid_isWall_en)]) (⟨(impl_ValidGrid_so), (impl_within_so), (impl_ownGrid_so), (impl_Grid_spots_so), (impl_Grid_isWall_so), trivial⟩)) Tryz.func15 (by kernel_rfl) rfl (fun x y h => (impl_GrowWalls_eq (G := G) x).trans h)

theorem strings_Split_so {G : List (Nat × Obj)} (mx : GMax 1 G) : Sound Tryz.prog G 108 strings_Split_en := split_sound Tryz.func108 (by kernel_rfl) (by kernel_rfl) mx (fun s sep m w h1 h2 h3 => Tryz.strings_Split s sep m w h1 h2 h3)

-- loop.example/g01204/impl.linesOf
noncomputable def impl_linesOf (a0 : List UInt8) : Option (((List (List UInt8)) × Bool × Unit) × Unit) :=
  (strings_Split a0 ([10] : List UInt8)).bind fun y436 =>
  let x437 := iSub .i64 (lenI y436.1.1) 1
  bif inS 0 x437 (List.length y436.1.1) then
    bif (iLt 0 x437) then
      bif inB x437 (List.length y436.1.1) then
        some ((List.take x437.toNat (List.drop 0 y436.1.1), (sEq (List.getD y436.1.1 x437.toNat ([] : List UInt8)) ([])), ()), ())
      else none
    else some ((List.take x437.toNat (List.drop 0 y436.1.1), false, ()), ())
  else none
noncomputable def impl_linesOf_sg : Sig := ⟨[.v (.str)], [.v (.rows (.str)), .v (.val (.bool))], false⟩
noncomputable def impl_linesOf_en : Entry := ⟨impl_linesOf_sg, fun x => impl_linesOf x.1⟩
theorem impl_linesOf_eq {G : List (Nat × Obj)} (x : impl_linesOf_sg.dom) : body (env G [(108, strings_Split_en)]) [] Tryz.f41 impl_linesOf_sg x = impl_linesOf x.1 := by kernel_rfl
theorem impl_linesOf_so {G : List (Nat × Obj)} (mx : GMax 1 G) : Sound Tryz.prog G 41 impl_linesOf_en := sound_of_body (envS (l := [(108, strings_Split_en)]) (⟨(strings_Split_so mx), trivial⟩)) Tryz.func41 (by kernel_rfl) rfl (fun x y h => (impl_linesOf_eq (G := G) x).trans h)

theorem strings_Join_so {G : List (Nat × Obj)} : Sound Tryz.prog G 42 strings_Join_en := join_sound Tryz.func42 (by kernel_rfl) (by kernel_rfl) Tryz.strings_Join_none Tryz.strings_Join

-- loop.example/g01204/impl.ReadGrid
noncomputable def impl_ReadGrid_l6 (x412 : (List Int)) (a0 : List UInt8) (s418 : (Int × (Int × (Int × ((List Int) × Unit))) × Unit)) : Option ((Int × (Int × (Int × ((List Int) × Unit))) × Unit) ⊕ (((Int × (Int × ((List Int) × Unit))) × Int × Unit) × Unit)) :=
  bif (iLt s418.1 (lenI x412)) then
    bif inB s418.1 (List.length x412) then
      let x420 := List.getD x412 s418.1.toNat (0 : Int)
      bif (iEq x420 35) then
        bif room (List.length s418.2.1.2.2.1 + 1) 1 then
          some (Sum.inl ((iAdd .i64 s418.1 1), ((s418.2.1.1, s418.2.1.2.1, (s418.2.1.2.2.1 ++ ([255] : (List Int))), s418.2.1.2.2.2) : (Int × (Int × ((List Int) × Unit)))), ()))
        else none
      else
      bif (iLe 49 x420) then
        bif (iLe x420 57) then
          bif room (List.length s418.2.1.2.2.1 + 1) 1 then
            some (Sum.inl ((iAdd .i64 s418.1 1), ((s418.2.1.1, s418.2.1.2.1, (s418.2.1.2.2.1 ++ ([(iMul .u8 10 (iSub .u8 x420 48))] : (List Int))), s418.2.1.2.2.2) : (Int × (Int × ((List Int) × Unit)))), ()))
          else none
        else
        bif room (List.length s418.2.1.2.2.1 + 1) 1 then
          some (Sum.inl ((iAdd .i64 s418.1 1), ((s418.2.1.1, s418.2.1.2.1, (s418.2.1.2.2.1 ++ ([0] : (List Int))), s418.2.1.2.2.2) : (Int × (Int × ((List Int) × Unit)))), ()))
        else none
      else
      bif room (List.length s418.2.1.2.2.1 + 1) 1 then
        some (Sum.inl ((iAdd .i64 s418.1 1), ((s418.2.1.1, s418.2.1.2.1, (s418.2.1.2.2.1 ++ ([0] : (List Int))), s418.2.1.2.2.2) : (Int × (Int × ((List Int) × Unit)))), ()))
      else none
    else none
  else
  Option.map Sum.inr (
    (impl_GridText ((s418.2.1.1, s418.2.1.2.1, s418.2.1.2.2.1, s418.2.1.2.2.2) : (Int × (Int × ((List Int) × Unit))))).bind fun y434 =>
    bif (! (sEq y434.1.1 a0)) then some ((((0, 0, [], ()) : (Int × (Int × ((List Int) × Unit)))), (5 : Int), ()), ()) else some ((((s418.2.1.1, s418.2.1.2.1, s418.2.1.2.2.1, s418.2.1.2.2.2) : (Int × (Int × ((List Int) × Unit)))), (0 : Int), ()), ()))
noncomputable def impl_ReadGrid (a0 : List UInt8) : Option (((Int × (Int × ((List Int) × Unit))) × Int × Unit) × Unit) :=
  (impl_linesOf a0).bind fun y408 =>
  bif (! y408.1.2.1) then some ((((0, 0, [], ()) : (Int × (Int × ((List Int) × Unit)))), (5 : Int), ()), ()) else
  bif inB 0 (List.length y408.1.1) then
    (strings_Join y408.1.1 ([] : List UInt8)).bind fun y411 =>
    let x412 := bytesOf y411.1.1
    run (impl_ReadGrid_l6 x412 a0) ((0 : Int), ((lenI (List.getD y408.1.1 0 ([] : List UInt8)), lenI y408.1.1, [], ()) : (Int × (Int × ((List Int) × Unit)))), ())
  else none
noncomputable def impl_ReadGrid_sg : Sig := ⟨[.v (.str)], [.v (.pair (.val (.int .i64)) (.pair (.val (.int .i64)) (.pair (.rows (.int .u8)) (.val (.unit))))), .v (.val (.int .i64))], false⟩
noncomputable def impl_ReadGrid_en : Entry := ⟨impl_ReadGrid_sg, fun x => impl_ReadGrid x.1⟩
theorem impl_ReadGrid_eq {G : List (Nat × Obj)} (x : impl_ReadGrid_sg.dom) : body (env G [(10, impl_GridText_en), (41, impl_linesOf_en), (42, strings_Join_en)]) [(6, .vary [(29, .sc (.int .i64)), (6, .box (.pair (.val (.int .i64)) (.pair (.val (.int .i64)) (.pair (.rows (.int .u8)) (.val (.unit))))))])] Tryz.f9 impl_ReadGrid_sg x = impl_ReadGrid x.1 := by kernel_rfl
theorem impl_ReadGrid_so {G : List (Nat × Obj)} (mx : GMax 1 G) : Sound Tryz.prog G 9 impl_ReadGrid_en := sound_of_body (envS (l := [(10, impl_GridText_en), (41, impl_linesOf_en), (42, strings_Join_en)]) (⟨(impl_GridText_so), (impl_linesOf_so mx), (strings_Join_so), trivial⟩)) Tryz.func9 (by kernel_rfl) rfl (fun x y h => (impl_ReadGrid_eq (G := G) x).trans h)

-- slices.Equal[[]uint8,uint8]
noncomputable def slices_Equal_uint8_l4 (a0 : (List Int)) (a1 : (List Int)) (s445 : (Int × Unit)) : Option ((Int × Unit) ⊕ ((Bool × Unit) × Unit)) :=
  bif (iLt s445.1 (lenI a0)) then
    bif inB s445.1 (List.length a0) then
      bif inB s445.1 (List.length a1) then
        bif (! (iEq (List.getD a0 s445.1.toNat (0 : Int)) (List.getD a1 s445.1.toNat (0 : Int)))) then
          Option.map Sum.inr (some ((false, ()), ()))
        else
        some (Sum.inl ((iAdd .i64 s445.1 1), ()))
      else none
    else none
  else
  Option.map Sum.inr (some ((true, ()), ()))
noncomputable def slices_Equal_uint8 (a0 : (List Int)) (a1 : (List Int)) : Option ((Bool × Unit) × Unit) :=
  bif (! (iEq (lenI a0) (lenI a1))) then some ((false, ()), ()) else run (slices_Equal_uint8_l4 a0 a1) ((0 : Int), ())
noncomputable def slices_Equal_uint8_sg : Sig := ⟨[.v (.list (.int .u8)), .v (.list (.int .u8))], [.v (.val (.bool))], false⟩
noncomputable def slices_Equal_uint8_en : Entry := ⟨slices_Equal_uint8_sg, fun x => slices_Equal_uint8 x.1 x.2.1⟩
theorem slices_Equal_uint8_eq {G : List (Nat × Obj)} (x : slices_Equal_uint8_sg.dom) : body (env G []) [(4, .vary [(13, .sc (.int .i64))])] Tryz.f44 slices_Equal_uint8_sg x = slices_Equal_uint8 x.1 x.2.1 := by kernel_rfl
theorem slices_Equal_uint8_so {G : List (Nat × Obj)} : Sound Tryz.prog G 44 slices_Equal_uint8_en := sound_of_body (envS (l := []) (trivial)) Tryz.func44 (by kernel_rfl) rfl (fun x y h => (slices_Equal_uint8_eq (G := G) x).trans h)

-- loop.example/g01204/impl.SameGrid
noncomputable def impl_SameGrid (a0 : (Int × (Int × ((List Int) × Unit)))) (a1 : (Int × (Int × ((List Int) × Unit)))) : Option ((Bool × Unit) × Unit) :=
  bif (iEq a0.1 a1.1) then
    bif (iEq a0.2.1 a1.2.1) then
      (slices_Equal_uint8 a0.2.2.1 a1.2.2.1).bind fun y443 =>
      some ((y443.1.1, ()), ())
    else some ((false, ()), ())
  else some ((false, ()), ())
noncomputable def impl_SameGrid_sg : Sig := ⟨[.v (.pair (.int .i64) (.pair (.int .i64) (.pair (.list (.int .u8)) (.unit)))), .v (.pair (.int .i64) (.pair (.int .i64) (.pair (.list (.int .u8)) (.unit))))], [.v (.val (.bool))], false⟩
noncomputable def impl_SameGrid_en : Entry := ⟨impl_SameGrid_sg, fun x => impl_SameGrid x.1 x.2.1⟩
theorem impl_SameGrid_eq {G : List (Nat × Obj)} (x : impl_SameGrid_sg.dom) : body (env G [(44, slices_Equal_uint8_en)]) [] Tryz.f12 impl_SameGrid_sg x = impl_SameGrid x.1 x.2.1 := by kernel_rfl
theorem impl_SameGrid_so {G : List (Nat × Obj)} : Sound Tryz.prog G 12 impl_SameGrid_en := sound_of_body (envS (l := [(44, slices_Equal_uint8_en)]) (⟨(slices_Equal_uint8_so), trivial⟩)) Tryz.func12 (by kernel_rfl) rfl (fun x y h => (impl_SameGrid_eq (G := G) x).trans h)

-- (loop.example/g01204/impl.Grid).has
noncomputable def impl_Grid_has (a0 : (Int × (Int × ((List Int) × Unit)))) (a1 : (Vec 2 Int)) : Option ((Bool × Unit) × Unit) :=
  (impl_within (iWrap .i64 (Vec.getD 2 a1 0 (0 : Int))) (0 : Int) (iSub .i64 a0.1 1)).bind fun y465 =>
  bif y465.1.1 then
    (impl_within (iWrap .i64 (Vec.getD 2 a1 1 (0 : Int))) (0 : Int) (iSub .i64 a0.2.1 1)).bind fun y469 =>
    some ((y469.1.1, ()), ())
  else some ((false, ()), ())
noncomputable def impl_Grid_has_sg : Sig := ⟨[.v (.pair (.int .i64) (.pair (.int .i64) (.pair (.list (.int .u8)) (.unit)))), .v (.arr 2 (.int .i16))], [.v (.val (.bool))], false⟩
noncomputable def impl_Grid_has_en : Entry := ⟨impl_Grid_has_sg, fun x => impl_Grid_has x.1 x.2.1⟩
theorem impl_Grid_has_eq {G : List (Nat × Obj)} (x : impl_Grid_has_sg.dom) : body (env G [(45, impl_within_en)]) [] Tryz.f114 impl_Grid_has_sg x = impl_Grid_has x.1 x.2.1 := by kernel_rfl
theorem impl_Grid_has_so {G : List (Nat × Obj)} : Sound Tryz.prog G 114 impl_Grid_has_en := sound_of_body (envS (l := [(45, impl_within_en)]) (⟨(impl_within_so), trivial⟩)) Tryz.func114 (by kernel_rfl) rfl (fun x y h => (impl_Grid_has_eq (G := G) x).trans h)

-- loop.example/g01204/impl.checkSpots$1
noncomputable def impl_checkSpots_1 (a0 : (Vec 2 Int)) (a1 : (Int × (Int × ((List Int) × Unit)))) : Option ((Bool × Unit) × Unit) :=
  (impl_Grid_has a1 a0).bind fun y460 =>
  some (((! y460.1.1), ()), ())
noncomputable def impl_checkSpots_1_sg : Sig := ⟨[.v (.arr 2 (.int .i16)), .ro (.pair (.int .i64) (.pair (.int .i64) (.pair (.list (.int .u8)) (.unit))))], [.v (.val (.bool))], false⟩
noncomputable def impl_checkSpots_1_en : Entry := ⟨impl_checkSpots_1_sg, fun x => impl_checkSpots_1 x.1 x.2.1⟩
theorem impl_checkSpots_1_eq {G : List (Nat × Obj)} (x : impl_checkSpots_1_sg.dom) : body (env G [(114, impl_Grid_has_en)]) [] Tryz.f113 impl_checkSpots_1_sg x = impl_checkSpots_1 x.1 x.2.1 := by kernel_rfl
theorem impl_checkSpots_1_so {G : List (Nat × Obj)} : Sound Tryz.prog G 113 impl_checkSpots_1_en := sound_of_body (envS (l := [(114, impl_Grid_has_en)]) (⟨(impl_Grid_has_so), trivial⟩)) Tryz.func113 (by kernel_rfl) rfl (fun x y h => (impl_checkSpots_1_eq (G := G) x).trans h)

-- slices.IndexFunc[[]loop.example/g01204/impl.Spot,loop.example/g01204/impl.Spot]
noncomputable def slices_IndexFunc_impl_Spot_l2 (a0 : (List (Vec 2 Int))) (a1 : (((Vec 2 Int) × Unit) → Option Bool)) (s472 : (Int × Unit)) : Option ((Int × Unit) ⊕ ((Int × Unit) × Unit)) :=
  bif (iLt s472.1 (lenI a0)) then
    bif inB s472.1 (List.length a0) then
      (a1 ((List.getD a0 s472.1.toNat ((0, 0, ()) : (Vec 2 Int))), ())).bind fun y475 =>
      bif y475 then
        Option.map Sum.inr (some ((s472.1, ()), ()))
      else
      some (Sum.inl ((iAdd .i64 s472.1 1), ()))
    else none
  else
  Option.map Sum.inr (some ((((-1 : Int) : Int), ()), ()))
noncomputable def slices_IndexFunc_impl_Spot (a0 : (List (Vec 2 Int))) (a1 : (((Vec 2 Int) × Unit) → Option Bool)) : Option ((Int × Unit) × Unit) :=
  run (slices_IndexFunc_impl_Spot_l2 a0 a1) ((0 : Int), ())
noncomputable def slices_IndexFunc_impl_Spot_sg : Sig := ⟨[.v (.list (.arr 2 (.int .i16))), .fn ⟨[.arr 2 (.int .i16)], .bool⟩], [.v (.val (.int .i64))], false⟩
noncomputable def slices_IndexFunc_impl_Spot_en : Entry := ⟨slices_IndexFunc_impl_Spot_sg, fun x => slices_IndexFunc_impl_Spot x.1 x.2.1⟩
theorem slices_IndexFunc_impl_Spot_eq {G : List (Nat × Obj)} (x : slices_IndexFunc_impl_Spot_sg.dom) : body (env G []) [(2, .vary [(8, .sc (.int .i64))])] Tryz.f155 slices_IndexFunc_impl_Spot_sg x = slices_IndexFunc_impl_Spot x.1 x.2.1 := by kernel_rfl
theorem slices_IndexFunc_impl_Spot_so {G : List (Nat × Obj)} : Sound Tryz.prog G 155 slices_IndexFunc_impl_Spot_en := sound_of_body (envS (l := []) (trivial)) Tryz.func155 (by kernel_rfl) rfl (fun x y h => (slices_IndexFunc_impl_Spot_eq (G := G) x).trans h)

-- slices.ContainsFunc[[]loop.example/g01204/impl.Spot,loop.example/g01204/impl.Spot]
noncomputable def slices_ContainsFunc_impl_Spot (a0 : (List (Vec 2 Int))) (a1 : (((Vec 2 Int) × Unit) → Option Bool)) : Option ((Bool × Unit) × Unit) :=
  (slices_IndexFunc_impl_Spot a0 a1).bind fun y470 =>
  some (((iLe 0 y470.1.1), ()), ())
noncomputable def slices_ContainsFunc_impl_Spot_sg : Sig := ⟨[.v (.list (.arr 2 (.int .i16))), .fn ⟨[.arr 2 (.int .i16)], .bool⟩], [.v (.val (.bool))], false⟩
noncomputable def slices_ContainsFunc_impl_Spot_en : Entry := ⟨slices_ContainsFunc_impl_Spot_sg, fun x => slices_ContainsFunc_impl_Spot x.1 x.2.1⟩
theorem slices_ContainsFunc_impl_Spot_eq {G : List (Nat × Obj)} (x : slices_ContainsFunc_impl_Spot_sg.dom) : body (env G [(155, slices_IndexFunc_impl_Spot_en)]) [] Tryz.f112 slices_ContainsFunc_impl_Spot_sg x = slices_ContainsFunc_impl_Spot x.1 x.2.1 := by kernel_rfl
theorem slices_ContainsFunc_impl_Spot_so {G : List (Nat × Obj)} : Sound Tryz.prog G 112 slices_ContainsFunc_impl_Spot_en := sound_of_body (envS (l := [(155, slices_IndexFunc_impl_Spot_en)]) (⟨(slices_IndexFunc_impl_Spot_so), trivial⟩)) Tryz.func112 (by kernel_rfl) rfl (fun x y h => (slices_ContainsFunc_impl_Spot_eq (G := G) x).trans h)

-- loop.example/g01204/impl.checkSpots
noncomputable def impl_checkSpots (a0 : (Int × (Int × ((List Int) × Unit)))) (a1 : (List (Vec 2 Int))) : Option ((Int × Unit) × Unit) :=
  (impl_ValidGrid a0).bind fun y456 =>
  bif (! y456.1.1) then some (((1 : Int), ()), ()) else
  (slices_ContainsFunc_impl_Spot a1 (fun (z458 : ((Vec 2 Int) × Unit)) => (impl_checkSpots_1 z458.1 a0).map fun y => y.1.1)).bind fun y459 =>
  bif y459.1.1 then some (((2 : Int), ()), ()) else some (((0 : Int), ()), ())
noncomputable def impl_checkSpots_sg : Sig := ⟨[.v (.pair (.int .i64) (.pair (.int .i64) (.pair (.list (.int .u8)) (.unit)))), .v (.list (.arr 2 (.int .i16)))], [.v (.val (.int .i64))], false⟩
noncomputable def impl_checkSpots_en : Entry := ⟨impl_checkSpots_sg, fun x => impl_checkSpots x.1 x.2.1⟩
theorem impl_checkSpots_eq {G : List (Nat × Obj)} (x : impl_checkSpots_sg.dom) : body (env G [(13, impl_ValidGrid_en), (112, slices_ContainsFunc_impl_Spot_en), (113, impl_checkSpots_1_en)]) [] Tryz.f46 impl_checkSpots_sg x = impl_checkSpots x.1 x.2.1 := by kernel_rfl
theorem impl_checkSpots_so {G : List (Nat × Obj)} : Sound Tryz.prog G 46 impl_checkSpots_en := sound_of_body (envS (l := [(13, impl_ValidGrid_en), (112, slices_ContainsFunc_impl_Spot_en), (113, impl_checkSpots_1_en)]) (⟨(impl_ValidGrid_so), (slices_ContainsFunc_impl_Spot_so), (impl_checkSpots_1_so), trivial⟩)) Tryz.func46 (by kernel_rfl) rfl (fun x y h => (impl_checkSpots_eq (G := G) x).trans h)

-- loop.example/g01204/impl.WithCost
noncomputable def impl_WithCost (a0 : (Int × (Int × ((List Int) × Unit)))) (a1 : (Vec 2 Int)) (a2 : Int) : Option (((Int × (Int × ((List Int) × Unit))) × Int × Unit) × Unit) :=
  (impl_checkSpots a0 ([a1] : (List (Vec 2 Int)))).bind fun y451 =>
  bif (! (iEq y451.1.1 0)) then some ((((0, 0, [], ()) : (Int × (Int × ((List Int) × Unit)))), y451.1.1, ()), ()) else
  (impl_ownGrid a0).bind fun y453 =>
  (impl_Grid_at a0 a1).bind fun y454 =>
  bif inB y454.1.1 (List.length y453.1.1.2.2.1) then
    some ((((y453.1.1.1, y453.1.1.2.1, (List.set y453.1.1.2.2.1 y454.1.1.toNat a2), y453.1.1.2.2.2) : (Int × (Int × ((List Int) × Unit)))), (0 : Int), ()), ())
  else none
noncomputable def impl_WithCost_sg : Sig := ⟨[.v (.pair (.int .i64) (.pair (.int .i64) (.pair (.list (.int .u8)) (.unit)))), .v (.arr 2 (.int .i16)), .v (.int .u8)], [.v (.pair (.val (.int .i64)) (.pair (.val (.int .i64)) (.pair (.rows (.int .u8)) (.val (.unit))))), .v (.val (.int .i64))], false⟩
noncomputable def impl_WithCost_en : Entry := ⟨impl_WithCost_sg, fun x => impl_WithCost x.1 x.2.1 x.2.2.1⟩
theorem impl_WithCost_eq {G : List (Nat × Obj)} (x : impl_WithCost_sg.dom) : body (env G [(46, impl_checkSpots_en), (47, impl_ownGrid_en), (48, impl_Grid_at_en)]) [] Tryz.f14 impl_WithCost_sg x = impl_WithCost x.1 x.2.1 x.2.2.1 := by kernel_rfl
theorem impl_WithCost_so {G : List (Nat × Obj)} : Sound Tryz.prog G 14 impl_WithCost_en := sound_of_body (envS (l := [(46, impl_checkSpots_en), (47, impl_ownGrid_en), (48, impl_Grid_at_en)]) (⟨(impl_checkSpots_so), (impl_ownGrid_so), (impl_Grid_at_so), trivial⟩)) Tryz.func14 (by kernel_rfl) rfl (fun x y h => (impl_WithCost_eq (G := G) x).trans h)

-- loop.example/g01204/laws.f6big
noncomputable def laws_f6big (a0 : (List Int)) : Option ((Bool × Unit) × Unit) :=
  some (((iLt 4096 (lenI a0)), ()), ())
noncomputable def laws_f6big_sg : Sig := ⟨[.v (.list (.int .u8))], [.v (.val (.bool))], false⟩
noncomputable def laws_f6big_en : Entry := ⟨laws_f6big_sg, fun x => laws_f6big x.1⟩
theorem laws_f6big_eq {G : List (Nat × Obj)} (x : laws_f6big_sg.dom) : body (env G []) [] Tryz.f6 laws_f6big_sg x = laws_f6big x.1 := by kernel_rfl
theorem laws_f6big_so {G : List (Nat × Obj)} : Sound Tryz.prog G 6 laws_f6big_en := sound_of_body (envS (l := []) (trivial)) Tryz.func6 (by kernel_rfl) rfl (fun x y h => (laws_f6big_eq (G := G) x).trans h)

-- loop.example/g01204/spec.l00In
noncomputable def spec_l00In (a0 : Int) (a1 : Int) (a2 : Int) : Option ((Bool × Unit) × Unit) :=
  bif (iLe a1 a0) then
    some (((iLe a0 a2), ()), ())
  else some ((false, ()), ())
noncomputable def spec_l00In_sg : Sig := ⟨[.v (.int .i64), .v (.int .i64), .v (.int .i64)], [.v (.val (.bool))], false⟩
noncomputable def spec_l00In_en : Entry := ⟨spec_l00In_sg, fun x => spec_l00In x.1 x.2.1 x.2.2.1⟩
theorem spec_l00In_eq {G : List (Nat × Obj)} (x : spec_l00In_sg.dom) : body (env G []) [] Tryz.f52 spec_l00In_sg x = spec_l00In x.1 x.2.1 x.2.2.1 := by kernel_rfl
theorem spec_l00In_so {G : List (Nat × Obj)} : Sound Tryz.prog G 52 spec_l00In_en := sound_of_body (envS (l := []) (trivial)) Tryz.func52 (by kernel_rfl) rfl (fun x y h => (spec_l00In_eq (G := G) x).trans h)

-- loop.example/g01204/spec.EmptyGrid
noncomputable def spec_EmptyGrid (a0 : Int) (a1 : Int) : Option (((Int × (Int × ((List Int) × Unit))) × Int × Unit) × Unit) :=
  (spec_l00In a0 (1 : Int) (24 : Int)).bind fun y542 =>
  bif (! y542.1.1) then some ((((0, 0, [], ()) : (Int × (Int × ((List Int) × Unit)))), (2 : Int), ()), ()) else
  (spec_l00In a1 (1 : Int) (24 : Int)).bind fun y544 =>
  bif (! y544.1.1) then some ((((0, 0, [], ()) : (Int × (Int × ((List Int) × Unit)))), (2 : Int), ()), ()) else
  let x546 := iMul .i64 a0 a1
  bif (iLe 0 x546 && iLe x546 x546 && room x546.toNat 1) then some ((((a0, a1, List.replicate x546.toNat (0 : Int), ()) : (Int × (Int × ((List Int) × Unit)))), (0 : Int), ()), ()) else none
noncomputable def spec_EmptyGrid_sg : Sig := ⟨[.v (.int .i64), .v (.int .i64)], [.v (.pair (.val (.int .i64)) (.pair (.val (.int .i64)) (.pair (.rows (.int .u8)) (.val (.unit))))), .v (.val (.int .i64))], false⟩
noncomputable def spec_EmptyGrid_en : Entry := ⟨spec_EmptyGrid_sg, fun x => spec_EmptyGrid x.1 x.2.1⟩
theorem spec_EmptyGrid_eq {G : List (Nat × Obj)} (x : spec_EmptyGrid_sg.dom) : body (env G [(52, spec_l00In_en)]) [] Tryz.f63 spec_EmptyGrid_sg x = spec_EmptyGrid x.1 x.2.1 := by kernel_rfl
theorem spec_EmptyGrid_so {G : List (Nat × Obj)} : Sound Tryz.prog G 63 spec_EmptyGrid_en := sound_of_body (envS (l := [(52, spec_l00In_en)]) (⟨(spec_l00In_so), trivial⟩)) Tryz.func63 (by kernel_rfl) rfl (fun x y h => (spec_EmptyGrid_eq (G := G) x).trans h)

-- loop.example/g01204/spec.l05Compare
noncomputable def spec_l05Compare (a0 : (Vec 3 Int)) (a1 : (Vec 3 Int)) : Option ((Int × Unit) × Unit) :=
  bif (iLt (Vec.getD 3 a0 0 (0 : Int)) (Vec.getD 3 a1 0 (0 : Int))) then some ((((-1 : Int) : Int), ()), ()) else
  bif (iLt (Vec.getD 3 a1 0 (0 : Int)) (Vec.getD 3 a0 0 (0 : Int))) then some (((1 : Int), ()), ()) else
  bif (iLt (Vec.getD 3 a0 1 (0 : Int)) (Vec.getD 3 a1 1 (0 : Int))) then some ((((-1 : Int) : Int), ()), ()) else
  bif (iLt (Vec.getD 3 a1 1 (0 : Int)) (Vec.getD 3 a0 1 (0 : Int))) then some (((1 : Int), ()), ()) else
  bif (iLt (Vec.getD 3 a0 2 (0 : Int)) (Vec.getD 3 a1 2 (0 : Int))) then some ((((-1 : Int) : Int), ()), ()) else
  bif (iLt (Vec.getD 3 a1 2 (0 : Int)) (Vec.getD 3 a0 2 (0 : Int))) then some (((1 : Int), ()), ()) else some (((0 : Int), ()), ())
noncomputable def spec_l05Compare_sg : Sig := ⟨[.v (.arr 3 (.int .i32)), .v (.arr 3 (.int .i32))], [.v (.val (.int .i64))], false⟩
noncomputable def spec_l05Compare_en : Entry := ⟨spec_l05Compare_sg, fun x => spec_l05Compare x.1 x.2.1⟩
theorem spec_l05Compare_eq {G : List (Nat × Obj)} (x : spec_l05Compare_sg.dom) : body (env G []) [(2, .unroll 4)] Tryz.f123 spec_l05Compare_sg x = spec_l05Compare x.1 x.2.1 := by kernel_rfl
theorem spec_l05Compare_so {G : List (Nat × Obj)} : Sound Tryz.prog G 123 spec_l05Compare_en := sound_of_body (envS (l := []) (trivial)) Tryz.func123 (by kernel_rfl) rfl (fun x y h => (spec_l05Compare_eq (G := G) x).trans h)

-- loop.example/g01204/spec.l01Finite
noncomputable def spec_l01Finite (a0 : Nat) : Option ((Bool × Unit) × Unit) :=
  some (((fEq .f32 (fSub .f32 a0 a0) 0), ()), ())
noncomputable def spec_l01Finite_sg : Sig := ⟨[.v (.flt .f32)], [.v (.val (.bool))], false⟩
noncomputable def spec_l01Finite_en : Entry := ⟨spec_l01Finite_sg, fun x => spec_l01Finite x.1⟩
theorem spec_l01Finite_eq {G : List (Nat × Obj)} (x : spec_l01Finite_sg.dom) : body (env G []) [] Tryz.f124 spec_l01Finite_sg x = spec_l01Finite x.1 := by kernel_rfl
theorem spec_l01Finite_so {G : List (Nat × Obj)} : Sound Tryz.prog G 124 spec_l01Finite_en := sound_of_body (envS (l := []) (trivial)) Tryz.func124 (by kernel_rfl) rfl (fun x y h => (spec_l01Finite_eq (G := G) x).trans h)

-- loop.example/g01204/spec.l01Vec
noncomputable def spec_l01Vec (a0 : (Vec 3 Nat)) : Option ((Bool × Unit) × Unit) :=
  (spec_l01Finite (Vec.getD 3 a0 0 (0 : Nat))).bind fun y590 =>
  bif y590.1.1 then
    (spec_l01Finite (Vec.getD 3 a0 1 (0 : Nat))).bind fun y592 =>
    bif y592.1.1 then
      (spec_l01Finite (Vec.getD 3 a0 2 (0 : Nat))).bind fun y594 =>
      some ((y594.1.1, ()), ())
    else some ((false, ()), ())
  else some ((false, ()), ())
noncomputable def spec_l01Vec_sg : Sig := ⟨[.v (.arr 3 (.flt .f32))], [.v (.val (.bool))], false⟩
noncomputable def spec_l01Vec_en : Entry := ⟨spec_l01Vec_sg, fun x => spec_l01Vec x.1⟩
theorem spec_l01Vec_eq {G : List (Nat × Obj)} (x : spec_l01Vec_sg.dom) : body (env G [(124, spec_l01Finite_en)]) [] Tryz.f134 spec_l01Vec_sg x = spec_l01Vec x.1 := by kernel_rfl
theorem spec_l01Vec_so {G : List (Nat × Obj)} : Sound Tryz.prog G 134 spec_l01Vec_en := sound_of_body (envS (l := [(124, spec_l01Finite_en)]) (⟨(spec_l01Finite_so), trivial⟩)) Tryz.func134 (by kernel_rfl) rfl (fun x y h => (spec_l01Vec_eq (G := G) x).trans h)

-- loop.example/g01204/spec.l04Time
noncomputable def spec_l04Time (a0 : Int) : Option ((Bool × Unit) × Unit) :=
  (spec_l00In a0 (0 : Int) (1000000000 : Int)).bind fun y595 =>
  some ((y595.1.1, ()), ())
noncomputable def spec_l04Time_sg : Sig := ⟨[.v (.int .i64)], [.v (.val (.bool))], false⟩
noncomputable def spec_l04Time_en : Entry := ⟨spec_l04Time_sg, fun x => spec_l04Time x.1⟩
theorem spec_l04Time_eq {G : List (Nat × Obj)} (x : spec_l04Time_sg.dom) : body (env G [(52, spec_l00In_en)]) [] Tryz.f156 spec_l04Time_sg x = spec_l04Time x.1 := by kernel_rfl
theorem spec_l04Time_so {G : List (Nat × Obj)} : Sound Tryz.prog G 156 spec_l04Time_en := sound_of_body (envS (l := [(52, spec_l00In_en)]) (⟨(spec_l00In_so), trivial⟩)) Tryz.func156 (by kernel_rfl) rfl (fun x y h => (spec_l04Time_eq (G := G) x).trans h)

-- loop.example/g01204/spec.l05Mark
noncomputable def spec_l05Mark (a0 : ((Vec 3 Int) × ((Vec 3 Nat) × (Nat × (Int × (Int × Unit)))))) : Option ((Bool × Unit) × Unit) :=
  (spec_l01Vec a0.2.1).bind fun y582 =>
  bif y582.1.1 then
    (spec_l01Finite a0.2.2.1).bind fun y583 =>
    bif y583.1.1 then
      bif (fLt .f32 0 a0.2.2.1) then
        (spec_l00In a0.2.2.2.1 (1 : Int) (1000000 : Int)).bind fun y585 =>
        bif y585.1.1 then
          (spec_l04Time a0.2.2.2.2.1).bind fun y586 =>
          some ((y586.1.1, ()), ())
        else some ((false, ()), ())
      else some ((false, ()), ())
    else some ((false, ()), ())
  else some ((false, ()), ())
noncomputable def spec_l05Mark_sg : Sig := ⟨[.ro (.pair (.arr 3 (.int .i32)) (.pair (.arr 3 (.flt .f32)) (.pair (.flt .f32) (.pair (.int .i64) (.pair (.int .i64) (.unit))))))], [.v (.val (.bool))], false⟩
noncomputable def spec_l05Mark_en : Entry := ⟨spec_l05Mark_sg, fun x => spec_l05Mark x.1⟩
theorem spec_l05Mark_eq {G : List (Nat × Obj)} (x : spec_l05Mark_sg.dom) : body (env G [(52, spec_l00In_en), (124, spec_l01Finite_en), (134, spec_l01Vec_en), (156, spec_l04Time_en)]) [] Tryz.f122 spec_l05Mark_sg x = spec_l05Mark x.1 := by kernel_rfl
theorem spec_l05Mark_so {G : List (Nat × Obj)} : Sound Tryz.prog G 122 spec_l05Mark_en := sound_of_body (envS (l := [(52, spec_l00In_en), (124, spec_l01Finite_en), (134, spec_l01Vec_en), (156, spec_l04Time_en)]) (⟨(spec_l00In_so), (spec_l01Finite_so), (spec_l01Vec_so), (spec_l04Time_so), trivial⟩)) Tryz.func122 (by kernel_rfl) rfl (fun x y h => (spec_l05Mark_eq (G := G) x).trans h)

-- loop.example/g01204/spec.l05Side
noncomputable def spec_l05Side (a0 : Nat) : Option ((Bool × Unit) × Unit) :=
  (spec_l01Finite a0).bind fun y596 =>
  bif y596.1.1 then
    some (((fLt .f32 0 a0), ()), ())
  else some ((false, ()), ())
noncomputable def spec_l05Side_sg : Sig := ⟨[.v (.flt .f32)], [.v (.val (.bool))], false⟩
noncomputable def spec_l05Side_en : Entry := ⟨spec_l05Side_sg, fun x => spec_l05Side x.1⟩
theorem spec_l05Side_eq {G : List (Nat × Obj)} (x : spec_l05Side_sg.dom) : body (env G [(124, spec_l01Finite_en)]) [] Tryz.f121 spec_l05Side_sg x = spec_l05Side x.1 := by kernel_rfl
theorem spec_l05Side_so {G : List (Nat × Obj)} : Sound Tryz.prog G 121 spec_l05Side_en := sound_of_body (envS (l := [(124, spec_l01Finite_en)]) (⟨(spec_l01Finite_so), trivial⟩)) Tryz.func121 (by kernel_rfl) rfl (fun x y h => (spec_l05Side_eq (G := G) x).trans h)

-- loop.example/g01204/spec.l05Ok
noncomputable def spec_l05Ok_l4 (a0 : (Nat × ((List ((Vec 3 Int) × ((Vec 3 Nat) × (Nat × (Int × (Int × Unit)))))) × Unit))) (s552 : (Int × Unit)) : Option ((Int × Unit) ⊕ ((Bool × Unit) × Unit)) :=
  bif (iLt s552.1 (lenI a0.2.1)) then
    bif inB s552.1 (List.length a0.2.1) then
      (spec_l05Mark (List.getD a0.2.1 s552.1.toNat (((0, 0, 0, ()), (0, 0, 0, ()), 0, 0, 0, ()) : ((Vec 3 Int) × ((Vec 3 Nat) × (Nat × (Int × (Int × Unit)))))))).bind fun y554 =>
      bif (! y554.1.1) then
        Option.map Sum.inr (some ((false, ()), ()))
      else
      bif (iLt 0 s552.1) then
        let x557 := iSub .i64 s552.1 1
        bif inB x557 (List.length a0.2.1) then
          bif inB s552.1 (List.length a0.2.1) then
            (spec_l05Compare ((List.getD a0.2.1 x557.toNat (((0, 0, 0, ()), (0, 0, 0, ()), 0, 0, 0, ()) : ((Vec 3 Int) × ((Vec 3 Nat) × (Nat × (Int × (Int × Unit))))))).1) ((List.getD a0.2.1 s552.1.toNat (((0, 0, 0, ()), (0, 0, 0, ()), 0, 0, 0, ()) : ((Vec 3 Int) × ((Vec 3 Nat) × (Nat × (Int × (Int × Unit))))))).1)).bind fun y560 =>
            bif (iLe 0 y560.1.1) then
              Option.map Sum.inr (some ((false, ()), ()))
            else
            some (Sum.inl ((iAdd .i64 s552.1 1), ()))
          else none
        else none
      else
      some (Sum.inl ((iAdd .i64 s552.1 1), ()))
    else none
  else
  Option.map Sum.inr (some ((true, ()), ()))
noncomputable def spec_l05Ok (a0 : (Nat × ((List ((Vec 3 Int) × ((Vec 3 Nat) × (Nat × (Int × (Int × Unit)))))) × Unit))) : Option ((Bool × Unit) × Unit) :=
  (spec_l05Side a0.1).bind fun y549 =>
  bif (! y549.1.1) then some ((false, ()), ()) else
  bif (iLt 200 (lenI a0.2.1)) then some ((false, ()), ()) else run (spec_l05Ok_l4 a0) ((0 : Int), ())
noncomputable def spec_l05Ok_sg : Sig := ⟨[.ro (.pair (.flt .f32) (.pair (.list (.pair (.arr 3 (.int .i32)) (.pair (.arr 3 (.flt .f32)) (.pair (.flt .f32) (.pair (.int .i64) (.pair (.int .i64) (.unit))))))) (.unit)))], [.v (.val (.bool))], false⟩
noncomputable def spec_l05Ok_en : Entry := ⟨spec_l05Ok_sg, fun x => spec_l05Ok x.1⟩
theorem spec_l05Ok_eq {G : List (Nat × Obj)} (x : spec_l05Ok_sg.dom) : body (env G [(121, spec_l05Side_en), (122, spec_l05Mark_en), (123, spec_l05Compare_en)]) [(4, .vary [(3, .sc (.int .i64))])] Tryz.f62 spec_l05Ok_sg x = spec_l05Ok x.1 := by kernel_rfl
theorem spec_l05Ok_so {G : List (Nat × Obj)} : Sound Tryz.prog G 62 spec_l05Ok_en := sound_of_body (envS (l := [(121, spec_l05Side_en), (122, spec_l05Mark_en), (123, spec_l05Compare_en)]) (⟨(spec_l05Side_so), (spec_l05Mark_so), (spec_l05Compare_so), trivial⟩)) Tryz.func62 (by kernel_rfl) rfl (fun x y h => (spec_l05Ok_eq (G := G) x).trans h)

-- loop.example/g01204/spec.l07Low
noncomputable def spec_l07Low (a0 : (Vec 2 Nat)) (a1 : Nat) : Option ((Bool × Unit) × Unit) :=
  (spec_l01Finite (Vec.getD 2 a0 0 (0 : Nat))).bind fun y599 =>
  bif y599.1.1 then
    (spec_l01Finite (Vec.getD 2 a0 1 (0 : Nat))).bind fun y601 =>
    bif y601.1.1 then
      (spec_l01Finite a1).bind fun y602 =>
      some ((y602.1.1, ()), ())
    else some ((false, ()), ())
  else some ((false, ()), ())
noncomputable def spec_l07Low_sg : Sig := ⟨[.v (.arr 2 (.flt .f32)), .v (.flt .f32)], [.v (.val (.bool))], false⟩
noncomputable def spec_l07Low_en : Entry := ⟨spec_l07Low_sg, fun x => spec_l07Low x.1 x.2.1⟩
theorem spec_l07Low_eq {G : List (Nat × Obj)} (x : spec_l07Low_sg.dom) : body (env G [(124, spec_l01Finite_en)]) [] Tryz.f64 spec_l07Low_sg x = spec_l07Low x.1 x.2.1 := by kernel_rfl
theorem spec_l07Low_so {G : List (Nat × Obj)} : Sound Tryz.prog G 64 spec_l07Low_en := sound_of_body (envS (l := [(124, spec_l01Finite_en)]) (⟨(spec_l01Finite_so), trivial⟩)) Tryz.func64 (by kernel_rfl) rfl (fun x y h => (spec_l07Low_eq (G := G) x).trans h)

-- loop.example/g01204/spec.GridOfMarks
noncomputable def spec_GridOfMarks_l7 (a0 : (Nat × ((List ((Vec 3 Int) × ((Vec 3 Nat) × (Nat × (Int × (Int × Unit)))))) × Unit))) (a3 : (Vec 2 Nat)) (a4 : Nat) (a1 : Int) (a2 : Int) (s512 : (Int × (Int × (Int × ((List Int) × Unit))) × Unit)) : Option ((Int × (Int × (Int × ((List Int) × Unit))) × Unit) ⊕ (((Int × (Int × ((List Int) × Unit))) × Int × Unit) × Unit)) :=
  bif (iLt s512.1 (lenI a0.2.1)) then
    bif inB s512.1 (List.length a0.2.1) then
      (fConv .f32 .f64 (fDiv .f32 (fSub .f32 (Vec.getD 3 (((List.getD a0.2.1 s512.1.toNat (((0, 0, 0, ()), (0, 0, 0, ()), 0, 0, 0, ()) : ((Vec 3 Int) × ((Vec 3 Nat) × (Nat × (Int × (Int × Unit))))))).2).1) 0 (0 : Nat)) (Vec.getD 2 a3 0 (0 : Nat))) a4)).bind fun y518 =>
      (math_Floor y518).bind fun y519 =>
      bif inB s512.1 (List.length a0.2.1) then
        (fConv .f32 .f64 (fDiv .f32 (fSub .f32 (Vec.getD 3 (((List.getD a0.2.1 s512.1.toNat (((0, 0, 0, ()), (0, 0, 0, ()), 0, 0, 0, ()) : ((Vec 3 Int) × ((Vec 3 Nat) × (Nat × (Int × (Int × Unit))))))).2).1) 1 (0 : Nat)) (Vec.getD 2 a3 1 (0 : Nat))) a4)).bind fun y524 =>
        (math_Floor y524).bind fun y525 =>
        bif (fLe .f64 0 y519.1.1) then
          bif (fLt .f64 y519.1.1 (fOfInt .f64 a1)) then
            bif (fLe .f64 0 y525.1.1) then
              bif (fLt .f64 y525.1.1 (fOfInt .f64 a2)) then
                (fToInt .f64 y525.1.1 .i64).bind fun n532 =>
                (fToInt .f64 y519.1.1 .i64).bind fun n534 =>
                let x535 := iAdd .i64 (iMul .i64 n532 a1) n534
                bif inB x535 (List.length s512.2.1.2.2.1) then
                  some (Sum.inl ((iAdd .i64 s512.1 1), ((s512.2.1.1, s512.2.1.2.1, (List.set s512.2.1.2.2.1 x535.toNat (255 : Int)), s512.2.1.2.2.2) : (Int × (Int × ((List Int) × Unit)))), ()))
                else none
              else
              some (Sum.inl ((iAdd .i64 s512.1 1), ((s512.2.1.1, s512.2.1.2.1, s512.2.1.2.2.1, s512.2.1.2.2.2) : (Int × (Int × ((List Int) × Unit)))), ()))
            else
            some (Sum.inl ((iAdd .i64 s512.1 1), ((s512.2.1.1, s512.2.1.2.1, s512.2.1.2.2.1, s512.2.1.2.2.2) : (Int × (Int × ((List Int) × Unit)))), ()))
          else
          some (Sum.inl ((iAdd .i64 s512.1 1), ((s512.2.1.1, s512.2.1.2.1, s512.2.1.2.2.1, s512.2.1.2.2.2) : (Int × (Int × ((List Int) × Unit)))), ()))
        else
        some (Sum.inl ((iAdd .i64 s512.1 1), ((s512.2.1.1, s512.2.1.2.1, s512.2.1.2.2.1, s512.2.1.2.2.2) : (Int × (Int × ((List Int) × Unit)))), ()))
      else none
    else none
  else
  Option.map Sum.inr (some ((((s512.2.1.1, s512.2.1.2.1, s512.2.1.2.2.1, s512.2.1.2.2.2) : (Int × (Int × ((List Int) × Unit)))), (0 : Int), ()), ()))
noncomputable def spec_GridOfMarks (a0 : (Nat × ((List ((Vec 3 Int) × ((Vec 3 Nat) × (Nat × (Int × (Int × Unit)))))) × Unit))) (a1 : Int) (a2 : Int) (a3 : (Vec 2 Nat)) (a4 : Nat) : Option (((Int × (Int × ((List Int) × Unit))) × Int × Unit) × Unit) :=
  (spec_l05Ok a0).bind fun y478 =>
  bif (! y478.1.1) then some ((((0, 0, [], ()) : (Int × (Int × ((List Int) × Unit)))), (1 : Int), ()), ()) else
  (spec_EmptyGrid a1 a2).bind fun y480 =>
  bif (! (iEq y480.1.2.1 0)) then some ((((0, 0, [], ()) : (Int × (Int × ((List Int) × Unit)))), (2 : Int), ()), ()) else
  (spec_l07Low a3 a4).bind fun y482 =>
  bif (! y482.1.1) then some ((((0, 0, [], ()) : (Int × (Int × ((List Int) × Unit)))), (2 : Int), ()), ()) else
  bif (! (fLt .f32 0 a4)) then some ((((0, 0, [], ()) : (Int × (Int × ((List Int) × Unit)))), (2 : Int), ()), ()) else run (spec_GridOfMarks_l7 a0 a3 a4 a1 a2) ((0 : Int), ((y480.1.1.1, y480.1.1.2.1, y480.1.1.2.2.1, y480.1.1.2.2.2) : (Int × (Int × ((List Int) × Unit)))), ())
noncomputable def spec_GridOfMarks_sg : Sig := ⟨[.v (.pair (.flt .f32) (.pair (.list (.pair (.arr 3 (.int .i32)) (.pair (.arr 3 (.flt .f32)) (.pair (.flt .f32) (.pair (.int .i64) (.pair (.int .i64) (.unit))))))) (.unit))), .v (.int .i64), .v (.int .i64), .v (.arr 2 (.flt .f32)), .v (.flt .f32)], [.v (.pair (.val (.int .i64)) (.pair (.val (.int .i64)) (.pair (.rows (.int .u8)) (.val (.unit))))), .v (.val (.int .i64))], false⟩
noncomputable def spec_GridOfMarks_en : Entry := ⟨spec_GridOfMarks_sg, fun x => spec_GridOfMarks x.1 x.2.1 x.2.2.1 x.2.2.2.1 x.2.2.2.2.1⟩
theorem spec_GridOfMarks_eq {G : List (Nat × Obj)} (x : spec_GridOfMarks_sg.dom) : body (env G [(61, math_Floor_en), (62, spec_l05Ok_en), (63, spec_EmptyGrid_en), (64, spec_l07Low_en)]) [(7, .vary [(14, .sc (.int .i64)), (12, .box (.pair (.val (.int .i64)) (.pair (.val (.int .i64)) (.pair (.rows (.int .u8)) (.val (.unit))))))])] Tryz.f19 spec_GridOfMarks_sg x = spec_GridOfMarks x.1 x.2.1 x.2.2.1 x.2.2.2.1 x.2.2.2.2.1 := by kernel_rfl
theorem spec_GridOfMarks_so {G : List (Nat × Obj)} : Sound Tryz.prog G 19 spec_GridOfMarks_en := sound_of_body (envS (l := [(61, math_Floor_en), (62, spec_l05Ok_en), (63, spec_EmptyGrid_en), (64, spec_l07Low_en)]) (⟨(math_Floor_so), (spec_l05Ok_so), (spec_EmptyGrid_so), (spec_l07Low_so), trivial⟩)) Tryz.func19 (by kernel_rfl) rfl (fun x y h => (spec_GridOfMarks_eq (G := G) x).trans h)

-- loop.example/g01204/spec.l00Max
noncomputable def spec_l00Max (a0 : Int) (a1 : Int) : Option ((Int × Unit) × Unit) :=
  bif (iLt a1 a0) then some ((a0, ()), ()) else some ((a1, ()), ())
noncomputable def spec_l00Max_sg : Sig := ⟨[.v (.int .i64), .v (.int .i64)], [.v (.val (.int .i64))], false⟩
noncomputable def spec_l00Max_en : Entry := ⟨spec_l00Max_sg, fun x => spec_l00Max x.1 x.2.1⟩
theorem spec_l00Max_eq {G : List (Nat × Obj)} (x : spec_l00Max_sg.dom) : body (env G []) [] Tryz.f54 spec_l00Max_sg x = spec_l00Max x.1 x.2.1 := by kernel_rfl
theorem spec_l00Max_so {G : List (Nat × Obj)} : Sound Tryz.prog G 54 spec_l00Max_en := sound_of_body (envS (l := []) (trivial)) Tryz.func54 (by kernel_rfl) rfl (fun x y h => (spec_l00Max_eq (G := G) x).trans h)

-- loop.example/g01204/spec.l00Min
noncomputable def spec_l00Min (a0 : Int) (a1 : Int) : Option ((Int × Unit) × Unit) :=
  bif (iLt a0 a1) then some ((a0, ()), ()) else some ((a1, ()), ())
noncomputable def spec_l00Min_sg : Sig := ⟨[.v (.int .i64), .v (.int .i64)], [.v (.val (.int .i64))], false⟩
noncomputable def spec_l00Min_en : Entry := ⟨spec_l00Min_sg, fun x => spec_l00Min x.1 x.2.1⟩
theorem spec_l00Min_eq {G : List (Nat × Obj)} (x : spec_l00Min_sg.dom) : body (env G []) [] Tryz.f55 spec_l00Min_sg x = spec_l00Min x.1 x.2.1 := by kernel_rfl
theorem spec_l00Min_so {G : List (Nat × Obj)} : Sound Tryz.prog G 55 spec_l00Min_en := sound_of_body (envS (l := []) (trivial)) Tryz.func55 (by kernel_rfl) rfl (fun x y h => (spec_l00Min_eq (G := G) x).trans h)

-- loop.example/g01204/spec.l07Copy
noncomputable def spec_l07Copy (a0 : (Int × (Int × ((List Int) × Unit)))) : Option (((Int × (Int × ((List Int) × Unit))) × Unit) × Unit) :=
  bif room (0 + List.length a0.2.2.1) 1 then
    some ((((a0.1, a0.2.1, (([] : (List Int)) ++ a0.2.2.1), ()) : (Int × (Int × ((List Int) × Unit)))), ()), ())
  else none
noncomputable def spec_l07Copy_sg : Sig := ⟨[.ro (.pair (.int .i64) (.pair (.int .i64) (.pair (.list (.int .u8)) (.unit))))], [.v (.pair (.val (.int .i64)) (.pair (.val (.int .i64)) (.pair (.rows (.int .u8)) (.val (.unit)))))], false⟩
noncomputable def spec_l07Copy_en : Entry := ⟨spec_l07Copy_sg, fun x => spec_l07Copy x.1⟩
theorem spec_l07Copy_eq {G : List (Nat × Obj)} (x : spec_l07Copy_sg.dom) : body (env G []) [] Tryz.f53 spec_l07Copy_sg x = spec_l07Copy x.1 := by kernel_rfl
theorem spec_l07Copy_so {G : List (Nat × Obj)} : Sound Tryz.prog G 53 spec_l07Copy_en := sound_of_body (envS (l := []) (trivial)) Tryz.func53 (by kernel_rfl) rfl (fun x y h => (spec_l07Copy_eq (G := G) x).trans h)

-- loop.example/g01204/spec.l07Ok
noncomputable def spec_l07Ok (a0 : (Int × (Int × ((List Int) × Unit)))) : Option ((Bool × Unit) × Unit) :=
  (spec_l00In a0.1 (1 : Int) (24 : Int)).bind fun y865 =>
  bif y865.1.1 then
    (spec_l00In a0.2.1 (1 : Int) (24 : Int)).bind fun y866 =>
    bif y866.1.1 then
      some (((iEq (lenI a0.2.2.1) (iMul .i64 a0.1 a0.2.1)), ()), ())
    else some ((false, ()), ())
  else some ((false, ()), ())
noncomputable def spec_l07Ok_sg : Sig := ⟨[.ro (.pair (.int .i64) (.pair (.int .i64) (.pair (.list (.int .u8)) (.unit))))], [.v (.val (.bool))], false⟩
noncomputable def spec_l07Ok_en : Entry := ⟨spec_l07Ok_sg, fun x => spec_l07Ok x.1⟩
theorem spec_l07Ok_eq {G : List (Nat × Obj)} (x : spec_l07Ok_sg.dom) : body (env G [(52, spec_l00In_en)]) [] Tryz.f51 spec_l07Ok_sg x = spec_l07Ok x.1 := by kernel_rfl
theorem spec_l07Ok_so {G : List (Nat × Obj)} : Sound Tryz.prog G 51 spec_l07Ok_en := sound_of_body (envS (l := [(52, spec_l00In_en)]) (⟨(spec_l00In_so), trivial⟩)) Tryz.func51 (by kernel_rfl) rfl (fun x y h => (spec_l07Ok_eq (G := G) x).trans h)

-- loop.example/g01204/spec.GrowWalls
noncomputable def spec_GrowWalls_l17 (a0 : (Int × (Int × ((List Int) × Unit)))) (s799 : (Int × (Int × (Int × ((List Int) × Unit))) × Unit)) (a1 : Int) (s834 : (Int × (Int × (Int × ((List Int) × Unit))) × Unit)) (s850 : (Int × (Int × (Int × ((List Int) × Unit))) × Unit)) : Option ((Int × (Int × (Int × ((List Int) × Unit))) × Unit) ⊕ ((Int × (Int × (Int × ((List Int) × Unit))) × Unit) ⊕ ((Int × (Int × (Int × ((List Int) × Unit))) × Unit) ⊕ ((Int × (Int × (Int × ((List Int) × Unit))) × Unit) ⊕ (((Int × (Int × ((List Int) × Unit))) × Int × Unit) × Unit))))) :=
  (spec_l00Min (iSub .i64 a0.1 1) (iAdd .i64 s799.1 a1)).bind fun y853 =>
  bif (iLe s850.1 y853.1.1) then
    let x856 := iAdd .i64 (iMul .i64 s834.1 a0.1) s850.1
    bif inB x856 (List.length s850.2.1.2.2.1) then
      some (Sum.inl ((iAdd .i64 s850.1 1), ((s850.2.1.1, s850.2.1.2.1, (List.set s850.2.1.2.2.1 x856.toNat (255 : Int)), s850.2.1.2.2.2) : (Int × (Int × ((List Int) × Unit)))), ()))
    else none
  else
  Option.map Sum.inr (some (Sum.inl ((iAdd .i64 s834.1 1), ((s850.2.1.1, s850.2.1.2.1, s850.2.1.2.2.1, s850.2.1.2.2.2) : (Int × (Int × ((List Int) × Unit)))), ())))
noncomputable def spec_GrowWalls_l14 (a0 : (Int × (Int × ((List Int) × Unit)))) (s735 : (Int × (Int × (Int × ((List Int) × Unit))) × Unit)) (a1 : Int) (s799 : (Int × (Int × (Int × ((List Int) × Unit))) × Unit)) (s834 : (Int × (Int × (Int × ((List Int) × Unit))) × Unit)) : Option ((Int × (Int × (Int × ((List Int) × Unit))) × Unit) ⊕ ((Int × (Int × (Int × ((List Int) × Unit))) × Unit) ⊕ ((Int × (Int × (Int × ((List Int) × Unit))) × Unit) ⊕ (((Int × (Int × ((List Int) × Unit))) × Int × Unit) × Unit)))) :=
  (spec_l00Min (iSub .i64 a0.2.1 1) (iAdd .i64 s735.1 a1)).bind fun y837 =>
  bif (iLe s834.1 y837.1.1) then
    (spec_l00Max (0 : Int) (iSub .i64 s799.1 a1)).bind fun y840 =>
    run (spec_GrowWalls_l17 a0 s799 a1 s834) (y840.1.1, ((s834.2.1.1, s834.2.1.2.1, s834.2.1.2.2.1, s834.2.1.2.2.2) : (Int × (Int × ((List Int) × Unit)))), ())
  else
  Option.map Sum.inr (some (Sum.inl ((iAdd .i64 s799.1 1), ((s834.2.1.1, s834.2.1.2.1, s834.2.1.2.2.1, s834.2.1.2.2.2) : (Int × (Int × ((List Int) × Unit)))), ())))
noncomputable def spec_GrowWalls_l10 (a0 : (Int × (Int × ((List Int) × Unit)))) (s735 : (Int × (Int × (Int × ((List Int) × Unit))) × Unit)) (a1 : Int) (s799 : (Int × (Int × (Int × ((List Int) × Unit))) × Unit)) : Option ((Int × (Int × (Int × ((List Int) × Unit))) × Unit) ⊕ ((Int × (Int × (Int × ((List Int) × Unit))) × Unit) ⊕ (((Int × (Int × ((List Int) × Unit))) × Int × Unit) × Unit))) :=
  bif (iLt s799.1 a0.1) then
    let x802 := iAdd .i64 (iMul .i64 s735.1 a0.1) s799.1
    bif inB x802 (List.length a0.2.2.1) then
      bif (! (iEq (List.getD a0.2.2.1 x802.toNat (0 : Int)) 255)) then
        some (Sum.inl ((iAdd .i64 s799.1 1), ((s799.2.1.1, s799.2.1.2.1, s799.2.1.2.2.1, s799.2.1.2.2.2) : (Int × (Int × ((List Int) × Unit)))), ()))
      else
      (spec_l00Max (0 : Int) (iSub .i64 s735.1 a1)).bind fun y807 =>
      run (spec_GrowWalls_l14 a0 s735 a1 s799) (y807.1.1, ((s799.2.1.1, s799.2.1.2.1, s799.2.1.2.2.1, s799.2.1.2.2.2) : (Int × (Int × ((List Int) × Unit)))), ())
    else none
  else
  Option.map Sum.inr (some (Sum.inl ((iAdd .i64 s735.1 1), ((s799.2.1.1, s799.2.1.2.1, s799.2.1.2.2.1, s799.2.1.2.2.2) : (Int × (Int × ((List Int) × Unit)))), ())))
noncomputable def spec_GrowWalls_l7 (a0 : (Int × (Int × ((List Int) × Unit)))) (a1 : Int) (s735 : (Int × (Int × (Int × ((List Int) × Unit))) × Unit)) : Option ((Int × (Int × (Int × ((List Int) × Unit))) × Unit) ⊕ (((Int × (Int × ((List Int) × Unit))) × Int × Unit) × Unit)) :=
  bif (iLt s735.1 a0.2.1) then run (spec_GrowWalls_l10 a0 s735 a1) ((0 : Int), ((s735.2.1.1, s735.2.1.2.1, s735.2.1.2.2.1, s735.2.1.2.2.2) : (Int × (Int × ((List Int) × Unit)))), ()) else
  Option.map Sum.inr (some ((((s735.2.1.1, s735.2.1.2.1, s735.2.1.2.2.1, s735.2.1.2.2.2) : (Int × (Int × ((List Int) × Unit)))), (0 : Int), ()), ()))
noncomputable def spec_GrowWalls (a0 : (Int × (Int × ((List Int) × Unit)))) (a1 : Int) : Option (((Int × (Int × ((List Int) × Unit))) × Int × Unit) × Unit) :=
  (spec_l07Ok a0).bind fun y603 =>
  bif (! y603.1.1) then some ((((0, 0, [], ()) : (Int × (Int × ((List Int) × Unit)))), (1 : Int), ()), ()) else
  (spec_l00In a1 (0 : Int) (24 : Int)).bind fun y605 =>
  bif (! y605.1.1) then some ((((0, 0, [], ()) : (Int × (Int × ((List Int) × Unit)))), (2 : Int), ()), ()) else
  (spec_l07Copy a0).bind fun y607 =>
  run (spec_GrowWalls_l7 a0 a1) ((0 : Int), ((y607.1.1.1, y607.1.1.2.1, y607.1.1.2.2.1, y607.1.1.2.2.2) : (Int × (Int × ((List Int) × Unit)))), ())
noncomputable def spec_GrowWalls_sg : Sig := ⟨[.v (.pair (.int .i64) (.pair (.int .i64) (.pair (.list (.int .u8)) (.unit)))), .v (.int .i64)], [.v (.pair (.val (.int .i64)) (.pair (.val (.int .i64)) (.pair (.rows (.int .u8)) (.val (.unit))))), .v (.val (.int .i64))], false⟩
noncomputable def spec_GrowWalls_en : Entry := ⟨spec_GrowWalls_sg, fun x => spec_GrowWalls x.1 x.2.1⟩
theorem spec_GrowWalls_eq {G : List (Nat × Obj)} (x : spec_GrowWalls_sg.dom) : body (env G [(51, spec_l07Ok_en), (52, spec_l00In_en), (53, spec_l07Copy_en), (54, spec_l00Max_en), (55, spec_l00Min_en)]) [(7, .vary [(7, .sc (.int .i64)), (6, .box (.pair (.val (.int .i64)) (.pair (.val (.int .i64)) (.pair (.rows (.int .u8)) (.val (.unit))))))]), (10, .vary [(8, .sc (.int .i64)), (6, .box (.pair (.val (.int .i64)) (.pair (.val (.int .i64)) (.pair (.rows (.int .u8)) (.val (.unit))))))]), (14, .vary [(9, .sc (.int .i64)), (6, .box (.pair (.val (.int .i64)) (.pair (.val (.int .i64)) (.pair (.rows (.int .u8)) (.val (.unit))))))]), (17, .vary [(10, .sc (.int .i64)), (6, .box (.pair (.val (.int .i64)) (.pair (.val (.int .i64)) (.pair (.rows (.int .u8)) (.val (.unit))))))])] Tryz.f16 spec_GrowWalls_sg x = spec_GrowWalls x.1 x.2.1 := by kernel_rfl
theorem spec_GrowWalls_so {G : List (Nat × Obj)} : Sound Tryz.prog G 16 spec_GrowWalls_en := sound_of_body (envS (l := [(51, spec_l07Ok_en), (52, spec_l00In_en), (53, spec_l07Copy_en), (54, spec_l00Max_en), (55, spec_l00Min_en)]) (⟨(spec_l07Ok_so), (spec_l00In_so), (spec_l07Copy_so), (spec_l00Max_so), (spec_l00Min_so), trivial⟩)) Tryz.func16 (by kernel_rfl) rfl (fun x y h => (spec_GrowWalls_eq (G := G) x).trans h)

-- loop.example/g01204/spec.l00From
noncomputable def spec_l00From (a0 : (List Int)) : Option ((((List Int) × (Int × (Int × Unit))) × Unit) × Unit) :=
  some ((((a0, 0, 0, ()) : ((List Int) × (Int × (Int × Unit)))), ()), ())
noncomputable def spec_l00From_sg : Sig := ⟨[.v (.list (.int .u8))], [.p (.val (.pair (.list (.int .u8)) (.pair (.int .i64) (.pair (.int .u64) (.unit)))))], true⟩
noncomputable def spec_l00From_en : Entry := ⟨spec_l00From_sg, fun x => spec_l00From x.1⟩
theorem spec_l00From_eq {G : List (Nat × Obj)} (x : spec_l00From_sg.dom) : body (env G []) [] Tryz.f39 spec_l00From_sg x = spec_l00From x.1 := by kernel_rfl
theorem spec_l00From_so {G : List (Nat × Obj)} : Sound Tryz.prog G 39 spec_l00From_en := sound_of_body (envS (l := []) (trivial)) Tryz.func39 (by kernel_rfl) rfl (fun x y h => (spec_l00From_eq (G := G) x).trans h)

-- (*loop.example/g01204/spec.l00Src).next
noncomputable def spec_l00Src_next (a0 : ((List Int) × (Int × (Int × Unit)))) : Option ((Int × Unit) × (((List Int) × (Int × (Int × Unit))) × Unit)) :=
  bif (iLt a0.2.1 (lenI a0.1)) then
    bif inB a0.2.1 (List.length a0.1) then
      let x958 := iWrap .i64 (List.getD a0.1 a0.2.1.toNat (0 : Int))
      let x959 := iAdd .i64 a0.2.1 1
      let x963 := iAdd .u64 (iAdd .u64 (iMul .u64 a0.2.2.1 6364136223846793005) (iWrap .u64 x958)) 1442695040888963407
      bif (iLe x959 (lenI a0.1)) then some ((x958, ()), (((a0.1, x959, x963, a0.2.2.2) : ((List Int) × (Int × (Int × Unit)))), ())) else
      some (((iWrap .i64 (iAnd .u64 (iShr .u64 x963 40) 255)), ()), (((a0.1, x959, x963, a0.2.2.2) : ((List Int) × (Int × (Int × Unit)))), ()))
    else none
  else
  let x968 := iAdd .i64 a0.2.1 1
  let x971 := iAdd .u64 (iAdd .u64 (iMul .u64 a0.2.2.1 6364136223846793005) 0) 1442695040888963407
  bif (iLe x968 (lenI a0.1)) then some (((0 : Int), ()), (((a0.1, x968, x971, a0.2.2.2) : ((List Int) × (Int × (Int × Unit)))), ())) else
  some (((iWrap .i64 (iAnd .u64 (iShr .u64 x971 40) 255)), ()), (((a0.1, x968, x971, a0.2.2.2) : ((List Int) × (Int × (Int × Unit)))), ()))
noncomputable def spec_l00Src_next_sg : Sig := ⟨[.io (.val (.pair (.list (.int .u8)) (.pair (.int .i64) (.pair (.int .u64) (.unit)))))], [.v (.val (.int .i64))], true⟩
noncomputable def spec_l00Src_next_en : Entry := ⟨spec_l00Src_next_sg, fun x => spec_l00Src_next x.1⟩
theorem spec_l00Src_next_eq {G : List (Nat × Obj)} (x : spec_l00Src_next_sg.dom) : body (env G []) [] Tryz.f107 spec_l00Src_next_sg x = spec_l00Src_next x.1 := by kernel_rfl
theorem spec_l00Src_next_so {G : List (Nat × Obj)} : Sound Tryz.prog G 107 spec_l00Src_next_en := sound_of_body (envS (l := []) (trivial)) Tryz.func107 (by kernel_rfl) rfl (fun x y h => (spec_l00Src_next_eq (G := G) x).trans h)

-- (*loop.example/g01204/spec.l00Src).pick
noncomputable def spec_l00Src_pick (a0 : ((List Int) × (Int × (Int × Unit)))) (a1 : Int) : Option ((Int × Unit) × (((List Int) × (Int × (Int × Unit))) × Unit)) :=
  bif (iLe a1 1) then some (((0 : Int), ()), (a0, ())) else
  (spec_l00Src_next a0).bind fun y949 =>
  bif (iLt 200 a1) then
    (spec_l00Src_next y949.2.1).bind fun y952 =>
    bif iEq a1 0 then none else
    some (((iRem .i64 (iAdd .i64 (iMul .i64 y949.1.1 256) y952.1.1) a1), ()), (y952.2.1, ()))
  else
  bif iEq a1 0 then none else
  some (((iRem .i64 y949.1.1 a1), ()), (y949.2.1, ()))
noncomputable def spec_l00Src_pick_sg : Sig := ⟨[.io (.val (.pair (.list (.int .u8)) (.pair (.int .i64) (.pair (.int .u64) (.unit))))), .v (.int .i64)], [.v (.val (.int .i64))], true⟩
noncomputable def spec_l00Src_pick_en : Entry := ⟨spec_l00Src_pick_sg, fun x => spec_l00Src_pick x.1 x.2.1⟩
theorem spec_l00Src_pick_eq {G : List (Nat × Obj)} (x : spec_l00Src_pick_sg.dom) : body (env G [(107, spec_l00Src_next_en)]) [] Tryz.f40 spec_l00Src_pick_sg x = spec_l00Src_pick x.1 x.2.1 := by kernel_rfl
theorem spec_l00Src_pick_so {G : List (Nat × Obj)} : Sound Tryz.prog G 40 spec_l00Src_pick_en := sound_of_body (envS (l := [(107, spec_l00Src_next_en)]) (⟨(spec_l00Src_next_so), trivial⟩)) Tryz.func40 (by kernel_rfl) rfl (fun x y h => (spec_l00Src_pick_eq (G := G) x).trans h)

-- loop.example/g01204/spec.l07Drawn
noncomputable def spec_l07Drawn_l4 (y876 : ((Int × Unit) × (((List Int) × (Int × (Int × Unit))) × Unit))) (s891 : (Int × (Int × (Int × ((List Int) × Unit))) × ((List Int) × (Int × (Int × Unit))) × Unit)) : Option ((Int × (Int × (Int × ((List Int) × Unit))) × ((List Int) × (Int × (Int × Unit))) × Unit) ⊕ (((Int × (Int × ((List Int) × Unit))) × Unit) × (((List Int) × (Int × (Int × Unit))) × Unit))) :=
  bif (iLt s891.1 (lenI s891.2.1.2.2.1)) then
    (spec_l00Src_pick s891.2.2.1 (12 : Int)).bind fun y893 =>
    let x894 := iEq y893.1.1 0
    bif x894 then
      bif x894 then
        bif (iLt 0 y876.1.1) then
          bif inB s891.1 (List.length s891.2.1.2.2.1) then
            some (Sum.inl ((iAdd .i64 s891.1 1), ((s891.2.1.1, s891.2.1.2.1, (List.set s891.2.1.2.2.1 s891.1.toNat (255 : Int)), s891.2.1.2.2.2) : (Int × (Int × ((List Int) × Unit)))), y893.2.1, ()))
          else none
        else
        some (Sum.inl ((iAdd .i64 s891.1 1), ((s891.2.1.1, s891.2.1.2.1, s891.2.1.2.2.1, s891.2.1.2.2.2) : (Int × (Int × ((List Int) × Unit)))), y893.2.1, ()))
      else
      bif (iEq y893.1.1 3) then
        (spec_l00Src_pick y893.2.1 (9 : Int)).bind fun y900 =>
        bif inB s891.1 (List.length s891.2.1.2.2.1) then
          some (Sum.inl ((iAdd .i64 s891.1 1), ((s891.2.1.1, s891.2.1.2.1, (List.set s891.2.1.2.2.1 s891.1.toNat (iWrap .u8 (iMul .i64 10 (iAdd .i64 1 y900.1.1)))), s891.2.1.2.2.2) : (Int × (Int × ((List Int) × Unit)))), y900.2.1, ()))
        else none
      else
      bif (iEq y893.1.1 4) then
        (spec_l00Src_pick y893.2.1 (256 : Int)).bind fun y907 =>
        bif inB s891.1 (List.length s891.2.1.2.2.1) then
          some (Sum.inl ((iAdd .i64 s891.1 1), ((s891.2.1.1, s891.2.1.2.1, (List.set s891.2.1.2.2.1 s891.1.toNat (iWrap .u8 y907.1.1)), s891.2.1.2.2.2) : (Int × (Int × ((List Int) × Unit)))), y907.2.1, ()))
        else none
      else
      some (Sum.inl ((iAdd .i64 s891.1 1), ((s891.2.1.1, s891.2.1.2.1, s891.2.1.2.2.1, s891.2.1.2.2.2) : (Int × (Int × ((List Int) × Unit)))), y893.2.1, ()))
    else
    let x912 := iEq y893.1.1 1
    bif x912 then
      bif x912 then
        bif (iLt 0 y876.1.1) then
          bif inB s891.1 (List.length s891.2.1.2.2.1) then
            some (Sum.inl ((iAdd .i64 s891.1 1), ((s891.2.1.1, s891.2.1.2.1, (List.set s891.2.1.2.2.1 s891.1.toNat (255 : Int)), s891.2.1.2.2.2) : (Int × (Int × ((List Int) × Unit)))), y893.2.1, ()))
          else none
        else
        some (Sum.inl ((iAdd .i64 s891.1 1), ((s891.2.1.1, s891.2.1.2.1, s891.2.1.2.2.1, s891.2.1.2.2.2) : (Int × (Int × ((List Int) × Unit)))), y893.2.1, ()))
      else
      bif (iEq y893.1.1 3) then
        (spec_l00Src_pick y893.2.1 (9 : Int)).bind fun y918 =>
        bif inB s891.1 (List.length s891.2.1.2.2.1) then
          some (Sum.inl ((iAdd .i64 s891.1 1), ((s891.2.1.1, s891.2.1.2.1, (List.set s891.2.1.2.2.1 s891.1.toNat (iWrap .u8 (iMul .i64 10 (iAdd .i64 1 y918.1.1)))), s891.2.1.2.2.2) : (Int × (Int × ((List Int) × Unit)))), y918.2.1, ()))
        else none
      else
      bif (iEq y893.1.1 4) then
        (spec_l00Src_pick y893.2.1 (256 : Int)).bind fun y925 =>
        bif inB s891.1 (List.length s891.2.1.2.2.1) then
          some (Sum.inl ((iAdd .i64 s891.1 1), ((s891.2.1.1, s891.2.1.2.1, (List.set s891.2.1.2.2.1 s891.1.toNat (iWrap .u8 y925.1.1)), s891.2.1.2.2.2) : (Int × (Int × ((List Int) × Unit)))), y925.2.1, ()))
        else none
      else
      some (Sum.inl ((iAdd .i64 s891.1 1), ((s891.2.1.1, s891.2.1.2.1, s891.2.1.2.2.1, s891.2.1.2.2.2) : (Int × (Int × ((List Int) × Unit)))), y893.2.1, ()))
    else
    bif (iEq y893.1.1 2) then
      bif (iLt 0 y876.1.1) then
        bif inB s891.1 (List.length s891.2.1.2.2.1) then
          some (Sum.inl ((iAdd .i64 s891.1 1), ((s891.2.1.1, s891.2.1.2.1, (List.set s891.2.1.2.2.1 s891.1.toNat (255 : Int)), s891.2.1.2.2.2) : (Int × (Int × ((List Int) × Unit)))), y893.2.1, ()))
        else none
      else
      some (Sum.inl ((iAdd .i64 s891.1 1), ((s891.2.1.1, s891.2.1.2.1, s891.2.1.2.2.1, s891.2.1.2.2.2) : (Int × (Int × ((List Int) × Unit)))), y893.2.1, ()))
    else
    bif (iEq y893.1.1 3) then
      (spec_l00Src_pick y893.2.1 (9 : Int)).bind fun y936 =>
      bif inB s891.1 (List.length s891.2.1.2.2.1) then
        some (Sum.inl ((iAdd .i64 s891.1 1), ((s891.2.1.1, s891.2.1.2.1, (List.set s891.2.1.2.2.1 s891.1.toNat (iWrap .u8 (iMul .i64 10 (iAdd .i64 1 y936.1.1)))), s891.2.1.2.2.2) : (Int × (Int × ((List Int) × Unit)))), y936.2.1, ()))
      else none
    else
    bif (iEq y893.1.1 4) then
      (spec_l00Src_pick y893.2.1 (256 : Int)).bind fun y943 =>
      bif inB s891.1 (List.length s891.2.1.2.2.1) then
        some (Sum.inl ((iAdd .i64 s891.1 1), ((s891.2.1.1, s891.2.1.2.1, (List.set s891.2.1.2.2.1 s891.1.toNat (iWrap .u8 y943.1.1)), s891.2.1.2.2.2) : (Int × (Int × ((List Int) × Unit)))), y943.2.1, ()))
      else none
    else
    some (Sum.inl ((iAdd .i64 s891.1 1), ((s891.2.1.1, s891.2.1.2.1, s891.2.1.2.2.1, s891.2.1.2.2.2) : (Int × (Int × ((List Int) × Unit)))), y893.2.1, ()))
  else
  Option.map Sum.inr (some ((((s891.2.1.1, s891.2.1.2.1, s891.2.1.2.2.1, s891.2.1.2.2.2) : (Int × (Int × ((List Int) × Unit)))), ()), (s891.2.2.1, ())))
noncomputable def spec_l07Drawn (a0 : ((List Int) × (Int × (Int × Unit)))) : Option (((Int × (Int × ((List Int) × Unit))) × Unit) × (((List Int) × (Int × (Int × Unit))) × Unit)) :=
  (spec_l00Src_pick a0 (7 : Int)).bind fun y871 =>
  (spec_l00Src_pick y871.2.1 (7 : Int)).bind fun y873 =>
  (spec_EmptyGrid (iAdd .i64 1 y871.1.1) (iAdd .i64 1 y873.1.1)).bind fun y875 =>
  (spec_l00Src_pick y873.2.1 (4 : Int)).bind fun y876 =>
  run (spec_l07Drawn_l4 y876) ((0 : Int), ((y875.1.1.1, y875.1.1.2.1, y875.1.1.2.2.1, y875.1.1.2.2.2) : (Int × (Int × ((List Int) × Unit)))), y876.2.1, ())
noncomputable def spec_l07Drawn_sg : Sig := ⟨[.io (.val (.pair (.list (.int .u8)) (.pair (.int .i64) (.pair (.int .u64) (.unit)))))], [.v (.pair (.val (.int .i64)) (.pair (.val (.int .i64)) (.pair (.rows (.int .u8)) (.val (.unit)))))], true⟩
noncomputable def spec_l07Drawn_en : Entry := ⟨spec_l07Drawn_sg, fun x => spec_l07Drawn x.1⟩
theorem spec_l07Drawn_eq {G : List (Nat × Obj)} (x : spec_l07Drawn_sg.dom) : body (env G [(40, spec_l00Src_pick_en), (63, spec_EmptyGrid_en)]) [(4, .vary [(6, .sc (.int .i64)), (3, .box (.pair (.val (.int .i64)) (.pair (.val (.int .i64)) (.pair (.rows (.int .u8)) (.val (.unit)))))), (0, .box (.val (.pair (.list (.int .u8)) (.pair (.int .i64) (.pair (.int .u64) (.unit))))))])] Tryz.f38 spec_l07Drawn_sg x = spec_l07Drawn x.1 := by kernel_rfl
theorem spec_l07Drawn_so {G : List (Nat × Obj)} : Sound Tryz.prog G 38 spec_l07Drawn_en := sound_of_body (envS (l := [(40, spec_l00Src_pick_en), (63, spec_EmptyGrid_en)]) (⟨(spec_l00Src_pick_so), (spec_EmptyGrid_so), trivial⟩)) Tryz.func38 (by kernel_rfl) rfl (fun x y h => (spec_l07Drawn_eq (G := G) x).trans h)

-- loop.example/g01204/spec.P6Grid
noncomputable def spec_P6Grid (a0 : (List Int)) : Option (((Int × (Int × ((List Int) × Unit))) × Unit) × Unit) :=
  (spec_l00From a0).bind fun y869 =>
  (spec_l07Drawn y869.1.1).bind fun y870 =>
  some ((((y870.1.1.1, y870.1.1.2.1, y870.1.1.2.2.1, y870.1.1.2.2.2) : (Int × (Int × ((List Int) × Unit)))), ()), ())
noncomputable def spec_P6Grid_sg : Sig := ⟨[.v (.list (.int .u8))], [.v (.pair (.val (.int .i64)) (.pair (.val (.int .i64)) (.pair (.rows (.int .u8)) (.val (.unit)))))], false⟩
noncomputable def spec_P6Grid_en : Entry := ⟨spec_P6Grid_sg, fun x => spec_P6Grid x.1⟩
theorem spec_P6Grid_eq {G : List (Nat × Obj)} (x : spec_P6Grid_sg.dom) : body (env G [(38, spec_l07Drawn_en), (39, spec_l00From_en)]) [] Tryz.f7 spec_P6Grid_sg x = spec_P6Grid x.1 := by kernel_rfl
theorem spec_P6Grid_so {G : List (Nat × Obj)} : Sound Tryz.prog G 7 spec_P6Grid_en := sound_of_body (envS (l := [(38, spec_l07Drawn_en), (39, spec_l00From_en)]) (⟨(spec_l07Drawn_so), (spec_l00From_so), trivial⟩)) Tryz.func7 (by kernel_rfl) rfl (fun x y h => (spec_P6Grid_eq (G := G) x).trans h)

-- loop.example/g01204/spec.l05Cell
noncomputable def spec_l05Cell (a0 : Nat) (a1 : (Vec 3 Nat)) : Option (((Vec 3 Int) × Int × Unit) × Unit) :=
  (spec_l05Side a0).bind fun y1115 =>
  bif (! y1115.1.1) then some ((((0, 0, 0, ()) : (Vec 3 Int)), (2 : Int), ()), ()) else
  (spec_l01Vec a1).bind fun y1117 =>
  bif (! y1117.1.1) then some ((((0, 0, 0, ()) : (Vec 3 Int)), (2 : Int), ()), ()) else
  (fConv .f32 .f64 (fDiv .f32 (Vec.getD 3 a1 0 (0 : Nat)) a0)).bind fun y1121 =>
  (math_Floor y1121).bind fun y1122 =>
  bif (fLe .f64 13920209183539462144 y1122.1.1) then
    bif (! (fLe .f64 y1122.1.1 4696837146684686336)) then some ((((0, 0, 0, ()) : (Vec 3 Int)), (3 : Int), ()), ()) else
    (fToInt .f64 y1122.1.1 .i32).bind fun n1126 =>
    (fConv .f32 .f64 (fDiv .f32 (Vec.getD 3 a1 1 (0 : Nat)) a0)).bind fun y1129 =>
    (math_Floor y1129).bind fun y1130 =>
    bif (fLe .f64 13920209183539462144 y1130.1.1) then
      bif (! (fLe .f64 y1130.1.1 4696837146684686336)) then some ((((0, 0, 0, ()) : (Vec 3 Int)), (3 : Int), ()), ()) else
      (fToInt .f64 y1130.1.1 .i32).bind fun n1134 =>
      (fConv .f32 .f64 (fDiv .f32 (Vec.getD 3 a1 2 (0 : Nat)) a0)).bind fun y1137 =>
      (math_Floor y1137).bind fun y1138 =>
      bif (fLe .f64 13920209183539462144 y1138.1.1) then
        bif (! (fLe .f64 y1138.1.1 4696837146684686336)) then some ((((0, 0, 0, ()) : (Vec 3 Int)), (3 : Int), ()), ()) else
        (fToInt .f64 y1138.1.1 .i32).bind fun n1142 =>
        some ((((n1126, n1134, n1142, ()) : (Vec 3 Int)), (0 : Int), ()), ())
      else some ((((0, 0, 0, ()) : (Vec 3 Int)), (3 : Int), ()), ())
    else some ((((0, 0, 0, ()) : (Vec 3 Int)), (3 : Int), ()), ())
  else some ((((0, 0, 0, ()) : (Vec 3 Int)), (3 : Int), ()), ())
noncomputable def spec_l05Cell_sg : Sig := ⟨[.v (.flt .f32), .v (.arr 3 (.flt .f32))], [.v (.val (.arr 3 (.int .i32))), .v (.val (.int .i64))], false⟩
noncomputable def spec_l05Cell_en : Entry := ⟨spec_l05Cell_sg, fun x => spec_l05Cell x.1 x.2.1⟩
theorem spec_l05Cell_eq {G : List (Nat × Obj)} (x : spec_l05Cell_sg.dom) : body (env G [(61, math_Floor_en), (121, spec_l05Side_en), (134, spec_l01Vec_en)]) [(5, .unroll 4)] Tryz.f158 spec_l05Cell_sg x = spec_l05Cell x.1 x.2.1 := by kernel_rfl
theorem spec_l05Cell_so {G : List (Nat × Obj)} : Sound Tryz.prog G 158 spec_l05Cell_en := sound_of_body (envS (l := [(61, math_Floor_en), (121, spec_l05Side_en), (134, spec_l01Vec_en)]) (⟨(math_Floor_so), (spec_l05Side_so), (spec_l01Vec_so), trivial⟩)) Tryz.func158 (by kernel_rfl) rfl (fun x y h => (spec_l05Cell_eq (G := G) x).trans h)

-- loop.example/g01204/spec.l01Dot
noncomputable def spec_l01Dot (a0 : (Vec 3 Nat)) (a1 : (Vec 3 Nat)) : Option ((Nat × Unit) × Unit) :=
  some (((fAdd .f32 (fAdd .f32 (fMul .f32 (Vec.getD 3 a0 0 (0 : Nat)) (Vec.getD 3 a1 0 (0 : Nat))) (fMul .f32 (Vec.getD 3 a0 1 (0 : Nat)) (Vec.getD 3 a1 1 (0 : Nat)))) (fMul .f32 (Vec.getD 3 a0 2 (0 : Nat)) (Vec.getD 3 a1 2 (0 : Nat)))), ()), ())
noncomputable def spec_l01Dot_sg : Sig := ⟨[.v (.arr 3 (.flt .f32)), .v (.arr 3 (.flt .f32))], [.v (.val (.flt .f32))], false⟩
noncomputable def spec_l01Dot_en : Entry := ⟨spec_l01Dot_sg, fun x => spec_l01Dot x.1 x.2.1⟩
theorem spec_l01Dot_eq {G : List (Nat × Obj)} (x : spec_l01Dot_sg.dom) : body (env G []) [] Tryz.f213 spec_l01Dot_sg x = spec_l01Dot x.1 x.2.1 := by kernel_rfl
theorem spec_l01Dot_so {G : List (Nat × Obj)} : Sound Tryz.prog G 213 spec_l01Dot_en := sound_of_body (envS (l := []) (trivial)) Tryz.func213 (by kernel_rfl) rfl (fun x y h => (spec_l01Dot_eq (G := G) x).trans h)

theorem math_sqrt_so {G : List (Nat × Obj)} : Sound Tryz.prog G 240 math_sqrt_en := math_sqrt_sound Tryz.func240 (by kernel_rfl) (by kernel_rfl) (by kernel_rfl) (by kernel_rfl)

-- math.Sqrt
noncomputable def math_Sqrt (a0 : Nat) : Option ((Nat × Unit) × Unit) :=
  (math_sqrt a0).bind fun y1187 =>
  some ((y1187.1.1, ()), ())
noncomputable def math_Sqrt_sg : Sig := ⟨[.v (.flt .f64)], [.v (.val (.flt .f64))], false⟩
noncomputable def math_Sqrt_en : Entry := ⟨math_Sqrt_sg, fun x => math_Sqrt x.1⟩
theorem math_Sqrt_eq {G : List (Nat × Obj)} (x : math_Sqrt_sg.dom) : body (env G [(240, math_sqrt_en)]) [] Tryz.f232 math_Sqrt_sg x = math_Sqrt x.1 := by kernel_rfl
theorem math_Sqrt_so {G : List (Nat × Obj)} : Sound Tryz.prog G 232 math_Sqrt_en := sound_of_body (envS (l := [(240, math_sqrt_en)]) (⟨(math_sqrt_so), trivial⟩)) Tryz.func232 (by kernel_rfl) rfl (fun x y h => (math_Sqrt_eq (G := G) x).trans h)

-- loop.example/g01204/spec.l01Root
noncomputable def spec_l01Root (a0 : Nat) : Option ((Nat × Unit) × Unit) :=
  (fConv .f32 .f64 a0).bind fun y1184 =>
  (math_Sqrt y1184).bind fun y1185 =>
  (fConv .f64 .f32 y1185.1.1).bind fun y1186 =>
  some ((y1186, ()), ())
noncomputable def spec_l01Root_sg : Sig := ⟨[.v (.flt .f32)], [.v (.val (.flt .f32))], false⟩
noncomputable def spec_l01Root_en : Entry := ⟨spec_l01Root_sg, fun x => spec_l01Root x.1⟩
theorem spec_l01Root_eq {G : List (Nat × Obj)} (x : spec_l01Root_sg.dom) : body (env G [(232, math_Sqrt_en)]) [] Tryz.f212 spec_l01Root_sg x = spec_l01Root x.1 := by kernel_rfl
theorem spec_l01Root_so {G : List (Nat × Obj)} : Sound Tryz.prog G 212 spec_l01Root_en := sound_of_body (envS (l := [(232, math_Sqrt_en)]) (⟨(math_Sqrt_so), trivial⟩)) Tryz.func212 (by kernel_rfl) rfl (fun x y h => (spec_l01Root_eq (G := G) x).trans h)

-- loop.example/g01204/spec.l05Away
noncomputable def spec_l05Away (a0 : ((Vec 3 Int) × ((Vec 3 Nat) × (Nat × (Int × (Int × Unit)))))) (a1 : (Vec 3 Nat)) : Option ((Nat × Unit) × Unit) :=
  let x1164 := fSub .f32 (Vec.getD 3 a0.2.1 0 (0 : Nat)) (Vec.getD 3 a1 0 (0 : Nat))
  let x1167 := fSub .f32 (Vec.getD 3 a0.2.1 1 (0 : Nat)) (Vec.getD 3 a1 1 (0 : Nat))
  let x1170 := fSub .f32 (Vec.getD 3 a0.2.1 2 (0 : Nat)) (Vec.getD 3 a1 2 (0 : Nat))
  (spec_l01Dot ((x1164, x1167, x1170, ()) : (Vec 3 Nat)) ((x1164, x1167, x1170, ()) : (Vec 3 Nat))).bind fun y1171 =>
  (spec_l01Root y1171.1.1).bind fun y1172 =>
  some ((y1172.1.1, ()), ())
noncomputable def spec_l05Away_sg : Sig := ⟨[.ro (.pair (.arr 3 (.int .i32)) (.pair (.arr 3 (.flt .f32)) (.pair (.flt .f32) (.pair (.int .i64) (.pair (.int .i64) (.unit)))))), .v (.arr 3 (.flt .f32))], [.v (.val (.flt .f32))], false⟩
noncomputable def spec_l05Away_en : Entry := ⟨spec_l05Away_sg, fun x => spec_l05Away x.1 x.2.1⟩
theorem spec_l05Away_eq {G : List (Nat × Obj)} (x : spec_l05Away_sg.dom) : body (env G [(212, spec_l01Root_en), (213, spec_l01Dot_en)]) [] Tryz.f190 spec_l05Away_sg x = spec_l05Away x.1 x.2.1 := by kernel_rfl
theorem spec_l05Away_so {G : List (Nat × Obj)} : Sound Tryz.prog G 190 spec_l05Away_en := sound_of_body (envS (l := [(212, spec_l01Root_en), (213, spec_l01Dot_en)]) (⟨(spec_l01Root_so), (spec_l01Dot_so), trivial⟩)) Tryz.func190 (by kernel_rfl) rfl (fun x y h => (spec_l05Away_eq (G := G) x).trans h)

-- loop.example/g01204/spec.l05Beside
noncomputable def spec_l05Beside (a0 : (Vec 3 Int)) (a1 : (Vec 3 Int)) : Option ((Bool × Unit) × Unit) :=
  let x1192 := iSub .i64 (iWrap .i64 (Vec.getD 3 a0 0 (0 : Int))) (iWrap .i64 (Vec.getD 3 a1 0 (0 : Int)))
  bif (iLt 1 x1192) then some ((false, ()), ()) else
  bif (iLt x1192 (-1 : Int)) then some ((false, ()), ()) else
  let x1199 := iSub .i64 (iWrap .i64 (Vec.getD 3 a0 1 (0 : Int))) (iWrap .i64 (Vec.getD 3 a1 1 (0 : Int)))
  bif (iLt 1 x1199) then some ((false, ()), ()) else
  bif (iLt x1199 (-1 : Int)) then some ((false, ()), ()) else
  let x1206 := iSub .i64 (iWrap .i64 (Vec.getD 3 a0 2 (0 : Int))) (iWrap .i64 (Vec.getD 3 a1 2 (0 : Int)))
  bif (iLt 1 x1206) then some ((false, ()), ()) else
  bif (iLt x1206 (-1 : Int)) then some ((false, ()), ()) else some ((true, ()), ())
noncomputable def spec_l05Beside_sg : Sig := ⟨[.v (.arr 3 (.int .i32)), .v (.arr 3 (.int .i32))], [.v (.val (.bool))], false⟩
noncomputable def spec_l05Beside_en : Entry := ⟨spec_l05Beside_sg, fun x => spec_l05Beside x.1 x.2.1⟩
theorem spec_l05Beside_eq {G : List (Nat × Obj)} (x : spec_l05Beside_sg.dom) : body (env G []) [(2, .unroll 4)] Tryz.f189 spec_l05Beside_sg x = spec_l05Beside x.1 x.2.1 := by kernel_rfl
theorem spec_l05Beside_so {G : List (Nat × Obj)} : Sound Tryz.prog G 189 spec_l05Beside_en := sound_of_body (envS (l := []) (trivial)) Tryz.func189 (by kernel_rfl) rfl (fun x y h => (spec_l05Beside_eq (G := G) x).trans h)

-- loop.example/g01204/spec.l05Nearest
noncomputable def spec_l05Nearest_l9 (a0 : (Nat × ((List ((Vec 3 Int) × ((Vec 3 Nat) × (Nat × (Int × (Int × Unit)))))) × Unit))) (y1143 : (((Vec 3 Int) × Int × Unit) × Unit)) (a1 : (Vec 3 Nat)) (a2 : Nat) (s1148 : (Int × Nat × Int × Unit)) : Option ((Int × Nat × Int × Unit) ⊕ ((Int × Int × Unit) × Unit)) :=
  bif (iLt s1148.2.2.1 (lenI a0.2.1)) then
    bif inB s1148.2.2.1 (List.length a0.2.1) then
      (spec_l05Beside ((List.getD a0.2.1 s1148.2.2.1.toNat (((0, 0, 0, ()), (0, 0, 0, ()), 0, 0, 0, ()) : ((Vec 3 Int) × ((Vec 3 Nat) × (Nat × (Int × (Int × Unit))))))).1) y1143.1.1).bind fun y1151 =>
      bif (! y1151.1.1) then
        some (Sum.inl (s1148.1, s1148.2.1, (iAdd .i64 s1148.2.2.1 1), ()))
      else
      bif inB s1148.2.2.1 (List.length a0.2.1) then
        (spec_l05Away (List.getD a0.2.1 s1148.2.2.1.toNat (((0, 0, 0, ()), (0, 0, 0, ()), 0, 0, 0, ()) : ((Vec 3 Int) × ((Vec 3 Nat) × (Nat × (Int × (Int × Unit))))))) a1).bind fun y1154 =>
        bif (fLe .f32 y1154.1.1 a2) then
          bif (iLt s1148.1 0) then
            some (Sum.inl (s1148.2.2.1, y1154.1.1, (iAdd .i64 s1148.2.2.1 1), ()))
          else
          bif (fLt .f32 y1154.1.1 s1148.2.1) then
            some (Sum.inl (s1148.2.2.1, y1154.1.1, (iAdd .i64 s1148.2.2.1 1), ()))
          else
          some (Sum.inl (s1148.1, s1148.2.1, (iAdd .i64 s1148.2.2.1 1), ()))
        else
        some (Sum.inl (s1148.1, s1148.2.1, (iAdd .i64 s1148.2.2.1 1), ()))
      else none
    else none
  else
  Option.map Sum.inr (some ((s1148.1, (0 : Int), ()), ()))
noncomputable def spec_l05Nearest (a0 : (Nat × ((List ((Vec 3 Int) × ((Vec 3 Nat) × (Nat × (Int × (Int × Unit)))))) × Unit))) (a1 : (Vec 3 Nat)) (a2 : Nat) : Option ((Int × Int × Unit) × Unit) :=
  (spec_l05Cell a0.1 a1).bind fun y1143 =>
  bif (iEq y1143.1.2.1 2) then some ((((-1 : Int) : Int), (2 : Int), ()), ()) else
  bif (! (fLe .f32 0 a2)) then some ((((-1 : Int) : Int), (2 : Int), ()), ()) else
  bif (! (iEq y1143.1.2.1 0)) then some ((((-1 : Int) : Int), y1143.1.2.1, ()), ()) else run (spec_l05Nearest_l9 a0 y1143 a1 a2) (((-1 : Int) : Int), (0 : Nat), (0 : Int), ())
noncomputable def spec_l05Nearest_sg : Sig := ⟨[.ro (.pair (.flt .f32) (.pair (.list (.pair (.arr 3 (.int .i32)) (.pair (.arr 3 (.flt .f32)) (.pair (.flt .f32) (.pair (.int .i64) (.pair (.int .i64) (.unit))))))) (.unit))), .v (.arr 3 (.flt .f32)), .v (.flt .f32)], [.v (.val (.int .i64)), .v (.val (.int .i64))], false⟩
noncomputable def spec_l05Nearest_en : Entry := ⟨spec_l05Nearest_sg, fun x => spec_l05Nearest x.1 x.2.1 x.2.2.1⟩
theorem spec_l05Nearest_eq {G : List (Nat × Obj)} (x : spec_l05Nearest_sg.dom) : body (env G [(158, spec_l05Cell_en), (189, spec_l05Beside_en), (190, spec_l05Away_en)]) [(9, .vary [(10, .sc (.int .i64)), (11, .sc (.flt .f32)), (12, .sc (.int .i64))])] Tryz.f157 spec_l05Nearest_sg x = spec_l05Nearest x.1 x.2.1 x.2.2.1 := by kernel_rfl
theorem spec_l05Nearest_so {G : List (Nat × Obj)} : Sound Tryz.prog G 157 spec_l05Nearest_en := sound_of_body (envS (l := [(158, spec_l05Cell_en), (189, spec_l05Beside_en), (190, spec_l05Away_en)]) (⟨(spec_l05Cell_so), (spec_l05Beside_so), (spec_l05Away_so), trivial⟩)) Tryz.func157 (by kernel_rfl) rfl (fun x y h => (spec_l05Nearest_eq (G := G) x).trans h)

-- loop.example/g01204/spec.l01Same
noncomputable def spec_l01Same (a0 : Nat) (a1 : Nat) : Option ((Bool × Unit) × Unit) :=
  bif (! (fEq .f32 a0 a0)) then
    bif (! (fEq .f32 a0 a0)) then
      some (((! (fEq .f32 a1 a1)), ()), ())
    else some ((false, ()), ())
  else
  bif (! (fEq .f32 a1 a1)) then
    bif (! (fEq .f32 a0 a0)) then
      some (((! (fEq .f32 a1 a1)), ()), ())
    else some ((false, ()), ())
  else
  allSame fun (q1270 : Nat) =>
  allSame fun (q1272 : Nat) =>
  some (((iEq (bitsF .f32 a0 q1270) (bitsF .f32 a1 q1272)), ()), ())
noncomputable def spec_l01Same_sg : Sig := ⟨[.v (.flt .f32), .v (.flt .f32)], [.v (.val (.bool))], false⟩
noncomputable def spec_l01Same_en : Entry := ⟨spec_l01Same_sg, fun x => spec_l01Same x.1 x.2.1⟩
theorem spec_l01Same_eq {G : List (Nat × Obj)} (x : spec_l01Same_sg.dom) : body (env G []) [] Tryz.f129 spec_l01Same_sg x = spec_l01Same x.1 x.2.1 := by kernel_rfl
theorem spec_l01Same_so {G : List (Nat × Obj)} : Sound Tryz.prog G 129 spec_l01Same_en := sound_of_body (envS (l := []) (trivial)) Tryz.func129 (by kernel_rfl) rfl (fun x y h => (spec_l01Same_eq (G := G) x).trans h)

-- loop.example/g01204/spec.l05Better
noncomputable def spec_l05Better (a0 : ((Vec 3 Int) × ((Vec 3 Nat) × (Nat × (Int × (Int × Unit)))))) (a1 : ((Vec 3 Int) × ((Vec 3 Nat) × (Nat × (Int × (Int × Unit)))))) : Option ((Bool × Unit) × Unit) :=
  bif (! (iEq a0.2.2.2.2.1 a1.2.2.2.2.1)) then
    some (((iLt a1.2.2.2.2.1 a0.2.2.2.2.1), ()), ())
  else
  bif (! (fEq .f32 a0.2.2.1 a1.2.2.1)) then
    some (((fLt .f32 a1.2.2.1 a0.2.2.1), ()), ())
  else
  bif (! (iEq a0.2.2.2.1 a1.2.2.2.1)) then
    some (((iLt a1.2.2.2.1 a0.2.2.2.1), ()), ())
  else
  bif (! (fEq .f32 (Vec.getD 3 a0.2.1 0 (0 : Nat)) (Vec.getD 3 a1.2.1 0 (0 : Nat)))) then
    some (((fLt .f32 (Vec.getD 3 a1.2.1 0 (0 : Nat)) (Vec.getD 3 a0.2.1 0 (0 : Nat))), ()), ())
  else
  (spec_l01Same (Vec.getD 3 a0.2.1 0 (0 : Nat)) (Vec.getD 3 a1.2.1 0 (0 : Nat))).bind fun y1236 =>
  bif (! y1236.1.1) then
    (spec_l01Same (Vec.getD 3 a0.2.1 0 (0 : Nat)) (0 : Nat)).bind fun y1239 =>
    some ((y1239.1.1, ()), ())
  else
  bif (! (fEq .f32 (Vec.getD 3 a0.2.1 1 (0 : Nat)) (Vec.getD 3 a1.2.1 1 (0 : Nat)))) then
    some (((fLt .f32 (Vec.getD 3 a1.2.1 1 (0 : Nat)) (Vec.getD 3 a0.2.1 1 (0 : Nat))), ()), ())
  else
  (spec_l01Same (Vec.getD 3 a0.2.1 1 (0 : Nat)) (Vec.getD 3 a1.2.1 1 (0 : Nat))).bind fun y1248 =>
  bif (! y1248.1.1) then
    (spec_l01Same (Vec.getD 3 a0.2.1 1 (0 : Nat)) (0 : Nat)).bind fun y1251 =>
    some ((y1251.1.1, ()), ())
  else
  bif (! (fEq .f32 (Vec.getD 3 a0.2.1 2 (0 : Nat)) (Vec.getD 3 a1.2.1 2 (0 : Nat)))) then
    some (((fLt .f32 (Vec.getD 3 a1.2.1 2 (0 : Nat)) (Vec.getD 3 a0.2.1 2 (0 : Nat))), ()), ())
  else
  (spec_l01Same (Vec.getD 3 a0.2.1 2 (0 : Nat)) (Vec.getD 3 a1.2.1 2 (0 : Nat))).bind fun y1260 =>
  bif (! y1260.1.1) then
    (spec_l01Same (Vec.getD 3 a0.2.1 2 (0 : Nat)) (0 : Nat)).bind fun y1263 =>
    some ((y1263.1.1, ()), ())
  else some ((false, ()), ())
noncomputable def spec_l05Better_sg : Sig := ⟨[.ro (.pair (.arr 3 (.int .i32)) (.pair (.arr 3 (.flt .f32)) (.pair (.flt .f32) (.pair (.int .i64) (.pair (.int .i64) (.unit)))))), .ro (.pair (.arr 3 (.int .i32)) (.pair (.arr 3 (.flt .f32)) (.pair (.flt .f32) (.pair (.int .i64) (.pair (.int .i64) (.unit))))))], [.v (.val (.bool))], false⟩
noncomputable def spec_l05Better_en : Entry := ⟨spec_l05Better_sg, fun x => spec_l05Better x.1 x.2.1⟩
theorem spec_l05Better_eq {G : List (Nat × Obj)} (x : spec_l05Better_sg.dom) : body (env G [(129, spec_l01Same_en)]) [(8, .unroll 4)] Tryz.f192 spec_l05Better_sg x = spec_l05Better x.1 x.2.1 := by kernel_rfl
theorem spec_l05Better_so {G : List (Nat × Obj)} : Sound Tryz.prog G 192 spec_l05Better_en := sound_of_body (envS (l := [(129, spec_l01Same_en)]) (⟨(spec_l01Same_so), trivial⟩)) Tryz.func192 (by kernel_rfl) rfl (fun x y h => (spec_l05Better_eq (G := G) x).trans h)

-- loop.example/g01204/spec.l05Find
noncomputable def spec_l05Find_l2 (a0 : (List ((Vec 3 Int) × ((Vec 3 Nat) × (Nat × (Int × (Int × Unit))))))) (a1 : (Vec 3 Int)) (s1275 : (Int × Unit)) : Option ((Int × Unit) ⊕ ((Int × Bool × Unit) × Unit)) :=
  bif (iLt s1275.1 (lenI a0)) then
    bif inB s1275.1 (List.length a0) then
      (spec_l05Compare ((List.getD a0 s1275.1.toNat (((0, 0, 0, ()), (0, 0, 0, ()), 0, 0, 0, ()) : ((Vec 3 Int) × ((Vec 3 Nat) × (Nat × (Int × (Int × Unit))))))).1) a1).bind fun y1278 =>
      bif (iLt y1278.1.1 0) then
        some (Sum.inl ((iAdd .i64 s1275.1 1), ()))
      else
      Option.map Sum.inr (
        bif (iLt s1275.1 (lenI a0)) then
          bif inB s1275.1 (List.length a0) then
            let x1282 := (List.getD a0 s1275.1.toNat (((0, 0, 0, ()), (0, 0, 0, ()), 0, 0, 0, ()) : ((Vec 3 Int) × ((Vec 3 Nat) × (Nat × (Int × (Int × Unit))))))).1
            some ((s1275.1, (iEq (Vec.getD 3 x1282 0 (0 : Int)) (Vec.getD 3 a1 0 (0 : Int)) && (iEq (Vec.getD 3 x1282 1 (0 : Int)) (Vec.getD 3 a1 1 (0 : Int)) && (iEq (Vec.getD 3 x1282 2 (0 : Int)) (Vec.getD 3 a1 2 (0 : Int)) && true))), ()), ())
          else none
        else some ((s1275.1, false, ()), ()))
    else none
  else
  Option.map Sum.inr (
    bif (iLt s1275.1 (lenI a0)) then
      bif inB s1275.1 (List.length a0) then
        let x1285 := (List.getD a0 s1275.1.toNat (((0, 0, 0, ()), (0, 0, 0, ()), 0, 0, 0, ()) : ((Vec 3 Int) × ((Vec 3 Nat) × (Nat × (Int × (Int × Unit))))))).1
        some ((s1275.1, (iEq (Vec.getD 3 x1285 0 (0 : Int)) (Vec.getD 3 a1 0 (0 : Int)) && (iEq (Vec.getD 3 x1285 1 (0 : Int)) (Vec.getD 3 a1 1 (0 : Int)) && (iEq (Vec.getD 3 x1285 2 (0 : Int)) (Vec.getD 3 a1 2 (0 : Int)) && true))), ()), ())
      else none
    else some ((s1275.1, false, ()), ()))
noncomputable def spec_l05Find (a0 : (List ((Vec 3 Int) × ((Vec 3 Nat) × (Nat × (Int × (Int × Unit))))))) (a1 : (Vec 3 Int)) : Option ((Int × Bool × Unit) × Unit) :=
  run (spec_l05Find_l2 a0 a1) ((0 : Int), ())
noncomputable def spec_l05Find_sg : Sig := ⟨[.v (.list (.pair (.arr 3 (.int .i32)) (.pair (.arr 3 (.flt .f32)) (.pair (.flt .f32) (.pair (.int .i64) (.pair (.int .i64) (.unit))))))), .v (.arr 3 (.int .i32))], [.v (.val (.int .i64)), .v (.val (.bool))], false⟩
noncomputable def spec_l05Find_en : Entry := ⟨spec_l05Find_sg, fun x => spec_l05Find x.1 x.2.1⟩
theorem spec_l05Find_eq {G : List (Nat × Obj)} (x : spec_l05Find_sg.dom) : body (env G [(123, spec_l05Compare_en)]) [(2, .vary [(6, .sc (.int .i64))])] Tryz.f191 spec_l05Find_sg x = spec_l05Find x.1 x.2.1 := by kernel_rfl
theorem spec_l05Find_so {G : List (Nat × Obj)} : Sound Tryz.prog G 191 spec_l05Find_en := sound_of_body (envS (l := [(123, spec_l05Compare_en)]) (⟨(spec_l05Compare_so), trivial⟩)) Tryz.func191 (by kernel_rfl) rfl (fun x y h => (spec_l05Find_eq (G := G) x).trans h)

-- loop.example/g01204/spec.l05Put
noncomputable def spec_l05Put (a0 : (List ((Vec 3 Int) × ((Vec 3 Nat) × (Nat × (Int × (Int × Unit))))))) (a1 : ((Vec 3 Int) × ((Vec 3 Nat) × (Nat × (Int × (Int × Unit)))))) : Option (((List ((Vec 3 Int) × ((Vec 3 Nat) × (Nat × (Int × (Int × Unit)))))) × Unit) × Unit) :=
  (spec_l05Find a0 a1.1).bind fun y1209 =>
  bif inS 0 y1209.1.1 (List.length a0) then
    let x1210 := takeL a0 y1209.1.1
    bif room (0 + List.length x1210) 48 then
      let l1211 := ([] : (List ((Vec 3 Int) × ((Vec 3 Nat) × (Nat × (Int × (Int × Unit))))))) ++ x1210
      bif y1209.1.2.1 then
        bif inB y1209.1.1 (List.length a0) then
          (spec_l05Better a1 (List.getD a0 y1209.1.1.toNat (((0, 0, 0, ()), (0, 0, 0, ()), 0, 0, 0, ()) : ((Vec 3 Int) × ((Vec 3 Nat) × (Nat × (Int × (Int × Unit)))))))).bind fun y1212 =>
          bif y1212.1.1 then
            bif room (List.length l1211 + 1) 48 then
              let l1213 := l1211 ++ ([a1] : (List ((Vec 3 Int) × ((Vec 3 Nat) × (Nat × (Int × (Int × Unit)))))))
              let x1214 := iAdd .i64 y1209.1.1 1
              bif inS x1214 (lenI a0) (List.length a0) then
                let x1215 := dropL a0 x1214
                bif room (List.length l1213 + List.length x1215) 48 then
                  some (((l1213 ++ x1215), ()), ())
                else none
              else none
            else none
          else
          bif inS y1209.1.1 (lenI a0) (List.length a0) then
            let x1217 := dropL a0 y1209.1.1
            bif room (List.length l1211 + List.length x1217) 48 then
              some (((l1211 ++ x1217), ()), ())
            else none
          else none
        else none
      else
      bif room (List.length l1211 + 1) 48 then
        let l1219 := l1211 ++ ([a1] : (List ((Vec 3 Int) × ((Vec 3 Nat) × (Nat × (Int × (Int × Unit)))))))
        bif inS y1209.1.1 (lenI a0) (List.length a0) then
          let x1220 := dropL a0 y1209.1.1
          bif room (List.length l1219 + List.length x1220) 48 then
            some (((l1219 ++ x1220), ()), ())
          else none
        else none
      else none
    else none
  else none
noncomputable def spec_l05Put_sg : Sig := ⟨[.v (.list (.pair (.arr 3 (.int .i32)) (.pair (.arr 3 (.flt .f32)) (.pair (.flt .f32) (.pair (.int .i64) (.pair (.int .i64) (.unit))))))), .v (.pair (.arr 3 (.int .i32)) (.pair (.arr 3 (.flt .f32)) (.pair (.flt .f32) (.pair (.int .i64) (.pair (.int .i64) (.unit))))))], [.v (.rows (.pair (.arr 3 (.int .i32)) (.pair (.arr 3 (.flt .f32)) (.pair (.flt .f32) (.pair (.int .i64) (.pair (.int .i64) (.unit)))))))], false⟩
noncomputable def spec_l05Put_en : Entry := ⟨spec_l05Put_sg, fun x => spec_l05Put x.1 x.2.1⟩
theorem spec_l05Put_eq {G : List (Nat × Obj)} (x : spec_l05Put_sg.dom) : body (env G [(191, spec_l05Find_en), (192, spec_l05Better_en)]) [] Tryz.f160 spec_l05Put_sg x = spec_l05Put x.1 x.2.1 := by kernel_rfl
theorem spec_l05Put_so {G : List (Nat × Obj)} : Sound Tryz.prog G 160 spec_l05Put_en := sound_of_body (envS (l := [(191, spec_l05Find_en), (192, spec_l05Better_en)]) (⟨(spec_l05Find_so), (spec_l05Better_so), trivial⟩)) Tryz.func160 (by kernel_rfl) rfl (fun x y h => (spec_l05Put_eq (G := G) x).trans h)

-- loop.example/g01204/spec.l05Told
noncomputable def spec_l05Told (a0 : Nat) (a1 : (List ((Vec 3 Int) × ((Vec 3 Nat) × (Nat × (Int × (Int × Unit))))))) : Option (((Nat × ((List ((Vec 3 Int) × ((Vec 3 Nat) × (Nat × (Int × (Int × Unit)))))) × Unit)) × Int × Unit) × Unit) :=
  bif (iLt 200 (lenI a1)) then some ((((0, [], ()) : (Nat × ((List ((Vec 3 Int) × ((Vec 3 Nat) × (Nat × (Int × (Int × Unit)))))) × Unit))), (3 : Int), ()), ()) else some ((((a0, a1, ()) : (Nat × ((List ((Vec 3 Int) × ((Vec 3 Nat) × (Nat × (Int × (Int × Unit)))))) × Unit))), (0 : Int), ()), ())
noncomputable def spec_l05Told_sg : Sig := ⟨[.v (.flt .f32), .v (.list (.pair (.arr 3 (.int .i32)) (.pair (.arr 3 (.flt .f32)) (.pair (.flt .f32) (.pair (.int .i64) (.pair (.int .i64) (.unit)))))))], [.v (.val (.pair (.flt .f32) (.pair (.list (.pair (.arr 3 (.int .i32)) (.pair (.arr 3 (.flt .f32)) (.pair (.flt .f32) (.pair (.int .i64) (.pair (.int .i64) (.unit))))))) (.unit)))), .v (.val (.int .i64))], true⟩
noncomputable def spec_l05Told_en : Entry := ⟨spec_l05Told_sg, fun x => spec_l05Told x.1 x.2.1⟩
theorem spec_l05Told_eq {G : List (Nat × Obj)} (x : spec_l05Told_sg.dom) : body (env G []) [] Tryz.f159 spec_l05Told_sg x = spec_l05Told x.1 x.2.1 := by kernel_rfl
theorem spec_l05Told_so {G : List (Nat × Obj)} : Sound Tryz.prog G 159 spec_l05Told_en := sound_of_body (envS (l := []) (trivial)) Tryz.func159 (by kernel_rfl) rfl (fun x y h => (spec_l05Told_eq (G := G) x).trans h)

-- loop.example/g01204/spec.l05See
noncomputable def spec_l05See (a0 : (Nat × ((List ((Vec 3 Int) × ((Vec 3 Nat) × (Nat × (Int × (Int × Unit)))))) × Unit))) (a1 : (Vec 3 Nat)) (a2 : Nat) (a3 : Int) (a4 : Nat) : Option (((Nat × ((List ((Vec 3 Int) × ((Vec 3 Nat) × (Nat × (Int × (Int × Unit)))))) × Unit)) × (Vec 3 Int) × Bool × Int × Unit) × ((Nat × ((List ((Vec 3 Int) × ((Vec 3 Nat) × (Nat × (Int × (Int × Unit)))))) × Unit)) × Unit)) :=
  (spec_l01Finite a2).bind fun y1055 =>
  bif (! y1055.1.1) then some ((((0, [], ()) : (Nat × ((List ((Vec 3 Int) × ((Vec 3 Nat) × (Nat × (Int × (Int × Unit)))))) × Unit))), ((0, 0, 0, ()) : (Vec 3 Int)), false, (2 : Int), ()), (a0, ())) else
  bif (! (fLt .f32 0 a2)) then some ((((0, [], ()) : (Nat × ((List ((Vec 3 Int) × ((Vec 3 Nat) × (Nat × (Int × (Int × Unit)))))) × Unit))), ((0, 0, 0, ()) : (Vec 3 Int)), false, (2 : Int), ()), (a0, ())) else
  (spec_l04Time a3).bind fun y1059 =>
  bif (! y1059.1.1) then some ((((0, [], ()) : (Nat × ((List ((Vec 3 Int) × ((Vec 3 Nat) × (Nat × (Int × (Int × Unit)))))) × Unit))), ((0, 0, 0, ()) : (Vec 3 Int)), false, (2 : Int), ()), (a0, ())) else
  (spec_l05Nearest a0 a1 a4).bind fun y1061 =>
  bif (! (iEq y1061.1.2.1 0)) then some ((((0, [], ()) : (Nat × ((List ((Vec 3 Int) × ((Vec 3 Nat) × (Nat × (Int × (Int × Unit)))))) × Unit))), ((0, 0, 0, ()) : (Vec 3 Int)), false, y1061.1.2.1, ()), (a0, ())) else
  bif room (0 + List.length a0.2.1) 48 then
    bif (iLe 0 y1061.1.1) then
      bif inB y1061.1.1 (List.length a0.2.1) then
        let x1065 := List.getD a0.2.1 y1061.1.1.toNat (((0, 0, 0, ()), (0, 0, 0, ()), 0, 0, 0, ()) : ((Vec 3 Int) × ((Vec 3 Nat) × (Nat × (Int × (Int × Unit))))))
        bif inS 0 y1061.1.1 (List.length a0.2.1) then
          let x1066 := takeL a0.2.1 y1061.1.1
          bif room (0 + List.length x1066) 48 then
            let l1067 := ([] : (List ((Vec 3 Int) × ((Vec 3 Nat) × (Nat × (Int × (Int × Unit))))))) ++ x1066
            let x1068 := iAdd .i64 y1061.1.1 1
            bif inS x1068 (lenI a0.2.1) (List.length a0.2.1) then
              let x1069 := dropL a0.2.1 x1068
              bif room (List.length l1067 + List.length x1069) 48 then
                let l1070 := l1067 ++ x1069
                let x1071 := fAdd .f32 x1065.2.2.1 a2
                let x1077 := fDiv .f32 (fAdd .f32 (fMul .f32 x1065.2.2.1 (Vec.getD 3 x1065.2.1 0 (0 : Nat))) (fMul .f32 a2 (Vec.getD 3 a1 0 (0 : Nat)))) x1071
                let x1083 := fDiv .f32 (fAdd .f32 (fMul .f32 x1065.2.2.1 (Vec.getD 3 x1065.2.1 1 (0 : Nat))) (fMul .f32 a2 (Vec.getD 3 a1 1 (0 : Nat)))) x1071
                let x1089 := fDiv .f32 (fAdd .f32 (fMul .f32 x1065.2.2.1 (Vec.getD 3 x1065.2.1 2 (0 : Nat))) (fMul .f32 a2 (Vec.getD 3 a1 2 (0 : Nat)))) x1071
                (spec_l01Finite x1071).bind fun y1090 =>
                bif (! y1090.1.1) then
                  (spec_l00Min (iAdd .i64 x1065.2.2.2.1 1) (1000000 : Int)).bind fun y1093 =>
                  (spec_l00Max x1065.2.2.2.2.1 a3).bind fun y1094 =>
                  (spec_l05Cell a0.1 (Vec.set 3 (Vec.set 3 (Vec.set 3 a1 0 x1077) 1 x1083) 2 x1089)).bind fun y1096 =>
                  bif (! (iEq y1096.1.2.1 0)) then some ((((0, [], ()) : (Nat × ((List ((Vec 3 Int) × ((Vec 3 Nat) × (Nat × (Int × (Int × Unit)))))) × Unit))), ((0, 0, 0, ()) : (Vec 3 Int)), false, (3 : Int), ()), (a0, ())) else
                  (spec_l05Put l1070 ((y1096.1.1, Vec.set 3 (Vec.set 3 (Vec.set 3 a1 0 x1077) 1 x1083) 2 x1089, x1065.2.2.1, y1093.1.1, y1094.1.1, ()) : ((Vec 3 Int) × ((Vec 3 Nat) × (Nat × (Int × (Int × Unit))))))).bind fun y1098 =>
                  (spec_l05Told a0.1 y1098.1.1).bind fun y1099 =>
                  some ((y1099.1.1, y1096.1.1, (iLe 0 y1061.1.1), y1099.1.2.1, ()), (a0, ()))
                else
                (spec_l00Min (iAdd .i64 x1065.2.2.2.1 1) (1000000 : Int)).bind fun y1102 =>
                (spec_l00Max x1065.2.2.2.2.1 a3).bind fun y1103 =>
                (spec_l05Cell a0.1 (Vec.set 3 (Vec.set 3 (Vec.set 3 a1 0 x1077) 1 x1083) 2 x1089)).bind fun y1105 =>
                bif (! (iEq y1105.1.2.1 0)) then some ((((0, [], ()) : (Nat × ((List ((Vec 3 Int) × ((Vec 3 Nat) × (Nat × (Int × (Int × Unit)))))) × Unit))), ((0, 0, 0, ()) : (Vec 3 Int)), false, (3 : Int), ()), (a0, ())) else
                (spec_l05Put l1070 ((y1105.1.1, Vec.set 3 (Vec.set 3 (Vec.set 3 a1 0 x1077) 1 x1083) 2 x1089, x1071, y1102.1.1, y1103.1.1, ()) : ((Vec 3 Int) × ((Vec 3 Nat) × (Nat × (Int × (Int × Unit))))))).bind fun y1107 =>
                (spec_l05Told a0.1 y1107.1.1).bind fun y1108 =>
                some ((y1108.1.1, y1105.1.1, (iLe 0 y1061.1.1), y1108.1.2.1, ()), (a0, ()))
              else none
            else none
          else none
        else none
      else none
    else
    (spec_l05Cell a0.1 a1).bind fun y1110 =>
    bif (! (iEq y1110.1.2.1 0)) then some ((((0, [], ()) : (Nat × ((List ((Vec 3 Int) × ((Vec 3 Nat) × (Nat × (Int × (Int × Unit)))))) × Unit))), ((0, 0, 0, ()) : (Vec 3 Int)), false, (3 : Int), ()), (a0, ())) else
    (spec_l05Put (([] : (List ((Vec 3 Int) × ((Vec 3 Nat) × (Nat × (Int × (Int × Unit))))))) ++ a0.2.1) ((y1110.1.1, a1, a2, 1, a3, ()) : ((Vec 3 Int) × ((Vec 3 Nat) × (Nat × (Int × (Int × Unit))))))).bind fun y1112 =>
    (spec_l05Told a0.1 y1112.1.1).bind fun y1113 =>
    some ((y1113.1.1, y1110.1.1, (iLe 0 y1061.1.1), y1113.1.2.1, ()), (a0, ()))
  else none
noncomputable def spec_l05See_sg : Sig := ⟨[.io (.val (.pair (.flt .f32) (.pair (.list (.pair (.arr 3 (.int .i32)) (.pair (.arr 3 (.flt .f32)) (.pair (.flt .f32) (.pair (.int .i64) (.pair (.int .i64) (.unit))))))) (.unit)))), .v (.arr 3 (.flt .f32)), .v (.flt .f32), .v (.int .i64), .v (.flt .f32)], [.v (.val (.pair (.flt .f32) (.pair (.list (.pair (.arr 3 (.int .i32)) (.pair (.arr 3 (.flt .f32)) (.pair (.flt .f32) (.pair (.int .i64) (.pair (.int .i64) (.unit))))))) (.unit)))), .v (.val (.arr 3 (.int .i32))), .v (.val (.bool)), .v (.val (.int .i64))], true⟩
noncomputable def spec_l05See_en : Entry := ⟨spec_l05See_sg, fun x => spec_l05See x.1 x.2.1 x.2.2.1 x.2.2.2.1 x.2.2.2.2.1⟩
theorem spec_l05See_eq {G : List (Nat × Obj)} (x : spec_l05See_sg.dom) : body (env G [(54, spec_l00Max_en), (55, spec_l00Min_en), (124, spec_l01Finite_en), (156, spec_l04Time_en), (157, spec_l05Nearest_en), (158, spec_l05Cell_en), (159, spec_l05Told_en), (160, spec_l05Put_en)]) [(13, .unroll 4)] Tryz.f116 spec_l05See_sg x = spec_l05See x.1 x.2.1 x.2.2.1 x.2.2.2.1 x.2.2.2.2.1 := by kernel_rfl
theorem spec_l05See_so {G : List (Nat × Obj)} : Sound Tryz.prog G 116 spec_l05See_en := sound_of_body (envS (l := [(54, spec_l00Max_en), (55, spec_l00Min_en), (124, spec_l01Finite_en), (156, spec_l04Time_en), (157, spec_l05Nearest_en), (158, spec_l05Cell_en), (159, spec_l05Told_en), (160, spec_l05Put_en)]) (⟨(spec_l00Max_so), (spec_l00Min_so), (spec_l01Finite_so), (spec_l04Time_so), (spec_l05Nearest_so), (spec_l05Cell_so), (spec_l05Told_so), (spec_l05Put_so), trivial⟩)) Tryz.func116 (by kernel_rfl) rfl (fun x y h => (spec_l05See_eq (G := G) x).trans h)

end Go.Proofs.YtdmaamakckochaaGreatDoor
