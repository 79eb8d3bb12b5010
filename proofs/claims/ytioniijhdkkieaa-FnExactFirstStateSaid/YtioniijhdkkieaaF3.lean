import Derived.Test.YtioniijhdkkieaaF2
/- Functions on typed data: what the evaluation of each Go function is, and that it is sound. -/
namespace Go.Proofs.Ytioniijhdkkieaa
open Go Go.Tm
set_option linter.unusedVariables false
set_option maxRecDepth 100000
-- loop.example/g01204/impl.ValidMap
noncomputable def impl_ValidMap_l4 (a0 : (Nat × ((List ((Vec 3 Int) × ((Vec 3 Nat) × (Nat × (Int × (Int × Unit)))))) × Unit))) (s1926 : (Int × Unit)) : Option ((Int × Unit) ⊕ ((Bool × Unit) × Unit)) :=
  bif (iLt s1926.1 (lenI a0.2.1)) then
    bif inB s1926.1 (List.length a0.2.1) then
      let x1928 := List.getD a0.2.1 s1926.1.toNat (((0, 0, 0, ()), (0, 0, 0, ()), 0, 0, 0, ()) : ((Vec 3 Int) × ((Vec 3 Nat) × (Nat × (Int × (Int × Unit))))))
      (impl_validMark x1928).bind fun y1929 =>
      bif (! y1929.1.1) then
        Option.map Sum.inr (some ((false, ()), ()))
      else
      bif (iLt 0 s1926.1) then
        let x1932 := iSub .i64 s1926.1 1
        bif inB x1932 (List.length a0.2.1) then
          (impl_comparePlaces x1928.1 ((List.getD a0.2.1 x1932.toNat (((0, 0, 0, ()), (0, 0, 0, ()), 0, 0, 0, ()) : ((Vec 3 Int) × ((Vec 3 Nat) × (Nat × (Int × (Int × Unit))))))).1)).bind fun y1934 =>
          bif (iLe y1934.1.1 0) then
            Option.map Sum.inr (some ((false, ()), ()))
          else
          some (Sum.inl ((iAdd .i64 s1926.1 1), ()))
        else none
      else
      some (Sum.inl ((iAdd .i64 s1926.1 1), ()))
    else none
  else
  Option.map Sum.inr (some ((true, ()), ()))
noncomputable def impl_ValidMap (a0 : (Nat × ((List ((Vec 3 Int) × ((Vec 3 Nat) × (Nat × (Int × (Int × Unit)))))) × Unit))) : Option ((Bool × Unit) × Unit) :=
  (impl_isSide a0.1).bind fun y1923 =>
  bif (! y1923.1.1) then some ((false, ()), ()) else
  bif (iLt 200 (lenI a0.2.1)) then some ((false, ()), ()) else run (impl_ValidMap_l4 a0) ((0 : Int), ())
noncomputable def impl_ValidMap_sg : Sig := ⟨[.v (.pair (.flt .f32) (.pair (.list (.pair (.arr 3 (.int .i32)) (.pair (.arr 3 (.flt .f32)) (.pair (.flt .f32) (.pair (.int .i64) (.pair (.int .i64) (.unit))))))) (.unit)))], [.v (.val (.bool))], false⟩
noncomputable def impl_ValidMap_en : Entry := ⟨impl_ValidMap_sg, fun x => impl_ValidMap x.1⟩
theorem impl_ValidMap_eq (x : impl_ValidMap_sg.dom) : body (env [(112, impl_isSide_en), (161, impl_validMark_en), (162, impl_comparePlaces_en)]) [(4, .vary [(18, .sc (.int .i64))])] Try.f109 impl_ValidMap_sg x = impl_ValidMap x.1 := by kernel_rfl
theorem impl_ValidMap_so : Sound Try.prog 109 impl_ValidMap_en := sound_of_body (envS (l := [(112, impl_isSide_en), (161, impl_validMark_en), (162, impl_comparePlaces_en)]) (⟨impl_isSide_so, impl_validMark_so, impl_comparePlaces_so, trivial⟩)) Try.func109 (by kernel_rfl) rfl (fun x y h => (impl_ValidMap_eq x).trans h)

theorem math_archFloor_so : Sound Try.prog 158 math_archFloor_en := round_sound (name := "math.archFloor") Try.func158 (by kernel_rfl) (by kernel_rfl) (by kernel_rfl) (by kernel_rfl)

-- math.Floor
noncomputable def math_Floor (a0 : Nat) : Option ((Nat × Unit) × Unit) :=
  (math_archFloor a0).bind fun y1960 =>
  some ((y1960.1.1, ()), ())
noncomputable def math_Floor_sg : Sig := ⟨[.v (.flt .f64)], [.v (.val (.flt .f64))], false⟩
noncomputable def math_Floor_en : Entry := ⟨math_Floor_sg, fun x => math_Floor x.1⟩
theorem math_Floor_eq (x : math_Floor_sg.dom) : body (env [(158, math_archFloor_en)]) [] Try.f107 math_Floor_sg x = math_Floor x.1 := by kernel_rfl
theorem math_Floor_so : Sound Try.prog 107 math_Floor_en := sound_of_body (envS (l := [(158, math_archFloor_en)]) (⟨math_archFloor_so, trivial⟩)) Try.func107 (by kernel_rfl) rfl (fun x y h => (math_Floor_eq x).trans h)

-- loop.example/g01204/impl.GridOfMarks
noncomputable def impl_GridOfMarks_l7 (a0 : (Nat × ((List ((Vec 3 Int) × ((Vec 3 Nat) × (Nat × (Int × (Int × Unit)))))) × Unit))) (a3 : (Vec 2 Nat)) (a4 : Nat) (a1 : Int) (a2 : Int) (s1887 : (Int × (Int × (Int × ((List Int) × Unit))) × Unit)) : Option ((Int × (Int × (Int × ((List Int) × Unit))) × Unit) ⊕ (((Int × (Int × ((List Int) × Unit))) × Int × Unit) × Unit)) :=
  bif (iLt s1887.1 (lenI a0.2.1)) then
    bif inB s1887.1 (List.length a0.2.1) then
      let x1889 := List.getD a0.2.1 s1887.1.toNat (((0, 0, 0, ()), (0, 0, 0, ()), 0, 0, 0, ()) : ((Vec 3 Int) × ((Vec 3 Nat) × (Nat × (Int × (Int × Unit))))))
      (fConv .f32 .f64 (fDiv .f32 (fSub .f32 (Vec.getD 3 x1889.2.1 0 (0 : Nat)) (Vec.getD 2 a3 0 (0 : Nat))) a4)).bind fun y1894 =>
      (math_Floor y1894).bind fun y1895 =>
      (fConv .f32 .f64 (fDiv .f32 (fSub .f32 (Vec.getD 3 x1889.2.1 1 (0 : Nat)) (Vec.getD 2 a3 1 (0 : Nat))) a4)).bind fun y1900 =>
      (math_Floor y1900).bind fun y1901 =>
      bif (fLe .f64 0 y1895.1.1) then
        bif (fLt .f64 y1895.1.1 (fOfInt .f64 a1)) then
          bif (fLe .f64 0 y1901.1.1) then
            bif (fLt .f64 y1901.1.1 (fOfInt .f64 a2)) then
              (fToInt .f64 y1901.1.1 .i64).bind fun n1908 =>
              (fToInt .f64 y1895.1.1 .i64).bind fun n1910 =>
              let x1911 := iAdd .i64 (iMul .i64 n1908 a1) n1910
              bif inB x1911 (List.length s1887.2.1.2.2.1) then
                some (Sum.inl ((iAdd .i64 s1887.1 1), ((s1887.2.1.1, s1887.2.1.2.1, (List.set s1887.2.1.2.2.1 x1911.toNat (255 : Int)), s1887.2.1.2.2.2) : (Int × (Int × ((List Int) × Unit)))), ()))
              else none
            else
            some (Sum.inl ((iAdd .i64 s1887.1 1), ((s1887.2.1.1, s1887.2.1.2.1, s1887.2.1.2.2.1, s1887.2.1.2.2.2) : (Int × (Int × ((List Int) × Unit)))), ()))
          else
          some (Sum.inl ((iAdd .i64 s1887.1 1), ((s1887.2.1.1, s1887.2.1.2.1, s1887.2.1.2.2.1, s1887.2.1.2.2.2) : (Int × (Int × ((List Int) × Unit)))), ()))
        else
        some (Sum.inl ((iAdd .i64 s1887.1 1), ((s1887.2.1.1, s1887.2.1.2.1, s1887.2.1.2.2.1, s1887.2.1.2.2.2) : (Int × (Int × ((List Int) × Unit)))), ()))
      else
      some (Sum.inl ((iAdd .i64 s1887.1 1), ((s1887.2.1.1, s1887.2.1.2.1, s1887.2.1.2.2.1, s1887.2.1.2.2.2) : (Int × (Int × ((List Int) × Unit)))), ()))
    else none
  else
  Option.map Sum.inr (some ((((s1887.2.1.1, s1887.2.1.2.1, s1887.2.1.2.2.1, s1887.2.1.2.2.2) : (Int × (Int × ((List Int) × Unit)))), (0 : Int), ()), ()))
noncomputable def impl_GridOfMarks (a0 : (Nat × ((List ((Vec 3 Int) × ((Vec 3 Nat) × (Nat × (Int × (Int × Unit)))))) × Unit))) (a1 : Int) (a2 : Int) (a3 : (Vec 2 Nat)) (a4 : Nat) : Option (((Int × (Int × ((List Int) × Unit))) × Int × Unit) × Unit) :=
  (impl_ValidMap a0).bind fun y1852 =>
  bif (! y1852.1.1) then some ((((0, 0, [], ()) : (Int × (Int × ((List Int) × Unit)))), (1 : Int), ()), ()) else
  (impl_EmptyGrid a1 a2).bind fun y1854 =>
  bif (! (iEq y1854.1.2.1 0)) then some ((((0, 0, [], ()) : (Int × (Int × ((List Int) × Unit)))), (2 : Int), ()), ()) else
  (impl_isFinite ([Vec.getD 2 a3 0 (0 : Nat), Vec.getD 2 a3 1 (0 : Nat)] : (List Nat))).bind fun y1856 =>
  bif (! y1856.1.1) then some ((((0, 0, [], ()) : (Int × (Int × ((List Int) × Unit)))), (2 : Int), ()), ()) else
  (impl_isSide a4).bind fun y1858 =>
  bif (! y1858.1.1) then some ((((0, 0, [], ()) : (Int × (Int × ((List Int) × Unit)))), (2 : Int), ()), ()) else run (impl_GridOfMarks_l7 a0 a3 a4 a1 a2) ((0 : Int), ((y1854.1.1.1, y1854.1.1.2.1, y1854.1.1.2.2.1, y1854.1.1.2.2.2) : (Int × (Int × ((List Int) × Unit)))), ())
noncomputable def impl_GridOfMarks_sg : Sig := ⟨[.v (.pair (.flt .f32) (.pair (.list (.pair (.arr 3 (.int .i32)) (.pair (.arr 3 (.flt .f32)) (.pair (.flt .f32) (.pair (.int .i64) (.pair (.int .i64) (.unit))))))) (.unit))), .v (.int .i64), .v (.int .i64), .v (.arr 2 (.flt .f32)), .v (.flt .f32)], [.v (.pair (.val (.int .i64)) (.pair (.val (.int .i64)) (.pair (.rows (.int .u8)) (.val (.unit))))), .v (.val (.int .i64))], false⟩
noncomputable def impl_GridOfMarks_en : Entry := ⟨impl_GridOfMarks_sg, fun x => impl_GridOfMarks x.1 x.2.1 x.2.2.1 x.2.2.2.1 x.2.2.2.2.1⟩
theorem impl_GridOfMarks_eq (x : impl_GridOfMarks_sg.dom) : body (env [(107, math_Floor_en), (109, impl_ValidMap_en), (110, impl_EmptyGrid_en), (111, impl_isFinite_en), (112, impl_isSide_en)]) [(7, .vary [(44, .sc (.int .i64)), (12, .box (.pair (.val (.int .i64)) (.pair (.val (.int .i64)) (.pair (.rows (.int .u8)) (.val (.unit))))))])] Try.f50 impl_GridOfMarks_sg x = impl_GridOfMarks x.1 x.2.1 x.2.2.1 x.2.2.2.1 x.2.2.2.2.1 := by kernel_rfl
theorem impl_GridOfMarks_so : Sound Try.prog 50 impl_GridOfMarks_en := sound_of_body (envS (l := [(107, math_Floor_en), (109, impl_ValidMap_en), (110, impl_EmptyGrid_en), (111, impl_isFinite_en), (112, impl_isSide_en)]) (⟨math_Floor_so, impl_ValidMap_so, impl_EmptyGrid_so, impl_isFinite_so, impl_isSide_so, trivial⟩)) Try.func50 (by kernel_rfl) rfl (fun x y h => (impl_GridOfMarks_eq x).trans h)

-- loop.example/g01204/laws.eqPlace
noncomputable def laws_eqPlace (a0 : (Vec 3 Int)) (a1 : (Vec 3 Int)) : Option ((Bool × Unit) × Unit) :=
  bif (! (iEq (Vec.getD 3 a0 0 (0 : Int)) (Vec.getD 3 a1 0 (0 : Int)))) then some ((false, ()), ()) else
  bif (! (iEq (Vec.getD 3 a0 1 (0 : Int)) (Vec.getD 3 a1 1 (0 : Int)))) then some ((false, ()), ()) else
  bif (! (iEq (Vec.getD 3 a0 2 (0 : Int)) (Vec.getD 3 a1 2 (0 : Int)))) then some ((false, ()), ()) else some ((true, ()), ())
noncomputable def laws_eqPlace_sg : Sig := ⟨[.v (.arr 3 (.int .i32)), .v (.arr 3 (.int .i32))], [.v (.val (.bool))], false⟩
noncomputable def laws_eqPlace_en : Entry := ⟨laws_eqPlace_sg, fun x => laws_eqPlace x.1 x.2.1⟩
theorem laws_eqPlace_eq (x : laws_eqPlace_sg.dom) : body (env []) [(2, .unroll 4)] Try.f204 laws_eqPlace_sg x = laws_eqPlace x.1 x.2.1 := by kernel_rfl
theorem laws_eqPlace_so : Sound Try.prog 204 laws_eqPlace_en := sound_of_body (envS (l := []) (trivial)) Try.func204 (by kernel_rfl) rfl (fun x y h => (laws_eqPlace_eq x).trans h)

-- loop.example/g01204/laws.eqMark
noncomputable def laws_eqMark (a0 : ((Vec 3 Int) × ((Vec 3 Nat) × (Nat × (Int × (Int × Unit)))))) (a1 : ((Vec 3 Int) × ((Vec 3 Nat) × (Nat × (Int × (Int × Unit)))))) : Option ((Bool × Unit) × Unit) :=
  (laws_eqPlace a0.1 a1.1).bind fun y1975 =>
  bif (! y1975.1.1) then some ((false, ()), ()) else
  (laws_eqVec a0.2.1 a1.2.1).bind fun y1977 =>
  bif (! y1977.1.1) then some ((false, ()), ()) else
  (fConv .f32 .f64 a0.2.2.1).bind fun y1979 =>
  (fConv .f32 .f64 a1.2.2.1).bind fun y1980 =>
  (laws_sameFloat y1979 y1980).bind fun y1981 =>
  bif (! y1981.1.1) then some ((false, ()), ()) else
  bif (! (iEq a0.2.2.2.1 a1.2.2.2.1)) then some ((false, ()), ()) else
  bif (! (iEq a0.2.2.2.2.1 a1.2.2.2.2.1)) then some ((false, ()), ()) else some ((true, ()), ())
noncomputable def laws_eqMark_sg : Sig := ⟨[.v (.pair (.arr 3 (.int .i32)) (.pair (.arr 3 (.flt .f32)) (.pair (.flt .f32) (.pair (.int .i64) (.pair (.int .i64) (.unit)))))), .v (.pair (.arr 3 (.int .i32)) (.pair (.arr 3 (.flt .f32)) (.pair (.flt .f32) (.pair (.int .i64) (.pair (.int .i64) (.unit))))))], [.v (.val (.bool))], false⟩
noncomputable def laws_eqMark_en : Entry := ⟨laws_eqMark_sg, fun x => laws_eqMark x.1 x.2.1⟩
theorem laws_eqMark_eq (x : laws_eqMark_sg.dom) : body (env [(85, laws_eqVec_en), (113, laws_sameFloat_en), (204, laws_eqPlace_en)]) [] Try.f163 laws_eqMark_sg x = laws_eqMark x.1 x.2.1 := by kernel_rfl
theorem laws_eqMark_so : Sound Try.prog 163 laws_eqMark_en := sound_of_body (envS (l := [(85, laws_eqVec_en), (113, laws_sameFloat_en), (204, laws_eqPlace_en)]) (⟨laws_eqVec_so, laws_sameFloat_so, laws_eqPlace_so, trivial⟩)) Try.func163 (by kernel_rfl) rfl (fun x y h => (laws_eqMark_eq x).trans h)

-- loop.example/g01204/laws.eqMarkS
noncomputable def laws_eqMarkS_l4 (a0 : (List ((Vec 3 Int) × ((Vec 3 Nat) × (Nat × (Int × (Int × Unit))))))) (a1 : (List ((Vec 3 Int) × ((Vec 3 Nat) × (Nat × (Int × (Int × Unit))))))) (s1968 : (Int × Unit)) : Option ((Int × Unit) ⊕ ((Bool × Unit) × Unit)) :=
  bif (iLt s1968.1 (lenI a0)) then
    bif inB s1968.1 (List.length a0) then
      bif inB s1968.1 (List.length a1) then
        (laws_eqMark (List.getD a0 s1968.1.toNat (((0, 0, 0, ()), (0, 0, 0, ()), 0, 0, 0, ()) : ((Vec 3 Int) × ((Vec 3 Nat) × (Nat × (Int × (Int × Unit))))))) (List.getD a1 s1968.1.toNat (((0, 0, 0, ()), (0, 0, 0, ()), 0, 0, 0, ()) : ((Vec 3 Int) × ((Vec 3 Nat) × (Nat × (Int × (Int × Unit)))))))).bind fun y1972 =>
        bif (! y1972.1.1) then
          Option.map Sum.inr (some ((false, ()), ()))
        else
        some (Sum.inl ((iAdd .i64 s1968.1 1), ()))
      else none
    else none
  else
  Option.map Sum.inr (some ((true, ()), ()))
noncomputable def laws_eqMarkS (a0 : (List ((Vec 3 Int) × ((Vec 3 Nat) × (Nat × (Int × (Int × Unit))))))) (a1 : (List ((Vec 3 Int) × ((Vec 3 Nat) × (Nat × (Int × (Int × Unit))))))) : Option ((Bool × Unit) × Unit) :=
  bif (! (iEq (lenI a0) (lenI a1))) then some ((false, ()), ()) else run (laws_eqMarkS_l4 a0 a1) ((0 : Int), ())
noncomputable def laws_eqMarkS_sg : Sig := ⟨[.v (.list (.pair (.arr 3 (.int .i32)) (.pair (.arr 3 (.flt .f32)) (.pair (.flt .f32) (.pair (.int .i64) (.pair (.int .i64) (.unit))))))), .v (.list (.pair (.arr 3 (.int .i32)) (.pair (.arr 3 (.flt .f32)) (.pair (.flt .f32) (.pair (.int .i64) (.pair (.int .i64) (.unit)))))))], [.v (.val (.bool))], false⟩
noncomputable def laws_eqMarkS_en : Entry := ⟨laws_eqMarkS_sg, fun x => laws_eqMarkS x.1 x.2.1⟩
theorem laws_eqMarkS_eq (x : laws_eqMarkS_sg.dom) : body (env [(163, laws_eqMark_en)]) [(4, .vary [(5, .sc (.int .i64))])] Try.f114 laws_eqMarkS_sg x = laws_eqMarkS x.1 x.2.1 := by kernel_rfl
theorem laws_eqMarkS_so : Sound Try.prog 114 laws_eqMarkS_en := sound_of_body (envS (l := [(163, laws_eqMark_en)]) (⟨laws_eqMark_so, trivial⟩)) Try.func114 (by kernel_rfl) rfl (fun x y h => (laws_eqMarkS_eq x).trans h)

-- loop.example/g01204/laws.eqLandMap
noncomputable def laws_eqLandMap (a0 : (Nat × ((List ((Vec 3 Int) × ((Vec 3 Nat) × (Nat × (Int × (Int × Unit)))))) × Unit))) (a1 : (Nat × ((List ((Vec 3 Int) × ((Vec 3 Nat) × (Nat × (Int × (Int × Unit)))))) × Unit))) : Option ((Bool × Unit) × Unit) :=
  (fConv .f32 .f64 a0.1).bind fun y1961 =>
  (fConv .f32 .f64 a1.1).bind fun y1962 =>
  (laws_sameFloat y1961 y1962).bind fun y1963 =>
  bif (! y1963.1.1) then some ((false, ()), ()) else
  (laws_eqMarkS a0.2.1 a1.2.1).bind fun y1965 =>
  bif (! y1965.1.1) then some ((false, ()), ()) else some ((true, ()), ())
noncomputable def laws_eqLandMap_sg : Sig := ⟨[.v (.pair (.flt .f32) (.pair (.list (.pair (.arr 3 (.int .i32)) (.pair (.arr 3 (.flt .f32)) (.pair (.flt .f32) (.pair (.int .i64) (.pair (.int .i64) (.unit))))))) (.unit))), .v (.pair (.flt .f32) (.pair (.list (.pair (.arr 3 (.int .i32)) (.pair (.arr 3 (.flt .f32)) (.pair (.flt .f32) (.pair (.int .i64) (.pair (.int .i64) (.unit))))))) (.unit)))], [.v (.val (.bool))], false⟩
noncomputable def laws_eqLandMap_en : Entry := ⟨laws_eqLandMap_sg, fun x => laws_eqLandMap x.1 x.2.1⟩
theorem laws_eqLandMap_eq (x : laws_eqLandMap_sg.dom) : body (env [(113, laws_sameFloat_en), (114, laws_eqMarkS_en)]) [] Try.f51 laws_eqLandMap_sg x = laws_eqLandMap x.1 x.2.1 := by kernel_rfl
theorem laws_eqLandMap_so : Sound Try.prog 51 laws_eqLandMap_en := sound_of_body (envS (l := [(113, laws_sameFloat_en), (114, laws_eqMarkS_en)]) (⟨laws_sameFloat_so, laws_eqMarkS_so, trivial⟩)) Try.func51 (by kernel_rfl) rfl (fun x y h => (laws_eqLandMap_eq x).trans h)

-- loop.example/g01204/laws.heldByteS
noncomputable def laws_heldByteS_l2 (a0 : (List Int)) (s1996 : (Int × Int × Unit)) : Option ((Int × Int × Unit) ⊕ ((Int × Unit) × Unit)) :=
  bif (iLt s1996.2.1 (lenI a0)) then
    bif inB s1996.2.1 (List.length a0) then
      bif (! (iEq (List.getD a0 s1996.2.1.toNat (0 : Int)) (iWrap .u8 s1996.1))) then
        Option.map Sum.inr (some ((((-1 : Int) : Int), ()), ()))
      else
      some (Sum.inl ((iAdd .i64 s1996.1 1), (iAdd .i64 s1996.2.1 1), ()))
    else none
  else
  Option.map Sum.inr (some ((s1996.1, ()), ()))
noncomputable def laws_heldByteS (a0 : (List Int)) (a1 : Int) : Option ((Int × Unit) × Unit) :=
  run (laws_heldByteS_l2 a0) (a1, (0 : Int), ())
noncomputable def laws_heldByteS_sg : Sig := ⟨[.v (.list (.int .u8)), .v (.int .i64)], [.v (.val (.int .i64))], false⟩
noncomputable def laws_heldByteS_en : Entry := ⟨laws_heldByteS_sg, fun x => laws_heldByteS x.1 x.2.1⟩
theorem laws_heldByteS_eq (x : laws_heldByteS_sg.dom) : body (env []) [(2, .vary [(1, .sc (.int .i64)), (5, .sc (.int .i64))])] Try.f116 laws_heldByteS_sg x = laws_heldByteS x.1 x.2.1 := by kernel_rfl
theorem laws_heldByteS_so : Sound Try.prog 116 laws_heldByteS_en := sound_of_body (envS (l := []) (trivial)) Try.func116 (by kernel_rfl) rfl (fun x y h => (laws_heldByteS_eq x).trans h)

-- loop.example/g01204/laws.heldGrid
noncomputable def laws_heldGrid (a0 : (Int × (Int × ((List Int) × Unit)))) (a1 : Int) : Option ((Int × Unit) × Unit) :=
  (laws_heldByteS a0.2.2.1 a1).bind fun y1994 =>
  bif (iLt y1994.1.1 0) then some ((((-1 : Int) : Int), ()), ()) else some ((y1994.1.1, ()), ())
noncomputable def laws_heldGrid_sg : Sig := ⟨[.v (.pair (.int .i64) (.pair (.int .i64) (.pair (.list (.int .u8)) (.unit)))), .v (.int .i64)], [.v (.val (.int .i64))], false⟩
noncomputable def laws_heldGrid_en : Entry := ⟨laws_heldGrid_sg, fun x => laws_heldGrid x.1 x.2.1⟩
theorem laws_heldGrid_eq (x : laws_heldGrid_sg.dom) : body (env [(116, laws_heldByteS_en)]) [] Try.f53 laws_heldGrid_sg x = laws_heldGrid x.1 x.2.1 := by kernel_rfl
theorem laws_heldGrid_so : Sound Try.prog 53 laws_heldGrid_en := sound_of_body (envS (l := [(116, laws_heldByteS_en)]) (⟨laws_heldByteS_so, trivial⟩)) Try.func53 (by kernel_rfl) rfl (fun x y h => (laws_heldGrid_eq x).trans h)

-- loop.example/g01204/laws.markMarkS
noncomputable def laws_markMarkS_l2 (s2032 : (Int × Int × (List ((Vec 3 Int) × ((Vec 3 Nat) × (Nat × (Int × (Int × Unit)))))) × Unit)) : Option ((Int × Int × (List ((Vec 3 Int) × ((Vec 3 Nat) × (Nat × (Int × (Int × Unit)))))) × Unit) ⊕ ((Int × Unit) × ((List ((Vec 3 Int) × ((Vec 3 Nat) × (Nat × (Int × (Int × Unit)))))) × Unit))) :=
  bif (iLt s2032.2.1 (lenI s2032.2.2.1)) then
    bif inB s2032.2.1 (List.length s2032.2.2.1) then
      let w2035 := List.set s2032.2.2.1 s2032.2.1.toNat ((Vec.set 3 ((List.getD s2032.2.2.1 s2032.2.1.toNat (((0, 0, 0, ()), (0, 0, 0, ()), 0, 0, 0, ()) : ((Vec 3 Int) × ((Vec 3 Nat) × (Nat × (Int × (Int × Unit))))))).1) 0 (iWrap .i32 s2032.1), (List.getD s2032.2.2.1 s2032.2.1.toNat (((0, 0, 0, ()), (0, 0, 0, ()), 0, 0, 0, ()) : ((Vec 3 Int) × ((Vec 3 Nat) × (Nat × (Int × (Int × Unit))))))).2) : ((Vec 3 Int) × ((Vec 3 Nat) × (Nat × (Int × (Int × Unit))))))
      let x2036 := iAdd .i64 s2032.1 1
      bif inB s2032.2.1 (List.length w2035) then
        let w2038 := List.set w2035 s2032.2.1.toNat ((Vec.set 3 ((List.getD w2035 s2032.2.1.toNat (((0, 0, 0, ()), (0, 0, 0, ()), 0, 0, 0, ()) : ((Vec 3 Int) × ((Vec 3 Nat) × (Nat × (Int × (Int × Unit))))))).1) 1 (iWrap .i32 x2036), (List.getD w2035 s2032.2.1.toNat (((0, 0, 0, ()), (0, 0, 0, ()), 0, 0, 0, ()) : ((Vec 3 Int) × ((Vec 3 Nat) × (Nat × (Int × (Int × Unit))))))).2) : ((Vec 3 Int) × ((Vec 3 Nat) × (Nat × (Int × (Int × Unit))))))
        let x2039 := iAdd .i64 x2036 1
        bif inB s2032.2.1 (List.length w2038) then
          let w2041 := List.set w2038 s2032.2.1.toNat ((Vec.set 3 ((List.getD w2038 s2032.2.1.toNat (((0, 0, 0, ()), (0, 0, 0, ()), 0, 0, 0, ()) : ((Vec 3 Int) × ((Vec 3 Nat) × (Nat × (Int × (Int × Unit))))))).1) 2 (iWrap .i32 x2039), (List.getD w2038 s2032.2.1.toNat (((0, 0, 0, ()), (0, 0, 0, ()), 0, 0, 0, ()) : ((Vec 3 Int) × ((Vec 3 Nat) × (Nat × (Int × (Int × Unit))))))).2) : ((Vec 3 Int) × ((Vec 3 Nat) × (Nat × (Int × (Int × Unit))))))
          let x2042 := iAdd .i64 x2039 1
          bif inB s2032.2.1 (List.length w2041) then
            let w2044 := List.set w2041 s2032.2.1.toNat (((List.getD w2041 s2032.2.1.toNat (((0, 0, 0, ()), (0, 0, 0, ()), 0, 0, 0, ()) : ((Vec 3 Int) × ((Vec 3 Nat) × (Nat × (Int × (Int × Unit))))))).1, Vec.set 3 (((List.getD w2041 s2032.2.1.toNat (((0, 0, 0, ()), (0, 0, 0, ()), 0, 0, 0, ()) : ((Vec 3 Int) × ((Vec 3 Nat) × (Nat × (Int × (Int × Unit))))))).2).1) 0 (fOfInt .f32 x2042), ((List.getD w2041 s2032.2.1.toNat (((0, 0, 0, ()), (0, 0, 0, ()), 0, 0, 0, ()) : ((Vec 3 Int) × ((Vec 3 Nat) × (Nat × (Int × (Int × Unit))))))).2).2) : ((Vec 3 Int) × ((Vec 3 Nat) × (Nat × (Int × (Int × Unit))))))
            let x2045 := iAdd .i64 x2042 1
            bif inB s2032.2.1 (List.length w2044) then
              let w2047 := List.set w2044 s2032.2.1.toNat (((List.getD w2044 s2032.2.1.toNat (((0, 0, 0, ()), (0, 0, 0, ()), 0, 0, 0, ()) : ((Vec 3 Int) × ((Vec 3 Nat) × (Nat × (Int × (Int × Unit))))))).1, Vec.set 3 (((List.getD w2044 s2032.2.1.toNat (((0, 0, 0, ()), (0, 0, 0, ()), 0, 0, 0, ()) : ((Vec 3 Int) × ((Vec 3 Nat) × (Nat × (Int × (Int × Unit))))))).2).1) 1 (fOfInt .f32 x2045), ((List.getD w2044 s2032.2.1.toNat (((0, 0, 0, ()), (0, 0, 0, ()), 0, 0, 0, ()) : ((Vec 3 Int) × ((Vec 3 Nat) × (Nat × (Int × (Int × Unit))))))).2).2) : ((Vec 3 Int) × ((Vec 3 Nat) × (Nat × (Int × (Int × Unit))))))
              let x2048 := iAdd .i64 x2045 1
              bif inB s2032.2.1 (List.length w2047) then
                let w2050 := List.set w2047 s2032.2.1.toNat (((List.getD w2047 s2032.2.1.toNat (((0, 0, 0, ()), (0, 0, 0, ()), 0, 0, 0, ()) : ((Vec 3 Int) × ((Vec 3 Nat) × (Nat × (Int × (Int × Unit))))))).1, Vec.set 3 (((List.getD w2047 s2032.2.1.toNat (((0, 0, 0, ()), (0, 0, 0, ()), 0, 0, 0, ()) : ((Vec 3 Int) × ((Vec 3 Nat) × (Nat × (Int × (Int × Unit))))))).2).1) 2 (fOfInt .f32 x2048), ((List.getD w2047 s2032.2.1.toNat (((0, 0, 0, ()), (0, 0, 0, ()), 0, 0, 0, ()) : ((Vec 3 Int) × ((Vec 3 Nat) × (Nat × (Int × (Int × Unit))))))).2).2) : ((Vec 3 Int) × ((Vec 3 Nat) × (Nat × (Int × (Int × Unit))))))
                let x2051 := iAdd .i64 x2048 1
                bif inB s2032.2.1 (List.length w2050) then
                  let w2053 := List.set w2050 s2032.2.1.toNat (((List.getD w2050 s2032.2.1.toNat (((0, 0, 0, ()), (0, 0, 0, ()), 0, 0, 0, ()) : ((Vec 3 Int) × ((Vec 3 Nat) × (Nat × (Int × (Int × Unit))))))).1, ((List.getD w2050 s2032.2.1.toNat (((0, 0, 0, ()), (0, 0, 0, ()), 0, 0, 0, ()) : ((Vec 3 Int) × ((Vec 3 Nat) × (Nat × (Int × (Int × Unit))))))).2).1, (fOfInt .f32 x2051), (((List.getD w2050 s2032.2.1.toNat (((0, 0, 0, ()), (0, 0, 0, ()), 0, 0, 0, ()) : ((Vec 3 Int) × ((Vec 3 Nat) × (Nat × (Int × (Int × Unit))))))).2).2).2) : ((Vec 3 Int) × ((Vec 3 Nat) × (Nat × (Int × (Int × Unit))))))
                  let x2054 := iAdd .i64 x2051 1
                  bif inB s2032.2.1 (List.length w2053) then
                    let w2055 := List.set w2053 s2032.2.1.toNat (((List.getD w2053 s2032.2.1.toNat (((0, 0, 0, ()), (0, 0, 0, ()), 0, 0, 0, ()) : ((Vec 3 Int) × ((Vec 3 Nat) × (Nat × (Int × (Int × Unit))))))).1, ((List.getD w2053 s2032.2.1.toNat (((0, 0, 0, ()), (0, 0, 0, ()), 0, 0, 0, ()) : ((Vec 3 Int) × ((Vec 3 Nat) × (Nat × (Int × (Int × Unit))))))).2).1, (((List.getD w2053 s2032.2.1.toNat (((0, 0, 0, ()), (0, 0, 0, ()), 0, 0, 0, ()) : ((Vec 3 Int) × ((Vec 3 Nat) × (Nat × (Int × (Int × Unit))))))).2).2).1, x2054, ((((List.getD w2053 s2032.2.1.toNat (((0, 0, 0, ()), (0, 0, 0, ()), 0, 0, 0, ()) : ((Vec 3 Int) × ((Vec 3 Nat) × (Nat × (Int × (Int × Unit))))))).2).2).2).2) : ((Vec 3 Int) × ((Vec 3 Nat) × (Nat × (Int × (Int × Unit))))))
                    let x2056 := iAdd .i64 x2054 1
                    bif inB s2032.2.1 (List.length w2055) then
                      some (Sum.inl ((iAdd .i64 x2056 1), (iAdd .i64 s2032.2.1 1), (List.set w2055 s2032.2.1.toNat (((List.getD w2055 s2032.2.1.toNat (((0, 0, 0, ()), (0, 0, 0, ()), 0, 0, 0, ()) : ((Vec 3 Int) × ((Vec 3 Nat) × (Nat × (Int × (Int × Unit))))))).1, ((List.getD w2055 s2032.2.1.toNat (((0, 0, 0, ()), (0, 0, 0, ()), 0, 0, 0, ()) : ((Vec 3 Int) × ((Vec 3 Nat) × (Nat × (Int × (Int × Unit))))))).2).1, (((List.getD w2055 s2032.2.1.toNat (((0, 0, 0, ()), (0, 0, 0, ()), 0, 0, 0, ()) : ((Vec 3 Int) × ((Vec 3 Nat) × (Nat × (Int × (Int × Unit))))))).2).2).1, ((((List.getD w2055 s2032.2.1.toNat (((0, 0, 0, ()), (0, 0, 0, ()), 0, 0, 0, ()) : ((Vec 3 Int) × ((Vec 3 Nat) × (Nat × (Int × (Int × Unit))))))).2).2).2).1, x2056, (((((List.getD w2055 s2032.2.1.toNat (((0, 0, 0, ()), (0, 0, 0, ()), 0, 0, 0, ()) : ((Vec 3 Int) × ((Vec 3 Nat) × (Nat × (Int × (Int × Unit))))))).2).2).2).2).2) : ((Vec 3 Int) × ((Vec 3 Nat) × (Nat × (Int × (Int × Unit))))))), ()))
                    else none
                  else none
                else none
              else none
            else none
          else none
        else none
      else none
    else none
  else
  Option.map Sum.inr (some ((s2032.1, ()), (s2032.2.2.1, ())))
noncomputable def laws_markMarkS (a0 : (List ((Vec 3 Int) × ((Vec 3 Nat) × (Nat × (Int × (Int × Unit))))))) (a1 : Int) : Option ((Int × Unit) × ((List ((Vec 3 Int) × ((Vec 3 Nat) × (Nat × (Int × (Int × Unit)))))) × Unit)) :=
  run (laws_markMarkS_l2) (a1, (0 : Int), a0, ())
noncomputable def laws_markMarkS_sg : Sig := ⟨[.mv (.rows (.pair (.arr 3 (.int .i32)) (.pair (.arr 3 (.flt .f32)) (.pair (.flt .f32) (.pair (.int .i64) (.pair (.int .i64) (.unit))))))), .v (.int .i64)], [.v (.val (.int .i64))], false⟩
noncomputable def laws_markMarkS_en : Entry := ⟨laws_markMarkS_sg, fun x => laws_markMarkS x.1 x.2.1⟩
theorem laws_markMarkS_eq (x : laws_markMarkS_sg.dom) : body (env []) [(2, .vary [(1, .sc (.int .i64)), (5, .sc (.int .i64)), (0, .mrows (.pair (.arr 3 (.int .i32)) (.pair (.arr 3 (.flt .f32)) (.pair (.flt .f32) (.pair (.int .i64) (.pair (.int .i64) (.unit)))))))]), (5, .unroll 4), (10, .unroll 4)] Try.f115 laws_markMarkS_sg x = laws_markMarkS x.1 x.2.1 := by kernel_rfl
theorem laws_markMarkS_so : Sound Try.prog 115 laws_markMarkS_en := sound_of_body (envS (l := []) (trivial)) Try.func115 (by kernel_rfl) rfl (fun x y h => (laws_markMarkS_eq x).trans h)

-- loop.example/g01204/laws.markLandMap
noncomputable def laws_markLandMap (a0 : (Nat × ((List ((Vec 3 Int) × ((Vec 3 Nat) × (Nat × (Int × (Int × Unit)))))) × Unit))) (a1 : Int) : Option ((Int × Unit) × ((Nat × ((List ((Vec 3 Int) × ((Vec 3 Nat) × (Nat × (Int × (Int × Unit)))))) × Unit)) × Unit)) :=
  (laws_markMarkS a0.2.1 a1).bind fun y2003 =>
  some ((y2003.1.1, ()), (((a0.1, y2003.2.1, a0.2.2) : (Nat × ((List ((Vec 3 Int) × ((Vec 3 Nat) × (Nat × (Int × (Int × Unit)))))) × Unit))), ()))
noncomputable def laws_markLandMap_sg : Sig := ⟨[.mv (.pair (.val (.flt .f32)) (.pair (.rows (.pair (.arr 3 (.int .i32)) (.pair (.arr 3 (.flt .f32)) (.pair (.flt .f32) (.pair (.int .i64) (.pair (.int .i64) (.unit))))))) (.val (.unit)))), .v (.int .i64)], [.v (.val (.int .i64))], false⟩
noncomputable def laws_markLandMap_en : Entry := ⟨laws_markLandMap_sg, fun x => laws_markLandMap x.1 x.2.1⟩
theorem laws_markLandMap_eq (x : laws_markLandMap_sg.dom) : body (env [(115, laws_markMarkS_en)]) [] Try.f52 laws_markLandMap_sg x = laws_markLandMap x.1 x.2.1 := by kernel_rfl
theorem laws_markLandMap_so : Sound Try.prog 52 laws_markLandMap_en := sound_of_body (envS (l := [(115, laws_markMarkS_en)]) (⟨laws_markMarkS_so, trivial⟩)) Try.func52 (by kernel_rfl) rfl (fun x y h => (laws_markLandMap_eq x).trans h)

-- loop.example/g01204/laws.szMarkS
noncomputable def laws_szMarkS (a0 : (List ((Vec 3 Int) × ((Vec 3 Nat) × (Nat × (Int × (Int × Unit))))))) (a1 : Int) : Option ((Int × Unit) × Unit) :=
  let x2062 := iSub .i64 a1 (lenI a0)
  bif (iLt x2062 0) then some ((((-1 : Int) : Int), ()), ()) else some ((x2062, ()), ())
noncomputable def laws_szMarkS_sg : Sig := ⟨[.v (.list (.pair (.arr 3 (.int .i32)) (.pair (.arr 3 (.flt .f32)) (.pair (.flt .f32) (.pair (.int .i64) (.pair (.int .i64) (.unit))))))), .v (.int .i64)], [.v (.val (.int .i64))], false⟩
noncomputable def laws_szMarkS_en : Entry := ⟨laws_szMarkS_sg, fun x => laws_szMarkS x.1 x.2.1⟩
theorem laws_szMarkS_eq (x : laws_szMarkS_sg.dom) : body (env []) [] Try.f103 laws_szMarkS_sg x = laws_szMarkS x.1 x.2.1 := by kernel_rfl
theorem laws_szMarkS_so : Sound Try.prog 103 laws_szMarkS_en := sound_of_body (envS (l := []) (trivial)) Try.func103 (by kernel_rfl) rfl (fun x y h => (laws_szMarkS_eq x).trans h)

-- loop.example/g01204/laws.szLandMap
noncomputable def laws_szLandMap (a0 : (Nat × ((List ((Vec 3 Int) × ((Vec 3 Nat) × (Nat × (Int × (Int × Unit)))))) × Unit))) (a1 : Int) : Option ((Int × Unit) × Unit) :=
  (laws_szMarkS a0.2.1 a1).bind fun y2060 =>
  bif (iLt y2060.1.1 0) then some ((((-1 : Int) : Int), ()), ()) else some ((y2060.1.1, ()), ())
noncomputable def laws_szLandMap_sg : Sig := ⟨[.v (.pair (.flt .f32) (.pair (.list (.pair (.arr 3 (.int .i32)) (.pair (.arr 3 (.flt .f32)) (.pair (.flt .f32) (.pair (.int .i64) (.pair (.int .i64) (.unit))))))) (.unit))), .v (.int .i64)], [.v (.val (.int .i64))], false⟩
noncomputable def laws_szLandMap_en : Entry := ⟨laws_szLandMap_sg, fun x => laws_szLandMap x.1 x.2.1⟩
theorem laws_szLandMap_eq (x : laws_szLandMap_sg.dom) : body (env [(103, laws_szMarkS_en)]) [] Try.f46 laws_szLandMap_sg x = laws_szLandMap x.1 x.2.1 := by kernel_rfl
theorem laws_szLandMap_so : Sound Try.prog 46 laws_szLandMap_en := sound_of_body (envS (l := [(103, laws_szMarkS_en)]) (⟨laws_szMarkS_so, trivial⟩)) Try.func46 (by kernel_rfl) rfl (fun x y h => (laws_szLandMap_eq x).trans h)

-- loop.example/g01204/laws.toFloat32A2
noncomputable def laws_toFloat32A2 (a0 : (Vec 2 Nat)) : Option (((Vec 2 Nat) × Unit) × Unit) :=
  some (((((Vec.getD 2 a0 0 (0 : Nat)), (Vec.getD 2 a0 1 (0 : Nat)), ()) : (Vec 2 Nat)), ()), ())
noncomputable def laws_toFloat32A2_sg : Sig := ⟨[.v (.arr 2 (.flt .f32))], [.v (.val (.arr 2 (.flt .f32)))], false⟩
noncomputable def laws_toFloat32A2_en : Entry := ⟨laws_toFloat32A2_sg, fun x => laws_toFloat32A2 x.1⟩
theorem laws_toFloat32A2_eq (x : laws_toFloat32A2_sg.dom) : body (env []) [(3, .unroll 3)] Try.f49 laws_toFloat32A2_sg x = laws_toFloat32A2 x.1 := by kernel_rfl
theorem laws_toFloat32A2_so : Sound Try.prog 49 laws_toFloat32A2_en := sound_of_body (envS (l := []) (trivial)) Try.func49 (by kernel_rfl) rfl (fun x y h => (laws_toFloat32A2_eq x).trans h)

-- loop.example/g01204/laws.toPlace
noncomputable def laws_toPlace (a0 : (Vec 3 Int)) : Option (((Vec 3 Int) × Unit) × Unit) :=
  some (((((Vec.getD 3 a0 0 (0 : Int)), (Vec.getD 3 a0 1 (0 : Int)), (Vec.getD 3 a0 2 (0 : Int)), ()) : (Vec 3 Int)), ()), ())
noncomputable def laws_toPlace_sg : Sig := ⟨[.v (.arr 3 (.int .i32))], [.v (.val (.arr 3 (.int .i32)))], false⟩
noncomputable def laws_toPlace_en : Entry := ⟨laws_toPlace_sg, fun x => laws_toPlace x.1⟩
theorem laws_toPlace_eq (x : laws_toPlace_sg.dom) : body (env []) [(3, .unroll 4)] Try.f201 laws_toPlace_sg x = laws_toPlace x.1 := by kernel_rfl
theorem laws_toPlace_so : Sound Try.prog 201 laws_toPlace_en := sound_of_body (envS (l := []) (trivial)) Try.func201 (by kernel_rfl) rfl (fun x y h => (laws_toPlace_eq x).trans h)

-- loop.example/g01204/laws.toMark
noncomputable def laws_toMark (a0 : ((Vec 3 Int) × ((Vec 3 Nat) × (Nat × (Int × (Int × Unit)))))) : Option ((((Vec 3 Int) × ((Vec 3 Nat) × (Nat × (Int × (Int × Unit))))) × Unit) × Unit) :=
  (laws_toPlace a0.1).bind fun y2079 =>
  (laws_toVec a0.2.1).bind fun y2080 =>
  some ((((y2079.1.1, y2080.1.1, a0.2.2.1, a0.2.2.2.1, a0.2.2.2.2.1, ()) : ((Vec 3 Int) × ((Vec 3 Nat) × (Nat × (Int × (Int × Unit)))))), ()), ())
noncomputable def laws_toMark_sg : Sig := ⟨[.v (.pair (.arr 3 (.int .i32)) (.pair (.arr 3 (.flt .f32)) (.pair (.flt .f32) (.pair (.int .i64) (.pair (.int .i64) (.unit))))))], [.v (.val (.pair (.arr 3 (.int .i32)) (.pair (.arr 3 (.flt .f32)) (.pair (.flt .f32) (.pair (.int .i64) (.pair (.int .i64) (.unit)))))))], false⟩
noncomputable def laws_toMark_en : Entry := ⟨laws_toMark_sg, fun x => laws_toMark x.1⟩
theorem laws_toMark_eq (x : laws_toMark_sg.dom) : body (env [(78, laws_toVec_en), (201, laws_toPlace_en)]) [] Try.f160 laws_toMark_sg x = laws_toMark x.1 := by kernel_rfl
theorem laws_toMark_so : Sound Try.prog 160 laws_toMark_en := sound_of_body (envS (l := [(78, laws_toVec_en), (201, laws_toPlace_en)]) (⟨laws_toVec_so, laws_toPlace_so, trivial⟩)) Try.func160 (by kernel_rfl) rfl (fun x y h => (laws_toMark_eq x).trans h)

-- loop.example/g01204/laws.toMarkS
noncomputable def laws_toMarkS_l3 (a0 : (List ((Vec 3 Int) × ((Vec 3 Nat) × (Nat × (Int × (Int × Unit))))))) (s2073 : (Int × (List ((Vec 3 Int) × ((Vec 3 Nat) × (Nat × (Int × (Int × Unit)))))) × Unit)) : Option ((Int × (List ((Vec 3 Int) × ((Vec 3 Nat) × (Nat × (Int × (Int × Unit)))))) × Unit) ⊕ (((List ((Vec 3 Int) × ((Vec 3 Nat) × (Nat × (Int × (Int × Unit)))))) × Unit) × Unit)) :=
  bif (iLt s2073.1 (lenI a0)) then
    bif inB s2073.1 (List.length a0) then
      (laws_toMark (List.getD a0 s2073.1.toNat (((0, 0, 0, ()), (0, 0, 0, ()), 0, 0, 0, ()) : ((Vec 3 Int) × ((Vec 3 Nat) × (Nat × (Int × (Int × Unit)))))))).bind fun y2076 =>
      bif inB s2073.1 (List.length s2073.2.1) then
        some (Sum.inl ((iAdd .i64 s2073.1 1), (List.set s2073.2.1 s2073.1.toNat y2076.1.1), ()))
      else none
    else none
  else
  Option.map Sum.inr (some ((s2073.2.1, ()), ()))
noncomputable def laws_toMarkS (a0 : (List ((Vec 3 Int) × ((Vec 3 Nat) × (Nat × (Int × (Int × Unit))))))) : Option (((List ((Vec 3 Int) × ((Vec 3 Nat) × (Nat × (Int × (Int × Unit)))))) × Unit) × Unit) :=
  bif (iLe 0 (lenI a0) && iLe (lenI a0) (lenI a0) && room (lenI a0).toNat 48) then run (laws_toMarkS_l3 a0) ((0 : Int), List.replicate (lenI a0).toNat (((0, 0, 0, ()), (0, 0, 0, ()), 0, 0, 0, ()) : ((Vec 3 Int) × ((Vec 3 Nat) × (Nat × (Int × (Int × Unit)))))), ()) else none
noncomputable def laws_toMarkS_sg : Sig := ⟨[.v (.list (.pair (.arr 3 (.int .i32)) (.pair (.arr 3 (.flt .f32)) (.pair (.flt .f32) (.pair (.int .i64) (.pair (.int .i64) (.unit)))))))], [.v (.rows (.pair (.arr 3 (.int .i32)) (.pair (.arr 3 (.flt .f32)) (.pair (.flt .f32) (.pair (.int .i64) (.pair (.int .i64) (.unit)))))))], false⟩
noncomputable def laws_toMarkS_en : Entry := ⟨laws_toMarkS_sg, fun x => laws_toMarkS x.1⟩
theorem laws_toMarkS_eq (x : laws_toMarkS_sg.dom) : body (env [(160, laws_toMark_en)]) [(3, .vary [(4, .sc (.int .i64)), (3, .mrows (.pair (.arr 3 (.int .i32)) (.pair (.arr 3 (.flt .f32)) (.pair (.flt .f32) (.pair (.int .i64) (.pair (.int .i64) (.unit)))))))])] Try.f108 laws_toMarkS_sg x = laws_toMarkS x.1 := by kernel_rfl
theorem laws_toMarkS_so : Sound Try.prog 108 laws_toMarkS_en := sound_of_body (envS (l := [(160, laws_toMark_en)]) (⟨laws_toMark_so, trivial⟩)) Try.func108 (by kernel_rfl) rfl (fun x y h => (laws_toMarkS_eq x).trans h)

-- loop.example/g01204/laws.toLandMap
noncomputable def laws_toLandMap (a0 : (Nat × ((List ((Vec 3 Int) × ((Vec 3 Nat) × (Nat × (Int × (Int × Unit)))))) × Unit))) : Option (((Nat × ((List ((Vec 3 Int) × ((Vec 3 Nat) × (Nat × (Int × (Int × Unit)))))) × Unit)) × Unit) × Unit) :=
  (laws_toMarkS a0.2.1).bind fun y2066 =>
  some ((((a0.1, y2066.1.1, ()) : (Nat × ((List ((Vec 3 Int) × ((Vec 3 Nat) × (Nat × (Int × (Int × Unit)))))) × Unit))), ()), ())
noncomputable def laws_toLandMap_sg : Sig := ⟨[.v (.pair (.flt .f32) (.pair (.list (.pair (.arr 3 (.int .i32)) (.pair (.arr 3 (.flt .f32)) (.pair (.flt .f32) (.pair (.int .i64) (.pair (.int .i64) (.unit))))))) (.unit)))], [.v (.pair (.val (.flt .f32)) (.pair (.rows (.pair (.arr 3 (.int .i32)) (.pair (.arr 3 (.flt .f32)) (.pair (.flt .f32) (.pair (.int .i64) (.pair (.int .i64) (.unit))))))) (.val (.unit))))], false⟩
noncomputable def laws_toLandMap_en : Entry := ⟨laws_toLandMap_sg, fun x => laws_toLandMap x.1⟩
theorem laws_toLandMap_eq (x : laws_toLandMap_sg.dom) : body (env [(108, laws_toMarkS_en)]) [] Try.f48 laws_toLandMap_sg x = laws_toLandMap x.1 := by kernel_rfl
theorem laws_toLandMap_so : Sound Try.prog 48 laws_toLandMap_en := sound_of_body (envS (l := [(108, laws_toMarkS_en)]) (⟨laws_toMarkS_so, trivial⟩)) Try.func48 (by kernel_rfl) rfl (fun x y h => (laws_toLandMap_eq x).trans h)

-- loop.example/g01204/spec.l05Compare
noncomputable def spec_l05Compare (a0 : (Vec 3 Int)) (a1 : (Vec 3 Int)) : Option ((Int × Unit) × Unit) :=
  bif (iLt (Vec.getD 3 a0 0 (0 : Int)) (Vec.getD 3 a1 0 (0 : Int))) then some ((((-1 : Int) : Int), ()), ()) else
  bif (iLt (Vec.getD 3 a1 0 (0 : Int)) (Vec.getD 3 a0 0 (0 : Int))) then some (((1 : Int), ()), ()) else
  bif (iLt (Vec.getD 3 a0 1 (0 : Int)) (Vec.getD 3 a1 1 (0 : Int))) then some ((((-1 : Int) : Int), ()), ()) else
  bif (iLt (Vec.getD 3 a1 1 (0 : Int)) (Vec.getD 3 a0 1 (0 : Int))) then some (((1 : Int), ()), ()) else
  bif (iLt (Vec.getD 3 a0 2 (0 : Int)) (Vec.getD 3 a1 2 (0 : Int))) then some ((((-1 : Int) : Int), ()), ()) else
  bif (iLt (Vec.getD 3 a1 2 (0 : Int)) (Vec.getD 3 a0 2 (0 : Int))) then some (((1 : Int), ()), ()) else some (((0 : Int), ()), ())
noncomputable def spec_l05Compare_sg : Sig := ⟨[.v (.arr 3 (.int .i32)), .v (.arr 3 (.int .i32))], [.v (.val (.int .i64))], false⟩
noncomputable def spec_l05Compare_en : Entry := ⟨spec_l05Compare_sg, fun x => spec_l05Compare x.1 x.2.1⟩
theorem spec_l05Compare_eq (x : spec_l05Compare_sg.dom) : body (env []) [(2, .unroll 4)] Try.f157 spec_l05Compare_sg x = spec_l05Compare x.1 x.2.1 := by kernel_rfl
theorem spec_l05Compare_so : Sound Try.prog 157 spec_l05Compare_en := sound_of_body (envS (l := []) (trivial)) Try.func157 (by kernel_rfl) rfl (fun x y h => (spec_l05Compare_eq x).trans h)

-- loop.example/g01204/spec.l04Time
noncomputable def spec_l04Time (a0 : Int) : Option ((Bool × Unit) × Unit) :=
  (spec_l00In a0 (0 : Int) (1000000000 : Int)).bind fun y2186 =>
  some ((y2186.1.1, ()), ())
noncomputable def spec_l04Time_sg : Sig := ⟨[.v (.int .i64)], [.v (.val (.bool))], false⟩
noncomputable def spec_l04Time_en : Entry := ⟨spec_l04Time_sg, fun x => spec_l04Time x.1⟩
theorem spec_l04Time_eq (x : spec_l04Time_sg.dom) : body (env [(101, spec_l00In_en)]) [] Try.f197 spec_l04Time_sg x = spec_l04Time x.1 := by kernel_rfl
theorem spec_l04Time_so : Sound Try.prog 197 spec_l04Time_en := sound_of_body (envS (l := [(101, spec_l00In_en)]) (⟨spec_l00In_so, trivial⟩)) Try.func197 (by kernel_rfl) rfl (fun x y h => (spec_l04Time_eq x).trans h)

-- loop.example/g01204/spec.l05Mark
noncomputable def spec_l05Mark (a0 : ((Vec 3 Int) × ((Vec 3 Nat) × (Nat × (Int × (Int × Unit)))))) : Option ((Bool × Unit) × Unit) :=
  (spec_l01Vec a0.2.1).bind fun y2181 =>
  bif y2181.1.1 then
    (spec_l01Finite a0.2.2.1).bind fun y2182 =>
    bif y2182.1.1 then
      bif (fLt .f32 0 a0.2.2.1) then
        (spec_l00In a0.2.2.2.1 (1 : Int) (1000000 : Int)).bind fun y2184 =>
        bif y2184.1.1 then
          (spec_l04Time a0.2.2.2.2.1).bind fun y2185 =>
          some ((y2185.1.1, ()), ())
        else some ((false, ()), ())
      else some ((false, ()), ())
    else some ((false, ()), ())
  else some ((false, ()), ())
noncomputable def spec_l05Mark_sg : Sig := ⟨[.ro (.pair (.arr 3 (.int .i32)) (.pair (.arr 3 (.flt .f32)) (.pair (.flt .f32) (.pair (.int .i64) (.pair (.int .i64) (.unit))))))], [.v (.val (.bool))], false⟩
noncomputable def spec_l05Mark_en : Entry := ⟨spec_l05Mark_sg, fun x => spec_l05Mark x.1⟩
theorem spec_l05Mark_eq (x : spec_l05Mark_sg.dom) : body (env [(101, spec_l00In_en), (119, spec_l01Finite_en), (165, spec_l01Vec_en), (197, spec_l04Time_en)]) [] Try.f156 spec_l05Mark_sg x = spec_l05Mark x.1 := by kernel_rfl
theorem spec_l05Mark_so : Sound Try.prog 156 spec_l05Mark_en := sound_of_body (envS (l := [(101, spec_l00In_en), (119, spec_l01Finite_en), (165, spec_l01Vec_en), (197, spec_l04Time_en)]) (⟨spec_l00In_so, spec_l01Finite_so, spec_l01Vec_so, spec_l04Time_so, trivial⟩)) Try.func156 (by kernel_rfl) rfl (fun x y h => (spec_l05Mark_eq x).trans h)

-- loop.example/g01204/spec.l05Side
noncomputable def spec_l05Side (a0 : Nat) : Option ((Bool × Unit) × Unit) :=
  (spec_l01Finite a0).bind fun y2187 =>
  bif y2187.1.1 then
    some (((fLt .f32 0 a0), ()), ())
  else some ((false, ()), ())
noncomputable def spec_l05Side_sg : Sig := ⟨[.v (.flt .f32)], [.v (.val (.bool))], false⟩
noncomputable def spec_l05Side_en : Entry := ⟨spec_l05Side_sg, fun x => spec_l05Side x.1⟩
theorem spec_l05Side_eq (x : spec_l05Side_sg.dom) : body (env [(119, spec_l01Finite_en)]) [] Try.f155 spec_l05Side_sg x = spec_l05Side x.1 := by kernel_rfl
theorem spec_l05Side_so : Sound Try.prog 155 spec_l05Side_en := sound_of_body (envS (l := [(119, spec_l01Finite_en)]) (⟨spec_l01Finite_so, trivial⟩)) Try.func155 (by kernel_rfl) rfl (fun x y h => (spec_l05Side_eq x).trans h)

-- loop.example/g01204/spec.l05Ok
noncomputable def spec_l05Ok_l4 (a0 : (Nat × ((List ((Vec 3 Int) × ((Vec 3 Nat) × (Nat × (Int × (Int × Unit)))))) × Unit))) (s2151 : (Int × Unit)) : Option ((Int × Unit) ⊕ ((Bool × Unit) × Unit)) :=
  bif (iLt s2151.1 (lenI a0.2.1)) then
    bif inB s2151.1 (List.length a0.2.1) then
      (spec_l05Mark (List.getD a0.2.1 s2151.1.toNat (((0, 0, 0, ()), (0, 0, 0, ()), 0, 0, 0, ()) : ((Vec 3 Int) × ((Vec 3 Nat) × (Nat × (Int × (Int × Unit)))))))).bind fun y2153 =>
      bif (! y2153.1.1) then
        Option.map Sum.inr (some ((false, ()), ()))
      else
      bif (iLt 0 s2151.1) then
        let x2156 := iSub .i64 s2151.1 1
        bif inB x2156 (List.length a0.2.1) then
          bif inB s2151.1 (List.length a0.2.1) then
            (spec_l05Compare ((List.getD a0.2.1 x2156.toNat (((0, 0, 0, ()), (0, 0, 0, ()), 0, 0, 0, ()) : ((Vec 3 Int) × ((Vec 3 Nat) × (Nat × (Int × (Int × Unit))))))).1) ((List.getD a0.2.1 s2151.1.toNat (((0, 0, 0, ()), (0, 0, 0, ()), 0, 0, 0, ()) : ((Vec 3 Int) × ((Vec 3 Nat) × (Nat × (Int × (Int × Unit))))))).1)).bind fun y2159 =>
            bif (iLe 0 y2159.1.1) then
              Option.map Sum.inr (some ((false, ()), ()))
            else
            some (Sum.inl ((iAdd .i64 s2151.1 1), ()))
          else none
        else none
      else
      some (Sum.inl ((iAdd .i64 s2151.1 1), ()))
    else none
  else
  Option.map Sum.inr (some ((true, ()), ()))
noncomputable def spec_l05Ok (a0 : (Nat × ((List ((Vec 3 Int) × ((Vec 3 Nat) × (Nat × (Int × (Int × Unit)))))) × Unit))) : Option ((Bool × Unit) × Unit) :=
  (spec_l05Side a0.1).bind fun y2148 =>
  bif (! y2148.1.1) then some ((false, ()), ()) else
  bif (iLt 200 (lenI a0.2.1)) then some ((false, ()), ()) else run (spec_l05Ok_l4 a0) ((0 : Int), ())
noncomputable def spec_l05Ok_sg : Sig := ⟨[.ro (.pair (.flt .f32) (.pair (.list (.pair (.arr 3 (.int .i32)) (.pair (.arr 3 (.flt .f32)) (.pair (.flt .f32) (.pair (.int .i64) (.pair (.int .i64) (.unit))))))) (.unit)))], [.v (.val (.bool))], false⟩
noncomputable def spec_l05Ok_en : Entry := ⟨spec_l05Ok_sg, fun x => spec_l05Ok x.1⟩
theorem spec_l05Ok_eq (x : spec_l05Ok_sg.dom) : body (env [(155, spec_l05Side_en), (156, spec_l05Mark_en), (157, spec_l05Compare_en)]) [(4, .vary [(3, .sc (.int .i64))])] Try.f104 spec_l05Ok_sg x = spec_l05Ok x.1 := by kernel_rfl
theorem spec_l05Ok_so : Sound Try.prog 104 spec_l05Ok_en := sound_of_body (envS (l := [(155, spec_l05Side_en), (156, spec_l05Mark_en), (157, spec_l05Compare_en)]) (⟨spec_l05Side_so, spec_l05Mark_so, spec_l05Compare_so, trivial⟩)) Try.func104 (by kernel_rfl) rfl (fun x y h => (spec_l05Ok_eq x).trans h)

-- loop.example/g01204/spec.l07Low
noncomputable def spec_l07Low (a0 : (Vec 2 Nat)) (a1 : Nat) : Option ((Bool × Unit) × Unit) :=
  (spec_l01Finite (Vec.getD 2 a0 0 (0 : Nat))).bind fun y2190 =>
  bif y2190.1.1 then
    (spec_l01Finite (Vec.getD 2 a0 1 (0 : Nat))).bind fun y2192 =>
    bif y2192.1.1 then
      (spec_l01Finite a1).bind fun y2193 =>
      some ((y2193.1.1, ()), ())
    else some ((false, ()), ())
  else some ((false, ()), ())
noncomputable def spec_l07Low_sg : Sig := ⟨[.v (.arr 2 (.flt .f32)), .v (.flt .f32)], [.v (.val (.bool))], false⟩
noncomputable def spec_l07Low_en : Entry := ⟨spec_l07Low_sg, fun x => spec_l07Low x.1 x.2.1⟩
theorem spec_l07Low_eq (x : spec_l07Low_sg.dom) : body (env [(119, spec_l01Finite_en)]) [] Try.f106 spec_l07Low_sg x = spec_l07Low x.1 x.2.1 := by kernel_rfl
theorem spec_l07Low_so : Sound Try.prog 106 spec_l07Low_en := sound_of_body (envS (l := [(119, spec_l01Finite_en)]) (⟨spec_l01Finite_so, trivial⟩)) Try.func106 (by kernel_rfl) rfl (fun x y h => (spec_l07Low_eq x).trans h)

-- loop.example/g01204/spec.GridOfMarks
noncomputable def spec_GridOfMarks_l7 (a0 : (Nat × ((List ((Vec 3 Int) × ((Vec 3 Nat) × (Nat × (Int × (Int × Unit)))))) × Unit))) (a3 : (Vec 2 Nat)) (a4 : Nat) (a1 : Int) (a2 : Int) (s2118 : (Int × (Int × (Int × ((List Int) × Unit))) × Unit)) : Option ((Int × (Int × (Int × ((List Int) × Unit))) × Unit) ⊕ (((Int × (Int × ((List Int) × Unit))) × Int × Unit) × Unit)) :=
  bif (iLt s2118.1 (lenI a0.2.1)) then
    bif inB s2118.1 (List.length a0.2.1) then
      (fConv .f32 .f64 (fDiv .f32 (fSub .f32 (Vec.getD 3 (((List.getD a0.2.1 s2118.1.toNat (((0, 0, 0, ()), (0, 0, 0, ()), 0, 0, 0, ()) : ((Vec 3 Int) × ((Vec 3 Nat) × (Nat × (Int × (Int × Unit))))))).2).1) 0 (0 : Nat)) (Vec.getD 2 a3 0 (0 : Nat))) a4)).bind fun y2124 =>
      (math_Floor y2124).bind fun y2125 =>
      bif inB s2118.1 (List.length a0.2.1) then
        (fConv .f32 .f64 (fDiv .f32 (fSub .f32 (Vec.getD 3 (((List.getD a0.2.1 s2118.1.toNat (((0, 0, 0, ()), (0, 0, 0, ()), 0, 0, 0, ()) : ((Vec 3 Int) × ((Vec 3 Nat) × (Nat × (Int × (Int × Unit))))))).2).1) 1 (0 : Nat)) (Vec.getD 2 a3 1 (0 : Nat))) a4)).bind fun y2130 =>
        (math_Floor y2130).bind fun y2131 =>
        bif (fLe .f64 0 y2125.1.1) then
          bif (fLt .f64 y2125.1.1 (fOfInt .f64 a1)) then
            bif (fLe .f64 0 y2131.1.1) then
              bif (fLt .f64 y2131.1.1 (fOfInt .f64 a2)) then
                (fToInt .f64 y2131.1.1 .i64).bind fun n2138 =>
                (fToInt .f64 y2125.1.1 .i64).bind fun n2140 =>
                let x2141 := iAdd .i64 (iMul .i64 n2138 a1) n2140
                bif inB x2141 (List.length s2118.2.1.2.2.1) then
                  some (Sum.inl ((iAdd .i64 s2118.1 1), ((s2118.2.1.1, s2118.2.1.2.1, (List.set s2118.2.1.2.2.1 x2141.toNat (255 : Int)), s2118.2.1.2.2.2) : (Int × (Int × ((List Int) × Unit)))), ()))
                else none
              else
              some (Sum.inl ((iAdd .i64 s2118.1 1), ((s2118.2.1.1, s2118.2.1.2.1, s2118.2.1.2.2.1, s2118.2.1.2.2.2) : (Int × (Int × ((List Int) × Unit)))), ()))
            else
            some (Sum.inl ((iAdd .i64 s2118.1 1), ((s2118.2.1.1, s2118.2.1.2.1, s2118.2.1.2.2.1, s2118.2.1.2.2.2) : (Int × (Int × ((List Int) × Unit)))), ()))
          else
          some (Sum.inl ((iAdd .i64 s2118.1 1), ((s2118.2.1.1, s2118.2.1.2.1, s2118.2.1.2.2.1, s2118.2.1.2.2.2) : (Int × (Int × ((List Int) × Unit)))), ()))
        else
        some (Sum.inl ((iAdd .i64 s2118.1 1), ((s2118.2.1.1, s2118.2.1.2.1, s2118.2.1.2.2.1, s2118.2.1.2.2.2) : (Int × (Int × ((List Int) × Unit)))), ()))
      else none
    else none
  else
  Option.map Sum.inr (some ((((s2118.2.1.1, s2118.2.1.2.1, s2118.2.1.2.2.1, s2118.2.1.2.2.2) : (Int × (Int × ((List Int) × Unit)))), (0 : Int), ()), ()))
noncomputable def spec_GridOfMarks (a0 : (Nat × ((List ((Vec 3 Int) × ((Vec 3 Nat) × (Nat × (Int × (Int × Unit)))))) × Unit))) (a1 : Int) (a2 : Int) (a3 : (Vec 2 Nat)) (a4 : Nat) : Option (((Int × (Int × ((List Int) × Unit))) × Int × Unit) × Unit) :=
  (spec_l05Ok a0).bind fun y2084 =>
  bif (! y2084.1.1) then some ((((0, 0, [], ()) : (Int × (Int × ((List Int) × Unit)))), (1 : Int), ()), ()) else
  (spec_EmptyGrid a1 a2).bind fun y2086 =>
  bif (! (iEq y2086.1.2.1 0)) then some ((((0, 0, [], ()) : (Int × (Int × ((List Int) × Unit)))), (2 : Int), ()), ()) else
  (spec_l07Low a3 a4).bind fun y2088 =>
  bif (! y2088.1.1) then some ((((0, 0, [], ()) : (Int × (Int × ((List Int) × Unit)))), (2 : Int), ()), ()) else
  bif (! (fLt .f32 0 a4)) then some ((((0, 0, [], ()) : (Int × (Int × ((List Int) × Unit)))), (2 : Int), ()), ()) else run (spec_GridOfMarks_l7 a0 a3 a4 a1 a2) ((0 : Int), ((y2086.1.1.1, y2086.1.1.2.1, y2086.1.1.2.2.1, y2086.1.1.2.2.2) : (Int × (Int × ((List Int) × Unit)))), ())
noncomputable def spec_GridOfMarks_sg : Sig := ⟨[.v (.pair (.flt .f32) (.pair (.list (.pair (.arr 3 (.int .i32)) (.pair (.arr 3 (.flt .f32)) (.pair (.flt .f32) (.pair (.int .i64) (.pair (.int .i64) (.unit))))))) (.unit))), .v (.int .i64), .v (.int .i64), .v (.arr 2 (.flt .f32)), .v (.flt .f32)], [.v (.pair (.val (.int .i64)) (.pair (.val (.int .i64)) (.pair (.rows (.int .u8)) (.val (.unit))))), .v (.val (.int .i64))], false⟩
noncomputable def spec_GridOfMarks_en : Entry := ⟨spec_GridOfMarks_sg, fun x => spec_GridOfMarks x.1 x.2.1 x.2.2.1 x.2.2.2.1 x.2.2.2.2.1⟩
theorem spec_GridOfMarks_eq (x : spec_GridOfMarks_sg.dom) : body (env [(104, spec_l05Ok_en), (105, spec_EmptyGrid_en), (106, spec_l07Low_en), (107, math_Floor_en)]) [(7, .vary [(14, .sc (.int .i64)), (12, .box (.pair (.val (.int .i64)) (.pair (.val (.int .i64)) (.pair (.rows (.int .u8)) (.val (.unit))))))])] Try.f47 spec_GridOfMarks_sg x = spec_GridOfMarks x.1 x.2.1 x.2.2.1 x.2.2.2.1 x.2.2.2.2.1 := by kernel_rfl
theorem spec_GridOfMarks_so : Sound Try.prog 47 spec_GridOfMarks_en := sound_of_body (envS (l := [(104, spec_l05Ok_en), (105, spec_EmptyGrid_en), (106, spec_l07Low_en), (107, math_Floor_en)]) (⟨spec_l05Ok_so, spec_EmptyGrid_so, spec_l07Low_so, math_Floor_so, trivial⟩)) Try.func47 (by kernel_rfl) rfl (fun x y h => (spec_GridOfMarks_eq x).trans h)

-- loop.example/g01204/laws.FnExactGridOfMarks
noncomputable def laws_FnExactGridOfMarks (a0 : (Nat × ((List ((Vec 3 Int) × ((Vec 3 Nat) × (Nat × (Int × (Int × Unit)))))) × Unit))) (a1 : Int) (a2 : Int) (a3 : (Vec 2 Nat)) (a4 : Nat) : Option ((Bool × Unit) × Unit) :=
  (laws_szLandMap a0 (1048576 : Int)).bind fun y1820 =>
  bif (iLt y1820.1.1 0) then some ((true, ()), ()) else
  (laws_toLandMap a0).bind fun y1822 =>
  (laws_toFloat32A2 a3).bind fun y1823 =>
  (spec_GridOfMarks ((y1822.1.1.1, y1822.1.1.2.1, y1822.1.1.2.2) : (Nat × ((List ((Vec 3 Int) × ((Vec 3 Nat) × (Nat × (Int × (Int × Unit)))))) × Unit))) a1 a2 y1823.1.1 a4).bind fun y1824 =>
  (laws_toLandMap a0).bind fun y1825 =>
  (laws_toFloat32A2 a3).bind fun y1826 =>
  (impl_GridOfMarks ((y1825.1.1.1, y1825.1.1.2.1, y1825.1.1.2.2) : (Nat × ((List ((Vec 3 Int) × ((Vec 3 Nat) × (Nat × (Int × (Int × Unit)))))) × Unit))) a1 a2 y1826.1.1 a4).bind fun y1827 =>
  (laws_eqGrid ((y1827.1.1.1, y1827.1.1.2.1, y1827.1.1.2.2.1, y1827.1.1.2.2.2) : (Int × (Int × ((List Int) × Unit)))) ((y1824.1.1.1, y1824.1.1.2.1, y1824.1.1.2.2.1, y1824.1.1.2.2.2) : (Int × (Int × ((List Int) × Unit))))).bind fun y1828 =>
  bif (! y1828.1.1) then some ((false, ()), ()) else
  bif (! (iEq y1827.1.2.1 y1824.1.2.1)) then some ((false, ()), ()) else
  (laws_toLandMap a0).bind fun y1831 =>
  (laws_eqLandMap ((y1825.1.1.1, y1825.1.1.2.1, y1825.1.1.2.2) : (Nat × ((List ((Vec 3 Int) × ((Vec 3 Nat) × (Nat × (Int × (Int × Unit)))))) × Unit))) ((y1831.1.1.1, y1831.1.1.2.1, y1831.1.1.2.2) : (Nat × ((List ((Vec 3 Int) × ((Vec 3 Nat) × (Nat × (Int × (Int × Unit)))))) × Unit)))).bind fun y1832 =>
  bif (! y1832.1.1) then some ((false, ()), ()) else
  (laws_markLandMap ((y1825.1.1.1, y1825.1.1.2.1, y1825.1.1.2.2) : (Nat × ((List ((Vec 3 Int) × ((Vec 3 Nat) × (Nat × (Int × (Int × Unit)))))) × Unit))) (1 : Int)).bind fun y1834 =>
  bif (iLt y1834.1.1 0) then some ((false, ()), ()) else
  (laws_eqGrid ((y1827.1.1.1, y1827.1.1.2.1, y1827.1.1.2.2.1, y1827.1.1.2.2.2) : (Int × (Int × ((List Int) × Unit)))) ((y1824.1.1.1, y1824.1.1.2.1, y1824.1.1.2.2.1, y1824.1.1.2.2.2) : (Int × (Int × ((List Int) × Unit))))).bind fun y1836 =>
  bif (! y1836.1.1) then some ((false, ()), ()) else
  bif (! (iEq y1827.1.2.1 y1824.1.2.1)) then some ((false, ()), ()) else
  (laws_markGrid ((y1827.1.1.1, y1827.1.1.2.1, y1827.1.1.2.2.1, y1827.1.1.2.2.2) : (Int × (Int × ((List Int) × Unit)))) (1 : Int)).bind fun y1839 =>
  (laws_heldGrid ((y1827.1.1.1, y1827.1.1.2.1, y1839.2.1.2.2.1, y1827.1.1.2.2.2) : (Int × (Int × ((List Int) × Unit)))) (1 : Int)).bind fun y1840 =>
  bif (iLt y1840.1.1 0) then some ((false, ()), ()) else
  bif (! (iEq y1840.1.1 y1839.1.1)) then some ((false, ()), ()) else
  (laws_toLandMap a0).bind fun y1843 =>
  (laws_toFloat32A2 a3).bind fun y1844 =>
  (impl_GridOfMarks ((y1843.1.1.1, y1843.1.1.2.1, y1843.1.1.2.2) : (Nat × ((List ((Vec 3 Int) × ((Vec 3 Nat) × (Nat × (Int × (Int × Unit)))))) × Unit))) a1 a2 y1844.1.1 a4).bind fun y1845 =>
  (laws_eqGrid ((y1845.1.1.1, y1845.1.1.2.1, y1845.1.1.2.2.1, y1845.1.1.2.2.2) : (Int × (Int × ((List Int) × Unit)))) ((y1824.1.1.1, y1824.1.1.2.1, y1824.1.1.2.2.1, y1824.1.1.2.2.2) : (Int × (Int × ((List Int) × Unit))))).bind fun y1846 =>
  bif (! y1846.1.1) then some ((false, ()), ()) else
  bif (! (iEq y1845.1.2.1 y1824.1.2.1)) then some ((false, ()), ()) else
  (laws_heldGrid ((y1827.1.1.1, y1827.1.1.2.1, y1839.2.1.2.2.1, y1827.1.1.2.2.2) : (Int × (Int × ((List Int) × Unit)))) (1 : Int)).bind fun y1849 =>
  bif (iLt y1849.1.1 0) then some ((false, ()), ()) else
  bif (! (iEq y1849.1.1 y1839.1.1)) then some ((false, ()), ()) else some ((true, ()), ())
noncomputable def laws_FnExactGridOfMarks_sg : Sig := ⟨[.v (.pair (.flt .f32) (.pair (.list (.pair (.arr 3 (.int .i32)) (.pair (.arr 3 (.flt .f32)) (.pair (.flt .f32) (.pair (.int .i64) (.pair (.int .i64) (.unit))))))) (.unit))), .v (.int .i64), .v (.int .i64), .v (.arr 2 (.flt .f32)), .v (.flt .f32)], [.v (.val (.bool))], false⟩
noncomputable def laws_FnExactGridOfMarks_en : Entry := ⟨laws_FnExactGridOfMarks_sg, fun x => laws_FnExactGridOfMarks x.1 x.2.1 x.2.2.1 x.2.2.2.1 x.2.2.2.2.1⟩
theorem laws_FnExactGridOfMarks_eq (x : laws_FnExactGridOfMarks_sg.dom) : body (env [(17, laws_eqGrid_en), (18, laws_markGrid_en), (46, laws_szLandMap_en), (47, spec_GridOfMarks_en), (48, laws_toLandMap_en), (49, laws_toFloat32A2_en), (50, impl_GridOfMarks_en), (51, laws_eqLandMap_en), (52, laws_markLandMap_en), (53, laws_heldGrid_en)]) [] Try.f9 laws_FnExactGridOfMarks_sg x = laws_FnExactGridOfMarks x.1 x.2.1 x.2.2.1 x.2.2.2.1 x.2.2.2.2.1 := by kernel_rfl
theorem laws_FnExactGridOfMarks_so : Sound Try.prog 9 laws_FnExactGridOfMarks_en := sound_of_body (envS (l := [(17, laws_eqGrid_en), (18, laws_markGrid_en), (46, laws_szLandMap_en), (47, spec_GridOfMarks_en), (48, laws_toLandMap_en), (49, laws_toFloat32A2_en), (50, impl_GridOfMarks_en), (51, laws_eqLandMap_en), (52, laws_markLandMap_en), (53, laws_heldGrid_en)]) (⟨laws_eqGrid_so, laws_markGrid_so, laws_szLandMap_so, spec_GridOfMarks_so, laws_toLandMap_so, laws_toFloat32A2_so, impl_GridOfMarks_so, laws_eqLandMap_so, laws_markLandMap_so, laws_heldGrid_so, trivial⟩)) Try.func9 (by kernel_rfl) rfl (fun x y h => (laws_FnExactGridOfMarks_eq x).trans h)

theorem math_Float64frombits_so : Sound Try.prog 210 math_Float64frombits_en := math_Float64frombits_sound Try.func210 (by kernel_rfl) (by kernel_rfl) (by kernel_rfl) (by kernel_rfl)

-- math.NaN
noncomputable def math_NaN : Option ((Nat × Unit) × Unit) :=
  (math_Float64frombits (9221120237041090561 : Int)).bind fun y2369 =>
  some ((y2369.1.1, ()), ())
noncomputable def math_NaN_sg : Sig := ⟨[], [.v (.val (.flt .f64))], false⟩
noncomputable def math_NaN_en : Entry := ⟨math_NaN_sg, fun _ => math_NaN⟩
theorem math_NaN_eq (x : math_NaN_sg.dom) : body (env [(210, math_Float64frombits_en)]) [] Try.f205 math_NaN_sg x = math_NaN  := by kernel_rfl
theorem math_NaN_so : Sound Try.prog 205 math_NaN_en := sound_of_body (envS (l := [(210, math_Float64frombits_en)]) (⟨math_Float64frombits_so, trivial⟩)) Try.func205 (by kernel_rfl) rfl (fun x y h => (math_NaN_eq x).trans h)

-- loop.example/g01204/impl.notANumber
noncomputable def impl_notANumber : Option ((Nat × Unit) × Unit) :=
  (math_NaN).bind fun y2367 =>
  (fConv .f64 .f32 y2367.1.1).bind fun y2368 =>
  some ((y2368, ()), ())
noncomputable def impl_notANumber_sg : Sig := ⟨[], [.v (.val (.flt .f32))], false⟩
noncomputable def impl_notANumber_en : Entry := ⟨impl_notANumber_sg, fun _ => impl_notANumber⟩
theorem impl_notANumber_eq (x : impl_notANumber_sg.dom) : body (env [(205, math_NaN_en)]) [] Try.f178 impl_notANumber_sg x = impl_notANumber  := by kernel_rfl
theorem impl_notANumber_so : Sound Try.prog 178 impl_notANumber_en := sound_of_body (envS (l := [(205, math_NaN_en)]) (⟨math_NaN_so, trivial⟩)) Try.func178 (by kernel_rfl) rfl (fun x y h => (impl_notANumber_eq x).trans h)

-- math.Abs
noncomputable def math_Abs (a0 : Nat) : Option ((Nat × Unit) × Unit) :=
  allSame fun (q2370 : Nat) =>
  (math_Float64frombits (iAndNot .u64 (bitsF .f64 a0 q2370) 9223372036854775808)).bind fun y2373 =>
  some ((y2373.1.1, ()), ())
noncomputable def math_Abs_sg : Sig := ⟨[.v (.flt .f64)], [.v (.val (.flt .f64))], false⟩
noncomputable def math_Abs_en : Entry := ⟨math_Abs_sg, fun x => math_Abs x.1⟩
theorem math_Abs_eq (x : math_Abs_sg.dom) : body (env [(210, math_Float64frombits_en)]) [] Try.f181 math_Abs_sg x = math_Abs x.1 := by kernel_rfl
theorem math_Abs_so : Sound Try.prog 181 math_Abs_en := sound_of_body (envS (l := [(210, math_Float64frombits_en)]) (⟨math_Float64frombits_so, trivial⟩)) Try.func181 (by kernel_rfl) rfl (fun x y h => (math_Abs_eq x).trans h)

theorem math_sqrt_so : Sound Try.prog 212 math_sqrt_en := math_sqrt_sound Try.func212 (by kernel_rfl) (by kernel_rfl) (by kernel_rfl) (by kernel_rfl)

-- math.Sqrt
noncomputable def math_Sqrt (a0 : Nat) : Option ((Nat × Unit) × Unit) :=
  (math_sqrt a0).bind fun y2374 =>
  some ((y2374.1.1, ()), ())
noncomputable def math_Sqrt_sg : Sig := ⟨[.v (.flt .f64)], [.v (.val (.flt .f64))], false⟩
noncomputable def math_Sqrt_en : Entry := ⟨math_Sqrt_sg, fun x => math_Sqrt x.1⟩
theorem math_Sqrt_eq (x : math_Sqrt_sg.dom) : body (env [(212, math_sqrt_en)]) [] Try.f182 math_Sqrt_sg x = math_Sqrt x.1 := by kernel_rfl
theorem math_Sqrt_so : Sound Try.prog 182 math_Sqrt_en := sound_of_body (envS (l := [(212, math_sqrt_en)]) (⟨math_sqrt_so, trivial⟩)) Try.func182 (by kernel_rfl) rfl (fun x y h => (math_Sqrt_eq x).trans h)

-- loop.example/g01204/impl.AngleOf
noncomputable def impl_AngleOf_l14 (x2277 : Nat) (x2276 : Nat) (y2258 : ((Nat × Unit) × Unit)) (y2256 : ((Nat × Unit) × Unit)) (a1 : Nat) (a0 : Nat) (s2278 : (Nat × Int × Unit)) : Option ((Nat × Int × Unit) ⊕ ((Nat × Unit) × Unit)) :=
  bif (iLe 0 s2278.2.1) then
    some (Sum.inl ((fSub .f64 (fDiv .f64 4607182418800017408 (fOfInt .f64 (iAdd .i64 (iMul .i64 2 s2278.2.1) 1))) (fMul .f64 x2277 s2278.1)), (iSub .i64 s2278.2.1 1), ()))
  else
  Option.map Sum.inr (
    let x2288 := fMul .f64 (fMul .f64 4620693217682128896 x2276) s2278.1
    bif (fLt .f64 y2258.1.1 y2256.1.1) then
      let x2290 := fSub .f64 4609753056924675352 x2288
      bif (fLt .f32 a1 0) then
        let x2292 := fSub .f64 4614256656552045848 x2290
        bif (fLt .f32 a0 0) then
          (fConv .f64 .f32 (fNeg .f64 x2292)).bind fun y2295 =>
          some ((y2295, ()), ())
        else
        (fConv .f64 .f32 x2292).bind fun y2296 =>
        some ((y2296, ()), ())
      else
      bif (fLt .f32 a0 0) then
        (fConv .f64 .f32 (fNeg .f64 x2290)).bind fun y2299 =>
        some ((y2299, ()), ())
      else
      (fConv .f64 .f32 x2290).bind fun y2300 =>
      some ((y2300, ()), ())
    else
    bif (fLt .f32 a1 0) then
      let x2302 := fSub .f64 4614256656552045848 x2288
      bif (fLt .f32 a0 0) then
        (fConv .f64 .f32 (fNeg .f64 x2302)).bind fun y2305 =>
        some ((y2305, ()), ())
      else
      (fConv .f64 .f32 x2302).bind fun y2306 =>
      some ((y2306, ()), ())
    else
    bif (fLt .f32 a0 0) then
      (fConv .f64 .f32 (fNeg .f64 x2288)).bind fun y2309 =>
      some ((y2309, ()), ())
    else
    (fConv .f64 .f32 x2288).bind fun y2310 =>
    some ((y2310, ()), ()))
noncomputable def impl_AngleOf_l14_2 (x2333 : Nat) (x2332 : Nat) (y2314 : ((Nat × Unit) × Unit)) (y2312 : ((Nat × Unit) × Unit)) (a1 : Nat) (a0 : Nat) (s2334 : (Nat × Int × Unit)) : Option ((Nat × Int × Unit) ⊕ ((Nat × Unit) × Unit)) :=
  bif (iLe 0 s2334.2.1) then
    some (Sum.inl ((fSub .f64 (fDiv .f64 4607182418800017408 (fOfInt .f64 (iAdd .i64 (iMul .i64 2 s2334.2.1) 1))) (fMul .f64 x2333 s2334.1)), (iSub .i64 s2334.2.1 1), ()))
  else
  Option.map Sum.inr (
    let x2344 := fMul .f64 (fMul .f64 4620693217682128896 x2332) s2334.1
    bif (fLt .f64 y2314.1.1 y2312.1.1) then
      let x2346 := fSub .f64 4609753056924675352 x2344
      bif (fLt .f32 a1 0) then
        let x2348 := fSub .f64 4614256656552045848 x2346
        bif (fLt .f32 a0 0) then
          (fConv .f64 .f32 (fNeg .f64 x2348)).bind fun y2351 =>
          some ((y2351, ()), ())
        else
        (fConv .f64 .f32 x2348).bind fun y2352 =>
        some ((y2352, ()), ())
      else
      bif (fLt .f32 a0 0) then
        (fConv .f64 .f32 (fNeg .f64 x2346)).bind fun y2355 =>
        some ((y2355, ()), ())
      else
      (fConv .f64 .f32 x2346).bind fun y2356 =>
      some ((y2356, ()), ())
    else
    bif (fLt .f32 a1 0) then
      let x2358 := fSub .f64 4614256656552045848 x2344
      bif (fLt .f32 a0 0) then
        (fConv .f64 .f32 (fNeg .f64 x2358)).bind fun y2361 =>
        some ((y2361, ()), ())
      else
      (fConv .f64 .f32 x2358).bind fun y2362 =>
      some ((y2362, ()), ())
    else
    bif (fLt .f32 a0 0) then
      (fConv .f64 .f32 (fNeg .f64 x2344)).bind fun y2365 =>
      some ((y2365, ()), ())
    else
    (fConv .f64 .f32 x2344).bind fun y2366 =>
    some ((y2366, ()), ()))
noncomputable def impl_AngleOf (a0 : Nat) (a1 : Nat) : Option ((Nat × Unit) × Unit) :=
  (impl_isFinite ([a0, a1] : (List Nat))).bind fun y2250 =>
  bif (! y2250.1.1) then
    (impl_notANumber).bind fun y2252 =>
    some ((y2252.1.1, ()), ())
  else
  bif (fEq .f32 a0 0) then
    bif (fEq .f32 a1 0) then some (((0 : Nat), ()), ()) else
    (fConv .f32 .f64 a0).bind fun y2255 =>
    (math_Abs y2255).bind fun y2256 =>
    (fConv .f32 .f64 a1).bind fun y2257 =>
    (math_Abs y2257).bind fun y2258 =>
    let x2261 := fDiv .f64 (fMin .f64 y2256.1.1 y2258.1.1) (fMax .f64 y2256.1.1 y2258.1.1)
    (math_Sqrt (fAdd .f64 4607182418800017408 (fMul .f64 x2261 x2261))).bind fun y2264 =>
    let x2266 := fDiv .f64 x2261 (fAdd .f64 4607182418800017408 y2264.1.1)
    (math_Sqrt (fAdd .f64 4607182418800017408 (fMul .f64 x2266 x2266))).bind fun y2269 =>
    let x2271 := fDiv .f64 x2266 (fAdd .f64 4607182418800017408 y2269.1.1)
    (math_Sqrt (fAdd .f64 4607182418800017408 (fMul .f64 x2271 x2271))).bind fun y2274 =>
    let x2276 := fDiv .f64 x2271 (fAdd .f64 4607182418800017408 y2274.1.1)
    let x2277 := fMul .f64 x2276 x2276
    run (impl_AngleOf_l14 x2277 x2276 y2258 y2256 a1 a0) ((0 : Nat), (12 : Int), ())
  else
  (fConv .f32 .f64 a0).bind fun y2311 =>
  (math_Abs y2311).bind fun y2312 =>
  (fConv .f32 .f64 a1).bind fun y2313 =>
  (math_Abs y2313).bind fun y2314 =>
  let x2317 := fDiv .f64 (fMin .f64 y2312.1.1 y2314.1.1) (fMax .f64 y2312.1.1 y2314.1.1)
  (math_Sqrt (fAdd .f64 4607182418800017408 (fMul .f64 x2317 x2317))).bind fun y2320 =>
  let x2322 := fDiv .f64 x2317 (fAdd .f64 4607182418800017408 y2320.1.1)
  (math_Sqrt (fAdd .f64 4607182418800017408 (fMul .f64 x2322 x2322))).bind fun y2325 =>
  let x2327 := fDiv .f64 x2322 (fAdd .f64 4607182418800017408 y2325.1.1)
  (math_Sqrt (fAdd .f64 4607182418800017408 (fMul .f64 x2327 x2327))).bind fun y2330 =>
  let x2332 := fDiv .f64 x2327 (fAdd .f64 4607182418800017408 y2330.1.1)
  let x2333 := fMul .f64 x2332 x2332
  run (impl_AngleOf_l14_2 x2333 x2332 y2314 y2312 a1 a0) ((0 : Nat), (12 : Int), ())
noncomputable def impl_AngleOf_sg : Sig := ⟨[.v (.flt .f32), .v (.flt .f32)], [.v (.val (.flt .f32))], false⟩
noncomputable def impl_AngleOf_en : Entry := ⟨impl_AngleOf_sg, fun x => impl_AngleOf x.1 x.2.1⟩
theorem impl_AngleOf_eq (x : impl_AngleOf_sg.dom) : body (env [(111, impl_isFinite_en), (178, impl_notANumber_en), (181, math_Abs_en), (182, math_Sqrt_en)]) [(8, .unroll 4), (14, .vary [(9, .sc (.flt .f64)), (10, .sc (.int .i64))])] Try.f129 impl_AngleOf_sg x = impl_AngleOf x.1 x.2.1 := by kernel_rfl
theorem impl_AngleOf_so : Sound Try.prog 129 impl_AngleOf_en := sound_of_body (envS (l := [(111, impl_isFinite_en), (178, impl_notANumber_en), (181, math_Abs_en), (182, math_Sqrt_en)]) (⟨impl_isFinite_so, impl_notANumber_so, math_Abs_so, math_Sqrt_so, trivial⟩)) Try.func129 (by kernel_rfl) rfl (fun x y h => (impl_AngleOf_eq x).trans h)

-- loop.example/g01204/impl.sineOfTurns
noncomputable def impl_sineOfTurns (a0 : Nat) : Option ((Nat × Unit) × Unit) :=
  (math_Floor a0).bind fun y2403 =>
  let x2404 := fSub .f64 a0 y2403.1.1
  let x2405 := fLe .f64 4602678819172646912 x2404
  bif x2405 then
    let x2406 := fSub .f64 x2404 4602678819172646912
    bif (fLt .f64 4598175219545276416 x2406) then
      let x2409 := fMul .f64 4618760256179416344 (fSub .f64 4602678819172646912 x2406)
      let x2410 := fMul .f64 x2409 x2409
      let x2443 := fMul .f64 (fSub .f64 4607182418800017408 (fMul .f64 (fDiv .f64 x2410 (fOfInt .f64 6)) (fSub .f64 4607182418800017408 (fMul .f64 (fDiv .f64 x2410 (fOfInt .f64 20)) (fSub .f64 4607182418800017408 (fMul .f64 (fDiv .f64 x2410 (fOfInt .f64 42)) (fSub .f64 4607182418800017408 (fMul .f64 (fDiv .f64 x2410 (fOfInt .f64 72)) (fSub .f64 4607182418800017408 (fMul .f64 (fDiv .f64 x2410 (fOfInt .f64 110)) (fSub .f64 4607182418800017408 (fMul .f64 (fDiv .f64 x2410 (fOfInt .f64 156)) (fSub .f64 4607182418800017408 (fMul .f64 (fDiv .f64 x2410 (fOfInt .f64 210)) (fSub .f64 4607182418800017408 (fMul .f64 (fDiv .f64 x2410 (fOfInt .f64 272)) 4607182418800017408)))))))))))))))) x2409
      bif x2405 then
        (fConv .f64 .f32 (fNeg .f64 x2443)).bind fun y2445 =>
        some ((y2445, ()), ())
      else
      (fConv .f64 .f32 x2443).bind fun y2446 =>
      some ((y2446, ()), ())
    else
    let x2447 := fMul .f64 4618760256179416344 x2406
    let x2448 := fMul .f64 x2447 x2447
    let x2481 := fMul .f64 (fSub .f64 4607182418800017408 (fMul .f64 (fDiv .f64 x2448 (fOfInt .f64 6)) (fSub .f64 4607182418800017408 (fMul .f64 (fDiv .f64 x2448 (fOfInt .f64 20)) (fSub .f64 4607182418800017408 (fMul .f64 (fDiv .f64 x2448 (fOfInt .f64 42)) (fSub .f64 4607182418800017408 (fMul .f64 (fDiv .f64 x2448 (fOfInt .f64 72)) (fSub .f64 4607182418800017408 (fMul .f64 (fDiv .f64 x2448 (fOfInt .f64 110)) (fSub .f64 4607182418800017408 (fMul .f64 (fDiv .f64 x2448 (fOfInt .f64 156)) (fSub .f64 4607182418800017408 (fMul .f64 (fDiv .f64 x2448 (fOfInt .f64 210)) (fSub .f64 4607182418800017408 (fMul .f64 (fDiv .f64 x2448 (fOfInt .f64 272)) 4607182418800017408)))))))))))))))) x2447
    bif x2405 then
      (fConv .f64 .f32 (fNeg .f64 x2481)).bind fun y2483 =>
      some ((y2483, ()), ())
    else
    (fConv .f64 .f32 x2481).bind fun y2484 =>
    some ((y2484, ()), ())
  else
  bif (fLt .f64 4598175219545276416 x2404) then
    let x2487 := fMul .f64 4618760256179416344 (fSub .f64 4602678819172646912 x2404)
    let x2488 := fMul .f64 x2487 x2487
    let x2521 := fMul .f64 (fSub .f64 4607182418800017408 (fMul .f64 (fDiv .f64 x2488 (fOfInt .f64 6)) (fSub .f64 4607182418800017408 (fMul .f64 (fDiv .f64 x2488 (fOfInt .f64 20)) (fSub .f64 4607182418800017408 (fMul .f64 (fDiv .f64 x2488 (fOfInt .f64 42)) (fSub .f64 4607182418800017408 (fMul .f64 (fDiv .f64 x2488 (fOfInt .f64 72)) (fSub .f64 4607182418800017408 (fMul .f64 (fDiv .f64 x2488 (fOfInt .f64 110)) (fSub .f64 4607182418800017408 (fMul .f64 (fDiv .f64 x2488 (fOfInt .f64 156)) (fSub .f64 4607182418800017408 (fMul .f64 (fDiv .f64 x2488 (fOfInt .f64 210)) (fSub .f64 4607182418800017408 (fMul .f64 (fDiv .f64 x2488 (fOfInt .f64 272)) 4607182418800017408)))))))))))))))) x2487
    bif x2405 then
      (fConv .f64 .f32 (fNeg .f64 x2521)).bind fun y2523 =>
      some ((y2523, ()), ())
    else
    (fConv .f64 .f32 x2521).bind fun y2524 =>
    some ((y2524, ()), ())
  else
  let x2525 := fMul .f64 4618760256179416344 x2404
  let x2526 := fMul .f64 x2525 x2525
  let x2559 := fMul .f64 (fSub .f64 4607182418800017408 (fMul .f64 (fDiv .f64 x2526 (fOfInt .f64 6)) (fSub .f64 4607182418800017408 (fMul .f64 (fDiv .f64 x2526 (fOfInt .f64 20)) (fSub .f64 4607182418800017408 (fMul .f64 (fDiv .f64 x2526 (fOfInt .f64 42)) (fSub .f64 4607182418800017408 (fMul .f64 (fDiv .f64 x2526 (fOfInt .f64 72)) (fSub .f64 4607182418800017408 (fMul .f64 (fDiv .f64 x2526 (fOfInt .f64 110)) (fSub .f64 4607182418800017408 (fMul .f64 (fDiv .f64 x2526 (fOfInt .f64 156)) (fSub .f64 4607182418800017408 (fMul .f64 (fDiv .f64 x2526 (fOfInt .f64 210)) (fSub .f64 4607182418800017408 (fMul .f64 (fDiv .f64 x2526 (fOfInt .f64 272)) 4607182418800017408)))))))))))))))) x2525
  bif x2405 then
    (fConv .f64 .f32 (fNeg .f64 x2559)).bind fun y2561 =>
    some ((y2561, ()), ())
  else
  (fConv .f64 .f32 x2559).bind fun y2562 =>
  some ((y2562, ()), ())
noncomputable def impl_sineOfTurns_sg : Sig := ⟨[.v (.flt .f64)], [.v (.val (.flt .f32))], false⟩
noncomputable def impl_sineOfTurns_en : Entry := ⟨impl_sineOfTurns_sg, fun x => impl_sineOfTurns x.1⟩
theorem impl_sineOfTurns_eq (x : impl_sineOfTurns_sg.dom) : body (env [(107, math_Floor_en)]) [(11, .unroll 9)] Try.f213 impl_sineOfTurns_sg x = impl_sineOfTurns x.1 := by kernel_rfl
theorem impl_sineOfTurns_so : Sound Try.prog 213 impl_sineOfTurns_en := sound_of_body (envS (l := [(107, math_Floor_en)]) (⟨math_Floor_so, trivial⟩)) Try.func213 (by kernel_rfl) rfl (fun x y h => (impl_sineOfTurns_eq x).trans h)

-- loop.example/g01204/impl.turnsOf
noncomputable def impl_turnsOf (a0 : Nat) : Option ((Nat × Unit) × Unit) :=
  (fConv .f32 .f64 a0).bind fun y2563 =>
  some (((fDiv .f64 y2563 4618760256179416344), ()), ())
noncomputable def impl_turnsOf_sg : Sig := ⟨[.v (.flt .f32)], [.v (.val (.flt .f64))], false⟩
noncomputable def impl_turnsOf_en : Entry := ⟨impl_turnsOf_sg, fun x => impl_turnsOf x.1⟩
theorem impl_turnsOf_eq (x : impl_turnsOf_sg.dom) : body (env []) [] Try.f180 impl_turnsOf_sg x = impl_turnsOf x.1 := by kernel_rfl
theorem impl_turnsOf_so : Sound Try.prog 180 impl_turnsOf_en := sound_of_body (envS (l := []) (trivial)) Try.func180 (by kernel_rfl) rfl (fun x y h => (impl_turnsOf_eq x).trans h)

-- loop.example/g01204/impl.CosineOf
noncomputable def impl_CosineOf (a0 : Nat) : Option ((Nat × Unit) × Unit) :=
  (impl_isFinite ([a0] : (List Nat))).bind fun y2397 =>
  bif (! y2397.1.1) then
    (impl_notANumber).bind fun y2399 =>
    some ((y2399.1.1, ()), ())
  else
  (impl_turnsOf a0).bind fun y2400 =>
  (impl_sineOfTurns (fAdd .f64 y2400.1.1 4598175219545276416)).bind fun y2402 =>
  some ((y2402.1.1, ()), ())
noncomputable def impl_CosineOf_sg : Sig := ⟨[.v (.flt .f32)], [.v (.val (.flt .f32))], false⟩
noncomputable def impl_CosineOf_en : Entry := ⟨impl_CosineOf_sg, fun x => impl_CosineOf x.1⟩
theorem impl_CosineOf_eq (x : impl_CosineOf_sg.dom) : body (env [(111, impl_isFinite_en), (178, impl_notANumber_en), (180, impl_turnsOf_en), (213, impl_sineOfTurns_en)]) [] Try.f183 impl_CosineOf_sg x = impl_CosineOf x.1 := by kernel_rfl
theorem impl_CosineOf_so : Sound Try.prog 183 impl_CosineOf_en := sound_of_body (envS (l := [(111, impl_isFinite_en), (178, impl_notANumber_en), (180, impl_turnsOf_en), (213, impl_sineOfTurns_en)]) (⟨impl_isFinite_so, impl_notANumber_so, impl_turnsOf_so, impl_sineOfTurns_so, trivial⟩)) Try.func183 (by kernel_rfl) rfl (fun x y h => (impl_CosineOf_eq x).trans h)

-- loop.example/g01204/impl.SineOf
noncomputable def impl_SineOf (a0 : Nat) : Option ((Nat × Unit) × Unit) :=
  (impl_isFinite ([a0] : (List Nat))).bind fun y2565 =>
  bif (! y2565.1.1) then
    (impl_notANumber).bind fun y2567 =>
    some ((y2567.1.1, ()), ())
  else
  (impl_turnsOf a0).bind fun y2568 =>
  (impl_sineOfTurns y2568.1.1).bind fun y2569 =>
  some ((y2569.1.1, ()), ())
noncomputable def impl_SineOf_sg : Sig := ⟨[.v (.flt .f32)], [.v (.val (.flt .f32))], false⟩
noncomputable def impl_SineOf_en : Entry := ⟨impl_SineOf_sg, fun x => impl_SineOf x.1⟩
theorem impl_SineOf_eq (x : impl_SineOf_sg.dom) : body (env [(111, impl_isFinite_en), (178, impl_notANumber_en), (180, impl_turnsOf_en), (213, impl_sineOfTurns_en)]) [] Try.f184 impl_SineOf_sg x = impl_SineOf x.1 := by kernel_rfl
theorem impl_SineOf_so : Sound Try.prog 184 impl_SineOf_en := sound_of_body (envS (l := [(111, impl_isFinite_en), (178, impl_notANumber_en), (180, impl_turnsOf_en), (213, impl_sineOfTurns_en)]) (⟨impl_isFinite_so, impl_notANumber_so, impl_turnsOf_so, impl_sineOfTurns_so, trivial⟩)) Try.func184 (by kernel_rfl) rfl (fun x y h => (impl_SineOf_eq x).trans h)

theorem math_RoundToEven_so : Sound Try.prog 179 math_RoundToEven_en := round_sound (name := "math.RoundToEven") Try.func179 (by kernel_rfl) (by kernel_rfl) (by kernel_rfl) (by kernel_rfl)

-- loop.example/g01204/impl.WrapAngle
noncomputable def impl_WrapAngle (a0 : Nat) : Option ((Nat × Unit) × Unit) :=
  (impl_isFinite ([a0] : (List Nat))).bind fun y2570 =>
  bif (! y2570.1.1) then
    (impl_notANumber).bind fun y2572 =>
    some ((y2572.1.1, ()), ())
  else
  (impl_turnsOf a0).bind fun y2573 =>
  (math_RoundToEven y2573.1.1).bind fun y2574 =>
  (fConv .f32 .f64 a0).bind fun y2575 =>
  let x2577 := fSub .f64 y2575 (fMul .f64 4618760256179416344 y2574.1.1)
  bif (fEq .f64 x2577 0) then
    (fConv .f64 .f32 0).bind fun y2579 =>
    some (((fMin .f32 1078530011 (fMax .f32 3226013659 y2579)), ()), ())
  else
  (fConv .f64 .f32 x2577).bind fun y2582 =>
  some (((fMin .f32 1078530011 (fMax .f32 3226013659 y2582)), ()), ())
noncomputable def impl_WrapAngle_sg : Sig := ⟨[.v (.flt .f32)], [.v (.val (.flt .f32))], false⟩
noncomputable def impl_WrapAngle_en : Entry := ⟨impl_WrapAngle_sg, fun x => impl_WrapAngle x.1⟩
theorem impl_WrapAngle_eq (x : impl_WrapAngle_sg.dom) : body (env [(111, impl_isFinite_en), (178, impl_notANumber_en), (179, math_RoundToEven_en), (180, impl_turnsOf_en)]) [] Try.f128 impl_WrapAngle_sg x = impl_WrapAngle x.1 := by kernel_rfl
theorem impl_WrapAngle_so : Sound Try.prog 128 impl_WrapAngle_en := sound_of_body (envS (l := [(111, impl_isFinite_en), (178, impl_notANumber_en), (179, math_RoundToEven_en), (180, impl_turnsOf_en)]) (⟨impl_isFinite_so, impl_notANumber_so, math_RoundToEven_so, impl_turnsOf_so, trivial⟩)) Try.func128 (by kernel_rfl) rfl (fun x y h => (impl_WrapAngle_eq x).trans h)

-- loop.example/g01204/impl.ComposePoses
noncomputable def impl_ComposePoses (a0 : (Vec 3 Nat)) (a1 : (Vec 3 Nat)) : Option (((Vec 3 Nat) × Unit) × Unit) :=
  (impl_CosineOf (Vec.getD 3 a0 2 (0 : Nat))).bind fun y2376 =>
  (impl_SineOf (Vec.getD 3 a0 2 (0 : Nat))).bind fun y2378 =>
  (impl_WrapAngle (fAdd .f32 (Vec.getD 3 a0 2 (0 : Nat)) (Vec.getD 3 a1 2 (0 : Nat)))).bind fun y2396 =>
  some (((((fAdd .f32 (Vec.getD 3 a0 0 (0 : Nat)) (fSub .f32 (fMul .f32 y2376.1.1 (Vec.getD 3 a1 0 (0 : Nat))) (fMul .f32 y2378.1.1 (Vec.getD 3 a1 1 (0 : Nat))))), (fAdd .f32 (Vec.getD 3 a0 1 (0 : Nat)) (fAdd .f32 (fMul .f32 y2378.1.1 (Vec.getD 3 a1 0 (0 : Nat))) (fMul .f32 y2376.1.1 (Vec.getD 3 a1 1 (0 : Nat))))), y2396.1.1, ()) : (Vec 3 Nat)), ()), ())
noncomputable def impl_ComposePoses_sg : Sig := ⟨[.v (.arr 3 (.flt .f32)), .v (.arr 3 (.flt .f32))], [.v (.val (.arr 3 (.flt .f32)))], false⟩
noncomputable def impl_ComposePoses_en : Entry := ⟨impl_ComposePoses_sg, fun x => impl_ComposePoses x.1 x.2.1⟩
theorem impl_ComposePoses_eq (x : impl_ComposePoses_sg.dom) : body (env [(128, impl_WrapAngle_en), (183, impl_CosineOf_en), (184, impl_SineOf_en)]) [] Try.f130 impl_ComposePoses_sg x = impl_ComposePoses x.1 x.2.1 := by kernel_rfl
theorem impl_ComposePoses_so : Sound Try.prog 130 impl_ComposePoses_en := sound_of_body (envS (l := [(128, impl_WrapAngle_en), (183, impl_CosineOf_en), (184, impl_SineOf_en)]) (⟨impl_WrapAngle_so, impl_CosineOf_so, impl_SineOf_so, trivial⟩)) Try.func130 (by kernel_rfl) rfl (fun x y h => (impl_ComposePoses_eq x).trans h)

-- loop.example/g01204/impl.IsFinitePose
noncomputable def impl_IsFinitePose (a0 : (Vec 3 Nat)) : Option ((Bool × Unit) × Unit) :=
  (impl_isFinite ([Vec.getD 3 a0 0 (0 : Nat), Vec.getD 3 a0 1 (0 : Nat), Vec.getD 3 a0 2 (0 : Nat)] : (List Nat))).bind fun y2585 =>
  some ((y2585.1.1, ()), ())
noncomputable def impl_IsFinitePose_sg : Sig := ⟨[.v (.arr 3 (.flt .f32))], [.v (.val (.bool))], false⟩
noncomputable def impl_IsFinitePose_en : Entry := ⟨impl_IsFinitePose_sg, fun x => impl_IsFinitePose x.1⟩
theorem impl_IsFinitePose_eq (x : impl_IsFinitePose_sg.dom) : body (env [(111, impl_isFinite_en)]) [] Try.f126 impl_IsFinitePose_sg x = impl_IsFinitePose x.1 := by kernel_rfl
theorem impl_IsFinitePose_so : Sound Try.prog 126 impl_IsFinitePose_en := sound_of_body (envS (l := [(111, impl_isFinite_en)]) (⟨impl_isFinite_so, trivial⟩)) Try.func126 (by kernel_rfl) rfl (fun x y h => (impl_IsFinitePose_eq x).trans h)

-- loop.example/g01204/impl.root
noncomputable def impl_root (a0 : Nat) : Option ((Nat × Unit) × Unit) :=
  (fConv .f32 .f64 a0).bind fun y2624 =>
  (math_Sqrt y2624).bind fun y2625 =>
  (fConv .f64 .f32 y2625.1.1).bind fun y2626 =>
  some ((y2626, ()), ())
noncomputable def impl_root_sg : Sig := ⟨[.v (.flt .f32)], [.v (.val (.flt .f32))], false⟩
noncomputable def impl_root_en : Entry := ⟨impl_root_sg, fun x => impl_root x.1⟩
theorem impl_root_eq (x : impl_root_sg.dom) : body (env [(182, math_Sqrt_en)]) [] Try.f177 impl_root_sg x = impl_root x.1 := by kernel_rfl
theorem impl_root_so : Sound Try.prog 177 impl_root_en := sound_of_body (envS (l := [(182, math_Sqrt_en)]) (⟨math_Sqrt_so, trivial⟩)) Try.func177 (by kernel_rfl) rfl (fun x y h => (impl_root_eq x).trans h)

-- loop.example/g01204/impl.square
noncomputable def impl_square (a0 : (Vec 2 Nat)) (a1 : (Vec 2 Nat)) : Option ((Nat × Unit) × Unit) :=
  let x2629 := fSub .f32 (Vec.getD 2 a1 0 (0 : Nat)) (Vec.getD 2 a0 0 (0 : Nat))
  let x2632 := fSub .f32 (Vec.getD 2 a1 1 (0 : Nat)) (Vec.getD 2 a0 1 (0 : Nat))
  some (((fAdd .f32 (fMul .f32 x2629 x2629) (fMul .f32 x2632 x2632)), ()), ())
noncomputable def impl_square_sg : Sig := ⟨[.v (.arr 2 (.flt .f32)), .v (.arr 2 (.flt .f32))], [.v (.val (.flt .f32))], false⟩
noncomputable def impl_square_en : Entry := ⟨impl_square_sg, fun x => impl_square x.1 x.2.1⟩
theorem impl_square_eq (x : impl_square_sg.dom) : body (env []) [] Try.f176 impl_square_sg x = impl_square x.1 x.2.1 := by kernel_rfl
theorem impl_square_so : Sound Try.prog 176 impl_square_en := sound_of_body (envS (l := []) (trivial)) Try.func176 (by kernel_rfl) rfl (fun x y h => (impl_square_eq x).trans h)

-- loop.example/g01204/impl.aheadOnWay
noncomputable def impl_aheadOnWay_l9 (a0 : (List (Vec 2 Nat))) (s2595 : (Nat × Int × Unit)) : Option ((Nat × Int × Unit) ⊕ (((Vec 2 Nat) × Unit) × Unit)) :=
  bif (iLt (iAdd .i64 s2595.2.1 1) (lenI a0)) then
    bif inB s2595.2.1 (List.length a0) then
      let x2598 := List.getD a0 s2595.2.1.toNat ((0, 0, ()) : (Vec 2 Nat))
      let x2599 := iAdd .i64 s2595.2.1 1
      bif inB x2599 (List.length a0) then
        let x2600 := List.getD a0 x2599.toNat ((0, 0, ()) : (Vec 2 Nat))
        (impl_square x2598 x2600).bind fun y2601 =>
        (impl_root y2601.1.1).bind fun y2602 =>
        bif (fEq .f32 y2602.1.1 0) then
          some (Sum.inl (s2595.1, (iAdd .i64 s2595.2.1 1), ()))
        else
        bif (fLe .f32 s2595.1 y2602.1.1) then
          let x2606 := fDiv .f32 s2595.1 y2602.1.1
          let x2612 := fAdd .f32 (Vec.getD 2 x2598 0 (0 : Nat)) (fMul .f32 (fSub .f32 (Vec.getD 2 x2600 0 (0 : Nat)) (Vec.getD 2 x2598 0 (0 : Nat))) x2606)
          Option.map Sum.inr (some (((Vec.set 2 (Vec.set 2 x2598 0 x2612) 1 (fAdd .f32 (Vec.getD 2 (Vec.set 2 x2598 0 x2612) 1 (0 : Nat)) (fMul .f32 (fSub .f32 (Vec.getD 2 x2600 1 (0 : Nat)) (Vec.getD 2 (Vec.set 2 x2598 0 x2612) 1 (0 : Nat))) x2606))), ()), ()))
        else
        some (Sum.inl ((fSub .f32 s2595.1 y2602.1.1), (iAdd .i64 s2595.2.1 1), ()))
      else none
    else none
  else
  Option.map Sum.inr (
    let x2622 := iSub .i64 (lenI a0) 1
    bif inB x2622 (List.length a0) then
      some (((List.getD a0 x2622.toNat ((0, 0, ()) : (Vec 2 Nat))), ()), ())
    else none)
noncomputable def impl_aheadOnWay_l3 (a0 : (List (Vec 2 Nat))) (a1 : (Vec 2 Nat)) (a2 : Nat) (s2586 : (Int × Int × Unit)) : Option ((Int × Int × Unit) ⊕ (((Vec 2 Nat) × Unit) × Unit)) :=
  bif (iLt s2586.2.1 (lenI a0)) then
    bif inB s2586.2.1 (List.length a0) then
      (impl_square (List.getD a0 s2586.2.1.toNat ((0, 0, ()) : (Vec 2 Nat))) a1).bind fun y2589 =>
      bif inB s2586.1 (List.length a0) then
        (impl_square (List.getD a0 s2586.1.toNat ((0, 0, ()) : (Vec 2 Nat))) a1).bind fun y2591 =>
        bif (fLt .f32 y2589.1.1 y2591.1.1) then
          some (Sum.inl (s2586.2.1, (iAdd .i64 s2586.2.1 1), ()))
        else
        some (Sum.inl (s2586.1, (iAdd .i64 s2586.2.1 1), ()))
      else none
    else none
  else
  Option.map Sum.inr (run (impl_aheadOnWay_l9 a0) (a2, s2586.1, ()))
noncomputable def impl_aheadOnWay (a0 : (List (Vec 2 Nat))) (a1 : (Vec 2 Nat)) (a2 : Nat) : Option (((Vec 2 Nat) × Unit) × Unit) :=
  run (impl_aheadOnWay_l3 a0 a1 a2) ((0 : Int), (0 : Int), ())
noncomputable def impl_aheadOnWay_sg : Sig := ⟨[.v (.list (.arr 2 (.flt .f32))), .v (.arr 2 (.flt .f32)), .v (.flt .f32)], [.v (.val (.arr 2 (.flt .f32)))], false⟩
noncomputable def impl_aheadOnWay_en : Entry := ⟨impl_aheadOnWay_sg, fun x => impl_aheadOnWay x.1 x.2.1 x.2.2.1⟩
theorem impl_aheadOnWay_eq (x : impl_aheadOnWay_sg.dom) : body (env [(176, impl_square_en), (177, impl_root_en)]) [(3, .vary [(7, .sc (.int .i64)), (18, .sc (.int .i64))]), (9, .vary [(2, .sc (.flt .f32)), (10, .sc (.int .i64))]), (18, .unroll 3)] Try.f127 impl_aheadOnWay_sg x = impl_aheadOnWay x.1 x.2.1 x.2.2.1 := by kernel_rfl
theorem impl_aheadOnWay_so : Sound Try.prog 127 impl_aheadOnWay_en := sound_of_body (envS (l := [(176, impl_square_en), (177, impl_root_en)]) (⟨impl_square_so, impl_root_so, trivial⟩)) Try.func127 (by kernel_rfl) rfl (fun x y h => (impl_aheadOnWay_eq x).trans h)

-- loop.example/g01204/impl.isLeast$1
noncomputable def impl_isLeast_1 (a0 : Nat) : Option ((Bool × Unit) × Unit) :=
  some (((fLt .f32 a0 0), ()), ())
noncomputable def impl_isLeast_1_sg : Sig := ⟨[.v (.flt .f32)], [.v (.val (.bool))], false⟩
noncomputable def impl_isLeast_1_en : Entry := ⟨impl_isLeast_1_sg, fun x => impl_isLeast_1 x.1⟩
theorem impl_isLeast_1_eq (x : impl_isLeast_1_sg.dom) : body (env []) [] Try.f175 impl_isLeast_1_sg x = impl_isLeast_1 x.1 := by kernel_rfl
theorem impl_isLeast_1_so : Sound Try.prog 175 impl_isLeast_1_en := sound_of_body (envS (l := []) (trivial)) Try.func175 (by kernel_rfl) rfl (fun x y h => (impl_isLeast_1_eq x).trans h)

-- slices.IndexFunc[[]float32,float32]
noncomputable def slices_IndexFunc_float32_l2 (a0 : (List Nat)) (a1 : ((Nat × Unit) → Option Bool)) (s2643 : (Int × Unit)) : Option ((Int × Unit) ⊕ ((Int × Unit) × Unit)) :=
  bif (iLt s2643.1 (lenI a0)) then
    bif inB s2643.1 (List.length a0) then
      (a1 ((List.getD a0 s2643.1.toNat (0 : Nat)), ())).bind fun y2646 =>
      bif y2646 then
        Option.map Sum.inr (some ((s2643.1, ()), ()))
      else
      some (Sum.inl ((iAdd .i64 s2643.1 1), ()))
    else none
  else
  Option.map Sum.inr (some ((((-1 : Int) : Int), ()), ()))
noncomputable def slices_IndexFunc_float32 (a0 : (List Nat)) (a1 : ((Nat × Unit) → Option Bool)) : Option ((Int × Unit) × Unit) :=
  run (slices_IndexFunc_float32_l2 a0 a1) ((0 : Int), ())
noncomputable def slices_IndexFunc_float32_sg : Sig := ⟨[.v (.list (.flt .f32)), .fn ⟨[.flt .f32], .bool⟩], [.v (.val (.int .i64))], false⟩
noncomputable def slices_IndexFunc_float32_en : Entry := ⟨slices_IndexFunc_float32_sg, fun x => slices_IndexFunc_float32 x.1 x.2.1⟩
theorem slices_IndexFunc_float32_eq (x : slices_IndexFunc_float32_sg.dom) : body (env []) [(2, .vary [(8, .sc (.int .i64))])] Try.f209 slices_IndexFunc_float32_sg x = slices_IndexFunc_float32 x.1 x.2.1 := by kernel_rfl
theorem slices_IndexFunc_float32_so : Sound Try.prog 209 slices_IndexFunc_float32_en := sound_of_body (envS (l := []) (trivial)) Try.func209 (by kernel_rfl) rfl (fun x y h => (slices_IndexFunc_float32_eq x).trans h)

-- slices.ContainsFunc[[]float32,float32]
noncomputable def slices_ContainsFunc_float32 (a0 : (List Nat)) (a1 : ((Nat × Unit) → Option Bool)) : Option ((Bool × Unit) × Unit) :=
  (slices_IndexFunc_float32 a0 a1).bind fun y2641 =>
  some (((iLe 0 y2641.1.1), ()), ())
noncomputable def slices_ContainsFunc_float32_sg : Sig := ⟨[.v (.list (.flt .f32)), .fn ⟨[.flt .f32], .bool⟩], [.v (.val (.bool))], false⟩
noncomputable def slices_ContainsFunc_float32_en : Entry := ⟨slices_ContainsFunc_float32_sg, fun x => slices_ContainsFunc_float32 x.1 x.2.1⟩
theorem slices_ContainsFunc_float32_eq (x : slices_ContainsFunc_float32_sg.dom) : body (env [(209, slices_IndexFunc_float32_en)]) [] Try.f174 slices_ContainsFunc_float32_sg x = slices_ContainsFunc_float32 x.1 x.2.1 := by kernel_rfl
theorem slices_ContainsFunc_float32_so : Sound Try.prog 174 slices_ContainsFunc_float32_en := sound_of_body (envS (l := [(209, slices_IndexFunc_float32_en)]) (⟨slices_IndexFunc_float32_so, trivial⟩)) Try.func174 (by kernel_rfl) rfl (fun x y h => (slices_ContainsFunc_float32_eq x).trans h)

-- loop.example/g01204/impl.isLeast
noncomputable def impl_isLeast (a0 : (List Nat)) : Option ((Bool × Unit) × Unit) :=
  (impl_isFinite a0).bind fun y2636 =>
  bif y2636.1.1 then
    (slices_ContainsFunc_float32 a0 (fun (z2637 : (Nat × Unit)) => (impl_isLeast_1 z2637.1).map fun y => y.1.1)).bind fun y2638 =>
    some (((! y2638.1.1), ()), ())
  else some ((false, ()), ())
noncomputable def impl_isLeast_sg : Sig := ⟨[.v (.list (.flt .f32))], [.v (.val (.bool))], false⟩
noncomputable def impl_isLeast_en : Entry := ⟨impl_isLeast_sg, fun x => impl_isLeast x.1⟩
theorem impl_isLeast_eq (x : impl_isLeast_sg.dom) : body (env [(111, impl_isFinite_en), (174, slices_ContainsFunc_float32_en), (175, impl_isLeast_1_en)]) [] Try.f125 impl_isLeast_sg x = impl_isLeast x.1 := by kernel_rfl
theorem impl_isLeast_so : Sound Try.prog 125 impl_isLeast_en := sound_of_body (envS (l := [(111, impl_isFinite_en), (174, slices_ContainsFunc_float32_en), (175, impl_isLeast_1_en)]) (⟨impl_isFinite_so, slices_ContainsFunc_float32_so, impl_isLeast_1_so, trivial⟩)) Try.func125 (by kernel_rfl) rfl (fun x y h => (impl_isLeast_eq x).trans h)

-- loop.example/g01204/impl.isWay$1
noncomputable def impl_isWay_1 (a0 : (Vec 2 Nat)) : Option ((Bool × Unit) × Unit) :=
  (impl_isFinite ([Vec.getD 2 a0 0 (0 : Nat), Vec.getD 2 a0 1 (0 : Nat)] : (List Nat))).bind fun y2652 =>
  some (((! y2652.1.1), ()), ())
noncomputable def impl_isWay_1_sg : Sig := ⟨[.v (.arr 2 (.flt .f32))], [.v (.val (.bool))], false⟩
noncomputable def impl_isWay_1_en : Entry := ⟨impl_isWay_1_sg, fun x => impl_isWay_1 x.1⟩
theorem impl_isWay_1_eq (x : impl_isWay_1_sg.dom) : body (env [(111, impl_isFinite_en)]) [] Try.f173 impl_isWay_1_sg x = impl_isWay_1 x.1 := by kernel_rfl
theorem impl_isWay_1_so : Sound Try.prog 173 impl_isWay_1_en := sound_of_body (envS (l := [(111, impl_isFinite_en)]) (⟨impl_isFinite_so, trivial⟩)) Try.func173 (by kernel_rfl) rfl (fun x y h => (impl_isWay_1_eq x).trans h)

-- slices.IndexFunc[[][2]float32,[2]float32]
noncomputable def slices_IndexFunc_A2float32_l2 (a0 : (List (Vec 2 Nat))) (a1 : (((Vec 2 Nat) × Unit) → Option Bool)) (s2656 : (Int × Unit)) : Option ((Int × Unit) ⊕ ((Int × Unit) × Unit)) :=
  bif (iLt s2656.1 (lenI a0)) then
    bif inB s2656.1 (List.length a0) then
      (a1 ((List.getD a0 s2656.1.toNat ((0, 0, ()) : (Vec 2 Nat))), ())).bind fun y2659 =>
      bif y2659 then
        Option.map Sum.inr (some ((s2656.1, ()), ()))
      else
      some (Sum.inl ((iAdd .i64 s2656.1 1), ()))
    else none
  else
  Option.map Sum.inr (some ((((-1 : Int) : Int), ()), ()))
noncomputable def slices_IndexFunc_A2float32 (a0 : (List (Vec 2 Nat))) (a1 : (((Vec 2 Nat) × Unit) → Option Bool)) : Option ((Int × Unit) × Unit) :=
  run (slices_IndexFunc_A2float32_l2 a0 a1) ((0 : Int), ())
noncomputable def slices_IndexFunc_A2float32_sg : Sig := ⟨[.v (.list (.arr 2 (.flt .f32))), .fn ⟨[.arr 2 (.flt .f32)], .bool⟩], [.v (.val (.int .i64))], false⟩
noncomputable def slices_IndexFunc_A2float32_en : Entry := ⟨slices_IndexFunc_A2float32_sg, fun x => slices_IndexFunc_A2float32 x.1 x.2.1⟩
theorem slices_IndexFunc_A2float32_eq (x : slices_IndexFunc_A2float32_sg.dom) : body (env []) [(2, .vary [(8, .sc (.int .i64))])] Try.f208 slices_IndexFunc_A2float32_sg x = slices_IndexFunc_A2float32 x.1 x.2.1 := by kernel_rfl
theorem slices_IndexFunc_A2float32_so : Sound Try.prog 208 slices_IndexFunc_A2float32_en := sound_of_body (envS (l := []) (trivial)) Try.func208 (by kernel_rfl) rfl (fun x y h => (slices_IndexFunc_A2float32_eq x).trans h)

-- slices.ContainsFunc[[][2]float32,[2]float32]
noncomputable def slices_ContainsFunc_A2float32 (a0 : (List (Vec 2 Nat))) (a1 : (((Vec 2 Nat) × Unit) → Option Bool)) : Option ((Bool × Unit) × Unit) :=
  (slices_IndexFunc_A2float32 a0 a1).bind fun y2654 =>
  some (((iLe 0 y2654.1.1), ()), ())
noncomputable def slices_ContainsFunc_A2float32_sg : Sig := ⟨[.v (.list (.arr 2 (.flt .f32))), .fn ⟨[.arr 2 (.flt .f32)], .bool⟩], [.v (.val (.bool))], false⟩
noncomputable def slices_ContainsFunc_A2float32_en : Entry := ⟨slices_ContainsFunc_A2float32_sg, fun x => slices_ContainsFunc_A2float32 x.1 x.2.1⟩
theorem slices_ContainsFunc_A2float32_eq (x : slices_ContainsFunc_A2float32_sg.dom) : body (env [(208, slices_IndexFunc_A2float32_en)]) [] Try.f172 slices_ContainsFunc_A2float32_sg x = slices_ContainsFunc_A2float32 x.1 x.2.1 := by kernel_rfl
theorem slices_ContainsFunc_A2float32_so : Sound Try.prog 172 slices_ContainsFunc_A2float32_en := sound_of_body (envS (l := [(208, slices_IndexFunc_A2float32_en)]) (⟨slices_IndexFunc_A2float32_so, trivial⟩)) Try.func172 (by kernel_rfl) rfl (fun x y h => (slices_ContainsFunc_A2float32_eq x).trans h)

-- loop.example/g01204/impl.isWay
noncomputable def impl_isWay (a0 : (List (Vec 2 Nat))) : Option ((Bool × Unit) × Unit) :=
  (impl_within (lenI a0) (1 : Int) (600 : Int)).bind fun y2648 =>
  bif y2648.1.1 then
    (slices_ContainsFunc_A2float32 a0 (fun (z2649 : ((Vec 2 Nat) × Unit)) => (impl_isWay_1 z2649.1).map fun y => y.1.1)).bind fun y2650 =>
    some (((! y2650.1.1), ()), ())
  else some ((false, ()), ())
noncomputable def impl_isWay_sg : Sig := ⟨[.v (.list (.arr 2 (.flt .f32)))], [.v (.val (.bool))], false⟩
noncomputable def impl_isWay_en : Entry := ⟨impl_isWay_sg, fun x => impl_isWay x.1⟩
theorem impl_isWay_eq (x : impl_isWay_sg.dom) : body (env [(99, impl_within_en), (172, slices_ContainsFunc_A2float32_en), (173, impl_isWay_1_en)]) [] Try.f124 impl_isWay_sg x = impl_isWay x.1 := by kernel_rfl
theorem impl_isWay_so : Sound Try.prog 124 impl_isWay_en := sound_of_body (envS (l := [(99, impl_within_en), (172, slices_ContainsFunc_A2float32_en), (173, impl_isWay_1_en)]) (⟨impl_within_so, slices_ContainsFunc_A2float32_so, impl_isWay_1_so, trivial⟩)) Try.func124 (by kernel_rfl) rfl (fun x y h => (impl_isWay_eq x).trans h)

-- loop.example/g01204/impl.FollowWay
noncomputable def impl_FollowWay (a0 : (List (Vec 2 Nat))) (a1 : (Vec 3 Nat)) (a2 : Nat) (a3 : Nat) : Option (((Vec 3 Nat) × Int × Unit) × Unit) :=
  (impl_isWay a0).bind fun y2208 =>
  bif (! y2208.1.1) then some ((((0, 0, 0, ()) : (Vec 3 Nat)), (2 : Int), ()), ()) else
  (impl_isLeast ([a2] : (List Nat))).bind fun y2210 =>
  bif (! y2210.1.1) then some ((((0, 0, 0, ()) : (Vec 3 Nat)), (2 : Int), ()), ()) else
  (impl_IsFinitePose a1).bind fun y2212 =>
  bif (! y2212.1.1) then some ((((0, 0, 0, ()) : (Vec 3 Nat)), (2 : Int), ()), ()) else
  (impl_isFinite ([a3] : (List Nat))).bind fun y2214 =>
  bif (! y2214.1.1) then some ((((0, 0, 0, ()) : (Vec 3 Nat)), (2 : Int), ()), ()) else
  (impl_aheadOnWay a0 (((Vec.getD 3 a1 0 (0 : Nat)), (Vec.getD 3 a1 1 (0 : Nat)), ()) : (Vec 2 Nat)) a2).bind fun y2218 =>
  let x2221 := fSub .f32 (Vec.getD 2 y2218.1.1 0 (0 : Nat)) (Vec.getD 3 a1 0 (0 : Nat))
  let x2224 := fSub .f32 (Vec.getD 2 y2218.1.1 1 (0 : Nat)) (Vec.getD 3 a1 1 (0 : Nat))
  bif (! (fEq .f32 x2221 0)) then
    (impl_AngleOf x2224 x2221).bind fun y2226 =>
    (impl_WrapAngle (fSub .f32 y2226.1.1 (Vec.getD 3 a1 2 (0 : Nat)))).bind fun y2229 =>
    (impl_WrapAngle (fAdd .f32 (Vec.getD 3 a1 2 (0 : Nat)) (fMin .f32 1056964608 (fMax .f32 3204448256 y2229.1.1)))).bind fun y2234 =>
    (impl_ComposePoses (Vec.set 3 a1 2 y2234.1.1) ((a3, 0, 0, ()) : (Vec 3 Nat))).bind fun y2236 =>
    some ((y2236.1.1, (0 : Int), ()), ())
  else
  bif (! (fEq .f32 x2224 0)) then
    (impl_AngleOf x2224 x2221).bind fun y2238 =>
    (impl_WrapAngle (fSub .f32 y2238.1.1 (Vec.getD 3 a1 2 (0 : Nat)))).bind fun y2241 =>
    (impl_WrapAngle (fAdd .f32 (Vec.getD 3 a1 2 (0 : Nat)) (fMin .f32 1056964608 (fMax .f32 3204448256 y2241.1.1)))).bind fun y2246 =>
    (impl_ComposePoses (Vec.set 3 a1 2 y2246.1.1) ((a3, 0, 0, ()) : (Vec 3 Nat))).bind fun y2248 =>
    some ((y2248.1.1, (0 : Int), ()), ())
  else
  (impl_ComposePoses a1 ((a3, 0, 0, ()) : (Vec 3 Nat))).bind fun y2249 =>
  some ((y2249.1.1, (0 : Int), ()), ())
noncomputable def impl_FollowWay_sg : Sig := ⟨[.v (.list (.arr 2 (.flt .f32))), .v (.arr 3 (.flt .f32)), .v (.flt .f32), .v (.flt .f32)], [.v (.val (.arr 3 (.flt .f32))), .v (.val (.int .i64))], false⟩
noncomputable def impl_FollowWay_en : Entry := ⟨impl_FollowWay_sg, fun x => impl_FollowWay x.1 x.2.1 x.2.2.1 x.2.2.2.1⟩
theorem impl_FollowWay_eq (x : impl_FollowWay_sg.dom) : body (env [(111, impl_isFinite_en), (124, impl_isWay_en), (125, impl_isLeast_en), (126, impl_IsFinitePose_en), (127, impl_aheadOnWay_en), (128, impl_WrapAngle_en), (129, impl_AngleOf_en), (130, impl_ComposePoses_en)]) [] Try.f58 impl_FollowWay_sg x = impl_FollowWay x.1 x.2.1 x.2.2.1 x.2.2.2.1 := by kernel_rfl
theorem impl_FollowWay_so : Sound Try.prog 58 impl_FollowWay_en := sound_of_body (envS (l := [(111, impl_isFinite_en), (124, impl_isWay_en), (125, impl_isLeast_en), (126, impl_IsFinitePose_en), (127, impl_aheadOnWay_en), (128, impl_WrapAngle_en), (129, impl_AngleOf_en), (130, impl_ComposePoses_en)]) (⟨impl_isFinite_so, impl_isWay_so, impl_isLeast_so, impl_IsFinitePose_so, impl_aheadOnWay_so, impl_WrapAngle_so, impl_AngleOf_so, impl_ComposePoses_so, trivial⟩)) Try.func58 (by kernel_rfl) rfl (fun x y h => (impl_FollowWay_eq x).trans h)

-- loop.example/g01204/laws.eqFloat32A2
noncomputable def laws_eqFloat32A2 (a0 : (Vec 2 Nat)) (a1 : (Vec 2 Nat)) : Option ((Bool × Unit) × Unit) :=
  (fConv .f32 .f64 (Vec.getD 2 a0 0 (0 : Nat))).bind fun y2670 =>
  (fConv .f32 .f64 (Vec.getD 2 a1 0 (0 : Nat))).bind fun y2672 =>
  (laws_sameFloat y2670 y2672).bind fun y2673 =>
  bif (! y2673.1.1) then some ((false, ()), ()) else
  (fConv .f32 .f64 (Vec.getD 2 a0 1 (0 : Nat))).bind fun y2676 =>
  (fConv .f32 .f64 (Vec.getD 2 a1 1 (0 : Nat))).bind fun y2678 =>
  (laws_sameFloat y2676 y2678).bind fun y2679 =>
  bif (! y2679.1.1) then some ((false, ()), ()) else some ((true, ()), ())
noncomputable def laws_eqFloat32A2_sg : Sig := ⟨[.v (.arr 2 (.flt .f32)), .v (.arr 2 (.flt .f32))], [.v (.val (.bool))], false⟩
noncomputable def laws_eqFloat32A2_en : Entry := ⟨laws_eqFloat32A2_sg, fun x => laws_eqFloat32A2 x.1 x.2.1⟩
theorem laws_eqFloat32A2_eq (x : laws_eqFloat32A2_sg.dom) : body (env [(113, laws_sameFloat_en)]) [(2, .unroll 3)] Try.f131 laws_eqFloat32A2_sg x = laws_eqFloat32A2 x.1 x.2.1 := by kernel_rfl
theorem laws_eqFloat32A2_so : Sound Try.prog 131 laws_eqFloat32A2_en := sound_of_body (envS (l := [(113, laws_sameFloat_en)]) (⟨laws_sameFloat_so, trivial⟩)) Try.func131 (by kernel_rfl) rfl (fun x y h => (laws_eqFloat32A2_eq x).trans h)

-- loop.example/g01204/laws.eqFloat32A2S
noncomputable def laws_eqFloat32A2S_l4 (a0 : (List (Vec 2 Nat))) (a1 : (List (Vec 2 Nat))) (s2662 : (Int × Unit)) : Option ((Int × Unit) ⊕ ((Bool × Unit) × Unit)) :=
  bif (iLt s2662.1 (lenI a0)) then
    bif inB s2662.1 (List.length a0) then
      bif inB s2662.1 (List.length a1) then
        (laws_eqFloat32A2 (List.getD a0 s2662.1.toNat ((0, 0, ()) : (Vec 2 Nat))) (List.getD a1 s2662.1.toNat ((0, 0, ()) : (Vec 2 Nat)))).bind fun y2666 =>
        bif (! y2666.1.1) then
          Option.map Sum.inr (some ((false, ()), ()))
        else
        some (Sum.inl ((iAdd .i64 s2662.1 1), ()))
      else none
    else none
  else
  Option.map Sum.inr (some ((true, ()), ()))
noncomputable def laws_eqFloat32A2S (a0 : (List (Vec 2 Nat))) (a1 : (List (Vec 2 Nat))) : Option ((Bool × Unit) × Unit) :=
  bif (! (iEq (lenI a0) (lenI a1))) then some ((false, ()), ()) else run (laws_eqFloat32A2S_l4 a0 a1) ((0 : Int), ())
noncomputable def laws_eqFloat32A2S_sg : Sig := ⟨[.v (.list (.arr 2 (.flt .f32))), .v (.list (.arr 2 (.flt .f32)))], [.v (.val (.bool))], false⟩
noncomputable def laws_eqFloat32A2S_en : Entry := ⟨laws_eqFloat32A2S_sg, fun x => laws_eqFloat32A2S x.1 x.2.1⟩
theorem laws_eqFloat32A2S_eq (x : laws_eqFloat32A2S_sg.dom) : body (env [(131, laws_eqFloat32A2_en)]) [(4, .vary [(5, .sc (.int .i64))])] Try.f60 laws_eqFloat32A2S_sg x = laws_eqFloat32A2S x.1 x.2.1 := by kernel_rfl
theorem laws_eqFloat32A2S_so : Sound Try.prog 60 laws_eqFloat32A2S_en := sound_of_body (envS (l := [(131, laws_eqFloat32A2_en)]) (⟨laws_eqFloat32A2_so, trivial⟩)) Try.func60 (by kernel_rfl) rfl (fun x y h => (laws_eqFloat32A2S_eq x).trans h)

-- loop.example/g01204/laws.eqPose
noncomputable def laws_eqPose (a0 : (Vec 3 Nat)) (a1 : (Vec 3 Nat)) : Option ((Bool × Unit) × Unit) :=
  (fConv .f32 .f64 (Vec.getD 3 a0 0 (0 : Nat))).bind fun y2682 =>
  (fConv .f32 .f64 (Vec.getD 3 a1 0 (0 : Nat))).bind fun y2684 =>
  (laws_sameFloat y2682 y2684).bind fun y2685 =>
  bif (! y2685.1.1) then some ((false, ()), ()) else
  (fConv .f32 .f64 (Vec.getD 3 a0 1 (0 : Nat))).bind fun y2688 =>
  (fConv .f32 .f64 (Vec.getD 3 a1 1 (0 : Nat))).bind fun y2690 =>
  (laws_sameFloat y2688 y2690).bind fun y2691 =>
  bif (! y2691.1.1) then some ((false, ()), ()) else
  (fConv .f32 .f64 (Vec.getD 3 a0 2 (0 : Nat))).bind fun y2694 =>
  (fConv .f32 .f64 (Vec.getD 3 a1 2 (0 : Nat))).bind fun y2696 =>
  (laws_sameFloat y2694 y2696).bind fun y2697 =>
  bif (! y2697.1.1) then some ((false, ()), ()) else some ((true, ()), ())
noncomputable def laws_eqPose_sg : Sig := ⟨[.v (.arr 3 (.flt .f32)), .v (.arr 3 (.flt .f32))], [.v (.val (.bool))], false⟩
noncomputable def laws_eqPose_en : Entry := ⟨laws_eqPose_sg, fun x => laws_eqPose x.1 x.2.1⟩
theorem laws_eqPose_eq (x : laws_eqPose_sg.dom) : body (env [(113, laws_sameFloat_en)]) [(2, .unroll 4)] Try.f59 laws_eqPose_sg x = laws_eqPose x.1 x.2.1 := by kernel_rfl
theorem laws_eqPose_so : Sound Try.prog 59 laws_eqPose_en := sound_of_body (envS (l := [(113, laws_sameFloat_en)]) (⟨laws_sameFloat_so, trivial⟩)) Try.func59 (by kernel_rfl) rfl (fun x y h => (laws_eqPose_eq x).trans h)

-- loop.example/g01204/laws.szFloat32A2S
noncomputable def laws_szFloat32A2S (a0 : (List (Vec 2 Nat))) (a1 : Int) : Option ((Int × Unit) × Unit) :=
  let x2699 := iSub .i64 a1 (lenI a0)
  bif (iLt x2699 0) then some ((((-1 : Int) : Int), ()), ()) else some ((x2699, ()), ())
noncomputable def laws_szFloat32A2S_sg : Sig := ⟨[.v (.list (.arr 2 (.flt .f32))), .v (.int .i64)], [.v (.val (.int .i64))], false⟩
noncomputable def laws_szFloat32A2S_en : Entry := ⟨laws_szFloat32A2S_sg, fun x => laws_szFloat32A2S x.1 x.2.1⟩
theorem laws_szFloat32A2S_eq (x : laws_szFloat32A2S_sg.dom) : body (env []) [] Try.f54 laws_szFloat32A2S_sg x = laws_szFloat32A2S x.1 x.2.1 := by kernel_rfl
theorem laws_szFloat32A2S_so : Sound Try.prog 54 laws_szFloat32A2S_en := sound_of_body (envS (l := []) (trivial)) Try.func54 (by kernel_rfl) rfl (fun x y h => (laws_szFloat32A2S_eq x).trans h)

-- loop.example/g01204/laws.toFloat32A2S
noncomputable def laws_toFloat32A2S_l3 (a0 : (List (Vec 2 Nat))) (s2707 : (Int × (List (Vec 2 Nat)) × Unit)) : Option ((Int × (List (Vec 2 Nat)) × Unit) ⊕ (((List (Vec 2 Nat)) × Unit) × Unit)) :=
  bif (iLt s2707.1 (lenI a0)) then
    bif inB s2707.1 (List.length a0) then
      (laws_toFloat32A2 (List.getD a0 s2707.1.toNat ((0, 0, ()) : (Vec 2 Nat)))).bind fun y2710 =>
      bif inB s2707.1 (List.length s2707.2.1) then
        some (Sum.inl ((iAdd .i64 s2707.1 1), (List.set s2707.2.1 s2707.1.toNat y2710.1.1), ()))
      else none
    else none
  else
  Option.map Sum.inr (some ((s2707.2.1, ()), ()))
noncomputable def laws_toFloat32A2S (a0 : (List (Vec 2 Nat))) : Option (((List (Vec 2 Nat)) × Unit) × Unit) :=
  bif (iLe 0 (lenI a0) && iLe (lenI a0) (lenI a0) && room (lenI a0).toNat 8) then run (laws_toFloat32A2S_l3 a0) ((0 : Int), List.replicate (lenI a0).toNat ((0, 0, ()) : (Vec 2 Nat)), ()) else none
noncomputable def laws_toFloat32A2S_sg : Sig := ⟨[.v (.list (.arr 2 (.flt .f32)))], [.v (.rows (.arr 2 (.flt .f32)))], false⟩
noncomputable def laws_toFloat32A2S_en : Entry := ⟨laws_toFloat32A2S_sg, fun x => laws_toFloat32A2S x.1⟩
theorem laws_toFloat32A2S_eq (x : laws_toFloat32A2S_sg.dom) : body (env [(49, laws_toFloat32A2_en)]) [(3, .vary [(4, .sc (.int .i64)), (3, .mrows (.arr 2 (.flt .f32)))])] Try.f56 laws_toFloat32A2S_sg x = laws_toFloat32A2S x.1 := by kernel_rfl
theorem laws_toFloat32A2S_so : Sound Try.prog 56 laws_toFloat32A2S_en := sound_of_body (envS (l := [(49, laws_toFloat32A2_en)]) (⟨laws_toFloat32A2_so, trivial⟩)) Try.func56 (by kernel_rfl) rfl (fun x y h => (laws_toFloat32A2S_eq x).trans h)

-- loop.example/g01204/laws.toPose
noncomputable def laws_toPose (a0 : (Vec 3 Nat)) : Option (((Vec 3 Nat) × Unit) × Unit) :=
  some (((((Vec.getD 3 a0 0 (0 : Nat)), (Vec.getD 3 a0 1 (0 : Nat)), (Vec.getD 3 a0 2 (0 : Nat)), ()) : (Vec 3 Nat)), ()), ())
noncomputable def laws_toPose_sg : Sig := ⟨[.v (.arr 3 (.flt .f32))], [.v (.val (.arr 3 (.flt .f32)))], false⟩
noncomputable def laws_toPose_en : Entry := ⟨laws_toPose_sg, fun x => laws_toPose x.1⟩
theorem laws_toPose_eq (x : laws_toPose_sg.dom) : body (env []) [(3, .unroll 4)] Try.f57 laws_toPose_sg x = laws_toPose x.1 := by kernel_rfl
theorem laws_toPose_so : Sound Try.prog 57 laws_toPose_en := sound_of_body (envS (l := []) (trivial)) Try.func57 (by kernel_rfl) rfl (fun x y h => (laws_toPose_eq x).trans h)

-- loop.example/g01204/spec.l02Angle
noncomputable def spec_l02Angle_l18 (x2830 : Nat) (x2829 : Nat) (x2812 : Bool) (a1 : Nat) (a0 : Nat) (s2831 : (Nat × Int × Unit)) : Option ((Nat × Int × Unit) ⊕ ((Nat × Unit) × Unit)) :=
  bif (iLe 0 s2831.2.1) then
    some (Sum.inl ((fSub .f64 (fDiv .f64 4607182418800017408 (fOfInt .f64 (iAdd .i64 (iMul .i64 2 s2831.2.1) 1))) (fMul .f64 x2830 s2831.1)), (iSub .i64 s2831.2.1 1), ()))
  else
  Option.map Sum.inr (
    let x2841 := fMul .f64 (fMul .f64 4620693217682128896 x2829) s2831.1
    bif x2812 then
      let x2842 := fSub .f64 4609753056924675352 x2841
      bif (fLt .f32 a1 0) then
        let x2844 := fSub .f64 4614256656552045848 x2842
        bif (fLt .f32 a0 0) then
          (fConv .f64 .f32 (fNeg .f64 x2844)).bind fun y2847 =>
          some ((y2847, ()), ())
        else
        (fConv .f64 .f32 x2844).bind fun y2848 =>
        some ((y2848, ()), ())
      else
      bif (fLt .f32 a0 0) then
        (fConv .f64 .f32 (fNeg .f64 x2842)).bind fun y2851 =>
        some ((y2851, ()), ())
      else
      (fConv .f64 .f32 x2842).bind fun y2852 =>
      some ((y2852, ()), ())
    else
    bif (fLt .f32 a1 0) then
      let x2854 := fSub .f64 4614256656552045848 x2841
      bif (fLt .f32 a0 0) then
        (fConv .f64 .f32 (fNeg .f64 x2854)).bind fun y2857 =>
        some ((y2857, ()), ())
      else
      (fConv .f64 .f32 x2854).bind fun y2858 =>
      some ((y2858, ()), ())
    else
    bif (fLt .f32 a0 0) then
      (fConv .f64 .f32 (fNeg .f64 x2841)).bind fun y2861 =>
      some ((y2861, ()), ())
    else
    (fConv .f64 .f32 x2841).bind fun y2862 =>
    some ((y2862, ()), ()))
noncomputable def spec_l02Angle_l18_2 (x2880 : Nat) (x2879 : Nat) (x2812 : Bool) (a1 : Nat) (a0 : Nat) (s2881 : (Nat × Int × Unit)) : Option ((Nat × Int × Unit) ⊕ ((Nat × Unit) × Unit)) :=
  bif (iLe 0 s2881.2.1) then
    some (Sum.inl ((fSub .f64 (fDiv .f64 4607182418800017408 (fOfInt .f64 (iAdd .i64 (iMul .i64 2 s2881.2.1) 1))) (fMul .f64 x2880 s2881.1)), (iSub .i64 s2881.2.1 1), ()))
  else
  Option.map Sum.inr (
    let x2891 := fMul .f64 (fMul .f64 4620693217682128896 x2879) s2881.1
    bif x2812 then
      let x2892 := fSub .f64 4609753056924675352 x2891
      bif (fLt .f32 a1 0) then
        let x2894 := fSub .f64 4614256656552045848 x2892
        bif (fLt .f32 a0 0) then
          (fConv .f64 .f32 (fNeg .f64 x2894)).bind fun y2897 =>
          some ((y2897, ()), ())
        else
        (fConv .f64 .f32 x2894).bind fun y2898 =>
        some ((y2898, ()), ())
      else
      bif (fLt .f32 a0 0) then
        (fConv .f64 .f32 (fNeg .f64 x2892)).bind fun y2901 =>
        some ((y2901, ()), ())
      else
      (fConv .f64 .f32 x2892).bind fun y2902 =>
      some ((y2902, ()), ())
    else
    bif (fLt .f32 a1 0) then
      let x2904 := fSub .f64 4614256656552045848 x2891
      bif (fLt .f32 a0 0) then
        (fConv .f64 .f32 (fNeg .f64 x2904)).bind fun y2907 =>
        some ((y2907, ()), ())
      else
      (fConv .f64 .f32 x2904).bind fun y2908 =>
      some ((y2908, ()), ())
    else
    bif (fLt .f32 a0 0) then
      (fConv .f64 .f32 (fNeg .f64 x2891)).bind fun y2911 =>
      some ((y2911, ()), ())
    else
    (fConv .f64 .f32 x2891).bind fun y2912 =>
    some ((y2912, ()), ()))
noncomputable def spec_l02Angle (a0 : Nat) (a1 : Nat) : Option ((Nat × Unit) × Unit) :=
  (spec_l01Finite a0).bind fun y2800 =>
  bif (! y2800.1.1) then
    (math_NaN).bind fun y2802 =>
    (fConv .f64 .f32 y2802.1.1).bind fun y2803 =>
    some ((y2803, ()), ())
  else
  (spec_l01Finite a1).bind fun y2804 =>
  bif (! y2804.1.1) then
    (math_NaN).bind fun y2806 =>
    (fConv .f64 .f32 y2806.1.1).bind fun y2807 =>
    some ((y2807, ()), ())
  else
  (fConv .f32 .f64 a0).bind fun y2808 =>
  (math_Abs y2808).bind fun y2809 =>
  (fConv .f32 .f64 a1).bind fun y2810 =>
  (math_Abs y2810).bind fun y2811 =>
  let x2812 := fLt .f64 y2811.1.1 y2809.1.1
  bif x2812 then
    bif (fEq .f64 y2809.1.1 0) then some (((0 : Nat), ()), ()) else
    let x2814 := fDiv .f64 y2811.1.1 y2809.1.1
    (math_Sqrt (fAdd .f64 4607182418800017408 (fMul .f64 x2814 x2814))).bind fun y2817 =>
    let x2819 := fDiv .f64 x2814 (fAdd .f64 4607182418800017408 y2817.1.1)
    (math_Sqrt (fAdd .f64 4607182418800017408 (fMul .f64 x2819 x2819))).bind fun y2822 =>
    let x2824 := fDiv .f64 x2819 (fAdd .f64 4607182418800017408 y2822.1.1)
    (math_Sqrt (fAdd .f64 4607182418800017408 (fMul .f64 x2824 x2824))).bind fun y2827 =>
    let x2829 := fDiv .f64 x2824 (fAdd .f64 4607182418800017408 y2827.1.1)
    let x2830 := fMul .f64 x2829 x2829
    run (spec_l02Angle_l18 x2830 x2829 x2812 a1 a0) ((0 : Nat), (12 : Int), ())
  else
  bif (fEq .f64 y2811.1.1 0) then some (((0 : Nat), ()), ()) else
  let x2864 := fDiv .f64 y2809.1.1 y2811.1.1
  (math_Sqrt (fAdd .f64 4607182418800017408 (fMul .f64 x2864 x2864))).bind fun y2867 =>
  let x2869 := fDiv .f64 x2864 (fAdd .f64 4607182418800017408 y2867.1.1)
  (math_Sqrt (fAdd .f64 4607182418800017408 (fMul .f64 x2869 x2869))).bind fun y2872 =>
  let x2874 := fDiv .f64 x2869 (fAdd .f64 4607182418800017408 y2872.1.1)
  (math_Sqrt (fAdd .f64 4607182418800017408 (fMul .f64 x2874 x2874))).bind fun y2877 =>
  let x2879 := fDiv .f64 x2874 (fAdd .f64 4607182418800017408 y2877.1.1)
  let x2880 := fMul .f64 x2879 x2879
  run (spec_l02Angle_l18_2 x2880 x2879 x2812 a1 a0) ((0 : Nat), (12 : Int), ())
noncomputable def spec_l02Angle_sg : Sig := ⟨[.v (.flt .f32), .v (.flt .f32)], [.v (.val (.flt .f32))], false⟩
noncomputable def spec_l02Angle_en : Entry := ⟨spec_l02Angle_sg, fun x => spec_l02Angle x.1 x.2.1⟩
theorem spec_l02Angle_eq (x : spec_l02Angle_sg.dom) : body (env [(119, spec_l01Finite_en), (181, math_Abs_en), (182, math_Sqrt_en), (205, math_NaN_en)]) [(12, .unroll 4), (18, .vary [(11, .sc (.flt .f64)), (12, .sc (.int .i64))])] Try.f169 spec_l02Angle_sg x = spec_l02Angle x.1 x.2.1 := by kernel_rfl
theorem spec_l02Angle_so : Sound Try.prog 169 spec_l02Angle_en := sound_of_body (envS (l := [(119, spec_l01Finite_en), (181, math_Abs_en), (182, math_Sqrt_en), (205, math_NaN_en)]) (⟨spec_l01Finite_so, math_Abs_so, math_Sqrt_so, math_NaN_so, trivial⟩)) Try.func169 (by kernel_rfl) rfl (fun x y h => (spec_l02Angle_eq x).trans h)

-- loop.example/g01204/spec.AngleOf
noncomputable def spec_AngleOf (a0 : Nat) (a1 : Nat) : Option ((Nat × Unit) × Unit) :=
  (spec_l02Angle a0 a1).bind fun y2799 =>
  some ((y2799.1.1, ()), ())
noncomputable def spec_AngleOf_sg : Sig := ⟨[.v (.flt .f32), .v (.flt .f32)], [.v (.val (.flt .f32))], false⟩
noncomputable def spec_AngleOf_en : Entry := ⟨spec_AngleOf_sg, fun x => spec_AngleOf x.1 x.2.1⟩
theorem spec_AngleOf_eq (x : spec_AngleOf_sg.dom) : body (env [(169, spec_l02Angle_en)]) [] Try.f122 spec_AngleOf_sg x = spec_AngleOf x.1 x.2.1 := by kernel_rfl
theorem spec_AngleOf_so : Sound Try.prog 122 spec_AngleOf_en := sound_of_body (envS (l := [(169, spec_l02Angle_en)]) (⟨spec_l02Angle_so, trivial⟩)) Try.func122 (by kernel_rfl) rfl (fun x y h => (spec_AngleOf_eq x).trans h)

-- loop.example/g01204/spec.l02Wrap
noncomputable def spec_l02Wrap (a0 : Nat) : Option ((Nat × Unit) × Unit) :=
  (spec_l01Finite a0).bind fun y2914 =>
  bif (! y2914.1.1) then
    (math_NaN).bind fun y2916 =>
    (fConv .f64 .f32 y2916.1.1).bind fun y2917 =>
    some ((y2917, ()), ())
  else
  (fConv .f32 .f64 a0).bind fun y2918 =>
  (math_RoundToEven (fDiv .f64 y2918 4618760256179416344)).bind fun y2920 =>
  (fConv .f32 .f64 a0).bind fun y2921 =>
  (fConv .f64 .f32 (fSub .f64 y2921 (fMul .f64 4618760256179416344 y2920.1.1))).bind fun y2924 =>
  bif (fLt .f32 1078530011 y2924) then some (((1078530011 : Nat), ()), ()) else
  bif (fLt .f32 y2924 3226013659) then some (((3226013659 : Nat), ()), ()) else some ((y2924, ()), ())
noncomputable def spec_l02Wrap_sg : Sig := ⟨[.v (.flt .f32)], [.v (.val (.flt .f32))], false⟩
noncomputable def spec_l02Wrap_en : Entry := ⟨spec_l02Wrap_sg, fun x => spec_l02Wrap x.1⟩
theorem spec_l02Wrap_eq (x : spec_l02Wrap_sg.dom) : body (env [(119, spec_l01Finite_en), (179, math_RoundToEven_en), (205, math_NaN_en)]) [] Try.f168 spec_l02Wrap_sg x = spec_l02Wrap x.1 := by kernel_rfl
theorem spec_l02Wrap_so : Sound Try.prog 168 spec_l02Wrap_en := sound_of_body (envS (l := [(119, spec_l01Finite_en), (179, math_RoundToEven_en), (205, math_NaN_en)]) (⟨spec_l01Finite_so, math_RoundToEven_so, math_NaN_so, trivial⟩)) Try.func168 (by kernel_rfl) rfl (fun x y h => (spec_l02Wrap_eq x).trans h)

-- loop.example/g01204/spec.WrapAngle
noncomputable def spec_WrapAngle (a0 : Nat) : Option ((Nat × Unit) × Unit) :=
  (spec_l02Wrap a0).bind fun y2913 =>
  some ((y2913.1.1, ()), ())
noncomputable def spec_WrapAngle_sg : Sig := ⟨[.v (.flt .f32)], [.v (.val (.flt .f32))], false⟩
noncomputable def spec_WrapAngle_en : Entry := ⟨spec_WrapAngle_sg, fun x => spec_WrapAngle x.1⟩
theorem spec_WrapAngle_eq (x : spec_WrapAngle_sg.dom) : body (env [(168, spec_l02Wrap_en)]) [] Try.f121 spec_WrapAngle_sg x = spec_WrapAngle x.1 := by kernel_rfl
theorem spec_WrapAngle_so : Sound Try.prog 121 spec_WrapAngle_en := sound_of_body (envS (l := [(168, spec_l02Wrap_en)]) (⟨spec_l02Wrap_so, trivial⟩)) Try.func121 (by kernel_rfl) rfl (fun x y h => (spec_WrapAngle_eq x).trans h)

-- loop.example/g01204/spec.l02Sine
noncomputable def spec_l02Sine (a0 : Nat) : Option ((Nat × Unit) × Unit) :=
  (math_Floor a0).bind fun y2958 =>
  let x2959 := fSub .f64 a0 y2958.1.1
  let x2960 := fLe .f64 4602678819172646912 x2959
  bif x2960 then
    let x2961 := fSub .f64 x2959 4602678819172646912
    bif (fLt .f64 4598175219545276416 x2961) then
      let x2964 := fMul .f64 4618760256179416344 (fSub .f64 4602678819172646912 x2961)
      let x2965 := fMul .f64 x2964 x2964
      let x2998 := fMul .f64 (fSub .f64 4607182418800017408 (fMul .f64 (fDiv .f64 x2965 (fOfInt .f64 6)) (fSub .f64 4607182418800017408 (fMul .f64 (fDiv .f64 x2965 (fOfInt .f64 20)) (fSub .f64 4607182418800017408 (fMul .f64 (fDiv .f64 x2965 (fOfInt .f64 42)) (fSub .f64 4607182418800017408 (fMul .f64 (fDiv .f64 x2965 (fOfInt .f64 72)) (fSub .f64 4607182418800017408 (fMul .f64 (fDiv .f64 x2965 (fOfInt .f64 110)) (fSub .f64 4607182418800017408 (fMul .f64 (fDiv .f64 x2965 (fOfInt .f64 156)) (fSub .f64 4607182418800017408 (fMul .f64 (fDiv .f64 x2965 (fOfInt .f64 210)) (fSub .f64 4607182418800017408 (fMul .f64 (fDiv .f64 x2965 (fOfInt .f64 272)) 4607182418800017408)))))))))))))))) x2964
      bif x2960 then
        (fConv .f64 .f32 (fNeg .f64 x2998)).bind fun y3000 =>
        some ((y3000, ()), ())
      else
      (fConv .f64 .f32 x2998).bind fun y3001 =>
      some ((y3001, ()), ())
    else
    let x3002 := fMul .f64 4618760256179416344 x2961
    let x3003 := fMul .f64 x3002 x3002
    let x3036 := fMul .f64 (fSub .f64 4607182418800017408 (fMul .f64 (fDiv .f64 x3003 (fOfInt .f64 6)) (fSub .f64 4607182418800017408 (fMul .f64 (fDiv .f64 x3003 (fOfInt .f64 20)) (fSub .f64 4607182418800017408 (fMul .f64 (fDiv .f64 x3003 (fOfInt .f64 42)) (fSub .f64 4607182418800017408 (fMul .f64 (fDiv .f64 x3003 (fOfInt .f64 72)) (fSub .f64 4607182418800017408 (fMul .f64 (fDiv .f64 x3003 (fOfInt .f64 110)) (fSub .f64 4607182418800017408 (fMul .f64 (fDiv .f64 x3003 (fOfInt .f64 156)) (fSub .f64 4607182418800017408 (fMul .f64 (fDiv .f64 x3003 (fOfInt .f64 210)) (fSub .f64 4607182418800017408 (fMul .f64 (fDiv .f64 x3003 (fOfInt .f64 272)) 4607182418800017408)))))))))))))))) x3002
    bif x2960 then
      (fConv .f64 .f32 (fNeg .f64 x3036)).bind fun y3038 =>
      some ((y3038, ()), ())
    else
    (fConv .f64 .f32 x3036).bind fun y3039 =>
    some ((y3039, ()), ())
  else
  bif (fLt .f64 4598175219545276416 x2959) then
    let x3042 := fMul .f64 4618760256179416344 (fSub .f64 4602678819172646912 x2959)
    let x3043 := fMul .f64 x3042 x3042
    let x3076 := fMul .f64 (fSub .f64 4607182418800017408 (fMul .f64 (fDiv .f64 x3043 (fOfInt .f64 6)) (fSub .f64 4607182418800017408 (fMul .f64 (fDiv .f64 x3043 (fOfInt .f64 20)) (fSub .f64 4607182418800017408 (fMul .f64 (fDiv .f64 x3043 (fOfInt .f64 42)) (fSub .f64 4607182418800017408 (fMul .f64 (fDiv .f64 x3043 (fOfInt .f64 72)) (fSub .f64 4607182418800017408 (fMul .f64 (fDiv .f64 x3043 (fOfInt .f64 110)) (fSub .f64 4607182418800017408 (fMul .f64 (fDiv .f64 x3043 (fOfInt .f64 156)) (fSub .f64 4607182418800017408 (fMul .f64 (fDiv .f64 x3043 (fOfInt .f64 210)) (fSub .f64 4607182418800017408 (fMul .f64 (fDiv .f64 x3043 (fOfInt .f64 272)) 4607182418800017408)))))))))))))))) x3042
    bif x2960 then
      (fConv .f64 .f32 (fNeg .f64 x3076)).bind fun y3078 =>
      some ((y3078, ()), ())
    else
    (fConv .f64 .f32 x3076).bind fun y3079 =>
    some ((y3079, ()), ())
  else
  let x3080 := fMul .f64 4618760256179416344 x2959
  let x3081 := fMul .f64 x3080 x3080
  let x3114 := fMul .f64 (fSub .f64 4607182418800017408 (fMul .f64 (fDiv .f64 x3081 (fOfInt .f64 6)) (fSub .f64 4607182418800017408 (fMul .f64 (fDiv .f64 x3081 (fOfInt .f64 20)) (fSub .f64 4607182418800017408 (fMul .f64 (fDiv .f64 x3081 (fOfInt .f64 42)) (fSub .f64 4607182418800017408 (fMul .f64 (fDiv .f64 x3081 (fOfInt .f64 72)) (fSub .f64 4607182418800017408 (fMul .f64 (fDiv .f64 x3081 (fOfInt .f64 110)) (fSub .f64 4607182418800017408 (fMul .f64 (fDiv .f64 x3081 (fOfInt .f64 156)) (fSub .f64 4607182418800017408 (fMul .f64 (fDiv .f64 x3081 (fOfInt .f64 210)) (fSub .f64 4607182418800017408 (fMul .f64 (fDiv .f64 x3081 (fOfInt .f64 272)) 4607182418800017408)))))))))))))))) x3080
  bif x2960 then
    (fConv .f64 .f32 (fNeg .f64 x3114)).bind fun y3116 =>
    some ((y3116, ()), ())
  else
  (fConv .f64 .f32 x3114).bind fun y3117 =>
  some ((y3117, ()), ())
noncomputable def spec_l02Sine_sg : Sig := ⟨[.v (.flt .f64)], [.v (.val (.flt .f32))], false⟩
noncomputable def spec_l02Sine_en : Entry := ⟨spec_l02Sine_sg, fun x => spec_l02Sine x.1⟩
theorem spec_l02Sine_eq (x : spec_l02Sine_sg.dom) : body (env [(107, math_Floor_en)]) [(11, .unroll 9)] Try.f223 spec_l02Sine_sg x = spec_l02Sine x.1 := by kernel_rfl
theorem spec_l02Sine_so : Sound Try.prog 223 spec_l02Sine_en := sound_of_body (envS (l := [(107, math_Floor_en)]) (⟨math_Floor_so, trivial⟩)) Try.func223 (by kernel_rfl) rfl (fun x y h => (spec_l02Sine_eq x).trans h)

-- loop.example/g01204/spec.l02Cos
noncomputable def spec_l02Cos (a0 : Nat) : Option ((Nat × Unit) × Unit) :=
  (spec_l01Finite a0).bind fun y2950 =>
  bif (! y2950.1.1) then
    (math_NaN).bind fun y2952 =>
    (fConv .f64 .f32 y2952.1.1).bind fun y2953 =>
    some ((y2953, ()), ())
  else
  (fConv .f32 .f64 a0).bind fun y2954 =>
  (spec_l02Sine (fAdd .f64 (fDiv .f64 y2954 4618760256179416344) 4598175219545276416)).bind fun y2957 =>
  some ((y2957.1.1, ()), ())
noncomputable def spec_l02Cos_sg : Sig := ⟨[.v (.flt .f32)], [.v (.val (.flt .f32))], false⟩
noncomputable def spec_l02Cos_en : Entry := ⟨spec_l02Cos_sg, fun x => spec_l02Cos x.1⟩
theorem spec_l02Cos_eq (x : spec_l02Cos_sg.dom) : body (env [(119, spec_l01Finite_en), (205, math_NaN_en), (223, spec_l02Sine_en)]) [] Try.f206 spec_l02Cos_sg x = spec_l02Cos x.1 := by kernel_rfl
theorem spec_l02Cos_so : Sound Try.prog 206 spec_l02Cos_en := sound_of_body (envS (l := [(119, spec_l01Finite_en), (205, math_NaN_en), (223, spec_l02Sine_en)]) (⟨spec_l01Finite_so, math_NaN_so, spec_l02Sine_so, trivial⟩)) Try.func206 (by kernel_rfl) rfl (fun x y h => (spec_l02Cos_eq x).trans h)

-- loop.example/g01204/spec.CosineOf
noncomputable def spec_CosineOf (a0 : Nat) : Option ((Nat × Unit) × Unit) :=
  (spec_l02Cos a0).bind fun y2949 =>
  some ((y2949.1.1, ()), ())
noncomputable def spec_CosineOf_sg : Sig := ⟨[.v (.flt .f32)], [.v (.val (.flt .f32))], false⟩
noncomputable def spec_CosineOf_en : Entry := ⟨spec_CosineOf_sg, fun x => spec_CosineOf x.1⟩
theorem spec_CosineOf_eq (x : spec_CosineOf_sg.dom) : body (env [(206, spec_l02Cos_en)]) [] Try.f170 spec_CosineOf_sg x = spec_CosineOf x.1 := by kernel_rfl
theorem spec_CosineOf_so : Sound Try.prog 170 spec_CosineOf_en := sound_of_body (envS (l := [(206, spec_l02Cos_en)]) (⟨spec_l02Cos_so, trivial⟩)) Try.func170 (by kernel_rfl) rfl (fun x y h => (spec_CosineOf_eq x).trans h)

-- loop.example/g01204/spec.l02Sin
noncomputable def spec_l02Sin (a0 : Nat) : Option ((Nat × Unit) × Unit) :=
  (spec_l01Finite a0).bind fun y3119 =>
  bif (! y3119.1.1) then
    (math_NaN).bind fun y3121 =>
    (fConv .f64 .f32 y3121.1.1).bind fun y3122 =>
    some ((y3122, ()), ())
  else
  (fConv .f32 .f64 a0).bind fun y3123 =>
  (spec_l02Sine (fDiv .f64 y3123 4618760256179416344)).bind fun y3125 =>
  some ((y3125.1.1, ()), ())
noncomputable def spec_l02Sin_sg : Sig := ⟨[.v (.flt .f32)], [.v (.val (.flt .f32))], false⟩
noncomputable def spec_l02Sin_en : Entry := ⟨spec_l02Sin_sg, fun x => spec_l02Sin x.1⟩
theorem spec_l02Sin_eq (x : spec_l02Sin_sg.dom) : body (env [(119, spec_l01Finite_en), (205, math_NaN_en), (223, spec_l02Sine_en)]) [] Try.f207 spec_l02Sin_sg x = spec_l02Sin x.1 := by kernel_rfl
theorem spec_l02Sin_so : Sound Try.prog 207 spec_l02Sin_en := sound_of_body (envS (l := [(119, spec_l01Finite_en), (205, math_NaN_en), (223, spec_l02Sine_en)]) (⟨spec_l01Finite_so, math_NaN_so, spec_l02Sine_so, trivial⟩)) Try.func207 (by kernel_rfl) rfl (fun x y h => (spec_l02Sin_eq x).trans h)

-- loop.example/g01204/spec.SineOf
noncomputable def spec_SineOf (a0 : Nat) : Option ((Nat × Unit) × Unit) :=
  (spec_l02Sin a0).bind fun y3118 =>
  some ((y3118.1.1, ()), ())
noncomputable def spec_SineOf_sg : Sig := ⟨[.v (.flt .f32)], [.v (.val (.flt .f32))], false⟩
noncomputable def spec_SineOf_en : Entry := ⟨spec_SineOf_sg, fun x => spec_SineOf x.1⟩
theorem spec_SineOf_eq (x : spec_SineOf_sg.dom) : body (env [(207, spec_l02Sin_en)]) [] Try.f171 spec_SineOf_sg x = spec_SineOf x.1 := by kernel_rfl
theorem spec_SineOf_so : Sound Try.prog 171 spec_SineOf_en := sound_of_body (envS (l := [(207, spec_l02Sin_en)]) (⟨spec_l02Sin_so, trivial⟩)) Try.func171 (by kernel_rfl) rfl (fun x y h => (spec_SineOf_eq x).trans h)

-- loop.example/g01204/spec.l06Compose
noncomputable def spec_l06Compose (a0 : (Vec 3 Nat)) (a1 : (Vec 3 Nat)) : Option (((Vec 3 Nat) × Unit) × Unit) :=
  (spec_CosineOf (Vec.getD 3 a0 2 (0 : Nat))).bind fun y2928 =>
  (spec_SineOf (Vec.getD 3 a0 2 (0 : Nat))).bind fun y2930 =>
  (spec_WrapAngle (fAdd .f32 (Vec.getD 3 a0 2 (0 : Nat)) (Vec.getD 3 a1 2 (0 : Nat)))).bind fun y2948 =>
  some (((((fAdd .f32 (Vec.getD 3 a0 0 (0 : Nat)) (fSub .f32 (fMul .f32 y2928.1.1 (Vec.getD 3 a1 0 (0 : Nat))) (fMul .f32 y2930.1.1 (Vec.getD 3 a1 1 (0 : Nat))))), (fAdd .f32 (Vec.getD 3 a0 1 (0 : Nat)) (fAdd .f32 (fMul .f32 y2930.1.1 (Vec.getD 3 a1 0 (0 : Nat))) (fMul .f32 y2928.1.1 (Vec.getD 3 a1 1 (0 : Nat))))), y2948.1.1, ()) : (Vec 3 Nat)), ()), ())
noncomputable def spec_l06Compose_sg : Sig := ⟨[.v (.arr 3 (.flt .f32)), .v (.arr 3 (.flt .f32))], [.v (.val (.arr 3 (.flt .f32)))], false⟩
noncomputable def spec_l06Compose_en : Entry := ⟨spec_l06Compose_sg, fun x => spec_l06Compose x.1 x.2.1⟩
theorem spec_l06Compose_eq (x : spec_l06Compose_sg.dom) : body (env [(121, spec_WrapAngle_en), (170, spec_CosineOf_en), (171, spec_SineOf_en)]) [] Try.f123 spec_l06Compose_sg x = spec_l06Compose x.1 x.2.1 := by kernel_rfl
theorem spec_l06Compose_so : Sound Try.prog 123 spec_l06Compose_en := sound_of_body (envS (l := [(121, spec_WrapAngle_en), (170, spec_CosineOf_en), (171, spec_SineOf_en)]) (⟨spec_WrapAngle_so, spec_CosineOf_so, spec_SineOf_so, trivial⟩)) Try.func123 (by kernel_rfl) rfl (fun x y h => (spec_l06Compose_eq x).trans h)

-- loop.example/g01204/spec.l06Finite
noncomputable def spec_l06Finite (a0 : (Vec 3 Nat)) : Option ((Bool × Unit) × Unit) :=
  (spec_l01Vec a0).bind fun y3126 =>
  some ((y3126.1.1, ()), ())
noncomputable def spec_l06Finite_sg : Sig := ⟨[.v (.arr 3 (.flt .f32))], [.v (.val (.bool))], false⟩
noncomputable def spec_l06Finite_en : Entry := ⟨spec_l06Finite_sg, fun x => spec_l06Finite x.1⟩
theorem spec_l06Finite_eq (x : spec_l06Finite_sg.dom) : body (env [(165, spec_l01Vec_en)]) [] Try.f118 spec_l06Finite_sg x = spec_l06Finite x.1 := by kernel_rfl
theorem spec_l06Finite_so : Sound Try.prog 118 spec_l06Finite_en := sound_of_body (envS (l := [(165, spec_l01Vec_en)]) (⟨spec_l01Vec_so, trivial⟩)) Try.func118 (by kernel_rfl) rfl (fun x y h => (spec_l06Finite_eq x).trans h)

-- loop.example/g01204/spec.l01Root
noncomputable def spec_l01Root (a0 : Nat) : Option ((Nat × Unit) × Unit) :=
  (fConv .f32 .f64 a0).bind fun y3166 =>
  (math_Sqrt y3166).bind fun y3167 =>
  (fConv .f64 .f32 y3167.1.1).bind fun y3168 =>
  some ((y3168, ()), ())
noncomputable def spec_l01Root_sg : Sig := ⟨[.v (.flt .f32)], [.v (.val (.flt .f32))], false⟩
noncomputable def spec_l01Root_en : Entry := ⟨spec_l01Root_sg, fun x => spec_l01Root x.1⟩
theorem spec_l01Root_eq (x : spec_l01Root_sg.dom) : body (env [(182, math_Sqrt_en)]) [] Try.f167 spec_l01Root_sg x = spec_l01Root x.1 := by kernel_rfl
theorem spec_l01Root_so : Sound Try.prog 167 spec_l01Root_en := sound_of_body (envS (l := [(182, math_Sqrt_en)]) (⟨math_Sqrt_so, trivial⟩)) Try.func167 (by kernel_rfl) rfl (fun x y h => (spec_l01Root_eq x).trans h)

end Go.Proofs.Ytioniijhdkkieaa
