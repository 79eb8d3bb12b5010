import Derived.Test.YtjahnpagogpffaaE
/- Functions on typed data: what the evaluation of each Go function is, and that it is sound. -/
namespace Go.Proofs.Ytjahnpagogpffaa
open Go Go.Tm
set_option linter.unusedVariables false
set_option maxRecDepth 100000
-- loop.example/g01204/impl.FixSensor
noncomputable def impl_FixSensor : Option ((((Vec 3 Nat) × ((Vec 3 Nat) × (Int × (Int × Unit)))) × Unit) × Unit) :=
  some (((((1031798784, 1031798784, 1031798784, ()), (0, 0, 0, ()), 1, 0, ()) : ((Vec 3 Nat) × ((Vec 3 Nat) × (Int × (Int × Unit))))), ()), ())
noncomputable def impl_FixSensor_sg : Sig := ⟨[], [.v (.val (.pair (.arr 3 (.flt .f32)) (.pair (.arr 3 (.flt .f32)) (.pair (.int .i64) (.pair (.int .i64) (.unit))))))], false⟩
noncomputable def impl_FixSensor_en : Entry := ⟨impl_FixSensor_sg, fun _ => impl_FixSensor⟩
theorem impl_FixSensor_eq (x : impl_FixSensor_sg.dom) : body (env []) [] Try.f24 impl_FixSensor_sg x = impl_FixSensor  := by kernel_rfl
theorem impl_FixSensor_so : Sound Try.prog 24 impl_FixSensor_en := sound_of_body (envS (l := []) (trivial)) Try.func24 (by kernel_rfl) rfl (fun x y h => (impl_FixSensor_eq x).trans h)

-- loop.example/g01204/impl.sumOf
noncomputable def impl_sumOf_l3 (a0 : (List Nat)) (a1 : (List Nat)) (s106 : (Nat × Int × Unit)) : Option ((Nat × Int × Unit) ⊕ ((Nat × Unit) × Unit)) :=
  bif (iLt s106.2.1 (lenI a0)) then
    bif inB s106.2.1 (List.length a0) then
      bif inB s106.2.1 (List.length a1) then
        let x110 := fMul .f32 (List.getD a0 s106.2.1.toNat (0 : Nat)) (List.getD a1 s106.2.1.toNat (0 : Nat))
        bif (iEq s106.2.1 0) then
          some (Sum.inl (x110, (iAdd .i64 s106.2.1 1), ()))
        else
        some (Sum.inl ((fAdd .f32 s106.1 x110), (iAdd .i64 s106.2.1 1), ()))
      else none
    else none
  else
  Option.map Sum.inr (some ((s106.1, ()), ()))
noncomputable def impl_sumOf (a0 : (List Nat)) (a1 : (List Nat)) : Option ((Nat × Unit) × Unit) :=
  run (impl_sumOf_l3 a0 a1) ((0 : Nat), (0 : Int), ())
noncomputable def impl_sumOf_sg : Sig := ⟨[.v (.list (.flt .f32)), .v (.list (.flt .f32))], [.v (.val (.flt .f32))], false⟩
noncomputable def impl_sumOf_en : Entry := ⟨impl_sumOf_sg, fun x => impl_sumOf x.1 x.2.1⟩
theorem impl_sumOf_eq (x : impl_sumOf_sg.dom) : body (env []) [(3, .vary [(5, .sc (.flt .f32)), (10, .sc (.int .i64))])] Try.f72 impl_sumOf_sg x = impl_sumOf x.1 x.2.1 := by kernel_rfl
theorem impl_sumOf_so : Sound Try.prog 72 impl_sumOf_en := sound_of_body (envS (l := []) (trivial)) Try.func72 (by kernel_rfl) rfl (fun x y h => (impl_sumOf_eq x).trans h)

-- loop.example/g01204/impl.DotVec
noncomputable def impl_DotVec (a0 : (Vec 3 Nat)) (a1 : (Vec 3 Nat)) : Option ((Nat × Unit) × Unit) :=
  (impl_sumOf ([Vec.getD 3 a0 0 (0 : Nat), Vec.getD 3 a0 1 (0 : Nat), Vec.getD 3 a0 2 (0 : Nat)] : (List Nat)) ([Vec.getD 3 a1 0 (0 : Nat), Vec.getD 3 a1 1 (0 : Nat), Vec.getD 3 a1 2 (0 : Nat)] : (List Nat))).bind fun y105 =>
  some ((y105.1.1, ()), ())
noncomputable def impl_DotVec_sg : Sig := ⟨[.v (.arr 3 (.flt .f32)), .v (.arr 3 (.flt .f32))], [.v (.val (.flt .f32))], false⟩
noncomputable def impl_DotVec_en : Entry := ⟨impl_DotVec_sg, fun x => impl_DotVec x.1 x.2.1⟩
theorem impl_DotVec_eq (x : impl_DotVec_sg.dom) : body (env [(72, impl_sumOf_en)]) [] Try.f54 impl_DotVec_sg x = impl_DotVec x.1 x.2.1 := by kernel_rfl
theorem impl_DotVec_so : Sound Try.prog 54 impl_DotVec_en := sound_of_body (envS (l := [(72, impl_sumOf_en)]) (⟨impl_sumOf_so, trivial⟩)) Try.func54 (by kernel_rfl) rfl (fun x y h => (impl_DotVec_eq x).trans h)

theorem math_sqrt_so : Sound Try.prog 77 math_sqrt_en := math_sqrt_sound Try.func77 (by kernel_rfl) (by kernel_rfl) (by kernel_rfl) (by kernel_rfl)

-- math.Sqrt
noncomputable def math_Sqrt (a0 : Nat) : Option ((Nat × Unit) × Unit) :=
  (math_sqrt a0).bind fun y118 =>
  some ((y118.1.1, ()), ())
noncomputable def math_Sqrt_sg : Sig := ⟨[.v (.flt .f64)], [.v (.val (.flt .f64))], false⟩
noncomputable def math_Sqrt_en : Entry := ⟨math_Sqrt_sg, fun x => math_Sqrt x.1⟩
theorem math_Sqrt_eq (x : math_Sqrt_sg.dom) : body (env [(77, math_sqrt_en)]) [] Try.f71 math_Sqrt_sg x = math_Sqrt x.1 := by kernel_rfl
theorem math_Sqrt_so : Sound Try.prog 71 math_Sqrt_en := sound_of_body (envS (l := [(77, math_sqrt_en)]) (⟨math_sqrt_so, trivial⟩)) Try.func71 (by kernel_rfl) rfl (fun x y h => (math_Sqrt_eq x).trans h)

-- loop.example/g01204/impl.root
noncomputable def impl_root (a0 : Nat) : Option ((Nat × Unit) × Unit) :=
  (fConv .f32 .f64 a0).bind fun y115 =>
  (math_Sqrt y115).bind fun y116 =>
  (fConv .f64 .f32 y116.1.1).bind fun y117 =>
  some ((y117, ()), ())
noncomputable def impl_root_sg : Sig := ⟨[.v (.flt .f32)], [.v (.val (.flt .f32))], false⟩
noncomputable def impl_root_en : Entry := ⟨impl_root_sg, fun x => impl_root x.1⟩
theorem impl_root_eq (x : impl_root_sg.dom) : body (env [(71, math_Sqrt_en)]) [] Try.f53 impl_root_sg x = impl_root x.1 := by kernel_rfl
theorem impl_root_so : Sound Try.prog 53 impl_root_en := sound_of_body (envS (l := [(71, math_Sqrt_en)]) (⟨math_Sqrt_so, trivial⟩)) Try.func53 (by kernel_rfl) rfl (fun x y h => (impl_root_eq x).trans h)

-- loop.example/g01204/impl.LengthOf
noncomputable def impl_LengthOf (a0 : (Vec 3 Nat)) : Option ((Nat × Unit) × Unit) :=
  (impl_DotVec a0 a0).bind fun y103 =>
  (impl_root y103.1.1).bind fun y104 =>
  some ((y104.1.1, ()), ())
noncomputable def impl_LengthOf_sg : Sig := ⟨[.v (.arr 3 (.flt .f32))], [.v (.val (.flt .f32))], false⟩
noncomputable def impl_LengthOf_en : Entry := ⟨impl_LengthOf_sg, fun x => impl_LengthOf x.1⟩
theorem impl_LengthOf_eq (x : impl_LengthOf_sg.dom) : body (env [(53, impl_root_en), (54, impl_DotVec_en)]) [] Try.f25 impl_LengthOf_sg x = impl_LengthOf x.1 := by kernel_rfl
theorem impl_LengthOf_so : Sound Try.prog 25 impl_LengthOf_en := sound_of_body (envS (l := [(53, impl_root_en), (54, impl_DotVec_en)]) (⟨impl_root_so, impl_DotVec_so, trivial⟩)) Try.func25 (by kernel_rfl) rfl (fun x y h => (impl_LengthOf_eq x).trans h)

-- loop.example/g01204/impl.ShakeCounts
noncomputable def impl_ShakeCounts (a0 : (Vec 3 Int)) (a1 : Int) (a2 : Int) : Option (((Vec 3 Int) × Int × Int × Unit) × Unit) :=
  bif (iLt a2 0) then some ((((0, 0, 0, ()) : (Vec 3 Int)), (0 : Int), (2 : Int), ()), ()) else
  let x121 := iAdd .u32 (iMul .u32 1664525 a1) 1013904223
  let x126 := iAdd .i64 (iMul .i64 2 (iWrap .i64 a2)) 1
  bif iEq x126 0 then none else
  let x135 := iWrap .i16 (iMin 32767 (iMax (-32768 : Int) (iAdd .i64 (iWrap .i64 (Vec.getD 3 a0 0 (0 : Int))) (iSub .i64 (iRem .i64 (iWrap .i64 (iShr .u32 x121 16)) x126) (iWrap .i64 a2)))))
  let x137 := iAdd .u32 (iMul .u32 1664525 x121) 1013904223
  let x142 := iAdd .i64 (iMul .i64 2 (iWrap .i64 a2)) 1
  bif iEq x142 0 then none else
  let x151 := iWrap .i16 (iMin 32767 (iMax (-32768 : Int) (iAdd .i64 (iWrap .i64 (Vec.getD 3 (Vec.set 3 a0 0 x135) 1 (0 : Int))) (iSub .i64 (iRem .i64 (iWrap .i64 (iShr .u32 x137 16)) x142) (iWrap .i64 a2)))))
  let x153 := iAdd .u32 (iMul .u32 1664525 x137) 1013904223
  let x158 := iAdd .i64 (iMul .i64 2 (iWrap .i64 a2)) 1
  bif iEq x158 0 then none else
  some (((Vec.set 3 (Vec.set 3 (Vec.set 3 a0 0 x135) 1 x151) 2 (iWrap .i16 (iMin 32767 (iMax (-32768 : Int) (iAdd .i64 (iWrap .i64 (Vec.getD 3 (Vec.set 3 (Vec.set 3 a0 0 x135) 1 x151) 2 (0 : Int))) (iSub .i64 (iRem .i64 (iWrap .i64 (iShr .u32 x153 16)) x158) (iWrap .i64 a2))))))), x153, (0 : Int), ()), ())
noncomputable def impl_ShakeCounts_sg : Sig := ⟨[.v (.arr 3 (.int .i16)), .v (.int .u32), .v (.int .i16)], [.v (.val (.arr 3 (.int .i16))), .v (.val (.int .u32)), .v (.val (.int .i64))], false⟩
noncomputable def impl_ShakeCounts_en : Entry := ⟨impl_ShakeCounts_sg, fun x => impl_ShakeCounts x.1 x.2.1 x.2.2.1⟩
theorem impl_ShakeCounts_eq (x : impl_ShakeCounts_sg.dom) : body (env []) [(4, .unroll 4)] Try.f22 impl_ShakeCounts_sg x = impl_ShakeCounts x.1 x.2.1 x.2.2.1 := by kernel_rfl
theorem impl_ShakeCounts_so : Sound Try.prog 22 impl_ShakeCounts_en := sound_of_body (envS (l := []) (trivial)) Try.func22 (by kernel_rfl) rfl (fun x y h => (impl_ShakeCounts_eq x).trans h)

-- loop.example/g01204/impl.SubVec
noncomputable def impl_SubVec (a0 : (Vec 3 Nat)) (a1 : (Vec 3 Nat)) : Option (((Vec 3 Nat) × Unit) × Unit) :=
  let x171 := fSub .f32 (Vec.getD 3 a0 0 (0 : Nat)) (Vec.getD 3 a1 0 (0 : Nat))
  let x174 := fSub .f32 (Vec.getD 3 (Vec.set 3 a0 0 x171) 1 (0 : Nat)) (Vec.getD 3 a1 1 (0 : Nat))
  some (((Vec.set 3 (Vec.set 3 (Vec.set 3 a0 0 x171) 1 x174) 2 (fSub .f32 (Vec.getD 3 (Vec.set 3 (Vec.set 3 a0 0 x171) 1 x174) 2 (0 : Nat)) (Vec.getD 3 a1 2 (0 : Nat)))), ()), ())
noncomputable def impl_SubVec_sg : Sig := ⟨[.v (.arr 3 (.flt .f32)), .v (.arr 3 (.flt .f32))], [.v (.val (.arr 3 (.flt .f32)))], false⟩
noncomputable def impl_SubVec_en : Entry := ⟨impl_SubVec_sg, fun x => impl_SubVec x.1 x.2.1⟩
theorem impl_SubVec_eq (x : impl_SubVec_sg.dom) : body (env []) [(2, .unroll 4)] Try.f26 impl_SubVec_sg x = impl_SubVec x.1 x.2.1 := by kernel_rfl
theorem impl_SubVec_so : Sound Try.prog 26 impl_SubVec_en := sound_of_body (envS (l := []) (trivial)) Try.func26 (by kernel_rfl) rfl (fun x y h => (impl_SubVec_eq x).trans h)

-- loop.example/g01204/impl.AddVec
noncomputable def impl_AddVec (a0 : (Vec 3 Nat)) (a1 : (Vec 3 Nat)) : Option (((Vec 3 Nat) × Unit) × Unit) :=
  let x225 := fAdd .f32 (Vec.getD 3 a0 0 (0 : Nat)) (Vec.getD 3 a1 0 (0 : Nat))
  let x228 := fAdd .f32 (Vec.getD 3 (Vec.set 3 a0 0 x225) 1 (0 : Nat)) (Vec.getD 3 a1 1 (0 : Nat))
  some (((Vec.set 3 (Vec.set 3 (Vec.set 3 a0 0 x225) 1 x228) 2 (fAdd .f32 (Vec.getD 3 (Vec.set 3 (Vec.set 3 a0 0 x225) 1 x228) 2 (0 : Nat)) (Vec.getD 3 a1 2 (0 : Nat)))), ()), ())
noncomputable def impl_AddVec_sg : Sig := ⟨[.v (.arr 3 (.flt .f32)), .v (.arr 3 (.flt .f32))], [.v (.val (.arr 3 (.flt .f32)))], false⟩
noncomputable def impl_AddVec_en : Entry := ⟨impl_AddVec_sg, fun x => impl_AddVec x.1 x.2.1⟩
theorem impl_AddVec_eq (x : impl_AddVec_sg.dom) : body (env []) [(2, .unroll 4)] Try.f49 impl_AddVec_sg x = impl_AddVec x.1 x.2.1 := by kernel_rfl
theorem impl_AddVec_so : Sound Try.prog 49 impl_AddVec_en := sound_of_body (envS (l := []) (trivial)) Try.func49 (by kernel_rfl) rfl (fun x y h => (impl_AddVec_eq x).trans h)

-- loop.example/g01204/impl.isFinite
noncomputable def impl_isFinite_l2 (a0 : (List Nat)) (s234 : (Int × Unit)) : Option ((Int × Unit) ⊕ ((Bool × Unit) × Unit)) :=
  bif (iLt s234.1 (lenI a0)) then
    bif inB s234.1 (List.length a0) then
      let x236 := List.getD a0 s234.1.toNat (0 : Nat)
      bif (! (fEq .f32 (fSub .f32 x236 x236) 0)) then
        Option.map Sum.inr (some ((false, ()), ()))
      else
      some (Sum.inl ((iAdd .i64 s234.1 1), ()))
    else none
  else
  Option.map Sum.inr (some ((true, ()), ()))
noncomputable def impl_isFinite (a0 : (List Nat)) : Option ((Bool × Unit) × Unit) :=
  run (impl_isFinite_l2 a0) ((0 : Int), ())
noncomputable def impl_isFinite_sg : Sig := ⟨[.v (.list (.flt .f32))], [.v (.val (.bool))], false⟩
noncomputable def impl_isFinite_en : Entry := ⟨impl_isFinite_sg, fun x => impl_isFinite x.1⟩
theorem impl_isFinite_eq (x : impl_isFinite_sg.dom) : body (env []) [(2, .vary [(7, .sc (.int .i64))])] Try.f27 impl_isFinite_sg x = impl_isFinite x.1 := by kernel_rfl
theorem impl_isFinite_so : Sound Try.prog 27 impl_isFinite_en := sound_of_body (envS (l := []) (trivial)) Try.func27 (by kernel_rfl) rfl (fun x y h => (impl_isFinite_eq x).trans h)

-- loop.example/g01204/impl.IsFiniteVec
noncomputable def impl_IsFiniteVec (a0 : (Vec 3 Nat)) : Option ((Bool × Unit) × Unit) :=
  (impl_isFinite ([Vec.getD 3 a0 0 (0 : Nat), Vec.getD 3 a0 1 (0 : Nat), Vec.getD 3 a0 2 (0 : Nat)] : (List Nat))).bind fun y233 =>
  some ((y233.1.1, ()), ())
noncomputable def impl_IsFiniteVec_sg : Sig := ⟨[.v (.arr 3 (.flt .f32))], [.v (.val (.bool))], false⟩
noncomputable def impl_IsFiniteVec_en : Entry := ⟨impl_IsFiniteVec_sg, fun x => impl_IsFiniteVec x.1⟩
theorem impl_IsFiniteVec_eq (x : impl_IsFiniteVec_sg.dom) : body (env [(27, impl_isFinite_en)]) [] Try.f51 impl_IsFiniteVec_sg x = impl_IsFiniteVec x.1 := by kernel_rfl
theorem impl_IsFiniteVec_so : Sound Try.prog 51 impl_IsFiniteVec_en := sound_of_body (envS (l := [(27, impl_isFinite_en)]) (⟨impl_isFinite_so, trivial⟩)) Try.func51 (by kernel_rfl) rfl (fun x y h => (impl_IsFiniteVec_eq x).trans h)

-- loop.example/g01204/impl.ScaleVec
noncomputable def impl_ScaleVec (a0 : (Vec 3 Nat)) (a1 : Nat) : Option (((Vec 3 Nat) × Unit) × Unit) :=
  let x241 := fMul .f32 (Vec.getD 3 a0 0 (0 : Nat)) a1
  let x243 := fMul .f32 (Vec.getD 3 (Vec.set 3 a0 0 x241) 1 (0 : Nat)) a1
  some (((Vec.set 3 (Vec.set 3 (Vec.set 3 a0 0 x241) 1 x243) 2 (fMul .f32 (Vec.getD 3 (Vec.set 3 (Vec.set 3 a0 0 x241) 1 x243) 2 (0 : Nat)) a1)), ()), ())
noncomputable def impl_ScaleVec_sg : Sig := ⟨[.v (.arr 3 (.flt .f32)), .v (.flt .f32)], [.v (.val (.arr 3 (.flt .f32)))], false⟩
noncomputable def impl_ScaleVec_en : Entry := ⟨impl_ScaleVec_sg, fun x => impl_ScaleVec x.1 x.2.1⟩
theorem impl_ScaleVec_eq (x : impl_ScaleVec_sg.dom) : body (env []) [(2, .unroll 4)] Try.f50 impl_ScaleVec_sg x = impl_ScaleVec x.1 x.2.1 := by kernel_rfl
theorem impl_ScaleVec_so : Sound Try.prog 50 impl_ScaleVec_en := sound_of_body (envS (l := []) (trivial)) Try.func50 (by kernel_rfl) rfl (fun x y h => (impl_ScaleVec_eq x).trans h)

-- loop.example/g01204/impl.ticksOf
noncomputable def impl_ticksOf_l3 (a0 : (Int × ((Vec 3 Nat) × ((List (Vec 3 Nat)) × ((List (Int × ((Vec 3 Nat) × (Int × (Int × Unit))))) × Unit))))) (s265 : (Int × Int × Unit)) : Option ((Int × Int × Unit) ⊕ ((Int × Unit) × Unit)) :=
  bif (iLt s265.2.1 (lenI a0.2.2.2.1)) then
    bif inB s265.2.1 (List.length a0.2.2.2.1) then
      some (Sum.inl ((iAdd .i64 s265.1 (List.getD a0.2.2.2.1 s265.2.1.toNat ((0, (0, 0, 0, ()), 0, 0, ()) : (Int × ((Vec 3 Nat) × (Int × (Int × Unit)))))).1), (iAdd .i64 s265.2.1 1), ()))
    else none
  else
  Option.map Sum.inr (some ((s265.1, ()), ()))
noncomputable def impl_ticksOf (a0 : (Int × ((Vec 3 Nat) × ((List (Vec 3 Nat)) × ((List (Int × ((Vec 3 Nat) × (Int × (Int × Unit))))) × Unit))))) : Option ((Int × Unit) × Unit) :=
  run (impl_ticksOf_l3 a0) ((0 : Int), (0 : Int), ())
noncomputable def impl_ticksOf_sg : Sig := ⟨[.v (.pair (.int .i64) (.pair (.arr 3 (.flt .f32)) (.pair (.list (.arr 3 (.flt .f32))) (.pair (.list (.pair (.int .i64) (.pair (.arr 3 (.flt .f32)) (.pair (.int .i64) (.pair (.int .i64) (.unit)))))) (.unit)))))], [.v (.val (.int .i64))], false⟩
noncomputable def impl_ticksOf_en : Entry := ⟨impl_ticksOf_sg, fun x => impl_ticksOf x.1⟩
theorem impl_ticksOf_eq (x : impl_ticksOf_sg.dom) : body (env []) [(3, .vary [(3, .sc (.int .i64)), (9, .sc (.int .i64))])] Try.f68 impl_ticksOf_sg x = impl_ticksOf x.1 := by kernel_rfl
theorem impl_ticksOf_so : Sound Try.prog 68 impl_ticksOf_en := sound_of_body (envS (l := []) (trivial)) Try.func68 (by kernel_rfl) rfl (fun x y h => (impl_ticksOf_eq x).trans h)

-- loop.example/g01204/impl.validFrame$1
noncomputable def impl_validFrame_1 (a0 : (Vec 3 Nat)) : Option ((Bool × Unit) × Unit) :=
  (impl_IsFiniteVec a0).bind fun y276 =>
  some (((! y276.1.1), ()), ())
noncomputable def impl_validFrame_1_sg : Sig := ⟨[.v (.arr 3 (.flt .f32))], [.v (.val (.bool))], false⟩
noncomputable def impl_validFrame_1_en : Entry := ⟨impl_validFrame_1_sg, fun x => impl_validFrame_1 x.1⟩
theorem impl_validFrame_1_eq (x : impl_validFrame_1_sg.dom) : body (env [(51, impl_IsFiniteVec_en)]) [] Try.f76 impl_validFrame_1_sg x = impl_validFrame_1 x.1 := by kernel_rfl
theorem impl_validFrame_1_so : Sound Try.prog 76 impl_validFrame_1_en := sound_of_body (envS (l := [(51, impl_IsFiniteVec_en)]) (⟨impl_IsFiniteVec_so, trivial⟩)) Try.func76 (by kernel_rfl) rfl (fun x y h => (impl_validFrame_1_eq x).trans h)

-- loop.example/g01204/impl.within
noncomputable def impl_within (a0 : Int) (a1 : Int) (a2 : Int) : Option ((Bool × Unit) × Unit) :=
  bif (iLe a1 a0) then
    some (((iLe a0 a2), ()), ())
  else some ((false, ()), ())
noncomputable def impl_within_sg : Sig := ⟨[.v (.int .i64), .v (.int .i64), .v (.int .i64)], [.v (.val (.bool))], false⟩
noncomputable def impl_within_en : Entry := ⟨impl_within_sg, fun x => impl_within x.1 x.2.1 x.2.2.1⟩
theorem impl_within_eq (x : impl_within_sg.dom) : body (env []) [] Try.f67 impl_within_sg x = impl_within x.1 x.2.1 x.2.2.1 := by kernel_rfl
theorem impl_within_so : Sound Try.prog 67 impl_within_en := sound_of_body (envS (l := []) (trivial)) Try.func67 (by kernel_rfl) rfl (fun x y h => (impl_within_eq x).trans h)

-- slices.IndexFunc[[]loop.example/g01204/impl.Vec,loop.example/g01204/impl.Vec]
noncomputable def slices_IndexFunc_impl_Vec_l2 (a0 : (List (Vec 3 Nat))) (a1 : (((Vec 3 Nat) × Unit) → Option Bool)) (s282 : (Int × Unit)) : Option ((Int × Unit) ⊕ ((Int × Unit) × Unit)) :=
  bif (iLt s282.1 (lenI a0)) then
    bif inB s282.1 (List.length a0) then
      (a1 ((List.getD a0 s282.1.toNat ((0, 0, 0, ()) : (Vec 3 Nat))), ())).bind fun y285 =>
      bif y285 then
        Option.map Sum.inr (some ((s282.1, ()), ()))
      else
      some (Sum.inl ((iAdd .i64 s282.1 1), ()))
    else none
  else
  Option.map Sum.inr (some ((((-1 : Int) : Int), ()), ()))
noncomputable def slices_IndexFunc_impl_Vec (a0 : (List (Vec 3 Nat))) (a1 : (((Vec 3 Nat) × Unit) → Option Bool)) : Option ((Int × Unit) × Unit) :=
  run (slices_IndexFunc_impl_Vec_l2 a0 a1) ((0 : Int), ())
noncomputable def slices_IndexFunc_impl_Vec_sg : Sig := ⟨[.v (.list (.arr 3 (.flt .f32))), .fn ⟨[.arr 3 (.flt .f32)], .bool⟩], [.v (.val (.int .i64))], false⟩
noncomputable def slices_IndexFunc_impl_Vec_en : Entry := ⟨slices_IndexFunc_impl_Vec_sg, fun x => slices_IndexFunc_impl_Vec x.1 x.2.1⟩
theorem slices_IndexFunc_impl_Vec_eq (x : slices_IndexFunc_impl_Vec_sg.dom) : body (env []) [(2, .vary [(8, .sc (.int .i64))])] Try.f78 slices_IndexFunc_impl_Vec_sg x = slices_IndexFunc_impl_Vec x.1 x.2.1 := by kernel_rfl
theorem slices_IndexFunc_impl_Vec_so : Sound Try.prog 78 slices_IndexFunc_impl_Vec_en := sound_of_body (envS (l := []) (trivial)) Try.func78 (by kernel_rfl) rfl (fun x y h => (slices_IndexFunc_impl_Vec_eq x).trans h)

-- slices.ContainsFunc[[]loop.example/g01204/impl.Vec,loop.example/g01204/impl.Vec]
noncomputable def slices_ContainsFunc_impl_Vec (a0 : (List (Vec 3 Nat))) (a1 : (((Vec 3 Nat) × Unit) → Option Bool)) : Option ((Bool × Unit) × Unit) :=
  (slices_IndexFunc_impl_Vec a0 a1).bind fun y280 =>
  some (((iLe 0 y280.1.1), ()), ())
noncomputable def slices_ContainsFunc_impl_Vec_sg : Sig := ⟨[.v (.list (.arr 3 (.flt .f32))), .fn ⟨[.arr 3 (.flt .f32)], .bool⟩], [.v (.val (.bool))], false⟩
noncomputable def slices_ContainsFunc_impl_Vec_en : Entry := ⟨slices_ContainsFunc_impl_Vec_sg, fun x => slices_ContainsFunc_impl_Vec x.1 x.2.1⟩
theorem slices_ContainsFunc_impl_Vec_eq (x : slices_ContainsFunc_impl_Vec_sg.dom) : body (env [(78, slices_IndexFunc_impl_Vec_en)]) [] Try.f75 slices_ContainsFunc_impl_Vec_sg x = slices_ContainsFunc_impl_Vec x.1 x.2.1 := by kernel_rfl
theorem slices_ContainsFunc_impl_Vec_so : Sound Try.prog 75 slices_ContainsFunc_impl_Vec_en := sound_of_body (envS (l := [(78, slices_IndexFunc_impl_Vec_en)]) (⟨slices_IndexFunc_impl_Vec_so, trivial⟩)) Try.func75 (by kernel_rfl) rfl (fun x y h => (slices_ContainsFunc_impl_Vec_eq x).trans h)

-- loop.example/g01204/impl.validFrame
noncomputable def impl_validFrame (a0 : Int) (a1 : (Vec 3 Nat)) (a2 : (List (Vec 3 Nat))) : Option ((Bool × Unit) × Unit) :=
  (impl_within a0 (1 : Int) (64 : Int)).bind fun y270 =>
  bif y270.1.1 then
    (impl_IsFiniteVec a1).bind fun y271 =>
    bif y271.1.1 then
      bif (iLe (lenI a2) 6) then
        (slices_ContainsFunc_impl_Vec a2 (fun (z273 : ((Vec 3 Nat) × Unit)) => (impl_validFrame_1 z273.1).map fun y => y.1.1)).bind fun y274 =>
        some (((! y274.1.1), ()), ())
      else some ((false, ()), ())
    else some ((false, ()), ())
  else some ((false, ()), ())
noncomputable def impl_validFrame_sg : Sig := ⟨[.v (.int .i64), .v (.arr 3 (.flt .f32)), .v (.list (.arr 3 (.flt .f32)))], [.v (.val (.bool))], false⟩
noncomputable def impl_validFrame_en : Entry := ⟨impl_validFrame_sg, fun x => impl_validFrame x.1 x.2.1 x.2.2.1⟩
theorem impl_validFrame_eq (x : impl_validFrame_sg.dom) : body (env [(51, impl_IsFiniteVec_en), (67, impl_within_en), (75, slices_ContainsFunc_impl_Vec_en), (76, impl_validFrame_1_en)]) [] Try.f66 impl_validFrame_sg x = impl_validFrame x.1 x.2.1 x.2.2.1 := by kernel_rfl
theorem impl_validFrame_so : Sound Try.prog 66 impl_validFrame_en := sound_of_body (envS (l := [(51, impl_IsFiniteVec_en), (67, impl_within_en), (75, slices_ContainsFunc_impl_Vec_en), (76, impl_validFrame_1_en)]) (⟨impl_IsFiniteVec_so, impl_within_so, slices_ContainsFunc_impl_Vec_so, impl_validFrame_1_so, trivial⟩)) Try.func66 (by kernel_rfl) rfl (fun x y h => (impl_validFrame_eq x).trans h)

-- loop.example/g01204/impl.ValidMission
noncomputable def impl_ValidMission_l4 (a0 : (Int × ((Vec 3 Nat) × ((List (Vec 3 Nat)) × ((List (Int × ((Vec 3 Nat) × (Int × (Int × Unit))))) × Unit))))) (s250 : (Int × Unit)) : Option ((Int × Unit) ⊕ ((Bool × Unit) × Unit)) :=
  bif (iLt s250.1 (lenI a0.2.2.2.1)) then
    bif inB s250.1 (List.length a0.2.2.2.1) then
      let x252 := List.getD a0.2.2.2.1 s250.1.toNat ((0, (0, 0, 0, ()), 0, 0, ()) : (Int × ((Vec 3 Nat) × (Int × (Int × Unit)))))
      (impl_within x252.1 (1 : Int) (400 : Int)).bind fun y253 =>
      bif (! y253.1.1) then
        Option.map Sum.inr (some ((false, ()), ()))
      else
      (impl_IsFiniteVec x252.2.1).bind fun y255 =>
      bif (! y255.1.1) then
        Option.map Sum.inr (some ((false, ()), ()))
      else
      (impl_within x252.2.2.1 (0 : Int) (400 : Int)).bind fun y257 =>
      bif (! y257.1.1) then
        Option.map Sum.inr (some ((false, ()), ()))
      else
      (impl_within x252.2.2.2.1 ((-1 : Int) : Int) (iSub .i64 (lenI a0.2.2.1) 1)).bind fun y260 =>
      bif (! y260.1.1) then
        Option.map Sum.inr (some ((false, ()), ()))
      else
      some (Sum.inl ((iAdd .i64 s250.1 1), ()))
    else none
  else
  Option.map Sum.inr (
    (impl_ticksOf a0).bind fun y263 =>
    some (((iLe y263.1.1 400), ()), ()))
noncomputable def impl_ValidMission (a0 : (Int × ((Vec 3 Nat) × ((List (Vec 3 Nat)) × ((List (Int × ((Vec 3 Nat) × (Int × (Int × Unit))))) × Unit))))) : Option ((Bool × Unit) × Unit) :=
  (impl_validFrame a0.1 a0.2.1 a0.2.2.1).bind fun y247 =>
  bif (! y247.1.1) then some ((false, ()), ()) else
  bif (iLt 64 (lenI a0.2.2.2.1)) then some ((false, ()), ()) else run (impl_ValidMission_l4 a0) ((0 : Int), ())
noncomputable def impl_ValidMission_sg : Sig := ⟨[.v (.pair (.int .i64) (.pair (.arr 3 (.flt .f32)) (.pair (.list (.arr 3 (.flt .f32))) (.pair (.list (.pair (.int .i64) (.pair (.arr 3 (.flt .f32)) (.pair (.int .i64) (.pair (.int .i64) (.unit)))))) (.unit)))))], [.v (.val (.bool))], false⟩
noncomputable def impl_ValidMission_en : Entry := ⟨impl_ValidMission_sg, fun x => impl_ValidMission x.1⟩
theorem impl_ValidMission_eq (x : impl_ValidMission_sg.dom) : body (env [(51, impl_IsFiniteVec_en), (66, impl_validFrame_en), (67, impl_within_en), (68, impl_ticksOf_en)]) [(4, .vary [(22, .sc (.int .i64))])] Try.f48 impl_ValidMission_sg x = impl_ValidMission x.1 := by kernel_rfl
theorem impl_ValidMission_so : Sound Try.prog 48 impl_ValidMission_en := sound_of_body (envS (l := [(51, impl_IsFiniteVec_en), (66, impl_validFrame_en), (67, impl_within_en), (68, impl_ticksOf_en)]) (⟨impl_IsFiniteVec_so, impl_validFrame_so, impl_within_so, impl_ticksOf_so, trivial⟩)) Try.func48 (by kernel_rfl) rfl (fun x y h => (impl_ValidMission_eq x).trans h)

-- loop.example/g01204/impl.TrackOf
noncomputable def impl_TrackOf_l10 (x205 : (Int × ((Vec 3 Nat) × (Int × (Int × Unit))))) (x182 : Nat) (s203 : ((List (Vec 3 Nat)) × Int × (Vec 3 Nat) × Unit)) (s214 : ((List (Vec 3 Nat)) × Int × (Vec 3 Nat) × Unit)) : Option (((List (Vec 3 Nat)) × Int × (Vec 3 Nat) × Unit) ⊕ (((List (Vec 3 Nat)) × Int × (Vec 3 Nat) × Unit) ⊕ (((List (Vec 3 Nat)) × Int × Unit) × Unit))) :=
  bif (iLt s214.2.1 x205.1) then
    (impl_ScaleVec x205.2.1 x182).bind fun y216 =>
    (impl_AddVec s214.2.2.1 y216.1.1).bind fun y217 =>
    (impl_IsFiniteVec y217.1.1).bind fun y218 =>
    bif (! y218.1.1) then
      Option.map Sum.inr (Option.map Sum.inr (some ((([] : (List (Vec 3 Nat))), (4 : Int), ()), ())))
    else
    bif room (List.length s214.1 + 1) 12 then
      some (Sum.inl ((s214.1 ++ ([y217.1.1] : (List (Vec 3 Nat)))), (iAdd .i64 s214.2.1 1), y217.1.1, ()))
    else none
  else
  Option.map Sum.inr (some (Sum.inl (s214.1, (iAdd .i64 s203.2.1 1), s214.2.2.1, ())))
noncomputable def impl_TrackOf_l7 (a0 : (Int × ((Vec 3 Nat) × ((List (Vec 3 Nat)) × ((List (Int × ((Vec 3 Nat) × (Int × (Int × Unit))))) × Unit))))) (x182 : Nat) (s203 : ((List (Vec 3 Nat)) × Int × (Vec 3 Nat) × Unit)) : Option (((List (Vec 3 Nat)) × Int × (Vec 3 Nat) × Unit) ⊕ (((List (Vec 3 Nat)) × Int × Unit) × Unit)) :=
  bif (iLt s203.2.1 (lenI a0.2.2.2.1)) then
    bif inB s203.2.1 (List.length a0.2.2.2.1) then
      let x205 := List.getD a0.2.2.2.1 s203.2.1.toNat ((0, (0, 0, 0, ()), 0, 0, ()) : (Int × ((Vec 3 Nat) × (Int × (Int × Unit)))))
      run (impl_TrackOf_l10 x205 x182 s203) (s203.1, (0 : Int), s203.2.2.1, ())
    else none
  else
  Option.map Sum.inr (some ((s203.1, (0 : Int), ()), ()))
noncomputable def impl_TrackOf (a0 : (Int × ((Vec 3 Nat) × ((List (Vec 3 Nat)) × ((List (Int × ((Vec 3 Nat) × (Int × (Int × Unit))))) × Unit))))) : Option (((List (Vec 3 Nat)) × Int × Unit) × Unit) :=
  (impl_ValidMission a0).bind fun y179 =>
  bif (! y179.1.1) then some ((([] : (List (Vec 3 Nat))), (1 : Int), ()), ()) else
  let x182 := fDiv .f32 1065353216 (fOfInt .f32 a0.1)
  run (impl_TrackOf_l7 a0 x182) (([a0.2.1] : (List (Vec 3 Nat))), (0 : Int), a0.2.1, ())
noncomputable def impl_TrackOf_sg : Sig := ⟨[.v (.pair (.int .i64) (.pair (.arr 3 (.flt .f32)) (.pair (.list (.arr 3 (.flt .f32))) (.pair (.list (.pair (.int .i64) (.pair (.arr 3 (.flt .f32)) (.pair (.int .i64) (.pair (.int .i64) (.unit)))))) (.unit)))))], [.v (.rows (.arr 3 (.flt .f32))), .v (.val (.int .i64))], false⟩
noncomputable def impl_TrackOf_en : Entry := ⟨impl_TrackOf_sg, fun x => impl_TrackOf x.1⟩
theorem impl_TrackOf_eq (x : impl_TrackOf_sg.dom) : body (env [(48, impl_ValidMission_en), (49, impl_AddVec_en), (50, impl_ScaleVec_en), (51, impl_IsFiniteVec_en)]) [(7, .vary [(6, .rows (.arr 3 (.flt .f32))), (23, .sc (.int .i64)), (5, .box (.val (.arr 3 (.flt .f32))))]), (10, .vary [(6, .rows (.arr 3 (.flt .f32))), (29, .sc (.int .i64)), (5, .box (.val (.arr 3 (.flt .f32))))])] Try.f20 impl_TrackOf_sg x = impl_TrackOf x.1 := by kernel_rfl
theorem impl_TrackOf_so : Sound Try.prog 20 impl_TrackOf_en := sound_of_body (envS (l := [(48, impl_ValidMission_en), (49, impl_AddVec_en), (50, impl_ScaleVec_en), (51, impl_IsFiniteVec_en)]) (⟨impl_ValidMission_so, impl_AddVec_so, impl_ScaleVec_so, impl_IsFiniteVec_so, trivial⟩)) Try.func20 (by kernel_rfl) rfl (fun x y h => (impl_TrackOf_eq x).trans h)

-- loop.example/g01204/impl.isNaN
noncomputable def impl_isNaN (a0 : Nat) : Option ((Bool × Unit) × Unit) :=
  some (((! (fEq .f32 a0 a0)), ()), ())
noncomputable def impl_isNaN_sg : Sig := ⟨[.v (.flt .f32)], [.v (.val (.bool))], false⟩
noncomputable def impl_isNaN_en : Entry := ⟨impl_isNaN_sg, fun x => impl_isNaN x.1⟩
theorem impl_isNaN_eq (x : impl_isNaN_sg.dom) : body (env []) [] Try.f69 impl_isNaN_sg x = impl_isNaN x.1 := by kernel_rfl
theorem impl_isNaN_so : Sound Try.prog 69 impl_isNaN_en := sound_of_body (envS (l := []) (trivial)) Try.func69 (by kernel_rfl) rfl (fun x y h => (impl_isNaN_eq x).trans h)

theorem math_RoundToEven_so : Sound Try.prog 70 math_RoundToEven_en := round_sound (name := "math.RoundToEven") Try.func70 (by kernel_rfl) (by kernel_rfl) (by kernel_rfl) (by kernel_rfl)

-- loop.example/g01204/impl.ToCount
noncomputable def impl_ToCount (a0 : Nat) : Option ((Int × Unit) × Unit) :=
  (impl_isNaN a0).bind fun y305 =>
  bif y305.1.1 then some (((0 : Int), ()), ()) else
  (fConv .f32 .f64 a0).bind fun y306 =>
  (math_RoundToEven y306).bind fun y307 =>
  (fToInt .f64 (fMin .f64 4674736138332667904 (fMax .f64 13898108450065350656 y307.1.1)) .i16).bind fun n310 =>
  some ((n310, ()), ())
noncomputable def impl_ToCount_sg : Sig := ⟨[.v (.flt .f32)], [.v (.val (.int .i16))], false⟩
noncomputable def impl_ToCount_en : Entry := ⟨impl_ToCount_sg, fun x => impl_ToCount x.1⟩
theorem impl_ToCount_eq (x : impl_ToCount_sg.dom) : body (env [(69, impl_isNaN_en), (70, math_RoundToEven_en)]) [] Try.f52 impl_ToCount_sg x = impl_ToCount x.1 := by kernel_rfl
theorem impl_ToCount_so : Sound Try.prog 52 impl_ToCount_en := sound_of_body (envS (l := [(69, impl_isNaN_en), (70, math_RoundToEven_en)]) (⟨impl_isNaN_so, math_RoundToEven_so, trivial⟩)) Try.func52 (by kernel_rfl) rfl (fun x y h => (impl_ToCount_eq x).trans h)

-- loop.example/g01204/impl.countsOf
noncomputable def impl_countsOf (a0 : ((Vec 3 Nat) × ((Vec 3 Nat) × (Int × (Int × Unit))))) (a1 : (Vec 3 Nat)) : Option (((Vec 3 Int) × Unit) × Unit) :=
  (impl_ToCount (fDiv .f32 (fSub .f32 (Vec.getD 3 a1 0 (0 : Nat)) (Vec.getD 3 a0.2.1 0 (0 : Nat))) (Vec.getD 3 a0.1 0 (0 : Nat)))).bind fun y292 =>
  (impl_ToCount (fDiv .f32 (fSub .f32 (Vec.getD 3 a1 1 (0 : Nat)) (Vec.getD 3 a0.2.1 1 (0 : Nat))) (Vec.getD 3 a0.1 1 (0 : Nat)))).bind fun y298 =>
  (impl_ToCount (fDiv .f32 (fSub .f32 (Vec.getD 3 a1 2 (0 : Nat)) (Vec.getD 3 a0.2.1 2 (0 : Nat))) (Vec.getD 3 a0.1 2 (0 : Nat)))).bind fun y304 =>
  some ((((y292.1.1, y298.1.1, y304.1.1, ()) : (Vec 3 Int)), ()), ())
noncomputable def impl_countsOf_sg : Sig := ⟨[.v (.pair (.arr 3 (.flt .f32)) (.pair (.arr 3 (.flt .f32)) (.pair (.int .i64) (.pair (.int .i64) (.unit))))), .v (.arr 3 (.flt .f32))], [.v (.val (.arr 3 (.int .i16)))], false⟩
noncomputable def impl_countsOf_en : Entry := ⟨impl_countsOf_sg, fun x => impl_countsOf x.1 x.2.1⟩
theorem impl_countsOf_eq (x : impl_countsOf_sg.dom) : body (env [(52, impl_ToCount_en)]) [(3, .unroll 4)] Try.f23 impl_countsOf_sg x = impl_countsOf x.1 x.2.1 := by kernel_rfl
theorem impl_countsOf_so : Sound Try.prog 23 impl_countsOf_en := sound_of_body (envS (l := [(52, impl_ToCount_en)]) (⟨impl_ToCount_so, trivial⟩)) Try.func23 (by kernel_rfl) rfl (fun x y h => (impl_countsOf_eq x).trans h)

-- slices.Clone[[]loop.example/g01204/impl.Vec,loop.example/g01204/impl.Vec]
noncomputable def slices_Clone_impl_Vec (a0 : (List (Vec 3 Nat))) : Option (((List (Vec 3 Nat)) × Unit) × Unit) :=
  bif List.isEmpty a0 then
    allSame fun (q312 : Bool) =>
    bif q312 then some ((([] : (List (Vec 3 Nat))), ()), ()) else
    bif room (0 + List.length a0) 12 then
      some (((([] : (List (Vec 3 Nat))) ++ a0), ()), ())
    else none
  else
  bif room (0 + List.length a0) 12 then
    some (((([] : (List (Vec 3 Nat))) ++ a0), ()), ())
  else none
noncomputable def slices_Clone_impl_Vec_sg : Sig := ⟨[.v (.list (.arr 3 (.flt .f32)))], [.v (.rows (.arr 3 (.flt .f32)))], false⟩
noncomputable def slices_Clone_impl_Vec_en : Entry := ⟨slices_Clone_impl_Vec_sg, fun x => slices_Clone_impl_Vec x.1⟩
theorem slices_Clone_impl_Vec_eq (x : slices_Clone_impl_Vec_sg.dom) : body (env []) [] Try.f21 slices_Clone_impl_Vec_sg x = slices_Clone_impl_Vec x.1 := by kernel_rfl
theorem slices_Clone_impl_Vec_so : Sound Try.prog 21 slices_Clone_impl_Vec_en := sound_of_body (envS (l := []) (trivial)) Try.func21 (by kernel_rfl) rfl (fun x y h => (slices_Clone_impl_Vec_eq x).trans h)

-- loop.example/g01204/impl.RunMission
noncomputable def impl_RunMission_l11 (x60 : (Int × ((Vec 3 Nat) × (Int × (Int × Unit))))) (y30 : (((List (Vec 3 Nat)) × Int × Unit) × Unit)) (s58 : (Int × Int × Int × (Int × ((Vec 3 Nat) × ((List (Vec 3 Nat)) × ((List (Int × ((Vec 3 Nat) × ((Vec 3 Int) × (Int × (Nat × Unit)))))) × Unit)))) × Unit)) (a0 : (Int × ((Vec 3 Nat) × ((List (Vec 3 Nat)) × ((List (Int × ((Vec 3 Nat) × (Int × (Int × Unit))))) × Unit))))) (s68 : (Int × Int × Int × (Int × ((Vec 3 Nat) × ((List (Vec 3 Nat)) × ((List (Int × ((Vec 3 Nat) × ((Vec 3 Int) × (Int × (Nat × Unit)))))) × Unit)))) × Unit)) : Option ((Int × Int × Int × (Int × ((Vec 3 Nat) × ((List (Vec 3 Nat)) × ((List (Int × ((Vec 3 Nat) × ((Vec 3 Int) × (Int × (Nat × Unit)))))) × Unit)))) × Unit) ⊕ ((Int × Int × Int × (Int × ((Vec 3 Nat) × ((List (Vec 3 Nat)) × ((List (Int × ((Vec 3 Nat) × ((Vec 3 Int) × (Int × (Nat × Unit)))))) × Unit)))) × Unit) ⊕ (((Int × ((Vec 3 Nat) × ((List (Vec 3 Nat)) × ((List (Int × ((Vec 3 Nat) × ((Vec 3 Int) × (Int × (Nat × Unit)))))) × Unit)))) × Int × Unit) × Unit))) :=
  bif (iLe s68.2.2.1 x60.1) then
    let x70 := iAdd .i64 s68.2.1 1
    bif room (List.length s68.2.2.2.1.2.2.2.1 + 1) 48 then
      let l71 := s68.2.2.2.1.2.2.2.1 ++ ([(1, (0, 0, 0, ()), (0, 0, 0, ()), 0, 0, ())] : (List (Int × ((Vec 3 Nat) × ((Vec 3 Int) × (Int × (Nat × Unit)))))))
      bif (iEq x60.2.2.1 0) then
        some (Sum.inl (s68.1, x70, (iAdd .i64 s68.2.2.1 1), ((s68.2.2.2.1.1, s68.2.2.2.1.2.1, s68.2.2.2.1.2.2.1, l71, s68.2.2.2.1.2.2.2.2) : (Int × ((Vec 3 Nat) × ((List (Vec 3 Nat)) × ((List (Int × ((Vec 3 Nat) × ((Vec 3 Int) × (Int × (Nat × Unit)))))) × Unit))))), ()))
      else
      bif iEq x60.2.2.1 0 then none else
      bif (! (iEq (iRem .i64 s68.2.2.1 x60.2.2.1) 0)) then
        some (Sum.inl (s68.1, x70, (iAdd .i64 s68.2.2.1 1), ((s68.2.2.2.1.1, s68.2.2.2.1.2.1, s68.2.2.2.1.2.2.1, l71, s68.2.2.2.1.2.2.2.2) : (Int × ((Vec 3 Nat) × ((List (Vec 3 Nat)) × ((List (Int × ((Vec 3 Nat) × ((Vec 3 Int) × (Int × (Nat × Unit)))))) × Unit))))), ()))
      else
      (impl_FixSensor).bind fun y77 =>
      bif inB x70 (List.length y30.1.1) then
        (impl_countsOf y77.1.1 (List.getD y30.1.1 x70.toNat ((0, 0, 0, ()) : (Vec 3 Nat)))).bind fun y79 =>
        (impl_ShakeCounts y79.1.1 s68.1 (4 : Int)).bind fun y80 =>
        bif room (List.length l71 + 1) 48 then
          some (Sum.inl (y80.1.2.1, x70, (iAdd .i64 s68.2.2.1 1), ((s68.2.2.2.1.1, s68.2.2.2.1.2.1, s68.2.2.2.1.2.2.1, (l71 ++ ([(3, (0, 0, 0, ()), y80.1.1, 0, 0, ())] : (List (Int × ((Vec 3 Nat) × ((Vec 3 Int) × (Int × (Nat × Unit)))))))), s68.2.2.2.1.2.2.2.2) : (Int × ((Vec 3 Nat) × ((List (Vec 3 Nat)) × ((List (Int × ((Vec 3 Nat) × ((Vec 3 Int) × (Int × (Nat × Unit)))))) × Unit))))), ()))
        else none
      else none
    else none
  else
  Option.map Sum.inr (
    bif (iLt x60.2.2.2.1 0) then
      some (Sum.inl (s68.1, s68.2.1, (iAdd .i64 s58.2.2.1 1), ((s68.2.2.2.1.1, s68.2.2.2.1.2.1, s68.2.2.2.1.2.2.1, s68.2.2.2.1.2.2.2.1, s68.2.2.2.1.2.2.2.2) : (Int × ((Vec 3 Nat) × ((List (Vec 3 Nat)) × ((List (Int × ((Vec 3 Nat) × ((Vec 3 Int) × (Int × (Nat × Unit)))))) × Unit))))), ()))
    else
    let x86 := iAdd .u32 (iMul .u32 1664525 s68.1) 1013904223
    bif inB s68.2.1 (List.length y30.1.1) then
      bif inB x60.2.2.2.1 (List.length a0.2.2.1) then
        (impl_SubVec (List.getD y30.1.1 s68.2.1.toNat ((0, 0, 0, ()) : (Vec 3 Nat))) (List.getD a0.2.2.1 x60.2.2.2.1.toNat ((0, 0, 0, ()) : (Vec 3 Nat)))).bind fun y93 =>
        (impl_LengthOf y93.1.1).bind fun y94 =>
        let x97 := fAdd .f32 y94.1.1 (fDiv .f32 (fOfInt .f32 (iSub .i64 (iRem .i64 (iWrap .i64 (iShr .u32 x86 16)) 9) 4)) 1098907648)
        (impl_isFinite ([x97] : (List Nat))).bind fun y98 =>
        bif (! y98.1.1) then
          Option.map Sum.inr (some ((((0, (0, 0, 0, ()), [], [], ()) : (Int × ((Vec 3 Nat) × ((List (Vec 3 Nat)) × ((List (Int × ((Vec 3 Nat) × ((Vec 3 Int) × (Int × (Nat × Unit)))))) × Unit))))), (4 : Int), ()), ()))
        else
        bif room (List.length s68.2.2.2.1.2.2.2.1 + 1) 48 then
          some (Sum.inl (x86, s68.2.1, (iAdd .i64 s58.2.2.1 1), ((s68.2.2.2.1.1, s68.2.2.2.1.2.1, s68.2.2.2.1.2.2.1, (s68.2.2.2.1.2.2.2.1 ++ ([(4, (0, 0, 0, ()), (0, 0, 0, ()), x60.2.2.2.1, x97, ())] : (List (Int × ((Vec 3 Nat) × ((Vec 3 Int) × (Int × (Nat × Unit)))))))), s68.2.2.2.1.2.2.2.2) : (Int × ((Vec 3 Nat) × ((List (Vec 3 Nat)) × ((List (Int × ((Vec 3 Nat) × ((Vec 3 Int) × (Int × (Nat × Unit)))))) × Unit))))), ()))
        else none
      else none
    else none)
noncomputable def impl_RunMission_l7 (a0 : (Int × ((Vec 3 Nat) × ((List (Vec 3 Nat)) × ((List (Int × ((Vec 3 Nat) × (Int × (Int × Unit))))) × Unit))))) (y30 : (((List (Vec 3 Nat)) × Int × Unit) × Unit)) (s58 : (Int × Int × Int × (Int × ((Vec 3 Nat) × ((List (Vec 3 Nat)) × ((List (Int × ((Vec 3 Nat) × ((Vec 3 Int) × (Int × (Nat × Unit)))))) × Unit)))) × Unit)) : Option ((Int × Int × Int × (Int × ((Vec 3 Nat) × ((List (Vec 3 Nat)) × ((List (Int × ((Vec 3 Nat) × ((Vec 3 Int) × (Int × (Nat × Unit)))))) × Unit)))) × Unit) ⊕ (((Int × ((Vec 3 Nat) × ((List (Vec 3 Nat)) × ((List (Int × ((Vec 3 Nat) × ((Vec 3 Int) × (Int × (Nat × Unit)))))) × Unit)))) × Int × Unit) × Unit)) :=
  bif (iLt s58.2.2.1 (lenI a0.2.2.2.1)) then
    bif inB s58.2.2.1 (List.length a0.2.2.2.1) then
      let x60 := List.getD a0.2.2.2.1 s58.2.2.1.toNat ((0, (0, 0, 0, ()), 0, 0, ()) : (Int × ((Vec 3 Nat) × (Int × (Int × Unit)))))
      bif room (List.length s58.2.2.2.1.2.2.2.1 + 1) 48 then
        run (impl_RunMission_l11 x60 y30 s58 a0) (s58.1, s58.2.1, (1 : Int), ((s58.2.2.2.1.1, s58.2.2.2.1.2.1, s58.2.2.2.1.2.2.1, (s58.2.2.2.1.2.2.2.1 ++ ([(2, x60.2.1, (0, 0, 0, ()), 0, 0, ())] : (List (Int × ((Vec 3 Nat) × ((Vec 3 Int) × (Int × (Nat × Unit)))))))), s58.2.2.2.1.2.2.2.2) : (Int × ((Vec 3 Nat) × ((List (Vec 3 Nat)) × ((List (Int × ((Vec 3 Nat) × ((Vec 3 Int) × (Int × (Nat × Unit)))))) × Unit))))), ())
      else none
    else none
  else
  Option.map Sum.inr (
    bif (iLt 1200 (lenI s58.2.2.2.1.2.2.2.1)) then some ((((0, (0, 0, 0, ()), [], [], ()) : (Int × ((Vec 3 Nat) × ((List (Vec 3 Nat)) × ((List (Int × ((Vec 3 Nat) × ((Vec 3 Int) × (Int × (Nat × Unit)))))) × Unit))))), (3 : Int), ()), ()) else
    some ((((s58.2.2.2.1.1, s58.2.2.2.1.2.1, s58.2.2.2.1.2.2.1, s58.2.2.2.1.2.2.2.1, s58.2.2.2.1.2.2.2.2) : (Int × ((Vec 3 Nat) × ((List (Vec 3 Nat)) × ((List (Int × ((Vec 3 Nat) × ((Vec 3 Int) × (Int × (Nat × Unit)))))) × Unit))))), (0 : Int), ()), ()))
noncomputable def impl_RunMission (a0 : (Int × ((Vec 3 Nat) × ((List (Vec 3 Nat)) × ((List (Int × ((Vec 3 Nat) × (Int × (Int × Unit))))) × Unit))))) (a1 : Int) : Option (((Int × ((Vec 3 Nat) × ((List (Vec 3 Nat)) × ((List (Int × ((Vec 3 Nat) × ((Vec 3 Int) × (Int × (Nat × Unit)))))) × Unit)))) × Int × Unit) × Unit) :=
  (impl_TrackOf a0).bind fun y30 =>
  bif (! (iEq y30.1.2.1 0)) then some ((((0, (0, 0, 0, ()), [], [], ()) : (Int × ((Vec 3 Nat) × ((List (Vec 3 Nat)) × ((List (Int × ((Vec 3 Nat) × ((Vec 3 Int) × (Int × (Nat × Unit)))))) × Unit))))), y30.1.2.1, ()), ()) else
  (slices_Clone_impl_Vec a0.2.2.1).bind fun y32 =>
  run (impl_RunMission_l7 a0 y30) (a1, (0 : Int), (0 : Int), ((a0.1, a0.2.1, y32.1.1, [], ()) : (Int × ((Vec 3 Nat) × ((List (Vec 3 Nat)) × ((List (Int × ((Vec 3 Nat) × ((Vec 3 Int) × (Int × (Nat × Unit)))))) × Unit))))), ())
noncomputable def impl_RunMission_sg : Sig := ⟨[.v (.pair (.int .i64) (.pair (.arr 3 (.flt .f32)) (.pair (.list (.arr 3 (.flt .f32))) (.pair (.list (.pair (.int .i64) (.pair (.arr 3 (.flt .f32)) (.pair (.int .i64) (.pair (.int .i64) (.unit)))))) (.unit))))), .v (.int .u32)], [.v (.pair (.val (.int .i64)) (.pair (.val (.arr 3 (.flt .f32))) (.pair (.rows (.arr 3 (.flt .f32))) (.pair (.rows (.pair (.int .i64) (.pair (.arr 3 (.flt .f32)) (.pair (.arr 3 (.int .i16)) (.pair (.int .i64) (.pair (.flt .f32) (.unit))))))) (.val (.unit)))))), .v (.val (.int .i64))], false⟩
noncomputable def impl_RunMission_en : Entry := ⟨impl_RunMission_sg, fun x => impl_RunMission x.1 x.2.1⟩
theorem impl_RunMission_eq (x : impl_RunMission_sg.dom) : body (env [(20, impl_TrackOf_en), (21, slices_Clone_impl_Vec_en), (22, impl_ShakeCounts_en), (23, impl_countsOf_en), (24, impl_FixSensor_en), (25, impl_LengthOf_en), (26, impl_SubVec_en), (27, impl_isFinite_en)]) [(7, .vary [(1, .sc (.int .u32)), (9, .sc (.int .i64)), (38, .sc (.int .i64)), (8, .box (.pair (.val (.int .i64)) (.pair (.val (.arr 3 (.flt .f32))) (.pair (.rows (.arr 3 (.flt .f32))) (.pair (.rows (.pair (.int .i64) (.pair (.arr 3 (.flt .f32)) (.pair (.arr 3 (.int .i16)) (.pair (.int .i64) (.pair (.flt .f32) (.unit))))))) (.val (.unit)))))))]), (11, .vary [(1, .sc (.int .u32)), (9, .sc (.int .i64)), (12, .sc (.int .i64)), (8, .box (.pair (.val (.int .i64)) (.pair (.val (.arr 3 (.flt .f32))) (.pair (.rows (.arr 3 (.flt .f32))) (.pair (.rows (.pair (.int .i64) (.pair (.arr 3 (.flt .f32)) (.pair (.arr 3 (.int .i16)) (.pair (.int .i64) (.pair (.flt .f32) (.unit))))))) (.val (.unit)))))))])] Try.f7 impl_RunMission_sg x = impl_RunMission x.1 x.2.1 := by kernel_rfl
theorem impl_RunMission_so : Sound Try.prog 7 impl_RunMission_en := sound_of_body (envS (l := [(20, impl_TrackOf_en), (21, slices_Clone_impl_Vec_en), (22, impl_ShakeCounts_en), (23, impl_countsOf_en), (24, impl_FixSensor_en), (25, impl_LengthOf_en), (26, impl_SubVec_en), (27, impl_isFinite_en)]) (⟨impl_TrackOf_so, slices_Clone_impl_Vec_so, impl_ShakeCounts_so, impl_countsOf_so, impl_FixSensor_so, impl_LengthOf_so, impl_SubVec_so, impl_isFinite_so, trivial⟩)) Try.func7 (by kernel_rfl) rfl (fun x y h => (impl_RunMission_eq x).trans h)

-- loop.example/g01204/laws.eqCounts
noncomputable def laws_eqCounts (a0 : (Vec 3 Int)) (a1 : (Vec 3 Int)) : Option ((Bool × Unit) × Unit) :=
  bif (! (iEq (Vec.getD 3 a0 0 (0 : Int)) (Vec.getD 3 a1 0 (0 : Int)))) then some ((false, ()), ()) else
  bif (! (iEq (Vec.getD 3 a0 1 (0 : Int)) (Vec.getD 3 a1 1 (0 : Int)))) then some ((false, ()), ()) else
  bif (! (iEq (Vec.getD 3 a0 2 (0 : Int)) (Vec.getD 3 a1 2 (0 : Int)))) then some ((false, ()), ()) else some ((true, ()), ())
noncomputable def laws_eqCounts_sg : Sig := ⟨[.v (.arr 3 (.int .i16)), .v (.arr 3 (.int .i16))], [.v (.val (.bool))], false⟩
noncomputable def laws_eqCounts_en : Entry := ⟨laws_eqCounts_sg, fun x => laws_eqCounts x.1 x.2.1⟩
theorem laws_eqCounts_eq (x : laws_eqCounts_sg.dom) : body (env []) [(2, .unroll 4)] Try.f73 laws_eqCounts_sg x = laws_eqCounts x.1 x.2.1 := by kernel_rfl
theorem laws_eqCounts_so : Sound Try.prog 73 laws_eqCounts_en := sound_of_body (envS (l := []) (trivial)) Try.func73 (by kernel_rfl) rfl (fun x y h => (laws_eqCounts_eq x).trans h)

-- loop.example/g01204/laws.sameFloat
noncomputable def laws_sameFloat (a0 : Nat) (a1 : Nat) : Option ((Bool × Unit) × Unit) :=
  bif (! (fEq .f64 a0 a0)) then
    bif (! (fEq .f64 a0 a0)) then
      some (((! (fEq .f64 a1 a1)), ()), ())
    else some ((false, ()), ())
  else
  bif (! (fEq .f64 a1 a1)) then
    bif (! (fEq .f64 a0 a0)) then
      some (((! (fEq .f64 a1 a1)), ()), ())
    else some ((false, ()), ())
  else
  bif (fEq .f64 a0 0) then
    bif (fEq .f64 a1 0) then
      some (((bEq (fLt .f64 0 (fDiv .f64 4607182418800017408 a0)) (fLt .f64 0 (fDiv .f64 4607182418800017408 a1))), ()), ())
    else
    some (((fEq .f64 a0 a1), ()), ())
  else
  some (((fEq .f64 a0 a1), ()), ())
noncomputable def laws_sameFloat_sg : Sig := ⟨[.v (.flt .f64), .v (.flt .f64)], [.v (.val (.bool))], false⟩
noncomputable def laws_sameFloat_en : Entry := ⟨laws_sameFloat_sg, fun x => laws_sameFloat x.1 x.2.1⟩
theorem laws_sameFloat_eq (x : laws_sameFloat_sg.dom) : body (env []) [] Try.f55 laws_sameFloat_sg x = laws_sameFloat x.1 x.2.1 := by kernel_rfl
theorem laws_sameFloat_so : Sound Try.prog 55 laws_sameFloat_en := sound_of_body (envS (l := []) (trivial)) Try.func55 (by kernel_rfl) rfl (fun x y h => (laws_sameFloat_eq x).trans h)

-- loop.example/g01204/laws.eqVec
noncomputable def laws_eqVec (a0 : (Vec 3 Nat)) (a1 : (Vec 3 Nat)) : Option ((Bool × Unit) × Unit) :=
  (fConv .f32 .f64 (Vec.getD 3 a0 0 (0 : Nat))).bind fun y350 =>
  (fConv .f32 .f64 (Vec.getD 3 a1 0 (0 : Nat))).bind fun y352 =>
  (laws_sameFloat y350 y352).bind fun y353 =>
  bif (! y353.1.1) then some ((false, ()), ()) else
  (fConv .f32 .f64 (Vec.getD 3 a0 1 (0 : Nat))).bind fun y356 =>
  (fConv .f32 .f64 (Vec.getD 3 a1 1 (0 : Nat))).bind fun y358 =>
  (laws_sameFloat y356 y358).bind fun y359 =>
  bif (! y359.1.1) then some ((false, ()), ()) else
  (fConv .f32 .f64 (Vec.getD 3 a0 2 (0 : Nat))).bind fun y362 =>
  (fConv .f32 .f64 (Vec.getD 3 a1 2 (0 : Nat))).bind fun y364 =>
  (laws_sameFloat y362 y364).bind fun y365 =>
  bif (! y365.1.1) then some ((false, ()), ()) else some ((true, ()), ())
noncomputable def laws_eqVec_sg : Sig := ⟨[.v (.arr 3 (.flt .f32)), .v (.arr 3 (.flt .f32))], [.v (.val (.bool))], false⟩
noncomputable def laws_eqVec_en : Entry := ⟨laws_eqVec_sg, fun x => laws_eqVec x.1 x.2.1⟩
theorem laws_eqVec_eq (x : laws_eqVec_sg.dom) : body (env [(55, laws_sameFloat_en)]) [(2, .unroll 4)] Try.f28 laws_eqVec_sg x = laws_eqVec x.1 x.2.1 := by kernel_rfl
theorem laws_eqVec_so : Sound Try.prog 28 laws_eqVec_en := sound_of_body (envS (l := [(55, laws_sameFloat_en)]) (⟨laws_sameFloat_so, trivial⟩)) Try.func28 (by kernel_rfl) rfl (fun x y h => (laws_eqVec_eq x).trans h)

-- loop.example/g01204/laws.eqEntry
noncomputable def laws_eqEntry (a0 : (Int × ((Vec 3 Nat) × ((Vec 3 Int) × (Int × (Nat × Unit)))))) (a1 : (Int × ((Vec 3 Nat) × ((Vec 3 Int) × (Int × (Nat × Unit)))))) : Option ((Bool × Unit) × Unit) :=
  bif (! (iEq a0.1 a1.1)) then some ((false, ()), ()) else
  (laws_eqVec a0.2.1 a1.2.1).bind fun y331 =>
  bif (! y331.1.1) then some ((false, ()), ()) else
  (laws_eqCounts a0.2.2.1 a1.2.2.1).bind fun y333 =>
  bif (! y333.1.1) then some ((false, ()), ()) else
  bif (! (iEq a0.2.2.2.1 a1.2.2.2.1)) then some ((false, ()), ()) else
  (fConv .f32 .f64 a0.2.2.2.2.1).bind fun y336 =>
  (fConv .f32 .f64 a1.2.2.2.2.1).bind fun y337 =>
  (laws_sameFloat y336 y337).bind fun y338 =>
  bif (! y338.1.1) then some ((false, ()), ()) else some ((true, ()), ())
noncomputable def laws_eqEntry_sg : Sig := ⟨[.v (.pair (.int .i64) (.pair (.arr 3 (.flt .f32)) (.pair (.arr 3 (.int .i16)) (.pair (.int .i64) (.pair (.flt .f32) (.unit)))))), .v (.pair (.int .i64) (.pair (.arr 3 (.flt .f32)) (.pair (.arr 3 (.int .i16)) (.pair (.int .i64) (.pair (.flt .f32) (.unit))))))], [.v (.val (.bool))], false⟩
noncomputable def laws_eqEntry_en : Entry := ⟨laws_eqEntry_sg, fun x => laws_eqEntry x.1 x.2.1⟩
theorem laws_eqEntry_eq (x : laws_eqEntry_sg.dom) : body (env [(28, laws_eqVec_en), (55, laws_sameFloat_en), (73, laws_eqCounts_en)]) [] Try.f56 laws_eqEntry_sg x = laws_eqEntry x.1 x.2.1 := by kernel_rfl
theorem laws_eqEntry_so : Sound Try.prog 56 laws_eqEntry_en := sound_of_body (envS (l := [(28, laws_eqVec_en), (55, laws_sameFloat_en), (73, laws_eqCounts_en)]) (⟨laws_eqVec_so, laws_sameFloat_so, laws_eqCounts_so, trivial⟩)) Try.func56 (by kernel_rfl) rfl (fun x y h => (laws_eqEntry_eq x).trans h)

-- loop.example/g01204/laws.eqEntryS
noncomputable def laws_eqEntryS_l4 (a0 : (List (Int × ((Vec 3 Nat) × ((Vec 3 Int) × (Int × (Nat × Unit))))))) (a1 : (List (Int × ((Vec 3 Nat) × ((Vec 3 Int) × (Int × (Nat × Unit))))))) (s323 : (Int × Unit)) : Option ((Int × Unit) ⊕ ((Bool × Unit) × Unit)) :=
  bif (iLt s323.1 (lenI a0)) then
    bif inB s323.1 (List.length a0) then
      bif inB s323.1 (List.length a1) then
        (laws_eqEntry (List.getD a0 s323.1.toNat ((0, (0, 0, 0, ()), (0, 0, 0, ()), 0, 0, ()) : (Int × ((Vec 3 Nat) × ((Vec 3 Int) × (Int × (Nat × Unit))))))) (List.getD a1 s323.1.toNat ((0, (0, 0, 0, ()), (0, 0, 0, ()), 0, 0, ()) : (Int × ((Vec 3 Nat) × ((Vec 3 Int) × (Int × (Nat × Unit)))))))).bind fun y327 =>
        bif (! y327.1.1) then
          Option.map Sum.inr (some ((false, ()), ()))
        else
        some (Sum.inl ((iAdd .i64 s323.1 1), ()))
      else none
    else none
  else
  Option.map Sum.inr (some ((true, ()), ()))
noncomputable def laws_eqEntryS (a0 : (List (Int × ((Vec 3 Nat) × ((Vec 3 Int) × (Int × (Nat × Unit))))))) (a1 : (List (Int × ((Vec 3 Nat) × ((Vec 3 Int) × (Int × (Nat × Unit))))))) : Option ((Bool × Unit) × Unit) :=
  bif (! (iEq (lenI a0) (lenI a1))) then some ((false, ()), ()) else run (laws_eqEntryS_l4 a0 a1) ((0 : Int), ())
noncomputable def laws_eqEntryS_sg : Sig := ⟨[.v (.list (.pair (.int .i64) (.pair (.arr 3 (.flt .f32)) (.pair (.arr 3 (.int .i16)) (.pair (.int .i64) (.pair (.flt .f32) (.unit))))))), .v (.list (.pair (.int .i64) (.pair (.arr 3 (.flt .f32)) (.pair (.arr 3 (.int .i16)) (.pair (.int .i64) (.pair (.flt .f32) (.unit)))))))], [.v (.val (.bool))], false⟩
noncomputable def laws_eqEntryS_en : Entry := ⟨laws_eqEntryS_sg, fun x => laws_eqEntryS x.1 x.2.1⟩
theorem laws_eqEntryS_eq (x : laws_eqEntryS_sg.dom) : body (env [(56, laws_eqEntry_en)]) [(4, .vary [(5, .sc (.int .i64))])] Try.f30 laws_eqEntryS_sg x = laws_eqEntryS x.1 x.2.1 := by kernel_rfl
theorem laws_eqEntryS_so : Sound Try.prog 30 laws_eqEntryS_en := sound_of_body (envS (l := [(56, laws_eqEntry_en)]) (⟨laws_eqEntry_so, trivial⟩)) Try.func30 (by kernel_rfl) rfl (fun x y h => (laws_eqEntryS_eq x).trans h)

-- loop.example/g01204/laws.eqVecS
noncomputable def laws_eqVecS_l4 (a0 : (List (Vec 3 Nat))) (a1 : (List (Vec 3 Nat))) (s383 : (Int × Unit)) : Option ((Int × Unit) ⊕ ((Bool × Unit) × Unit)) :=
  bif (iLt s383.1 (lenI a0)) then
    bif inB s383.1 (List.length a0) then
      bif inB s383.1 (List.length a1) then
        (laws_eqVec (List.getD a0 s383.1.toNat ((0, 0, 0, ()) : (Vec 3 Nat))) (List.getD a1 s383.1.toNat ((0, 0, 0, ()) : (Vec 3 Nat)))).bind fun y387 =>
        bif (! y387.1.1) then
          Option.map Sum.inr (some ((false, ()), ()))
        else
        some (Sum.inl ((iAdd .i64 s383.1 1), ()))
      else none
    else none
  else
  Option.map Sum.inr (some ((true, ()), ()))
noncomputable def laws_eqVecS (a0 : (List (Vec 3 Nat))) (a1 : (List (Vec 3 Nat))) : Option ((Bool × Unit) × Unit) :=
  bif (! (iEq (lenI a0) (lenI a1))) then some ((false, ()), ()) else run (laws_eqVecS_l4 a0 a1) ((0 : Int), ())
noncomputable def laws_eqVecS_sg : Sig := ⟨[.v (.list (.arr 3 (.flt .f32))), .v (.list (.arr 3 (.flt .f32)))], [.v (.val (.bool))], false⟩
noncomputable def laws_eqVecS_en : Entry := ⟨laws_eqVecS_sg, fun x => laws_eqVecS x.1 x.2.1⟩
theorem laws_eqVecS_eq (x : laws_eqVecS_sg.dom) : body (env [(28, laws_eqVec_en)]) [(4, .vary [(5, .sc (.int .i64))])] Try.f29 laws_eqVecS_sg x = laws_eqVecS x.1 x.2.1 := by kernel_rfl
theorem laws_eqVecS_so : Sound Try.prog 29 laws_eqVecS_en := sound_of_body (envS (l := [(28, laws_eqVec_en)]) (⟨laws_eqVec_so, trivial⟩)) Try.func29 (by kernel_rfl) rfl (fun x y h => (laws_eqVecS_eq x).trans h)

-- loop.example/g01204/laws.eqLog
noncomputable def laws_eqLog (a0 : (Int × ((Vec 3 Nat) × ((List (Vec 3 Nat)) × ((List (Int × ((Vec 3 Nat) × ((Vec 3 Int) × (Int × (Nat × Unit)))))) × Unit))))) (a1 : (Int × ((Vec 3 Nat) × ((List (Vec 3 Nat)) × ((List (Int × ((Vec 3 Nat) × ((Vec 3 Int) × (Int × (Nat × Unit)))))) × Unit))))) : Option ((Bool × Unit) × Unit) :=
  bif (! (iEq a0.1 a1.1)) then some ((false, ()), ()) else
  (laws_eqVec a0.2.1 a1.2.1).bind fun y316 =>
  bif (! y316.1.1) then some ((false, ()), ()) else
  (laws_eqVecS a0.2.2.1 a1.2.2.1).bind fun y318 =>
  bif (! y318.1.1) then some ((false, ()), ()) else
  (laws_eqEntryS a0.2.2.2.1 a1.2.2.2.1).bind fun y320 =>
  bif (! y320.1.1) then some ((false, ()), ()) else some ((true, ()), ())
noncomputable def laws_eqLog_sg : Sig := ⟨[.v (.pair (.int .i64) (.pair (.arr 3 (.flt .f32)) (.pair (.list (.arr 3 (.flt .f32))) (.pair (.list (.pair (.int .i64) (.pair (.arr 3 (.flt .f32)) (.pair (.arr 3 (.int .i16)) (.pair (.int .i64) (.pair (.flt .f32) (.unit))))))) (.unit))))), .v (.pair (.int .i64) (.pair (.arr 3 (.flt .f32)) (.pair (.list (.arr 3 (.flt .f32))) (.pair (.list (.pair (.int .i64) (.pair (.arr 3 (.flt .f32)) (.pair (.arr 3 (.int .i16)) (.pair (.int .i64) (.pair (.flt .f32) (.unit))))))) (.unit)))))], [.v (.val (.bool))], false⟩
noncomputable def laws_eqLog_en : Entry := ⟨laws_eqLog_sg, fun x => laws_eqLog x.1 x.2.1⟩
theorem laws_eqLog_eq (x : laws_eqLog_sg.dom) : body (env [(28, laws_eqVec_en), (29, laws_eqVecS_en), (30, laws_eqEntryS_en)]) [] Try.f8 laws_eqLog_sg x = laws_eqLog x.1 x.2.1 := by kernel_rfl
theorem laws_eqLog_so : Sound Try.prog 8 laws_eqLog_en := sound_of_body (envS (l := [(28, laws_eqVec_en), (29, laws_eqVecS_en), (30, laws_eqEntryS_en)]) (⟨laws_eqVec_so, laws_eqVecS_so, laws_eqEntryS_so, trivial⟩)) Try.func8 (by kernel_rfl) rfl (fun x y h => (laws_eqLog_eq x).trans h)

-- loop.example/g01204/laws.eqLeg
noncomputable def laws_eqLeg (a0 : (Int × ((Vec 3 Nat) × (Int × (Int × Unit))))) (a1 : (Int × ((Vec 3 Nat) × (Int × (Int × Unit))))) : Option ((Bool × Unit) × Unit) :=
  bif (! (iEq a0.1 a1.1)) then some ((false, ()), ()) else
  (laws_eqVec a0.2.1 a1.2.1).bind fun y406 =>
  bif (! y406.1.1) then some ((false, ()), ()) else
  bif (! (iEq a0.2.2.1 a1.2.2.1)) then some ((false, ()), ()) else
  bif (! (iEq a0.2.2.2.1 a1.2.2.2.1)) then some ((false, ()), ()) else some ((true, ()), ())
noncomputable def laws_eqLeg_sg : Sig := ⟨[.v (.pair (.int .i64) (.pair (.arr 3 (.flt .f32)) (.pair (.int .i64) (.pair (.int .i64) (.unit))))), .v (.pair (.int .i64) (.pair (.arr 3 (.flt .f32)) (.pair (.int .i64) (.pair (.int .i64) (.unit)))))], [.v (.val (.bool))], false⟩
noncomputable def laws_eqLeg_en : Entry := ⟨laws_eqLeg_sg, fun x => laws_eqLeg x.1 x.2.1⟩
theorem laws_eqLeg_eq (x : laws_eqLeg_sg.dom) : body (env [(28, laws_eqVec_en)]) [] Try.f57 laws_eqLeg_sg x = laws_eqLeg x.1 x.2.1 := by kernel_rfl
theorem laws_eqLeg_so : Sound Try.prog 57 laws_eqLeg_en := sound_of_body (envS (l := [(28, laws_eqVec_en)]) (⟨laws_eqVec_so, trivial⟩)) Try.func57 (by kernel_rfl) rfl (fun x y h => (laws_eqLeg_eq x).trans h)

-- loop.example/g01204/laws.eqLegS
noncomputable def laws_eqLegS_l4 (a0 : (List (Int × ((Vec 3 Nat) × (Int × (Int × Unit)))))) (a1 : (List (Int × ((Vec 3 Nat) × (Int × (Int × Unit)))))) (s398 : (Int × Unit)) : Option ((Int × Unit) ⊕ ((Bool × Unit) × Unit)) :=
  bif (iLt s398.1 (lenI a0)) then
    bif inB s398.1 (List.length a0) then
      bif inB s398.1 (List.length a1) then
        (laws_eqLeg (List.getD a0 s398.1.toNat ((0, (0, 0, 0, ()), 0, 0, ()) : (Int × ((Vec 3 Nat) × (Int × (Int × Unit)))))) (List.getD a1 s398.1.toNat ((0, (0, 0, 0, ()), 0, 0, ()) : (Int × ((Vec 3 Nat) × (Int × (Int × Unit))))))).bind fun y402 =>
        bif (! y402.1.1) then
          Option.map Sum.inr (some ((false, ()), ()))
        else
        some (Sum.inl ((iAdd .i64 s398.1 1), ()))
      else none
    else none
  else
  Option.map Sum.inr (some ((true, ()), ()))
noncomputable def laws_eqLegS (a0 : (List (Int × ((Vec 3 Nat) × (Int × (Int × Unit)))))) (a1 : (List (Int × ((Vec 3 Nat) × (Int × (Int × Unit)))))) : Option ((Bool × Unit) × Unit) :=
  bif (! (iEq (lenI a0) (lenI a1))) then some ((false, ()), ()) else run (laws_eqLegS_l4 a0 a1) ((0 : Int), ())
noncomputable def laws_eqLegS_sg : Sig := ⟨[.v (.list (.pair (.int .i64) (.pair (.arr 3 (.flt .f32)) (.pair (.int .i64) (.pair (.int .i64) (.unit)))))), .v (.list (.pair (.int .i64) (.pair (.arr 3 (.flt .f32)) (.pair (.int .i64) (.pair (.int .i64) (.unit))))))], [.v (.val (.bool))], false⟩
noncomputable def laws_eqLegS_en : Entry := ⟨laws_eqLegS_sg, fun x => laws_eqLegS x.1 x.2.1⟩
theorem laws_eqLegS_eq (x : laws_eqLegS_sg.dom) : body (env [(57, laws_eqLeg_en)]) [(4, .vary [(5, .sc (.int .i64))])] Try.f31 laws_eqLegS_sg x = laws_eqLegS x.1 x.2.1 := by kernel_rfl
theorem laws_eqLegS_so : Sound Try.prog 31 laws_eqLegS_en := sound_of_body (envS (l := [(57, laws_eqLeg_en)]) (⟨laws_eqLeg_so, trivial⟩)) Try.func31 (by kernel_rfl) rfl (fun x y h => (laws_eqLegS_eq x).trans h)

-- loop.example/g01204/laws.eqMission
noncomputable def laws_eqMission (a0 : (Int × ((Vec 3 Nat) × ((List (Vec 3 Nat)) × ((List (Int × ((Vec 3 Nat) × (Int × (Int × Unit))))) × Unit))))) (a1 : (Int × ((Vec 3 Nat) × ((List (Vec 3 Nat)) × ((List (Int × ((Vec 3 Nat) × (Int × (Int × Unit))))) × Unit))))) : Option ((Bool × Unit) × Unit) :=
  bif (! (iEq a0.1 a1.1)) then some ((false, ()), ()) else
  (laws_eqVec a0.2.1 a1.2.1).bind fun y391 =>
  bif (! y391.1.1) then some ((false, ()), ()) else
  (laws_eqVecS a0.2.2.1 a1.2.2.1).bind fun y393 =>
  bif (! y393.1.1) then some ((false, ()), ()) else
  (laws_eqLegS a0.2.2.2.1 a1.2.2.2.1).bind fun y395 =>
  bif (! y395.1.1) then some ((false, ()), ()) else some ((true, ()), ())
noncomputable def laws_eqMission_sg : Sig := ⟨[.v (.pair (.int .i64) (.pair (.arr 3 (.flt .f32)) (.pair (.list (.arr 3 (.flt .f32))) (.pair (.list (.pair (.int .i64) (.pair (.arr 3 (.flt .f32)) (.pair (.int .i64) (.pair (.int .i64) (.unit)))))) (.unit))))), .v (.pair (.int .i64) (.pair (.arr 3 (.flt .f32)) (.pair (.list (.arr 3 (.flt .f32))) (.pair (.list (.pair (.int .i64) (.pair (.arr 3 (.flt .f32)) (.pair (.int .i64) (.pair (.int .i64) (.unit)))))) (.unit)))))], [.v (.val (.bool))], false⟩
noncomputable def laws_eqMission_en : Entry := ⟨laws_eqMission_sg, fun x => laws_eqMission x.1 x.2.1⟩
theorem laws_eqMission_eq (x : laws_eqMission_sg.dom) : body (env [(28, laws_eqVec_en), (29, laws_eqVecS_en), (31, laws_eqLegS_en)]) [] Try.f9 laws_eqMission_sg x = laws_eqMission x.1 x.2.1 := by kernel_rfl
theorem laws_eqMission_so : Sound Try.prog 9 laws_eqMission_en := sound_of_body (envS (l := [(28, laws_eqVec_en), (29, laws_eqVecS_en), (31, laws_eqLegS_en)]) (⟨laws_eqVec_so, laws_eqVecS_so, laws_eqLegS_so, trivial⟩)) Try.func9 (by kernel_rfl) rfl (fun x y h => (laws_eqMission_eq x).trans h)

-- loop.example/g01204/laws.heldEntryS
noncomputable def laws_heldEntryS_l2 (a0 : (List (Int × ((Vec 3 Nat) × ((Vec 3 Int) × (Int × (Nat × Unit))))))) (s414 : (Int × Int × Unit)) : Option ((Int × Int × Unit) ⊕ ((Int × Unit) × Unit)) :=
  bif (iLt s414.2.1 (lenI a0)) then
    bif inB s414.2.1 (List.length a0) then
      bif (! (iEq ((List.getD a0 s414.2.1.toNat ((0, (0, 0, 0, ()), (0, 0, 0, ()), 0, 0, ()) : (Int × ((Vec 3 Nat) × ((Vec 3 Int) × (Int × (Nat × Unit))))))).1) s414.1)) then
        Option.map Sum.inr (some ((((-1 : Int) : Int), ()), ()))
      else
      let x418 := iAdd .i64 s414.1 1
      bif inB s414.2.1 (List.length a0) then
        bif (! (fEq .f32 (Vec.getD 3 (((List.getD a0 s414.2.1.toNat ((0, (0, 0, 0, ()), (0, 0, 0, ()), 0, 0, ()) : (Int × ((Vec 3 Nat) × ((Vec 3 Int) × (Int × (Nat × Unit))))))).2).1) 0 (0 : Nat)) (fOfInt .f32 x418))) then
          Option.map Sum.inr (some ((((-1 : Int) : Int), ()), ()))
        else
        let x422 := iAdd .i64 x418 1
        bif inB s414.2.1 (List.length a0) then
          bif (! (fEq .f32 (Vec.getD 3 (((List.getD a0 s414.2.1.toNat ((0, (0, 0, 0, ()), (0, 0, 0, ()), 0, 0, ()) : (Int × ((Vec 3 Nat) × ((Vec 3 Int) × (Int × (Nat × Unit))))))).2).1) 1 (0 : Nat)) (fOfInt .f32 x422))) then
            Option.map Sum.inr (some ((((-1 : Int) : Int), ()), ()))
          else
          let x426 := iAdd .i64 x422 1
          bif inB s414.2.1 (List.length a0) then
            bif (! (fEq .f32 (Vec.getD 3 (((List.getD a0 s414.2.1.toNat ((0, (0, 0, 0, ()), (0, 0, 0, ()), 0, 0, ()) : (Int × ((Vec 3 Nat) × ((Vec 3 Int) × (Int × (Nat × Unit))))))).2).1) 2 (0 : Nat)) (fOfInt .f32 x426))) then
              Option.map Sum.inr (some ((((-1 : Int) : Int), ()), ()))
            else
            let x430 := iAdd .i64 x426 1
            bif inB s414.2.1 (List.length a0) then
              bif (! (iEq (Vec.getD 3 ((((List.getD a0 s414.2.1.toNat ((0, (0, 0, 0, ()), (0, 0, 0, ()), 0, 0, ()) : (Int × ((Vec 3 Nat) × ((Vec 3 Int) × (Int × (Nat × Unit))))))).2).2).1) 0 (0 : Int)) (iWrap .i16 x430))) then
                Option.map Sum.inr (some ((((-1 : Int) : Int), ()), ()))
              else
              let x434 := iAdd .i64 x430 1
              bif inB s414.2.1 (List.length a0) then
                bif (! (iEq (Vec.getD 3 ((((List.getD a0 s414.2.1.toNat ((0, (0, 0, 0, ()), (0, 0, 0, ()), 0, 0, ()) : (Int × ((Vec 3 Nat) × ((Vec 3 Int) × (Int × (Nat × Unit))))))).2).2).1) 1 (0 : Int)) (iWrap .i16 x434))) then
                  Option.map Sum.inr (some ((((-1 : Int) : Int), ()), ()))
                else
                let x438 := iAdd .i64 x434 1
                bif inB s414.2.1 (List.length a0) then
                  bif (! (iEq (Vec.getD 3 ((((List.getD a0 s414.2.1.toNat ((0, (0, 0, 0, ()), (0, 0, 0, ()), 0, 0, ()) : (Int × ((Vec 3 Nat) × ((Vec 3 Int) × (Int × (Nat × Unit))))))).2).2).1) 2 (0 : Int)) (iWrap .i16 x438))) then
                    Option.map Sum.inr (some ((((-1 : Int) : Int), ()), ()))
                  else
                  let x442 := iAdd .i64 x438 1
                  bif inB s414.2.1 (List.length a0) then
                    bif (! (iEq (((((List.getD a0 s414.2.1.toNat ((0, (0, 0, 0, ()), (0, 0, 0, ()), 0, 0, ()) : (Int × ((Vec 3 Nat) × ((Vec 3 Int) × (Int × (Nat × Unit))))))).2).2).2).1) x442)) then
                      Option.map Sum.inr (some ((((-1 : Int) : Int), ()), ()))
                    else
                    let x445 := iAdd .i64 x442 1
                    bif inB s414.2.1 (List.length a0) then
                      bif (! (fEq .f32 ((((((List.getD a0 s414.2.1.toNat ((0, (0, 0, 0, ()), (0, 0, 0, ()), 0, 0, ()) : (Int × ((Vec 3 Nat) × ((Vec 3 Int) × (Int × (Nat × Unit))))))).2).2).2).2).1) (fOfInt .f32 x445))) then
                        Option.map Sum.inr (some ((((-1 : Int) : Int), ()), ()))
                      else
                      some (Sum.inl ((iAdd .i64 x445 1), (iAdd .i64 s414.2.1 1), ()))
                    else none
                  else none
                else none
              else none
            else none
          else none
        else none
      else none
    else none
  else
  Option.map Sum.inr (some ((s414.1, ()), ()))
noncomputable def laws_heldEntryS (a0 : (List (Int × ((Vec 3 Nat) × ((Vec 3 Int) × (Int × (Nat × Unit))))))) (a1 : Int) : Option ((Int × Unit) × Unit) :=
  run (laws_heldEntryS_l2 a0) (a1, (0 : Int), ())
noncomputable def laws_heldEntryS_sg : Sig := ⟨[.v (.list (.pair (.int .i64) (.pair (.arr 3 (.flt .f32)) (.pair (.arr 3 (.int .i16)) (.pair (.int .i64) (.pair (.flt .f32) (.unit))))))), .v (.int .i64)], [.v (.val (.int .i64))], false⟩
noncomputable def laws_heldEntryS_en : Entry := ⟨laws_heldEntryS_sg, fun x => laws_heldEntryS x.1 x.2.1⟩
theorem laws_heldEntryS_eq (x : laws_heldEntryS_sg.dom) : body (env []) [(2, .vary [(1, .sc (.int .i64)), (5, .sc (.int .i64))]), (8, .unroll 4), (14, .unroll 4)] Try.f36 laws_heldEntryS_sg x = laws_heldEntryS x.1 x.2.1 := by kernel_rfl
theorem laws_heldEntryS_so : Sound Try.prog 36 laws_heldEntryS_en := sound_of_body (envS (l := []) (trivial)) Try.func36 (by kernel_rfl) rfl (fun x y h => (laws_heldEntryS_eq x).trans h)

-- loop.example/g01204/laws.heldVecS
noncomputable def laws_heldVecS_l2 (a0 : (List (Vec 3 Nat))) (s451 : (Int × Int × Unit)) : Option ((Int × Int × Unit) ⊕ ((Int × Unit) × Unit)) :=
  bif (iLt s451.2.1 (lenI a0)) then
    bif inB s451.2.1 (List.length a0) then
      bif (! (fEq .f32 (Vec.getD 3 (List.getD a0 s451.2.1.toNat ((0, 0, 0, ()) : (Vec 3 Nat))) 0 (0 : Nat)) (fOfInt .f32 s451.1))) then
        Option.map Sum.inr (some ((((-1 : Int) : Int), ()), ()))
      else
      let x456 := iAdd .i64 s451.1 1
      bif inB s451.2.1 (List.length a0) then
        bif (! (fEq .f32 (Vec.getD 3 (List.getD a0 s451.2.1.toNat ((0, 0, 0, ()) : (Vec 3 Nat))) 1 (0 : Nat)) (fOfInt .f32 x456))) then
          Option.map Sum.inr (some ((((-1 : Int) : Int), ()), ()))
        else
        let x460 := iAdd .i64 x456 1
        bif inB s451.2.1 (List.length a0) then
          bif (! (fEq .f32 (Vec.getD 3 (List.getD a0 s451.2.1.toNat ((0, 0, 0, ()) : (Vec 3 Nat))) 2 (0 : Nat)) (fOfInt .f32 x460))) then
            Option.map Sum.inr (some ((((-1 : Int) : Int), ()), ()))
          else
          some (Sum.inl ((iAdd .i64 x460 1), (iAdd .i64 s451.2.1 1), ()))
        else none
      else none
    else none
  else
  Option.map Sum.inr (some ((s451.1, ()), ()))
noncomputable def laws_heldVecS (a0 : (List (Vec 3 Nat))) (a1 : Int) : Option ((Int × Unit) × Unit) :=
  run (laws_heldVecS_l2 a0) (a1, (0 : Int), ())
noncomputable def laws_heldVecS_sg : Sig := ⟨[.v (.list (.arr 3 (.flt .f32))), .v (.int .i64)], [.v (.val (.int .i64))], false⟩
noncomputable def laws_heldVecS_en : Entry := ⟨laws_heldVecS_sg, fun x => laws_heldVecS x.1 x.2.1⟩
theorem laws_heldVecS_eq (x : laws_heldVecS_sg.dom) : body (env []) [(2, .vary [(1, .sc (.int .i64)), (5, .sc (.int .i64))]), (5, .unroll 4)] Try.f35 laws_heldVecS_sg x = laws_heldVecS x.1 x.2.1 := by kernel_rfl
theorem laws_heldVecS_so : Sound Try.prog 35 laws_heldVecS_en := sound_of_body (envS (l := []) (trivial)) Try.func35 (by kernel_rfl) rfl (fun x y h => (laws_heldVecS_eq x).trans h)

-- loop.example/g01204/laws.heldLog
noncomputable def laws_heldLog (a0 : (Int × ((Vec 3 Nat) × ((List (Vec 3 Nat)) × ((List (Int × ((Vec 3 Nat) × ((Vec 3 Int) × (Int × (Nat × Unit)))))) × Unit))))) (a1 : Int) : Option ((Int × Unit) × Unit) :=
  (laws_heldVecS a0.2.2.1 a1).bind fun y410 =>
  bif (iLt y410.1.1 0) then some ((((-1 : Int) : Int), ()), ()) else
  (laws_heldEntryS a0.2.2.2.1 y410.1.1).bind fun y412 =>
  bif (iLt y412.1.1 0) then some ((((-1 : Int) : Int), ()), ()) else some ((y412.1.1, ()), ())
noncomputable def laws_heldLog_sg : Sig := ⟨[.v (.pair (.int .i64) (.pair (.arr 3 (.flt .f32)) (.pair (.list (.arr 3 (.flt .f32))) (.pair (.list (.pair (.int .i64) (.pair (.arr 3 (.flt .f32)) (.pair (.arr 3 (.int .i16)) (.pair (.int .i64) (.pair (.flt .f32) (.unit))))))) (.unit))))), .v (.int .i64)], [.v (.val (.int .i64))], false⟩
noncomputable def laws_heldLog_en : Entry := ⟨laws_heldLog_sg, fun x => laws_heldLog x.1 x.2.1⟩
theorem laws_heldLog_eq (x : laws_heldLog_sg.dom) : body (env [(35, laws_heldVecS_en), (36, laws_heldEntryS_en)]) [] Try.f12 laws_heldLog_sg x = laws_heldLog x.1 x.2.1 := by kernel_rfl
theorem laws_heldLog_so : Sound Try.prog 12 laws_heldLog_en := sound_of_body (envS (l := [(35, laws_heldVecS_en), (36, laws_heldEntryS_en)]) (⟨laws_heldVecS_so, laws_heldEntryS_so, trivial⟩)) Try.func12 (by kernel_rfl) rfl (fun x y h => (laws_heldLog_eq x).trans h)

-- loop.example/g01204/laws.markEntryS
noncomputable def laws_markEntryS_l2 (s496 : (Int × Int × (List (Int × ((Vec 3 Nat) × ((Vec 3 Int) × (Int × (Nat × Unit)))))) × Unit)) : Option ((Int × Int × (List (Int × ((Vec 3 Nat) × ((Vec 3 Int) × (Int × (Nat × Unit)))))) × Unit) ⊕ ((Int × Unit) × ((List (Int × ((Vec 3 Nat) × ((Vec 3 Int) × (Int × (Nat × Unit)))))) × Unit))) :=
  bif (iLt s496.2.1 (lenI s496.2.2.1)) then
    bif inB s496.2.1 (List.length s496.2.2.1) then
      let w498 := List.set s496.2.2.1 s496.2.1.toNat ((s496.1, (List.getD s496.2.2.1 s496.2.1.toNat ((0, (0, 0, 0, ()), (0, 0, 0, ()), 0, 0, ()) : (Int × ((Vec 3 Nat) × ((Vec 3 Int) × (Int × (Nat × Unit))))))).2) : (Int × ((Vec 3 Nat) × ((Vec 3 Int) × (Int × (Nat × Unit))))))
      let x499 := iAdd .i64 s496.1 1
      bif inB s496.2.1 (List.length w498) then
        let w501 := List.set w498 s496.2.1.toNat (((List.getD w498 s496.2.1.toNat ((0, (0, 0, 0, ()), (0, 0, 0, ()), 0, 0, ()) : (Int × ((Vec 3 Nat) × ((Vec 3 Int) × (Int × (Nat × Unit))))))).1, Vec.set 3 (((List.getD w498 s496.2.1.toNat ((0, (0, 0, 0, ()), (0, 0, 0, ()), 0, 0, ()) : (Int × ((Vec 3 Nat) × ((Vec 3 Int) × (Int × (Nat × Unit))))))).2).1) 0 (fOfInt .f32 x499), ((List.getD w498 s496.2.1.toNat ((0, (0, 0, 0, ()), (0, 0, 0, ()), 0, 0, ()) : (Int × ((Vec 3 Nat) × ((Vec 3 Int) × (Int × (Nat × Unit))))))).2).2) : (Int × ((Vec 3 Nat) × ((Vec 3 Int) × (Int × (Nat × Unit))))))
        let x502 := iAdd .i64 x499 1
        bif inB s496.2.1 (List.length w501) then
          let w504 := List.set w501 s496.2.1.toNat (((List.getD w501 s496.2.1.toNat ((0, (0, 0, 0, ()), (0, 0, 0, ()), 0, 0, ()) : (Int × ((Vec 3 Nat) × ((Vec 3 Int) × (Int × (Nat × Unit))))))).1, Vec.set 3 (((List.getD w501 s496.2.1.toNat ((0, (0, 0, 0, ()), (0, 0, 0, ()), 0, 0, ()) : (Int × ((Vec 3 Nat) × ((Vec 3 Int) × (Int × (Nat × Unit))))))).2).1) 1 (fOfInt .f32 x502), ((List.getD w501 s496.2.1.toNat ((0, (0, 0, 0, ()), (0, 0, 0, ()), 0, 0, ()) : (Int × ((Vec 3 Nat) × ((Vec 3 Int) × (Int × (Nat × Unit))))))).2).2) : (Int × ((Vec 3 Nat) × ((Vec 3 Int) × (Int × (Nat × Unit))))))
          let x505 := iAdd .i64 x502 1
          bif inB s496.2.1 (List.length w504) then
            let w507 := List.set w504 s496.2.1.toNat (((List.getD w504 s496.2.1.toNat ((0, (0, 0, 0, ()), (0, 0, 0, ()), 0, 0, ()) : (Int × ((Vec 3 Nat) × ((Vec 3 Int) × (Int × (Nat × Unit))))))).1, Vec.set 3 (((List.getD w504 s496.2.1.toNat ((0, (0, 0, 0, ()), (0, 0, 0, ()), 0, 0, ()) : (Int × ((Vec 3 Nat) × ((Vec 3 Int) × (Int × (Nat × Unit))))))).2).1) 2 (fOfInt .f32 x505), ((List.getD w504 s496.2.1.toNat ((0, (0, 0, 0, ()), (0, 0, 0, ()), 0, 0, ()) : (Int × ((Vec 3 Nat) × ((Vec 3 Int) × (Int × (Nat × Unit))))))).2).2) : (Int × ((Vec 3 Nat) × ((Vec 3 Int) × (Int × (Nat × Unit))))))
            let x508 := iAdd .i64 x505 1
            bif inB s496.2.1 (List.length w507) then
              let w510 := List.set w507 s496.2.1.toNat (((List.getD w507 s496.2.1.toNat ((0, (0, 0, 0, ()), (0, 0, 0, ()), 0, 0, ()) : (Int × ((Vec 3 Nat) × ((Vec 3 Int) × (Int × (Nat × Unit))))))).1, ((List.getD w507 s496.2.1.toNat ((0, (0, 0, 0, ()), (0, 0, 0, ()), 0, 0, ()) : (Int × ((Vec 3 Nat) × ((Vec 3 Int) × (Int × (Nat × Unit))))))).2).1, Vec.set 3 ((((List.getD w507 s496.2.1.toNat ((0, (0, 0, 0, ()), (0, 0, 0, ()), 0, 0, ()) : (Int × ((Vec 3 Nat) × ((Vec 3 Int) × (Int × (Nat × Unit))))))).2).2).1) 0 (iWrap .i16 x508), (((List.getD w507 s496.2.1.toNat ((0, (0, 0, 0, ()), (0, 0, 0, ()), 0, 0, ()) : (Int × ((Vec 3 Nat) × ((Vec 3 Int) × (Int × (Nat × Unit))))))).2).2).2) : (Int × ((Vec 3 Nat) × ((Vec 3 Int) × (Int × (Nat × Unit))))))
              let x511 := iAdd .i64 x508 1
              bif inB s496.2.1 (List.length w510) then
                let w513 := List.set w510 s496.2.1.toNat (((List.getD w510 s496.2.1.toNat ((0, (0, 0, 0, ()), (0, 0, 0, ()), 0, 0, ()) : (Int × ((Vec 3 Nat) × ((Vec 3 Int) × (Int × (Nat × Unit))))))).1, ((List.getD w510 s496.2.1.toNat ((0, (0, 0, 0, ()), (0, 0, 0, ()), 0, 0, ()) : (Int × ((Vec 3 Nat) × ((Vec 3 Int) × (Int × (Nat × Unit))))))).2).1, Vec.set 3 ((((List.getD w510 s496.2.1.toNat ((0, (0, 0, 0, ()), (0, 0, 0, ()), 0, 0, ()) : (Int × ((Vec 3 Nat) × ((Vec 3 Int) × (Int × (Nat × Unit))))))).2).2).1) 1 (iWrap .i16 x511), (((List.getD w510 s496.2.1.toNat ((0, (0, 0, 0, ()), (0, 0, 0, ()), 0, 0, ()) : (Int × ((Vec 3 Nat) × ((Vec 3 Int) × (Int × (Nat × Unit))))))).2).2).2) : (Int × ((Vec 3 Nat) × ((Vec 3 Int) × (Int × (Nat × Unit))))))
                let x514 := iAdd .i64 x511 1
                bif inB s496.2.1 (List.length w513) then
                  let w516 := List.set w513 s496.2.1.toNat (((List.getD w513 s496.2.1.toNat ((0, (0, 0, 0, ()), (0, 0, 0, ()), 0, 0, ()) : (Int × ((Vec 3 Nat) × ((Vec 3 Int) × (Int × (Nat × Unit))))))).1, ((List.getD w513 s496.2.1.toNat ((0, (0, 0, 0, ()), (0, 0, 0, ()), 0, 0, ()) : (Int × ((Vec 3 Nat) × ((Vec 3 Int) × (Int × (Nat × Unit))))))).2).1, Vec.set 3 ((((List.getD w513 s496.2.1.toNat ((0, (0, 0, 0, ()), (0, 0, 0, ()), 0, 0, ()) : (Int × ((Vec 3 Nat) × ((Vec 3 Int) × (Int × (Nat × Unit))))))).2).2).1) 2 (iWrap .i16 x514), (((List.getD w513 s496.2.1.toNat ((0, (0, 0, 0, ()), (0, 0, 0, ()), 0, 0, ()) : (Int × ((Vec 3 Nat) × ((Vec 3 Int) × (Int × (Nat × Unit))))))).2).2).2) : (Int × ((Vec 3 Nat) × ((Vec 3 Int) × (Int × (Nat × Unit))))))
                  let x517 := iAdd .i64 x514 1
                  bif inB s496.2.1 (List.length w516) then
                    let w518 := List.set w516 s496.2.1.toNat (((List.getD w516 s496.2.1.toNat ((0, (0, 0, 0, ()), (0, 0, 0, ()), 0, 0, ()) : (Int × ((Vec 3 Nat) × ((Vec 3 Int) × (Int × (Nat × Unit))))))).1, ((List.getD w516 s496.2.1.toNat ((0, (0, 0, 0, ()), (0, 0, 0, ()), 0, 0, ()) : (Int × ((Vec 3 Nat) × ((Vec 3 Int) × (Int × (Nat × Unit))))))).2).1, (((List.getD w516 s496.2.1.toNat ((0, (0, 0, 0, ()), (0, 0, 0, ()), 0, 0, ()) : (Int × ((Vec 3 Nat) × ((Vec 3 Int) × (Int × (Nat × Unit))))))).2).2).1, x517, ((((List.getD w516 s496.2.1.toNat ((0, (0, 0, 0, ()), (0, 0, 0, ()), 0, 0, ()) : (Int × ((Vec 3 Nat) × ((Vec 3 Int) × (Int × (Nat × Unit))))))).2).2).2).2) : (Int × ((Vec 3 Nat) × ((Vec 3 Int) × (Int × (Nat × Unit))))))
                    let x519 := iAdd .i64 x517 1
                    bif inB s496.2.1 (List.length w518) then
                      some (Sum.inl ((iAdd .i64 x519 1), (iAdd .i64 s496.2.1 1), (List.set w518 s496.2.1.toNat (((List.getD w518 s496.2.1.toNat ((0, (0, 0, 0, ()), (0, 0, 0, ()), 0, 0, ()) : (Int × ((Vec 3 Nat) × ((Vec 3 Int) × (Int × (Nat × Unit))))))).1, ((List.getD w518 s496.2.1.toNat ((0, (0, 0, 0, ()), (0, 0, 0, ()), 0, 0, ()) : (Int × ((Vec 3 Nat) × ((Vec 3 Int) × (Int × (Nat × Unit))))))).2).1, (((List.getD w518 s496.2.1.toNat ((0, (0, 0, 0, ()), (0, 0, 0, ()), 0, 0, ()) : (Int × ((Vec 3 Nat) × ((Vec 3 Int) × (Int × (Nat × Unit))))))).2).2).1, ((((List.getD w518 s496.2.1.toNat ((0, (0, 0, 0, ()), (0, 0, 0, ()), 0, 0, ()) : (Int × ((Vec 3 Nat) × ((Vec 3 Int) × (Int × (Nat × Unit))))))).2).2).2).1, (fOfInt .f32 x519), (((((List.getD w518 s496.2.1.toNat ((0, (0, 0, 0, ()), (0, 0, 0, ()), 0, 0, ()) : (Int × ((Vec 3 Nat) × ((Vec 3 Int) × (Int × (Nat × Unit))))))).2).2).2).2).2) : (Int × ((Vec 3 Nat) × ((Vec 3 Int) × (Int × (Nat × Unit))))))), ()))
                    else none
                  else none
                else none
              else none
            else none
          else none
        else none
      else none
    else none
  else
  Option.map Sum.inr (some ((s496.1, ()), (s496.2.2.1, ())))
noncomputable def laws_markEntryS (a0 : (List (Int × ((Vec 3 Nat) × ((Vec 3 Int) × (Int × (Nat × Unit))))))) (a1 : Int) : Option ((Int × Unit) × ((List (Int × ((Vec 3 Nat) × ((Vec 3 Int) × (Int × (Nat × Unit)))))) × Unit)) :=
  run (laws_markEntryS_l2) (a1, (0 : Int), a0, ())
noncomputable def laws_markEntryS_sg : Sig := ⟨[.mv (.rows (.pair (.int .i64) (.pair (.arr 3 (.flt .f32)) (.pair (.arr 3 (.int .i16)) (.pair (.int .i64) (.pair (.flt .f32) (.unit))))))), .v (.int .i64)], [.v (.val (.int .i64))], false⟩
noncomputable def laws_markEntryS_en : Entry := ⟨laws_markEntryS_sg, fun x => laws_markEntryS x.1 x.2.1⟩
theorem laws_markEntryS_eq (x : laws_markEntryS_sg.dom) : body (env []) [(2, .vary [(1, .sc (.int .i64)), (5, .sc (.int .i64)), (0, .mrows (.pair (.int .i64) (.pair (.arr 3 (.flt .f32)) (.pair (.arr 3 (.int .i16)) (.pair (.int .i64) (.pair (.flt .f32) (.unit)))))))]), (7, .unroll 4), (12, .unroll 4)] Try.f34 laws_markEntryS_sg x = laws_markEntryS x.1 x.2.1 := by kernel_rfl
theorem laws_markEntryS_so : Sound Try.prog 34 laws_markEntryS_en := sound_of_body (envS (l := []) (trivial)) Try.func34 (by kernel_rfl) rfl (fun x y h => (laws_markEntryS_eq x).trans h)

-- loop.example/g01204/laws.markVecS
noncomputable def laws_markVecS_l2 (s536 : (Int × Int × (List (Vec 3 Nat)) × Unit)) : Option ((Int × Int × (List (Vec 3 Nat)) × Unit) ⊕ ((Int × Unit) × ((List (Vec 3 Nat)) × Unit))) :=
  bif (iLt s536.2.1 (lenI s536.2.2.1)) then
    bif inB s536.2.1 (List.length s536.2.2.1) then
      let w539 := List.set s536.2.2.1 s536.2.1.toNat (Vec.set 3 (List.getD s536.2.2.1 s536.2.1.toNat ((0, 0, 0, ()) : (Vec 3 Nat))) 0 (fOfInt .f32 s536.1))
      let x540 := iAdd .i64 s536.1 1
      bif inB s536.2.1 (List.length w539) then
        let w542 := List.set w539 s536.2.1.toNat (Vec.set 3 (List.getD w539 s536.2.1.toNat ((0, 0, 0, ()) : (Vec 3 Nat))) 1 (fOfInt .f32 x540))
        let x543 := iAdd .i64 x540 1
        bif inB s536.2.1 (List.length w542) then
          some (Sum.inl ((iAdd .i64 x543 1), (iAdd .i64 s536.2.1 1), (List.set w542 s536.2.1.toNat (Vec.set 3 (List.getD w542 s536.2.1.toNat ((0, 0, 0, ()) : (Vec 3 Nat))) 2 (fOfInt .f32 x543))), ()))
        else none
      else none
    else none
  else
  Option.map Sum.inr (some ((s536.1, ()), (s536.2.2.1, ())))
noncomputable def laws_markVecS (a0 : (List (Vec 3 Nat))) (a1 : Int) : Option ((Int × Unit) × ((List (Vec 3 Nat)) × Unit)) :=
  run (laws_markVecS_l2) (a1, (0 : Int), a0, ())
noncomputable def laws_markVecS_sg : Sig := ⟨[.mv (.rows (.arr 3 (.flt .f32))), .v (.int .i64)], [.v (.val (.int .i64))], false⟩
noncomputable def laws_markVecS_en : Entry := ⟨laws_markVecS_sg, fun x => laws_markVecS x.1 x.2.1⟩
theorem laws_markVecS_eq (x : laws_markVecS_sg.dom) : body (env []) [(2, .vary [(1, .sc (.int .i64)), (5, .sc (.int .i64)), (0, .mrows (.arr 3 (.flt .f32)))]), (5, .unroll 4)] Try.f32 laws_markVecS_sg x = laws_markVecS x.1 x.2.1 := by kernel_rfl
theorem laws_markVecS_so : Sound Try.prog 32 laws_markVecS_en := sound_of_body (envS (l := []) (trivial)) Try.func32 (by kernel_rfl) rfl (fun x y h => (laws_markVecS_eq x).trans h)

-- loop.example/g01204/laws.markLog
noncomputable def laws_markLog (a0 : (Int × ((Vec 3 Nat) × ((List (Vec 3 Nat)) × ((List (Int × ((Vec 3 Nat) × ((Vec 3 Int) × (Int × (Nat × Unit)))))) × Unit))))) (a1 : Int) : Option ((Int × Unit) × ((Int × ((Vec 3 Nat) × ((List (Vec 3 Nat)) × ((List (Int × ((Vec 3 Nat) × ((Vec 3 Int) × (Int × (Nat × Unit)))))) × Unit)))) × Unit)) :=
  (laws_markVecS a0.2.2.1 a1).bind fun y466 =>
  (laws_markEntryS a0.2.2.2.1 y466.1.1).bind fun y467 =>
  some ((y467.1.1, ()), (((a0.1, a0.2.1, y466.2.1, y467.2.1, a0.2.2.2.2) : (Int × ((Vec 3 Nat) × ((List (Vec 3 Nat)) × ((List (Int × ((Vec 3 Nat) × ((Vec 3 Int) × (Int × (Nat × Unit)))))) × Unit))))), ()))
noncomputable def laws_markLog_sg : Sig := ⟨[.mv (.pair (.val (.int .i64)) (.pair (.val (.arr 3 (.flt .f32))) (.pair (.rows (.arr 3 (.flt .f32))) (.pair (.rows (.pair (.int .i64) (.pair (.arr 3 (.flt .f32)) (.pair (.arr 3 (.int .i16)) (.pair (.int .i64) (.pair (.flt .f32) (.unit))))))) (.val (.unit)))))), .v (.int .i64)], [.v (.val (.int .i64))], false⟩
noncomputable def laws_markLog_en : Entry := ⟨laws_markLog_sg, fun x => laws_markLog x.1 x.2.1⟩
theorem laws_markLog_eq (x : laws_markLog_sg.dom) : body (env [(32, laws_markVecS_en), (34, laws_markEntryS_en)]) [] Try.f11 laws_markLog_sg x = laws_markLog x.1 x.2.1 := by kernel_rfl
theorem laws_markLog_so : Sound Try.prog 11 laws_markLog_en := sound_of_body (envS (l := [(32, laws_markVecS_en), (34, laws_markEntryS_en)]) (⟨laws_markVecS_so, laws_markEntryS_so, trivial⟩)) Try.func11 (by kernel_rfl) rfl (fun x y h => (laws_markLog_eq x).trans h)

-- loop.example/g01204/laws.markLegS
noncomputable def laws_markLegS_l2 (s568 : (Int × Int × (List (Int × ((Vec 3 Nat) × (Int × (Int × Unit))))) × Unit)) : Option ((Int × Int × (List (Int × ((Vec 3 Nat) × (Int × (Int × Unit))))) × Unit) ⊕ ((Int × Unit) × ((List (Int × ((Vec 3 Nat) × (Int × (Int × Unit))))) × Unit))) :=
  bif (iLt s568.2.1 (lenI s568.2.2.1)) then
    bif inB s568.2.1 (List.length s568.2.2.1) then
      let w570 := List.set s568.2.2.1 s568.2.1.toNat ((s568.1, (List.getD s568.2.2.1 s568.2.1.toNat ((0, (0, 0, 0, ()), 0, 0, ()) : (Int × ((Vec 3 Nat) × (Int × (Int × Unit)))))).2) : (Int × ((Vec 3 Nat) × (Int × (Int × Unit)))))
      let x571 := iAdd .i64 s568.1 1
      bif inB s568.2.1 (List.length w570) then
        let w573 := List.set w570 s568.2.1.toNat (((List.getD w570 s568.2.1.toNat ((0, (0, 0, 0, ()), 0, 0, ()) : (Int × ((Vec 3 Nat) × (Int × (Int × Unit)))))).1, Vec.set 3 (((List.getD w570 s568.2.1.toNat ((0, (0, 0, 0, ()), 0, 0, ()) : (Int × ((Vec 3 Nat) × (Int × (Int × Unit)))))).2).1) 0 (fOfInt .f32 x571), ((List.getD w570 s568.2.1.toNat ((0, (0, 0, 0, ()), 0, 0, ()) : (Int × ((Vec 3 Nat) × (Int × (Int × Unit)))))).2).2) : (Int × ((Vec 3 Nat) × (Int × (Int × Unit)))))
        let x574 := iAdd .i64 x571 1
        bif inB s568.2.1 (List.length w573) then
          let w576 := List.set w573 s568.2.1.toNat (((List.getD w573 s568.2.1.toNat ((0, (0, 0, 0, ()), 0, 0, ()) : (Int × ((Vec 3 Nat) × (Int × (Int × Unit)))))).1, Vec.set 3 (((List.getD w573 s568.2.1.toNat ((0, (0, 0, 0, ()), 0, 0, ()) : (Int × ((Vec 3 Nat) × (Int × (Int × Unit)))))).2).1) 1 (fOfInt .f32 x574), ((List.getD w573 s568.2.1.toNat ((0, (0, 0, 0, ()), 0, 0, ()) : (Int × ((Vec 3 Nat) × (Int × (Int × Unit)))))).2).2) : (Int × ((Vec 3 Nat) × (Int × (Int × Unit)))))
          let x577 := iAdd .i64 x574 1
          bif inB s568.2.1 (List.length w576) then
            let w579 := List.set w576 s568.2.1.toNat (((List.getD w576 s568.2.1.toNat ((0, (0, 0, 0, ()), 0, 0, ()) : (Int × ((Vec 3 Nat) × (Int × (Int × Unit)))))).1, Vec.set 3 (((List.getD w576 s568.2.1.toNat ((0, (0, 0, 0, ()), 0, 0, ()) : (Int × ((Vec 3 Nat) × (Int × (Int × Unit)))))).2).1) 2 (fOfInt .f32 x577), ((List.getD w576 s568.2.1.toNat ((0, (0, 0, 0, ()), 0, 0, ()) : (Int × ((Vec 3 Nat) × (Int × (Int × Unit)))))).2).2) : (Int × ((Vec 3 Nat) × (Int × (Int × Unit)))))
            let x580 := iAdd .i64 x577 1
            bif inB s568.2.1 (List.length w579) then
              let w581 := List.set w579 s568.2.1.toNat (((List.getD w579 s568.2.1.toNat ((0, (0, 0, 0, ()), 0, 0, ()) : (Int × ((Vec 3 Nat) × (Int × (Int × Unit)))))).1, ((List.getD w579 s568.2.1.toNat ((0, (0, 0, 0, ()), 0, 0, ()) : (Int × ((Vec 3 Nat) × (Int × (Int × Unit)))))).2).1, x580, (((List.getD w579 s568.2.1.toNat ((0, (0, 0, 0, ()), 0, 0, ()) : (Int × ((Vec 3 Nat) × (Int × (Int × Unit)))))).2).2).2) : (Int × ((Vec 3 Nat) × (Int × (Int × Unit)))))
              let x582 := iAdd .i64 x580 1
              bif inB s568.2.1 (List.length w581) then
                some (Sum.inl ((iAdd .i64 x582 1), (iAdd .i64 s568.2.1 1), (List.set w581 s568.2.1.toNat (((List.getD w581 s568.2.1.toNat ((0, (0, 0, 0, ()), 0, 0, ()) : (Int × ((Vec 3 Nat) × (Int × (Int × Unit)))))).1, ((List.getD w581 s568.2.1.toNat ((0, (0, 0, 0, ()), 0, 0, ()) : (Int × ((Vec 3 Nat) × (Int × (Int × Unit)))))).2).1, (((List.getD w581 s568.2.1.toNat ((0, (0, 0, 0, ()), 0, 0, ()) : (Int × ((Vec 3 Nat) × (Int × (Int × Unit)))))).2).2).1, x582, ((((List.getD w581 s568.2.1.toNat ((0, (0, 0, 0, ()), 0, 0, ()) : (Int × ((Vec 3 Nat) × (Int × (Int × Unit)))))).2).2).2).2) : (Int × ((Vec 3 Nat) × (Int × (Int × Unit)))))), ()))
              else none
            else none
          else none
        else none
      else none
    else none
  else
  Option.map Sum.inr (some ((s568.1, ()), (s568.2.2.1, ())))
noncomputable def laws_markLegS (a0 : (List (Int × ((Vec 3 Nat) × (Int × (Int × Unit)))))) (a1 : Int) : Option ((Int × Unit) × ((List (Int × ((Vec 3 Nat) × (Int × (Int × Unit))))) × Unit)) :=
  run (laws_markLegS_l2) (a1, (0 : Int), a0, ())
noncomputable def laws_markLegS_sg : Sig := ⟨[.mv (.rows (.pair (.int .i64) (.pair (.arr 3 (.flt .f32)) (.pair (.int .i64) (.pair (.int .i64) (.unit)))))), .v (.int .i64)], [.v (.val (.int .i64))], false⟩
noncomputable def laws_markLegS_en : Entry := ⟨laws_markLegS_sg, fun x => laws_markLegS x.1 x.2.1⟩
theorem laws_markLegS_eq (x : laws_markLegS_sg.dom) : body (env []) [(2, .vary [(1, .sc (.int .i64)), (5, .sc (.int .i64)), (0, .mrows (.pair (.int .i64) (.pair (.arr 3 (.flt .f32)) (.pair (.int .i64) (.pair (.int .i64) (.unit))))))]), (7, .unroll 4)] Try.f33 laws_markLegS_sg x = laws_markLegS x.1 x.2.1 := by kernel_rfl
theorem laws_markLegS_so : Sound Try.prog 33 laws_markLegS_en := sound_of_body (envS (l := []) (trivial)) Try.func33 (by kernel_rfl) rfl (fun x y h => (laws_markLegS_eq x).trans h)

-- loop.example/g01204/laws.markMission
noncomputable def laws_markMission (a0 : (Int × ((Vec 3 Nat) × ((List (Vec 3 Nat)) × ((List (Int × ((Vec 3 Nat) × (Int × (Int × Unit))))) × Unit))))) (a1 : Int) : Option ((Int × Unit) × ((Int × ((Vec 3 Nat) × ((List (Vec 3 Nat)) × ((List (Int × ((Vec 3 Nat) × (Int × (Int × Unit))))) × Unit)))) × Unit)) :=
  (laws_markVecS a0.2.2.1 a1).bind fun y548 =>
  (laws_markLegS a0.2.2.2.1 y548.1.1).bind fun y549 =>
  some ((y549.1.1, ()), (((a0.1, a0.2.1, y548.2.1, y549.2.1, a0.2.2.2.2) : (Int × ((Vec 3 Nat) × ((List (Vec 3 Nat)) × ((List (Int × ((Vec 3 Nat) × (Int × (Int × Unit))))) × Unit))))), ()))
noncomputable def laws_markMission_sg : Sig := ⟨[.mv (.pair (.val (.int .i64)) (.pair (.val (.arr 3 (.flt .f32))) (.pair (.rows (.arr 3 (.flt .f32))) (.pair (.rows (.pair (.int .i64) (.pair (.arr 3 (.flt .f32)) (.pair (.int .i64) (.pair (.int .i64) (.unit)))))) (.val (.unit)))))), .v (.int .i64)], [.v (.val (.int .i64))], false⟩
noncomputable def laws_markMission_en : Entry := ⟨laws_markMission_sg, fun x => laws_markMission x.1 x.2.1⟩
theorem laws_markMission_eq (x : laws_markMission_sg.dom) : body (env [(32, laws_markVecS_en), (33, laws_markLegS_en)]) [] Try.f10 laws_markMission_sg x = laws_markMission x.1 x.2.1 := by kernel_rfl
theorem laws_markMission_so : Sound Try.prog 10 laws_markMission_en := sound_of_body (envS (l := [(32, laws_markVecS_en), (33, laws_markLegS_en)]) (⟨laws_markVecS_so, laws_markLegS_so, trivial⟩)) Try.func10 (by kernel_rfl) rfl (fun x y h => (laws_markMission_eq x).trans h)

-- loop.example/g01204/laws.szLegS
noncomputable def laws_szLegS (a0 : (List (Int × ((Vec 3 Nat) × (Int × (Int × Unit)))))) (a1 : Int) : Option ((Int × Unit) × Unit) :=
  let x590 := iSub .i64 a1 (lenI a0)
  bif (iLt x590 0) then some ((((-1 : Int) : Int), ()), ()) else some ((x590, ()), ())
noncomputable def laws_szLegS_sg : Sig := ⟨[.v (.list (.pair (.int .i64) (.pair (.arr 3 (.flt .f32)) (.pair (.int .i64) (.pair (.int .i64) (.unit)))))), .v (.int .i64)], [.v (.val (.int .i64))], false⟩
noncomputable def laws_szLegS_en : Entry := ⟨laws_szLegS_sg, fun x => laws_szLegS x.1 x.2.1⟩
theorem laws_szLegS_eq (x : laws_szLegS_sg.dom) : body (env []) [] Try.f14 laws_szLegS_sg x = laws_szLegS x.1 x.2.1 := by kernel_rfl
theorem laws_szLegS_so : Sound Try.prog 14 laws_szLegS_en := sound_of_body (envS (l := []) (trivial)) Try.func14 (by kernel_rfl) rfl (fun x y h => (laws_szLegS_eq x).trans h)

-- loop.example/g01204/laws.szVecS
noncomputable def laws_szVecS (a0 : (List (Vec 3 Nat))) (a1 : Int) : Option ((Int × Unit) × Unit) :=
  let x592 := iSub .i64 a1 (lenI a0)
  bif (iLt x592 0) then some ((((-1 : Int) : Int), ()), ()) else some ((x592, ()), ())
noncomputable def laws_szVecS_sg : Sig := ⟨[.v (.list (.arr 3 (.flt .f32))), .v (.int .i64)], [.v (.val (.int .i64))], false⟩
noncomputable def laws_szVecS_en : Entry := ⟨laws_szVecS_sg, fun x => laws_szVecS x.1 x.2.1⟩
theorem laws_szVecS_eq (x : laws_szVecS_sg.dom) : body (env []) [] Try.f13 laws_szVecS_sg x = laws_szVecS x.1 x.2.1 := by kernel_rfl
theorem laws_szVecS_so : Sound Try.prog 13 laws_szVecS_en := sound_of_body (envS (l := []) (trivial)) Try.func13 (by kernel_rfl) rfl (fun x y h => (laws_szVecS_eq x).trans h)

-- loop.example/g01204/laws.szMission
noncomputable def laws_szMission (a0 : (Int × ((Vec 3 Nat) × ((List (Vec 3 Nat)) × ((List (Int × ((Vec 3 Nat) × (Int × (Int × Unit))))) × Unit))))) (a1 : Int) : Option ((Int × Unit) × Unit) :=
  (laws_szVecS a0.2.2.1 a1).bind fun y586 =>
  bif (iLt y586.1.1 0) then some ((((-1 : Int) : Int), ()), ()) else
  (laws_szLegS a0.2.2.2.1 y586.1.1).bind fun y588 =>
  bif (iLt y588.1.1 0) then some ((((-1 : Int) : Int), ()), ()) else some ((y588.1.1, ()), ())
noncomputable def laws_szMission_sg : Sig := ⟨[.v (.pair (.int .i64) (.pair (.arr 3 (.flt .f32)) (.pair (.list (.arr 3 (.flt .f32))) (.pair (.list (.pair (.int .i64) (.pair (.arr 3 (.flt .f32)) (.pair (.int .i64) (.pair (.int .i64) (.unit)))))) (.unit))))), .v (.int .i64)], [.v (.val (.int .i64))], false⟩
noncomputable def laws_szMission_en : Entry := ⟨laws_szMission_sg, fun x => laws_szMission x.1 x.2.1⟩
theorem laws_szMission_eq (x : laws_szMission_sg.dom) : body (env [(13, laws_szVecS_en), (14, laws_szLegS_en)]) [] Try.f4 laws_szMission_sg x = laws_szMission x.1 x.2.1 := by kernel_rfl
theorem laws_szMission_so : Sound Try.prog 4 laws_szMission_en := sound_of_body (envS (l := [(13, laws_szVecS_en), (14, laws_szLegS_en)]) (⟨laws_szVecS_so, laws_szLegS_so, trivial⟩)) Try.func4 (by kernel_rfl) rfl (fun x y h => (laws_szMission_eq x).trans h)

-- loop.example/g01204/laws.toVec
noncomputable def laws_toVec (a0 : (Vec 3 Nat)) : Option (((Vec 3 Nat) × Unit) × Unit) :=
  some (((((Vec.getD 3 a0 0 (0 : Nat)), (Vec.getD 3 a0 1 (0 : Nat)), (Vec.getD 3 a0 2 (0 : Nat)), ()) : (Vec 3 Nat)), ()), ())
noncomputable def laws_toVec_sg : Sig := ⟨[.v (.arr 3 (.flt .f32))], [.v (.val (.arr 3 (.flt .f32)))], false⟩
noncomputable def laws_toVec_en : Entry := ⟨laws_toVec_sg, fun x => laws_toVec x.1⟩
theorem laws_toVec_eq (x : laws_toVec_sg.dom) : body (env []) [(3, .unroll 4)] Try.f17 laws_toVec_sg x = laws_toVec x.1 := by kernel_rfl
theorem laws_toVec_so : Sound Try.prog 17 laws_toVec_en := sound_of_body (envS (l := []) (trivial)) Try.func17 (by kernel_rfl) rfl (fun x y h => (laws_toVec_eq x).trans h)

-- loop.example/g01204/laws.toLeg
noncomputable def laws_toLeg (a0 : (Int × ((Vec 3 Nat) × (Int × (Int × Unit))))) : Option (((Int × ((Vec 3 Nat) × (Int × (Int × Unit)))) × Unit) × Unit) :=
  (laws_toVec a0.2.1).bind fun y608 =>
  some ((((a0.1, y608.1.1, a0.2.2.1, a0.2.2.2.1, ()) : (Int × ((Vec 3 Nat) × (Int × (Int × Unit))))), ()), ())
noncomputable def laws_toLeg_sg : Sig := ⟨[.v (.pair (.int .i64) (.pair (.arr 3 (.flt .f32)) (.pair (.int .i64) (.pair (.int .i64) (.unit)))))], [.v (.val (.pair (.int .i64) (.pair (.arr 3 (.flt .f32)) (.pair (.int .i64) (.pair (.int .i64) (.unit))))))], false⟩
noncomputable def laws_toLeg_en : Entry := ⟨laws_toLeg_sg, fun x => laws_toLeg x.1⟩
theorem laws_toLeg_eq (x : laws_toLeg_sg.dom) : body (env [(17, laws_toVec_en)]) [] Try.f47 laws_toLeg_sg x = laws_toLeg x.1 := by kernel_rfl
theorem laws_toLeg_so : Sound Try.prog 47 laws_toLeg_en := sound_of_body (envS (l := [(17, laws_toVec_en)]) (⟨laws_toVec_so, trivial⟩)) Try.func47 (by kernel_rfl) rfl (fun x y h => (laws_toLeg_eq x).trans h)

-- loop.example/g01204/laws.toLegS
noncomputable def laws_toLegS_l3 (a0 : (List (Int × ((Vec 3 Nat) × (Int × (Int × Unit)))))) (s603 : (Int × (List (Int × ((Vec 3 Nat) × (Int × (Int × Unit))))) × Unit)) : Option ((Int × (List (Int × ((Vec 3 Nat) × (Int × (Int × Unit))))) × Unit) ⊕ (((List (Int × ((Vec 3 Nat) × (Int × (Int × Unit))))) × Unit) × Unit)) :=
  bif (iLt s603.1 (lenI a0)) then
    bif inB s603.1 (List.length a0) then
      (laws_toLeg (List.getD a0 s603.1.toNat ((0, (0, 0, 0, ()), 0, 0, ()) : (Int × ((Vec 3 Nat) × (Int × (Int × Unit))))))).bind fun y606 =>
      bif inB s603.1 (List.length s603.2.1) then
        some (Sum.inl ((iAdd .i64 s603.1 1), List.set s603.2.1 s603.1.toNat y606.1.1, ()))
      else none
    else none
  else
  Option.map Sum.inr (some ((s603.2.1, ()), ()))
noncomputable def laws_toLegS (a0 : (List (Int × ((Vec 3 Nat) × (Int × (Int × Unit)))))) : Option (((List (Int × ((Vec 3 Nat) × (Int × (Int × Unit))))) × Unit) × Unit) :=
  bif (iLe 0 (lenI a0) && iLe (lenI a0) (lenI a0) && room (lenI a0).toNat 40) then run (laws_toLegS_l3 a0) ((0 : Int), List.replicate (lenI a0).toNat ((0, (0, 0, 0, ()), 0, 0, ()) : (Int × ((Vec 3 Nat) × (Int × (Int × Unit))))), ()) else none
noncomputable def laws_toLegS_sg : Sig := ⟨[.v (.list (.pair (.int .i64) (.pair (.arr 3 (.flt .f32)) (.pair (.int .i64) (.pair (.int .i64) (.unit))))))], [.v (.rows (.pair (.int .i64) (.pair (.arr 3 (.flt .f32)) (.pair (.int .i64) (.pair (.int .i64) (.unit))))))], false⟩
noncomputable def laws_toLegS_en : Entry := ⟨laws_toLegS_sg, fun x => laws_toLegS x.1⟩
theorem laws_toLegS_eq (x : laws_toLegS_sg.dom) : body (env [(47, laws_toLeg_en)]) [(3, .vary [(4, .sc (.int .i64)), (3, .mrows (.pair (.int .i64) (.pair (.arr 3 (.flt .f32)) (.pair (.int .i64) (.pair (.int .i64) (.unit))))))])] Try.f19 laws_toLegS_sg x = laws_toLegS x.1 := by kernel_rfl
theorem laws_toLegS_so : Sound Try.prog 19 laws_toLegS_en := sound_of_body (envS (l := [(47, laws_toLeg_en)]) (⟨laws_toLeg_so, trivial⟩)) Try.func19 (by kernel_rfl) rfl (fun x y h => (laws_toLegS_eq x).trans h)

-- loop.example/g01204/laws.toVecS
noncomputable def laws_toVecS_l3 (a0 : (List (Vec 3 Nat))) (s618 : (Int × (List (Vec 3 Nat)) × Unit)) : Option ((Int × (List (Vec 3 Nat)) × Unit) ⊕ (((List (Vec 3 Nat)) × Unit) × Unit)) :=
  bif (iLt s618.1 (lenI a0)) then
    bif inB s618.1 (List.length a0) then
      (laws_toVec (List.getD a0 s618.1.toNat ((0, 0, 0, ()) : (Vec 3 Nat)))).bind fun y621 =>
      bif inB s618.1 (List.length s618.2.1) then
        some (Sum.inl ((iAdd .i64 s618.1 1), List.set s618.2.1 s618.1.toNat y621.1.1, ()))
      else none
    else none
  else
  Option.map Sum.inr (some ((s618.2.1, ()), ()))
noncomputable def laws_toVecS (a0 : (List (Vec 3 Nat))) : Option (((List (Vec 3 Nat)) × Unit) × Unit) :=
  bif (iLe 0 (lenI a0) && iLe (lenI a0) (lenI a0) && room (lenI a0).toNat 12) then run (laws_toVecS_l3 a0) ((0 : Int), List.replicate (lenI a0).toNat ((0, 0, 0, ()) : (Vec 3 Nat)), ()) else none
noncomputable def laws_toVecS_sg : Sig := ⟨[.v (.list (.arr 3 (.flt .f32)))], [.v (.rows (.arr 3 (.flt .f32)))], false⟩
noncomputable def laws_toVecS_en : Entry := ⟨laws_toVecS_sg, fun x => laws_toVecS x.1⟩
theorem laws_toVecS_eq (x : laws_toVecS_sg.dom) : body (env [(17, laws_toVec_en)]) [(3, .vary [(4, .sc (.int .i64)), (3, .mrows (.arr 3 (.flt .f32)))])] Try.f18 laws_toVecS_sg x = laws_toVecS x.1 := by kernel_rfl
theorem laws_toVecS_so : Sound Try.prog 18 laws_toVecS_en := sound_of_body (envS (l := [(17, laws_toVec_en)]) (⟨laws_toVec_so, trivial⟩)) Try.func18 (by kernel_rfl) rfl (fun x y h => (laws_toVecS_eq x).trans h)

-- loop.example/g01204/laws.toMission
noncomputable def laws_toMission (a0 : (Int × ((Vec 3 Nat) × ((List (Vec 3 Nat)) × ((List (Int × ((Vec 3 Nat) × (Int × (Int × Unit))))) × Unit))))) : Option (((Int × ((Vec 3 Nat) × ((List (Vec 3 Nat)) × ((List (Int × ((Vec 3 Nat) × (Int × (Int × Unit))))) × Unit)))) × Unit) × Unit) :=
  (laws_toVec a0.2.1).bind fun y594 =>
  (laws_toVecS a0.2.2.1).bind fun y595 =>
  (laws_toLegS a0.2.2.2.1).bind fun y596 =>
  some ((((a0.1, y594.1.1, y595.1.1, y596.1.1, ()) : (Int × ((Vec 3 Nat) × ((List (Vec 3 Nat)) × ((List (Int × ((Vec 3 Nat) × (Int × (Int × Unit))))) × Unit))))), ()), ())
noncomputable def laws_toMission_sg : Sig := ⟨[.v (.pair (.int .i64) (.pair (.arr 3 (.flt .f32)) (.pair (.list (.arr 3 (.flt .f32))) (.pair (.list (.pair (.int .i64) (.pair (.arr 3 (.flt .f32)) (.pair (.int .i64) (.pair (.int .i64) (.unit)))))) (.unit)))))], [.v (.pair (.val (.int .i64)) (.pair (.val (.arr 3 (.flt .f32))) (.pair (.rows (.arr 3 (.flt .f32))) (.pair (.rows (.pair (.int .i64) (.pair (.arr 3 (.flt .f32)) (.pair (.int .i64) (.pair (.int .i64) (.unit)))))) (.val (.unit))))))], false⟩
noncomputable def laws_toMission_en : Entry := ⟨laws_toMission_sg, fun x => laws_toMission x.1⟩
theorem laws_toMission_eq (x : laws_toMission_sg.dom) : body (env [(17, laws_toVec_en), (18, laws_toVecS_en), (19, laws_toLegS_en)]) [] Try.f6 laws_toMission_sg x = laws_toMission x.1 := by kernel_rfl
theorem laws_toMission_so : Sound Try.prog 6 laws_toMission_en := sound_of_body (envS (l := [(17, laws_toVec_en), (18, laws_toVecS_en), (19, laws_toLegS_en)]) (⟨laws_toVec_so, laws_toVecS_so, laws_toLegS_so, trivial⟩)) Try.func6 (by kernel_rfl) rfl (fun x y h => (laws_toMission_eq x).trans h)

-- loop.example/g01204/spec.l00In
noncomputable def spec_l00In (a0 : Int) (a1 : Int) (a2 : Int) : Option ((Bool × Unit) × Unit) :=
  bif (iLe a1 a0) then
    some (((iLe a0 a2), ()), ())
  else some ((false, ()), ())
noncomputable def spec_l00In_sg : Sig := ⟨[.v (.int .i64), .v (.int .i64), .v (.int .i64)], [.v (.val (.bool))], false⟩
noncomputable def spec_l00In_en : Entry := ⟨spec_l00In_sg, fun x => spec_l00In x.1 x.2.1 x.2.2.1⟩
theorem spec_l00In_eq (x : spec_l00In_sg.dom) : body (env []) [] Try.f38 spec_l00In_sg x = spec_l00In x.1 x.2.1 x.2.2.1 := by kernel_rfl
theorem spec_l00In_so : Sound Try.prog 38 spec_l00In_en := sound_of_body (envS (l := []) (trivial)) Try.func38 (by kernel_rfl) rfl (fun x y h => (spec_l00In_eq x).trans h)

-- loop.example/g01204/spec.l01Finite
noncomputable def spec_l01Finite (a0 : Nat) : Option ((Bool × Unit) × Unit) :=
  some (((fEq .f32 (fSub .f32 a0 a0) 0), ()), ())
noncomputable def spec_l01Finite_sg : Sig := ⟨[.v (.flt .f32)], [.v (.val (.bool))], false⟩
noncomputable def spec_l01Finite_en : Entry := ⟨spec_l01Finite_sg, fun x => spec_l01Finite x.1⟩
theorem spec_l01Finite_eq (x : spec_l01Finite_sg.dom) : body (env []) [] Try.f46 spec_l01Finite_sg x = spec_l01Finite x.1 := by kernel_rfl
theorem spec_l01Finite_so : Sound Try.prog 46 spec_l01Finite_en := sound_of_body (envS (l := []) (trivial)) Try.func46 (by kernel_rfl) rfl (fun x y h => (spec_l01Finite_eq x).trans h)

-- loop.example/g01204/spec.l01Vec
noncomputable def spec_l01Vec (a0 : (Vec 3 Nat)) : Option ((Bool × Unit) × Unit) :=
  (spec_l01Finite (Vec.getD 3 a0 0 (0 : Nat))).bind fun y651 =>
  bif y651.1.1 then
    (spec_l01Finite (Vec.getD 3 a0 1 (0 : Nat))).bind fun y653 =>
    bif y653.1.1 then
      (spec_l01Finite (Vec.getD 3 a0 2 (0 : Nat))).bind fun y655 =>
      some ((y655.1.1, ()), ())
    else some ((false, ()), ())
  else some ((false, ()), ())
noncomputable def spec_l01Vec_sg : Sig := ⟨[.v (.arr 3 (.flt .f32))], [.v (.val (.bool))], false⟩
noncomputable def spec_l01Vec_en : Entry := ⟨spec_l01Vec_sg, fun x => spec_l01Vec x.1⟩
theorem spec_l01Vec_eq (x : spec_l01Vec_sg.dom) : body (env [(46, spec_l01Finite_en)]) [] Try.f39 spec_l01Vec_sg x = spec_l01Vec x.1 := by kernel_rfl
theorem spec_l01Vec_so : Sound Try.prog 39 spec_l01Vec_en := sound_of_body (envS (l := [(46, spec_l01Finite_en)]) (⟨spec_l01Finite_so, trivial⟩)) Try.func39 (by kernel_rfl) rfl (fun x y h => (spec_l01Vec_eq x).trans h)

-- loop.example/g01204/spec.l08Frame
noncomputable def spec_l08Frame_l4 (a2 : (List (Vec 3 Nat))) (s663 : (Int × Unit)) : Option ((Int × Unit) ⊕ ((Bool × Unit) × Unit)) :=
  bif (iLt s663.1 (lenI a2)) then
    bif inB s663.1 (List.length a2) then
      (spec_l01Vec (List.getD a2 s663.1.toNat ((0, 0, 0, ()) : (Vec 3 Nat)))).bind fun y666 =>
      bif (! y666.1.1) then
        Option.map Sum.inr (some ((false, ()), ()))
      else
      some (Sum.inl ((iAdd .i64 s663.1 1), ()))
    else none
  else
  Option.map Sum.inr (some ((true, ()), ()))
noncomputable def spec_l08Frame (a0 : Int) (a1 : (Vec 3 Nat)) (a2 : (List (Vec 3 Nat))) : Option ((Bool × Unit) × Unit) :=
  (spec_l00In a0 (1 : Int) (64 : Int)).bind fun y658 =>
  bif (! y658.1.1) then some ((false, ()), ()) else
  (spec_l01Vec a1).bind fun y660 =>
  bif (! y660.1.1) then some ((false, ()), ()) else
  bif (iLt 6 (lenI a2)) then some ((false, ()), ()) else run (spec_l08Frame_l4 a2) ((0 : Int), ())
noncomputable def spec_l08Frame_sg : Sig := ⟨[.v (.int .i64), .v (.arr 3 (.flt .f32)), .v (.list (.arr 3 (.flt .f32)))], [.v (.val (.bool))], false⟩
noncomputable def spec_l08Frame_en : Entry := ⟨spec_l08Frame_sg, fun x => spec_l08Frame x.1 x.2.1 x.2.2.1⟩
theorem spec_l08Frame_eq (x : spec_l08Frame_sg.dom) : body (env [(38, spec_l00In_en), (39, spec_l01Vec_en)]) [(4, .vary [(7, .sc (.int .i64))])] Try.f37 spec_l08Frame_sg x = spec_l08Frame x.1 x.2.1 x.2.2.1 := by kernel_rfl
theorem spec_l08Frame_so : Sound Try.prog 37 spec_l08Frame_en := sound_of_body (envS (l := [(38, spec_l00In_en), (39, spec_l01Vec_en)]) (⟨spec_l00In_so, spec_l01Vec_so, trivial⟩)) Try.func37 (by kernel_rfl) rfl (fun x y h => (spec_l08Frame_eq x).trans h)

-- loop.example/g01204/spec.l08Ok
noncomputable def spec_l08Ok_l5 (a0 : (Int × ((Vec 3 Nat) × ((List (Vec 3 Nat)) × ((List (Int × ((Vec 3 Nat) × (Int × (Int × Unit))))) × Unit))))) (s629 : (Int × Int × Unit)) : Option ((Int × Int × Unit) ⊕ ((Bool × Unit) × Unit)) :=
  bif (iLt s629.2.1 (lenI a0.2.2.2.1)) then
    bif inB s629.2.1 (List.length a0.2.2.2.1) then
      (spec_l00In ((List.getD a0.2.2.2.1 s629.2.1.toNat ((0, (0, 0, 0, ()), 0, 0, ()) : (Int × ((Vec 3 Nat) × (Int × (Int × Unit)))))).1) (1 : Int) (400 : Int)).bind fun y632 =>
      bif (! y632.1.1) then
        Option.map Sum.inr (some ((false, ()), ()))
      else
      (spec_l01Vec (((List.getD a0.2.2.2.1 s629.2.1.toNat ((0, (0, 0, 0, ()), 0, 0, ()) : (Int × ((Vec 3 Nat) × (Int × (Int × Unit)))))).2).1)).bind fun y635 =>
      bif (! y635.1.1) then
        Option.map Sum.inr (some ((false, ()), ()))
      else
      (spec_l00In ((((List.getD a0.2.2.2.1 s629.2.1.toNat ((0, (0, 0, 0, ()), 0, 0, ()) : (Int × ((Vec 3 Nat) × (Int × (Int × Unit)))))).2).2).1) (0 : Int) (400 : Int)).bind fun y638 =>
      bif (! y638.1.1) then
        Option.map Sum.inr (some ((false, ()), ()))
      else
      (spec_l00In (((((List.getD a0.2.2.2.1 s629.2.1.toNat ((0, (0, 0, 0, ()), 0, 0, ()) : (Int × ((Vec 3 Nat) × (Int × (Int × Unit)))))).2).2).2).1) ((-1 : Int) : Int) (iSub .i64 (lenI a0.2.2.1) 1)).bind fun y642 =>
      bif (! y642.1.1) then
        Option.map Sum.inr (some ((false, ()), ()))
      else
      some (Sum.inl ((iAdd .i64 s629.1 ((List.getD a0.2.2.2.1 s629.2.1.toNat ((0, (0, 0, 0, ()), 0, 0, ()) : (Int × ((Vec 3 Nat) × (Int × (Int × Unit)))))).1)), (iAdd .i64 s629.2.1 1), ()))
    else none
  else
  Option.map Sum.inr (some (((iLe s629.1 400), ()), ()))
noncomputable def spec_l08Ok (a0 : (Int × ((Vec 3 Nat) × ((List (Vec 3 Nat)) × ((List (Int × ((Vec 3 Nat) × (Int × (Int × Unit))))) × Unit))))) : Option ((Bool × Unit) × Unit) :=
  (spec_l08Frame a0.1 a0.2.1 a0.2.2.1).bind fun y626 =>
  bif (! y626.1.1) then some ((false, ()), ()) else
  bif (iLt 64 (lenI a0.2.2.2.1)) then some ((false, ()), ()) else run (spec_l08Ok_l5 a0) ((0 : Int), (0 : Int), ())
noncomputable def spec_l08Ok_sg : Sig := ⟨[.ro (.pair (.int .i64) (.pair (.arr 3 (.flt .f32)) (.pair (.list (.arr 3 (.flt .f32))) (.pair (.list (.pair (.int .i64) (.pair (.arr 3 (.flt .f32)) (.pair (.int .i64) (.pair (.int .i64) (.unit)))))) (.unit)))))], [.v (.val (.bool))], false⟩
noncomputable def spec_l08Ok_en : Entry := ⟨spec_l08Ok_sg, fun x => spec_l08Ok x.1⟩
theorem spec_l08Ok_eq (x : spec_l08Ok_sg.dom) : body (env [(37, spec_l08Frame_en), (38, spec_l00In_en), (39, spec_l01Vec_en)]) [(5, .vary [(3, .sc (.int .i64)), (4, .sc (.int .i64))])] Try.f15 spec_l08Ok_sg x = spec_l08Ok x.1 := by kernel_rfl
theorem spec_l08Ok_so : Sound Try.prog 15 spec_l08Ok_en := sound_of_body (envS (l := [(37, spec_l08Frame_en), (38, spec_l00In_en), (39, spec_l01Vec_en)]) (⟨spec_l08Frame_so, spec_l00In_so, spec_l01Vec_so, trivial⟩)) Try.func15 (by kernel_rfl) rfl (fun x y h => (spec_l08Ok_eq x).trans h)

-- loop.example/g01204/spec.l04Count
noncomputable def spec_l04Count (a0 : Nat) : Option ((Int × Unit) × Unit) :=
  (fConv .f32 .f64 a0).bind fun y776 =>
  (math_RoundToEven y776).bind fun y777 =>
  bif (! (fEq .f64 y777.1.1 y777.1.1)) then some (((0 : Int), ()), ()) else
  bif (fLt .f64 4674736138332667904 y777.1.1) then some (((32767 : Int), ()), ()) else
  bif (fLt .f64 y777.1.1 13898108450065350656) then some ((((-32768 : Int) : Int), ()), ()) else
  (fToInt .f64 y777.1.1 .i16).bind fun n781 =>
  some ((n781, ()), ())
noncomputable def spec_l04Count_sg : Sig := ⟨[.v (.flt .f32)], [.v (.val (.int .i16))], false⟩
noncomputable def spec_l04Count_en : Entry := ⟨spec_l04Count_sg, fun x => spec_l04Count x.1⟩
theorem spec_l04Count_eq (x : spec_l04Count_sg.dom) : body (env [(70, math_RoundToEven_en)]) [] Try.f74 spec_l04Count_sg x = spec_l04Count x.1 := by kernel_rfl
theorem spec_l04Count_so : Sound Try.prog 74 spec_l04Count_en := sound_of_body (envS (l := [(70, math_RoundToEven_en)]) (⟨math_RoundToEven_so, trivial⟩)) Try.func74 (by kernel_rfl) rfl (fun x y h => (spec_l04Count_eq x).trans h)

-- loop.example/g01204/spec.l04Counts
noncomputable def spec_l04Counts (a0 : ((Vec 3 Nat) × ((Vec 3 Nat) × (Int × (Int × Unit))))) (a1 : (Vec 3 Nat)) : Option (((Vec 3 Int) × Unit) × Unit) :=
  (spec_l04Count (fDiv .f32 (fSub .f32 (Vec.getD 3 a1 0 (0 : Nat)) (Vec.getD 3 a0.2.1 0 (0 : Nat))) (Vec.getD 3 a0.1 0 (0 : Nat)))).bind fun y763 =>
  (spec_l04Count (fDiv .f32 (fSub .f32 (Vec.getD 3 a1 1 (0 : Nat)) (Vec.getD 3 a0.2.1 1 (0 : Nat))) (Vec.getD 3 a0.1 1 (0 : Nat)))).bind fun y769 =>
  (spec_l04Count (fDiv .f32 (fSub .f32 (Vec.getD 3 a1 2 (0 : Nat)) (Vec.getD 3 a0.2.1 2 (0 : Nat))) (Vec.getD 3 a0.1 2 (0 : Nat)))).bind fun y775 =>
  some ((((y763.1.1, y769.1.1, y775.1.1, ()) : (Vec 3 Int)), ()), ())
noncomputable def spec_l04Counts_sg : Sig := ⟨[.ro (.pair (.arr 3 (.flt .f32)) (.pair (.arr 3 (.flt .f32)) (.pair (.int .i64) (.pair (.int .i64) (.unit))))), .v (.arr 3 (.flt .f32))], [.v (.val (.arr 3 (.int .i16)))], false⟩
noncomputable def spec_l04Counts_en : Entry := ⟨spec_l04Counts_sg, fun x => spec_l04Counts x.1 x.2.1⟩
theorem spec_l04Counts_eq (x : spec_l04Counts_sg.dom) : body (env [(74, spec_l04Count_en)]) [(3, .unroll 4)] Try.f61 spec_l04Counts_sg x = spec_l04Counts x.1 x.2.1 := by kernel_rfl
theorem spec_l04Counts_so : Sound Try.prog 61 spec_l04Counts_en := sound_of_body (envS (l := [(74, spec_l04Count_en)]) (⟨spec_l04Count_so, trivial⟩)) Try.func61 (by kernel_rfl) rfl (fun x y h => (spec_l04Counts_eq x).trans h)

-- loop.example/g01204/spec.l04Sensor
noncomputable def spec_l04Sensor (a0 : ((Vec 3 Nat) × ((Vec 3 Nat) × (Int × (Int × Unit))))) : Option ((Bool × Unit) × Unit) :=
  bif (fEq .f32 (Vec.getD 3 a0.1 0 (0 : Nat)) 0) then some ((false, ()), ()) else
  bif (fEq .f32 (Vec.getD 3 a0.1 1 (0 : Nat)) 0) then some ((false, ()), ()) else
  bif (fEq .f32 (Vec.getD 3 a0.1 2 (0 : Nat)) 0) then some ((false, ()), ()) else
  (spec_l01Vec a0.1).bind fun y788 =>
  bif y788.1.1 then
    (spec_l01Vec a0.2.1).bind fun y789 =>
    bif y789.1.1 then
      (spec_l00In a0.2.2.1 (1 : Int) (1000000 : Int)).bind fun y790 =>
      bif y790.1.1 then
        (spec_l00In a0.2.2.2.1 (0 : Int) (1000000 : Int)).bind fun y791 =>
        some ((y791.1.1, ()), ())
      else some ((false, ()), ())
    else some ((false, ()), ())
  else some ((false, ()), ())
noncomputable def spec_l04Sensor_sg : Sig := ⟨[.ro (.pair (.arr 3 (.flt .f32)) (.pair (.arr 3 (.flt .f32)) (.pair (.int .i64) (.pair (.int .i64) (.unit)))))], [.v (.val (.bool))], false⟩
noncomputable def spec_l04Sensor_en : Entry := ⟨spec_l04Sensor_sg, fun x => spec_l04Sensor x.1⟩
theorem spec_l04Sensor_eq (x : spec_l04Sensor_sg.dom) : body (env [(38, spec_l00In_en), (39, spec_l01Vec_en)]) [(2, .unroll 4)] Try.f60 spec_l04Sensor_sg x = spec_l04Sensor x.1 := by kernel_rfl
theorem spec_l04Sensor_so : Sound Try.prog 60 spec_l04Sensor_en := sound_of_body (envS (l := [(38, spec_l00In_en), (39, spec_l01Vec_en)]) (⟨spec_l00In_so, spec_l01Vec_so, trivial⟩)) Try.func60 (by kernel_rfl) rfl (fun x y h => (spec_l04Sensor_eq x).trans h)

-- loop.example/g01204/spec.CountsOf
noncomputable def spec_CountsOf (a0 : ((Vec 3 Nat) × ((Vec 3 Nat) × (Int × (Int × Unit))))) (a1 : (Vec 3 Nat)) : Option (((Vec 3 Int) × Int × Unit) × Unit) :=
  (spec_l04Sensor a0).bind fun y755 =>
  bif (! y755.1.1) then some ((((0, 0, 0, ()) : (Vec 3 Int)), (1 : Int), ()), ()) else
  (spec_l04Counts a0 a1).bind fun y757 =>
  some ((y757.1.1, (0 : Int), ()), ())
noncomputable def spec_CountsOf_sg : Sig := ⟨[.v (.pair (.arr 3 (.flt .f32)) (.pair (.arr 3 (.flt .f32)) (.pair (.int .i64) (.pair (.int .i64) (.unit))))), .v (.arr 3 (.flt .f32))], [.v (.val (.arr 3 (.int .i16))), .v (.val (.int .i64))], false⟩
noncomputable def spec_CountsOf_en : Entry := ⟨spec_CountsOf_sg, fun x => spec_CountsOf x.1 x.2.1⟩
theorem spec_CountsOf_eq (x : spec_CountsOf_sg.dom) : body (env [(60, spec_l04Sensor_en), (61, spec_l04Counts_en)]) [] Try.f41 spec_CountsOf_sg x = spec_CountsOf x.1 x.2.1 := by kernel_rfl
theorem spec_CountsOf_so : Sound Try.prog 41 spec_CountsOf_en := sound_of_body (envS (l := [(60, spec_l04Sensor_en), (61, spec_l04Counts_en)]) (⟨spec_l04Sensor_so, spec_l04Counts_so, trivial⟩)) Try.func41 (by kernel_rfl) rfl (fun x y h => (spec_CountsOf_eq x).trans h)

-- loop.example/g01204/spec.l01Dot
noncomputable def spec_l01Dot (a0 : (Vec 3 Nat)) (a1 : (Vec 3 Nat)) : Option ((Nat × Unit) × Unit) :=
  some (((fAdd .f32 (fAdd .f32 (fMul .f32 (Vec.getD 3 a0 0 (0 : Nat)) (Vec.getD 3 a1 0 (0 : Nat))) (fMul .f32 (Vec.getD 3 a0 1 (0 : Nat)) (Vec.getD 3 a1 1 (0 : Nat)))) (fMul .f32 (Vec.getD 3 a0 2 (0 : Nat)) (Vec.getD 3 a1 2 (0 : Nat)))), ()), ())
noncomputable def spec_l01Dot_sg : Sig := ⟨[.v (.arr 3 (.flt .f32)), .v (.arr 3 (.flt .f32))], [.v (.val (.flt .f32))], false⟩
noncomputable def spec_l01Dot_en : Entry := ⟨spec_l01Dot_sg, fun x => spec_l01Dot x.1 x.2.1⟩
theorem spec_l01Dot_eq (x : spec_l01Dot_sg.dom) : body (env []) [] Try.f65 spec_l01Dot_sg x = spec_l01Dot x.1 x.2.1 := by kernel_rfl
theorem spec_l01Dot_so : Sound Try.prog 65 spec_l01Dot_en := sound_of_body (envS (l := []) (trivial)) Try.func65 (by kernel_rfl) rfl (fun x y h => (spec_l01Dot_eq x).trans h)

-- loop.example/g01204/spec.l01Root
noncomputable def spec_l01Root (a0 : Nat) : Option ((Nat × Unit) × Unit) :=
  (fConv .f32 .f64 a0).bind fun y805 =>
  (math_Sqrt y805).bind fun y806 =>
  (fConv .f64 .f32 y806.1.1).bind fun y807 =>
  some ((y807, ()), ())
noncomputable def spec_l01Root_sg : Sig := ⟨[.v (.flt .f32)], [.v (.val (.flt .f32))], false⟩
noncomputable def spec_l01Root_en : Entry := ⟨spec_l01Root_sg, fun x => spec_l01Root x.1⟩
theorem spec_l01Root_eq (x : spec_l01Root_sg.dom) : body (env [(71, math_Sqrt_en)]) [] Try.f64 spec_l01Root_sg x = spec_l01Root x.1 := by kernel_rfl
theorem spec_l01Root_so : Sound Try.prog 64 spec_l01Root_en := sound_of_body (envS (l := [(71, math_Sqrt_en)]) (⟨math_Sqrt_so, trivial⟩)) Try.func64 (by kernel_rfl) rfl (fun x y h => (spec_l01Root_eq x).trans h)

-- loop.example/g01204/spec.LengthOf
noncomputable def spec_LengthOf (a0 : (Vec 3 Nat)) : Option ((Nat × Unit) × Unit) :=
  (spec_l01Dot a0 a0).bind fun y792 =>
  (spec_l01Root y792.1.1).bind fun y793 =>
  some ((y793.1.1, ()), ())
noncomputable def spec_LengthOf_sg : Sig := ⟨[.v (.arr 3 (.flt .f32))], [.v (.val (.flt .f32))], false⟩
noncomputable def spec_LengthOf_en : Entry := ⟨spec_LengthOf_sg, fun x => spec_LengthOf x.1⟩
theorem spec_LengthOf_eq (x : spec_LengthOf_sg.dom) : body (env [(64, spec_l01Root_en), (65, spec_l01Dot_en)]) [] Try.f44 spec_LengthOf_sg x = spec_LengthOf x.1 := by kernel_rfl
theorem spec_LengthOf_so : Sound Try.prog 44 spec_LengthOf_en := sound_of_body (envS (l := [(64, spec_l01Root_en), (65, spec_l01Dot_en)]) (⟨spec_l01Root_so, spec_l01Dot_so, trivial⟩)) Try.func44 (by kernel_rfl) rfl (fun x y h => (spec_LengthOf_eq x).trans h)

-- loop.example/g01204/spec.l00Max
noncomputable def spec_l00Max (a0 : Int) (a1 : Int) : Option ((Int × Unit) × Unit) :=
  bif (iLt a1 a0) then some ((a0, ()), ()) else some ((a1, ()), ())
noncomputable def spec_l00Max_sg : Sig := ⟨[.v (.int .i64), .v (.int .i64)], [.v (.val (.int .i64))], false⟩
noncomputable def spec_l00Max_en : Entry := ⟨spec_l00Max_sg, fun x => spec_l00Max x.1 x.2.1⟩
theorem spec_l00Max_eq (x : spec_l00Max_sg.dom) : body (env []) [] Try.f62 spec_l00Max_sg x = spec_l00Max x.1 x.2.1 := by kernel_rfl
theorem spec_l00Max_so : Sound Try.prog 62 spec_l00Max_en := sound_of_body (envS (l := []) (trivial)) Try.func62 (by kernel_rfl) rfl (fun x y h => (spec_l00Max_eq x).trans h)

-- loop.example/g01204/spec.l00Min
noncomputable def spec_l00Min (a0 : Int) (a1 : Int) : Option ((Int × Unit) × Unit) :=
  bif (iLt a0 a1) then some ((a0, ()), ()) else some ((a1, ()), ())
noncomputable def spec_l00Min_sg : Sig := ⟨[.v (.int .i64), .v (.int .i64)], [.v (.val (.int .i64))], false⟩
noncomputable def spec_l00Min_en : Entry := ⟨spec_l00Min_sg, fun x => spec_l00Min x.1 x.2.1⟩
theorem spec_l00Min_eq (x : spec_l00Min_sg.dom) : body (env []) [] Try.f63 spec_l00Min_sg x = spec_l00Min x.1 x.2.1 := by kernel_rfl
theorem spec_l00Min_so : Sound Try.prog 63 spec_l00Min_en := sound_of_body (envS (l := []) (trivial)) Try.func63 (by kernel_rfl) rfl (fun x y h => (spec_l00Min_eq x).trans h)

-- loop.example/g01204/spec.ShakeCounts
noncomputable def spec_ShakeCounts (a0 : (Vec 3 Int)) (a1 : Int) (a2 : Int) : Option (((Vec 3 Int) × Int × Int × Unit) × Unit) :=
  bif (iLt a2 0) then some ((((0, 0, 0, ()) : (Vec 3 Int)), (0 : Int), (2 : Int), ()), ()) else
  let x810 := iAdd .u32 (iMul .u32 1664525 a1) 1013904223
  let x815 := iAdd .i64 (iMul .i64 2 (iWrap .i64 a2)) 1
  bif iEq x815 0 then none else
  (spec_l00Min (32767 : Int) (iAdd .i64 (iWrap .i64 (Vec.getD 3 a0 0 (0 : Int))) (iSub .i64 (iRem .i64 (iWrap .i64 (iQuo .u32 x810 65536)) x815) (iWrap .i64 a2)))).bind fun y822 =>
  (spec_l00Max ((-32768 : Int) : Int) y822.1.1).bind fun y823 =>
  let x826 := iAdd .u32 (iMul .u32 1664525 x810) 1013904223
  let x831 := iAdd .i64 (iMul .i64 2 (iWrap .i64 a2)) 1
  bif iEq x831 0 then none else
  (spec_l00Min (32767 : Int) (iAdd .i64 (iWrap .i64 (Vec.getD 3 a0 1 (0 : Int))) (iSub .i64 (iRem .i64 (iWrap .i64 (iQuo .u32 x826 65536)) x831) (iWrap .i64 a2)))).bind fun y838 =>
  (spec_l00Max ((-32768 : Int) : Int) y838.1.1).bind fun y839 =>
  let x842 := iAdd .u32 (iMul .u32 1664525 x826) 1013904223
  let x847 := iAdd .i64 (iMul .i64 2 (iWrap .i64 a2)) 1
  bif iEq x847 0 then none else
  (spec_l00Min (32767 : Int) (iAdd .i64 (iWrap .i64 (Vec.getD 3 a0 2 (0 : Int))) (iSub .i64 (iRem .i64 (iWrap .i64 (iQuo .u32 x842 65536)) x847) (iWrap .i64 a2)))).bind fun y854 =>
  (spec_l00Max ((-32768 : Int) : Int) y854.1.1).bind fun y855 =>
  some (((((iWrap .i16 y823.1.1), (iWrap .i16 y839.1.1), (iWrap .i16 y855.1.1), ()) : (Vec 3 Int)), x842, (0 : Int), ()), ())
noncomputable def spec_ShakeCounts_sg : Sig := ⟨[.v (.arr 3 (.int .i16)), .v (.int .u32), .v (.int .i16)], [.v (.val (.arr 3 (.int .i16))), .v (.val (.int .u32)), .v (.val (.int .i64))], false⟩
noncomputable def spec_ShakeCounts_en : Entry := ⟨spec_ShakeCounts_sg, fun x => spec_ShakeCounts x.1 x.2.1 x.2.2.1⟩
theorem spec_ShakeCounts_eq (x : spec_ShakeCounts_sg.dom) : body (env [(62, spec_l00Max_en), (63, spec_l00Min_en)]) [(5, .unroll 4)] Try.f43 spec_ShakeCounts_sg x = spec_ShakeCounts x.1 x.2.1 x.2.2.1 := by kernel_rfl
theorem spec_ShakeCounts_so : Sound Try.prog 43 spec_ShakeCounts_en := sound_of_body (envS (l := [(62, spec_l00Max_en), (63, spec_l00Min_en)]) (⟨spec_l00Max_so, spec_l00Min_so, trivial⟩)) Try.func43 (by kernel_rfl) rfl (fun x y h => (spec_ShakeCounts_eq x).trans h)

-- loop.example/g01204/spec.SubVec
noncomputable def spec_SubVec (a0 : (Vec 3 Nat)) (a1 : (Vec 3 Nat)) : Option (((Vec 3 Nat) × Unit) × Unit) :=
  some (((((fSub .f32 (Vec.getD 3 a0 0 (0 : Nat)) (Vec.getD 3 a1 0 (0 : Nat))), (fSub .f32 (Vec.getD 3 a0 1 (0 : Nat)) (Vec.getD 3 a1 1 (0 : Nat))), (fSub .f32 (Vec.getD 3 a0 2 (0 : Nat)) (Vec.getD 3 a1 2 (0 : Nat))), ()) : (Vec 3 Nat)), ()), ())
noncomputable def spec_SubVec_sg : Sig := ⟨[.v (.arr 3 (.flt .f32)), .v (.arr 3 (.flt .f32))], [.v (.val (.arr 3 (.flt .f32)))], false⟩
noncomputable def spec_SubVec_en : Entry := ⟨spec_SubVec_sg, fun x => spec_SubVec x.1 x.2.1⟩
theorem spec_SubVec_eq (x : spec_SubVec_sg.dom) : body (env []) [] Try.f45 spec_SubVec_sg x = spec_SubVec x.1 x.2.1 := by kernel_rfl
theorem spec_SubVec_so : Sound Try.prog 45 spec_SubVec_en := sound_of_body (envS (l := []) (trivial)) Try.func45 (by kernel_rfl) rfl (fun x y h => (spec_SubVec_eq x).trans h)

-- loop.example/g01204/spec.l08Sensor
noncomputable def spec_l08Sensor : Option ((((Vec 3 Nat) × ((Vec 3 Nat) × (Int × (Int × Unit)))) × Unit) × Unit) :=
  some (((((1031798784, 1031798784, 1031798784, ()), (0, 0, 0, ()), 1, 0, ()) : ((Vec 3 Nat) × ((Vec 3 Nat) × (Int × (Int × Unit))))), ()), ())
noncomputable def spec_l08Sensor_sg : Sig := ⟨[], [.v (.val (.pair (.arr 3 (.flt .f32)) (.pair (.arr 3 (.flt .f32)) (.pair (.int .i64) (.pair (.int .i64) (.unit))))))], false⟩
noncomputable def spec_l08Sensor_en : Entry := ⟨spec_l08Sensor_sg, fun _ => spec_l08Sensor⟩
theorem spec_l08Sensor_eq (x : spec_l08Sensor_sg.dom) : body (env []) [] Try.f42 spec_l08Sensor_sg x = spec_l08Sensor  := by kernel_rfl
theorem spec_l08Sensor_so : Sound Try.prog 42 spec_l08Sensor_en := sound_of_body (envS (l := []) (trivial)) Try.func42 (by kernel_rfl) rfl (fun x y h => (spec_l08Sensor_eq x).trans h)

-- loop.example/g01204/spec.AddVec
noncomputable def spec_AddVec (a0 : (Vec 3 Nat)) (a1 : (Vec 3 Nat)) : Option (((Vec 3 Nat) × Unit) × Unit) :=
  some (((((fAdd .f32 (Vec.getD 3 a0 0 (0 : Nat)) (Vec.getD 3 a1 0 (0 : Nat))), (fAdd .f32 (Vec.getD 3 a0 1 (0 : Nat)) (Vec.getD 3 a1 1 (0 : Nat))), (fAdd .f32 (Vec.getD 3 a0 2 (0 : Nat)) (Vec.getD 3 a1 2 (0 : Nat))), ()) : (Vec 3 Nat)), ()), ())
noncomputable def spec_AddVec_sg : Sig := ⟨[.v (.arr 3 (.flt .f32)), .v (.arr 3 (.flt .f32))], [.v (.val (.arr 3 (.flt .f32)))], false⟩
noncomputable def spec_AddVec_en : Entry := ⟨spec_AddVec_sg, fun x => spec_AddVec x.1 x.2.1⟩
theorem spec_AddVec_eq (x : spec_AddVec_sg.dom) : body (env []) [] Try.f59 spec_AddVec_sg x = spec_AddVec x.1 x.2.1 := by kernel_rfl
theorem spec_AddVec_so : Sound Try.prog 59 spec_AddVec_en := sound_of_body (envS (l := []) (trivial)) Try.func59 (by kernel_rfl) rfl (fun x y h => (spec_AddVec_eq x).trans h)

-- loop.example/g01204/spec.ScaleVec
noncomputable def spec_ScaleVec (a0 : (Vec 3 Nat)) (a1 : Nat) : Option (((Vec 3 Nat) × Unit) × Unit) :=
  some (((((fMul .f32 (Vec.getD 3 a0 0 (0 : Nat)) a1), (fMul .f32 (Vec.getD 3 a0 1 (0 : Nat)) a1), (fMul .f32 (Vec.getD 3 a0 2 (0 : Nat)) a1), ()) : (Vec 3 Nat)), ()), ())
noncomputable def spec_ScaleVec_sg : Sig := ⟨[.v (.arr 3 (.flt .f32)), .v (.flt .f32)], [.v (.val (.arr 3 (.flt .f32)))], false⟩
noncomputable def spec_ScaleVec_en : Entry := ⟨spec_ScaleVec_sg, fun x => spec_ScaleVec x.1 x.2.1⟩
theorem spec_ScaleVec_eq (x : spec_ScaleVec_sg.dom) : body (env []) [] Try.f58 spec_ScaleVec_sg x = spec_ScaleVec x.1 x.2.1 := by kernel_rfl
theorem spec_ScaleVec_so : Sound Try.prog 58 spec_ScaleVec_en := sound_of_body (envS (l := []) (trivial)) Try.func58 (by kernel_rfl) rfl (fun x y h => (spec_ScaleVec_eq x).trans h)

-- loop.example/g01204/spec.l08Track
noncomputable def spec_l08Track_l8 (s891 : ((List (Vec 3 Nat)) × Int × (Vec 3 Nat) × Unit)) (a0 : (Int × ((Vec 3 Nat) × ((List (Vec 3 Nat)) × ((List (Int × ((Vec 3 Nat) × (Int × (Int × Unit))))) × Unit))))) (y896 : (((Vec 3 Nat) × Unit) × Unit)) (s905 : ((List (Vec 3 Nat)) × Int × (Vec 3 Nat) × Unit)) : Option (((List (Vec 3 Nat)) × Int × (Vec 3 Nat) × Unit) ⊕ (((List (Vec 3 Nat)) × Int × (Vec 3 Nat) × Unit) ⊕ (((List (Vec 3 Nat)) × Int × Unit) × Unit))) :=
  bif inB s891.2.1 (List.length a0.2.2.2.1) then
    bif (iLt s905.2.1 ((List.getD a0.2.2.2.1 s891.2.1.toNat ((0, (0, 0, 0, ()), 0, 0, ()) : (Int × ((Vec 3 Nat) × (Int × (Int × Unit)))))).1)) then
      (spec_AddVec s905.2.2.1 y896.1.1).bind fun y908 =>
      (spec_l01Vec y908.1.1).bind fun y909 =>
      bif (! y909.1.1) then
        Option.map Sum.inr (Option.map Sum.inr (some ((([] : (List (Vec 3 Nat))), (4 : Int), ()), ())))
      else
      bif room (List.length s905.1 + 1) 12 then
        some (Sum.inl ((s905.1 ++ ([y908.1.1] : (List (Vec 3 Nat)))), (iAdd .i64 s905.2.1 1), y908.1.1, ()))
      else none
    else
    Option.map Sum.inr (some (Sum.inl (s905.1, (iAdd .i64 s891.2.1 1), s905.2.2.1, ())))
  else none
noncomputable def spec_l08Track_l4 (a0 : (Int × ((Vec 3 Nat) × ((List (Vec 3 Nat)) × ((List (Int × ((Vec 3 Nat) × (Int × (Int × Unit))))) × Unit))))) (s891 : ((List (Vec 3 Nat)) × Int × (Vec 3 Nat) × Unit)) : Option (((List (Vec 3 Nat)) × Int × (Vec 3 Nat) × Unit) ⊕ (((List (Vec 3 Nat)) × Int × Unit) × Unit)) :=
  bif (iLt s891.2.1 (lenI a0.2.2.2.1)) then
    bif inB s891.2.1 (List.length a0.2.2.2.1) then
      (spec_ScaleVec (((List.getD a0.2.2.2.1 s891.2.1.toNat ((0, (0, 0, 0, ()), 0, 0, ()) : (Int × ((Vec 3 Nat) × (Int × (Int × Unit)))))).2).1) (fDiv .f32 1065353216 (fOfInt .f32 a0.1))).bind fun y896 =>
      run (spec_l08Track_l8 s891 a0 y896) (s891.1, (0 : Int), s891.2.2.1, ())
    else none
  else
  Option.map Sum.inr (some ((s891.1, (0 : Int), ()), ()))
noncomputable def spec_l08Track (a0 : (Int × ((Vec 3 Nat) × ((List (Vec 3 Nat)) × ((List (Int × ((Vec 3 Nat) × (Int × (Int × Unit))))) × Unit))))) : Option (((List (Vec 3 Nat)) × Int × Unit) × Unit) :=
  run (spec_l08Track_l4 a0) (([a0.2.1] : (List (Vec 3 Nat))), (0 : Int), a0.2.1, ())
noncomputable def spec_l08Track_sg : Sig := ⟨[.ro (.pair (.int .i64) (.pair (.arr 3 (.flt .f32)) (.pair (.list (.arr 3 (.flt .f32))) (.pair (.list (.pair (.int .i64) (.pair (.arr 3 (.flt .f32)) (.pair (.int .i64) (.pair (.int .i64) (.unit)))))) (.unit)))))], [.v (.rows (.arr 3 (.flt .f32))), .v (.val (.int .i64))], false⟩
noncomputable def spec_l08Track_en : Entry := ⟨spec_l08Track_sg, fun x => spec_l08Track x.1⟩
theorem spec_l08Track_eq (x : spec_l08Track_sg.dom) : body (env [(39, spec_l01Vec_en), (58, spec_ScaleVec_en), (59, spec_AddVec_en)]) [(4, .vary [(5, .rows (.arr 3 (.flt .f32))), (6, .sc (.int .i64)), (4, .box (.val (.arr 3 (.flt .f32))))]), (8, .vary [(5, .rows (.arr 3 (.flt .f32))), (8, .sc (.int .i64)), (4, .box (.val (.arr 3 (.flt .f32))))])] Try.f40 spec_l08Track_sg x = spec_l08Track x.1 := by kernel_rfl
theorem spec_l08Track_so : Sound Try.prog 40 spec_l08Track_en := sound_of_body (envS (l := [(39, spec_l01Vec_en), (58, spec_ScaleVec_en), (59, spec_AddVec_en)]) (⟨spec_l01Vec_so, spec_ScaleVec_so, spec_AddVec_so, trivial⟩)) Try.func40 (by kernel_rfl) rfl (fun x y h => (spec_l08Track_eq x).trans h)

-- loop.example/g01204/spec.l08Run
noncomputable def spec_l08Run_l12 (x705 : (Int × ((Vec 3 Nat) × (Int × (Int × Unit))))) (y669 : (((List (Vec 3 Nat)) × Int × Unit) × Unit)) (s703 : (Int × Int × Int × (Int × ((Vec 3 Nat) × ((List (Vec 3 Nat)) × ((List (Int × ((Vec 3 Nat) × ((Vec 3 Int) × (Int × (Nat × Unit)))))) × Unit)))) × Unit)) (a0 : (Int × ((Vec 3 Nat) × ((List (Vec 3 Nat)) × ((List (Int × ((Vec 3 Nat) × (Int × (Int × Unit))))) × Unit))))) (s720 : (Int × Int × Int × (Int × ((Vec 3 Nat) × ((List (Vec 3 Nat)) × ((List (Int × ((Vec 3 Nat) × ((Vec 3 Int) × (Int × (Nat × Unit)))))) × Unit)))) × Unit)) : Option ((Int × Int × Int × (Int × ((Vec 3 Nat) × ((List (Vec 3 Nat)) × ((List (Int × ((Vec 3 Nat) × ((Vec 3 Int) × (Int × (Nat × Unit)))))) × Unit)))) × Unit) ⊕ ((Int × Int × Int × (Int × ((Vec 3 Nat) × ((List (Vec 3 Nat)) × ((List (Int × ((Vec 3 Nat) × ((Vec 3 Int) × (Int × (Nat × Unit)))))) × Unit)))) × Unit) ⊕ (((Int × ((Vec 3 Nat) × ((List (Vec 3 Nat)) × ((List (Int × ((Vec 3 Nat) × ((Vec 3 Int) × (Int × (Nat × Unit)))))) × Unit)))) × Int × Unit) × Unit))) :=
  bif (iLe s720.2.2.1 x705.1) then
    let x722 := iAdd .i64 s720.2.1 1
    bif room (List.length s720.2.2.2.1.2.2.2.1 + 1) 48 then
      let l723 := s720.2.2.2.1.2.2.2.1 ++ ([(1, (0, 0, 0, ()), (0, 0, 0, ()), 0, 0, ())] : (List (Int × ((Vec 3 Nat) × ((Vec 3 Int) × (Int × (Nat × Unit)))))))
      bif (iLt 0 x705.2.2.1) then
        bif iEq x705.2.2.1 0 then none else
        bif (iEq (iRem .i64 s720.2.2.1 x705.2.2.1) 0) then
          (spec_l08Sensor).bind fun y727 =>
          bif inB x722 (List.length y669.1.1) then
            (spec_CountsOf y727.1.1 (List.getD y669.1.1 x722.toNat ((0, 0, 0, ()) : (Vec 3 Nat)))).bind fun y729 =>
            (spec_ShakeCounts y729.1.1 s720.1 (4 : Int)).bind fun y730 =>
            bif room (List.length l723 + 1) 48 then
              some (Sum.inl (y730.1.2.1, x722, (iAdd .i64 s720.2.2.1 1), ((s720.2.2.2.1.1, s720.2.2.2.1.2.1, s720.2.2.2.1.2.2.1, (l723 ++ ([(3, (0, 0, 0, ()), y730.1.1, 0, 0, ())] : (List (Int × ((Vec 3 Nat) × ((Vec 3 Int) × (Int × (Nat × Unit)))))))), s720.2.2.2.1.2.2.2.2) : (Int × ((Vec 3 Nat) × ((List (Vec 3 Nat)) × ((List (Int × ((Vec 3 Nat) × ((Vec 3 Int) × (Int × (Nat × Unit)))))) × Unit))))), ()))
            else none
          else none
        else
        some (Sum.inl (s720.1, x722, (iAdd .i64 s720.2.2.1 1), ((s720.2.2.2.1.1, s720.2.2.2.1.2.1, s720.2.2.2.1.2.2.1, l723, s720.2.2.2.1.2.2.2.2) : (Int × ((Vec 3 Nat) × ((List (Vec 3 Nat)) × ((List (Int × ((Vec 3 Nat) × ((Vec 3 Int) × (Int × (Nat × Unit)))))) × Unit))))), ()))
      else
      some (Sum.inl (s720.1, x722, (iAdd .i64 s720.2.2.1 1), ((s720.2.2.2.1.1, s720.2.2.2.1.2.1, s720.2.2.2.1.2.2.1, l723, s720.2.2.2.1.2.2.2.2) : (Int × ((Vec 3 Nat) × ((List (Vec 3 Nat)) × ((List (Int × ((Vec 3 Nat) × ((Vec 3 Int) × (Int × (Nat × Unit)))))) × Unit))))), ()))
    else none
  else
  Option.map Sum.inr (
    bif (iLt x705.2.2.2.1 0) then
      some (Sum.inl (s720.1, s720.2.1, (iAdd .i64 s703.2.2.1 1), ((s720.2.2.2.1.1, s720.2.2.2.1.2.1, s720.2.2.2.1.2.2.1, s720.2.2.2.1.2.2.2.1, s720.2.2.2.1.2.2.2.2) : (Int × ((Vec 3 Nat) × ((List (Vec 3 Nat)) × ((List (Int × ((Vec 3 Nat) × ((Vec 3 Int) × (Int × (Nat × Unit)))))) × Unit))))), ()))
    else
    let x738 := iAdd .u32 (iMul .u32 1664525 s720.1) 1013904223
    bif inB s720.2.1 (List.length y669.1.1) then
      bif inB x705.2.2.2.1 (List.length a0.2.2.1) then
        (spec_SubVec (List.getD y669.1.1 s720.2.1.toNat ((0, 0, 0, ()) : (Vec 3 Nat))) (List.getD a0.2.2.1 x705.2.2.2.1.toNat ((0, 0, 0, ()) : (Vec 3 Nat)))).bind fun y746 =>
        (spec_LengthOf y746.1.1).bind fun y747 =>
        let x749 := fAdd .f32 y747.1.1 (fDiv .f32 (fOfInt .f32 (iSub .i64 (iWrap .i64 (iRem .u32 (iQuo .u32 x738 65536) 9)) 4)) 1098907648)
        (spec_l01Finite x749).bind fun y750 =>
        bif (! y750.1.1) then
          Option.map Sum.inr (some ((((0, (0, 0, 0, ()), [], [], ()) : (Int × ((Vec 3 Nat) × ((List (Vec 3 Nat)) × ((List (Int × ((Vec 3 Nat) × ((Vec 3 Int) × (Int × (Nat × Unit)))))) × Unit))))), (4 : Int), ()), ()))
        else
        bif room (List.length s720.2.2.2.1.2.2.2.1 + 1) 48 then
          some (Sum.inl (x738, s720.2.1, (iAdd .i64 s703.2.2.1 1), ((s720.2.2.2.1.1, s720.2.2.2.1.2.1, s720.2.2.2.1.2.2.1, (s720.2.2.2.1.2.2.2.1 ++ ([(4, (0, 0, 0, ()), (0, 0, 0, ()), x705.2.2.2.1, x749, ())] : (List (Int × ((Vec 3 Nat) × ((Vec 3 Int) × (Int × (Nat × Unit)))))))), s720.2.2.2.1.2.2.2.2) : (Int × ((Vec 3 Nat) × ((List (Vec 3 Nat)) × ((List (Int × ((Vec 3 Nat) × ((Vec 3 Int) × (Int × (Nat × Unit)))))) × Unit))))), ()))
        else none
      else none
    else none)
noncomputable def spec_l08Run_l7 (a0 : (Int × ((Vec 3 Nat) × ((List (Vec 3 Nat)) × ((List (Int × ((Vec 3 Nat) × (Int × (Int × Unit))))) × Unit))))) (y669 : (((List (Vec 3 Nat)) × Int × Unit) × Unit)) (s703 : (Int × Int × Int × (Int × ((Vec 3 Nat) × ((List (Vec 3 Nat)) × ((List (Int × ((Vec 3 Nat) × ((Vec 3 Int) × (Int × (Nat × Unit)))))) × Unit)))) × Unit)) : Option ((Int × Int × Int × (Int × ((Vec 3 Nat) × ((List (Vec 3 Nat)) × ((List (Int × ((Vec 3 Nat) × ((Vec 3 Int) × (Int × (Nat × Unit)))))) × Unit)))) × Unit) ⊕ (((Int × ((Vec 3 Nat) × ((List (Vec 3 Nat)) × ((List (Int × ((Vec 3 Nat) × ((Vec 3 Int) × (Int × (Nat × Unit)))))) × Unit)))) × Int × Unit) × Unit)) :=
  bif (iLt s703.2.2.1 (lenI a0.2.2.2.1)) then
    bif inB s703.2.2.1 (List.length a0.2.2.2.1) then
      let x705 := List.getD a0.2.2.2.1 s703.2.2.1.toNat ((0, (0, 0, 0, ()), 0, 0, ()) : (Int × ((Vec 3 Nat) × (Int × (Int × Unit)))))
      bif room (List.length s703.2.2.2.1.2.2.2.1 + 1) 48 then
        run (spec_l08Run_l12 x705 y669 s703 a0) (s703.1, s703.2.1, (1 : Int), ((s703.2.2.2.1.1, s703.2.2.2.1.2.1, s703.2.2.2.1.2.2.1, (s703.2.2.2.1.2.2.2.1 ++ ([(2, x705.2.1, (0, 0, 0, ()), 0, 0, ())] : (List (Int × ((Vec 3 Nat) × ((Vec 3 Int) × (Int × (Nat × Unit)))))))), s703.2.2.2.1.2.2.2.2) : (Int × ((Vec 3 Nat) × ((List (Vec 3 Nat)) × ((List (Int × ((Vec 3 Nat) × ((Vec 3 Int) × (Int × (Nat × Unit)))))) × Unit))))), ())
      else none
    else none
  else
  Option.map Sum.inr (
    bif (iLt 1200 (lenI s703.2.2.2.1.2.2.2.1)) then some ((((0, (0, 0, 0, ()), [], [], ()) : (Int × ((Vec 3 Nat) × ((List (Vec 3 Nat)) × ((List (Int × ((Vec 3 Nat) × ((Vec 3 Int) × (Int × (Nat × Unit)))))) × Unit))))), (3 : Int), ()), ()) else
    some ((((s703.2.2.2.1.1, s703.2.2.2.1.2.1, s703.2.2.2.1.2.2.1, s703.2.2.2.1.2.2.2.1, s703.2.2.2.1.2.2.2.2) : (Int × ((Vec 3 Nat) × ((List (Vec 3 Nat)) × ((List (Int × ((Vec 3 Nat) × ((Vec 3 Int) × (Int × (Nat × Unit)))))) × Unit))))), (0 : Int), ()), ()))
noncomputable def spec_l08Run (a0 : (Int × ((Vec 3 Nat) × ((List (Vec 3 Nat)) × ((List (Int × ((Vec 3 Nat) × (Int × (Int × Unit))))) × Unit))))) (a1 : Int) : Option (((Int × ((Vec 3 Nat) × ((List (Vec 3 Nat)) × ((List (Int × ((Vec 3 Nat) × ((Vec 3 Int) × (Int × (Nat × Unit)))))) × Unit)))) × Int × Unit) × Unit) :=
  (spec_l08Track a0).bind fun y669 =>
  bif (! (iEq y669.1.2.1 0)) then some ((((0, (0, 0, 0, ()), [], [], ()) : (Int × ((Vec 3 Nat) × ((List (Vec 3 Nat)) × ((List (Int × ((Vec 3 Nat) × ((Vec 3 Int) × (Int × (Nat × Unit)))))) × Unit))))), y669.1.2.1, ()), ()) else
  bif room (0 + List.length a0.2.2.1) 12 then
    run (spec_l08Run_l7 a0 y669) (a1, (0 : Int), (0 : Int), ((a0.1, a0.2.1, (([] : (List (Vec 3 Nat))) ++ a0.2.2.1), [], ()) : (Int × ((Vec 3 Nat) × ((List (Vec 3 Nat)) × ((List (Int × ((Vec 3 Nat) × ((Vec 3 Int) × (Int × (Nat × Unit)))))) × Unit))))), ())
  else none
noncomputable def spec_l08Run_sg : Sig := ⟨[.ro (.pair (.int .i64) (.pair (.arr 3 (.flt .f32)) (.pair (.list (.arr 3 (.flt .f32))) (.pair (.list (.pair (.int .i64) (.pair (.arr 3 (.flt .f32)) (.pair (.int .i64) (.pair (.int .i64) (.unit)))))) (.unit))))), .v (.int .u32)], [.v (.pair (.val (.int .i64)) (.pair (.val (.arr 3 (.flt .f32))) (.pair (.rows (.arr 3 (.flt .f32))) (.pair (.rows (.pair (.int .i64) (.pair (.arr 3 (.flt .f32)) (.pair (.arr 3 (.int .i16)) (.pair (.int .i64) (.pair (.flt .f32) (.unit))))))) (.val (.unit)))))), .v (.val (.int .i64))], false⟩
noncomputable def spec_l08Run_en : Entry := ⟨spec_l08Run_sg, fun x => spec_l08Run x.1 x.2.1⟩
theorem spec_l08Run_eq (x : spec_l08Run_sg.dom) : body (env [(40, spec_l08Track_en), (41, spec_CountsOf_en), (42, spec_l08Sensor_en), (43, spec_ShakeCounts_en), (44, spec_LengthOf_en), (45, spec_SubVec_en), (46, spec_l01Finite_en)]) [(7, .vary [(1, .sc (.int .u32)), (9, .sc (.int .i64)), (10, .sc (.int .i64)), (8, .box (.pair (.val (.int .i64)) (.pair (.val (.arr 3 (.flt .f32))) (.pair (.rows (.arr 3 (.flt .f32))) (.pair (.rows (.pair (.int .i64) (.pair (.arr 3 (.flt .f32)) (.pair (.arr 3 (.int .i16)) (.pair (.int .i64) (.pair (.flt .f32) (.unit))))))) (.val (.unit)))))))]), (12, .vary [(1, .sc (.int .u32)), (9, .sc (.int .i64)), (12, .sc (.int .i64)), (8, .box (.pair (.val (.int .i64)) (.pair (.val (.arr 3 (.flt .f32))) (.pair (.rows (.arr 3 (.flt .f32))) (.pair (.rows (.pair (.int .i64) (.pair (.arr 3 (.flt .f32)) (.pair (.arr 3 (.int .i16)) (.pair (.int .i64) (.pair (.flt .f32) (.unit))))))) (.val (.unit)))))))])] Try.f16 spec_l08Run_sg x = spec_l08Run x.1 x.2.1 := by kernel_rfl
theorem spec_l08Run_so : Sound Try.prog 16 spec_l08Run_en := sound_of_body (envS (l := [(40, spec_l08Track_en), (41, spec_CountsOf_en), (42, spec_l08Sensor_en), (43, spec_ShakeCounts_en), (44, spec_LengthOf_en), (45, spec_SubVec_en), (46, spec_l01Finite_en)]) (⟨spec_l08Track_so, spec_CountsOf_so, spec_l08Sensor_so, spec_ShakeCounts_so, spec_LengthOf_so, spec_SubVec_so, spec_l01Finite_so, trivial⟩)) Try.func16 (by kernel_rfl) rfl (fun x y h => (spec_l08Run_eq x).trans h)

end Go.Proofs.Ytjahnpagogpffaa
