import Derived.Test.YtnndahnmlmgenaaGreatE
/- Functions on typed data: what the evaluation of each Go function is, and that it is sound. -/
namespace Go.Proofs.YtnndahnmlmgenaaGreat
open Go Go.Tm
set_option linter.unusedVariables false
set_option maxRecDepth 100000
variable {G : List (Nat × Obj)}
theorem math_sqrt_so : Sound Tryz.prog G 124 math_sqrt_en := math_sqrt_sound Tryz.func124 (by kernel_rfl) (by kernel_rfl) (by kernel_rfl) (by kernel_rfl)

-- math.Sqrt
noncomputable def math_Sqrt (a0 : Nat) : Option ((Nat × Unit) × Unit) :=
  (math_sqrt a0).bind fun y111 =>
  some ((y111.1.1, ()), ())
noncomputable def math_Sqrt_en : Entry := ⟨⟨[.v (.flt .f64)], [.v (.val (.flt .f64))], false⟩, fun x => math_Sqrt x.1⟩
theorem math_Sqrt_so : Sound Tryz.prog G 82 math_Sqrt_en := so_of (envS (l := [(124, math_sqrt_en)]) ⟨(math_sqrt_so), trivial⟩) [] Tryz.func82 (by kernel_rfl) rfl fun _ => by kernel_rfl

-- loop.example/g01204/impl.root
noncomputable def impl_root (a0 : Nat) : Option ((Nat × Unit) × Unit) :=
  (fConv .f32 .f64 a0).bind fun y108 =>
  (math_Sqrt y108).bind fun y109 =>
  (fConv .f64 .f32 y109.1.1).bind fun y110 =>
  some ((y110, ()), ())
noncomputable def impl_root_en : Entry := ⟨⟨[.v (.flt .f32)], [.v (.val (.flt .f32))], false⟩, fun x => impl_root x.1⟩
theorem impl_root_so : Sound Tryz.prog G 42 impl_root_en := so_of (envS (l := [(82, math_Sqrt_en)]) ⟨(math_Sqrt_so), trivial⟩) [] Tryz.func42 (by kernel_rfl) rfl fun _ => by kernel_rfl

-- loop.example/g01204/impl.square
noncomputable def impl_square (a0 : (Vec 2 Nat)) (a1 : (Vec 2 Nat)) : Option ((Nat × Unit) × Unit) :=
  let x114 := fSub .f32 (Vec.getD 2 a1 0 (0 : Nat)) (Vec.getD 2 a0 0 (0 : Nat))
  let x117 := fSub .f32 (Vec.getD 2 a1 1 (0 : Nat)) (Vec.getD 2 a0 1 (0 : Nat))
  some (((fAdd .f32 (fMul .f32 x114 x114) (fMul .f32 x117 x117)), ()), ())
noncomputable def impl_square_en : Entry := ⟨⟨[.v (.arr 2 (.flt .f32)), .v (.arr 2 (.flt .f32))], [.v (.val (.flt .f32))], false⟩, fun x => impl_square x.1 x.2.1⟩
theorem impl_square_so : Sound Tryz.prog G 43 impl_square_en := so_of (envS (l := []) trivial) [] Tryz.func43 (by kernel_rfl) rfl fun _ => by kernel_rfl

-- loop.example/g01204/impl.aheadOnWay
noncomputable def impl_aheadOnWay_l9 (a0 : (List (Vec 2 Nat))) (s79 : (Nat × Int × Unit)) : Option ((Nat × Int × Unit) ⊕ (((Vec 2 Nat) × Unit) × Unit)) :=
  bif (iLt (iAdd .i64 s79.2.1 1) (lenI a0)) then
    bif inB s79.2.1 (List.length a0) then
      let x82 := List.getD a0 s79.2.1.toNat ((0, 0, ()) : (Vec 2 Nat))
      let x83 := iAdd .i64 s79.2.1 1
      bif inB x83 (List.length a0) then
        let x84 := List.getD a0 x83.toNat ((0, 0, ()) : (Vec 2 Nat))
        (impl_square x82 x84).bind fun y85 =>
        (impl_root y85.1.1).bind fun y86 =>
        bif (fEq .f32 y86.1.1 0) then
          some (Sum.inl (s79.1, (iAdd .i64 s79.2.1 1), ()))
        else
        bif (fLe .f32 s79.1 y86.1.1) then
          let x90 := fDiv .f32 s79.1 y86.1.1
          let x96 := fAdd .f32 (Vec.getD 2 x82 0 (0 : Nat)) (fMul .f32 (fSub .f32 (Vec.getD 2 x84 0 (0 : Nat)) (Vec.getD 2 x82 0 (0 : Nat))) x90)
          Option.map Sum.inr (some (((Vec.set 2 (Vec.set 2 x82 0 x96) 1 (fAdd .f32 (Vec.getD 2 (Vec.set 2 x82 0 x96) 1 (0 : Nat)) (fMul .f32 (fSub .f32 (Vec.getD 2 x84 1 (0 : Nat)) (Vec.getD 2 (Vec.set 2 x82 0 x96) 1 (0 : Nat))) x90))), ()), ()))
        else
        some (Sum.inl ((fSub .f32 s79.1 y86.1.1), (iAdd .i64 s79.2.1 1), ()))
      else none
    else none
  else
  Option.map Sum.inr (
    let x106 := iSub .i64 (lenI a0) 1
    bif inB x106 (List.length a0) then
      some (((List.getD a0 x106.toNat ((0, 0, ()) : (Vec 2 Nat))), ()), ())
    else none)
noncomputable def impl_aheadOnWay_l3 (a0 : (List (Vec 2 Nat))) (a1 : (Vec 2 Nat)) (a2 : Nat) (s70 : (Int × Int × Unit)) : Option ((Int × Int × Unit) ⊕ (((Vec 2 Nat) × Unit) × Unit)) :=
  bif (iLt s70.2.1 (lenI a0)) then
    bif inB s70.2.1 (List.length a0) then
      (impl_square (List.getD a0 s70.2.1.toNat ((0, 0, ()) : (Vec 2 Nat))) a1).bind fun y73 =>
      bif inB s70.1 (List.length a0) then
        (impl_square (List.getD a0 s70.1.toNat ((0, 0, ()) : (Vec 2 Nat))) a1).bind fun y75 =>
        bif (fLt .f32 y73.1.1 y75.1.1) then
          some (Sum.inl (s70.2.1, (iAdd .i64 s70.2.1 1), ()))
        else
        some (Sum.inl (s70.1, (iAdd .i64 s70.2.1 1), ()))
      else none
    else none
  else
  Option.map Sum.inr (run (impl_aheadOnWay_l9 a0) (a2, s70.1, ()))
noncomputable def impl_aheadOnWay (a0 : (List (Vec 2 Nat))) (a1 : (Vec 2 Nat)) (a2 : Nat) : Option (((Vec 2 Nat) × Unit) × Unit) :=
  run (impl_aheadOnWay_l3 a0 a1 a2) ((0 : Int), (0 : Int), ())
noncomputable def impl_aheadOnWay_en : Entry := ⟨⟨[.v (.list (.arr 2 (.flt .f32))), .v (.arr 2 (.flt .f32)), .v (.flt .f32)], [.v (.val (.arr 2 (.flt .f32)))], false⟩, fun x => impl_aheadOnWay x.1 x.2.1 x.2.2.1⟩
theorem impl_aheadOnWay_so : Sound Tryz.prog G 45 impl_aheadOnWay_en := so_of (envS (l := [(42, impl_root_en), (43, impl_square_en)]) ⟨(impl_root_so), (impl_square_so), trivial⟩) [(3, .vary [(7, .sc (.int .i64)), (18, .sc (.int .i64))]), (9, .vary [(2, .sc (.flt .f32)), (10, .sc (.int .i64))]), (18, .unroll 3)] Tryz.func45 (by kernel_rfl) rfl fun _ => by kernel_rfl

-- loop.example/g01204/impl.isFinite
noncomputable def impl_isFinite_l2 (a0 : (List Nat)) (s121 : (Int × Unit)) : Option ((Int × Unit) ⊕ ((Bool × Unit) × Unit)) :=
  bif (iLt s121.1 (lenI a0)) then
    bif inB s121.1 (List.length a0) then
      let x123 := List.getD a0 s121.1.toNat (0 : Nat)
      bif (! (fEq .f32 (fSub .f32 x123 x123) 0)) then
        Option.map Sum.inr (some ((false, ()), ()))
      else
      some (Sum.inl ((iAdd .i64 s121.1 1), ()))
    else none
  else
  Option.map Sum.inr (some ((true, ()), ()))
noncomputable def impl_isFinite (a0 : (List Nat)) : Option ((Bool × Unit) × Unit) :=
  run (impl_isFinite_l2 a0) ((0 : Int), ())
noncomputable def impl_isFinite_en : Entry := ⟨⟨[.v (.list (.flt .f32))], [.v (.val (.bool))], false⟩, fun x => impl_isFinite x.1⟩
theorem impl_isFinite_so : Sound Tryz.prog G 39 impl_isFinite_en := so_of (envS (l := []) trivial) [(2, .vary [(7, .sc (.int .i64))])] Tryz.func39 (by kernel_rfl) rfl fun _ => by kernel_rfl

-- loop.example/g01204/impl.isLeast$1
noncomputable def impl_isLeast_1 (a0 : Nat) : Option ((Bool × Unit) × Unit) :=
  some (((fLt .f32 a0 0), ()), ())
noncomputable def impl_isLeast_1_en : Entry := ⟨⟨[.v (.flt .f32)], [.v (.val (.bool))], false⟩, fun x => impl_isLeast_1 x.1⟩
theorem impl_isLeast_1_so : Sound Tryz.prog G 84 impl_isLeast_1_en := so_of (envS (l := []) trivial) [] Tryz.func84 (by kernel_rfl) rfl fun _ => by kernel_rfl

-- slices.IndexFunc[[]float32,float32]
noncomputable def slices_IndexFunc_float32_l2 (a0 : (List Nat)) (a1 : ((Nat × Unit) → Option Bool)) (s134 : (Int × Unit)) : Option ((Int × Unit) ⊕ ((Int × Unit) × Unit)) :=
  bif (iLt s134.1 (lenI a0)) then
    bif inB s134.1 (List.length a0) then
      (a1 ((List.getD a0 s134.1.toNat (0 : Nat)), ())).bind fun y137 =>
      bif y137 then
        Option.map Sum.inr (some ((s134.1, ()), ()))
      else
      some (Sum.inl ((iAdd .i64 s134.1 1), ()))
    else none
  else
  Option.map Sum.inr (some ((((-1 : Int) : Int), ()), ()))
noncomputable def slices_IndexFunc_float32 (a0 : (List Nat)) (a1 : ((Nat × Unit) → Option Bool)) : Option ((Int × Unit) × Unit) :=
  run (slices_IndexFunc_float32_l2 a0 a1) ((0 : Int), ())
noncomputable def slices_IndexFunc_float32_en : Entry := ⟨⟨[.v (.list (.flt .f32)), .fn ⟨[.flt .f32], .bool⟩], [.v (.val (.int .i64))], false⟩, fun x => slices_IndexFunc_float32 x.1 x.2.1⟩
theorem slices_IndexFunc_float32_so : Sound Tryz.prog G 125 slices_IndexFunc_float32_en := so_of (envS (l := []) trivial) [(2, .vary [(8, .sc (.int .i64))])] Tryz.func125 (by kernel_rfl) rfl fun _ => by kernel_rfl

-- slices.ContainsFunc[[]float32,float32]
noncomputable def slices_ContainsFunc_float32 (a0 : (List Nat)) (a1 : ((Nat × Unit) → Option Bool)) : Option ((Bool × Unit) × Unit) :=
  (slices_IndexFunc_float32 a0 a1).bind fun y132 =>
  some (((iLe 0 y132.1.1), ()), ())
noncomputable def slices_ContainsFunc_float32_en : Entry := ⟨⟨[.v (.list (.flt .f32)), .fn ⟨[.flt .f32], .bool⟩], [.v (.val (.bool))], false⟩, fun x => slices_ContainsFunc_float32 x.1 x.2.1⟩
theorem slices_ContainsFunc_float32_so : Sound Tryz.prog G 83 slices_ContainsFunc_float32_en := so_of (envS (l := [(125, slices_IndexFunc_float32_en)]) ⟨(slices_IndexFunc_float32_so), trivial⟩) [] Tryz.func83 (by kernel_rfl) rfl fun _ => by kernel_rfl

-- loop.example/g01204/impl.isLeast
noncomputable def impl_isLeast (a0 : (List Nat)) : Option ((Bool × Unit) × Unit) :=
  (impl_isFinite a0).bind fun y127 =>
  bif y127.1.1 then
    (slices_ContainsFunc_float32 a0 (fun (z128 : (Nat × Unit)) => (impl_isLeast_1 z128.1).map fun y => y.1.1)).bind fun y129 =>
    some (((! y129.1.1), ()), ())
  else some ((false, ()), ())
noncomputable def impl_isLeast_en : Entry := ⟨⟨[.v (.list (.flt .f32))], [.v (.val (.bool))], false⟩, fun x => impl_isLeast x.1⟩
theorem impl_isLeast_so : Sound Tryz.prog G 44 impl_isLeast_en := so_of (envS (l := [(39, impl_isFinite_en), (83, slices_ContainsFunc_float32_en), (84, impl_isLeast_1_en)]) ⟨(impl_isFinite_so), (slices_ContainsFunc_float32_so), (impl_isLeast_1_so), trivial⟩) [] Tryz.func44 (by kernel_rfl) rfl fun _ => by kernel_rfl

-- loop.example/g01204/impl.isWay$1
noncomputable def impl_isWay_1 (a0 : (Vec 2 Nat)) : Option ((Bool × Unit) × Unit) :=
  (impl_isFinite ([Vec.getD 2 a0 0 (0 : Nat), Vec.getD 2 a0 1 (0 : Nat)] : (List Nat))).bind fun y143 =>
  some (((! y143.1.1), ()), ())
noncomputable def impl_isWay_1_en : Entry := ⟨⟨[.v (.arr 2 (.flt .f32))], [.v (.val (.bool))], false⟩, fun x => impl_isWay_1 x.1⟩
theorem impl_isWay_1_so : Sound Tryz.prog G 81 impl_isWay_1_en := so_of (envS (l := [(39, impl_isFinite_en)]) ⟨(impl_isFinite_so), trivial⟩) [] Tryz.func81 (by kernel_rfl) rfl fun _ => by kernel_rfl

-- loop.example/g01204/impl.within
noncomputable def impl_within (a0 : Int) (a1 : Int) (a2 : Int) : Option ((Bool × Unit) × Unit) :=
  bif (iLe a1 a0) then
    some (((iLe a0 a2), ()), ())
  else some ((false, ()), ())
noncomputable def impl_within_en : Entry := ⟨⟨[.v (.int .i64), .v (.int .i64), .v (.int .i64)], [.v (.val (.bool))], false⟩, fun x => impl_within x.1 x.2.1 x.2.2.1⟩
theorem impl_within_so : Sound Tryz.prog G 72 impl_within_en := so_of (envS (l := []) trivial) [] Tryz.func72 (by kernel_rfl) rfl fun _ => by kernel_rfl

-- slices.IndexFunc[[][2]float32,[2]float32]
noncomputable def slices_IndexFunc_A2float32_l2 (a0 : (List (Vec 2 Nat))) (a1 : (((Vec 2 Nat) × Unit) → Option Bool)) (s149 : (Int × Unit)) : Option ((Int × Unit) ⊕ ((Int × Unit) × Unit)) :=
  bif (iLt s149.1 (lenI a0)) then
    bif inB s149.1 (List.length a0) then
      (a1 ((List.getD a0 s149.1.toNat ((0, 0, ()) : (Vec 2 Nat))), ())).bind fun y152 =>
      bif y152 then
        Option.map Sum.inr (some ((s149.1, ()), ()))
      else
      some (Sum.inl ((iAdd .i64 s149.1 1), ()))
    else none
  else
  Option.map Sum.inr (some ((((-1 : Int) : Int), ()), ()))
noncomputable def slices_IndexFunc_A2float32 (a0 : (List (Vec 2 Nat))) (a1 : (((Vec 2 Nat) × Unit) → Option Bool)) : Option ((Int × Unit) × Unit) :=
  run (slices_IndexFunc_A2float32_l2 a0 a1) ((0 : Int), ())
noncomputable def slices_IndexFunc_A2float32_en : Entry := ⟨⟨[.v (.list (.arr 2 (.flt .f32))), .fn ⟨[.arr 2 (.flt .f32)], .bool⟩], [.v (.val (.int .i64))], false⟩, fun x => slices_IndexFunc_A2float32 x.1 x.2.1⟩
theorem slices_IndexFunc_A2float32_so : Sound Tryz.prog G 123 slices_IndexFunc_A2float32_en := so_of (envS (l := []) trivial) [(2, .vary [(8, .sc (.int .i64))])] Tryz.func123 (by kernel_rfl) rfl fun _ => by kernel_rfl

-- slices.ContainsFunc[[][2]float32,[2]float32]
noncomputable def slices_ContainsFunc_A2float32 (a0 : (List (Vec 2 Nat))) (a1 : (((Vec 2 Nat) × Unit) → Option Bool)) : Option ((Bool × Unit) × Unit) :=
  (slices_IndexFunc_A2float32 a0 a1).bind fun y147 =>
  some (((iLe 0 y147.1.1), ()), ())
noncomputable def slices_ContainsFunc_A2float32_en : Entry := ⟨⟨[.v (.list (.arr 2 (.flt .f32))), .fn ⟨[.arr 2 (.flt .f32)], .bool⟩], [.v (.val (.bool))], false⟩, fun x => slices_ContainsFunc_A2float32 x.1 x.2.1⟩
theorem slices_ContainsFunc_A2float32_so : Sound Tryz.prog G 80 slices_ContainsFunc_A2float32_en := so_of (envS (l := [(123, slices_IndexFunc_A2float32_en)]) ⟨(slices_IndexFunc_A2float32_so), trivial⟩) [] Tryz.func80 (by kernel_rfl) rfl fun _ => by kernel_rfl

-- loop.example/g01204/impl.isWay
noncomputable def impl_isWay (a0 : (List (Vec 2 Nat))) : Option ((Bool × Unit) × Unit) :=
  (impl_within (lenI a0) (1 : Int) (600 : Int)).bind fun y139 =>
  bif y139.1.1 then
    (slices_ContainsFunc_A2float32 a0 (fun (z140 : ((Vec 2 Nat) × Unit)) => (impl_isWay_1 z140.1).map fun y => y.1.1)).bind fun y141 =>
    some (((! y141.1.1), ()), ())
  else some ((false, ()), ())
noncomputable def impl_isWay_en : Entry := ⟨⟨[.v (.list (.arr 2 (.flt .f32)))], [.v (.val (.bool))], false⟩, fun x => impl_isWay x.1⟩
theorem impl_isWay_so : Sound Tryz.prog G 41 impl_isWay_en := so_of (envS (l := [(72, impl_within_en), (80, slices_ContainsFunc_A2float32_en), (81, impl_isWay_1_en)]) ⟨(impl_within_so), (slices_ContainsFunc_A2float32_so), (impl_isWay_1_so), trivial⟩) [] Tryz.func41 (by kernel_rfl) rfl fun _ => by kernel_rfl

-- loop.example/g01204/impl.AheadOnWay
noncomputable def impl_AheadOnWay (a0 : (List (Vec 2 Nat))) (a1 : (Vec 2 Nat)) (a2 : Nat) : Option (((Vec 2 Nat) × Int × Unit) × Unit) :=
  (impl_isWay a0).bind fun y63 =>
  bif (! y63.1.1) then some ((((0, 0, ()) : (Vec 2 Nat)), (2 : Int), ()), ()) else
  (impl_isFinite ([Vec.getD 2 a1 0 (0 : Nat), Vec.getD 2 a1 1 (0 : Nat)] : (List Nat))).bind fun y65 =>
  bif (! y65.1.1) then some ((((0, 0, ()) : (Vec 2 Nat)), (2 : Int), ()), ()) else
  (impl_isLeast ([a2] : (List Nat))).bind fun y67 =>
  bif (! y67.1.1) then some ((((0, 0, ()) : (Vec 2 Nat)), (2 : Int), ()), ()) else
  (impl_aheadOnWay a0 a1 a2).bind fun y69 =>
  some ((y69.1.1, (0 : Int), ()), ())
noncomputable def impl_AheadOnWay_en : Entry := ⟨⟨[.v (.list (.arr 2 (.flt .f32))), .v (.arr 2 (.flt .f32)), .v (.flt .f32)], [.v (.val (.arr 2 (.flt .f32))), .v (.val (.int .i64))], false⟩, fun x => impl_AheadOnWay x.1 x.2.1 x.2.2.1⟩
theorem impl_AheadOnWay_so : Sound Tryz.prog G 12 impl_AheadOnWay_en := so_of (envS (l := [(39, impl_isFinite_en), (41, impl_isWay_en), (44, impl_isLeast_en), (45, impl_aheadOnWay_en)]) ⟨(impl_isFinite_so), (impl_isWay_so), (impl_isLeast_so), (impl_aheadOnWay_so), trivial⟩) [] Tryz.func12 (by kernel_rfl) rfl fun _ => by kernel_rfl

theorem math_Float64frombits_so : Sound Tryz.prog G 126 math_Float64frombits_en := math_Float64frombits_sound Tryz.func126 (by kernel_rfl) (by kernel_rfl) (by kernel_rfl) (by kernel_rfl)

-- math.NaN
noncomputable def math_NaN : Option ((Nat × Unit) × Unit) :=
  (math_Float64frombits (9221120237041090561 : Int)).bind fun y315 =>
  some ((y315.1.1, ()), ())
noncomputable def math_NaN_en : Entry := ⟨⟨[], [.v (.val (.flt .f64))], false⟩, fun _ => math_NaN⟩
theorem math_NaN_so : Sound Tryz.prog G 98 math_NaN_en := so_of (envS (l := [(126, math_Float64frombits_en)]) ⟨(math_Float64frombits_so), trivial⟩) [] Tryz.func98 (by kernel_rfl) rfl fun _ => by kernel_rfl

-- loop.example/g01204/impl.notANumber
noncomputable def impl_notANumber : Option ((Nat × Unit) × Unit) :=
  (math_NaN).bind fun y313 =>
  (fConv .f64 .f32 y313.1.1).bind fun y314 =>
  some ((y314, ()), ())
noncomputable def impl_notANumber_en : Entry := ⟨⟨[], [.v (.val (.flt .f32))], false⟩, fun _ => impl_notANumber⟩
theorem impl_notANumber_so : Sound Tryz.prog G 59 impl_notANumber_en := so_of (envS (l := [(98, math_NaN_en)]) ⟨(math_NaN_so), trivial⟩) [] Tryz.func59 (by kernel_rfl) rfl fun _ => by kernel_rfl

-- math.Abs
noncomputable def math_Abs (a0 : Nat) : Option ((Nat × Unit) × Unit) :=
  allSame fun (q316 : Nat) =>
  (math_Float64frombits (iAndNot .u64 (bitsF .f64 a0 q316) 9223372036854775808)).bind fun y319 =>
  some ((y319.1.1, ()), ())
noncomputable def math_Abs_en : Entry := ⟨⟨[.v (.flt .f64)], [.v (.val (.flt .f64))], false⟩, fun x => math_Abs x.1⟩
theorem math_Abs_so : Sound Tryz.prog G 88 math_Abs_en := so_of (envS (l := [(126, math_Float64frombits_en)]) ⟨(math_Float64frombits_so), trivial⟩) [] Tryz.func88 (by kernel_rfl) rfl fun _ => by kernel_rfl

-- loop.example/g01204/impl.AngleOf
noncomputable def impl_AngleOf_l14 (x223 : Nat) (x222 : Nat) (y204 : ((Nat × Unit) × Unit)) (y202 : ((Nat × Unit) × Unit)) (a1 : Nat) (a0 : Nat) (s224 : (Nat × Int × Unit)) : Option ((Nat × Int × Unit) ⊕ ((Nat × Unit) × Unit)) :=
  bif (iLe 0 s224.2.1) then
    some (Sum.inl ((fSub .f64 (fDiv .f64 4607182418800017408 (fOfInt .f64 (iAdd .i64 (iMul .i64 2 s224.2.1) 1))) (fMul .f64 x223 s224.1)), (iSub .i64 s224.2.1 1), ()))
  else
  Option.map Sum.inr (
    let x234 := fMul .f64 (fMul .f64 4620693217682128896 x222) s224.1
    bif (fLt .f64 y204.1.1 y202.1.1) then
      let x236 := fSub .f64 4609753056924675352 x234
      bif (fLt .f32 a1 0) then
        let x238 := fSub .f64 4614256656552045848 x236
        bif (fLt .f32 a0 0) then
          (fConv .f64 .f32 (fNeg .f64 x238)).bind fun y241 =>
          some ((y241, ()), ())
        else
        (fConv .f64 .f32 x238).bind fun y242 =>
        some ((y242, ()), ())
      else
      bif (fLt .f32 a0 0) then
        (fConv .f64 .f32 (fNeg .f64 x236)).bind fun y245 =>
        some ((y245, ()), ())
      else
      (fConv .f64 .f32 x236).bind fun y246 =>
      some ((y246, ()), ())
    else
    bif (fLt .f32 a1 0) then
      let x248 := fSub .f64 4614256656552045848 x234
      bif (fLt .f32 a0 0) then
        (fConv .f64 .f32 (fNeg .f64 x248)).bind fun y251 =>
        some ((y251, ()), ())
      else
      (fConv .f64 .f32 x248).bind fun y252 =>
      some ((y252, ()), ())
    else
    bif (fLt .f32 a0 0) then
      (fConv .f64 .f32 (fNeg .f64 x234)).bind fun y255 =>
      some ((y255, ()), ())
    else
    (fConv .f64 .f32 x234).bind fun y256 =>
    some ((y256, ()), ()))
noncomputable def impl_AngleOf_l14_2 (x279 : Nat) (x278 : Nat) (y260 : ((Nat × Unit) × Unit)) (y258 : ((Nat × Unit) × Unit)) (a1 : Nat) (a0 : Nat) (s280 : (Nat × Int × Unit)) : Option ((Nat × Int × Unit) ⊕ ((Nat × Unit) × Unit)) :=
  bif (iLe 0 s280.2.1) then
    some (Sum.inl ((fSub .f64 (fDiv .f64 4607182418800017408 (fOfInt .f64 (iAdd .i64 (iMul .i64 2 s280.2.1) 1))) (fMul .f64 x279 s280.1)), (iSub .i64 s280.2.1 1), ()))
  else
  Option.map Sum.inr (
    let x290 := fMul .f64 (fMul .f64 4620693217682128896 x278) s280.1
    bif (fLt .f64 y260.1.1 y258.1.1) then
      let x292 := fSub .f64 4609753056924675352 x290
      bif (fLt .f32 a1 0) then
        let x294 := fSub .f64 4614256656552045848 x292
        bif (fLt .f32 a0 0) then
          (fConv .f64 .f32 (fNeg .f64 x294)).bind fun y297 =>
          some ((y297, ()), ())
        else
        (fConv .f64 .f32 x294).bind fun y298 =>
        some ((y298, ()), ())
      else
      bif (fLt .f32 a0 0) then
        (fConv .f64 .f32 (fNeg .f64 x292)).bind fun y301 =>
        some ((y301, ()), ())
      else
      (fConv .f64 .f32 x292).bind fun y302 =>
      some ((y302, ()), ())
    else
    bif (fLt .f32 a1 0) then
      let x304 := fSub .f64 4614256656552045848 x290
      bif (fLt .f32 a0 0) then
        (fConv .f64 .f32 (fNeg .f64 x304)).bind fun y307 =>
        some ((y307, ()), ())
      else
      (fConv .f64 .f32 x304).bind fun y308 =>
      some ((y308, ()), ())
    else
    bif (fLt .f32 a0 0) then
      (fConv .f64 .f32 (fNeg .f64 x290)).bind fun y311 =>
      some ((y311, ()), ())
    else
    (fConv .f64 .f32 x290).bind fun y312 =>
    some ((y312, ()), ()))
noncomputable def impl_AngleOf (a0 : Nat) (a1 : Nat) : Option ((Nat × Unit) × Unit) :=
  (impl_isFinite ([a0, a1] : (List Nat))).bind fun y196 =>
  bif (! y196.1.1) then
    (impl_notANumber).bind fun y198 =>
    some ((y198.1.1, ()), ())
  else
  bif (fEq .f32 a0 0) then
    bif (fEq .f32 a1 0) then some (((0 : Nat), ()), ()) else
    (fConv .f32 .f64 a0).bind fun y201 =>
    (math_Abs y201).bind fun y202 =>
    (fConv .f32 .f64 a1).bind fun y203 =>
    (math_Abs y203).bind fun y204 =>
    let x207 := fDiv .f64 (fMin .f64 y202.1.1 y204.1.1) (fMax .f64 y202.1.1 y204.1.1)
    (math_Sqrt (fAdd .f64 4607182418800017408 (fMul .f64 x207 x207))).bind fun y210 =>
    let x212 := fDiv .f64 x207 (fAdd .f64 4607182418800017408 y210.1.1)
    (math_Sqrt (fAdd .f64 4607182418800017408 (fMul .f64 x212 x212))).bind fun y215 =>
    let x217 := fDiv .f64 x212 (fAdd .f64 4607182418800017408 y215.1.1)
    (math_Sqrt (fAdd .f64 4607182418800017408 (fMul .f64 x217 x217))).bind fun y220 =>
    let x222 := fDiv .f64 x217 (fAdd .f64 4607182418800017408 y220.1.1)
    let x223 := fMul .f64 x222 x222
    run (impl_AngleOf_l14 x223 x222 y204 y202 a1 a0) ((0 : Nat), (12 : Int), ())
  else
  (fConv .f32 .f64 a0).bind fun y257 =>
  (math_Abs y257).bind fun y258 =>
  (fConv .f32 .f64 a1).bind fun y259 =>
  (math_Abs y259).bind fun y260 =>
  let x263 := fDiv .f64 (fMin .f64 y258.1.1 y260.1.1) (fMax .f64 y258.1.1 y260.1.1)
  (math_Sqrt (fAdd .f64 4607182418800017408 (fMul .f64 x263 x263))).bind fun y266 =>
  let x268 := fDiv .f64 x263 (fAdd .f64 4607182418800017408 y266.1.1)
  (math_Sqrt (fAdd .f64 4607182418800017408 (fMul .f64 x268 x268))).bind fun y271 =>
  let x273 := fDiv .f64 x268 (fAdd .f64 4607182418800017408 y271.1.1)
  (math_Sqrt (fAdd .f64 4607182418800017408 (fMul .f64 x273 x273))).bind fun y276 =>
  let x278 := fDiv .f64 x273 (fAdd .f64 4607182418800017408 y276.1.1)
  let x279 := fMul .f64 x278 x278
  run (impl_AngleOf_l14_2 x279 x278 y260 y258 a1 a0) ((0 : Nat), (12 : Int), ())
noncomputable def impl_AngleOf_en : Entry := ⟨⟨[.v (.flt .f32), .v (.flt .f32)], [.v (.val (.flt .f32))], false⟩, fun x => impl_AngleOf x.1 x.2.1⟩
theorem impl_AngleOf_so : Sound Tryz.prog G 50 impl_AngleOf_en := so_of (envS (l := [(39, impl_isFinite_en), (59, impl_notANumber_en), (82, math_Sqrt_en), (88, math_Abs_en)]) ⟨(impl_isFinite_so), (impl_notANumber_so), (math_Sqrt_so), (math_Abs_so), trivial⟩) [(8, .unroll 4), (14, .vary [(9, .sc (.flt .f64)), (10, .sc (.int .i64))])] Tryz.func50 (by kernel_rfl) rfl fun _ => by kernel_rfl

theorem math_archFloor_so : Sound Tryz.prog G 198 math_archFloor_en := round_sound (name := "math.archFloor") Tryz.func198 (by kernel_rfl) (by kernel_rfl) (by kernel_rfl) (by kernel_rfl)

-- math.Floor
noncomputable def math_Floor (a0 : Nat) : Option ((Nat × Unit) × Unit) :=
  (math_archFloor a0).bind fun y508 =>
  some ((y508.1.1, ()), ())
noncomputable def math_Floor_en : Entry := ⟨⟨[.v (.flt .f64)], [.v (.val (.flt .f64))], false⟩, fun x => math_Floor x.1⟩
theorem math_Floor_so : Sound Tryz.prog G 165 math_Floor_en := so_of (envS (l := [(198, math_archFloor_en)]) ⟨(math_archFloor_so), trivial⟩) [] Tryz.func165 (by kernel_rfl) rfl fun _ => by kernel_rfl

-- loop.example/g01204/impl.sineOfTurns
noncomputable def impl_sineOfTurns (a0 : Nat) : Option ((Nat × Unit) × Unit) :=
  (math_Floor a0).bind fun y348 =>
  let x349 := fSub .f64 a0 y348.1.1
  let x350 := fLe .f64 4602678819172646912 x349
  bif x350 then
    let x351 := fSub .f64 x349 4602678819172646912
    bif (fLt .f64 4598175219545276416 x351) then
      let x354 := fMul .f64 4618760256179416344 (fSub .f64 4602678819172646912 x351)
      let x355 := fMul .f64 x354 x354
      let x388 := fMul .f64 (fSub .f64 4607182418800017408 (fMul .f64 (fDiv .f64 x355 (fOfInt .f64 6)) (fSub .f64 4607182418800017408 (fMul .f64 (fDiv .f64 x355 (fOfInt .f64 20)) (fSub .f64 4607182418800017408 (fMul .f64 (fDiv .f64 x355 (fOfInt .f64 42)) (fSub .f64 4607182418800017408 (fMul .f64 (fDiv .f64 x355 (fOfInt .f64 72)) (fSub .f64 4607182418800017408 (fMul .f64 (fDiv .f64 x355 (fOfInt .f64 110)) (fSub .f64 4607182418800017408 (fMul .f64 (fDiv .f64 x355 (fOfInt .f64 156)) (fSub .f64 4607182418800017408 (fMul .f64 (fDiv .f64 x355 (fOfInt .f64 210)) (fSub .f64 4607182418800017408 (fMul .f64 (fDiv .f64 x355 (fOfInt .f64 272)) 4607182418800017408)))))))))))))))) x354
      bif x350 then
        (fConv .f64 .f32 (fNeg .f64 x388)).bind fun y390 =>
        some ((y390, ()), ())
      else
      (fConv .f64 .f32 x388).bind fun y391 =>
      some ((y391, ()), ())
    else
    let x392 := fMul .f64 4618760256179416344 x351
    let x393 := fMul .f64 x392 x392
    let x426 := fMul .f64 (fSub .f64 4607182418800017408 (fMul .f64 (fDiv .f64 x393 (fOfInt .f64 6)) (fSub .f64 4607182418800017408 (fMul .f64 (fDiv .f64 x393 (fOfInt .f64 20)) (fSub .f64 4607182418800017408 (fMul .f64 (fDiv .f64 x393 (fOfInt .f64 42)) (fSub .f64 4607182418800017408 (fMul .f64 (fDiv .f64 x393 (fOfInt .f64 72)) (fSub .f64 4607182418800017408 (fMul .f64 (fDiv .f64 x393 (fOfInt .f64 110)) (fSub .f64 4607182418800017408 (fMul .f64 (fDiv .f64 x393 (fOfInt .f64 156)) (fSub .f64 4607182418800017408 (fMul .f64 (fDiv .f64 x393 (fOfInt .f64 210)) (fSub .f64 4607182418800017408 (fMul .f64 (fDiv .f64 x393 (fOfInt .f64 272)) 4607182418800017408)))))))))))))))) x392
    bif x350 then
      (fConv .f64 .f32 (fNeg .f64 x426)).bind fun y428 =>
      some ((y428, ()), ())
    else
    (fConv .f64 .f32 x426).bind fun y429 =>
    some ((y429, ()), ())
  else
  bif (fLt .f64 4598175219545276416 x349) then
    let x432 := fMul .f64 4618760256179416344 (fSub .f64 4602678819172646912 x349)
    let x433 := fMul .f64 x432 x432
    let x466 := fMul .f64 (fSub .f64 4607182418800017408 (fMul .f64 (fDiv .f64 x433 (fOfInt .f64 6)) (fSub .f64 4607182418800017408 (fMul .f64 (fDiv .f64 x433 (fOfInt .f64 20)) (fSub .f64 4607182418800017408 (fMul .f64 (fDiv .f64 x433 (fOfInt .f64 42)) (fSub .f64 4607182418800017408 (fMul .f64 (fDiv .f64 x433 (fOfInt .f64 72)) (fSub .f64 4607182418800017408 (fMul .f64 (fDiv .f64 x433 (fOfInt .f64 110)) (fSub .f64 4607182418800017408 (fMul .f64 (fDiv .f64 x433 (fOfInt .f64 156)) (fSub .f64 4607182418800017408 (fMul .f64 (fDiv .f64 x433 (fOfInt .f64 210)) (fSub .f64 4607182418800017408 (fMul .f64 (fDiv .f64 x433 (fOfInt .f64 272)) 4607182418800017408)))))))))))))))) x432
    bif x350 then
      (fConv .f64 .f32 (fNeg .f64 x466)).bind fun y468 =>
      some ((y468, ()), ())
    else
    (fConv .f64 .f32 x466).bind fun y469 =>
    some ((y469, ()), ())
  else
  let x470 := fMul .f64 4618760256179416344 x349
  let x471 := fMul .f64 x470 x470
  let x504 := fMul .f64 (fSub .f64 4607182418800017408 (fMul .f64 (fDiv .f64 x471 (fOfInt .f64 6)) (fSub .f64 4607182418800017408 (fMul .f64 (fDiv .f64 x471 (fOfInt .f64 20)) (fSub .f64 4607182418800017408 (fMul .f64 (fDiv .f64 x471 (fOfInt .f64 42)) (fSub .f64 4607182418800017408 (fMul .f64 (fDiv .f64 x471 (fOfInt .f64 72)) (fSub .f64 4607182418800017408 (fMul .f64 (fDiv .f64 x471 (fOfInt .f64 110)) (fSub .f64 4607182418800017408 (fMul .f64 (fDiv .f64 x471 (fOfInt .f64 156)) (fSub .f64 4607182418800017408 (fMul .f64 (fDiv .f64 x471 (fOfInt .f64 210)) (fSub .f64 4607182418800017408 (fMul .f64 (fDiv .f64 x471 (fOfInt .f64 272)) 4607182418800017408)))))))))))))))) x470
  bif x350 then
    (fConv .f64 .f32 (fNeg .f64 x504)).bind fun y506 =>
    some ((y506, ()), ())
  else
  (fConv .f64 .f32 x504).bind fun y507 =>
  some ((y507, ()), ())
noncomputable def impl_sineOfTurns_en : Entry := ⟨⟨[.v (.flt .f64)], [.v (.val (.flt .f32))], false⟩, fun x => impl_sineOfTurns x.1⟩
theorem impl_sineOfTurns_so : Sound Tryz.prog G 128 impl_sineOfTurns_en := so_of (envS (l := [(165, math_Floor_en)]) ⟨(math_Floor_so), trivial⟩) [(11, .unroll 9)] Tryz.func128 (by kernel_rfl) rfl fun _ => by kernel_rfl

-- loop.example/g01204/impl.turnsOf
noncomputable def impl_turnsOf (a0 : Nat) : Option ((Nat × Unit) × Unit) :=
  (fConv .f32 .f64 a0).bind fun y509 =>
  some (((fDiv .f64 y509 4618760256179416344), ()), ())
noncomputable def impl_turnsOf_en : Entry := ⟨⟨[.v (.flt .f32)], [.v (.val (.flt .f64))], false⟩, fun x => impl_turnsOf x.1⟩
theorem impl_turnsOf_so : Sound Tryz.prog G 61 impl_turnsOf_en := so_of (envS (l := []) trivial) [] Tryz.func61 (by kernel_rfl) rfl fun _ => by kernel_rfl

-- loop.example/g01204/impl.CosineOf
noncomputable def impl_CosineOf (a0 : Nat) : Option ((Nat × Unit) × Unit) :=
  (impl_isFinite ([a0] : (List Nat))).bind fun y342 =>
  bif (! y342.1.1) then
    (impl_notANumber).bind fun y344 =>
    some ((y344.1.1, ()), ())
  else
  (impl_turnsOf a0).bind fun y345 =>
  (impl_sineOfTurns (fAdd .f64 y345.1.1 4598175219545276416)).bind fun y347 =>
  some ((y347.1.1, ()), ())
noncomputable def impl_CosineOf_en : Entry := ⟨⟨[.v (.flt .f32)], [.v (.val (.flt .f32))], false⟩, fun x => impl_CosineOf x.1⟩
theorem impl_CosineOf_so : Sound Tryz.prog G 89 impl_CosineOf_en := so_of (envS (l := [(39, impl_isFinite_en), (59, impl_notANumber_en), (61, impl_turnsOf_en), (128, impl_sineOfTurns_en)]) ⟨(impl_isFinite_so), (impl_notANumber_so), (impl_turnsOf_so), (impl_sineOfTurns_so), trivial⟩) [] Tryz.func89 (by kernel_rfl) rfl fun _ => by kernel_rfl

-- loop.example/g01204/impl.SineOf
noncomputable def impl_SineOf (a0 : Nat) : Option ((Nat × Unit) × Unit) :=
  (impl_isFinite ([a0] : (List Nat))).bind fun y511 =>
  bif (! y511.1.1) then
    (impl_notANumber).bind fun y513 =>
    some ((y513.1.1, ()), ())
  else
  (impl_turnsOf a0).bind fun y514 =>
  (impl_sineOfTurns y514.1.1).bind fun y515 =>
  some ((y515.1.1, ()), ())
noncomputable def impl_SineOf_en : Entry := ⟨⟨[.v (.flt .f32)], [.v (.val (.flt .f32))], false⟩, fun x => impl_SineOf x.1⟩
theorem impl_SineOf_so : Sound Tryz.prog G 90 impl_SineOf_en := so_of (envS (l := [(39, impl_isFinite_en), (59, impl_notANumber_en), (61, impl_turnsOf_en), (128, impl_sineOfTurns_en)]) ⟨(impl_isFinite_so), (impl_notANumber_so), (impl_turnsOf_so), (impl_sineOfTurns_so), trivial⟩) [] Tryz.func90 (by kernel_rfl) rfl fun _ => by kernel_rfl

theorem math_RoundToEven_so : Sound Tryz.prog G 60 math_RoundToEven_en := round_sound (name := "math.RoundToEven") Tryz.func60 (by kernel_rfl) (by kernel_rfl) (by kernel_rfl) (by kernel_rfl)

-- loop.example/g01204/impl.WrapAngle
noncomputable def impl_WrapAngle (a0 : Nat) : Option ((Nat × Unit) × Unit) :=
  (impl_isFinite ([a0] : (List Nat))).bind fun y516 =>
  bif (! y516.1.1) then
    (impl_notANumber).bind fun y518 =>
    some ((y518.1.1, ()), ())
  else
  (impl_turnsOf a0).bind fun y519 =>
  (math_RoundToEven y519.1.1).bind fun y520 =>
  (fConv .f32 .f64 a0).bind fun y521 =>
  let x523 := fSub .f64 y521 (fMul .f64 4618760256179416344 y520.1.1)
  bif (fEq .f64 x523 0) then
    (fConv .f64 .f32 0).bind fun y525 =>
    some (((fMin .f32 1078530011 (fMax .f32 3226013659 y525)), ()), ())
  else
  (fConv .f64 .f32 x523).bind fun y528 =>
  some (((fMin .f32 1078530011 (fMax .f32 3226013659 y528)), ()), ())
noncomputable def impl_WrapAngle_en : Entry := ⟨⟨[.v (.flt .f32)], [.v (.val (.flt .f32))], false⟩, fun x => impl_WrapAngle x.1⟩
theorem impl_WrapAngle_so : Sound Tryz.prog G 20 impl_WrapAngle_en := so_of (envS (l := [(39, impl_isFinite_en), (59, impl_notANumber_en), (60, math_RoundToEven_en), (61, impl_turnsOf_en)]) ⟨(impl_isFinite_so), (impl_notANumber_so), (math_RoundToEven_so), (impl_turnsOf_so), trivial⟩) [] Tryz.func20 (by kernel_rfl) rfl fun _ => by kernel_rfl

-- loop.example/g01204/impl.ComposePoses
noncomputable def impl_ComposePoses (a0 : (Vec 3 Nat)) (a1 : (Vec 3 Nat)) : Option (((Vec 3 Nat) × Unit) × Unit) :=
  (impl_CosineOf (Vec.getD 3 a0 2 (0 : Nat))).bind fun y321 =>
  (impl_SineOf (Vec.getD 3 a0 2 (0 : Nat))).bind fun y323 =>
  (impl_WrapAngle (fAdd .f32 (Vec.getD 3 a0 2 (0 : Nat)) (Vec.getD 3 a1 2 (0 : Nat)))).bind fun y341 =>
  some (((((fAdd .f32 (Vec.getD 3 a0 0 (0 : Nat)) (fSub .f32 (fMul .f32 y321.1.1 (Vec.getD 3 a1 0 (0 : Nat))) (fMul .f32 y323.1.1 (Vec.getD 3 a1 1 (0 : Nat))))), (fAdd .f32 (Vec.getD 3 a0 1 (0 : Nat)) (fAdd .f32 (fMul .f32 y323.1.1 (Vec.getD 3 a1 0 (0 : Nat))) (fMul .f32 y321.1.1 (Vec.getD 3 a1 1 (0 : Nat))))), y341.1.1, ()) : (Vec 3 Nat)), ()), ())
noncomputable def impl_ComposePoses_en : Entry := ⟨⟨[.v (.arr 3 (.flt .f32)), .v (.arr 3 (.flt .f32))], [.v (.val (.arr 3 (.flt .f32)))], false⟩, fun x => impl_ComposePoses x.1 x.2.1⟩
theorem impl_ComposePoses_so : Sound Tryz.prog G 51 impl_ComposePoses_en := so_of (envS (l := [(20, impl_WrapAngle_en), (89, impl_CosineOf_en), (90, impl_SineOf_en)]) ⟨(impl_WrapAngle_so), (impl_CosineOf_so), (impl_SineOf_so), trivial⟩) [] Tryz.func51 (by kernel_rfl) rfl fun _ => by kernel_rfl

-- loop.example/g01204/impl.IsFinitePose
noncomputable def impl_IsFinitePose (a0 : (Vec 3 Nat)) : Option ((Bool × Unit) × Unit) :=
  (impl_isFinite ([Vec.getD 3 a0 0 (0 : Nat), Vec.getD 3 a0 1 (0 : Nat), Vec.getD 3 a0 2 (0 : Nat)] : (List Nat))).bind fun y531 =>
  some ((y531.1.1, ()), ())
noncomputable def impl_IsFinitePose_en : Entry := ⟨⟨[.v (.arr 3 (.flt .f32))], [.v (.val (.bool))], false⟩, fun x => impl_IsFinitePose x.1⟩
theorem impl_IsFinitePose_so : Sound Tryz.prog G 49 impl_IsFinitePose_en := so_of (envS (l := [(39, impl_isFinite_en)]) ⟨(impl_isFinite_so), trivial⟩) [] Tryz.func49 (by kernel_rfl) rfl fun _ => by kernel_rfl

-- loop.example/g01204/impl.FollowWay
noncomputable def impl_FollowWay (a0 : (List (Vec 2 Nat))) (a1 : (Vec 3 Nat)) (a2 : Nat) (a3 : Nat) : Option (((Vec 3 Nat) × Int × Unit) × Unit) :=
  (impl_isWay a0).bind fun y154 =>
  bif (! y154.1.1) then some ((((0, 0, 0, ()) : (Vec 3 Nat)), (2 : Int), ()), ()) else
  (impl_isLeast ([a2] : (List Nat))).bind fun y156 =>
  bif (! y156.1.1) then some ((((0, 0, 0, ()) : (Vec 3 Nat)), (2 : Int), ()), ()) else
  (impl_IsFinitePose a1).bind fun y158 =>
  bif (! y158.1.1) then some ((((0, 0, 0, ()) : (Vec 3 Nat)), (2 : Int), ()), ()) else
  (impl_isFinite ([a3] : (List Nat))).bind fun y160 =>
  bif (! y160.1.1) then some ((((0, 0, 0, ()) : (Vec 3 Nat)), (2 : Int), ()), ()) else
  (impl_aheadOnWay a0 (((Vec.getD 3 a1 0 (0 : Nat)), (Vec.getD 3 a1 1 (0 : Nat)), ()) : (Vec 2 Nat)) a2).bind fun y164 =>
  let x167 := fSub .f32 (Vec.getD 2 y164.1.1 0 (0 : Nat)) (Vec.getD 3 a1 0 (0 : Nat))
  let x170 := fSub .f32 (Vec.getD 2 y164.1.1 1 (0 : Nat)) (Vec.getD 3 a1 1 (0 : Nat))
  bif (! (fEq .f32 x167 0)) then
    (impl_AngleOf x170 x167).bind fun y172 =>
    (impl_WrapAngle (fSub .f32 y172.1.1 (Vec.getD 3 a1 2 (0 : Nat)))).bind fun y175 =>
    (impl_WrapAngle (fAdd .f32 (Vec.getD 3 a1 2 (0 : Nat)) (fMin .f32 1056964608 (fMax .f32 3204448256 y175.1.1)))).bind fun y180 =>
    (impl_ComposePoses (Vec.set 3 a1 2 y180.1.1) ((a3, 0, 0, ()) : (Vec 3 Nat))).bind fun y182 =>
    some ((y182.1.1, (0 : Int), ()), ())
  else
  bif (! (fEq .f32 x170 0)) then
    (impl_AngleOf x170 x167).bind fun y184 =>
    (impl_WrapAngle (fSub .f32 y184.1.1 (Vec.getD 3 a1 2 (0 : Nat)))).bind fun y187 =>
    (impl_WrapAngle (fAdd .f32 (Vec.getD 3 a1 2 (0 : Nat)) (fMin .f32 1056964608 (fMax .f32 3204448256 y187.1.1)))).bind fun y192 =>
    (impl_ComposePoses (Vec.set 3 a1 2 y192.1.1) ((a3, 0, 0, ()) : (Vec 3 Nat))).bind fun y194 =>
    some ((y194.1.1, (0 : Int), ()), ())
  else
  (impl_ComposePoses a1 ((a3, 0, 0, ()) : (Vec 3 Nat))).bind fun y195 =>
  some ((y195.1.1, (0 : Int), ()), ())
noncomputable def impl_FollowWay_en : Entry := ⟨⟨[.v (.list (.arr 2 (.flt .f32))), .v (.arr 3 (.flt .f32)), .v (.flt .f32), .v (.flt .f32)], [.v (.val (.arr 3 (.flt .f32))), .v (.val (.int .i64))], false⟩, fun x => impl_FollowWay x.1 x.2.1 x.2.2.1 x.2.2.2.1⟩
theorem impl_FollowWay_so : Sound Tryz.prog G 16 impl_FollowWay_en := so_of (envS (l := [(20, impl_WrapAngle_en), (39, impl_isFinite_en), (41, impl_isWay_en), (44, impl_isLeast_en), (45, impl_aheadOnWay_en), (49, impl_IsFinitePose_en), (50, impl_AngleOf_en), (51, impl_ComposePoses_en)]) ⟨(impl_WrapAngle_so), (impl_isFinite_so), (impl_isWay_so), (impl_isLeast_so), (impl_aheadOnWay_so), (impl_IsFinitePose_so), (impl_AngleOf_so), (impl_ComposePoses_so), trivial⟩) [] Tryz.func16 (by kernel_rfl) rfl fun _ => by kernel_rfl

-- loop.example/g01204/impl.sumOf
noncomputable def impl_sumOf_l3 (a0 : (List Nat)) (a1 : (List Nat)) (s535 : (Nat × Int × Unit)) : Option ((Nat × Int × Unit) ⊕ ((Nat × Unit) × Unit)) :=
  bif (iLt s535.2.1 (lenI a0)) then
    bif inB s535.2.1 (List.length a0) then
      bif inB s535.2.1 (List.length a1) then
        let x539 := fMul .f32 (List.getD a0 s535.2.1.toNat (0 : Nat)) (List.getD a1 s535.2.1.toNat (0 : Nat))
        bif (iEq s535.2.1 0) then
          some (Sum.inl (x539, (iAdd .i64 s535.2.1 1), ()))
        else
        some (Sum.inl ((fAdd .f32 s535.1 x539), (iAdd .i64 s535.2.1 1), ()))
      else none
    else none
  else
  Option.map Sum.inr (some ((s535.1, ()), ()))
noncomputable def impl_sumOf (a0 : (List Nat)) (a1 : (List Nat)) : Option ((Nat × Unit) × Unit) :=
  run (impl_sumOf_l3 a0 a1) ((0 : Nat), (0 : Int), ())
noncomputable def impl_sumOf_en : Entry := ⟨⟨[.v (.list (.flt .f32)), .v (.list (.flt .f32))], [.v (.val (.flt .f32))], false⟩, fun x => impl_sumOf x.1 x.2.1⟩
theorem impl_sumOf_so : Sound Tryz.prog G 97 impl_sumOf_en := so_of (envS (l := []) trivial) [(3, .vary [(5, .sc (.flt .f32)), (10, .sc (.int .i64))])] Tryz.func97 (by kernel_rfl) rfl fun _ => by kernel_rfl

-- loop.example/g01204/impl.DotVec
noncomputable def impl_DotVec (a0 : (Vec 3 Nat)) (a1 : (Vec 3 Nat)) : Option ((Nat × Unit) × Unit) :=
  (impl_sumOf ([Vec.getD 3 a0 0 (0 : Nat), Vec.getD 3 a0 1 (0 : Nat), Vec.getD 3 a0 2 (0 : Nat)] : (List Nat)) ([Vec.getD 3 a1 0 (0 : Nat), Vec.getD 3 a1 1 (0 : Nat), Vec.getD 3 a1 2 (0 : Nat)] : (List Nat))).bind fun y534 =>
  some ((y534.1.1, ()), ())
noncomputable def impl_DotVec_en : Entry := ⟨⟨[.v (.arr 3 (.flt .f32)), .v (.arr 3 (.flt .f32))], [.v (.val (.flt .f32))], false⟩, fun x => impl_DotVec x.1 x.2.1⟩
theorem impl_DotVec_so : Sound Tryz.prog G 58 impl_DotVec_en := so_of (envS (l := [(97, impl_sumOf_en)]) ⟨(impl_sumOf_so), trivial⟩) [] Tryz.func58 (by kernel_rfl) rfl fun _ => by kernel_rfl

-- loop.example/g01204/impl.LengthOf
noncomputable def impl_LengthOf (a0 : (Vec 3 Nat)) : Option ((Nat × Unit) × Unit) :=
  (impl_DotVec a0 a0).bind fun y532 =>
  (impl_root y532.1.1).bind fun y533 =>
  some ((y533.1.1, ()), ())
noncomputable def impl_LengthOf_en : Entry := ⟨⟨[.v (.arr 3 (.flt .f32))], [.v (.val (.flt .f32))], false⟩, fun x => impl_LengthOf x.1⟩
theorem impl_LengthOf_so : Sound Tryz.prog G 19 impl_LengthOf_en := so_of (envS (l := [(42, impl_root_en), (58, impl_DotVec_en)]) ⟨(impl_root_so), (impl_DotVec_so), trivial⟩) [] Tryz.func19 (by kernel_rfl) rfl fun _ => by kernel_rfl

-- loop.example/g01204/impl.LengthOfWay
noncomputable def impl_LengthOfWay_l5 (a0 : (List (Vec 2 Nat))) (s546 : (Nat × Int × Unit)) : Option ((Nat × Int × Unit) ⊕ ((Nat × Int × Unit) × Unit)) :=
  bif (iLt s546.2.1 (lenI a0)) then
    let x548 := iSub .i64 s546.2.1 1
    bif inB x548 (List.length a0) then
      bif inB s546.2.1 (List.length a0) then
        (impl_square (List.getD a0 x548.toNat ((0, 0, ()) : (Vec 2 Nat))) (List.getD a0 s546.2.1.toNat ((0, 0, ()) : (Vec 2 Nat)))).bind fun y551 =>
        (impl_root y551.1.1).bind fun y552 =>
        some (Sum.inl ((fAdd .f32 s546.1 y552.1.1), (iAdd .i64 s546.2.1 1), ()))
      else none
    else none
  else
  Option.map Sum.inr (some ((s546.1, (0 : Int), ()), ()))
noncomputable def impl_LengthOfWay (a0 : (List (Vec 2 Nat))) : Option ((Nat × Int × Unit) × Unit) :=
  (impl_isWay a0).bind fun y544 =>
  bif (! y544.1.1) then some (((0 : Nat), (2 : Int), ()), ()) else run (impl_LengthOfWay_l5 a0) ((0 : Nat), (1 : Int), ())
noncomputable def impl_LengthOfWay_en : Entry := ⟨⟨[.v (.list (.arr 2 (.flt .f32)))], [.v (.val (.flt .f32)), .v (.val (.int .i64))], false⟩, fun x => impl_LengthOfWay x.1⟩
theorem impl_LengthOfWay_so : Sound Tryz.prog G 11 impl_LengthOfWay_en := so_of (envS (l := [(41, impl_isWay_en), (42, impl_root_en), (43, impl_square_en)]) ⟨(impl_isWay_so), (impl_root_so), (impl_square_so), trivial⟩) [(5, .vary [(4, .sc (.flt .f32)), (5, .sc (.int .i64))])] Tryz.func11 (by kernel_rfl) rfl fun _ => by kernel_rfl

-- loop.example/g01204/impl.PointsOf
noncomputable def impl_PointsOf_l5 (a0 : (List (Vec 2 Int))) (a1 : (Vec 2 Nat)) (a2 : Nat) (s560 : ((List (Vec 2 Nat)) × Int × Unit)) : Option (((List (Vec 2 Nat)) × Int × Unit) ⊕ (((List (Vec 2 Nat)) × Int × Unit) × Unit)) :=
  bif (iLt s560.2.1 (lenI a0)) then
    bif inB s560.2.1 (List.length a0) then
      let x562 := List.getD a0 s560.2.1.toNat ((0, 0, ()) : (Vec 2 Int))
      bif room (List.length s560.1 + 1) 8 then
        some (Sum.inl ((s560.1 ++ ([((fAdd .f32 (Vec.getD 2 a1 0 (0 : Nat)) (fMul .f32 a2 (fAdd .f32 (fOfInt .f32 (Vec.getD 2 x562 0 (0 : Int))) 1056964608))), (fAdd .f32 (Vec.getD 2 a1 1 (0 : Nat)) (fMul .f32 a2 (fAdd .f32 (fOfInt .f32 (Vec.getD 2 x562 1 (0 : Int))) 1056964608))), ())] : (List (Vec 2 Nat)))), (iAdd .i64 s560.2.1 1), ()))
      else none
    else none
  else
  Option.map Sum.inr (some ((s560.1, (0 : Int), ()), ()))
noncomputable def impl_PointsOf (a0 : (List (Vec 2 Int))) (a1 : (Vec 2 Nat)) (a2 : Nat) : Option (((List (Vec 2 Nat)) × Int × Unit) × Unit) :=
  (impl_isFinite ([Vec.getD 2 a1 0 (0 : Nat), Vec.getD 2 a1 1 (0 : Nat)] : (List Nat))).bind fun y555 =>
  bif (! y555.1.1) then some ((([] : (List (Vec 2 Nat))), (2 : Int), ()), ()) else
  (impl_isFinite ([a2] : (List Nat))).bind fun y557 =>
  bif (! y557.1.1) then some ((([] : (List (Vec 2 Nat))), (2 : Int), ()), ()) else
  bif (iLt 600 (lenI a0)) then some ((([] : (List (Vec 2 Nat))), (2 : Int), ()), ()) else run (impl_PointsOf_l5 a0 a1 a2) (([] : (List (Vec 2 Nat))), (0 : Int), ())
noncomputable def impl_PointsOf_en : Entry := ⟨⟨[.v (.list (.arr 2 (.int .i16))), .v (.arr 2 (.flt .f32)), .v (.flt .f32)], [.v (.rows (.arr 2 (.flt .f32))), .v (.val (.int .i64))], false⟩, fun x => impl_PointsOf x.1 x.2.1 x.2.2.1⟩
theorem impl_PointsOf_so : Sound Tryz.prog G 9 impl_PointsOf_en := so_of (envS (l := [(39, impl_isFinite_en)]) ⟨(impl_isFinite_so), trivial⟩) [(5, .vary [(8, .rows (.arr 2 (.flt .f32))), (30, .sc (.int .i64))]), (9, .unroll 3)] Tryz.func9 (by kernel_rfl) rfl fun _ => by kernel_rfl

-- loop.example/g01204/laws.f6big
noncomputable def laws_f6big (a0 : (List Int)) : Option ((Bool × Unit) × Unit) :=
  some (((iLt 4096 (lenI a0)), ()), ())
noncomputable def laws_f6big_en : Entry := ⟨⟨[.v (.list (.int .u8))], [.v (.val (.bool))], false⟩, fun x => laws_f6big x.1⟩
theorem laws_f6big_so : Sound Tryz.prog G 5 laws_f6big_en := so_of (envS (l := []) trivial) [] Tryz.func5 (by kernel_rfl) rfl fun _ => by kernel_rfl

theorem math_Float32frombits_so : Sound Tryz.prog G 132 math_Float32frombits_en := math_Float32frombits_sound Tryz.func132 (by kernel_rfl) (by kernel_rfl) (by kernel_rfl) (by kernel_rfl)

-- loop.example/g01204/spec.l01Abs
noncomputable def spec_l01Abs (a0 : Nat) : Option ((Nat × Unit) × Unit) :=
  allSame fun (q582 : Nat) =>
  (math_Float32frombits (iAnd .u32 (bitsF .f32 a0 q582) 2147483647)).bind fun y585 =>
  some ((y585.1.1, ()), ())
noncomputable def spec_l01Abs_en : Entry := ⟨⟨[.v (.flt .f32)], [.v (.val (.flt .f32))], false⟩, fun x => spec_l01Abs x.1⟩
theorem spec_l01Abs_so : Sound Tryz.prog G 99 spec_l01Abs_en := so_of (envS (l := [(132, math_Float32frombits_en)]) ⟨(math_Float32frombits_so), trivial⟩) [] Tryz.func99 (by kernel_rfl) rfl fun _ => by kernel_rfl

-- loop.example/g01204/spec.SizeOf
noncomputable def spec_SizeOf (a0 : Nat) : Option ((Nat × Unit) × Unit) :=
  (spec_l01Abs a0).bind fun y581 =>
  some ((y581.1.1, ()), ())
noncomputable def spec_SizeOf_en : Entry := ⟨⟨[.v (.flt .f32)], [.v (.val (.flt .f32))], false⟩, fun x => spec_SizeOf x.1⟩
theorem spec_SizeOf_so : Sound Tryz.prog G 62 spec_SizeOf_en := so_of (envS (l := [(99, spec_l01Abs_en)]) ⟨(spec_l01Abs_so), trivial⟩) [] Tryz.func62 (by kernel_rfl) rfl fun _ => by kernel_rfl

-- loop.example/g01204/laws.f6near
noncomputable def laws_f6near (a0 : Nat) (a1 : Nat) (a2 : Nat) : Option ((Bool × Unit) × Unit) :=
  (spec_SizeOf (fSub .f32 a0 a1)).bind fun y579 =>
  some (((fLe .f32 y579.1.1 a2), ()), ())
noncomputable def laws_f6near_en : Entry := ⟨⟨[.v (.flt .f32), .v (.flt .f32), .v (.flt .f32)], [.v (.val (.bool))], false⟩, fun x => laws_f6near x.1 x.2.1 x.2.2.1⟩
theorem laws_f6near_so : Sound Tryz.prog G 21 laws_f6near_en := so_of (envS (l := [(62, spec_SizeOf_en)]) ⟨(spec_SizeOf_so), trivial⟩) [] Tryz.func21 (by kernel_rfl) rfl fun _ => by kernel_rfl

-- loop.example/g01204/spec.l01Root
noncomputable def spec_l01Root (a0 : Nat) : Option ((Nat × Unit) × Unit) :=
  (fConv .f32 .f64 a0).bind fun y628 =>
  (math_Sqrt y628).bind fun y629 =>
  (fConv .f64 .f32 y629.1.1).bind fun y630 =>
  some ((y630, ()), ())
noncomputable def spec_l01Root_en : Entry := ⟨⟨[.v (.flt .f32)], [.v (.val (.flt .f32))], false⟩, fun x => spec_l01Root x.1⟩
theorem spec_l01Root_so : Sound Tryz.prog G 87 spec_l01Root_en := so_of (envS (l := [(82, math_Sqrt_en)]) ⟨(math_Sqrt_so), trivial⟩) [] Tryz.func87 (by kernel_rfl) rfl fun _ => by kernel_rfl

-- loop.example/g01204/spec.l07Square
noncomputable def spec_l07Square (a0 : (Vec 2 Nat)) (a1 : (Vec 2 Nat)) : Option ((Nat × Unit) × Unit) :=
  let x633 := fSub .f32 (Vec.getD 2 a1 0 (0 : Nat)) (Vec.getD 2 a0 0 (0 : Nat))
  let x636 := fSub .f32 (Vec.getD 2 a1 1 (0 : Nat)) (Vec.getD 2 a0 1 (0 : Nat))
  some (((fAdd .f32 (fMul .f32 x633 x633) (fMul .f32 x636 x636)), ()), ())
noncomputable def spec_l07Square_en : Entry := ⟨⟨[.v (.arr 2 (.flt .f32)), .v (.arr 2 (.flt .f32))], [.v (.val (.flt .f32))], false⟩, fun x => spec_l07Square x.1 x.2.1⟩
theorem spec_l07Square_so : Sound Tryz.prog G 86 spec_l07Square_en := so_of (envS (l := []) trivial) [] Tryz.func86 (by kernel_rfl) rfl fun _ => by kernel_rfl

-- loop.example/g01204/spec.l07Ahead
noncomputable def spec_l07Ahead_l8 (a0 : (List (Vec 2 Nat))) (s598 : (Nat × Int × Unit)) : Option ((Nat × Int × Unit) ⊕ (((Vec 2 Nat) × Unit) × Unit)) :=
  bif (iLt (iAdd .i64 s598.2.1 1) (lenI a0)) then
    bif inB s598.2.1 (List.length a0) then
      let x602 := iAdd .i64 s598.2.1 1
      bif inB x602 (List.length a0) then
        (spec_l07Square (List.getD a0 s598.2.1.toNat ((0, 0, ()) : (Vec 2 Nat))) (List.getD a0 x602.toNat ((0, 0, ()) : (Vec 2 Nat)))).bind fun y604 =>
        (spec_l01Root y604.1.1).bind fun y605 =>
        bif (fEq .f32 y605.1.1 0) then
          some (Sum.inl (s598.1, (iAdd .i64 s598.2.1 1), ()))
        else
        bif (fLe .f32 s598.1 y605.1.1) then
          let x609 := fDiv .f32 s598.1 y605.1.1
          bif inB s598.2.1 (List.length a0) then
            let x611 := iAdd .i64 s598.2.1 1
            bif inB x611 (List.length a0) then
              bif inB s598.2.1 (List.length a0) then
                bif inB s598.2.1 (List.length a0) then
                  let x618 := iAdd .i64 s598.2.1 1
                  bif inB x618 (List.length a0) then
                    bif inB s598.2.1 (List.length a0) then
                      Option.map Sum.inr (some (((((fAdd .f32 (Vec.getD 2 (List.getD a0 s598.2.1.toNat ((0, 0, ()) : (Vec 2 Nat))) 0 (0 : Nat)) (fMul .f32 (fSub .f32 (Vec.getD 2 (List.getD a0 x611.toNat ((0, 0, ()) : (Vec 2 Nat))) 0 (0 : Nat)) (Vec.getD 2 (List.getD a0 s598.2.1.toNat ((0, 0, ()) : (Vec 2 Nat))) 0 (0 : Nat))) x609)), (fAdd .f32 (Vec.getD 2 (List.getD a0 s598.2.1.toNat ((0, 0, ()) : (Vec 2 Nat))) 1 (0 : Nat)) (fMul .f32 (fSub .f32 (Vec.getD 2 (List.getD a0 x618.toNat ((0, 0, ()) : (Vec 2 Nat))) 1 (0 : Nat)) (Vec.getD 2 (List.getD a0 s598.2.1.toNat ((0, 0, ()) : (Vec 2 Nat))) 1 (0 : Nat))) x609)), ()) : (Vec 2 Nat)), ()), ()))
                    else none
                  else none
                else none
              else none
            else none
          else none
        else
        some (Sum.inl ((fSub .f32 s598.1 y605.1.1), (iAdd .i64 s598.2.1 1), ()))
      else none
    else none
  else
  Option.map Sum.inr (
    let x626 := iSub .i64 (lenI a0) 1
    bif inB x626 (List.length a0) then
      some (((List.getD a0 x626.toNat ((0, 0, ()) : (Vec 2 Nat))), ()), ())
    else none)
noncomputable def spec_l07Ahead_l3 (a0 : (List (Vec 2 Nat))) (a1 : (Vec 2 Nat)) (a2 : Nat) (s589 : (Int × Int × Unit)) : Option ((Int × Int × Unit) ⊕ (((Vec 2 Nat) × Unit) × Unit)) :=
  bif (iLt s589.2.1 (lenI a0)) then
    bif inB s589.2.1 (List.length a0) then
      (spec_l07Square a1 (List.getD a0 s589.2.1.toNat ((0, 0, ()) : (Vec 2 Nat)))).bind fun y592 =>
      bif inB s589.1 (List.length a0) then
        (spec_l07Square a1 (List.getD a0 s589.1.toNat ((0, 0, ()) : (Vec 2 Nat)))).bind fun y594 =>
        bif (fLt .f32 y592.1.1 y594.1.1) then
          some (Sum.inl (s589.2.1, (iAdd .i64 s589.2.1 1), ()))
        else
        some (Sum.inl (s589.1, (iAdd .i64 s589.2.1 1), ()))
      else none
    else none
  else
  Option.map Sum.inr (run (spec_l07Ahead_l8 a0) (a2, s589.1, ()))
noncomputable def spec_l07Ahead (a0 : (List (Vec 2 Nat))) (a1 : (Vec 2 Nat)) (a2 : Nat) : Option (((Vec 2 Nat) × Unit) × Unit) :=
  run (spec_l07Ahead_l3 a0 a1 a2) ((0 : Int), (1 : Int), ())
noncomputable def spec_l07Ahead_en : Entry := ⟨⟨[.v (.list (.arr 2 (.flt .f32))), .v (.arr 2 (.flt .f32)), .v (.flt .f32)], [.v (.val (.arr 2 (.flt .f32)))], false⟩, fun x => spec_l07Ahead x.1 x.2.1 x.2.2.1⟩
theorem spec_l07Ahead_so : Sound Tryz.prog G 47 spec_l07Ahead_en := so_of (envS (l := [(86, spec_l07Square_en), (87, spec_l01Root_en)]) ⟨(spec_l07Square_so), (spec_l01Root_so), trivial⟩) [(3, .vary [(7, .sc (.int .i64)), (8, .sc (.int .i64))]), (8, .vary [(2, .sc (.flt .f32)), (9, .sc (.int .i64))])] Tryz.func47 (by kernel_rfl) rfl fun _ => by kernel_rfl

-- loop.example/g01204/spec.l01Finite
noncomputable def spec_l01Finite (a0 : Nat) : Option ((Bool × Unit) × Unit) :=
  some (((fEq .f32 (fSub .f32 a0 a0) 0), ()), ())
noncomputable def spec_l01Finite_en : Entry := ⟨⟨[.v (.flt .f32)], [.v (.val (.bool))], false⟩, fun x => spec_l01Finite x.1⟩
theorem spec_l01Finite_so : Sound Tryz.prog G 53 spec_l01Finite_en := so_of (envS (l := []) trivial) [] Tryz.func53 (by kernel_rfl) rfl fun _ => by kernel_rfl

-- loop.example/g01204/spec.l00In
noncomputable def spec_l00In (a0 : Int) (a1 : Int) (a2 : Int) : Option ((Bool × Unit) × Unit) :=
  bif (iLe a1 a0) then
    some (((iLe a0 a2), ()), ())
  else some ((false, ()), ())
noncomputable def spec_l00In_en : Entry := ⟨⟨[.v (.int .i64), .v (.int .i64), .v (.int .i64)], [.v (.val (.bool))], false⟩, fun x => spec_l00In x.1 x.2.1 x.2.2.1⟩
theorem spec_l00In_so : Sound Tryz.prog G 120 spec_l00In_en := so_of (envS (l := []) trivial) [] Tryz.func120 (by kernel_rfl) rfl fun _ => by kernel_rfl

-- loop.example/g01204/spec.l07Way
noncomputable def spec_l07Way_l2 (a0 : (List (Vec 2 Nat))) (s649 : (Int × Unit)) : Option ((Int × Unit) ⊕ ((Bool × Unit) × Unit)) :=
  bif (iLt s649.1 (lenI a0)) then
    bif inB s649.1 (List.length a0) then
      (spec_l01Finite (Vec.getD 2 (List.getD a0 s649.1.toNat ((0, 0, ()) : (Vec 2 Nat))) 0 (0 : Nat))).bind fun y652 =>
      bif (! y652.1.1) then
        Option.map Sum.inr (some ((false, ()), ()))
      else
      bif inB s649.1 (List.length a0) then
        (spec_l01Finite (Vec.getD 2 (List.getD a0 s649.1.toNat ((0, 0, ()) : (Vec 2 Nat))) 1 (0 : Nat))).bind fun y655 =>
        bif (! y655.1.1) then
          Option.map Sum.inr (some ((false, ()), ()))
        else
        some (Sum.inl ((iAdd .i64 s649.1 1), ()))
      else none
    else none
  else
  Option.map Sum.inr (
    (spec_l00In (lenI a0) (1 : Int) (600 : Int)).bind fun y658 =>
    some ((y658.1.1, ()), ()))
noncomputable def spec_l07Way (a0 : (List (Vec 2 Nat))) : Option ((Bool × Unit) × Unit) :=
  run (spec_l07Way_l2 a0) ((0 : Int), ())
noncomputable def spec_l07Way_en : Entry := ⟨⟨[.v (.list (.arr 2 (.flt .f32)))], [.v (.val (.bool))], false⟩, fun x => spec_l07Way x.1⟩
theorem spec_l07Way_so : Sound Tryz.prog G 85 spec_l07Way_en := so_of (envS (l := [(53, spec_l01Finite_en), (120, spec_l00In_en)]) ⟨(spec_l01Finite_so), (spec_l00In_so), trivial⟩) [(2, .vary [(3, .sc (.int .i64))])] Tryz.func85 (by kernel_rfl) rfl fun _ => by kernel_rfl

-- loop.example/g01204/spec.l07Follows
noncomputable def spec_l07Follows (a0 : (List (Vec 2 Nat))) (a1 : (Vec 2 Nat)) (a2 : Nat) : Option ((Bool × Unit) × Unit) :=
  (spec_l07Way a0).bind fun y640 =>
  bif y640.1.1 then
    (spec_l01Finite (Vec.getD 2 a1 0 (0 : Nat))).bind fun y642 =>
    bif y642.1.1 then
      (spec_l01Finite (Vec.getD 2 a1 1 (0 : Nat))).bind fun y644 =>
      bif y644.1.1 then
        (spec_l01Finite a2).bind fun y645 =>
        bif y645.1.1 then
          some (((fLe .f32 0 a2), ()), ())
        else some ((false, ()), ())
      else some ((false, ()), ())
    else some ((false, ()), ())
  else some ((false, ()), ())
noncomputable def spec_l07Follows_en : Entry := ⟨⟨[.v (.list (.arr 2 (.flt .f32))), .v (.arr 2 (.flt .f32)), .v (.flt .f32)], [.v (.val (.bool))], false⟩, fun x => spec_l07Follows x.1 x.2.1 x.2.2.1⟩
theorem spec_l07Follows_so : Sound Tryz.prog G 46 spec_l07Follows_en := so_of (envS (l := [(53, spec_l01Finite_en), (85, spec_l07Way_en)]) ⟨(spec_l01Finite_so), (spec_l07Way_so), trivial⟩) [] Tryz.func46 (by kernel_rfl) rfl fun _ => by kernel_rfl

-- loop.example/g01204/spec.AheadOnWay
noncomputable def spec_AheadOnWay (a0 : (List (Vec 2 Nat))) (a1 : (Vec 2 Nat)) (a2 : Nat) : Option (((Vec 2 Nat) × Int × Unit) × Unit) :=
  (spec_l07Follows a0 a1 a2).bind fun y586 =>
  bif (! y586.1.1) then some ((((0, 0, ()) : (Vec 2 Nat)), (2 : Int), ()), ()) else
  (spec_l07Ahead a0 a1 a2).bind fun y588 =>
  some ((y588.1.1, (0 : Int), ()), ())
noncomputable def spec_AheadOnWay_en : Entry := ⟨⟨[.v (.list (.arr 2 (.flt .f32))), .v (.arr 2 (.flt .f32)), .v (.flt .f32)], [.v (.val (.arr 2 (.flt .f32))), .v (.val (.int .i64))], false⟩, fun x => spec_AheadOnWay x.1 x.2.1 x.2.2.1⟩
theorem spec_AheadOnWay_so : Sound Tryz.prog G 14 spec_AheadOnWay_en := so_of (envS (l := [(46, spec_l07Follows_en), (47, spec_l07Ahead_en)]) ⟨(spec_l07Follows_so), (spec_l07Ahead_so), trivial⟩) [] Tryz.func14 (by kernel_rfl) rfl fun _ => by kernel_rfl

-- loop.example/g01204/spec.l07Index
noncomputable def spec_l07Index (a0 : (Int × (Int × ((List Int) × Unit)))) (a1 : (Vec 2 Int)) : Option ((Int × Unit) × Unit) :=
  some (((iAdd .i64 (iMul .i64 (iWrap .i64 (Vec.getD 2 a1 1 (0 : Int))) a0.1) (iWrap .i64 (Vec.getD 2 a1 0 (0 : Int)))), ()), ())
noncomputable def spec_l07Index_en : Entry := ⟨⟨[.ro (.pair (.int .i64) (.pair (.int .i64) (.pair (.list (.int .u8)) (.unit)))), .v (.arr 2 (.int .i16))], [.v (.val (.int .i64))], false⟩, fun x => spec_l07Index x.1 x.2.1⟩
theorem spec_l07Index_so : Sound Tryz.prog G 35 spec_l07Index_en := so_of (envS (l := []) trivial) [] Tryz.func35 (by kernel_rfl) rfl fun _ => by kernel_rfl

-- loop.example/g01204/spec.l07At
noncomputable def spec_l07At (a0 : (Int × (Int × ((List Int) × Unit)))) (a1 : Int) (a2 : Int) : Option ((Bool × Unit) × Unit) :=
  (spec_l00In a1 (0 : Int) (iSub .i64 a0.1 1)).bind fun y943 =>
  bif y943.1.1 then
    (spec_l00In a2 (0 : Int) (iSub .i64 a0.2.1 1)).bind fun y945 =>
    some ((y945.1.1, ()), ())
  else some ((false, ()), ())
noncomputable def spec_l07At_en : Entry := ⟨⟨[.ro (.pair (.int .i64) (.pair (.int .i64) (.pair (.list (.int .u8)) (.unit)))), .v (.int .i64), .v (.int .i64)], [.v (.val (.bool))], false⟩, fun x => spec_l07At x.1 x.2.1 x.2.2.1⟩
theorem spec_l07At_so : Sound Tryz.prog G 78 spec_l07At_en := so_of (envS (l := [(120, spec_l00In_en)]) ⟨(spec_l00In_so), trivial⟩) [] Tryz.func78 (by kernel_rfl) rfl fun _ => by kernel_rfl

-- loop.example/g01204/spec.l07Wall
noncomputable def spec_l07Wall (a0 : (Int × (Int × ((List Int) × Unit)))) (a1 : (Vec 2 Int)) : Option ((Bool × Unit) × Unit) :=
  (spec_l07Index a0 a1).bind fun y946 =>
  bif inB y946.1.1 (List.length a0.2.2.1) then
    some (((iEq (List.getD a0.2.2.1 y946.1.1.toNat (0 : Int)) 255), ()), ())
  else none
noncomputable def spec_l07Wall_en : Entry := ⟨⟨[.ro (.pair (.int .i64) (.pair (.int .i64) (.pair (.list (.int .u8)) (.unit)))), .v (.arr 2 (.int .i16))], [.v (.val (.bool))], false⟩, fun x => spec_l07Wall x.1 x.2.1⟩
theorem spec_l07Wall_so : Sound Tryz.prog G 77 spec_l07Wall_en := so_of (envS (l := [(35, spec_l07Index_en)]) ⟨(spec_l07Index_so), trivial⟩) [] Tryz.func77 (by kernel_rfl) rfl fun _ => by kernel_rfl

-- loop.example/g01204/spec.l07Move
noncomputable def spec_l07Move (a0 : (Int × (Int × ((List Int) × Unit)))) (a1 : (Vec 2 Int)) (a2 : Int) (a3 : Int) : Option (((Vec 2 Int) × Int × Bool × Unit) × Unit) :=
  let x915 := iAdd .i64 (iWrap .i64 (Vec.getD 2 a1 0 (0 : Int))) a2
  let x918 := iAdd .i64 (iWrap .i64 (Vec.getD 2 a1 1 (0 : Int))) a3
  (spec_l07At a0 x915 x918).bind fun y919 =>
  bif (! y919.1.1) then some ((((0, 0, ()) : (Vec 2 Int)), (0 : Int), false, ()), ()) else
  let x921 := iWrap .i16 x915
  let x922 := iWrap .i16 x918
  (spec_l07Wall a0 ((x921, x922, ()) : (Vec 2 Int))).bind fun y923 =>
  bif y923.1.1 then some ((((0, 0, ()) : (Vec 2 Int)), (0 : Int), false, ()), ()) else
  bif (! (iEq a2 0)) then
    bif (! (iEq a3 0)) then
      (spec_l07Wall a0 ((x921, (Vec.getD 2 a1 1 (0 : Int)), ()) : (Vec 2 Int))).bind fun y927 =>
      bif y927.1.1 then some ((((0, 0, ()) : (Vec 2 Int)), (0 : Int), false, ()), ()) else
      (spec_l07Wall a0 (((Vec.getD 2 a1 0 (0 : Int)), x922, ()) : (Vec 2 Int))).bind fun y929 =>
      bif y929.1.1 then some ((((0, 0, ()) : (Vec 2 Int)), (0 : Int), false, ()), ()) else
      (spec_l07Index a0 ((x921, x922, ()) : (Vec 2 Int))).bind fun y930 =>
      bif inB y930.1.1 (List.length a0.2.2.1) then
        some ((((x921, x922, ()) : (Vec 2 Int)), (iAdd .i64 14 (iWrap .i64 (List.getD a0.2.2.1 y930.1.1.toNat (0 : Int)))), true, ()), ())
      else none
    else
    (spec_l07Index a0 ((x921, x922, ()) : (Vec 2 Int))).bind fun y934 =>
    bif inB y934.1.1 (List.length a0.2.2.1) then
      some ((((x921, x922, ()) : (Vec 2 Int)), (iAdd .i64 10 (iWrap .i64 (List.getD a0.2.2.1 y934.1.1.toNat (0 : Int)))), true, ()), ())
    else none
  else
  (spec_l07Index a0 ((x921, x922, ()) : (Vec 2 Int))).bind fun y938 =>
  bif inB y938.1.1 (List.length a0.2.2.1) then
    some ((((x921, x922, ()) : (Vec 2 Int)), (iAdd .i64 10 (iWrap .i64 (List.getD a0.2.2.1 y938.1.1.toNat (0 : Int)))), true, ()), ())
  else none
noncomputable def spec_l07Move_en : Entry := ⟨⟨[.ro (.pair (.int .i64) (.pair (.int .i64) (.pair (.list (.int .u8)) (.unit)))), .v (.arr 2 (.int .i16)), .v (.int .i64), .v (.int .i64)], [.v (.val (.arr 2 (.int .i16))), .v (.val (.int .i64)), .v (.val (.bool))], false⟩, fun x => spec_l07Move x.1 x.2.1 x.2.2.1 x.2.2.2.1⟩
theorem spec_l07Move_so : Sound Tryz.prog G 37 spec_l07Move_en := so_of (envS (l := [(35, spec_l07Index_en), (77, spec_l07Wall_en), (78, spec_l07At_en)]) ⟨(spec_l07Index_so), (spec_l07Wall_so), (spec_l07At_so), trivial⟩) [] Tryz.func37 (by kernel_rfl) rfl fun _ => by kernel_rfl

-- loop.example/g01204/spec.l07Ways
noncomputable def spec_l07Ways : Option (((List (Vec 2 Int)) × Unit) × Unit) :=
  some ((([(1, 0, ()), (0, 1, ()), ((-1 : Int), 0, ()), (0, (-1 : Int), ()), (1, 1, ()), ((-1 : Int), 1, ()), ((-1 : Int), (-1 : Int), ()), (1, (-1 : Int), ())] : (List (Vec 2 Int))), ()), ())
noncomputable def spec_l07Ways_en : Entry := ⟨⟨[], [.v (.rows (.arr 2 (.int .i64)))], false⟩, fun _ => spec_l07Ways⟩
theorem spec_l07Ways_so : Sound Tryz.prog G 36 spec_l07Ways_en := so_of (envS (l := []) trivial) [] Tryz.func36 (by kernel_rfl) rfl fun _ => by kernel_rfl

-- loop.example/g01204/spec.l07Costs
noncomputable def spec_l07Costs_l17 (y716 : (((List (Vec 2 Int)) × Unit) × Unit)) (a0 : (Int × (Int × ((List Int) × Unit)))) (x863 : Int) (x865 : Int) (s860 : (Bool × Int × (List Int) × Unit)) (s885 : (Bool × Int × (List Int) × Unit)) : Option ((Bool × Int × (List Int) × Unit) ⊕ ((Bool × Int × (List Int) × Unit) ⊕ ((Bool × (List Int) × Unit) ⊕ (((List Int) × Unit) × Unit)))) :=
  bif (iLt s885.2.1 8) then
    bif inB s885.2.1 (List.length y716.1.1) then
      bif inB s885.2.1 (List.length y716.1.1) then
        (spec_l07Move a0 ((x863, x865, ()) : (Vec 2 Int)) (Vec.getD 2 (List.getD y716.1.1 s885.2.1.toNat ((0, 0, ()) : (Vec 2 Int))) 0 (0 : Int)) (Vec.getD 2 (List.getD y716.1.1 s885.2.1.toNat ((0, 0, ()) : (Vec 2 Int))) 1 (0 : Int))).bind fun y889 =>
        bif (! y889.1.2.2.1) then
          some (Sum.inl (s885.1, (iAdd .i64 s885.2.1 1), s885.2.2.1, ()))
        else
        (spec_l07Index a0 y889.1.1).bind fun y892 =>
        bif inB y892.1.1 (List.length s885.2.2.1) then
          bif (iLt (List.getD s885.2.2.1 y892.1.1.toNat (0 : Int)) 0) then
            some (Sum.inl (s885.1, (iAdd .i64 s885.2.1 1), s885.2.2.1, ()))
          else
          (spec_l07Index a0 y889.1.1).bind fun y896 =>
          bif inB y896.1.1 (List.length s885.2.2.1) then
            let x898 := iAdd .i64 y889.1.2.1 (List.getD s885.2.2.1 y896.1.1.toNat (0 : Int))
            bif inB s860.2.1 (List.length s885.2.2.1) then
              bif (iLt (List.getD s885.2.2.1 s860.2.1.toNat (0 : Int)) 0) then
                bif inB s860.2.1 (List.length s885.2.2.1) then
                  some (Sum.inl (true, (iAdd .i64 s885.2.1 1), List.set s885.2.2.1 s860.2.1.toNat x898, ()))
                else none
              else
              bif inB s860.2.1 (List.length s885.2.2.1) then
                bif (iLt x898 (List.getD s885.2.2.1 s860.2.1.toNat (0 : Int))) then
                  bif inB s860.2.1 (List.length s885.2.2.1) then
                    some (Sum.inl (true, (iAdd .i64 s885.2.1 1), List.set s885.2.2.1 s860.2.1.toNat x898, ()))
                  else none
                else
                some (Sum.inl (s885.1, (iAdd .i64 s885.2.1 1), s885.2.2.1, ()))
              else none
            else none
          else none
        else none
      else none
    else none
  else
  Option.map Sum.inr (some (Sum.inl (s885.1, (iAdd .i64 s860.2.1 1), s885.2.2.1, ())))
noncomputable def spec_l07Costs_l12 (a0 : (Int × (Int × ((List Int) × Unit)))) (y716 : (((List (Vec 2 Int)) × Unit) × Unit)) (s860 : (Bool × Int × (List Int) × Unit)) : Option ((Bool × Int × (List Int) × Unit) ⊕ ((Bool × (List Int) × Unit) ⊕ (((List Int) × Unit) × Unit))) :=
  bif (iLt s860.2.1 (lenI s860.2.2.1)) then
    bif iEq a0.1 0 then none else
    let x863 := iWrap .i16 (iRem .i64 s860.2.1 a0.1)
    bif iEq a0.1 0 then none else
    let x865 := iWrap .i16 (iQuo .i64 s860.2.1 a0.1)
    (spec_l07Wall a0 ((x863, x865, ()) : (Vec 2 Int))).bind fun y866 =>
    bif y866.1.1 then
      some (Sum.inl (s860.1, (iAdd .i64 s860.2.1 1), s860.2.2.1, ()))
    else run (spec_l07Costs_l17 y716 a0 x863 x865 s860) (s860.1, (0 : Int), s860.2.2.1, ())
  else
  Option.map Sum.inr (some (Sum.inl (s860.1, s860.2.2.1, ())))
noncomputable def spec_l07Costs_l9 (a0 : (Int × (Int × ((List Int) × Unit)))) (y716 : (((List (Vec 2 Int)) × Unit) × Unit)) (s812 : (Bool × (List Int) × Unit)) : Option ((Bool × (List Int) × Unit) ⊕ (((List Int) × Unit) × Unit)) :=
  bif s812.1 then run (spec_l07Costs_l12 a0 y716) (false, (0 : Int), s812.2.1, ()) else
  Option.map Sum.inr (some ((s812.2.1, ()), ()))
noncomputable def spec_l07Costs_l3 (a0 : (Int × (Int × ((List Int) × Unit)))) (a1 : (Vec 2 Int)) (s710 : (Int × (List Int) × Unit)) : Option ((Int × (List Int) × Unit) ⊕ (((List Int) × Unit) × Unit)) :=
  bif (iLt s710.1 (lenI s710.2.1)) then
    bif inB s710.1 (List.length s710.2.1) then
      some (Sum.inl ((iAdd .i64 s710.1 1), (List.set s710.2.1 s710.1.toNat ((-1 : Int) : Int)), ()))
    else none
  else
  Option.map Sum.inr (
    (spec_l07Index a0 a1).bind fun y714 =>
    bif inB y714.1.1 (List.length s710.2.1) then
      (spec_l07Ways).bind fun y716 =>
      run (spec_l07Costs_l9 a0 y716) (true, (List.set s710.2.1 y714.1.1.toNat (0 : Int)), ())
    else none)
noncomputable def spec_l07Costs (a0 : (Int × (Int × ((List Int) × Unit)))) (a1 : (Vec 2 Int)) : Option (((List Int) × Unit) × Unit) :=
  bif (iLe 0 (lenI a0.2.2.1) && iLe (lenI a0.2.2.1) (lenI a0.2.2.1) && room (lenI a0.2.2.1).toNat 8) then run (spec_l07Costs_l3 a0 a1) ((0 : Int), List.replicate (lenI a0.2.2.1).toNat (0 : Int), ()) else none
noncomputable def spec_l07Costs_en : Entry := ⟨⟨[.ro (.pair (.int .i64) (.pair (.int .i64) (.pair (.list (.int .u8)) (.unit)))), .v (.arr 2 (.int .i16))], [.v (.rows (.int .i64))], false⟩, fun x => spec_l07Costs x.1 x.2.1⟩
theorem spec_l07Costs_so : Sound Tryz.prog G 34 spec_l07Costs_en := so_of (envS (l := [(35, spec_l07Index_en), (36, spec_l07Ways_en), (37, spec_l07Move_en), (77, spec_l07Wall_en)]) ⟨(spec_l07Index_so), (spec_l07Ways_so), (spec_l07Move_so), (spec_l07Wall_so), trivial⟩) [(3, .vary [(6, .sc (.int .i64)), (5, .mrows (.int .i64))]), (9, .vary [(8, .sc (.bool)), (5, .mrows (.int .i64))]), (12, .vary [(8, .sc (.bool)), (9, .sc (.int .i64)), (5, .mrows (.int .i64))]), (17, .vary [(8, .sc (.bool)), (11, .sc (.int .i64)), (5, .mrows (.int .i64))])] Tryz.func34 (by kernel_rfl) rfl fun _ => by kernel_rfl

-- loop.example/g01204/spec.l07Ok
noncomputable def spec_l07Ok (a0 : (Int × (Int × ((List Int) × Unit)))) : Option ((Bool × Unit) × Unit) :=
  (spec_l00In a0.1 (1 : Int) (24 : Int)).bind fun y964 =>
  bif y964.1.1 then
    (spec_l00In a0.2.1 (1 : Int) (24 : Int)).bind fun y965 =>
    bif y965.1.1 then
      some (((iEq (lenI a0.2.2.1) (iMul .i64 a0.1 a0.2.1)), ()), ())
    else some ((false, ()), ())
  else some ((false, ()), ())
noncomputable def spec_l07Ok_en : Entry := ⟨⟨[.ro (.pair (.int .i64) (.pair (.int .i64) (.pair (.list (.int .u8)) (.unit))))], [.v (.val (.bool))], false⟩, fun x => spec_l07Ok x.1⟩
theorem spec_l07Ok_so : Sound Tryz.prog G 121 spec_l07Ok_en := so_of (envS (l := [(120, spec_l00In_en)]) ⟨(spec_l00In_so), trivial⟩) [] Tryz.func121 (by kernel_rfl) rfl fun _ => by kernel_rfl

-- loop.example/g01204/spec.l07Spot
noncomputable def spec_l07Spot (a0 : (Int × (Int × ((List Int) × Unit)))) (a1 : (Vec 2 Int)) : Option ((Bool × Unit) × Unit) :=
  (spec_l07At a0 (iWrap .i64 (Vec.getD 2 a1 0 (0 : Int))) (iWrap .i64 (Vec.getD 2 a1 1 (0 : Int)))).bind fun y972 =>
  some ((y972.1.1, ()), ())
noncomputable def spec_l07Spot_en : Entry := ⟨⟨[.ro (.pair (.int .i64) (.pair (.int .i64) (.pair (.list (.int .u8)) (.unit)))), .v (.arr 2 (.int .i16))], [.v (.val (.bool))], false⟩, fun x => spec_l07Spot x.1 x.2.1⟩
theorem spec_l07Spot_so : Sound Tryz.prog G 122 spec_l07Spot_en := so_of (envS (l := [(78, spec_l07At_en)]) ⟨(spec_l07At_so), trivial⟩) [] Tryz.func122 (by kernel_rfl) rfl fun _ => by kernel_rfl

-- loop.example/g01204/spec.l07Asked
noncomputable def spec_l07Asked_l4 (a1 : (List (Vec 2 Int))) (a0 : (Int × (Int × ((List Int) × Unit)))) (s958 : (Int × Unit)) : Option ((Int × Unit) ⊕ ((Int × Unit) × Unit)) :=
  bif (iLt s958.1 (lenI a1)) then
    bif inB s958.1 (List.length a1) then
      (spec_l07Spot a0 (List.getD a1 s958.1.toNat ((0, 0, ()) : (Vec 2 Int)))).bind fun y961 =>
      bif (! y961.1.1) then
        Option.map Sum.inr (some (((2 : Int), ()), ()))
      else
      some (Sum.inl ((iAdd .i64 s958.1 1), ()))
    else none
  else
  Option.map Sum.inr (some (((0 : Int), ()), ()))
noncomputable def spec_l07Asked (a0 : (Int × (Int × ((List Int) × Unit)))) (a1 : (List (Vec 2 Int))) : Option ((Int × Unit) × Unit) :=
  (spec_l07Ok a0).bind fun y956 =>
  bif (! y956.1.1) then some (((1 : Int), ()), ()) else run (spec_l07Asked_l4 a1 a0) ((0 : Int), ())
noncomputable def spec_l07Asked_en : Entry := ⟨⟨[.ro (.pair (.int .i64) (.pair (.int .i64) (.pair (.list (.int .u8)) (.unit)))), .v (.list (.arr 2 (.int .i16)))], [.v (.val (.int .i64))], false⟩, fun x => spec_l07Asked x.1 x.2.1⟩
theorem spec_l07Asked_so : Sound Tryz.prog G 76 spec_l07Asked_en := so_of (envS (l := [(121, spec_l07Ok_en), (122, spec_l07Spot_en)]) ⟨(spec_l07Ok_so), (spec_l07Spot_so), trivial⟩) [(4, .vary [(5, .sc (.int .i64))])] Tryz.func76 (by kernel_rfl) rfl fun _ => by kernel_rfl

-- loop.example/g01204/spec.l07Open
noncomputable def spec_l07Open_l5 (a1 : (List (Vec 2 Int))) (a0 : (Int × (Int × ((List Int) × Unit)))) (s951 : (Int × Unit)) : Option ((Int × Unit) ⊕ ((Int × Unit) × Unit)) :=
  bif (iLt s951.1 (lenI a1)) then
    bif inB s951.1 (List.length a1) then
      (spec_l07Wall a0 (List.getD a1 s951.1.toNat ((0, 0, ()) : (Vec 2 Int)))).bind fun y954 =>
      bif y954.1.1 then
        Option.map Sum.inr (some (((4 : Int), ()), ()))
      else
      some (Sum.inl ((iAdd .i64 s951.1 1), ()))
    else none
  else
  Option.map Sum.inr (some (((0 : Int), ()), ()))
noncomputable def spec_l07Open (a0 : (Int × (Int × ((List Int) × Unit)))) (a1 : (List (Vec 2 Int))) : Option ((Int × Unit) × Unit) :=
  (spec_l07Asked a0 a1).bind fun y949 =>
  bif (! (iEq y949.1.1 0)) then some ((y949.1.1, ()), ()) else run (spec_l07Open_l5 a1 a0) ((0 : Int), ())
noncomputable def spec_l07Open_en : Entry := ⟨⟨[.ro (.pair (.int .i64) (.pair (.int .i64) (.pair (.list (.int .u8)) (.unit)))), .v (.list (.arr 2 (.int .i16)))], [.v (.val (.int .i64))], false⟩, fun x => spec_l07Open x.1 x.2.1⟩
theorem spec_l07Open_so : Sound Tryz.prog G 33 spec_l07Open_en := so_of (envS (l := [(76, spec_l07Asked_en), (77, spec_l07Wall_en)]) ⟨(spec_l07Asked_so), (spec_l07Wall_so), trivial⟩) [(5, .vary [(6, .sc (.int .i64))])] Tryz.func33 (by kernel_rfl) rfl fun _ => by kernel_rfl

-- loop.example/g01204/spec.BestRoute
noncomputable def spec_BestRoute_l14 (y667 : (((List (Vec 2 Int)) × Unit) × Unit)) (a0 : (Int × (Int × ((List Int) × Unit)))) (s685 : ((List (Vec 2 Int)) × (Vec 2 Int) × Unit)) (y663 : (((List Int) × Unit) × Unit)) (x688 : Int) (s689 : (Int × Unit)) : Option ((Int × Unit) ⊕ (((List (Vec 2 Int)) × (Vec 2 Int) × Unit) ⊕ (((List (Vec 2 Int)) × Int × Int × Unit) × Unit))) :=
  bif (iLt s689.1 8) then
    bif inB s689.1 (List.length y667.1.1) then
      bif inB s689.1 (List.length y667.1.1) then
        (spec_l07Move a0 s685.2.1 (Vec.getD 2 (List.getD y667.1.1 s689.1.toNat ((0, 0, ()) : (Vec 2 Int))) 0 (0 : Int)) (Vec.getD 2 (List.getD y667.1.1 s689.1.toNat ((0, 0, ()) : (Vec 2 Int))) 1 (0 : Int))).bind fun y693 =>
        bif y693.1.2.2.1 then
          (spec_l07Index a0 y693.1.1).bind fun y694 =>
          bif inB y694.1.1 (List.length y663.1.1) then
            bif (iLe 0 (List.getD y663.1.1 y694.1.1.toNat (0 : Int))) then
              (spec_l07Index a0 y693.1.1).bind fun y697 =>
              bif inB y697.1.1 (List.length y663.1.1) then
                bif (iEq (iAdd .i64 y693.1.2.1 (List.getD y663.1.1 y697.1.1.toNat (0 : Int))) x688) then
                  Option.map Sum.inr (
                    bif room (List.length s685.1 + 1) 4 then
                      some (Sum.inl ((s685.1 ++ ([y693.1.1] : (List (Vec 2 Int)))), y693.1.1, ()))
                    else none)
                else
                some (Sum.inl ((iAdd .i64 s689.1 1), ()))
              else none
            else
            some (Sum.inl ((iAdd .i64 s689.1 1), ()))
          else none
        else
        some (Sum.inl ((iAdd .i64 s689.1 1), ()))
      else none
    else none
  else
  Option.map Sum.inr (
    bif room (List.length s685.1 + 1) 4 then
      some (Sum.inl ((s685.1 ++ ([s685.2.1] : (List (Vec 2 Int)))), s685.2.1, ()))
    else none)
noncomputable def spec_BestRoute_l11 (a2 : (Vec 2 Int)) (a0 : (Int × (Int × ((List Int) × Unit)))) (y663 : (((List Int) × Unit) × Unit)) (x665 : Int) (y667 : (((List (Vec 2 Int)) × Unit) × Unit)) (s685 : ((List (Vec 2 Int)) × (Vec 2 Int) × Unit)) : Option (((List (Vec 2 Int)) × (Vec 2 Int) × Unit) ⊕ (((List (Vec 2 Int)) × Int × Int × Unit) × Unit)) :=
  bif (! (iEq (Vec.getD 2 s685.2.1 0 (0 : Int)) (Vec.getD 2 a2 0 (0 : Int)) && (iEq (Vec.getD 2 s685.2.1 1 (0 : Int)) (Vec.getD 2 a2 1 (0 : Int)) && true))) then
    (spec_l07Index a0 s685.2.1).bind fun y687 =>
    bif inB y687.1.1 (List.length y663.1.1) then
      let x688 := List.getD y663.1.1 y687.1.1.toNat (0 : Int)
      run (spec_BestRoute_l14 y667 a0 s685 y663 x688) ((0 : Int), ())
    else none
  else
  Option.map Sum.inr (some ((s685.1, x665, (0 : Int), ()), ()))
noncomputable def spec_BestRoute (a0 : (Int × (Int × ((List Int) × Unit)))) (a1 : (Vec 2 Int)) (a2 : (Vec 2 Int)) : Option (((List (Vec 2 Int)) × Int × Int × Unit) × Unit) :=
  (spec_l07Open a0 ([a1, a2] : (List (Vec 2 Int)))).bind fun y661 =>
  bif (! (iEq y661.1.1 0)) then some ((([] : (List (Vec 2 Int))), (0 : Int), y661.1.1, ()), ()) else
  (spec_l07Costs a0 a2).bind fun y663 =>
  (spec_l07Index a0 a1).bind fun y664 =>
  bif inB y664.1.1 (List.length y663.1.1) then
    let x665 := List.getD y663.1.1 y664.1.1.toNat (0 : Int)
    bif (iLt x665 0) then some ((([] : (List (Vec 2 Int))), (0 : Int), (6 : Int), ()), ()) else
    (spec_l07Ways).bind fun y667 =>
    run (spec_BestRoute_l11 a2 a0 y663 x665 y667) (([a1] : (List (Vec 2 Int))), a1, ())
  else none
noncomputable def spec_BestRoute_en : Entry := ⟨⟨[.v (.pair (.int .i64) (.pair (.int .i64) (.pair (.list (.int .u8)) (.unit)))), .v (.arr 2 (.int .i16)), .v (.arr 2 (.int .i16))], [.v (.rows (.arr 2 (.int .i16))), .v (.val (.int .i64)), .v (.val (.int .i64))], false⟩, fun x => spec_BestRoute x.1 x.2.1 x.2.2.1⟩
theorem spec_BestRoute_so : Sound Tryz.prog G 7 spec_BestRoute_en := so_of (envS (l := [(33, spec_l07Open_en), (34, spec_l07Costs_en), (35, spec_l07Index_en), (36, spec_l07Ways_en), (37, spec_l07Move_en)]) ⟨(spec_l07Open_so), (spec_l07Costs_so), (spec_l07Index_so), (spec_l07Ways_so), (spec_l07Move_so), trivial⟩) [(11, .vary [(13, .rows (.arr 2 (.int .i16))), (14, .box (.val (.arr 2 (.int .i16))))]), (14, .vary [(16, .sc (.int .i64))])] Tryz.func7 (by kernel_rfl) rfl fun _ => by kernel_rfl

-- loop.example/g01204/spec.l02Angle
noncomputable def spec_l02Angle_l18 (x1087 : Nat) (x1086 : Nat) (x1069 : Bool) (a1 : Nat) (a0 : Nat) (s1088 : (Nat × Int × Unit)) : Option ((Nat × Int × Unit) ⊕ ((Nat × Unit) × Unit)) :=
  bif (iLe 0 s1088.2.1) then
    some (Sum.inl ((fSub .f64 (fDiv .f64 4607182418800017408 (fOfInt .f64 (iAdd .i64 (iMul .i64 2 s1088.2.1) 1))) (fMul .f64 x1087 s1088.1)), (iSub .i64 s1088.2.1 1), ()))
  else
  Option.map Sum.inr (
    let x1098 := fMul .f64 (fMul .f64 4620693217682128896 x1086) s1088.1
    bif x1069 then
      let x1099 := fSub .f64 4609753056924675352 x1098
      bif (fLt .f32 a1 0) then
        let x1101 := fSub .f64 4614256656552045848 x1099
        bif (fLt .f32 a0 0) then
          (fConv .f64 .f32 (fNeg .f64 x1101)).bind fun y1104 =>
          some ((y1104, ()), ())
        else
        (fConv .f64 .f32 x1101).bind fun y1105 =>
        some ((y1105, ()), ())
      else
      bif (fLt .f32 a0 0) then
        (fConv .f64 .f32 (fNeg .f64 x1099)).bind fun y1108 =>
        some ((y1108, ()), ())
      else
      (fConv .f64 .f32 x1099).bind fun y1109 =>
      some ((y1109, ()), ())
    else
    bif (fLt .f32 a1 0) then
      let x1111 := fSub .f64 4614256656552045848 x1098
      bif (fLt .f32 a0 0) then
        (fConv .f64 .f32 (fNeg .f64 x1111)).bind fun y1114 =>
        some ((y1114, ()), ())
      else
      (fConv .f64 .f32 x1111).bind fun y1115 =>
      some ((y1115, ()), ())
    else
    bif (fLt .f32 a0 0) then
      (fConv .f64 .f32 (fNeg .f64 x1098)).bind fun y1118 =>
      some ((y1118, ()), ())
    else
    (fConv .f64 .f32 x1098).bind fun y1119 =>
    some ((y1119, ()), ()))
noncomputable def spec_l02Angle_l18_2 (x1137 : Nat) (x1136 : Nat) (x1069 : Bool) (a1 : Nat) (a0 : Nat) (s1138 : (Nat × Int × Unit)) : Option ((Nat × Int × Unit) ⊕ ((Nat × Unit) × Unit)) :=
  bif (iLe 0 s1138.2.1) then
    some (Sum.inl ((fSub .f64 (fDiv .f64 4607182418800017408 (fOfInt .f64 (iAdd .i64 (iMul .i64 2 s1138.2.1) 1))) (fMul .f64 x1137 s1138.1)), (iSub .i64 s1138.2.1 1), ()))
  else
  Option.map Sum.inr (
    let x1148 := fMul .f64 (fMul .f64 4620693217682128896 x1136) s1138.1
    bif x1069 then
      let x1149 := fSub .f64 4609753056924675352 x1148
      bif (fLt .f32 a1 0) then
        let x1151 := fSub .f64 4614256656552045848 x1149
        bif (fLt .f32 a0 0) then
          (fConv .f64 .f32 (fNeg .f64 x1151)).bind fun y1154 =>
          some ((y1154, ()), ())
        else
        (fConv .f64 .f32 x1151).bind fun y1155 =>
        some ((y1155, ()), ())
      else
      bif (fLt .f32 a0 0) then
        (fConv .f64 .f32 (fNeg .f64 x1149)).bind fun y1158 =>
        some ((y1158, ()), ())
      else
      (fConv .f64 .f32 x1149).bind fun y1159 =>
      some ((y1159, ()), ())
    else
    bif (fLt .f32 a1 0) then
      let x1161 := fSub .f64 4614256656552045848 x1148
      bif (fLt .f32 a0 0) then
        (fConv .f64 .f32 (fNeg .f64 x1161)).bind fun y1164 =>
        some ((y1164, ()), ())
      else
      (fConv .f64 .f32 x1161).bind fun y1165 =>
      some ((y1165, ()), ())
    else
    bif (fLt .f32 a0 0) then
      (fConv .f64 .f32 (fNeg .f64 x1148)).bind fun y1168 =>
      some ((y1168, ()), ())
    else
    (fConv .f64 .f32 x1148).bind fun y1169 =>
    some ((y1169, ()), ()))
noncomputable def spec_l02Angle (a0 : Nat) (a1 : Nat) : Option ((Nat × Unit) × Unit) :=
  (spec_l01Finite a0).bind fun y1057 =>
  bif (! y1057.1.1) then
    (math_NaN).bind fun y1059 =>
    (fConv .f64 .f32 y1059.1.1).bind fun y1060 =>
    some ((y1060, ()), ())
  else
  (spec_l01Finite a1).bind fun y1061 =>
  bif (! y1061.1.1) then
    (math_NaN).bind fun y1063 =>
    (fConv .f64 .f32 y1063.1.1).bind fun y1064 =>
    some ((y1064, ()), ())
  else
  (fConv .f32 .f64 a0).bind fun y1065 =>
  (math_Abs y1065).bind fun y1066 =>
  (fConv .f32 .f64 a1).bind fun y1067 =>
  (math_Abs y1067).bind fun y1068 =>
  let x1069 := fLt .f64 y1068.1.1 y1066.1.1
  bif x1069 then
    bif (fEq .f64 y1066.1.1 0) then some (((0 : Nat), ()), ()) else
    let x1071 := fDiv .f64 y1068.1.1 y1066.1.1
    (math_Sqrt (fAdd .f64 4607182418800017408 (fMul .f64 x1071 x1071))).bind fun y1074 =>
    let x1076 := fDiv .f64 x1071 (fAdd .f64 4607182418800017408 y1074.1.1)
    (math_Sqrt (fAdd .f64 4607182418800017408 (fMul .f64 x1076 x1076))).bind fun y1079 =>
    let x1081 := fDiv .f64 x1076 (fAdd .f64 4607182418800017408 y1079.1.1)
    (math_Sqrt (fAdd .f64 4607182418800017408 (fMul .f64 x1081 x1081))).bind fun y1084 =>
    let x1086 := fDiv .f64 x1081 (fAdd .f64 4607182418800017408 y1084.1.1)
    let x1087 := fMul .f64 x1086 x1086
    run (spec_l02Angle_l18 x1087 x1086 x1069 a1 a0) ((0 : Nat), (12 : Int), ())
  else
  bif (fEq .f64 y1068.1.1 0) then some (((0 : Nat), ()), ()) else
  let x1121 := fDiv .f64 y1066.1.1 y1068.1.1
  (math_Sqrt (fAdd .f64 4607182418800017408 (fMul .f64 x1121 x1121))).bind fun y1124 =>
  let x1126 := fDiv .f64 x1121 (fAdd .f64 4607182418800017408 y1124.1.1)
  (math_Sqrt (fAdd .f64 4607182418800017408 (fMul .f64 x1126 x1126))).bind fun y1129 =>
  let x1131 := fDiv .f64 x1126 (fAdd .f64 4607182418800017408 y1129.1.1)
  (math_Sqrt (fAdd .f64 4607182418800017408 (fMul .f64 x1131 x1131))).bind fun y1134 =>
  let x1136 := fDiv .f64 x1131 (fAdd .f64 4607182418800017408 y1134.1.1)
  let x1137 := fMul .f64 x1136 x1136
  run (spec_l02Angle_l18_2 x1137 x1136 x1069 a1 a0) ((0 : Nat), (12 : Int), ())
noncomputable def spec_l02Angle_en : Entry := ⟨⟨[.v (.flt .f32), .v (.flt .f32)], [.v (.val (.flt .f32))], false⟩, fun x => spec_l02Angle x.1 x.2.1⟩
theorem spec_l02Angle_so : Sound Tryz.prog G 93 spec_l02Angle_en := so_of (envS (l := [(53, spec_l01Finite_en), (82, math_Sqrt_en), (88, math_Abs_en), (98, math_NaN_en)]) ⟨(spec_l01Finite_so), (math_Sqrt_so), (math_Abs_so), (math_NaN_so), trivial⟩) [(12, .unroll 4), (18, .vary [(11, .sc (.flt .f64)), (12, .sc (.int .i64))])] Tryz.func93 (by kernel_rfl) rfl fun _ => by kernel_rfl

-- loop.example/g01204/spec.AngleOf
noncomputable def spec_AngleOf (a0 : Nat) (a1 : Nat) : Option ((Nat × Unit) × Unit) :=
  (spec_l02Angle a0 a1).bind fun y1056 =>
  some ((y1056.1.1, ()), ())
noncomputable def spec_AngleOf_en : Entry := ⟨⟨[.v (.flt .f32), .v (.flt .f32)], [.v (.val (.flt .f32))], false⟩, fun x => spec_AngleOf x.1 x.2.1⟩
theorem spec_AngleOf_so : Sound Tryz.prog G 55 spec_AngleOf_en := so_of (envS (l := [(93, spec_l02Angle_en)]) ⟨(spec_l02Angle_so), trivial⟩) [] Tryz.func55 (by kernel_rfl) rfl fun _ => by kernel_rfl

-- loop.example/g01204/spec.l02Wrap
noncomputable def spec_l02Wrap (a0 : Nat) : Option ((Nat × Unit) × Unit) :=
  (spec_l01Finite a0).bind fun y1171 =>
  bif (! y1171.1.1) then
    (math_NaN).bind fun y1173 =>
    (fConv .f64 .f32 y1173.1.1).bind fun y1174 =>
    some ((y1174, ()), ())
  else
  (fConv .f32 .f64 a0).bind fun y1175 =>
  (math_RoundToEven (fDiv .f64 y1175 4618760256179416344)).bind fun y1177 =>
  (fConv .f32 .f64 a0).bind fun y1178 =>
  (fConv .f64 .f32 (fSub .f64 y1178 (fMul .f64 4618760256179416344 y1177.1.1))).bind fun y1181 =>
  bif (fLt .f32 1078530011 y1181) then some (((1078530011 : Nat), ()), ()) else
  bif (fLt .f32 y1181 3226013659) then some (((3226013659 : Nat), ()), ()) else some ((y1181, ()), ())
noncomputable def spec_l02Wrap_en : Entry := ⟨⟨[.v (.flt .f32)], [.v (.val (.flt .f32))], false⟩, fun x => spec_l02Wrap x.1⟩
theorem spec_l02Wrap_so : Sound Tryz.prog G 92 spec_l02Wrap_en := so_of (envS (l := [(53, spec_l01Finite_en), (60, math_RoundToEven_en), (98, math_NaN_en)]) ⟨(spec_l01Finite_so), (math_RoundToEven_so), (math_NaN_so), trivial⟩) [] Tryz.func92 (by kernel_rfl) rfl fun _ => by kernel_rfl

-- loop.example/g01204/spec.WrapAngle
noncomputable def spec_WrapAngle (a0 : Nat) : Option ((Nat × Unit) × Unit) :=
  (spec_l02Wrap a0).bind fun y1170 =>
  some ((y1170.1.1, ()), ())
noncomputable def spec_WrapAngle_en : Entry := ⟨⟨[.v (.flt .f32)], [.v (.val (.flt .f32))], false⟩, fun x => spec_WrapAngle x.1⟩
theorem spec_WrapAngle_so : Sound Tryz.prog G 54 spec_WrapAngle_en := so_of (envS (l := [(92, spec_l02Wrap_en)]) ⟨(spec_l02Wrap_so), trivial⟩) [] Tryz.func54 (by kernel_rfl) rfl fun _ => by kernel_rfl

-- loop.example/g01204/spec.l02Sine
noncomputable def spec_l02Sine (a0 : Nat) : Option ((Nat × Unit) × Unit) :=
  (math_Floor a0).bind fun y1215 =>
  let x1216 := fSub .f64 a0 y1215.1.1
  let x1217 := fLe .f64 4602678819172646912 x1216
  bif x1217 then
    let x1218 := fSub .f64 x1216 4602678819172646912
    bif (fLt .f64 4598175219545276416 x1218) then
      let x1221 := fMul .f64 4618760256179416344 (fSub .f64 4602678819172646912 x1218)
      let x1222 := fMul .f64 x1221 x1221
      let x1255 := fMul .f64 (fSub .f64 4607182418800017408 (fMul .f64 (fDiv .f64 x1222 (fOfInt .f64 6)) (fSub .f64 4607182418800017408 (fMul .f64 (fDiv .f64 x1222 (fOfInt .f64 20)) (fSub .f64 4607182418800017408 (fMul .f64 (fDiv .f64 x1222 (fOfInt .f64 42)) (fSub .f64 4607182418800017408 (fMul .f64 (fDiv .f64 x1222 (fOfInt .f64 72)) (fSub .f64 4607182418800017408 (fMul .f64 (fDiv .f64 x1222 (fOfInt .f64 110)) (fSub .f64 4607182418800017408 (fMul .f64 (fDiv .f64 x1222 (fOfInt .f64 156)) (fSub .f64 4607182418800017408 (fMul .f64 (fDiv .f64 x1222 (fOfInt .f64 210)) (fSub .f64 4607182418800017408 (fMul .f64 (fDiv .f64 x1222 (fOfInt .f64 272)) 4607182418800017408)))))))))))))))) x1221
      bif x1217 then
        (fConv .f64 .f32 (fNeg .f64 x1255)).bind fun y1257 =>
        some ((y1257, ()), ())
      else
      (fConv .f64 .f32 x1255).bind fun y1258 =>
      some ((y1258, ()), ())
    else
    let x1259 := fMul .f64 4618760256179416344 x1218
    let x1260 := fMul .f64 x1259 x1259
    let x1293 := fMul .f64 (fSub .f64 4607182418800017408 (fMul .f64 (fDiv .f64 x1260 (fOfInt .f64 6)) (fSub .f64 4607182418800017408 (fMul .f64 (fDiv .f64 x1260 (fOfInt .f64 20)) (fSub .f64 4607182418800017408 (fMul .f64 (fDiv .f64 x1260 (fOfInt .f64 42)) (fSub .f64 4607182418800017408 (fMul .f64 (fDiv .f64 x1260 (fOfInt .f64 72)) (fSub .f64 4607182418800017408 (fMul .f64 (fDiv .f64 x1260 (fOfInt .f64 110)) (fSub .f64 4607182418800017408 (fMul .f64 (fDiv .f64 x1260 (fOfInt .f64 156)) (fSub .f64 4607182418800017408 (fMul .f64 (fDiv .f64 x1260 (fOfInt .f64 210)) (fSub .f64 4607182418800017408 (fMul .f64 (fDiv .f64 x1260 (fOfInt .f64 272)) 4607182418800017408)))))))))))))))) x1259
    bif x1217 then
      (fConv .f64 .f32 (fNeg .f64 x1293)).bind fun y1295 =>
      some ((y1295, ()), ())
    else
    (fConv .f64 .f32 x1293).bind fun y1296 =>
    some ((y1296, ()), ())
  else
  bif (fLt .f64 4598175219545276416 x1216) then
    let x1299 := fMul .f64 4618760256179416344 (fSub .f64 4602678819172646912 x1216)
    let x1300 := fMul .f64 x1299 x1299
    let x1333 := fMul .f64 (fSub .f64 4607182418800017408 (fMul .f64 (fDiv .f64 x1300 (fOfInt .f64 6)) (fSub .f64 4607182418800017408 (fMul .f64 (fDiv .f64 x1300 (fOfInt .f64 20)) (fSub .f64 4607182418800017408 (fMul .f64 (fDiv .f64 x1300 (fOfInt .f64 42)) (fSub .f64 4607182418800017408 (fMul .f64 (fDiv .f64 x1300 (fOfInt .f64 72)) (fSub .f64 4607182418800017408 (fMul .f64 (fDiv .f64 x1300 (fOfInt .f64 110)) (fSub .f64 4607182418800017408 (fMul .f64 (fDiv .f64 x1300 (fOfInt .f64 156)) (fSub .f64 4607182418800017408 (fMul .f64 (fDiv .f64 x1300 (fOfInt .f64 210)) (fSub .f64 4607182418800017408 (fMul .f64 (fDiv .f64 x1300 (fOfInt .f64 272)) 4607182418800017408)))))))))))))))) x1299
    bif x1217 then
      (fConv .f64 .f32 (fNeg .f64 x1333)).bind fun y1335 =>
      some ((y1335, ()), ())
    else
    (fConv .f64 .f32 x1333).bind fun y1336 =>
    some ((y1336, ()), ())
  else
  let x1337 := fMul .f64 4618760256179416344 x1216
  let x1338 := fMul .f64 x1337 x1337
  let x1371 := fMul .f64 (fSub .f64 4607182418800017408 (fMul .f64 (fDiv .f64 x1338 (fOfInt .f64 6)) (fSub .f64 4607182418800017408 (fMul .f64 (fDiv .f64 x1338 (fOfInt .f64 20)) (fSub .f64 4607182418800017408 (fMul .f64 (fDiv .f64 x1338 (fOfInt .f64 42)) (fSub .f64 4607182418800017408 (fMul .f64 (fDiv .f64 x1338 (fOfInt .f64 72)) (fSub .f64 4607182418800017408 (fMul .f64 (fDiv .f64 x1338 (fOfInt .f64 110)) (fSub .f64 4607182418800017408 (fMul .f64 (fDiv .f64 x1338 (fOfInt .f64 156)) (fSub .f64 4607182418800017408 (fMul .f64 (fDiv .f64 x1338 (fOfInt .f64 210)) (fSub .f64 4607182418800017408 (fMul .f64 (fDiv .f64 x1338 (fOfInt .f64 272)) 4607182418800017408)))))))))))))))) x1337
  bif x1217 then
    (fConv .f64 .f32 (fNeg .f64 x1371)).bind fun y1373 =>
    some ((y1373, ()), ())
  else
  (fConv .f64 .f32 x1371).bind fun y1374 =>
  some ((y1374, ()), ())
noncomputable def spec_l02Sine_en : Entry := ⟨⟨[.v (.flt .f64)], [.v (.val (.flt .f32))], false⟩, fun x => spec_l02Sine x.1⟩
theorem spec_l02Sine_so : Sound Tryz.prog G 166 spec_l02Sine_en := so_of (envS (l := [(165, math_Floor_en)]) ⟨(math_Floor_so), trivial⟩) [(11, .unroll 9)] Tryz.func166 (by kernel_rfl) rfl fun _ => by kernel_rfl

-- loop.example/g01204/spec.l02Cos
noncomputable def spec_l02Cos (a0 : Nat) : Option ((Nat × Unit) × Unit) :=
  (spec_l01Finite a0).bind fun y1207 =>
  bif (! y1207.1.1) then
    (math_NaN).bind fun y1209 =>
    (fConv .f64 .f32 y1209.1.1).bind fun y1210 =>
    some ((y1210, ()), ())
  else
  (fConv .f32 .f64 a0).bind fun y1211 =>
  (spec_l02Sine (fAdd .f64 (fDiv .f64 y1211 4618760256179416344) 4598175219545276416)).bind fun y1214 =>
  some ((y1214.1.1, ()), ())
noncomputable def spec_l02Cos_en : Entry := ⟨⟨[.v (.flt .f32)], [.v (.val (.flt .f32))], false⟩, fun x => spec_l02Cos x.1⟩
theorem spec_l02Cos_so : Sound Tryz.prog G 129 spec_l02Cos_en := so_of (envS (l := [(53, spec_l01Finite_en), (98, math_NaN_en), (166, spec_l02Sine_en)]) ⟨(spec_l01Finite_so), (math_NaN_so), (spec_l02Sine_so), trivial⟩) [] Tryz.func129 (by kernel_rfl) rfl fun _ => by kernel_rfl

-- loop.example/g01204/spec.CosineOf
noncomputable def spec_CosineOf (a0 : Nat) : Option ((Nat × Unit) × Unit) :=
  (spec_l02Cos a0).bind fun y1206 =>
  some ((y1206.1.1, ()), ())
noncomputable def spec_CosineOf_en : Entry := ⟨⟨[.v (.flt .f32)], [.v (.val (.flt .f32))], false⟩, fun x => spec_CosineOf x.1⟩
theorem spec_CosineOf_so : Sound Tryz.prog G 94 spec_CosineOf_en := so_of (envS (l := [(129, spec_l02Cos_en)]) ⟨(spec_l02Cos_so), trivial⟩) [] Tryz.func94 (by kernel_rfl) rfl fun _ => by kernel_rfl

-- loop.example/g01204/spec.l02Sin
noncomputable def spec_l02Sin (a0 : Nat) : Option ((Nat × Unit) × Unit) :=
  (spec_l01Finite a0).bind fun y1376 =>
  bif (! y1376.1.1) then
    (math_NaN).bind fun y1378 =>
    (fConv .f64 .f32 y1378.1.1).bind fun y1379 =>
    some ((y1379, ()), ())
  else
  (fConv .f32 .f64 a0).bind fun y1380 =>
  (spec_l02Sine (fDiv .f64 y1380 4618760256179416344)).bind fun y1382 =>
  some ((y1382.1.1, ()), ())
noncomputable def spec_l02Sin_en : Entry := ⟨⟨[.v (.flt .f32)], [.v (.val (.flt .f32))], false⟩, fun x => spec_l02Sin x.1⟩
theorem spec_l02Sin_so : Sound Tryz.prog G 130 spec_l02Sin_en := so_of (envS (l := [(53, spec_l01Finite_en), (98, math_NaN_en), (166, spec_l02Sine_en)]) ⟨(spec_l01Finite_so), (math_NaN_so), (spec_l02Sine_so), trivial⟩) [] Tryz.func130 (by kernel_rfl) rfl fun _ => by kernel_rfl

-- loop.example/g01204/spec.SineOf
noncomputable def spec_SineOf (a0 : Nat) : Option ((Nat × Unit) × Unit) :=
  (spec_l02Sin a0).bind fun y1375 =>
  some ((y1375.1.1, ()), ())
noncomputable def spec_SineOf_en : Entry := ⟨⟨[.v (.flt .f32)], [.v (.val (.flt .f32))], false⟩, fun x => spec_SineOf x.1⟩
theorem spec_SineOf_so : Sound Tryz.prog G 95 spec_SineOf_en := so_of (envS (l := [(130, spec_l02Sin_en)]) ⟨(spec_l02Sin_so), trivial⟩) [] Tryz.func95 (by kernel_rfl) rfl fun _ => by kernel_rfl

-- loop.example/g01204/spec.l06Compose
noncomputable def spec_l06Compose (a0 : (Vec 3 Nat)) (a1 : (Vec 3 Nat)) : Option (((Vec 3 Nat) × Unit) × Unit) :=
  (spec_CosineOf (Vec.getD 3 a0 2 (0 : Nat))).bind fun y1185 =>
  (spec_SineOf (Vec.getD 3 a0 2 (0 : Nat))).bind fun y1187 =>
  (spec_WrapAngle (fAdd .f32 (Vec.getD 3 a0 2 (0 : Nat)) (Vec.getD 3 a1 2 (0 : Nat)))).bind fun y1205 =>
  some (((((fAdd .f32 (Vec.getD 3 a0 0 (0 : Nat)) (fSub .f32 (fMul .f32 y1185.1.1 (Vec.getD 3 a1 0 (0 : Nat))) (fMul .f32 y1187.1.1 (Vec.getD 3 a1 1 (0 : Nat))))), (fAdd .f32 (Vec.getD 3 a0 1 (0 : Nat)) (fAdd .f32 (fMul .f32 y1187.1.1 (Vec.getD 3 a1 0 (0 : Nat))) (fMul .f32 y1185.1.1 (Vec.getD 3 a1 1 (0 : Nat))))), y1205.1.1, ()) : (Vec 3 Nat)), ()), ())
noncomputable def spec_l06Compose_en : Entry := ⟨⟨[.v (.arr 3 (.flt .f32)), .v (.arr 3 (.flt .f32))], [.v (.val (.arr 3 (.flt .f32)))], false⟩, fun x => spec_l06Compose x.1 x.2.1⟩
theorem spec_l06Compose_so : Sound Tryz.prog G 56 spec_l06Compose_en := so_of (envS (l := [(54, spec_WrapAngle_en), (94, spec_CosineOf_en), (95, spec_SineOf_en)]) ⟨(spec_WrapAngle_so), (spec_CosineOf_so), (spec_SineOf_so), trivial⟩) [] Tryz.func56 (by kernel_rfl) rfl fun _ => by kernel_rfl

-- loop.example/g01204/spec.l01Vec
noncomputable def spec_l01Vec (a0 : (Vec 3 Nat)) : Option ((Bool × Unit) × Unit) :=
  (spec_l01Finite (Vec.getD 3 a0 0 (0 : Nat))).bind fun y1385 =>
  bif y1385.1.1 then
    (spec_l01Finite (Vec.getD 3 a0 1 (0 : Nat))).bind fun y1387 =>
    bif y1387.1.1 then
      (spec_l01Finite (Vec.getD 3 a0 2 (0 : Nat))).bind fun y1389 =>
      some ((y1389.1.1, ()), ())
    else some ((false, ()), ())
  else some ((false, ()), ())
noncomputable def spec_l01Vec_en : Entry := ⟨⟨[.v (.arr 3 (.flt .f32))], [.v (.val (.bool))], false⟩, fun x => spec_l01Vec x.1⟩
theorem spec_l01Vec_so : Sound Tryz.prog G 91 spec_l01Vec_en := so_of (envS (l := [(53, spec_l01Finite_en)]) ⟨(spec_l01Finite_so), trivial⟩) [] Tryz.func91 (by kernel_rfl) rfl fun _ => by kernel_rfl

-- loop.example/g01204/spec.l06Finite
noncomputable def spec_l06Finite (a0 : (Vec 3 Nat)) : Option ((Bool × Unit) × Unit) :=
  (spec_l01Vec a0).bind fun y1383 =>
  some ((y1383.1.1, ()), ())
noncomputable def spec_l06Finite_en : Entry := ⟨⟨[.v (.arr 3 (.flt .f32))], [.v (.val (.bool))], false⟩, fun x => spec_l06Finite x.1⟩
theorem spec_l06Finite_so : Sound Tryz.prog G 52 spec_l06Finite_en := so_of (envS (l := [(91, spec_l01Vec_en)]) ⟨(spec_l01Vec_so), trivial⟩) [] Tryz.func52 (by kernel_rfl) rfl fun _ => by kernel_rfl

-- loop.example/g01204/spec.FollowWay
noncomputable def spec_FollowWay (a0 : (List (Vec 2 Nat))) (a1 : (Vec 3 Nat)) (a2 : Nat) (a3 : Nat) : Option (((Vec 3 Nat) × Int × Unit) × Unit) :=
  let x973 := Vec.getD 3 a1 0 (0 : Nat)
  let x974 := Vec.getD 3 a1 1 (0 : Nat)
  (spec_l07Follows a0 ((x973, x974, ()) : (Vec 2 Nat)) a2).bind fun y975 =>
  bif (! y975.1.1) then some ((((0, 0, 0, ()) : (Vec 3 Nat)), (2 : Int), ()), ()) else
  (spec_l06Finite a1).bind fun y977 =>
  bif (! y977.1.1) then some ((((0, 0, 0, ()) : (Vec 3 Nat)), (2 : Int), ()), ()) else
  (spec_l01Finite a3).bind fun y979 =>
  bif (! y979.1.1) then some ((((0, 0, 0, ()) : (Vec 3 Nat)), (2 : Int), ()), ()) else
  (spec_l07Ahead a0 ((x973, x974, ()) : (Vec 2 Nat)) a2).bind fun y981 =>
  let x984 := fSub .f32 (Vec.getD 2 y981.1.1 0 (0 : Nat)) (Vec.getD 3 a1 0 (0 : Nat))
  let x987 := fSub .f32 (Vec.getD 2 y981.1.1 1 (0 : Nat)) (Vec.getD 3 a1 1 (0 : Nat))
  bif (! (fEq .f32 x984 0)) then
    (spec_AngleOf x987 x984).bind fun y990 =>
    (spec_WrapAngle (fSub .f32 y990.1.1 (Vec.getD 3 a1 2 (0 : Nat)))).bind fun y993 =>
    bif (fLt .f32 1056964608 y993.1.1) then
      bif (fLt .f32 1056964608 3204448256) then
        (spec_WrapAngle (fAdd .f32 (Vec.getD 3 a1 2 (0 : Nat)) 3204448256)).bind fun y998 =>
        (spec_l06Compose (((Vec.getD 3 a1 0 (0 : Nat)), (Vec.getD 3 a1 1 (0 : Nat)), y998.1.1, ()) : (Vec 3 Nat)) ((a3, 0, 0, ()) : (Vec 3 Nat))).bind fun y1001 =>
        some ((y1001.1.1, (0 : Int), ()), ())
      else
      (spec_WrapAngle (fAdd .f32 (Vec.getD 3 a1 2 (0 : Nat)) 1056964608)).bind fun y1004 =>
      (spec_l06Compose (((Vec.getD 3 a1 0 (0 : Nat)), (Vec.getD 3 a1 1 (0 : Nat)), y1004.1.1, ()) : (Vec 3 Nat)) ((a3, 0, 0, ()) : (Vec 3 Nat))).bind fun y1007 =>
      some ((y1007.1.1, (0 : Int), ()), ())
    else
    bif (fLt .f32 y993.1.1 3204448256) then
      (spec_WrapAngle (fAdd .f32 (Vec.getD 3 a1 2 (0 : Nat)) 3204448256)).bind fun y1011 =>
      (spec_l06Compose (((Vec.getD 3 a1 0 (0 : Nat)), (Vec.getD 3 a1 1 (0 : Nat)), y1011.1.1, ()) : (Vec 3 Nat)) ((a3, 0, 0, ()) : (Vec 3 Nat))).bind fun y1014 =>
      some ((y1014.1.1, (0 : Int), ()), ())
    else
    (spec_WrapAngle (fAdd .f32 (Vec.getD 3 a1 2 (0 : Nat)) y993.1.1)).bind fun y1017 =>
    (spec_l06Compose (((Vec.getD 3 a1 0 (0 : Nat)), (Vec.getD 3 a1 1 (0 : Nat)), y1017.1.1, ()) : (Vec 3 Nat)) ((a3, 0, 0, ()) : (Vec 3 Nat))).bind fun y1020 =>
    some ((y1020.1.1, (0 : Int), ()), ())
  else
  bif (! (fEq .f32 x987 0)) then
    (spec_AngleOf x987 x984).bind fun y1022 =>
    (spec_WrapAngle (fSub .f32 y1022.1.1 (Vec.getD 3 a1 2 (0 : Nat)))).bind fun y1025 =>
    bif (fLt .f32 1056964608 y1025.1.1) then
      bif (fLt .f32 1056964608 3204448256) then
        (spec_WrapAngle (fAdd .f32 (Vec.getD 3 a1 2 (0 : Nat)) 3204448256)).bind fun y1030 =>
        (spec_l06Compose (((Vec.getD 3 a1 0 (0 : Nat)), (Vec.getD 3 a1 1 (0 : Nat)), y1030.1.1, ()) : (Vec 3 Nat)) ((a3, 0, 0, ()) : (Vec 3 Nat))).bind fun y1033 =>
        some ((y1033.1.1, (0 : Int), ()), ())
      else
      (spec_WrapAngle (fAdd .f32 (Vec.getD 3 a1 2 (0 : Nat)) 1056964608)).bind fun y1036 =>
      (spec_l06Compose (((Vec.getD 3 a1 0 (0 : Nat)), (Vec.getD 3 a1 1 (0 : Nat)), y1036.1.1, ()) : (Vec 3 Nat)) ((a3, 0, 0, ()) : (Vec 3 Nat))).bind fun y1039 =>
      some ((y1039.1.1, (0 : Int), ()), ())
    else
    bif (fLt .f32 y1025.1.1 3204448256) then
      (spec_WrapAngle (fAdd .f32 (Vec.getD 3 a1 2 (0 : Nat)) 3204448256)).bind fun y1043 =>
      (spec_l06Compose (((Vec.getD 3 a1 0 (0 : Nat)), (Vec.getD 3 a1 1 (0 : Nat)), y1043.1.1, ()) : (Vec 3 Nat)) ((a3, 0, 0, ()) : (Vec 3 Nat))).bind fun y1046 =>
      some ((y1046.1.1, (0 : Int), ()), ())
    else
    (spec_WrapAngle (fAdd .f32 (Vec.getD 3 a1 2 (0 : Nat)) y1025.1.1)).bind fun y1049 =>
    (spec_l06Compose (((Vec.getD 3 a1 0 (0 : Nat)), (Vec.getD 3 a1 1 (0 : Nat)), y1049.1.1, ()) : (Vec 3 Nat)) ((a3, 0, 0, ()) : (Vec 3 Nat))).bind fun y1052 =>
    some ((y1052.1.1, (0 : Int), ()), ())
  else
  (spec_l06Compose (((Vec.getD 3 a1 0 (0 : Nat)), (Vec.getD 3 a1 1 (0 : Nat)), (Vec.getD 3 a1 2 (0 : Nat)), ()) : (Vec 3 Nat)) ((a3, 0, 0, ()) : (Vec 3 Nat))).bind fun y1055 =>
  some ((y1055.1.1, (0 : Int), ()), ())
noncomputable def spec_FollowWay_en : Entry := ⟨⟨[.v (.list (.arr 2 (.flt .f32))), .v (.arr 3 (.flt .f32)), .v (.flt .f32), .v (.flt .f32)], [.v (.val (.arr 3 (.flt .f32))), .v (.val (.int .i64))], false⟩, fun x => spec_FollowWay x.1 x.2.1 x.2.2.1 x.2.2.2.1⟩
theorem spec_FollowWay_so : Sound Tryz.prog G 17 spec_FollowWay_en := so_of (envS (l := [(46, spec_l07Follows_en), (47, spec_l07Ahead_en), (52, spec_l06Finite_en), (53, spec_l01Finite_en), (54, spec_WrapAngle_en), (55, spec_AngleOf_en), (56, spec_l06Compose_en)]) ⟨(spec_l07Follows_so), (spec_l07Ahead_so), (spec_l06Finite_so), (spec_l01Finite_so), (spec_WrapAngle_so), (spec_AngleOf_so), (spec_l06Compose_so), trivial⟩) [] Tryz.func17 (by kernel_rfl) rfl fun _ => by kernel_rfl

-- loop.example/g01204/spec.l00From
noncomputable def spec_l00From (a0 : (List Int)) : Option ((((List Int) × (Int × (Int × Unit))) × Unit) × Unit) :=
  some ((((a0, 0, 0, ()) : ((List Int) × (Int × (Int × Unit)))), ()), ())
noncomputable def spec_l00From_en : Entry := ⟨⟨[.v (.list (.int .u8))], [.p (.val (.pair (.list (.int .u8)) (.pair (.int .i64) (.pair (.int .u64) (.unit)))))], true⟩, fun x => spec_l00From x.1⟩
theorem spec_l00From_so : Sound Tryz.prog G 32 spec_l00From_en := so_of (envS (l := []) trivial) [] Tryz.func32 (by kernel_rfl) rfl fun _ => by kernel_rfl

-- (*loop.example/g01204/spec.l00Src).next
noncomputable def spec_l00Src_next (a0 : ((List Int) × (Int × (Int × Unit)))) : Option ((Int × Unit) × (((List Int) × (Int × (Int × Unit))) × Unit)) :=
  bif (iLt a0.2.1 (lenI a0.1)) then
    bif inB a0.2.1 (List.length a0.1) then
      let x1479 := iWrap .i64 (List.getD a0.1 a0.2.1.toNat (0 : Int))
      let x1480 := iAdd .i64 a0.2.1 1
      let x1484 := iAdd .u64 (iAdd .u64 (iMul .u64 a0.2.2.1 6364136223846793005) (iWrap .u64 x1479)) 1442695040888963407
      bif (iLe x1480 (lenI a0.1)) then some ((x1479, ()), (((a0.1, x1480, x1484, a0.2.2.2) : ((List Int) × (Int × (Int × Unit)))), ())) else
      some (((iWrap .i64 (iAnd .u64 (iShr .u64 x1484 40) 255)), ()), (((a0.1, x1480, x1484, a0.2.2.2) : ((List Int) × (Int × (Int × Unit)))), ()))
    else none
  else
  let x1489 := iAdd .i64 a0.2.1 1
  let x1492 := iAdd .u64 (iAdd .u64 (iMul .u64 a0.2.2.1 6364136223846793005) 0) 1442695040888963407
  bif (iLe x1489 (lenI a0.1)) then some (((0 : Int), ()), (((a0.1, x1489, x1492, a0.2.2.2) : ((List Int) × (Int × (Int × Unit)))), ())) else
  some (((iWrap .i64 (iAnd .u64 (iShr .u64 x1492 40) 255)), ()), (((a0.1, x1489, x1492, a0.2.2.2) : ((List Int) × (Int × (Int × Unit)))), ()))
noncomputable def spec_l00Src_next_en : Entry := ⟨⟨[.io (.val (.pair (.list (.int .u8)) (.pair (.int .i64) (.pair (.int .u64) (.unit)))))], [.v (.val (.int .i64))], true⟩, fun x => spec_l00Src_next x.1⟩
theorem spec_l00Src_next_so : Sound Tryz.prog G 79 spec_l00Src_next_en := so_of (envS (l := []) trivial) [] Tryz.func79 (by kernel_rfl) rfl fun _ => by kernel_rfl

-- (*loop.example/g01204/spec.l00Src).pick
noncomputable def spec_l00Src_pick (a0 : ((List Int) × (Int × (Int × Unit)))) (a1 : Int) : Option ((Int × Unit) × (((List Int) × (Int × (Int × Unit))) × Unit)) :=
  bif (iLe a1 1) then some (((0 : Int), ()), (a0, ())) else
  (spec_l00Src_next a0).bind fun y1470 =>
  bif (iLt 200 a1) then
    (spec_l00Src_next y1470.2.1).bind fun y1473 =>
    bif iEq a1 0 then none else
    some (((iRem .i64 (iAdd .i64 (iMul .i64 y1470.1.1 256) y1473.1.1) a1), ()), (y1473.2.1, ()))
  else
  bif iEq a1 0 then none else
  some (((iRem .i64 y1470.1.1 a1), ()), (y1470.2.1, ()))
noncomputable def spec_l00Src_pick_en : Entry := ⟨⟨[.io (.val (.pair (.list (.int .u8)) (.pair (.int .i64) (.pair (.int .u64) (.unit))))), .v (.int .i64)], [.v (.val (.int .i64))], true⟩, fun x => spec_l00Src_pick x.1 x.2.1⟩
theorem spec_l00Src_pick_so : Sound Tryz.prog G 38 spec_l00Src_pick_en := so_of (envS (l := [(79, spec_l00Src_next_en)]) ⟨(spec_l00Src_next_so), trivial⟩) [] Tryz.func38 (by kernel_rfl) rfl fun _ => by kernel_rfl

-- loop.example/g01204/spec.EmptyGrid
noncomputable def spec_EmptyGrid (a0 : Int) (a1 : Int) : Option (((Int × (Int × ((List Int) × Unit))) × Int × Unit) × Unit) :=
  (spec_l00In a0 (1 : Int) (24 : Int)).bind fun y1497 =>
  bif (! y1497.1.1) then some ((((0, 0, [], ()) : (Int × (Int × ((List Int) × Unit)))), (2 : Int), ()), ()) else
  (spec_l00In a1 (1 : Int) (24 : Int)).bind fun y1499 =>
  bif (! y1499.1.1) then some ((((0, 0, [], ()) : (Int × (Int × ((List Int) × Unit)))), (2 : Int), ()), ()) else
  let x1501 := iMul .i64 a0 a1
  bif (iLe 0 x1501 && iLe x1501 x1501 && room x1501.toNat 1) then some ((((a0, a1, List.replicate x1501.toNat (0 : Int), ()) : (Int × (Int × ((List Int) × Unit)))), (0 : Int), ()), ()) else none
noncomputable def spec_EmptyGrid_en : Entry := ⟨⟨[.v (.int .i64), .v (.int .i64)], [.v (.pair (.val (.int .i64)) (.pair (.val (.int .i64)) (.pair (.rows (.int .u8)) (.val (.unit))))), .v (.val (.int .i64))], false⟩, fun x => spec_EmptyGrid x.1 x.2.1⟩
theorem spec_EmptyGrid_so : Sound Tryz.prog G 75 spec_EmptyGrid_en := so_of (envS (l := [(120, spec_l00In_en)]) ⟨(spec_l00In_so), trivial⟩) [] Tryz.func75 (by kernel_rfl) rfl fun _ => by kernel_rfl

-- loop.example/g01204/spec.l07Drawn
noncomputable def spec_l07Drawn_l4 (y1397 : ((Int × Unit) × (((List Int) × (Int × (Int × Unit))) × Unit))) (s1412 : (Int × (Int × (Int × ((List Int) × Unit))) × ((List Int) × (Int × (Int × Unit))) × Unit)) : Option ((Int × (Int × (Int × ((List Int) × Unit))) × ((List Int) × (Int × (Int × Unit))) × Unit) ⊕ (((Int × (Int × ((List Int) × Unit))) × Unit) × (((List Int) × (Int × (Int × Unit))) × Unit))) :=
  bif (iLt s1412.1 (lenI s1412.2.1.2.2.1)) then
    (spec_l00Src_pick s1412.2.2.1 (12 : Int)).bind fun y1414 =>
    let x1415 := iEq y1414.1.1 0
    bif x1415 then
      bif x1415 then
        bif (iLt 0 y1397.1.1) then
          bif inB s1412.1 (List.length s1412.2.1.2.2.1) then
            some (Sum.inl ((iAdd .i64 s1412.1 1), ((s1412.2.1.1, s1412.2.1.2.1, (List.set s1412.2.1.2.2.1 s1412.1.toNat (255 : Int)), s1412.2.1.2.2.2) : (Int × (Int × ((List Int) × Unit)))), y1414.2.1, ()))
          else none
        else
        some (Sum.inl ((iAdd .i64 s1412.1 1), ((s1412.2.1.1, s1412.2.1.2.1, s1412.2.1.2.2.1, s1412.2.1.2.2.2) : (Int × (Int × ((List Int) × Unit)))), y1414.2.1, ()))
      else
      bif (iEq y1414.1.1 3) then
        (spec_l00Src_pick y1414.2.1 (9 : Int)).bind fun y1421 =>
        bif inB s1412.1 (List.length s1412.2.1.2.2.1) then
          some (Sum.inl ((iAdd .i64 s1412.1 1), ((s1412.2.1.1, s1412.2.1.2.1, (List.set s1412.2.1.2.2.1 s1412.1.toNat (iWrap .u8 (iMul .i64 10 (iAdd .i64 1 y1421.1.1)))), s1412.2.1.2.2.2) : (Int × (Int × ((List Int) × Unit)))), y1421.2.1, ()))
        else none
      else
      bif (iEq y1414.1.1 4) then
        (spec_l00Src_pick y1414.2.1 (256 : Int)).bind fun y1428 =>
        bif inB s1412.1 (List.length s1412.2.1.2.2.1) then
          some (Sum.inl ((iAdd .i64 s1412.1 1), ((s1412.2.1.1, s1412.2.1.2.1, (List.set s1412.2.1.2.2.1 s1412.1.toNat (iWrap .u8 y1428.1.1)), s1412.2.1.2.2.2) : (Int × (Int × ((List Int) × Unit)))), y1428.2.1, ()))
        else none
      else
      some (Sum.inl ((iAdd .i64 s1412.1 1), ((s1412.2.1.1, s1412.2.1.2.1, s1412.2.1.2.2.1, s1412.2.1.2.2.2) : (Int × (Int × ((List Int) × Unit)))), y1414.2.1, ()))
    else
    let x1433 := iEq y1414.1.1 1
    bif x1433 then
      bif x1433 then
        bif (iLt 0 y1397.1.1) then
          bif inB s1412.1 (List.length s1412.2.1.2.2.1) then
            some (Sum.inl ((iAdd .i64 s1412.1 1), ((s1412.2.1.1, s1412.2.1.2.1, (List.set s1412.2.1.2.2.1 s1412.1.toNat (255 : Int)), s1412.2.1.2.2.2) : (Int × (Int × ((List Int) × Unit)))), y1414.2.1, ()))
          else none
        else
        some (Sum.inl ((iAdd .i64 s1412.1 1), ((s1412.2.1.1, s1412.2.1.2.1, s1412.2.1.2.2.1, s1412.2.1.2.2.2) : (Int × (Int × ((List Int) × Unit)))), y1414.2.1, ()))
      else
      bif (iEq y1414.1.1 3) then
        (spec_l00Src_pick y1414.2.1 (9 : Int)).bind fun y1439 =>
        bif inB s1412.1 (List.length s1412.2.1.2.2.1) then
          some (Sum.inl ((iAdd .i64 s1412.1 1), ((s1412.2.1.1, s1412.2.1.2.1, (List.set s1412.2.1.2.2.1 s1412.1.toNat (iWrap .u8 (iMul .i64 10 (iAdd .i64 1 y1439.1.1)))), s1412.2.1.2.2.2) : (Int × (Int × ((List Int) × Unit)))), y1439.2.1, ()))
        else none
      else
      bif (iEq y1414.1.1 4) then
        (spec_l00Src_pick y1414.2.1 (256 : Int)).bind fun y1446 =>
        bif inB s1412.1 (List.length s1412.2.1.2.2.1) then
          some (Sum.inl ((iAdd .i64 s1412.1 1), ((s1412.2.1.1, s1412.2.1.2.1, (List.set s1412.2.1.2.2.1 s1412.1.toNat (iWrap .u8 y1446.1.1)), s1412.2.1.2.2.2) : (Int × (Int × ((List Int) × Unit)))), y1446.2.1, ()))
        else none
      else
      some (Sum.inl ((iAdd .i64 s1412.1 1), ((s1412.2.1.1, s1412.2.1.2.1, s1412.2.1.2.2.1, s1412.2.1.2.2.2) : (Int × (Int × ((List Int) × Unit)))), y1414.2.1, ()))
    else
    bif (iEq y1414.1.1 2) then
      bif (iLt 0 y1397.1.1) then
        bif inB s1412.1 (List.length s1412.2.1.2.2.1) then
          some (Sum.inl ((iAdd .i64 s1412.1 1), ((s1412.2.1.1, s1412.2.1.2.1, (List.set s1412.2.1.2.2.1 s1412.1.toNat (255 : Int)), s1412.2.1.2.2.2) : (Int × (Int × ((List Int) × Unit)))), y1414.2.1, ()))
        else none
      else
      some (Sum.inl ((iAdd .i64 s1412.1 1), ((s1412.2.1.1, s1412.2.1.2.1, s1412.2.1.2.2.1, s1412.2.1.2.2.2) : (Int × (Int × ((List Int) × Unit)))), y1414.2.1, ()))
    else
    bif (iEq y1414.1.1 3) then
      (spec_l00Src_pick y1414.2.1 (9 : Int)).bind fun y1457 =>
      bif inB s1412.1 (List.length s1412.2.1.2.2.1) then
        some (Sum.inl ((iAdd .i64 s1412.1 1), ((s1412.2.1.1, s1412.2.1.2.1, (List.set s1412.2.1.2.2.1 s1412.1.toNat (iWrap .u8 (iMul .i64 10 (iAdd .i64 1 y1457.1.1)))), s1412.2.1.2.2.2) : (Int × (Int × ((List Int) × Unit)))), y1457.2.1, ()))
      else none
    else
    bif (iEq y1414.1.1 4) then
      (spec_l00Src_pick y1414.2.1 (256 : Int)).bind fun y1464 =>
      bif inB s1412.1 (List.length s1412.2.1.2.2.1) then
        some (Sum.inl ((iAdd .i64 s1412.1 1), ((s1412.2.1.1, s1412.2.1.2.1, (List.set s1412.2.1.2.2.1 s1412.1.toNat (iWrap .u8 y1464.1.1)), s1412.2.1.2.2.2) : (Int × (Int × ((List Int) × Unit)))), y1464.2.1, ()))
      else none
    else
    some (Sum.inl ((iAdd .i64 s1412.1 1), ((s1412.2.1.1, s1412.2.1.2.1, s1412.2.1.2.2.1, s1412.2.1.2.2.2) : (Int × (Int × ((List Int) × Unit)))), y1414.2.1, ()))
  else
  Option.map Sum.inr (some ((((s1412.2.1.1, s1412.2.1.2.1, s1412.2.1.2.2.1, s1412.2.1.2.2.2) : (Int × (Int × ((List Int) × Unit)))), ()), (s1412.2.2.1, ())))
noncomputable def spec_l07Drawn (a0 : ((List Int) × (Int × (Int × Unit)))) : Option (((Int × (Int × ((List Int) × Unit))) × Unit) × (((List Int) × (Int × (Int × Unit))) × Unit)) :=
  (spec_l00Src_pick a0 (7 : Int)).bind fun y1392 =>
  (spec_l00Src_pick y1392.2.1 (7 : Int)).bind fun y1394 =>
  (spec_EmptyGrid (iAdd .i64 1 y1392.1.1) (iAdd .i64 1 y1394.1.1)).bind fun y1396 =>
  (spec_l00Src_pick y1394.2.1 (4 : Int)).bind fun y1397 =>
  run (spec_l07Drawn_l4 y1397) ((0 : Int), ((y1396.1.1.1, y1396.1.1.2.1, y1396.1.1.2.2.1, y1396.1.1.2.2.2) : (Int × (Int × ((List Int) × Unit)))), y1397.2.1, ())
noncomputable def spec_l07Drawn_en : Entry := ⟨⟨[.io (.val (.pair (.list (.int .u8)) (.pair (.int .i64) (.pair (.int .u64) (.unit)))))], [.v (.pair (.val (.int .i64)) (.pair (.val (.int .i64)) (.pair (.rows (.int .u8)) (.val (.unit)))))], true⟩, fun x => spec_l07Drawn x.1⟩
theorem spec_l07Drawn_so : Sound Tryz.prog G 31 spec_l07Drawn_en := so_of (envS (l := [(38, spec_l00Src_pick_en), (75, spec_EmptyGrid_en)]) ⟨(spec_l00Src_pick_so), (spec_EmptyGrid_so), trivial⟩) [(4, .vary [(6, .sc (.int .i64)), (3, .box (.pair (.val (.int .i64)) (.pair (.val (.int .i64)) (.pair (.rows (.int .u8)) (.val (.unit)))))), (0, .box (.val (.pair (.list (.int .u8)) (.pair (.int .i64) (.pair (.int .u64) (.unit))))))])] Tryz.func31 (by kernel_rfl) rfl fun _ => by kernel_rfl

-- loop.example/g01204/spec.P6Grid
noncomputable def spec_P6Grid (a0 : (List Int)) : Option (((Int × (Int × ((List Int) × Unit))) × Unit) × Unit) :=
  (spec_l00From a0).bind fun y1390 =>
  (spec_l07Drawn y1390.1.1).bind fun y1391 =>
  some ((((y1391.1.1.1, y1391.1.1.2.1, y1391.1.1.2.2.1, y1391.1.1.2.2.2) : (Int × (Int × ((List Int) × Unit)))), ()), ())
noncomputable def spec_P6Grid_en : Entry := ⟨⟨[.v (.list (.int .u8))], [.v (.pair (.val (.int .i64)) (.pair (.val (.int .i64)) (.pair (.rows (.int .u8)) (.val (.unit)))))], false⟩, fun x => spec_P6Grid x.1⟩
theorem spec_P6Grid_so : Sound Tryz.prog G 6 spec_P6Grid_en := so_of (envS (l := [(31, spec_l07Drawn_en), (32, spec_l00From_en)]) ⟨(spec_l07Drawn_so), (spec_l00From_so), trivial⟩) [] Tryz.func6 (by kernel_rfl) rfl fun _ => by kernel_rfl

-- loop.example/g01204/spec.P6Pick
noncomputable def spec_P6Pick (a0 : (List Int)) (a1 : Int) : Option ((Int × Unit) × Unit) :=
  (spec_l00From a0).bind fun y1502 =>
  (spec_l00Src_pick y1502.1.1 a1).bind fun y1503 =>
  some ((y1503.1.1, ()), ())
noncomputable def spec_P6Pick_en : Entry := ⟨⟨[.v (.list (.int .u8)), .v (.int .i64)], [.v (.val (.int .i64))], false⟩, fun x => spec_P6Pick x.1 x.2.1⟩
theorem spec_P6Pick_so : Sound Tryz.prog G 13 spec_P6Pick_en := so_of (envS (l := [(32, spec_l00From_en), (38, spec_l00Src_pick_en)]) ⟨(spec_l00From_so), (spec_l00Src_pick_so), trivial⟩) [] Tryz.func13 (by kernel_rfl) rfl fun _ => by kernel_rfl

-- loop.example/g01204/spec.l06PoseDrawn
noncomputable def spec_l06PoseDrawn (a0 : ((List Int) × (Int × (Int × Unit)))) : Option (((Vec 3 Nat) × Unit) × (((List Int) × (Int × (Int × Unit))) × Unit)) :=
  (spec_l00Src_pick a0 (33 : Int)).bind fun y1506 =>
  (spec_l00Src_pick y1506.2.1 (33 : Int)).bind fun y1510 =>
  (spec_l00Src_pick y1510.2.1 (49 : Int)).bind fun y1514 =>
  some (((((fDiv .f32 (fOfInt .f32 (iSub .i64 y1506.1.1 16)) 1082130432), (fDiv .f32 (fOfInt .f32 (iSub .i64 y1510.1.1 16)) 1082130432), (fDiv .f32 (fOfInt .f32 (iSub .i64 y1514.1.1 24)) 1090519040), ()) : (Vec 3 Nat)), ()), (y1514.2.1, ()))
noncomputable def spec_l06PoseDrawn_en : Entry := ⟨⟨[.io (.val (.pair (.list (.int .u8)) (.pair (.int .i64) (.pair (.int .u64) (.unit)))))], [.v (.val (.arr 3 (.flt .f32)))], true⟩, fun x => spec_l06PoseDrawn x.1⟩
theorem spec_l06PoseDrawn_so : Sound Tryz.prog G 48 spec_l06PoseDrawn_en := so_of (envS (l := [(38, spec_l00Src_pick_en)]) ⟨(spec_l00Src_pick_so), trivial⟩) [] Tryz.func48 (by kernel_rfl) rfl fun _ => by kernel_rfl

-- loop.example/g01204/spec.P6Pose
noncomputable def spec_P6Pose (a0 : (List Int)) : Option (((Vec 3 Nat) × Unit) × Unit) :=
  (spec_l00From a0).bind fun y1504 =>
  (spec_l06PoseDrawn y1504.1.1).bind fun y1505 =>
  some ((y1505.1.1, ()), ())
noncomputable def spec_P6Pose_en : Entry := ⟨⟨[.v (.list (.int .u8))], [.v (.val (.arr 3 (.flt .f32)))], false⟩, fun x => spec_P6Pose x.1⟩
theorem spec_P6Pose_so : Sound Tryz.prog G 15 spec_P6Pose_en := so_of (envS (l := [(32, spec_l00From_en), (48, spec_l06PoseDrawn_en)]) ⟨(spec_l00From_so), (spec_l06PoseDrawn_so), trivial⟩) [] Tryz.func15 (by kernel_rfl) rfl fun _ => by kernel_rfl

-- loop.example/g01204/spec.P6Spot
noncomputable def spec_P6Spot (a0 : (List Int)) (a1 : (Int × (Int × ((List Int) × Unit)))) : Option (((Vec 2 Int) × Unit) × Unit) :=
  (spec_l00From a0).bind fun y1518 =>
  (spec_l00Src_pick y1518.1.1 a1.1).bind fun y1519 =>
  (spec_l00Src_pick y1519.2.1 a1.2.1).bind fun y1521 =>
  some (((((iWrap .i16 y1519.1.1), (iWrap .i16 y1521.1.1), ()) : (Vec 2 Int)), ()), ())
noncomputable def spec_P6Spot_en : Entry := ⟨⟨[.v (.list (.int .u8)), .v (.pair (.int .i64) (.pair (.int .i64) (.pair (.list (.int .u8)) (.unit))))], [.v (.val (.arr 2 (.int .i16)))], false⟩, fun x => spec_P6Spot x.1 x.2.1⟩
theorem spec_P6Spot_so : Sound Tryz.prog G 8 spec_P6Spot_en := so_of (envS (l := [(32, spec_l00From_en), (38, spec_l00Src_pick_en)]) ⟨(spec_l00From_so), (spec_l00Src_pick_so), trivial⟩) [] Tryz.func8 (by kernel_rfl) rfl fun _ => by kernel_rfl

-- loop.example/g01204/spec.l07Low
noncomputable def spec_l07Low (a0 : (Vec 2 Nat)) (a1 : Nat) : Option ((Bool × Unit) × Unit) :=
  (spec_l01Finite (Vec.getD 2 a0 0 (0 : Nat))).bind fun y1543 =>
  bif y1543.1.1 then
    (spec_l01Finite (Vec.getD 2 a0 1 (0 : Nat))).bind fun y1545 =>
    bif y1545.1.1 then
      (spec_l01Finite a1).bind fun y1546 =>
      some ((y1546.1.1, ()), ())
    else some ((false, ()), ())
  else some ((false, ()), ())
noncomputable def spec_l07Low_en : Entry := ⟨⟨[.v (.arr 2 (.flt .f32)), .v (.flt .f32)], [.v (.val (.bool))], false⟩, fun x => spec_l07Low x.1 x.2.1⟩
theorem spec_l07Low_so : Sound Tryz.prog G 40 spec_l07Low_en := so_of (envS (l := [(53, spec_l01Finite_en)]) ⟨(spec_l01Finite_so), trivial⟩) [] Tryz.func40 (by kernel_rfl) rfl fun _ => by kernel_rfl

-- loop.example/g01204/spec.PointsOf
noncomputable def spec_PointsOf_l5 (a0 : (List (Vec 2 Int))) (a1 : (Vec 2 Nat)) (a2 : Nat) (s1526 : ((List (Vec 2 Nat)) × Int × Unit)) : Option (((List (Vec 2 Nat)) × Int × Unit) ⊕ (((List (Vec 2 Nat)) × Int × Unit) × Unit)) :=
  bif (iLt s1526.2.1 (lenI a0)) then
    bif inB s1526.2.1 (List.length a0) then
      bif inB s1526.2.1 (List.length a0) then
        bif room (List.length s1526.1 + 1) 8 then
          some (Sum.inl ((s1526.1 ++ ([((fAdd .f32 (Vec.getD 2 a1 0 (0 : Nat)) (fMul .f32 a2 (fAdd .f32 (fOfInt .f32 (Vec.getD 2 (List.getD a0 s1526.2.1.toNat ((0, 0, ()) : (Vec 2 Int))) 0 (0 : Int))) 1056964608))), (fAdd .f32 (Vec.getD 2 a1 1 (0 : Nat)) (fMul .f32 a2 (fAdd .f32 (fOfInt .f32 (Vec.getD 2 (List.getD a0 s1526.2.1.toNat ((0, 0, ()) : (Vec 2 Int))) 1 (0 : Int))) 1056964608))), ())] : (List (Vec 2 Nat)))), (iAdd .i64 s1526.2.1 1), ()))
        else none
      else none
    else none
  else
  Option.map Sum.inr (some ((s1526.1, (0 : Int), ()), ()))
noncomputable def spec_PointsOf (a0 : (List (Vec 2 Int))) (a1 : (Vec 2 Nat)) (a2 : Nat) : Option (((List (Vec 2 Nat)) × Int × Unit) × Unit) :=
  (spec_l07Low a1 a2).bind fun y1523 =>
  bif (! y1523.1.1) then some ((([] : (List (Vec 2 Nat))), (2 : Int), ()), ()) else
  bif (iLt 600 (lenI a0)) then some ((([] : (List (Vec 2 Nat))), (2 : Int), ()), ()) else run (spec_PointsOf_l5 a0 a1 a2) (([] : (List (Vec 2 Nat))), (0 : Int), ())
noncomputable def spec_PointsOf_en : Entry := ⟨⟨[.v (.list (.arr 2 (.int .i16))), .v (.arr 2 (.flt .f32)), .v (.flt .f32)], [.v (.rows (.arr 2 (.flt .f32))), .v (.val (.int .i64))], false⟩, fun x => spec_PointsOf x.1 x.2.1 x.2.2.1⟩
theorem spec_PointsOf_so : Sound Tryz.prog G 10 spec_PointsOf_en := so_of (envS (l := [(40, spec_l07Low_en)]) ⟨(spec_l07Low_so), trivial⟩) [(5, .vary [(8, .rows (.arr 2 (.flt .f32))), (9, .sc (.int .i64))])] Tryz.func10 (by kernel_rfl) rfl fun _ => by kernel_rfl

-- loop.example/g01204/spec.l01Same
noncomputable def spec_l01Same (a0 : Nat) (a1 : Nat) : Option ((Bool × Unit) × Unit) :=
  bif (! (fEq .f32 a0 a0)) then
    bif (! (fEq .f32 a0 a0)) then
      some (((! (fEq .f32 a1 a1)), ()), ())
    else some ((false, ()), ())
  else
  bif (! (fEq .f32 a1 a1)) then
    bif (! (fEq .f32 a0 a0)) then
      some (((! (fEq .f32 a1 a1)), ()), ())
    else some ((false, ()), ())
  else
  allSame fun (q1564 : Nat) =>
  allSame fun (q1566 : Nat) =>
  some (((iEq (bitsF .f32 a0 q1564) (bitsF .f32 a1 q1566)), ()), ())
noncomputable def spec_l01Same_en : Entry := ⟨⟨[.v (.flt .f32), .v (.flt .f32)], [.v (.val (.bool))], false⟩, fun x => spec_l01Same x.1 x.2.1⟩
theorem spec_l01Same_so : Sound Tryz.prog G 131 spec_l01Same_en := so_of (envS (l := []) trivial) [] Tryz.func131 (by kernel_rfl) rfl fun _ => by kernel_rfl

-- loop.example/g01204/spec.l01SameVec
noncomputable def spec_l01SameVec (a0 : (Vec 3 Nat)) (a1 : (Vec 3 Nat)) : Option ((Bool × Unit) × Unit) :=
  (spec_l01Same (Vec.getD 3 a0 0 (0 : Nat)) (Vec.getD 3 a1 0 (0 : Nat))).bind fun y1551 =>
  bif y1551.1.1 then
    (spec_l01Same (Vec.getD 3 a0 1 (0 : Nat)) (Vec.getD 3 a1 1 (0 : Nat))).bind fun y1554 =>
    bif y1554.1.1 then
      (spec_l01Same (Vec.getD 3 a0 2 (0 : Nat)) (Vec.getD 3 a1 2 (0 : Nat))).bind fun y1557 =>
      some ((y1557.1.1, ()), ())
    else some ((false, ()), ())
  else some ((false, ()), ())
noncomputable def spec_l01SameVec_en : Entry := ⟨⟨[.v (.arr 3 (.flt .f32)), .v (.arr 3 (.flt .f32))], [.v (.val (.bool))], false⟩, fun x => spec_l01SameVec x.1 x.2.1⟩
theorem spec_l01SameVec_so : Sound Tryz.prog G 96 spec_l01SameVec_en := so_of (envS (l := [(131, spec_l01Same_en)]) ⟨(spec_l01Same_so), trivial⟩) [] Tryz.func96 (by kernel_rfl) rfl fun _ => by kernel_rfl

-- loop.example/g01204/spec.l06SamePose
noncomputable def spec_l06SamePose (a0 : (Vec 3 Nat)) (a1 : (Vec 3 Nat)) : Option ((Bool × Unit) × Unit) :=
  (spec_l01SameVec a0 a1).bind fun y1548 =>
  some ((y1548.1.1, ()), ())
noncomputable def spec_l06SamePose_en : Entry := ⟨⟨[.v (.arr 3 (.flt .f32)), .v (.arr 3 (.flt .f32))], [.v (.val (.bool))], false⟩, fun x => spec_l06SamePose x.1 x.2.1⟩
theorem spec_l06SamePose_so : Sound Tryz.prog G 57 spec_l06SamePose_en := so_of (envS (l := [(96, spec_l01SameVec_en)]) ⟨(spec_l01SameVec_so), trivial⟩) [] Tryz.func57 (by kernel_rfl) rfl fun _ => by kernel_rfl

-- loop.example/g01204/spec.SamePose
noncomputable def spec_SamePose (a0 : (Vec 3 Nat)) (a1 : (Vec 3 Nat)) : Option ((Bool × Unit) × Unit) :=
  (spec_l06SamePose a0 a1).bind fun y1547 =>
  some ((y1547.1.1, ()), ())
noncomputable def spec_SamePose_en : Entry := ⟨⟨[.v (.arr 3 (.flt .f32)), .v (.arr 3 (.flt .f32))], [.v (.val (.bool))], false⟩, fun x => spec_SamePose x.1 x.2.1⟩
theorem spec_SamePose_so : Sound Tryz.prog G 18 spec_SamePose_en := so_of (envS (l := [(57, spec_l06SamePose_en)]) ⟨(spec_l06SamePose_so), trivial⟩) [] Tryz.func18 (by kernel_rfl) rfl fun _ => by kernel_rfl

-- loop.example/g01204/laws.FnFollowed
noncomputable def laws_FnFollowed_l13 (y9 : (((List (Vec 2 Nat)) × Int × Unit) × Unit)) (y8 : (((List (Vec 2 Nat)) × Int × Unit) × Unit)) (a1 : (List Int)) (a0 : (List Int)) (s16 : (Int × Unit)) : Option ((Int × Unit) ⊕ ((Bool × Unit) × Unit)) :=
  bif (iLt s16.1 (lenI y9.1.1)) then
    bif inB s16.1 (List.length y8.1.1) then
      let x18 := List.getD y8.1.1 s16.1.toNat ((0, 0, ()) : (Vec 2 Nat))
      bif inB s16.1 (List.length y9.1.1) then
        let x19 := List.getD y9.1.1 s16.1.toNat ((0, 0, ()) : (Vec 2 Nat))
        bif (! (fEq .f32 (Vec.getD 2 x18 0 (0 : Nat)) (Vec.getD 2 x19 0 (0 : Nat)) && (fEq .f32 (Vec.getD 2 x18 1 (0 : Nat)) (Vec.getD 2 x19 1 (0 : Nat)) && true))) then
          Option.map Sum.inr (some ((false, ()), ()))
        else
        some (Sum.inl ((iAdd .i64 s16.1 1), ()))
      else none
    else none
  else
  Option.map Sum.inr (
    bif inB 0 (List.length y9.1.1) then
      let x22 := List.getD y9.1.1 0 ((0, 0, ()) : (Vec 2 Nat))
      (impl_AheadOnWay y9.1.1 x22 (0 : Nat)).bind fun y23 =>
      (impl_AheadOnWay y9.1.1 x22 (1148846080 : Nat)).bind fun y24 =>
      (spec_P6Pick a1 (20 : Int)).bind fun y25 =>
      let x27 := fDiv .f32 (fOfInt .f32 y25.1.1) 1082130432
      (impl_AheadOnWay y9.1.1 x22 x27).bind fun y28 =>
      (spec_AheadOnWay y9.1.1 x22 x27).bind fun y29 =>
      bif (! (iEq y23.1.2.1 0)) then some ((false, ()), ()) else
      bif inB 0 (List.length y9.1.1) then
        let x31 := List.getD y9.1.1 0 ((0, 0, ()) : (Vec 2 Nat))
        bif (! (fEq .f32 (Vec.getD 2 y23.1.1 0 (0 : Nat)) (Vec.getD 2 x31 0 (0 : Nat)) && (fEq .f32 (Vec.getD 2 y23.1.1 1 (0 : Nat)) (Vec.getD 2 x31 1 (0 : Nat)) && true))) then some ((false, ()), ()) else
        bif (! (iEq y24.1.2.1 0)) then some ((false, ()), ()) else
        let x34 := iSub .i64 (lenI y9.1.1) 1
        bif inB x34 (List.length y9.1.1) then
          let x35 := List.getD y9.1.1 x34.toNat ((0, 0, ()) : (Vec 2 Nat))
          bif (! (fEq .f32 (Vec.getD 2 y24.1.1 0 (0 : Nat)) (Vec.getD 2 x35 0 (0 : Nat)) && (fEq .f32 (Vec.getD 2 y24.1.1 1 (0 : Nat)) (Vec.getD 2 x35 1 (0 : Nat)) && true))) then some ((false, ()), ()) else
          bif (! (iEq y28.1.2.1 y29.1.2.1)) then some ((false, ()), ()) else
          bif (! (fEq .f32 (Vec.getD 2 y28.1.1 0 (0 : Nat)) (Vec.getD 2 y29.1.1 0 (0 : Nat)) && (fEq .f32 (Vec.getD 2 y28.1.1 1 (0 : Nat)) (Vec.getD 2 y29.1.1 1 (0 : Nat)) && true))) then some ((false, ()), ()) else
          (spec_P6Pose a1).bind fun y39 =>
          (spec_P6Pick a0 (9 : Int)).bind fun y40 =>
          let x42 := fDiv .f32 (fOfInt .f32 y40.1.1) 1090519040
          (impl_FollowWay y9.1.1 y39.1.1 x27 x42).bind fun y43 =>
          (spec_FollowWay y9.1.1 y39.1.1 x27 x42).bind fun y44 =>
          bif (! (iEq y43.1.2.1 y44.1.2.1)) then some ((false, ()), ()) else
          bif (! (iEq y43.1.2.1 0)) then some ((false, ()), ()) else
          (spec_SamePose y43.1.1 y44.1.1).bind fun y47 =>
          bif (! y47.1.1) then some ((false, ()), ()) else
          (impl_LengthOf (((fSub .f32 (Vec.getD 3 y44.1.1 0 (0 : Nat)) (Vec.getD 3 y39.1.1 0 (0 : Nat))), (fSub .f32 (Vec.getD 3 y44.1.1 1 (0 : Nat)) (Vec.getD 3 y39.1.1 1 (0 : Nat))), 0, ()) : (Vec 3 Nat))).bind fun y55 =>
          (impl_WrapAngle (fSub .f32 (Vec.getD 3 y44.1.1 2 (0 : Nat)) (Vec.getD 3 y39.1.1 2 (0 : Nat)))).bind fun y59 =>
          (laws_f6near y55.1.1 x42 (981668463 : Nat)).bind fun y60 =>
          bif y60.1.1 then
            bif (fLe .f32 y59.1.1 1056981385) then
              some (((fLe .f32 3204465033 y59.1.1), ()), ())
            else some ((false, ()), ())
          else some ((false, ()), ())
        else none
      else none
    else none)
noncomputable def laws_FnFollowed (a0 : (List Int)) (a1 : (List Int)) : Option ((Bool × Unit) × Unit) :=
  (laws_f6big a0).bind fun y1 =>
  bif y1.1.1 then some ((true, ()), ()) else
  (laws_f6big a1).bind fun y2 =>
  bif y2.1.1 then some ((true, ()), ()) else
  (spec_P6Grid a0).bind fun y3 =>
  (spec_P6Spot a1 ((y3.1.1.1, y3.1.1.2.1, y3.1.1.2.2.1, y3.1.1.2.2.2) : (Int × (Int × ((List Int) × Unit))))).bind fun y4 =>
  (spec_P6Spot a0 ((y3.1.1.1, y3.1.1.2.1, y3.1.1.2.2.1, y3.1.1.2.2.2) : (Int × (Int × ((List Int) × Unit))))).bind fun y5 =>
  (spec_BestRoute ((y3.1.1.1, y3.1.1.2.1, y3.1.1.2.2.1, y3.1.1.2.2.2) : (Int × (Int × ((List Int) × Unit)))) y4.1.1 y5.1.1).bind fun y6 =>
  bif (! (iEq y6.1.2.2.1 0)) then some ((true, ()), ()) else
  (impl_PointsOf y6.1.1 ((1065353216, 1073741824, ()) : (Vec 2 Nat)) (1056964608 : Nat)).bind fun y8 =>
  (spec_PointsOf y6.1.1 ((1065353216, 1073741824, ()) : (Vec 2 Nat)) (1056964608 : Nat)).bind fun y9 =>
  (impl_LengthOfWay y9.1.1).bind fun y10 =>
  bif (! (iEq y8.1.2.1 y9.1.2.1)) then some ((false, ()), ()) else
  bif (! (iEq y8.1.2.1 0)) then some ((false, ()), ()) else
  bif (! (iEq (lenI y8.1.1) (lenI y9.1.1))) then some ((false, ()), ()) else
  bif (! (iEq y10.1.2.1 0)) then some ((false, ()), ()) else
  bif (fLt .f32 y10.1.1 0) then some ((false, ()), ()) else run (laws_FnFollowed_l13 y9 y8 a1 a0) ((0 : Int), ())
noncomputable def laws_FnFollowed_en : Entry := ⟨⟨[.v (.list (.int .u8)), .v (.list (.int .u8))], [.v (.val (.bool))], false⟩, fun x => laws_FnFollowed x.1 x.2.1⟩
theorem laws_FnFollowed_so : Sound Tryz.prog G 3 laws_FnFollowed_en := so_of (envS (l := [(5, laws_f6big_en), (6, spec_P6Grid_en), (7, spec_BestRoute_en), (8, spec_P6Spot_en), (9, impl_PointsOf_en), (10, spec_PointsOf_en), (11, impl_LengthOfWay_en), (12, impl_AheadOnWay_en), (13, spec_P6Pick_en), (14, spec_AheadOnWay_en), (15, spec_P6Pose_en), (16, impl_FollowWay_en), (17, spec_FollowWay_en), (18, spec_SamePose_en), (19, impl_LengthOf_en), (20, impl_WrapAngle_en), (21, laws_f6near_en)]) ⟨(laws_f6big_so), (spec_P6Grid_so), (spec_BestRoute_so), (spec_P6Spot_so), (impl_PointsOf_so), (spec_PointsOf_so), (impl_LengthOfWay_so), (impl_AheadOnWay_so), (spec_P6Pick_so), (spec_AheadOnWay_so), (spec_P6Pose_so), (impl_FollowWay_so), (spec_FollowWay_so), (spec_SamePose_so), (impl_LengthOf_so), (impl_WrapAngle_so), (laws_f6near_so), trivial⟩) [(13, .vary [(15, .sc (.int .i64))])] Tryz.func3 (by kernel_rfl) rfl fun _ => by kernel_rfl

end Go.Proofs.YtnndahnmlmgenaaGreat
