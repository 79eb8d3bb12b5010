import Derived.Test.YtioniijhdkkieaaE
/- Functions on typed data: what the evaluation of each Go function is, and that it is sound. -/
namespace Go.Proofs.Ytioniijhdkkieaa
open Go Go.Tm
set_option linter.unusedVariables false
set_option maxRecDepth 100000
-- loop.example/g01204/impl.isFinite
noncomputable def impl_isFinite_l2 (a0 : (List Nat)) (s174 : (Int × Unit)) : Option ((Int × Unit) ⊕ ((Bool × Unit) × Unit)) :=
  bif (iLt s174.1 (lenI a0)) then
    bif inB s174.1 (List.length a0) then
      let x176 := List.getD a0 s174.1.toNat (0 : Nat)
      bif (! (fEq .f32 (fSub .f32 x176 x176) 0)) then
        Option.map Sum.inr (some ((false, ()), ()))
      else
      some (Sum.inl ((iAdd .i64 s174.1 1), ()))
    else none
  else
  Option.map Sum.inr (some ((true, ()), ()))
noncomputable def impl_isFinite (a0 : (List Nat)) : Option ((Bool × Unit) × Unit) :=
  run (impl_isFinite_l2 a0) ((0 : Int), ())
noncomputable def impl_isFinite_sg : Sig := ⟨[.v (.list (.flt .f32))], [.v (.val (.bool))], false⟩
noncomputable def impl_isFinite_en : Entry := ⟨impl_isFinite_sg, fun x => impl_isFinite x.1⟩
theorem impl_isFinite_eq (x : impl_isFinite_sg.dom) : body (env []) [(2, .vary [(7, .sc (.int .i64))])] Try.f111 impl_isFinite_sg x = impl_isFinite x.1 := by kernel_rfl
theorem impl_isFinite_so : Sound Try.prog 111 impl_isFinite_en := sound_of_body (envS (l := []) (trivial)) Try.func111 (by kernel_rfl) rfl (fun x y h => (impl_isFinite_eq x).trans h)

theorem math_Float64frombits_so : Sound Try.prog 210 math_Float64frombits_en := math_Float64frombits_sound Try.func210 (by kernel_rfl) (by kernel_rfl) (by kernel_rfl) (by kernel_rfl)

-- math.NaN
noncomputable def math_NaN : Option ((Nat × Unit) × Unit) :=
  (math_Float64frombits (9221120237041090561 : Int)).bind fun y182 =>
  some ((y182.1.1, ()), ())
noncomputable def math_NaN_sg : Sig := ⟨[], [.v (.val (.flt .f64))], false⟩
noncomputable def math_NaN_en : Entry := ⟨math_NaN_sg, fun _ => math_NaN⟩
theorem math_NaN_eq (x : math_NaN_sg.dom) : body (env [(210, math_Float64frombits_en)]) [] Try.f205 math_NaN_sg x = math_NaN  := by kernel_rfl
theorem math_NaN_so : Sound Try.prog 205 math_NaN_en := sound_of_body (envS (l := [(210, math_Float64frombits_en)]) (⟨math_Float64frombits_so, trivial⟩)) Try.func205 (by kernel_rfl) rfl (fun x y h => (math_NaN_eq x).trans h)

-- loop.example/g01204/impl.notANumber
noncomputable def impl_notANumber : Option ((Nat × Unit) × Unit) :=
  (math_NaN).bind fun y180 =>
  (fConv .f64 .f32 y180.1.1).bind fun y181 =>
  some ((y181, ()), ())
noncomputable def impl_notANumber_sg : Sig := ⟨[], [.v (.val (.flt .f32))], false⟩
noncomputable def impl_notANumber_en : Entry := ⟨impl_notANumber_sg, fun _ => impl_notANumber⟩
theorem impl_notANumber_eq (x : impl_notANumber_sg.dom) : body (env [(205, math_NaN_en)]) [] Try.f178 impl_notANumber_sg x = impl_notANumber  := by kernel_rfl
theorem impl_notANumber_so : Sound Try.prog 178 impl_notANumber_en := sound_of_body (envS (l := [(205, math_NaN_en)]) (⟨math_NaN_so, trivial⟩)) Try.func178 (by kernel_rfl) rfl (fun x y h => (impl_notANumber_eq x).trans h)

-- math.Abs
noncomputable def math_Abs (a0 : Nat) : Option ((Nat × Unit) × Unit) :=
  allSame fun (q183 : Nat) =>
  (math_Float64frombits (iAndNot .u64 (bitsF .f64 a0 q183) 9223372036854775808)).bind fun y186 =>
  some ((y186.1.1, ()), ())
noncomputable def math_Abs_sg : Sig := ⟨[.v (.flt .f64)], [.v (.val (.flt .f64))], false⟩
noncomputable def math_Abs_en : Entry := ⟨math_Abs_sg, fun x => math_Abs x.1⟩
theorem math_Abs_eq (x : math_Abs_sg.dom) : body (env [(210, math_Float64frombits_en)]) [] Try.f181 math_Abs_sg x = math_Abs x.1 := by kernel_rfl
theorem math_Abs_so : Sound Try.prog 181 math_Abs_en := sound_of_body (envS (l := [(210, math_Float64frombits_en)]) (⟨math_Float64frombits_so, trivial⟩)) Try.func181 (by kernel_rfl) rfl (fun x y h => (math_Abs_eq x).trans h)

theorem math_sqrt_so : Sound Try.prog 212 math_sqrt_en := math_sqrt_sound Try.func212 (by kernel_rfl) (by kernel_rfl) (by kernel_rfl) (by kernel_rfl)

-- math.Sqrt
noncomputable def math_Sqrt (a0 : Nat) : Option ((Nat × Unit) × Unit) :=
  (math_sqrt a0).bind fun y187 =>
  some ((y187.1.1, ()), ())
noncomputable def math_Sqrt_sg : Sig := ⟨[.v (.flt .f64)], [.v (.val (.flt .f64))], false⟩
noncomputable def math_Sqrt_en : Entry := ⟨math_Sqrt_sg, fun x => math_Sqrt x.1⟩
theorem math_Sqrt_eq (x : math_Sqrt_sg.dom) : body (env [(212, math_sqrt_en)]) [] Try.f182 math_Sqrt_sg x = math_Sqrt x.1 := by kernel_rfl
theorem math_Sqrt_so : Sound Try.prog 182 math_Sqrt_en := sound_of_body (envS (l := [(212, math_sqrt_en)]) (⟨math_sqrt_so, trivial⟩)) Try.func182 (by kernel_rfl) rfl (fun x y h => (math_Sqrt_eq x).trans h)

-- loop.example/g01204/impl.AngleOf
noncomputable def impl_AngleOf_l14 (x84 : Nat) (x83 : Nat) (y65 : ((Nat × Unit) × Unit)) (y63 : ((Nat × Unit) × Unit)) (a1 : Nat) (a0 : Nat) (s85 : (Nat × Int × Unit)) : Option ((Nat × Int × Unit) ⊕ ((Nat × Unit) × Unit)) :=
  bif (iLe 0 s85.2.1) then
    some (Sum.inl ((fSub .f64 (fDiv .f64 4607182418800017408 (fOfInt .f64 (iAdd .i64 (iMul .i64 2 s85.2.1) 1))) (fMul .f64 x84 s85.1)), (iSub .i64 s85.2.1 1), ()))
  else
  Option.map Sum.inr (
    let x95 := fMul .f64 (fMul .f64 4620693217682128896 x83) s85.1
    bif (fLt .f64 y65.1.1 y63.1.1) then
      let x97 := fSub .f64 4609753056924675352 x95
      bif (fLt .f32 a1 0) then
        let x99 := fSub .f64 4614256656552045848 x97
        bif (fLt .f32 a0 0) then
          (fConv .f64 .f32 (fNeg .f64 x99)).bind fun y102 =>
          some ((y102, ()), ())
        else
        (fConv .f64 .f32 x99).bind fun y103 =>
        some ((y103, ()), ())
      else
      bif (fLt .f32 a0 0) then
        (fConv .f64 .f32 (fNeg .f64 x97)).bind fun y106 =>
        some ((y106, ()), ())
      else
      (fConv .f64 .f32 x97).bind fun y107 =>
      some ((y107, ()), ())
    else
    bif (fLt .f32 a1 0) then
      let x109 := fSub .f64 4614256656552045848 x95
      bif (fLt .f32 a0 0) then
        (fConv .f64 .f32 (fNeg .f64 x109)).bind fun y112 =>
        some ((y112, ()), ())
      else
      (fConv .f64 .f32 x109).bind fun y113 =>
      some ((y113, ()), ())
    else
    bif (fLt .f32 a0 0) then
      (fConv .f64 .f32 (fNeg .f64 x95)).bind fun y116 =>
      some ((y116, ()), ())
    else
    (fConv .f64 .f32 x95).bind fun y117 =>
    some ((y117, ()), ()))
noncomputable def impl_AngleOf_l14_2 (x140 : Nat) (x139 : Nat) (y121 : ((Nat × Unit) × Unit)) (y119 : ((Nat × Unit) × Unit)) (a1 : Nat) (a0 : Nat) (s141 : (Nat × Int × Unit)) : Option ((Nat × Int × Unit) ⊕ ((Nat × Unit) × Unit)) :=
  bif (iLe 0 s141.2.1) then
    some (Sum.inl ((fSub .f64 (fDiv .f64 4607182418800017408 (fOfInt .f64 (iAdd .i64 (iMul .i64 2 s141.2.1) 1))) (fMul .f64 x140 s141.1)), (iSub .i64 s141.2.1 1), ()))
  else
  Option.map Sum.inr (
    let x151 := fMul .f64 (fMul .f64 4620693217682128896 x139) s141.1
    bif (fLt .f64 y121.1.1 y119.1.1) then
      let x153 := fSub .f64 4609753056924675352 x151
      bif (fLt .f32 a1 0) then
        let x155 := fSub .f64 4614256656552045848 x153
        bif (fLt .f32 a0 0) then
          (fConv .f64 .f32 (fNeg .f64 x155)).bind fun y158 =>
          some ((y158, ()), ())
        else
        (fConv .f64 .f32 x155).bind fun y159 =>
        some ((y159, ()), ())
      else
      bif (fLt .f32 a0 0) then
        (fConv .f64 .f32 (fNeg .f64 x153)).bind fun y162 =>
        some ((y162, ()), ())
      else
      (fConv .f64 .f32 x153).bind fun y163 =>
      some ((y163, ()), ())
    else
    bif (fLt .f32 a1 0) then
      let x165 := fSub .f64 4614256656552045848 x151
      bif (fLt .f32 a0 0) then
        (fConv .f64 .f32 (fNeg .f64 x165)).bind fun y168 =>
        some ((y168, ()), ())
      else
      (fConv .f64 .f32 x165).bind fun y169 =>
      some ((y169, ()), ())
    else
    bif (fLt .f32 a0 0) then
      (fConv .f64 .f32 (fNeg .f64 x151)).bind fun y172 =>
      some ((y172, ()), ())
    else
    (fConv .f64 .f32 x151).bind fun y173 =>
    some ((y173, ()), ()))
noncomputable def impl_AngleOf (a0 : Nat) (a1 : Nat) : Option ((Nat × Unit) × Unit) :=
  (impl_isFinite ([a0, a1] : (List Nat))).bind fun y57 =>
  bif (! y57.1.1) then
    (impl_notANumber).bind fun y59 =>
    some ((y59.1.1, ()), ())
  else
  bif (fEq .f32 a0 0) then
    bif (fEq .f32 a1 0) then some (((0 : Nat), ()), ()) else
    (fConv .f32 .f64 a0).bind fun y62 =>
    (math_Abs y62).bind fun y63 =>
    (fConv .f32 .f64 a1).bind fun y64 =>
    (math_Abs y64).bind fun y65 =>
    let x68 := fDiv .f64 (fMin .f64 y63.1.1 y65.1.1) (fMax .f64 y63.1.1 y65.1.1)
    (math_Sqrt (fAdd .f64 4607182418800017408 (fMul .f64 x68 x68))).bind fun y71 =>
    let x73 := fDiv .f64 x68 (fAdd .f64 4607182418800017408 y71.1.1)
    (math_Sqrt (fAdd .f64 4607182418800017408 (fMul .f64 x73 x73))).bind fun y76 =>
    let x78 := fDiv .f64 x73 (fAdd .f64 4607182418800017408 y76.1.1)
    (math_Sqrt (fAdd .f64 4607182418800017408 (fMul .f64 x78 x78))).bind fun y81 =>
    let x83 := fDiv .f64 x78 (fAdd .f64 4607182418800017408 y81.1.1)
    let x84 := fMul .f64 x83 x83
    run (impl_AngleOf_l14 x84 x83 y65 y63 a1 a0) ((0 : Nat), (12 : Int), ())
  else
  (fConv .f32 .f64 a0).bind fun y118 =>
  (math_Abs y118).bind fun y119 =>
  (fConv .f32 .f64 a1).bind fun y120 =>
  (math_Abs y120).bind fun y121 =>
  let x124 := fDiv .f64 (fMin .f64 y119.1.1 y121.1.1) (fMax .f64 y119.1.1 y121.1.1)
  (math_Sqrt (fAdd .f64 4607182418800017408 (fMul .f64 x124 x124))).bind fun y127 =>
  let x129 := fDiv .f64 x124 (fAdd .f64 4607182418800017408 y127.1.1)
  (math_Sqrt (fAdd .f64 4607182418800017408 (fMul .f64 x129 x129))).bind fun y132 =>
  let x134 := fDiv .f64 x129 (fAdd .f64 4607182418800017408 y132.1.1)
  (math_Sqrt (fAdd .f64 4607182418800017408 (fMul .f64 x134 x134))).bind fun y137 =>
  let x139 := fDiv .f64 x134 (fAdd .f64 4607182418800017408 y137.1.1)
  let x140 := fMul .f64 x139 x139
  run (impl_AngleOf_l14_2 x140 x139 y121 y119 a1 a0) ((0 : Nat), (12 : Int), ())
noncomputable def impl_AngleOf_sg : Sig := ⟨[.v (.flt .f32), .v (.flt .f32)], [.v (.val (.flt .f32))], false⟩
noncomputable def impl_AngleOf_en : Entry := ⟨impl_AngleOf_sg, fun x => impl_AngleOf x.1 x.2.1⟩
theorem impl_AngleOf_eq (x : impl_AngleOf_sg.dom) : body (env [(111, impl_isFinite_en), (178, impl_notANumber_en), (181, math_Abs_en), (182, math_Sqrt_en)]) [(8, .unroll 4), (14, .vary [(9, .sc (.flt .f64)), (10, .sc (.int .i64))])] Try.f129 impl_AngleOf_sg x = impl_AngleOf x.1 x.2.1 := by kernel_rfl
theorem impl_AngleOf_so : Sound Try.prog 129 impl_AngleOf_en := sound_of_body (envS (l := [(111, impl_isFinite_en), (178, impl_notANumber_en), (181, math_Abs_en), (182, math_Sqrt_en)]) (⟨impl_isFinite_so, impl_notANumber_so, math_Abs_so, math_Sqrt_so, trivial⟩)) Try.func129 (by kernel_rfl) rfl (fun x y h => (impl_AngleOf_eq x).trans h)

theorem math_archFloor_so : Sound Try.prog 158 math_archFloor_en := round_sound (name := "math.archFloor") Try.func158 (by kernel_rfl) (by kernel_rfl) (by kernel_rfl) (by kernel_rfl)

-- math.Floor
noncomputable def math_Floor (a0 : Nat) : Option ((Nat × Unit) × Unit) :=
  (math_archFloor a0).bind fun y376 =>
  some ((y376.1.1, ()), ())
noncomputable def math_Floor_sg : Sig := ⟨[.v (.flt .f64)], [.v (.val (.flt .f64))], false⟩
noncomputable def math_Floor_en : Entry := ⟨math_Floor_sg, fun x => math_Floor x.1⟩
theorem math_Floor_eq (x : math_Floor_sg.dom) : body (env [(158, math_archFloor_en)]) [] Try.f107 math_Floor_sg x = math_Floor x.1 := by kernel_rfl
theorem math_Floor_so : Sound Try.prog 107 math_Floor_en := sound_of_body (envS (l := [(158, math_archFloor_en)]) (⟨math_archFloor_so, trivial⟩)) Try.func107 (by kernel_rfl) rfl (fun x y h => (math_Floor_eq x).trans h)

-- loop.example/g01204/impl.sineOfTurns
noncomputable def impl_sineOfTurns (a0 : Nat) : Option ((Nat × Unit) × Unit) :=
  (math_Floor a0).bind fun y216 =>
  let x217 := fSub .f64 a0 y216.1.1
  let x218 := fLe .f64 4602678819172646912 x217
  bif x218 then
    let x219 := fSub .f64 x217 4602678819172646912
    bif (fLt .f64 4598175219545276416 x219) then
      let x222 := fMul .f64 4618760256179416344 (fSub .f64 4602678819172646912 x219)
      let x223 := fMul .f64 x222 x222
      let x256 := fMul .f64 (fSub .f64 4607182418800017408 (fMul .f64 (fDiv .f64 x223 (fOfInt .f64 6)) (fSub .f64 4607182418800017408 (fMul .f64 (fDiv .f64 x223 (fOfInt .f64 20)) (fSub .f64 4607182418800017408 (fMul .f64 (fDiv .f64 x223 (fOfInt .f64 42)) (fSub .f64 4607182418800017408 (fMul .f64 (fDiv .f64 x223 (fOfInt .f64 72)) (fSub .f64 4607182418800017408 (fMul .f64 (fDiv .f64 x223 (fOfInt .f64 110)) (fSub .f64 4607182418800017408 (fMul .f64 (fDiv .f64 x223 (fOfInt .f64 156)) (fSub .f64 4607182418800017408 (fMul .f64 (fDiv .f64 x223 (fOfInt .f64 210)) (fSub .f64 4607182418800017408 (fMul .f64 (fDiv .f64 x223 (fOfInt .f64 272)) 4607182418800017408)))))))))))))))) x222
      bif x218 then
        (fConv .f64 .f32 (fNeg .f64 x256)).bind fun y258 =>
        some ((y258, ()), ())
      else
      (fConv .f64 .f32 x256).bind fun y259 =>
      some ((y259, ()), ())
    else
    let x260 := fMul .f64 4618760256179416344 x219
    let x261 := fMul .f64 x260 x260
    let x294 := fMul .f64 (fSub .f64 4607182418800017408 (fMul .f64 (fDiv .f64 x261 (fOfInt .f64 6)) (fSub .f64 4607182418800017408 (fMul .f64 (fDiv .f64 x261 (fOfInt .f64 20)) (fSub .f64 4607182418800017408 (fMul .f64 (fDiv .f64 x261 (fOfInt .f64 42)) (fSub .f64 4607182418800017408 (fMul .f64 (fDiv .f64 x261 (fOfInt .f64 72)) (fSub .f64 4607182418800017408 (fMul .f64 (fDiv .f64 x261 (fOfInt .f64 110)) (fSub .f64 4607182418800017408 (fMul .f64 (fDiv .f64 x261 (fOfInt .f64 156)) (fSub .f64 4607182418800017408 (fMul .f64 (fDiv .f64 x261 (fOfInt .f64 210)) (fSub .f64 4607182418800017408 (fMul .f64 (fDiv .f64 x261 (fOfInt .f64 272)) 4607182418800017408)))))))))))))))) x260
    bif x218 then
      (fConv .f64 .f32 (fNeg .f64 x294)).bind fun y296 =>
      some ((y296, ()), ())
    else
    (fConv .f64 .f32 x294).bind fun y297 =>
    some ((y297, ()), ())
  else
  bif (fLt .f64 4598175219545276416 x217) then
    let x300 := fMul .f64 4618760256179416344 (fSub .f64 4602678819172646912 x217)
    let x301 := fMul .f64 x300 x300
    let x334 := fMul .f64 (fSub .f64 4607182418800017408 (fMul .f64 (fDiv .f64 x301 (fOfInt .f64 6)) (fSub .f64 4607182418800017408 (fMul .f64 (fDiv .f64 x301 (fOfInt .f64 20)) (fSub .f64 4607182418800017408 (fMul .f64 (fDiv .f64 x301 (fOfInt .f64 42)) (fSub .f64 4607182418800017408 (fMul .f64 (fDiv .f64 x301 (fOfInt .f64 72)) (fSub .f64 4607182418800017408 (fMul .f64 (fDiv .f64 x301 (fOfInt .f64 110)) (fSub .f64 4607182418800017408 (fMul .f64 (fDiv .f64 x301 (fOfInt .f64 156)) (fSub .f64 4607182418800017408 (fMul .f64 (fDiv .f64 x301 (fOfInt .f64 210)) (fSub .f64 4607182418800017408 (fMul .f64 (fDiv .f64 x301 (fOfInt .f64 272)) 4607182418800017408)))))))))))))))) x300
    bif x218 then
      (fConv .f64 .f32 (fNeg .f64 x334)).bind fun y336 =>
      some ((y336, ()), ())
    else
    (fConv .f64 .f32 x334).bind fun y337 =>
    some ((y337, ()), ())
  else
  let x338 := fMul .f64 4618760256179416344 x217
  let x339 := fMul .f64 x338 x338
  let x372 := fMul .f64 (fSub .f64 4607182418800017408 (fMul .f64 (fDiv .f64 x339 (fOfInt .f64 6)) (fSub .f64 4607182418800017408 (fMul .f64 (fDiv .f64 x339 (fOfInt .f64 20)) (fSub .f64 4607182418800017408 (fMul .f64 (fDiv .f64 x339 (fOfInt .f64 42)) (fSub .f64 4607182418800017408 (fMul .f64 (fDiv .f64 x339 (fOfInt .f64 72)) (fSub .f64 4607182418800017408 (fMul .f64 (fDiv .f64 x339 (fOfInt .f64 110)) (fSub .f64 4607182418800017408 (fMul .f64 (fDiv .f64 x339 (fOfInt .f64 156)) (fSub .f64 4607182418800017408 (fMul .f64 (fDiv .f64 x339 (fOfInt .f64 210)) (fSub .f64 4607182418800017408 (fMul .f64 (fDiv .f64 x339 (fOfInt .f64 272)) 4607182418800017408)))))))))))))))) x338
  bif x218 then
    (fConv .f64 .f32 (fNeg .f64 x372)).bind fun y374 =>
    some ((y374, ()), ())
  else
  (fConv .f64 .f32 x372).bind fun y375 =>
  some ((y375, ()), ())
noncomputable def impl_sineOfTurns_sg : Sig := ⟨[.v (.flt .f64)], [.v (.val (.flt .f32))], false⟩
noncomputable def impl_sineOfTurns_en : Entry := ⟨impl_sineOfTurns_sg, fun x => impl_sineOfTurns x.1⟩
theorem impl_sineOfTurns_eq (x : impl_sineOfTurns_sg.dom) : body (env [(107, math_Floor_en)]) [(11, .unroll 9)] Try.f213 impl_sineOfTurns_sg x = impl_sineOfTurns x.1 := by kernel_rfl
theorem impl_sineOfTurns_so : Sound Try.prog 213 impl_sineOfTurns_en := sound_of_body (envS (l := [(107, math_Floor_en)]) (⟨math_Floor_so, trivial⟩)) Try.func213 (by kernel_rfl) rfl (fun x y h => (impl_sineOfTurns_eq x).trans h)

-- loop.example/g01204/impl.turnsOf
noncomputable def impl_turnsOf (a0 : Nat) : Option ((Nat × Unit) × Unit) :=
  (fConv .f32 .f64 a0).bind fun y377 =>
  some (((fDiv .f64 y377 4618760256179416344), ()), ())
noncomputable def impl_turnsOf_sg : Sig := ⟨[.v (.flt .f32)], [.v (.val (.flt .f64))], false⟩
noncomputable def impl_turnsOf_en : Entry := ⟨impl_turnsOf_sg, fun x => impl_turnsOf x.1⟩
theorem impl_turnsOf_eq (x : impl_turnsOf_sg.dom) : body (env []) [] Try.f180 impl_turnsOf_sg x = impl_turnsOf x.1 := by kernel_rfl
theorem impl_turnsOf_so : Sound Try.prog 180 impl_turnsOf_en := sound_of_body (envS (l := []) (trivial)) Try.func180 (by kernel_rfl) rfl (fun x y h => (impl_turnsOf_eq x).trans h)

-- loop.example/g01204/impl.CosineOf
noncomputable def impl_CosineOf (a0 : Nat) : Option ((Nat × Unit) × Unit) :=
  (impl_isFinite ([a0] : (List Nat))).bind fun y210 =>
  bif (! y210.1.1) then
    (impl_notANumber).bind fun y212 =>
    some ((y212.1.1, ()), ())
  else
  (impl_turnsOf a0).bind fun y213 =>
  (impl_sineOfTurns (fAdd .f64 y213.1.1 4598175219545276416)).bind fun y215 =>
  some ((y215.1.1, ()), ())
noncomputable def impl_CosineOf_sg : Sig := ⟨[.v (.flt .f32)], [.v (.val (.flt .f32))], false⟩
noncomputable def impl_CosineOf_en : Entry := ⟨impl_CosineOf_sg, fun x => impl_CosineOf x.1⟩
theorem impl_CosineOf_eq (x : impl_CosineOf_sg.dom) : body (env [(111, impl_isFinite_en), (178, impl_notANumber_en), (180, impl_turnsOf_en), (213, impl_sineOfTurns_en)]) [] Try.f183 impl_CosineOf_sg x = impl_CosineOf x.1 := by kernel_rfl
theorem impl_CosineOf_so : Sound Try.prog 183 impl_CosineOf_en := sound_of_body (envS (l := [(111, impl_isFinite_en), (178, impl_notANumber_en), (180, impl_turnsOf_en), (213, impl_sineOfTurns_en)]) (⟨impl_isFinite_so, impl_notANumber_so, impl_turnsOf_so, impl_sineOfTurns_so, trivial⟩)) Try.func183 (by kernel_rfl) rfl (fun x y h => (impl_CosineOf_eq x).trans h)

-- loop.example/g01204/impl.SineOf
noncomputable def impl_SineOf (a0 : Nat) : Option ((Nat × Unit) × Unit) :=
  (impl_isFinite ([a0] : (List Nat))).bind fun y379 =>
  bif (! y379.1.1) then
    (impl_notANumber).bind fun y381 =>
    some ((y381.1.1, ()), ())
  else
  (impl_turnsOf a0).bind fun y382 =>
  (impl_sineOfTurns y382.1.1).bind fun y383 =>
  some ((y383.1.1, ()), ())
noncomputable def impl_SineOf_sg : Sig := ⟨[.v (.flt .f32)], [.v (.val (.flt .f32))], false⟩
noncomputable def impl_SineOf_en : Entry := ⟨impl_SineOf_sg, fun x => impl_SineOf x.1⟩
theorem impl_SineOf_eq (x : impl_SineOf_sg.dom) : body (env [(111, impl_isFinite_en), (178, impl_notANumber_en), (180, impl_turnsOf_en), (213, impl_sineOfTurns_en)]) [] Try.f184 impl_SineOf_sg x = impl_SineOf x.1 := by kernel_rfl
theorem impl_SineOf_so : Sound Try.prog 184 impl_SineOf_en := sound_of_body (envS (l := [(111, impl_isFinite_en), (178, impl_notANumber_en), (180, impl_turnsOf_en), (213, impl_sineOfTurns_en)]) (⟨impl_isFinite_so, impl_notANumber_so, impl_turnsOf_so, impl_sineOfTurns_so, trivial⟩)) Try.func184 (by kernel_rfl) rfl (fun x y h => (impl_SineOf_eq x).trans h)

theorem math_RoundToEven_so : Sound Try.prog 179 math_RoundToEven_en := round_sound (name := "math.RoundToEven") Try.func179 (by kernel_rfl) (by kernel_rfl) (by kernel_rfl) (by kernel_rfl)

-- loop.example/g01204/impl.WrapAngle
noncomputable def impl_WrapAngle (a0 : Nat) : Option ((Nat × Unit) × Unit) :=
  (impl_isFinite ([a0] : (List Nat))).bind fun y384 =>
  bif (! y384.1.1) then
    (impl_notANumber).bind fun y386 =>
    some ((y386.1.1, ()), ())
  else
  (impl_turnsOf a0).bind fun y387 =>
  (math_RoundToEven y387.1.1).bind fun y388 =>
  (fConv .f32 .f64 a0).bind fun y389 =>
  let x391 := fSub .f64 y389 (fMul .f64 4618760256179416344 y388.1.1)
  bif (fEq .f64 x391 0) then
    (fConv .f64 .f32 0).bind fun y393 =>
    some (((fMin .f32 1078530011 (fMax .f32 3226013659 y393)), ()), ())
  else
  (fConv .f64 .f32 x391).bind fun y396 =>
  some (((fMin .f32 1078530011 (fMax .f32 3226013659 y396)), ()), ())
noncomputable def impl_WrapAngle_sg : Sig := ⟨[.v (.flt .f32)], [.v (.val (.flt .f32))], false⟩
noncomputable def impl_WrapAngle_en : Entry := ⟨impl_WrapAngle_sg, fun x => impl_WrapAngle x.1⟩
theorem impl_WrapAngle_eq (x : impl_WrapAngle_sg.dom) : body (env [(111, impl_isFinite_en), (178, impl_notANumber_en), (179, math_RoundToEven_en), (180, impl_turnsOf_en)]) [] Try.f128 impl_WrapAngle_sg x = impl_WrapAngle x.1 := by kernel_rfl
theorem impl_WrapAngle_so : Sound Try.prog 128 impl_WrapAngle_en := sound_of_body (envS (l := [(111, impl_isFinite_en), (178, impl_notANumber_en), (179, math_RoundToEven_en), (180, impl_turnsOf_en)]) (⟨impl_isFinite_so, impl_notANumber_so, math_RoundToEven_so, impl_turnsOf_so, trivial⟩)) Try.func128 (by kernel_rfl) rfl (fun x y h => (impl_WrapAngle_eq x).trans h)

-- loop.example/g01204/impl.ComposePoses
noncomputable def impl_ComposePoses (a0 : (Vec 3 Nat)) (a1 : (Vec 3 Nat)) : Option (((Vec 3 Nat) × Unit) × Unit) :=
  (impl_CosineOf (Vec.getD 3 a0 2 (0 : Nat))).bind fun y189 =>
  (impl_SineOf (Vec.getD 3 a0 2 (0 : Nat))).bind fun y191 =>
  (impl_WrapAngle (fAdd .f32 (Vec.getD 3 a0 2 (0 : Nat)) (Vec.getD 3 a1 2 (0 : Nat)))).bind fun y209 =>
  some (((((fAdd .f32 (Vec.getD 3 a0 0 (0 : Nat)) (fSub .f32 (fMul .f32 y189.1.1 (Vec.getD 3 a1 0 (0 : Nat))) (fMul .f32 y191.1.1 (Vec.getD 3 a1 1 (0 : Nat))))), (fAdd .f32 (Vec.getD 3 a0 1 (0 : Nat)) (fAdd .f32 (fMul .f32 y191.1.1 (Vec.getD 3 a1 0 (0 : Nat))) (fMul .f32 y189.1.1 (Vec.getD 3 a1 1 (0 : Nat))))), y209.1.1, ()) : (Vec 3 Nat)), ()), ())
noncomputable def impl_ComposePoses_sg : Sig := ⟨[.v (.arr 3 (.flt .f32)), .v (.arr 3 (.flt .f32))], [.v (.val (.arr 3 (.flt .f32)))], false⟩
noncomputable def impl_ComposePoses_en : Entry := ⟨impl_ComposePoses_sg, fun x => impl_ComposePoses x.1 x.2.1⟩
theorem impl_ComposePoses_eq (x : impl_ComposePoses_sg.dom) : body (env [(128, impl_WrapAngle_en), (183, impl_CosineOf_en), (184, impl_SineOf_en)]) [] Try.f130 impl_ComposePoses_sg x = impl_ComposePoses x.1 x.2.1 := by kernel_rfl
theorem impl_ComposePoses_so : Sound Try.prog 130 impl_ComposePoses_en := sound_of_body (envS (l := [(128, impl_WrapAngle_en), (183, impl_CosineOf_en), (184, impl_SineOf_en)]) (⟨impl_WrapAngle_so, impl_CosineOf_so, impl_SineOf_so, trivial⟩)) Try.func130 (by kernel_rfl) rfl (fun x y h => (impl_ComposePoses_eq x).trans h)

-- loop.example/g01204/impl.IsFinitePose
noncomputable def impl_IsFinitePose (a0 : (Vec 3 Nat)) : Option ((Bool × Unit) × Unit) :=
  (impl_isFinite ([Vec.getD 3 a0 0 (0 : Nat), Vec.getD 3 a0 1 (0 : Nat), Vec.getD 3 a0 2 (0 : Nat)] : (List Nat))).bind fun y399 =>
  some ((y399.1.1, ()), ())
noncomputable def impl_IsFinitePose_sg : Sig := ⟨[.v (.arr 3 (.flt .f32))], [.v (.val (.bool))], false⟩
noncomputable def impl_IsFinitePose_en : Entry := ⟨impl_IsFinitePose_sg, fun x => impl_IsFinitePose x.1⟩
theorem impl_IsFinitePose_eq (x : impl_IsFinitePose_sg.dom) : body (env [(111, impl_isFinite_en)]) [] Try.f126 impl_IsFinitePose_sg x = impl_IsFinitePose x.1 := by kernel_rfl
theorem impl_IsFinitePose_so : Sound Try.prog 126 impl_IsFinitePose_en := sound_of_body (envS (l := [(111, impl_isFinite_en)]) (⟨impl_isFinite_so, trivial⟩)) Try.func126 (by kernel_rfl) rfl (fun x y h => (impl_IsFinitePose_eq x).trans h)

-- loop.example/g01204/impl.root
noncomputable def impl_root (a0 : Nat) : Option ((Nat × Unit) × Unit) :=
  (fConv .f32 .f64 a0).bind fun y438 =>
  (math_Sqrt y438).bind fun y439 =>
  (fConv .f64 .f32 y439.1.1).bind fun y440 =>
  some ((y440, ()), ())
noncomputable def impl_root_sg : Sig := ⟨[.v (.flt .f32)], [.v (.val (.flt .f32))], false⟩
noncomputable def impl_root_en : Entry := ⟨impl_root_sg, fun x => impl_root x.1⟩
theorem impl_root_eq (x : impl_root_sg.dom) : body (env [(182, math_Sqrt_en)]) [] Try.f177 impl_root_sg x = impl_root x.1 := by kernel_rfl
theorem impl_root_so : Sound Try.prog 177 impl_root_en := sound_of_body (envS (l := [(182, math_Sqrt_en)]) (⟨math_Sqrt_so, trivial⟩)) Try.func177 (by kernel_rfl) rfl (fun x y h => (impl_root_eq x).trans h)

-- loop.example/g01204/impl.square
noncomputable def impl_square (a0 : (Vec 2 Nat)) (a1 : (Vec 2 Nat)) : Option ((Nat × Unit) × Unit) :=
  let x443 := fSub .f32 (Vec.getD 2 a1 0 (0 : Nat)) (Vec.getD 2 a0 0 (0 : Nat))
  let x446 := fSub .f32 (Vec.getD 2 a1 1 (0 : Nat)) (Vec.getD 2 a0 1 (0 : Nat))
  some (((fAdd .f32 (fMul .f32 x443 x443) (fMul .f32 x446 x446)), ()), ())
noncomputable def impl_square_sg : Sig := ⟨[.v (.arr 2 (.flt .f32)), .v (.arr 2 (.flt .f32))], [.v (.val (.flt .f32))], false⟩
noncomputable def impl_square_en : Entry := ⟨impl_square_sg, fun x => impl_square x.1 x.2.1⟩
theorem impl_square_eq (x : impl_square_sg.dom) : body (env []) [] Try.f176 impl_square_sg x = impl_square x.1 x.2.1 := by kernel_rfl
theorem impl_square_so : Sound Try.prog 176 impl_square_en := sound_of_body (envS (l := []) (trivial)) Try.func176 (by kernel_rfl) rfl (fun x y h => (impl_square_eq x).trans h)

-- loop.example/g01204/impl.aheadOnWay
noncomputable def impl_aheadOnWay_l9 (a0 : (List (Vec 2 Nat))) (s409 : (Nat × Int × Unit)) : Option ((Nat × Int × Unit) ⊕ (((Vec 2 Nat) × Unit) × Unit)) :=
  bif (iLt (iAdd .i64 s409.2.1 1) (lenI a0)) then
    bif inB s409.2.1 (List.length a0) then
      let x412 := List.getD a0 s409.2.1.toNat ((0, 0, ()) : (Vec 2 Nat))
      let x413 := iAdd .i64 s409.2.1 1
      bif inB x413 (List.length a0) then
        let x414 := List.getD a0 x413.toNat ((0, 0, ()) : (Vec 2 Nat))
        (impl_square x412 x414).bind fun y415 =>
        (impl_root y415.1.1).bind fun y416 =>
        bif (fEq .f32 y416.1.1 0) then
          some (Sum.inl (s409.1, (iAdd .i64 s409.2.1 1), ()))
        else
        bif (fLe .f32 s409.1 y416.1.1) then
          let x420 := fDiv .f32 s409.1 y416.1.1
          let x426 := fAdd .f32 (Vec.getD 2 x412 0 (0 : Nat)) (fMul .f32 (fSub .f32 (Vec.getD 2 x414 0 (0 : Nat)) (Vec.getD 2 x412 0 (0 : Nat))) x420)
          Option.map Sum.inr (some (((Vec.set 2 (Vec.set 2 x412 0 x426) 1 (fAdd .f32 (Vec.getD 2 (Vec.set 2 x412 0 x426) 1 (0 : Nat)) (fMul .f32 (fSub .f32 (Vec.getD 2 x414 1 (0 : Nat)) (Vec.getD 2 (Vec.set 2 x412 0 x426) 1 (0 : Nat))) x420))), ()), ()))
        else
        some (Sum.inl ((fSub .f32 s409.1 y416.1.1), (iAdd .i64 s409.2.1 1), ()))
      else none
    else none
  else
  Option.map Sum.inr (
    let x436 := iSub .i64 (lenI a0) 1
    bif inB x436 (List.length a0) then
      some (((List.getD a0 x436.toNat ((0, 0, ()) : (Vec 2 Nat))), ()), ())
    else none)
noncomputable def impl_aheadOnWay_l3 (a0 : (List (Vec 2 Nat))) (a1 : (Vec 2 Nat)) (a2 : Nat) (s400 : (Int × Int × Unit)) : Option ((Int × Int × Unit) ⊕ (((Vec 2 Nat) × Unit) × Unit)) :=
  bif (iLt s400.2.1 (lenI a0)) then
    bif inB s400.2.1 (List.length a0) then
      (impl_square (List.getD a0 s400.2.1.toNat ((0, 0, ()) : (Vec 2 Nat))) a1).bind fun y403 =>
      bif inB s400.1 (List.length a0) then
        (impl_square (List.getD a0 s400.1.toNat ((0, 0, ()) : (Vec 2 Nat))) a1).bind fun y405 =>
        bif (fLt .f32 y403.1.1 y405.1.1) then
          some (Sum.inl (s400.2.1, (iAdd .i64 s400.2.1 1), ()))
        else
        some (Sum.inl (s400.1, (iAdd .i64 s400.2.1 1), ()))
      else none
    else none
  else
  Option.map Sum.inr (run (impl_aheadOnWay_l9 a0) (a2, s400.1, ()))
noncomputable def impl_aheadOnWay (a0 : (List (Vec 2 Nat))) (a1 : (Vec 2 Nat)) (a2 : Nat) : Option (((Vec 2 Nat) × Unit) × Unit) :=
  run (impl_aheadOnWay_l3 a0 a1 a2) ((0 : Int), (0 : Int), ())
noncomputable def impl_aheadOnWay_sg : Sig := ⟨[.v (.list (.arr 2 (.flt .f32))), .v (.arr 2 (.flt .f32)), .v (.flt .f32)], [.v (.val (.arr 2 (.flt .f32)))], false⟩
noncomputable def impl_aheadOnWay_en : Entry := ⟨impl_aheadOnWay_sg, fun x => impl_aheadOnWay x.1 x.2.1 x.2.2.1⟩
theorem impl_aheadOnWay_eq (x : impl_aheadOnWay_sg.dom) : body (env [(176, impl_square_en), (177, impl_root_en)]) [(3, .vary [(7, .sc (.int .i64)), (18, .sc (.int .i64))]), (9, .vary [(2, .sc (.flt .f32)), (10, .sc (.int .i64))]), (18, .unroll 3)] Try.f127 impl_aheadOnWay_sg x = impl_aheadOnWay x.1 x.2.1 x.2.2.1 := by kernel_rfl
theorem impl_aheadOnWay_so : Sound Try.prog 127 impl_aheadOnWay_en := sound_of_body (envS (l := [(176, impl_square_en), (177, impl_root_en)]) (⟨impl_square_so, impl_root_so, trivial⟩)) Try.func127 (by kernel_rfl) rfl (fun x y h => (impl_aheadOnWay_eq x).trans h)

-- loop.example/g01204/impl.isLeast$1
noncomputable def impl_isLeast_1 (a0 : Nat) : Option ((Bool × Unit) × Unit) :=
  some (((fLt .f32 a0 0), ()), ())
noncomputable def impl_isLeast_1_sg : Sig := ⟨[.v (.flt .f32)], [.v (.val (.bool))], false⟩
noncomputable def impl_isLeast_1_en : Entry := ⟨impl_isLeast_1_sg, fun x => impl_isLeast_1 x.1⟩
theorem impl_isLeast_1_eq (x : impl_isLeast_1_sg.dom) : body (env []) [] Try.f175 impl_isLeast_1_sg x = impl_isLeast_1 x.1 := by kernel_rfl
theorem impl_isLeast_1_so : Sound Try.prog 175 impl_isLeast_1_en := sound_of_body (envS (l := []) (trivial)) Try.func175 (by kernel_rfl) rfl (fun x y h => (impl_isLeast_1_eq x).trans h)

-- slices.IndexFunc[[]float32,float32]
noncomputable def slices_IndexFunc_float32_l2 (a0 : (List Nat)) (a1 : ((Nat × Unit) → Option Bool)) (s457 : (Int × Unit)) : Option ((Int × Unit) ⊕ ((Int × Unit) × Unit)) :=
  bif (iLt s457.1 (lenI a0)) then
    bif inB s457.1 (List.length a0) then
      (a1 ((List.getD a0 s457.1.toNat (0 : Nat)), ())).bind fun y460 =>
      bif y460 then
        Option.map Sum.inr (some ((s457.1, ()), ()))
      else
      some (Sum.inl ((iAdd .i64 s457.1 1), ()))
    else none
  else
  Option.map Sum.inr (some ((((-1 : Int) : Int), ()), ()))
noncomputable def slices_IndexFunc_float32 (a0 : (List Nat)) (a1 : ((Nat × Unit) → Option Bool)) : Option ((Int × Unit) × Unit) :=
  run (slices_IndexFunc_float32_l2 a0 a1) ((0 : Int), ())
noncomputable def slices_IndexFunc_float32_sg : Sig := ⟨[.v (.list (.flt .f32)), .fn ⟨[.flt .f32], .bool⟩], [.v (.val (.int .i64))], false⟩
noncomputable def slices_IndexFunc_float32_en : Entry := ⟨slices_IndexFunc_float32_sg, fun x => slices_IndexFunc_float32 x.1 x.2.1⟩
theorem slices_IndexFunc_float32_eq (x : slices_IndexFunc_float32_sg.dom) : body (env []) [(2, .vary [(8, .sc (.int .i64))])] Try.f209 slices_IndexFunc_float32_sg x = slices_IndexFunc_float32 x.1 x.2.1 := by kernel_rfl
theorem slices_IndexFunc_float32_so : Sound Try.prog 209 slices_IndexFunc_float32_en := sound_of_body (envS (l := []) (trivial)) Try.func209 (by kernel_rfl) rfl (fun x y h => (slices_IndexFunc_float32_eq x).trans h)

-- slices.ContainsFunc[[]float32,float32]
noncomputable def slices_ContainsFunc_float32 (a0 : (List Nat)) (a1 : ((Nat × Unit) → Option Bool)) : Option ((Bool × Unit) × Unit) :=
  (slices_IndexFunc_float32 a0 a1).bind fun y455 =>
  some (((iLe 0 y455.1.1), ()), ())
noncomputable def slices_ContainsFunc_float32_sg : Sig := ⟨[.v (.list (.flt .f32)), .fn ⟨[.flt .f32], .bool⟩], [.v (.val (.bool))], false⟩
noncomputable def slices_ContainsFunc_float32_en : Entry := ⟨slices_ContainsFunc_float32_sg, fun x => slices_ContainsFunc_float32 x.1 x.2.1⟩
theorem slices_ContainsFunc_float32_eq (x : slices_ContainsFunc_float32_sg.dom) : body (env [(209, slices_IndexFunc_float32_en)]) [] Try.f174 slices_ContainsFunc_float32_sg x = slices_ContainsFunc_float32 x.1 x.2.1 := by kernel_rfl
theorem slices_ContainsFunc_float32_so : Sound Try.prog 174 slices_ContainsFunc_float32_en := sound_of_body (envS (l := [(209, slices_IndexFunc_float32_en)]) (⟨slices_IndexFunc_float32_so, trivial⟩)) Try.func174 (by kernel_rfl) rfl (fun x y h => (slices_ContainsFunc_float32_eq x).trans h)

-- loop.example/g01204/impl.isLeast
noncomputable def impl_isLeast (a0 : (List Nat)) : Option ((Bool × Unit) × Unit) :=
  (impl_isFinite a0).bind fun y450 =>
  bif y450.1.1 then
    (slices_ContainsFunc_float32 a0 (fun (z451 : (Nat × Unit)) => (impl_isLeast_1 z451.1).map fun y => y.1.1)).bind fun y452 =>
    some (((! y452.1.1), ()), ())
  else some ((false, ()), ())
noncomputable def impl_isLeast_sg : Sig := ⟨[.v (.list (.flt .f32))], [.v (.val (.bool))], false⟩
noncomputable def impl_isLeast_en : Entry := ⟨impl_isLeast_sg, fun x => impl_isLeast x.1⟩
theorem impl_isLeast_eq (x : impl_isLeast_sg.dom) : body (env [(111, impl_isFinite_en), (174, slices_ContainsFunc_float32_en), (175, impl_isLeast_1_en)]) [] Try.f125 impl_isLeast_sg x = impl_isLeast x.1 := by kernel_rfl
theorem impl_isLeast_so : Sound Try.prog 125 impl_isLeast_en := sound_of_body (envS (l := [(111, impl_isFinite_en), (174, slices_ContainsFunc_float32_en), (175, impl_isLeast_1_en)]) (⟨impl_isFinite_so, slices_ContainsFunc_float32_so, impl_isLeast_1_so, trivial⟩)) Try.func125 (by kernel_rfl) rfl (fun x y h => (impl_isLeast_eq x).trans h)

-- loop.example/g01204/impl.isWay$1
noncomputable def impl_isWay_1 (a0 : (Vec 2 Nat)) : Option ((Bool × Unit) × Unit) :=
  (impl_isFinite ([Vec.getD 2 a0 0 (0 : Nat), Vec.getD 2 a0 1 (0 : Nat)] : (List Nat))).bind fun y466 =>
  some (((! y466.1.1), ()), ())
noncomputable def impl_isWay_1_sg : Sig := ⟨[.v (.arr 2 (.flt .f32))], [.v (.val (.bool))], false⟩
noncomputable def impl_isWay_1_en : Entry := ⟨impl_isWay_1_sg, fun x => impl_isWay_1 x.1⟩
theorem impl_isWay_1_eq (x : impl_isWay_1_sg.dom) : body (env [(111, impl_isFinite_en)]) [] Try.f173 impl_isWay_1_sg x = impl_isWay_1 x.1 := by kernel_rfl
theorem impl_isWay_1_so : Sound Try.prog 173 impl_isWay_1_en := sound_of_body (envS (l := [(111, impl_isFinite_en)]) (⟨impl_isFinite_so, trivial⟩)) Try.func173 (by kernel_rfl) rfl (fun x y h => (impl_isWay_1_eq x).trans h)

-- loop.example/g01204/impl.within
noncomputable def impl_within (a0 : Int) (a1 : Int) (a2 : Int) : Option ((Bool × Unit) × Unit) :=
  bif (iLe a1 a0) then
    some (((iLe a0 a2), ()), ())
  else some ((false, ()), ())
noncomputable def impl_within_sg : Sig := ⟨[.v (.int .i64), .v (.int .i64), .v (.int .i64)], [.v (.val (.bool))], false⟩
noncomputable def impl_within_en : Entry := ⟨impl_within_sg, fun x => impl_within x.1 x.2.1 x.2.2.1⟩
theorem impl_within_eq (x : impl_within_sg.dom) : body (env []) [] Try.f99 impl_within_sg x = impl_within x.1 x.2.1 x.2.2.1 := by kernel_rfl
theorem impl_within_so : Sound Try.prog 99 impl_within_en := sound_of_body (envS (l := []) (trivial)) Try.func99 (by kernel_rfl) rfl (fun x y h => (impl_within_eq x).trans h)

-- slices.IndexFunc[[][2]float32,[2]float32]
noncomputable def slices_IndexFunc_A2float32_l2 (a0 : (List (Vec 2 Nat))) (a1 : (((Vec 2 Nat) × Unit) → Option Bool)) (s472 : (Int × Unit)) : Option ((Int × Unit) ⊕ ((Int × Unit) × Unit)) :=
  bif (iLt s472.1 (lenI a0)) then
    bif inB s472.1 (List.length a0) then
      (a1 ((List.getD a0 s472.1.toNat ((0, 0, ()) : (Vec 2 Nat))), ())).bind fun y475 =>
      bif y475 then
        Option.map Sum.inr (some ((s472.1, ()), ()))
      else
      some (Sum.inl ((iAdd .i64 s472.1 1), ()))
    else none
  else
  Option.map Sum.inr (some ((((-1 : Int) : Int), ()), ()))
noncomputable def slices_IndexFunc_A2float32 (a0 : (List (Vec 2 Nat))) (a1 : (((Vec 2 Nat) × Unit) → Option Bool)) : Option ((Int × Unit) × Unit) :=
  run (slices_IndexFunc_A2float32_l2 a0 a1) ((0 : Int), ())
noncomputable def slices_IndexFunc_A2float32_sg : Sig := ⟨[.v (.list (.arr 2 (.flt .f32))), .fn ⟨[.arr 2 (.flt .f32)], .bool⟩], [.v (.val (.int .i64))], false⟩
noncomputable def slices_IndexFunc_A2float32_en : Entry := ⟨slices_IndexFunc_A2float32_sg, fun x => slices_IndexFunc_A2float32 x.1 x.2.1⟩
theorem slices_IndexFunc_A2float32_eq (x : slices_IndexFunc_A2float32_sg.dom) : body (env []) [(2, .vary [(8, .sc (.int .i64))])] Try.f208 slices_IndexFunc_A2float32_sg x = slices_IndexFunc_A2float32 x.1 x.2.1 := by kernel_rfl
theorem slices_IndexFunc_A2float32_so : Sound Try.prog 208 slices_IndexFunc_A2float32_en := sound_of_body (envS (l := []) (trivial)) Try.func208 (by kernel_rfl) rfl (fun x y h => (slices_IndexFunc_A2float32_eq x).trans h)

-- slices.ContainsFunc[[][2]float32,[2]float32]
noncomputable def slices_ContainsFunc_A2float32 (a0 : (List (Vec 2 Nat))) (a1 : (((Vec 2 Nat) × Unit) → Option Bool)) : Option ((Bool × Unit) × Unit) :=
  (slices_IndexFunc_A2float32 a0 a1).bind fun y470 =>
  some (((iLe 0 y470.1.1), ()), ())
noncomputable def slices_ContainsFunc_A2float32_sg : Sig := ⟨[.v (.list (.arr 2 (.flt .f32))), .fn ⟨[.arr 2 (.flt .f32)], .bool⟩], [.v (.val (.bool))], false⟩
noncomputable def slices_ContainsFunc_A2float32_en : Entry := ⟨slices_ContainsFunc_A2float32_sg, fun x => slices_ContainsFunc_A2float32 x.1 x.2.1⟩
theorem slices_ContainsFunc_A2float32_eq (x : slices_ContainsFunc_A2float32_sg.dom) : body (env [(208, slices_IndexFunc_A2float32_en)]) [] Try.f172 slices_ContainsFunc_A2float32_sg x = slices_ContainsFunc_A2float32 x.1 x.2.1 := by kernel_rfl
theorem slices_ContainsFunc_A2float32_so : Sound Try.prog 172 slices_ContainsFunc_A2float32_en := sound_of_body (envS (l := [(208, slices_IndexFunc_A2float32_en)]) (⟨slices_IndexFunc_A2float32_so, trivial⟩)) Try.func172 (by kernel_rfl) rfl (fun x y h => (slices_ContainsFunc_A2float32_eq x).trans h)

-- loop.example/g01204/impl.isWay
noncomputable def impl_isWay (a0 : (List (Vec 2 Nat))) : Option ((Bool × Unit) × Unit) :=
  (impl_within (lenI a0) (1 : Int) (600 : Int)).bind fun y462 =>
  bif y462.1.1 then
    (slices_ContainsFunc_A2float32 a0 (fun (z463 : ((Vec 2 Nat) × Unit)) => (impl_isWay_1 z463.1).map fun y => y.1.1)).bind fun y464 =>
    some (((! y464.1.1), ()), ())
  else some ((false, ()), ())
noncomputable def impl_isWay_sg : Sig := ⟨[.v (.list (.arr 2 (.flt .f32)))], [.v (.val (.bool))], false⟩
noncomputable def impl_isWay_en : Entry := ⟨impl_isWay_sg, fun x => impl_isWay x.1⟩
theorem impl_isWay_eq (x : impl_isWay_sg.dom) : body (env [(99, impl_within_en), (172, slices_ContainsFunc_A2float32_en), (173, impl_isWay_1_en)]) [] Try.f124 impl_isWay_sg x = impl_isWay x.1 := by kernel_rfl
theorem impl_isWay_so : Sound Try.prog 124 impl_isWay_en := sound_of_body (envS (l := [(99, impl_within_en), (172, slices_ContainsFunc_A2float32_en), (173, impl_isWay_1_en)]) (⟨impl_within_so, slices_ContainsFunc_A2float32_so, impl_isWay_1_so, trivial⟩)) Try.func124 (by kernel_rfl) rfl (fun x y h => (impl_isWay_eq x).trans h)

-- loop.example/g01204/impl.FollowWay
noncomputable def impl_FollowWay (a0 : (List (Vec 2 Nat))) (a1 : (Vec 3 Nat)) (a2 : Nat) (a3 : Nat) : Option (((Vec 3 Nat) × Int × Unit) × Unit) :=
  (impl_isWay a0).bind fun y15 =>
  bif (! y15.1.1) then some ((((0, 0, 0, ()) : (Vec 3 Nat)), (2 : Int), ()), ()) else
  (impl_isLeast ([a2] : (List Nat))).bind fun y17 =>
  bif (! y17.1.1) then some ((((0, 0, 0, ()) : (Vec 3 Nat)), (2 : Int), ()), ()) else
  (impl_IsFinitePose a1).bind fun y19 =>
  bif (! y19.1.1) then some ((((0, 0, 0, ()) : (Vec 3 Nat)), (2 : Int), ()), ()) else
  (impl_isFinite ([a3] : (List Nat))).bind fun y21 =>
  bif (! y21.1.1) then some ((((0, 0, 0, ()) : (Vec 3 Nat)), (2 : Int), ()), ()) else
  (impl_aheadOnWay a0 (((Vec.getD 3 a1 0 (0 : Nat)), (Vec.getD 3 a1 1 (0 : Nat)), ()) : (Vec 2 Nat)) a2).bind fun y25 =>
  let x28 := fSub .f32 (Vec.getD 2 y25.1.1 0 (0 : Nat)) (Vec.getD 3 a1 0 (0 : Nat))
  let x31 := fSub .f32 (Vec.getD 2 y25.1.1 1 (0 : Nat)) (Vec.getD 3 a1 1 (0 : Nat))
  bif (! (fEq .f32 x28 0)) then
    (impl_AngleOf x31 x28).bind fun y33 =>
    (impl_WrapAngle (fSub .f32 y33.1.1 (Vec.getD 3 a1 2 (0 : Nat)))).bind fun y36 =>
    (impl_WrapAngle (fAdd .f32 (Vec.getD 3 a1 2 (0 : Nat)) (fMin .f32 1056964608 (fMax .f32 3204448256 y36.1.1)))).bind fun y41 =>
    (impl_ComposePoses (Vec.set 3 a1 2 y41.1.1) ((a3, 0, 0, ()) : (Vec 3 Nat))).bind fun y43 =>
    some ((y43.1.1, (0 : Int), ()), ())
  else
  bif (! (fEq .f32 x31 0)) then
    (impl_AngleOf x31 x28).bind fun y45 =>
    (impl_WrapAngle (fSub .f32 y45.1.1 (Vec.getD 3 a1 2 (0 : Nat)))).bind fun y48 =>
    (impl_WrapAngle (fAdd .f32 (Vec.getD 3 a1 2 (0 : Nat)) (fMin .f32 1056964608 (fMax .f32 3204448256 y48.1.1)))).bind fun y53 =>
    (impl_ComposePoses (Vec.set 3 a1 2 y53.1.1) ((a3, 0, 0, ()) : (Vec 3 Nat))).bind fun y55 =>
    some ((y55.1.1, (0 : Int), ()), ())
  else
  (impl_ComposePoses a1 ((a3, 0, 0, ()) : (Vec 3 Nat))).bind fun y56 =>
  some ((y56.1.1, (0 : Int), ()), ())
noncomputable def impl_FollowWay_sg : Sig := ⟨[.v (.list (.arr 2 (.flt .f32))), .v (.arr 3 (.flt .f32)), .v (.flt .f32), .v (.flt .f32)], [.v (.val (.arr 3 (.flt .f32))), .v (.val (.int .i64))], false⟩
noncomputable def impl_FollowWay_en : Entry := ⟨impl_FollowWay_sg, fun x => impl_FollowWay x.1 x.2.1 x.2.2.1 x.2.2.2.1⟩
theorem impl_FollowWay_eq (x : impl_FollowWay_sg.dom) : body (env [(111, impl_isFinite_en), (124, impl_isWay_en), (125, impl_isLeast_en), (126, impl_IsFinitePose_en), (127, impl_aheadOnWay_en), (128, impl_WrapAngle_en), (129, impl_AngleOf_en), (130, impl_ComposePoses_en)]) [] Try.f58 impl_FollowWay_sg x = impl_FollowWay x.1 x.2.1 x.2.2.1 x.2.2.2.1 := by kernel_rfl
theorem impl_FollowWay_so : Sound Try.prog 58 impl_FollowWay_en := sound_of_body (envS (l := [(111, impl_isFinite_en), (124, impl_isWay_en), (125, impl_isLeast_en), (126, impl_IsFinitePose_en), (127, impl_aheadOnWay_en), (128, impl_WrapAngle_en), (129, impl_AngleOf_en), (130, impl_ComposePoses_en)]) (⟨impl_isFinite_so, impl_isWay_so, impl_isLeast_so, impl_IsFinitePose_so, impl_aheadOnWay_so, impl_WrapAngle_so, impl_AngleOf_so, impl_ComposePoses_so, trivial⟩)) Try.func58 (by kernel_rfl) rfl (fun x y h => (impl_FollowWay_eq x).trans h)

-- loop.example/g01204/laws.sameFloat
noncomputable def laws_sameFloat (a0 : Nat) (a1 : Nat) : Option ((Bool × Unit) × Unit) :=
  bif (! (fEq .f64 a0 a0)) then
    bif (! (fEq .f64 a0 a0)) then
      some (((! (fEq .f64 a1 a1)), ()), ())
    else some ((false, ()), ())
  else
  bif (! (fEq .f64 a1 a1)) then
    bif (! (fEq .f64 a0 a0)) then
      some (((! (fEq .f64 a1 a1)), ()), ())
    else some ((false, ()), ())
  else
  bif (fEq .f64 a0 0) then
    bif (fEq .f64 a1 0) then
      some (((bEq (fLt .f64 0 (fDiv .f64 4607182418800017408 a0)) (fLt .f64 0 (fDiv .f64 4607182418800017408 a1))), ()), ())
    else
    some (((fEq .f64 a0 a1), ()), ())
  else
  some (((fEq .f64 a0 a1), ()), ())
noncomputable def laws_sameFloat_sg : Sig := ⟨[.v (.flt .f64), .v (.flt .f64)], [.v (.val (.bool))], false⟩
noncomputable def laws_sameFloat_en : Entry := ⟨laws_sameFloat_sg, fun x => laws_sameFloat x.1 x.2.1⟩
theorem laws_sameFloat_eq (x : laws_sameFloat_sg.dom) : body (env []) [] Try.f113 laws_sameFloat_sg x = laws_sameFloat x.1 x.2.1 := by kernel_rfl
theorem laws_sameFloat_so : Sound Try.prog 113 laws_sameFloat_en := sound_of_body (envS (l := []) (trivial)) Try.func113 (by kernel_rfl) rfl (fun x y h => (laws_sameFloat_eq x).trans h)

-- loop.example/g01204/laws.eqFloat32A2
noncomputable def laws_eqFloat32A2 (a0 : (Vec 2 Nat)) (a1 : (Vec 2 Nat)) : Option ((Bool × Unit) × Unit) :=
  (fConv .f32 .f64 (Vec.getD 2 a0 0 (0 : Nat))).bind fun y486 =>
  (fConv .f32 .f64 (Vec.getD 2 a1 0 (0 : Nat))).bind fun y488 =>
  (laws_sameFloat y486 y488).bind fun y489 =>
  bif (! y489.1.1) then some ((false, ()), ()) else
  (fConv .f32 .f64 (Vec.getD 2 a0 1 (0 : Nat))).bind fun y492 =>
  (fConv .f32 .f64 (Vec.getD 2 a1 1 (0 : Nat))).bind fun y494 =>
  (laws_sameFloat y492 y494).bind fun y495 =>
  bif (! y495.1.1) then some ((false, ()), ()) else some ((true, ()), ())
noncomputable def laws_eqFloat32A2_sg : Sig := ⟨[.v (.arr 2 (.flt .f32)), .v (.arr 2 (.flt .f32))], [.v (.val (.bool))], false⟩
noncomputable def laws_eqFloat32A2_en : Entry := ⟨laws_eqFloat32A2_sg, fun x => laws_eqFloat32A2 x.1 x.2.1⟩
theorem laws_eqFloat32A2_eq (x : laws_eqFloat32A2_sg.dom) : body (env [(113, laws_sameFloat_en)]) [(2, .unroll 3)] Try.f131 laws_eqFloat32A2_sg x = laws_eqFloat32A2 x.1 x.2.1 := by kernel_rfl
theorem laws_eqFloat32A2_so : Sound Try.prog 131 laws_eqFloat32A2_en := sound_of_body (envS (l := [(113, laws_sameFloat_en)]) (⟨laws_sameFloat_so, trivial⟩)) Try.func131 (by kernel_rfl) rfl (fun x y h => (laws_eqFloat32A2_eq x).trans h)

-- loop.example/g01204/laws.eqFloat32A2S
noncomputable def laws_eqFloat32A2S_l4 (a0 : (List (Vec 2 Nat))) (a1 : (List (Vec 2 Nat))) (s478 : (Int × Unit)) : Option ((Int × Unit) ⊕ ((Bool × Unit) × Unit)) :=
  bif (iLt s478.1 (lenI a0)) then
    bif inB s478.1 (List.length a0) then
      bif inB s478.1 (List.length a1) then
        (laws_eqFloat32A2 (List.getD a0 s478.1.toNat ((0, 0, ()) : (Vec 2 Nat))) (List.getD a1 s478.1.toNat ((0, 0, ()) : (Vec 2 Nat)))).bind fun y482 =>
        bif (! y482.1.1) then
          Option.map Sum.inr (some ((false, ()), ()))
        else
        some (Sum.inl ((iAdd .i64 s478.1 1), ()))
      else none
    else none
  else
  Option.map Sum.inr (some ((true, ()), ()))
noncomputable def laws_eqFloat32A2S (a0 : (List (Vec 2 Nat))) (a1 : (List (Vec 2 Nat))) : Option ((Bool × Unit) × Unit) :=
  bif (! (iEq (lenI a0) (lenI a1))) then some ((false, ()), ()) else run (laws_eqFloat32A2S_l4 a0 a1) ((0 : Int), ())
noncomputable def laws_eqFloat32A2S_sg : Sig := ⟨[.v (.list (.arr 2 (.flt .f32))), .v (.list (.arr 2 (.flt .f32)))], [.v (.val (.bool))], false⟩
noncomputable def laws_eqFloat32A2S_en : Entry := ⟨laws_eqFloat32A2S_sg, fun x => laws_eqFloat32A2S x.1 x.2.1⟩
theorem laws_eqFloat32A2S_eq (x : laws_eqFloat32A2S_sg.dom) : body (env [(131, laws_eqFloat32A2_en)]) [(4, .vary [(5, .sc (.int .i64))])] Try.f60 laws_eqFloat32A2S_sg x = laws_eqFloat32A2S x.1 x.2.1 := by kernel_rfl
theorem laws_eqFloat32A2S_so : Sound Try.prog 60 laws_eqFloat32A2S_en := sound_of_body (envS (l := [(131, laws_eqFloat32A2_en)]) (⟨laws_eqFloat32A2_so, trivial⟩)) Try.func60 (by kernel_rfl) rfl (fun x y h => (laws_eqFloat32A2S_eq x).trans h)

-- loop.example/g01204/laws.eqPose
noncomputable def laws_eqPose (a0 : (Vec 3 Nat)) (a1 : (Vec 3 Nat)) : Option ((Bool × Unit) × Unit) :=
  (fConv .f32 .f64 (Vec.getD 3 a0 0 (0 : Nat))).bind fun y513 =>
  (fConv .f32 .f64 (Vec.getD 3 a1 0 (0 : Nat))).bind fun y515 =>
  (laws_sameFloat y513 y515).bind fun y516 =>
  bif (! y516.1.1) then some ((false, ()), ()) else
  (fConv .f32 .f64 (Vec.getD 3 a0 1 (0 : Nat))).bind fun y519 =>
  (fConv .f32 .f64 (Vec.getD 3 a1 1 (0 : Nat))).bind fun y521 =>
  (laws_sameFloat y519 y521).bind fun y522 =>
  bif (! y522.1.1) then some ((false, ()), ()) else
  (fConv .f32 .f64 (Vec.getD 3 a0 2 (0 : Nat))).bind fun y525 =>
  (fConv .f32 .f64 (Vec.getD 3 a1 2 (0 : Nat))).bind fun y527 =>
  (laws_sameFloat y525 y527).bind fun y528 =>
  bif (! y528.1.1) then some ((false, ()), ()) else some ((true, ()), ())
noncomputable def laws_eqPose_sg : Sig := ⟨[.v (.arr 3 (.flt .f32)), .v (.arr 3 (.flt .f32))], [.v (.val (.bool))], false⟩
noncomputable def laws_eqPose_en : Entry := ⟨laws_eqPose_sg, fun x => laws_eqPose x.1 x.2.1⟩
theorem laws_eqPose_eq (x : laws_eqPose_sg.dom) : body (env [(113, laws_sameFloat_en)]) [(2, .unroll 4)] Try.f59 laws_eqPose_sg x = laws_eqPose x.1 x.2.1 := by kernel_rfl
theorem laws_eqPose_so : Sound Try.prog 59 laws_eqPose_en := sound_of_body (envS (l := [(113, laws_sameFloat_en)]) (⟨laws_sameFloat_so, trivial⟩)) Try.func59 (by kernel_rfl) rfl (fun x y h => (laws_eqPose_eq x).trans h)

-- loop.example/g01204/laws.szFloat32A2S
noncomputable def laws_szFloat32A2S (a0 : (List (Vec 2 Nat))) (a1 : Int) : Option ((Int × Unit) × Unit) :=
  let x530 := iSub .i64 a1 (lenI a0)
  bif (iLt x530 0) then some ((((-1 : Int) : Int), ()), ()) else some ((x530, ()), ())
noncomputable def laws_szFloat32A2S_sg : Sig := ⟨[.v (.list (.arr 2 (.flt .f32))), .v (.int .i64)], [.v (.val (.int .i64))], false⟩
noncomputable def laws_szFloat32A2S_en : Entry := ⟨laws_szFloat32A2S_sg, fun x => laws_szFloat32A2S x.1 x.2.1⟩
theorem laws_szFloat32A2S_eq (x : laws_szFloat32A2S_sg.dom) : body (env []) [] Try.f54 laws_szFloat32A2S_sg x = laws_szFloat32A2S x.1 x.2.1 := by kernel_rfl
theorem laws_szFloat32A2S_so : Sound Try.prog 54 laws_szFloat32A2S_en := sound_of_body (envS (l := []) (trivial)) Try.func54 (by kernel_rfl) rfl (fun x y h => (laws_szFloat32A2S_eq x).trans h)

-- loop.example/g01204/laws.toFloat32A2
noncomputable def laws_toFloat32A2 (a0 : (Vec 2 Nat)) : Option (((Vec 2 Nat) × Unit) × Unit) :=
  some (((((Vec.getD 2 a0 0 (0 : Nat)), (Vec.getD 2 a0 1 (0 : Nat)), ()) : (Vec 2 Nat)), ()), ())
noncomputable def laws_toFloat32A2_sg : Sig := ⟨[.v (.arr 2 (.flt .f32))], [.v (.val (.arr 2 (.flt .f32)))], false⟩
noncomputable def laws_toFloat32A2_en : Entry := ⟨laws_toFloat32A2_sg, fun x => laws_toFloat32A2 x.1⟩
theorem laws_toFloat32A2_eq (x : laws_toFloat32A2_sg.dom) : body (env []) [(3, .unroll 3)] Try.f49 laws_toFloat32A2_sg x = laws_toFloat32A2 x.1 := by kernel_rfl
theorem laws_toFloat32A2_so : Sound Try.prog 49 laws_toFloat32A2_en := sound_of_body (envS (l := []) (trivial)) Try.func49 (by kernel_rfl) rfl (fun x y h => (laws_toFloat32A2_eq x).trans h)

-- loop.example/g01204/laws.toFloat32A2S
noncomputable def laws_toFloat32A2S_l3 (a0 : (List (Vec 2 Nat))) (s538 : (Int × (List (Vec 2 Nat)) × Unit)) : Option ((Int × (List (Vec 2 Nat)) × Unit) ⊕ (((List (Vec 2 Nat)) × Unit) × Unit)) :=
  bif (iLt s538.1 (lenI a0)) then
    bif inB s538.1 (List.length a0) then
      (laws_toFloat32A2 (List.getD a0 s538.1.toNat ((0, 0, ()) : (Vec 2 Nat)))).bind fun y541 =>
      bif inB s538.1 (List.length s538.2.1) then
        some (Sum.inl ((iAdd .i64 s538.1 1), List.set s538.2.1 s538.1.toNat y541.1.1, ()))
      else none
    else none
  else
  Option.map Sum.inr (some ((s538.2.1, ()), ()))
noncomputable def laws_toFloat32A2S (a0 : (List (Vec 2 Nat))) : Option (((List (Vec 2 Nat)) × Unit) × Unit) :=
  bif (iLe 0 (lenI a0) && iLe (lenI a0) (lenI a0) && room (lenI a0).toNat 8) then run (laws_toFloat32A2S_l3 a0) ((0 : Int), List.replicate (lenI a0).toNat ((0, 0, ()) : (Vec 2 Nat)), ()) else none
noncomputable def laws_toFloat32A2S_sg : Sig := ⟨[.v (.list (.arr 2 (.flt .f32)))], [.v (.rows (.arr 2 (.flt .f32)))], false⟩
noncomputable def laws_toFloat32A2S_en : Entry := ⟨laws_toFloat32A2S_sg, fun x => laws_toFloat32A2S x.1⟩
theorem laws_toFloat32A2S_eq (x : laws_toFloat32A2S_sg.dom) : body (env [(49, laws_toFloat32A2_en)]) [(3, .vary [(4, .sc (.int .i64)), (3, .mrows (.arr 2 (.flt .f32)))])] Try.f56 laws_toFloat32A2S_sg x = laws_toFloat32A2S x.1 := by kernel_rfl
theorem laws_toFloat32A2S_so : Sound Try.prog 56 laws_toFloat32A2S_en := sound_of_body (envS (l := [(49, laws_toFloat32A2_en)]) (⟨laws_toFloat32A2_so, trivial⟩)) Try.func56 (by kernel_rfl) rfl (fun x y h => (laws_toFloat32A2S_eq x).trans h)

-- loop.example/g01204/laws.toPose
noncomputable def laws_toPose (a0 : (Vec 3 Nat)) : Option (((Vec 3 Nat) × Unit) × Unit) :=
  some (((((Vec.getD 3 a0 0 (0 : Nat)), (Vec.getD 3 a0 1 (0 : Nat)), (Vec.getD 3 a0 2 (0 : Nat)), ()) : (Vec 3 Nat)), ()), ())
noncomputable def laws_toPose_sg : Sig := ⟨[.v (.arr 3 (.flt .f32))], [.v (.val (.arr 3 (.flt .f32)))], false⟩
noncomputable def laws_toPose_en : Entry := ⟨laws_toPose_sg, fun x => laws_toPose x.1⟩
theorem laws_toPose_eq (x : laws_toPose_sg.dom) : body (env []) [(3, .unroll 4)] Try.f57 laws_toPose_sg x = laws_toPose x.1 := by kernel_rfl
theorem laws_toPose_so : Sound Try.prog 57 laws_toPose_en := sound_of_body (envS (l := []) (trivial)) Try.func57 (by kernel_rfl) rfl (fun x y h => (laws_toPose_eq x).trans h)

-- loop.example/g01204/spec.l01Finite
noncomputable def spec_l01Finite (a0 : Nat) : Option ((Bool × Unit) × Unit) :=
  some (((fEq .f32 (fSub .f32 a0 a0) 0), ()), ())
noncomputable def spec_l01Finite_sg : Sig := ⟨[.v (.flt .f32)], [.v (.val (.bool))], false⟩
noncomputable def spec_l01Finite_en : Entry := ⟨spec_l01Finite_sg, fun x => spec_l01Finite x.1⟩
theorem spec_l01Finite_eq (x : spec_l01Finite_sg.dom) : body (env []) [] Try.f119 spec_l01Finite_sg x = spec_l01Finite x.1 := by kernel_rfl
theorem spec_l01Finite_so : Sound Try.prog 119 spec_l01Finite_en := sound_of_body (envS (l := []) (trivial)) Try.func119 (by kernel_rfl) rfl (fun x y h => (spec_l01Finite_eq x).trans h)

-- loop.example/g01204/spec.l02Angle
noncomputable def spec_l02Angle_l18 (x662 : Nat) (x661 : Nat) (x644 : Bool) (a1 : Nat) (a0 : Nat) (s663 : (Nat × Int × Unit)) : Option ((Nat × Int × Unit) ⊕ ((Nat × Unit) × Unit)) :=
  bif (iLe 0 s663.2.1) then
    some (Sum.inl ((fSub .f64 (fDiv .f64 4607182418800017408 (fOfInt .f64 (iAdd .i64 (iMul .i64 2 s663.2.1) 1))) (fMul .f64 x662 s663.1)), (iSub .i64 s663.2.1 1), ()))
  else
  Option.map Sum.inr (
    let x673 := fMul .f64 (fMul .f64 4620693217682128896 x661) s663.1
    bif x644 then
      let x674 := fSub .f64 4609753056924675352 x673
      bif (fLt .f32 a1 0) then
        let x676 := fSub .f64 4614256656552045848 x674
        bif (fLt .f32 a0 0) then
          (fConv .f64 .f32 (fNeg .f64 x676)).bind fun y679 =>
          some ((y679, ()), ())
        else
        (fConv .f64 .f32 x676).bind fun y680 =>
        some ((y680, ()), ())
      else
      bif (fLt .f32 a0 0) then
        (fConv .f64 .f32 (fNeg .f64 x674)).bind fun y683 =>
        some ((y683, ()), ())
      else
      (fConv .f64 .f32 x674).bind fun y684 =>
      some ((y684, ()), ())
    else
    bif (fLt .f32 a1 0) then
      let x686 := fSub .f64 4614256656552045848 x673
      bif (fLt .f32 a0 0) then
        (fConv .f64 .f32 (fNeg .f64 x686)).bind fun y689 =>
        some ((y689, ()), ())
      else
      (fConv .f64 .f32 x686).bind fun y690 =>
      some ((y690, ()), ())
    else
    bif (fLt .f32 a0 0) then
      (fConv .f64 .f32 (fNeg .f64 x673)).bind fun y693 =>
      some ((y693, ()), ())
    else
    (fConv .f64 .f32 x673).bind fun y694 =>
    some ((y694, ()), ()))
noncomputable def spec_l02Angle_l18_2 (x712 : Nat) (x711 : Nat) (x644 : Bool) (a1 : Nat) (a0 : Nat) (s713 : (Nat × Int × Unit)) : Option ((Nat × Int × Unit) ⊕ ((Nat × Unit) × Unit)) :=
  bif (iLe 0 s713.2.1) then
    some (Sum.inl ((fSub .f64 (fDiv .f64 4607182418800017408 (fOfInt .f64 (iAdd .i64 (iMul .i64 2 s713.2.1) 1))) (fMul .f64 x712 s713.1)), (iSub .i64 s713.2.1 1), ()))
  else
  Option.map Sum.inr (
    let x723 := fMul .f64 (fMul .f64 4620693217682128896 x711) s713.1
    bif x644 then
      let x724 := fSub .f64 4609753056924675352 x723
      bif (fLt .f32 a1 0) then
        let x726 := fSub .f64 4614256656552045848 x724
        bif (fLt .f32 a0 0) then
          (fConv .f64 .f32 (fNeg .f64 x726)).bind fun y729 =>
          some ((y729, ()), ())
        else
        (fConv .f64 .f32 x726).bind fun y730 =>
        some ((y730, ()), ())
      else
      bif (fLt .f32 a0 0) then
        (fConv .f64 .f32 (fNeg .f64 x724)).bind fun y733 =>
        some ((y733, ()), ())
      else
      (fConv .f64 .f32 x724).bind fun y734 =>
      some ((y734, ()), ())
    else
    bif (fLt .f32 a1 0) then
      let x736 := fSub .f64 4614256656552045848 x723
      bif (fLt .f32 a0 0) then
        (fConv .f64 .f32 (fNeg .f64 x736)).bind fun y739 =>
        some ((y739, ()), ())
      else
      (fConv .f64 .f32 x736).bind fun y740 =>
      some ((y740, ()), ())
    else
    bif (fLt .f32 a0 0) then
      (fConv .f64 .f32 (fNeg .f64 x723)).bind fun y743 =>
      some ((y743, ()), ())
    else
    (fConv .f64 .f32 x723).bind fun y744 =>
    some ((y744, ()), ()))
noncomputable def spec_l02Angle (a0 : Nat) (a1 : Nat) : Option ((Nat × Unit) × Unit) :=
  (spec_l01Finite a0).bind fun y632 =>
  bif (! y632.1.1) then
    (math_NaN).bind fun y634 =>
    (fConv .f64 .f32 y634.1.1).bind fun y635 =>
    some ((y635, ()), ())
  else
  (spec_l01Finite a1).bind fun y636 =>
  bif (! y636.1.1) then
    (math_NaN).bind fun y638 =>
    (fConv .f64 .f32 y638.1.1).bind fun y639 =>
    some ((y639, ()), ())
  else
  (fConv .f32 .f64 a0).bind fun y640 =>
  (math_Abs y640).bind fun y641 =>
  (fConv .f32 .f64 a1).bind fun y642 =>
  (math_Abs y642).bind fun y643 =>
  let x644 := fLt .f64 y643.1.1 y641.1.1
  bif x644 then
    bif (fEq .f64 y641.1.1 0) then some (((0 : Nat), ()), ()) else
    let x646 := fDiv .f64 y643.1.1 y641.1.1
    (math_Sqrt (fAdd .f64 4607182418800017408 (fMul .f64 x646 x646))).bind fun y649 =>
    let x651 := fDiv .f64 x646 (fAdd .f64 4607182418800017408 y649.1.1)
    (math_Sqrt (fAdd .f64 4607182418800017408 (fMul .f64 x651 x651))).bind fun y654 =>
    let x656 := fDiv .f64 x651 (fAdd .f64 4607182418800017408 y654.1.1)
    (math_Sqrt (fAdd .f64 4607182418800017408 (fMul .f64 x656 x656))).bind fun y659 =>
    let x661 := fDiv .f64 x656 (fAdd .f64 4607182418800017408 y659.1.1)
    let x662 := fMul .f64 x661 x661
    run (spec_l02Angle_l18 x662 x661 x644 a1 a0) ((0 : Nat), (12 : Int), ())
  else
  bif (fEq .f64 y643.1.1 0) then some (((0 : Nat), ()), ()) else
  let x696 := fDiv .f64 y641.1.1 y643.1.1
  (math_Sqrt (fAdd .f64 4607182418800017408 (fMul .f64 x696 x696))).bind fun y699 =>
  let x701 := fDiv .f64 x696 (fAdd .f64 4607182418800017408 y699.1.1)
  (math_Sqrt (fAdd .f64 4607182418800017408 (fMul .f64 x701 x701))).bind fun y704 =>
  let x706 := fDiv .f64 x701 (fAdd .f64 4607182418800017408 y704.1.1)
  (math_Sqrt (fAdd .f64 4607182418800017408 (fMul .f64 x706 x706))).bind fun y709 =>
  let x711 := fDiv .f64 x706 (fAdd .f64 4607182418800017408 y709.1.1)
  let x712 := fMul .f64 x711 x711
  run (spec_l02Angle_l18_2 x712 x711 x644 a1 a0) ((0 : Nat), (12 : Int), ())
noncomputable def spec_l02Angle_sg : Sig := ⟨[.v (.flt .f32), .v (.flt .f32)], [.v (.val (.flt .f32))], false⟩
noncomputable def spec_l02Angle_en : Entry := ⟨spec_l02Angle_sg, fun x => spec_l02Angle x.1 x.2.1⟩
theorem spec_l02Angle_eq (x : spec_l02Angle_sg.dom) : body (env [(119, spec_l01Finite_en), (181, math_Abs_en), (182, math_Sqrt_en), (205, math_NaN_en)]) [(12, .unroll 4), (18, .vary [(11, .sc (.flt .f64)), (12, .sc (.int .i64))])] Try.f169 spec_l02Angle_sg x = spec_l02Angle x.1 x.2.1 := by kernel_rfl
theorem spec_l02Angle_so : Sound Try.prog 169 spec_l02Angle_en := sound_of_body (envS (l := [(119, spec_l01Finite_en), (181, math_Abs_en), (182, math_Sqrt_en), (205, math_NaN_en)]) (⟨spec_l01Finite_so, math_Abs_so, math_Sqrt_so, math_NaN_so, trivial⟩)) Try.func169 (by kernel_rfl) rfl (fun x y h => (spec_l02Angle_eq x).trans h)

-- loop.example/g01204/spec.AngleOf
noncomputable def spec_AngleOf (a0 : Nat) (a1 : Nat) : Option ((Nat × Unit) × Unit) :=
  (spec_l02Angle a0 a1).bind fun y631 =>
  some ((y631.1.1, ()), ())
noncomputable def spec_AngleOf_sg : Sig := ⟨[.v (.flt .f32), .v (.flt .f32)], [.v (.val (.flt .f32))], false⟩
noncomputable def spec_AngleOf_en : Entry := ⟨spec_AngleOf_sg, fun x => spec_AngleOf x.1 x.2.1⟩
theorem spec_AngleOf_eq (x : spec_AngleOf_sg.dom) : body (env [(169, spec_l02Angle_en)]) [] Try.f122 spec_AngleOf_sg x = spec_AngleOf x.1 x.2.1 := by kernel_rfl
theorem spec_AngleOf_so : Sound Try.prog 122 spec_AngleOf_en := sound_of_body (envS (l := [(169, spec_l02Angle_en)]) (⟨spec_l02Angle_so, trivial⟩)) Try.func122 (by kernel_rfl) rfl (fun x y h => (spec_AngleOf_eq x).trans h)

-- loop.example/g01204/spec.l02Wrap
noncomputable def spec_l02Wrap (a0 : Nat) : Option ((Nat × Unit) × Unit) :=
  (spec_l01Finite a0).bind fun y748 =>
  bif (! y748.1.1) then
    (math_NaN).bind fun y750 =>
    (fConv .f64 .f32 y750.1.1).bind fun y751 =>
    some ((y751, ()), ())
  else
  (fConv .f32 .f64 a0).bind fun y752 =>
  (math_RoundToEven (fDiv .f64 y752 4618760256179416344)).bind fun y754 =>
  (fConv .f32 .f64 a0).bind fun y755 =>
  (fConv .f64 .f32 (fSub .f64 y755 (fMul .f64 4618760256179416344 y754.1.1))).bind fun y758 =>
  bif (fLt .f32 1078530011 y758) then some (((1078530011 : Nat), ()), ()) else
  bif (fLt .f32 y758 3226013659) then some (((3226013659 : Nat), ()), ()) else some ((y758, ()), ())
noncomputable def spec_l02Wrap_sg : Sig := ⟨[.v (.flt .f32)], [.v (.val (.flt .f32))], false⟩
noncomputable def spec_l02Wrap_en : Entry := ⟨spec_l02Wrap_sg, fun x => spec_l02Wrap x.1⟩
theorem spec_l02Wrap_eq (x : spec_l02Wrap_sg.dom) : body (env [(119, spec_l01Finite_en), (179, math_RoundToEven_en), (205, math_NaN_en)]) [] Try.f168 spec_l02Wrap_sg x = spec_l02Wrap x.1 := by kernel_rfl
theorem spec_l02Wrap_so : Sound Try.prog 168 spec_l02Wrap_en := sound_of_body (envS (l := [(119, spec_l01Finite_en), (179, math_RoundToEven_en), (205, math_NaN_en)]) (⟨spec_l01Finite_so, math_RoundToEven_so, math_NaN_so, trivial⟩)) Try.func168 (by kernel_rfl) rfl (fun x y h => (spec_l02Wrap_eq x).trans h)

-- loop.example/g01204/spec.WrapAngle
noncomputable def spec_WrapAngle (a0 : Nat) : Option ((Nat × Unit) × Unit) :=
  (spec_l02Wrap a0).bind fun y747 =>
  some ((y747.1.1, ()), ())
noncomputable def spec_WrapAngle_sg : Sig := ⟨[.v (.flt .f32)], [.v (.val (.flt .f32))], false⟩
noncomputable def spec_WrapAngle_en : Entry := ⟨spec_WrapAngle_sg, fun x => spec_WrapAngle x.1⟩
theorem spec_WrapAngle_eq (x : spec_WrapAngle_sg.dom) : body (env [(168, spec_l02Wrap_en)]) [] Try.f121 spec_WrapAngle_sg x = spec_WrapAngle x.1 := by kernel_rfl
theorem spec_WrapAngle_so : Sound Try.prog 121 spec_WrapAngle_en := sound_of_body (envS (l := [(168, spec_l02Wrap_en)]) (⟨spec_l02Wrap_so, trivial⟩)) Try.func121 (by kernel_rfl) rfl (fun x y h => (spec_WrapAngle_eq x).trans h)

-- loop.example/g01204/spec.l02Sine
noncomputable def spec_l02Sine (a0 : Nat) : Option ((Nat × Unit) × Unit) :=
  (math_Floor a0).bind fun y792 =>
  let x793 := fSub .f64 a0 y792.1.1
  let x794 := fLe .f64 4602678819172646912 x793
  bif x794 then
    let x795 := fSub .f64 x793 4602678819172646912
    bif (fLt .f64 4598175219545276416 x795) then
      let x798 := fMul .f64 4618760256179416344 (fSub .f64 4602678819172646912 x795)
      let x799 := fMul .f64 x798 x798
      let x832 := fMul .f64 (fSub .f64 4607182418800017408 (fMul .f64 (fDiv .f64 x799 (fOfInt .f64 6)) (fSub .f64 4607182418800017408 (fMul .f64 (fDiv .f64 x799 (fOfInt .f64 20)) (fSub .f64 4607182418800017408 (fMul .f64 (fDiv .f64 x799 (fOfInt .f64 42)) (fSub .f64 4607182418800017408 (fMul .f64 (fDiv .f64 x799 (fOfInt .f64 72)) (fSub .f64 4607182418800017408 (fMul .f64 (fDiv .f64 x799 (fOfInt .f64 110)) (fSub .f64 4607182418800017408 (fMul .f64 (fDiv .f64 x799 (fOfInt .f64 156)) (fSub .f64 4607182418800017408 (fMul .f64 (fDiv .f64 x799 (fOfInt .f64 210)) (fSub .f64 4607182418800017408 (fMul .f64 (fDiv .f64 x799 (fOfInt .f64 272)) 4607182418800017408)))))))))))))))) x798
      bif x794 then
        (fConv .f64 .f32 (fNeg .f64 x832)).bind fun y834 =>
        some ((y834, ()), ())
      else
      (fConv .f64 .f32 x832).bind fun y835 =>
      some ((y835, ()), ())
    else
    let x836 := fMul .f64 4618760256179416344 x795
    let x837 := fMul .f64 x836 x836
    let x870 := fMul .f64 (fSub .f64 4607182418800017408 (fMul .f64 (fDiv .f64 x837 (fOfInt .f64 6)) (fSub .f64 4607182418800017408 (fMul .f64 (fDiv .f64 x837 (fOfInt .f64 20)) (fSub .f64 4607182418800017408 (fMul .f64 (fDiv .f64 x837 (fOfInt .f64 42)) (fSub .f64 4607182418800017408 (fMul .f64 (fDiv .f64 x837 (fOfInt .f64 72)) (fSub .f64 4607182418800017408 (fMul .f64 (fDiv .f64 x837 (fOfInt .f64 110)) (fSub .f64 4607182418800017408 (fMul .f64 (fDiv .f64 x837 (fOfInt .f64 156)) (fSub .f64 4607182418800017408 (fMul .f64 (fDiv .f64 x837 (fOfInt .f64 210)) (fSub .f64 4607182418800017408 (fMul .f64 (fDiv .f64 x837 (fOfInt .f64 272)) 4607182418800017408)))))))))))))))) x836
    bif x794 then
      (fConv .f64 .f32 (fNeg .f64 x870)).bind fun y872 =>
      some ((y872, ()), ())
    else
    (fConv .f64 .f32 x870).bind fun y873 =>
    some ((y873, ()), ())
  else
  bif (fLt .f64 4598175219545276416 x793) then
    let x876 := fMul .f64 4618760256179416344 (fSub .f64 4602678819172646912 x793)
    let x877 := fMul .f64 x876 x876
    let x910 := fMul .f64 (fSub .f64 4607182418800017408 (fMul .f64 (fDiv .f64 x877 (fOfInt .f64 6)) (fSub .f64 4607182418800017408 (fMul .f64 (fDiv .f64 x877 (fOfInt .f64 20)) (fSub .f64 4607182418800017408 (fMul .f64 (fDiv .f64 x877 (fOfInt .f64 42)) (fSub .f64 4607182418800017408 (fMul .f64 (fDiv .f64 x877 (fOfInt .f64 72)) (fSub .f64 4607182418800017408 (fMul .f64 (fDiv .f64 x877 (fOfInt .f64 110)) (fSub .f64 4607182418800017408 (fMul .f64 (fDiv .f64 x877 (fOfInt .f64 156)) (fSub .f64 4607182418800017408 (fMul .f64 (fDiv .f64 x877 (fOfInt .f64 210)) (fSub .f64 4607182418800017408 (fMul .f64 (fDiv .f64 x877 (fOfInt .f64 272)) 4607182418800017408)))))))))))))))) x876
    bif x794 then
      (fConv .f64 .f32 (fNeg .f64 x910)).bind fun y912 =>
      some ((y912, ()), ())
    else
    (fConv .f64 .f32 x910).bind fun y913 =>
    some ((y913, ()), ())
  else
  let x914 := fMul .f64 4618760256179416344 x793
  let x915 := fMul .f64 x914 x914
  let x948 := fMul .f64 (fSub .f64 4607182418800017408 (fMul .f64 (fDiv .f64 x915 (fOfInt .f64 6)) (fSub .f64 4607182418800017408 (fMul .f64 (fDiv .f64 x915 (fOfInt .f64 20)) (fSub .f64 4607182418800017408 (fMul .f64 (fDiv .f64 x915 (fOfInt .f64 42)) (fSub .f64 4607182418800017408 (fMul .f64 (fDiv .f64 x915 (fOfInt .f64 72)) (fSub .f64 4607182418800017408 (fMul .f64 (fDiv .f64 x915 (fOfInt .f64 110)) (fSub .f64 4607182418800017408 (fMul .f64 (fDiv .f64 x915 (fOfInt .f64 156)) (fSub .f64 4607182418800017408 (fMul .f64 (fDiv .f64 x915 (fOfInt .f64 210)) (fSub .f64 4607182418800017408 (fMul .f64 (fDiv .f64 x915 (fOfInt .f64 272)) 4607182418800017408)))))))))))))))) x914
  bif x794 then
    (fConv .f64 .f32 (fNeg .f64 x948)).bind fun y950 =>
    some ((y950, ()), ())
  else
  (fConv .f64 .f32 x948).bind fun y951 =>
  some ((y951, ()), ())
noncomputable def spec_l02Sine_sg : Sig := ⟨[.v (.flt .f64)], [.v (.val (.flt .f32))], false⟩
noncomputable def spec_l02Sine_en : Entry := ⟨spec_l02Sine_sg, fun x => spec_l02Sine x.1⟩
theorem spec_l02Sine_eq (x : spec_l02Sine_sg.dom) : body (env [(107, math_Floor_en)]) [(11, .unroll 9)] Try.f223 spec_l02Sine_sg x = spec_l02Sine x.1 := by kernel_rfl
theorem spec_l02Sine_so : Sound Try.prog 223 spec_l02Sine_en := sound_of_body (envS (l := [(107, math_Floor_en)]) (⟨math_Floor_so, trivial⟩)) Try.func223 (by kernel_rfl) rfl (fun x y h => (spec_l02Sine_eq x).trans h)

-- loop.example/g01204/spec.l02Cos
noncomputable def spec_l02Cos (a0 : Nat) : Option ((Nat × Unit) × Unit) :=
  (spec_l01Finite a0).bind fun y784 =>
  bif (! y784.1.1) then
    (math_NaN).bind fun y786 =>
    (fConv .f64 .f32 y786.1.1).bind fun y787 =>
    some ((y787, ()), ())
  else
  (fConv .f32 .f64 a0).bind fun y788 =>
  (spec_l02Sine (fAdd .f64 (fDiv .f64 y788 4618760256179416344) 4598175219545276416)).bind fun y791 =>
  some ((y791.1.1, ()), ())
noncomputable def spec_l02Cos_sg : Sig := ⟨[.v (.flt .f32)], [.v (.val (.flt .f32))], false⟩
noncomputable def spec_l02Cos_en : Entry := ⟨spec_l02Cos_sg, fun x => spec_l02Cos x.1⟩
theorem spec_l02Cos_eq (x : spec_l02Cos_sg.dom) : body (env [(119, spec_l01Finite_en), (205, math_NaN_en), (223, spec_l02Sine_en)]) [] Try.f206 spec_l02Cos_sg x = spec_l02Cos x.1 := by kernel_rfl
theorem spec_l02Cos_so : Sound Try.prog 206 spec_l02Cos_en := sound_of_body (envS (l := [(119, spec_l01Finite_en), (205, math_NaN_en), (223, spec_l02Sine_en)]) (⟨spec_l01Finite_so, math_NaN_so, spec_l02Sine_so, trivial⟩)) Try.func206 (by kernel_rfl) rfl (fun x y h => (spec_l02Cos_eq x).trans h)

-- loop.example/g01204/spec.CosineOf
noncomputable def spec_CosineOf (a0 : Nat) : Option ((Nat × Unit) × Unit) :=
  (spec_l02Cos a0).bind fun y783 =>
  some ((y783.1.1, ()), ())
noncomputable def spec_CosineOf_sg : Sig := ⟨[.v (.flt .f32)], [.v (.val (.flt .f32))], false⟩
noncomputable def spec_CosineOf_en : Entry := ⟨spec_CosineOf_sg, fun x => spec_CosineOf x.1⟩
theorem spec_CosineOf_eq (x : spec_CosineOf_sg.dom) : body (env [(206, spec_l02Cos_en)]) [] Try.f170 spec_CosineOf_sg x = spec_CosineOf x.1 := by kernel_rfl
theorem spec_CosineOf_so : Sound Try.prog 170 spec_CosineOf_en := sound_of_body (envS (l := [(206, spec_l02Cos_en)]) (⟨spec_l02Cos_so, trivial⟩)) Try.func170 (by kernel_rfl) rfl (fun x y h => (spec_CosineOf_eq x).trans h)

-- loop.example/g01204/spec.l02Sin
noncomputable def spec_l02Sin (a0 : Nat) : Option ((Nat × Unit) × Unit) :=
  (spec_l01Finite a0).bind fun y953 =>
  bif (! y953.1.1) then
    (math_NaN).bind fun y955 =>
    (fConv .f64 .f32 y955.1.1).bind fun y956 =>
    some ((y956, ()), ())
  else
  (fConv .f32 .f64 a0).bind fun y957 =>
  (spec_l02Sine (fDiv .f64 y957 4618760256179416344)).bind fun y959 =>
  some ((y959.1.1, ()), ())
noncomputable def spec_l02Sin_sg : Sig := ⟨[.v (.flt .f32)], [.v (.val (.flt .f32))], false⟩
noncomputable def spec_l02Sin_en : Entry := ⟨spec_l02Sin_sg, fun x => spec_l02Sin x.1⟩
theorem spec_l02Sin_eq (x : spec_l02Sin_sg.dom) : body (env [(119, spec_l01Finite_en), (205, math_NaN_en), (223, spec_l02Sine_en)]) [] Try.f207 spec_l02Sin_sg x = spec_l02Sin x.1 := by kernel_rfl
theorem spec_l02Sin_so : Sound Try.prog 207 spec_l02Sin_en := sound_of_body (envS (l := [(119, spec_l01Finite_en), (205, math_NaN_en), (223, spec_l02Sine_en)]) (⟨spec_l01Finite_so, math_NaN_so, spec_l02Sine_so, trivial⟩)) Try.func207 (by kernel_rfl) rfl (fun x y h => (spec_l02Sin_eq x).trans h)

-- loop.example/g01204/spec.SineOf
noncomputable def spec_SineOf (a0 : Nat) : Option ((Nat × Unit) × Unit) :=
  (spec_l02Sin a0).bind fun y952 =>
  some ((y952.1.1, ()), ())
noncomputable def spec_SineOf_sg : Sig := ⟨[.v (.flt .f32)], [.v (.val (.flt .f32))], false⟩
noncomputable def spec_SineOf_en : Entry := ⟨spec_SineOf_sg, fun x => spec_SineOf x.1⟩
theorem spec_SineOf_eq (x : spec_SineOf_sg.dom) : body (env [(207, spec_l02Sin_en)]) [] Try.f171 spec_SineOf_sg x = spec_SineOf x.1 := by kernel_rfl
theorem spec_SineOf_so : Sound Try.prog 171 spec_SineOf_en := sound_of_body (envS (l := [(207, spec_l02Sin_en)]) (⟨spec_l02Sin_so, trivial⟩)) Try.func171 (by kernel_rfl) rfl (fun x y h => (spec_SineOf_eq x).trans h)

-- loop.example/g01204/spec.l06Compose
noncomputable def spec_l06Compose (a0 : (Vec 3 Nat)) (a1 : (Vec 3 Nat)) : Option (((Vec 3 Nat) × Unit) × Unit) :=
  (spec_CosineOf (Vec.getD 3 a0 2 (0 : Nat))).bind fun y762 =>
  (spec_SineOf (Vec.getD 3 a0 2 (0 : Nat))).bind fun y764 =>
  (spec_WrapAngle (fAdd .f32 (Vec.getD 3 a0 2 (0 : Nat)) (Vec.getD 3 a1 2 (0 : Nat)))).bind fun y782 =>
  some (((((fAdd .f32 (Vec.getD 3 a0 0 (0 : Nat)) (fSub .f32 (fMul .f32 y762.1.1 (Vec.getD 3 a1 0 (0 : Nat))) (fMul .f32 y764.1.1 (Vec.getD 3 a1 1 (0 : Nat))))), (fAdd .f32 (Vec.getD 3 a0 1 (0 : Nat)) (fAdd .f32 (fMul .f32 y764.1.1 (Vec.getD 3 a1 0 (0 : Nat))) (fMul .f32 y762.1.1 (Vec.getD 3 a1 1 (0 : Nat))))), y782.1.1, ()) : (Vec 3 Nat)), ()), ())
noncomputable def spec_l06Compose_sg : Sig := ⟨[.v (.arr 3 (.flt .f32)), .v (.arr 3 (.flt .f32))], [.v (.val (.arr 3 (.flt .f32)))], false⟩
noncomputable def spec_l06Compose_en : Entry := ⟨spec_l06Compose_sg, fun x => spec_l06Compose x.1 x.2.1⟩
theorem spec_l06Compose_eq (x : spec_l06Compose_sg.dom) : body (env [(121, spec_WrapAngle_en), (170, spec_CosineOf_en), (171, spec_SineOf_en)]) [] Try.f123 spec_l06Compose_sg x = spec_l06Compose x.1 x.2.1 := by kernel_rfl
theorem spec_l06Compose_so : Sound Try.prog 123 spec_l06Compose_en := sound_of_body (envS (l := [(121, spec_WrapAngle_en), (170, spec_CosineOf_en), (171, spec_SineOf_en)]) (⟨spec_WrapAngle_so, spec_CosineOf_so, spec_SineOf_so, trivial⟩)) Try.func123 (by kernel_rfl) rfl (fun x y h => (spec_l06Compose_eq x).trans h)

-- loop.example/g01204/spec.l01Vec
noncomputable def spec_l01Vec (a0 : (Vec 3 Nat)) : Option ((Bool × Unit) × Unit) :=
  (spec_l01Finite (Vec.getD 3 a0 0 (0 : Nat))).bind fun y962 =>
  bif y962.1.1 then
    (spec_l01Finite (Vec.getD 3 a0 1 (0 : Nat))).bind fun y964 =>
    bif y964.1.1 then
      (spec_l01Finite (Vec.getD 3 a0 2 (0 : Nat))).bind fun y966 =>
      some ((y966.1.1, ()), ())
    else some ((false, ()), ())
  else some ((false, ()), ())
noncomputable def spec_l01Vec_sg : Sig := ⟨[.v (.arr 3 (.flt .f32))], [.v (.val (.bool))], false⟩
noncomputable def spec_l01Vec_en : Entry := ⟨spec_l01Vec_sg, fun x => spec_l01Vec x.1⟩
theorem spec_l01Vec_eq (x : spec_l01Vec_sg.dom) : body (env [(119, spec_l01Finite_en)]) [] Try.f165 spec_l01Vec_sg x = spec_l01Vec x.1 := by kernel_rfl
theorem spec_l01Vec_so : Sound Try.prog 165 spec_l01Vec_en := sound_of_body (envS (l := [(119, spec_l01Finite_en)]) (⟨spec_l01Finite_so, trivial⟩)) Try.func165 (by kernel_rfl) rfl (fun x y h => (spec_l01Vec_eq x).trans h)

-- loop.example/g01204/spec.l06Finite
noncomputable def spec_l06Finite (a0 : (Vec 3 Nat)) : Option ((Bool × Unit) × Unit) :=
  (spec_l01Vec a0).bind fun y960 =>
  some ((y960.1.1, ()), ())
noncomputable def spec_l06Finite_sg : Sig := ⟨[.v (.arr 3 (.flt .f32))], [.v (.val (.bool))], false⟩
noncomputable def spec_l06Finite_en : Entry := ⟨spec_l06Finite_sg, fun x => spec_l06Finite x.1⟩
theorem spec_l06Finite_eq (x : spec_l06Finite_sg.dom) : body (env [(165, spec_l01Vec_en)]) [] Try.f118 spec_l06Finite_sg x = spec_l06Finite x.1 := by kernel_rfl
theorem spec_l06Finite_so : Sound Try.prog 118 spec_l06Finite_en := sound_of_body (envS (l := [(165, spec_l01Vec_en)]) (⟨spec_l01Vec_so, trivial⟩)) Try.func118 (by kernel_rfl) rfl (fun x y h => (spec_l06Finite_eq x).trans h)

-- loop.example/g01204/spec.l01Root
noncomputable def spec_l01Root (a0 : Nat) : Option ((Nat × Unit) × Unit) :=
  (fConv .f32 .f64 a0).bind fun y1006 =>
  (math_Sqrt y1006).bind fun y1007 =>
  (fConv .f64 .f32 y1007.1.1).bind fun y1008 =>
  some ((y1008, ()), ())
noncomputable def spec_l01Root_sg : Sig := ⟨[.v (.flt .f32)], [.v (.val (.flt .f32))], false⟩
noncomputable def spec_l01Root_en : Entry := ⟨spec_l01Root_sg, fun x => spec_l01Root x.1⟩
theorem spec_l01Root_eq (x : spec_l01Root_sg.dom) : body (env [(182, math_Sqrt_en)]) [] Try.f167 spec_l01Root_sg x = spec_l01Root x.1 := by kernel_rfl
theorem spec_l01Root_so : Sound Try.prog 167 spec_l01Root_en := sound_of_body (envS (l := [(182, math_Sqrt_en)]) (⟨math_Sqrt_so, trivial⟩)) Try.func167 (by kernel_rfl) rfl (fun x y h => (spec_l01Root_eq x).trans h)

-- loop.example/g01204/spec.l07Square
noncomputable def spec_l07Square (a0 : (Vec 2 Nat)) (a1 : (Vec 2 Nat)) : Option ((Nat × Unit) × Unit) :=
  let x1011 := fSub .f32 (Vec.getD 2 a1 0 (0 : Nat)) (Vec.getD 2 a0 0 (0 : Nat))
  let x1014 := fSub .f32 (Vec.getD 2 a1 1 (0 : Nat)) (Vec.getD 2 a0 1 (0 : Nat))
  some (((fAdd .f32 (fMul .f32 x1011 x1011) (fMul .f32 x1014 x1014)), ()), ())
noncomputable def spec_l07Square_sg : Sig := ⟨[.v (.arr 2 (.flt .f32)), .v (.arr 2 (.flt .f32))], [.v (.val (.flt .f32))], false⟩
noncomputable def spec_l07Square_en : Entry := ⟨spec_l07Square_sg, fun x => spec_l07Square x.1 x.2.1⟩
theorem spec_l07Square_eq (x : spec_l07Square_sg.dom) : body (env []) [] Try.f166 spec_l07Square_sg x = spec_l07Square x.1 x.2.1 := by kernel_rfl
theorem spec_l07Square_so : Sound Try.prog 166 spec_l07Square_en := sound_of_body (envS (l := []) (trivial)) Try.func166 (by kernel_rfl) rfl (fun x y h => (spec_l07Square_eq x).trans h)

-- loop.example/g01204/spec.l07Ahead
noncomputable def spec_l07Ahead_l8 (a0 : (List (Vec 2 Nat))) (s976 : (Nat × Int × Unit)) : Option ((Nat × Int × Unit) ⊕ (((Vec 2 Nat) × Unit) × Unit)) :=
  bif (iLt (iAdd .i64 s976.2.1 1) (lenI a0)) then
    bif inB s976.2.1 (List.length a0) then
      let x980 := iAdd .i64 s976.2.1 1
      bif inB x980 (List.length a0) then
        (spec_l07Square (List.getD a0 s976.2.1.toNat ((0, 0, ()) : (Vec 2 Nat))) (List.getD a0 x980.toNat ((0, 0, ()) : (Vec 2 Nat)))).bind fun y982 =>
        (spec_l01Root y982.1.1).bind fun y983 =>
        bif (fEq .f32 y983.1.1 0) then
          some (Sum.inl (s976.1, (iAdd .i64 s976.2.1 1), ()))
        else
        bif (fLe .f32 s976.1 y983.1.1) then
          let x987 := fDiv .f32 s976.1 y983.1.1
          bif inB s976.2.1 (List.length a0) then
            let x989 := iAdd .i64 s976.2.1 1
            bif inB x989 (List.length a0) then
              bif inB s976.2.1 (List.length a0) then
                bif inB s976.2.1 (List.length a0) then
                  let x996 := iAdd .i64 s976.2.1 1
                  bif inB x996 (List.length a0) then
                    bif inB s976.2.1 (List.length a0) then
                      Option.map Sum.inr (some (((((fAdd .f32 (Vec.getD 2 (List.getD a0 s976.2.1.toNat ((0, 0, ()) : (Vec 2 Nat))) 0 (0 : Nat)) (fMul .f32 (fSub .f32 (Vec.getD 2 (List.getD a0 x989.toNat ((0, 0, ()) : (Vec 2 Nat))) 0 (0 : Nat)) (Vec.getD 2 (List.getD a0 s976.2.1.toNat ((0, 0, ()) : (Vec 2 Nat))) 0 (0 : Nat))) x987)), (fAdd .f32 (Vec.getD 2 (List.getD a0 s976.2.1.toNat ((0, 0, ()) : (Vec 2 Nat))) 1 (0 : Nat)) (fMul .f32 (fSub .f32 (Vec.getD 2 (List.getD a0 x996.toNat ((0, 0, ()) : (Vec 2 Nat))) 1 (0 : Nat)) (Vec.getD 2 (List.getD a0 s976.2.1.toNat ((0, 0, ()) : (Vec 2 Nat))) 1 (0 : Nat))) x987)), ()) : (Vec 2 Nat)), ()), ()))
                    else none
                  else none
                else none
              else none
            else none
          else none
        else
        some (Sum.inl ((fSub .f32 s976.1 y983.1.1), (iAdd .i64 s976.2.1 1), ()))
      else none
    else none
  else
  Option.map Sum.inr (
    let x1004 := iSub .i64 (lenI a0) 1
    bif inB x1004 (List.length a0) then
      some (((List.getD a0 x1004.toNat ((0, 0, ()) : (Vec 2 Nat))), ()), ())
    else none)
noncomputable def spec_l07Ahead_l3 (a0 : (List (Vec 2 Nat))) (a1 : (Vec 2 Nat)) (a2 : Nat) (s967 : (Int × Int × Unit)) : Option ((Int × Int × Unit) ⊕ (((Vec 2 Nat) × Unit) × Unit)) :=
  bif (iLt s967.2.1 (lenI a0)) then
    bif inB s967.2.1 (List.length a0) then
      (spec_l07Square a1 (List.getD a0 s967.2.1.toNat ((0, 0, ()) : (Vec 2 Nat)))).bind fun y970 =>
      bif inB s967.1 (List.length a0) then
        (spec_l07Square a1 (List.getD a0 s967.1.toNat ((0, 0, ()) : (Vec 2 Nat)))).bind fun y972 =>
        bif (fLt .f32 y970.1.1 y972.1.1) then
          some (Sum.inl (s967.2.1, (iAdd .i64 s967.2.1 1), ()))
        else
        some (Sum.inl (s967.1, (iAdd .i64 s967.2.1 1), ()))
      else none
    else none
  else
  Option.map Sum.inr (run (spec_l07Ahead_l8 a0) (a2, s967.1, ()))
noncomputable def spec_l07Ahead (a0 : (List (Vec 2 Nat))) (a1 : (Vec 2 Nat)) (a2 : Nat) : Option (((Vec 2 Nat) × Unit) × Unit) :=
  run (spec_l07Ahead_l3 a0 a1 a2) ((0 : Int), (1 : Int), ())
noncomputable def spec_l07Ahead_sg : Sig := ⟨[.v (.list (.arr 2 (.flt .f32))), .v (.arr 2 (.flt .f32)), .v (.flt .f32)], [.v (.val (.arr 2 (.flt .f32)))], false⟩
noncomputable def spec_l07Ahead_en : Entry := ⟨spec_l07Ahead_sg, fun x => spec_l07Ahead x.1 x.2.1 x.2.2.1⟩
theorem spec_l07Ahead_eq (x : spec_l07Ahead_sg.dom) : body (env [(166, spec_l07Square_en), (167, spec_l01Root_en)]) [(3, .vary [(7, .sc (.int .i64)), (8, .sc (.int .i64))]), (8, .vary [(2, .sc (.flt .f32)), (9, .sc (.int .i64))])] Try.f120 spec_l07Ahead_sg x = spec_l07Ahead x.1 x.2.1 x.2.2.1 := by kernel_rfl
theorem spec_l07Ahead_so : Sound Try.prog 120 spec_l07Ahead_en := sound_of_body (envS (l := [(166, spec_l07Square_en), (167, spec_l01Root_en)]) (⟨spec_l07Square_so, spec_l01Root_so, trivial⟩)) Try.func120 (by kernel_rfl) rfl (fun x y h => (spec_l07Ahead_eq x).trans h)

-- loop.example/g01204/spec.l00In
noncomputable def spec_l00In (a0 : Int) (a1 : Int) (a2 : Int) : Option ((Bool × Unit) × Unit) :=
  bif (iLe a1 a0) then
    some (((iLe a0 a2), ()), ())
  else some ((false, ()), ())
noncomputable def spec_l00In_sg : Sig := ⟨[.v (.int .i64), .v (.int .i64), .v (.int .i64)], [.v (.val (.bool))], false⟩
noncomputable def spec_l00In_en : Entry := ⟨spec_l00In_sg, fun x => spec_l00In x.1 x.2.1 x.2.2.1⟩
theorem spec_l00In_eq (x : spec_l00In_sg.dom) : body (env []) [] Try.f101 spec_l00In_sg x = spec_l00In x.1 x.2.1 x.2.2.1 := by kernel_rfl
theorem spec_l00In_so : Sound Try.prog 101 spec_l00In_en := sound_of_body (envS (l := []) (trivial)) Try.func101 (by kernel_rfl) rfl (fun x y h => (spec_l00In_eq x).trans h)

-- loop.example/g01204/spec.l07Way
noncomputable def spec_l07Way_l2 (a0 : (List (Vec 2 Nat))) (s1025 : (Int × Unit)) : Option ((Int × Unit) ⊕ ((Bool × Unit) × Unit)) :=
  bif (iLt s1025.1 (lenI a0)) then
    bif inB s1025.1 (List.length a0) then
      (spec_l01Finite (Vec.getD 2 (List.getD a0 s1025.1.toNat ((0, 0, ()) : (Vec 2 Nat))) 0 (0 : Nat))).bind fun y1028 =>
      bif (! y1028.1.1) then
        Option.map Sum.inr (some ((false, ()), ()))
      else
      bif inB s1025.1 (List.length a0) then
        (spec_l01Finite (Vec.getD 2 (List.getD a0 s1025.1.toNat ((0, 0, ()) : (Vec 2 Nat))) 1 (0 : Nat))).bind fun y1031 =>
        bif (! y1031.1.1) then
          Option.map Sum.inr (some ((false, ()), ()))
        else
        some (Sum.inl ((iAdd .i64 s1025.1 1), ()))
      else none
    else none
  else
  Option.map Sum.inr (
    (spec_l00In (lenI a0) (1 : Int) (600 : Int)).bind fun y1034 =>
    some ((y1034.1.1, ()), ()))
noncomputable def spec_l07Way (a0 : (List (Vec 2 Nat))) : Option ((Bool × Unit) × Unit) :=
  run (spec_l07Way_l2 a0) ((0 : Int), ())
noncomputable def spec_l07Way_sg : Sig := ⟨[.v (.list (.arr 2 (.flt .f32)))], [.v (.val (.bool))], false⟩
noncomputable def spec_l07Way_en : Entry := ⟨spec_l07Way_sg, fun x => spec_l07Way x.1⟩
theorem spec_l07Way_eq (x : spec_l07Way_sg.dom) : body (env [(101, spec_l00In_en), (119, spec_l01Finite_en)]) [(2, .vary [(3, .sc (.int .i64))])] Try.f164 spec_l07Way_sg x = spec_l07Way x.1 := by kernel_rfl
theorem spec_l07Way_so : Sound Try.prog 164 spec_l07Way_en := sound_of_body (envS (l := [(101, spec_l00In_en), (119, spec_l01Finite_en)]) (⟨spec_l00In_so, spec_l01Finite_so, trivial⟩)) Try.func164 (by kernel_rfl) rfl (fun x y h => (spec_l07Way_eq x).trans h)

-- loop.example/g01204/spec.l07Follows
noncomputable def spec_l07Follows (a0 : (List (Vec 2 Nat))) (a1 : (Vec 2 Nat)) (a2 : Nat) : Option ((Bool × Unit) × Unit) :=
  (spec_l07Way a0).bind fun y1018 =>
  bif y1018.1.1 then
    (spec_l01Finite (Vec.getD 2 a1 0 (0 : Nat))).bind fun y1020 =>
    bif y1020.1.1 then
      (spec_l01Finite (Vec.getD 2 a1 1 (0 : Nat))).bind fun y1022 =>
      bif y1022.1.1 then
        (spec_l01Finite a2).bind fun y1023 =>
        bif y1023.1.1 then
          some (((fLe .f32 0 a2), ()), ())
        else some ((false, ()), ())
      else some ((false, ()), ())
    else some ((false, ()), ())
  else some ((false, ()), ())
noncomputable def spec_l07Follows_sg : Sig := ⟨[.v (.list (.arr 2 (.flt .f32))), .v (.arr 2 (.flt .f32)), .v (.flt .f32)], [.v (.val (.bool))], false⟩
noncomputable def spec_l07Follows_en : Entry := ⟨spec_l07Follows_sg, fun x => spec_l07Follows x.1 x.2.1 x.2.2.1⟩
theorem spec_l07Follows_eq (x : spec_l07Follows_sg.dom) : body (env [(119, spec_l01Finite_en), (164, spec_l07Way_en)]) [] Try.f117 spec_l07Follows_sg x = spec_l07Follows x.1 x.2.1 x.2.2.1 := by kernel_rfl
theorem spec_l07Follows_so : Sound Try.prog 117 spec_l07Follows_en := sound_of_body (envS (l := [(119, spec_l01Finite_en), (164, spec_l07Way_en)]) (⟨spec_l01Finite_so, spec_l07Way_so, trivial⟩)) Try.func117 (by kernel_rfl) rfl (fun x y h => (spec_l07Follows_eq x).trans h)

-- loop.example/g01204/spec.FollowWay
noncomputable def spec_FollowWay (a0 : (List (Vec 2 Nat))) (a1 : (Vec 3 Nat)) (a2 : Nat) (a3 : Nat) : Option (((Vec 3 Nat) × Int × Unit) × Unit) :=
  let x548 := Vec.getD 3 a1 0 (0 : Nat)
  let x549 := Vec.getD 3 a1 1 (0 : Nat)
  (spec_l07Follows a0 ((x548, x549, ()) : (Vec 2 Nat)) a2).bind fun y550 =>
  bif (! y550.1.1) then some ((((0, 0, 0, ()) : (Vec 3 Nat)), (2 : Int), ()), ()) else
  (spec_l06Finite a1).bind fun y552 =>
  bif (! y552.1.1) then some ((((0, 0, 0, ()) : (Vec 3 Nat)), (2 : Int), ()), ()) else
  (spec_l01Finite a3).bind fun y554 =>
  bif (! y554.1.1) then some ((((0, 0, 0, ()) : (Vec 3 Nat)), (2 : Int), ()), ()) else
  (spec_l07Ahead a0 ((x548, x549, ()) : (Vec 2 Nat)) a2).bind fun y556 =>
  let x559 := fSub .f32 (Vec.getD 2 y556.1.1 0 (0 : Nat)) (Vec.getD 3 a1 0 (0 : Nat))
  let x562 := fSub .f32 (Vec.getD 2 y556.1.1 1 (0 : Nat)) (Vec.getD 3 a1 1 (0 : Nat))
  bif (! (fEq .f32 x559 0)) then
    (spec_AngleOf x562 x559).bind fun y565 =>
    (spec_WrapAngle (fSub .f32 y565.1.1 (Vec.getD 3 a1 2 (0 : Nat)))).bind fun y568 =>
    bif (fLt .f32 1056964608 y568.1.1) then
      bif (fLt .f32 1056964608 3204448256) then
        (spec_WrapAngle (fAdd .f32 (Vec.getD 3 a1 2 (0 : Nat)) 3204448256)).bind fun y573 =>
        (spec_l06Compose (((Vec.getD 3 a1 0 (0 : Nat)), (Vec.getD 3 a1 1 (0 : Nat)), y573.1.1, ()) : (Vec 3 Nat)) ((a3, 0, 0, ()) : (Vec 3 Nat))).bind fun y576 =>
        some ((y576.1.1, (0 : Int), ()), ())
      else
      (spec_WrapAngle (fAdd .f32 (Vec.getD 3 a1 2 (0 : Nat)) 1056964608)).bind fun y579 =>
      (spec_l06Compose (((Vec.getD 3 a1 0 (0 : Nat)), (Vec.getD 3 a1 1 (0 : Nat)), y579.1.1, ()) : (Vec 3 Nat)) ((a3, 0, 0, ()) : (Vec 3 Nat))).bind fun y582 =>
      some ((y582.1.1, (0 : Int), ()), ())
    else
    bif (fLt .f32 y568.1.1 3204448256) then
      (spec_WrapAngle (fAdd .f32 (Vec.getD 3 a1 2 (0 : Nat)) 3204448256)).bind fun y586 =>
      (spec_l06Compose (((Vec.getD 3 a1 0 (0 : Nat)), (Vec.getD 3 a1 1 (0 : Nat)), y586.1.1, ()) : (Vec 3 Nat)) ((a3, 0, 0, ()) : (Vec 3 Nat))).bind fun y589 =>
      some ((y589.1.1, (0 : Int), ()), ())
    else
    (spec_WrapAngle (fAdd .f32 (Vec.getD 3 a1 2 (0 : Nat)) y568.1.1)).bind fun y592 =>
    (spec_l06Compose (((Vec.getD 3 a1 0 (0 : Nat)), (Vec.getD 3 a1 1 (0 : Nat)), y592.1.1, ()) : (Vec 3 Nat)) ((a3, 0, 0, ()) : (Vec 3 Nat))).bind fun y595 =>
    some ((y595.1.1, (0 : Int), ()), ())
  else
  bif (! (fEq .f32 x562 0)) then
    (spec_AngleOf x562 x559).bind fun y597 =>
    (spec_WrapAngle (fSub .f32 y597.1.1 (Vec.getD 3 a1 2 (0 : Nat)))).bind fun y600 =>
    bif (fLt .f32 1056964608 y600.1.1) then
      bif (fLt .f32 1056964608 3204448256) then
        (spec_WrapAngle (fAdd .f32 (Vec.getD 3 a1 2 (0 : Nat)) 3204448256)).bind fun y605 =>
        (spec_l06Compose (((Vec.getD 3 a1 0 (0 : Nat)), (Vec.getD 3 a1 1 (0 : Nat)), y605.1.1, ()) : (Vec 3 Nat)) ((a3, 0, 0, ()) : (Vec 3 Nat))).bind fun y608 =>
        some ((y608.1.1, (0 : Int), ()), ())
      else
      (spec_WrapAngle (fAdd .f32 (Vec.getD 3 a1 2 (0 : Nat)) 1056964608)).bind fun y611 =>
      (spec_l06Compose (((Vec.getD 3 a1 0 (0 : Nat)), (Vec.getD 3 a1 1 (0 : Nat)), y611.1.1, ()) : (Vec 3 Nat)) ((a3, 0, 0, ()) : (Vec 3 Nat))).bind fun y614 =>
      some ((y614.1.1, (0 : Int), ()), ())
    else
    bif (fLt .f32 y600.1.1 3204448256) then
      (spec_WrapAngle (fAdd .f32 (Vec.getD 3 a1 2 (0 : Nat)) 3204448256)).bind fun y618 =>
      (spec_l06Compose (((Vec.getD 3 a1 0 (0 : Nat)), (Vec.getD 3 a1 1 (0 : Nat)), y618.1.1, ()) : (Vec 3 Nat)) ((a3, 0, 0, ()) : (Vec 3 Nat))).bind fun y621 =>
      some ((y621.1.1, (0 : Int), ()), ())
    else
    (spec_WrapAngle (fAdd .f32 (Vec.getD 3 a1 2 (0 : Nat)) y600.1.1)).bind fun y624 =>
    (spec_l06Compose (((Vec.getD 3 a1 0 (0 : Nat)), (Vec.getD 3 a1 1 (0 : Nat)), y624.1.1, ()) : (Vec 3 Nat)) ((a3, 0, 0, ()) : (Vec 3 Nat))).bind fun y627 =>
    some ((y627.1.1, (0 : Int), ()), ())
  else
  (spec_l06Compose (((Vec.getD 3 a1 0 (0 : Nat)), (Vec.getD 3 a1 1 (0 : Nat)), (Vec.getD 3 a1 2 (0 : Nat)), ()) : (Vec 3 Nat)) ((a3, 0, 0, ()) : (Vec 3 Nat))).bind fun y630 =>
  some ((y630.1.1, (0 : Int), ()), ())
noncomputable def spec_FollowWay_sg : Sig := ⟨[.v (.list (.arr 2 (.flt .f32))), .v (.arr 3 (.flt .f32)), .v (.flt .f32), .v (.flt .f32)], [.v (.val (.arr 3 (.flt .f32))), .v (.val (.int .i64))], false⟩
noncomputable def spec_FollowWay_en : Entry := ⟨spec_FollowWay_sg, fun x => spec_FollowWay x.1 x.2.1 x.2.2.1 x.2.2.2.1⟩
theorem spec_FollowWay_eq (x : spec_FollowWay_sg.dom) : body (env [(117, spec_l07Follows_en), (118, spec_l06Finite_en), (119, spec_l01Finite_en), (120, spec_l07Ahead_en), (121, spec_WrapAngle_en), (122, spec_AngleOf_en), (123, spec_l06Compose_en)]) [] Try.f55 spec_FollowWay_sg x = spec_FollowWay x.1 x.2.1 x.2.2.1 x.2.2.2.1 := by kernel_rfl
theorem spec_FollowWay_so : Sound Try.prog 55 spec_FollowWay_en := sound_of_body (envS (l := [(117, spec_l07Follows_en), (118, spec_l06Finite_en), (119, spec_l01Finite_en), (120, spec_l07Ahead_en), (121, spec_WrapAngle_en), (122, spec_AngleOf_en), (123, spec_l06Compose_en)]) (⟨spec_l07Follows_so, spec_l06Finite_so, spec_l01Finite_so, spec_l07Ahead_so, spec_WrapAngle_so, spec_AngleOf_so, spec_l06Compose_so, trivial⟩)) Try.func55 (by kernel_rfl) rfl (fun x y h => (spec_FollowWay_eq x).trans h)

-- loop.example/g01204/laws.FnExactFollowWay
noncomputable def laws_FnExactFollowWay (a0 : (List (Vec 2 Nat))) (a1 : (Vec 3 Nat)) (a2 : Nat) (a3 : Nat) : Option ((Bool × Unit) × Unit) :=
  (laws_szFloat32A2S a0 (1048576 : Int)).bind fun y1 =>
  bif (iLt y1.1.1 0) then some ((true, ()), ()) else
  (laws_toFloat32A2S a0).bind fun y3 =>
  (laws_toPose a1).bind fun y4 =>
  (spec_FollowWay y3.1.1 y4.1.1 a2 a3).bind fun y5 =>
  (laws_toFloat32A2S a0).bind fun y6 =>
  (laws_toPose a1).bind fun y7 =>
  (impl_FollowWay y6.1.1 y7.1.1 a2 a3).bind fun y8 =>
  (laws_eqPose y8.1.1 y5.1.1).bind fun y9 =>
  bif (! y9.1.1) then some ((false, ()), ()) else
  bif (! (iEq y8.1.2.1 y5.1.2.1)) then some ((false, ()), ()) else
  (laws_toFloat32A2S a0).bind fun y12 =>
  (laws_eqFloat32A2S y6.1.1 y12.1.1).bind fun y13 =>
  bif (! y13.1.1) then some ((false, ()), ()) else some ((true, ()), ())
noncomputable def laws_FnExactFollowWay_sg : Sig := ⟨[.v (.list (.arr 2 (.flt .f32))), .v (.arr 3 (.flt .f32)), .v (.flt .f32), .v (.flt .f32)], [.v (.val (.bool))], false⟩
noncomputable def laws_FnExactFollowWay_en : Entry := ⟨laws_FnExactFollowWay_sg, fun x => laws_FnExactFollowWay x.1 x.2.1 x.2.2.1 x.2.2.2.1⟩
theorem laws_FnExactFollowWay_eq (x : laws_FnExactFollowWay_sg.dom) : body (env [(54, laws_szFloat32A2S_en), (55, spec_FollowWay_en), (56, laws_toFloat32A2S_en), (57, laws_toPose_en), (58, impl_FollowWay_en), (59, laws_eqPose_en), (60, laws_eqFloat32A2S_en)]) [] Try.f10 laws_FnExactFollowWay_sg x = laws_FnExactFollowWay x.1 x.2.1 x.2.2.1 x.2.2.2.1 := by kernel_rfl
theorem laws_FnExactFollowWay_so : Sound Try.prog 10 laws_FnExactFollowWay_en := sound_of_body (envS (l := [(54, laws_szFloat32A2S_en), (55, spec_FollowWay_en), (56, laws_toFloat32A2S_en), (57, laws_toPose_en), (58, impl_FollowWay_en), (59, laws_eqPose_en), (60, laws_eqFloat32A2S_en)]) (⟨laws_szFloat32A2S_so, spec_FollowWay_so, laws_toFloat32A2S_so, laws_toPose_so, impl_FollowWay_so, laws_eqPose_so, laws_eqFloat32A2S_so, trivial⟩)) Try.func10 (by kernel_rfl) rfl (fun x y h => (laws_FnExactFollowWay_eq x).trans h)

end Go.Proofs.Ytioniijhdkkieaa
