import Derived.Test.YtiakgpcjomgkcaaE
/- Functions on typed data: what the evaluation of each Go function is, and that it is sound. -/
namespace Go.Proofs.Ytiakgpcjomgkcaa
open Go Go.Tm
set_option linter.unusedVariables false
set_option maxRecDepth 100000
-- loop.example/g01204/impl.within
noncomputable def impl_within (a0 : Int) (a1 : Int) (a2 : Int) : Option ((Bool × Unit) × Unit) :=
  bif (iLe a1 a0) then
    some (((iLe a0 a2), ()), ())
  else some ((false, ()), ())
noncomputable def impl_within_sg : Sig := ⟨[.v (.int .i64), .v (.int .i64), .v (.int .i64)], [.v (.val (.bool))], false⟩
noncomputable def impl_within_en : Entry := ⟨impl_within_sg, fun x => impl_within x.1 x.2.1 x.2.2.1⟩
theorem impl_within_eq (x : impl_within_sg.dom) : body (env []) [] Try.f38 impl_within_sg x = impl_within x.1 x.2.1 x.2.2.1 := by kernel_rfl
theorem impl_within_so : Sound Try.prog 38 impl_within_en := sound_of_body (envS (l := []) (trivial)) Try.func38 (by kernel_rfl) rfl (fun x y h => (impl_within_eq x).trans h)

-- loop.example/g01204/impl.ValidDeed
noncomputable def impl_ValidDeed (a0 : (Int × (Int × (Int × Unit)))) : Option ((Bool × Unit) × Unit) :=
  (impl_within a0.1 (1 : Int) (7 : Int)).bind fun y6 =>
  bif y6.1.1 then
    (impl_within a0.2.1 (0 : Int) (999 : Int)).bind fun y7 =>
    bif y7.1.1 then
      (impl_within a0.2.2.1 (0 : Int) (999 : Int)).bind fun y8 =>
      bif y8.1.1 then
        bif (iEq a0.1 2) then some ((true, ()), ()) else
        some (((iEq a0.2.2.1 0), ()), ())
      else some ((false, ()), ())
    else some ((false, ()), ())
  else some ((false, ()), ())
noncomputable def impl_ValidDeed_sg : Sig := ⟨[.v (.pair (.int .i64) (.pair (.int .i64) (.pair (.int .i64) (.unit))))], [.v (.val (.bool))], false⟩
noncomputable def impl_ValidDeed_en : Entry := ⟨impl_ValidDeed_sg, fun x => impl_ValidDeed x.1⟩
theorem impl_ValidDeed_eq (x : impl_ValidDeed_sg.dom) : body (env [(38, impl_within_en)]) [] Try.f11 impl_ValidDeed_sg x = impl_ValidDeed x.1 := by kernel_rfl
theorem impl_ValidDeed_so : Sound Try.prog 11 impl_ValidDeed_en := sound_of_body (envS (l := [(38, impl_within_en)]) (⟨impl_within_so, trivial⟩)) Try.func11 (by kernel_rfl) rfl (fun x y h => (impl_ValidDeed_eq x).trans h)

-- loop.example/g01204/laws.toDeed
noncomputable def laws_toDeed (a0 : (Int × (Int × (Int × Unit)))) : Option (((Int × (Int × (Int × Unit))) × Unit) × Unit) :=
  some ((((a0.1, a0.2.1, a0.2.2.1, ()) : (Int × (Int × (Int × Unit)))), ()), ())
noncomputable def laws_toDeed_sg : Sig := ⟨[.v (.pair (.int .i64) (.pair (.int .i64) (.pair (.int .i64) (.unit))))], [.v (.val (.pair (.int .i64) (.pair (.int .i64) (.pair (.int .i64) (.unit)))))], false⟩
noncomputable def laws_toDeed_en : Entry := ⟨laws_toDeed_sg, fun x => laws_toDeed x.1⟩
theorem laws_toDeed_eq (x : laws_toDeed_sg.dom) : body (env []) [] Try.f10 laws_toDeed_sg x = laws_toDeed x.1 := by kernel_rfl
theorem laws_toDeed_so : Sound Try.prog 10 laws_toDeed_en := sound_of_body (envS (l := []) (trivial)) Try.func10 (by kernel_rfl) rfl (fun x y h => (laws_toDeed_eq x).trans h)

-- loop.example/g01204/spec.l00In
noncomputable def spec_l00In (a0 : Int) (a1 : Int) (a2 : Int) : Option ((Bool × Unit) × Unit) :=
  bif (iLe a1 a0) then
    some (((iLe a0 a2), ()), ())
  else some ((false, ()), ())
noncomputable def spec_l00In_sg : Sig := ⟨[.v (.int .i64), .v (.int .i64), .v (.int .i64)], [.v (.val (.bool))], false⟩
noncomputable def spec_l00In_en : Entry := ⟨spec_l00In_sg, fun x => spec_l00In x.1 x.2.1 x.2.2.1⟩
theorem spec_l00In_eq (x : spec_l00In_sg.dom) : body (env []) [] Try.f57 spec_l00In_sg x = spec_l00In x.1 x.2.1 x.2.2.1 := by kernel_rfl
theorem spec_l00In_so : Sound Try.prog 57 spec_l00In_en := sound_of_body (envS (l := []) (trivial)) Try.func57 (by kernel_rfl) rfl (fun x y h => (spec_l00In_eq x).trans h)

-- loop.example/g01204/spec.l09Deed
noncomputable def spec_l09Deed (a0 : (Int × (Int × (Int × Unit)))) : Option ((Bool × Unit) × Unit) :=
  (spec_l00In a0.1 (1 : Int) (7 : Int)).bind fun y14 =>
  bif (! y14.1.1) then some ((false, ()), ()) else
  (spec_l00In a0.2.1 (0 : Int) (999 : Int)).bind fun y16 =>
  bif (! y16.1.1) then some ((false, ()), ()) else
  (spec_l00In a0.2.2.1 (0 : Int) (999 : Int)).bind fun y18 =>
  bif (! y18.1.1) then some ((false, ()), ()) else
  bif (iEq a0.1 2) then some ((true, ()), ()) else
  some (((iEq a0.2.2.1 0), ()), ())
noncomputable def spec_l09Deed_sg : Sig := ⟨[.v (.pair (.int .i64) (.pair (.int .i64) (.pair (.int .i64) (.unit))))], [.v (.val (.bool))], false⟩
noncomputable def spec_l09Deed_en : Entry := ⟨spec_l09Deed_sg, fun x => spec_l09Deed x.1⟩
theorem spec_l09Deed_eq (x : spec_l09Deed_sg.dom) : body (env [(57, spec_l00In_en)]) [] Try.f37 spec_l09Deed_sg x = spec_l09Deed x.1 := by kernel_rfl
theorem spec_l09Deed_so : Sound Try.prog 37 spec_l09Deed_en := sound_of_body (envS (l := [(57, spec_l00In_en)]) (⟨spec_l00In_so, trivial⟩)) Try.func37 (by kernel_rfl) rfl (fun x y h => (spec_l09Deed_eq x).trans h)

-- loop.example/g01204/spec.ValidDeed
noncomputable def spec_ValidDeed (a0 : (Int × (Int × (Int × Unit)))) : Option ((Bool × Unit) × Unit) :=
  (spec_l09Deed a0).bind fun y13 =>
  some ((y13.1.1, ()), ())
noncomputable def spec_ValidDeed_sg : Sig := ⟨[.v (.pair (.int .i64) (.pair (.int .i64) (.pair (.int .i64) (.unit))))], [.v (.val (.bool))], false⟩
noncomputable def spec_ValidDeed_en : Entry := ⟨spec_ValidDeed_sg, fun x => spec_ValidDeed x.1⟩
theorem spec_ValidDeed_eq (x : spec_ValidDeed_sg.dom) : body (env [(37, spec_l09Deed_en)]) [] Try.f9 spec_ValidDeed_sg x = spec_ValidDeed x.1 := by kernel_rfl
theorem spec_ValidDeed_so : Sound Try.prog 9 spec_ValidDeed_en := sound_of_body (envS (l := [(37, spec_l09Deed_en)]) (⟨spec_l09Deed_so, trivial⟩)) Try.func9 (by kernel_rfl) rfl (fun x y h => (spec_ValidDeed_eq x).trans h)

-- loop.example/g01204/laws.FnExactValidDeed
noncomputable def laws_FnExactValidDeed (a0 : (Int × (Int × (Int × Unit)))) : Option ((Bool × Unit) × Unit) :=
  (laws_toDeed a0).bind fun y1 =>
  (spec_ValidDeed y1.1.1).bind fun y2 =>
  (laws_toDeed a0).bind fun y3 =>
  (impl_ValidDeed y3.1.1).bind fun y4 =>
  bif (! (bEq y4.1.1 y2.1.1)) then some ((false, ()), ()) else some ((true, ()), ())
noncomputable def laws_FnExactValidDeed_sg : Sig := ⟨[.v (.pair (.int .i64) (.pair (.int .i64) (.pair (.int .i64) (.unit))))], [.v (.val (.bool))], false⟩
noncomputable def laws_FnExactValidDeed_en : Entry := ⟨laws_FnExactValidDeed_sg, fun x => laws_FnExactValidDeed x.1⟩
theorem laws_FnExactValidDeed_eq (x : laws_FnExactValidDeed_sg.dom) : body (env [(9, spec_ValidDeed_en), (10, laws_toDeed_en), (11, impl_ValidDeed_en)]) [] Try.f3 laws_FnExactValidDeed_sg x = laws_FnExactValidDeed x.1 := by kernel_rfl
theorem laws_FnExactValidDeed_so : Sound Try.prog 3 laws_FnExactValidDeed_en := sound_of_body (envS (l := [(9, spec_ValidDeed_en), (10, laws_toDeed_en), (11, impl_ValidDeed_en)]) (⟨spec_ValidDeed_so, laws_toDeed_so, impl_ValidDeed_so, trivial⟩)) Try.func3 (by kernel_rfl) rfl (fun x y h => (laws_FnExactValidDeed_eq x).trans h)

-- loop.example/g01204/impl.FixSensor
noncomputable def impl_FixSensor : Option ((((Vec 3 Nat) × ((Vec 3 Nat) × (Int × (Int × Unit)))) × Unit) × Unit) :=
  some (((((1031798784, 1031798784, 1031798784, ()), (0, 0, 0, ()), 1, 0, ()) : ((Vec 3 Nat) × ((Vec 3 Nat) × (Int × (Int × Unit))))), ()), ())
noncomputable def impl_FixSensor_sg : Sig := ⟨[], [.v (.val (.pair (.arr 3 (.flt .f32)) (.pair (.arr 3 (.flt .f32)) (.pair (.int .i64) (.pair (.int .i64) (.unit))))))], false⟩
noncomputable def impl_FixSensor_en : Entry := ⟨impl_FixSensor_sg, fun _ => impl_FixSensor⟩
theorem impl_FixSensor_eq (x : impl_FixSensor_sg.dom) : body (env []) [] Try.f13 impl_FixSensor_sg x = impl_FixSensor  := by kernel_rfl
theorem impl_FixSensor_so : Sound Try.prog 13 impl_FixSensor_en := sound_of_body (envS (l := []) (trivial)) Try.func13 (by kernel_rfl) rfl (fun x y h => (impl_FixSensor_eq x).trans h)

-- loop.example/g01204/laws.sameFloat
noncomputable def laws_sameFloat (a0 : Nat) (a1 : Nat) : Option ((Bool × Unit) × Unit) :=
  bif (! (fEq .f64 a0 a0)) then
    bif (! (fEq .f64 a0 a0)) then
      some (((! (fEq .f64 a1 a1)), ()), ())
    else some ((false, ()), ())
  else
  bif (! (fEq .f64 a1 a1)) then
    bif (! (fEq .f64 a0 a0)) then
      some (((! (fEq .f64 a1 a1)), ()), ())
    else some ((false, ()), ())
  else
  bif (fEq .f64 a0 0) then
    bif (fEq .f64 a1 0) then
      some (((bEq (fLt .f64 0 (fDiv .f64 4607182418800017408 a0)) (fLt .f64 0 (fDiv .f64 4607182418800017408 a1))), ()), ())
    else
    some (((fEq .f64 a0 a1), ()), ())
  else
  some (((fEq .f64 a0 a1), ()), ())
noncomputable def laws_sameFloat_sg : Sig := ⟨[.v (.flt .f64), .v (.flt .f64)], [.v (.val (.bool))], false⟩
noncomputable def laws_sameFloat_en : Entry := ⟨laws_sameFloat_sg, fun x => laws_sameFloat x.1 x.2.1⟩
theorem laws_sameFloat_eq (x : laws_sameFloat_sg.dom) : body (env []) [] Try.f63 laws_sameFloat_sg x = laws_sameFloat x.1 x.2.1 := by kernel_rfl
theorem laws_sameFloat_so : Sound Try.prog 63 laws_sameFloat_en := sound_of_body (envS (l := []) (trivial)) Try.func63 (by kernel_rfl) rfl (fun x y h => (laws_sameFloat_eq x).trans h)

-- loop.example/g01204/laws.eqVec
noncomputable def laws_eqVec (a0 : (Vec 3 Nat)) (a1 : (Vec 3 Nat)) : Option ((Bool × Unit) × Unit) :=
  (fConv .f32 .f64 (Vec.getD 3 a0 0 (0 : Nat))).bind fun y35 =>
  (fConv .f32 .f64 (Vec.getD 3 a1 0 (0 : Nat))).bind fun y37 =>
  (laws_sameFloat y35 y37).bind fun y38 =>
  bif (! y38.1.1) then some ((false, ()), ()) else
  (fConv .f32 .f64 (Vec.getD 3 a0 1 (0 : Nat))).bind fun y41 =>
  (fConv .f32 .f64 (Vec.getD 3 a1 1 (0 : Nat))).bind fun y43 =>
  (laws_sameFloat y41 y43).bind fun y44 =>
  bif (! y44.1.1) then some ((false, ()), ()) else
  (fConv .f32 .f64 (Vec.getD 3 a0 2 (0 : Nat))).bind fun y47 =>
  (fConv .f32 .f64 (Vec.getD 3 a1 2 (0 : Nat))).bind fun y49 =>
  (laws_sameFloat y47 y49).bind fun y50 =>
  bif (! y50.1.1) then some ((false, ()), ()) else some ((true, ()), ())
noncomputable def laws_eqVec_sg : Sig := ⟨[.v (.arr 3 (.flt .f32)), .v (.arr 3 (.flt .f32))], [.v (.val (.bool))], false⟩
noncomputable def laws_eqVec_en : Entry := ⟨laws_eqVec_sg, fun x => laws_eqVec x.1 x.2.1⟩
theorem laws_eqVec_eq (x : laws_eqVec_sg.dom) : body (env [(63, laws_sameFloat_en)]) [(2, .unroll 4)] Try.f40 laws_eqVec_sg x = laws_eqVec x.1 x.2.1 := by kernel_rfl
theorem laws_eqVec_so : Sound Try.prog 40 laws_eqVec_en := sound_of_body (envS (l := [(63, laws_sameFloat_en)]) (⟨laws_sameFloat_so, trivial⟩)) Try.func40 (by kernel_rfl) rfl (fun x y h => (laws_eqVec_eq x).trans h)

-- loop.example/g01204/laws.eqSensor
noncomputable def laws_eqSensor (a0 : ((Vec 3 Nat) × ((Vec 3 Nat) × (Int × (Int × Unit))))) (a1 : ((Vec 3 Nat) × ((Vec 3 Nat) × (Int × (Int × Unit))))) : Option ((Bool × Unit) × Unit) :=
  (laws_eqVec a0.1 a1.1).bind fun y28 =>
  bif (! y28.1.1) then some ((false, ()), ()) else
  (laws_eqVec a0.2.1 a1.2.1).bind fun y30 =>
  bif (! y30.1.1) then some ((false, ()), ()) else
  bif (! (iEq a0.2.2.1 a1.2.2.1)) then some ((false, ()), ()) else
  bif (! (iEq a0.2.2.2.1 a1.2.2.2.1)) then some ((false, ()), ()) else some ((true, ()), ())
noncomputable def laws_eqSensor_sg : Sig := ⟨[.v (.pair (.arr 3 (.flt .f32)) (.pair (.arr 3 (.flt .f32)) (.pair (.int .i64) (.pair (.int .i64) (.unit))))), .v (.pair (.arr 3 (.flt .f32)) (.pair (.arr 3 (.flt .f32)) (.pair (.int .i64) (.pair (.int .i64) (.unit)))))], [.v (.val (.bool))], false⟩
noncomputable def laws_eqSensor_en : Entry := ⟨laws_eqSensor_sg, fun x => laws_eqSensor x.1 x.2.1⟩
theorem laws_eqSensor_eq (x : laws_eqSensor_sg.dom) : body (env [(40, laws_eqVec_en)]) [] Try.f14 laws_eqSensor_sg x = laws_eqSensor x.1 x.2.1 := by kernel_rfl
theorem laws_eqSensor_so : Sound Try.prog 14 laws_eqSensor_en := sound_of_body (envS (l := [(40, laws_eqVec_en)]) (⟨laws_eqVec_so, trivial⟩)) Try.func14 (by kernel_rfl) rfl (fun x y h => (laws_eqSensor_eq x).trans h)

-- loop.example/g01204/spec.l08Sensor
noncomputable def spec_l08Sensor : Option ((((Vec 3 Nat) × ((Vec 3 Nat) × (Int × (Int × Unit)))) × Unit) × Unit) :=
  some (((((1031798784, 1031798784, 1031798784, ()), (0, 0, 0, ()), 1, 0, ()) : ((Vec 3 Nat) × ((Vec 3 Nat) × (Int × (Int × Unit))))), ()), ())
noncomputable def spec_l08Sensor_sg : Sig := ⟨[], [.v (.val (.pair (.arr 3 (.flt .f32)) (.pair (.arr 3 (.flt .f32)) (.pair (.int .i64) (.pair (.int .i64) (.unit))))))], false⟩
noncomputable def spec_l08Sensor_en : Entry := ⟨spec_l08Sensor_sg, fun _ => spec_l08Sensor⟩
theorem spec_l08Sensor_eq (x : spec_l08Sensor_sg.dom) : body (env []) [] Try.f39 spec_l08Sensor_sg x = spec_l08Sensor  := by kernel_rfl
theorem spec_l08Sensor_so : Sound Try.prog 39 spec_l08Sensor_en := sound_of_body (envS (l := []) (trivial)) Try.func39 (by kernel_rfl) rfl (fun x y h => (spec_l08Sensor_eq x).trans h)

-- loop.example/g01204/spec.FixSensor
noncomputable def spec_FixSensor : Option ((((Vec 3 Nat) × ((Vec 3 Nat) × (Int × (Int × Unit)))) × Unit) × Unit) :=
  (spec_l08Sensor).bind fun y67 =>
  some ((y67.1.1, ()), ())
noncomputable def spec_FixSensor_sg : Sig := ⟨[], [.v (.val (.pair (.arr 3 (.flt .f32)) (.pair (.arr 3 (.flt .f32)) (.pair (.int .i64) (.pair (.int .i64) (.unit))))))], false⟩
noncomputable def spec_FixSensor_en : Entry := ⟨spec_FixSensor_sg, fun _ => spec_FixSensor⟩
theorem spec_FixSensor_eq (x : spec_FixSensor_sg.dom) : body (env [(39, spec_l08Sensor_en)]) [] Try.f12 spec_FixSensor_sg x = spec_FixSensor  := by kernel_rfl
theorem spec_FixSensor_so : Sound Try.prog 12 spec_FixSensor_en := sound_of_body (envS (l := [(39, spec_l08Sensor_en)]) (⟨spec_l08Sensor_so, trivial⟩)) Try.func12 (by kernel_rfl) rfl (fun x y h => (spec_FixSensor_eq x).trans h)

-- loop.example/g01204/laws.FnExactFixSensor
noncomputable def laws_FnExactFixSensor : Option ((Bool × Unit) × Unit) :=
  (spec_FixSensor).bind fun y24 =>
  (impl_FixSensor).bind fun y25 =>
  (laws_eqSensor y25.1.1 y24.1.1).bind fun y26 =>
  bif (! y26.1.1) then some ((false, ()), ()) else some ((true, ()), ())
noncomputable def laws_FnExactFixSensor_sg : Sig := ⟨[], [.v (.val (.bool))], false⟩
noncomputable def laws_FnExactFixSensor_en : Entry := ⟨laws_FnExactFixSensor_sg, fun _ => laws_FnExactFixSensor⟩
theorem laws_FnExactFixSensor_eq (x : laws_FnExactFixSensor_sg.dom) : body (env [(12, spec_FixSensor_en), (13, impl_FixSensor_en), (14, laws_eqSensor_en)]) [] Try.f4 laws_FnExactFixSensor_sg x = laws_FnExactFixSensor  := by kernel_rfl
theorem laws_FnExactFixSensor_so : Sound Try.prog 4 laws_FnExactFixSensor_en := sound_of_body (envS (l := [(12, spec_FixSensor_en), (13, impl_FixSensor_en), (14, laws_eqSensor_en)]) (⟨spec_FixSensor_so, impl_FixSensor_so, laws_eqSensor_so, trivial⟩)) Try.func4 (by kernel_rfl) rfl (fun x y h => (laws_FnExactFixSensor_eq x).trans h)

-- (loop.example/g01204/impl.Grid).at
noncomputable def impl_Grid_at (a0 : (Int × (Int × ((List Int) × Unit)))) (a1 : (Vec 2 Int)) : Option ((Int × Unit) × Unit) :=
  some (((iAdd .i64 (iMul .i64 (iWrap .i64 (Vec.getD 2 a1 1 (0 : Int))) a0.1) (iWrap .i64 (Vec.getD 2 a1 0 (0 : Int)))), ()), ())
noncomputable def impl_Grid_at_sg : Sig := ⟨[.v (.pair (.int .i64) (.pair (.int .i64) (.pair (.list (.int .u8)) (.unit)))), .v (.arr 2 (.int .i16))], [.v (.val (.int .i64))], false⟩
noncomputable def impl_Grid_at_en : Entry := ⟨impl_Grid_at_sg, fun x => impl_Grid_at x.1 x.2.1⟩
theorem impl_Grid_at_eq (x : impl_Grid_at_sg.dom) : body (env []) [] Try.f46 impl_Grid_at_sg x = impl_Grid_at x.1 x.2.1 := by kernel_rfl
theorem impl_Grid_at_so : Sound Try.prog 46 impl_Grid_at_en := sound_of_body (envS (l := []) (trivial)) Try.func46 (by kernel_rfl) rfl (fun x y h => (impl_Grid_at_eq x).trans h)

-- loop.example/g01204/impl.ValidGrid
noncomputable def impl_ValidGrid (a0 : (Int × (Int × ((List Int) × Unit)))) : Option ((Bool × Unit) × Unit) :=
  (impl_within a0.1 (1 : Int) (24 : Int)).bind fun y95 =>
  bif y95.1.1 then
    (impl_within a0.2.1 (1 : Int) (24 : Int)).bind fun y96 =>
    bif y96.1.1 then
      some (((iEq (lenI a0.2.2.1) (iMul .i64 a0.1 a0.2.1)), ()), ())
    else some ((false, ()), ())
  else some ((false, ()), ())
noncomputable def impl_ValidGrid_sg : Sig := ⟨[.v (.pair (.int .i64) (.pair (.int .i64) (.pair (.list (.int .u8)) (.unit))))], [.v (.val (.bool))], false⟩
noncomputable def impl_ValidGrid_en : Entry := ⟨impl_ValidGrid_sg, fun x => impl_ValidGrid x.1⟩
theorem impl_ValidGrid_eq (x : impl_ValidGrid_sg.dom) : body (env [(38, impl_within_en)]) [] Try.f60 impl_ValidGrid_sg x = impl_ValidGrid x.1 := by kernel_rfl
theorem impl_ValidGrid_so : Sound Try.prog 60 impl_ValidGrid_en := sound_of_body (envS (l := [(38, impl_within_en)]) (⟨impl_within_so, trivial⟩)) Try.func60 (by kernel_rfl) rfl (fun x y h => (impl_ValidGrid_eq x).trans h)

-- (loop.example/g01204/impl.Grid).has
noncomputable def impl_Grid_has (a0 : (Int × (Int × ((List Int) × Unit)))) (a1 : (Vec 2 Int)) : Option ((Bool × Unit) × Unit) :=
  (impl_within (iWrap .i64 (Vec.getD 2 a1 0 (0 : Int))) (0 : Int) (iSub .i64 a0.1 1)).bind fun y104 =>
  bif y104.1.1 then
    (impl_within (iWrap .i64 (Vec.getD 2 a1 1 (0 : Int))) (0 : Int) (iSub .i64 a0.2.1 1)).bind fun y108 =>
    some ((y108.1.1, ()), ())
  else some ((false, ()), ())
noncomputable def impl_Grid_has_sg : Sig := ⟨[.v (.pair (.int .i64) (.pair (.int .i64) (.pair (.list (.int .u8)) (.unit)))), .v (.arr 2 (.int .i16))], [.v (.val (.bool))], false⟩
noncomputable def impl_Grid_has_en : Entry := ⟨impl_Grid_has_sg, fun x => impl_Grid_has x.1 x.2.1⟩
theorem impl_Grid_has_eq (x : impl_Grid_has_sg.dom) : body (env [(38, impl_within_en)]) [] Try.f67 impl_Grid_has_sg x = impl_Grid_has x.1 x.2.1 := by kernel_rfl
theorem impl_Grid_has_so : Sound Try.prog 67 impl_Grid_has_en := sound_of_body (envS (l := [(38, impl_within_en)]) (⟨impl_within_so, trivial⟩)) Try.func67 (by kernel_rfl) rfl (fun x y h => (impl_Grid_has_eq x).trans h)

-- loop.example/g01204/impl.checkSpots$1
noncomputable def impl_checkSpots_1 (a0 : (Vec 2 Int)) (a1 : (Int × (Int × ((List Int) × Unit)))) : Option ((Bool × Unit) × Unit) :=
  (impl_Grid_has a1 a0).bind fun y99 =>
  some (((! y99.1.1), ()), ())
noncomputable def impl_checkSpots_1_sg : Sig := ⟨[.v (.arr 2 (.int .i16)), .ro (.pair (.int .i64) (.pair (.int .i64) (.pair (.list (.int .u8)) (.unit))))], [.v (.val (.bool))], false⟩
noncomputable def impl_checkSpots_1_en : Entry := ⟨impl_checkSpots_1_sg, fun x => impl_checkSpots_1 x.1 x.2.1⟩
theorem impl_checkSpots_1_eq (x : impl_checkSpots_1_sg.dom) : body (env [(67, impl_Grid_has_en)]) [] Try.f66 impl_checkSpots_1_sg x = impl_checkSpots_1 x.1 x.2.1 := by kernel_rfl
theorem impl_checkSpots_1_so : Sound Try.prog 66 impl_checkSpots_1_en := sound_of_body (envS (l := [(67, impl_Grid_has_en)]) (⟨impl_Grid_has_so, trivial⟩)) Try.func66 (by kernel_rfl) rfl (fun x y h => (impl_checkSpots_1_eq x).trans h)

-- slices.IndexFunc[[]loop.example/g01204/impl.Spot,loop.example/g01204/impl.Spot]
noncomputable def slices_IndexFunc_impl_Spot_l2 (a0 : (List (Vec 2 Int))) (a1 : (((Vec 2 Int) × Unit) → Option Bool)) (s111 : (Int × Unit)) : Option ((Int × Unit) ⊕ ((Int × Unit) × Unit)) :=
  bif (iLt s111.1 (lenI a0)) then
    bif inB s111.1 (List.length a0) then
      (a1 ((List.getD a0 s111.1.toNat ((0, 0, ()) : (Vec 2 Int))), ())).bind fun y114 =>
      bif y114 then
        Option.map Sum.inr (some ((s111.1, ()), ()))
      else
      some (Sum.inl ((iAdd .i64 s111.1 1), ()))
    else none
  else
  Option.map Sum.inr (some ((((-1 : Int) : Int), ()), ()))
noncomputable def slices_IndexFunc_impl_Spot (a0 : (List (Vec 2 Int))) (a1 : (((Vec 2 Int) × Unit) → Option Bool)) : Option ((Int × Unit) × Unit) :=
  run (slices_IndexFunc_impl_Spot_l2 a0 a1) ((0 : Int), ())
noncomputable def slices_IndexFunc_impl_Spot_sg : Sig := ⟨[.v (.list (.arr 2 (.int .i16))), .fn ⟨[.arr 2 (.int .i16)], .bool⟩], [.v (.val (.int .i64))], false⟩
noncomputable def slices_IndexFunc_impl_Spot_en : Entry := ⟨slices_IndexFunc_impl_Spot_sg, fun x => slices_IndexFunc_impl_Spot x.1 x.2.1⟩
theorem slices_IndexFunc_impl_Spot_eq (x : slices_IndexFunc_impl_Spot_sg.dom) : body (env []) [(2, .vary [(8, .sc (.int .i64))])] Try.f71 slices_IndexFunc_impl_Spot_sg x = slices_IndexFunc_impl_Spot x.1 x.2.1 := by kernel_rfl
theorem slices_IndexFunc_impl_Spot_so : Sound Try.prog 71 slices_IndexFunc_impl_Spot_en := sound_of_body (envS (l := []) (trivial)) Try.func71 (by kernel_rfl) rfl (fun x y h => (slices_IndexFunc_impl_Spot_eq x).trans h)

-- slices.ContainsFunc[[]loop.example/g01204/impl.Spot,loop.example/g01204/impl.Spot]
noncomputable def slices_ContainsFunc_impl_Spot (a0 : (List (Vec 2 Int))) (a1 : (((Vec 2 Int) × Unit) → Option Bool)) : Option ((Bool × Unit) × Unit) :=
  (slices_IndexFunc_impl_Spot a0 a1).bind fun y109 =>
  some (((iLe 0 y109.1.1), ()), ())
noncomputable def slices_ContainsFunc_impl_Spot_sg : Sig := ⟨[.v (.list (.arr 2 (.int .i16))), .fn ⟨[.arr 2 (.int .i16)], .bool⟩], [.v (.val (.bool))], false⟩
noncomputable def slices_ContainsFunc_impl_Spot_en : Entry := ⟨slices_ContainsFunc_impl_Spot_sg, fun x => slices_ContainsFunc_impl_Spot x.1 x.2.1⟩
theorem slices_ContainsFunc_impl_Spot_eq (x : slices_ContainsFunc_impl_Spot_sg.dom) : body (env [(71, slices_IndexFunc_impl_Spot_en)]) [] Try.f65 slices_ContainsFunc_impl_Spot_sg x = slices_ContainsFunc_impl_Spot x.1 x.2.1 := by kernel_rfl
theorem slices_ContainsFunc_impl_Spot_so : Sound Try.prog 65 slices_ContainsFunc_impl_Spot_en := sound_of_body (envS (l := [(71, slices_IndexFunc_impl_Spot_en)]) (⟨slices_IndexFunc_impl_Spot_so, trivial⟩)) Try.func65 (by kernel_rfl) rfl (fun x y h => (slices_ContainsFunc_impl_Spot_eq x).trans h)

-- loop.example/g01204/impl.checkSpots
noncomputable def impl_checkSpots (a0 : (Int × (Int × ((List Int) × Unit)))) (a1 : (List (Vec 2 Int))) : Option ((Int × Unit) × Unit) :=
  (impl_ValidGrid a0).bind fun y91 =>
  bif (! y91.1.1) then some (((1 : Int), ()), ()) else
  (slices_ContainsFunc_impl_Spot a1 (fun (z93 : ((Vec 2 Int) × Unit)) => (impl_checkSpots_1 z93.1 a0).map fun y => y.1.1)).bind fun y94 =>
  bif y94.1.1 then some (((2 : Int), ()), ()) else some (((0 : Int), ()), ())
noncomputable def impl_checkSpots_sg : Sig := ⟨[.v (.pair (.int .i64) (.pair (.int .i64) (.pair (.list (.int .u8)) (.unit)))), .v (.list (.arr 2 (.int .i16)))], [.v (.val (.int .i64))], false⟩
noncomputable def impl_checkSpots_en : Entry := ⟨impl_checkSpots_sg, fun x => impl_checkSpots x.1 x.2.1⟩
theorem impl_checkSpots_eq (x : impl_checkSpots_sg.dom) : body (env [(60, impl_ValidGrid_en), (65, slices_ContainsFunc_impl_Spot_en), (66, impl_checkSpots_1_en)]) [] Try.f45 impl_checkSpots_sg x = impl_checkSpots x.1 x.2.1 := by kernel_rfl
theorem impl_checkSpots_so : Sound Try.prog 45 impl_checkSpots_en := sound_of_body (envS (l := [(60, impl_ValidGrid_en), (65, slices_ContainsFunc_impl_Spot_en), (66, impl_checkSpots_1_en)]) (⟨impl_ValidGrid_so, slices_ContainsFunc_impl_Spot_so, impl_checkSpots_1_so, trivial⟩)) Try.func45 (by kernel_rfl) rfl (fun x y h => (impl_checkSpots_eq x).trans h)

-- loop.example/g01204/impl.CostAt
noncomputable def impl_CostAt (a0 : (Int × (Int × ((List Int) × Unit)))) (a1 : (Vec 2 Int)) : Option ((Int × Int × Unit) × Unit) :=
  (impl_checkSpots a0 ([a1] : (List (Vec 2 Int)))).bind fun y81 =>
  bif (! (iEq y81.1.1 0)) then some (((0 : Int), y81.1.1, ()), ()) else
  (impl_Grid_at a0 a1).bind fun y83 =>
  bif inB y83.1.1 (List.length a0.2.2.1) then
    some (((List.getD a0.2.2.1 y83.1.1.toNat (0 : Int)), (0 : Int), ()), ())
  else none
noncomputable def impl_CostAt_sg : Sig := ⟨[.v (.pair (.int .i64) (.pair (.int .i64) (.pair (.list (.int .u8)) (.unit)))), .v (.arr 2 (.int .i16))], [.v (.val (.int .u8)), .v (.val (.int .i64))], false⟩
noncomputable def impl_CostAt_en : Entry := ⟨impl_CostAt_sg, fun x => impl_CostAt x.1 x.2.1⟩
theorem impl_CostAt_eq (x : impl_CostAt_sg.dom) : body (env [(45, impl_checkSpots_en), (46, impl_Grid_at_en)]) [] Try.f19 impl_CostAt_sg x = impl_CostAt x.1 x.2.1 := by kernel_rfl
theorem impl_CostAt_so : Sound Try.prog 19 impl_CostAt_en := sound_of_body (envS (l := [(45, impl_checkSpots_en), (46, impl_Grid_at_en)]) (⟨impl_checkSpots_so, impl_Grid_at_so, trivial⟩)) Try.func19 (by kernel_rfl) rfl (fun x y h => (impl_CostAt_eq x).trans h)

-- loop.example/g01204/laws.eqByteS
noncomputable def laws_eqByteS_l4 (a0 : (List Int)) (a1 : (List Int)) (s121 : (Int × Unit)) : Option ((Int × Unit) ⊕ ((Bool × Unit) × Unit)) :=
  bif (iLt s121.1 (lenI a0)) then
    bif inB s121.1 (List.length a0) then
      bif inB s121.1 (List.length a1) then
        bif (! (iEq (List.getD a0 s121.1.toNat (0 : Int)) (List.getD a1 s121.1.toNat (0 : Int)))) then
          Option.map Sum.inr (some ((false, ()), ()))
        else
        some (Sum.inl ((iAdd .i64 s121.1 1), ()))
      else none
    else none
  else
  Option.map Sum.inr (some ((true, ()), ()))
noncomputable def laws_eqByteS (a0 : (List Int)) (a1 : (List Int)) : Option ((Bool × Unit) × Unit) :=
  bif (! (iEq (lenI a0) (lenI a1))) then some ((false, ()), ()) else run (laws_eqByteS_l4 a0 a1) ((0 : Int), ())
noncomputable def laws_eqByteS_sg : Sig := ⟨[.v (.list (.int .u8)), .v (.list (.int .u8))], [.v (.val (.bool))], false⟩
noncomputable def laws_eqByteS_en : Entry := ⟨laws_eqByteS_sg, fun x => laws_eqByteS x.1 x.2.1⟩
theorem laws_eqByteS_eq (x : laws_eqByteS_sg.dom) : body (env []) [(4, .vary [(5, .sc (.int .i64))])] Try.f47 laws_eqByteS_sg x = laws_eqByteS x.1 x.2.1 := by kernel_rfl
theorem laws_eqByteS_so : Sound Try.prog 47 laws_eqByteS_en := sound_of_body (envS (l := []) (trivial)) Try.func47 (by kernel_rfl) rfl (fun x y h => (laws_eqByteS_eq x).trans h)

-- loop.example/g01204/laws.eqGrid
noncomputable def laws_eqGrid (a0 : (Int × (Int × ((List Int) × Unit)))) (a1 : (Int × (Int × ((List Int) × Unit)))) : Option ((Bool × Unit) × Unit) :=
  bif (! (iEq a0.1 a1.1)) then some ((false, ()), ()) else
  bif (! (iEq a0.2.1 a1.2.1)) then some ((false, ()), ()) else
  (laws_eqByteS a0.2.2.1 a1.2.2.1).bind fun y118 =>
  bif (! y118.1.1) then some ((false, ()), ()) else some ((true, ()), ())
noncomputable def laws_eqGrid_sg : Sig := ⟨[.v (.pair (.int .i64) (.pair (.int .i64) (.pair (.list (.int .u8)) (.unit)))), .v (.pair (.int .i64) (.pair (.int .i64) (.pair (.list (.int .u8)) (.unit))))], [.v (.val (.bool))], false⟩
noncomputable def laws_eqGrid_en : Entry := ⟨laws_eqGrid_sg, fun x => laws_eqGrid x.1 x.2.1⟩
theorem laws_eqGrid_eq (x : laws_eqGrid_sg.dom) : body (env [(47, laws_eqByteS_en)]) [] Try.f20 laws_eqGrid_sg x = laws_eqGrid x.1 x.2.1 := by kernel_rfl
theorem laws_eqGrid_so : Sound Try.prog 20 laws_eqGrid_en := sound_of_body (envS (l := [(47, laws_eqByteS_en)]) (⟨laws_eqByteS_so, trivial⟩)) Try.func20 (by kernel_rfl) rfl (fun x y h => (laws_eqGrid_eq x).trans h)

-- loop.example/g01204/laws.szByteS
noncomputable def laws_szByteS (a0 : (List Int)) (a1 : Int) : Option ((Int × Unit) × Unit) :=
  let x129 := iSub .i64 a1 (lenI a0)
  bif (iLt x129 0) then some ((((-1 : Int) : Int), ()), ()) else some ((x129, ()), ())
noncomputable def laws_szByteS_sg : Sig := ⟨[.v (.list (.int .u8)), .v (.int .i64)], [.v (.val (.int .i64))], false⟩
noncomputable def laws_szByteS_en : Entry := ⟨laws_szByteS_sg, fun x => laws_szByteS x.1 x.2.1⟩
theorem laws_szByteS_eq (x : laws_szByteS_sg.dom) : body (env []) [] Try.f41 laws_szByteS_sg x = laws_szByteS x.1 x.2.1 := by kernel_rfl
theorem laws_szByteS_so : Sound Try.prog 41 laws_szByteS_en := sound_of_body (envS (l := []) (trivial)) Try.func41 (by kernel_rfl) rfl (fun x y h => (laws_szByteS_eq x).trans h)

-- loop.example/g01204/laws.szGrid
noncomputable def laws_szGrid (a0 : (Int × (Int × ((List Int) × Unit)))) (a1 : Int) : Option ((Int × Unit) × Unit) :=
  (laws_szByteS a0.2.2.1 a1).bind fun y127 =>
  bif (iLt y127.1.1 0) then some ((((-1 : Int) : Int), ()), ()) else some ((y127.1.1, ()), ())
noncomputable def laws_szGrid_sg : Sig := ⟨[.v (.pair (.int .i64) (.pair (.int .i64) (.pair (.list (.int .u8)) (.unit)))), .v (.int .i64)], [.v (.val (.int .i64))], false⟩
noncomputable def laws_szGrid_en : Entry := ⟨laws_szGrid_sg, fun x => laws_szGrid x.1 x.2.1⟩
theorem laws_szGrid_eq (x : laws_szGrid_sg.dom) : body (env [(41, laws_szByteS_en)]) [] Try.f15 laws_szGrid_sg x = laws_szGrid x.1 x.2.1 := by kernel_rfl
theorem laws_szGrid_so : Sound Try.prog 15 laws_szGrid_en := sound_of_body (envS (l := [(41, laws_szByteS_en)]) (⟨laws_szByteS_so, trivial⟩)) Try.func15 (by kernel_rfl) rfl (fun x y h => (laws_szGrid_eq x).trans h)

-- loop.example/g01204/laws.toByteS
noncomputable def laws_toByteS_l3 (a0 : (List Int)) (s136 : (Int × (List Int) × Unit)) : Option ((Int × (List Int) × Unit) ⊕ (((List Int) × Unit) × Unit)) :=
  bif (iLt s136.1 (lenI a0)) then
    bif inB s136.1 (List.length a0) then
      bif inB s136.1 (List.length s136.2.1) then
        some (Sum.inl ((iAdd .i64 s136.1 1), List.set s136.2.1 s136.1.toNat (List.getD a0 s136.1.toNat (0 : Int)), ()))
      else none
    else none
  else
  Option.map Sum.inr (some ((s136.2.1, ()), ()))
noncomputable def laws_toByteS (a0 : (List Int)) : Option (((List Int) × Unit) × Unit) :=
  bif (iLe 0 (lenI a0) && iLe (lenI a0) (lenI a0) && room (lenI a0).toNat 1) then run (laws_toByteS_l3 a0) ((0 : Int), List.replicate (lenI a0).toNat (0 : Int), ()) else none
noncomputable def laws_toByteS_sg : Sig := ⟨[.v (.list (.int .u8))], [.v (.rows (.int .u8))], false⟩
noncomputable def laws_toByteS_en : Entry := ⟨laws_toByteS_sg, fun x => laws_toByteS x.1⟩
theorem laws_toByteS_eq (x : laws_toByteS_sg.dom) : body (env []) [(3, .vary [(4, .sc (.int .i64)), (3, .mrows (.int .u8))])] Try.f44 laws_toByteS_sg x = laws_toByteS x.1 := by kernel_rfl
theorem laws_toByteS_so : Sound Try.prog 44 laws_toByteS_en := sound_of_body (envS (l := []) (trivial)) Try.func44 (by kernel_rfl) rfl (fun x y h => (laws_toByteS_eq x).trans h)

-- loop.example/g01204/laws.toGrid
noncomputable def laws_toGrid (a0 : (Int × (Int × ((List Int) × Unit)))) : Option (((Int × (Int × ((List Int) × Unit))) × Unit) × Unit) :=
  (laws_toByteS a0.2.2.1).bind fun y131 =>
  some ((((a0.1, a0.2.1, y131.1.1, ()) : (Int × (Int × ((List Int) × Unit)))), ()), ())
noncomputable def laws_toGrid_sg : Sig := ⟨[.v (.pair (.int .i64) (.pair (.int .i64) (.pair (.list (.int .u8)) (.unit))))], [.v (.pair (.val (.int .i64)) (.pair (.val (.int .i64)) (.pair (.rows (.int .u8)) (.val (.unit)))))], false⟩
noncomputable def laws_toGrid_en : Entry := ⟨laws_toGrid_sg, fun x => laws_toGrid x.1⟩
theorem laws_toGrid_eq (x : laws_toGrid_sg.dom) : body (env [(44, laws_toByteS_en)]) [] Try.f17 laws_toGrid_sg x = laws_toGrid x.1 := by kernel_rfl
theorem laws_toGrid_so : Sound Try.prog 17 laws_toGrid_en := sound_of_body (envS (l := [(44, laws_toByteS_en)]) (⟨laws_toByteS_so, trivial⟩)) Try.func17 (by kernel_rfl) rfl (fun x y h => (laws_toGrid_eq x).trans h)

-- loop.example/g01204/laws.toSpot
noncomputable def laws_toSpot (a0 : (Vec 2 Int)) : Option (((Vec 2 Int) × Unit) × Unit) :=
  some (((((Vec.getD 2 a0 0 (0 : Int)), (Vec.getD 2 a0 1 (0 : Int)), ()) : (Vec 2 Int)), ()), ())
noncomputable def laws_toSpot_sg : Sig := ⟨[.v (.arr 2 (.int .i16))], [.v (.val (.arr 2 (.int .i16)))], false⟩
noncomputable def laws_toSpot_en : Entry := ⟨laws_toSpot_sg, fun x => laws_toSpot x.1⟩
theorem laws_toSpot_eq (x : laws_toSpot_sg.dom) : body (env []) [(3, .unroll 3)] Try.f18 laws_toSpot_sg x = laws_toSpot x.1 := by kernel_rfl
theorem laws_toSpot_so : Sound Try.prog 18 laws_toSpot_en := sound_of_body (envS (l := []) (trivial)) Try.func18 (by kernel_rfl) rfl (fun x y h => (laws_toSpot_eq x).trans h)

-- loop.example/g01204/spec.l07Ok
noncomputable def spec_l07Ok (a0 : (Int × (Int × ((List Int) × Unit)))) : Option ((Bool × Unit) × Unit) :=
  (spec_l00In a0.1 (1 : Int) (24 : Int)).bind fun y154 =>
  bif y154.1.1 then
    (spec_l00In a0.2.1 (1 : Int) (24 : Int)).bind fun y155 =>
    bif y155.1.1 then
      some (((iEq (lenI a0.2.2.1) (iMul .i64 a0.1 a0.2.1)), ()), ())
    else some ((false, ()), ())
  else some ((false, ()), ())
noncomputable def spec_l07Ok_sg : Sig := ⟨[.ro (.pair (.int .i64) (.pair (.int .i64) (.pair (.list (.int .u8)) (.unit))))], [.v (.val (.bool))], false⟩
noncomputable def spec_l07Ok_en : Entry := ⟨spec_l07Ok_sg, fun x => spec_l07Ok x.1⟩
theorem spec_l07Ok_eq (x : spec_l07Ok_sg.dom) : body (env [(57, spec_l00In_en)]) [] Try.f56 spec_l07Ok_sg x = spec_l07Ok x.1 := by kernel_rfl
theorem spec_l07Ok_so : Sound Try.prog 56 spec_l07Ok_en := sound_of_body (envS (l := [(57, spec_l00In_en)]) (⟨spec_l00In_so, trivial⟩)) Try.func56 (by kernel_rfl) rfl (fun x y h => (spec_l07Ok_eq x).trans h)

-- loop.example/g01204/spec.l07At
noncomputable def spec_l07At (a0 : (Int × (Int × ((List Int) × Unit)))) (a1 : Int) (a2 : Int) : Option ((Bool × Unit) × Unit) :=
  (spec_l00In a1 (0 : Int) (iSub .i64 a0.1 1)).bind fun y164 =>
  bif y164.1.1 then
    (spec_l00In a2 (0 : Int) (iSub .i64 a0.2.1 1)).bind fun y166 =>
    some ((y166.1.1, ()), ())
  else some ((false, ()), ())
noncomputable def spec_l07At_sg : Sig := ⟨[.ro (.pair (.int .i64) (.pair (.int .i64) (.pair (.list (.int .u8)) (.unit)))), .v (.int .i64), .v (.int .i64)], [.v (.val (.bool))], false⟩
noncomputable def spec_l07At_en : Entry := ⟨spec_l07At_sg, fun x => spec_l07At x.1 x.2.1 x.2.2.1⟩
theorem spec_l07At_eq (x : spec_l07At_sg.dom) : body (env [(57, spec_l00In_en)]) [] Try.f70 spec_l07At_sg x = spec_l07At x.1 x.2.1 x.2.2.1 := by kernel_rfl
theorem spec_l07At_so : Sound Try.prog 70 spec_l07At_en := sound_of_body (envS (l := [(57, spec_l00In_en)]) (⟨spec_l00In_so, trivial⟩)) Try.func70 (by kernel_rfl) rfl (fun x y h => (spec_l07At_eq x).trans h)

-- loop.example/g01204/spec.l07Spot
noncomputable def spec_l07Spot (a0 : (Int × (Int × ((List Int) × Unit)))) (a1 : (Vec 2 Int)) : Option ((Bool × Unit) × Unit) :=
  (spec_l07At a0 (iWrap .i64 (Vec.getD 2 a1 0 (0 : Int))) (iWrap .i64 (Vec.getD 2 a1 1 (0 : Int)))).bind fun y162 =>
  some ((y162.1.1, ()), ())
noncomputable def spec_l07Spot_sg : Sig := ⟨[.ro (.pair (.int .i64) (.pair (.int .i64) (.pair (.list (.int .u8)) (.unit)))), .v (.arr 2 (.int .i16))], [.v (.val (.bool))], false⟩
noncomputable def spec_l07Spot_en : Entry := ⟨spec_l07Spot_sg, fun x => spec_l07Spot x.1 x.2.1⟩
theorem spec_l07Spot_eq (x : spec_l07Spot_sg.dom) : body (env [(70, spec_l07At_en)]) [] Try.f64 spec_l07Spot_sg x = spec_l07Spot x.1 x.2.1 := by kernel_rfl
theorem spec_l07Spot_so : Sound Try.prog 64 spec_l07Spot_en := sound_of_body (envS (l := [(70, spec_l07At_en)]) (⟨spec_l07At_so, trivial⟩)) Try.func64 (by kernel_rfl) rfl (fun x y h => (spec_l07Spot_eq x).trans h)

-- loop.example/g01204/spec.l07Asked
noncomputable def spec_l07Asked_l4 (a1 : (List (Vec 2 Int))) (a0 : (Int × (Int × ((List Int) × Unit)))) (s148 : (Int × Unit)) : Option ((Int × Unit) ⊕ ((Int × Unit) × Unit)) :=
  bif (iLt s148.1 (lenI a1)) then
    bif inB s148.1 (List.length a1) then
      (spec_l07Spot a0 (List.getD a1 s148.1.toNat ((0, 0, ()) : (Vec 2 Int)))).bind fun y151 =>
      bif (! y151.1.1) then
        Option.map Sum.inr (some (((2 : Int), ()), ()))
      else
      some (Sum.inl ((iAdd .i64 s148.1 1), ()))
    else none
  else
  Option.map Sum.inr (some (((0 : Int), ()), ()))
noncomputable def spec_l07Asked (a0 : (Int × (Int × ((List Int) × Unit)))) (a1 : (List (Vec 2 Int))) : Option ((Int × Unit) × Unit) :=
  (spec_l07Ok a0).bind fun y146 =>
  bif (! y146.1.1) then some (((1 : Int), ()), ()) else run (spec_l07Asked_l4 a1 a0) ((0 : Int), ())
noncomputable def spec_l07Asked_sg : Sig := ⟨[.ro (.pair (.int .i64) (.pair (.int .i64) (.pair (.list (.int .u8)) (.unit)))), .v (.list (.arr 2 (.int .i16)))], [.v (.val (.int .i64))], false⟩
noncomputable def spec_l07Asked_en : Entry := ⟨spec_l07Asked_sg, fun x => spec_l07Asked x.1 x.2.1⟩
theorem spec_l07Asked_eq (x : spec_l07Asked_sg.dom) : body (env [(56, spec_l07Ok_en), (64, spec_l07Spot_en)]) [(4, .vary [(5, .sc (.int .i64))])] Try.f42 spec_l07Asked_sg x = spec_l07Asked x.1 x.2.1 := by kernel_rfl
theorem spec_l07Asked_so : Sound Try.prog 42 spec_l07Asked_en := sound_of_body (envS (l := [(56, spec_l07Ok_en), (64, spec_l07Spot_en)]) (⟨spec_l07Ok_so, spec_l07Spot_so, trivial⟩)) Try.func42 (by kernel_rfl) rfl (fun x y h => (spec_l07Asked_eq x).trans h)

-- loop.example/g01204/spec.l07Index
noncomputable def spec_l07Index (a0 : (Int × (Int × ((List Int) × Unit)))) (a1 : (Vec 2 Int)) : Option ((Int × Unit) × Unit) :=
  some (((iAdd .i64 (iMul .i64 (iWrap .i64 (Vec.getD 2 a1 1 (0 : Int))) a0.1) (iWrap .i64 (Vec.getD 2 a1 0 (0 : Int)))), ()), ())
noncomputable def spec_l07Index_sg : Sig := ⟨[.ro (.pair (.int .i64) (.pair (.int .i64) (.pair (.list (.int .u8)) (.unit)))), .v (.arr 2 (.int .i16))], [.v (.val (.int .i64))], false⟩
noncomputable def spec_l07Index_en : Entry := ⟨spec_l07Index_sg, fun x => spec_l07Index x.1 x.2.1⟩
theorem spec_l07Index_eq (x : spec_l07Index_sg.dom) : body (env []) [] Try.f43 spec_l07Index_sg x = spec_l07Index x.1 x.2.1 := by kernel_rfl
theorem spec_l07Index_so : Sound Try.prog 43 spec_l07Index_en := sound_of_body (envS (l := []) (trivial)) Try.func43 (by kernel_rfl) rfl (fun x y h => (spec_l07Index_eq x).trans h)

-- loop.example/g01204/spec.CostAt
noncomputable def spec_CostAt (a0 : (Int × (Int × ((List Int) × Unit)))) (a1 : (Vec 2 Int)) : Option ((Int × Int × Unit) × Unit) :=
  (spec_l07Asked a0 ([a1] : (List (Vec 2 Int)))).bind fun y142 =>
  bif (! (iEq y142.1.1 0)) then some (((0 : Int), y142.1.1, ()), ()) else
  (spec_l07Index a0 a1).bind fun y144 =>
  bif inB y144.1.1 (List.length a0.2.2.1) then
    some (((List.getD a0.2.2.1 y144.1.1.toNat (0 : Int)), (0 : Int), ()), ())
  else none
noncomputable def spec_CostAt_sg : Sig := ⟨[.v (.pair (.int .i64) (.pair (.int .i64) (.pair (.list (.int .u8)) (.unit)))), .v (.arr 2 (.int .i16))], [.v (.val (.int .u8)), .v (.val (.int .i64))], false⟩
noncomputable def spec_CostAt_en : Entry := ⟨spec_CostAt_sg, fun x => spec_CostAt x.1 x.2.1⟩
theorem spec_CostAt_eq (x : spec_CostAt_sg.dom) : body (env [(42, spec_l07Asked_en), (43, spec_l07Index_en)]) [] Try.f16 spec_CostAt_sg x = spec_CostAt x.1 x.2.1 := by kernel_rfl
theorem spec_CostAt_so : Sound Try.prog 16 spec_CostAt_en := sound_of_body (envS (l := [(42, spec_l07Asked_en), (43, spec_l07Index_en)]) (⟨spec_l07Asked_so, spec_l07Index_so, trivial⟩)) Try.func16 (by kernel_rfl) rfl (fun x y h => (spec_CostAt_eq x).trans h)

-- loop.example/g01204/laws.FnExactCostAt
noncomputable def laws_FnExactCostAt (a0 : (Int × (Int × ((List Int) × Unit)))) (a1 : (Vec 2 Int)) : Option ((Bool × Unit) × Unit) :=
  (laws_szGrid a0 (1048576 : Int)).bind fun y68 =>
  bif (iLt y68.1.1 0) then some ((true, ()), ()) else
  (laws_toGrid a0).bind fun y70 =>
  (laws_toSpot a1).bind fun y71 =>
  (spec_CostAt ((y70.1.1.1, y70.1.1.2.1, y70.1.1.2.2.1, y70.1.1.2.2.2) : (Int × (Int × ((List Int) × Unit)))) y71.1.1).bind fun y72 =>
  (laws_toGrid a0).bind fun y73 =>
  (laws_toSpot a1).bind fun y74 =>
  (impl_CostAt ((y73.1.1.1, y73.1.1.2.1, y73.1.1.2.2.1, y73.1.1.2.2.2) : (Int × (Int × ((List Int) × Unit)))) y74.1.1).bind fun y75 =>
  bif (! (iEq y75.1.1 y72.1.1)) then some ((false, ()), ()) else
  bif (! (iEq y75.1.2.1 y72.1.2.1)) then some ((false, ()), ()) else
  (laws_toGrid a0).bind fun y78 =>
  (laws_eqGrid ((y73.1.1.1, y73.1.1.2.1, y73.1.1.2.2.1, y73.1.1.2.2.2) : (Int × (Int × ((List Int) × Unit)))) ((y78.1.1.1, y78.1.1.2.1, y78.1.1.2.2.1, y78.1.1.2.2.2) : (Int × (Int × ((List Int) × Unit))))).bind fun y79 =>
  bif (! y79.1.1) then some ((false, ()), ()) else some ((true, ()), ())
noncomputable def laws_FnExactCostAt_sg : Sig := ⟨[.v (.pair (.int .i64) (.pair (.int .i64) (.pair (.list (.int .u8)) (.unit)))), .v (.arr 2 (.int .i16))], [.v (.val (.bool))], false⟩
noncomputable def laws_FnExactCostAt_en : Entry := ⟨laws_FnExactCostAt_sg, fun x => laws_FnExactCostAt x.1 x.2.1⟩
theorem laws_FnExactCostAt_eq (x : laws_FnExactCostAt_sg.dom) : body (env [(15, laws_szGrid_en), (16, spec_CostAt_en), (17, laws_toGrid_en), (18, laws_toSpot_en), (19, impl_CostAt_en), (20, laws_eqGrid_en)]) [] Try.f5 laws_FnExactCostAt_sg x = laws_FnExactCostAt x.1 x.2.1 := by kernel_rfl
theorem laws_FnExactCostAt_so : Sound Try.prog 5 laws_FnExactCostAt_en := sound_of_body (envS (l := [(15, laws_szGrid_en), (16, spec_CostAt_en), (17, laws_toGrid_en), (18, laws_toSpot_en), (19, impl_CostAt_en), (20, laws_eqGrid_en)]) (⟨laws_szGrid_so, spec_CostAt_so, laws_toGrid_so, laws_toSpot_so, impl_CostAt_so, laws_eqGrid_so, trivial⟩)) Try.func5 (by kernel_rfl) rfl (fun x y h => (laws_FnExactCostAt_eq x).trans h)

-- loop.example/g01204/impl.isFinite
noncomputable def impl_isFinite_l2 (a0 : (List Nat)) (s227 : (Int × Unit)) : Option ((Int × Unit) ⊕ ((Bool × Unit) × Unit)) :=
  bif (iLt s227.1 (lenI a0)) then
    bif inB s227.1 (List.length a0) then
      let x229 := List.getD a0 s227.1.toNat (0 : Nat)
      bif (! (fEq .f32 (fSub .f32 x229 x229) 0)) then
        Option.map Sum.inr (some ((false, ()), ()))
      else
      some (Sum.inl ((iAdd .i64 s227.1 1), ()))
    else none
  else
  Option.map Sum.inr (some ((true, ()), ()))
noncomputable def impl_isFinite (a0 : (List Nat)) : Option ((Bool × Unit) × Unit) :=
  run (impl_isFinite_l2 a0) ((0 : Int), ())
noncomputable def impl_isFinite_sg : Sig := ⟨[.v (.list (.flt .f32))], [.v (.val (.bool))], false⟩
noncomputable def impl_isFinite_en : Entry := ⟨impl_isFinite_sg, fun x => impl_isFinite x.1⟩
theorem impl_isFinite_eq (x : impl_isFinite_sg.dom) : body (env []) [(2, .vary [(7, .sc (.int .i64))])] Try.f49 impl_isFinite_sg x = impl_isFinite x.1 := by kernel_rfl
theorem impl_isFinite_so : Sound Try.prog 49 impl_isFinite_en := sound_of_body (envS (l := []) (trivial)) Try.func49 (by kernel_rfl) rfl (fun x y h => (impl_isFinite_eq x).trans h)

-- loop.example/g01204/impl.PointsOf
noncomputable def impl_PointsOf_l5 (a0 : (List (Vec 2 Int))) (a1 : (Vec 2 Nat)) (a2 : Nat) (s210 : ((List (Vec 2 Nat)) × Int × Unit)) : Option (((List (Vec 2 Nat)) × Int × Unit) ⊕ (((List (Vec 2 Nat)) × Int × Unit) × Unit)) :=
  bif (iLt s210.2.1 (lenI a0)) then
    bif inB s210.2.1 (List.length a0) then
      let x212 := List.getD a0 s210.2.1.toNat ((0, 0, ()) : (Vec 2 Int))
      bif room (List.length s210.1 + 1) 8 then
        some (Sum.inl ((s210.1 ++ ([((fAdd .f32 (Vec.getD 2 a1 0 (0 : Nat)) (fMul .f32 a2 (fAdd .f32 (fOfInt .f32 (Vec.getD 2 x212 0 (0 : Int))) 1056964608))), (fAdd .f32 (Vec.getD 2 a1 1 (0 : Nat)) (fMul .f32 a2 (fAdd .f32 (fOfInt .f32 (Vec.getD 2 x212 1 (0 : Int))) 1056964608))), ())] : (List (Vec 2 Nat)))), (iAdd .i64 s210.2.1 1), ()))
      else none
    else none
  else
  Option.map Sum.inr (some ((s210.1, (0 : Int), ()), ()))
noncomputable def impl_PointsOf (a0 : (List (Vec 2 Int))) (a1 : (Vec 2 Nat)) (a2 : Nat) : Option (((List (Vec 2 Nat)) × Int × Unit) × Unit) :=
  (impl_isFinite ([Vec.getD 2 a1 0 (0 : Nat), Vec.getD 2 a1 1 (0 : Nat)] : (List Nat))).bind fun y205 =>
  bif (! y205.1.1) then some ((([] : (List (Vec 2 Nat))), (2 : Int), ()), ()) else
  (impl_isFinite ([a2] : (List Nat))).bind fun y207 =>
  bif (! y207.1.1) then some ((([] : (List (Vec 2 Nat))), (2 : Int), ()), ()) else
  bif (iLt 600 (lenI a0)) then some ((([] : (List (Vec 2 Nat))), (2 : Int), ()), ()) else run (impl_PointsOf_l5 a0 a1 a2) (([] : (List (Vec 2 Nat))), (0 : Int), ())
noncomputable def impl_PointsOf_sg : Sig := ⟨[.v (.list (.arr 2 (.int .i16))), .v (.arr 2 (.flt .f32)), .v (.flt .f32)], [.v (.rows (.arr 2 (.flt .f32))), .v (.val (.int .i64))], false⟩
noncomputable def impl_PointsOf_en : Entry := ⟨impl_PointsOf_sg, fun x => impl_PointsOf x.1 x.2.1 x.2.2.1⟩
theorem impl_PointsOf_eq (x : impl_PointsOf_sg.dom) : body (env [(49, impl_isFinite_en)]) [(5, .vary [(8, .rows (.arr 2 (.flt .f32))), (30, .sc (.int .i64))]), (9, .unroll 3)] Try.f25 impl_PointsOf_sg x = impl_PointsOf x.1 x.2.1 x.2.2.1 := by kernel_rfl
theorem impl_PointsOf_so : Sound Try.prog 25 impl_PointsOf_en := sound_of_body (envS (l := [(49, impl_isFinite_en)]) (⟨impl_isFinite_so, trivial⟩)) Try.func25 (by kernel_rfl) rfl (fun x y h => (impl_PointsOf_eq x).trans h)

-- loop.example/g01204/laws.eqFloat32A2
noncomputable def laws_eqFloat32A2 (a0 : (Vec 2 Nat)) (a1 : (Vec 2 Nat)) : Option ((Bool × Unit) × Unit) :=
  (fConv .f32 .f64 (Vec.getD 2 a0 0 (0 : Nat))).bind fun y242 =>
  (fConv .f32 .f64 (Vec.getD 2 a1 0 (0 : Nat))).bind fun y244 =>
  (laws_sameFloat y242 y244).bind fun y245 =>
  bif (! y245.1.1) then some ((false, ()), ()) else
  (fConv .f32 .f64 (Vec.getD 2 a0 1 (0 : Nat))).bind fun y248 =>
  (fConv .f32 .f64 (Vec.getD 2 a1 1 (0 : Nat))).bind fun y250 =>
  (laws_sameFloat y248 y250).bind fun y251 =>
  bif (! y251.1.1) then some ((false, ()), ()) else some ((true, ()), ())
noncomputable def laws_eqFloat32A2_sg : Sig := ⟨[.v (.arr 2 (.flt .f32)), .v (.arr 2 (.flt .f32))], [.v (.val (.bool))], false⟩
noncomputable def laws_eqFloat32A2_en : Entry := ⟨laws_eqFloat32A2_sg, fun x => laws_eqFloat32A2 x.1 x.2.1⟩
theorem laws_eqFloat32A2_eq (x : laws_eqFloat32A2_sg.dom) : body (env [(63, laws_sameFloat_en)]) [(2, .unroll 3)] Try.f50 laws_eqFloat32A2_sg x = laws_eqFloat32A2 x.1 x.2.1 := by kernel_rfl
theorem laws_eqFloat32A2_so : Sound Try.prog 50 laws_eqFloat32A2_en := sound_of_body (envS (l := [(63, laws_sameFloat_en)]) (⟨laws_sameFloat_so, trivial⟩)) Try.func50 (by kernel_rfl) rfl (fun x y h => (laws_eqFloat32A2_eq x).trans h)

-- loop.example/g01204/laws.eqFloat32A2S
noncomputable def laws_eqFloat32A2S_l4 (a0 : (List (Vec 2 Nat))) (a1 : (List (Vec 2 Nat))) (s234 : (Int × Unit)) : Option ((Int × Unit) ⊕ ((Bool × Unit) × Unit)) :=
  bif (iLt s234.1 (lenI a0)) then
    bif inB s234.1 (List.length a0) then
      bif inB s234.1 (List.length a1) then
        (laws_eqFloat32A2 (List.getD a0 s234.1.toNat ((0, 0, ()) : (Vec 2 Nat))) (List.getD a1 s234.1.toNat ((0, 0, ()) : (Vec 2 Nat)))).bind fun y238 =>
        bif (! y238.1.1) then
          Option.map Sum.inr (some ((false, ()), ()))
        else
        some (Sum.inl ((iAdd .i64 s234.1 1), ()))
      else none
    else none
  else
  Option.map Sum.inr (some ((true, ()), ()))
noncomputable def laws_eqFloat32A2S (a0 : (List (Vec 2 Nat))) (a1 : (List (Vec 2 Nat))) : Option ((Bool × Unit) × Unit) :=
  bif (! (iEq (lenI a0) (lenI a1))) then some ((false, ()), ()) else run (laws_eqFloat32A2S_l4 a0 a1) ((0 : Int), ())
noncomputable def laws_eqFloat32A2S_sg : Sig := ⟨[.v (.list (.arr 2 (.flt .f32))), .v (.list (.arr 2 (.flt .f32)))], [.v (.val (.bool))], false⟩
noncomputable def laws_eqFloat32A2S_en : Entry := ⟨laws_eqFloat32A2S_sg, fun x => laws_eqFloat32A2S x.1 x.2.1⟩
theorem laws_eqFloat32A2S_eq (x : laws_eqFloat32A2S_sg.dom) : body (env [(50, laws_eqFloat32A2_en)]) [(4, .vary [(5, .sc (.int .i64))])] Try.f26 laws_eqFloat32A2S_sg x = laws_eqFloat32A2S x.1 x.2.1 := by kernel_rfl
theorem laws_eqFloat32A2S_so : Sound Try.prog 26 laws_eqFloat32A2S_en := sound_of_body (envS (l := [(50, laws_eqFloat32A2_en)]) (⟨laws_eqFloat32A2_so, trivial⟩)) Try.func26 (by kernel_rfl) rfl (fun x y h => (laws_eqFloat32A2S_eq x).trans h)

-- loop.example/g01204/laws.eqSpot
noncomputable def laws_eqSpot (a0 : (Vec 2 Int)) (a1 : (Vec 2 Int)) : Option ((Bool × Unit) × Unit) :=
  bif (! (iEq (Vec.getD 2 a0 0 (0 : Int)) (Vec.getD 2 a1 0 (0 : Int)))) then some ((false, ()), ()) else
  bif (! (iEq (Vec.getD 2 a0 1 (0 : Int)) (Vec.getD 2 a1 1 (0 : Int)))) then some ((false, ()), ()) else some ((true, ()), ())
noncomputable def laws_eqSpot_sg : Sig := ⟨[.v (.arr 2 (.int .i16)), .v (.arr 2 (.int .i16))], [.v (.val (.bool))], false⟩
noncomputable def laws_eqSpot_en : Entry := ⟨laws_eqSpot_sg, fun x => laws_eqSpot x.1 x.2.1⟩
theorem laws_eqSpot_eq (x : laws_eqSpot_sg.dom) : body (env []) [(2, .unroll 3)] Try.f51 laws_eqSpot_sg x = laws_eqSpot x.1 x.2.1 := by kernel_rfl
theorem laws_eqSpot_so : Sound Try.prog 51 laws_eqSpot_en := sound_of_body (envS (l := []) (trivial)) Try.func51 (by kernel_rfl) rfl (fun x y h => (laws_eqSpot_eq x).trans h)

-- loop.example/g01204/laws.eqSpotS
noncomputable def laws_eqSpotS_l4 (a0 : (List (Vec 2 Int))) (a1 : (List (Vec 2 Int))) (s254 : (Int × Unit)) : Option ((Int × Unit) ⊕ ((Bool × Unit) × Unit)) :=
  bif (iLt s254.1 (lenI a0)) then
    bif inB s254.1 (List.length a0) then
      bif inB s254.1 (List.length a1) then
        (laws_eqSpot (List.getD a0 s254.1.toNat ((0, 0, ()) : (Vec 2 Int))) (List.getD a1 s254.1.toNat ((0, 0, ()) : (Vec 2 Int)))).bind fun y258 =>
        bif (! y258.1.1) then
          Option.map Sum.inr (some ((false, ()), ()))
        else
        some (Sum.inl ((iAdd .i64 s254.1 1), ()))
      else none
    else none
  else
  Option.map Sum.inr (some ((true, ()), ()))
noncomputable def laws_eqSpotS (a0 : (List (Vec 2 Int))) (a1 : (List (Vec 2 Int))) : Option ((Bool × Unit) × Unit) :=
  bif (! (iEq (lenI a0) (lenI a1))) then some ((false, ()), ()) else run (laws_eqSpotS_l4 a0 a1) ((0 : Int), ())
noncomputable def laws_eqSpotS_sg : Sig := ⟨[.v (.list (.arr 2 (.int .i16))), .v (.list (.arr 2 (.int .i16)))], [.v (.val (.bool))], false⟩
noncomputable def laws_eqSpotS_en : Entry := ⟨laws_eqSpotS_sg, fun x => laws_eqSpotS x.1 x.2.1⟩
theorem laws_eqSpotS_eq (x : laws_eqSpotS_sg.dom) : body (env [(51, laws_eqSpot_en)]) [(4, .vary [(5, .sc (.int .i64))])] Try.f27 laws_eqSpotS_sg x = laws_eqSpotS x.1 x.2.1 := by kernel_rfl
theorem laws_eqSpotS_so : Sound Try.prog 27 laws_eqSpotS_en := sound_of_body (envS (l := [(51, laws_eqSpot_en)]) (⟨laws_eqSpot_so, trivial⟩)) Try.func27 (by kernel_rfl) rfl (fun x y h => (laws_eqSpotS_eq x).trans h)

-- loop.example/g01204/laws.heldFloat32A2S
noncomputable def laws_heldFloat32A2S_l2 (a0 : (List (Vec 2 Nat))) (s267 : (Int × Int × Unit)) : Option ((Int × Int × Unit) ⊕ ((Int × Unit) × Unit)) :=
  bif (iLt s267.2.1 (lenI a0)) then
    bif inB s267.2.1 (List.length a0) then
      bif (! (fEq .f32 (Vec.getD 2 (List.getD a0 s267.2.1.toNat ((0, 0, ()) : (Vec 2 Nat))) 0 (0 : Nat)) (fOfInt .f32 s267.1))) then
        Option.map Sum.inr (some ((((-1 : Int) : Int), ()), ()))
      else
      let x272 := iAdd .i64 s267.1 1
      bif inB s267.2.1 (List.length a0) then
        bif (! (fEq .f32 (Vec.getD 2 (List.getD a0 s267.2.1.toNat ((0, 0, ()) : (Vec 2 Nat))) 1 (0 : Nat)) (fOfInt .f32 x272))) then
          Option.map Sum.inr (some ((((-1 : Int) : Int), ()), ()))
        else
        some (Sum.inl ((iAdd .i64 x272 1), (iAdd .i64 s267.2.1 1), ()))
      else none
    else none
  else
  Option.map Sum.inr (some ((s267.1, ()), ()))
noncomputable def laws_heldFloat32A2S (a0 : (List (Vec 2 Nat))) (a1 : Int) : Option ((Int × Unit) × Unit) :=
  run (laws_heldFloat32A2S_l2 a0) (a1, (0 : Int), ())
noncomputable def laws_heldFloat32A2S_sg : Sig := ⟨[.v (.list (.arr 2 (.flt .f32))), .v (.int .i64)], [.v (.val (.int .i64))], false⟩
noncomputable def laws_heldFloat32A2S_en : Entry := ⟨laws_heldFloat32A2S_sg, fun x => laws_heldFloat32A2S x.1 x.2.1⟩
theorem laws_heldFloat32A2S_eq (x : laws_heldFloat32A2S_sg.dom) : body (env []) [(2, .vary [(1, .sc (.int .i64)), (5, .sc (.int .i64))]), (5, .unroll 3)] Try.f30 laws_heldFloat32A2S_sg x = laws_heldFloat32A2S x.1 x.2.1 := by kernel_rfl
theorem laws_heldFloat32A2S_so : Sound Try.prog 30 laws_heldFloat32A2S_en := sound_of_body (envS (l := []) (trivial)) Try.func30 (by kernel_rfl) rfl (fun x y h => (laws_heldFloat32A2S_eq x).trans h)

-- loop.example/g01204/laws.markFloat32A2S
noncomputable def laws_markFloat32A2S_l2 (s285 : (Int × Int × (List (Vec 2 Nat)) × Unit)) : Option ((Int × Int × (List (Vec 2 Nat)) × Unit) ⊕ ((Int × Unit) × ((List (Vec 2 Nat)) × Unit))) :=
  bif (iLt s285.2.1 (lenI s285.2.2.1)) then
    let x287 := fOfInt .f32 s285.1
    bif inB s285.2.1 (List.length s285.2.2.1) then
      let x288 := iAdd .i64 s285.1 1
      bif inB s285.2.1 (List.length (List.set s285.2.2.1 s285.2.1.toNat (Vec.set 2 (List.getD s285.2.2.1 s285.2.1.toNat ((0, 0, ()) : (Vec 2 Nat))) 0 x287))) then
        some (Sum.inl ((iAdd .i64 x288 1), (iAdd .i64 s285.2.1 1), List.set (List.set s285.2.2.1 s285.2.1.toNat (Vec.set 2 (List.getD s285.2.2.1 s285.2.1.toNat ((0, 0, ()) : (Vec 2 Nat))) 0 x287)) s285.2.1.toNat (Vec.set 2 (List.getD (List.set s285.2.2.1 s285.2.1.toNat (Vec.set 2 (List.getD s285.2.2.1 s285.2.1.toNat ((0, 0, ()) : (Vec 2 Nat))) 0 x287)) s285.2.1.toNat ((0, 0, ()) : (Vec 2 Nat))) 1 (fOfInt .f32 x288)), ()))
      else none
    else none
  else
  Option.map Sum.inr (some ((s285.1, ()), (s285.2.2.1, ())))
noncomputable def laws_markFloat32A2S (a0 : (List (Vec 2 Nat))) (a1 : Int) : Option ((Int × Unit) × ((List (Vec 2 Nat)) × Unit)) :=
  run (laws_markFloat32A2S_l2) (a1, (0 : Int), a0, ())
noncomputable def laws_markFloat32A2S_sg : Sig := ⟨[.mv (.rows (.arr 2 (.flt .f32))), .v (.int .i64)], [.v (.val (.int .i64))], false⟩
noncomputable def laws_markFloat32A2S_en : Entry := ⟨laws_markFloat32A2S_sg, fun x => laws_markFloat32A2S x.1 x.2.1⟩
theorem laws_markFloat32A2S_eq (x : laws_markFloat32A2S_sg.dom) : body (env []) [(2, .vary [(1, .sc (.int .i64)), (5, .sc (.int .i64)), (0, .mrows (.arr 2 (.flt .f32)))]), (5, .unroll 3)] Try.f29 laws_markFloat32A2S_sg x = laws_markFloat32A2S x.1 x.2.1 := by kernel_rfl
theorem laws_markFloat32A2S_so : Sound Try.prog 29 laws_markFloat32A2S_en := sound_of_body (envS (l := []) (trivial)) Try.func29 (by kernel_rfl) rfl (fun x y h => (laws_markFloat32A2S_eq x).trans h)

-- loop.example/g01204/laws.markSpotS
noncomputable def laws_markSpotS_l2 (s299 : (Int × Int × (List (Vec 2 Int)) × Unit)) : Option ((Int × Int × (List (Vec 2 Int)) × Unit) ⊕ ((Int × Unit) × ((List (Vec 2 Int)) × Unit))) :=
  bif (iLt s299.2.1 (lenI s299.2.2.1)) then
    let x301 := iWrap .i16 s299.1
    bif inB s299.2.1 (List.length s299.2.2.1) then
      let x302 := iAdd .i64 s299.1 1
      bif inB s299.2.1 (List.length (List.set s299.2.2.1 s299.2.1.toNat (Vec.set 2 (List.getD s299.2.2.1 s299.2.1.toNat ((0, 0, ()) : (Vec 2 Int))) 0 x301))) then
        some (Sum.inl ((iAdd .i64 x302 1), (iAdd .i64 s299.2.1 1), List.set (List.set s299.2.2.1 s299.2.1.toNat (Vec.set 2 (List.getD s299.2.2.1 s299.2.1.toNat ((0, 0, ()) : (Vec 2 Int))) 0 x301)) s299.2.1.toNat (Vec.set 2 (List.getD (List.set s299.2.2.1 s299.2.1.toNat (Vec.set 2 (List.getD s299.2.2.1 s299.2.1.toNat ((0, 0, ()) : (Vec 2 Int))) 0 x301)) s299.2.1.toNat ((0, 0, ()) : (Vec 2 Int))) 1 (iWrap .i16 x302)), ()))
      else none
    else none
  else
  Option.map Sum.inr (some ((s299.1, ()), (s299.2.2.1, ())))
noncomputable def laws_markSpotS (a0 : (List (Vec 2 Int))) (a1 : Int) : Option ((Int × Unit) × ((List (Vec 2 Int)) × Unit)) :=
  run (laws_markSpotS_l2) (a1, (0 : Int), a0, ())
noncomputable def laws_markSpotS_sg : Sig := ⟨[.mv (.rows (.arr 2 (.int .i16))), .v (.int .i64)], [.v (.val (.int .i64))], false⟩
noncomputable def laws_markSpotS_en : Entry := ⟨laws_markSpotS_sg, fun x => laws_markSpotS x.1 x.2.1⟩
theorem laws_markSpotS_eq (x : laws_markSpotS_sg.dom) : body (env []) [(2, .vary [(1, .sc (.int .i64)), (5, .sc (.int .i64)), (0, .mrows (.arr 2 (.int .i16)))]), (5, .unroll 3)] Try.f28 laws_markSpotS_sg x = laws_markSpotS x.1 x.2.1 := by kernel_rfl
theorem laws_markSpotS_so : Sound Try.prog 28 laws_markSpotS_en := sound_of_body (envS (l := []) (trivial)) Try.func28 (by kernel_rfl) rfl (fun x y h => (laws_markSpotS_eq x).trans h)

-- loop.example/g01204/laws.szSpotS
noncomputable def laws_szSpotS (a0 : (List (Vec 2 Int))) (a1 : Int) : Option ((Int × Unit) × Unit) :=
  let x306 := iSub .i64 a1 (lenI a0)
  bif (iLt x306 0) then some ((((-1 : Int) : Int), ()), ()) else some ((x306, ()), ())
noncomputable def laws_szSpotS_sg : Sig := ⟨[.v (.list (.arr 2 (.int .i16))), .v (.int .i64)], [.v (.val (.int .i64))], false⟩
noncomputable def laws_szSpotS_en : Entry := ⟨laws_szSpotS_sg, fun x => laws_szSpotS x.1 x.2.1⟩
theorem laws_szSpotS_eq (x : laws_szSpotS_sg.dom) : body (env []) [] Try.f21 laws_szSpotS_sg x = laws_szSpotS x.1 x.2.1 := by kernel_rfl
theorem laws_szSpotS_so : Sound Try.prog 21 laws_szSpotS_en := sound_of_body (envS (l := []) (trivial)) Try.func21 (by kernel_rfl) rfl (fun x y h => (laws_szSpotS_eq x).trans h)

-- loop.example/g01204/laws.toFloat32A2
noncomputable def laws_toFloat32A2 (a0 : (Vec 2 Nat)) : Option (((Vec 2 Nat) × Unit) × Unit) :=
  some (((((Vec.getD 2 a0 0 (0 : Nat)), (Vec.getD 2 a0 1 (0 : Nat)), ()) : (Vec 2 Nat)), ()), ())
noncomputable def laws_toFloat32A2_sg : Sig := ⟨[.v (.arr 2 (.flt .f32))], [.v (.val (.arr 2 (.flt .f32)))], false⟩
noncomputable def laws_toFloat32A2_en : Entry := ⟨laws_toFloat32A2_sg, fun x => laws_toFloat32A2 x.1⟩
theorem laws_toFloat32A2_eq (x : laws_toFloat32A2_sg.dom) : body (env []) [(3, .unroll 3)] Try.f24 laws_toFloat32A2_sg x = laws_toFloat32A2 x.1 := by kernel_rfl
theorem laws_toFloat32A2_so : Sound Try.prog 24 laws_toFloat32A2_en := sound_of_body (envS (l := []) (trivial)) Try.func24 (by kernel_rfl) rfl (fun x y h => (laws_toFloat32A2_eq x).trans h)

-- loop.example/g01204/laws.toSpotS
noncomputable def laws_toSpotS_l3 (a0 : (List (Vec 2 Int))) (s315 : (Int × (List (Vec 2 Int)) × Unit)) : Option ((Int × (List (Vec 2 Int)) × Unit) ⊕ (((List (Vec 2 Int)) × Unit) × Unit)) :=
  bif (iLt s315.1 (lenI a0)) then
    bif inB s315.1 (List.length a0) then
      (laws_toSpot (List.getD a0 s315.1.toNat ((0, 0, ()) : (Vec 2 Int)))).bind fun y318 =>
      bif inB s315.1 (List.length s315.2.1) then
        some (Sum.inl ((iAdd .i64 s315.1 1), List.set s315.2.1 s315.1.toNat y318.1.1, ()))
      else none
    else none
  else
  Option.map Sum.inr (some ((s315.2.1, ()), ()))
noncomputable def laws_toSpotS (a0 : (List (Vec 2 Int))) : Option (((List (Vec 2 Int)) × Unit) × Unit) :=
  bif (iLe 0 (lenI a0) && iLe (lenI a0) (lenI a0) && room (lenI a0).toNat 4) then run (laws_toSpotS_l3 a0) ((0 : Int), List.replicate (lenI a0).toNat ((0, 0, ()) : (Vec 2 Int)), ()) else none
noncomputable def laws_toSpotS_sg : Sig := ⟨[.v (.list (.arr 2 (.int .i16)))], [.v (.rows (.arr 2 (.int .i16)))], false⟩
noncomputable def laws_toSpotS_en : Entry := ⟨laws_toSpotS_sg, fun x => laws_toSpotS x.1⟩
theorem laws_toSpotS_eq (x : laws_toSpotS_sg.dom) : body (env [(18, laws_toSpot_en)]) [(3, .vary [(4, .sc (.int .i64)), (3, .mrows (.arr 2 (.int .i16)))])] Try.f23 laws_toSpotS_sg x = laws_toSpotS x.1 := by kernel_rfl
theorem laws_toSpotS_so : Sound Try.prog 23 laws_toSpotS_en := sound_of_body (envS (l := [(18, laws_toSpot_en)]) (⟨laws_toSpot_so, trivial⟩)) Try.func23 (by kernel_rfl) rfl (fun x y h => (laws_toSpotS_eq x).trans h)

-- loop.example/g01204/spec.l01Finite
noncomputable def spec_l01Finite (a0 : Nat) : Option ((Bool × Unit) × Unit) :=
  some (((fEq .f32 (fSub .f32 a0 a0) 0), ()), ())
noncomputable def spec_l01Finite_sg : Sig := ⟨[.v (.flt .f32)], [.v (.val (.bool))], false⟩
noncomputable def spec_l01Finite_en : Entry := ⟨spec_l01Finite_sg, fun x => spec_l01Finite x.1⟩
theorem spec_l01Finite_eq (x : spec_l01Finite_sg.dom) : body (env []) [] Try.f68 spec_l01Finite_sg x = spec_l01Finite x.1 := by kernel_rfl
theorem spec_l01Finite_so : Sound Try.prog 68 spec_l01Finite_en := sound_of_body (envS (l := []) (trivial)) Try.func68 (by kernel_rfl) rfl (fun x y h => (spec_l01Finite_eq x).trans h)

-- loop.example/g01204/spec.l07Low
noncomputable def spec_l07Low (a0 : (Vec 2 Nat)) (a1 : Nat) : Option ((Bool × Unit) × Unit) :=
  (spec_l01Finite (Vec.getD 2 a0 0 (0 : Nat))).bind fun y340 =>
  bif y340.1.1 then
    (spec_l01Finite (Vec.getD 2 a0 1 (0 : Nat))).bind fun y342 =>
    bif y342.1.1 then
      (spec_l01Finite a1).bind fun y343 =>
      some ((y343.1.1, ()), ())
    else some ((false, ()), ())
  else some ((false, ()), ())
noncomputable def spec_l07Low_sg : Sig := ⟨[.v (.arr 2 (.flt .f32)), .v (.flt .f32)], [.v (.val (.bool))], false⟩
noncomputable def spec_l07Low_en : Entry := ⟨spec_l07Low_sg, fun x => spec_l07Low x.1 x.2.1⟩
theorem spec_l07Low_eq (x : spec_l07Low_sg.dom) : body (env [(68, spec_l01Finite_en)]) [] Try.f48 spec_l07Low_sg x = spec_l07Low x.1 x.2.1 := by kernel_rfl
theorem spec_l07Low_so : Sound Try.prog 48 spec_l07Low_en := sound_of_body (envS (l := [(68, spec_l01Finite_en)]) (⟨spec_l01Finite_so, trivial⟩)) Try.func48 (by kernel_rfl) rfl (fun x y h => (spec_l07Low_eq x).trans h)

-- loop.example/g01204/spec.PointsOf
noncomputable def spec_PointsOf_l5 (a0 : (List (Vec 2 Int))) (a1 : (Vec 2 Nat)) (a2 : Nat) (s323 : ((List (Vec 2 Nat)) × Int × Unit)) : Option (((List (Vec 2 Nat)) × Int × Unit) ⊕ (((List (Vec 2 Nat)) × Int × Unit) × Unit)) :=
  bif (iLt s323.2.1 (lenI a0)) then
    bif inB s323.2.1 (List.length a0) then
      bif inB s323.2.1 (List.length a0) then
        bif room (List.length s323.1 + 1) 8 then
          some (Sum.inl ((s323.1 ++ ([((fAdd .f32 (Vec.getD 2 a1 0 (0 : Nat)) (fMul .f32 a2 (fAdd .f32 (fOfInt .f32 (Vec.getD 2 (List.getD a0 s323.2.1.toNat ((0, 0, ()) : (Vec 2 Int))) 0 (0 : Int))) 1056964608))), (fAdd .f32 (Vec.getD 2 a1 1 (0 : Nat)) (fMul .f32 a2 (fAdd .f32 (fOfInt .f32 (Vec.getD 2 (List.getD a0 s323.2.1.toNat ((0, 0, ()) : (Vec 2 Int))) 1 (0 : Int))) 1056964608))), ())] : (List (Vec 2 Nat)))), (iAdd .i64 s323.2.1 1), ()))
        else none
      else none
    else none
  else
  Option.map Sum.inr (some ((s323.1, (0 : Int), ()), ()))
noncomputable def spec_PointsOf (a0 : (List (Vec 2 Int))) (a1 : (Vec 2 Nat)) (a2 : Nat) : Option (((List (Vec 2 Nat)) × Int × Unit) × Unit) :=
  (spec_l07Low a1 a2).bind fun y320 =>
  bif (! y320.1.1) then some ((([] : (List (Vec 2 Nat))), (2 : Int), ()), ()) else
  bif (iLt 600 (lenI a0)) then some ((([] : (List (Vec 2 Nat))), (2 : Int), ()), ()) else run (spec_PointsOf_l5 a0 a1 a2) (([] : (List (Vec 2 Nat))), (0 : Int), ())
noncomputable def spec_PointsOf_sg : Sig := ⟨[.v (.list (.arr 2 (.int .i16))), .v (.arr 2 (.flt .f32)), .v (.flt .f32)], [.v (.rows (.arr 2 (.flt .f32))), .v (.val (.int .i64))], false⟩
noncomputable def spec_PointsOf_en : Entry := ⟨spec_PointsOf_sg, fun x => spec_PointsOf x.1 x.2.1 x.2.2.1⟩
theorem spec_PointsOf_eq (x : spec_PointsOf_sg.dom) : body (env [(48, spec_l07Low_en)]) [(5, .vary [(8, .rows (.arr 2 (.flt .f32))), (9, .sc (.int .i64))])] Try.f22 spec_PointsOf_sg x = spec_PointsOf x.1 x.2.1 x.2.2.1 := by kernel_rfl
theorem spec_PointsOf_so : Sound Try.prog 22 spec_PointsOf_en := sound_of_body (envS (l := [(48, spec_l07Low_en)]) (⟨spec_l07Low_so, trivial⟩)) Try.func22 (by kernel_rfl) rfl (fun x y h => (spec_PointsOf_eq x).trans h)

-- loop.example/g01204/laws.FnExactPointsOf
noncomputable def laws_FnExactPointsOf (a0 : (List (Vec 2 Int))) (a1 : (Vec 2 Nat)) (a2 : Nat) : Option ((Bool × Unit) × Unit) :=
  (laws_szSpotS a0 (1048576 : Int)).bind fun y173 =>
  bif (iLt y173.1.1 0) then some ((true, ()), ()) else
  (laws_toSpotS a0).bind fun y175 =>
  (laws_toFloat32A2 a1).bind fun y176 =>
  (spec_PointsOf y175.1.1 y176.1.1 a2).bind fun y177 =>
  (laws_toSpotS a0).bind fun y178 =>
  (laws_toFloat32A2 a1).bind fun y179 =>
  (impl_PointsOf y178.1.1 y179.1.1 a2).bind fun y180 =>
  (laws_eqFloat32A2S y180.1.1 y177.1.1).bind fun y181 =>
  bif (! y181.1.1) then some ((false, ()), ()) else
  bif (! (iEq y180.1.2.1 y177.1.2.1)) then some ((false, ()), ()) else
  (laws_toSpotS a0).bind fun y184 =>
  (laws_eqSpotS y178.1.1 y184.1.1).bind fun y185 =>
  bif (! y185.1.1) then some ((false, ()), ()) else
  (laws_markSpotS y178.1.1 (1 : Int)).bind fun y187 =>
  bif (iLt y187.1.1 0) then some ((false, ()), ()) else
  (laws_eqFloat32A2S y180.1.1 y177.1.1).bind fun y189 =>
  bif (! y189.1.1) then some ((false, ()), ()) else
  bif (! (iEq y180.1.2.1 y177.1.2.1)) then some ((false, ()), ()) else
  (laws_markFloat32A2S y180.1.1 (1 : Int)).bind fun y192 =>
  (laws_heldFloat32A2S y192.2.1 (1 : Int)).bind fun y193 =>
  bif (iLt y193.1.1 0) then some ((false, ()), ()) else
  bif (! (iEq y193.1.1 y192.1.1)) then some ((false, ()), ()) else
  (laws_toSpotS a0).bind fun y196 =>
  (laws_toFloat32A2 a1).bind fun y197 =>
  (impl_PointsOf y196.1.1 y197.1.1 a2).bind fun y198 =>
  (laws_eqFloat32A2S y198.1.1 y177.1.1).bind fun y199 =>
  bif (! y199.1.1) then some ((false, ()), ()) else
  bif (! (iEq y198.1.2.1 y177.1.2.1)) then some ((false, ()), ()) else
  (laws_heldFloat32A2S y192.2.1 (1 : Int)).bind fun y202 =>
  bif (iLt y202.1.1 0) then some ((false, ()), ()) else
  bif (! (iEq y202.1.1 y192.1.1)) then some ((false, ()), ()) else some ((true, ()), ())
noncomputable def laws_FnExactPointsOf_sg : Sig := ⟨[.v (.list (.arr 2 (.int .i16))), .v (.arr 2 (.flt .f32)), .v (.flt .f32)], [.v (.val (.bool))], false⟩
noncomputable def laws_FnExactPointsOf_en : Entry := ⟨laws_FnExactPointsOf_sg, fun x => laws_FnExactPointsOf x.1 x.2.1 x.2.2.1⟩
theorem laws_FnExactPointsOf_eq (x : laws_FnExactPointsOf_sg.dom) : body (env [(21, laws_szSpotS_en), (22, spec_PointsOf_en), (23, laws_toSpotS_en), (24, laws_toFloat32A2_en), (25, impl_PointsOf_en), (26, laws_eqFloat32A2S_en), (27, laws_eqSpotS_en), (28, laws_markSpotS_en), (29, laws_markFloat32A2S_en), (30, laws_heldFloat32A2S_en)]) [] Try.f6 laws_FnExactPointsOf_sg x = laws_FnExactPointsOf x.1 x.2.1 x.2.2.1 := by kernel_rfl
theorem laws_FnExactPointsOf_so : Sound Try.prog 6 laws_FnExactPointsOf_en := sound_of_body (envS (l := [(21, laws_szSpotS_en), (22, spec_PointsOf_en), (23, laws_toSpotS_en), (24, laws_toFloat32A2_en), (25, impl_PointsOf_en), (26, laws_eqFloat32A2S_en), (27, laws_eqSpotS_en), (28, laws_markSpotS_en), (29, laws_markFloat32A2S_en), (30, laws_heldFloat32A2S_en)]) (⟨laws_szSpotS_so, spec_PointsOf_so, laws_toSpotS_so, laws_toFloat32A2_so, impl_PointsOf_so, laws_eqFloat32A2S_so, laws_eqSpotS_so, laws_markSpotS_so, laws_markFloat32A2S_so, laws_heldFloat32A2S_so, trivial⟩)) Try.func6 (by kernel_rfl) rfl (fun x y h => (laws_FnExactPointsOf_eq x).trans h)

-- slices.Clone[[]uint8,uint8]
noncomputable def slices_Clone_uint8 (a0 : (List Int)) : Option (((List Int) × Unit) × Unit) :=
  bif List.isEmpty a0 then
    allSame fun q383 =>
    bif q383 then some ((([] : (List Int)), ()), ()) else
    bif room (0 + List.length a0) 1 then
      some (((([] : (List Int)) ++ a0), ()), ())
    else none
  else
  bif room (0 + List.length a0) 1 then
    some (((([] : (List Int)) ++ a0), ()), ())
  else none
noncomputable def slices_Clone_uint8_sg : Sig := ⟨[.v (.list (.int .u8))], [.v (.rows (.int .u8))], false⟩
noncomputable def slices_Clone_uint8_en : Entry := ⟨slices_Clone_uint8_sg, fun x => slices_Clone_uint8 x.1⟩
theorem slices_Clone_uint8_eq (x : slices_Clone_uint8_sg.dom) : body (env []) [] Try.f69 slices_Clone_uint8_sg x = slices_Clone_uint8 x.1 := by kernel_rfl
theorem slices_Clone_uint8_so : Sound Try.prog 69 slices_Clone_uint8_en := sound_of_body (envS (l := []) (trivial)) Try.func69 (by kernel_rfl) rfl (fun x y h => (slices_Clone_uint8_eq x).trans h)

-- loop.example/g01204/impl.ownGrid
noncomputable def impl_ownGrid (a0 : (Int × (Int × ((List Int) × Unit)))) : Option (((Int × (Int × ((List Int) × Unit))) × Unit) × Unit) :=
  (slices_Clone_uint8 a0.2.2.1).bind fun y382 =>
  some ((((a0.1, a0.2.1, y382.1.1, ()) : (Int × (Int × ((List Int) × Unit)))), ()), ())
noncomputable def impl_ownGrid_sg : Sig := ⟨[.v (.pair (.int .i64) (.pair (.int .i64) (.pair (.list (.int .u8)) (.unit))))], [.v (.pair (.val (.int .i64)) (.pair (.val (.int .i64)) (.pair (.rows (.int .u8)) (.val (.unit)))))], false⟩
noncomputable def impl_ownGrid_en : Entry := ⟨impl_ownGrid_sg, fun x => impl_ownGrid x.1⟩
theorem impl_ownGrid_eq (x : impl_ownGrid_sg.dom) : body (env [(69, slices_Clone_uint8_en)]) [] Try.f53 impl_ownGrid_sg x = impl_ownGrid x.1 := by kernel_rfl
theorem impl_ownGrid_so : Sound Try.prog 53 impl_ownGrid_en := sound_of_body (envS (l := [(69, slices_Clone_uint8_en)]) (⟨slices_Clone_uint8_so, trivial⟩)) Try.func53 (by kernel_rfl) rfl (fun x y h => (impl_ownGrid_eq x).trans h)

-- loop.example/g01204/impl.WithCost
noncomputable def impl_WithCost (a0 : (Int × (Int × ((List Int) × Unit)))) (a1 : (Vec 2 Int)) (a2 : Int) : Option (((Int × (Int × ((List Int) × Unit))) × Int × Unit) × Unit) :=
  (impl_checkSpots a0 ([a1] : (List (Vec 2 Int)))).bind fun y378 =>
  bif (! (iEq y378.1.1 0)) then some ((((0, 0, [], ()) : (Int × (Int × ((List Int) × Unit)))), y378.1.1, ()), ()) else
  (impl_ownGrid a0).bind fun y380 =>
  (impl_Grid_at a0 a1).bind fun y381 =>
  bif inB y381.1.1 (List.length y380.1.1.2.2.1) then some ((((y380.1.1.1, y380.1.1.2.1, List.set y380.1.1.2.2.1 y381.1.1.toNat a2, y380.1.1.2.2.2) : (Int × (Int × ((List Int) × Unit)))), (0 : Int), ()), ()) else none
noncomputable def impl_WithCost_sg : Sig := ⟨[.v (.pair (.int .i64) (.pair (.int .i64) (.pair (.list (.int .u8)) (.unit)))), .v (.arr 2 (.int .i16)), .v (.int .u8)], [.v (.pair (.val (.int .i64)) (.pair (.val (.int .i64)) (.pair (.rows (.int .u8)) (.val (.unit))))), .v (.val (.int .i64))], false⟩
noncomputable def impl_WithCost_en : Entry := ⟨impl_WithCost_sg, fun x => impl_WithCost x.1 x.2.1 x.2.2.1⟩
theorem impl_WithCost_eq (x : impl_WithCost_sg.dom) : body (env [(45, impl_checkSpots_en), (46, impl_Grid_at_en), (53, impl_ownGrid_en)]) [] Try.f32 impl_WithCost_sg x = impl_WithCost x.1 x.2.1 x.2.2.1 := by kernel_rfl
theorem impl_WithCost_so : Sound Try.prog 32 impl_WithCost_en := sound_of_body (envS (l := [(45, impl_checkSpots_en), (46, impl_Grid_at_en), (53, impl_ownGrid_en)]) (⟨impl_checkSpots_so, impl_Grid_at_so, impl_ownGrid_so, trivial⟩)) Try.func32 (by kernel_rfl) rfl (fun x y h => (impl_WithCost_eq x).trans h)

-- loop.example/g01204/laws.heldByteS
noncomputable def laws_heldByteS_l2 (a0 : (List Int)) (s388 : (Int × Int × Unit)) : Option ((Int × Int × Unit) ⊕ ((Int × Unit) × Unit)) :=
  bif (iLt s388.2.1 (lenI a0)) then
    bif inB s388.2.1 (List.length a0) then
      bif (! (iEq (List.getD a0 s388.2.1.toNat (0 : Int)) (iWrap .u8 s388.1))) then
        Option.map Sum.inr (some ((((-1 : Int) : Int), ()), ()))
      else
      some (Sum.inl ((iAdd .i64 s388.1 1), (iAdd .i64 s388.2.1 1), ()))
    else none
  else
  Option.map Sum.inr (some ((s388.1, ()), ()))
noncomputable def laws_heldByteS (a0 : (List Int)) (a1 : Int) : Option ((Int × Unit) × Unit) :=
  run (laws_heldByteS_l2 a0) (a1, (0 : Int), ())
noncomputable def laws_heldByteS_sg : Sig := ⟨[.v (.list (.int .u8)), .v (.int .i64)], [.v (.val (.int .i64))], false⟩
noncomputable def laws_heldByteS_en : Entry := ⟨laws_heldByteS_sg, fun x => laws_heldByteS x.1 x.2.1⟩
theorem laws_heldByteS_eq (x : laws_heldByteS_sg.dom) : body (env []) [(2, .vary [(1, .sc (.int .i64)), (5, .sc (.int .i64))])] Try.f55 laws_heldByteS_sg x = laws_heldByteS x.1 x.2.1 := by kernel_rfl
theorem laws_heldByteS_so : Sound Try.prog 55 laws_heldByteS_en := sound_of_body (envS (l := []) (trivial)) Try.func55 (by kernel_rfl) rfl (fun x y h => (laws_heldByteS_eq x).trans h)

-- loop.example/g01204/laws.heldGrid
noncomputable def laws_heldGrid (a0 : (Int × (Int × ((List Int) × Unit)))) (a1 : Int) : Option ((Int × Unit) × Unit) :=
  (laws_heldByteS a0.2.2.1 a1).bind fun y386 =>
  bif (iLt y386.1.1 0) then some ((((-1 : Int) : Int), ()), ()) else some ((y386.1.1, ()), ())
noncomputable def laws_heldGrid_sg : Sig := ⟨[.v (.pair (.int .i64) (.pair (.int .i64) (.pair (.list (.int .u8)) (.unit)))), .v (.int .i64)], [.v (.val (.int .i64))], false⟩
noncomputable def laws_heldGrid_en : Entry := ⟨laws_heldGrid_sg, fun x => laws_heldGrid x.1 x.2.1⟩
theorem laws_heldGrid_eq (x : laws_heldGrid_sg.dom) : body (env [(55, laws_heldByteS_en)]) [] Try.f34 laws_heldGrid_sg x = laws_heldGrid x.1 x.2.1 := by kernel_rfl
theorem laws_heldGrid_so : Sound Try.prog 34 laws_heldGrid_en := sound_of_body (envS (l := [(55, laws_heldByteS_en)]) (⟨laws_heldByteS_so, trivial⟩)) Try.func34 (by kernel_rfl) rfl (fun x y h => (laws_heldGrid_eq x).trans h)

-- loop.example/g01204/laws.markByteS
noncomputable def laws_markByteS_l2 (s401 : (Int × Int × (List Int) × Unit)) : Option ((Int × Int × (List Int) × Unit) ⊕ ((Int × Unit) × ((List Int) × Unit))) :=
  bif (iLt s401.2.1 (lenI s401.2.2.1)) then
    bif inB s401.2.1 (List.length s401.2.2.1) then
      some (Sum.inl ((iAdd .i64 s401.1 1), (iAdd .i64 s401.2.1 1), List.set s401.2.2.1 s401.2.1.toNat (iWrap .u8 s401.1), ()))
    else none
  else
  Option.map Sum.inr (some ((s401.1, ()), (s401.2.2.1, ())))
noncomputable def laws_markByteS (a0 : (List Int)) (a1 : Int) : Option ((Int × Unit) × ((List Int) × Unit)) :=
  run (laws_markByteS_l2) (a1, (0 : Int), a0, ())
noncomputable def laws_markByteS_sg : Sig := ⟨[.mv (.rows (.int .u8)), .v (.int .i64)], [.v (.val (.int .i64))], false⟩
noncomputable def laws_markByteS_en : Entry := ⟨laws_markByteS_sg, fun x => laws_markByteS x.1 x.2.1⟩
theorem laws_markByteS_eq (x : laws_markByteS_sg.dom) : body (env []) [(2, .vary [(1, .sc (.int .i64)), (5, .sc (.int .i64)), (0, .mrows (.int .u8))])] Try.f54 laws_markByteS_sg x = laws_markByteS x.1 x.2.1 := by kernel_rfl
theorem laws_markByteS_so : Sound Try.prog 54 laws_markByteS_en := sound_of_body (envS (l := []) (trivial)) Try.func54 (by kernel_rfl) rfl (fun x y h => (laws_markByteS_eq x).trans h)

-- loop.example/g01204/laws.markGrid
noncomputable def laws_markGrid (a0 : (Int × (Int × ((List Int) × Unit)))) (a1 : Int) : Option ((Int × Unit) × ((Int × (Int × ((List Int) × Unit))) × Unit)) :=
  (laws_markByteS a0.2.2.1 a1).bind fun y395 =>
  some ((y395.1.1, ()), (((a0.1, a0.2.1, y395.2.1, a0.2.2.2) : (Int × (Int × ((List Int) × Unit)))), ()))
noncomputable def laws_markGrid_sg : Sig := ⟨[.mv (.pair (.val (.int .i64)) (.pair (.val (.int .i64)) (.pair (.rows (.int .u8)) (.val (.unit))))), .v (.int .i64)], [.v (.val (.int .i64))], false⟩
noncomputable def laws_markGrid_en : Entry := ⟨laws_markGrid_sg, fun x => laws_markGrid x.1 x.2.1⟩
theorem laws_markGrid_eq (x : laws_markGrid_sg.dom) : body (env [(54, laws_markByteS_en)]) [] Try.f33 laws_markGrid_sg x = laws_markGrid x.1 x.2.1 := by kernel_rfl
theorem laws_markGrid_so : Sound Try.prog 33 laws_markGrid_en := sound_of_body (envS (l := [(54, laws_markByteS_en)]) (⟨laws_markByteS_so, trivial⟩)) Try.func33 (by kernel_rfl) rfl (fun x y h => (laws_markGrid_eq x).trans h)

-- loop.example/g01204/spec.l07Copy
noncomputable def spec_l07Copy (a0 : (Int × (Int × ((List Int) × Unit)))) : Option (((Int × (Int × ((List Int) × Unit))) × Unit) × Unit) :=
  bif room (0 + List.length a0.2.2.1) 1 then
    some ((((a0.1, a0.2.1, (([] : (List Int)) ++ a0.2.2.1), ()) : (Int × (Int × ((List Int) × Unit)))), ()), ())
  else none
noncomputable def spec_l07Copy_sg : Sig := ⟨[.ro (.pair (.int .i64) (.pair (.int .i64) (.pair (.list (.int .u8)) (.unit))))], [.v (.pair (.val (.int .i64)) (.pair (.val (.int .i64)) (.pair (.rows (.int .u8)) (.val (.unit)))))], false⟩
noncomputable def spec_l07Copy_en : Entry := ⟨spec_l07Copy_sg, fun x => spec_l07Copy x.1⟩
theorem spec_l07Copy_eq (x : spec_l07Copy_sg.dom) : body (env []) [] Try.f52 spec_l07Copy_sg x = spec_l07Copy x.1 := by kernel_rfl
theorem spec_l07Copy_so : Sound Try.prog 52 spec_l07Copy_en := sound_of_body (envS (l := []) (trivial)) Try.func52 (by kernel_rfl) rfl (fun x y h => (spec_l07Copy_eq x).trans h)

-- loop.example/g01204/spec.WithCost
noncomputable def spec_WithCost (a0 : (Int × (Int × ((List Int) × Unit)))) (a1 : (Vec 2 Int)) (a2 : Int) : Option (((Int × (Int × ((List Int) × Unit))) × Int × Unit) × Unit) :=
  (spec_l07Asked a0 ([a1] : (List (Vec 2 Int)))).bind fun y406 =>
  bif (! (iEq y406.1.1 0)) then some ((((0, 0, [], ()) : (Int × (Int × ((List Int) × Unit)))), y406.1.1, ()), ()) else
  (spec_l07Copy a0).bind fun y408 =>
  (spec_l07Index a0 a1).bind fun y409 =>
  bif inB y409.1.1 (List.length y408.1.1.2.2.1) then some ((((y408.1.1.1, y408.1.1.2.1, List.set y408.1.1.2.2.1 y409.1.1.toNat a2, y408.1.1.2.2.2) : (Int × (Int × ((List Int) × Unit)))), (0 : Int), ()), ()) else none
noncomputable def spec_WithCost_sg : Sig := ⟨[.v (.pair (.int .i64) (.pair (.int .i64) (.pair (.list (.int .u8)) (.unit)))), .v (.arr 2 (.int .i16)), .v (.int .u8)], [.v (.pair (.val (.int .i64)) (.pair (.val (.int .i64)) (.pair (.rows (.int .u8)) (.val (.unit))))), .v (.val (.int .i64))], false⟩
noncomputable def spec_WithCost_en : Entry := ⟨spec_WithCost_sg, fun x => spec_WithCost x.1 x.2.1 x.2.2.1⟩
theorem spec_WithCost_eq (x : spec_WithCost_sg.dom) : body (env [(42, spec_l07Asked_en), (43, spec_l07Index_en), (52, spec_l07Copy_en)]) [] Try.f31 spec_WithCost_sg x = spec_WithCost x.1 x.2.1 x.2.2.1 := by kernel_rfl
theorem spec_WithCost_so : Sound Try.prog 31 spec_WithCost_en := sound_of_body (envS (l := [(42, spec_l07Asked_en), (43, spec_l07Index_en), (52, spec_l07Copy_en)]) (⟨spec_l07Asked_so, spec_l07Index_so, spec_l07Copy_so, trivial⟩)) Try.func31 (by kernel_rfl) rfl (fun x y h => (spec_WithCost_eq x).trans h)

-- loop.example/g01204/laws.FnExactWithCost
noncomputable def laws_FnExactWithCost (a0 : (Int × (Int × ((List Int) × Unit)))) (a1 : (Vec 2 Int)) (a2 : Int) : Option ((Bool × Unit) × Unit) :=
  (laws_szGrid a0 (1048576 : Int)).bind fun y346 =>
  bif (iLt y346.1.1 0) then some ((true, ()), ()) else
  (laws_toGrid a0).bind fun y348 =>
  (laws_toSpot a1).bind fun y349 =>
  (spec_WithCost ((y348.1.1.1, y348.1.1.2.1, y348.1.1.2.2.1, y348.1.1.2.2.2) : (Int × (Int × ((List Int) × Unit)))) y349.1.1 a2).bind fun y350 =>
  (laws_toGrid a0).bind fun y351 =>
  (laws_toSpot a1).bind fun y352 =>
  (impl_WithCost ((y351.1.1.1, y351.1.1.2.1, y351.1.1.2.2.1, y351.1.1.2.2.2) : (Int × (Int × ((List Int) × Unit)))) y352.1.1 a2).bind fun y353 =>
  (laws_eqGrid ((y353.1.1.1, y353.1.1.2.1, y353.1.1.2.2.1, y353.1.1.2.2.2) : (Int × (Int × ((List Int) × Unit)))) ((y350.1.1.1, y350.1.1.2.1, y350.1.1.2.2.1, y350.1.1.2.2.2) : (Int × (Int × ((List Int) × Unit))))).bind fun y354 =>
  bif (! y354.1.1) then some ((false, ()), ()) else
  bif (! (iEq y353.1.2.1 y350.1.2.1)) then some ((false, ()), ()) else
  (laws_toGrid a0).bind fun y357 =>
  (laws_eqGrid ((y351.1.1.1, y351.1.1.2.1, y351.1.1.2.2.1, y351.1.1.2.2.2) : (Int × (Int × ((List Int) × Unit)))) ((y357.1.1.1, y357.1.1.2.1, y357.1.1.2.2.1, y357.1.1.2.2.2) : (Int × (Int × ((List Int) × Unit))))).bind fun y358 =>
  bif (! y358.1.1) then some ((false, ()), ()) else
  (laws_markGrid ((y351.1.1.1, y351.1.1.2.1, y351.1.1.2.2.1, y351.1.1.2.2.2) : (Int × (Int × ((List Int) × Unit)))) (1 : Int)).bind fun y360 =>
  bif (iLt y360.1.1 0) then some ((false, ()), ()) else
  (laws_eqGrid ((y353.1.1.1, y353.1.1.2.1, y353.1.1.2.2.1, y353.1.1.2.2.2) : (Int × (Int × ((List Int) × Unit)))) ((y350.1.1.1, y350.1.1.2.1, y350.1.1.2.2.1, y350.1.1.2.2.2) : (Int × (Int × ((List Int) × Unit))))).bind fun y362 =>
  bif (! y362.1.1) then some ((false, ()), ()) else
  bif (! (iEq y353.1.2.1 y350.1.2.1)) then some ((false, ()), ()) else
  (laws_markGrid ((y353.1.1.1, y353.1.1.2.1, y353.1.1.2.2.1, y353.1.1.2.2.2) : (Int × (Int × ((List Int) × Unit)))) (1 : Int)).bind fun y365 =>
  (laws_heldGrid ((y353.1.1.1, y353.1.1.2.1, y365.2.1.2.2.1, y353.1.1.2.2.2) : (Int × (Int × ((List Int) × Unit)))) (1 : Int)).bind fun y366 =>
  bif (iLt y366.1.1 0) then some ((false, ()), ()) else
  bif (! (iEq y366.1.1 y365.1.1)) then some ((false, ()), ()) else
  (laws_toGrid a0).bind fun y369 =>
  (laws_toSpot a1).bind fun y370 =>
  (impl_WithCost ((y369.1.1.1, y369.1.1.2.1, y369.1.1.2.2.1, y369.1.1.2.2.2) : (Int × (Int × ((List Int) × Unit)))) y370.1.1 a2).bind fun y371 =>
  (laws_eqGrid ((y371.1.1.1, y371.1.1.2.1, y371.1.1.2.2.1, y371.1.1.2.2.2) : (Int × (Int × ((List Int) × Unit)))) ((y350.1.1.1, y350.1.1.2.1, y350.1.1.2.2.1, y350.1.1.2.2.2) : (Int × (Int × ((List Int) × Unit))))).bind fun y372 =>
  bif (! y372.1.1) then some ((false, ()), ()) else
  bif (! (iEq y371.1.2.1 y350.1.2.1)) then some ((false, ()), ()) else
  (laws_heldGrid ((y353.1.1.1, y353.1.1.2.1, y365.2.1.2.2.1, y353.1.1.2.2.2) : (Int × (Int × ((List Int) × Unit)))) (1 : Int)).bind fun y375 =>
  bif (iLt y375.1.1 0) then some ((false, ()), ()) else
  bif (! (iEq y375.1.1 y365.1.1)) then some ((false, ()), ()) else some ((true, ()), ())
noncomputable def laws_FnExactWithCost_sg : Sig := ⟨[.v (.pair (.int .i64) (.pair (.int .i64) (.pair (.list (.int .u8)) (.unit)))), .v (.arr 2 (.int .i16)), .v (.int .u8)], [.v (.val (.bool))], false⟩
noncomputable def laws_FnExactWithCost_en : Entry := ⟨laws_FnExactWithCost_sg, fun x => laws_FnExactWithCost x.1 x.2.1 x.2.2.1⟩
theorem laws_FnExactWithCost_eq (x : laws_FnExactWithCost_sg.dom) : body (env [(15, laws_szGrid_en), (17, laws_toGrid_en), (18, laws_toSpot_en), (20, laws_eqGrid_en), (31, spec_WithCost_en), (32, impl_WithCost_en), (33, laws_markGrid_en), (34, laws_heldGrid_en)]) [] Try.f7 laws_FnExactWithCost_sg x = laws_FnExactWithCost x.1 x.2.1 x.2.2.1 := by kernel_rfl
theorem laws_FnExactWithCost_so : Sound Try.prog 7 laws_FnExactWithCost_en := sound_of_body (envS (l := [(15, laws_szGrid_en), (17, laws_toGrid_en), (18, laws_toSpot_en), (20, laws_eqGrid_en), (31, spec_WithCost_en), (32, impl_WithCost_en), (33, laws_markGrid_en), (34, laws_heldGrid_en)]) (⟨laws_szGrid_so, laws_toGrid_so, laws_toSpot_so, laws_eqGrid_so, spec_WithCost_so, impl_WithCost_so, laws_markGrid_so, laws_heldGrid_so, trivial⟩)) Try.func7 (by kernel_rfl) rfl (fun x y h => (laws_FnExactWithCost_eq x).trans h)

-- (loop.example/g01204/impl.Grid).isWall
noncomputable def impl_Grid_isWall (a0 : (Int × (Int × ((List Int) × Unit)))) (a1 : (Vec 2 Int)) : Option ((Bool × Unit) × Unit) :=
  (impl_Grid_at a0 a1).bind fun y596 =>
  bif inB y596.1.1 (List.length a0.2.2.1) then
    some (((iEq (List.getD a0.2.2.1 y596.1.1.toNat (0 : Int)) 255), ()), ())
  else none
noncomputable def impl_Grid_isWall_sg : Sig := ⟨[.v (.pair (.int .i64) (.pair (.int .i64) (.pair (.list (.int .u8)) (.unit)))), .v (.arr 2 (.int .i16))], [.v (.val (.bool))], false⟩
noncomputable def impl_Grid_isWall_en : Entry := ⟨impl_Grid_isWall_sg, fun x => impl_Grid_isWall x.1 x.2.1⟩
theorem impl_Grid_isWall_eq (x : impl_Grid_isWall_sg.dom) : body (env [(46, impl_Grid_at_en)]) [] Try.f62 impl_Grid_isWall_sg x = impl_Grid_isWall x.1 x.2.1 := by kernel_rfl
theorem impl_Grid_isWall_so : Sound Try.prog 62 impl_Grid_isWall_en := sound_of_body (envS (l := [(46, impl_Grid_at_en)]) (⟨impl_Grid_at_so, trivial⟩)) Try.func62 (by kernel_rfl) rfl (fun x y h => (impl_Grid_isWall_eq x).trans h)

-- (loop.example/g01204/impl.Grid).spots
noncomputable def impl_Grid_spots_l6 (a0 : (Int × (Int × ((List Int) × Unit)))) (s599 : ((List (Vec 2 Int)) × Int × Unit)) (s601 : ((List (Vec 2 Int)) × Int × Unit)) : Option (((List (Vec 2 Int)) × Int × Unit) ⊕ (((List (Vec 2 Int)) × Int × Unit) ⊕ (((List (Vec 2 Int)) × Unit) × Unit))) :=
  bif (iLt s601.2.1 a0.1) then
    bif room (List.length s601.1 + 1) 4 then
      some (Sum.inl ((s601.1 ++ ([((iWrap .i16 s601.2.1), (iWrap .i16 s599.2.1), ())] : (List (Vec 2 Int)))), (iAdd .i64 s601.2.1 1), ()))
    else none
  else
  Option.map Sum.inr (some (Sum.inl (s601.1, (iAdd .i64 s599.2.1 1), ())))
noncomputable def impl_Grid_spots_l3 (a0 : (Int × (Int × ((List Int) × Unit)))) (s599 : ((List (Vec 2 Int)) × Int × Unit)) : Option (((List (Vec 2 Int)) × Int × Unit) ⊕ (((List (Vec 2 Int)) × Unit) × Unit)) :=
  bif (iLt s599.2.1 a0.2.1) then run (impl_Grid_spots_l6 a0 s599) (s599.1, (0 : Int), ()) else
  Option.map Sum.inr (some ((s599.1, ()), ()))
noncomputable def impl_Grid_spots (a0 : (Int × (Int × ((List Int) × Unit)))) : Option (((List (Vec 2 Int)) × Unit) × Unit) :=
  run (impl_Grid_spots_l3 a0) (([] : (List (Vec 2 Int))), (0 : Int), ())
noncomputable def impl_Grid_spots_sg : Sig := ⟨[.v (.pair (.int .i64) (.pair (.int .i64) (.pair (.list (.int .u8)) (.unit))))], [.v (.rows (.arr 2 (.int .i16)))], false⟩
noncomputable def impl_Grid_spots_en : Entry := ⟨impl_Grid_spots_sg, fun x => impl_Grid_spots x.1⟩
theorem impl_Grid_spots_eq (x : impl_Grid_spots_sg.dom) : body (env []) [(3, .vary [(3, .rows (.arr 2 (.int .i16))), (9, .sc (.int .i64))]), (6, .vary [(3, .rows (.arr 2 (.int .i16))), (14, .sc (.int .i64))])] Try.f61 impl_Grid_spots_sg x = impl_Grid_spots x.1 := by kernel_rfl
theorem impl_Grid_spots_so : Sound Try.prog 61 impl_Grid_spots_en := sound_of_body (envS (l := []) (trivial)) Try.func61 (by kernel_rfl) rfl (fun x y h => (impl_Grid_spots_eq x).trans h)

-- loop.example/g01204/impl.GrowWalls
noncomputable def impl_GrowWalls_l14 (a0 : (Int × (Int × ((List Int) × Unit)))) (x523 : (Vec 2 Int)) (a1 : Int) (s563 : (Int × (Int × (Int × ((List Int) × Unit))) × Unit)) (s584 : (Int × (Int × (Int × ((List Int) × Unit))) × Unit)) : Option ((Int × (Int × (Int × ((List Int) × Unit))) × Unit) ⊕ ((Int × (Int × (Int × ((List Int) × Unit))) × Unit) ⊕ ((Int × (Int × (Int × ((List Int) × Unit))) × Unit) ⊕ (((Int × (Int × ((List Int) × Unit))) × Int × Unit) × Unit)))) :=
  bif (iLe s584.1 (iMin (iSub .i64 a0.1 1) (iAdd .i64 (iWrap .i64 (Vec.getD 2 x523 0 (0 : Int))) a1))) then
    let x592 := iAdd .i64 (iMul .i64 s563.1 a0.1) s584.1
    bif inB x592 (List.length s584.2.1.2.2.1) then
      some (Sum.inl ((iAdd .i64 s584.1 1), ((s584.2.1.1, s584.2.1.2.1, List.set s584.2.1.2.2.1 x592.toNat (255 : Int), s584.2.1.2.2.2) : (Int × (Int × ((List Int) × Unit)))), ()))
    else none
  else
  Option.map Sum.inr (some (Sum.inl ((iAdd .i64 s563.1 1), ((s584.2.1.1, s584.2.1.2.1, s584.2.1.2.2.1, s584.2.1.2.2.2) : (Int × (Int × ((List Int) × Unit)))), ())))
noncomputable def impl_GrowWalls_l11 (a0 : (Int × (Int × ((List Int) × Unit)))) (x523 : (Vec 2 Int)) (a1 : Int) (s521 : (Int × (Int × (Int × ((List Int) × Unit))) × Unit)) (s563 : (Int × (Int × (Int × ((List Int) × Unit))) × Unit)) : Option ((Int × (Int × (Int × ((List Int) × Unit))) × Unit) ⊕ ((Int × (Int × (Int × ((List Int) × Unit))) × Unit) ⊕ (((Int × (Int × ((List Int) × Unit))) × Int × Unit) × Unit))) :=
  bif (iLe s563.1 (iMin (iSub .i64 a0.2.1 1) (iAdd .i64 (iWrap .i64 (Vec.getD 2 x523 1 (0 : Int))) a1))) then
    run (impl_GrowWalls_l14 a0 x523 a1 s563) ((iMax 0 (iSub .i64 (iWrap .i64 (Vec.getD 2 x523 0 (0 : Int))) a1)), ((s563.2.1.1, s563.2.1.2.1, s563.2.1.2.2.1, s563.2.1.2.2.2) : (Int × (Int × ((List Int) × Unit)))), ())
  else
  Option.map Sum.inr (some (Sum.inl ((iAdd .i64 s521.1 1), ((s563.2.1.1, s563.2.1.2.1, s563.2.1.2.2.1, s563.2.1.2.2.2) : (Int × (Int × ((List Int) × Unit)))), ())))
noncomputable def impl_GrowWalls_l7 (y445 : (((List (Vec 2 Int)) × Unit) × Unit)) (a0 : (Int × (Int × ((List Int) × Unit)))) (a1 : Int) (s521 : (Int × (Int × (Int × ((List Int) × Unit))) × Unit)) : Option ((Int × (Int × (Int × ((List Int) × Unit))) × Unit) ⊕ (((Int × (Int × ((List Int) × Unit))) × Int × Unit) × Unit)) :=
  bif (iLt s521.1 (lenI y445.1.1)) then
    bif inB s521.1 (List.length y445.1.1) then
      let x523 := List.getD y445.1.1 s521.1.toNat ((0, 0, ()) : (Vec 2 Int))
      (impl_Grid_isWall a0 x523).bind fun y524 =>
      bif (! y524.1.1) then
        some (Sum.inl ((iAdd .i64 s521.1 1), ((s521.2.1.1, s521.2.1.2.1, s521.2.1.2.2.1, s521.2.1.2.2.2) : (Int × (Int × ((List Int) × Unit)))), ()))
      else
      run (impl_GrowWalls_l11 a0 x523 a1 s521) ((iMax 0 (iSub .i64 (iWrap .i64 (Vec.getD 2 x523 1 (0 : Int))) a1)), ((s521.2.1.1, s521.2.1.2.1, s521.2.1.2.2.1, s521.2.1.2.2.2) : (Int × (Int × ((List Int) × Unit)))), ())
    else none
  else
  Option.map Sum.inr (some ((((s521.2.1.1, s521.2.1.2.1, s521.2.1.2.2.1, s521.2.1.2.2.2) : (Int × (Int × ((List Int) × Unit)))), (0 : Int), ()), ()))
noncomputable def impl_GrowWalls (a0 : (Int × (Int × ((List Int) × Unit)))) (a1 : Int) : Option (((Int × (Int × ((List Int) × Unit))) × Int × Unit) × Unit) :=
  (impl_ValidGrid a0).bind fun y440 =>
  bif (! y440.1.1) then some ((((0, 0, [], ()) : (Int × (Int × ((List Int) × Unit)))), (1 : Int), ()), ()) else
  (impl_within a1 (0 : Int) (24 : Int)).bind fun y442 =>
  bif (! y442.1.1) then some ((((0, 0, [], ()) : (Int × (Int × ((List Int) × Unit)))), (2 : Int), ()), ()) else
  (impl_ownGrid a0).bind fun y444 =>
  (impl_Grid_spots a0).bind fun y445 =>
  run (impl_GrowWalls_l7 y445 a0 a1) ((0 : Int), ((y444.1.1.1, y444.1.1.2.1, y444.1.1.2.2.1, y444.1.1.2.2.2) : (Int × (Int × ((List Int) × Unit)))), ())
noncomputable def impl_GrowWalls_sg : Sig := ⟨[.v (.pair (.int .i64) (.pair (.int .i64) (.pair (.list (.int .u8)) (.unit)))), .v (.int .i64)], [.v (.pair (.val (.int .i64)) (.pair (.val (.int .i64)) (.pair (.rows (.int .u8)) (.val (.unit))))), .v (.val (.int .i64))], false⟩
noncomputable def impl_GrowWalls_en : Entry := ⟨impl_GrowWalls_sg, fun x => impl_GrowWalls x.1 x.2.1⟩
theorem impl_GrowWalls_eq (x : impl_GrowWalls_sg.dom) : body (env [(38, impl_within_en), (53, impl_ownGrid_en), (60, impl_ValidGrid_en), (61, impl_Grid_spots_en), (62, impl_Grid_isWall_en)]) [(7, .vary [(26, .sc (.int .i64)), (6, .box (.pair (.val (.int .i64)) (.pair (.val (.int .i64)) (.pair (.rows (.int .u8)) (.val (.unit))))))]), (11, .vary [(9, .sc (.int .i64)), (6, .box (.pair (.val (.int .i64)) (.pair (.val (.int .i64)) (.pair (.rows (.int .u8)) (.val (.unit))))))]), (14, .vary [(10, .sc (.int .i64)), (6, .box (.pair (.val (.int .i64)) (.pair (.val (.int .i64)) (.pair (.rows (.int .u8)) (.val (.unit))))))])] Try.f36 impl_GrowWalls_sg x = impl_GrowWalls x.1 x.2.1 := by kernel_rfl
theorem impl_GrowWalls_so : Sound Try.prog 36 impl_GrowWalls_en := sound_of_body (envS (l := [(38, impl_within_en), (53, impl_ownGrid_en), (60, impl_ValidGrid_en), (61, impl_Grid_spots_en), (62, impl_Grid_isWall_en)]) (⟨impl_within_so, impl_ownGrid_so, impl_ValidGrid_so, impl_Grid_spots_so, impl_Grid_isWall_so, trivial⟩)) Try.func36 (by kernel_rfl) rfl (fun x y h => (impl_GrowWalls_eq x).trans h)

-- loop.example/g01204/spec.l00Max
noncomputable def spec_l00Max (a0 : Int) (a1 : Int) : Option ((Int × Unit) × Unit) :=
  bif (iLt a1 a0) then some ((a0, ()), ()) else some ((a1, ()), ())
noncomputable def spec_l00Max_sg : Sig := ⟨[.v (.int .i64), .v (.int .i64)], [.v (.val (.int .i64))], false⟩
noncomputable def spec_l00Max_en : Entry := ⟨spec_l00Max_sg, fun x => spec_l00Max x.1 x.2.1⟩
theorem spec_l00Max_eq (x : spec_l00Max_sg.dom) : body (env []) [] Try.f58 spec_l00Max_sg x = spec_l00Max x.1 x.2.1 := by kernel_rfl
theorem spec_l00Max_so : Sound Try.prog 58 spec_l00Max_en := sound_of_body (envS (l := []) (trivial)) Try.func58 (by kernel_rfl) rfl (fun x y h => (spec_l00Max_eq x).trans h)

-- loop.example/g01204/spec.l00Min
noncomputable def spec_l00Min (a0 : Int) (a1 : Int) : Option ((Int × Unit) × Unit) :=
  bif (iLt a0 a1) then some ((a0, ()), ()) else some ((a1, ()), ())
noncomputable def spec_l00Min_sg : Sig := ⟨[.v (.int .i64), .v (.int .i64)], [.v (.val (.int .i64))], false⟩
noncomputable def spec_l00Min_en : Entry := ⟨spec_l00Min_sg, fun x => spec_l00Min x.1 x.2.1⟩
theorem spec_l00Min_eq (x : spec_l00Min_sg.dom) : body (env []) [] Try.f59 spec_l00Min_sg x = spec_l00Min x.1 x.2.1 := by kernel_rfl
theorem spec_l00Min_so : Sound Try.prog 59 spec_l00Min_en := sound_of_body (envS (l := []) (trivial)) Try.func59 (by kernel_rfl) rfl (fun x y h => (spec_l00Min_eq x).trans h)

-- loop.example/g01204/spec.GrowWalls
noncomputable def spec_GrowWalls_l17 (a0 : (Int × (Int × ((List Int) × Unit)))) (s792 : (Int × (Int × (Int × ((List Int) × Unit))) × Unit)) (a1 : Int) (s825 : (Int × (Int × (Int × ((List Int) × Unit))) × Unit)) (s840 : (Int × (Int × (Int × ((List Int) × Unit))) × Unit)) : Option ((Int × (Int × (Int × ((List Int) × Unit))) × Unit) ⊕ ((Int × (Int × (Int × ((List Int) × Unit))) × Unit) ⊕ ((Int × (Int × (Int × ((List Int) × Unit))) × Unit) ⊕ ((Int × (Int × (Int × ((List Int) × Unit))) × Unit) ⊕ (((Int × (Int × ((List Int) × Unit))) × Int × Unit) × Unit))))) :=
  (spec_l00Min (iSub .i64 a0.1 1) (iAdd .i64 s792.1 a1)).bind fun y843 =>
  bif (iLe s840.1 y843.1.1) then
    let x846 := iAdd .i64 (iMul .i64 s825.1 a0.1) s840.1
    bif inB x846 (List.length s840.2.1.2.2.1) then
      some (Sum.inl ((iAdd .i64 s840.1 1), ((s840.2.1.1, s840.2.1.2.1, List.set s840.2.1.2.2.1 x846.toNat (255 : Int), s840.2.1.2.2.2) : (Int × (Int × ((List Int) × Unit)))), ()))
    else none
  else
  Option.map Sum.inr (some (Sum.inl ((iAdd .i64 s825.1 1), ((s840.2.1.1, s840.2.1.2.1, s840.2.1.2.2.1, s840.2.1.2.2.2) : (Int × (Int × ((List Int) × Unit)))), ())))
noncomputable def spec_GrowWalls_l14 (a0 : (Int × (Int × ((List Int) × Unit)))) (s732 : (Int × (Int × (Int × ((List Int) × Unit))) × Unit)) (a1 : Int) (s792 : (Int × (Int × (Int × ((List Int) × Unit))) × Unit)) (s825 : (Int × (Int × (Int × ((List Int) × Unit))) × Unit)) : Option ((Int × (Int × (Int × ((List Int) × Unit))) × Unit) ⊕ ((Int × (Int × (Int × ((List Int) × Unit))) × Unit) ⊕ ((Int × (Int × (Int × ((List Int) × Unit))) × Unit) ⊕ (((Int × (Int × ((List Int) × Unit))) × Int × Unit) × Unit)))) :=
  (spec_l00Min (iSub .i64 a0.2.1 1) (iAdd .i64 s732.1 a1)).bind fun y828 =>
  bif (iLe s825.1 y828.1.1) then
    (spec_l00Max (0 : Int) (iSub .i64 s792.1 a1)).bind fun y831 =>
    run (spec_GrowWalls_l17 a0 s792 a1 s825) (y831.1.1, ((s825.2.1.1, s825.2.1.2.1, s825.2.1.2.2.1, s825.2.1.2.2.2) : (Int × (Int × ((List Int) × Unit)))), ())
  else
  Option.map Sum.inr (some (Sum.inl ((iAdd .i64 s792.1 1), ((s825.2.1.1, s825.2.1.2.1, s825.2.1.2.2.1, s825.2.1.2.2.2) : (Int × (Int × ((List Int) × Unit)))), ())))
noncomputable def spec_GrowWalls_l10 (a0 : (Int × (Int × ((List Int) × Unit)))) (s732 : (Int × (Int × (Int × ((List Int) × Unit))) × Unit)) (a1 : Int) (s792 : (Int × (Int × (Int × ((List Int) × Unit))) × Unit)) : Option ((Int × (Int × (Int × ((List Int) × Unit))) × Unit) ⊕ ((Int × (Int × (Int × ((List Int) × Unit))) × Unit) ⊕ (((Int × (Int × ((List Int) × Unit))) × Int × Unit) × Unit))) :=
  bif (iLt s792.1 a0.1) then
    let x795 := iAdd .i64 (iMul .i64 s732.1 a0.1) s792.1
    bif inB x795 (List.length a0.2.2.1) then
      bif (! (iEq (List.getD a0.2.2.1 x795.toNat (0 : Int)) 255)) then
        some (Sum.inl ((iAdd .i64 s792.1 1), ((s792.2.1.1, s792.2.1.2.1, s792.2.1.2.2.1, s792.2.1.2.2.2) : (Int × (Int × ((List Int) × Unit)))), ()))
      else
      (spec_l00Max (0 : Int) (iSub .i64 s732.1 a1)).bind fun y800 =>
      run (spec_GrowWalls_l14 a0 s732 a1 s792) (y800.1.1, ((s792.2.1.1, s792.2.1.2.1, s792.2.1.2.2.1, s792.2.1.2.2.2) : (Int × (Int × ((List Int) × Unit)))), ())
    else none
  else
  Option.map Sum.inr (some (Sum.inl ((iAdd .i64 s732.1 1), ((s792.2.1.1, s792.2.1.2.1, s792.2.1.2.2.1, s792.2.1.2.2.2) : (Int × (Int × ((List Int) × Unit)))), ())))
noncomputable def spec_GrowWalls_l7 (a0 : (Int × (Int × ((List Int) × Unit)))) (a1 : Int) (s732 : (Int × (Int × (Int × ((List Int) × Unit))) × Unit)) : Option ((Int × (Int × (Int × ((List Int) × Unit))) × Unit) ⊕ (((Int × (Int × ((List Int) × Unit))) × Int × Unit) × Unit)) :=
  bif (iLt s732.1 a0.2.1) then run (spec_GrowWalls_l10 a0 s732 a1) ((0 : Int), ((s732.2.1.1, s732.2.1.2.1, s732.2.1.2.2.1, s732.2.1.2.2.2) : (Int × (Int × ((List Int) × Unit)))), ()) else
  Option.map Sum.inr (some ((((s732.2.1.1, s732.2.1.2.1, s732.2.1.2.2.1, s732.2.1.2.2.2) : (Int × (Int × ((List Int) × Unit)))), (0 : Int), ()), ()))
noncomputable def spec_GrowWalls (a0 : (Int × (Int × ((List Int) × Unit)))) (a1 : Int) : Option (((Int × (Int × ((List Int) × Unit))) × Int × Unit) × Unit) :=
  (spec_l07Ok a0).bind fun y608 =>
  bif (! y608.1.1) then some ((((0, 0, [], ()) : (Int × (Int × ((List Int) × Unit)))), (1 : Int), ()), ()) else
  (spec_l00In a1 (0 : Int) (24 : Int)).bind fun y610 =>
  bif (! y610.1.1) then some ((((0, 0, [], ()) : (Int × (Int × ((List Int) × Unit)))), (2 : Int), ()), ()) else
  (spec_l07Copy a0).bind fun y612 =>
  run (spec_GrowWalls_l7 a0 a1) ((0 : Int), ((y612.1.1.1, y612.1.1.2.1, y612.1.1.2.2.1, y612.1.1.2.2.2) : (Int × (Int × ((List Int) × Unit)))), ())
noncomputable def spec_GrowWalls_sg : Sig := ⟨[.v (.pair (.int .i64) (.pair (.int .i64) (.pair (.list (.int .u8)) (.unit)))), .v (.int .i64)], [.v (.pair (.val (.int .i64)) (.pair (.val (.int .i64)) (.pair (.rows (.int .u8)) (.val (.unit))))), .v (.val (.int .i64))], false⟩
noncomputable def spec_GrowWalls_en : Entry := ⟨spec_GrowWalls_sg, fun x => spec_GrowWalls x.1 x.2.1⟩
theorem spec_GrowWalls_eq (x : spec_GrowWalls_sg.dom) : body (env [(52, spec_l07Copy_en), (56, spec_l07Ok_en), (57, spec_l00In_en), (58, spec_l00Max_en), (59, spec_l00Min_en)]) [(7, .vary [(7, .sc (.int .i64)), (6, .box (.pair (.val (.int .i64)) (.pair (.val (.int .i64)) (.pair (.rows (.int .u8)) (.val (.unit))))))]), (10, .vary [(8, .sc (.int .i64)), (6, .box (.pair (.val (.int .i64)) (.pair (.val (.int .i64)) (.pair (.rows (.int .u8)) (.val (.unit))))))]), (14, .vary [(9, .sc (.int .i64)), (6, .box (.pair (.val (.int .i64)) (.pair (.val (.int .i64)) (.pair (.rows (.int .u8)) (.val (.unit))))))]), (17, .vary [(10, .sc (.int .i64)), (6, .box (.pair (.val (.int .i64)) (.pair (.val (.int .i64)) (.pair (.rows (.int .u8)) (.val (.unit))))))])] Try.f35 spec_GrowWalls_sg x = spec_GrowWalls x.1 x.2.1 := by kernel_rfl
theorem spec_GrowWalls_so : Sound Try.prog 35 spec_GrowWalls_en := sound_of_body (envS (l := [(52, spec_l07Copy_en), (56, spec_l07Ok_en), (57, spec_l00In_en), (58, spec_l00Max_en), (59, spec_l00Min_en)]) (⟨spec_l07Copy_so, spec_l07Ok_so, spec_l00In_so, spec_l00Max_so, spec_l00Min_so, trivial⟩)) Try.func35 (by kernel_rfl) rfl (fun x y h => (spec_GrowWalls_eq x).trans h)

-- loop.example/g01204/laws.FnExactGrowWalls
noncomputable def laws_FnExactGrowWalls (a0 : (Int × (Int × ((List Int) × Unit)))) (a1 : Int) : Option ((Bool × Unit) × Unit) :=
  (laws_szGrid a0 (1048576 : Int)).bind fun y411 =>
  bif (iLt y411.1.1 0) then some ((true, ()), ()) else
  (laws_toGrid a0).bind fun y413 =>
  (spec_GrowWalls ((y413.1.1.1, y413.1.1.2.1, y413.1.1.2.2.1, y413.1.1.2.2.2) : (Int × (Int × ((List Int) × Unit)))) a1).bind fun y414 =>
  (laws_toGrid a0).bind fun y415 =>
  (impl_GrowWalls ((y415.1.1.1, y415.1.1.2.1, y415.1.1.2.2.1, y415.1.1.2.2.2) : (Int × (Int × ((List Int) × Unit)))) a1).bind fun y416 =>
  (laws_eqGrid ((y416.1.1.1, y416.1.1.2.1, y416.1.1.2.2.1, y416.1.1.2.2.2) : (Int × (Int × ((List Int) × Unit)))) ((y414.1.1.1, y414.1.1.2.1, y414.1.1.2.2.1, y414.1.1.2.2.2) : (Int × (Int × ((List Int) × Unit))))).bind fun y417 =>
  bif (! y417.1.1) then some ((false, ()), ()) else
  bif (! (iEq y416.1.2.1 y414.1.2.1)) then some ((false, ()), ()) else
  (laws_toGrid a0).bind fun y420 =>
  (laws_eqGrid ((y415.1.1.1, y415.1.1.2.1, y415.1.1.2.2.1, y415.1.1.2.2.2) : (Int × (Int × ((List Int) × Unit)))) ((y420.1.1.1, y420.1.1.2.1, y420.1.1.2.2.1, y420.1.1.2.2.2) : (Int × (Int × ((List Int) × Unit))))).bind fun y421 =>
  bif (! y421.1.1) then some ((false, ()), ()) else
  (laws_markGrid ((y415.1.1.1, y415.1.1.2.1, y415.1.1.2.2.1, y415.1.1.2.2.2) : (Int × (Int × ((List Int) × Unit)))) (1 : Int)).bind fun y423 =>
  bif (iLt y423.1.1 0) then some ((false, ()), ()) else
  (laws_eqGrid ((y416.1.1.1, y416.1.1.2.1, y416.1.1.2.2.1, y416.1.1.2.2.2) : (Int × (Int × ((List Int) × Unit)))) ((y414.1.1.1, y414.1.1.2.1, y414.1.1.2.2.1, y414.1.1.2.2.2) : (Int × (Int × ((List Int) × Unit))))).bind fun y425 =>
  bif (! y425.1.1) then some ((false, ()), ()) else
  bif (! (iEq y416.1.2.1 y414.1.2.1)) then some ((false, ()), ()) else
  (laws_markGrid ((y416.1.1.1, y416.1.1.2.1, y416.1.1.2.2.1, y416.1.1.2.2.2) : (Int × (Int × ((List Int) × Unit)))) (1 : Int)).bind fun y428 =>
  (laws_heldGrid ((y416.1.1.1, y416.1.1.2.1, y428.2.1.2.2.1, y416.1.1.2.2.2) : (Int × (Int × ((List Int) × Unit)))) (1 : Int)).bind fun y429 =>
  bif (iLt y429.1.1 0) then some ((false, ()), ()) else
  bif (! (iEq y429.1.1 y428.1.1)) then some ((false, ()), ()) else
  (laws_toGrid a0).bind fun y432 =>
  (impl_GrowWalls ((y432.1.1.1, y432.1.1.2.1, y432.1.1.2.2.1, y432.1.1.2.2.2) : (Int × (Int × ((List Int) × Unit)))) a1).bind fun y433 =>
  (laws_eqGrid ((y433.1.1.1, y433.1.1.2.1, y433.1.1.2.2.1, y433.1.1.2.2.2) : (Int × (Int × ((List Int) × Unit)))) ((y414.1.1.1, y414.1.1.2.1, y414.1.1.2.2.1, y414.1.1.2.2.2) : (Int × (Int × ((List Int) × Unit))))).bind fun y434 =>
  bif (! y434.1.1) then some ((false, ()), ()) else
  bif (! (iEq y433.1.2.1 y414.1.2.1)) then some ((false, ()), ()) else
  (laws_heldGrid ((y416.1.1.1, y416.1.1.2.1, y428.2.1.2.2.1, y416.1.1.2.2.2) : (Int × (Int × ((List Int) × Unit)))) (1 : Int)).bind fun y437 =>
  bif (iLt y437.1.1 0) then some ((false, ()), ()) else
  bif (! (iEq y437.1.1 y428.1.1)) then some ((false, ()), ()) else some ((true, ()), ())
noncomputable def laws_FnExactGrowWalls_sg : Sig := ⟨[.v (.pair (.int .i64) (.pair (.int .i64) (.pair (.list (.int .u8)) (.unit)))), .v (.int .i64)], [.v (.val (.bool))], false⟩
noncomputable def laws_FnExactGrowWalls_en : Entry := ⟨laws_FnExactGrowWalls_sg, fun x => laws_FnExactGrowWalls x.1 x.2.1⟩
theorem laws_FnExactGrowWalls_eq (x : laws_FnExactGrowWalls_sg.dom) : body (env [(15, laws_szGrid_en), (17, laws_toGrid_en), (20, laws_eqGrid_en), (33, laws_markGrid_en), (34, laws_heldGrid_en), (35, spec_GrowWalls_en), (36, impl_GrowWalls_en)]) [] Try.f8 laws_FnExactGrowWalls_sg x = laws_FnExactGrowWalls x.1 x.2.1 := by kernel_rfl
theorem laws_FnExactGrowWalls_so : Sound Try.prog 8 laws_FnExactGrowWalls_en := sound_of_body (envS (l := [(15, laws_szGrid_en), (17, laws_toGrid_en), (20, laws_eqGrid_en), (33, laws_markGrid_en), (34, laws_heldGrid_en), (35, spec_GrowWalls_en), (36, impl_GrowWalls_en)]) (⟨laws_szGrid_so, laws_toGrid_so, laws_eqGrid_so, laws_markGrid_so, laws_heldGrid_so, spec_GrowWalls_so, impl_GrowWalls_so, trivial⟩)) Try.func8 (by kernel_rfl) rfl (fun x y h => (laws_FnExactGrowWalls_eq x).trans h)

end Go.Proofs.Ytiakgpcjomgkcaa
