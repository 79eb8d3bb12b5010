import Derived.Test.YtjahnpagogpffaaGreatF2
/- Functions on typed data: what the evaluation of each Go function is, and that it is sound. -/
namespace Go.Proofs.YtjahnpagogpffaaGreat
open Go Go.Tm
set_option linter.unusedVariables false
set_option maxRecDepth 100000
-- loop.example/g01204/spec.l04Vec
noncomputable def spec_l04Vec (a0 : ((Vec 3 Nat) × ((Vec 3 Nat) × (Int × (Int × Unit))))) (a1 : (Vec 3 Int)) : Option (((Vec 3 Nat) × Unit) × Unit) :=
  some (((((fAdd .f32 (fMul .f32 (fOfInt .f32 (Vec.getD 3 a1 0 (0 : Int))) (Vec.getD 3 a0.1 0 (0 : Nat))) (Vec.getD 3 a0.2.1 0 (0 : Nat))), (fAdd .f32 (fMul .f32 (fOfInt .f32 (Vec.getD 3 a1 1 (0 : Int))) (Vec.getD 3 a0.1 1 (0 : Nat))) (Vec.getD 3 a0.2.1 1 (0 : Nat))), (fAdd .f32 (fMul .f32 (fOfInt .f32 (Vec.getD 3 a1 2 (0 : Int))) (Vec.getD 3 a0.1 2 (0 : Nat))) (Vec.getD 3 a0.2.1 2 (0 : Nat))), ()) : (Vec 3 Nat)), ()), ())
noncomputable def spec_l04Vec_sg : Sig := ⟨[.ro (.pair (.arr 3 (.flt .f32)) (.pair (.arr 3 (.flt .f32)) (.pair (.int .i64) (.pair (.int .i64) (.unit))))), .v (.arr 3 (.int .i16))], [.v (.val (.arr 3 (.flt .f32)))], false⟩
noncomputable def spec_l04Vec_en : Entry := ⟨spec_l04Vec_sg, fun x => spec_l04Vec x.1 x.2.1⟩
theorem spec_l04Vec_eq (x : spec_l04Vec_sg.dom) : body (env []) [(3, .unroll 4)] Tryz.f218 spec_l04Vec_sg x = spec_l04Vec x.1 x.2.1 := by kernel_rfl
theorem spec_l04Vec_so : Sound Tryz.prog 218 spec_l04Vec_en := sound_of_body (envS (l := []) (trivial)) Tryz.func218 (by kernel_rfl) rfl (fun x y h => (spec_l04Vec_eq x).trans h)

-- loop.example/g01204/spec.l08Sensor
noncomputable def spec_l08Sensor : Option ((((Vec 3 Nat) × ((Vec 3 Nat) × (Int × (Int × Unit)))) × Unit) × Unit) :=
  some (((((1031798784, 1031798784, 1031798784, ()), (0, 0, 0, ()), 1, 0, ()) : ((Vec 3 Nat) × ((Vec 3 Nat) × (Int × (Int × Unit))))), ()), ())
noncomputable def spec_l08Sensor_sg : Sig := ⟨[], [.v (.val (.pair (.arr 3 (.flt .f32)) (.pair (.arr 3 (.flt .f32)) (.pair (.int .i64) (.pair (.int .i64) (.unit))))))], false⟩
noncomputable def spec_l08Sensor_en : Entry := ⟨spec_l08Sensor_sg, fun _ => spec_l08Sensor⟩
theorem spec_l08Sensor_eq (x : spec_l08Sensor_sg.dom) : body (env []) [] Tryz.f184 spec_l08Sensor_sg x = spec_l08Sensor  := by kernel_rfl
theorem spec_l08Sensor_so : Sound Tryz.prog 184 spec_l08Sensor_en := sound_of_body (envS (l := []) (trivial)) Tryz.func184 (by kernel_rfl) rfl (fun x y h => (spec_l08Sensor_eq x).trans h)

-- loop.example/g01204/spec.l08Fix
noncomputable def spec_l08Fix (a0 : ((Vec 6 Nat) × ((Vec 6 (Vec 6 Nat)) × Unit))) (a1 : (Vec 3 Int)) : Option ((((Vec 6 Nat) × ((Vec 6 (Vec 6 Nat)) × Unit)) × Bool × Int × Unit) × Unit) :=
  (spec_l08Sensor).bind fun y2270 =>
  (spec_l04Vec y2270.1.1 a1).bind fun y2271 =>
  (spec_ClueAt (0 : Int) (Vec.getD 3 y2271.1.1 0 (0 : Nat)) (1056964608 : Nat)).bind fun y2273 =>
  bif (! (iEq y2273.1.2.1 0)) then
    some (((((0, 0, 0, 0, 0, 0, ()), ((0, 0, 0, 0, 0, 0, ()), (0, 0, 0, 0, 0, 0, ()), (0, 0, 0, 0, 0, 0, ()), (0, 0, 0, 0, 0, 0, ()), (0, 0, 0, 0, 0, 0, ()), (0, 0, 0, 0, 0, 0, ()), ()), ()) : ((Vec 6 Nat) × ((Vec 6 (Vec 6 Nat)) × Unit))), false, (4 : Int), ()), ())
  else
  (spec_UpdateGated a0 y2273.1.1 (1091567616 : Nat)).bind fun y2275 =>
  bif (! (iEq y2275.1.2.2.1 0)) then
    some (((((0, 0, 0, 0, 0, 0, ()), ((0, 0, 0, 0, 0, 0, ()), (0, 0, 0, 0, 0, 0, ()), (0, 0, 0, 0, 0, 0, ()), (0, 0, 0, 0, 0, 0, ()), (0, 0, 0, 0, 0, 0, ()), (0, 0, 0, 0, 0, 0, ()), ()), ()) : ((Vec 6 Nat) × ((Vec 6 (Vec 6 Nat)) × Unit))), false, y2275.1.2.2.1, ()), ())
  else
  (spec_ClueAt (1 : Int) (Vec.getD 3 y2271.1.1 1 (0 : Nat)) (1056964608 : Nat)).bind fun y2278 =>
  bif (! (iEq y2278.1.2.1 0)) then
    some (((((0, 0, 0, 0, 0, 0, ()), ((0, 0, 0, 0, 0, 0, ()), (0, 0, 0, 0, 0, 0, ()), (0, 0, 0, 0, 0, 0, ()), (0, 0, 0, 0, 0, 0, ()), (0, 0, 0, 0, 0, 0, ()), (0, 0, 0, 0, 0, 0, ()), ()), ()) : ((Vec 6 Nat) × ((Vec 6 (Vec 6 Nat)) × Unit))), false, (4 : Int), ()), ())
  else
  (spec_UpdateGated y2275.1.1 y2278.1.1 (1091567616 : Nat)).bind fun y2280 =>
  bif (! (iEq y2280.1.2.2.1 0)) then
    some (((((0, 0, 0, 0, 0, 0, ()), ((0, 0, 0, 0, 0, 0, ()), (0, 0, 0, 0, 0, 0, ()), (0, 0, 0, 0, 0, 0, ()), (0, 0, 0, 0, 0, 0, ()), (0, 0, 0, 0, 0, 0, ()), (0, 0, 0, 0, 0, 0, ()), ()), ()) : ((Vec 6 Nat) × ((Vec 6 (Vec 6 Nat)) × Unit))), false, y2280.1.2.2.1, ()), ())
  else
  bif y2275.1.2.1 then
    (spec_ClueAt (2 : Int) (Vec.getD 3 y2271.1.1 2 (0 : Nat)) (1056964608 : Nat)).bind fun y2283 =>
    bif (! (iEq y2283.1.2.1 0)) then
      some (((((0, 0, 0, 0, 0, 0, ()), ((0, 0, 0, 0, 0, 0, ()), (0, 0, 0, 0, 0, 0, ()), (0, 0, 0, 0, 0, 0, ()), (0, 0, 0, 0, 0, 0, ()), (0, 0, 0, 0, 0, 0, ()), (0, 0, 0, 0, 0, 0, ()), ()), ()) : ((Vec 6 Nat) × ((Vec 6 (Vec 6 Nat)) × Unit))), false, (4 : Int), ()), ())
    else
    (spec_UpdateGated y2280.1.1 y2283.1.1 (1091567616 : Nat)).bind fun y2285 =>
    bif (! (iEq y2285.1.2.2.1 0)) then
      some (((((0, 0, 0, 0, 0, 0, ()), ((0, 0, 0, 0, 0, 0, ()), (0, 0, 0, 0, 0, 0, ()), (0, 0, 0, 0, 0, 0, ()), (0, 0, 0, 0, 0, 0, ()), (0, 0, 0, 0, 0, 0, ()), (0, 0, 0, 0, 0, 0, ()), ()), ()) : ((Vec 6 Nat) × ((Vec 6 (Vec 6 Nat)) × Unit))), false, y2285.1.2.2.1, ()), ())
    else
    bif y2280.1.2.1 then some ((y2285.1.1, y2285.1.2.1, (0 : Int), ()), ()) else some ((y2285.1.1, false, (0 : Int), ()), ())
  else
  (spec_ClueAt (2 : Int) (Vec.getD 3 y2271.1.1 2 (0 : Nat)) (1056964608 : Nat)).bind fun y2288 =>
  bif (! (iEq y2288.1.2.1 0)) then
    some (((((0, 0, 0, 0, 0, 0, ()), ((0, 0, 0, 0, 0, 0, ()), (0, 0, 0, 0, 0, 0, ()), (0, 0, 0, 0, 0, 0, ()), (0, 0, 0, 0, 0, 0, ()), (0, 0, 0, 0, 0, 0, ()), (0, 0, 0, 0, 0, 0, ()), ()), ()) : ((Vec 6 Nat) × ((Vec 6 (Vec 6 Nat)) × Unit))), false, (4 : Int), ()), ())
  else
  (spec_UpdateGated y2280.1.1 y2288.1.1 (1091567616 : Nat)).bind fun y2290 =>
  bif (! (iEq y2290.1.2.2.1 0)) then
    some (((((0, 0, 0, 0, 0, 0, ()), ((0, 0, 0, 0, 0, 0, ()), (0, 0, 0, 0, 0, 0, ()), (0, 0, 0, 0, 0, 0, ()), (0, 0, 0, 0, 0, 0, ()), (0, 0, 0, 0, 0, 0, ()), (0, 0, 0, 0, 0, 0, ()), ()), ()) : ((Vec 6 Nat) × ((Vec 6 (Vec 6 Nat)) × Unit))), false, y2290.1.2.2.1, ()), ())
  else some ((y2290.1.1, false, (0 : Int), ()), ())
noncomputable def spec_l08Fix_sg : Sig := ⟨[.v (.pair (.arr 6 (.flt .f32)) (.pair (.arr 6 (.arr 6 (.flt .f32))) (.unit))), .v (.arr 3 (.int .i16))], [.v (.val (.pair (.arr 6 (.flt .f32)) (.pair (.arr 6 (.arr 6 (.flt .f32))) (.unit)))), .v (.val (.bool)), .v (.val (.int .i64))], false⟩
noncomputable def spec_l08Fix_en : Entry := ⟨spec_l08Fix_sg, fun x => spec_l08Fix x.1 x.2.1⟩
theorem spec_l08Fix_eq (x : spec_l08Fix_sg.dom) : body (env [(162, spec_ClueAt_en), (166, spec_UpdateGated_en), (184, spec_l08Sensor_en), (218, spec_l04Vec_en)]) [(5, .unroll 4)] Tryz.f164 spec_l08Fix_sg x = spec_l08Fix x.1 x.2.1 := by kernel_rfl
theorem spec_l08Fix_so : Sound Tryz.prog 164 spec_l08Fix_en := sound_of_body (envS (l := [(162, spec_ClueAt_en), (166, spec_UpdateGated_en), (184, spec_l08Sensor_en), (218, spec_l04Vec_en)]) (⟨spec_ClueAt_so, spec_UpdateGated_so, spec_l08Sensor_so, spec_l04Vec_so, trivial⟩)) Tryz.func164 (by kernel_rfl) rfl (fun x y h => (spec_l08Fix_eq x).trans h)

-- loop.example/g01204/spec.l08Take
noncomputable def spec_l08Take (a0 : (Int × ((Vec 3 Nat) × ((List (Vec 3 Nat)) × ((List (Int × ((Vec 3 Nat) × ((Vec 3 Int) × (Int × (Nat × Unit)))))) × Unit))))) (a1 : ((Vec 6 Nat) × ((Vec 6 (Vec 6 Nat)) × Unit))) (a2 : (Int × ((Vec 3 Nat) × ((Vec 3 Int) × (Int × (Nat × Unit)))))) : Option ((((Vec 6 Nat) × ((Vec 6 (Vec 6 Nat)) × Unit)) × Bool × Int × Unit) × Unit) :=
  bif (iEq a2.1 1) then
    (spec_Predict a1 (fDiv .f32 1065353216 (fOfInt .f32 a0.1)) ((1048576000, 1048576000, 1048576000, ()) : (Vec 3 Nat))).bind fun y1367 =>
    some ((y1367.1.1, (iEq y1367.1.2.1 0), y1367.1.2.1, ()), ())
  else
  bif (iEq a2.1 2) then
    (spec_ClueAt (3 : Int) (Vec.getD 3 a2.2.1 0 (0 : Nat)) (1040187392 : Nat)).bind fun y1371 =>
    (spec_ClueAt (4 : Int) (Vec.getD 3 a2.2.1 1 (0 : Nat)) (1040187392 : Nat)).bind fun y1373 =>
    (spec_ClueAt (5 : Int) (Vec.getD 3 a2.2.1 2 (0 : Nat)) (1040187392 : Nat)).bind fun y1375 =>
    (spec_UpdateAll a1 ([y1371.1.1, y1373.1.1, y1375.1.1] : (List ((Vec 6 Nat) × (Nat × (Nat × Unit)))))).bind fun y1376 =>
    some ((y1376.1.1, (iEq y1376.1.2.1 0), y1376.1.2.1, ()), ())
  else
  bif (iEq a2.1 3) then
    (spec_l08Fix a1 a2.2.2.1).bind fun y1379 =>
    some ((y1379.1.1, y1379.1.2.1, y1379.1.2.2.1, ()), ())
  else
  bif inB a2.2.2.2.1 (List.length a0.2.2.1) then
    (spec_RangeClue a1 (List.getD a0.2.2.1 a2.2.2.2.1.toNat ((0, 0, 0, ()) : (Vec 3 Nat))) a2.2.2.2.2.1 (1056964608 : Nat)).bind fun y1381 =>
    bif (! (iEq y1381.1.2.1 0)) then some ((a1, false, (0 : Int), ()), ()) else
    (spec_UpdateGated a1 y1381.1.1 (1091567616 : Nat)).bind fun y1383 =>
    some ((y1383.1.1, y1383.1.2.1, y1383.1.2.2.1, ()), ())
  else none
noncomputable def spec_l08Take_sg : Sig := ⟨[.ro (.pair (.int .i64) (.pair (.arr 3 (.flt .f32)) (.pair (.list (.arr 3 (.flt .f32))) (.pair (.list (.pair (.int .i64) (.pair (.arr 3 (.flt .f32)) (.pair (.arr 3 (.int .i16)) (.pair (.int .i64) (.pair (.flt .f32) (.unit))))))) (.unit))))), .v (.pair (.arr 6 (.flt .f32)) (.pair (.arr 6 (.arr 6 (.flt .f32))) (.unit))), .ro (.pair (.int .i64) (.pair (.arr 3 (.flt .f32)) (.pair (.arr 3 (.int .i16)) (.pair (.int .i64) (.pair (.flt .f32) (.unit))))))], [.v (.val (.pair (.arr 6 (.flt .f32)) (.pair (.arr 6 (.arr 6 (.flt .f32))) (.unit)))), .v (.val (.bool)), .v (.val (.int .i64))], false⟩
noncomputable def spec_l08Take_en : Entry := ⟨spec_l08Take_sg, fun x => spec_l08Take x.1 x.2.1 x.2.2.1⟩
theorem spec_l08Take_eq (x : spec_l08Take_sg.dom) : body (env [(161, spec_Predict_en), (162, spec_ClueAt_en), (163, spec_UpdateAll_en), (164, spec_l08Fix_en), (165, spec_RangeClue_en), (166, spec_UpdateGated_en)]) [(8, .unroll 4)] Tryz.f93 spec_l08Take_sg x = spec_l08Take x.1 x.2.1 x.2.2.1 := by kernel_rfl
theorem spec_l08Take_so : Sound Tryz.prog 93 spec_l08Take_en := sound_of_body (envS (l := [(161, spec_Predict_en), (162, spec_ClueAt_en), (163, spec_UpdateAll_en), (164, spec_l08Fix_en), (165, spec_RangeClue_en), (166, spec_UpdateGated_en)]) (⟨spec_Predict_so, spec_ClueAt_so, spec_UpdateAll_so, spec_l08Fix_so, spec_RangeClue_so, spec_UpdateGated_so, trivial⟩)) Tryz.func93 (by kernel_rfl) rfl (fun x y h => (spec_l08Take_eq x).trans h)

-- loop.example/g01204/spec.TakeEntry
noncomputable def spec_TakeEntry (a0 : (Int × ((Vec 3 Nat) × ((List (Vec 3 Nat)) × ((List (Int × ((Vec 3 Nat) × ((Vec 3 Int) × (Int × (Nat × Unit)))))) × Unit))))) (a1 : ((Vec 6 Nat) × ((Vec 6 (Vec 6 Nat)) × Unit))) (a2 : (Int × ((Vec 3 Nat) × ((Vec 3 Int) × (Int × (Nat × Unit)))))) : Option ((((Vec 6 Nat) × ((Vec 6 (Vec 6 Nat)) × Unit)) × Bool × Int × Unit) × Unit) :=
  (spec_l08Log a0).bind fun y1176 =>
  bif (! y1176.1.1) then
    some (((((0, 0, 0, 0, 0, 0, ()), ((0, 0, 0, 0, 0, 0, ()), (0, 0, 0, 0, 0, 0, ()), (0, 0, 0, 0, 0, 0, ()), (0, 0, 0, 0, 0, 0, ()), (0, 0, 0, 0, 0, 0, ()), (0, 0, 0, 0, 0, 0, ()), ()), ()) : ((Vec 6 Nat) × ((Vec 6 (Vec 6 Nat)) × Unit))), false, (1 : Int), ()), ())
  else
  (spec_l03Ok a1).bind fun y1178 =>
  bif (! y1178.1.1) then
    some (((((0, 0, 0, 0, 0, 0, ()), ((0, 0, 0, 0, 0, 0, ()), (0, 0, 0, 0, 0, 0, ()), (0, 0, 0, 0, 0, 0, ()), (0, 0, 0, 0, 0, 0, ()), (0, 0, 0, 0, 0, 0, ()), (0, 0, 0, 0, 0, 0, ()), ()), ()) : ((Vec 6 Nat) × ((Vec 6 (Vec 6 Nat)) × Unit))), false, (1 : Int), ()), ())
  else
  (spec_l08Entry a2 (lenI a0.2.2.1)).bind fun y1180 =>
  bif (! y1180.1.1) then
    some (((((0, 0, 0, 0, 0, 0, ()), ((0, 0, 0, 0, 0, 0, ()), (0, 0, 0, 0, 0, 0, ()), (0, 0, 0, 0, 0, 0, ()), (0, 0, 0, 0, 0, 0, ()), (0, 0, 0, 0, 0, 0, ()), (0, 0, 0, 0, 0, 0, ()), ()), ()) : ((Vec 6 Nat) × ((Vec 6 (Vec 6 Nat)) × Unit))), false, (1 : Int), ()), ())
  else
  (spec_l08Take a0 a1 a2).bind fun y1182 =>
  some ((y1182.1.1, y1182.1.2.1, y1182.1.2.2.1, ()), ())
noncomputable def spec_TakeEntry_sg : Sig := ⟨[.v (.pair (.int .i64) (.pair (.arr 3 (.flt .f32)) (.pair (.list (.arr 3 (.flt .f32))) (.pair (.list (.pair (.int .i64) (.pair (.arr 3 (.flt .f32)) (.pair (.arr 3 (.int .i16)) (.pair (.int .i64) (.pair (.flt .f32) (.unit))))))) (.unit))))), .v (.pair (.arr 6 (.flt .f32)) (.pair (.arr 6 (.arr 6 (.flt .f32))) (.unit))), .v (.pair (.int .i64) (.pair (.arr 3 (.flt .f32)) (.pair (.arr 3 (.int .i16)) (.pair (.int .i64) (.pair (.flt .f32) (.unit))))))], [.v (.val (.pair (.arr 6 (.flt .f32)) (.pair (.arr 6 (.arr 6 (.flt .f32))) (.unit)))), .v (.val (.bool)), .v (.val (.int .i64))], false⟩
noncomputable def spec_TakeEntry_en : Entry := ⟨spec_TakeEntry_sg, fun x => spec_TakeEntry x.1 x.2.1 x.2.2.1⟩
theorem spec_TakeEntry_eq (x : spec_TakeEntry_sg.dom) : body (env [(90, spec_l08Log_en), (91, spec_l03Ok_en), (92, spec_l08Entry_en), (93, spec_l08Take_en)]) [] Tryz.f28 spec_TakeEntry_sg x = spec_TakeEntry x.1 x.2.1 x.2.2.1 := by kernel_rfl
theorem spec_TakeEntry_so : Sound Tryz.prog 28 spec_TakeEntry_en := sound_of_body (envS (l := [(90, spec_l08Log_en), (91, spec_l03Ok_en), (92, spec_l08Entry_en), (93, spec_l08Take_en)]) (⟨spec_l08Log_so, spec_l03Ok_so, spec_l08Entry_so, spec_l08Take_so, trivial⟩)) Tryz.func28 (by kernel_rfl) rfl (fun x y h => (spec_TakeEntry_eq x).trans h)

-- loop.example/g01204/laws.FnExactTakeEntry
noncomputable def laws_FnExactTakeEntry (a0 : (Int × ((Vec 3 Nat) × ((List (Vec 3 Nat)) × ((List (Int × ((Vec 3 Nat) × ((Vec 3 Int) × (Int × (Nat × Unit)))))) × Unit))))) (a1 : ((Vec 6 Nat) × ((Vec 6 (Vec 6 Nat)) × Unit))) (a2 : (Int × ((Vec 3 Nat) × ((Vec 3 Int) × (Int × (Nat × Unit)))))) : Option ((Bool × Unit) × Unit) :=
  (laws_szLog a0 (1048576 : Int)).bind fun y1 =>
  bif (iLt y1.1.1 0) then some ((true, ()), ()) else
  (laws_toLog a0).bind fun y3 =>
  (laws_toState a1).bind fun y4 =>
  (laws_toEntry a2).bind fun y5 =>
  (spec_TakeEntry ((y3.1.1.1, y3.1.1.2.1, y3.1.1.2.2.1, y3.1.1.2.2.2.1, y3.1.1.2.2.2.2) : (Int × ((Vec 3 Nat) × ((List (Vec 3 Nat)) × ((List (Int × ((Vec 3 Nat) × ((Vec 3 Int) × (Int × (Nat × Unit)))))) × Unit))))) y4.1.1 y5.1.1).bind fun y6 =>
  (laws_toLog a0).bind fun y7 =>
  (laws_toState a1).bind fun y8 =>
  (laws_toEntry a2).bind fun y9 =>
  (impl_TakeEntry ((y7.1.1.1, y7.1.1.2.1, y7.1.1.2.2.1, y7.1.1.2.2.2.1, y7.1.1.2.2.2.2) : (Int × ((Vec 3 Nat) × ((List (Vec 3 Nat)) × ((List (Int × ((Vec 3 Nat) × ((Vec 3 Int) × (Int × (Nat × Unit)))))) × Unit))))) y8.1.1 y9.1.1).bind fun y10 =>
  (laws_eqState y10.1.1 y6.1.1).bind fun y11 =>
  bif (! y11.1.1) then some ((false, ()), ()) else
  bif (! (bEq y10.1.2.1 y6.1.2.1)) then some ((false, ()), ()) else
  bif (! (iEq y10.1.2.2.1 y6.1.2.2.1)) then some ((false, ()), ()) else
  (laws_toLog a0).bind fun y15 =>
  (laws_eqLog ((y7.1.1.1, y7.1.1.2.1, y7.1.1.2.2.1, y7.1.1.2.2.2.1, y7.1.1.2.2.2.2) : (Int × ((Vec 3 Nat) × ((List (Vec 3 Nat)) × ((List (Int × ((Vec 3 Nat) × ((Vec 3 Int) × (Int × (Nat × Unit)))))) × Unit))))) ((y15.1.1.1, y15.1.1.2.1, y15.1.1.2.2.1, y15.1.1.2.2.2.1, y15.1.1.2.2.2.2) : (Int × ((Vec 3 Nat) × ((List (Vec 3 Nat)) × ((List (Int × ((Vec 3 Nat) × ((Vec 3 Int) × (Int × (Nat × Unit)))))) × Unit)))))).bind fun y16 =>
  bif (! y16.1.1) then some ((false, ()), ()) else some ((true, ()), ())
noncomputable def laws_FnExactTakeEntry_sg : Sig := ⟨[.v (.pair (.int .i64) (.pair (.arr 3 (.flt .f32)) (.pair (.list (.arr 3 (.flt .f32))) (.pair (.list (.pair (.int .i64) (.pair (.arr 3 (.flt .f32)) (.pair (.arr 3 (.int .i16)) (.pair (.int .i64) (.pair (.flt .f32) (.unit))))))) (.unit))))), .v (.pair (.arr 6 (.flt .f32)) (.pair (.arr 6 (.arr 6 (.flt .f32))) (.unit))), .v (.pair (.int .i64) (.pair (.arr 3 (.flt .f32)) (.pair (.arr 3 (.int .i16)) (.pair (.int .i64) (.pair (.flt .f32) (.unit))))))], [.v (.val (.bool))], false⟩
noncomputable def laws_FnExactTakeEntry_en : Entry := ⟨laws_FnExactTakeEntry_sg, fun x => laws_FnExactTakeEntry x.1 x.2.1 x.2.2.1⟩
theorem laws_FnExactTakeEntry_eq (x : laws_FnExactTakeEntry_sg.dom) : body (env [(27, laws_szLog_en), (28, spec_TakeEntry_en), (29, laws_toLog_en), (30, laws_toState_en), (31, laws_toEntry_en), (32, impl_TakeEntry_en), (33, laws_eqState_en), (34, laws_eqLog_en)]) [] Tryz.f4 laws_FnExactTakeEntry_sg x = laws_FnExactTakeEntry x.1 x.2.1 x.2.2.1 := by kernel_rfl
theorem laws_FnExactTakeEntry_so : Sound Tryz.prog 4 laws_FnExactTakeEntry_en := sound_of_body (envS (l := [(27, laws_szLog_en), (28, spec_TakeEntry_en), (29, laws_toLog_en), (30, laws_toState_en), (31, laws_toEntry_en), (32, impl_TakeEntry_en), (33, laws_eqState_en), (34, laws_eqLog_en)]) (⟨laws_szLog_so, spec_TakeEntry_so, laws_toLog_so, laws_toState_so, laws_toEntry_so, impl_TakeEntry_so, laws_eqState_so, laws_eqLog_so, trivial⟩)) Tryz.func4 (by kernel_rfl) rfl (fun x y h => (laws_FnExactTakeEntry_eq x).trans h)

-- loop.example/g01204/impl.StateOf
noncomputable def impl_StateOf (a0 : (Vec 6 Nat)) (a1 : (Vec 6 Nat)) : Option ((((Vec 6 Nat) × ((Vec 6 (Vec 6 Nat)) × Unit)) × Int × Unit) × Unit) :=
  let x2330 := Vec.getD 6 a1 0 (0 : Nat)
  let x2331 := Vec.getD 6 a1 1 (0 : Nat)
  let x2332 := Vec.getD 6 a1 2 (0 : Nat)
  let x2333 := Vec.getD 6 a1 3 (0 : Nat)
  let x2334 := Vec.getD 6 a1 4 (0 : Nat)
  let x2335 := Vec.getD 6 a1 5 (0 : Nat)
  (impl_ValidState ((a0, ((x2330, 0, 0, 0, 0, 0, ()), (0, x2331, 0, 0, 0, 0, ()), (0, 0, x2332, 0, 0, 0, ()), (0, 0, 0, x2333, 0, 0, ()), (0, 0, 0, 0, x2334, 0, ()), (0, 0, 0, 0, 0, x2335, ()), ()), ()) : ((Vec 6 Nat) × ((Vec 6 (Vec 6 Nat)) × Unit)))).bind fun y2336 =>
  bif (! y2336.1.1) then
    some (((((0, 0, 0, 0, 0, 0, ()), ((0, 0, 0, 0, 0, 0, ()), (0, 0, 0, 0, 0, 0, ()), (0, 0, 0, 0, 0, 0, ()), (0, 0, 0, 0, 0, 0, ()), (0, 0, 0, 0, 0, 0, ()), (0, 0, 0, 0, 0, 0, ()), ()), ()) : ((Vec 6 Nat) × ((Vec 6 (Vec 6 Nat)) × Unit))), (1 : Int), ()), ())
  else
  some ((((a0, ((x2330, 0, 0, 0, 0, 0, ()), (0, x2331, 0, 0, 0, 0, ()), (0, 0, x2332, 0, 0, 0, ()), (0, 0, 0, x2333, 0, 0, ()), (0, 0, 0, 0, x2334, 0, ()), (0, 0, 0, 0, 0, x2335, ()), ()), ()) : ((Vec 6 Nat) × ((Vec 6 (Vec 6 Nat)) × Unit))), (0 : Int), ()), ())
noncomputable def impl_StateOf_sg : Sig := ⟨[.v (.arr 6 (.flt .f32)), .v (.arr 6 (.flt .f32))], [.v (.val (.pair (.arr 6 (.flt .f32)) (.pair (.arr 6 (.arr 6 (.flt .f32))) (.unit)))), .v (.val (.int .i64))], false⟩
noncomputable def impl_StateOf_en : Entry := ⟨impl_StateOf_sg, fun x => impl_StateOf x.1 x.2.1⟩
theorem impl_StateOf_eq (x : impl_StateOf_sg.dom) : body (env [(101, impl_ValidState_en)]) [(3, .unroll 7)] Tryz.f182 impl_StateOf_sg x = impl_StateOf x.1 x.2.1 := by kernel_rfl
theorem impl_StateOf_so : Sound Tryz.prog 182 impl_StateOf_en := sound_of_body (envS (l := [(101, impl_ValidState_en)]) (⟨impl_ValidState_so, trivial⟩)) Tryz.func182 (by kernel_rfl) rfl (fun x y h => (impl_StateOf_eq x).trans h)

-- loop.example/g01204/impl.firstState
noncomputable def impl_firstState (a0 : (Int × ((Vec 3 Nat) × ((List (Vec 3 Nat)) × ((List (Int × ((Vec 3 Nat) × ((Vec 3 Int) × (Int × (Nat × Unit)))))) × Unit))))) : Option ((((Vec 6 Nat) × ((Vec 6 (Vec 6 Nat)) × Unit)) × Unit) × Unit) :=
  (impl_StateOf (((Vec.getD 3 a0.2.1 0 (0 : Nat)), (Vec.getD 3 a0.2.1 1 (0 : Nat)), (Vec.getD 3 a0.2.1 2 (0 : Nat)), 0, 0, 0, ()) : (Vec 6 Nat)) ((1056964608, 1056964608, 1056964608, 1065353216, 1065353216, 1065353216, ()) : (Vec 6 Nat))).bind fun y2329 =>
  some ((y2329.1.1, ()), ())
noncomputable def impl_firstState_sg : Sig := ⟨[.v (.pair (.int .i64) (.pair (.arr 3 (.flt .f32)) (.pair (.list (.arr 3 (.flt .f32))) (.pair (.list (.pair (.int .i64) (.pair (.arr 3 (.flt .f32)) (.pair (.arr 3 (.int .i16)) (.pair (.int .i64) (.pair (.flt .f32) (.unit))))))) (.unit)))))], [.v (.val (.pair (.arr 6 (.flt .f32)) (.pair (.arr 6 (.arr 6 (.flt .f32))) (.unit))))], false⟩
noncomputable def impl_firstState_en : Entry := ⟨impl_firstState_sg, fun x => impl_firstState x.1⟩
theorem impl_firstState_eq (x : impl_firstState_sg.dom) : body (env [(182, impl_StateOf_en)]) [] Tryz.f112 impl_firstState_sg x = impl_firstState x.1 := by kernel_rfl
theorem impl_firstState_so : Sound Tryz.prog 112 impl_firstState_en := sound_of_body (envS (l := [(182, impl_StateOf_en)]) (⟨impl_StateOf_so, trivial⟩)) Tryz.func112 (by kernel_rfl) rfl (fun x y h => (impl_firstState_eq x).trans h)

-- loop.example/g01204/impl.replay
noncomputable def impl_replay_l3 (a3 : Int) (a0 : (Int × ((Vec 3 Nat) × ((List (Vec 3 Nat)) × ((List (Int × ((Vec 3 Nat) × ((Vec 3 Int) × (Int × (Nat × Unit)))))) × Unit))))) (s2346 : ((List Int) × Int × ((Vec 6 Nat) × ((Vec 6 (Vec 6 Nat)) × Unit)) × Unit)) : Option (((List Int) × Int × ((Vec 6 Nat) × ((Vec 6 (Vec 6 Nat)) × Unit)) × Unit) ⊕ ((((Vec 6 Nat) × ((Vec 6 (Vec 6 Nat)) × Unit)) × (List Int) × Int × Unit) × Unit)) :=
  bif (iLt s2346.2.1 a3) then
    bif inB s2346.2.1 (List.length a0.2.2.2.1) then
      (impl_takeEntry a0 s2346.2.2.1 (List.getD a0.2.2.2.1 s2346.2.1.toNat ((0, (0, 0, 0, ()), (0, 0, 0, ()), 0, 0, ()) : (Int × ((Vec 3 Nat) × ((Vec 3 Int) × (Int × (Nat × Unit)))))))).bind fun y2349 =>
      bif (! (iEq y2349.1.2.2.1 0)) then
        Option.map Sum.inr (some (((((0, 0, 0, 0, 0, 0, ()), ((0, 0, 0, 0, 0, 0, ()), (0, 0, 0, 0, 0, 0, ()), (0, 0, 0, 0, 0, 0, ()), (0, 0, 0, 0, 0, 0, ()), (0, 0, 0, 0, 0, 0, ()), (0, 0, 0, 0, 0, 0, ()), ()), ()) : ((Vec 6 Nat) × ((Vec 6 (Vec 6 Nat)) × Unit))), ([] : (List Int)), y2349.1.2.2.1, ()), ()))
      else
      bif (! y2349.1.2.1) then
        bif room (List.length s2346.1 + 1) 8 then
          some (Sum.inl ((s2346.1 ++ ([s2346.2.1] : (List Int))), (iAdd .i64 s2346.2.1 1), y2349.1.1, ()))
        else none
      else
      some (Sum.inl (s2346.1, (iAdd .i64 s2346.2.1 1), y2349.1.1, ()))
    else none
  else
  Option.map Sum.inr (some ((s2346.2.2.1, s2346.1, (0 : Int), ()), ()))
noncomputable def impl_replay (a0 : (Int × ((Vec 3 Nat) × ((List (Vec 3 Nat)) × ((List (Int × ((Vec 3 Nat) × ((Vec 3 Int) × (Int × (Nat × Unit)))))) × Unit))))) (a1 : ((Vec 6 Nat) × ((Vec 6 (Vec 6 Nat)) × Unit))) (a2 : Int) (a3 : Int) : Option ((((Vec 6 Nat) × ((Vec 6 (Vec 6 Nat)) × Unit)) × (List Int) × Int × Unit) × Unit) :=
  run (impl_replay_l3 a3 a0) (([] : (List Int)), a2, a1, ())
noncomputable def impl_replay_sg : Sig := ⟨[.v (.pair (.int .i64) (.pair (.arr 3 (.flt .f32)) (.pair (.list (.arr 3 (.flt .f32))) (.pair (.list (.pair (.int .i64) (.pair (.arr 3 (.flt .f32)) (.pair (.arr 3 (.int .i16)) (.pair (.int .i64) (.pair (.flt .f32) (.unit))))))) (.unit))))), .v (.pair (.arr 6 (.flt .f32)) (.pair (.arr 6 (.arr 6 (.flt .f32))) (.unit))), .v (.int .i64), .v (.int .i64)], [.v (.val (.pair (.arr 6 (.flt .f32)) (.pair (.arr 6 (.arr 6 (.flt .f32))) (.unit)))), .v (.rows (.int .i64)), .v (.val (.int .i64))], false⟩
noncomputable def impl_replay_en : Entry := ⟨impl_replay_sg, fun x => impl_replay x.1 x.2.1 x.2.2.1 x.2.2.2.1⟩
theorem impl_replay_eq (x : impl_replay_sg.dom) : body (env [(103, impl_takeEntry_en)]) [(3, .vary [(11, .rows (.int .i64)), (12, .sc (.int .i64)), (5, .box (.val (.pair (.arr 6 (.flt .f32)) (.pair (.arr 6 (.arr 6 (.flt .f32))) (.unit)))))])] Tryz.f111 impl_replay_sg x = impl_replay x.1 x.2.1 x.2.2.1 x.2.2.2.1 := by kernel_rfl
theorem impl_replay_so : Sound Tryz.prog 111 impl_replay_en := sound_of_body (envS (l := [(103, impl_takeEntry_en)]) (⟨impl_takeEntry_so, trivial⟩)) Tryz.func111 (by kernel_rfl) rfl (fun x y h => (impl_replay_eq x).trans h)

-- loop.example/g01204/impl.ReplayLog
noncomputable def impl_ReplayLog (a0 : (Int × ((Vec 3 Nat) × ((List (Vec 3 Nat)) × ((List (Int × ((Vec 3 Nat) × ((Vec 3 Int) × (Int × (Nat × Unit)))))) × Unit))))) : Option ((((Vec 6 Nat) × ((Vec 6 (Vec 6 Nat)) × Unit)) × Int × Unit) × Unit) :=
  (impl_ValidLog a0).bind fun y2322 =>
  bif (! y2322.1.1) then
    some (((((0, 0, 0, 0, 0, 0, ()), ((0, 0, 0, 0, 0, 0, ()), (0, 0, 0, 0, 0, 0, ()), (0, 0, 0, 0, 0, 0, ()), (0, 0, 0, 0, 0, 0, ()), (0, 0, 0, 0, 0, 0, ()), (0, 0, 0, 0, 0, 0, ()), ()), ()) : ((Vec 6 Nat) × ((Vec 6 (Vec 6 Nat)) × Unit))), (1 : Int), ()), ())
  else
  (impl_firstState a0).bind fun y2324 =>
  (impl_replay a0 y2324.1.1 (0 : Int) (lenI a0.2.2.2.1)).bind fun y2325 =>
  some ((y2325.1.1, y2325.1.2.2.1, ()), ())
noncomputable def impl_ReplayLog_sg : Sig := ⟨[.v (.pair (.int .i64) (.pair (.arr 3 (.flt .f32)) (.pair (.list (.arr 3 (.flt .f32))) (.pair (.list (.pair (.int .i64) (.pair (.arr 3 (.flt .f32)) (.pair (.arr 3 (.int .i16)) (.pair (.int .i64) (.pair (.flt .f32) (.unit))))))) (.unit)))))], [.v (.val (.pair (.arr 6 (.flt .f32)) (.pair (.arr 6 (.arr 6 (.flt .f32))) (.unit)))), .v (.val (.int .i64))], false⟩
noncomputable def impl_ReplayLog_en : Entry := ⟨impl_ReplayLog_sg, fun x => impl_ReplayLog x.1⟩
theorem impl_ReplayLog_eq (x : impl_ReplayLog_sg.dom) : body (env [(100, impl_ValidLog_en), (111, impl_replay_en), (112, impl_firstState_en)]) [] Tryz.f36 impl_ReplayLog_sg x = impl_ReplayLog x.1 := by kernel_rfl
theorem impl_ReplayLog_so : Sound Tryz.prog 36 impl_ReplayLog_en := sound_of_body (envS (l := [(100, impl_ValidLog_en), (111, impl_replay_en), (112, impl_firstState_en)]) (⟨impl_ValidLog_so, impl_replay_so, impl_firstState_so, trivial⟩)) Tryz.func36 (by kernel_rfl) rfl (fun x y h => (impl_ReplayLog_eq x).trans h)

-- loop.example/g01204/spec.l08First
noncomputable def spec_l08First (a0 : (Int × ((Vec 3 Nat) × ((List (Vec 3 Nat)) × ((List (Int × ((Vec 3 Nat) × ((Vec 3 Int) × (Int × (Nat × Unit)))))) × Unit))))) : Option ((((Vec 6 Nat) × ((Vec 6 (Vec 6 Nat)) × Unit)) × Unit) × Unit) :=
  some ((((((Vec.getD 3 a0.2.1 0 (0 : Nat)), (Vec.getD 3 a0.2.1 1 (0 : Nat)), (Vec.getD 3 a0.2.1 2 (0 : Nat)), 0, 0, 0, ()), ((1056964608, 0, 0, 0, 0, 0, ()), (0, 1056964608, 0, 0, 0, 0, ()), (0, 0, 1056964608, 0, 0, 0, ()), (0, 0, 0, 1065353216, 0, 0, ()), (0, 0, 0, 0, 1065353216, 0, ()), (0, 0, 0, 0, 0, 1065353216, ()), ()), ()) : ((Vec 6 Nat) × ((Vec 6 (Vec 6 Nat)) × Unit))), ()), ())
noncomputable def spec_l08First_sg : Sig := ⟨[.ro (.pair (.int .i64) (.pair (.arr 3 (.flt .f32)) (.pair (.list (.arr 3 (.flt .f32))) (.pair (.list (.pair (.int .i64) (.pair (.arr 3 (.flt .f32)) (.pair (.arr 3 (.int .i16)) (.pair (.int .i64) (.pair (.flt .f32) (.unit))))))) (.unit)))))], [.v (.val (.pair (.arr 6 (.flt .f32)) (.pair (.arr 6 (.arr 6 (.flt .f32))) (.unit))))], false⟩
noncomputable def spec_l08First_en : Entry := ⟨spec_l08First_sg, fun x => spec_l08First x.1⟩
theorem spec_l08First_eq (x : spec_l08First_sg.dom) : body (env []) [(3, .unroll 4)] Tryz.f110 spec_l08First_sg x = spec_l08First x.1 := by kernel_rfl
theorem spec_l08First_so : Sound Tryz.prog 110 spec_l08First_en := sound_of_body (envS (l := []) (trivial)) Tryz.func110 (by kernel_rfl) rfl (fun x y h => (spec_l08First_eq x).trans h)

-- loop.example/g01204/spec.l08Replay
noncomputable def spec_l08Replay_l3 (a3 : Int) (a0 : (Int × ((Vec 3 Nat) × ((List (Vec 3 Nat)) × ((List (Int × ((Vec 3 Nat) × ((Vec 3 Int) × (Int × (Nat × Unit)))))) × Unit))))) (s2369 : ((List Int) × Int × ((Vec 6 Nat) × ((Vec 6 (Vec 6 Nat)) × Unit)) × Unit)) : Option (((List Int) × Int × ((Vec 6 Nat) × ((Vec 6 (Vec 6 Nat)) × Unit)) × Unit) ⊕ ((((Vec 6 Nat) × ((Vec 6 (Vec 6 Nat)) × Unit)) × (List Int) × Int × Unit) × Unit)) :=
  bif (iLt s2369.2.1 a3) then
    bif inB s2369.2.1 (List.length a0.2.2.2.1) then
      (spec_l08Take a0 s2369.2.2.1 (List.getD a0.2.2.2.1 s2369.2.1.toNat ((0, (0, 0, 0, ()), (0, 0, 0, ()), 0, 0, ()) : (Int × ((Vec 3 Nat) × ((Vec 3 Int) × (Int × (Nat × Unit)))))))).bind fun y2371 =>
      bif (! (iEq y2371.1.2.2.1 0)) then
        Option.map Sum.inr (some (((((0, 0, 0, 0, 0, 0, ()), ((0, 0, 0, 0, 0, 0, ()), (0, 0, 0, 0, 0, 0, ()), (0, 0, 0, 0, 0, 0, ()), (0, 0, 0, 0, 0, 0, ()), (0, 0, 0, 0, 0, 0, ()), (0, 0, 0, 0, 0, 0, ()), ()), ()) : ((Vec 6 Nat) × ((Vec 6 (Vec 6 Nat)) × Unit))), ([] : (List Int)), y2371.1.2.2.1, ()), ()))
      else
      bif (! y2371.1.2.1) then
        bif room (List.length s2369.1 + 1) 8 then
          some (Sum.inl ((s2369.1 ++ ([s2369.2.1] : (List Int))), (iAdd .i64 s2369.2.1 1), y2371.1.1, ()))
        else none
      else
      some (Sum.inl (s2369.1, (iAdd .i64 s2369.2.1 1), y2371.1.1, ()))
    else none
  else
  Option.map Sum.inr (some ((s2369.2.2.1, s2369.1, (0 : Int), ()), ()))
noncomputable def spec_l08Replay (a0 : (Int × ((Vec 3 Nat) × ((List (Vec 3 Nat)) × ((List (Int × ((Vec 3 Nat) × ((Vec 3 Int) × (Int × (Nat × Unit)))))) × Unit))))) (a1 : ((Vec 6 Nat) × ((Vec 6 (Vec 6 Nat)) × Unit))) (a2 : Int) (a3 : Int) : Option ((((Vec 6 Nat) × ((Vec 6 (Vec 6 Nat)) × Unit)) × (List Int) × Int × Unit) × Unit) :=
  run (spec_l08Replay_l3 a3 a0) (([] : (List Int)), a2, a1, ())
noncomputable def spec_l08Replay_sg : Sig := ⟨[.ro (.pair (.int .i64) (.pair (.arr 3 (.flt .f32)) (.pair (.list (.arr 3 (.flt .f32))) (.pair (.list (.pair (.int .i64) (.pair (.arr 3 (.flt .f32)) (.pair (.arr 3 (.int .i16)) (.pair (.int .i64) (.pair (.flt .f32) (.unit))))))) (.unit))))), .v (.pair (.arr 6 (.flt .f32)) (.pair (.arr 6 (.arr 6 (.flt .f32))) (.unit))), .v (.int .i64), .v (.int .i64)], [.v (.val (.pair (.arr 6 (.flt .f32)) (.pair (.arr 6 (.arr 6 (.flt .f32))) (.unit)))), .v (.rows (.int .i64)), .v (.val (.int .i64))], false⟩
noncomputable def spec_l08Replay_en : Entry := ⟨spec_l08Replay_sg, fun x => spec_l08Replay x.1 x.2.1 x.2.2.1 x.2.2.2.1⟩
theorem spec_l08Replay_eq (x : spec_l08Replay_sg.dom) : body (env [(93, spec_l08Take_en)]) [(3, .vary [(11, .rows (.int .i64)), (12, .sc (.int .i64)), (5, .box (.val (.pair (.arr 6 (.flt .f32)) (.pair (.arr 6 (.arr 6 (.flt .f32))) (.unit)))))])] Tryz.f109 spec_l08Replay_sg x = spec_l08Replay x.1 x.2.1 x.2.2.1 x.2.2.2.1 := by kernel_rfl
theorem spec_l08Replay_so : Sound Tryz.prog 109 spec_l08Replay_en := sound_of_body (envS (l := [(93, spec_l08Take_en)]) (⟨spec_l08Take_so, trivial⟩)) Tryz.func109 (by kernel_rfl) rfl (fun x y h => (spec_l08Replay_eq x).trans h)

-- loop.example/g01204/spec.ReplayLog
noncomputable def spec_ReplayLog (a0 : (Int × ((Vec 3 Nat) × ((List (Vec 3 Nat)) × ((List (Int × ((Vec 3 Nat) × ((Vec 3 Int) × (Int × (Nat × Unit)))))) × Unit))))) : Option ((((Vec 6 Nat) × ((Vec 6 (Vec 6 Nat)) × Unit)) × Int × Unit) × Unit) :=
  (spec_l08Log a0).bind fun y2355 =>
  bif (! y2355.1.1) then
    some (((((0, 0, 0, 0, 0, 0, ()), ((0, 0, 0, 0, 0, 0, ()), (0, 0, 0, 0, 0, 0, ()), (0, 0, 0, 0, 0, 0, ()), (0, 0, 0, 0, 0, 0, ()), (0, 0, 0, 0, 0, 0, ()), (0, 0, 0, 0, 0, 0, ()), ()), ()) : ((Vec 6 Nat) × ((Vec 6 (Vec 6 Nat)) × Unit))), (1 : Int), ()), ())
  else
  (spec_l08First a0).bind fun y2357 =>
  (spec_l08Replay a0 y2357.1.1 (0 : Int) (lenI a0.2.2.2.1)).bind fun y2358 =>
  some ((y2358.1.1, y2358.1.2.2.1, ()), ())
noncomputable def spec_ReplayLog_sg : Sig := ⟨[.v (.pair (.int .i64) (.pair (.arr 3 (.flt .f32)) (.pair (.list (.arr 3 (.flt .f32))) (.pair (.list (.pair (.int .i64) (.pair (.arr 3 (.flt .f32)) (.pair (.arr 3 (.int .i16)) (.pair (.int .i64) (.pair (.flt .f32) (.unit))))))) (.unit)))))], [.v (.val (.pair (.arr 6 (.flt .f32)) (.pair (.arr 6 (.arr 6 (.flt .f32))) (.unit)))), .v (.val (.int .i64))], false⟩
noncomputable def spec_ReplayLog_en : Entry := ⟨spec_ReplayLog_sg, fun x => spec_ReplayLog x.1⟩
theorem spec_ReplayLog_eq (x : spec_ReplayLog_sg.dom) : body (env [(90, spec_l08Log_en), (109, spec_l08Replay_en), (110, spec_l08First_en)]) [] Tryz.f35 spec_ReplayLog_sg x = spec_ReplayLog x.1 := by kernel_rfl
theorem spec_ReplayLog_so : Sound Tryz.prog 35 spec_ReplayLog_en := sound_of_body (envS (l := [(90, spec_l08Log_en), (109, spec_l08Replay_en), (110, spec_l08First_en)]) (⟨spec_l08Log_so, spec_l08Replay_so, spec_l08First_so, trivial⟩)) Tryz.func35 (by kernel_rfl) rfl (fun x y h => (spec_ReplayLog_eq x).trans h)

-- loop.example/g01204/laws.FnExactReplayLog
noncomputable def laws_FnExactReplayLog (a0 : (Int × ((Vec 3 Nat) × ((List (Vec 3 Nat)) × ((List (Int × ((Vec 3 Nat) × ((Vec 3 Int) × (Int × (Nat × Unit)))))) × Unit))))) : Option ((Bool × Unit) × Unit) :=
  (laws_szLog a0 (1048576 : Int)).bind fun y2310 =>
  bif (iLt y2310.1.1 0) then some ((true, ()), ()) else
  (laws_toLog a0).bind fun y2312 =>
  (spec_ReplayLog ((y2312.1.1.1, y2312.1.1.2.1, y2312.1.1.2.2.1, y2312.1.1.2.2.2.1, y2312.1.1.2.2.2.2) : (Int × ((Vec 3 Nat) × ((List (Vec 3 Nat)) × ((List (Int × ((Vec 3 Nat) × ((Vec 3 Int) × (Int × (Nat × Unit)))))) × Unit)))))).bind fun y2313 =>
  (laws_toLog a0).bind fun y2314 =>
  (impl_ReplayLog ((y2314.1.1.1, y2314.1.1.2.1, y2314.1.1.2.2.1, y2314.1.1.2.2.2.1, y2314.1.1.2.2.2.2) : (Int × ((Vec 3 Nat) × ((List (Vec 3 Nat)) × ((List (Int × ((Vec 3 Nat) × ((Vec 3 Int) × (Int × (Nat × Unit)))))) × Unit)))))).bind fun y2315 =>
  (laws_eqState y2315.1.1 y2313.1.1).bind fun y2316 =>
  bif (! y2316.1.1) then some ((false, ()), ()) else
  bif (! (iEq y2315.1.2.1 y2313.1.2.1)) then some ((false, ()), ()) else
  (laws_toLog a0).bind fun y2319 =>
  (laws_eqLog ((y2314.1.1.1, y2314.1.1.2.1, y2314.1.1.2.2.1, y2314.1.1.2.2.2.1, y2314.1.1.2.2.2.2) : (Int × ((Vec 3 Nat) × ((List (Vec 3 Nat)) × ((List (Int × ((Vec 3 Nat) × ((Vec 3 Int) × (Int × (Nat × Unit)))))) × Unit))))) ((y2319.1.1.1, y2319.1.1.2.1, y2319.1.1.2.2.1, y2319.1.1.2.2.2.1, y2319.1.1.2.2.2.2) : (Int × ((Vec 3 Nat) × ((List (Vec 3 Nat)) × ((List (Int × ((Vec 3 Nat) × ((Vec 3 Int) × (Int × (Nat × Unit)))))) × Unit)))))).bind fun y2320 =>
  bif (! y2320.1.1) then some ((false, ()), ()) else some ((true, ()), ())
noncomputable def laws_FnExactReplayLog_sg : Sig := ⟨[.v (.pair (.int .i64) (.pair (.arr 3 (.flt .f32)) (.pair (.list (.arr 3 (.flt .f32))) (.pair (.list (.pair (.int .i64) (.pair (.arr 3 (.flt .f32)) (.pair (.arr 3 (.int .i16)) (.pair (.int .i64) (.pair (.flt .f32) (.unit))))))) (.unit)))))], [.v (.val (.bool))], false⟩
noncomputable def laws_FnExactReplayLog_en : Entry := ⟨laws_FnExactReplayLog_sg, fun x => laws_FnExactReplayLog x.1⟩
theorem laws_FnExactReplayLog_eq (x : laws_FnExactReplayLog_sg.dom) : body (env [(27, laws_szLog_en), (29, laws_toLog_en), (33, laws_eqState_en), (34, laws_eqLog_en), (35, spec_ReplayLog_en), (36, impl_ReplayLog_en)]) [] Tryz.f5 laws_FnExactReplayLog_sg x = laws_FnExactReplayLog x.1 := by kernel_rfl
theorem laws_FnExactReplayLog_so : Sound Tryz.prog 5 laws_FnExactReplayLog_en := sound_of_body (envS (l := [(27, laws_szLog_en), (29, laws_toLog_en), (33, laws_eqState_en), (34, laws_eqLog_en), (35, spec_ReplayLog_en), (36, impl_ReplayLog_en)]) (⟨laws_szLog_so, laws_toLog_so, laws_eqState_so, laws_eqLog_so, spec_ReplayLog_so, impl_ReplayLog_so, trivial⟩)) Tryz.func5 (by kernel_rfl) rfl (fun x y h => (laws_FnExactReplayLog_eq x).trans h)

-- loop.example/g01204/impl.ReplayFrom
noncomputable def impl_ReplayFrom (a0 : (Int × ((Vec 3 Nat) × ((List (Vec 3 Nat)) × ((List (Int × ((Vec 3 Nat) × ((Vec 3 Int) × (Int × (Nat × Unit)))))) × Unit))))) (a1 : ((Vec 6 Nat) × ((Vec 6 (Vec 6 Nat)) × Unit))) (a2 : Int) (a3 : Int) : Option ((((Vec 6 Nat) × ((Vec 6 (Vec 6 Nat)) × Unit)) × Int × Unit) × Unit) :=
  (impl_ValidLog a0).bind fun y2391 =>
  bif (! y2391.1.1) then
    some (((((0, 0, 0, 0, 0, 0, ()), ((0, 0, 0, 0, 0, 0, ()), (0, 0, 0, 0, 0, 0, ()), (0, 0, 0, 0, 0, 0, ()), (0, 0, 0, 0, 0, 0, ()), (0, 0, 0, 0, 0, 0, ()), (0, 0, 0, 0, 0, 0, ()), ()), ()) : ((Vec 6 Nat) × ((Vec 6 (Vec 6 Nat)) × Unit))), (1 : Int), ()), ())
  else
  (impl_ValidState a1).bind fun y2393 =>
  bif (! y2393.1.1) then
    some (((((0, 0, 0, 0, 0, 0, ()), ((0, 0, 0, 0, 0, 0, ()), (0, 0, 0, 0, 0, 0, ()), (0, 0, 0, 0, 0, 0, ()), (0, 0, 0, 0, 0, 0, ()), (0, 0, 0, 0, 0, 0, ()), (0, 0, 0, 0, 0, 0, ()), ()), ()) : ((Vec 6 Nat) × ((Vec 6 (Vec 6 Nat)) × Unit))), (1 : Int), ()), ())
  else
  (impl_within a2 (0 : Int) (lenI a0.2.2.2.1)).bind fun y2395 =>
  bif (! y2395.1.1) then
    some (((((0, 0, 0, 0, 0, 0, ()), ((0, 0, 0, 0, 0, 0, ()), (0, 0, 0, 0, 0, 0, ()), (0, 0, 0, 0, 0, 0, ()), (0, 0, 0, 0, 0, 0, ()), (0, 0, 0, 0, 0, 0, ()), (0, 0, 0, 0, 0, 0, ()), ()), ()) : ((Vec 6 Nat) × ((Vec 6 (Vec 6 Nat)) × Unit))), (2 : Int), ()), ())
  else
  (impl_within a3 (0 : Int) (lenI a0.2.2.2.1)).bind fun y2397 =>
  bif (! y2397.1.1) then
    some (((((0, 0, 0, 0, 0, 0, ()), ((0, 0, 0, 0, 0, 0, ()), (0, 0, 0, 0, 0, 0, ()), (0, 0, 0, 0, 0, 0, ()), (0, 0, 0, 0, 0, 0, ()), (0, 0, 0, 0, 0, 0, ()), (0, 0, 0, 0, 0, 0, ()), ()), ()) : ((Vec 6 Nat) × ((Vec 6 (Vec 6 Nat)) × Unit))), (2 : Int), ()), ())
  else
  bif (iLt a3 a2) then
    some (((((0, 0, 0, 0, 0, 0, ()), ((0, 0, 0, 0, 0, 0, ()), (0, 0, 0, 0, 0, 0, ()), (0, 0, 0, 0, 0, 0, ()), (0, 0, 0, 0, 0, 0, ()), (0, 0, 0, 0, 0, 0, ()), (0, 0, 0, 0, 0, 0, ()), ()), ()) : ((Vec 6 Nat) × ((Vec 6 (Vec 6 Nat)) × Unit))), (2 : Int), ()), ())
  else
  (impl_replay a0 a1 a2 a3).bind fun y2400 =>
  some ((y2400.1.1, y2400.1.2.2.1, ()), ())
noncomputable def impl_ReplayFrom_sg : Sig := ⟨[.v (.pair (.int .i64) (.pair (.arr 3 (.flt .f32)) (.pair (.list (.arr 3 (.flt .f32))) (.pair (.list (.pair (.int .i64) (.pair (.arr 3 (.flt .f32)) (.pair (.arr 3 (.int .i16)) (.pair (.int .i64) (.pair (.flt .f32) (.unit))))))) (.unit))))), .v (.pair (.arr 6 (.flt .f32)) (.pair (.arr 6 (.arr 6 (.flt .f32))) (.unit))), .v (.int .i64), .v (.int .i64)], [.v (.val (.pair (.arr 6 (.flt .f32)) (.pair (.arr 6 (.arr 6 (.flt .f32))) (.unit)))), .v (.val (.int .i64))], false⟩
noncomputable def impl_ReplayFrom_en : Entry := ⟨impl_ReplayFrom_sg, fun x => impl_ReplayFrom x.1 x.2.1 x.2.2.1 x.2.2.2.1⟩
theorem impl_ReplayFrom_eq (x : impl_ReplayFrom_sg.dom) : body (env [(100, impl_ValidLog_en), (101, impl_ValidState_en), (111, impl_replay_en), (114, impl_within_en)]) [] Tryz.f38 impl_ReplayFrom_sg x = impl_ReplayFrom x.1 x.2.1 x.2.2.1 x.2.2.2.1 := by kernel_rfl
theorem impl_ReplayFrom_so : Sound Tryz.prog 38 impl_ReplayFrom_en := sound_of_body (envS (l := [(100, impl_ValidLog_en), (101, impl_ValidState_en), (111, impl_replay_en), (114, impl_within_en)]) (⟨impl_ValidLog_so, impl_ValidState_so, impl_replay_so, impl_within_so, trivial⟩)) Tryz.func38 (by kernel_rfl) rfl (fun x y h => (impl_ReplayFrom_eq x).trans h)

-- loop.example/g01204/spec.ReplayFrom
noncomputable def spec_ReplayFrom (a0 : (Int × ((Vec 3 Nat) × ((List (Vec 3 Nat)) × ((List (Int × ((Vec 3 Nat) × ((Vec 3 Int) × (Int × (Nat × Unit)))))) × Unit))))) (a1 : ((Vec 6 Nat) × ((Vec 6 (Vec 6 Nat)) × Unit))) (a2 : Int) (a3 : Int) : Option ((((Vec 6 Nat) × ((Vec 6 (Vec 6 Nat)) × Unit)) × Int × Unit) × Unit) :=
  (spec_l08Log a0).bind fun y2401 =>
  bif (! y2401.1.1) then
    some (((((0, 0, 0, 0, 0, 0, ()), ((0, 0, 0, 0, 0, 0, ()), (0, 0, 0, 0, 0, 0, ()), (0, 0, 0, 0, 0, 0, ()), (0, 0, 0, 0, 0, 0, ()), (0, 0, 0, 0, 0, 0, ()), (0, 0, 0, 0, 0, 0, ()), ()), ()) : ((Vec 6 Nat) × ((Vec 6 (Vec 6 Nat)) × Unit))), (1 : Int), ()), ())
  else
  (spec_l03Ok a1).bind fun y2403 =>
  bif (! y2403.1.1) then
    some (((((0, 0, 0, 0, 0, 0, ()), ((0, 0, 0, 0, 0, 0, ()), (0, 0, 0, 0, 0, 0, ()), (0, 0, 0, 0, 0, 0, ()), (0, 0, 0, 0, 0, 0, ()), (0, 0, 0, 0, 0, 0, ()), (0, 0, 0, 0, 0, 0, ()), ()), ()) : ((Vec 6 Nat) × ((Vec 6 (Vec 6 Nat)) × Unit))), (1 : Int), ()), ())
  else
  (spec_l00In a2 (0 : Int) (lenI a0.2.2.2.1)).bind fun y2405 =>
  bif (! y2405.1.1) then
    some (((((0, 0, 0, 0, 0, 0, ()), ((0, 0, 0, 0, 0, 0, ()), (0, 0, 0, 0, 0, 0, ()), (0, 0, 0, 0, 0, 0, ()), (0, 0, 0, 0, 0, 0, ()), (0, 0, 0, 0, 0, 0, ()), (0, 0, 0, 0, 0, 0, ()), ()), ()) : ((Vec 6 Nat) × ((Vec 6 (Vec 6 Nat)) × Unit))), (2 : Int), ()), ())
  else
  (spec_l00In a3 a2 (lenI a0.2.2.2.1)).bind fun y2407 =>
  bif (! y2407.1.1) then
    some (((((0, 0, 0, 0, 0, 0, ()), ((0, 0, 0, 0, 0, 0, ()), (0, 0, 0, 0, 0, 0, ()), (0, 0, 0, 0, 0, 0, ()), (0, 0, 0, 0, 0, 0, ()), (0, 0, 0, 0, 0, 0, ()), (0, 0, 0, 0, 0, 0, ()), ()), ()) : ((Vec 6 Nat) × ((Vec 6 (Vec 6 Nat)) × Unit))), (2 : Int), ()), ())
  else
  (spec_l08Replay a0 a1 a2 a3).bind fun y2409 =>
  some ((y2409.1.1, y2409.1.2.2.1, ()), ())
noncomputable def spec_ReplayFrom_sg : Sig := ⟨[.v (.pair (.int .i64) (.pair (.arr 3 (.flt .f32)) (.pair (.list (.arr 3 (.flt .f32))) (.pair (.list (.pair (.int .i64) (.pair (.arr 3 (.flt .f32)) (.pair (.arr 3 (.int .i16)) (.pair (.int .i64) (.pair (.flt .f32) (.unit))))))) (.unit))))), .v (.pair (.arr 6 (.flt .f32)) (.pair (.arr 6 (.arr 6 (.flt .f32))) (.unit))), .v (.int .i64), .v (.int .i64)], [.v (.val (.pair (.arr 6 (.flt .f32)) (.pair (.arr 6 (.arr 6 (.flt .f32))) (.unit)))), .v (.val (.int .i64))], false⟩
noncomputable def spec_ReplayFrom_en : Entry := ⟨spec_ReplayFrom_sg, fun x => spec_ReplayFrom x.1 x.2.1 x.2.2.1 x.2.2.2.1⟩
theorem spec_ReplayFrom_eq (x : spec_ReplayFrom_sg.dom) : body (env [(90, spec_l08Log_en), (91, spec_l03Ok_en), (109, spec_l08Replay_en), (113, spec_l00In_en)]) [] Tryz.f37 spec_ReplayFrom_sg x = spec_ReplayFrom x.1 x.2.1 x.2.2.1 x.2.2.2.1 := by kernel_rfl
theorem spec_ReplayFrom_so : Sound Tryz.prog 37 spec_ReplayFrom_en := sound_of_body (envS (l := [(90, spec_l08Log_en), (91, spec_l03Ok_en), (109, spec_l08Replay_en), (113, spec_l00In_en)]) (⟨spec_l08Log_so, spec_l03Ok_so, spec_l08Replay_so, spec_l00In_so, trivial⟩)) Tryz.func37 (by kernel_rfl) rfl (fun x y h => (spec_ReplayFrom_eq x).trans h)

-- loop.example/g01204/laws.FnExactReplayFrom
noncomputable def laws_FnExactReplayFrom (a0 : (Int × ((Vec 3 Nat) × ((List (Vec 3 Nat)) × ((List (Int × ((Vec 3 Nat) × ((Vec 3 Int) × (Int × (Nat × Unit)))))) × Unit))))) (a1 : ((Vec 6 Nat) × ((Vec 6 (Vec 6 Nat)) × Unit))) (a2 : Int) (a3 : Int) : Option ((Bool × Unit) × Unit) :=
  (laws_szLog a0 (1048576 : Int)).bind fun y2377 =>
  bif (iLt y2377.1.1 0) then some ((true, ()), ()) else
  (laws_toLog a0).bind fun y2379 =>
  (laws_toState a1).bind fun y2380 =>
  (spec_ReplayFrom ((y2379.1.1.1, y2379.1.1.2.1, y2379.1.1.2.2.1, y2379.1.1.2.2.2.1, y2379.1.1.2.2.2.2) : (Int × ((Vec 3 Nat) × ((List (Vec 3 Nat)) × ((List (Int × ((Vec 3 Nat) × ((Vec 3 Int) × (Int × (Nat × Unit)))))) × Unit))))) y2380.1.1 a2 a3).bind fun y2381 =>
  (laws_toLog a0).bind fun y2382 =>
  (laws_toState a1).bind fun y2383 =>
  (impl_ReplayFrom ((y2382.1.1.1, y2382.1.1.2.1, y2382.1.1.2.2.1, y2382.1.1.2.2.2.1, y2382.1.1.2.2.2.2) : (Int × ((Vec 3 Nat) × ((List (Vec 3 Nat)) × ((List (Int × ((Vec 3 Nat) × ((Vec 3 Int) × (Int × (Nat × Unit)))))) × Unit))))) y2383.1.1 a2 a3).bind fun y2384 =>
  (laws_eqState y2384.1.1 y2381.1.1).bind fun y2385 =>
  bif (! y2385.1.1) then some ((false, ()), ()) else
  bif (! (iEq y2384.1.2.1 y2381.1.2.1)) then some ((false, ()), ()) else
  (laws_toLog a0).bind fun y2388 =>
  (laws_eqLog ((y2382.1.1.1, y2382.1.1.2.1, y2382.1.1.2.2.1, y2382.1.1.2.2.2.1, y2382.1.1.2.2.2.2) : (Int × ((Vec 3 Nat) × ((List (Vec 3 Nat)) × ((List (Int × ((Vec 3 Nat) × ((Vec 3 Int) × (Int × (Nat × Unit)))))) × Unit))))) ((y2388.1.1.1, y2388.1.1.2.1, y2388.1.1.2.2.1, y2388.1.1.2.2.2.1, y2388.1.1.2.2.2.2) : (Int × ((Vec 3 Nat) × ((List (Vec 3 Nat)) × ((List (Int × ((Vec 3 Nat) × ((Vec 3 Int) × (Int × (Nat × Unit)))))) × Unit)))))).bind fun y2389 =>
  bif (! y2389.1.1) then some ((false, ()), ()) else some ((true, ()), ())
noncomputable def laws_FnExactReplayFrom_sg : Sig := ⟨[.v (.pair (.int .i64) (.pair (.arr 3 (.flt .f32)) (.pair (.list (.arr 3 (.flt .f32))) (.pair (.list (.pair (.int .i64) (.pair (.arr 3 (.flt .f32)) (.pair (.arr 3 (.int .i16)) (.pair (.int .i64) (.pair (.flt .f32) (.unit))))))) (.unit))))), .v (.pair (.arr 6 (.flt .f32)) (.pair (.arr 6 (.arr 6 (.flt .f32))) (.unit))), .v (.int .i64), .v (.int .i64)], [.v (.val (.bool))], false⟩
noncomputable def laws_FnExactReplayFrom_en : Entry := ⟨laws_FnExactReplayFrom_sg, fun x => laws_FnExactReplayFrom x.1 x.2.1 x.2.2.1 x.2.2.2.1⟩
theorem laws_FnExactReplayFrom_eq (x : laws_FnExactReplayFrom_sg.dom) : body (env [(27, laws_szLog_en), (29, laws_toLog_en), (30, laws_toState_en), (33, laws_eqState_en), (34, laws_eqLog_en), (37, spec_ReplayFrom_en), (38, impl_ReplayFrom_en)]) [] Tryz.f6 laws_FnExactReplayFrom_sg x = laws_FnExactReplayFrom x.1 x.2.1 x.2.2.1 x.2.2.2.1 := by kernel_rfl
theorem laws_FnExactReplayFrom_so : Sound Tryz.prog 6 laws_FnExactReplayFrom_en := sound_of_body (envS (l := [(27, laws_szLog_en), (29, laws_toLog_en), (30, laws_toState_en), (33, laws_eqState_en), (34, laws_eqLog_en), (37, spec_ReplayFrom_en), (38, impl_ReplayFrom_en)]) (⟨laws_szLog_so, laws_toLog_so, laws_toState_so, laws_eqState_so, laws_eqLog_so, spec_ReplayFrom_so, impl_ReplayFrom_so, trivial⟩)) Tryz.func6 (by kernel_rfl) rfl (fun x y h => (laws_FnExactReplayFrom_eq x).trans h)

-- loop.example/g01204/impl.RefusedEntries
noncomputable def impl_RefusedEntries (a0 : (Int × ((Vec 3 Nat) × ((List (Vec 3 Nat)) × ((List (Int × ((Vec 3 Nat) × ((Vec 3 Int) × (Int × (Nat × Unit)))))) × Unit))))) : Option (((List Int) × Int × Unit) × Unit) :=
  (impl_ValidLog a0).bind fun y2439 =>
  bif (! y2439.1.1) then some ((([] : (List Int)), (1 : Int), ()), ()) else
  (impl_firstState a0).bind fun y2441 =>
  (impl_replay a0 y2441.1.1 (0 : Int) (lenI a0.2.2.2.1)).bind fun y2442 =>
  some ((y2442.1.2.1, y2442.1.2.2.1, ()), ())
noncomputable def impl_RefusedEntries_sg : Sig := ⟨[.v (.pair (.int .i64) (.pair (.arr 3 (.flt .f32)) (.pair (.list (.arr 3 (.flt .f32))) (.pair (.list (.pair (.int .i64) (.pair (.arr 3 (.flt .f32)) (.pair (.arr 3 (.int .i16)) (.pair (.int .i64) (.pair (.flt .f32) (.unit))))))) (.unit)))))], [.v (.rows (.int .i64)), .v (.val (.int .i64))], false⟩
noncomputable def impl_RefusedEntries_en : Entry := ⟨impl_RefusedEntries_sg, fun x => impl_RefusedEntries x.1⟩
theorem impl_RefusedEntries_eq (x : impl_RefusedEntries_sg.dom) : body (env [(100, impl_ValidLog_en), (111, impl_replay_en), (112, impl_firstState_en)]) [] Tryz.f40 impl_RefusedEntries_sg x = impl_RefusedEntries x.1 := by kernel_rfl
theorem impl_RefusedEntries_so : Sound Tryz.prog 40 impl_RefusedEntries_en := sound_of_body (envS (l := [(100, impl_ValidLog_en), (111, impl_replay_en), (112, impl_firstState_en)]) (⟨impl_ValidLog_so, impl_replay_so, impl_firstState_so, trivial⟩)) Tryz.func40 (by kernel_rfl) rfl (fun x y h => (impl_RefusedEntries_eq x).trans h)

-- loop.example/g01204/laws.eqInt64S
noncomputable def laws_eqInt64S_l4 (a0 : (List Int)) (a1 : (List Int)) (s2444 : (Int × Unit)) : Option ((Int × Unit) ⊕ ((Bool × Unit) × Unit)) :=
  bif (iLt s2444.1 (lenI a0)) then
    bif inB s2444.1 (List.length a0) then
      bif inB s2444.1 (List.length a1) then
        bif (! (iEq (List.getD a0 s2444.1.toNat (0 : Int)) (List.getD a1 s2444.1.toNat (0 : Int)))) then
          Option.map Sum.inr (some ((false, ()), ()))
        else
        some (Sum.inl ((iAdd .i64 s2444.1 1), ()))
      else none
    else none
  else
  Option.map Sum.inr (some ((true, ()), ()))
noncomputable def laws_eqInt64S (a0 : (List Int)) (a1 : (List Int)) : Option ((Bool × Unit) × Unit) :=
  bif (! (iEq (lenI a0) (lenI a1))) then some ((false, ()), ()) else run (laws_eqInt64S_l4 a0 a1) ((0 : Int), ())
noncomputable def laws_eqInt64S_sg : Sig := ⟨[.v (.list (.int .i64)), .v (.list (.int .i64))], [.v (.val (.bool))], false⟩
noncomputable def laws_eqInt64S_en : Entry := ⟨laws_eqInt64S_sg, fun x => laws_eqInt64S x.1 x.2.1⟩
theorem laws_eqInt64S_eq (x : laws_eqInt64S_sg.dom) : body (env []) [(4, .vary [(5, .sc (.int .i64))])] Tryz.f41 laws_eqInt64S_sg x = laws_eqInt64S x.1 x.2.1 := by kernel_rfl
theorem laws_eqInt64S_so : Sound Tryz.prog 41 laws_eqInt64S_en := sound_of_body (envS (l := []) (trivial)) Tryz.func41 (by kernel_rfl) rfl (fun x y h => (laws_eqInt64S_eq x).trans h)

-- loop.example/g01204/laws.heldInt64S
noncomputable def laws_heldInt64S_l2 (a0 : (List Int)) (s2450 : (Int × Int × Unit)) : Option ((Int × Int × Unit) ⊕ ((Int × Unit) × Unit)) :=
  bif (iLt s2450.2.1 (lenI a0)) then
    bif inB s2450.2.1 (List.length a0) then
      bif (! (iEq (List.getD a0 s2450.2.1.toNat (0 : Int)) s2450.1)) then
        Option.map Sum.inr (some ((((-1 : Int) : Int), ()), ()))
      else
      some (Sum.inl ((iAdd .i64 s2450.1 1), (iAdd .i64 s2450.2.1 1), ()))
    else none
  else
  Option.map Sum.inr (some ((s2450.1, ()), ()))
noncomputable def laws_heldInt64S (a0 : (List Int)) (a1 : Int) : Option ((Int × Unit) × Unit) :=
  run (laws_heldInt64S_l2 a0) (a1, (0 : Int), ())
noncomputable def laws_heldInt64S_sg : Sig := ⟨[.v (.list (.int .i64)), .v (.int .i64)], [.v (.val (.int .i64))], false⟩
noncomputable def laws_heldInt64S_en : Entry := ⟨laws_heldInt64S_sg, fun x => laws_heldInt64S x.1 x.2.1⟩
theorem laws_heldInt64S_eq (x : laws_heldInt64S_sg.dom) : body (env []) [(2, .vary [(1, .sc (.int .i64)), (5, .sc (.int .i64))])] Tryz.f44 laws_heldInt64S_sg x = laws_heldInt64S x.1 x.2.1 := by kernel_rfl
theorem laws_heldInt64S_so : Sound Tryz.prog 44 laws_heldInt64S_en := sound_of_body (envS (l := []) (trivial)) Tryz.func44 (by kernel_rfl) rfl (fun x y h => (laws_heldInt64S_eq x).trans h)

-- loop.example/g01204/laws.markInt64S
noncomputable def laws_markInt64S_l2 (s2460 : (Int × Int × (List Int) × Unit)) : Option ((Int × Int × (List Int) × Unit) ⊕ ((Int × Unit) × ((List Int) × Unit))) :=
  bif (iLt s2460.2.1 (lenI s2460.2.2.1)) then
    bif inB s2460.2.1 (List.length s2460.2.2.1) then
      some (Sum.inl ((iAdd .i64 s2460.1 1), (iAdd .i64 s2460.2.1 1), (List.set s2460.2.2.1 s2460.2.1.toNat s2460.1), ()))
    else none
  else
  Option.map Sum.inr (some ((s2460.1, ()), (s2460.2.2.1, ())))
noncomputable def laws_markInt64S (a0 : (List Int)) (a1 : Int) : Option ((Int × Unit) × ((List Int) × Unit)) :=
  run (laws_markInt64S_l2) (a1, (0 : Int), a0, ())
noncomputable def laws_markInt64S_sg : Sig := ⟨[.mv (.rows (.int .i64)), .v (.int .i64)], [.v (.val (.int .i64))], false⟩
noncomputable def laws_markInt64S_en : Entry := ⟨laws_markInt64S_sg, fun x => laws_markInt64S x.1 x.2.1⟩
theorem laws_markInt64S_eq (x : laws_markInt64S_sg.dom) : body (env []) [(2, .vary [(1, .sc (.int .i64)), (5, .sc (.int .i64)), (0, .mrows (.int .i64))])] Tryz.f43 laws_markInt64S_sg x = laws_markInt64S x.1 x.2.1 := by kernel_rfl
theorem laws_markInt64S_so : Sound Tryz.prog 43 laws_markInt64S_en := sound_of_body (envS (l := []) (trivial)) Tryz.func43 (by kernel_rfl) rfl (fun x y h => (laws_markInt64S_eq x).trans h)

-- loop.example/g01204/laws.markEntryS
noncomputable def laws_markEntryS_l2 (s2495 : (Int × Int × (List (Int × ((Vec 3 Nat) × ((Vec 3 Int) × (Int × (Nat × Unit)))))) × Unit)) : Option ((Int × Int × (List (Int × ((Vec 3 Nat) × ((Vec 3 Int) × (Int × (Nat × Unit)))))) × Unit) ⊕ ((Int × Unit) × ((List (Int × ((Vec 3 Nat) × ((Vec 3 Int) × (Int × (Nat × Unit)))))) × Unit))) :=
  bif (iLt s2495.2.1 (lenI s2495.2.2.1)) then
    bif inB s2495.2.1 (List.length s2495.2.2.1) then
      let w2497 := List.set s2495.2.2.1 s2495.2.1.toNat ((s2495.1, (List.getD s2495.2.2.1 s2495.2.1.toNat ((0, (0, 0, 0, ()), (0, 0, 0, ()), 0, 0, ()) : (Int × ((Vec 3 Nat) × ((Vec 3 Int) × (Int × (Nat × Unit))))))).2) : (Int × ((Vec 3 Nat) × ((Vec 3 Int) × (Int × (Nat × Unit))))))
      let x2498 := iAdd .i64 s2495.1 1
      bif inB s2495.2.1 (List.length w2497) then
        let w2500 := List.set w2497 s2495.2.1.toNat (((List.getD w2497 s2495.2.1.toNat ((0, (0, 0, 0, ()), (0, 0, 0, ()), 0, 0, ()) : (Int × ((Vec 3 Nat) × ((Vec 3 Int) × (Int × (Nat × Unit))))))).1, Vec.set 3 (((List.getD w2497 s2495.2.1.toNat ((0, (0, 0, 0, ()), (0, 0, 0, ()), 0, 0, ()) : (Int × ((Vec 3 Nat) × ((Vec 3 Int) × (Int × (Nat × Unit))))))).2).1) 0 (fOfInt .f32 x2498), ((List.getD w2497 s2495.2.1.toNat ((0, (0, 0, 0, ()), (0, 0, 0, ()), 0, 0, ()) : (Int × ((Vec 3 Nat) × ((Vec 3 Int) × (Int × (Nat × Unit))))))).2).2) : (Int × ((Vec 3 Nat) × ((Vec 3 Int) × (Int × (Nat × Unit))))))
        let x2501 := iAdd .i64 x2498 1
        bif inB s2495.2.1 (List.length w2500) then
          let w2503 := List.set w2500 s2495.2.1.toNat (((List.getD w2500 s2495.2.1.toNat ((0, (0, 0, 0, ()), (0, 0, 0, ()), 0, 0, ()) : (Int × ((Vec 3 Nat) × ((Vec 3 Int) × (Int × (Nat × Unit))))))).1, Vec.set 3 (((List.getD w2500 s2495.2.1.toNat ((0, (0, 0, 0, ()), (0, 0, 0, ()), 0, 0, ()) : (Int × ((Vec 3 Nat) × ((Vec 3 Int) × (Int × (Nat × Unit))))))).2).1) 1 (fOfInt .f32 x2501), ((List.getD w2500 s2495.2.1.toNat ((0, (0, 0, 0, ()), (0, 0, 0, ()), 0, 0, ()) : (Int × ((Vec 3 Nat) × ((Vec 3 Int) × (Int × (Nat × Unit))))))).2).2) : (Int × ((Vec 3 Nat) × ((Vec 3 Int) × (Int × (Nat × Unit))))))
          let x2504 := iAdd .i64 x2501 1
          bif inB s2495.2.1 (List.length w2503) then
            let w2506 := List.set w2503 s2495.2.1.toNat (((List.getD w2503 s2495.2.1.toNat ((0, (0, 0, 0, ()), (0, 0, 0, ()), 0, 0, ()) : (Int × ((Vec 3 Nat) × ((Vec 3 Int) × (Int × (Nat × Unit))))))).1, Vec.set 3 (((List.getD w2503 s2495.2.1.toNat ((0, (0, 0, 0, ()), (0, 0, 0, ()), 0, 0, ()) : (Int × ((Vec 3 Nat) × ((Vec 3 Int) × (Int × (Nat × Unit))))))).2).1) 2 (fOfInt .f32 x2504), ((List.getD w2503 s2495.2.1.toNat ((0, (0, 0, 0, ()), (0, 0, 0, ()), 0, 0, ()) : (Int × ((Vec 3 Nat) × ((Vec 3 Int) × (Int × (Nat × Unit))))))).2).2) : (Int × ((Vec 3 Nat) × ((Vec 3 Int) × (Int × (Nat × Unit))))))
            let x2507 := iAdd .i64 x2504 1
            bif inB s2495.2.1 (List.length w2506) then
              let w2509 := List.set w2506 s2495.2.1.toNat (((List.getD w2506 s2495.2.1.toNat ((0, (0, 0, 0, ()), (0, 0, 0, ()), 0, 0, ()) : (Int × ((Vec 3 Nat) × ((Vec 3 Int) × (Int × (Nat × Unit))))))).1, ((List.getD w2506 s2495.2.1.toNat ((0, (0, 0, 0, ()), (0, 0, 0, ()), 0, 0, ()) : (Int × ((Vec 3 Nat) × ((Vec 3 Int) × (Int × (Nat × Unit))))))).2).1, Vec.set 3 ((((List.getD w2506 s2495.2.1.toNat ((0, (0, 0, 0, ()), (0, 0, 0, ()), 0, 0, ()) : (Int × ((Vec 3 Nat) × ((Vec 3 Int) × (Int × (Nat × Unit))))))).2).2).1) 0 (iWrap .i16 x2507), (((List.getD w2506 s2495.2.1.toNat ((0, (0, 0, 0, ()), (0, 0, 0, ()), 0, 0, ()) : (Int × ((Vec 3 Nat) × ((Vec 3 Int) × (Int × (Nat × Unit))))))).2).2).2) : (Int × ((Vec 3 Nat) × ((Vec 3 Int) × (Int × (Nat × Unit))))))
              let x2510 := iAdd .i64 x2507 1
              bif inB s2495.2.1 (List.length w2509) then
                let w2512 := List.set w2509 s2495.2.1.toNat (((List.getD w2509 s2495.2.1.toNat ((0, (0, 0, 0, ()), (0, 0, 0, ()), 0, 0, ()) : (Int × ((Vec 3 Nat) × ((Vec 3 Int) × (Int × (Nat × Unit))))))).1, ((List.getD w2509 s2495.2.1.toNat ((0, (0, 0, 0, ()), (0, 0, 0, ()), 0, 0, ()) : (Int × ((Vec 3 Nat) × ((Vec 3 Int) × (Int × (Nat × Unit))))))).2).1, Vec.set 3 ((((List.getD w2509 s2495.2.1.toNat ((0, (0, 0, 0, ()), (0, 0, 0, ()), 0, 0, ()) : (Int × ((Vec 3 Nat) × ((Vec 3 Int) × (Int × (Nat × Unit))))))).2).2).1) 1 (iWrap .i16 x2510), (((List.getD w2509 s2495.2.1.toNat ((0, (0, 0, 0, ()), (0, 0, 0, ()), 0, 0, ()) : (Int × ((Vec 3 Nat) × ((Vec 3 Int) × (Int × (Nat × Unit))))))).2).2).2) : (Int × ((Vec 3 Nat) × ((Vec 3 Int) × (Int × (Nat × Unit))))))
                let x2513 := iAdd .i64 x2510 1
                bif inB s2495.2.1 (List.length w2512) then
                  let w2515 := List.set w2512 s2495.2.1.toNat (((List.getD w2512 s2495.2.1.toNat ((0, (0, 0, 0, ()), (0, 0, 0, ()), 0, 0, ()) : (Int × ((Vec 3 Nat) × ((Vec 3 Int) × (Int × (Nat × Unit))))))).1, ((List.getD w2512 s2495.2.1.toNat ((0, (0, 0, 0, ()), (0, 0, 0, ()), 0, 0, ()) : (Int × ((Vec 3 Nat) × ((Vec 3 Int) × (Int × (Nat × Unit))))))).2).1, Vec.set 3 ((((List.getD w2512 s2495.2.1.toNat ((0, (0, 0, 0, ()), (0, 0, 0, ()), 0, 0, ()) : (Int × ((Vec 3 Nat) × ((Vec 3 Int) × (Int × (Nat × Unit))))))).2).2).1) 2 (iWrap .i16 x2513), (((List.getD w2512 s2495.2.1.toNat ((0, (0, 0, 0, ()), (0, 0, 0, ()), 0, 0, ()) : (Int × ((Vec 3 Nat) × ((Vec 3 Int) × (Int × (Nat × Unit))))))).2).2).2) : (Int × ((Vec 3 Nat) × ((Vec 3 Int) × (Int × (Nat × Unit))))))
                  let x2516 := iAdd .i64 x2513 1
                  bif inB s2495.2.1 (List.length w2515) then
                    let w2517 := List.set w2515 s2495.2.1.toNat (((List.getD w2515 s2495.2.1.toNat ((0, (0, 0, 0, ()), (0, 0, 0, ()), 0, 0, ()) : (Int × ((Vec 3 Nat) × ((Vec 3 Int) × (Int × (Nat × Unit))))))).1, ((List.getD w2515 s2495.2.1.toNat ((0, (0, 0, 0, ()), (0, 0, 0, ()), 0, 0, ()) : (Int × ((Vec 3 Nat) × ((Vec 3 Int) × (Int × (Nat × Unit))))))).2).1, (((List.getD w2515 s2495.2.1.toNat ((0, (0, 0, 0, ()), (0, 0, 0, ()), 0, 0, ()) : (Int × ((Vec 3 Nat) × ((Vec 3 Int) × (Int × (Nat × Unit))))))).2).2).1, x2516, ((((List.getD w2515 s2495.2.1.toNat ((0, (0, 0, 0, ()), (0, 0, 0, ()), 0, 0, ()) : (Int × ((Vec 3 Nat) × ((Vec 3 Int) × (Int × (Nat × Unit))))))).2).2).2).2) : (Int × ((Vec 3 Nat) × ((Vec 3 Int) × (Int × (Nat × Unit))))))
                    let x2518 := iAdd .i64 x2516 1
                    bif inB s2495.2.1 (List.length w2517) then
                      some (Sum.inl ((iAdd .i64 x2518 1), (iAdd .i64 s2495.2.1 1), (List.set w2517 s2495.2.1.toNat (((List.getD w2517 s2495.2.1.toNat ((0, (0, 0, 0, ()), (0, 0, 0, ()), 0, 0, ()) : (Int × ((Vec 3 Nat) × ((Vec 3 Int) × (Int × (Nat × Unit))))))).1, ((List.getD w2517 s2495.2.1.toNat ((0, (0, 0, 0, ()), (0, 0, 0, ()), 0, 0, ()) : (Int × ((Vec 3 Nat) × ((Vec 3 Int) × (Int × (Nat × Unit))))))).2).1, (((List.getD w2517 s2495.2.1.toNat ((0, (0, 0, 0, ()), (0, 0, 0, ()), 0, 0, ()) : (Int × ((Vec 3 Nat) × ((Vec 3 Int) × (Int × (Nat × Unit))))))).2).2).1, ((((List.getD w2517 s2495.2.1.toNat ((0, (0, 0, 0, ()), (0, 0, 0, ()), 0, 0, ()) : (Int × ((Vec 3 Nat) × ((Vec 3 Int) × (Int × (Nat × Unit))))))).2).2).2).1, (fOfInt .f32 x2518), (((((List.getD w2517 s2495.2.1.toNat ((0, (0, 0, 0, ()), (0, 0, 0, ()), 0, 0, ()) : (Int × ((Vec 3 Nat) × ((Vec 3 Int) × (Int × (Nat × Unit))))))).2).2).2).2).2) : (Int × ((Vec 3 Nat) × ((Vec 3 Int) × (Int × (Nat × Unit))))))), ()))
                    else none
                  else none
                else none
              else none
            else none
          else none
        else none
      else none
    else none
  else
  Option.map Sum.inr (some ((s2495.1, ()), (s2495.2.2.1, ())))
noncomputable def laws_markEntryS (a0 : (List (Int × ((Vec 3 Nat) × ((Vec 3 Int) × (Int × (Nat × Unit))))))) (a1 : Int) : Option ((Int × Unit) × ((List (Int × ((Vec 3 Nat) × ((Vec 3 Int) × (Int × (Nat × Unit)))))) × Unit)) :=
  run (laws_markEntryS_l2) (a1, (0 : Int), a0, ())
noncomputable def laws_markEntryS_sg : Sig := ⟨[.mv (.rows (.pair (.int .i64) (.pair (.arr 3 (.flt .f32)) (.pair (.arr 3 (.int .i16)) (.pair (.int .i64) (.pair (.flt .f32) (.unit))))))), .v (.int .i64)], [.v (.val (.int .i64))], false⟩
noncomputable def laws_markEntryS_en : Entry := ⟨laws_markEntryS_sg, fun x => laws_markEntryS x.1 x.2.1⟩
theorem laws_markEntryS_eq (x : laws_markEntryS_sg.dom) : body (env []) [(2, .vary [(1, .sc (.int .i64)), (5, .sc (.int .i64)), (0, .mrows (.pair (.int .i64) (.pair (.arr 3 (.flt .f32)) (.pair (.arr 3 (.int .i16)) (.pair (.int .i64) (.pair (.flt .f32) (.unit)))))))]), (7, .unroll 4), (12, .unroll 4)] Tryz.f116 laws_markEntryS_sg x = laws_markEntryS x.1 x.2.1 := by kernel_rfl
theorem laws_markEntryS_so : Sound Tryz.prog 116 laws_markEntryS_en := sound_of_body (envS (l := []) (trivial)) Tryz.func116 (by kernel_rfl) rfl (fun x y h => (laws_markEntryS_eq x).trans h)

-- loop.example/g01204/laws.markVecS
noncomputable def laws_markVecS_l2 (s2535 : (Int × Int × (List (Vec 3 Nat)) × Unit)) : Option ((Int × Int × (List (Vec 3 Nat)) × Unit) ⊕ ((Int × Unit) × ((List (Vec 3 Nat)) × Unit))) :=
  bif (iLt s2535.2.1 (lenI s2535.2.2.1)) then
    bif inB s2535.2.1 (List.length s2535.2.2.1) then
      let w2538 := List.set s2535.2.2.1 s2535.2.1.toNat (Vec.set 3 (List.getD s2535.2.2.1 s2535.2.1.toNat ((0, 0, 0, ()) : (Vec 3 Nat))) 0 (fOfInt .f32 s2535.1))
      let x2539 := iAdd .i64 s2535.1 1
      bif inB s2535.2.1 (List.length w2538) then
        let w2541 := List.set w2538 s2535.2.1.toNat (Vec.set 3 (List.getD w2538 s2535.2.1.toNat ((0, 0, 0, ()) : (Vec 3 Nat))) 1 (fOfInt .f32 x2539))
        let x2542 := iAdd .i64 x2539 1
        bif inB s2535.2.1 (List.length w2541) then
          some (Sum.inl ((iAdd .i64 x2542 1), (iAdd .i64 s2535.2.1 1), (List.set w2541 s2535.2.1.toNat (Vec.set 3 (List.getD w2541 s2535.2.1.toNat ((0, 0, 0, ()) : (Vec 3 Nat))) 2 (fOfInt .f32 x2542))), ()))
        else none
      else none
    else none
  else
  Option.map Sum.inr (some ((s2535.1, ()), (s2535.2.2.1, ())))
noncomputable def laws_markVecS (a0 : (List (Vec 3 Nat))) (a1 : Int) : Option ((Int × Unit) × ((List (Vec 3 Nat)) × Unit)) :=
  run (laws_markVecS_l2) (a1, (0 : Int), a0, ())
noncomputable def laws_markVecS_sg : Sig := ⟨[.mv (.rows (.arr 3 (.flt .f32))), .v (.int .i64)], [.v (.val (.int .i64))], false⟩
noncomputable def laws_markVecS_en : Entry := ⟨laws_markVecS_sg, fun x => laws_markVecS x.1 x.2.1⟩
theorem laws_markVecS_eq (x : laws_markVecS_sg.dom) : body (env []) [(2, .vary [(1, .sc (.int .i64)), (5, .sc (.int .i64)), (0, .mrows (.arr 3 (.flt .f32)))]), (5, .unroll 4)] Tryz.f115 laws_markVecS_sg x = laws_markVecS x.1 x.2.1 := by kernel_rfl
theorem laws_markVecS_so : Sound Tryz.prog 115 laws_markVecS_en := sound_of_body (envS (l := []) (trivial)) Tryz.func115 (by kernel_rfl) rfl (fun x y h => (laws_markVecS_eq x).trans h)

-- loop.example/g01204/laws.markLog
noncomputable def laws_markLog (a0 : (Int × ((Vec 3 Nat) × ((List (Vec 3 Nat)) × ((List (Int × ((Vec 3 Nat) × ((Vec 3 Int) × (Int × (Nat × Unit)))))) × Unit))))) (a1 : Int) : Option ((Int × Unit) × ((Int × ((Vec 3 Nat) × ((List (Vec 3 Nat)) × ((List (Int × ((Vec 3 Nat) × ((Vec 3 Int) × (Int × (Nat × Unit)))))) × Unit)))) × Unit)) :=
  (laws_markVecS a0.2.2.1 a1).bind fun y2465 =>
  (laws_markEntryS a0.2.2.2.1 y2465.1.1).bind fun y2466 =>
  some ((y2466.1.1, ()), (((a0.1, a0.2.1, y2465.2.1, y2466.2.1, a0.2.2.2.2) : (Int × ((Vec 3 Nat) × ((List (Vec 3 Nat)) × ((List (Int × ((Vec 3 Nat) × ((Vec 3 Int) × (Int × (Nat × Unit)))))) × Unit))))), ()))
noncomputable def laws_markLog_sg : Sig := ⟨[.mv (.pair (.val (.int .i64)) (.pair (.val (.arr 3 (.flt .f32))) (.pair (.rows (.arr 3 (.flt .f32))) (.pair (.rows (.pair (.int .i64) (.pair (.arr 3 (.flt .f32)) (.pair (.arr 3 (.int .i16)) (.pair (.int .i64) (.pair (.flt .f32) (.unit))))))) (.val (.unit)))))), .v (.int .i64)], [.v (.val (.int .i64))], false⟩
noncomputable def laws_markLog_en : Entry := ⟨laws_markLog_sg, fun x => laws_markLog x.1 x.2.1⟩
theorem laws_markLog_eq (x : laws_markLog_sg.dom) : body (env [(115, laws_markVecS_en), (116, laws_markEntryS_en)]) [] Tryz.f42 laws_markLog_sg x = laws_markLog x.1 x.2.1 := by kernel_rfl
theorem laws_markLog_so : Sound Tryz.prog 42 laws_markLog_en := sound_of_body (envS (l := [(115, laws_markVecS_en), (116, laws_markEntryS_en)]) (⟨laws_markVecS_so, laws_markEntryS_so, trivial⟩)) Tryz.func42 (by kernel_rfl) rfl (fun x y h => (laws_markLog_eq x).trans h)

-- loop.example/g01204/spec.RefusedEntries
noncomputable def spec_RefusedEntries (a0 : (Int × ((Vec 3 Nat) × ((List (Vec 3 Nat)) × ((List (Int × ((Vec 3 Nat) × ((Vec 3 Int) × (Int × (Nat × Unit)))))) × Unit))))) : Option (((List Int) × Int × Unit) × Unit) :=
  (spec_l08Log a0).bind fun y2547 =>
  bif (! y2547.1.1) then some ((([] : (List Int)), (1 : Int), ()), ()) else
  (spec_l08First a0).bind fun y2549 =>
  (spec_l08Replay a0 y2549.1.1 (0 : Int) (lenI a0.2.2.2.1)).bind fun y2550 =>
  some ((y2550.1.2.1, y2550.1.2.2.1, ()), ())
noncomputable def spec_RefusedEntries_sg : Sig := ⟨[.v (.pair (.int .i64) (.pair (.arr 3 (.flt .f32)) (.pair (.list (.arr 3 (.flt .f32))) (.pair (.list (.pair (.int .i64) (.pair (.arr 3 (.flt .f32)) (.pair (.arr 3 (.int .i16)) (.pair (.int .i64) (.pair (.flt .f32) (.unit))))))) (.unit)))))], [.v (.rows (.int .i64)), .v (.val (.int .i64))], false⟩
noncomputable def spec_RefusedEntries_en : Entry := ⟨spec_RefusedEntries_sg, fun x => spec_RefusedEntries x.1⟩
theorem spec_RefusedEntries_eq (x : spec_RefusedEntries_sg.dom) : body (env [(90, spec_l08Log_en), (109, spec_l08Replay_en), (110, spec_l08First_en)]) [] Tryz.f39 spec_RefusedEntries_sg x = spec_RefusedEntries x.1 := by kernel_rfl
theorem spec_RefusedEntries_so : Sound Tryz.prog 39 spec_RefusedEntries_en := sound_of_body (envS (l := [(90, spec_l08Log_en), (109, spec_l08Replay_en), (110, spec_l08First_en)]) (⟨spec_l08Log_so, spec_l08Replay_so, spec_l08First_so, trivial⟩)) Tryz.func39 (by kernel_rfl) rfl (fun x y h => (spec_RefusedEntries_eq x).trans h)

-- loop.example/g01204/laws.FnExactRefusedEntries
noncomputable def laws_FnExactRefusedEntries (a0 : (Int × ((Vec 3 Nat) × ((List (Vec 3 Nat)) × ((List (Int × ((Vec 3 Nat) × ((Vec 3 Int) × (Int × (Nat × Unit)))))) × Unit))))) : Option ((Bool × Unit) × Unit) :=
  (laws_szLog a0 (1048576 : Int)).bind fun y2410 =>
  bif (iLt y2410.1.1 0) then some ((true, ()), ()) else
  (laws_toLog a0).bind fun y2412 =>
  (spec_RefusedEntries ((y2412.1.1.1, y2412.1.1.2.1, y2412.1.1.2.2.1, y2412.1.1.2.2.2.1, y2412.1.1.2.2.2.2) : (Int × ((Vec 3 Nat) × ((List (Vec 3 Nat)) × ((List (Int × ((Vec 3 Nat) × ((Vec 3 Int) × (Int × (Nat × Unit)))))) × Unit)))))).bind fun y2413 =>
  (laws_toLog a0).bind fun y2414 =>
  (impl_RefusedEntries ((y2414.1.1.1, y2414.1.1.2.1, y2414.1.1.2.2.1, y2414.1.1.2.2.2.1, y2414.1.1.2.2.2.2) : (Int × ((Vec 3 Nat) × ((List (Vec 3 Nat)) × ((List (Int × ((Vec 3 Nat) × ((Vec 3 Int) × (Int × (Nat × Unit)))))) × Unit)))))).bind fun y2415 =>
  (laws_eqInt64S y2415.1.1 y2413.1.1).bind fun y2416 =>
  bif (! y2416.1.1) then some ((false, ()), ()) else
  bif (! (iEq y2415.1.2.1 y2413.1.2.1)) then some ((false, ()), ()) else
  (laws_toLog a0).bind fun y2419 =>
  (laws_eqLog ((y2414.1.1.1, y2414.1.1.2.1, y2414.1.1.2.2.1, y2414.1.1.2.2.2.1, y2414.1.1.2.2.2.2) : (Int × ((Vec 3 Nat) × ((List (Vec 3 Nat)) × ((List (Int × ((Vec 3 Nat) × ((Vec 3 Int) × (Int × (Nat × Unit)))))) × Unit))))) ((y2419.1.1.1, y2419.1.1.2.1, y2419.1.1.2.2.1, y2419.1.1.2.2.2.1, y2419.1.1.2.2.2.2) : (Int × ((Vec 3 Nat) × ((List (Vec 3 Nat)) × ((List (Int × ((Vec 3 Nat) × ((Vec 3 Int) × (Int × (Nat × Unit)))))) × Unit)))))).bind fun y2420 =>
  bif (! y2420.1.1) then some ((false, ()), ()) else
  (laws_markLog ((y2414.1.1.1, y2414.1.1.2.1, y2414.1.1.2.2.1, y2414.1.1.2.2.2.1, y2414.1.1.2.2.2.2) : (Int × ((Vec 3 Nat) × ((List (Vec 3 Nat)) × ((List (Int × ((Vec 3 Nat) × ((Vec 3 Int) × (Int × (Nat × Unit)))))) × Unit))))) (1 : Int)).bind fun y2422 =>
  bif (iLt y2422.1.1 0) then some ((false, ()), ()) else
  (laws_eqInt64S y2415.1.1 y2413.1.1).bind fun y2424 =>
  bif (! y2424.1.1) then some ((false, ()), ()) else
  bif (! (iEq y2415.1.2.1 y2413.1.2.1)) then some ((false, ()), ()) else
  (laws_markInt64S y2415.1.1 (1 : Int)).bind fun y2427 =>
  (laws_heldInt64S y2427.2.1 (1 : Int)).bind fun y2428 =>
  bif (iLt y2428.1.1 0) then some ((false, ()), ()) else
  bif (! (iEq y2428.1.1 y2427.1.1)) then some ((false, ()), ()) else
  (laws_toLog a0).bind fun y2431 =>
  (impl_RefusedEntries ((y2431.1.1.1, y2431.1.1.2.1, y2431.1.1.2.2.1, y2431.1.1.2.2.2.1, y2431.1.1.2.2.2.2) : (Int × ((Vec 3 Nat) × ((List (Vec 3 Nat)) × ((List (Int × ((Vec 3 Nat) × ((Vec 3 Int) × (Int × (Nat × Unit)))))) × Unit)))))).bind fun y2432 =>
  (laws_eqInt64S y2432.1.1 y2413.1.1).bind fun y2433 =>
  bif (! y2433.1.1) then some ((false, ()), ()) else
  bif (! (iEq y2432.1.2.1 y2413.1.2.1)) then some ((false, ()), ()) else
  (laws_heldInt64S y2427.2.1 (1 : Int)).bind fun y2436 =>
  bif (iLt y2436.1.1 0) then some ((false, ()), ()) else
  bif (! (iEq y2436.1.1 y2427.1.1)) then some ((false, ()), ()) else some ((true, ()), ())
noncomputable def laws_FnExactRefusedEntries_sg : Sig := ⟨[.v (.pair (.int .i64) (.pair (.arr 3 (.flt .f32)) (.pair (.list (.arr 3 (.flt .f32))) (.pair (.list (.pair (.int .i64) (.pair (.arr 3 (.flt .f32)) (.pair (.arr 3 (.int .i16)) (.pair (.int .i64) (.pair (.flt .f32) (.unit))))))) (.unit)))))], [.v (.val (.bool))], false⟩
noncomputable def laws_FnExactRefusedEntries_en : Entry := ⟨laws_FnExactRefusedEntries_sg, fun x => laws_FnExactRefusedEntries x.1⟩
theorem laws_FnExactRefusedEntries_eq (x : laws_FnExactRefusedEntries_sg.dom) : body (env [(27, laws_szLog_en), (29, laws_toLog_en), (34, laws_eqLog_en), (39, spec_RefusedEntries_en), (40, impl_RefusedEntries_en), (41, laws_eqInt64S_en), (42, laws_markLog_en), (43, laws_markInt64S_en), (44, laws_heldInt64S_en)]) [] Tryz.f7 laws_FnExactRefusedEntries_sg x = laws_FnExactRefusedEntries x.1 := by kernel_rfl
theorem laws_FnExactRefusedEntries_so : Sound Tryz.prog 7 laws_FnExactRefusedEntries_en := sound_of_body (envS (l := [(27, laws_szLog_en), (29, laws_toLog_en), (34, laws_eqLog_en), (39, spec_RefusedEntries_en), (40, impl_RefusedEntries_en), (41, laws_eqInt64S_en), (42, laws_markLog_en), (43, laws_markInt64S_en), (44, laws_heldInt64S_en)]) (⟨laws_szLog_so, laws_toLog_so, laws_eqLog_so, spec_RefusedEntries_so, impl_RefusedEntries_so, laws_eqInt64S_so, laws_markLog_so, laws_markInt64S_so, laws_heldInt64S_so, trivial⟩)) Tryz.func7 (by kernel_rfl) rfl (fun x y h => (laws_FnExactRefusedEntries_eq x).trans h)

-- loop.example/g01204/impl.ShakeCounts
noncomputable def impl_ShakeCounts (a0 : (Vec 3 Int)) (a1 : Int) (a2 : Int) : Option (((Vec 3 Int) × Int × Int × Unit) × Unit) :=
  bif (iLt a2 0) then some ((((0, 0, 0, ()) : (Vec 3 Int)), (0 : Int), (2 : Int), ()), ()) else
  let x2651 := iAdd .u32 (iMul .u32 1664525 a1) 1013904223
  let x2656 := iAdd .i64 (iMul .i64 2 (iWrap .i64 a2)) 1
  bif iEq x2656 0 then none else
  let x2665 := iWrap .i16 (iMin 32767 (iMax (-32768 : Int) (iAdd .i64 (iWrap .i64 (Vec.getD 3 a0 0 (0 : Int))) (iSub .i64 (iRem .i64 (iWrap .i64 (iShr .u32 x2651 16)) x2656) (iWrap .i64 a2)))))
  let x2667 := iAdd .u32 (iMul .u32 1664525 x2651) 1013904223
  let x2672 := iAdd .i64 (iMul .i64 2 (iWrap .i64 a2)) 1
  bif iEq x2672 0 then none else
  let x2681 := iWrap .i16 (iMin 32767 (iMax (-32768 : Int) (iAdd .i64 (iWrap .i64 (Vec.getD 3 (Vec.set 3 a0 0 x2665) 1 (0 : Int))) (iSub .i64 (iRem .i64 (iWrap .i64 (iShr .u32 x2667 16)) x2672) (iWrap .i64 a2)))))
  let x2683 := iAdd .u32 (iMul .u32 1664525 x2667) 1013904223
  let x2688 := iAdd .i64 (iMul .i64 2 (iWrap .i64 a2)) 1
  bif iEq x2688 0 then none else
  some (((Vec.set 3 (Vec.set 3 (Vec.set 3 a0 0 x2665) 1 x2681) 2 (iWrap .i16 (iMin 32767 (iMax (-32768 : Int) (iAdd .i64 (iWrap .i64 (Vec.getD 3 (Vec.set 3 (Vec.set 3 a0 0 x2665) 1 x2681) 2 (0 : Int))) (iSub .i64 (iRem .i64 (iWrap .i64 (iShr .u32 x2683 16)) x2688) (iWrap .i64 a2))))))), x2683, (0 : Int), ()), ())
noncomputable def impl_ShakeCounts_sg : Sig := ⟨[.v (.arr 3 (.int .i16)), .v (.int .u32), .v (.int .i16)], [.v (.val (.arr 3 (.int .i16))), .v (.val (.int .u32)), .v (.val (.int .i64))], false⟩
noncomputable def impl_ShakeCounts_en : Entry := ⟨impl_ShakeCounts_sg, fun x => impl_ShakeCounts x.1 x.2.1 x.2.2.1⟩
theorem impl_ShakeCounts_eq (x : impl_ShakeCounts_sg.dom) : body (env []) [(4, .unroll 4)] Tryz.f191 impl_ShakeCounts_sg x = impl_ShakeCounts x.1 x.2.1 x.2.2.1 := by kernel_rfl
theorem impl_ShakeCounts_so : Sound Tryz.prog 191 impl_ShakeCounts_en := sound_of_body (envS (l := []) (trivial)) Tryz.func191 (by kernel_rfl) rfl (fun x y h => (impl_ShakeCounts_eq x).trans h)

-- loop.example/g01204/impl.AddVec
noncomputable def impl_AddVec (a0 : (Vec 3 Nat)) (a1 : (Vec 3 Nat)) : Option (((Vec 3 Nat) × Unit) × Unit) :=
  let x2745 := fAdd .f32 (Vec.getD 3 a0 0 (0 : Nat)) (Vec.getD 3 a1 0 (0 : Nat))
  let x2748 := fAdd .f32 (Vec.getD 3 (Vec.set 3 a0 0 x2745) 1 (0 : Nat)) (Vec.getD 3 a1 1 (0 : Nat))
  some (((Vec.set 3 (Vec.set 3 (Vec.set 3 a0 0 x2745) 1 x2748) 2 (fAdd .f32 (Vec.getD 3 (Vec.set 3 (Vec.set 3 a0 0 x2745) 1 x2748) 2 (0 : Nat)) (Vec.getD 3 a1 2 (0 : Nat)))), ()), ())
noncomputable def impl_AddVec_sg : Sig := ⟨[.v (.arr 3 (.flt .f32)), .v (.arr 3 (.flt .f32))], [.v (.val (.arr 3 (.flt .f32)))], false⟩
noncomputable def impl_AddVec_en : Entry := ⟨impl_AddVec_sg, fun x => impl_AddVec x.1 x.2.1⟩
theorem impl_AddVec_eq (x : impl_AddVec_sg.dom) : body (env []) [(2, .unroll 4)] Tryz.f194 impl_AddVec_sg x = impl_AddVec x.1 x.2.1 := by kernel_rfl
theorem impl_AddVec_so : Sound Tryz.prog 194 impl_AddVec_en := sound_of_body (envS (l := []) (trivial)) Tryz.func194 (by kernel_rfl) rfl (fun x y h => (impl_AddVec_eq x).trans h)

-- loop.example/g01204/impl.ScaleVec
noncomputable def impl_ScaleVec (a0 : (Vec 3 Nat)) (a1 : Nat) : Option (((Vec 3 Nat) × Unit) × Unit) :=
  let x2754 := fMul .f32 (Vec.getD 3 a0 0 (0 : Nat)) a1
  let x2756 := fMul .f32 (Vec.getD 3 (Vec.set 3 a0 0 x2754) 1 (0 : Nat)) a1
  some (((Vec.set 3 (Vec.set 3 (Vec.set 3 a0 0 x2754) 1 x2756) 2 (fMul .f32 (Vec.getD 3 (Vec.set 3 (Vec.set 3 a0 0 x2754) 1 x2756) 2 (0 : Nat)) a1)), ()), ())
noncomputable def impl_ScaleVec_sg : Sig := ⟨[.v (.arr 3 (.flt .f32)), .v (.flt .f32)], [.v (.val (.arr 3 (.flt .f32)))], false⟩
noncomputable def impl_ScaleVec_en : Entry := ⟨impl_ScaleVec_sg, fun x => impl_ScaleVec x.1 x.2.1⟩
theorem impl_ScaleVec_eq (x : impl_ScaleVec_sg.dom) : body (env []) [(2, .unroll 4)] Tryz.f195 impl_ScaleVec_sg x = impl_ScaleVec x.1 x.2.1 := by kernel_rfl
theorem impl_ScaleVec_so : Sound Tryz.prog 195 impl_ScaleVec_en := sound_of_body (envS (l := []) (trivial)) Tryz.func195 (by kernel_rfl) rfl (fun x y h => (impl_ScaleVec_eq x).trans h)

-- loop.example/g01204/impl.ticksOf
noncomputable def impl_ticksOf_l3 (a0 : (Int × ((Vec 3 Nat) × ((List (Vec 3 Nat)) × ((List (Int × ((Vec 3 Nat) × (Int × (Int × Unit))))) × Unit))))) (s2778 : (Int × Int × Unit)) : Option ((Int × Int × Unit) ⊕ ((Int × Unit) × Unit)) :=
  bif (iLt s2778.2.1 (lenI a0.2.2.2.1)) then
    bif inB s2778.2.1 (List.length a0.2.2.2.1) then
      some (Sum.inl ((iAdd .i64 s2778.1 (List.getD a0.2.2.2.1 s2778.2.1.toNat ((0, (0, 0, 0, ()), 0, 0, ()) : (Int × ((Vec 3 Nat) × (Int × (Int × Unit)))))).1), (iAdd .i64 s2778.2.1 1), ()))
    else none
  else
  Option.map Sum.inr (some ((s2778.1, ()), ()))
noncomputable def impl_ticksOf (a0 : (Int × ((Vec 3 Nat) × ((List (Vec 3 Nat)) × ((List (Int × ((Vec 3 Nat) × (Int × (Int × Unit))))) × Unit))))) : Option ((Int × Unit) × Unit) :=
  run (impl_ticksOf_l3 a0) ((0 : Int), (0 : Int), ())
noncomputable def impl_ticksOf_sg : Sig := ⟨[.v (.pair (.int .i64) (.pair (.arr 3 (.flt .f32)) (.pair (.list (.arr 3 (.flt .f32))) (.pair (.list (.pair (.int .i64) (.pair (.arr 3 (.flt .f32)) (.pair (.int .i64) (.pair (.int .i64) (.unit)))))) (.unit)))))], [.v (.val (.int .i64))], false⟩
noncomputable def impl_ticksOf_en : Entry := ⟨impl_ticksOf_sg, fun x => impl_ticksOf x.1⟩
theorem impl_ticksOf_eq (x : impl_ticksOf_sg.dom) : body (env []) [(3, .vary [(3, .sc (.int .i64)), (9, .sc (.int .i64))])] Tryz.f244 impl_ticksOf_sg x = impl_ticksOf x.1 := by kernel_rfl
theorem impl_ticksOf_so : Sound Tryz.prog 244 impl_ticksOf_en := sound_of_body (envS (l := []) (trivial)) Tryz.func244 (by kernel_rfl) rfl (fun x y h => (impl_ticksOf_eq x).trans h)

-- loop.example/g01204/impl.ValidMission
noncomputable def impl_ValidMission_l4 (a0 : (Int × ((Vec 3 Nat) × ((List (Vec 3 Nat)) × ((List (Int × ((Vec 3 Nat) × (Int × (Int × Unit))))) × Unit))))) (s2763 : (Int × Unit)) : Option ((Int × Unit) ⊕ ((Bool × Unit) × Unit)) :=
  bif (iLt s2763.1 (lenI a0.2.2.2.1)) then
    bif inB s2763.1 (List.length a0.2.2.2.1) then
      let x2765 := List.getD a0.2.2.2.1 s2763.1.toNat ((0, (0, 0, 0, ()), 0, 0, ()) : (Int × ((Vec 3 Nat) × (Int × (Int × Unit)))))
      (impl_within x2765.1 (1 : Int) (400 : Int)).bind fun y2766 =>
      bif (! y2766.1.1) then
        Option.map Sum.inr (some ((false, ()), ()))
      else
      (impl_IsFiniteVec x2765.2.1).bind fun y2768 =>
      bif (! y2768.1.1) then
        Option.map Sum.inr (some ((false, ()), ()))
      else
      (impl_within x2765.2.2.1 (0 : Int) (400 : Int)).bind fun y2770 =>
      bif (! y2770.1.1) then
        Option.map Sum.inr (some ((false, ()), ()))
      else
      (impl_within x2765.2.2.2.1 ((-1 : Int) : Int) (iSub .i64 (lenI a0.2.2.1) 1)).bind fun y2773 =>
      bif (! y2773.1.1) then
        Option.map Sum.inr (some ((false, ()), ()))
      else
      some (Sum.inl ((iAdd .i64 s2763.1 1), ()))
    else none
  else
  Option.map Sum.inr (
    (impl_ticksOf a0).bind fun y2776 =>
    some (((iLe y2776.1.1 400), ()), ()))
noncomputable def impl_ValidMission (a0 : (Int × ((Vec 3 Nat) × ((List (Vec 3 Nat)) × ((List (Int × ((Vec 3 Nat) × (Int × (Int × Unit))))) × Unit))))) : Option ((Bool × Unit) × Unit) :=
  (impl_validFrame a0.1 a0.2.1 a0.2.2.1).bind fun y2760 =>
  bif (! y2760.1.1) then some ((false, ()), ()) else
  bif (iLt 64 (lenI a0.2.2.2.1)) then some ((false, ()), ()) else run (impl_ValidMission_l4 a0) ((0 : Int), ())
noncomputable def impl_ValidMission_sg : Sig := ⟨[.v (.pair (.int .i64) (.pair (.arr 3 (.flt .f32)) (.pair (.list (.arr 3 (.flt .f32))) (.pair (.list (.pair (.int .i64) (.pair (.arr 3 (.flt .f32)) (.pair (.int .i64) (.pair (.int .i64) (.unit)))))) (.unit)))))], [.v (.val (.bool))], false⟩
noncomputable def impl_ValidMission_en : Entry := ⟨impl_ValidMission_sg, fun x => impl_ValidMission x.1⟩
theorem impl_ValidMission_eq (x : impl_ValidMission_sg.dom) : body (env [(114, impl_within_en), (168, impl_validFrame_en), (172, impl_IsFiniteVec_en), (244, impl_ticksOf_en)]) [(4, .vary [(22, .sc (.int .i64))])] Tryz.f193 impl_ValidMission_sg x = impl_ValidMission x.1 := by kernel_rfl
theorem impl_ValidMission_so : Sound Tryz.prog 193 impl_ValidMission_en := sound_of_body (envS (l := [(114, impl_within_en), (168, impl_validFrame_en), (172, impl_IsFiniteVec_en), (244, impl_ticksOf_en)]) (⟨impl_within_so, impl_validFrame_so, impl_IsFiniteVec_so, impl_ticksOf_so, trivial⟩)) Tryz.func193 (by kernel_rfl) rfl (fun x y h => (impl_ValidMission_eq x).trans h)

-- loop.example/g01204/impl.TrackOf
noncomputable def impl_TrackOf_l10 (x2725 : (Int × ((Vec 3 Nat) × (Int × (Int × Unit))))) (x2702 : Nat) (s2723 : ((List (Vec 3 Nat)) × Int × (Vec 3 Nat) × Unit)) (s2734 : ((List (Vec 3 Nat)) × Int × (Vec 3 Nat) × Unit)) : Option (((List (Vec 3 Nat)) × Int × (Vec 3 Nat) × Unit) ⊕ (((List (Vec 3 Nat)) × Int × (Vec 3 Nat) × Unit) ⊕ (((List (Vec 3 Nat)) × Int × Unit) × Unit))) :=
  bif (iLt s2734.2.1 x2725.1) then
    (impl_ScaleVec x2725.2.1 x2702).bind fun y2736 =>
    (impl_AddVec s2734.2.2.1 y2736.1.1).bind fun y2737 =>
    (impl_IsFiniteVec y2737.1.1).bind fun y2738 =>
    bif (! y2738.1.1) then
      Option.map Sum.inr (Option.map Sum.inr (some ((([] : (List (Vec 3 Nat))), (4 : Int), ()), ())))
    else
    bif room (List.length s2734.1 + 1) 12 then
      some (Sum.inl ((s2734.1 ++ ([y2737.1.1] : (List (Vec 3 Nat)))), (iAdd .i64 s2734.2.1 1), y2737.1.1, ()))
    else none
  else
  Option.map Sum.inr (some (Sum.inl (s2734.1, (iAdd .i64 s2723.2.1 1), s2734.2.2.1, ())))
noncomputable def impl_TrackOf_l7 (a0 : (Int × ((Vec 3 Nat) × ((List (Vec 3 Nat)) × ((List (Int × ((Vec 3 Nat) × (Int × (Int × Unit))))) × Unit))))) (x2702 : Nat) (s2723 : ((List (Vec 3 Nat)) × Int × (Vec 3 Nat) × Unit)) : Option (((List (Vec 3 Nat)) × Int × (Vec 3 Nat) × Unit) ⊕ (((List (Vec 3 Nat)) × Int × Unit) × Unit)) :=
  bif (iLt s2723.2.1 (lenI a0.2.2.2.1)) then
    bif inB s2723.2.1 (List.length a0.2.2.2.1) then
      let x2725 := List.getD a0.2.2.2.1 s2723.2.1.toNat ((0, (0, 0, 0, ()), 0, 0, ()) : (Int × ((Vec 3 Nat) × (Int × (Int × Unit)))))
      run (impl_TrackOf_l10 x2725 x2702 s2723) (s2723.1, (0 : Int), s2723.2.2.1, ())
    else none
  else
  Option.map Sum.inr (some ((s2723.1, (0 : Int), ()), ()))
noncomputable def impl_TrackOf (a0 : (Int × ((Vec 3 Nat) × ((List (Vec 3 Nat)) × ((List (Int × ((Vec 3 Nat) × (Int × (Int × Unit))))) × Unit))))) : Option (((List (Vec 3 Nat)) × Int × Unit) × Unit) :=
  (impl_ValidMission a0).bind fun y2699 =>
  bif (! y2699.1.1) then some ((([] : (List (Vec 3 Nat))), (1 : Int), ()), ()) else
  let x2702 := fDiv .f32 1065353216 (fOfInt .f32 a0.1)
  run (impl_TrackOf_l7 a0 x2702) (([a0.2.1] : (List (Vec 3 Nat))), (0 : Int), a0.2.1, ())
noncomputable def impl_TrackOf_sg : Sig := ⟨[.v (.pair (.int .i64) (.pair (.arr 3 (.flt .f32)) (.pair (.list (.arr 3 (.flt .f32))) (.pair (.list (.pair (.int .i64) (.pair (.arr 3 (.flt .f32)) (.pair (.int .i64) (.pair (.int .i64) (.unit)))))) (.unit)))))], [.v (.rows (.arr 3 (.flt .f32))), .v (.val (.int .i64))], false⟩
noncomputable def impl_TrackOf_en : Entry := ⟨impl_TrackOf_sg, fun x => impl_TrackOf x.1⟩
theorem impl_TrackOf_eq (x : impl_TrackOf_sg.dom) : body (env [(172, impl_IsFiniteVec_en), (193, impl_ValidMission_en), (194, impl_AddVec_en), (195, impl_ScaleVec_en)]) [(7, .vary [(6, .rows (.arr 3 (.flt .f32))), (23, .sc (.int .i64)), (5, .box (.val (.arr 3 (.flt .f32))))]), (10, .vary [(6, .rows (.arr 3 (.flt .f32))), (29, .sc (.int .i64)), (5, .box (.val (.arr 3 (.flt .f32))))])] Tryz.f126 impl_TrackOf_sg x = impl_TrackOf x.1 := by kernel_rfl
theorem impl_TrackOf_so : Sound Tryz.prog 126 impl_TrackOf_en := sound_of_body (envS (l := [(172, impl_IsFiniteVec_en), (193, impl_ValidMission_en), (194, impl_AddVec_en), (195, impl_ScaleVec_en)]) (⟨impl_IsFiniteVec_so, impl_ValidMission_so, impl_AddVec_so, impl_ScaleVec_so, trivial⟩)) Tryz.func126 (by kernel_rfl) rfl (fun x y h => (impl_TrackOf_eq x).trans h)

theorem math_RoundToEven_so : Sound Tryz.prog 85 math_RoundToEven_en := round_sound (name := "math.RoundToEven") Tryz.func85 (by kernel_rfl) (by kernel_rfl) (by kernel_rfl) (by kernel_rfl)

-- loop.example/g01204/impl.ToCount
noncomputable def impl_ToCount (a0 : Nat) : Option ((Int × Unit) × Unit) :=
  (impl_isNaN a0).bind fun y2801 =>
  bif y2801.1.1 then some (((0 : Int), ()), ()) else
  (fConv .f32 .f64 a0).bind fun y2802 =>
  (math_RoundToEven y2802).bind fun y2803 =>
  (fToInt .f64 (fMin .f64 4674736138332667904 (fMax .f64 13898108450065350656 y2803.1.1)) .i16).bind fun n2806 =>
  some ((n2806, ()), ())
noncomputable def impl_ToCount_sg : Sig := ⟨[.v (.flt .f32)], [.v (.val (.int .i16))], false⟩
noncomputable def impl_ToCount_en : Entry := ⟨impl_ToCount_sg, fun x => impl_ToCount x.1⟩
theorem impl_ToCount_eq (x : impl_ToCount_sg.dom) : body (env [(85, math_RoundToEven_en), (251, impl_isNaN_en)]) [] Tryz.f243 impl_ToCount_sg x = impl_ToCount x.1 := by kernel_rfl
theorem impl_ToCount_so : Sound Tryz.prog 243 impl_ToCount_en := sound_of_body (envS (l := [(85, math_RoundToEven_en), (251, impl_isNaN_en)]) (⟨math_RoundToEven_so, impl_isNaN_so, trivial⟩)) Tryz.func243 (by kernel_rfl) rfl (fun x y h => (impl_ToCount_eq x).trans h)

-- loop.example/g01204/impl.countsOf
noncomputable def impl_countsOf (a0 : ((Vec 3 Nat) × ((Vec 3 Nat) × (Int × (Int × Unit))))) (a1 : (Vec 3 Nat)) : Option (((Vec 3 Int) × Unit) × Unit) :=
  (impl_ToCount (fDiv .f32 (fSub .f32 (Vec.getD 3 a1 0 (0 : Nat)) (Vec.getD 3 a0.2.1 0 (0 : Nat))) (Vec.getD 3 a0.1 0 (0 : Nat)))).bind fun y2788 =>
  (impl_ToCount (fDiv .f32 (fSub .f32 (Vec.getD 3 a1 1 (0 : Nat)) (Vec.getD 3 a0.2.1 1 (0 : Nat))) (Vec.getD 3 a0.1 1 (0 : Nat)))).bind fun y2794 =>
  (impl_ToCount (fDiv .f32 (fSub .f32 (Vec.getD 3 a1 2 (0 : Nat)) (Vec.getD 3 a0.2.1 2 (0 : Nat))) (Vec.getD 3 a0.1 2 (0 : Nat)))).bind fun y2800 =>
  some ((((y2788.1.1, y2794.1.1, y2800.1.1, ()) : (Vec 3 Int)), ()), ())
noncomputable def impl_countsOf_sg : Sig := ⟨[.v (.pair (.arr 3 (.flt .f32)) (.pair (.arr 3 (.flt .f32)) (.pair (.int .i64) (.pair (.int .i64) (.unit))))), .v (.arr 3 (.flt .f32))], [.v (.val (.arr 3 (.int .i16)))], false⟩
noncomputable def impl_countsOf_en : Entry := ⟨impl_countsOf_sg, fun x => impl_countsOf x.1 x.2.1⟩
theorem impl_countsOf_eq (x : impl_countsOf_sg.dom) : body (env [(243, impl_ToCount_en)]) [(3, .unroll 4)] Tryz.f192 impl_countsOf_sg x = impl_countsOf x.1 x.2.1 := by kernel_rfl
theorem impl_countsOf_so : Sound Tryz.prog 192 impl_countsOf_en := sound_of_body (envS (l := [(243, impl_ToCount_en)]) (⟨impl_ToCount_so, trivial⟩)) Tryz.func192 (by kernel_rfl) rfl (fun x y h => (impl_countsOf_eq x).trans h)

-- slices.Clone[[]loop.example/g01204/impl.Vec,loop.example/g01204/impl.Vec]
noncomputable def slices_Clone_impl_Vec (a0 : (List (Vec 3 Nat))) : Option (((List (Vec 3 Nat)) × Unit) × Unit) :=
  bif List.isEmpty a0 then
    allSame fun (q2807 : Bool) =>
    bif q2807 then some ((([] : (List (Vec 3 Nat))), ()), ()) else
    bif room (0 + List.length a0) 12 then
      some (((([] : (List (Vec 3 Nat))) ++ a0), ()), ())
    else none
  else
  bif room (0 + List.length a0) 12 then
    some (((([] : (List (Vec 3 Nat))) ++ a0), ()), ())
  else none
noncomputable def slices_Clone_impl_Vec_sg : Sig := ⟨[.v (.list (.arr 3 (.flt .f32)))], [.v (.rows (.arr 3 (.flt .f32)))], false⟩
noncomputable def slices_Clone_impl_Vec_en : Entry := ⟨slices_Clone_impl_Vec_sg, fun x => slices_Clone_impl_Vec x.1⟩
theorem slices_Clone_impl_Vec_eq (x : slices_Clone_impl_Vec_sg.dom) : body (env []) [] Tryz.f190 slices_Clone_impl_Vec_sg x = slices_Clone_impl_Vec x.1 := by kernel_rfl
theorem slices_Clone_impl_Vec_so : Sound Tryz.prog 190 slices_Clone_impl_Vec_en := sound_of_body (envS (l := []) (trivial)) Tryz.func190 (by kernel_rfl) rfl (fun x y h => (slices_Clone_impl_Vec_eq x).trans h)

-- loop.example/g01204/impl.RunMission
noncomputable def impl_RunMission_l11 (x2606 : (Int × ((Vec 3 Nat) × (Int × (Int × Unit))))) (y2576 : (((List (Vec 3 Nat)) × Int × Unit) × Unit)) (s2604 : (Int × Int × Int × (Int × ((Vec 3 Nat) × ((List (Vec 3 Nat)) × ((List (Int × ((Vec 3 Nat) × ((Vec 3 Int) × (Int × (Nat × Unit)))))) × Unit)))) × Unit)) (a0 : (Int × ((Vec 3 Nat) × ((List (Vec 3 Nat)) × ((List (Int × ((Vec 3 Nat) × (Int × (Int × Unit))))) × Unit))))) (s2614 : (Int × Int × Int × (Int × ((Vec 3 Nat) × ((List (Vec 3 Nat)) × ((List (Int × ((Vec 3 Nat) × ((Vec 3 Int) × (Int × (Nat × Unit)))))) × Unit)))) × Unit)) : Option ((Int × Int × Int × (Int × ((Vec 3 Nat) × ((List (Vec 3 Nat)) × ((List (Int × ((Vec 3 Nat) × ((Vec 3 Int) × (Int × (Nat × Unit)))))) × Unit)))) × Unit) ⊕ ((Int × Int × Int × (Int × ((Vec 3 Nat) × ((List (Vec 3 Nat)) × ((List (Int × ((Vec 3 Nat) × ((Vec 3 Int) × (Int × (Nat × Unit)))))) × Unit)))) × Unit) ⊕ (((Int × ((Vec 3 Nat) × ((List (Vec 3 Nat)) × ((List (Int × ((Vec 3 Nat) × ((Vec 3 Int) × (Int × (Nat × Unit)))))) × Unit)))) × Int × Unit) × Unit))) :=
  bif (iLe s2614.2.2.1 x2606.1) then
    let x2616 := iAdd .i64 s2614.2.1 1
    bif room (List.length s2614.2.2.2.1.2.2.2.1 + 1) 48 then
      let l2617 := s2614.2.2.2.1.2.2.2.1 ++ ([(1, (0, 0, 0, ()), (0, 0, 0, ()), 0, 0, ())] : (List (Int × ((Vec 3 Nat) × ((Vec 3 Int) × (Int × (Nat × Unit)))))))
      bif (iEq x2606.2.2.1 0) then
        some (Sum.inl (s2614.1, x2616, (iAdd .i64 s2614.2.2.1 1), ((s2614.2.2.2.1.1, s2614.2.2.2.1.2.1, s2614.2.2.2.1.2.2.1, l2617, s2614.2.2.2.1.2.2.2.2) : (Int × ((Vec 3 Nat) × ((List (Vec 3 Nat)) × ((List (Int × ((Vec 3 Nat) × ((Vec 3 Int) × (Int × (Nat × Unit)))))) × Unit))))), ()))
      else
      bif iEq x2606.2.2.1 0 then none else
      bif (! (iEq (iRem .i64 s2614.2.2.1 x2606.2.2.1) 0)) then
        some (Sum.inl (s2614.1, x2616, (iAdd .i64 s2614.2.2.1 1), ((s2614.2.2.2.1.1, s2614.2.2.2.1.2.1, s2614.2.2.2.1.2.2.1, l2617, s2614.2.2.2.1.2.2.2.2) : (Int × ((Vec 3 Nat) × ((List (Vec 3 Nat)) × ((List (Int × ((Vec 3 Nat) × ((Vec 3 Int) × (Int × (Nat × Unit)))))) × Unit))))), ()))
      else
      (impl_FixSensor).bind fun y2623 =>
      bif inB x2616 (List.length y2576.1.1) then
        (impl_countsOf y2623.1.1 (List.getD y2576.1.1 x2616.toNat ((0, 0, 0, ()) : (Vec 3 Nat)))).bind fun y2625 =>
        (impl_ShakeCounts y2625.1.1 s2614.1 (4 : Int)).bind fun y2626 =>
        bif room (List.length l2617 + 1) 48 then
          some (Sum.inl (y2626.1.2.1, x2616, (iAdd .i64 s2614.2.2.1 1), ((s2614.2.2.2.1.1, s2614.2.2.2.1.2.1, s2614.2.2.2.1.2.2.1, (l2617 ++ ([(3, (0, 0, 0, ()), y2626.1.1, 0, 0, ())] : (List (Int × ((Vec 3 Nat) × ((Vec 3 Int) × (Int × (Nat × Unit)))))))), s2614.2.2.2.1.2.2.2.2) : (Int × ((Vec 3 Nat) × ((List (Vec 3 Nat)) × ((List (Int × ((Vec 3 Nat) × ((Vec 3 Int) × (Int × (Nat × Unit)))))) × Unit))))), ()))
        else none
      else none
    else none
  else
  Option.map Sum.inr (
    bif (iLt x2606.2.2.2.1 0) then
      some (Sum.inl (s2614.1, s2614.2.1, (iAdd .i64 s2604.2.2.1 1), ((s2614.2.2.2.1.1, s2614.2.2.2.1.2.1, s2614.2.2.2.1.2.2.1, s2614.2.2.2.1.2.2.2.1, s2614.2.2.2.1.2.2.2.2) : (Int × ((Vec 3 Nat) × ((List (Vec 3 Nat)) × ((List (Int × ((Vec 3 Nat) × ((Vec 3 Int) × (Int × (Nat × Unit)))))) × Unit))))), ()))
    else
    let x2632 := iAdd .u32 (iMul .u32 1664525 s2614.1) 1013904223
    bif inB s2614.2.1 (List.length y2576.1.1) then
      bif inB x2606.2.2.2.1 (List.length a0.2.2.1) then
        (impl_SubVec (List.getD y2576.1.1 s2614.2.1.toNat ((0, 0, 0, ()) : (Vec 3 Nat))) (List.getD a0.2.2.1 x2606.2.2.2.1.toNat ((0, 0, 0, ()) : (Vec 3 Nat)))).bind fun y2639 =>
        (impl_LengthOf y2639.1.1).bind fun y2640 =>
        let x2643 := fAdd .f32 y2640.1.1 (fDiv .f32 (fOfInt .f32 (iSub .i64 (iRem .i64 (iWrap .i64 (iShr .u32 x2632 16)) 9) 4)) 1098907648)
        (impl_isFinite ([x2643] : (List Nat))).bind fun y2644 =>
        bif (! y2644.1.1) then
          Option.map Sum.inr (some ((((0, (0, 0, 0, ()), [], [], ()) : (Int × ((Vec 3 Nat) × ((List (Vec 3 Nat)) × ((List (Int × ((Vec 3 Nat) × ((Vec 3 Int) × (Int × (Nat × Unit)))))) × Unit))))), (4 : Int), ()), ()))
        else
        bif room (List.length s2614.2.2.2.1.2.2.2.1 + 1) 48 then
          some (Sum.inl (x2632, s2614.2.1, (iAdd .i64 s2604.2.2.1 1), ((s2614.2.2.2.1.1, s2614.2.2.2.1.2.1, s2614.2.2.2.1.2.2.1, (s2614.2.2.2.1.2.2.2.1 ++ ([(4, (0, 0, 0, ()), (0, 0, 0, ()), x2606.2.2.2.1, x2643, ())] : (List (Int × ((Vec 3 Nat) × ((Vec 3 Int) × (Int × (Nat × Unit)))))))), s2614.2.2.2.1.2.2.2.2) : (Int × ((Vec 3 Nat) × ((List (Vec 3 Nat)) × ((List (Int × ((Vec 3 Nat) × ((Vec 3 Int) × (Int × (Nat × Unit)))))) × Unit))))), ()))
        else none
      else none
    else none)
noncomputable def impl_RunMission_l7 (a0 : (Int × ((Vec 3 Nat) × ((List (Vec 3 Nat)) × ((List (Int × ((Vec 3 Nat) × (Int × (Int × Unit))))) × Unit))))) (y2576 : (((List (Vec 3 Nat)) × Int × Unit) × Unit)) (s2604 : (Int × Int × Int × (Int × ((Vec 3 Nat) × ((List (Vec 3 Nat)) × ((List (Int × ((Vec 3 Nat) × ((Vec 3 Int) × (Int × (Nat × Unit)))))) × Unit)))) × Unit)) : Option ((Int × Int × Int × (Int × ((Vec 3 Nat) × ((List (Vec 3 Nat)) × ((List (Int × ((Vec 3 Nat) × ((Vec 3 Int) × (Int × (Nat × Unit)))))) × Unit)))) × Unit) ⊕ (((Int × ((Vec 3 Nat) × ((List (Vec 3 Nat)) × ((List (Int × ((Vec 3 Nat) × ((Vec 3 Int) × (Int × (Nat × Unit)))))) × Unit)))) × Int × Unit) × Unit)) :=
  bif (iLt s2604.2.2.1 (lenI a0.2.2.2.1)) then
    bif inB s2604.2.2.1 (List.length a0.2.2.2.1) then
      let x2606 := List.getD a0.2.2.2.1 s2604.2.2.1.toNat ((0, (0, 0, 0, ()), 0, 0, ()) : (Int × ((Vec 3 Nat) × (Int × (Int × Unit)))))
      bif room (List.length s2604.2.2.2.1.2.2.2.1 + 1) 48 then
        run (impl_RunMission_l11 x2606 y2576 s2604 a0) (s2604.1, s2604.2.1, (1 : Int), ((s2604.2.2.2.1.1, s2604.2.2.2.1.2.1, s2604.2.2.2.1.2.2.1, (s2604.2.2.2.1.2.2.2.1 ++ ([(2, x2606.2.1, (0, 0, 0, ()), 0, 0, ())] : (List (Int × ((Vec 3 Nat) × ((Vec 3 Int) × (Int × (Nat × Unit)))))))), s2604.2.2.2.1.2.2.2.2) : (Int × ((Vec 3 Nat) × ((List (Vec 3 Nat)) × ((List (Int × ((Vec 3 Nat) × ((Vec 3 Int) × (Int × (Nat × Unit)))))) × Unit))))), ())
      else none
    else none
  else
  Option.map Sum.inr (
    bif (iLt 1200 (lenI s2604.2.2.2.1.2.2.2.1)) then some ((((0, (0, 0, 0, ()), [], [], ()) : (Int × ((Vec 3 Nat) × ((List (Vec 3 Nat)) × ((List (Int × ((Vec 3 Nat) × ((Vec 3 Int) × (Int × (Nat × Unit)))))) × Unit))))), (3 : Int), ()), ()) else
    some ((((s2604.2.2.2.1.1, s2604.2.2.2.1.2.1, s2604.2.2.2.1.2.2.1, s2604.2.2.2.1.2.2.2.1, s2604.2.2.2.1.2.2.2.2) : (Int × ((Vec 3 Nat) × ((List (Vec 3 Nat)) × ((List (Int × ((Vec 3 Nat) × ((Vec 3 Int) × (Int × (Nat × Unit)))))) × Unit))))), (0 : Int), ()), ()))
noncomputable def impl_RunMission (a0 : (Int × ((Vec 3 Nat) × ((List (Vec 3 Nat)) × ((List (Int × ((Vec 3 Nat) × (Int × (Int × Unit))))) × Unit))))) (a1 : Int) : Option (((Int × ((Vec 3 Nat) × ((List (Vec 3 Nat)) × ((List (Int × ((Vec 3 Nat) × ((Vec 3 Int) × (Int × (Nat × Unit)))))) × Unit)))) × Int × Unit) × Unit) :=
  (impl_TrackOf a0).bind fun y2576 =>
  bif (! (iEq y2576.1.2.1 0)) then some ((((0, (0, 0, 0, ()), [], [], ()) : (Int × ((Vec 3 Nat) × ((List (Vec 3 Nat)) × ((List (Int × ((Vec 3 Nat) × ((Vec 3 Int) × (Int × (Nat × Unit)))))) × Unit))))), y2576.1.2.1, ()), ()) else
  (slices_Clone_impl_Vec a0.2.2.1).bind fun y2578 =>
  run (impl_RunMission_l7 a0 y2576) (a1, (0 : Int), (0 : Int), ((a0.1, a0.2.1, y2578.1.1, [], ()) : (Int × ((Vec 3 Nat) × ((List (Vec 3 Nat)) × ((List (Int × ((Vec 3 Nat) × ((Vec 3 Int) × (Int × (Nat × Unit)))))) × Unit))))), ())
noncomputable def impl_RunMission_sg : Sig := ⟨[.v (.pair (.int .i64) (.pair (.arr 3 (.flt .f32)) (.pair (.list (.arr 3 (.flt .f32))) (.pair (.list (.pair (.int .i64) (.pair (.arr 3 (.flt .f32)) (.pair (.int .i64) (.pair (.int .i64) (.unit)))))) (.unit))))), .v (.int .u32)], [.v (.pair (.val (.int .i64)) (.pair (.val (.arr 3 (.flt .f32))) (.pair (.rows (.arr 3 (.flt .f32))) (.pair (.rows (.pair (.int .i64) (.pair (.arr 3 (.flt .f32)) (.pair (.arr 3 (.int .i16)) (.pair (.int .i64) (.pair (.flt .f32) (.unit))))))) (.val (.unit)))))), .v (.val (.int .i64))], false⟩
noncomputable def impl_RunMission_en : Entry := ⟨impl_RunMission_sg, fun x => impl_RunMission x.1 x.2.1⟩
theorem impl_RunMission_eq (x : impl_RunMission_sg.dom) : body (env [(24, impl_LengthOf_en), (64, impl_isFinite_en), (126, impl_TrackOf_en), (128, impl_SubVec_en), (177, impl_FixSensor_en), (190, slices_Clone_impl_Vec_en), (191, impl_ShakeCounts_en), (192, impl_countsOf_en)]) [(7, .vary [(1, .sc (.int .u32)), (9, .sc (.int .i64)), (38, .sc (.int .i64)), (8, .box (.pair (.val (.int .i64)) (.pair (.val (.arr 3 (.flt .f32))) (.pair (.rows (.arr 3 (.flt .f32))) (.pair (.rows (.pair (.int .i64) (.pair (.arr 3 (.flt .f32)) (.pair (.arr 3 (.int .i16)) (.pair (.int .i64) (.pair (.flt .f32) (.unit))))))) (.val (.unit)))))))]), (11, .vary [(1, .sc (.int .u32)), (9, .sc (.int .i64)), (12, .sc (.int .i64)), (8, .box (.pair (.val (.int .i64)) (.pair (.val (.arr 3 (.flt .f32))) (.pair (.rows (.arr 3 (.flt .f32))) (.pair (.rows (.pair (.int .i64) (.pair (.arr 3 (.flt .f32)) (.pair (.arr 3 (.int .i16)) (.pair (.int .i64) (.pair (.flt .f32) (.unit))))))) (.val (.unit)))))))])] Tryz.f125 impl_RunMission_sg x = impl_RunMission x.1 x.2.1 := by kernel_rfl
theorem impl_RunMission_so : Sound Tryz.prog 125 impl_RunMission_en := sound_of_body (envS (l := [(24, impl_LengthOf_en), (64, impl_isFinite_en), (126, impl_TrackOf_en), (128, impl_SubVec_en), (177, impl_FixSensor_en), (190, slices_Clone_impl_Vec_en), (191, impl_ShakeCounts_en), (192, impl_countsOf_en)]) (⟨impl_LengthOf_so, impl_isFinite_so, impl_TrackOf_so, impl_SubVec_so, impl_FixSensor_so, slices_Clone_impl_Vec_so, impl_ShakeCounts_so, impl_countsOf_so, trivial⟩)) Tryz.func125 (by kernel_rfl) rfl (fun x y h => (impl_RunMission_eq x).trans h)

-- loop.example/g01204/impl.MissOf
noncomputable def impl_MissOf (a0 : (Int × ((Vec 3 Nat) × ((List (Vec 3 Nat)) × ((List (Int × ((Vec 3 Nat) × (Int × (Int × Unit))))) × Unit))))) (a1 : Int) : Option ((Nat × Int × Unit) × Unit) :=
  (impl_RunMission a0 a1).bind fun y2565 =>
  bif (! (iEq y2565.1.2.1 0)) then some (((0 : Nat), y2565.1.2.1, ()), ()) else
  (impl_ReplayLog ((y2565.1.1.1, y2565.1.1.2.1, y2565.1.1.2.2.1, y2565.1.1.2.2.2.1, y2565.1.1.2.2.2.2) : (Int × ((Vec 3 Nat) × ((List (Vec 3 Nat)) × ((List (Int × ((Vec 3 Nat) × ((Vec 3 Int) × (Int × (Nat × Unit)))))) × Unit)))))).bind fun y2567 =>
  bif (! (iEq y2567.1.2.1 0)) then some (((0 : Nat), y2567.1.2.1, ()), ()) else
  (impl_TrackOf a0).bind fun y2569 =>
  (impl_PositionOf y2567.1.1).bind fun y2570 =>
  let x2571 := iSub .i64 (lenI y2569.1.1) 1
  bif inB x2571 (List.length y2569.1.1) then
    (impl_SubVec y2570.1.1 (List.getD y2569.1.1 x2571.toNat ((0, 0, 0, ()) : (Vec 3 Nat)))).bind fun y2573 =>
    (impl_LengthOf y2573.1.1).bind fun y2574 =>
    (impl_numberOr y2574.1.1).bind fun y2575 =>
    some ((y2575.1.1, y2575.1.2.1, ()), ())
  else none
noncomputable def impl_MissOf_sg : Sig := ⟨[.v (.pair (.int .i64) (.pair (.arr 3 (.flt .f32)) (.pair (.list (.arr 3 (.flt .f32))) (.pair (.list (.pair (.int .i64) (.pair (.arr 3 (.flt .f32)) (.pair (.int .i64) (.pair (.int .i64) (.unit)))))) (.unit))))), .v (.int .u32)], [.v (.val (.flt .f32)), .v (.val (.int .i64))], false⟩
noncomputable def impl_MissOf_en : Entry := ⟨impl_MissOf_sg, fun x => impl_MissOf x.1 x.2.1⟩
theorem impl_MissOf_eq (x : impl_MissOf_sg.dom) : body (env [(24, impl_LengthOf_en), (36, impl_ReplayLog_en), (125, impl_RunMission_en), (126, impl_TrackOf_en), (127, impl_numberOr_en), (128, impl_SubVec_en), (129, impl_PositionOf_en)]) [] Tryz.f48 impl_MissOf_sg x = impl_MissOf x.1 x.2.1 := by kernel_rfl
theorem impl_MissOf_so : Sound Tryz.prog 48 impl_MissOf_en := sound_of_body (envS (l := [(24, impl_LengthOf_en), (36, impl_ReplayLog_en), (125, impl_RunMission_en), (126, impl_TrackOf_en), (127, impl_numberOr_en), (128, impl_SubVec_en), (129, impl_PositionOf_en)]) (⟨impl_LengthOf_so, impl_ReplayLog_so, impl_RunMission_so, impl_TrackOf_so, impl_numberOr_so, impl_SubVec_so, impl_PositionOf_so, trivial⟩)) Tryz.func48 (by kernel_rfl) rfl (fun x y h => (impl_MissOf_eq x).trans h)

-- loop.example/g01204/laws.eqLeg
noncomputable def laws_eqLeg (a0 : (Int × ((Vec 3 Nat) × (Int × (Int × Unit))))) (a1 : (Int × ((Vec 3 Nat) × (Int × (Int × Unit))))) : Option ((Bool × Unit) × Unit) :=
  bif (! (iEq a0.1 a1.1)) then some ((false, ()), ()) else
  (laws_eqVec a0.2.1 a1.2.1).bind fun y2826 =>
  bif (! y2826.1.1) then some ((false, ()), ()) else
  bif (! (iEq a0.2.2.1 a1.2.2.1)) then some ((false, ()), ()) else
  bif (! (iEq a0.2.2.2.1 a1.2.2.2.1)) then some ((false, ()), ()) else some ((true, ()), ())
noncomputable def laws_eqLeg_sg : Sig := ⟨[.v (.pair (.int .i64) (.pair (.arr 3 (.flt .f32)) (.pair (.int .i64) (.pair (.int .i64) (.unit))))), .v (.pair (.int .i64) (.pair (.arr 3 (.flt .f32)) (.pair (.int .i64) (.pair (.int .i64) (.unit)))))], [.v (.val (.bool))], false⟩
noncomputable def laws_eqLeg_en : Entry := ⟨laws_eqLeg_sg, fun x => laws_eqLeg x.1 x.2.1⟩
theorem laws_eqLeg_eq (x : laws_eqLeg_sg.dom) : body (env [(106, laws_eqVec_en)]) [] Tryz.f196 laws_eqLeg_sg x = laws_eqLeg x.1 x.2.1 := by kernel_rfl
theorem laws_eqLeg_so : Sound Tryz.prog 196 laws_eqLeg_en := sound_of_body (envS (l := [(106, laws_eqVec_en)]) (⟨laws_eqVec_so, trivial⟩)) Tryz.func196 (by kernel_rfl) rfl (fun x y h => (laws_eqLeg_eq x).trans h)

-- loop.example/g01204/laws.eqLegS
noncomputable def laws_eqLegS_l4 (a0 : (List (Int × ((Vec 3 Nat) × (Int × (Int × Unit)))))) (a1 : (List (Int × ((Vec 3 Nat) × (Int × (Int × Unit)))))) (s2818 : (Int × Unit)) : Option ((Int × Unit) ⊕ ((Bool × Unit) × Unit)) :=
  bif (iLt s2818.1 (lenI a0)) then
    bif inB s2818.1 (List.length a0) then
      bif inB s2818.1 (List.length a1) then
        (laws_eqLeg (List.getD a0 s2818.1.toNat ((0, (0, 0, 0, ()), 0, 0, ()) : (Int × ((Vec 3 Nat) × (Int × (Int × Unit)))))) (List.getD a1 s2818.1.toNat ((0, (0, 0, 0, ()), 0, 0, ()) : (Int × ((Vec 3 Nat) × (Int × (Int × Unit))))))).bind fun y2822 =>
        bif (! y2822.1.1) then
          Option.map Sum.inr (some ((false, ()), ()))
        else
        some (Sum.inl ((iAdd .i64 s2818.1 1), ()))
      else none
    else none
  else
  Option.map Sum.inr (some ((true, ()), ()))
noncomputable def laws_eqLegS (a0 : (List (Int × ((Vec 3 Nat) × (Int × (Int × Unit)))))) (a1 : (List (Int × ((Vec 3 Nat) × (Int × (Int × Unit)))))) : Option ((Bool × Unit) × Unit) :=
  bif (! (iEq (lenI a0) (lenI a1))) then some ((false, ()), ()) else run (laws_eqLegS_l4 a0 a1) ((0 : Int), ())
noncomputable def laws_eqLegS_sg : Sig := ⟨[.v (.list (.pair (.int .i64) (.pair (.arr 3 (.flt .f32)) (.pair (.int .i64) (.pair (.int .i64) (.unit)))))), .v (.list (.pair (.int .i64) (.pair (.arr 3 (.flt .f32)) (.pair (.int .i64) (.pair (.int .i64) (.unit))))))], [.v (.val (.bool))], false⟩
noncomputable def laws_eqLegS_en : Entry := ⟨laws_eqLegS_sg, fun x => laws_eqLegS x.1 x.2.1⟩
theorem laws_eqLegS_eq (x : laws_eqLegS_sg.dom) : body (env [(196, laws_eqLeg_en)]) [(4, .vary [(5, .sc (.int .i64))])] Tryz.f130 laws_eqLegS_sg x = laws_eqLegS x.1 x.2.1 := by kernel_rfl
theorem laws_eqLegS_so : Sound Tryz.prog 130 laws_eqLegS_en := sound_of_body (envS (l := [(196, laws_eqLeg_en)]) (⟨laws_eqLeg_so, trivial⟩)) Tryz.func130 (by kernel_rfl) rfl (fun x y h => (laws_eqLegS_eq x).trans h)

-- loop.example/g01204/laws.eqMission
noncomputable def laws_eqMission (a0 : (Int × ((Vec 3 Nat) × ((List (Vec 3 Nat)) × ((List (Int × ((Vec 3 Nat) × (Int × (Int × Unit))))) × Unit))))) (a1 : (Int × ((Vec 3 Nat) × ((List (Vec 3 Nat)) × ((List (Int × ((Vec 3 Nat) × (Int × (Int × Unit))))) × Unit))))) : Option ((Bool × Unit) × Unit) :=
  bif (! (iEq a0.1 a1.1)) then some ((false, ()), ()) else
  (laws_eqVec a0.2.1 a1.2.1).bind fun y2811 =>
  bif (! y2811.1.1) then some ((false, ()), ()) else
  (laws_eqVecS a0.2.2.1 a1.2.2.1).bind fun y2813 =>
  bif (! y2813.1.1) then some ((false, ()), ()) else
  (laws_eqLegS a0.2.2.2.1 a1.2.2.2.1).bind fun y2815 =>
  bif (! y2815.1.1) then some ((false, ()), ()) else some ((true, ()), ())
noncomputable def laws_eqMission_sg : Sig := ⟨[.v (.pair (.int .i64) (.pair (.arr 3 (.flt .f32)) (.pair (.list (.arr 3 (.flt .f32))) (.pair (.list (.pair (.int .i64) (.pair (.arr 3 (.flt .f32)) (.pair (.int .i64) (.pair (.int .i64) (.unit)))))) (.unit))))), .v (.pair (.int .i64) (.pair (.arr 3 (.flt .f32)) (.pair (.list (.arr 3 (.flt .f32))) (.pair (.list (.pair (.int .i64) (.pair (.arr 3 (.flt .f32)) (.pair (.int .i64) (.pair (.int .i64) (.unit)))))) (.unit)))))], [.v (.val (.bool))], false⟩
noncomputable def laws_eqMission_en : Entry := ⟨laws_eqMission_sg, fun x => laws_eqMission x.1 x.2.1⟩
theorem laws_eqMission_eq (x : laws_eqMission_sg.dom) : body (env [(106, laws_eqVec_en), (107, laws_eqVecS_en), (130, laws_eqLegS_en)]) [] Tryz.f50 laws_eqMission_sg x = laws_eqMission x.1 x.2.1 := by kernel_rfl
theorem laws_eqMission_so : Sound Tryz.prog 50 laws_eqMission_en := sound_of_body (envS (l := [(106, laws_eqVec_en), (107, laws_eqVecS_en), (130, laws_eqLegS_en)]) (⟨laws_eqVec_so, laws_eqVecS_so, laws_eqLegS_so, trivial⟩)) Tryz.func50 (by kernel_rfl) rfl (fun x y h => (laws_eqMission_eq x).trans h)

-- loop.example/g01204/laws.szLegS
noncomputable def laws_szLegS (a0 : (List (Int × ((Vec 3 Nat) × (Int × (Int × Unit)))))) (a1 : Int) : Option ((Int × Unit) × Unit) :=
  let x2834 := iSub .i64 a1 (lenI a0)
  bif (iLt x2834 0) then some ((((-1 : Int) : Int), ()), ()) else some ((x2834, ()), ())
noncomputable def laws_szLegS_sg : Sig := ⟨[.v (.list (.pair (.int .i64) (.pair (.arr 3 (.flt .f32)) (.pair (.int .i64) (.pair (.int .i64) (.unit)))))), .v (.int .i64)], [.v (.val (.int .i64))], false⟩
noncomputable def laws_szLegS_en : Entry := ⟨laws_szLegS_sg, fun x => laws_szLegS x.1 x.2.1⟩
theorem laws_szLegS_eq (x : laws_szLegS_sg.dom) : body (env []) [] Tryz.f117 laws_szLegS_sg x = laws_szLegS x.1 x.2.1 := by kernel_rfl
theorem laws_szLegS_so : Sound Tryz.prog 117 laws_szLegS_en := sound_of_body (envS (l := []) (trivial)) Tryz.func117 (by kernel_rfl) rfl (fun x y h => (laws_szLegS_eq x).trans h)

-- loop.example/g01204/laws.szMission
noncomputable def laws_szMission (a0 : (Int × ((Vec 3 Nat) × ((List (Vec 3 Nat)) × ((List (Int × ((Vec 3 Nat) × (Int × (Int × Unit))))) × Unit))))) (a1 : Int) : Option ((Int × Unit) × Unit) :=
  (laws_szVecS a0.2.2.1 a1).bind fun y2830 =>
  bif (iLt y2830.1.1 0) then some ((((-1 : Int) : Int), ()), ()) else
  (laws_szLegS a0.2.2.2.1 y2830.1.1).bind fun y2832 =>
  bif (iLt y2832.1.1 0) then some ((((-1 : Int) : Int), ()), ()) else some ((y2832.1.1, ()), ())
noncomputable def laws_szMission_sg : Sig := ⟨[.v (.pair (.int .i64) (.pair (.arr 3 (.flt .f32)) (.pair (.list (.arr 3 (.flt .f32))) (.pair (.list (.pair (.int .i64) (.pair (.arr 3 (.flt .f32)) (.pair (.int .i64) (.pair (.int .i64) (.unit)))))) (.unit))))), .v (.int .i64)], [.v (.val (.int .i64))], false⟩
noncomputable def laws_szMission_en : Entry := ⟨laws_szMission_sg, fun x => laws_szMission x.1 x.2.1⟩
theorem laws_szMission_eq (x : laws_szMission_sg.dom) : body (env [(88, laws_szVecS_en), (117, laws_szLegS_en)]) [] Tryz.f45 laws_szMission_sg x = laws_szMission x.1 x.2.1 := by kernel_rfl
theorem laws_szMission_so : Sound Tryz.prog 45 laws_szMission_en := sound_of_body (envS (l := [(88, laws_szVecS_en), (117, laws_szLegS_en)]) (⟨laws_szVecS_so, laws_szLegS_so, trivial⟩)) Tryz.func45 (by kernel_rfl) rfl (fun x y h => (laws_szMission_eq x).trans h)

-- loop.example/g01204/laws.toLeg
noncomputable def laws_toLeg (a0 : (Int × ((Vec 3 Nat) × (Int × (Int × Unit))))) : Option (((Int × ((Vec 3 Nat) × (Int × (Int × Unit)))) × Unit) × Unit) :=
  (laws_toVec a0.2.1).bind fun y2851 =>
  some ((((a0.1, y2851.1.1, a0.2.2.1, a0.2.2.2.1, ()) : (Int × ((Vec 3 Nat) × (Int × (Int × Unit))))), ()), ())
noncomputable def laws_toLeg_sg : Sig := ⟨[.v (.pair (.int .i64) (.pair (.arr 3 (.flt .f32)) (.pair (.int .i64) (.pair (.int .i64) (.unit)))))], [.v (.val (.pair (.int .i64) (.pair (.arr 3 (.flt .f32)) (.pair (.int .i64) (.pair (.int .i64) (.unit))))))], false⟩
noncomputable def laws_toLeg_en : Entry := ⟨laws_toLeg_sg, fun x => laws_toLeg x.1⟩
theorem laws_toLeg_eq (x : laws_toLeg_sg.dom) : body (env [(94, laws_toVec_en)]) [] Tryz.f189 laws_toLeg_sg x = laws_toLeg x.1 := by kernel_rfl
theorem laws_toLeg_so : Sound Tryz.prog 189 laws_toLeg_en := sound_of_body (envS (l := [(94, laws_toVec_en)]) (⟨laws_toVec_so, trivial⟩)) Tryz.func189 (by kernel_rfl) rfl (fun x y h => (laws_toLeg_eq x).trans h)

-- loop.example/g01204/laws.toLegS
noncomputable def laws_toLegS_l3 (a0 : (List (Int × ((Vec 3 Nat) × (Int × (Int × Unit)))))) (s2845 : (Int × (List (Int × ((Vec 3 Nat) × (Int × (Int × Unit))))) × Unit)) : Option ((Int × (List (Int × ((Vec 3 Nat) × (Int × (Int × Unit))))) × Unit) ⊕ (((List (Int × ((Vec 3 Nat) × (Int × (Int × Unit))))) × Unit) × Unit)) :=
  bif (iLt s2845.1 (lenI a0)) then
    bif inB s2845.1 (List.length a0) then
      (laws_toLeg (List.getD a0 s2845.1.toNat ((0, (0, 0, 0, ()), 0, 0, ()) : (Int × ((Vec 3 Nat) × (Int × (Int × Unit))))))).bind fun y2848 =>
      bif inB s2845.1 (List.length s2845.2.1) then
        some (Sum.inl ((iAdd .i64 s2845.1 1), (List.set s2845.2.1 s2845.1.toNat y2848.1.1), ()))
      else none
    else none
  else
  Option.map Sum.inr (some ((s2845.2.1, ()), ()))
noncomputable def laws_toLegS (a0 : (List (Int × ((Vec 3 Nat) × (Int × (Int × Unit)))))) : Option (((List (Int × ((Vec 3 Nat) × (Int × (Int × Unit))))) × Unit) × Unit) :=
  bif (iLe 0 (lenI a0) && iLe (lenI a0) (lenI a0) && room (lenI a0).toNat 40) then run (laws_toLegS_l3 a0) ((0 : Int), List.replicate (lenI a0).toNat ((0, (0, 0, 0, ()), 0, 0, ()) : (Int × ((Vec 3 Nat) × (Int × (Int × Unit))))), ()) else none
noncomputable def laws_toLegS_sg : Sig := ⟨[.v (.list (.pair (.int .i64) (.pair (.arr 3 (.flt .f32)) (.pair (.int .i64) (.pair (.int .i64) (.unit))))))], [.v (.rows (.pair (.int .i64) (.pair (.arr 3 (.flt .f32)) (.pair (.int .i64) (.pair (.int .i64) (.unit))))))], false⟩
noncomputable def laws_toLegS_en : Entry := ⟨laws_toLegS_sg, fun x => laws_toLegS x.1⟩
theorem laws_toLegS_eq (x : laws_toLegS_sg.dom) : body (env [(189, laws_toLeg_en)]) [(3, .vary [(4, .sc (.int .i64)), (3, .mrows (.pair (.int .i64) (.pair (.arr 3 (.flt .f32)) (.pair (.int .i64) (.pair (.int .i64) (.unit))))))])] Tryz.f124 laws_toLegS_sg x = laws_toLegS x.1 := by kernel_rfl
theorem laws_toLegS_so : Sound Tryz.prog 124 laws_toLegS_en := sound_of_body (envS (l := [(189, laws_toLeg_en)]) (⟨laws_toLeg_so, trivial⟩)) Tryz.func124 (by kernel_rfl) rfl (fun x y h => (laws_toLegS_eq x).trans h)

-- loop.example/g01204/laws.toMission
noncomputable def laws_toMission (a0 : (Int × ((Vec 3 Nat) × ((List (Vec 3 Nat)) × ((List (Int × ((Vec 3 Nat) × (Int × (Int × Unit))))) × Unit))))) : Option (((Int × ((Vec 3 Nat) × ((List (Vec 3 Nat)) × ((List (Int × ((Vec 3 Nat) × (Int × (Int × Unit))))) × Unit)))) × Unit) × Unit) :=
  (laws_toVec a0.2.1).bind fun y2836 =>
  (laws_toVecS a0.2.2.1).bind fun y2837 =>
  (laws_toLegS a0.2.2.2.1).bind fun y2838 =>
  some ((((a0.1, y2836.1.1, y2837.1.1, y2838.1.1, ()) : (Int × ((Vec 3 Nat) × ((List (Vec 3 Nat)) × ((List (Int × ((Vec 3 Nat) × (Int × (Int × Unit))))) × Unit))))), ()), ())
noncomputable def laws_toMission_sg : Sig := ⟨[.v (.pair (.int .i64) (.pair (.arr 3 (.flt .f32)) (.pair (.list (.arr 3 (.flt .f32))) (.pair (.list (.pair (.int .i64) (.pair (.arr 3 (.flt .f32)) (.pair (.int .i64) (.pair (.int .i64) (.unit)))))) (.unit)))))], [.v (.pair (.val (.int .i64)) (.pair (.val (.arr 3 (.flt .f32))) (.pair (.rows (.arr 3 (.flt .f32))) (.pair (.rows (.pair (.int .i64) (.pair (.arr 3 (.flt .f32)) (.pair (.int .i64) (.pair (.int .i64) (.unit)))))) (.val (.unit))))))], false⟩
noncomputable def laws_toMission_en : Entry := ⟨laws_toMission_sg, fun x => laws_toMission x.1⟩
theorem laws_toMission_eq (x : laws_toMission_sg.dom) : body (env [(94, laws_toVec_en), (95, laws_toVecS_en), (124, laws_toLegS_en)]) [] Tryz.f47 laws_toMission_sg x = laws_toMission x.1 := by kernel_rfl
theorem laws_toMission_so : Sound Tryz.prog 47 laws_toMission_en := sound_of_body (envS (l := [(94, laws_toVec_en), (95, laws_toVecS_en), (124, laws_toLegS_en)]) (⟨laws_toVec_so, laws_toVecS_so, laws_toLegS_so, trivial⟩)) Tryz.func47 (by kernel_rfl) rfl (fun x y h => (laws_toMission_eq x).trans h)

-- loop.example/g01204/spec.l08Ok
noncomputable def spec_l08Ok_l5 (a0 : (Int × ((Vec 3 Nat) × ((List (Vec 3 Nat)) × ((List (Int × ((Vec 3 Nat) × (Int × (Int × Unit))))) × Unit))))) (s2870 : (Int × Int × Unit)) : Option ((Int × Int × Unit) ⊕ ((Bool × Unit) × Unit)) :=
  bif (iLt s2870.2.1 (lenI a0.2.2.2.1)) then
    bif inB s2870.2.1 (List.length a0.2.2.2.1) then
      (spec_l00In ((List.getD a0.2.2.2.1 s2870.2.1.toNat ((0, (0, 0, 0, ()), 0, 0, ()) : (Int × ((Vec 3 Nat) × (Int × (Int × Unit)))))).1) (1 : Int) (400 : Int)).bind fun y2873 =>
      bif (! y2873.1.1) then
        Option.map Sum.inr (some ((false, ()), ()))
      else
      (spec_l01Vec (((List.getD a0.2.2.2.1 s2870.2.1.toNat ((0, (0, 0, 0, ()), 0, 0, ()) : (Int × ((Vec 3 Nat) × (Int × (Int × Unit)))))).2).1)).bind fun y2876 =>
      bif (! y2876.1.1) then
        Option.map Sum.inr (some ((false, ()), ()))
      else
      (spec_l00In ((((List.getD a0.2.2.2.1 s2870.2.1.toNat ((0, (0, 0, 0, ()), 0, 0, ()) : (Int × ((Vec 3 Nat) × (Int × (Int × Unit)))))).2).2).1) (0 : Int) (400 : Int)).bind fun y2879 =>
      bif (! y2879.1.1) then
        Option.map Sum.inr (some ((false, ()), ()))
      else
      (spec_l00In (((((List.getD a0.2.2.2.1 s2870.2.1.toNat ((0, (0, 0, 0, ()), 0, 0, ()) : (Int × ((Vec 3 Nat) × (Int × (Int × Unit)))))).2).2).2).1) ((-1 : Int) : Int) (iSub .i64 (lenI a0.2.2.1) 1)).bind fun y2883 =>
      bif (! y2883.1.1) then
        Option.map Sum.inr (some ((false, ()), ()))
      else
      some (Sum.inl ((iAdd .i64 s2870.1 ((List.getD a0.2.2.2.1 s2870.2.1.toNat ((0, (0, 0, 0, ()), 0, 0, ()) : (Int × ((Vec 3 Nat) × (Int × (Int × Unit)))))).1)), (iAdd .i64 s2870.2.1 1), ()))
    else none
  else
  Option.map Sum.inr (some (((iLe s2870.1 400), ()), ()))
noncomputable def spec_l08Ok (a0 : (Int × ((Vec 3 Nat) × ((List (Vec 3 Nat)) × ((List (Int × ((Vec 3 Nat) × (Int × (Int × Unit))))) × Unit))))) : Option ((Bool × Unit) × Unit) :=
  (spec_l08Frame a0.1 a0.2.1 a0.2.2.1).bind fun y2867 =>
  bif (! y2867.1.1) then some ((false, ()), ()) else
  bif (iLt 64 (lenI a0.2.2.2.1)) then some ((false, ()), ()) else run (spec_l08Ok_l5 a0) ((0 : Int), (0 : Int), ())
noncomputable def spec_l08Ok_sg : Sig := ⟨[.ro (.pair (.int .i64) (.pair (.arr 3 (.flt .f32)) (.pair (.list (.arr 3 (.flt .f32))) (.pair (.list (.pair (.int .i64) (.pair (.arr 3 (.flt .f32)) (.pair (.int .i64) (.pair (.int .i64) (.unit)))))) (.unit)))))], [.v (.val (.bool))], false⟩
noncomputable def spec_l08Ok_en : Entry := ⟨spec_l08Ok_sg, fun x => spec_l08Ok x.1⟩
theorem spec_l08Ok_eq (x : spec_l08Ok_sg.dom) : body (env [(113, spec_l00In_en), (149, spec_l01Vec_en), (158, spec_l08Frame_en)]) [(5, .vary [(3, .sc (.int .i64)), (4, .sc (.int .i64))])] Tryz.f118 spec_l08Ok_sg x = spec_l08Ok x.1 := by kernel_rfl
theorem spec_l08Ok_so : Sound Tryz.prog 118 spec_l08Ok_en := sound_of_body (envS (l := [(113, spec_l00In_en), (149, spec_l01Vec_en), (158, spec_l08Frame_en)]) (⟨spec_l00In_so, spec_l01Vec_so, spec_l08Frame_so, trivial⟩)) Tryz.func118 (by kernel_rfl) rfl (fun x y h => (spec_l08Ok_eq x).trans h)

-- loop.example/g01204/spec.l04Count
noncomputable def spec_l04Count (a0 : Nat) : Option ((Int × Unit) × Unit) :=
  (fConv .f32 .f64 a0).bind fun y2996 =>
  (math_RoundToEven y2996).bind fun y2997 =>
  bif (! (fEq .f64 y2997.1.1 y2997.1.1)) then some (((0 : Int), ()), ()) else
  bif (fLt .f64 4674736138332667904 y2997.1.1) then some (((32767 : Int), ()), ()) else
  bif (fLt .f64 y2997.1.1 13898108450065350656) then some ((((-32768 : Int) : Int), ()), ()) else
  (fToInt .f64 y2997.1.1 .i16).bind fun n3001 =>
  some ((n3001, ()), ())
noncomputable def spec_l04Count_sg : Sig := ⟨[.v (.flt .f32)], [.v (.val (.int .i16))], false⟩
noncomputable def spec_l04Count_en : Entry := ⟨spec_l04Count_sg, fun x => spec_l04Count x.1⟩
theorem spec_l04Count_eq (x : spec_l04Count_sg.dom) : body (env [(85, math_RoundToEven_en)]) [] Tryz.f255 spec_l04Count_sg x = spec_l04Count x.1 := by kernel_rfl
theorem spec_l04Count_so : Sound Tryz.prog 255 spec_l04Count_en := sound_of_body (envS (l := [(85, math_RoundToEven_en)]) (⟨math_RoundToEven_so, trivial⟩)) Tryz.func255 (by kernel_rfl) rfl (fun x y h => (spec_l04Count_eq x).trans h)

-- loop.example/g01204/spec.l04Counts
noncomputable def spec_l04Counts (a0 : ((Vec 3 Nat) × ((Vec 3 Nat) × (Int × (Int × Unit))))) (a1 : (Vec 3 Nat)) : Option (((Vec 3 Int) × Unit) × Unit) :=
  (spec_l04Count (fDiv .f32 (fSub .f32 (Vec.getD 3 a1 0 (0 : Nat)) (Vec.getD 3 a0.2.1 0 (0 : Nat))) (Vec.getD 3 a0.1 0 (0 : Nat)))).bind fun y2983 =>
  (spec_l04Count (fDiv .f32 (fSub .f32 (Vec.getD 3 a1 1 (0 : Nat)) (Vec.getD 3 a0.2.1 1 (0 : Nat))) (Vec.getD 3 a0.1 1 (0 : Nat)))).bind fun y2989 =>
  (spec_l04Count (fDiv .f32 (fSub .f32 (Vec.getD 3 a1 2 (0 : Nat)) (Vec.getD 3 a0.2.1 2 (0 : Nat))) (Vec.getD 3 a0.1 2 (0 : Nat)))).bind fun y2995 =>
  some ((((y2983.1.1, y2989.1.1, y2995.1.1, ()) : (Vec 3 Int)), ()), ())
noncomputable def spec_l04Counts_sg : Sig := ⟨[.ro (.pair (.arr 3 (.flt .f32)) (.pair (.arr 3 (.flt .f32)) (.pair (.int .i64) (.pair (.int .i64) (.unit))))), .v (.arr 3 (.flt .f32))], [.v (.val (.arr 3 (.int .i16)))], false⟩
noncomputable def spec_l04Counts_en : Entry := ⟨spec_l04Counts_sg, fun x => spec_l04Counts x.1 x.2.1⟩
theorem spec_l04Counts_eq (x : spec_l04Counts_sg.dom) : body (env [(255, spec_l04Count_en)]) [(3, .unroll 4)] Tryz.f240 spec_l04Counts_sg x = spec_l04Counts x.1 x.2.1 := by kernel_rfl
theorem spec_l04Counts_so : Sound Tryz.prog 240 spec_l04Counts_en := sound_of_body (envS (l := [(255, spec_l04Count_en)]) (⟨spec_l04Count_so, trivial⟩)) Tryz.func240 (by kernel_rfl) rfl (fun x y h => (spec_l04Counts_eq x).trans h)

-- loop.example/g01204/spec.l04Sensor
noncomputable def spec_l04Sensor (a0 : ((Vec 3 Nat) × ((Vec 3 Nat) × (Int × (Int × Unit))))) : Option ((Bool × Unit) × Unit) :=
  bif (fEq .f32 (Vec.getD 3 a0.1 0 (0 : Nat)) 0) then some ((false, ()), ()) else
  bif (fEq .f32 (Vec.getD 3 a0.1 1 (0 : Nat)) 0) then some ((false, ()), ()) else
  bif (fEq .f32 (Vec.getD 3 a0.1 2 (0 : Nat)) 0) then some ((false, ()), ()) else
  (spec_l01Vec a0.1).bind fun y3008 =>
  bif y3008.1.1 then
    (spec_l01Vec a0.2.1).bind fun y3009 =>
    bif y3009.1.1 then
      (spec_l00In a0.2.2.1 (1 : Int) (1000000 : Int)).bind fun y3010 =>
      bif y3010.1.1 then
        (spec_l00In a0.2.2.2.1 (0 : Int) (1000000 : Int)).bind fun y3011 =>
        some ((y3011.1.1, ()), ())
      else some ((false, ()), ())
    else some ((false, ()), ())
  else some ((false, ()), ())
noncomputable def spec_l04Sensor_sg : Sig := ⟨[.ro (.pair (.arr 3 (.flt .f32)) (.pair (.arr 3 (.flt .f32)) (.pair (.int .i64) (.pair (.int .i64) (.unit)))))], [.v (.val (.bool))], false⟩
noncomputable def spec_l04Sensor_en : Entry := ⟨spec_l04Sensor_sg, fun x => spec_l04Sensor x.1⟩
theorem spec_l04Sensor_eq (x : spec_l04Sensor_sg.dom) : body (env [(113, spec_l00In_en), (149, spec_l01Vec_en)]) [(2, .unroll 4)] Tryz.f239 spec_l04Sensor_sg x = spec_l04Sensor x.1 := by kernel_rfl
theorem spec_l04Sensor_so : Sound Tryz.prog 239 spec_l04Sensor_en := sound_of_body (envS (l := [(113, spec_l00In_en), (149, spec_l01Vec_en)]) (⟨spec_l00In_so, spec_l01Vec_so, trivial⟩)) Tryz.func239 (by kernel_rfl) rfl (fun x y h => (spec_l04Sensor_eq x).trans h)

-- loop.example/g01204/spec.CountsOf
noncomputable def spec_CountsOf (a0 : ((Vec 3 Nat) × ((Vec 3 Nat) × (Int × (Int × Unit))))) (a1 : (Vec 3 Nat)) : Option (((Vec 3 Int) × Int × Unit) × Unit) :=
  (spec_l04Sensor a0).bind fun y2975 =>
  bif (! y2975.1.1) then some ((((0, 0, 0, ()) : (Vec 3 Int)), (1 : Int), ()), ()) else
  (spec_l04Counts a0 a1).bind fun y2977 =>
  some ((y2977.1.1, (0 : Int), ()), ())
noncomputable def spec_CountsOf_sg : Sig := ⟨[.v (.pair (.arr 3 (.flt .f32)) (.pair (.arr 3 (.flt .f32)) (.pair (.int .i64) (.pair (.int .i64) (.unit))))), .v (.arr 3 (.flt .f32))], [.v (.val (.arr 3 (.int .i16))), .v (.val (.int .i64))], false⟩
noncomputable def spec_CountsOf_en : Entry := ⟨spec_CountsOf_sg, fun x => spec_CountsOf x.1 x.2.1⟩
theorem spec_CountsOf_eq (x : spec_CountsOf_sg.dom) : body (env [(239, spec_l04Sensor_en), (240, spec_l04Counts_en)]) [] Tryz.f183 spec_CountsOf_sg x = spec_CountsOf x.1 x.2.1 := by kernel_rfl
theorem spec_CountsOf_so : Sound Tryz.prog 183 spec_CountsOf_en := sound_of_body (envS (l := [(239, spec_l04Sensor_en), (240, spec_l04Counts_en)]) (⟨spec_l04Sensor_so, spec_l04Counts_so, trivial⟩)) Tryz.func183 (by kernel_rfl) rfl (fun x y h => (spec_CountsOf_eq x).trans h)

-- loop.example/g01204/spec.l00Max
noncomputable def spec_l00Max (a0 : Int) (a1 : Int) : Option ((Int × Unit) × Unit) :=
  bif (iLt a1 a0) then some ((a0, ()), ()) else some ((a1, ()), ())
noncomputable def spec_l00Max_sg : Sig := ⟨[.v (.int .i64), .v (.int .i64)], [.v (.val (.int .i64))], false⟩
noncomputable def spec_l00Max_en : Entry := ⟨spec_l00Max_sg, fun x => spec_l00Max x.1 x.2.1⟩
theorem spec_l00Max_eq (x : spec_l00Max_sg.dom) : body (env []) [] Tryz.f241 spec_l00Max_sg x = spec_l00Max x.1 x.2.1 := by kernel_rfl
theorem spec_l00Max_so : Sound Tryz.prog 241 spec_l00Max_en := sound_of_body (envS (l := []) (trivial)) Tryz.func241 (by kernel_rfl) rfl (fun x y h => (spec_l00Max_eq x).trans h)

-- loop.example/g01204/spec.l00Min
noncomputable def spec_l00Min (a0 : Int) (a1 : Int) : Option ((Int × Unit) × Unit) :=
  bif (iLt a0 a1) then some ((a0, ()), ()) else some ((a1, ()), ())
noncomputable def spec_l00Min_sg : Sig := ⟨[.v (.int .i64), .v (.int .i64)], [.v (.val (.int .i64))], false⟩
noncomputable def spec_l00Min_en : Entry := ⟨spec_l00Min_sg, fun x => spec_l00Min x.1 x.2.1⟩
theorem spec_l00Min_eq (x : spec_l00Min_sg.dom) : body (env []) [] Tryz.f242 spec_l00Min_sg x = spec_l00Min x.1 x.2.1 := by kernel_rfl
theorem spec_l00Min_so : Sound Tryz.prog 242 spec_l00Min_en := sound_of_body (envS (l := []) (trivial)) Tryz.func242 (by kernel_rfl) rfl (fun x y h => (spec_l00Min_eq x).trans h)

-- loop.example/g01204/spec.ShakeCounts
noncomputable def spec_ShakeCounts (a0 : (Vec 3 Int)) (a1 : Int) (a2 : Int) : Option (((Vec 3 Int) × Int × Int × Unit) × Unit) :=
  bif (iLt a2 0) then some ((((0, 0, 0, ()) : (Vec 3 Int)), (0 : Int), (2 : Int), ()), ()) else
  let x3014 := iAdd .u32 (iMul .u32 1664525 a1) 1013904223
  let x3019 := iAdd .i64 (iMul .i64 2 (iWrap .i64 a2)) 1
  bif iEq x3019 0 then none else
  (spec_l00Min (32767 : Int) (iAdd .i64 (iWrap .i64 (Vec.getD 3 a0 0 (0 : Int))) (iSub .i64 (iRem .i64 (iWrap .i64 (iQuo .u32 x3014 65536)) x3019) (iWrap .i64 a2)))).bind fun y3026 =>
  (spec_l00Max ((-32768 : Int) : Int) y3026.1.1).bind fun y3027 =>
  let x3030 := iAdd .u32 (iMul .u32 1664525 x3014) 1013904223
  let x3035 := iAdd .i64 (iMul .i64 2 (iWrap .i64 a2)) 1
  bif iEq x3035 0 then none else
  (spec_l00Min (32767 : Int) (iAdd .i64 (iWrap .i64 (Vec.getD 3 a0 1 (0 : Int))) (iSub .i64 (iRem .i64 (iWrap .i64 (iQuo .u32 x3030 65536)) x3035) (iWrap .i64 a2)))).bind fun y3042 =>
  (spec_l00Max ((-32768 : Int) : Int) y3042.1.1).bind fun y3043 =>
  let x3046 := iAdd .u32 (iMul .u32 1664525 x3030) 1013904223
  let x3051 := iAdd .i64 (iMul .i64 2 (iWrap .i64 a2)) 1
  bif iEq x3051 0 then none else
  (spec_l00Min (32767 : Int) (iAdd .i64 (iWrap .i64 (Vec.getD 3 a0 2 (0 : Int))) (iSub .i64 (iRem .i64 (iWrap .i64 (iQuo .u32 x3046 65536)) x3051) (iWrap .i64 a2)))).bind fun y3058 =>
  (spec_l00Max ((-32768 : Int) : Int) y3058.1.1).bind fun y3059 =>
  some (((((iWrap .i16 y3027.1.1), (iWrap .i16 y3043.1.1), (iWrap .i16 y3059.1.1), ()) : (Vec 3 Int)), x3046, (0 : Int), ()), ())
noncomputable def spec_ShakeCounts_sg : Sig := ⟨[.v (.arr 3 (.int .i16)), .v (.int .u32), .v (.int .i16)], [.v (.val (.arr 3 (.int .i16))), .v (.val (.int .u32)), .v (.val (.int .i64))], false⟩
noncomputable def spec_ShakeCounts_en : Entry := ⟨spec_ShakeCounts_sg, fun x => spec_ShakeCounts x.1 x.2.1 x.2.2.1⟩
theorem spec_ShakeCounts_eq (x : spec_ShakeCounts_sg.dom) : body (env [(241, spec_l00Max_en), (242, spec_l00Min_en)]) [(5, .unroll 4)] Tryz.f185 spec_ShakeCounts_sg x = spec_ShakeCounts x.1 x.2.1 x.2.2.1 := by kernel_rfl
theorem spec_ShakeCounts_so : Sound Tryz.prog 185 spec_ShakeCounts_en := sound_of_body (envS (l := [(241, spec_l00Max_en), (242, spec_l00Min_en)]) (⟨spec_l00Max_so, spec_l00Min_so, trivial⟩)) Tryz.func185 (by kernel_rfl) rfl (fun x y h => (spec_ShakeCounts_eq x).trans h)

end Go.Proofs.YtjahnpagogpffaaGreat
