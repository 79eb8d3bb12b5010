import Derived.Test.YtioniijhdkkieaaF1
/- Functions on typed data: what the evaluation of each Go function is, and that it is sound. -/
namespace Go.Proofs.Ytioniijhdkkieaa
open Go Go.Tm
set_option linter.unusedVariables false
set_option maxRecDepth 100000
-- loop.example/g01204/impl.ValidLog
noncomputable def impl_ValidLog (a0 : (Int × ((Vec 3 Nat) × ((List (Vec 3 Nat)) × ((List (Int × ((Vec 3 Nat) × ((Vec 3 Int) × (Int × (Nat × Unit)))))) × Unit))))) : Option ((Bool × Unit) × Unit) :=
  (impl_validFrame a0.1 a0.2.1 a0.2.2.1).bind fun y931 =>
  bif y931.1.1 then
    bif (iLe (lenI a0.2.2.2.1) 1200) then
      (slices_ContainsFunc_impl_Entry a0.2.2.2.1 (fun (z933 : ((Int × ((Vec 3 Nat) × ((Vec 3 Int) × (Int × (Nat × Unit))))) × Unit)) => (impl_ValidLog_1 z933.1 a0).map fun y => y.1.1)).bind fun y934 =>
      some (((! y934.1.1), ()), ())
    else some ((false, ()), ())
  else some ((false, ()), ())
noncomputable def impl_ValidLog_sg : Sig := ⟨[.v (.pair (.int .i64) (.pair (.arr 3 (.flt .f32)) (.pair (.list (.arr 3 (.flt .f32))) (.pair (.list (.pair (.int .i64) (.pair (.arr 3 (.flt .f32)) (.pair (.arr 3 (.int .i16)) (.pair (.int .i64) (.pair (.flt .f32) (.unit))))))) (.unit)))))], [.v (.val (.bool))], false⟩
noncomputable def impl_ValidLog_en : Entry := ⟨impl_ValidLog_sg, fun x => impl_ValidLog x.1⟩
theorem impl_ValidLog_eq (x : impl_ValidLog_sg.dom) : body (env [(143, impl_validFrame_en), (144, slices_ContainsFunc_impl_Entry_en), (145, impl_ValidLog_1_en)]) [] Try.f81 impl_ValidLog_sg x = impl_ValidLog x.1 := by kernel_rfl
theorem impl_ValidLog_so : Sound Try.prog 81 impl_ValidLog_en := sound_of_body (envS (l := [(143, impl_validFrame_en), (144, slices_ContainsFunc_impl_Entry_en), (145, impl_ValidLog_1_en)]) (⟨impl_validFrame_so, slices_ContainsFunc_impl_Entry_so, impl_ValidLog_1_so, trivial⟩)) Try.func81 (by kernel_rfl) rfl (fun x y h => (impl_ValidLog_eq x).trans h)

-- loop.example/g01204/impl.ValidState
noncomputable def impl_ValidState (a0 : ((Vec 6 Nat) × ((Vec 6 (Vec 6 Nat)) × Unit))) : Option ((Bool × Unit) × Unit) :=
  (impl_isFinite ([Vec.getD 6 a0.1 0 (0 : Nat), Vec.getD 6 a0.1 1 (0 : Nat), Vec.getD 6 a0.1 2 (0 : Nat), Vec.getD 6 a0.1 3 (0 : Nat), Vec.getD 6 a0.1 4 (0 : Nat), Vec.getD 6 a0.1 5 (0 : Nat)] : (List Nat))).bind fun y1028 =>
  bif (! y1028.1.1) then some ((false, ()), ()) else
  (impl_isFinite ([Vec.getD 6 (Vec.getD 6 a0.2.1 0 ((0, 0, 0, 0, 0, 0, ()) : (Vec 6 Nat))) 0 (0 : Nat), Vec.getD 6 (Vec.getD 6 a0.2.1 0 ((0, 0, 0, 0, 0, 0, ()) : (Vec 6 Nat))) 1 (0 : Nat), Vec.getD 6 (Vec.getD 6 a0.2.1 0 ((0, 0, 0, 0, 0, 0, ()) : (Vec 6 Nat))) 2 (0 : Nat), Vec.getD 6 (Vec.getD 6 a0.2.1 0 ((0, 0, 0, 0, 0, 0, ()) : (Vec 6 Nat))) 3 (0 : Nat), Vec.getD 6 (Vec.getD 6 a0.2.1 0 ((0, 0, 0, 0, 0, 0, ()) : (Vec 6 Nat))) 4 (0 : Nat), Vec.getD 6 (Vec.getD 6 a0.2.1 0 ((0, 0, 0, 0, 0, 0, ()) : (Vec 6 Nat))) 5 (0 : Nat)] : (List Nat))).bind fun y1030 =>
  bif (! y1030.1.1) then some ((false, ()), ()) else
  bif (fLt .f32 (Vec.getD 6 (Vec.getD 6 a0.2.1 0 ((0, 0, 0, 0, 0, 0, ()) : (Vec 6 Nat))) 0 (0 : Nat)) 0) then some ((false, ()), ()) else
  bif (! (fEq .f32 (Vec.getD 6 (Vec.getD 6 a0.2.1 0 ((0, 0, 0, 0, 0, 0, ()) : (Vec 6 Nat))) 1 (0 : Nat)) 0)) then some ((false, ()), ()) else
  bif (! (fEq .f32 (Vec.getD 6 (Vec.getD 6 a0.2.1 0 ((0, 0, 0, 0, 0, 0, ()) : (Vec 6 Nat))) 2 (0 : Nat)) 0)) then some ((false, ()), ()) else
  bif (! (fEq .f32 (Vec.getD 6 (Vec.getD 6 a0.2.1 0 ((0, 0, 0, 0, 0, 0, ()) : (Vec 6 Nat))) 3 (0 : Nat)) 0)) then some ((false, ()), ()) else
  bif (! (fEq .f32 (Vec.getD 6 (Vec.getD 6 a0.2.1 0 ((0, 0, 0, 0, 0, 0, ()) : (Vec 6 Nat))) 4 (0 : Nat)) 0)) then some ((false, ()), ()) else
  bif (! (fEq .f32 (Vec.getD 6 (Vec.getD 6 a0.2.1 0 ((0, 0, 0, 0, 0, 0, ()) : (Vec 6 Nat))) 5 (0 : Nat)) 0)) then some ((false, ()), ()) else
  (impl_isFinite ([Vec.getD 6 (Vec.getD 6 a0.2.1 1 ((0, 0, 0, 0, 0, 0, ()) : (Vec 6 Nat))) 0 (0 : Nat), Vec.getD 6 (Vec.getD 6 a0.2.1 1 ((0, 0, 0, 0, 0, 0, ()) : (Vec 6 Nat))) 1 (0 : Nat), Vec.getD 6 (Vec.getD 6 a0.2.1 1 ((0, 0, 0, 0, 0, 0, ()) : (Vec 6 Nat))) 2 (0 : Nat), Vec.getD 6 (Vec.getD 6 a0.2.1 1 ((0, 0, 0, 0, 0, 0, ()) : (Vec 6 Nat))) 3 (0 : Nat), Vec.getD 6 (Vec.getD 6 a0.2.1 1 ((0, 0, 0, 0, 0, 0, ()) : (Vec 6 Nat))) 4 (0 : Nat), Vec.getD 6 (Vec.getD 6 a0.2.1 1 ((0, 0, 0, 0, 0, 0, ()) : (Vec 6 Nat))) 5 (0 : Nat)] : (List Nat))).bind fun y1044 =>
  bif (! y1044.1.1) then some ((false, ()), ()) else
  bif (fLt .f32 (Vec.getD 6 (Vec.getD 6 a0.2.1 1 ((0, 0, 0, 0, 0, 0, ()) : (Vec 6 Nat))) 1 (0 : Nat)) 0) then some ((false, ()), ()) else
  bif (! (fEq .f32 (Vec.getD 6 (Vec.getD 6 a0.2.1 1 ((0, 0, 0, 0, 0, 0, ()) : (Vec 6 Nat))) 2 (0 : Nat)) 0)) then some ((false, ()), ()) else
  bif (! (fEq .f32 (Vec.getD 6 (Vec.getD 6 a0.2.1 1 ((0, 0, 0, 0, 0, 0, ()) : (Vec 6 Nat))) 3 (0 : Nat)) 0)) then some ((false, ()), ()) else
  bif (! (fEq .f32 (Vec.getD 6 (Vec.getD 6 a0.2.1 1 ((0, 0, 0, 0, 0, 0, ()) : (Vec 6 Nat))) 4 (0 : Nat)) 0)) then some ((false, ()), ()) else
  bif (! (fEq .f32 (Vec.getD 6 (Vec.getD 6 a0.2.1 1 ((0, 0, 0, 0, 0, 0, ()) : (Vec 6 Nat))) 5 (0 : Nat)) 0)) then some ((false, ()), ()) else
  (impl_isFinite ([Vec.getD 6 (Vec.getD 6 a0.2.1 2 ((0, 0, 0, 0, 0, 0, ()) : (Vec 6 Nat))) 0 (0 : Nat), Vec.getD 6 (Vec.getD 6 a0.2.1 2 ((0, 0, 0, 0, 0, 0, ()) : (Vec 6 Nat))) 1 (0 : Nat), Vec.getD 6 (Vec.getD 6 a0.2.1 2 ((0, 0, 0, 0, 0, 0, ()) : (Vec 6 Nat))) 2 (0 : Nat), Vec.getD 6 (Vec.getD 6 a0.2.1 2 ((0, 0, 0, 0, 0, 0, ()) : (Vec 6 Nat))) 3 (0 : Nat), Vec.getD 6 (Vec.getD 6 a0.2.1 2 ((0, 0, 0, 0, 0, 0, ()) : (Vec 6 Nat))) 4 (0 : Nat), Vec.getD 6 (Vec.getD 6 a0.2.1 2 ((0, 0, 0, 0, 0, 0, ()) : (Vec 6 Nat))) 5 (0 : Nat)] : (List Nat))).bind fun y1056 =>
  bif (! y1056.1.1) then some ((false, ()), ()) else
  bif (fLt .f32 (Vec.getD 6 (Vec.getD 6 a0.2.1 2 ((0, 0, 0, 0, 0, 0, ()) : (Vec 6 Nat))) 2 (0 : Nat)) 0) then some ((false, ()), ()) else
  bif (! (fEq .f32 (Vec.getD 6 (Vec.getD 6 a0.2.1 2 ((0, 0, 0, 0, 0, 0, ()) : (Vec 6 Nat))) 3 (0 : Nat)) 0)) then some ((false, ()), ()) else
  bif (! (fEq .f32 (Vec.getD 6 (Vec.getD 6 a0.2.1 2 ((0, 0, 0, 0, 0, 0, ()) : (Vec 6 Nat))) 4 (0 : Nat)) 0)) then some ((false, ()), ()) else
  bif (! (fEq .f32 (Vec.getD 6 (Vec.getD 6 a0.2.1 2 ((0, 0, 0, 0, 0, 0, ()) : (Vec 6 Nat))) 5 (0 : Nat)) 0)) then some ((false, ()), ()) else
  (impl_isFinite ([Vec.getD 6 (Vec.getD 6 a0.2.1 3 ((0, 0, 0, 0, 0, 0, ()) : (Vec 6 Nat))) 0 (0 : Nat), Vec.getD 6 (Vec.getD 6 a0.2.1 3 ((0, 0, 0, 0, 0, 0, ()) : (Vec 6 Nat))) 1 (0 : Nat), Vec.getD 6 (Vec.getD 6 a0.2.1 3 ((0, 0, 0, 0, 0, 0, ()) : (Vec 6 Nat))) 2 (0 : Nat), Vec.getD 6 (Vec.getD 6 a0.2.1 3 ((0, 0, 0, 0, 0, 0, ()) : (Vec 6 Nat))) 3 (0 : Nat), Vec.getD 6 (Vec.getD 6 a0.2.1 3 ((0, 0, 0, 0, 0, 0, ()) : (Vec 6 Nat))) 4 (0 : Nat), Vec.getD 6 (Vec.getD 6 a0.2.1 3 ((0, 0, 0, 0, 0, 0, ()) : (Vec 6 Nat))) 5 (0 : Nat)] : (List Nat))).bind fun y1066 =>
  bif (! y1066.1.1) then some ((false, ()), ()) else
  bif (fLt .f32 (Vec.getD 6 (Vec.getD 6 a0.2.1 3 ((0, 0, 0, 0, 0, 0, ()) : (Vec 6 Nat))) 3 (0 : Nat)) 0) then some ((false, ()), ()) else
  bif (! (fEq .f32 (Vec.getD 6 (Vec.getD 6 a0.2.1 3 ((0, 0, 0, 0, 0, 0, ()) : (Vec 6 Nat))) 4 (0 : Nat)) 0)) then some ((false, ()), ()) else
  bif (! (fEq .f32 (Vec.getD 6 (Vec.getD 6 a0.2.1 3 ((0, 0, 0, 0, 0, 0, ()) : (Vec 6 Nat))) 5 (0 : Nat)) 0)) then some ((false, ()), ()) else
  (impl_isFinite ([Vec.getD 6 (Vec.getD 6 a0.2.1 4 ((0, 0, 0, 0, 0, 0, ()) : (Vec 6 Nat))) 0 (0 : Nat), Vec.getD 6 (Vec.getD 6 a0.2.1 4 ((0, 0, 0, 0, 0, 0, ()) : (Vec 6 Nat))) 1 (0 : Nat), Vec.getD 6 (Vec.getD 6 a0.2.1 4 ((0, 0, 0, 0, 0, 0, ()) : (Vec 6 Nat))) 2 (0 : Nat), Vec.getD 6 (Vec.getD 6 a0.2.1 4 ((0, 0, 0, 0, 0, 0, ()) : (Vec 6 Nat))) 3 (0 : Nat), Vec.getD 6 (Vec.getD 6 a0.2.1 4 ((0, 0, 0, 0, 0, 0, ()) : (Vec 6 Nat))) 4 (0 : Nat), Vec.getD 6 (Vec.getD 6 a0.2.1 4 ((0, 0, 0, 0, 0, 0, ()) : (Vec 6 Nat))) 5 (0 : Nat)] : (List Nat))).bind fun y1074 =>
  bif (! y1074.1.1) then some ((false, ()), ()) else
  bif (fLt .f32 (Vec.getD 6 (Vec.getD 6 a0.2.1 4 ((0, 0, 0, 0, 0, 0, ()) : (Vec 6 Nat))) 4 (0 : Nat)) 0) then some ((false, ()), ()) else
  bif (! (fEq .f32 (Vec.getD 6 (Vec.getD 6 a0.2.1 4 ((0, 0, 0, 0, 0, 0, ()) : (Vec 6 Nat))) 5 (0 : Nat)) 0)) then some ((false, ()), ()) else
  (impl_isFinite ([Vec.getD 6 (Vec.getD 6 a0.2.1 5 ((0, 0, 0, 0, 0, 0, ()) : (Vec 6 Nat))) 0 (0 : Nat), Vec.getD 6 (Vec.getD 6 a0.2.1 5 ((0, 0, 0, 0, 0, 0, ()) : (Vec 6 Nat))) 1 (0 : Nat), Vec.getD 6 (Vec.getD 6 a0.2.1 5 ((0, 0, 0, 0, 0, 0, ()) : (Vec 6 Nat))) 2 (0 : Nat), Vec.getD 6 (Vec.getD 6 a0.2.1 5 ((0, 0, 0, 0, 0, 0, ()) : (Vec 6 Nat))) 3 (0 : Nat), Vec.getD 6 (Vec.getD 6 a0.2.1 5 ((0, 0, 0, 0, 0, 0, ()) : (Vec 6 Nat))) 4 (0 : Nat), Vec.getD 6 (Vec.getD 6 a0.2.1 5 ((0, 0, 0, 0, 0, 0, ()) : (Vec 6 Nat))) 5 (0 : Nat)] : (List Nat))).bind fun y1080 =>
  bif (! y1080.1.1) then some ((false, ()), ()) else
  bif (fLt .f32 (Vec.getD 6 (Vec.getD 6 a0.2.1 5 ((0, 0, 0, 0, 0, 0, ()) : (Vec 6 Nat))) 5 (0 : Nat)) 0) then some ((false, ()), ()) else some ((true, ()), ())
noncomputable def impl_ValidState_sg : Sig := ⟨[.v (.pair (.arr 6 (.flt .f32)) (.pair (.arr 6 (.arr 6 (.flt .f32))) (.unit)))], [.v (.val (.bool))], false⟩
noncomputable def impl_ValidState_en : Entry := ⟨impl_ValidState_sg, fun x => impl_ValidState x.1⟩
theorem impl_ValidState_eq (x : impl_ValidState_sg.dom) : body (env [(111, impl_isFinite_en)]) [(4, .unroll 7), (9, .unroll 6)] Try.f195 impl_ValidState_sg x = impl_ValidState x.1 := by kernel_rfl
theorem impl_ValidState_so : Sound Try.prog 195 impl_ValidState_en := sound_of_body (envS (l := [(111, impl_isFinite_en)]) (⟨impl_isFinite_so, trivial⟩)) Try.func195 (by kernel_rfl) rfl (fun x y h => (impl_ValidState_eq x).trans h)

-- loop.example/g01204/impl.StateOf
noncomputable def impl_StateOf (a0 : (Vec 6 Nat)) (a1 : (Vec 6 Nat)) : Option ((((Vec 6 Nat) × ((Vec 6 (Vec 6 Nat)) × Unit)) × Int × Unit) × Unit) :=
  let x1020 := Vec.getD 6 a1 0 (0 : Nat)
  let x1021 := Vec.getD 6 a1 1 (0 : Nat)
  let x1022 := Vec.getD 6 a1 2 (0 : Nat)
  let x1023 := Vec.getD 6 a1 3 (0 : Nat)
  let x1024 := Vec.getD 6 a1 4 (0 : Nat)
  let x1025 := Vec.getD 6 a1 5 (0 : Nat)
  (impl_ValidState ((a0, ((x1020, 0, 0, 0, 0, 0, ()), (0, x1021, 0, 0, 0, 0, ()), (0, 0, x1022, 0, 0, 0, ()), (0, 0, 0, x1023, 0, 0, ()), (0, 0, 0, 0, x1024, 0, ()), (0, 0, 0, 0, 0, x1025, ()), ()), ()) : ((Vec 6 Nat) × ((Vec 6 (Vec 6 Nat)) × Unit)))).bind fun y1026 =>
  bif (! y1026.1.1) then
    some (((((0, 0, 0, 0, 0, 0, ()), ((0, 0, 0, 0, 0, 0, ()), (0, 0, 0, 0, 0, 0, ()), (0, 0, 0, 0, 0, 0, ()), (0, 0, 0, 0, 0, 0, ()), (0, 0, 0, 0, 0, 0, ()), (0, 0, 0, 0, 0, 0, ()), ()), ()) : ((Vec 6 Nat) × ((Vec 6 (Vec 6 Nat)) × Unit))), (1 : Int), ()), ())
  else
  some ((((a0, ((x1020, 0, 0, 0, 0, 0, ()), (0, x1021, 0, 0, 0, 0, ()), (0, 0, x1022, 0, 0, 0, ()), (0, 0, 0, x1023, 0, 0, ()), (0, 0, 0, 0, x1024, 0, ()), (0, 0, 0, 0, 0, x1025, ()), ()), ()) : ((Vec 6 Nat) × ((Vec 6 (Vec 6 Nat)) × Unit))), (0 : Int), ()), ())
noncomputable def impl_StateOf_sg : Sig := ⟨[.v (.arr 6 (.flt .f32)), .v (.arr 6 (.flt .f32))], [.v (.val (.pair (.arr 6 (.flt .f32)) (.pair (.arr 6 (.arr 6 (.flt .f32))) (.unit)))), .v (.val (.int .i64))], false⟩
noncomputable def impl_StateOf_en : Entry := ⟨impl_StateOf_sg, fun x => impl_StateOf x.1 x.2.1⟩
theorem impl_StateOf_eq (x : impl_StateOf_sg.dom) : body (env [(195, impl_ValidState_en)]) [(3, .unroll 7)] Try.f147 impl_StateOf_sg x = impl_StateOf x.1 x.2.1 := by kernel_rfl
theorem impl_StateOf_so : Sound Try.prog 147 impl_StateOf_en := sound_of_body (envS (l := [(195, impl_ValidState_en)]) (⟨impl_ValidState_so, trivial⟩)) Try.func147 (by kernel_rfl) rfl (fun x y h => (impl_StateOf_eq x).trans h)

-- loop.example/g01204/impl.firstState
noncomputable def impl_firstState (a0 : (Int × ((Vec 3 Nat) × ((List (Vec 3 Nat)) × ((List (Int × ((Vec 3 Nat) × ((Vec 3 Int) × (Int × (Nat × Unit)))))) × Unit))))) : Option ((((Vec 6 Nat) × ((Vec 6 (Vec 6 Nat)) × Unit)) × Unit) × Unit) :=
  (impl_StateOf (((Vec.getD 3 a0.2.1 0 (0 : Nat)), (Vec.getD 3 a0.2.1 1 (0 : Nat)), (Vec.getD 3 a0.2.1 2 (0 : Nat)), 0, 0, 0, ()) : (Vec 6 Nat)) ((1056964608, 1056964608, 1056964608, 1065353216, 1065353216, 1065353216, ()) : (Vec 6 Nat))).bind fun y1019 =>
  some ((y1019.1.1, ()), ())
noncomputable def impl_firstState_sg : Sig := ⟨[.v (.pair (.int .i64) (.pair (.arr 3 (.flt .f32)) (.pair (.list (.arr 3 (.flt .f32))) (.pair (.list (.pair (.int .i64) (.pair (.arr 3 (.flt .f32)) (.pair (.arr 3 (.int .i16)) (.pair (.int .i64) (.pair (.flt .f32) (.unit))))))) (.unit)))))], [.v (.val (.pair (.arr 6 (.flt .f32)) (.pair (.arr 6 (.arr 6 (.flt .f32))) (.unit))))], false⟩
noncomputable def impl_firstState_en : Entry := ⟨impl_firstState_sg, fun x => impl_firstState x.1⟩
theorem impl_firstState_eq (x : impl_firstState_sg.dom) : body (env [(147, impl_StateOf_en)]) [] Try.f82 impl_firstState_sg x = impl_firstState x.1 := by kernel_rfl
theorem impl_firstState_so : Sound Try.prog 82 impl_firstState_en := sound_of_body (envS (l := [(147, impl_StateOf_en)]) (⟨impl_StateOf_so, trivial⟩)) Try.func82 (by kernel_rfl) rfl (fun x y h => (impl_firstState_eq x).trans h)

-- loop.example/g01204/impl.FirstState
noncomputable def impl_FirstState (a0 : (Int × ((Vec 3 Nat) × ((List (Vec 3 Nat)) × ((List (Int × ((Vec 3 Nat) × ((Vec 3 Int) × (Int × (Nat × Unit)))))) × Unit))))) : Option ((((Vec 6 Nat) × ((Vec 6 (Vec 6 Nat)) × Unit)) × Int × Unit) × Unit) :=
  (impl_ValidLog a0).bind fun y928 =>
  bif (! y928.1.1) then
    some (((((0, 0, 0, 0, 0, 0, ()), ((0, 0, 0, 0, 0, 0, ()), (0, 0, 0, 0, 0, 0, ()), (0, 0, 0, 0, 0, 0, ()), (0, 0, 0, 0, 0, 0, ()), (0, 0, 0, 0, 0, 0, ()), (0, 0, 0, 0, 0, 0, ()), ()), ()) : ((Vec 6 Nat) × ((Vec 6 (Vec 6 Nat)) × Unit))), (1 : Int), ()), ())
  else
  (impl_firstState a0).bind fun y930 =>
  some ((y930.1.1, (0 : Int), ()), ())
noncomputable def impl_FirstState_sg : Sig := ⟨[.v (.pair (.int .i64) (.pair (.arr 3 (.flt .f32)) (.pair (.list (.arr 3 (.flt .f32))) (.pair (.list (.pair (.int .i64) (.pair (.arr 3 (.flt .f32)) (.pair (.arr 3 (.int .i16)) (.pair (.int .i64) (.pair (.flt .f32) (.unit))))))) (.unit)))))], [.v (.val (.pair (.arr 6 (.flt .f32)) (.pair (.arr 6 (.arr 6 (.flt .f32))) (.unit)))), .v (.val (.int .i64))], false⟩
noncomputable def impl_FirstState_en : Entry := ⟨impl_FirstState_sg, fun x => impl_FirstState x.1⟩
theorem impl_FirstState_eq (x : impl_FirstState_sg.dom) : body (env [(81, impl_ValidLog_en), (82, impl_firstState_en)]) [] Try.f31 impl_FirstState_sg x = impl_FirstState x.1 := by kernel_rfl
theorem impl_FirstState_so : Sound Try.prog 31 impl_FirstState_en := sound_of_body (envS (l := [(81, impl_ValidLog_en), (82, impl_firstState_en)]) (⟨impl_ValidLog_so, impl_firstState_so, trivial⟩)) Try.func31 (by kernel_rfl) rfl (fun x y h => (impl_FirstState_eq x).trans h)

-- loop.example/g01204/laws.eqCounts
noncomputable def laws_eqCounts (a0 : (Vec 3 Int)) (a1 : (Vec 3 Int)) : Option ((Bool × Unit) × Unit) :=
  bif (! (iEq (Vec.getD 3 a0 0 (0 : Int)) (Vec.getD 3 a1 0 (0 : Int)))) then some ((false, ()), ()) else
  bif (! (iEq (Vec.getD 3 a0 1 (0 : Int)) (Vec.getD 3 a1 1 (0 : Int)))) then some ((false, ()), ()) else
  bif (! (iEq (Vec.getD 3 a0 2 (0 : Int)) (Vec.getD 3 a1 2 (0 : Int)))) then some ((false, ()), ()) else some ((true, ()), ())
noncomputable def laws_eqCounts_sg : Sig := ⟨[.v (.arr 3 (.int .i16)), .v (.arr 3 (.int .i16))], [.v (.val (.bool))], false⟩
noncomputable def laws_eqCounts_en : Entry := ⟨laws_eqCounts_sg, fun x => laws_eqCounts x.1 x.2.1⟩
theorem laws_eqCounts_eq (x : laws_eqCounts_sg.dom) : body (env []) [(2, .unroll 4)] Try.f196 laws_eqCounts_sg x = laws_eqCounts x.1 x.2.1 := by kernel_rfl
theorem laws_eqCounts_so : Sound Try.prog 196 laws_eqCounts_en := sound_of_body (envS (l := []) (trivial)) Try.func196 (by kernel_rfl) rfl (fun x y h => (laws_eqCounts_eq x).trans h)

-- loop.example/g01204/laws.sameFloat
noncomputable def laws_sameFloat (a0 : Nat) (a1 : Nat) : Option ((Bool × Unit) × Unit) :=
  bif (! (fEq .f64 a0 a0)) then
    bif (! (fEq .f64 a0 a0)) then
      some (((! (fEq .f64 a1 a1)), ()), ())
    else some ((false, ()), ())
  else
  bif (! (fEq .f64 a1 a1)) then
    bif (! (fEq .f64 a0 a0)) then
      some (((! (fEq .f64 a1 a1)), ()), ())
    else some ((false, ()), ())
  else
  bif (fEq .f64 a0 0) then
    bif (fEq .f64 a1 0) then
      some (((bEq (fLt .f64 0 (fDiv .f64 4607182418800017408 a0)) (fLt .f64 0 (fDiv .f64 4607182418800017408 a1))), ()), ())
    else
    some (((fEq .f64 a0 a1), ()), ())
  else
  some (((fEq .f64 a0 a1), ()), ())
noncomputable def laws_sameFloat_sg : Sig := ⟨[.v (.flt .f64), .v (.flt .f64)], [.v (.val (.bool))], false⟩
noncomputable def laws_sameFloat_en : Entry := ⟨laws_sameFloat_sg, fun x => laws_sameFloat x.1 x.2.1⟩
theorem laws_sameFloat_eq (x : laws_sameFloat_sg.dom) : body (env []) [] Try.f113 laws_sameFloat_sg x = laws_sameFloat x.1 x.2.1 := by kernel_rfl
theorem laws_sameFloat_so : Sound Try.prog 113 laws_sameFloat_en := sound_of_body (envS (l := []) (trivial)) Try.func113 (by kernel_rfl) rfl (fun x y h => (laws_sameFloat_eq x).trans h)

-- loop.example/g01204/laws.eqVec
noncomputable def laws_eqVec (a0 : (Vec 3 Nat)) (a1 : (Vec 3 Nat)) : Option ((Bool × Unit) × Unit) :=
  (fConv .f32 .f64 (Vec.getD 3 a0 0 (0 : Nat))).bind fun y1119 =>
  (fConv .f32 .f64 (Vec.getD 3 a1 0 (0 : Nat))).bind fun y1121 =>
  (laws_sameFloat y1119 y1121).bind fun y1122 =>
  bif (! y1122.1.1) then some ((false, ()), ()) else
  (fConv .f32 .f64 (Vec.getD 3 a0 1 (0 : Nat))).bind fun y1125 =>
  (fConv .f32 .f64 (Vec.getD 3 a1 1 (0 : Nat))).bind fun y1127 =>
  (laws_sameFloat y1125 y1127).bind fun y1128 =>
  bif (! y1128.1.1) then some ((false, ()), ()) else
  (fConv .f32 .f64 (Vec.getD 3 a0 2 (0 : Nat))).bind fun y1131 =>
  (fConv .f32 .f64 (Vec.getD 3 a1 2 (0 : Nat))).bind fun y1133 =>
  (laws_sameFloat y1131 y1133).bind fun y1134 =>
  bif (! y1134.1.1) then some ((false, ()), ()) else some ((true, ()), ())
noncomputable def laws_eqVec_sg : Sig := ⟨[.v (.arr 3 (.flt .f32)), .v (.arr 3 (.flt .f32))], [.v (.val (.bool))], false⟩
noncomputable def laws_eqVec_en : Entry := ⟨laws_eqVec_sg, fun x => laws_eqVec x.1 x.2.1⟩
theorem laws_eqVec_eq (x : laws_eqVec_sg.dom) : body (env [(113, laws_sameFloat_en)]) [(2, .unroll 4)] Try.f85 laws_eqVec_sg x = laws_eqVec x.1 x.2.1 := by kernel_rfl
theorem laws_eqVec_so : Sound Try.prog 85 laws_eqVec_en := sound_of_body (envS (l := [(113, laws_sameFloat_en)]) (⟨laws_sameFloat_so, trivial⟩)) Try.func85 (by kernel_rfl) rfl (fun x y h => (laws_eqVec_eq x).trans h)

-- loop.example/g01204/laws.eqEntry
noncomputable def laws_eqEntry (a0 : (Int × ((Vec 3 Nat) × ((Vec 3 Int) × (Int × (Nat × Unit)))))) (a1 : (Int × ((Vec 3 Nat) × ((Vec 3 Int) × (Int × (Nat × Unit)))))) : Option ((Bool × Unit) × Unit) :=
  bif (! (iEq a0.1 a1.1)) then some ((false, ()), ()) else
  (laws_eqVec a0.2.1 a1.2.1).bind fun y1100 =>
  bif (! y1100.1.1) then some ((false, ()), ()) else
  (laws_eqCounts a0.2.2.1 a1.2.2.1).bind fun y1102 =>
  bif (! y1102.1.1) then some ((false, ()), ()) else
  bif (! (iEq a0.2.2.2.1 a1.2.2.2.1)) then some ((false, ()), ()) else
  (fConv .f32 .f64 a0.2.2.2.2.1).bind fun y1105 =>
  (fConv .f32 .f64 a1.2.2.2.2.1).bind fun y1106 =>
  (laws_sameFloat y1105 y1106).bind fun y1107 =>
  bif (! y1107.1.1) then some ((false, ()), ()) else some ((true, ()), ())
noncomputable def laws_eqEntry_sg : Sig := ⟨[.v (.pair (.int .i64) (.pair (.arr 3 (.flt .f32)) (.pair (.arr 3 (.int .i16)) (.pair (.int .i64) (.pair (.flt .f32) (.unit)))))), .v (.pair (.int .i64) (.pair (.arr 3 (.flt .f32)) (.pair (.arr 3 (.int .i16)) (.pair (.int .i64) (.pair (.flt .f32) (.unit))))))], [.v (.val (.bool))], false⟩
noncomputable def laws_eqEntry_en : Entry := ⟨laws_eqEntry_sg, fun x => laws_eqEntry x.1 x.2.1⟩
theorem laws_eqEntry_eq (x : laws_eqEntry_sg.dom) : body (env [(85, laws_eqVec_en), (113, laws_sameFloat_en), (196, laws_eqCounts_en)]) [] Try.f149 laws_eqEntry_sg x = laws_eqEntry x.1 x.2.1 := by kernel_rfl
theorem laws_eqEntry_so : Sound Try.prog 149 laws_eqEntry_en := sound_of_body (envS (l := [(85, laws_eqVec_en), (113, laws_sameFloat_en), (196, laws_eqCounts_en)]) (⟨laws_eqVec_so, laws_sameFloat_so, laws_eqCounts_so, trivial⟩)) Try.func149 (by kernel_rfl) rfl (fun x y h => (laws_eqEntry_eq x).trans h)

-- loop.example/g01204/laws.eqEntryS
noncomputable def laws_eqEntryS_l4 (a0 : (List (Int × ((Vec 3 Nat) × ((Vec 3 Int) × (Int × (Nat × Unit))))))) (a1 : (List (Int × ((Vec 3 Nat) × ((Vec 3 Int) × (Int × (Nat × Unit))))))) (s1092 : (Int × Unit)) : Option ((Int × Unit) ⊕ ((Bool × Unit) × Unit)) :=
  bif (iLt s1092.1 (lenI a0)) then
    bif inB s1092.1 (List.length a0) then
      bif inB s1092.1 (List.length a1) then
        (laws_eqEntry (List.getD a0 s1092.1.toNat ((0, (0, 0, 0, ()), (0, 0, 0, ()), 0, 0, ()) : (Int × ((Vec 3 Nat) × ((Vec 3 Int) × (Int × (Nat × Unit))))))) (List.getD a1 s1092.1.toNat ((0, (0, 0, 0, ()), (0, 0, 0, ()), 0, 0, ()) : (Int × ((Vec 3 Nat) × ((Vec 3 Int) × (Int × (Nat × Unit)))))))).bind fun y1096 =>
        bif (! y1096.1.1) then
          Option.map Sum.inr (some ((false, ()), ()))
        else
        some (Sum.inl ((iAdd .i64 s1092.1 1), ()))
      else none
    else none
  else
  Option.map Sum.inr (some ((true, ()), ()))
noncomputable def laws_eqEntryS (a0 : (List (Int × ((Vec 3 Nat) × ((Vec 3 Int) × (Int × (Nat × Unit))))))) (a1 : (List (Int × ((Vec 3 Nat) × ((Vec 3 Int) × (Int × (Nat × Unit))))))) : Option ((Bool × Unit) × Unit) :=
  bif (! (iEq (lenI a0) (lenI a1))) then some ((false, ()), ()) else run (laws_eqEntryS_l4 a0 a1) ((0 : Int), ())
noncomputable def laws_eqEntryS_sg : Sig := ⟨[.v (.list (.pair (.int .i64) (.pair (.arr 3 (.flt .f32)) (.pair (.arr 3 (.int .i16)) (.pair (.int .i64) (.pair (.flt .f32) (.unit))))))), .v (.list (.pair (.int .i64) (.pair (.arr 3 (.flt .f32)) (.pair (.arr 3 (.int .i16)) (.pair (.int .i64) (.pair (.flt .f32) (.unit)))))))], [.v (.val (.bool))], false⟩
noncomputable def laws_eqEntryS_en : Entry := ⟨laws_eqEntryS_sg, fun x => laws_eqEntryS x.1 x.2.1⟩
theorem laws_eqEntryS_eq (x : laws_eqEntryS_sg.dom) : body (env [(149, laws_eqEntry_en)]) [(4, .vary [(5, .sc (.int .i64))])] Try.f87 laws_eqEntryS_sg x = laws_eqEntryS x.1 x.2.1 := by kernel_rfl
theorem laws_eqEntryS_so : Sound Try.prog 87 laws_eqEntryS_en := sound_of_body (envS (l := [(149, laws_eqEntry_en)]) (⟨laws_eqEntry_so, trivial⟩)) Try.func87 (by kernel_rfl) rfl (fun x y h => (laws_eqEntryS_eq x).trans h)

-- loop.example/g01204/laws.eqVecS
noncomputable def laws_eqVecS_l4 (a0 : (List (Vec 3 Nat))) (a1 : (List (Vec 3 Nat))) (s1152 : (Int × Unit)) : Option ((Int × Unit) ⊕ ((Bool × Unit) × Unit)) :=
  bif (iLt s1152.1 (lenI a0)) then
    bif inB s1152.1 (List.length a0) then
      bif inB s1152.1 (List.length a1) then
        (laws_eqVec (List.getD a0 s1152.1.toNat ((0, 0, 0, ()) : (Vec 3 Nat))) (List.getD a1 s1152.1.toNat ((0, 0, 0, ()) : (Vec 3 Nat)))).bind fun y1156 =>
        bif (! y1156.1.1) then
          Option.map Sum.inr (some ((false, ()), ()))
        else
        some (Sum.inl ((iAdd .i64 s1152.1 1), ()))
      else none
    else none
  else
  Option.map Sum.inr (some ((true, ()), ()))
noncomputable def laws_eqVecS (a0 : (List (Vec 3 Nat))) (a1 : (List (Vec 3 Nat))) : Option ((Bool × Unit) × Unit) :=
  bif (! (iEq (lenI a0) (lenI a1))) then some ((false, ()), ()) else run (laws_eqVecS_l4 a0 a1) ((0 : Int), ())
noncomputable def laws_eqVecS_sg : Sig := ⟨[.v (.list (.arr 3 (.flt .f32))), .v (.list (.arr 3 (.flt .f32)))], [.v (.val (.bool))], false⟩
noncomputable def laws_eqVecS_en : Entry := ⟨laws_eqVecS_sg, fun x => laws_eqVecS x.1 x.2.1⟩
theorem laws_eqVecS_eq (x : laws_eqVecS_sg.dom) : body (env [(85, laws_eqVec_en)]) [(4, .vary [(5, .sc (.int .i64))])] Try.f86 laws_eqVecS_sg x = laws_eqVecS x.1 x.2.1 := by kernel_rfl
theorem laws_eqVecS_so : Sound Try.prog 86 laws_eqVecS_en := sound_of_body (envS (l := [(85, laws_eqVec_en)]) (⟨laws_eqVec_so, trivial⟩)) Try.func86 (by kernel_rfl) rfl (fun x y h => (laws_eqVecS_eq x).trans h)

-- loop.example/g01204/laws.eqLog
noncomputable def laws_eqLog (a0 : (Int × ((Vec 3 Nat) × ((List (Vec 3 Nat)) × ((List (Int × ((Vec 3 Nat) × ((Vec 3 Int) × (Int × (Nat × Unit)))))) × Unit))))) (a1 : (Int × ((Vec 3 Nat) × ((List (Vec 3 Nat)) × ((List (Int × ((Vec 3 Nat) × ((Vec 3 Int) × (Int × (Nat × Unit)))))) × Unit))))) : Option ((Bool × Unit) × Unit) :=
  bif (! (iEq a0.1 a1.1)) then some ((false, ()), ()) else
  (laws_eqVec a0.2.1 a1.2.1).bind fun y1085 =>
  bif (! y1085.1.1) then some ((false, ()), ()) else
  (laws_eqVecS a0.2.2.1 a1.2.2.1).bind fun y1087 =>
  bif (! y1087.1.1) then some ((false, ()), ()) else
  (laws_eqEntryS a0.2.2.2.1 a1.2.2.2.1).bind fun y1089 =>
  bif (! y1089.1.1) then some ((false, ()), ()) else some ((true, ()), ())
noncomputable def laws_eqLog_sg : Sig := ⟨[.v (.pair (.int .i64) (.pair (.arr 3 (.flt .f32)) (.pair (.list (.arr 3 (.flt .f32))) (.pair (.list (.pair (.int .i64) (.pair (.arr 3 (.flt .f32)) (.pair (.arr 3 (.int .i16)) (.pair (.int .i64) (.pair (.flt .f32) (.unit))))))) (.unit))))), .v (.pair (.int .i64) (.pair (.arr 3 (.flt .f32)) (.pair (.list (.arr 3 (.flt .f32))) (.pair (.list (.pair (.int .i64) (.pair (.arr 3 (.flt .f32)) (.pair (.arr 3 (.int .i16)) (.pair (.int .i64) (.pair (.flt .f32) (.unit))))))) (.unit)))))], [.v (.val (.bool))], false⟩
noncomputable def laws_eqLog_en : Entry := ⟨laws_eqLog_sg, fun x => laws_eqLog x.1 x.2.1⟩
theorem laws_eqLog_eq (x : laws_eqLog_sg.dom) : body (env [(85, laws_eqVec_en), (86, laws_eqVecS_en), (87, laws_eqEntryS_en)]) [] Try.f33 laws_eqLog_sg x = laws_eqLog x.1 x.2.1 := by kernel_rfl
theorem laws_eqLog_so : Sound Try.prog 33 laws_eqLog_en := sound_of_body (envS (l := [(85, laws_eqVec_en), (86, laws_eqVecS_en), (87, laws_eqEntryS_en)]) (⟨laws_eqVec_so, laws_eqVecS_so, laws_eqEntryS_so, trivial⟩)) Try.func33 (by kernel_rfl) rfl (fun x y h => (laws_eqLog_eq x).trans h)

-- loop.example/g01204/laws.eqFloat32A6
noncomputable def laws_eqFloat32A6 (a0 : (Vec 6 Nat)) (a1 : (Vec 6 Nat)) : Option ((Bool × Unit) × Unit) :=
  (fConv .f32 .f64 (Vec.getD 6 a0 0 (0 : Nat))).bind fun y1188 =>
  (fConv .f32 .f64 (Vec.getD 6 a1 0 (0 : Nat))).bind fun y1190 =>
  (laws_sameFloat y1188 y1190).bind fun y1191 =>
  bif (! y1191.1.1) then some ((false, ()), ()) else
  (fConv .f32 .f64 (Vec.getD 6 a0 1 (0 : Nat))).bind fun y1194 =>
  (fConv .f32 .f64 (Vec.getD 6 a1 1 (0 : Nat))).bind fun y1196 =>
  (laws_sameFloat y1194 y1196).bind fun y1197 =>
  bif (! y1197.1.1) then some ((false, ()), ()) else
  (fConv .f32 .f64 (Vec.getD 6 a0 2 (0 : Nat))).bind fun y1200 =>
  (fConv .f32 .f64 (Vec.getD 6 a1 2 (0 : Nat))).bind fun y1202 =>
  (laws_sameFloat y1200 y1202).bind fun y1203 =>
  bif (! y1203.1.1) then some ((false, ()), ()) else
  (fConv .f32 .f64 (Vec.getD 6 a0 3 (0 : Nat))).bind fun y1206 =>
  (fConv .f32 .f64 (Vec.getD 6 a1 3 (0 : Nat))).bind fun y1208 =>
  (laws_sameFloat y1206 y1208).bind fun y1209 =>
  bif (! y1209.1.1) then some ((false, ()), ()) else
  (fConv .f32 .f64 (Vec.getD 6 a0 4 (0 : Nat))).bind fun y1212 =>
  (fConv .f32 .f64 (Vec.getD 6 a1 4 (0 : Nat))).bind fun y1214 =>
  (laws_sameFloat y1212 y1214).bind fun y1215 =>
  bif (! y1215.1.1) then some ((false, ()), ()) else
  (fConv .f32 .f64 (Vec.getD 6 a0 5 (0 : Nat))).bind fun y1218 =>
  (fConv .f32 .f64 (Vec.getD 6 a1 5 (0 : Nat))).bind fun y1220 =>
  (laws_sameFloat y1218 y1220).bind fun y1221 =>
  bif (! y1221.1.1) then some ((false, ()), ()) else some ((true, ()), ())
noncomputable def laws_eqFloat32A6_sg : Sig := ⟨[.v (.arr 6 (.flt .f32)), .v (.arr 6 (.flt .f32))], [.v (.val (.bool))], false⟩
noncomputable def laws_eqFloat32A6_en : Entry := ⟨laws_eqFloat32A6_sg, fun x => laws_eqFloat32A6 x.1 x.2.1⟩
theorem laws_eqFloat32A6_eq (x : laws_eqFloat32A6_sg.dom) : body (env [(113, laws_sameFloat_en)]) [(2, .unroll 7)] Try.f148 laws_eqFloat32A6_sg x = laws_eqFloat32A6 x.1 x.2.1 := by kernel_rfl
theorem laws_eqFloat32A6_so : Sound Try.prog 148 laws_eqFloat32A6_en := sound_of_body (envS (l := [(113, laws_sameFloat_en)]) (⟨laws_sameFloat_so, trivial⟩)) Try.func148 (by kernel_rfl) rfl (fun x y h => (laws_eqFloat32A6_eq x).trans h)

-- loop.example/g01204/laws.eqRoot
noncomputable def laws_eqRoot (a0 : (Vec 6 (Vec 6 Nat))) (a1 : (Vec 6 (Vec 6 Nat))) : Option ((Bool × Unit) × Unit) :=
  (laws_eqFloat32A6 (Vec.getD 6 a0 0 ((0, 0, 0, 0, 0, 0, ()) : (Vec 6 Nat))) (Vec.getD 6 a1 0 ((0, 0, 0, 0, 0, 0, ()) : (Vec 6 Nat)))).bind fun y1165 =>
  bif (! y1165.1.1) then some ((false, ()), ()) else
  (laws_eqFloat32A6 (Vec.getD 6 a0 1 ((0, 0, 0, 0, 0, 0, ()) : (Vec 6 Nat))) (Vec.getD 6 a1 1 ((0, 0, 0, 0, 0, 0, ()) : (Vec 6 Nat)))).bind fun y1169 =>
  bif (! y1169.1.1) then some ((false, ()), ()) else
  (laws_eqFloat32A6 (Vec.getD 6 a0 2 ((0, 0, 0, 0, 0, 0, ()) : (Vec 6 Nat))) (Vec.getD 6 a1 2 ((0, 0, 0, 0, 0, 0, ()) : (Vec 6 Nat)))).bind fun y1173 =>
  bif (! y1173.1.1) then some ((false, ()), ()) else
  (laws_eqFloat32A6 (Vec.getD 6 a0 3 ((0, 0, 0, 0, 0, 0, ()) : (Vec 6 Nat))) (Vec.getD 6 a1 3 ((0, 0, 0, 0, 0, 0, ()) : (Vec 6 Nat)))).bind fun y1177 =>
  bif (! y1177.1.1) then some ((false, ()), ()) else
  (laws_eqFloat32A6 (Vec.getD 6 a0 4 ((0, 0, 0, 0, 0, 0, ()) : (Vec 6 Nat))) (Vec.getD 6 a1 4 ((0, 0, 0, 0, 0, 0, ()) : (Vec 6 Nat)))).bind fun y1181 =>
  bif (! y1181.1.1) then some ((false, ()), ()) else
  (laws_eqFloat32A6 (Vec.getD 6 a0 5 ((0, 0, 0, 0, 0, 0, ()) : (Vec 6 Nat))) (Vec.getD 6 a1 5 ((0, 0, 0, 0, 0, 0, ()) : (Vec 6 Nat)))).bind fun y1185 =>
  bif (! y1185.1.1) then some ((false, ()), ()) else some ((true, ()), ())
noncomputable def laws_eqRoot_sg : Sig := ⟨[.v (.arr 6 (.arr 6 (.flt .f32))), .v (.arr 6 (.arr 6 (.flt .f32)))], [.v (.val (.bool))], false⟩
noncomputable def laws_eqRoot_en : Entry := ⟨laws_eqRoot_sg, fun x => laws_eqRoot x.1 x.2.1⟩
theorem laws_eqRoot_eq (x : laws_eqRoot_sg.dom) : body (env [(148, laws_eqFloat32A6_en)]) [(2, .unroll 7)] Try.f84 laws_eqRoot_sg x = laws_eqRoot x.1 x.2.1 := by kernel_rfl
theorem laws_eqRoot_so : Sound Try.prog 84 laws_eqRoot_en := sound_of_body (envS (l := [(148, laws_eqFloat32A6_en)]) (⟨laws_eqFloat32A6_so, trivial⟩)) Try.func84 (by kernel_rfl) rfl (fun x y h => (laws_eqRoot_eq x).trans h)

-- loop.example/g01204/laws.eqSix
noncomputable def laws_eqSix (a0 : (Vec 6 Nat)) (a1 : (Vec 6 Nat)) : Option ((Bool × Unit) × Unit) :=
  (fConv .f32 .f64 (Vec.getD 6 a0 0 (0 : Nat))).bind fun y1224 =>
  (fConv .f32 .f64 (Vec.getD 6 a1 0 (0 : Nat))).bind fun y1226 =>
  (laws_sameFloat y1224 y1226).bind fun y1227 =>
  bif (! y1227.1.1) then some ((false, ()), ()) else
  (fConv .f32 .f64 (Vec.getD 6 a0 1 (0 : Nat))).bind fun y1230 =>
  (fConv .f32 .f64 (Vec.getD 6 a1 1 (0 : Nat))).bind fun y1232 =>
  (laws_sameFloat y1230 y1232).bind fun y1233 =>
  bif (! y1233.1.1) then some ((false, ()), ()) else
  (fConv .f32 .f64 (Vec.getD 6 a0 2 (0 : Nat))).bind fun y1236 =>
  (fConv .f32 .f64 (Vec.getD 6 a1 2 (0 : Nat))).bind fun y1238 =>
  (laws_sameFloat y1236 y1238).bind fun y1239 =>
  bif (! y1239.1.1) then some ((false, ()), ()) else
  (fConv .f32 .f64 (Vec.getD 6 a0 3 (0 : Nat))).bind fun y1242 =>
  (fConv .f32 .f64 (Vec.getD 6 a1 3 (0 : Nat))).bind fun y1244 =>
  (laws_sameFloat y1242 y1244).bind fun y1245 =>
  bif (! y1245.1.1) then some ((false, ()), ()) else
  (fConv .f32 .f64 (Vec.getD 6 a0 4 (0 : Nat))).bind fun y1248 =>
  (fConv .f32 .f64 (Vec.getD 6 a1 4 (0 : Nat))).bind fun y1250 =>
  (laws_sameFloat y1248 y1250).bind fun y1251 =>
  bif (! y1251.1.1) then some ((false, ()), ()) else
  (fConv .f32 .f64 (Vec.getD 6 a0 5 (0 : Nat))).bind fun y1254 =>
  (fConv .f32 .f64 (Vec.getD 6 a1 5 (0 : Nat))).bind fun y1256 =>
  (laws_sameFloat y1254 y1256).bind fun y1257 =>
  bif (! y1257.1.1) then some ((false, ()), ()) else some ((true, ()), ())
noncomputable def laws_eqSix_sg : Sig := ⟨[.v (.arr 6 (.flt .f32)), .v (.arr 6 (.flt .f32))], [.v (.val (.bool))], false⟩
noncomputable def laws_eqSix_en : Entry := ⟨laws_eqSix_sg, fun x => laws_eqSix x.1 x.2.1⟩
theorem laws_eqSix_eq (x : laws_eqSix_sg.dom) : body (env [(113, laws_sameFloat_en)]) [(2, .unroll 7)] Try.f83 laws_eqSix_sg x = laws_eqSix x.1 x.2.1 := by kernel_rfl
theorem laws_eqSix_so : Sound Try.prog 83 laws_eqSix_en := sound_of_body (envS (l := [(113, laws_sameFloat_en)]) (⟨laws_sameFloat_so, trivial⟩)) Try.func83 (by kernel_rfl) rfl (fun x y h => (laws_eqSix_eq x).trans h)

-- loop.example/g01204/laws.eqState
noncomputable def laws_eqState (a0 : ((Vec 6 Nat) × ((Vec 6 (Vec 6 Nat)) × Unit))) (a1 : ((Vec 6 Nat) × ((Vec 6 (Vec 6 Nat)) × Unit))) : Option ((Bool × Unit) × Unit) :=
  (laws_eqSix a0.1 a1.1).bind fun y1159 =>
  bif (! y1159.1.1) then some ((false, ()), ()) else
  (laws_eqRoot a0.2.1 a1.2.1).bind fun y1161 =>
  bif (! y1161.1.1) then some ((false, ()), ()) else some ((true, ()), ())
noncomputable def laws_eqState_sg : Sig := ⟨[.v (.pair (.arr 6 (.flt .f32)) (.pair (.arr 6 (.arr 6 (.flt .f32))) (.unit))), .v (.pair (.arr 6 (.flt .f32)) (.pair (.arr 6 (.arr 6 (.flt .f32))) (.unit)))], [.v (.val (.bool))], false⟩
noncomputable def laws_eqState_en : Entry := ⟨laws_eqState_sg, fun x => laws_eqState x.1 x.2.1⟩
theorem laws_eqState_eq (x : laws_eqState_sg.dom) : body (env [(83, laws_eqSix_en), (84, laws_eqRoot_en)]) [] Try.f32 laws_eqState_sg x = laws_eqState x.1 x.2.1 := by kernel_rfl
theorem laws_eqState_so : Sound Try.prog 32 laws_eqState_en := sound_of_body (envS (l := [(83, laws_eqSix_en), (84, laws_eqRoot_en)]) (⟨laws_eqSix_so, laws_eqRoot_so, trivial⟩)) Try.func32 (by kernel_rfl) rfl (fun x y h => (laws_eqState_eq x).trans h)

-- loop.example/g01204/laws.szEntryS
noncomputable def laws_szEntryS (a0 : (List (Int × ((Vec 3 Nat) × ((Vec 3 Int) × (Int × (Nat × Unit))))))) (a1 : Int) : Option ((Int × Unit) × Unit) :=
  let x1263 := iSub .i64 a1 (lenI a0)
  bif (iLt x1263 0) then some ((((-1 : Int) : Int), ()), ()) else some ((x1263, ()), ())
noncomputable def laws_szEntryS_sg : Sig := ⟨[.v (.list (.pair (.int .i64) (.pair (.arr 3 (.flt .f32)) (.pair (.arr 3 (.int .i16)) (.pair (.int .i64) (.pair (.flt .f32) (.unit))))))), .v (.int .i64)], [.v (.val (.int .i64))], false⟩
noncomputable def laws_szEntryS_en : Entry := ⟨laws_szEntryS_sg, fun x => laws_szEntryS x.1 x.2.1⟩
theorem laws_szEntryS_eq (x : laws_szEntryS_sg.dom) : body (env []) [] Try.f75 laws_szEntryS_sg x = laws_szEntryS x.1 x.2.1 := by kernel_rfl
theorem laws_szEntryS_so : Sound Try.prog 75 laws_szEntryS_en := sound_of_body (envS (l := []) (trivial)) Try.func75 (by kernel_rfl) rfl (fun x y h => (laws_szEntryS_eq x).trans h)

-- loop.example/g01204/laws.szVecS
noncomputable def laws_szVecS (a0 : (List (Vec 3 Nat))) (a1 : Int) : Option ((Int × Unit) × Unit) :=
  let x1265 := iSub .i64 a1 (lenI a0)
  bif (iLt x1265 0) then some ((((-1 : Int) : Int), ()), ()) else some ((x1265, ()), ())
noncomputable def laws_szVecS_sg : Sig := ⟨[.v (.list (.arr 3 (.flt .f32))), .v (.int .i64)], [.v (.val (.int .i64))], false⟩
noncomputable def laws_szVecS_en : Entry := ⟨laws_szVecS_sg, fun x => laws_szVecS x.1 x.2.1⟩
theorem laws_szVecS_eq (x : laws_szVecS_sg.dom) : body (env []) [] Try.f74 laws_szVecS_sg x = laws_szVecS x.1 x.2.1 := by kernel_rfl
theorem laws_szVecS_so : Sound Try.prog 74 laws_szVecS_en := sound_of_body (envS (l := []) (trivial)) Try.func74 (by kernel_rfl) rfl (fun x y h => (laws_szVecS_eq x).trans h)

-- loop.example/g01204/laws.szLog
noncomputable def laws_szLog (a0 : (Int × ((Vec 3 Nat) × ((List (Vec 3 Nat)) × ((List (Int × ((Vec 3 Nat) × ((Vec 3 Int) × (Int × (Nat × Unit)))))) × Unit))))) (a1 : Int) : Option ((Int × Unit) × Unit) :=
  (laws_szVecS a0.2.2.1 a1).bind fun y1259 =>
  bif (iLt y1259.1.1 0) then some ((((-1 : Int) : Int), ()), ()) else
  (laws_szEntryS a0.2.2.2.1 y1259.1.1).bind fun y1261 =>
  bif (iLt y1261.1.1 0) then some ((((-1 : Int) : Int), ()), ()) else some ((y1261.1.1, ()), ())
noncomputable def laws_szLog_sg : Sig := ⟨[.v (.pair (.int .i64) (.pair (.arr 3 (.flt .f32)) (.pair (.list (.arr 3 (.flt .f32))) (.pair (.list (.pair (.int .i64) (.pair (.arr 3 (.flt .f32)) (.pair (.arr 3 (.int .i16)) (.pair (.int .i64) (.pair (.flt .f32) (.unit))))))) (.unit))))), .v (.int .i64)], [.v (.val (.int .i64))], false⟩
noncomputable def laws_szLog_en : Entry := ⟨laws_szLog_sg, fun x => laws_szLog x.1 x.2.1⟩
theorem laws_szLog_eq (x : laws_szLog_sg.dom) : body (env [(74, laws_szVecS_en), (75, laws_szEntryS_en)]) [] Try.f28 laws_szLog_sg x = laws_szLog x.1 x.2.1 := by kernel_rfl
theorem laws_szLog_so : Sound Try.prog 28 laws_szLog_en := sound_of_body (envS (l := [(74, laws_szVecS_en), (75, laws_szEntryS_en)]) (⟨laws_szVecS_so, laws_szEntryS_so, trivial⟩)) Try.func28 (by kernel_rfl) rfl (fun x y h => (laws_szLog_eq x).trans h)

-- loop.example/g01204/laws.toCounts
noncomputable def laws_toCounts (a0 : (Vec 3 Int)) : Option (((Vec 3 Int) × Unit) × Unit) :=
  some (((((Vec.getD 3 a0 0 (0 : Int)), (Vec.getD 3 a0 1 (0 : Int)), (Vec.getD 3 a0 2 (0 : Int)), ()) : (Vec 3 Int)), ()), ())
noncomputable def laws_toCounts_sg : Sig := ⟨[.v (.arr 3 (.int .i16))], [.v (.val (.arr 3 (.int .i16)))], false⟩
noncomputable def laws_toCounts_en : Entry := ⟨laws_toCounts_sg, fun x => laws_toCounts x.1⟩
theorem laws_toCounts_eq (x : laws_toCounts_sg.dom) : body (env []) [(3, .unroll 4)] Try.f189 laws_toCounts_sg x = laws_toCounts x.1 := by kernel_rfl
theorem laws_toCounts_so : Sound Try.prog 189 laws_toCounts_en := sound_of_body (envS (l := []) (trivial)) Try.func189 (by kernel_rfl) rfl (fun x y h => (laws_toCounts_eq x).trans h)

-- loop.example/g01204/laws.toVec
noncomputable def laws_toVec (a0 : (Vec 3 Nat)) : Option (((Vec 3 Nat) × Unit) × Unit) :=
  some (((((Vec.getD 3 a0 0 (0 : Nat)), (Vec.getD 3 a0 1 (0 : Nat)), (Vec.getD 3 a0 2 (0 : Nat)), ()) : (Vec 3 Nat)), ()), ())
noncomputable def laws_toVec_sg : Sig := ⟨[.v (.arr 3 (.flt .f32))], [.v (.val (.arr 3 (.flt .f32)))], false⟩
noncomputable def laws_toVec_en : Entry := ⟨laws_toVec_sg, fun x => laws_toVec x.1⟩
theorem laws_toVec_eq (x : laws_toVec_sg.dom) : body (env []) [(3, .unroll 4)] Try.f78 laws_toVec_sg x = laws_toVec x.1 := by kernel_rfl
theorem laws_toVec_so : Sound Try.prog 78 laws_toVec_en := sound_of_body (envS (l := []) (trivial)) Try.func78 (by kernel_rfl) rfl (fun x y h => (laws_toVec_eq x).trans h)

-- loop.example/g01204/laws.toEntry
noncomputable def laws_toEntry (a0 : (Int × ((Vec 3 Nat) × ((Vec 3 Int) × (Int × (Nat × Unit)))))) : Option (((Int × ((Vec 3 Nat) × ((Vec 3 Int) × (Int × (Nat × Unit))))) × Unit) × Unit) :=
  (laws_toVec a0.2.1).bind fun y1282 =>
  (laws_toCounts a0.2.2.1).bind fun y1283 =>
  some ((((a0.1, y1282.1.1, y1283.1.1, a0.2.2.2.1, a0.2.2.2.2.1, ()) : (Int × ((Vec 3 Nat) × ((Vec 3 Int) × (Int × (Nat × Unit)))))), ()), ())
noncomputable def laws_toEntry_sg : Sig := ⟨[.v (.pair (.int .i64) (.pair (.arr 3 (.flt .f32)) (.pair (.arr 3 (.int .i16)) (.pair (.int .i64) (.pair (.flt .f32) (.unit))))))], [.v (.val (.pair (.int .i64) (.pair (.arr 3 (.flt .f32)) (.pair (.arr 3 (.int .i16)) (.pair (.int .i64) (.pair (.flt .f32) (.unit)))))))], false⟩
noncomputable def laws_toEntry_en : Entry := ⟨laws_toEntry_sg, fun x => laws_toEntry x.1⟩
theorem laws_toEntry_eq (x : laws_toEntry_sg.dom) : body (env [(78, laws_toVec_en), (189, laws_toCounts_en)]) [] Try.f142 laws_toEntry_sg x = laws_toEntry x.1 := by kernel_rfl
theorem laws_toEntry_so : Sound Try.prog 142 laws_toEntry_en := sound_of_body (envS (l := [(78, laws_toVec_en), (189, laws_toCounts_en)]) (⟨laws_toVec_so, laws_toCounts_so, trivial⟩)) Try.func142 (by kernel_rfl) rfl (fun x y h => (laws_toEntry_eq x).trans h)

-- loop.example/g01204/laws.toEntryS
noncomputable def laws_toEntryS_l3 (a0 : (List (Int × ((Vec 3 Nat) × ((Vec 3 Int) × (Int × (Nat × Unit))))))) (s1276 : (Int × (List (Int × ((Vec 3 Nat) × ((Vec 3 Int) × (Int × (Nat × Unit)))))) × Unit)) : Option ((Int × (List (Int × ((Vec 3 Nat) × ((Vec 3 Int) × (Int × (Nat × Unit)))))) × Unit) ⊕ (((List (Int × ((Vec 3 Nat) × ((Vec 3 Int) × (Int × (Nat × Unit)))))) × Unit) × Unit)) :=
  bif (iLt s1276.1 (lenI a0)) then
    bif inB s1276.1 (List.length a0) then
      (laws_toEntry (List.getD a0 s1276.1.toNat ((0, (0, 0, 0, ()), (0, 0, 0, ()), 0, 0, ()) : (Int × ((Vec 3 Nat) × ((Vec 3 Int) × (Int × (Nat × Unit)))))))).bind fun y1279 =>
      bif inB s1276.1 (List.length s1276.2.1) then
        some (Sum.inl ((iAdd .i64 s1276.1 1), (List.set s1276.2.1 s1276.1.toNat y1279.1.1), ()))
      else none
    else none
  else
  Option.map Sum.inr (some ((s1276.2.1, ()), ()))
noncomputable def laws_toEntryS (a0 : (List (Int × ((Vec 3 Nat) × ((Vec 3 Int) × (Int × (Nat × Unit))))))) : Option (((List (Int × ((Vec 3 Nat) × ((Vec 3 Int) × (Int × (Nat × Unit)))))) × Unit) × Unit) :=
  bif (iLe 0 (lenI a0) && iLe (lenI a0) (lenI a0) && room (lenI a0).toNat 48) then run (laws_toEntryS_l3 a0) ((0 : Int), List.replicate (lenI a0).toNat ((0, (0, 0, 0, ()), (0, 0, 0, ()), 0, 0, ()) : (Int × ((Vec 3 Nat) × ((Vec 3 Int) × (Int × (Nat × Unit)))))), ()) else none
noncomputable def laws_toEntryS_sg : Sig := ⟨[.v (.list (.pair (.int .i64) (.pair (.arr 3 (.flt .f32)) (.pair (.arr 3 (.int .i16)) (.pair (.int .i64) (.pair (.flt .f32) (.unit)))))))], [.v (.rows (.pair (.int .i64) (.pair (.arr 3 (.flt .f32)) (.pair (.arr 3 (.int .i16)) (.pair (.int .i64) (.pair (.flt .f32) (.unit)))))))], false⟩
noncomputable def laws_toEntryS_en : Entry := ⟨laws_toEntryS_sg, fun x => laws_toEntryS x.1⟩
theorem laws_toEntryS_eq (x : laws_toEntryS_sg.dom) : body (env [(142, laws_toEntry_en)]) [(3, .vary [(4, .sc (.int .i64)), (3, .mrows (.pair (.int .i64) (.pair (.arr 3 (.flt .f32)) (.pair (.arr 3 (.int .i16)) (.pair (.int .i64) (.pair (.flt .f32) (.unit)))))))])] Try.f80 laws_toEntryS_sg x = laws_toEntryS x.1 := by kernel_rfl
theorem laws_toEntryS_so : Sound Try.prog 80 laws_toEntryS_en := sound_of_body (envS (l := [(142, laws_toEntry_en)]) (⟨laws_toEntry_so, trivial⟩)) Try.func80 (by kernel_rfl) rfl (fun x y h => (laws_toEntryS_eq x).trans h)

-- loop.example/g01204/laws.toVecS
noncomputable def laws_toVecS_l3 (a0 : (List (Vec 3 Nat))) (s1296 : (Int × (List (Vec 3 Nat)) × Unit)) : Option ((Int × (List (Vec 3 Nat)) × Unit) ⊕ (((List (Vec 3 Nat)) × Unit) × Unit)) :=
  bif (iLt s1296.1 (lenI a0)) then
    bif inB s1296.1 (List.length a0) then
      (laws_toVec (List.getD a0 s1296.1.toNat ((0, 0, 0, ()) : (Vec 3 Nat)))).bind fun y1299 =>
      bif inB s1296.1 (List.length s1296.2.1) then
        some (Sum.inl ((iAdd .i64 s1296.1 1), (List.set s1296.2.1 s1296.1.toNat y1299.1.1), ()))
      else none
    else none
  else
  Option.map Sum.inr (some ((s1296.2.1, ()), ()))
noncomputable def laws_toVecS (a0 : (List (Vec 3 Nat))) : Option (((List (Vec 3 Nat)) × Unit) × Unit) :=
  bif (iLe 0 (lenI a0) && iLe (lenI a0) (lenI a0) && room (lenI a0).toNat 12) then run (laws_toVecS_l3 a0) ((0 : Int), List.replicate (lenI a0).toNat ((0, 0, 0, ()) : (Vec 3 Nat)), ()) else none
noncomputable def laws_toVecS_sg : Sig := ⟨[.v (.list (.arr 3 (.flt .f32)))], [.v (.rows (.arr 3 (.flt .f32)))], false⟩
noncomputable def laws_toVecS_en : Entry := ⟨laws_toVecS_sg, fun x => laws_toVecS x.1⟩
theorem laws_toVecS_eq (x : laws_toVecS_sg.dom) : body (env [(78, laws_toVec_en)]) [(3, .vary [(4, .sc (.int .i64)), (3, .mrows (.arr 3 (.flt .f32)))])] Try.f79 laws_toVecS_sg x = laws_toVecS x.1 := by kernel_rfl
theorem laws_toVecS_so : Sound Try.prog 79 laws_toVecS_en := sound_of_body (envS (l := [(78, laws_toVec_en)]) (⟨laws_toVec_so, trivial⟩)) Try.func79 (by kernel_rfl) rfl (fun x y h => (laws_toVecS_eq x).trans h)

-- loop.example/g01204/laws.toLog
noncomputable def laws_toLog (a0 : (Int × ((Vec 3 Nat) × ((List (Vec 3 Nat)) × ((List (Int × ((Vec 3 Nat) × ((Vec 3 Int) × (Int × (Nat × Unit)))))) × Unit))))) : Option (((Int × ((Vec 3 Nat) × ((List (Vec 3 Nat)) × ((List (Int × ((Vec 3 Nat) × ((Vec 3 Int) × (Int × (Nat × Unit)))))) × Unit)))) × Unit) × Unit) :=
  (laws_toVec a0.2.1).bind fun y1267 =>
  (laws_toVecS a0.2.2.1).bind fun y1268 =>
  (laws_toEntryS a0.2.2.2.1).bind fun y1269 =>
  some ((((a0.1, y1267.1.1, y1268.1.1, y1269.1.1, ()) : (Int × ((Vec 3 Nat) × ((List (Vec 3 Nat)) × ((List (Int × ((Vec 3 Nat) × ((Vec 3 Int) × (Int × (Nat × Unit)))))) × Unit))))), ()), ())
noncomputable def laws_toLog_sg : Sig := ⟨[.v (.pair (.int .i64) (.pair (.arr 3 (.flt .f32)) (.pair (.list (.arr 3 (.flt .f32))) (.pair (.list (.pair (.int .i64) (.pair (.arr 3 (.flt .f32)) (.pair (.arr 3 (.int .i16)) (.pair (.int .i64) (.pair (.flt .f32) (.unit))))))) (.unit)))))], [.v (.pair (.val (.int .i64)) (.pair (.val (.arr 3 (.flt .f32))) (.pair (.rows (.arr 3 (.flt .f32))) (.pair (.rows (.pair (.int .i64) (.pair (.arr 3 (.flt .f32)) (.pair (.arr 3 (.int .i16)) (.pair (.int .i64) (.pair (.flt .f32) (.unit))))))) (.val (.unit))))))], false⟩
noncomputable def laws_toLog_en : Entry := ⟨laws_toLog_sg, fun x => laws_toLog x.1⟩
theorem laws_toLog_eq (x : laws_toLog_sg.dom) : body (env [(78, laws_toVec_en), (79, laws_toVecS_en), (80, laws_toEntryS_en)]) [] Try.f30 laws_toLog_sg x = laws_toLog x.1 := by kernel_rfl
theorem laws_toLog_so : Sound Try.prog 30 laws_toLog_en := sound_of_body (envS (l := [(78, laws_toVec_en), (79, laws_toVecS_en), (80, laws_toEntryS_en)]) (⟨laws_toVec_so, laws_toVecS_so, laws_toEntryS_so, trivial⟩)) Try.func30 (by kernel_rfl) rfl (fun x y h => (laws_toLog_eq x).trans h)

-- loop.example/g01204/spec.l08First
noncomputable def spec_l08First (a0 : (Int × ((Vec 3 Nat) × ((List (Vec 3 Nat)) × ((List (Int × ((Vec 3 Nat) × ((Vec 3 Int) × (Int × (Nat × Unit)))))) × Unit))))) : Option ((((Vec 6 Nat) × ((Vec 6 (Vec 6 Nat)) × Unit)) × Unit) × Unit) :=
  some ((((((Vec.getD 3 a0.2.1 0 (0 : Nat)), (Vec.getD 3 a0.2.1 1 (0 : Nat)), (Vec.getD 3 a0.2.1 2 (0 : Nat)), 0, 0, 0, ()), ((1056964608, 0, 0, 0, 0, 0, ()), (0, 1056964608, 0, 0, 0, 0, ()), (0, 0, 1056964608, 0, 0, 0, ()), (0, 0, 0, 1065353216, 0, 0, ()), (0, 0, 0, 0, 1065353216, 0, ()), (0, 0, 0, 0, 0, 1065353216, ()), ()), ()) : ((Vec 6 Nat) × ((Vec 6 (Vec 6 Nat)) × Unit))), ()), ())
noncomputable def spec_l08First_sg : Sig := ⟨[.ro (.pair (.int .i64) (.pair (.arr 3 (.flt .f32)) (.pair (.list (.arr 3 (.flt .f32))) (.pair (.list (.pair (.int .i64) (.pair (.arr 3 (.flt .f32)) (.pair (.arr 3 (.int .i16)) (.pair (.int .i64) (.pair (.flt .f32) (.unit))))))) (.unit)))))], [.v (.val (.pair (.arr 6 (.flt .f32)) (.pair (.arr 6 (.arr 6 (.flt .f32))) (.unit))))], false⟩
noncomputable def spec_l08First_en : Entry := ⟨spec_l08First_sg, fun x => spec_l08First x.1⟩
theorem spec_l08First_eq (x : spec_l08First_sg.dom) : body (env []) [(3, .unroll 4)] Try.f77 spec_l08First_sg x = spec_l08First x.1 := by kernel_rfl
theorem spec_l08First_so : Sound Try.prog 77 spec_l08First_en := sound_of_body (envS (l := []) (trivial)) Try.func77 (by kernel_rfl) rfl (fun x y h => (spec_l08First_eq x).trans h)

-- loop.example/g01204/spec.l01Finite
noncomputable def spec_l01Finite (a0 : Nat) : Option ((Bool × Unit) × Unit) :=
  some (((fEq .f32 (fSub .f32 a0 a0) 0), ()), ())
noncomputable def spec_l01Finite_sg : Sig := ⟨[.v (.flt .f32)], [.v (.val (.bool))], false⟩
noncomputable def spec_l01Finite_en : Entry := ⟨spec_l01Finite_sg, fun x => spec_l01Finite x.1⟩
theorem spec_l01Finite_eq (x : spec_l01Finite_sg.dom) : body (env []) [] Try.f119 spec_l01Finite_sg x = spec_l01Finite x.1 := by kernel_rfl
theorem spec_l01Finite_so : Sound Try.prog 119 spec_l01Finite_en := sound_of_body (envS (l := []) (trivial)) Try.func119 (by kernel_rfl) rfl (fun x y h => (spec_l01Finite_eq x).trans h)

-- loop.example/g01204/spec.l01Same
noncomputable def spec_l01Same (a0 : Nat) (a1 : Nat) : Option ((Bool × Unit) × Unit) :=
  bif (! (fEq .f32 a0 a0)) then
    bif (! (fEq .f32 a0 a0)) then
      some (((! (fEq .f32 a1 a1)), ()), ())
    else some ((false, ()), ())
  else
  bif (! (fEq .f32 a1 a1)) then
    bif (! (fEq .f32 a0 a0)) then
      some (((! (fEq .f32 a1 a1)), ()), ())
    else some ((false, ()), ())
  else
  allSame fun (q1376 : Nat) =>
  allSame fun (q1378 : Nat) =>
  some (((iEq (bitsF .f32 a0 q1376) (bitsF .f32 a1 q1378)), ()), ())
noncomputable def spec_l01Same_sg : Sig := ⟨[.v (.flt .f32), .v (.flt .f32)], [.v (.val (.bool))], false⟩
noncomputable def spec_l01Same_en : Entry := ⟨spec_l01Same_sg, fun x => spec_l01Same x.1 x.2.1⟩
theorem spec_l01Same_eq (x : spec_l01Same_sg.dom) : body (env []) [] Try.f188 spec_l01Same_sg x = spec_l01Same x.1 x.2.1 := by kernel_rfl
theorem spec_l01Same_so : Sound Try.prog 188 spec_l01Same_en := sound_of_body (envS (l := []) (trivial)) Try.func188 (by kernel_rfl) rfl (fun x y h => (spec_l01Same_eq x).trans h)

-- loop.example/g01204/spec.l01SameVec
noncomputable def spec_l01SameVec (a0 : (Vec 3 Nat)) (a1 : (Vec 3 Nat)) : Option ((Bool × Unit) × Unit) :=
  (spec_l01Same (Vec.getD 3 a0 0 (0 : Nat)) (Vec.getD 3 a1 0 (0 : Nat))).bind fun y1383 =>
  bif y1383.1.1 then
    (spec_l01Same (Vec.getD 3 a0 1 (0 : Nat)) (Vec.getD 3 a1 1 (0 : Nat))).bind fun y1386 =>
    bif y1386.1.1 then
      (spec_l01Same (Vec.getD 3 a0 2 (0 : Nat)) (Vec.getD 3 a1 2 (0 : Nat))).bind fun y1389 =>
      some ((y1389.1.1, ()), ())
    else some ((false, ()), ())
  else some ((false, ()), ())
noncomputable def spec_l01SameVec_sg : Sig := ⟨[.v (.arr 3 (.flt .f32)), .v (.arr 3 (.flt .f32))], [.v (.val (.bool))], false⟩
noncomputable def spec_l01SameVec_en : Entry := ⟨spec_l01SameVec_sg, fun x => spec_l01SameVec x.1 x.2.1⟩
theorem spec_l01SameVec_eq (x : spec_l01SameVec_sg.dom) : body (env [(188, spec_l01Same_en)]) [] Try.f187 spec_l01SameVec_sg x = spec_l01SameVec x.1 x.2.1 := by kernel_rfl
theorem spec_l01SameVec_so : Sound Try.prog 187 spec_l01SameVec_en := sound_of_body (envS (l := [(188, spec_l01Same_en)]) (⟨spec_l01Same_so, trivial⟩)) Try.func187 (by kernel_rfl) rfl (fun x y h => (spec_l01SameVec_eq x).trans h)

-- loop.example/g01204/spec.l01Vec
noncomputable def spec_l01Vec (a0 : (Vec 3 Nat)) : Option ((Bool × Unit) × Unit) :=
  (spec_l01Finite (Vec.getD 3 a0 0 (0 : Nat))).bind fun y1391 =>
  bif y1391.1.1 then
    (spec_l01Finite (Vec.getD 3 a0 1 (0 : Nat))).bind fun y1393 =>
    bif y1393.1.1 then
      (spec_l01Finite (Vec.getD 3 a0 2 (0 : Nat))).bind fun y1395 =>
      some ((y1395.1.1, ()), ())
    else some ((false, ()), ())
  else some ((false, ()), ())
noncomputable def spec_l01Vec_sg : Sig := ⟨[.v (.arr 3 (.flt .f32))], [.v (.val (.bool))], false⟩
noncomputable def spec_l01Vec_en : Entry := ⟨spec_l01Vec_sg, fun x => spec_l01Vec x.1⟩
theorem spec_l01Vec_eq (x : spec_l01Vec_sg.dom) : body (env [(119, spec_l01Finite_en)]) [] Try.f165 spec_l01Vec_sg x = spec_l01Vec x.1 := by kernel_rfl
theorem spec_l01Vec_so : Sound Try.prog 165 spec_l01Vec_en := sound_of_body (envS (l := [(119, spec_l01Finite_en)]) (⟨spec_l01Finite_so, trivial⟩)) Try.func165 (by kernel_rfl) rfl (fun x y h => (spec_l01Vec_eq x).trans h)

-- loop.example/g01204/spec.l08Entry
noncomputable def spec_l08Entry (a0 : (Int × ((Vec 3 Nat) × ((Vec 3 Int) × (Int × (Nat × Unit)))))) (a1 : Int) : Option ((Bool × Unit) × Unit) :=
  (spec_l01SameVec a0.2.1 ((0, 0, 0, ()) : (Vec 3 Nat))).bind fun y1316 =>
  bif y1316.1.1 then
    (spec_l01Same a0.2.2.2.2.1 (0 : Nat)).bind fun y1317 =>
    bif y1317.1.1 then
      bif (iEq a0.1 1) then
        bif (iEq (Vec.getD 3 a0.2.2.1 0 (0 : Int)) 0 && (iEq (Vec.getD 3 a0.2.2.1 1 (0 : Int)) 0 && (iEq (Vec.getD 3 a0.2.2.1 2 (0 : Int)) 0 && true))) then
          some (((iEq a0.2.2.2.1 0), ()), ())
        else some ((false, ()), ())
      else
      bif (iEq a0.1 2) then
        (spec_l01Vec a0.2.1).bind fun y1322 =>
        bif y1322.1.1 then
          (spec_l01Same a0.2.2.2.2.1 (0 : Nat)).bind fun y1323 =>
          bif y1323.1.1 then
            bif (iEq (Vec.getD 3 a0.2.2.1 0 (0 : Int)) 0 && (iEq (Vec.getD 3 a0.2.2.1 1 (0 : Int)) 0 && (iEq (Vec.getD 3 a0.2.2.1 2 (0 : Int)) 0 && true))) then
              some (((iEq a0.2.2.2.1 0), ()), ())
            else some ((false, ()), ())
          else some ((false, ()), ())
        else some ((false, ()), ())
      else
      bif (iEq a0.1 3) then
        (spec_l01SameVec a0.2.1 ((0, 0, 0, ()) : (Vec 3 Nat))).bind fun y1327 =>
        bif y1327.1.1 then
          (spec_l01Same a0.2.2.2.2.1 (0 : Nat)).bind fun y1328 =>
          bif y1328.1.1 then
            some (((iEq a0.2.2.2.1 0), ()), ())
          else some ((false, ()), ())
        else some ((false, ()), ())
      else
      bif (iEq a0.1 4) then
        (spec_l01SameVec a0.2.1 ((0, 0, 0, ()) : (Vec 3 Nat))).bind fun y1331 =>
        bif y1331.1.1 then
          bif (iEq (Vec.getD 3 a0.2.2.1 0 (0 : Int)) 0 && (iEq (Vec.getD 3 a0.2.2.1 1 (0 : Int)) 0 && (iEq (Vec.getD 3 a0.2.2.1 2 (0 : Int)) 0 && true))) then
            (spec_l01Finite a0.2.2.2.2.1).bind fun y1333 =>
            bif y1333.1.1 then
              (spec_l00In a0.2.2.2.1 (0 : Int) (iSub .i64 a1 1)).bind fun y1335 =>
              some ((y1335.1.1, ()), ())
            else some ((false, ()), ())
          else some ((false, ()), ())
        else some ((false, ()), ())
      else some ((false, ()), ())
    else
    bif (iEq a0.1 1) then some ((false, ()), ()) else
    bif (iEq a0.1 2) then
      (spec_l01Vec a0.2.1).bind fun y1338 =>
      bif y1338.1.1 then
        (spec_l01Same a0.2.2.2.2.1 (0 : Nat)).bind fun y1339 =>
        bif y1339.1.1 then
          bif (iEq (Vec.getD 3 a0.2.2.1 0 (0 : Int)) 0 && (iEq (Vec.getD 3 a0.2.2.1 1 (0 : Int)) 0 && (iEq (Vec.getD 3 a0.2.2.1 2 (0 : Int)) 0 && true))) then
            some (((iEq a0.2.2.2.1 0), ()), ())
          else some ((false, ()), ())
        else some ((false, ()), ())
      else some ((false, ()), ())
    else
    bif (iEq a0.1 3) then
      (spec_l01SameVec a0.2.1 ((0, 0, 0, ()) : (Vec 3 Nat))).bind fun y1343 =>
      bif y1343.1.1 then
        (spec_l01Same a0.2.2.2.2.1 (0 : Nat)).bind fun y1344 =>
        bif y1344.1.1 then
          some (((iEq a0.2.2.2.1 0), ()), ())
        else some ((false, ()), ())
      else some ((false, ()), ())
    else
    bif (iEq a0.1 4) then
      (spec_l01SameVec a0.2.1 ((0, 0, 0, ()) : (Vec 3 Nat))).bind fun y1347 =>
      bif y1347.1.1 then
        bif (iEq (Vec.getD 3 a0.2.2.1 0 (0 : Int)) 0 && (iEq (Vec.getD 3 a0.2.2.1 1 (0 : Int)) 0 && (iEq (Vec.getD 3 a0.2.2.1 2 (0 : Int)) 0 && true))) then
          (spec_l01Finite a0.2.2.2.2.1).bind fun y1349 =>
          bif y1349.1.1 then
            (spec_l00In a0.2.2.2.1 (0 : Int) (iSub .i64 a1 1)).bind fun y1351 =>
            some ((y1351.1.1, ()), ())
          else some ((false, ()), ())
        else some ((false, ()), ())
      else some ((false, ()), ())
    else some ((false, ()), ())
  else
  bif (iEq a0.1 1) then some ((false, ()), ()) else
  bif (iEq a0.1 2) then
    (spec_l01Vec a0.2.1).bind fun y1354 =>
    bif y1354.1.1 then
      (spec_l01Same a0.2.2.2.2.1 (0 : Nat)).bind fun y1355 =>
      bif y1355.1.1 then
        bif (iEq (Vec.getD 3 a0.2.2.1 0 (0 : Int)) 0 && (iEq (Vec.getD 3 a0.2.2.1 1 (0 : Int)) 0 && (iEq (Vec.getD 3 a0.2.2.1 2 (0 : Int)) 0 && true))) then
          some (((iEq a0.2.2.2.1 0), ()), ())
        else some ((false, ()), ())
      else some ((false, ()), ())
    else some ((false, ()), ())
  else
  bif (iEq a0.1 3) then
    (spec_l01SameVec a0.2.1 ((0, 0, 0, ()) : (Vec 3 Nat))).bind fun y1359 =>
    bif y1359.1.1 then
      (spec_l01Same a0.2.2.2.2.1 (0 : Nat)).bind fun y1360 =>
      bif y1360.1.1 then
        some (((iEq a0.2.2.2.1 0), ()), ())
      else some ((false, ()), ())
    else some ((false, ()), ())
  else
  bif (iEq a0.1 4) then
    (spec_l01SameVec a0.2.1 ((0, 0, 0, ()) : (Vec 3 Nat))).bind fun y1363 =>
    bif y1363.1.1 then
      bif (iEq (Vec.getD 3 a0.2.2.1 0 (0 : Int)) 0 && (iEq (Vec.getD 3 a0.2.2.1 1 (0 : Int)) 0 && (iEq (Vec.getD 3 a0.2.2.1 2 (0 : Int)) 0 && true))) then
        (spec_l01Finite a0.2.2.2.2.1).bind fun y1365 =>
        bif y1365.1.1 then
          (spec_l00In a0.2.2.2.1 (0 : Int) (iSub .i64 a1 1)).bind fun y1367 =>
          some ((y1367.1.1, ()), ())
        else some ((false, ()), ())
      else some ((false, ()), ())
    else some ((false, ()), ())
  else some ((false, ()), ())
noncomputable def spec_l08Entry_sg : Sig := ⟨[.ro (.pair (.int .i64) (.pair (.arr 3 (.flt .f32)) (.pair (.arr 3 (.int .i16)) (.pair (.int .i64) (.pair (.flt .f32) (.unit)))))), .v (.int .i64)], [.v (.val (.bool))], false⟩
noncomputable def spec_l08Entry_en : Entry := ⟨spec_l08Entry_sg, fun x => spec_l08Entry x.1 x.2.1⟩
theorem spec_l08Entry_eq (x : spec_l08Entry_sg.dom) : body (env [(101, spec_l00In_en), (119, spec_l01Finite_en), (165, spec_l01Vec_en), (187, spec_l01SameVec_en), (188, spec_l01Same_en)]) [] Try.f141 spec_l08Entry_sg x = spec_l08Entry x.1 x.2.1 := by kernel_rfl
theorem spec_l08Entry_so : Sound Try.prog 141 spec_l08Entry_en := sound_of_body (envS (l := [(101, spec_l00In_en), (119, spec_l01Finite_en), (165, spec_l01Vec_en), (187, spec_l01SameVec_en), (188, spec_l01Same_en)]) (⟨spec_l00In_so, spec_l01Finite_so, spec_l01Vec_so, spec_l01SameVec_so, spec_l01Same_so, trivial⟩)) Try.func141 (by kernel_rfl) rfl (fun x y h => (spec_l08Entry_eq x).trans h)

-- loop.example/g01204/spec.l08Frame
noncomputable def spec_l08Frame_l4 (a2 : (List (Vec 3 Nat))) (s1401 : (Int × Unit)) : Option ((Int × Unit) ⊕ ((Bool × Unit) × Unit)) :=
  bif (iLt s1401.1 (lenI a2)) then
    bif inB s1401.1 (List.length a2) then
      (spec_l01Vec (List.getD a2 s1401.1.toNat ((0, 0, 0, ()) : (Vec 3 Nat)))).bind fun y1404 =>
      bif (! y1404.1.1) then
        Option.map Sum.inr (some ((false, ()), ()))
      else
      some (Sum.inl ((iAdd .i64 s1401.1 1), ()))
    else none
  else
  Option.map Sum.inr (some ((true, ()), ()))
noncomputable def spec_l08Frame (a0 : Int) (a1 : (Vec 3 Nat)) (a2 : (List (Vec 3 Nat))) : Option ((Bool × Unit) × Unit) :=
  (spec_l00In a0 (1 : Int) (64 : Int)).bind fun y1396 =>
  bif (! y1396.1.1) then some ((false, ()), ()) else
  (spec_l01Vec a1).bind fun y1398 =>
  bif (! y1398.1.1) then some ((false, ()), ()) else
  bif (iLt 6 (lenI a2)) then some ((false, ()), ()) else run (spec_l08Frame_l4 a2) ((0 : Int), ())
noncomputable def spec_l08Frame_sg : Sig := ⟨[.v (.int .i64), .v (.arr 3 (.flt .f32)), .v (.list (.arr 3 (.flt .f32)))], [.v (.val (.bool))], false⟩
noncomputable def spec_l08Frame_en : Entry := ⟨spec_l08Frame_sg, fun x => spec_l08Frame x.1 x.2.1 x.2.2.1⟩
theorem spec_l08Frame_eq (x : spec_l08Frame_sg.dom) : body (env [(101, spec_l00In_en), (165, spec_l01Vec_en)]) [(4, .vary [(7, .sc (.int .i64))])] Try.f140 spec_l08Frame_sg x = spec_l08Frame x.1 x.2.1 x.2.2.1 := by kernel_rfl
theorem spec_l08Frame_so : Sound Try.prog 140 spec_l08Frame_en := sound_of_body (envS (l := [(101, spec_l00In_en), (165, spec_l01Vec_en)]) (⟨spec_l00In_so, spec_l01Vec_so, trivial⟩)) Try.func140 (by kernel_rfl) rfl (fun x y h => (spec_l08Frame_eq x).trans h)

-- loop.example/g01204/spec.l08Log
noncomputable def spec_l08Log_l4 (a0 : (Int × ((Vec 3 Nat) × ((List (Vec 3 Nat)) × ((List (Int × ((Vec 3 Nat) × ((Vec 3 Int) × (Int × (Nat × Unit)))))) × Unit))))) (s1311 : (Int × Unit)) : Option ((Int × Unit) ⊕ ((Bool × Unit) × Unit)) :=
  bif (iLt s1311.1 (lenI a0.2.2.2.1)) then
    bif inB s1311.1 (List.length a0.2.2.2.1) then
      (spec_l08Entry (List.getD a0.2.2.2.1 s1311.1.toNat ((0, (0, 0, 0, ()), (0, 0, 0, ()), 0, 0, ()) : (Int × ((Vec 3 Nat) × ((Vec 3 Int) × (Int × (Nat × Unit))))))) (lenI a0.2.2.1)).bind fun y1313 =>
      bif (! y1313.1.1) then
        Option.map Sum.inr (some ((false, ()), ()))
      else
      some (Sum.inl ((iAdd .i64 s1311.1 1), ()))
    else none
  else
  Option.map Sum.inr (some ((true, ()), ()))
noncomputable def spec_l08Log (a0 : (Int × ((Vec 3 Nat) × ((List (Vec 3 Nat)) × ((List (Int × ((Vec 3 Nat) × ((Vec 3 Int) × (Int × (Nat × Unit)))))) × Unit))))) : Option ((Bool × Unit) × Unit) :=
  (spec_l08Frame a0.1 a0.2.1 a0.2.2.1).bind fun y1308 =>
  bif (! y1308.1.1) then some ((false, ()), ()) else
  bif (iLt 1200 (lenI a0.2.2.2.1)) then some ((false, ()), ()) else run (spec_l08Log_l4 a0) ((0 : Int), ())
noncomputable def spec_l08Log_sg : Sig := ⟨[.ro (.pair (.int .i64) (.pair (.arr 3 (.flt .f32)) (.pair (.list (.arr 3 (.flt .f32))) (.pair (.list (.pair (.int .i64) (.pair (.arr 3 (.flt .f32)) (.pair (.arr 3 (.int .i16)) (.pair (.int .i64) (.pair (.flt .f32) (.unit))))))) (.unit)))))], [.v (.val (.bool))], false⟩
noncomputable def spec_l08Log_en : Entry := ⟨spec_l08Log_sg, fun x => spec_l08Log x.1⟩
theorem spec_l08Log_eq (x : spec_l08Log_sg.dom) : body (env [(140, spec_l08Frame_en), (141, spec_l08Entry_en)]) [(4, .vary [(3, .sc (.int .i64))])] Try.f76 spec_l08Log_sg x = spec_l08Log x.1 := by kernel_rfl
theorem spec_l08Log_so : Sound Try.prog 76 spec_l08Log_en := sound_of_body (envS (l := [(140, spec_l08Frame_en), (141, spec_l08Entry_en)]) (⟨spec_l08Frame_so, spec_l08Entry_so, trivial⟩)) Try.func76 (by kernel_rfl) rfl (fun x y h => (spec_l08Log_eq x).trans h)

-- loop.example/g01204/spec.FirstState
noncomputable def spec_FirstState (a0 : (Int × ((Vec 3 Nat) × ((List (Vec 3 Nat)) × ((List (Int × ((Vec 3 Nat) × ((Vec 3 Int) × (Int × (Nat × Unit)))))) × Unit))))) : Option ((((Vec 6 Nat) × ((Vec 6 (Vec 6 Nat)) × Unit)) × Int × Unit) × Unit) :=
  (spec_l08Log a0).bind fun y1302 =>
  bif (! y1302.1.1) then
    some (((((0, 0, 0, 0, 0, 0, ()), ((0, 0, 0, 0, 0, 0, ()), (0, 0, 0, 0, 0, 0, ()), (0, 0, 0, 0, 0, 0, ()), (0, 0, 0, 0, 0, 0, ()), (0, 0, 0, 0, 0, 0, ()), (0, 0, 0, 0, 0, 0, ()), ()), ()) : ((Vec 6 Nat) × ((Vec 6 (Vec 6 Nat)) × Unit))), (1 : Int), ()), ())
  else
  (spec_l08First a0).bind fun y1304 =>
  some ((y1304.1.1, (0 : Int), ()), ())
noncomputable def spec_FirstState_sg : Sig := ⟨[.v (.pair (.int .i64) (.pair (.arr 3 (.flt .f32)) (.pair (.list (.arr 3 (.flt .f32))) (.pair (.list (.pair (.int .i64) (.pair (.arr 3 (.flt .f32)) (.pair (.arr 3 (.int .i16)) (.pair (.int .i64) (.pair (.flt .f32) (.unit))))))) (.unit)))))], [.v (.val (.pair (.arr 6 (.flt .f32)) (.pair (.arr 6 (.arr 6 (.flt .f32))) (.unit)))), .v (.val (.int .i64))], false⟩
noncomputable def spec_FirstState_en : Entry := ⟨spec_FirstState_sg, fun x => spec_FirstState x.1⟩
theorem spec_FirstState_eq (x : spec_FirstState_sg.dom) : body (env [(76, spec_l08Log_en), (77, spec_l08First_en)]) [] Try.f29 spec_FirstState_sg x = spec_FirstState x.1 := by kernel_rfl
theorem spec_FirstState_so : Sound Try.prog 29 spec_FirstState_en := sound_of_body (envS (l := [(76, spec_l08Log_en), (77, spec_l08First_en)]) (⟨spec_l08Log_so, spec_l08First_so, trivial⟩)) Try.func29 (by kernel_rfl) rfl (fun x y h => (spec_FirstState_eq x).trans h)

-- loop.example/g01204/laws.FnExactFirstState
noncomputable def laws_FnExactFirstState (a0 : (Int × ((Vec 3 Nat) × ((List (Vec 3 Nat)) × ((List (Int × ((Vec 3 Nat) × ((Vec 3 Int) × (Int × (Nat × Unit)))))) × Unit))))) : Option ((Bool × Unit) × Unit) :=
  (laws_szLog a0 (1048576 : Int)).bind fun y916 =>
  bif (iLt y916.1.1 0) then some ((true, ()), ()) else
  (laws_toLog a0).bind fun y918 =>
  (spec_FirstState ((y918.1.1.1, y918.1.1.2.1, y918.1.1.2.2.1, y918.1.1.2.2.2.1, y918.1.1.2.2.2.2) : (Int × ((Vec 3 Nat) × ((List (Vec 3 Nat)) × ((List (Int × ((Vec 3 Nat) × ((Vec 3 Int) × (Int × (Nat × Unit)))))) × Unit)))))).bind fun y919 =>
  (laws_toLog a0).bind fun y920 =>
  (impl_FirstState ((y920.1.1.1, y920.1.1.2.1, y920.1.1.2.2.1, y920.1.1.2.2.2.1, y920.1.1.2.2.2.2) : (Int × ((Vec 3 Nat) × ((List (Vec 3 Nat)) × ((List (Int × ((Vec 3 Nat) × ((Vec 3 Int) × (Int × (Nat × Unit)))))) × Unit)))))).bind fun y921 =>
  (laws_eqState y921.1.1 y919.1.1).bind fun y922 =>
  bif (! y922.1.1) then some ((false, ()), ()) else
  bif (! (iEq y921.1.2.1 y919.1.2.1)) then some ((false, ()), ()) else
  (laws_toLog a0).bind fun y925 =>
  (laws_eqLog ((y920.1.1.1, y920.1.1.2.1, y920.1.1.2.2.1, y920.1.1.2.2.2.1, y920.1.1.2.2.2.2) : (Int × ((Vec 3 Nat) × ((List (Vec 3 Nat)) × ((List (Int × ((Vec 3 Nat) × ((Vec 3 Int) × (Int × (Nat × Unit)))))) × Unit))))) ((y925.1.1.1, y925.1.1.2.1, y925.1.1.2.2.1, y925.1.1.2.2.2.1, y925.1.1.2.2.2.2) : (Int × ((Vec 3 Nat) × ((List (Vec 3 Nat)) × ((List (Int × ((Vec 3 Nat) × ((Vec 3 Int) × (Int × (Nat × Unit)))))) × Unit)))))).bind fun y926 =>
  bif (! y926.1.1) then some ((false, ()), ()) else some ((true, ()), ())
noncomputable def laws_FnExactFirstState_sg : Sig := ⟨[.v (.pair (.int .i64) (.pair (.arr 3 (.flt .f32)) (.pair (.list (.arr 3 (.flt .f32))) (.pair (.list (.pair (.int .i64) (.pair (.arr 3 (.flt .f32)) (.pair (.arr 3 (.int .i16)) (.pair (.int .i64) (.pair (.flt .f32) (.unit))))))) (.unit)))))], [.v (.val (.bool))], false⟩
noncomputable def laws_FnExactFirstState_en : Entry := ⟨laws_FnExactFirstState_sg, fun x => laws_FnExactFirstState x.1⟩
theorem laws_FnExactFirstState_eq (x : laws_FnExactFirstState_sg.dom) : body (env [(28, laws_szLog_en), (29, spec_FirstState_en), (30, laws_toLog_en), (31, impl_FirstState_en), (32, laws_eqState_en), (33, laws_eqLog_en)]) [] Try.f5 laws_FnExactFirstState_sg x = laws_FnExactFirstState x.1 := by kernel_rfl
theorem laws_FnExactFirstState_so : Sound Try.prog 5 laws_FnExactFirstState_en := sound_of_body (envS (l := [(28, laws_szLog_en), (29, spec_FirstState_en), (30, laws_toLog_en), (31, impl_FirstState_en), (32, laws_eqState_en), (33, laws_eqLog_en)]) (⟨laws_szLog_so, spec_FirstState_so, laws_toLog_so, impl_FirstState_so, laws_eqState_so, laws_eqLog_so, trivial⟩)) Try.func5 (by kernel_rfl) rfl (fun x y h => (laws_FnExactFirstState_eq x).trans h)

-- loop.example/g01204/impl.BestRoute
noncomputable def impl_BestRoute_l13 (y1580 : (((List (Vec 2 Int)) × Unit) × Unit)) (s1578 : ((List (Vec 2 Int)) × (Vec 2 Int) × Unit)) (a0 : (Int × (Int × ((List Int) × Unit)))) (y1551 : (((List Int) × Unit) × Unit)) (s1581 : (Int × Unit)) : Option ((Int × Unit) ⊕ (((List (Vec 2 Int)) × (Vec 2 Int) × Unit) ⊕ (((List (Vec 2 Int)) × Int × Int × Unit) × Unit))) :=
  bif (iLt s1581.1 (lenI y1580.1.1)) then
    bif inB s1581.1 (List.length y1580.1.1) then
      let x1583 := List.getD y1580.1.1 s1581.1.toNat ((0, 0, ()) : (Vec 2 Int))
      let x1586 := iAdd .i16 (Vec.getD 2 s1578.2.1 0 (0 : Int)) (Vec.getD 2 x1583 0 (0 : Int))
      let x1589 := iAdd .i16 (Vec.getD 2 s1578.2.1 1 (0 : Int)) (Vec.getD 2 x1583 1 (0 : Int))
      (impl_Grid_stepCost a0 s1578.2.1 ((x1586, x1589, ()) : (Vec 2 Int))).bind fun y1590 =>
      bif y1590.1.2.1 then
        (impl_Grid_at a0 ((x1586, x1589, ()) : (Vec 2 Int))).bind fun y1591 =>
        bif inB y1591.1.1 (List.length y1551.1.1) then
          bif (iLe 0 (List.getD y1551.1.1 y1591.1.1.toNat (0 : Int))) then
            (impl_Grid_at a0 ((x1586, x1589, ()) : (Vec 2 Int))).bind fun y1594 =>
            bif inB y1594.1.1 (List.length y1551.1.1) then
              (impl_Grid_at a0 s1578.2.1).bind fun y1597 =>
              bif inB y1597.1.1 (List.length y1551.1.1) then
                bif (iEq (iAdd .i64 y1590.1.1 (List.getD y1551.1.1 y1594.1.1.toNat (0 : Int))) (List.getD y1551.1.1 y1597.1.1.toNat (0 : Int))) then
                  Option.map Sum.inr (
                    bif room (List.length s1578.1 + 1) 4 then
                      some (Sum.inl ((s1578.1 ++ ([(x1586, x1589, ())] : (List (Vec 2 Int)))), ((x1586, x1589, ()) : (Vec 2 Int)), ()))
                    else none)
                else
                some (Sum.inl ((iAdd .i64 s1581.1 1), ()))
              else none
            else none
          else
          some (Sum.inl ((iAdd .i64 s1581.1 1), ()))
        else none
      else
      some (Sum.inl ((iAdd .i64 s1581.1 1), ()))
    else none
  else
  Option.map Sum.inr (
    bif room (List.length s1578.1 + 1) 4 then
      some (Sum.inl ((s1578.1 ++ ([s1578.2.1] : (List (Vec 2 Int)))), s1578.2.1, ()))
    else none)
noncomputable def impl_BestRoute_l11 (a2 : (Vec 2 Int)) (x1553 : Int) (a0 : (Int × (Int × ((List Int) × Unit)))) (y1551 : (((List Int) × Unit) × Unit)) (s1578 : ((List (Vec 2 Int)) × (Vec 2 Int) × Unit)) : Option (((List (Vec 2 Int)) × (Vec 2 Int) × Unit) ⊕ (((List (Vec 2 Int)) × Int × Int × Unit) × Unit)) :=
  bif (! (iEq (Vec.getD 2 s1578.2.1 0 (0 : Int)) (Vec.getD 2 a2 0 (0 : Int)) && (iEq (Vec.getD 2 s1578.2.1 1 (0 : Int)) (Vec.getD 2 a2 1 (0 : Int)) && true))) then
    (impl_ways).bind fun y1580 =>
    run (impl_BestRoute_l13 y1580 s1578 a0 y1551) ((0 : Int), ())
  else
  Option.map Sum.inr (some ((s1578.1, x1553, (0 : Int), ()), ()))
noncomputable def impl_BestRoute (a0 : (Int × (Int × ((List Int) × Unit)))) (a1 : (Vec 2 Int)) (a2 : (Vec 2 Int)) : Option (((List (Vec 2 Int)) × Int × Int × Unit) × Unit) :=
  (impl_checkSpots a0 ([a1, a2] : (List (Vec 2 Int)))).bind fun y1547 =>
  bif (! (iEq y1547.1.1 0)) then some ((([] : (List (Vec 2 Int))), (0 : Int), y1547.1.1, ()), ()) else
  (impl_Grid_isWall a0 a1).bind fun y1549 =>
  bif y1549.1.1 then some ((([] : (List (Vec 2 Int))), (0 : Int), (4 : Int), ()), ()) else
  (impl_Grid_isWall a0 a2).bind fun y1550 =>
  bif y1550.1.1 then some ((([] : (List (Vec 2 Int))), (0 : Int), (4 : Int), ()), ()) else
  (impl_Grid_costsTo a0 a2).bind fun y1551 =>
  (impl_Grid_at a0 a1).bind fun y1552 =>
  bif inB y1552.1.1 (List.length y1551.1.1) then
    let x1553 := List.getD y1551.1.1 y1552.1.1.toNat (0 : Int)
    bif (iLt x1553 0) then some ((([] : (List (Vec 2 Int))), (0 : Int), (6 : Int), ()), ()) else run (impl_BestRoute_l11 a2 x1553 a0 y1551) (([a1] : (List (Vec 2 Int))), a1, ())
  else none
noncomputable def impl_BestRoute_sg : Sig := ⟨[.v (.pair (.int .i64) (.pair (.int .i64) (.pair (.list (.int .u8)) (.unit)))), .v (.arr 2 (.int .i16)), .v (.arr 2 (.int .i16))], [.v (.rows (.arr 2 (.int .i16))), .v (.val (.int .i64)), .v (.val (.int .i64))], false⟩
noncomputable def impl_BestRoute_en : Entry := ⟨impl_BestRoute_sg, fun x => impl_BestRoute x.1 x.2.1 x.2.2.1⟩
theorem impl_BestRoute_eq (x : impl_BestRoute_sg.dom) : body (env [(65, impl_checkSpots_en), (66, impl_Grid_isWall_en), (67, impl_Grid_costsTo_en), (91, impl_Grid_at_en), (92, impl_ways_en), (93, impl_Grid_stepCost_en)]) [(11, .vary [(12, .rows (.arr 2 (.int .i16))), (4, .box (.val (.arr 2 (.int .i16))))]), (13, .vary [(52, .sc (.int .i64))])] Try.f37 impl_BestRoute_sg x = impl_BestRoute x.1 x.2.1 x.2.2.1 := by kernel_rfl
theorem impl_BestRoute_so : Sound Try.prog 37 impl_BestRoute_en := sound_of_body (envS (l := [(65, impl_checkSpots_en), (66, impl_Grid_isWall_en), (67, impl_Grid_costsTo_en), (91, impl_Grid_at_en), (92, impl_ways_en), (93, impl_Grid_stepCost_en)]) (⟨impl_checkSpots_so, impl_Grid_isWall_so, impl_Grid_costsTo_so, impl_Grid_at_so, impl_ways_so, impl_Grid_stepCost_so, trivial⟩)) Try.func37 (by kernel_rfl) rfl (fun x y h => (impl_BestRoute_eq x).trans h)

-- loop.example/g01204/impl.CostAt
noncomputable def impl_CostAt (a0 : (Int × (Int × ((List Int) × Unit)))) (a1 : (Vec 2 Int)) : Option ((Int × Int × Unit) × Unit) :=
  (impl_checkSpots a0 ([a1] : (List (Vec 2 Int)))).bind fun y1605 =>
  bif (! (iEq y1605.1.1 0)) then some (((0 : Int), y1605.1.1, ()), ()) else
  (impl_Grid_at a0 a1).bind fun y1607 =>
  bif inB y1607.1.1 (List.length a0.2.2.1) then
    some (((List.getD a0.2.2.1 y1607.1.1.toNat (0 : Int)), (0 : Int), ()), ())
  else none
noncomputable def impl_CostAt_sg : Sig := ⟨[.v (.pair (.int .i64) (.pair (.int .i64) (.pair (.list (.int .u8)) (.unit)))), .v (.arr 2 (.int .i16))], [.v (.val (.int .u8)), .v (.val (.int .i64))], false⟩
noncomputable def impl_CostAt_en : Entry := ⟨impl_CostAt_sg, fun x => impl_CostAt x.1 x.2.1⟩
theorem impl_CostAt_eq (x : impl_CostAt_sg.dom) : body (env [(65, impl_checkSpots_en), (91, impl_Grid_at_en)]) [] Try.f40 impl_CostAt_sg x = impl_CostAt x.1 x.2.1 := by kernel_rfl
theorem impl_CostAt_so : Sound Try.prog 40 impl_CostAt_en := sound_of_body (envS (l := [(65, impl_checkSpots_en), (91, impl_Grid_at_en)]) (⟨impl_checkSpots_so, impl_Grid_at_so, trivial⟩)) Try.func40 (by kernel_rfl) rfl (fun x y h => (impl_CostAt_eq x).trans h)

-- loop.example/g01204/impl.RouteCost
noncomputable def impl_RouteCost (a0 : (Int × (Int × ((List Int) × Unit)))) (a1 : (List (Vec 2 Int))) : Option ((Int × Int × Unit) × Unit) :=
  (impl_ValidRoute a0 a1).bind fun y1609 =>
  bif (! y1609.1.1) then some (((0 : Int), (1 : Int), ()), ()) else
  (impl_Grid_routeCost a0 a1).bind fun y1611 =>
  some ((y1611.1.1, (0 : Int), ()), ())
noncomputable def impl_RouteCost_sg : Sig := ⟨[.v (.pair (.int .i64) (.pair (.int .i64) (.pair (.list (.int .u8)) (.unit)))), .v (.list (.arr 2 (.int .i16)))], [.v (.val (.int .i64)), .v (.val (.int .i64))], false⟩
noncomputable def impl_RouteCost_en : Entry := ⟨impl_RouteCost_sg, fun x => impl_RouteCost x.1 x.2.1⟩
theorem impl_RouteCost_eq (x : impl_RouteCost_sg.dom) : body (env [(42, impl_ValidRoute_en), (97, impl_Grid_routeCost_en)]) [] Try.f41 impl_RouteCost_sg x = impl_RouteCost x.1 x.2.1 := by kernel_rfl
theorem impl_RouteCost_so : Sound Try.prog 41 impl_RouteCost_en := sound_of_body (envS (l := [(42, impl_ValidRoute_en), (97, impl_Grid_routeCost_en)]) (⟨impl_ValidRoute_so, impl_Grid_routeCost_so, trivial⟩)) Try.func41 (by kernel_rfl) rfl (fun x y h => (impl_RouteCost_eq x).trans h)

-- loop.example/g01204/laws.f6big
noncomputable def laws_f6big (a0 : (List Int)) : Option ((Bool × Unit) × Unit) :=
  some (((iLt 4096 (lenI a0)), ()), ())
noncomputable def laws_f6big_sg : Sig := ⟨[.v (.list (.int .u8))], [.v (.val (.bool))], false⟩
noncomputable def laws_f6big_en : Entry := ⟨laws_f6big_sg, fun x => laws_f6big x.1⟩
theorem laws_f6big_eq (x : laws_f6big_sg.dom) : body (env []) [] Try.f34 laws_f6big_sg x = laws_f6big x.1 := by kernel_rfl
theorem laws_f6big_so : Sound Try.prog 34 laws_f6big_en := sound_of_body (envS (l := []) (trivial)) Try.func34 (by kernel_rfl) rfl (fun x y h => (laws_f6big_eq x).trans h)

-- loop.example/g01204/spec.BestRoute
noncomputable def spec_BestRoute_l14 (y1619 : (((List (Vec 2 Int)) × Unit) × Unit)) (a0 : (Int × (Int × ((List Int) × Unit)))) (s1637 : ((List (Vec 2 Int)) × (Vec 2 Int) × Unit)) (y1615 : (((List Int) × Unit) × Unit)) (x1640 : Int) (s1641 : (Int × Unit)) : Option ((Int × Unit) ⊕ (((List (Vec 2 Int)) × (Vec 2 Int) × Unit) ⊕ (((List (Vec 2 Int)) × Int × Int × Unit) × Unit))) :=
  bif (iLt s1641.1 8) then
    bif inB s1641.1 (List.length y1619.1.1) then
      bif inB s1641.1 (List.length y1619.1.1) then
        (spec_l07Move a0 s1637.2.1 (Vec.getD 2 (List.getD y1619.1.1 s1641.1.toNat ((0, 0, ()) : (Vec 2 Int))) 0 (0 : Int)) (Vec.getD 2 (List.getD y1619.1.1 s1641.1.toNat ((0, 0, ()) : (Vec 2 Int))) 1 (0 : Int))).bind fun y1645 =>
        bif y1645.1.2.2.1 then
          (spec_l07Index a0 y1645.1.1).bind fun y1646 =>
          bif inB y1646.1.1 (List.length y1615.1.1) then
            bif (iLe 0 (List.getD y1615.1.1 y1646.1.1.toNat (0 : Int))) then
              (spec_l07Index a0 y1645.1.1).bind fun y1649 =>
              bif inB y1649.1.1 (List.length y1615.1.1) then
                bif (iEq (iAdd .i64 y1645.1.2.1 (List.getD y1615.1.1 y1649.1.1.toNat (0 : Int))) x1640) then
                  Option.map Sum.inr (
                    bif room (List.length s1637.1 + 1) 4 then
                      some (Sum.inl ((s1637.1 ++ ([y1645.1.1] : (List (Vec 2 Int)))), y1645.1.1, ()))
                    else none)
                else
                some (Sum.inl ((iAdd .i64 s1641.1 1), ()))
              else none
            else
            some (Sum.inl ((iAdd .i64 s1641.1 1), ()))
          else none
        else
        some (Sum.inl ((iAdd .i64 s1641.1 1), ()))
      else none
    else none
  else
  Option.map Sum.inr (
    bif room (List.length s1637.1 + 1) 4 then
      some (Sum.inl ((s1637.1 ++ ([s1637.2.1] : (List (Vec 2 Int)))), s1637.2.1, ()))
    else none)
noncomputable def spec_BestRoute_l11 (a2 : (Vec 2 Int)) (a0 : (Int × (Int × ((List Int) × Unit)))) (y1615 : (((List Int) × Unit) × Unit)) (x1617 : Int) (y1619 : (((List (Vec 2 Int)) × Unit) × Unit)) (s1637 : ((List (Vec 2 Int)) × (Vec 2 Int) × Unit)) : Option (((List (Vec 2 Int)) × (Vec 2 Int) × Unit) ⊕ (((List (Vec 2 Int)) × Int × Int × Unit) × Unit)) :=
  bif (! (iEq (Vec.getD 2 s1637.2.1 0 (0 : Int)) (Vec.getD 2 a2 0 (0 : Int)) && (iEq (Vec.getD 2 s1637.2.1 1 (0 : Int)) (Vec.getD 2 a2 1 (0 : Int)) && true))) then
    (spec_l07Index a0 s1637.2.1).bind fun y1639 =>
    bif inB y1639.1.1 (List.length y1615.1.1) then
      let x1640 := List.getD y1615.1.1 y1639.1.1.toNat (0 : Int)
      run (spec_BestRoute_l14 y1619 a0 s1637 y1615 x1640) ((0 : Int), ())
    else none
  else
  Option.map Sum.inr (some ((s1637.1, x1617, (0 : Int), ()), ()))
noncomputable def spec_BestRoute (a0 : (Int × (Int × ((List Int) × Unit)))) (a1 : (Vec 2 Int)) (a2 : (Vec 2 Int)) : Option (((List (Vec 2 Int)) × Int × Int × Unit) × Unit) :=
  (spec_l07Open a0 ([a1, a2] : (List (Vec 2 Int)))).bind fun y1613 =>
  bif (! (iEq y1613.1.1 0)) then some ((([] : (List (Vec 2 Int))), (0 : Int), y1613.1.1, ()), ()) else
  (spec_l07Costs a0 a2).bind fun y1615 =>
  (spec_l07Index a0 a1).bind fun y1616 =>
  bif inB y1616.1.1 (List.length y1615.1.1) then
    let x1617 := List.getD y1615.1.1 y1616.1.1.toNat (0 : Int)
    bif (iLt x1617 0) then some ((([] : (List (Vec 2 Int))), (0 : Int), (6 : Int), ()), ()) else
    (spec_l07Ways).bind fun y1619 =>
    run (spec_BestRoute_l11 a2 a0 y1615 x1617 y1619) (([a1] : (List (Vec 2 Int))), a1, ())
  else none
noncomputable def spec_BestRoute_sg : Sig := ⟨[.v (.pair (.int .i64) (.pair (.int .i64) (.pair (.list (.int .u8)) (.unit)))), .v (.arr 2 (.int .i16)), .v (.arr 2 (.int .i16))], [.v (.rows (.arr 2 (.int .i16))), .v (.val (.int .i64)), .v (.val (.int .i64))], false⟩
noncomputable def spec_BestRoute_en : Entry := ⟨spec_BestRoute_sg, fun x => spec_BestRoute x.1 x.2.1 x.2.2.1⟩
theorem spec_BestRoute_eq (x : spec_BestRoute_sg.dom) : body (env [(62, spec_l07Open_en), (63, spec_l07Costs_en), (94, spec_l07Index_en), (95, spec_l07Ways_en), (96, spec_l07Move_en)]) [(11, .vary [(13, .rows (.arr 2 (.int .i16))), (14, .box (.val (.arr 2 (.int .i16))))]), (14, .vary [(16, .sc (.int .i64))])] Try.f38 spec_BestRoute_sg x = spec_BestRoute x.1 x.2.1 x.2.2.1 := by kernel_rfl
theorem spec_BestRoute_so : Sound Try.prog 38 spec_BestRoute_en := sound_of_body (envS (l := [(62, spec_l07Open_en), (63, spec_l07Costs_en), (94, spec_l07Index_en), (95, spec_l07Ways_en), (96, spec_l07Move_en)]) (⟨spec_l07Open_so, spec_l07Costs_so, spec_l07Index_so, spec_l07Ways_so, spec_l07Move_so, trivial⟩)) Try.func38 (by kernel_rfl) rfl (fun x y h => (spec_BestRoute_eq x).trans h)

-- loop.example/g01204/spec.l00From
noncomputable def spec_l00From (a0 : (List Int)) : Option ((((List Int) × (Int × (Int × Unit))) × Unit) × Unit) :=
  some ((((a0, 0, 0, ()) : ((List Int) × (Int × (Int × Unit)))), ()), ())
noncomputable def spec_l00From_sg : Sig := ⟨[.v (.list (.int .u8))], [.p (.val (.pair (.list (.int .u8)) (.pair (.int .i64) (.pair (.int .u64) (.unit)))))], true⟩
noncomputable def spec_l00From_en : Entry := ⟨spec_l00From_sg, fun x => spec_l00From x.1⟩
theorem spec_l00From_eq (x : spec_l00From_sg.dom) : body (env []) [] Try.f89 spec_l00From_sg x = spec_l00From x.1 := by kernel_rfl
theorem spec_l00From_so : Sound Try.prog 89 spec_l00From_en := sound_of_body (envS (l := []) (trivial)) Try.func89 (by kernel_rfl) rfl (fun x y h => (spec_l00From_eq x).trans h)

-- (*loop.example/g01204/spec.l00Src).next
noncomputable def spec_l00Src_next (a0 : ((List Int) × (Int × (Int × Unit)))) : Option ((Int × Unit) × (((List Int) × (Int × (Int × Unit))) × Unit)) :=
  bif (iLt a0.2.1 (lenI a0.1)) then
    bif inB a0.2.1 (List.length a0.1) then
      let x1747 := iWrap .i64 (List.getD a0.1 a0.2.1.toNat (0 : Int))
      let x1748 := iAdd .i64 a0.2.1 1
      let x1752 := iAdd .u64 (iAdd .u64 (iMul .u64 a0.2.2.1 6364136223846793005) (iWrap .u64 x1747)) 1442695040888963407
      bif (iLe x1748 (lenI a0.1)) then some ((x1747, ()), (((a0.1, x1748, x1752, a0.2.2.2) : ((List Int) × (Int × (Int × Unit)))), ())) else
      some (((iWrap .i64 (iAnd .u64 (iShr .u64 x1752 40) 255)), ()), (((a0.1, x1748, x1752, a0.2.2.2) : ((List Int) × (Int × (Int × Unit)))), ()))
    else none
  else
  let x1757 := iAdd .i64 a0.2.1 1
  let x1760 := iAdd .u64 (iAdd .u64 (iMul .u64 a0.2.2.1 6364136223846793005) 0) 1442695040888963407
  bif (iLe x1757 (lenI a0.1)) then some (((0 : Int), ()), (((a0.1, x1757, x1760, a0.2.2.2) : ((List Int) × (Int × (Int × Unit)))), ())) else
  some (((iWrap .i64 (iAnd .u64 (iShr .u64 x1760 40) 255)), ()), (((a0.1, x1757, x1760, a0.2.2.2) : ((List Int) × (Int × (Int × Unit)))), ()))
noncomputable def spec_l00Src_next_sg : Sig := ⟨[.io (.val (.pair (.list (.int .u8)) (.pair (.int .i64) (.pair (.int .u64) (.unit)))))], [.v (.val (.int .i64))], true⟩
noncomputable def spec_l00Src_next_en : Entry := ⟨spec_l00Src_next_sg, fun x => spec_l00Src_next x.1⟩
theorem spec_l00Src_next_eq (x : spec_l00Src_next_sg.dom) : body (env []) [] Try.f150 spec_l00Src_next_sg x = spec_l00Src_next x.1 := by kernel_rfl
theorem spec_l00Src_next_so : Sound Try.prog 150 spec_l00Src_next_en := sound_of_body (envS (l := []) (trivial)) Try.func150 (by kernel_rfl) rfl (fun x y h => (spec_l00Src_next_eq x).trans h)

-- (*loop.example/g01204/spec.l00Src).pick
noncomputable def spec_l00Src_pick (a0 : ((List Int) × (Int × (Int × Unit)))) (a1 : Int) : Option ((Int × Unit) × (((List Int) × (Int × (Int × Unit))) × Unit)) :=
  bif (iLe a1 1) then some (((0 : Int), ()), (a0, ())) else
  (spec_l00Src_next a0).bind fun y1738 =>
  bif (iLt 200 a1) then
    (spec_l00Src_next y1738.2.1).bind fun y1741 =>
    bif iEq a1 0 then none else
    some (((iRem .i64 (iAdd .i64 (iMul .i64 y1738.1.1 256) y1741.1.1) a1), ()), (y1741.2.1, ()))
  else
  bif iEq a1 0 then none else
  some (((iRem .i64 y1738.1.1 a1), ()), (y1738.2.1, ()))
noncomputable def spec_l00Src_pick_sg : Sig := ⟨[.io (.val (.pair (.list (.int .u8)) (.pair (.int .i64) (.pair (.int .u64) (.unit))))), .v (.int .i64)], [.v (.val (.int .i64))], true⟩
noncomputable def spec_l00Src_pick_en : Entry := ⟨spec_l00Src_pick_sg, fun x => spec_l00Src_pick x.1 x.2.1⟩
theorem spec_l00Src_pick_eq (x : spec_l00Src_pick_sg.dom) : body (env [(150, spec_l00Src_next_en)]) [] Try.f90 spec_l00Src_pick_sg x = spec_l00Src_pick x.1 x.2.1 := by kernel_rfl
theorem spec_l00Src_pick_so : Sound Try.prog 90 spec_l00Src_pick_en := sound_of_body (envS (l := [(150, spec_l00Src_next_en)]) (⟨spec_l00Src_next_so, trivial⟩)) Try.func90 (by kernel_rfl) rfl (fun x y h => (spec_l00Src_pick_eq x).trans h)

-- loop.example/g01204/spec.EmptyGrid
noncomputable def spec_EmptyGrid (a0 : Int) (a1 : Int) : Option (((Int × (Int × ((List Int) × Unit))) × Int × Unit) × Unit) :=
  (spec_l00In a0 (1 : Int) (24 : Int)).bind fun y1765 =>
  bif (! y1765.1.1) then some ((((0, 0, [], ()) : (Int × (Int × ((List Int) × Unit)))), (2 : Int), ()), ()) else
  (spec_l00In a1 (1 : Int) (24 : Int)).bind fun y1767 =>
  bif (! y1767.1.1) then some ((((0, 0, [], ()) : (Int × (Int × ((List Int) × Unit)))), (2 : Int), ()), ()) else
  let x1769 := iMul .i64 a0 a1
  bif (iLe 0 x1769 && iLe x1769 x1769 && room x1769.toNat 1) then some ((((a0, a1, List.replicate x1769.toNat (0 : Int), ()) : (Int × (Int × ((List Int) × Unit)))), (0 : Int), ()), ()) else none
noncomputable def spec_EmptyGrid_sg : Sig := ⟨[.v (.int .i64), .v (.int .i64)], [.v (.pair (.val (.int .i64)) (.pair (.val (.int .i64)) (.pair (.rows (.int .u8)) (.val (.unit))))), .v (.val (.int .i64))], false⟩
noncomputable def spec_EmptyGrid_en : Entry := ⟨spec_EmptyGrid_sg, fun x => spec_EmptyGrid x.1 x.2.1⟩
theorem spec_EmptyGrid_eq (x : spec_EmptyGrid_sg.dom) : body (env [(101, spec_l00In_en)]) [] Try.f105 spec_EmptyGrid_sg x = spec_EmptyGrid x.1 x.2.1 := by kernel_rfl
theorem spec_EmptyGrid_so : Sound Try.prog 105 spec_EmptyGrid_en := sound_of_body (envS (l := [(101, spec_l00In_en)]) (⟨spec_l00In_so, trivial⟩)) Try.func105 (by kernel_rfl) rfl (fun x y h => (spec_EmptyGrid_eq x).trans h)

-- loop.example/g01204/spec.l07Drawn
noncomputable def spec_l07Drawn_l4 (y1665 : ((Int × Unit) × (((List Int) × (Int × (Int × Unit))) × Unit))) (s1680 : (Int × (Int × (Int × ((List Int) × Unit))) × ((List Int) × (Int × (Int × Unit))) × Unit)) : Option ((Int × (Int × (Int × ((List Int) × Unit))) × ((List Int) × (Int × (Int × Unit))) × Unit) ⊕ (((Int × (Int × ((List Int) × Unit))) × Unit) × (((List Int) × (Int × (Int × Unit))) × Unit))) :=
  bif (iLt s1680.1 (lenI s1680.2.1.2.2.1)) then
    (spec_l00Src_pick s1680.2.2.1 (12 : Int)).bind fun y1682 =>
    let x1683 := iEq y1682.1.1 0
    bif x1683 then
      bif x1683 then
        bif (iLt 0 y1665.1.1) then
          bif inB s1680.1 (List.length s1680.2.1.2.2.1) then
            some (Sum.inl ((iAdd .i64 s1680.1 1), ((s1680.2.1.1, s1680.2.1.2.1, (List.set s1680.2.1.2.2.1 s1680.1.toNat (255 : Int)), s1680.2.1.2.2.2) : (Int × (Int × ((List Int) × Unit)))), y1682.2.1, ()))
          else none
        else
        some (Sum.inl ((iAdd .i64 s1680.1 1), ((s1680.2.1.1, s1680.2.1.2.1, s1680.2.1.2.2.1, s1680.2.1.2.2.2) : (Int × (Int × ((List Int) × Unit)))), y1682.2.1, ()))
      else
      bif (iEq y1682.1.1 3) then
        (spec_l00Src_pick y1682.2.1 (9 : Int)).bind fun y1689 =>
        bif inB s1680.1 (List.length s1680.2.1.2.2.1) then
          some (Sum.inl ((iAdd .i64 s1680.1 1), ((s1680.2.1.1, s1680.2.1.2.1, (List.set s1680.2.1.2.2.1 s1680.1.toNat (iWrap .u8 (iMul .i64 10 (iAdd .i64 1 y1689.1.1)))), s1680.2.1.2.2.2) : (Int × (Int × ((List Int) × Unit)))), y1689.2.1, ()))
        else none
      else
      bif (iEq y1682.1.1 4) then
        (spec_l00Src_pick y1682.2.1 (256 : Int)).bind fun y1696 =>
        bif inB s1680.1 (List.length s1680.2.1.2.2.1) then
          some (Sum.inl ((iAdd .i64 s1680.1 1), ((s1680.2.1.1, s1680.2.1.2.1, (List.set s1680.2.1.2.2.1 s1680.1.toNat (iWrap .u8 y1696.1.1)), s1680.2.1.2.2.2) : (Int × (Int × ((List Int) × Unit)))), y1696.2.1, ()))
        else none
      else
      some (Sum.inl ((iAdd .i64 s1680.1 1), ((s1680.2.1.1, s1680.2.1.2.1, s1680.2.1.2.2.1, s1680.2.1.2.2.2) : (Int × (Int × ((List Int) × Unit)))), y1682.2.1, ()))
    else
    let x1701 := iEq y1682.1.1 1
    bif x1701 then
      bif x1701 then
        bif (iLt 0 y1665.1.1) then
          bif inB s1680.1 (List.length s1680.2.1.2.2.1) then
            some (Sum.inl ((iAdd .i64 s1680.1 1), ((s1680.2.1.1, s1680.2.1.2.1, (List.set s1680.2.1.2.2.1 s1680.1.toNat (255 : Int)), s1680.2.1.2.2.2) : (Int × (Int × ((List Int) × Unit)))), y1682.2.1, ()))
          else none
        else
        some (Sum.inl ((iAdd .i64 s1680.1 1), ((s1680.2.1.1, s1680.2.1.2.1, s1680.2.1.2.2.1, s1680.2.1.2.2.2) : (Int × (Int × ((List Int) × Unit)))), y1682.2.1, ()))
      else
      bif (iEq y1682.1.1 3) then
        (spec_l00Src_pick y1682.2.1 (9 : Int)).bind fun y1707 =>
        bif inB s1680.1 (List.length s1680.2.1.2.2.1) then
          some (Sum.inl ((iAdd .i64 s1680.1 1), ((s1680.2.1.1, s1680.2.1.2.1, (List.set s1680.2.1.2.2.1 s1680.1.toNat (iWrap .u8 (iMul .i64 10 (iAdd .i64 1 y1707.1.1)))), s1680.2.1.2.2.2) : (Int × (Int × ((List Int) × Unit)))), y1707.2.1, ()))
        else none
      else
      bif (iEq y1682.1.1 4) then
        (spec_l00Src_pick y1682.2.1 (256 : Int)).bind fun y1714 =>
        bif inB s1680.1 (List.length s1680.2.1.2.2.1) then
          some (Sum.inl ((iAdd .i64 s1680.1 1), ((s1680.2.1.1, s1680.2.1.2.1, (List.set s1680.2.1.2.2.1 s1680.1.toNat (iWrap .u8 y1714.1.1)), s1680.2.1.2.2.2) : (Int × (Int × ((List Int) × Unit)))), y1714.2.1, ()))
        else none
      else
      some (Sum.inl ((iAdd .i64 s1680.1 1), ((s1680.2.1.1, s1680.2.1.2.1, s1680.2.1.2.2.1, s1680.2.1.2.2.2) : (Int × (Int × ((List Int) × Unit)))), y1682.2.1, ()))
    else
    bif (iEq y1682.1.1 2) then
      bif (iLt 0 y1665.1.1) then
        bif inB s1680.1 (List.length s1680.2.1.2.2.1) then
          some (Sum.inl ((iAdd .i64 s1680.1 1), ((s1680.2.1.1, s1680.2.1.2.1, (List.set s1680.2.1.2.2.1 s1680.1.toNat (255 : Int)), s1680.2.1.2.2.2) : (Int × (Int × ((List Int) × Unit)))), y1682.2.1, ()))
        else none
      else
      some (Sum.inl ((iAdd .i64 s1680.1 1), ((s1680.2.1.1, s1680.2.1.2.1, s1680.2.1.2.2.1, s1680.2.1.2.2.2) : (Int × (Int × ((List Int) × Unit)))), y1682.2.1, ()))
    else
    bif (iEq y1682.1.1 3) then
      (spec_l00Src_pick y1682.2.1 (9 : Int)).bind fun y1725 =>
      bif inB s1680.1 (List.length s1680.2.1.2.2.1) then
        some (Sum.inl ((iAdd .i64 s1680.1 1), ((s1680.2.1.1, s1680.2.1.2.1, (List.set s1680.2.1.2.2.1 s1680.1.toNat (iWrap .u8 (iMul .i64 10 (iAdd .i64 1 y1725.1.1)))), s1680.2.1.2.2.2) : (Int × (Int × ((List Int) × Unit)))), y1725.2.1, ()))
      else none
    else
    bif (iEq y1682.1.1 4) then
      (spec_l00Src_pick y1682.2.1 (256 : Int)).bind fun y1732 =>
      bif inB s1680.1 (List.length s1680.2.1.2.2.1) then
        some (Sum.inl ((iAdd .i64 s1680.1 1), ((s1680.2.1.1, s1680.2.1.2.1, (List.set s1680.2.1.2.2.1 s1680.1.toNat (iWrap .u8 y1732.1.1)), s1680.2.1.2.2.2) : (Int × (Int × ((List Int) × Unit)))), y1732.2.1, ()))
      else none
    else
    some (Sum.inl ((iAdd .i64 s1680.1 1), ((s1680.2.1.1, s1680.2.1.2.1, s1680.2.1.2.2.1, s1680.2.1.2.2.2) : (Int × (Int × ((List Int) × Unit)))), y1682.2.1, ()))
  else
  Option.map Sum.inr (some ((((s1680.2.1.1, s1680.2.1.2.1, s1680.2.1.2.2.1, s1680.2.1.2.2.2) : (Int × (Int × ((List Int) × Unit)))), ()), (s1680.2.2.1, ())))
noncomputable def spec_l07Drawn (a0 : ((List Int) × (Int × (Int × Unit)))) : Option (((Int × (Int × ((List Int) × Unit))) × Unit) × (((List Int) × (Int × (Int × Unit))) × Unit)) :=
  (spec_l00Src_pick a0 (7 : Int)).bind fun y1660 =>
  (spec_l00Src_pick y1660.2.1 (7 : Int)).bind fun y1662 =>
  (spec_EmptyGrid (iAdd .i64 1 y1660.1.1) (iAdd .i64 1 y1662.1.1)).bind fun y1664 =>
  (spec_l00Src_pick y1662.2.1 (4 : Int)).bind fun y1665 =>
  run (spec_l07Drawn_l4 y1665) ((0 : Int), ((y1664.1.1.1, y1664.1.1.2.1, y1664.1.1.2.2.1, y1664.1.1.2.2.2) : (Int × (Int × ((List Int) × Unit)))), y1665.2.1, ())
noncomputable def spec_l07Drawn_sg : Sig := ⟨[.io (.val (.pair (.list (.int .u8)) (.pair (.int .i64) (.pair (.int .u64) (.unit)))))], [.v (.pair (.val (.int .i64)) (.pair (.val (.int .i64)) (.pair (.rows (.int .u8)) (.val (.unit)))))], true⟩
noncomputable def spec_l07Drawn_en : Entry := ⟨spec_l07Drawn_sg, fun x => spec_l07Drawn x.1⟩
theorem spec_l07Drawn_eq (x : spec_l07Drawn_sg.dom) : body (env [(90, spec_l00Src_pick_en), (105, spec_EmptyGrid_en)]) [(4, .vary [(6, .sc (.int .i64)), (3, .box (.pair (.val (.int .i64)) (.pair (.val (.int .i64)) (.pair (.rows (.int .u8)) (.val (.unit)))))), (0, .box (.val (.pair (.list (.int .u8)) (.pair (.int .i64) (.pair (.int .u64) (.unit))))))])] Try.f88 spec_l07Drawn_sg x = spec_l07Drawn x.1 := by kernel_rfl
theorem spec_l07Drawn_so : Sound Try.prog 88 spec_l07Drawn_en := sound_of_body (envS (l := [(90, spec_l00Src_pick_en), (105, spec_EmptyGrid_en)]) (⟨spec_l00Src_pick_so, spec_EmptyGrid_so, trivial⟩)) Try.func88 (by kernel_rfl) rfl (fun x y h => (spec_l07Drawn_eq x).trans h)

-- loop.example/g01204/spec.P6Grid
noncomputable def spec_P6Grid (a0 : (List Int)) : Option (((Int × (Int × ((List Int) × Unit))) × Unit) × Unit) :=
  (spec_l00From a0).bind fun y1658 =>
  (spec_l07Drawn y1658.1.1).bind fun y1659 =>
  some ((((y1659.1.1.1, y1659.1.1.2.1, y1659.1.1.2.2.1, y1659.1.1.2.2.2) : (Int × (Int × ((List Int) × Unit)))), ()), ())
noncomputable def spec_P6Grid_sg : Sig := ⟨[.v (.list (.int .u8))], [.v (.pair (.val (.int .i64)) (.pair (.val (.int .i64)) (.pair (.rows (.int .u8)) (.val (.unit)))))], false⟩
noncomputable def spec_P6Grid_en : Entry := ⟨spec_P6Grid_sg, fun x => spec_P6Grid x.1⟩
theorem spec_P6Grid_eq (x : spec_P6Grid_sg.dom) : body (env [(88, spec_l07Drawn_en), (89, spec_l00From_en)]) [] Try.f35 spec_P6Grid_sg x = spec_P6Grid x.1 := by kernel_rfl
theorem spec_P6Grid_so : Sound Try.prog 35 spec_P6Grid_en := sound_of_body (envS (l := [(88, spec_l07Drawn_en), (89, spec_l00From_en)]) (⟨spec_l07Drawn_so, spec_l00From_so, trivial⟩)) Try.func35 (by kernel_rfl) rfl (fun x y h => (spec_P6Grid_eq x).trans h)

-- loop.example/g01204/spec.P6Spot
noncomputable def spec_P6Spot (a0 : (List Int)) (a1 : (Int × (Int × ((List Int) × Unit)))) : Option (((Vec 2 Int) × Unit) × Unit) :=
  (spec_l00From a0).bind fun y1770 =>
  (spec_l00Src_pick y1770.1.1 a1.1).bind fun y1771 =>
  (spec_l00Src_pick y1771.2.1 a1.2.1).bind fun y1773 =>
  some (((((iWrap .i16 y1771.1.1), (iWrap .i16 y1773.1.1), ()) : (Vec 2 Int)), ()), ())
noncomputable def spec_P6Spot_sg : Sig := ⟨[.v (.list (.int .u8)), .v (.pair (.int .i64) (.pair (.int .i64) (.pair (.list (.int .u8)) (.unit))))], [.v (.val (.arr 2 (.int .i16)))], false⟩
noncomputable def spec_P6Spot_en : Entry := ⟨spec_P6Spot_sg, fun x => spec_P6Spot x.1 x.2.1⟩
theorem spec_P6Spot_eq (x : spec_P6Spot_sg.dom) : body (env [(89, spec_l00From_en), (90, spec_l00Src_pick_en)]) [] Try.f36 spec_P6Spot_sg x = spec_P6Spot x.1 x.2.1 := by kernel_rfl
theorem spec_P6Spot_so : Sound Try.prog 36 spec_P6Spot_en := sound_of_body (envS (l := [(89, spec_l00From_en), (90, spec_l00Src_pick_en)]) (⟨spec_l00From_so, spec_l00Src_pick_so, trivial⟩)) Try.func36 (by kernel_rfl) rfl (fun x y h => (spec_P6Spot_eq x).trans h)

-- loop.example/g01204/spec.SameSpots
noncomputable def spec_SameSpots_l4 (a0 : (List (Vec 2 Int))) (a1 : (List (Vec 2 Int))) (s1776 : (Int × Unit)) : Option ((Int × Unit) ⊕ ((Bool × Unit) × Unit)) :=
  bif (iLt s1776.1 (lenI a0)) then
    bif inB s1776.1 (List.length a0) then
      let x1778 := List.getD a0 s1776.1.toNat ((0, 0, ()) : (Vec 2 Int))
      bif inB s1776.1 (List.length a1) then
        let x1779 := List.getD a1 s1776.1.toNat ((0, 0, ()) : (Vec 2 Int))
        bif (! (iEq (Vec.getD 2 x1778 0 (0 : Int)) (Vec.getD 2 x1779 0 (0 : Int)) && (iEq (Vec.getD 2 x1778 1 (0 : Int)) (Vec.getD 2 x1779 1 (0 : Int)) && true))) then
          Option.map Sum.inr (some ((false, ()), ()))
        else
        some (Sum.inl ((iAdd .i64 s1776.1 1), ()))
      else none
    else none
  else
  Option.map Sum.inr (some ((true, ()), ()))
noncomputable def spec_SameSpots (a0 : (List (Vec 2 Int))) (a1 : (List (Vec 2 Int))) : Option ((Bool × Unit) × Unit) :=
  bif (! (iEq (lenI a0) (lenI a1))) then some ((false, ()), ()) else run (spec_SameSpots_l4 a0 a1) ((0 : Int), ())
noncomputable def spec_SameSpots_sg : Sig := ⟨[.v (.list (.arr 2 (.int .i16))), .v (.list (.arr 2 (.int .i16)))], [.v (.val (.bool))], false⟩
noncomputable def spec_SameSpots_en : Entry := ⟨spec_SameSpots_sg, fun x => spec_SameSpots x.1 x.2.1⟩
theorem spec_SameSpots_eq (x : spec_SameSpots_sg.dom) : body (env []) [(4, .vary [(5, .sc (.int .i64))])] Try.f39 spec_SameSpots_sg x = spec_SameSpots x.1 x.2.1 := by kernel_rfl
theorem spec_SameSpots_so : Sound Try.prog 39 spec_SameSpots_en := sound_of_body (envS (l := []) (trivial)) Try.func39 (by kernel_rfl) rfl (fun x y h => (spec_SameSpots_eq x).trans h)

-- loop.example/g01204/laws.FnRoutes
noncomputable def laws_FnRoutes_l33 (x1455 : Int) (x1457 : Int) (s1458 : (Int × Unit)) (y1409 : (((Int × (Int × ((List Int) × Unit))) × Unit) × Unit)) (y1426 : (((List Int) × Int × Unit) × Unit)) (s1452 : (Int × Unit)) (s1460 : (Int × Unit)) : Option ((Int × Unit) ⊕ ((Int × Unit) ⊕ ((Int × Unit) ⊕ ((Bool × Unit) × Unit)))) :=
  bif (iLe s1460.1 1) then
    let x1462 := iAdd .i16 x1455 s1460.1
    let x1463 := iAdd .i16 x1457 s1458.1
    (impl_RouteCost ((y1409.1.1.1, y1409.1.1.2.1, y1409.1.1.2.2.1, y1409.1.1.2.2.2) : (Int × (Int × ((List Int) × Unit)))) ([(x1455, x1457, ()), (x1462, x1463, ())] : (List (Vec 2 Int)))).bind fun y1464 =>
    bif (! (iEq y1464.1.2.1 0)) then
      some (Sum.inl ((iAdd .i16 s1460.1 1), ()))
    else
    let x1472 := iAdd .i64 (iMul .i64 (iWrap .i64 (Vec.getD 2 (List.getD ([(x1455, x1457, ()), (x1462, x1463, ())] : (List (Vec 2 Int))) 1 ((0, 0, ()) : (Vec 2 Int))) 1 (0 : Int))) y1409.1.1.1) (iWrap .i64 (Vec.getD 2 (List.getD ([(x1455, x1457, ()), (x1462, x1463, ())] : (List (Vec 2 Int))) 1 ((0, 0, ()) : (Vec 2 Int))) 0 (0 : Int)))
    bif inB x1472 (List.length y1426.1.1) then
      bif (iLe 0 (List.getD y1426.1.1 x1472.toNat (0 : Int))) then
        bif inB s1452.1 (List.length y1426.1.1) then
          bif (iLt (List.getD y1426.1.1 s1452.1.toNat (0 : Int)) 0) then
            Option.map Sum.inr (Option.map Sum.inr (Option.map Sum.inr (some ((false, ()), ()))))
          else
          bif inB s1452.1 (List.length y1426.1.1) then
            bif inB x1472 (List.length y1426.1.1) then
              bif (iLt (iAdd .i64 y1464.1.1 (List.getD y1426.1.1 x1472.toNat (0 : Int))) (List.getD y1426.1.1 s1452.1.toNat (0 : Int))) then
                Option.map Sum.inr (Option.map Sum.inr (Option.map Sum.inr (some ((false, ()), ()))))
              else
              some (Sum.inl ((iAdd .i16 s1460.1 1), ()))
            else none
          else none
        else none
      else
      some (Sum.inl ((iAdd .i16 s1460.1 1), ()))
    else none
  else
  Option.map Sum.inr (some (Sum.inl ((iAdd .i16 s1458.1 1), ())))
noncomputable def laws_FnRoutes_l30 (s1452 : (Int × Unit)) (x1455 : Int) (x1457 : Int) (y1409 : (((Int × (Int × ((List Int) × Unit))) × Unit) × Unit)) (y1426 : (((List Int) × Int × Unit) × Unit)) (s1458 : (Int × Unit)) : Option ((Int × Unit) ⊕ ((Int × Unit) ⊕ ((Bool × Unit) × Unit))) :=
  bif (iLe s1458.1 1) then run (laws_FnRoutes_l33 x1455 x1457 s1458 y1409 y1426 s1452) (((-1 : Int) : Int), ()) else
  Option.map Sum.inr (some (Sum.inl ((iAdd .i64 s1452.1 1), ())))
noncomputable def laws_FnRoutes_l26 (y1426 : (((List Int) × Int × Unit) × Unit)) (y1409 : (((Int × (Int × ((List Int) × Unit))) × Unit) × Unit)) (s1452 : (Int × Unit)) : Option ((Int × Unit) ⊕ ((Bool × Unit) × Unit)) :=
  bif (iLt s1452.1 (lenI y1426.1.1)) then
    bif iEq y1409.1.1.1 0 then none else
    let x1455 := iWrap .i16 (iRem .i64 s1452.1 y1409.1.1.1)
    bif iEq y1409.1.1.1 0 then none else
    let x1457 := iWrap .i16 (iQuo .i64 s1452.1 y1409.1.1.1)
    run (laws_FnRoutes_l30 s1452 x1455 x1457 y1409 y1426) (((-1 : Int) : Int), ())
  else
  Option.map Sum.inr (some ((true, ()), ()))
noncomputable def laws_FnRoutes_l33_2 (x1517 : Int) (x1519 : Int) (s1520 : (Int × Unit)) (y1409 : (((Int × (Int × ((List Int) × Unit))) × Unit) × Unit)) (y1488 : (((List Int) × Int × Unit) × Unit)) (s1514 : (Int × Unit)) (s1522 : (Int × Unit)) : Option ((Int × Unit) ⊕ ((Int × Unit) ⊕ ((Int × Unit) ⊕ ((Bool × Unit) × Unit)))) :=
  bif (iLe s1522.1 1) then
    let x1524 := iAdd .i16 x1517 s1522.1
    let x1525 := iAdd .i16 x1519 s1520.1
    (impl_RouteCost ((y1409.1.1.1, y1409.1.1.2.1, y1409.1.1.2.2.1, y1409.1.1.2.2.2) : (Int × (Int × ((List Int) × Unit)))) ([(x1517, x1519, ()), (x1524, x1525, ())] : (List (Vec 2 Int)))).bind fun y1526 =>
    bif (! (iEq y1526.1.2.1 0)) then
      some (Sum.inl ((iAdd .i16 s1522.1 1), ()))
    else
    let x1534 := iAdd .i64 (iMul .i64 (iWrap .i64 (Vec.getD 2 (List.getD ([(x1517, x1519, ()), (x1524, x1525, ())] : (List (Vec 2 Int))) 1 ((0, 0, ()) : (Vec 2 Int))) 1 (0 : Int))) y1409.1.1.1) (iWrap .i64 (Vec.getD 2 (List.getD ([(x1517, x1519, ()), (x1524, x1525, ())] : (List (Vec 2 Int))) 1 ((0, 0, ()) : (Vec 2 Int))) 0 (0 : Int)))
    bif inB x1534 (List.length y1488.1.1) then
      bif (iLe 0 (List.getD y1488.1.1 x1534.toNat (0 : Int))) then
        bif inB s1514.1 (List.length y1488.1.1) then
          bif (iLt (List.getD y1488.1.1 s1514.1.toNat (0 : Int)) 0) then
            Option.map Sum.inr (Option.map Sum.inr (Option.map Sum.inr (some ((false, ()), ()))))
          else
          bif inB s1514.1 (List.length y1488.1.1) then
            bif inB x1534 (List.length y1488.1.1) then
              bif (iLt (iAdd .i64 y1526.1.1 (List.getD y1488.1.1 x1534.toNat (0 : Int))) (List.getD y1488.1.1 s1514.1.toNat (0 : Int))) then
                Option.map Sum.inr (Option.map Sum.inr (Option.map Sum.inr (some ((false, ()), ()))))
              else
              some (Sum.inl ((iAdd .i16 s1522.1 1), ()))
            else none
          else none
        else none
      else
      some (Sum.inl ((iAdd .i16 s1522.1 1), ()))
    else none
  else
  Option.map Sum.inr (some (Sum.inl ((iAdd .i16 s1520.1 1), ())))
noncomputable def laws_FnRoutes_l30_2 (s1514 : (Int × Unit)) (x1517 : Int) (x1519 : Int) (y1409 : (((Int × (Int × ((List Int) × Unit))) × Unit) × Unit)) (y1488 : (((List Int) × Int × Unit) × Unit)) (s1520 : (Int × Unit)) : Option ((Int × Unit) ⊕ ((Int × Unit) ⊕ ((Bool × Unit) × Unit))) :=
  bif (iLe s1520.1 1) then run (laws_FnRoutes_l33_2 x1517 x1519 s1520 y1409 y1488 s1514) (((-1 : Int) : Int), ()) else
  Option.map Sum.inr (some (Sum.inl ((iAdd .i64 s1514.1 1), ())))
noncomputable def laws_FnRoutes_l26_2 (y1488 : (((List Int) × Int × Unit) × Unit)) (y1409 : (((Int × (Int × ((List Int) × Unit))) × Unit) × Unit)) (s1514 : (Int × Unit)) : Option ((Int × Unit) ⊕ ((Bool × Unit) × Unit)) :=
  bif (iLt s1514.1 (lenI y1488.1.1)) then
    bif iEq y1409.1.1.1 0 then none else
    let x1517 := iWrap .i16 (iRem .i64 s1514.1 y1409.1.1.1)
    bif iEq y1409.1.1.1 0 then none else
    let x1519 := iWrap .i16 (iQuo .i64 s1514.1 y1409.1.1.1)
    run (laws_FnRoutes_l30_2 s1514 x1517 x1519 y1409 y1488) (((-1 : Int) : Int), ())
  else
  Option.map Sum.inr (some ((true, ()), ()))
noncomputable def laws_FnRoutes (a0 : (List Int)) (a1 : (List Int)) : Option ((Bool × Unit) × Unit) :=
  (laws_f6big a0).bind fun y1407 =>
  bif y1407.1.1 then some ((true, ()), ()) else
  (laws_f6big a1).bind fun y1408 =>
  bif y1408.1.1 then some ((true, ()), ()) else
  (spec_P6Grid a0).bind fun y1409 =>
  (spec_P6Spot a1 ((y1409.1.1.1, y1409.1.1.2.1, y1409.1.1.2.2.1, y1409.1.1.2.2.2) : (Int × (Int × ((List Int) × Unit))))).bind fun y1410 =>
  (spec_P6Spot a0 ((y1409.1.1.1, y1409.1.1.2.1, y1409.1.1.2.2.1, y1409.1.1.2.2.2) : (Int × (Int × ((List Int) × Unit))))).bind fun y1411 =>
  (impl_BestRoute ((y1409.1.1.1, y1409.1.1.2.1, y1409.1.1.2.2.1, y1409.1.1.2.2.2) : (Int × (Int × ((List Int) × Unit)))) y1410.1.1 y1411.1.1).bind fun y1412 =>
  (spec_BestRoute ((y1409.1.1.1, y1409.1.1.2.1, y1409.1.1.2.2.1, y1409.1.1.2.2.2) : (Int × (Int × ((List Int) × Unit)))) y1410.1.1 y1411.1.1).bind fun y1413 =>
  bif (! (iEq y1412.1.2.2.1 y1413.1.2.2.1)) then some ((false, ()), ()) else
  bif (! (iEq y1412.1.2.1 y1413.1.2.1)) then some ((false, ()), ()) else
  (spec_SameSpots y1412.1.1 y1413.1.1).bind fun y1416 =>
  bif (! y1416.1.1) then some ((false, ()), ()) else
  (impl_CostAt ((y1409.1.1.1, y1409.1.1.2.1, y1409.1.1.2.2.1, y1409.1.1.2.2.2) : (Int × (Int × ((List Int) × Unit)))) y1410.1.1).bind fun y1418 =>
  (impl_CostAt ((y1409.1.1.1, y1409.1.1.2.1, y1409.1.1.2.2.1, y1409.1.1.2.2.2) : (Int × (Int × ((List Int) × Unit)))) y1411.1.1).bind fun y1419 =>
  bif (! (iEq y1418.1.2.1 0)) then some ((false, ()), ()) else
  bif (! (iEq y1419.1.2.1 0)) then some ((false, ()), ()) else
  let x1422 := iEq y1412.1.2.2.1 4
  bif (iEq y1418.1.1 255) then
    bif (! (bEq x1422 true)) then some ((false, ()), ()) else
    bif (iEq y1412.1.2.2.1 4) then some ((true, ()), ()) else
    (impl_CostsTo ((y1409.1.1.1, y1409.1.1.2.1, y1409.1.1.2.2.1, y1409.1.1.2.2.2) : (Int × (Int × ((List Int) × Unit)))) y1411.1.1).bind fun y1426 =>
    bif (! (iEq y1426.1.2.1 0)) then some ((false, ()), ()) else
    bif (! (iEq (lenI y1426.1.1) (iMul .i64 y1409.1.1.1 y1409.1.1.2.1))) then some ((false, ()), ()) else
    let x1435 := iAdd .i64 (iMul .i64 (iWrap .i64 (Vec.getD 2 y1410.1.1 1 (0 : Int))) y1409.1.1.1) (iWrap .i64 (Vec.getD 2 y1410.1.1 0 (0 : Int)))
    bif (! (iEq y1412.1.2.2.1 0)) then
      bif (iEq y1412.1.2.2.1 6) then
        bif inB x1435 (List.length y1426.1.1) then
          some (((iEq (List.getD y1426.1.1 x1435.toNat (0 : Int)) (-1 : Int)), ()), ())
        else none
      else some ((false, ()), ())
    else
    (impl_RouteCost ((y1409.1.1.1, y1409.1.1.2.1, y1409.1.1.2.2.1, y1409.1.1.2.2.2) : (Int × (Int × ((List Int) × Unit)))) y1413.1.1).bind fun y1440 =>
    bif (! (iEq y1440.1.2.1 0)) then some ((false, ()), ()) else
    bif (! (iEq y1440.1.1 y1413.1.2.1)) then some ((false, ()), ()) else
    bif inB x1435 (List.length y1426.1.1) then
      bif (! (iEq (List.getD y1426.1.1 x1435.toNat (0 : Int)) y1413.1.2.1)) then some ((false, ()), ()) else
      (impl_ValidRoute ((y1409.1.1.1, y1409.1.1.2.1, y1409.1.1.2.2.1, y1409.1.1.2.2.2) : (Int × (Int × ((List Int) × Unit)))) y1413.1.1).bind fun y1445 =>
      bif (! y1445.1.1) then some ((false, ()), ()) else
      bif inB 0 (List.length y1413.1.1) then
        let x1447 := List.getD y1413.1.1 0 ((0, 0, ()) : (Vec 2 Int))
        bif (! (iEq (Vec.getD 2 x1447 0 (0 : Int)) (Vec.getD 2 y1410.1.1 0 (0 : Int)) && (iEq (Vec.getD 2 x1447 1 (0 : Int)) (Vec.getD 2 y1410.1.1 1 (0 : Int)) && true))) then some ((false, ()), ()) else
        let x1449 := iSub .i64 (lenI y1413.1.1) 1
        bif inB x1449 (List.length y1413.1.1) then
          let x1450 := List.getD y1413.1.1 x1449.toNat ((0, 0, ()) : (Vec 2 Int))
          bif (! (iEq (Vec.getD 2 x1450 0 (0 : Int)) (Vec.getD 2 y1411.1.1 0 (0 : Int)) && (iEq (Vec.getD 2 x1450 1 (0 : Int)) (Vec.getD 2 y1411.1.1 1 (0 : Int)) && true))) then some ((false, ()), ()) else run (laws_FnRoutes_l26 y1426 y1409) ((0 : Int), ())
        else none
      else none
    else none
  else
  bif (! (bEq x1422 (iEq y1419.1.1 255))) then some ((false, ()), ()) else
  bif (iEq y1412.1.2.2.1 4) then some ((true, ()), ()) else
  (impl_CostsTo ((y1409.1.1.1, y1409.1.1.2.1, y1409.1.1.2.2.1, y1409.1.1.2.2.2) : (Int × (Int × ((List Int) × Unit)))) y1411.1.1).bind fun y1488 =>
  bif (! (iEq y1488.1.2.1 0)) then some ((false, ()), ()) else
  bif (! (iEq (lenI y1488.1.1) (iMul .i64 y1409.1.1.1 y1409.1.1.2.1))) then some ((false, ()), ()) else
  let x1497 := iAdd .i64 (iMul .i64 (iWrap .i64 (Vec.getD 2 y1410.1.1 1 (0 : Int))) y1409.1.1.1) (iWrap .i64 (Vec.getD 2 y1410.1.1 0 (0 : Int)))
  bif (! (iEq y1412.1.2.2.1 0)) then
    bif (iEq y1412.1.2.2.1 6) then
      bif inB x1497 (List.length y1488.1.1) then
        some (((iEq (List.getD y1488.1.1 x1497.toNat (0 : Int)) (-1 : Int)), ()), ())
      else none
    else some ((false, ()), ())
  else
  (impl_RouteCost ((y1409.1.1.1, y1409.1.1.2.1, y1409.1.1.2.2.1, y1409.1.1.2.2.2) : (Int × (Int × ((List Int) × Unit)))) y1413.1.1).bind fun y1502 =>
  bif (! (iEq y1502.1.2.1 0)) then some ((false, ()), ()) else
  bif (! (iEq y1502.1.1 y1413.1.2.1)) then some ((false, ()), ()) else
  bif inB x1497 (List.length y1488.1.1) then
    bif (! (iEq (List.getD y1488.1.1 x1497.toNat (0 : Int)) y1413.1.2.1)) then some ((false, ()), ()) else
    (impl_ValidRoute ((y1409.1.1.1, y1409.1.1.2.1, y1409.1.1.2.2.1, y1409.1.1.2.2.2) : (Int × (Int × ((List Int) × Unit)))) y1413.1.1).bind fun y1507 =>
    bif (! y1507.1.1) then some ((false, ()), ()) else
    bif inB 0 (List.length y1413.1.1) then
      let x1509 := List.getD y1413.1.1 0 ((0, 0, ()) : (Vec 2 Int))
      bif (! (iEq (Vec.getD 2 x1509 0 (0 : Int)) (Vec.getD 2 y1410.1.1 0 (0 : Int)) && (iEq (Vec.getD 2 x1509 1 (0 : Int)) (Vec.getD 2 y1410.1.1 1 (0 : Int)) && true))) then some ((false, ()), ()) else
      let x1511 := iSub .i64 (lenI y1413.1.1) 1
      bif inB x1511 (List.length y1413.1.1) then
        let x1512 := List.getD y1413.1.1 x1511.toNat ((0, 0, ()) : (Vec 2 Int))
        bif (! (iEq (Vec.getD 2 x1512 0 (0 : Int)) (Vec.getD 2 y1411.1.1 0 (0 : Int)) && (iEq (Vec.getD 2 x1512 1 (0 : Int)) (Vec.getD 2 y1411.1.1 1 (0 : Int)) && true))) then some ((false, ()), ()) else run (laws_FnRoutes_l26_2 y1488 y1409) ((0 : Int), ())
      else none
    else none
  else none
noncomputable def laws_FnRoutes_sg : Sig := ⟨[.v (.list (.int .u8)), .v (.list (.int .u8))], [.v (.val (.bool))], false⟩
noncomputable def laws_FnRoutes_en : Entry := ⟨laws_FnRoutes_sg, fun x => laws_FnRoutes x.1 x.2.1⟩
theorem laws_FnRoutes_eq (x : laws_FnRoutes_sg.dom) : body (env [(15, impl_CostsTo_en), (34, laws_f6big_en), (35, spec_P6Grid_en), (36, spec_P6Spot_en), (37, impl_BestRoute_en), (38, spec_BestRoute_en), (39, spec_SameSpots_en), (40, impl_CostAt_en), (41, impl_RouteCost_en), (42, impl_ValidRoute_en)]) [(26, .vary [(23, .sc (.int .i64))]), (30, .vary [(25, .sc (.int .i16))]), (33, .vary [(26, .sc (.int .i16))])] Try.f6 laws_FnRoutes_sg x = laws_FnRoutes x.1 x.2.1 := by kernel_rfl
theorem laws_FnRoutes_so : Sound Try.prog 6 laws_FnRoutes_en := sound_of_body (envS (l := [(15, impl_CostsTo_en), (34, laws_f6big_en), (35, spec_P6Grid_en), (36, spec_P6Spot_en), (37, impl_BestRoute_en), (38, spec_BestRoute_en), (39, spec_SameSpots_en), (40, impl_CostAt_en), (41, impl_RouteCost_en), (42, impl_ValidRoute_en)]) (⟨impl_CostsTo_so, laws_f6big_so, spec_P6Grid_so, spec_P6Spot_so, impl_BestRoute_so, spec_BestRoute_so, spec_SameSpots_so, impl_CostAt_so, impl_RouteCost_so, impl_ValidRoute_so, trivial⟩)) Try.func6 (by kernel_rfl) rfl (fun x y h => (laws_FnRoutes_eq x).trans h)

-- loop.example/g01204/laws.FnExactBestRoute
noncomputable def laws_FnExactBestRoute (a0 : (Int × (Int × ((List Int) × Unit)))) (a1 : (Vec 2 Int)) (a2 : (Vec 2 Int)) : Option ((Bool × Unit) × Unit) :=
  (laws_szGrid a0 (1048576 : Int)).bind fun y1782 =>
  bif (iLt y1782.1.1 0) then some ((true, ()), ()) else
  (laws_toGrid a0).bind fun y1784 =>
  (laws_toSpot a1).bind fun y1785 =>
  (laws_toSpot a2).bind fun y1786 =>
  (spec_BestRoute ((y1784.1.1.1, y1784.1.1.2.1, y1784.1.1.2.2.1, y1784.1.1.2.2.2) : (Int × (Int × ((List Int) × Unit)))) y1785.1.1 y1786.1.1).bind fun y1787 =>
  (laws_toGrid a0).bind fun y1788 =>
  (laws_toSpot a1).bind fun y1789 =>
  (laws_toSpot a2).bind fun y1790 =>
  (impl_BestRoute ((y1788.1.1.1, y1788.1.1.2.1, y1788.1.1.2.2.1, y1788.1.1.2.2.2) : (Int × (Int × ((List Int) × Unit)))) y1789.1.1 y1790.1.1).bind fun y1791 =>
  (laws_eqSpotS y1791.1.1 y1787.1.1).bind fun y1792 =>
  bif (! y1792.1.1) then some ((false, ()), ()) else
  bif (! (iEq y1791.1.2.1 y1787.1.2.1)) then some ((false, ()), ()) else
  bif (! (iEq y1791.1.2.2.1 y1787.1.2.2.1)) then some ((false, ()), ()) else
  (laws_toGrid a0).bind fun y1796 =>
  (laws_eqGrid ((y1788.1.1.1, y1788.1.1.2.1, y1788.1.1.2.2.1, y1788.1.1.2.2.2) : (Int × (Int × ((List Int) × Unit)))) ((y1796.1.1.1, y1796.1.1.2.1, y1796.1.1.2.2.1, y1796.1.1.2.2.2) : (Int × (Int × ((List Int) × Unit))))).bind fun y1797 =>
  bif (! y1797.1.1) then some ((false, ()), ()) else
  (laws_markGrid ((y1788.1.1.1, y1788.1.1.2.1, y1788.1.1.2.2.1, y1788.1.1.2.2.2) : (Int × (Int × ((List Int) × Unit)))) (1 : Int)).bind fun y1799 =>
  bif (iLt y1799.1.1 0) then some ((false, ()), ()) else
  (laws_eqSpotS y1791.1.1 y1787.1.1).bind fun y1801 =>
  bif (! y1801.1.1) then some ((false, ()), ()) else
  bif (! (iEq y1791.1.2.1 y1787.1.2.1)) then some ((false, ()), ()) else
  bif (! (iEq y1791.1.2.2.1 y1787.1.2.2.1)) then some ((false, ()), ()) else
  (laws_markSpotS y1791.1.1 (1 : Int)).bind fun y1805 =>
  (laws_heldSpotS y1805.2.1 (1 : Int)).bind fun y1806 =>
  bif (iLt y1806.1.1 0) then some ((false, ()), ()) else
  bif (! (iEq y1806.1.1 y1805.1.1)) then some ((false, ()), ()) else
  (laws_toGrid a0).bind fun y1809 =>
  (laws_toSpot a1).bind fun y1810 =>
  (laws_toSpot a2).bind fun y1811 =>
  (impl_BestRoute ((y1809.1.1.1, y1809.1.1.2.1, y1809.1.1.2.2.1, y1809.1.1.2.2.2) : (Int × (Int × ((List Int) × Unit)))) y1810.1.1 y1811.1.1).bind fun y1812 =>
  (laws_eqSpotS y1812.1.1 y1787.1.1).bind fun y1813 =>
  bif (! y1813.1.1) then some ((false, ()), ()) else
  bif (! (iEq y1812.1.2.1 y1787.1.2.1)) then some ((false, ()), ()) else
  bif (! (iEq y1812.1.2.2.1 y1787.1.2.2.1)) then some ((false, ()), ()) else
  (laws_heldSpotS y1805.2.1 (1 : Int)).bind fun y1817 =>
  bif (iLt y1817.1.1 0) then some ((false, ()), ()) else
  bif (! (iEq y1817.1.1 y1805.1.1)) then some ((false, ()), ()) else some ((true, ()), ())
noncomputable def laws_FnExactBestRoute_sg : Sig := ⟨[.v (.pair (.int .i64) (.pair (.int .i64) (.pair (.list (.int .u8)) (.unit)))), .v (.arr 2 (.int .i16)), .v (.arr 2 (.int .i16))], [.v (.val (.bool))], false⟩
noncomputable def laws_FnExactBestRoute_en : Entry := ⟨laws_FnExactBestRoute_sg, fun x => laws_FnExactBestRoute x.1 x.2.1 x.2.2.1⟩
theorem laws_FnExactBestRoute_eq (x : laws_FnExactBestRoute_sg.dom) : body (env [(11, laws_szGrid_en), (13, laws_toGrid_en), (14, laws_toSpot_en), (17, laws_eqGrid_en), (18, laws_markGrid_en), (25, laws_eqSpotS_en), (26, laws_markSpotS_en), (27, laws_heldSpotS_en), (37, impl_BestRoute_en), (38, spec_BestRoute_en)]) [] Try.f7 laws_FnExactBestRoute_sg x = laws_FnExactBestRoute x.1 x.2.1 x.2.2.1 := by kernel_rfl
theorem laws_FnExactBestRoute_so : Sound Try.prog 7 laws_FnExactBestRoute_en := sound_of_body (envS (l := [(11, laws_szGrid_en), (13, laws_toGrid_en), (14, laws_toSpot_en), (17, laws_eqGrid_en), (18, laws_markGrid_en), (25, laws_eqSpotS_en), (26, laws_markSpotS_en), (27, laws_heldSpotS_en), (37, impl_BestRoute_en), (38, spec_BestRoute_en)]) (⟨laws_szGrid_so, laws_toGrid_so, laws_toSpot_so, laws_eqGrid_so, laws_markGrid_so, laws_eqSpotS_so, laws_markSpotS_so, laws_heldSpotS_so, impl_BestRoute_so, spec_BestRoute_so, trivial⟩)) Try.func7 (by kernel_rfl) rfl (fun x y h => (laws_FnExactBestRoute_eq x).trans h)

-- loop.example/g01204/impl.EmptyGrid
noncomputable def impl_EmptyGrid (a0 : Int) (a1 : Int) : Option (((Int × (Int × ((List Int) × Unit))) × Int × Unit) × Unit) :=
  (impl_within a0 (1 : Int) (24 : Int)).bind fun y1918 =>
  bif (! y1918.1.1) then some ((((0, 0, [], ()) : (Int × (Int × ((List Int) × Unit)))), (2 : Int), ()), ()) else
  (impl_within a1 (1 : Int) (24 : Int)).bind fun y1920 =>
  bif (! y1920.1.1) then some ((((0, 0, [], ()) : (Int × (Int × ((List Int) × Unit)))), (2 : Int), ()), ()) else
  let x1922 := iMul .i64 a0 a1
  bif (iLe 0 x1922 && iLe x1922 x1922 && room x1922.toNat 1) then some ((((a0, a1, List.replicate x1922.toNat (0 : Int), ()) : (Int × (Int × ((List Int) × Unit)))), (0 : Int), ()), ()) else none
noncomputable def impl_EmptyGrid_sg : Sig := ⟨[.v (.int .i64), .v (.int .i64)], [.v (.pair (.val (.int .i64)) (.pair (.val (.int .i64)) (.pair (.rows (.int .u8)) (.val (.unit))))), .v (.val (.int .i64))], false⟩
noncomputable def impl_EmptyGrid_en : Entry := ⟨impl_EmptyGrid_sg, fun x => impl_EmptyGrid x.1 x.2.1⟩
theorem impl_EmptyGrid_eq (x : impl_EmptyGrid_sg.dom) : body (env [(99, impl_within_en)]) [] Try.f110 impl_EmptyGrid_sg x = impl_EmptyGrid x.1 x.2.1 := by kernel_rfl
theorem impl_EmptyGrid_so : Sound Try.prog 110 impl_EmptyGrid_en := sound_of_body (envS (l := [(99, impl_within_en)]) (⟨impl_within_so, trivial⟩)) Try.func110 (by kernel_rfl) rfl (fun x y h => (impl_EmptyGrid_eq x).trans h)

-- cmp.isNaN[int32]
noncomputable def cmp_isNaN_int32 (a0 : Int) : Option ((Bool × Unit) × Unit) :=
  some (((! (iEq a0 a0)), ()), ())
noncomputable def cmp_isNaN_int32_sg : Sig := ⟨[.v (.int .i32)], [.v (.val (.bool))], false⟩
noncomputable def cmp_isNaN_int32_en : Entry := ⟨cmp_isNaN_int32_sg, fun x => cmp_isNaN_int32 x.1⟩
theorem cmp_isNaN_int32_eq (x : cmp_isNaN_int32_sg.dom) : body (env []) [] Try.f227 cmp_isNaN_int32_sg x = cmp_isNaN_int32 x.1 := by kernel_rfl
theorem cmp_isNaN_int32_so : Sound Try.prog 227 cmp_isNaN_int32_en := sound_of_body (envS (l := []) (trivial)) Try.func227 (by kernel_rfl) rfl (fun x y h => (cmp_isNaN_int32_eq x).trans h)

-- cmp.Compare[int32]
noncomputable def cmp_Compare_int32 (a0 : Int) (a1 : Int) : Option ((Int × Unit) × Unit) :=
  (cmp_isNaN_int32 a0).bind fun y1948 =>
  (cmp_isNaN_int32 a1).bind fun y1949 =>
  bif y1948.1.1 then
    bif y1949.1.1 then some (((0 : Int), ()), ()) else some ((((-1 : Int) : Int), ()), ())
  else
  bif y1949.1.1 then some (((1 : Int), ()), ()) else
  bif (iLt a0 a1) then some ((((-1 : Int) : Int), ()), ()) else
  bif (iLt a1 a0) then some (((1 : Int), ()), ()) else some (((0 : Int), ()), ())
noncomputable def cmp_Compare_int32_sg : Sig := ⟨[.v (.int .i32), .v (.int .i32)], [.v (.val (.int .i64))], false⟩
noncomputable def cmp_Compare_int32_en : Entry := ⟨cmp_Compare_int32_sg, fun x => cmp_Compare_int32 x.1 x.2.1⟩
theorem cmp_Compare_int32_eq (x : cmp_Compare_int32_sg.dom) : body (env [(227, cmp_isNaN_int32_en)]) [] Try.f222 cmp_Compare_int32_sg x = cmp_Compare_int32 x.1 x.2.1 := by kernel_rfl
theorem cmp_Compare_int32_so : Sound Try.prog 222 cmp_Compare_int32_en := sound_of_body (envS (l := [(227, cmp_isNaN_int32_en)]) (⟨cmp_isNaN_int32_so, trivial⟩)) Try.func222 (by kernel_rfl) rfl (fun x y h => (cmp_Compare_int32_eq x).trans h)

-- slices.Compare[[]int32,int32]
noncomputable def slices_Compare_int32_l2 (a0 : (List Int)) (a1 : (List Int)) (s1939 : (Int × Unit)) : Option ((Int × Unit) ⊕ ((Int × Unit) × Unit)) :=
  bif (iLt s1939.1 (lenI a0)) then
    bif inB s1939.1 (List.length a0) then
      bif (iLe (lenI a1) s1939.1) then
        Option.map Sum.inr (some (((1 : Int), ()), ()))
      else
      bif inB s1939.1 (List.length a1) then
        (cmp_Compare_int32 (List.getD a0 s1939.1.toNat (0 : Int)) (List.getD a1 s1939.1.toNat (0 : Int))).bind fun y1944 =>
        bif (! (iEq y1944.1.1 0)) then
          Option.map Sum.inr (some ((y1944.1.1, ()), ()))
        else
        some (Sum.inl ((iAdd .i64 s1939.1 1), ()))
      else none
    else none
  else
  Option.map Sum.inr (bif (iLt (lenI a0) (lenI a1)) then some ((((-1 : Int) : Int), ()), ()) else some (((0 : Int), ()), ()))
noncomputable def slices_Compare_int32 (a0 : (List Int)) (a1 : (List Int)) : Option ((Int × Unit) × Unit) :=
  run (slices_Compare_int32_l2 a0 a1) ((0 : Int), ())
noncomputable def slices_Compare_int32_sg : Sig := ⟨[.v (.list (.int .i32)), .v (.list (.int .i32))], [.v (.val (.int .i64))], false⟩
noncomputable def slices_Compare_int32_en : Entry := ⟨slices_Compare_int32_sg, fun x => slices_Compare_int32 x.1 x.2.1⟩
theorem slices_Compare_int32_eq (x : slices_Compare_int32_sg.dom) : body (env [(222, cmp_Compare_int32_en)]) [(2, .vary [(11, .sc (.int .i64))])] Try.f203 slices_Compare_int32_sg x = slices_Compare_int32 x.1 x.2.1 := by kernel_rfl
theorem slices_Compare_int32_so : Sound Try.prog 203 slices_Compare_int32_en := sound_of_body (envS (l := [(222, cmp_Compare_int32_en)]) (⟨cmp_Compare_int32_so, trivial⟩)) Try.func203 (by kernel_rfl) rfl (fun x y h => (slices_Compare_int32_eq x).trans h)

-- loop.example/g01204/impl.comparePlaces
noncomputable def impl_comparePlaces (a0 : (Vec 3 Int)) (a1 : (Vec 3 Int)) : Option ((Int × Unit) × Unit) :=
  (slices_Compare_int32 ([Vec.getD 3 a0 0 (0 : Int), Vec.getD 3 a0 1 (0 : Int), Vec.getD 3 a0 2 (0 : Int)] : (List Int)) ([Vec.getD 3 a1 0 (0 : Int), Vec.getD 3 a1 1 (0 : Int), Vec.getD 3 a1 2 (0 : Int)] : (List Int))).bind fun y1938 =>
  some ((y1938.1.1, ()), ())
noncomputable def impl_comparePlaces_sg : Sig := ⟨[.v (.arr 3 (.int .i32)), .v (.arr 3 (.int .i32))], [.v (.val (.int .i64))], false⟩
noncomputable def impl_comparePlaces_en : Entry := ⟨impl_comparePlaces_sg, fun x => impl_comparePlaces x.1 x.2.1⟩
theorem impl_comparePlaces_eq (x : impl_comparePlaces_sg.dom) : body (env [(203, slices_Compare_int32_en)]) [] Try.f162 impl_comparePlaces_sg x = impl_comparePlaces x.1 x.2.1 := by kernel_rfl
theorem impl_comparePlaces_so : Sound Try.prog 162 impl_comparePlaces_en := sound_of_body (envS (l := [(203, slices_Compare_int32_en)]) (⟨slices_Compare_int32_so, trivial⟩)) Try.func162 (by kernel_rfl) rfl (fun x y h => (impl_comparePlaces_eq x).trans h)

-- loop.example/g01204/impl.isSide
noncomputable def impl_isSide (a0 : Nat) : Option ((Bool × Unit) × Unit) :=
  (impl_isFinite ([a0] : (List Nat))).bind fun y1953 =>
  bif y1953.1.1 then
    some (((fLt .f32 0 a0), ()), ())
  else some ((false, ()), ())
noncomputable def impl_isSide_sg : Sig := ⟨[.v (.flt .f32)], [.v (.val (.bool))], false⟩
noncomputable def impl_isSide_en : Entry := ⟨impl_isSide_sg, fun x => impl_isSide x.1⟩
theorem impl_isSide_eq (x : impl_isSide_sg.dom) : body (env [(111, impl_isFinite_en)]) [] Try.f112 impl_isSide_sg x = impl_isSide x.1 := by kernel_rfl
theorem impl_isSide_so : Sound Try.prog 112 impl_isSide_en := sound_of_body (envS (l := [(111, impl_isFinite_en)]) (⟨impl_isFinite_so, trivial⟩)) Try.func112 (by kernel_rfl) rfl (fun x y h => (impl_isSide_eq x).trans h)

-- loop.example/g01204/impl.isTime
noncomputable def impl_isTime (a0 : Int) : Option ((Bool × Unit) × Unit) :=
  (impl_within a0 (0 : Int) (1000000000 : Int)).bind fun y1959 =>
  some ((y1959.1.1, ()), ())
noncomputable def impl_isTime_sg : Sig := ⟨[.v (.int .i64)], [.v (.val (.bool))], false⟩
noncomputable def impl_isTime_en : Entry := ⟨impl_isTime_sg, fun x => impl_isTime x.1⟩
theorem impl_isTime_eq (x : impl_isTime_sg.dom) : body (env [(99, impl_within_en)]) [] Try.f202 impl_isTime_sg x = impl_isTime x.1 := by kernel_rfl
theorem impl_isTime_so : Sound Try.prog 202 impl_isTime_en := sound_of_body (envS (l := [(99, impl_within_en)]) (⟨impl_within_so, trivial⟩)) Try.func202 (by kernel_rfl) rfl (fun x y h => (impl_isTime_eq x).trans h)

-- loop.example/g01204/impl.validMark
noncomputable def impl_validMark (a0 : ((Vec 3 Int) × ((Vec 3 Nat) × (Nat × (Int × (Int × Unit)))))) : Option ((Bool × Unit) × Unit) :=
  (impl_IsFiniteVec a0.2.1).bind fun y1955 =>
  bif y1955.1.1 then
    (impl_isSide a0.2.2.1).bind fun y1956 =>
    bif y1956.1.1 then
      (impl_within a0.2.2.2.1 (1 : Int) (1000000 : Int)).bind fun y1957 =>
      bif y1957.1.1 then
        (impl_isTime a0.2.2.2.2.1).bind fun y1958 =>
        some ((y1958.1.1, ()), ())
      else some ((false, ()), ())
    else some ((false, ()), ())
  else some ((false, ()), ())
noncomputable def impl_validMark_sg : Sig := ⟨[.v (.pair (.arr 3 (.int .i32)) (.pair (.arr 3 (.flt .f32)) (.pair (.flt .f32) (.pair (.int .i64) (.pair (.int .i64) (.unit))))))], [.v (.val (.bool))], false⟩
noncomputable def impl_validMark_en : Entry := ⟨impl_validMark_sg, fun x => impl_validMark x.1⟩
theorem impl_validMark_eq (x : impl_validMark_sg.dom) : body (env [(99, impl_within_en), (112, impl_isSide_en), (190, impl_IsFiniteVec_en), (202, impl_isTime_en)]) [] Try.f161 impl_validMark_sg x = impl_validMark x.1 := by kernel_rfl
theorem impl_validMark_so : Sound Try.prog 161 impl_validMark_en := sound_of_body (envS (l := [(99, impl_within_en), (112, impl_isSide_en), (190, impl_IsFiniteVec_en), (202, impl_isTime_en)]) (⟨impl_within_so, impl_isSide_so, impl_IsFiniteVec_so, impl_isTime_so, trivial⟩)) Try.func161 (by kernel_rfl) rfl (fun x y h => (impl_validMark_eq x).trans h)

end Go.Proofs.Ytioniijhdkkieaa
