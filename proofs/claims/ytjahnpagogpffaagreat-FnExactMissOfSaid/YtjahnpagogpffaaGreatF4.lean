import Derived.Test.YtjahnpagogpffaaGreatF3
/- Functions on typed data: what the evaluation of each Go function is, and that it is sound. -/
namespace Go.Proofs.YtjahnpagogpffaaGreat
open Go Go.Tm
set_option linter.unusedVariables false
set_option maxRecDepth 100000
-- loop.example/g01204/spec.AddVec
noncomputable def spec_AddVec (a0 : (Vec 3 Nat)) (a1 : (Vec 3 Nat)) : Option (((Vec 3 Nat) × Unit) × Unit) :=
  some (((((fAdd .f32 (Vec.getD 3 a0 0 (0 : Nat)) (Vec.getD 3 a1 0 (0 : Nat))), (fAdd .f32 (Vec.getD 3 a0 1 (0 : Nat)) (Vec.getD 3 a1 1 (0 : Nat))), (fAdd .f32 (Vec.getD 3 a0 2 (0 : Nat)) (Vec.getD 3 a1 2 (0 : Nat))), ()) : (Vec 3 Nat)), ()), ())
noncomputable def spec_AddVec_sg : Sig := ⟨[.v (.arr 3 (.flt .f32)), .v (.arr 3 (.flt .f32))], [.v (.val (.arr 3 (.flt .f32)))], false⟩
noncomputable def spec_AddVec_en : Entry := ⟨spec_AddVec_sg, fun x => spec_AddVec x.1 x.2.1⟩
theorem spec_AddVec_eq (x : spec_AddVec_sg.dom) : body (env []) [] Tryz.f187 spec_AddVec_sg x = spec_AddVec x.1 x.2.1 := by kernel_rfl
theorem spec_AddVec_so : Sound Tryz.prog 187 spec_AddVec_en := sound_of_body (envS (l := []) (trivial)) Tryz.func187 (by kernel_rfl) rfl (fun x y h => (spec_AddVec_eq x).trans h)

-- loop.example/g01204/spec.ScaleVec
noncomputable def spec_ScaleVec (a0 : (Vec 3 Nat)) (a1 : Nat) : Option (((Vec 3 Nat) × Unit) × Unit) :=
  some (((((fMul .f32 (Vec.getD 3 a0 0 (0 : Nat)) a1), (fMul .f32 (Vec.getD 3 a0 1 (0 : Nat)) a1), (fMul .f32 (Vec.getD 3 a0 2 (0 : Nat)) a1), ()) : (Vec 3 Nat)), ()), ())
noncomputable def spec_ScaleVec_sg : Sig := ⟨[.v (.arr 3 (.flt .f32)), .v (.flt .f32)], [.v (.val (.arr 3 (.flt .f32)))], false⟩
noncomputable def spec_ScaleVec_en : Entry := ⟨spec_ScaleVec_sg, fun x => spec_ScaleVec x.1 x.2.1⟩
theorem spec_ScaleVec_eq (x : spec_ScaleVec_sg.dom) : body (env []) [] Tryz.f186 spec_ScaleVec_sg x = spec_ScaleVec x.1 x.2.1 := by kernel_rfl
theorem spec_ScaleVec_so : Sound Tryz.prog 186 spec_ScaleVec_en := sound_of_body (envS (l := []) (trivial)) Tryz.func186 (by kernel_rfl) rfl (fun x y h => (spec_ScaleVec_eq x).trans h)

-- loop.example/g01204/spec.l08Track
noncomputable def spec_l08Track_l8 (s3086 : ((List (Vec 3 Nat)) × Int × (Vec 3 Nat) × Unit)) (a0 : (Int × ((Vec 3 Nat) × ((List (Vec 3 Nat)) × ((List (Int × ((Vec 3 Nat) × (Int × (Int × Unit))))) × Unit))))) (y3091 : (((Vec 3 Nat) × Unit) × Unit)) (s3100 : ((List (Vec 3 Nat)) × Int × (Vec 3 Nat) × Unit)) : Option (((List (Vec 3 Nat)) × Int × (Vec 3 Nat) × Unit) ⊕ (((List (Vec 3 Nat)) × Int × (Vec 3 Nat) × Unit) ⊕ (((List (Vec 3 Nat)) × Int × Unit) × Unit))) :=
  bif inB s3086.2.1 (List.length a0.2.2.2.1) then
    bif (iLt s3100.2.1 ((List.getD a0.2.2.2.1 s3086.2.1.toNat ((0, (0, 0, 0, ()), 0, 0, ()) : (Int × ((Vec 3 Nat) × (Int × (Int × Unit)))))).1)) then
      (spec_AddVec s3100.2.2.1 y3091.1.1).bind fun y3103 =>
      (spec_l01Vec y3103.1.1).bind fun y3104 =>
      bif (! y3104.1.1) then
        Option.map Sum.inr (Option.map Sum.inr (some ((([] : (List (Vec 3 Nat))), (4 : Int), ()), ())))
      else
      bif room (List.length s3100.1 + 1) 12 then
        some (Sum.inl ((s3100.1 ++ ([y3103.1.1] : (List (Vec 3 Nat)))), (iAdd .i64 s3100.2.1 1), y3103.1.1, ()))
      else none
    else
    Option.map Sum.inr (some (Sum.inl (s3100.1, (iAdd .i64 s3086.2.1 1), s3100.2.2.1, ())))
  else none
noncomputable def spec_l08Track_l4 (a0 : (Int × ((Vec 3 Nat) × ((List (Vec 3 Nat)) × ((List (Int × ((Vec 3 Nat) × (Int × (Int × Unit))))) × Unit))))) (s3086 : ((List (Vec 3 Nat)) × Int × (Vec 3 Nat) × Unit)) : Option (((List (Vec 3 Nat)) × Int × (Vec 3 Nat) × Unit) ⊕ (((List (Vec 3 Nat)) × Int × Unit) × Unit)) :=
  bif (iLt s3086.2.1 (lenI a0.2.2.2.1)) then
    bif inB s3086.2.1 (List.length a0.2.2.2.1) then
      (spec_ScaleVec (((List.getD a0.2.2.2.1 s3086.2.1.toNat ((0, (0, 0, 0, ()), 0, 0, ()) : (Int × ((Vec 3 Nat) × (Int × (Int × Unit)))))).2).1) (fDiv .f32 1065353216 (fOfInt .f32 a0.1))).bind fun y3091 =>
      run (spec_l08Track_l8 s3086 a0 y3091) (s3086.1, (0 : Int), s3086.2.2.1, ())
    else none
  else
  Option.map Sum.inr (some ((s3086.1, (0 : Int), ()), ()))
noncomputable def spec_l08Track (a0 : (Int × ((Vec 3 Nat) × ((List (Vec 3 Nat)) × ((List (Int × ((Vec 3 Nat) × (Int × (Int × Unit))))) × Unit))))) : Option (((List (Vec 3 Nat)) × Int × Unit) × Unit) :=
  run (spec_l08Track_l4 a0) (([a0.2.1] : (List (Vec 3 Nat))), (0 : Int), a0.2.1, ())
noncomputable def spec_l08Track_sg : Sig := ⟨[.ro (.pair (.int .i64) (.pair (.arr 3 (.flt .f32)) (.pair (.list (.arr 3 (.flt .f32))) (.pair (.list (.pair (.int .i64) (.pair (.arr 3 (.flt .f32)) (.pair (.int .i64) (.pair (.int .i64) (.unit)))))) (.unit)))))], [.v (.rows (.arr 3 (.flt .f32))), .v (.val (.int .i64))], false⟩
noncomputable def spec_l08Track_en : Entry := ⟨spec_l08Track_sg, fun x => spec_l08Track x.1⟩
theorem spec_l08Track_eq (x : spec_l08Track_sg.dom) : body (env [(149, spec_l01Vec_en), (186, spec_ScaleVec_en), (187, spec_AddVec_en)]) [(4, .vary [(5, .rows (.arr 3 (.flt .f32))), (6, .sc (.int .i64)), (4, .box (.val (.arr 3 (.flt .f32))))]), (8, .vary [(5, .rows (.arr 3 (.flt .f32))), (8, .sc (.int .i64)), (4, .box (.val (.arr 3 (.flt .f32))))])] Tryz.f120 spec_l08Track_sg x = spec_l08Track x.1 := by kernel_rfl
theorem spec_l08Track_so : Sound Tryz.prog 120 spec_l08Track_en := sound_of_body (envS (l := [(149, spec_l01Vec_en), (186, spec_ScaleVec_en), (187, spec_AddVec_en)]) (⟨spec_l01Vec_so, spec_ScaleVec_so, spec_AddVec_so, trivial⟩)) Tryz.func120 (by kernel_rfl) rfl (fun x y h => (spec_l08Track_eq x).trans h)

-- loop.example/g01204/spec.l08Run
noncomputable def spec_l08Run_l12 (x2925 : (Int × ((Vec 3 Nat) × (Int × (Int × Unit))))) (y2889 : (((List (Vec 3 Nat)) × Int × Unit) × Unit)) (s2923 : (Int × Int × Int × (Int × ((Vec 3 Nat) × ((List (Vec 3 Nat)) × ((List (Int × ((Vec 3 Nat) × ((Vec 3 Int) × (Int × (Nat × Unit)))))) × Unit)))) × Unit)) (a0 : (Int × ((Vec 3 Nat) × ((List (Vec 3 Nat)) × ((List (Int × ((Vec 3 Nat) × (Int × (Int × Unit))))) × Unit))))) (s2940 : (Int × Int × Int × (Int × ((Vec 3 Nat) × ((List (Vec 3 Nat)) × ((List (Int × ((Vec 3 Nat) × ((Vec 3 Int) × (Int × (Nat × Unit)))))) × Unit)))) × Unit)) : Option ((Int × Int × Int × (Int × ((Vec 3 Nat) × ((List (Vec 3 Nat)) × ((List (Int × ((Vec 3 Nat) × ((Vec 3 Int) × (Int × (Nat × Unit)))))) × Unit)))) × Unit) ⊕ ((Int × Int × Int × (Int × ((Vec 3 Nat) × ((List (Vec 3 Nat)) × ((List (Int × ((Vec 3 Nat) × ((Vec 3 Int) × (Int × (Nat × Unit)))))) × Unit)))) × Unit) ⊕ (((Int × ((Vec 3 Nat) × ((List (Vec 3 Nat)) × ((List (Int × ((Vec 3 Nat) × ((Vec 3 Int) × (Int × (Nat × Unit)))))) × Unit)))) × Int × Unit) × Unit))) :=
  bif (iLe s2940.2.2.1 x2925.1) then
    let x2942 := iAdd .i64 s2940.2.1 1
    bif room (List.length s2940.2.2.2.1.2.2.2.1 + 1) 48 then
      let l2943 := s2940.2.2.2.1.2.2.2.1 ++ ([(1, (0, 0, 0, ()), (0, 0, 0, ()), 0, 0, ())] : (List (Int × ((Vec 3 Nat) × ((Vec 3 Int) × (Int × (Nat × Unit)))))))
      bif (iLt 0 x2925.2.2.1) then
        bif iEq x2925.2.2.1 0 then none else
        bif (iEq (iRem .i64 s2940.2.2.1 x2925.2.2.1) 0) then
          (spec_l08Sensor).bind fun y2947 =>
          bif inB x2942 (List.length y2889.1.1) then
            (spec_CountsOf y2947.1.1 (List.getD y2889.1.1 x2942.toNat ((0, 0, 0, ()) : (Vec 3 Nat)))).bind fun y2949 =>
            (spec_ShakeCounts y2949.1.1 s2940.1 (4 : Int)).bind fun y2950 =>
            bif room (List.length l2943 + 1) 48 then
              some (Sum.inl (y2950.1.2.1, x2942, (iAdd .i64 s2940.2.2.1 1), ((s2940.2.2.2.1.1, s2940.2.2.2.1.2.1, s2940.2.2.2.1.2.2.1, (l2943 ++ ([(3, (0, 0, 0, ()), y2950.1.1, 0, 0, ())] : (List (Int × ((Vec 3 Nat) × ((Vec 3 Int) × (Int × (Nat × Unit)))))))), s2940.2.2.2.1.2.2.2.2) : (Int × ((Vec 3 Nat) × ((List (Vec 3 Nat)) × ((List (Int × ((Vec 3 Nat) × ((Vec 3 Int) × (Int × (Nat × Unit)))))) × Unit))))), ()))
            else none
          else none
        else
        some (Sum.inl (s2940.1, x2942, (iAdd .i64 s2940.2.2.1 1), ((s2940.2.2.2.1.1, s2940.2.2.2.1.2.1, s2940.2.2.2.1.2.2.1, l2943, s2940.2.2.2.1.2.2.2.2) : (Int × ((Vec 3 Nat) × ((List (Vec 3 Nat)) × ((List (Int × ((Vec 3 Nat) × ((Vec 3 Int) × (Int × (Nat × Unit)))))) × Unit))))), ()))
      else
      some (Sum.inl (s2940.1, x2942, (iAdd .i64 s2940.2.2.1 1), ((s2940.2.2.2.1.1, s2940.2.2.2.1.2.1, s2940.2.2.2.1.2.2.1, l2943, s2940.2.2.2.1.2.2.2.2) : (Int × ((Vec 3 Nat) × ((List (Vec 3 Nat)) × ((List (Int × ((Vec 3 Nat) × ((Vec 3 Int) × (Int × (Nat × Unit)))))) × Unit))))), ()))
    else none
  else
  Option.map Sum.inr (
    bif (iLt x2925.2.2.2.1 0) then
      some (Sum.inl (s2940.1, s2940.2.1, (iAdd .i64 s2923.2.2.1 1), ((s2940.2.2.2.1.1, s2940.2.2.2.1.2.1, s2940.2.2.2.1.2.2.1, s2940.2.2.2.1.2.2.2.1, s2940.2.2.2.1.2.2.2.2) : (Int × ((Vec 3 Nat) × ((List (Vec 3 Nat)) × ((List (Int × ((Vec 3 Nat) × ((Vec 3 Int) × (Int × (Nat × Unit)))))) × Unit))))), ()))
    else
    let x2958 := iAdd .u32 (iMul .u32 1664525 s2940.1) 1013904223
    bif inB s2940.2.1 (List.length y2889.1.1) then
      bif inB x2925.2.2.2.1 (List.length a0.2.2.1) then
        (spec_SubVec (List.getD y2889.1.1 s2940.2.1.toNat ((0, 0, 0, ()) : (Vec 3 Nat))) (List.getD a0.2.2.1 x2925.2.2.2.1.toNat ((0, 0, 0, ()) : (Vec 3 Nat)))).bind fun y2966 =>
        (spec_LengthOf y2966.1.1).bind fun y2967 =>
        let x2969 := fAdd .f32 y2967.1.1 (fDiv .f32 (fOfInt .f32 (iSub .i64 (iWrap .i64 (iRem .u32 (iQuo .u32 x2958 65536) 9)) 4)) 1098907648)
        (spec_l01Finite x2969).bind fun y2970 =>
        bif (! y2970.1.1) then
          Option.map Sum.inr (some ((((0, (0, 0, 0, ()), [], [], ()) : (Int × ((Vec 3 Nat) × ((List (Vec 3 Nat)) × ((List (Int × ((Vec 3 Nat) × ((Vec 3 Int) × (Int × (Nat × Unit)))))) × Unit))))), (4 : Int), ()), ()))
        else
        bif room (List.length s2940.2.2.2.1.2.2.2.1 + 1) 48 then
          some (Sum.inl (x2958, s2940.2.1, (iAdd .i64 s2923.2.2.1 1), ((s2940.2.2.2.1.1, s2940.2.2.2.1.2.1, s2940.2.2.2.1.2.2.1, (s2940.2.2.2.1.2.2.2.1 ++ ([(4, (0, 0, 0, ()), (0, 0, 0, ()), x2925.2.2.2.1, x2969, ())] : (List (Int × ((Vec 3 Nat) × ((Vec 3 Int) × (Int × (Nat × Unit)))))))), s2940.2.2.2.1.2.2.2.2) : (Int × ((Vec 3 Nat) × ((List (Vec 3 Nat)) × ((List (Int × ((Vec 3 Nat) × ((Vec 3 Int) × (Int × (Nat × Unit)))))) × Unit))))), ()))
        else none
      else none
    else none)
noncomputable def spec_l08Run_l7 (a0 : (Int × ((Vec 3 Nat) × ((List (Vec 3 Nat)) × ((List (Int × ((Vec 3 Nat) × (Int × (Int × Unit))))) × Unit))))) (y2889 : (((List (Vec 3 Nat)) × Int × Unit) × Unit)) (s2923 : (Int × Int × Int × (Int × ((Vec 3 Nat) × ((List (Vec 3 Nat)) × ((List (Int × ((Vec 3 Nat) × ((Vec 3 Int) × (Int × (Nat × Unit)))))) × Unit)))) × Unit)) : Option ((Int × Int × Int × (Int × ((Vec 3 Nat) × ((List (Vec 3 Nat)) × ((List (Int × ((Vec 3 Nat) × ((Vec 3 Int) × (Int × (Nat × Unit)))))) × Unit)))) × Unit) ⊕ (((Int × ((Vec 3 Nat) × ((List (Vec 3 Nat)) × ((List (Int × ((Vec 3 Nat) × ((Vec 3 Int) × (Int × (Nat × Unit)))))) × Unit)))) × Int × Unit) × Unit)) :=
  bif (iLt s2923.2.2.1 (lenI a0.2.2.2.1)) then
    bif inB s2923.2.2.1 (List.length a0.2.2.2.1) then
      let x2925 := List.getD a0.2.2.2.1 s2923.2.2.1.toNat ((0, (0, 0, 0, ()), 0, 0, ()) : (Int × ((Vec 3 Nat) × (Int × (Int × Unit)))))
      bif room (List.length s2923.2.2.2.1.2.2.2.1 + 1) 48 then
        run (spec_l08Run_l12 x2925 y2889 s2923 a0) (s2923.1, s2923.2.1, (1 : Int), ((s2923.2.2.2.1.1, s2923.2.2.2.1.2.1, s2923.2.2.2.1.2.2.1, (s2923.2.2.2.1.2.2.2.1 ++ ([(2, x2925.2.1, (0, 0, 0, ()), 0, 0, ())] : (List (Int × ((Vec 3 Nat) × ((Vec 3 Int) × (Int × (Nat × Unit)))))))), s2923.2.2.2.1.2.2.2.2) : (Int × ((Vec 3 Nat) × ((List (Vec 3 Nat)) × ((List (Int × ((Vec 3 Nat) × ((Vec 3 Int) × (Int × (Nat × Unit)))))) × Unit))))), ())
      else none
    else none
  else
  Option.map Sum.inr (
    bif (iLt 1200 (lenI s2923.2.2.2.1.2.2.2.1)) then some ((((0, (0, 0, 0, ()), [], [], ()) : (Int × ((Vec 3 Nat) × ((List (Vec 3 Nat)) × ((List (Int × ((Vec 3 Nat) × ((Vec 3 Int) × (Int × (Nat × Unit)))))) × Unit))))), (3 : Int), ()), ()) else
    some ((((s2923.2.2.2.1.1, s2923.2.2.2.1.2.1, s2923.2.2.2.1.2.2.1, s2923.2.2.2.1.2.2.2.1, s2923.2.2.2.1.2.2.2.2) : (Int × ((Vec 3 Nat) × ((List (Vec 3 Nat)) × ((List (Int × ((Vec 3 Nat) × ((Vec 3 Int) × (Int × (Nat × Unit)))))) × Unit))))), (0 : Int), ()), ()))
noncomputable def spec_l08Run (a0 : (Int × ((Vec 3 Nat) × ((List (Vec 3 Nat)) × ((List (Int × ((Vec 3 Nat) × (Int × (Int × Unit))))) × Unit))))) (a1 : Int) : Option (((Int × ((Vec 3 Nat) × ((List (Vec 3 Nat)) × ((List (Int × ((Vec 3 Nat) × ((Vec 3 Int) × (Int × (Nat × Unit)))))) × Unit)))) × Int × Unit) × Unit) :=
  (spec_l08Track a0).bind fun y2889 =>
  bif (! (iEq y2889.1.2.1 0)) then some ((((0, (0, 0, 0, ()), [], [], ()) : (Int × ((Vec 3 Nat) × ((List (Vec 3 Nat)) × ((List (Int × ((Vec 3 Nat) × ((Vec 3 Int) × (Int × (Nat × Unit)))))) × Unit))))), y2889.1.2.1, ()), ()) else
  bif room (0 + List.length a0.2.2.1) 12 then
    run (spec_l08Run_l7 a0 y2889) (a1, (0 : Int), (0 : Int), ((a0.1, a0.2.1, (([] : (List (Vec 3 Nat))) ++ a0.2.2.1), [], ()) : (Int × ((Vec 3 Nat) × ((List (Vec 3 Nat)) × ((List (Int × ((Vec 3 Nat) × ((Vec 3 Int) × (Int × (Nat × Unit)))))) × Unit))))), ())
  else none
noncomputable def spec_l08Run_sg : Sig := ⟨[.ro (.pair (.int .i64) (.pair (.arr 3 (.flt .f32)) (.pair (.list (.arr 3 (.flt .f32))) (.pair (.list (.pair (.int .i64) (.pair (.arr 3 (.flt .f32)) (.pair (.int .i64) (.pair (.int .i64) (.unit)))))) (.unit))))), .v (.int .u32)], [.v (.pair (.val (.int .i64)) (.pair (.val (.arr 3 (.flt .f32))) (.pair (.rows (.arr 3 (.flt .f32))) (.pair (.rows (.pair (.int .i64) (.pair (.arr 3 (.flt .f32)) (.pair (.arr 3 (.int .i16)) (.pair (.int .i64) (.pair (.flt .f32) (.unit))))))) (.val (.unit)))))), .v (.val (.int .i64))], false⟩
noncomputable def spec_l08Run_en : Entry := ⟨spec_l08Run_sg, fun x => spec_l08Run x.1 x.2.1⟩
theorem spec_l08Run_eq (x : spec_l08Run_sg.dom) : body (env [(78, spec_l01Finite_en), (120, spec_l08Track_en), (121, spec_LengthOf_en), (122, spec_SubVec_en), (183, spec_CountsOf_en), (184, spec_l08Sensor_en), (185, spec_ShakeCounts_en)]) [(7, .vary [(1, .sc (.int .u32)), (9, .sc (.int .i64)), (10, .sc (.int .i64)), (8, .box (.pair (.val (.int .i64)) (.pair (.val (.arr 3 (.flt .f32))) (.pair (.rows (.arr 3 (.flt .f32))) (.pair (.rows (.pair (.int .i64) (.pair (.arr 3 (.flt .f32)) (.pair (.arr 3 (.int .i16)) (.pair (.int .i64) (.pair (.flt .f32) (.unit))))))) (.val (.unit)))))))]), (12, .vary [(1, .sc (.int .u32)), (9, .sc (.int .i64)), (12, .sc (.int .i64)), (8, .box (.pair (.val (.int .i64)) (.pair (.val (.arr 3 (.flt .f32))) (.pair (.rows (.arr 3 (.flt .f32))) (.pair (.rows (.pair (.int .i64) (.pair (.arr 3 (.flt .f32)) (.pair (.arr 3 (.int .i16)) (.pair (.int .i64) (.pair (.flt .f32) (.unit))))))) (.val (.unit)))))))])] Tryz.f119 spec_l08Run_sg x = spec_l08Run x.1 x.2.1 := by kernel_rfl
theorem spec_l08Run_so : Sound Tryz.prog 119 spec_l08Run_en := sound_of_body (envS (l := [(78, spec_l01Finite_en), (120, spec_l08Track_en), (121, spec_LengthOf_en), (122, spec_SubVec_en), (183, spec_CountsOf_en), (184, spec_l08Sensor_en), (185, spec_ShakeCounts_en)]) (⟨spec_l01Finite_so, spec_l08Track_so, spec_LengthOf_so, spec_SubVec_so, spec_CountsOf_so, spec_l08Sensor_so, spec_ShakeCounts_so, trivial⟩)) Tryz.func119 (by kernel_rfl) rfl (fun x y h => (spec_l08Run_eq x).trans h)

-- loop.example/g01204/spec.MissOf
noncomputable def spec_MissOf (a0 : (Int × ((Vec 3 Nat) × ((List (Vec 3 Nat)) × ((List (Int × ((Vec 3 Nat) × (Int × (Int × Unit))))) × Unit))))) (a1 : Int) : Option ((Nat × Int × Unit) × Unit) :=
  (spec_l08Ok a0).bind fun y2852 =>
  bif (! y2852.1.1) then some (((0 : Nat), (1 : Int), ()), ()) else
  (spec_l08Run a0 a1).bind fun y2854 =>
  bif (! (iEq y2854.1.2.1 0)) then some (((0 : Nat), y2854.1.2.1, ()), ()) else
  (spec_l08First ((y2854.1.1.1, y2854.1.1.2.1, y2854.1.1.2.2.1, y2854.1.1.2.2.2.1, y2854.1.1.2.2.2.2) : (Int × ((Vec 3 Nat) × ((List (Vec 3 Nat)) × ((List (Int × ((Vec 3 Nat) × ((Vec 3 Int) × (Int × (Nat × Unit)))))) × Unit)))))).bind fun y2856 =>
  (spec_l08Replay ((y2854.1.1.1, y2854.1.1.2.1, y2854.1.1.2.2.1, y2854.1.1.2.2.2.1, y2854.1.1.2.2.2.2) : (Int × ((Vec 3 Nat) × ((List (Vec 3 Nat)) × ((List (Int × ((Vec 3 Nat) × ((Vec 3 Int) × (Int × (Nat × Unit)))))) × Unit))))) y2856.1.1 (0 : Int) (lenI y2854.1.1.2.2.2.1)).bind fun y2857 =>
  bif (! (iEq y2857.1.2.2.1 0)) then some (((0 : Nat), y2857.1.2.2.1, ()), ()) else
  (spec_l08Track a0).bind fun y2859 =>
  (spec_l03Place y2857.1.1).bind fun y2860 =>
  let x2861 := iSub .i64 (lenI y2859.1.1) 1
  bif inB x2861 (List.length y2859.1.1) then
    (spec_SubVec y2860.1.1 (List.getD y2859.1.1 x2861.toNat ((0, 0, 0, ()) : (Vec 3 Nat)))).bind fun y2863 =>
    (spec_LengthOf y2863.1.1).bind fun y2864 =>
    (spec_l01Finite y2864.1.1).bind fun y2865 =>
    bif (! y2865.1.1) then some (((0 : Nat), (4 : Int), ()), ()) else some ((y2864.1.1, (0 : Int), ()), ())
  else none
noncomputable def spec_MissOf_sg : Sig := ⟨[.v (.pair (.int .i64) (.pair (.arr 3 (.flt .f32)) (.pair (.list (.arr 3 (.flt .f32))) (.pair (.list (.pair (.int .i64) (.pair (.arr 3 (.flt .f32)) (.pair (.int .i64) (.pair (.int .i64) (.unit)))))) (.unit))))), .v (.int .u32)], [.v (.val (.flt .f32)), .v (.val (.int .i64))], false⟩
noncomputable def spec_MissOf_en : Entry := ⟨spec_MissOf_sg, fun x => spec_MissOf x.1 x.2.1⟩
theorem spec_MissOf_eq (x : spec_MissOf_sg.dom) : body (env [(78, spec_l01Finite_en), (109, spec_l08Replay_en), (110, spec_l08First_en), (118, spec_l08Ok_en), (119, spec_l08Run_en), (120, spec_l08Track_en), (121, spec_LengthOf_en), (122, spec_SubVec_en), (123, spec_l03Place_en)]) [] Tryz.f46 spec_MissOf_sg x = spec_MissOf x.1 x.2.1 := by kernel_rfl
theorem spec_MissOf_so : Sound Tryz.prog 46 spec_MissOf_en := sound_of_body (envS (l := [(78, spec_l01Finite_en), (109, spec_l08Replay_en), (110, spec_l08First_en), (118, spec_l08Ok_en), (119, spec_l08Run_en), (120, spec_l08Track_en), (121, spec_LengthOf_en), (122, spec_SubVec_en), (123, spec_l03Place_en)]) (⟨spec_l01Finite_so, spec_l08Replay_so, spec_l08First_so, spec_l08Ok_so, spec_l08Run_so, spec_l08Track_so, spec_LengthOf_so, spec_SubVec_so, spec_l03Place_so, trivial⟩)) Tryz.func46 (by kernel_rfl) rfl (fun x y h => (spec_MissOf_eq x).trans h)

-- loop.example/g01204/laws.FnExactMissOf
noncomputable def laws_FnExactMissOf (a0 : (Int × ((Vec 3 Nat) × ((List (Vec 3 Nat)) × ((List (Int × ((Vec 3 Nat) × (Int × (Int × Unit))))) × Unit))))) (a1 : Int) : Option ((Bool × Unit) × Unit) :=
  (laws_szMission a0 (1048576 : Int)).bind fun y2551 =>
  bif (iLt y2551.1.1 0) then some ((true, ()), ()) else
  (laws_toMission a0).bind fun y2553 =>
  (spec_MissOf ((y2553.1.1.1, y2553.1.1.2.1, y2553.1.1.2.2.1, y2553.1.1.2.2.2.1, y2553.1.1.2.2.2.2) : (Int × ((Vec 3 Nat) × ((List (Vec 3 Nat)) × ((List (Int × ((Vec 3 Nat) × (Int × (Int × Unit))))) × Unit))))) a1).bind fun y2554 =>
  (laws_toMission a0).bind fun y2555 =>
  (impl_MissOf ((y2555.1.1.1, y2555.1.1.2.1, y2555.1.1.2.2.1, y2555.1.1.2.2.2.1, y2555.1.1.2.2.2.2) : (Int × ((Vec 3 Nat) × ((List (Vec 3 Nat)) × ((List (Int × ((Vec 3 Nat) × (Int × (Int × Unit))))) × Unit))))) a1).bind fun y2556 =>
  (fConv .f32 .f64 y2556.1.1).bind fun y2557 =>
  (fConv .f32 .f64 y2554.1.1).bind fun y2558 =>
  (laws_sameFloat y2557 y2558).bind fun y2559 =>
  bif (! y2559.1.1) then some ((false, ()), ()) else
  bif (! (iEq y2556.1.2.1 y2554.1.2.1)) then some ((false, ()), ()) else
  (laws_toMission a0).bind fun y2562 =>
  (laws_eqMission ((y2555.1.1.1, y2555.1.1.2.1, y2555.1.1.2.2.1, y2555.1.1.2.2.2.1, y2555.1.1.2.2.2.2) : (Int × ((Vec 3 Nat) × ((List (Vec 3 Nat)) × ((List (Int × ((Vec 3 Nat) × (Int × (Int × Unit))))) × Unit))))) ((y2562.1.1.1, y2562.1.1.2.1, y2562.1.1.2.2.1, y2562.1.1.2.2.2.1, y2562.1.1.2.2.2.2) : (Int × ((Vec 3 Nat) × ((List (Vec 3 Nat)) × ((List (Int × ((Vec 3 Nat) × (Int × (Int × Unit))))) × Unit)))))).bind fun y2563 =>
  bif (! y2563.1.1) then some ((false, ()), ()) else some ((true, ()), ())
noncomputable def laws_FnExactMissOf_sg : Sig := ⟨[.v (.pair (.int .i64) (.pair (.arr 3 (.flt .f32)) (.pair (.list (.arr 3 (.flt .f32))) (.pair (.list (.pair (.int .i64) (.pair (.arr 3 (.flt .f32)) (.pair (.int .i64) (.pair (.int .i64) (.unit)))))) (.unit))))), .v (.int .u32)], [.v (.val (.bool))], false⟩
noncomputable def laws_FnExactMissOf_en : Entry := ⟨laws_FnExactMissOf_sg, fun x => laws_FnExactMissOf x.1 x.2.1⟩
theorem laws_FnExactMissOf_eq (x : laws_FnExactMissOf_sg.dom) : body (env [(45, laws_szMission_en), (46, spec_MissOf_en), (47, laws_toMission_en), (48, impl_MissOf_en), (49, laws_sameFloat_en), (50, laws_eqMission_en)]) [] Tryz.f8 laws_FnExactMissOf_sg x = laws_FnExactMissOf x.1 x.2.1 := by kernel_rfl
theorem laws_FnExactMissOf_so : Sound Tryz.prog 8 laws_FnExactMissOf_en := sound_of_body (envS (l := [(45, laws_szMission_en), (46, spec_MissOf_en), (47, laws_toMission_en), (48, impl_MissOf_en), (49, laws_sameFloat_en), (50, laws_eqMission_en)]) (⟨laws_szMission_so, spec_MissOf_so, laws_toMission_so, impl_MissOf_so, laws_sameFloat_so, laws_eqMission_so, trivial⟩)) Tryz.func8 (by kernel_rfl) rfl (fun x y h => (laws_FnExactMissOf_eq x).trans h)

end Go.Proofs.YtjahnpagogpffaaGreat
