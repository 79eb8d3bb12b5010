import Derived.Test.YtjahnpagogpffaaGreatF1
/- Functions on typed data: what the evaluation of each Go function is, and that it is sound. -/
namespace Go.Proofs.YtjahnpagogpffaaGreat
open Go Go.Tm
set_option linter.unusedVariables false
set_option maxRecDepth 100000
-- loop.example/g01204/laws.eqEntryS
noncomputable def laws_eqEntryS_l4 (a0 : (List (Int × ((Vec 3 Nat) × ((Vec 3 Int) × (Int × (Nat × Unit))))))) (a1 : (List (Int × ((Vec 3 Nat) × ((Vec 3 Int) × (Int × (Nat × Unit))))))) (s940 : (Int × Unit)) : Option ((Int × Unit) ⊕ ((Bool × Unit) × Unit)) :=
  bif (iLt s940.1 (lenI a0)) then
    bif inB s940.1 (List.length a0) then
      bif inB s940.1 (List.length a1) then
        (laws_eqEntry (List.getD a0 s940.1.toNat ((0, (0, 0, 0, ()), (0, 0, 0, ()), 0, 0, ()) : (Int × ((Vec 3 Nat) × ((Vec 3 Int) × (Int × (Nat × Unit))))))) (List.getD a1 s940.1.toNat ((0, (0, 0, 0, ()), (0, 0, 0, ()), 0, 0, ()) : (Int × ((Vec 3 Nat) × ((Vec 3 Int) × (Int × (Nat × Unit)))))))).bind fun y944 =>
        bif (! y944.1.1) then
          Option.map Sum.inr (some ((false, ()), ()))
        else
        some (Sum.inl ((iAdd .i64 s940.1 1), ()))
      else none
    else none
  else
  Option.map Sum.inr (some ((true, ()), ()))
noncomputable def laws_eqEntryS (a0 : (List (Int × ((Vec 3 Nat) × ((Vec 3 Int) × (Int × (Nat × Unit))))))) (a1 : (List (Int × ((Vec 3 Nat) × ((Vec 3 Int) × (Int × (Nat × Unit))))))) : Option ((Bool × Unit) × Unit) :=
  bif (! (iEq (lenI a0) (lenI a1))) then some ((false, ()), ()) else run (laws_eqEntryS_l4 a0 a1) ((0 : Int), ())
noncomputable def laws_eqEntryS_sg : Sig := ⟨[.v (.list (.pair (.int .i64) (.pair (.arr 3 (.flt .f32)) (.pair (.arr 3 (.int .i16)) (.pair (.int .i64) (.pair (.flt .f32) (.unit))))))), .v (.list (.pair (.int .i64) (.pair (.arr 3 (.flt .f32)) (.pair (.arr 3 (.int .i16)) (.pair (.int .i64) (.pair (.flt .f32) (.unit)))))))], [.v (.val (.bool))], false⟩
noncomputable def laws_eqEntryS_en : Entry := ⟨laws_eqEntryS_sg, fun x => laws_eqEntryS x.1 x.2.1⟩
theorem laws_eqEntryS_eq (x : laws_eqEntryS_sg.dom) : body (env [(181, laws_eqEntry_en)]) [(4, .vary [(5, .sc (.int .i64))])] Tryz.f108 laws_eqEntryS_sg x = laws_eqEntryS x.1 x.2.1 := by kernel_rfl
theorem laws_eqEntryS_so : Sound Tryz.prog 108 laws_eqEntryS_en := sound_of_body (envS (l := [(181, laws_eqEntry_en)]) (⟨laws_eqEntry_so, trivial⟩)) Tryz.func108 (by kernel_rfl) rfl (fun x y h => (laws_eqEntryS_eq x).trans h)

-- loop.example/g01204/laws.eqVecS
noncomputable def laws_eqVecS_l4 (a0 : (List (Vec 3 Nat))) (a1 : (List (Vec 3 Nat))) (s1000 : (Int × Unit)) : Option ((Int × Unit) ⊕ ((Bool × Unit) × Unit)) :=
  bif (iLt s1000.1 (lenI a0)) then
    bif inB s1000.1 (List.length a0) then
      bif inB s1000.1 (List.length a1) then
        (laws_eqVec (List.getD a0 s1000.1.toNat ((0, 0, 0, ()) : (Vec 3 Nat))) (List.getD a1 s1000.1.toNat ((0, 0, 0, ()) : (Vec 3 Nat)))).bind fun y1004 =>
        bif (! y1004.1.1) then
          Option.map Sum.inr (some ((false, ()), ()))
        else
        some (Sum.inl ((iAdd .i64 s1000.1 1), ()))
      else none
    else none
  else
  Option.map Sum.inr (some ((true, ()), ()))
noncomputable def laws_eqVecS (a0 : (List (Vec 3 Nat))) (a1 : (List (Vec 3 Nat))) : Option ((Bool × Unit) × Unit) :=
  bif (! (iEq (lenI a0) (lenI a1))) then some ((false, ()), ()) else run (laws_eqVecS_l4 a0 a1) ((0 : Int), ())
noncomputable def laws_eqVecS_sg : Sig := ⟨[.v (.list (.arr 3 (.flt .f32))), .v (.list (.arr 3 (.flt .f32)))], [.v (.val (.bool))], false⟩
noncomputable def laws_eqVecS_en : Entry := ⟨laws_eqVecS_sg, fun x => laws_eqVecS x.1 x.2.1⟩
theorem laws_eqVecS_eq (x : laws_eqVecS_sg.dom) : body (env [(106, laws_eqVec_en)]) [(4, .vary [(5, .sc (.int .i64))])] Tryz.f107 laws_eqVecS_sg x = laws_eqVecS x.1 x.2.1 := by kernel_rfl
theorem laws_eqVecS_so : Sound Tryz.prog 107 laws_eqVecS_en := sound_of_body (envS (l := [(106, laws_eqVec_en)]) (⟨laws_eqVec_so, trivial⟩)) Tryz.func107 (by kernel_rfl) rfl (fun x y h => (laws_eqVecS_eq x).trans h)

-- loop.example/g01204/laws.eqLog
noncomputable def laws_eqLog (a0 : (Int × ((Vec 3 Nat) × ((List (Vec 3 Nat)) × ((List (Int × ((Vec 3 Nat) × ((Vec 3 Int) × (Int × (Nat × Unit)))))) × Unit))))) (a1 : (Int × ((Vec 3 Nat) × ((List (Vec 3 Nat)) × ((List (Int × ((Vec 3 Nat) × ((Vec 3 Int) × (Int × (Nat × Unit)))))) × Unit))))) : Option ((Bool × Unit) × Unit) :=
  bif (! (iEq a0.1 a1.1)) then some ((false, ()), ()) else
  (laws_eqVec a0.2.1 a1.2.1).bind fun y933 =>
  bif (! y933.1.1) then some ((false, ()), ()) else
  (laws_eqVecS a0.2.2.1 a1.2.2.1).bind fun y935 =>
  bif (! y935.1.1) then some ((false, ()), ()) else
  (laws_eqEntryS a0.2.2.2.1 a1.2.2.2.1).bind fun y937 =>
  bif (! y937.1.1) then some ((false, ()), ()) else some ((true, ()), ())
noncomputable def laws_eqLog_sg : Sig := ⟨[.v (.pair (.int .i64) (.pair (.arr 3 (.flt .f32)) (.pair (.list (.arr 3 (.flt .f32))) (.pair (.list (.pair (.int .i64) (.pair (.arr 3 (.flt .f32)) (.pair (.arr 3 (.int .i16)) (.pair (.int .i64) (.pair (.flt .f32) (.unit))))))) (.unit))))), .v (.pair (.int .i64) (.pair (.arr 3 (.flt .f32)) (.pair (.list (.arr 3 (.flt .f32))) (.pair (.list (.pair (.int .i64) (.pair (.arr 3 (.flt .f32)) (.pair (.arr 3 (.int .i16)) (.pair (.int .i64) (.pair (.flt .f32) (.unit))))))) (.unit)))))], [.v (.val (.bool))], false⟩
noncomputable def laws_eqLog_en : Entry := ⟨laws_eqLog_sg, fun x => laws_eqLog x.1 x.2.1⟩
theorem laws_eqLog_eq (x : laws_eqLog_sg.dom) : body (env [(106, laws_eqVec_en), (107, laws_eqVecS_en), (108, laws_eqEntryS_en)]) [] Tryz.f34 laws_eqLog_sg x = laws_eqLog x.1 x.2.1 := by kernel_rfl
theorem laws_eqLog_so : Sound Tryz.prog 34 laws_eqLog_en := sound_of_body (envS (l := [(106, laws_eqVec_en), (107, laws_eqVecS_en), (108, laws_eqEntryS_en)]) (⟨laws_eqVec_so, laws_eqVecS_so, laws_eqEntryS_so, trivial⟩)) Tryz.func34 (by kernel_rfl) rfl (fun x y h => (laws_eqLog_eq x).trans h)

-- loop.example/g01204/laws.eqFloat32A6
noncomputable def laws_eqFloat32A6 (a0 : (Vec 6 Nat)) (a1 : (Vec 6 Nat)) : Option ((Bool × Unit) × Unit) :=
  (fConv .f32 .f64 (Vec.getD 6 a0 0 (0 : Nat))).bind fun y1036 =>
  (fConv .f32 .f64 (Vec.getD 6 a1 0 (0 : Nat))).bind fun y1038 =>
  (laws_sameFloat y1036 y1038).bind fun y1039 =>
  bif (! y1039.1.1) then some ((false, ()), ()) else
  (fConv .f32 .f64 (Vec.getD 6 a0 1 (0 : Nat))).bind fun y1042 =>
  (fConv .f32 .f64 (Vec.getD 6 a1 1 (0 : Nat))).bind fun y1044 =>
  (laws_sameFloat y1042 y1044).bind fun y1045 =>
  bif (! y1045.1.1) then some ((false, ()), ()) else
  (fConv .f32 .f64 (Vec.getD 6 a0 2 (0 : Nat))).bind fun y1048 =>
  (fConv .f32 .f64 (Vec.getD 6 a1 2 (0 : Nat))).bind fun y1050 =>
  (laws_sameFloat y1048 y1050).bind fun y1051 =>
  bif (! y1051.1.1) then some ((false, ()), ()) else
  (fConv .f32 .f64 (Vec.getD 6 a0 3 (0 : Nat))).bind fun y1054 =>
  (fConv .f32 .f64 (Vec.getD 6 a1 3 (0 : Nat))).bind fun y1056 =>
  (laws_sameFloat y1054 y1056).bind fun y1057 =>
  bif (! y1057.1.1) then some ((false, ()), ()) else
  (fConv .f32 .f64 (Vec.getD 6 a0 4 (0 : Nat))).bind fun y1060 =>
  (fConv .f32 .f64 (Vec.getD 6 a1 4 (0 : Nat))).bind fun y1062 =>
  (laws_sameFloat y1060 y1062).bind fun y1063 =>
  bif (! y1063.1.1) then some ((false, ()), ()) else
  (fConv .f32 .f64 (Vec.getD 6 a0 5 (0 : Nat))).bind fun y1066 =>
  (fConv .f32 .f64 (Vec.getD 6 a1 5 (0 : Nat))).bind fun y1068 =>
  (laws_sameFloat y1066 y1068).bind fun y1069 =>
  bif (! y1069.1.1) then some ((false, ()), ()) else some ((true, ()), ())
noncomputable def laws_eqFloat32A6_sg : Sig := ⟨[.v (.arr 6 (.flt .f32)), .v (.arr 6 (.flt .f32))], [.v (.val (.bool))], false⟩
noncomputable def laws_eqFloat32A6_en : Entry := ⟨laws_eqFloat32A6_sg, fun x => laws_eqFloat32A6 x.1 x.2.1⟩
theorem laws_eqFloat32A6_eq (x : laws_eqFloat32A6_sg.dom) : body (env [(49, laws_sameFloat_en)]) [(2, .unroll 7)] Tryz.f180 laws_eqFloat32A6_sg x = laws_eqFloat32A6 x.1 x.2.1 := by kernel_rfl
theorem laws_eqFloat32A6_so : Sound Tryz.prog 180 laws_eqFloat32A6_en := sound_of_body (envS (l := [(49, laws_sameFloat_en)]) (⟨laws_sameFloat_so, trivial⟩)) Tryz.func180 (by kernel_rfl) rfl (fun x y h => (laws_eqFloat32A6_eq x).trans h)

-- loop.example/g01204/laws.eqRoot
noncomputable def laws_eqRoot (a0 : (Vec 6 (Vec 6 Nat))) (a1 : (Vec 6 (Vec 6 Nat))) : Option ((Bool × Unit) × Unit) :=
  (laws_eqFloat32A6 (Vec.getD 6 a0 0 ((0, 0, 0, 0, 0, 0, ()) : (Vec 6 Nat))) (Vec.getD 6 a1 0 ((0, 0, 0, 0, 0, 0, ()) : (Vec 6 Nat)))).bind fun y1013 =>
  bif (! y1013.1.1) then some ((false, ()), ()) else
  (laws_eqFloat32A6 (Vec.getD 6 a0 1 ((0, 0, 0, 0, 0, 0, ()) : (Vec 6 Nat))) (Vec.getD 6 a1 1 ((0, 0, 0, 0, 0, 0, ()) : (Vec 6 Nat)))).bind fun y1017 =>
  bif (! y1017.1.1) then some ((false, ()), ()) else
  (laws_eqFloat32A6 (Vec.getD 6 a0 2 ((0, 0, 0, 0, 0, 0, ()) : (Vec 6 Nat))) (Vec.getD 6 a1 2 ((0, 0, 0, 0, 0, 0, ()) : (Vec 6 Nat)))).bind fun y1021 =>
  bif (! y1021.1.1) then some ((false, ()), ()) else
  (laws_eqFloat32A6 (Vec.getD 6 a0 3 ((0, 0, 0, 0, 0, 0, ()) : (Vec 6 Nat))) (Vec.getD 6 a1 3 ((0, 0, 0, 0, 0, 0, ()) : (Vec 6 Nat)))).bind fun y1025 =>
  bif (! y1025.1.1) then some ((false, ()), ()) else
  (laws_eqFloat32A6 (Vec.getD 6 a0 4 ((0, 0, 0, 0, 0, 0, ()) : (Vec 6 Nat))) (Vec.getD 6 a1 4 ((0, 0, 0, 0, 0, 0, ()) : (Vec 6 Nat)))).bind fun y1029 =>
  bif (! y1029.1.1) then some ((false, ()), ()) else
  (laws_eqFloat32A6 (Vec.getD 6 a0 5 ((0, 0, 0, 0, 0, 0, ()) : (Vec 6 Nat))) (Vec.getD 6 a1 5 ((0, 0, 0, 0, 0, 0, ()) : (Vec 6 Nat)))).bind fun y1033 =>
  bif (! y1033.1.1) then some ((false, ()), ()) else some ((true, ()), ())
noncomputable def laws_eqRoot_sg : Sig := ⟨[.v (.arr 6 (.arr 6 (.flt .f32))), .v (.arr 6 (.arr 6 (.flt .f32)))], [.v (.val (.bool))], false⟩
noncomputable def laws_eqRoot_en : Entry := ⟨laws_eqRoot_sg, fun x => laws_eqRoot x.1 x.2.1⟩
theorem laws_eqRoot_eq (x : laws_eqRoot_sg.dom) : body (env [(180, laws_eqFloat32A6_en)]) [(2, .unroll 7)] Tryz.f105 laws_eqRoot_sg x = laws_eqRoot x.1 x.2.1 := by kernel_rfl
theorem laws_eqRoot_so : Sound Tryz.prog 105 laws_eqRoot_en := sound_of_body (envS (l := [(180, laws_eqFloat32A6_en)]) (⟨laws_eqFloat32A6_so, trivial⟩)) Tryz.func105 (by kernel_rfl) rfl (fun x y h => (laws_eqRoot_eq x).trans h)

-- loop.example/g01204/laws.eqSix
noncomputable def laws_eqSix (a0 : (Vec 6 Nat)) (a1 : (Vec 6 Nat)) : Option ((Bool × Unit) × Unit) :=
  (fConv .f32 .f64 (Vec.getD 6 a0 0 (0 : Nat))).bind fun y1072 =>
  (fConv .f32 .f64 (Vec.getD 6 a1 0 (0 : Nat))).bind fun y1074 =>
  (laws_sameFloat y1072 y1074).bind fun y1075 =>
  bif (! y1075.1.1) then some ((false, ()), ()) else
  (fConv .f32 .f64 (Vec.getD 6 a0 1 (0 : Nat))).bind fun y1078 =>
  (fConv .f32 .f64 (Vec.getD 6 a1 1 (0 : Nat))).bind fun y1080 =>
  (laws_sameFloat y1078 y1080).bind fun y1081 =>
  bif (! y1081.1.1) then some ((false, ()), ()) else
  (fConv .f32 .f64 (Vec.getD 6 a0 2 (0 : Nat))).bind fun y1084 =>
  (fConv .f32 .f64 (Vec.getD 6 a1 2 (0 : Nat))).bind fun y1086 =>
  (laws_sameFloat y1084 y1086).bind fun y1087 =>
  bif (! y1087.1.1) then some ((false, ()), ()) else
  (fConv .f32 .f64 (Vec.getD 6 a0 3 (0 : Nat))).bind fun y1090 =>
  (fConv .f32 .f64 (Vec.getD 6 a1 3 (0 : Nat))).bind fun y1092 =>
  (laws_sameFloat y1090 y1092).bind fun y1093 =>
  bif (! y1093.1.1) then some ((false, ()), ()) else
  (fConv .f32 .f64 (Vec.getD 6 a0 4 (0 : Nat))).bind fun y1096 =>
  (fConv .f32 .f64 (Vec.getD 6 a1 4 (0 : Nat))).bind fun y1098 =>
  (laws_sameFloat y1096 y1098).bind fun y1099 =>
  bif (! y1099.1.1) then some ((false, ()), ()) else
  (fConv .f32 .f64 (Vec.getD 6 a0 5 (0 : Nat))).bind fun y1102 =>
  (fConv .f32 .f64 (Vec.getD 6 a1 5 (0 : Nat))).bind fun y1104 =>
  (laws_sameFloat y1102 y1104).bind fun y1105 =>
  bif (! y1105.1.1) then some ((false, ()), ()) else some ((true, ()), ())
noncomputable def laws_eqSix_sg : Sig := ⟨[.v (.arr 6 (.flt .f32)), .v (.arr 6 (.flt .f32))], [.v (.val (.bool))], false⟩
noncomputable def laws_eqSix_en : Entry := ⟨laws_eqSix_sg, fun x => laws_eqSix x.1 x.2.1⟩
theorem laws_eqSix_eq (x : laws_eqSix_sg.dom) : body (env [(49, laws_sameFloat_en)]) [(2, .unroll 7)] Tryz.f104 laws_eqSix_sg x = laws_eqSix x.1 x.2.1 := by kernel_rfl
theorem laws_eqSix_so : Sound Tryz.prog 104 laws_eqSix_en := sound_of_body (envS (l := [(49, laws_sameFloat_en)]) (⟨laws_sameFloat_so, trivial⟩)) Tryz.func104 (by kernel_rfl) rfl (fun x y h => (laws_eqSix_eq x).trans h)

-- loop.example/g01204/laws.eqState
noncomputable def laws_eqState (a0 : ((Vec 6 Nat) × ((Vec 6 (Vec 6 Nat)) × Unit))) (a1 : ((Vec 6 Nat) × ((Vec 6 (Vec 6 Nat)) × Unit))) : Option ((Bool × Unit) × Unit) :=
  (laws_eqSix a0.1 a1.1).bind fun y1007 =>
  bif (! y1007.1.1) then some ((false, ()), ()) else
  (laws_eqRoot a0.2.1 a1.2.1).bind fun y1009 =>
  bif (! y1009.1.1) then some ((false, ()), ()) else some ((true, ()), ())
noncomputable def laws_eqState_sg : Sig := ⟨[.v (.pair (.arr 6 (.flt .f32)) (.pair (.arr 6 (.arr 6 (.flt .f32))) (.unit))), .v (.pair (.arr 6 (.flt .f32)) (.pair (.arr 6 (.arr 6 (.flt .f32))) (.unit)))], [.v (.val (.bool))], false⟩
noncomputable def laws_eqState_en : Entry := ⟨laws_eqState_sg, fun x => laws_eqState x.1 x.2.1⟩
theorem laws_eqState_eq (x : laws_eqState_sg.dom) : body (env [(104, laws_eqSix_en), (105, laws_eqRoot_en)]) [] Tryz.f33 laws_eqState_sg x = laws_eqState x.1 x.2.1 := by kernel_rfl
theorem laws_eqState_so : Sound Tryz.prog 33 laws_eqState_en := sound_of_body (envS (l := [(104, laws_eqSix_en), (105, laws_eqRoot_en)]) (⟨laws_eqSix_so, laws_eqRoot_so, trivial⟩)) Tryz.func33 (by kernel_rfl) rfl (fun x y h => (laws_eqState_eq x).trans h)

-- loop.example/g01204/laws.szEntryS
noncomputable def laws_szEntryS (a0 : (List (Int × ((Vec 3 Nat) × ((Vec 3 Int) × (Int × (Nat × Unit))))))) (a1 : Int) : Option ((Int × Unit) × Unit) :=
  let x1111 := iSub .i64 a1 (lenI a0)
  bif (iLt x1111 0) then some ((((-1 : Int) : Int), ()), ()) else some ((x1111, ()), ())
noncomputable def laws_szEntryS_sg : Sig := ⟨[.v (.list (.pair (.int .i64) (.pair (.arr 3 (.flt .f32)) (.pair (.arr 3 (.int .i16)) (.pair (.int .i64) (.pair (.flt .f32) (.unit))))))), .v (.int .i64)], [.v (.val (.int .i64))], false⟩
noncomputable def laws_szEntryS_en : Entry := ⟨laws_szEntryS_sg, fun x => laws_szEntryS x.1 x.2.1⟩
theorem laws_szEntryS_eq (x : laws_szEntryS_sg.dom) : body (env []) [] Tryz.f89 laws_szEntryS_sg x = laws_szEntryS x.1 x.2.1 := by kernel_rfl
theorem laws_szEntryS_so : Sound Tryz.prog 89 laws_szEntryS_en := sound_of_body (envS (l := []) (trivial)) Tryz.func89 (by kernel_rfl) rfl (fun x y h => (laws_szEntryS_eq x).trans h)

-- loop.example/g01204/laws.szVecS
noncomputable def laws_szVecS (a0 : (List (Vec 3 Nat))) (a1 : Int) : Option ((Int × Unit) × Unit) :=
  let x1113 := iSub .i64 a1 (lenI a0)
  bif (iLt x1113 0) then some ((((-1 : Int) : Int), ()), ()) else some ((x1113, ()), ())
noncomputable def laws_szVecS_sg : Sig := ⟨[.v (.list (.arr 3 (.flt .f32))), .v (.int .i64)], [.v (.val (.int .i64))], false⟩
noncomputable def laws_szVecS_en : Entry := ⟨laws_szVecS_sg, fun x => laws_szVecS x.1 x.2.1⟩
theorem laws_szVecS_eq (x : laws_szVecS_sg.dom) : body (env []) [] Tryz.f88 laws_szVecS_sg x = laws_szVecS x.1 x.2.1 := by kernel_rfl
theorem laws_szVecS_so : Sound Tryz.prog 88 laws_szVecS_en := sound_of_body (envS (l := []) (trivial)) Tryz.func88 (by kernel_rfl) rfl (fun x y h => (laws_szVecS_eq x).trans h)

-- loop.example/g01204/laws.szLog
noncomputable def laws_szLog (a0 : (Int × ((Vec 3 Nat) × ((List (Vec 3 Nat)) × ((List (Int × ((Vec 3 Nat) × ((Vec 3 Int) × (Int × (Nat × Unit)))))) × Unit))))) (a1 : Int) : Option ((Int × Unit) × Unit) :=
  (laws_szVecS a0.2.2.1 a1).bind fun y1107 =>
  bif (iLt y1107.1.1 0) then some ((((-1 : Int) : Int), ()), ()) else
  (laws_szEntryS a0.2.2.2.1 y1107.1.1).bind fun y1109 =>
  bif (iLt y1109.1.1 0) then some ((((-1 : Int) : Int), ()), ()) else some ((y1109.1.1, ()), ())
noncomputable def laws_szLog_sg : Sig := ⟨[.v (.pair (.int .i64) (.pair (.arr 3 (.flt .f32)) (.pair (.list (.arr 3 (.flt .f32))) (.pair (.list (.pair (.int .i64) (.pair (.arr 3 (.flt .f32)) (.pair (.arr 3 (.int .i16)) (.pair (.int .i64) (.pair (.flt .f32) (.unit))))))) (.unit))))), .v (.int .i64)], [.v (.val (.int .i64))], false⟩
noncomputable def laws_szLog_en : Entry := ⟨laws_szLog_sg, fun x => laws_szLog x.1 x.2.1⟩
theorem laws_szLog_eq (x : laws_szLog_sg.dom) : body (env [(88, laws_szVecS_en), (89, laws_szEntryS_en)]) [] Tryz.f27 laws_szLog_sg x = laws_szLog x.1 x.2.1 := by kernel_rfl
theorem laws_szLog_so : Sound Tryz.prog 27 laws_szLog_en := sound_of_body (envS (l := [(88, laws_szVecS_en), (89, laws_szEntryS_en)]) (⟨laws_szVecS_so, laws_szEntryS_so, trivial⟩)) Tryz.func27 (by kernel_rfl) rfl (fun x y h => (laws_szLog_eq x).trans h)

-- loop.example/g01204/laws.toCounts
noncomputable def laws_toCounts (a0 : (Vec 3 Int)) : Option (((Vec 3 Int) × Unit) × Unit) :=
  some (((((Vec.getD 3 a0 0 (0 : Int)), (Vec.getD 3 a0 1 (0 : Int)), (Vec.getD 3 a0 2 (0 : Int)), ()) : (Vec 3 Int)), ()), ())
noncomputable def laws_toCounts_sg : Sig := ⟨[.v (.arr 3 (.int .i16))], [.v (.val (.arr 3 (.int .i16)))], false⟩
noncomputable def laws_toCounts_en : Entry := ⟨laws_toCounts_sg, fun x => laws_toCounts x.1⟩
theorem laws_toCounts_eq (x : laws_toCounts_sg.dom) : body (env []) [(3, .unroll 4)] Tryz.f99 laws_toCounts_sg x = laws_toCounts x.1 := by kernel_rfl
theorem laws_toCounts_so : Sound Tryz.prog 99 laws_toCounts_en := sound_of_body (envS (l := []) (trivial)) Tryz.func99 (by kernel_rfl) rfl (fun x y h => (laws_toCounts_eq x).trans h)

-- loop.example/g01204/laws.toVec
noncomputable def laws_toVec (a0 : (Vec 3 Nat)) : Option (((Vec 3 Nat) × Unit) × Unit) :=
  some (((((Vec.getD 3 a0 0 (0 : Nat)), (Vec.getD 3 a0 1 (0 : Nat)), (Vec.getD 3 a0 2 (0 : Nat)), ()) : (Vec 3 Nat)), ()), ())
noncomputable def laws_toVec_sg : Sig := ⟨[.v (.arr 3 (.flt .f32))], [.v (.val (.arr 3 (.flt .f32)))], false⟩
noncomputable def laws_toVec_en : Entry := ⟨laws_toVec_sg, fun x => laws_toVec x.1⟩
theorem laws_toVec_eq (x : laws_toVec_sg.dom) : body (env []) [(3, .unroll 4)] Tryz.f94 laws_toVec_sg x = laws_toVec x.1 := by kernel_rfl
theorem laws_toVec_so : Sound Tryz.prog 94 laws_toVec_en := sound_of_body (envS (l := []) (trivial)) Tryz.func94 (by kernel_rfl) rfl (fun x y h => (laws_toVec_eq x).trans h)

-- loop.example/g01204/laws.toEntry
noncomputable def laws_toEntry (a0 : (Int × ((Vec 3 Nat) × ((Vec 3 Int) × (Int × (Nat × Unit)))))) : Option (((Int × ((Vec 3 Nat) × ((Vec 3 Int) × (Int × (Nat × Unit))))) × Unit) × Unit) :=
  (laws_toVec a0.2.1).bind fun y1115 =>
  (laws_toCounts a0.2.2.1).bind fun y1116 =>
  some ((((a0.1, y1115.1.1, y1116.1.1, a0.2.2.2.1, a0.2.2.2.2.1, ()) : (Int × ((Vec 3 Nat) × ((Vec 3 Int) × (Int × (Nat × Unit)))))), ()), ())
noncomputable def laws_toEntry_sg : Sig := ⟨[.v (.pair (.int .i64) (.pair (.arr 3 (.flt .f32)) (.pair (.arr 3 (.int .i16)) (.pair (.int .i64) (.pair (.flt .f32) (.unit))))))], [.v (.val (.pair (.int .i64) (.pair (.arr 3 (.flt .f32)) (.pair (.arr 3 (.int .i16)) (.pair (.int .i64) (.pair (.flt .f32) (.unit)))))))], false⟩
noncomputable def laws_toEntry_en : Entry := ⟨laws_toEntry_sg, fun x => laws_toEntry x.1⟩
theorem laws_toEntry_eq (x : laws_toEntry_sg.dom) : body (env [(94, laws_toVec_en), (99, laws_toCounts_en)]) [] Tryz.f31 laws_toEntry_sg x = laws_toEntry x.1 := by kernel_rfl
theorem laws_toEntry_so : Sound Tryz.prog 31 laws_toEntry_en := sound_of_body (envS (l := [(94, laws_toVec_en), (99, laws_toCounts_en)]) (⟨laws_toVec_so, laws_toCounts_so, trivial⟩)) Tryz.func31 (by kernel_rfl) rfl (fun x y h => (laws_toEntry_eq x).trans h)

-- loop.example/g01204/laws.toEntryS
noncomputable def laws_toEntryS_l3 (a0 : (List (Int × ((Vec 3 Nat) × ((Vec 3 Int) × (Int × (Nat × Unit))))))) (s1132 : (Int × (List (Int × ((Vec 3 Nat) × ((Vec 3 Int) × (Int × (Nat × Unit)))))) × Unit)) : Option ((Int × (List (Int × ((Vec 3 Nat) × ((Vec 3 Int) × (Int × (Nat × Unit)))))) × Unit) ⊕ (((List (Int × ((Vec 3 Nat) × ((Vec 3 Int) × (Int × (Nat × Unit)))))) × Unit) × Unit)) :=
  bif (iLt s1132.1 (lenI a0)) then
    bif inB s1132.1 (List.length a0) then
      (laws_toEntry (List.getD a0 s1132.1.toNat ((0, (0, 0, 0, ()), (0, 0, 0, ()), 0, 0, ()) : (Int × ((Vec 3 Nat) × ((Vec 3 Int) × (Int × (Nat × Unit)))))))).bind fun y1135 =>
      bif inB s1132.1 (List.length s1132.2.1) then
        some (Sum.inl ((iAdd .i64 s1132.1 1), (List.set s1132.2.1 s1132.1.toNat y1135.1.1), ()))
      else none
    else none
  else
  Option.map Sum.inr (some ((s1132.2.1, ()), ()))
noncomputable def laws_toEntryS (a0 : (List (Int × ((Vec 3 Nat) × ((Vec 3 Int) × (Int × (Nat × Unit))))))) : Option (((List (Int × ((Vec 3 Nat) × ((Vec 3 Int) × (Int × (Nat × Unit)))))) × Unit) × Unit) :=
  bif (iLe 0 (lenI a0) && iLe (lenI a0) (lenI a0) && room (lenI a0).toNat 48) then run (laws_toEntryS_l3 a0) ((0 : Int), List.replicate (lenI a0).toNat ((0, (0, 0, 0, ()), (0, 0, 0, ()), 0, 0, ()) : (Int × ((Vec 3 Nat) × ((Vec 3 Int) × (Int × (Nat × Unit)))))), ()) else none
noncomputable def laws_toEntryS_sg : Sig := ⟨[.v (.list (.pair (.int .i64) (.pair (.arr 3 (.flt .f32)) (.pair (.arr 3 (.int .i16)) (.pair (.int .i64) (.pair (.flt .f32) (.unit)))))))], [.v (.rows (.pair (.int .i64) (.pair (.arr 3 (.flt .f32)) (.pair (.arr 3 (.int .i16)) (.pair (.int .i64) (.pair (.flt .f32) (.unit)))))))], false⟩
noncomputable def laws_toEntryS_en : Entry := ⟨laws_toEntryS_sg, fun x => laws_toEntryS x.1⟩
theorem laws_toEntryS_eq (x : laws_toEntryS_sg.dom) : body (env [(31, laws_toEntry_en)]) [(3, .vary [(4, .sc (.int .i64)), (3, .mrows (.pair (.int .i64) (.pair (.arr 3 (.flt .f32)) (.pair (.arr 3 (.int .i16)) (.pair (.int .i64) (.pair (.flt .f32) (.unit)))))))])] Tryz.f96 laws_toEntryS_sg x = laws_toEntryS x.1 := by kernel_rfl
theorem laws_toEntryS_so : Sound Tryz.prog 96 laws_toEntryS_en := sound_of_body (envS (l := [(31, laws_toEntry_en)]) (⟨laws_toEntry_so, trivial⟩)) Tryz.func96 (by kernel_rfl) rfl (fun x y h => (laws_toEntryS_eq x).trans h)

-- loop.example/g01204/laws.toVecS
noncomputable def laws_toVecS_l3 (a0 : (List (Vec 3 Nat))) (s1144 : (Int × (List (Vec 3 Nat)) × Unit)) : Option ((Int × (List (Vec 3 Nat)) × Unit) ⊕ (((List (Vec 3 Nat)) × Unit) × Unit)) :=
  bif (iLt s1144.1 (lenI a0)) then
    bif inB s1144.1 (List.length a0) then
      (laws_toVec (List.getD a0 s1144.1.toNat ((0, 0, 0, ()) : (Vec 3 Nat)))).bind fun y1147 =>
      bif inB s1144.1 (List.length s1144.2.1) then
        some (Sum.inl ((iAdd .i64 s1144.1 1), (List.set s1144.2.1 s1144.1.toNat y1147.1.1), ()))
      else none
    else none
  else
  Option.map Sum.inr (some ((s1144.2.1, ()), ()))
noncomputable def laws_toVecS (a0 : (List (Vec 3 Nat))) : Option (((List (Vec 3 Nat)) × Unit) × Unit) :=
  bif (iLe 0 (lenI a0) && iLe (lenI a0) (lenI a0) && room (lenI a0).toNat 12) then run (laws_toVecS_l3 a0) ((0 : Int), List.replicate (lenI a0).toNat ((0, 0, 0, ()) : (Vec 3 Nat)), ()) else none
noncomputable def laws_toVecS_sg : Sig := ⟨[.v (.list (.arr 3 (.flt .f32)))], [.v (.rows (.arr 3 (.flt .f32)))], false⟩
noncomputable def laws_toVecS_en : Entry := ⟨laws_toVecS_sg, fun x => laws_toVecS x.1⟩
theorem laws_toVecS_eq (x : laws_toVecS_sg.dom) : body (env [(94, laws_toVec_en)]) [(3, .vary [(4, .sc (.int .i64)), (3, .mrows (.arr 3 (.flt .f32)))])] Tryz.f95 laws_toVecS_sg x = laws_toVecS x.1 := by kernel_rfl
theorem laws_toVecS_so : Sound Tryz.prog 95 laws_toVecS_en := sound_of_body (envS (l := [(94, laws_toVec_en)]) (⟨laws_toVec_so, trivial⟩)) Tryz.func95 (by kernel_rfl) rfl (fun x y h => (laws_toVecS_eq x).trans h)

-- loop.example/g01204/laws.toLog
noncomputable def laws_toLog (a0 : (Int × ((Vec 3 Nat) × ((List (Vec 3 Nat)) × ((List (Int × ((Vec 3 Nat) × ((Vec 3 Int) × (Int × (Nat × Unit)))))) × Unit))))) : Option (((Int × ((Vec 3 Nat) × ((List (Vec 3 Nat)) × ((List (Int × ((Vec 3 Nat) × ((Vec 3 Int) × (Int × (Nat × Unit)))))) × Unit)))) × Unit) × Unit) :=
  (laws_toVec a0.2.1).bind fun y1123 =>
  (laws_toVecS a0.2.2.1).bind fun y1124 =>
  (laws_toEntryS a0.2.2.2.1).bind fun y1125 =>
  some ((((a0.1, y1123.1.1, y1124.1.1, y1125.1.1, ()) : (Int × ((Vec 3 Nat) × ((List (Vec 3 Nat)) × ((List (Int × ((Vec 3 Nat) × ((Vec 3 Int) × (Int × (Nat × Unit)))))) × Unit))))), ()), ())
noncomputable def laws_toLog_sg : Sig := ⟨[.v (.pair (.int .i64) (.pair (.arr 3 (.flt .f32)) (.pair (.list (.arr 3 (.flt .f32))) (.pair (.list (.pair (.int .i64) (.pair (.arr 3 (.flt .f32)) (.pair (.arr 3 (.int .i16)) (.pair (.int .i64) (.pair (.flt .f32) (.unit))))))) (.unit)))))], [.v (.pair (.val (.int .i64)) (.pair (.val (.arr 3 (.flt .f32))) (.pair (.rows (.arr 3 (.flt .f32))) (.pair (.rows (.pair (.int .i64) (.pair (.arr 3 (.flt .f32)) (.pair (.arr 3 (.int .i16)) (.pair (.int .i64) (.pair (.flt .f32) (.unit))))))) (.val (.unit))))))], false⟩
noncomputable def laws_toLog_en : Entry := ⟨laws_toLog_sg, fun x => laws_toLog x.1⟩
theorem laws_toLog_eq (x : laws_toLog_sg.dom) : body (env [(94, laws_toVec_en), (95, laws_toVecS_en), (96, laws_toEntryS_en)]) [] Tryz.f29 laws_toLog_sg x = laws_toLog x.1 := by kernel_rfl
theorem laws_toLog_so : Sound Tryz.prog 29 laws_toLog_en := sound_of_body (envS (l := [(94, laws_toVec_en), (95, laws_toVecS_en), (96, laws_toEntryS_en)]) (⟨laws_toVec_so, laws_toVecS_so, laws_toEntryS_so, trivial⟩)) Tryz.func29 (by kernel_rfl) rfl (fun x y h => (laws_toLog_eq x).trans h)

-- loop.example/g01204/laws.toFloat32A6
noncomputable def laws_toFloat32A6 (a0 : (Vec 6 Nat)) : Option (((Vec 6 Nat) × Unit) × Unit) :=
  some (((((Vec.getD 6 a0 0 (0 : Nat)), (Vec.getD 6 a0 1 (0 : Nat)), (Vec.getD 6 a0 2 (0 : Nat)), (Vec.getD 6 a0 3 (0 : Nat)), (Vec.getD 6 a0 4 (0 : Nat)), (Vec.getD 6 a0 5 (0 : Nat)), ()) : (Vec 6 Nat)), ()), ())
noncomputable def laws_toFloat32A6_sg : Sig := ⟨[.v (.arr 6 (.flt .f32))], [.v (.val (.arr 6 (.flt .f32)))], false⟩
noncomputable def laws_toFloat32A6_en : Entry := ⟨laws_toFloat32A6_sg, fun x => laws_toFloat32A6 x.1⟩
theorem laws_toFloat32A6_eq (x : laws_toFloat32A6_sg.dom) : body (env []) [(3, .unroll 7)] Tryz.f167 laws_toFloat32A6_sg x = laws_toFloat32A6 x.1 := by kernel_rfl
theorem laws_toFloat32A6_so : Sound Tryz.prog 167 laws_toFloat32A6_en := sound_of_body (envS (l := []) (trivial)) Tryz.func167 (by kernel_rfl) rfl (fun x y h => (laws_toFloat32A6_eq x).trans h)

-- loop.example/g01204/laws.toRoot
noncomputable def laws_toRoot (a0 : (Vec 6 (Vec 6 Nat))) : Option (((Vec 6 (Vec 6 Nat)) × Unit) × Unit) :=
  (laws_toFloat32A6 (Vec.getD 6 a0 0 ((0, 0, 0, 0, 0, 0, ()) : (Vec 6 Nat)))).bind fun y1153 =>
  (laws_toFloat32A6 (Vec.getD 6 a0 1 ((0, 0, 0, 0, 0, 0, ()) : (Vec 6 Nat)))).bind fun y1155 =>
  (laws_toFloat32A6 (Vec.getD 6 a0 2 ((0, 0, 0, 0, 0, 0, ()) : (Vec 6 Nat)))).bind fun y1157 =>
  (laws_toFloat32A6 (Vec.getD 6 a0 3 ((0, 0, 0, 0, 0, 0, ()) : (Vec 6 Nat)))).bind fun y1159 =>
  (laws_toFloat32A6 (Vec.getD 6 a0 4 ((0, 0, 0, 0, 0, 0, ()) : (Vec 6 Nat)))).bind fun y1161 =>
  (laws_toFloat32A6 (Vec.getD 6 a0 5 ((0, 0, 0, 0, 0, 0, ()) : (Vec 6 Nat)))).bind fun y1163 =>
  some ((((y1153.1.1, y1155.1.1, y1157.1.1, y1159.1.1, y1161.1.1, y1163.1.1, ()) : (Vec 6 (Vec 6 Nat))), ()), ())
noncomputable def laws_toRoot_sg : Sig := ⟨[.v (.arr 6 (.arr 6 (.flt .f32)))], [.v (.val (.arr 6 (.arr 6 (.flt .f32))))], false⟩
noncomputable def laws_toRoot_en : Entry := ⟨laws_toRoot_sg, fun x => laws_toRoot x.1⟩
theorem laws_toRoot_eq (x : laws_toRoot_sg.dom) : body (env [(167, laws_toFloat32A6_en)]) [(3, .unroll 7)] Tryz.f98 laws_toRoot_sg x = laws_toRoot x.1 := by kernel_rfl
theorem laws_toRoot_so : Sound Tryz.prog 98 laws_toRoot_en := sound_of_body (envS (l := [(167, laws_toFloat32A6_en)]) (⟨laws_toFloat32A6_so, trivial⟩)) Tryz.func98 (by kernel_rfl) rfl (fun x y h => (laws_toRoot_eq x).trans h)

-- loop.example/g01204/laws.toSix
noncomputable def laws_toSix (a0 : (Vec 6 Nat)) : Option (((Vec 6 Nat) × Unit) × Unit) :=
  some (((((Vec.getD 6 a0 0 (0 : Nat)), (Vec.getD 6 a0 1 (0 : Nat)), (Vec.getD 6 a0 2 (0 : Nat)), (Vec.getD 6 a0 3 (0 : Nat)), (Vec.getD 6 a0 4 (0 : Nat)), (Vec.getD 6 a0 5 (0 : Nat)), ()) : (Vec 6 Nat)), ()), ())
noncomputable def laws_toSix_sg : Sig := ⟨[.v (.arr 6 (.flt .f32))], [.v (.val (.arr 6 (.flt .f32)))], false⟩
noncomputable def laws_toSix_en : Entry := ⟨laws_toSix_sg, fun x => laws_toSix x.1⟩
theorem laws_toSix_eq (x : laws_toSix_sg.dom) : body (env []) [(3, .unroll 7)] Tryz.f97 laws_toSix_sg x = laws_toSix x.1 := by kernel_rfl
theorem laws_toSix_so : Sound Tryz.prog 97 laws_toSix_en := sound_of_body (envS (l := []) (trivial)) Tryz.func97 (by kernel_rfl) rfl (fun x y h => (laws_toSix_eq x).trans h)

-- loop.example/g01204/laws.toState
noncomputable def laws_toState (a0 : ((Vec 6 Nat) × ((Vec 6 (Vec 6 Nat)) × Unit))) : Option ((((Vec 6 Nat) × ((Vec 6 (Vec 6 Nat)) × Unit)) × Unit) × Unit) :=
  (laws_toSix a0.1).bind fun y1150 =>
  (laws_toRoot a0.2.1).bind fun y1151 =>
  some ((((y1150.1.1, y1151.1.1, ()) : ((Vec 6 Nat) × ((Vec 6 (Vec 6 Nat)) × Unit))), ()), ())
noncomputable def laws_toState_sg : Sig := ⟨[.v (.pair (.arr 6 (.flt .f32)) (.pair (.arr 6 (.arr 6 (.flt .f32))) (.unit)))], [.v (.val (.pair (.arr 6 (.flt .f32)) (.pair (.arr 6 (.arr 6 (.flt .f32))) (.unit))))], false⟩
noncomputable def laws_toState_en : Entry := ⟨laws_toState_sg, fun x => laws_toState x.1⟩
theorem laws_toState_eq (x : laws_toState_sg.dom) : body (env [(97, laws_toSix_en), (98, laws_toRoot_en)]) [] Tryz.f30 laws_toState_sg x = laws_toState x.1 := by kernel_rfl
theorem laws_toState_so : Sound Tryz.prog 30 laws_toState_en := sound_of_body (envS (l := [(97, laws_toSix_en), (98, laws_toRoot_en)]) (⟨laws_toSix_so, laws_toRoot_so, trivial⟩)) Tryz.func30 (by kernel_rfl) rfl (fun x y h => (laws_toState_eq x).trans h)

-- loop.example/g01204/spec.l01Finite
noncomputable def spec_l01Finite (a0 : Nat) : Option ((Bool × Unit) × Unit) :=
  some (((fEq .f32 (fSub .f32 a0 a0) 0), ()), ())
noncomputable def spec_l01Finite_sg : Sig := ⟨[.v (.flt .f32)], [.v (.val (.bool))], false⟩
noncomputable def spec_l01Finite_en : Entry := ⟨spec_l01Finite_sg, fun x => spec_l01Finite x.1⟩
theorem spec_l01Finite_eq (x : spec_l01Finite_sg.dom) : body (env []) [] Tryz.f78 spec_l01Finite_sg x = spec_l01Finite x.1 := by kernel_rfl
theorem spec_l01Finite_so : Sound Tryz.prog 78 spec_l01Finite_en := sound_of_body (envS (l := []) (trivial)) Tryz.func78 (by kernel_rfl) rfl (fun x y h => (spec_l01Finite_eq x).trans h)

-- loop.example/g01204/spec.l03Six
noncomputable def spec_l03Six (a0 : (Vec 6 Nat)) : Option ((Bool × Unit) × Unit) :=
  (spec_l01Finite (Vec.getD 6 a0 0 (0 : Nat))).bind fun y1246 =>
  bif (! y1246.1.1) then some ((false, ()), ()) else
  (spec_l01Finite (Vec.getD 6 a0 1 (0 : Nat))).bind fun y1249 =>
  bif (! y1249.1.1) then some ((false, ()), ()) else
  (spec_l01Finite (Vec.getD 6 a0 2 (0 : Nat))).bind fun y1252 =>
  bif (! y1252.1.1) then some ((false, ()), ()) else
  (spec_l01Finite (Vec.getD 6 a0 3 (0 : Nat))).bind fun y1255 =>
  bif (! y1255.1.1) then some ((false, ()), ()) else
  (spec_l01Finite (Vec.getD 6 a0 4 (0 : Nat))).bind fun y1258 =>
  bif (! y1258.1.1) then some ((false, ()), ()) else
  (spec_l01Finite (Vec.getD 6 a0 5 (0 : Nat))).bind fun y1261 =>
  bif (! y1261.1.1) then some ((false, ()), ()) else some ((true, ()), ())
noncomputable def spec_l03Six_sg : Sig := ⟨[.v (.arr 6 (.flt .f32))], [.v (.val (.bool))], false⟩
noncomputable def spec_l03Six_en : Entry := ⟨spec_l03Six_sg, fun x => spec_l03Six x.1⟩
theorem spec_l03Six_eq (x : spec_l03Six_sg.dom) : body (env [(78, spec_l01Finite_en)]) [(2, .unroll 7)] Tryz.f159 spec_l03Six_sg x = spec_l03Six x.1 := by kernel_rfl
theorem spec_l03Six_so : Sound Tryz.prog 159 spec_l03Six_en := sound_of_body (envS (l := [(78, spec_l01Finite_en)]) (⟨spec_l01Finite_so, trivial⟩)) Tryz.func159 (by kernel_rfl) rfl (fun x y h => (spec_l03Six_eq x).trans h)

-- loop.example/g01204/spec.l03Ok
noncomputable def spec_l03Ok (a0 : ((Vec 6 Nat) × ((Vec 6 (Vec 6 Nat)) × Unit))) : Option ((Bool × Unit) × Unit) :=
  (spec_l03Six a0.1).bind fun y1183 =>
  bif (! y1183.1.1) then some ((false, ()), ()) else
  (spec_l03Six (Vec.getD 6 a0.2.1 0 ((0, 0, 0, 0, 0, 0, ()) : (Vec 6 Nat)))).bind fun y1186 =>
  bif (! y1186.1.1) then some ((false, ()), ()) else
  bif (fLt .f32 (Vec.getD 6 (Vec.getD 6 a0.2.1 0 ((0, 0, 0, 0, 0, 0, ()) : (Vec 6 Nat))) 0 (0 : Nat)) 0) then some ((false, ()), ()) else
  bif (! (fEq .f32 (Vec.getD 6 (Vec.getD 6 a0.2.1 0 ((0, 0, 0, 0, 0, 0, ()) : (Vec 6 Nat))) 1 (0 : Nat)) 0)) then some ((false, ()), ()) else
  bif (! (fEq .f32 (Vec.getD 6 (Vec.getD 6 a0.2.1 0 ((0, 0, 0, 0, 0, 0, ()) : (Vec 6 Nat))) 2 (0 : Nat)) 0)) then some ((false, ()), ()) else
  bif (! (fEq .f32 (Vec.getD 6 (Vec.getD 6 a0.2.1 0 ((0, 0, 0, 0, 0, 0, ()) : (Vec 6 Nat))) 3 (0 : Nat)) 0)) then some ((false, ()), ()) else
  bif (! (fEq .f32 (Vec.getD 6 (Vec.getD 6 a0.2.1 0 ((0, 0, 0, 0, 0, 0, ()) : (Vec 6 Nat))) 4 (0 : Nat)) 0)) then some ((false, ()), ()) else
  bif (! (fEq .f32 (Vec.getD 6 (Vec.getD 6 a0.2.1 0 ((0, 0, 0, 0, 0, 0, ()) : (Vec 6 Nat))) 5 (0 : Nat)) 0)) then some ((false, ()), ()) else
  (spec_l03Six (Vec.getD 6 a0.2.1 1 ((0, 0, 0, 0, 0, 0, ()) : (Vec 6 Nat)))).bind fun y1201 =>
  bif (! y1201.1.1) then some ((false, ()), ()) else
  bif (fLt .f32 (Vec.getD 6 (Vec.getD 6 a0.2.1 1 ((0, 0, 0, 0, 0, 0, ()) : (Vec 6 Nat))) 1 (0 : Nat)) 0) then some ((false, ()), ()) else
  bif (! (fEq .f32 (Vec.getD 6 (Vec.getD 6 a0.2.1 1 ((0, 0, 0, 0, 0, 0, ()) : (Vec 6 Nat))) 2 (0 : Nat)) 0)) then some ((false, ()), ()) else
  bif (! (fEq .f32 (Vec.getD 6 (Vec.getD 6 a0.2.1 1 ((0, 0, 0, 0, 0, 0, ()) : (Vec 6 Nat))) 3 (0 : Nat)) 0)) then some ((false, ()), ()) else
  bif (! (fEq .f32 (Vec.getD 6 (Vec.getD 6 a0.2.1 1 ((0, 0, 0, 0, 0, 0, ()) : (Vec 6 Nat))) 4 (0 : Nat)) 0)) then some ((false, ()), ()) else
  bif (! (fEq .f32 (Vec.getD 6 (Vec.getD 6 a0.2.1 1 ((0, 0, 0, 0, 0, 0, ()) : (Vec 6 Nat))) 5 (0 : Nat)) 0)) then some ((false, ()), ()) else
  (spec_l03Six (Vec.getD 6 a0.2.1 2 ((0, 0, 0, 0, 0, 0, ()) : (Vec 6 Nat)))).bind fun y1214 =>
  bif (! y1214.1.1) then some ((false, ()), ()) else
  bif (fLt .f32 (Vec.getD 6 (Vec.getD 6 a0.2.1 2 ((0, 0, 0, 0, 0, 0, ()) : (Vec 6 Nat))) 2 (0 : Nat)) 0) then some ((false, ()), ()) else
  bif (! (fEq .f32 (Vec.getD 6 (Vec.getD 6 a0.2.1 2 ((0, 0, 0, 0, 0, 0, ()) : (Vec 6 Nat))) 3 (0 : Nat)) 0)) then some ((false, ()), ()) else
  bif (! (fEq .f32 (Vec.getD 6 (Vec.getD 6 a0.2.1 2 ((0, 0, 0, 0, 0, 0, ()) : (Vec 6 Nat))) 4 (0 : Nat)) 0)) then some ((false, ()), ()) else
  bif (! (fEq .f32 (Vec.getD 6 (Vec.getD 6 a0.2.1 2 ((0, 0, 0, 0, 0, 0, ()) : (Vec 6 Nat))) 5 (0 : Nat)) 0)) then some ((false, ()), ()) else
  (spec_l03Six (Vec.getD 6 a0.2.1 3 ((0, 0, 0, 0, 0, 0, ()) : (Vec 6 Nat)))).bind fun y1225 =>
  bif (! y1225.1.1) then some ((false, ()), ()) else
  bif (fLt .f32 (Vec.getD 6 (Vec.getD 6 a0.2.1 3 ((0, 0, 0, 0, 0, 0, ()) : (Vec 6 Nat))) 3 (0 : Nat)) 0) then some ((false, ()), ()) else
  bif (! (fEq .f32 (Vec.getD 6 (Vec.getD 6 a0.2.1 3 ((0, 0, 0, 0, 0, 0, ()) : (Vec 6 Nat))) 4 (0 : Nat)) 0)) then some ((false, ()), ()) else
  bif (! (fEq .f32 (Vec.getD 6 (Vec.getD 6 a0.2.1 3 ((0, 0, 0, 0, 0, 0, ()) : (Vec 6 Nat))) 5 (0 : Nat)) 0)) then some ((false, ()), ()) else
  (spec_l03Six (Vec.getD 6 a0.2.1 4 ((0, 0, 0, 0, 0, 0, ()) : (Vec 6 Nat)))).bind fun y1234 =>
  bif (! y1234.1.1) then some ((false, ()), ()) else
  bif (fLt .f32 (Vec.getD 6 (Vec.getD 6 a0.2.1 4 ((0, 0, 0, 0, 0, 0, ()) : (Vec 6 Nat))) 4 (0 : Nat)) 0) then some ((false, ()), ()) else
  bif (! (fEq .f32 (Vec.getD 6 (Vec.getD 6 a0.2.1 4 ((0, 0, 0, 0, 0, 0, ()) : (Vec 6 Nat))) 5 (0 : Nat)) 0)) then some ((false, ()), ()) else
  (spec_l03Six (Vec.getD 6 a0.2.1 5 ((0, 0, 0, 0, 0, 0, ()) : (Vec 6 Nat)))).bind fun y1241 =>
  bif (! y1241.1.1) then some ((false, ()), ()) else
  bif (fLt .f32 (Vec.getD 6 (Vec.getD 6 a0.2.1 5 ((0, 0, 0, 0, 0, 0, ()) : (Vec 6 Nat))) 5 (0 : Nat)) 0) then some ((false, ()), ()) else some ((true, ()), ())
noncomputable def spec_l03Ok_sg : Sig := ⟨[.ro (.pair (.arr 6 (.flt .f32)) (.pair (.arr 6 (.arr 6 (.flt .f32))) (.unit)))], [.v (.val (.bool))], false⟩
noncomputable def spec_l03Ok_en : Entry := ⟨spec_l03Ok_sg, fun x => spec_l03Ok x.1⟩
theorem spec_l03Ok_eq (x : spec_l03Ok_sg.dom) : body (env [(159, spec_l03Six_en)]) [(4, .unroll 7), (9, .unroll 6)] Tryz.f91 spec_l03Ok_sg x = spec_l03Ok x.1 := by kernel_rfl
theorem spec_l03Ok_so : Sound Tryz.prog 91 spec_l03Ok_en := sound_of_body (envS (l := [(159, spec_l03Six_en)]) (⟨spec_l03Six_so, trivial⟩)) Tryz.func91 (by kernel_rfl) rfl (fun x y h => (spec_l03Ok_eq x).trans h)

-- loop.example/g01204/spec.l00In
noncomputable def spec_l00In (a0 : Int) (a1 : Int) (a2 : Int) : Option ((Bool × Unit) × Unit) :=
  bif (iLe a1 a0) then
    some (((iLe a0 a2), ()), ())
  else some ((false, ()), ())
noncomputable def spec_l00In_sg : Sig := ⟨[.v (.int .i64), .v (.int .i64), .v (.int .i64)], [.v (.val (.bool))], false⟩
noncomputable def spec_l00In_en : Entry := ⟨spec_l00In_sg, fun x => spec_l00In x.1 x.2.1 x.2.2.1⟩
theorem spec_l00In_eq (x : spec_l00In_sg.dom) : body (env []) [] Tryz.f113 spec_l00In_sg x = spec_l00In x.1 x.2.1 x.2.2.1 := by kernel_rfl
theorem spec_l00In_so : Sound Tryz.prog 113 spec_l00In_en := sound_of_body (envS (l := []) (trivial)) Tryz.func113 (by kernel_rfl) rfl (fun x y h => (spec_l00In_eq x).trans h)

-- loop.example/g01204/spec.l01Same
noncomputable def spec_l01Same (a0 : Nat) (a1 : Nat) : Option ((Bool × Unit) × Unit) :=
  bif (! (fEq .f32 a0 a0)) then
    bif (! (fEq .f32 a0 a0)) then
      some (((! (fEq .f32 a1 a1)), ()), ())
    else some ((false, ()), ())
  else
  bif (! (fEq .f32 a1 a1)) then
    bif (! (fEq .f32 a0 a0)) then
      some (((! (fEq .f32 a1 a1)), ()), ())
    else some ((false, ()), ())
  else
  allSame fun (q1325 : Nat) =>
  allSame fun (q1327 : Nat) =>
  some (((iEq (bitsF .f32 a0 q1325) (bitsF .f32 a1 q1327)), ()), ())
noncomputable def spec_l01Same_sg : Sig := ⟨[.v (.flt .f32), .v (.flt .f32)], [.v (.val (.bool))], false⟩
noncomputable def spec_l01Same_en : Entry := ⟨spec_l01Same_sg, fun x => spec_l01Same x.1 x.2.1⟩
theorem spec_l01Same_eq (x : spec_l01Same_sg.dom) : body (env []) [] Tryz.f160 spec_l01Same_sg x = spec_l01Same x.1 x.2.1 := by kernel_rfl
theorem spec_l01Same_so : Sound Tryz.prog 160 spec_l01Same_en := sound_of_body (envS (l := []) (trivial)) Tryz.func160 (by kernel_rfl) rfl (fun x y h => (spec_l01Same_eq x).trans h)

-- loop.example/g01204/spec.l01SameVec
noncomputable def spec_l01SameVec (a0 : (Vec 3 Nat)) (a1 : (Vec 3 Nat)) : Option ((Bool × Unit) × Unit) :=
  (spec_l01Same (Vec.getD 3 a0 0 (0 : Nat)) (Vec.getD 3 a1 0 (0 : Nat))).bind fun y1332 =>
  bif y1332.1.1 then
    (spec_l01Same (Vec.getD 3 a0 1 (0 : Nat)) (Vec.getD 3 a1 1 (0 : Nat))).bind fun y1335 =>
    bif y1335.1.1 then
      (spec_l01Same (Vec.getD 3 a0 2 (0 : Nat)) (Vec.getD 3 a1 2 (0 : Nat))).bind fun y1338 =>
      some ((y1338.1.1, ()), ())
    else some ((false, ()), ())
  else some ((false, ()), ())
noncomputable def spec_l01SameVec_sg : Sig := ⟨[.v (.arr 3 (.flt .f32)), .v (.arr 3 (.flt .f32))], [.v (.val (.bool))], false⟩
noncomputable def spec_l01SameVec_en : Entry := ⟨spec_l01SameVec_sg, fun x => spec_l01SameVec x.1 x.2.1⟩
theorem spec_l01SameVec_eq (x : spec_l01SameVec_sg.dom) : body (env [(160, spec_l01Same_en)]) [] Tryz.f154 spec_l01SameVec_sg x = spec_l01SameVec x.1 x.2.1 := by kernel_rfl
theorem spec_l01SameVec_so : Sound Tryz.prog 154 spec_l01SameVec_en := sound_of_body (envS (l := [(160, spec_l01Same_en)]) (⟨spec_l01Same_so, trivial⟩)) Tryz.func154 (by kernel_rfl) rfl (fun x y h => (spec_l01SameVec_eq x).trans h)

-- loop.example/g01204/spec.l01Vec
noncomputable def spec_l01Vec (a0 : (Vec 3 Nat)) : Option ((Bool × Unit) × Unit) :=
  (spec_l01Finite (Vec.getD 3 a0 0 (0 : Nat))).bind fun y1340 =>
  bif y1340.1.1 then
    (spec_l01Finite (Vec.getD 3 a0 1 (0 : Nat))).bind fun y1342 =>
    bif y1342.1.1 then
      (spec_l01Finite (Vec.getD 3 a0 2 (0 : Nat))).bind fun y1344 =>
      some ((y1344.1.1, ()), ())
    else some ((false, ()), ())
  else some ((false, ()), ())
noncomputable def spec_l01Vec_sg : Sig := ⟨[.v (.arr 3 (.flt .f32))], [.v (.val (.bool))], false⟩
noncomputable def spec_l01Vec_en : Entry := ⟨spec_l01Vec_sg, fun x => spec_l01Vec x.1⟩
theorem spec_l01Vec_eq (x : spec_l01Vec_sg.dom) : body (env [(78, spec_l01Finite_en)]) [] Tryz.f149 spec_l01Vec_sg x = spec_l01Vec x.1 := by kernel_rfl
theorem spec_l01Vec_so : Sound Tryz.prog 149 spec_l01Vec_en := sound_of_body (envS (l := [(78, spec_l01Finite_en)]) (⟨spec_l01Finite_so, trivial⟩)) Tryz.func149 (by kernel_rfl) rfl (fun x y h => (spec_l01Vec_eq x).trans h)

-- loop.example/g01204/spec.l08Entry
noncomputable def spec_l08Entry (a0 : (Int × ((Vec 3 Nat) × ((Vec 3 Int) × (Int × (Nat × Unit)))))) (a1 : Int) : Option ((Bool × Unit) × Unit) :=
  (spec_l01SameVec a0.2.1 ((0, 0, 0, ()) : (Vec 3 Nat))).bind fun y1265 =>
  bif y1265.1.1 then
    (spec_l01Same a0.2.2.2.2.1 (0 : Nat)).bind fun y1266 =>
    bif y1266.1.1 then
      bif (iEq a0.1 1) then
        bif (iEq (Vec.getD 3 a0.2.2.1 0 (0 : Int)) 0 && (iEq (Vec.getD 3 a0.2.2.1 1 (0 : Int)) 0 && (iEq (Vec.getD 3 a0.2.2.1 2 (0 : Int)) 0 && true))) then
          some (((iEq a0.2.2.2.1 0), ()), ())
        else some ((false, ()), ())
      else
      bif (iEq a0.1 2) then
        (spec_l01Vec a0.2.1).bind fun y1271 =>
        bif y1271.1.1 then
          (spec_l01Same a0.2.2.2.2.1 (0 : Nat)).bind fun y1272 =>
          bif y1272.1.1 then
            bif (iEq (Vec.getD 3 a0.2.2.1 0 (0 : Int)) 0 && (iEq (Vec.getD 3 a0.2.2.1 1 (0 : Int)) 0 && (iEq (Vec.getD 3 a0.2.2.1 2 (0 : Int)) 0 && true))) then
              some (((iEq a0.2.2.2.1 0), ()), ())
            else some ((false, ()), ())
          else some ((false, ()), ())
        else some ((false, ()), ())
      else
      bif (iEq a0.1 3) then
        (spec_l01SameVec a0.2.1 ((0, 0, 0, ()) : (Vec 3 Nat))).bind fun y1276 =>
        bif y1276.1.1 then
          (spec_l01Same a0.2.2.2.2.1 (0 : Nat)).bind fun y1277 =>
          bif y1277.1.1 then
            some (((iEq a0.2.2.2.1 0), ()), ())
          else some ((false, ()), ())
        else some ((false, ()), ())
      else
      bif (iEq a0.1 4) then
        (spec_l01SameVec a0.2.1 ((0, 0, 0, ()) : (Vec 3 Nat))).bind fun y1280 =>
        bif y1280.1.1 then
          bif (iEq (Vec.getD 3 a0.2.2.1 0 (0 : Int)) 0 && (iEq (Vec.getD 3 a0.2.2.1 1 (0 : Int)) 0 && (iEq (Vec.getD 3 a0.2.2.1 2 (0 : Int)) 0 && true))) then
            (spec_l01Finite a0.2.2.2.2.1).bind fun y1282 =>
            bif y1282.1.1 then
              (spec_l00In a0.2.2.2.1 (0 : Int) (iSub .i64 a1 1)).bind fun y1284 =>
              some ((y1284.1.1, ()), ())
            else some ((false, ()), ())
          else some ((false, ()), ())
        else some ((false, ()), ())
      else some ((false, ()), ())
    else
    bif (iEq a0.1 1) then some ((false, ()), ()) else
    bif (iEq a0.1 2) then
      (spec_l01Vec a0.2.1).bind fun y1287 =>
      bif y1287.1.1 then
        (spec_l01Same a0.2.2.2.2.1 (0 : Nat)).bind fun y1288 =>
        bif y1288.1.1 then
          bif (iEq (Vec.getD 3 a0.2.2.1 0 (0 : Int)) 0 && (iEq (Vec.getD 3 a0.2.2.1 1 (0 : Int)) 0 && (iEq (Vec.getD 3 a0.2.2.1 2 (0 : Int)) 0 && true))) then
            some (((iEq a0.2.2.2.1 0), ()), ())
          else some ((false, ()), ())
        else some ((false, ()), ())
      else some ((false, ()), ())
    else
    bif (iEq a0.1 3) then
      (spec_l01SameVec a0.2.1 ((0, 0, 0, ()) : (Vec 3 Nat))).bind fun y1292 =>
      bif y1292.1.1 then
        (spec_l01Same a0.2.2.2.2.1 (0 : Nat)).bind fun y1293 =>
        bif y1293.1.1 then
          some (((iEq a0.2.2.2.1 0), ()), ())
        else some ((false, ()), ())
      else some ((false, ()), ())
    else
    bif (iEq a0.1 4) then
      (spec_l01SameVec a0.2.1 ((0, 0, 0, ()) : (Vec 3 Nat))).bind fun y1296 =>
      bif y1296.1.1 then
        bif (iEq (Vec.getD 3 a0.2.2.1 0 (0 : Int)) 0 && (iEq (Vec.getD 3 a0.2.2.1 1 (0 : Int)) 0 && (iEq (Vec.getD 3 a0.2.2.1 2 (0 : Int)) 0 && true))) then
          (spec_l01Finite a0.2.2.2.2.1).bind fun y1298 =>
          bif y1298.1.1 then
            (spec_l00In a0.2.2.2.1 (0 : Int) (iSub .i64 a1 1)).bind fun y1300 =>
            some ((y1300.1.1, ()), ())
          else some ((false, ()), ())
        else some ((false, ()), ())
      else some ((false, ()), ())
    else some ((false, ()), ())
  else
  bif (iEq a0.1 1) then some ((false, ()), ()) else
  bif (iEq a0.1 2) then
    (spec_l01Vec a0.2.1).bind fun y1303 =>
    bif y1303.1.1 then
      (spec_l01Same a0.2.2.2.2.1 (0 : Nat)).bind fun y1304 =>
      bif y1304.1.1 then
        bif (iEq (Vec.getD 3 a0.2.2.1 0 (0 : Int)) 0 && (iEq (Vec.getD 3 a0.2.2.1 1 (0 : Int)) 0 && (iEq (Vec.getD 3 a0.2.2.1 2 (0 : Int)) 0 && true))) then
          some (((iEq a0.2.2.2.1 0), ()), ())
        else some ((false, ()), ())
      else some ((false, ()), ())
    else some ((false, ()), ())
  else
  bif (iEq a0.1 3) then
    (spec_l01SameVec a0.2.1 ((0, 0, 0, ()) : (Vec 3 Nat))).bind fun y1308 =>
    bif y1308.1.1 then
      (spec_l01Same a0.2.2.2.2.1 (0 : Nat)).bind fun y1309 =>
      bif y1309.1.1 then
        some (((iEq a0.2.2.2.1 0), ()), ())
      else some ((false, ()), ())
    else some ((false, ()), ())
  else
  bif (iEq a0.1 4) then
    (spec_l01SameVec a0.2.1 ((0, 0, 0, ()) : (Vec 3 Nat))).bind fun y1312 =>
    bif y1312.1.1 then
      bif (iEq (Vec.getD 3 a0.2.2.1 0 (0 : Int)) 0 && (iEq (Vec.getD 3 a0.2.2.1 1 (0 : Int)) 0 && (iEq (Vec.getD 3 a0.2.2.1 2 (0 : Int)) 0 && true))) then
        (spec_l01Finite a0.2.2.2.2.1).bind fun y1314 =>
        bif y1314.1.1 then
          (spec_l00In a0.2.2.2.1 (0 : Int) (iSub .i64 a1 1)).bind fun y1316 =>
          some ((y1316.1.1, ()), ())
        else some ((false, ()), ())
      else some ((false, ()), ())
    else some ((false, ()), ())
  else some ((false, ()), ())
noncomputable def spec_l08Entry_sg : Sig := ⟨[.ro (.pair (.int .i64) (.pair (.arr 3 (.flt .f32)) (.pair (.arr 3 (.int .i16)) (.pair (.int .i64) (.pair (.flt .f32) (.unit)))))), .v (.int .i64)], [.v (.val (.bool))], false⟩
noncomputable def spec_l08Entry_en : Entry := ⟨spec_l08Entry_sg, fun x => spec_l08Entry x.1 x.2.1⟩
theorem spec_l08Entry_eq (x : spec_l08Entry_sg.dom) : body (env [(78, spec_l01Finite_en), (113, spec_l00In_en), (149, spec_l01Vec_en), (154, spec_l01SameVec_en), (160, spec_l01Same_en)]) [] Tryz.f92 spec_l08Entry_sg x = spec_l08Entry x.1 x.2.1 := by kernel_rfl
theorem spec_l08Entry_so : Sound Tryz.prog 92 spec_l08Entry_en := sound_of_body (envS (l := [(78, spec_l01Finite_en), (113, spec_l00In_en), (149, spec_l01Vec_en), (154, spec_l01SameVec_en), (160, spec_l01Same_en)]) (⟨spec_l01Finite_so, spec_l00In_so, spec_l01Vec_so, spec_l01SameVec_so, spec_l01Same_so, trivial⟩)) Tryz.func92 (by kernel_rfl) rfl (fun x y h => (spec_l08Entry_eq x).trans h)

-- loop.example/g01204/spec.l08Frame
noncomputable def spec_l08Frame_l4 (a2 : (List (Vec 3 Nat))) (s1358 : (Int × Unit)) : Option ((Int × Unit) ⊕ ((Bool × Unit) × Unit)) :=
  bif (iLt s1358.1 (lenI a2)) then
    bif inB s1358.1 (List.length a2) then
      (spec_l01Vec (List.getD a2 s1358.1.toNat ((0, 0, 0, ()) : (Vec 3 Nat)))).bind fun y1361 =>
      bif (! y1361.1.1) then
        Option.map Sum.inr (some ((false, ()), ()))
      else
      some (Sum.inl ((iAdd .i64 s1358.1 1), ()))
    else none
  else
  Option.map Sum.inr (some ((true, ()), ()))
noncomputable def spec_l08Frame (a0 : Int) (a1 : (Vec 3 Nat)) (a2 : (List (Vec 3 Nat))) : Option ((Bool × Unit) × Unit) :=
  (spec_l00In a0 (1 : Int) (64 : Int)).bind fun y1353 =>
  bif (! y1353.1.1) then some ((false, ()), ()) else
  (spec_l01Vec a1).bind fun y1355 =>
  bif (! y1355.1.1) then some ((false, ()), ()) else
  bif (iLt 6 (lenI a2)) then some ((false, ()), ()) else run (spec_l08Frame_l4 a2) ((0 : Int), ())
noncomputable def spec_l08Frame_sg : Sig := ⟨[.v (.int .i64), .v (.arr 3 (.flt .f32)), .v (.list (.arr 3 (.flt .f32)))], [.v (.val (.bool))], false⟩
noncomputable def spec_l08Frame_en : Entry := ⟨spec_l08Frame_sg, fun x => spec_l08Frame x.1 x.2.1 x.2.2.1⟩
theorem spec_l08Frame_eq (x : spec_l08Frame_sg.dom) : body (env [(113, spec_l00In_en), (149, spec_l01Vec_en)]) [(4, .vary [(7, .sc (.int .i64))])] Tryz.f158 spec_l08Frame_sg x = spec_l08Frame x.1 x.2.1 x.2.2.1 := by kernel_rfl
theorem spec_l08Frame_so : Sound Tryz.prog 158 spec_l08Frame_en := sound_of_body (envS (l := [(113, spec_l00In_en), (149, spec_l01Vec_en)]) (⟨spec_l00In_so, spec_l01Vec_so, trivial⟩)) Tryz.func158 (by kernel_rfl) rfl (fun x y h => (spec_l08Frame_eq x).trans h)

-- loop.example/g01204/spec.l08Log
noncomputable def spec_l08Log_l4 (a0 : (Int × ((Vec 3 Nat) × ((List (Vec 3 Nat)) × ((List (Int × ((Vec 3 Nat) × ((Vec 3 Int) × (Int × (Nat × Unit)))))) × Unit))))) (s1348 : (Int × Unit)) : Option ((Int × Unit) ⊕ ((Bool × Unit) × Unit)) :=
  bif (iLt s1348.1 (lenI a0.2.2.2.1)) then
    bif inB s1348.1 (List.length a0.2.2.2.1) then
      (spec_l08Entry (List.getD a0.2.2.2.1 s1348.1.toNat ((0, (0, 0, 0, ()), (0, 0, 0, ()), 0, 0, ()) : (Int × ((Vec 3 Nat) × ((Vec 3 Int) × (Int × (Nat × Unit))))))) (lenI a0.2.2.1)).bind fun y1350 =>
      bif (! y1350.1.1) then
        Option.map Sum.inr (some ((false, ()), ()))
      else
      some (Sum.inl ((iAdd .i64 s1348.1 1), ()))
    else none
  else
  Option.map Sum.inr (some ((true, ()), ()))
noncomputable def spec_l08Log (a0 : (Int × ((Vec 3 Nat) × ((List (Vec 3 Nat)) × ((List (Int × ((Vec 3 Nat) × ((Vec 3 Int) × (Int × (Nat × Unit)))))) × Unit))))) : Option ((Bool × Unit) × Unit) :=
  (spec_l08Frame a0.1 a0.2.1 a0.2.2.1).bind fun y1345 =>
  bif (! y1345.1.1) then some ((false, ()), ()) else
  bif (iLt 1200 (lenI a0.2.2.2.1)) then some ((false, ()), ()) else run (spec_l08Log_l4 a0) ((0 : Int), ())
noncomputable def spec_l08Log_sg : Sig := ⟨[.ro (.pair (.int .i64) (.pair (.arr 3 (.flt .f32)) (.pair (.list (.arr 3 (.flt .f32))) (.pair (.list (.pair (.int .i64) (.pair (.arr 3 (.flt .f32)) (.pair (.arr 3 (.int .i16)) (.pair (.int .i64) (.pair (.flt .f32) (.unit))))))) (.unit)))))], [.v (.val (.bool))], false⟩
noncomputable def spec_l08Log_en : Entry := ⟨spec_l08Log_sg, fun x => spec_l08Log x.1⟩
theorem spec_l08Log_eq (x : spec_l08Log_sg.dom) : body (env [(92, spec_l08Entry_en), (158, spec_l08Frame_en)]) [(4, .vary [(3, .sc (.int .i64))])] Tryz.f90 spec_l08Log_sg x = spec_l08Log x.1 := by kernel_rfl
theorem spec_l08Log_so : Sound Tryz.prog 90 spec_l08Log_en := sound_of_body (envS (l := [(92, spec_l08Entry_en), (158, spec_l08Frame_en)]) (⟨spec_l08Entry_so, spec_l08Frame_so, trivial⟩)) Tryz.func90 (by kernel_rfl) rfl (fun x y h => (spec_l08Log_eq x).trans h)

-- loop.example/g01204/spec.l03Clue
noncomputable def spec_l03Clue (a0 : ((Vec 6 Nat) × (Nat × (Nat × Unit)))) : Option ((Bool × Unit) × Unit) :=
  (spec_l03Six a0.1).bind fun y1389 =>
  bif y1389.1.1 then
    (spec_l01Finite a0.2.1).bind fun y1390 =>
    bif y1390.1.1 then
      (spec_l01Finite a0.2.2.1).bind fun y1391 =>
      bif y1391.1.1 then
        some (((fLt .f32 0 a0.2.2.1), ()), ())
      else some ((false, ()), ())
    else some ((false, ()), ())
  else some ((false, ()), ())
noncomputable def spec_l03Clue_sg : Sig := ⟨[.ro (.pair (.arr 6 (.flt .f32)) (.pair (.flt .f32) (.pair (.flt .f32) (.unit))))], [.v (.val (.bool))], false⟩
noncomputable def spec_l03Clue_en : Entry := ⟨spec_l03Clue_sg, fun x => spec_l03Clue x.1⟩
theorem spec_l03Clue_eq (x : spec_l03Clue_sg.dom) : body (env [(78, spec_l01Finite_en), (159, spec_l03Six_en)]) [] Tryz.f216 spec_l03Clue_sg x = spec_l03Clue x.1 := by kernel_rfl
theorem spec_l03Clue_so : Sound Tryz.prog 216 spec_l03Clue_en := sound_of_body (envS (l := [(78, spec_l01Finite_en), (159, spec_l03Six_en)]) (⟨spec_l01Finite_so, spec_l03Six_so, trivial⟩)) Tryz.func216 (by kernel_rfl) rfl (fun x y h => (spec_l03Clue_eq x).trans h)

-- loop.example/g01204/spec.l03Valid
noncomputable def spec_l03Valid (a0 : ((Vec 6 Nat) × (Nat × (Nat × Unit)))) : Option ((((Vec 6 Nat) × (Nat × (Nat × Unit))) × Int × Unit) × Unit) :=
  (spec_l03Clue a0).bind fun y1387 =>
  bif (! y1387.1.1) then some (((((0, 0, 0, 0, 0, 0, ()), 0, 0, ()) : ((Vec 6 Nat) × (Nat × (Nat × Unit)))), (1 : Int), ()), ()) else some ((a0, (0 : Int), ()), ())
noncomputable def spec_l03Valid_sg : Sig := ⟨[.v (.pair (.arr 6 (.flt .f32)) (.pair (.flt .f32) (.pair (.flt .f32) (.unit))))], [.v (.val (.pair (.arr 6 (.flt .f32)) (.pair (.flt .f32) (.pair (.flt .f32) (.unit))))), .v (.val (.int .i64))], false⟩
noncomputable def spec_l03Valid_en : Entry := ⟨spec_l03Valid_sg, fun x => spec_l03Valid x.1⟩
theorem spec_l03Valid_eq (x : spec_l03Valid_sg.dom) : body (env [(216, spec_l03Clue_en)]) [] Tryz.f215 spec_l03Valid_sg x = spec_l03Valid x.1 := by kernel_rfl
theorem spec_l03Valid_so : Sound Tryz.prog 215 spec_l03Valid_en := sound_of_body (envS (l := [(216, spec_l03Clue_en)]) (⟨spec_l03Clue_so, trivial⟩)) Tryz.func215 (by kernel_rfl) rfl (fun x y h => (spec_l03Valid_eq x).trans h)

-- loop.example/g01204/spec.ClueAt
noncomputable def spec_ClueAt (a0 : Int) (a1 : Nat) (a2 : Nat) : Option ((((Vec 6 Nat) × (Nat × (Nat × Unit))) × Int × Unit) × Unit) :=
  (spec_l00In a0 (0 : Int) (5 : Int)).bind fun y1384 =>
  bif (! y1384.1.1) then some (((((0, 0, 0, 0, 0, 0, ()), 0, 0, ()) : ((Vec 6 Nat) × (Nat × (Nat × Unit)))), (2 : Int), ()), ()) else
  bif inB a0 6 then
    (spec_l03Valid ((Vec.set 6 ((0, 0, 0, 0, 0, 0, ()) : (Vec 6 Nat)) a0.toNat (1065353216 : Nat), a1, a2, ()) : ((Vec 6 Nat) × (Nat × (Nat × Unit))))).bind fun y1386 =>
    some ((y1386.1.1, y1386.1.2.1, ()), ())
  else none
noncomputable def spec_ClueAt_sg : Sig := ⟨[.v (.int .i64), .v (.flt .f32), .v (.flt .f32)], [.v (.val (.pair (.arr 6 (.flt .f32)) (.pair (.flt .f32) (.pair (.flt .f32) (.unit))))), .v (.val (.int .i64))], false⟩
noncomputable def spec_ClueAt_en : Entry := ⟨spec_ClueAt_sg, fun x => spec_ClueAt x.1 x.2.1 x.2.2.1⟩
theorem spec_ClueAt_eq (x : spec_ClueAt_sg.dom) : body (env [(113, spec_l00In_en), (215, spec_l03Valid_en)]) [] Tryz.f162 spec_ClueAt_sg x = spec_ClueAt x.1 x.2.1 x.2.2.1 := by kernel_rfl
theorem spec_ClueAt_so : Sound Tryz.prog 162 spec_ClueAt_en := sound_of_body (envS (l := [(113, spec_l00In_en), (215, spec_l03Valid_en)]) (⟨spec_l00In_so, spec_l03Valid_so, trivial⟩)) Tryz.func162 (by kernel_rfl) rfl (fun x y h => (spec_ClueAt_eq x).trans h)

-- loop.example/g01204/spec.l01Root
noncomputable def spec_l01Root (a0 : Nat) : Option ((Nat × Unit) × Unit) :=
  (fConv .f32 .f64 a0).bind fun y1517 =>
  (math_Sqrt y1517).bind fun y1518 =>
  (fConv .f64 .f32 y1518.1.1).bind fun y1519 =>
  some ((y1519, ()), ())
noncomputable def spec_l01Root_sg : Sig := ⟨[.v (.flt .f32)], [.v (.val (.flt .f32))], false⟩
noncomputable def spec_l01Root_en : Entry := ⟨spec_l01Root_sg, fun x => spec_l01Root x.1⟩
theorem spec_l01Root_eq (x : spec_l01Root_sg.dom) : body (env [(140, math_Sqrt_en)]) [] Tryz.f145 spec_l01Root_sg x = spec_l01Root x.1 := by kernel_rfl
theorem spec_l01Root_so : Sound Tryz.prog 145 spec_l01Root_en := sound_of_body (envS (l := [(140, math_Sqrt_en)]) (⟨math_Sqrt_so, trivial⟩)) Tryz.func145 (by kernel_rfl) rfl (fun x y h => (spec_l01Root_eq x).trans h)

-- loop.example/g01204/spec.l03Least
noncomputable def spec_l03Least (a0 : Nat) : Option ((Bool × Unit) × Unit) :=
  bif (fLe .f32 0 a0) then
    (spec_l01Finite a0).bind fun y1521 =>
    some ((y1521.1.1, ()), ())
  else some ((false, ()), ())
noncomputable def spec_l03Least_sg : Sig := ⟨[.v (.flt .f32)], [.v (.val (.bool))], false⟩
noncomputable def spec_l03Least_en : Entry := ⟨spec_l03Least_sg, fun x => spec_l03Least x.1⟩
theorem spec_l03Least_eq (x : spec_l03Least_sg.dom) : body (env [(78, spec_l01Finite_en)]) [] Tryz.f212 spec_l03Least_sg x = spec_l03Least x.1 := by kernel_rfl
theorem spec_l03Least_so : Sound Tryz.prog 212 spec_l03Least_en := sound_of_body (envS (l := [(78, spec_l01Finite_en)]) (⟨spec_l01Finite_so, trivial⟩)) Tryz.func212 (by kernel_rfl) rfl (fun x y h => (spec_l03Least_eq x).trans h)

-- loop.example/g01204/spec.l03Lower
noncomputable def spec_l03Lower_l16 (s1598 : (Int × (Vec 6 (Vec 9 Nat)) × Unit)) (s1637 : (Int × (Vec 6 (Vec 9 Nat)) × Unit)) (x1648 : Nat) (x1649 : Nat) (s1661 : (Int × (Vec 6 (Vec 9 Nat)) × Unit)) : Option ((Int × (Vec 6 (Vec 9 Nat)) × Unit) ⊕ ((Int × (Vec 6 (Vec 9 Nat)) × Unit) ⊕ ((Int × (Vec 6 (Vec 9 Nat)) × Unit) ⊕ (((Vec 6 (Vec 6 Nat)) × Int × Unit) × Unit)))) :=
  bif (iLt s1661.1 6) then
    bif inB s1661.1 6 then
      bif inB s1598.1 9 then
        let x1663 := Vec.getD 9 (Vec.getD 6 s1661.2.1 s1661.1.toNat ((0, 0, 0, 0, 0, 0, 0, 0, 0, ()) : (Vec 9 Nat))) s1598.1.toNat (0 : Nat)
        bif inB s1661.1 6 then
          bif inB s1637.1 9 then
            let x1664 := Vec.getD 9 (Vec.getD 6 s1661.2.1 s1661.1.toNat ((0, 0, 0, 0, 0, 0, 0, 0, 0, ()) : (Vec 9 Nat))) s1637.1.toNat (0 : Nat)
            let x1667 := fAdd .f32 (fMul .f32 x1648 x1663) (fMul .f32 x1649 x1664)
            bif inB s1661.1 6 then
              bif inB s1598.1 9 then
                bif inB s1661.1 6 then
                  bif inB s1637.1 9 then
                    some (Sum.inl ((iAdd .i64 s1661.1 1), Vec.set 6 (Vec.set 6 s1661.2.1 s1661.1.toNat (Vec.set 9 (Vec.getD 6 s1661.2.1 s1661.1.toNat ((0, 0, 0, 0, 0, 0, 0, 0, 0, ()) : (Vec 9 Nat))) s1598.1.toNat x1667)) s1661.1.toNat (Vec.set 9 (Vec.getD 6 (Vec.set 6 s1661.2.1 s1661.1.toNat (Vec.set 9 (Vec.getD 6 s1661.2.1 s1661.1.toNat ((0, 0, 0, 0, 0, 0, 0, 0, 0, ()) : (Vec 9 Nat))) s1598.1.toNat x1667)) s1661.1.toNat ((0, 0, 0, 0, 0, 0, 0, 0, 0, ()) : (Vec 9 Nat))) s1637.1.toNat (fSub .f32 (fMul .f32 x1648 x1664) (fMul .f32 x1649 x1663))), ()))
                  else none
                else none
              else none
            else none
          else none
        else none
      else none
    else none
  else
  Option.map Sum.inr (
    bif inB s1598.1 6 then
      bif inB s1637.1 9 then
        some (Sum.inl ((iAdd .i64 s1637.1 1), Vec.set 6 s1661.2.1 s1598.1.toNat (Vec.set 9 (Vec.getD 6 s1661.2.1 s1598.1.toNat ((0, 0, 0, 0, 0, 0, 0, 0, 0, ()) : (Vec 9 Nat))) s1637.1.toNat (0 : Nat)), ()))
      else none
    else none)
noncomputable def spec_l03Lower_l5 (s1598 : (Int × (Vec 6 (Vec 9 Nat)) × Unit)) (s1637 : (Int × (Vec 6 (Vec 9 Nat)) × Unit)) : Option ((Int × (Vec 6 (Vec 9 Nat)) × Unit) ⊕ ((Int × (Vec 6 (Vec 9 Nat)) × Unit) ⊕ (((Vec 6 (Vec 6 Nat)) × Int × Unit) × Unit))) :=
  bif (iLt s1637.1 9) then
    bif inB s1598.1 6 then
      bif inB s1637.1 9 then
        let x1639 := Vec.getD 9 (Vec.getD 6 s1637.2.1 s1598.1.toNat ((0, 0, 0, 0, 0, 0, 0, 0, 0, ()) : (Vec 9 Nat))) s1637.1.toNat (0 : Nat)
        bif (fEq .f32 x1639 0) then
          some (Sum.inl ((iAdd .i64 s1637.1 1), s1637.2.1, ()))
        else
        bif inB s1598.1 6 then
          bif inB s1598.1 9 then
            let x1642 := Vec.getD 9 (Vec.getD 6 s1637.2.1 s1598.1.toNat ((0, 0, 0, 0, 0, 0, 0, 0, 0, ()) : (Vec 9 Nat))) s1598.1.toNat (0 : Nat)
            (spec_l01Root (fAdd .f32 (fMul .f32 x1642 x1642) (fMul .f32 x1639 x1639))).bind fun y1646 =>
            bif (fEq .f32 y1646.1.1 0) then
              Option.map Sum.inr (Option.map Sum.inr (some (((((0, 0, 0, 0, 0, 0, ()), (0, 0, 0, 0, 0, 0, ()), (0, 0, 0, 0, 0, 0, ()), (0, 0, 0, 0, 0, 0, ()), (0, 0, 0, 0, 0, 0, ()), (0, 0, 0, 0, 0, 0, ()), ()) : (Vec 6 (Vec 6 Nat))), (4 : Int), ()), ())))
            else
            let x1648 := fDiv .f32 x1642 y1646.1.1
            let x1649 := fDiv .f32 x1639 y1646.1.1
            run (spec_l03Lower_l16 s1598 s1637 x1648 x1649) (s1598.1, s1637.2.1, ())
          else none
        else none
      else none
    else none
  else
  Option.map Sum.inr (some (Sum.inl ((iAdd .i64 s1598.1 1), s1637.2.1, ())))
noncomputable def spec_l03Lower_l28 (s1703 : (Int × (Vec 6 (Vec 6 Nat)) × Unit)) (s1598 : (Int × (Vec 6 (Vec 9 Nat)) × Unit)) (s1716 : (Int × (Vec 6 (Vec 6 Nat)) × Unit)) : Option ((Int × (Vec 6 (Vec 6 Nat)) × Unit) ⊕ ((Int × (Vec 6 (Vec 6 Nat)) × Unit) ⊕ (((Vec 6 (Vec 6 Nat)) × Int × Unit) × Unit))) :=
  bif (iLt s1716.1 6) then
    bif inB s1716.1 6 then
      bif inB s1703.1 9 then
        let x1718 := Vec.getD 9 (Vec.getD 6 s1598.2.1 s1716.1.toNat ((0, 0, 0, 0, 0, 0, 0, 0, 0, ()) : (Vec 9 Nat))) s1703.1.toNat (0 : Nat)
        bif inB s1716.1 6 then
          bif inB s1703.1 6 then
            bif inB s1703.1 6 then
              bif inB s1703.1 9 then
                bif (fLt .f32 (Vec.getD 9 (Vec.getD 6 s1598.2.1 s1703.1.toNat ((0, 0, 0, 0, 0, 0, 0, 0, 0, ()) : (Vec 9 Nat))) s1703.1.toNat (0 : Nat)) 0) then
                  bif inB s1716.1 6 then
                    bif inB s1703.1 9 then
                      let x1722 := fNeg .f32 (Vec.getD 9 (Vec.getD 6 s1598.2.1 s1716.1.toNat ((0, 0, 0, 0, 0, 0, 0, 0, 0, ()) : (Vec 9 Nat))) s1703.1.toNat (0 : Nat))
                      bif inB s1716.1 6 then
                        bif inB s1703.1 6 then
                          bif inB s1716.1 6 then
                            bif inB s1703.1 6 then
                              (spec_l01Finite (Vec.getD 6 (Vec.getD 6 (Vec.set 6 (Vec.set 6 s1716.2.1 s1716.1.toNat (Vec.set 6 (Vec.getD 6 s1716.2.1 s1716.1.toNat ((0, 0, 0, 0, 0, 0, ()) : (Vec 6 Nat))) s1703.1.toNat x1718)) s1716.1.toNat (Vec.set 6 (Vec.getD 6 (Vec.set 6 s1716.2.1 s1716.1.toNat (Vec.set 6 (Vec.getD 6 s1716.2.1 s1716.1.toNat ((0, 0, 0, 0, 0, 0, ()) : (Vec 6 Nat))) s1703.1.toNat x1718)) s1716.1.toNat ((0, 0, 0, 0, 0, 0, ()) : (Vec 6 Nat))) s1703.1.toNat x1722)) s1716.1.toNat ((0, 0, 0, 0, 0, 0, ()) : (Vec 6 Nat))) s1703.1.toNat (0 : Nat))).bind fun y1724 =>
                              bif (! y1724.1.1) then
                                Option.map Sum.inr (Option.map Sum.inr (some (((((0, 0, 0, 0, 0, 0, ()), (0, 0, 0, 0, 0, 0, ()), (0, 0, 0, 0, 0, 0, ()), (0, 0, 0, 0, 0, 0, ()), (0, 0, 0, 0, 0, 0, ()), (0, 0, 0, 0, 0, 0, ()), ()) : (Vec 6 (Vec 6 Nat))), (4 : Int), ()), ())))
                              else
                              some (Sum.inl ((iAdd .i64 s1716.1 1), Vec.set 6 (Vec.set 6 s1716.2.1 s1716.1.toNat (Vec.set 6 (Vec.getD 6 s1716.2.1 s1716.1.toNat ((0, 0, 0, 0, 0, 0, ()) : (Vec 6 Nat))) s1703.1.toNat x1718)) s1716.1.toNat (Vec.set 6 (Vec.getD 6 (Vec.set 6 s1716.2.1 s1716.1.toNat (Vec.set 6 (Vec.getD 6 s1716.2.1 s1716.1.toNat ((0, 0, 0, 0, 0, 0, ()) : (Vec 6 Nat))) s1703.1.toNat x1718)) s1716.1.toNat ((0, 0, 0, 0, 0, 0, ()) : (Vec 6 Nat))) s1703.1.toNat x1722), ()))
                            else none
                          else none
                        else none
                      else none
                    else none
                  else none
                else
                bif inB s1716.1 6 then
                  bif inB s1703.1 6 then
                    (spec_l01Finite (Vec.getD 6 (Vec.getD 6 (Vec.set 6 s1716.2.1 s1716.1.toNat (Vec.set 6 (Vec.getD 6 s1716.2.1 s1716.1.toNat ((0, 0, 0, 0, 0, 0, ()) : (Vec 6 Nat))) s1703.1.toNat x1718)) s1716.1.toNat ((0, 0, 0, 0, 0, 0, ()) : (Vec 6 Nat))) s1703.1.toNat (0 : Nat))).bind fun y1728 =>
                    bif (! y1728.1.1) then
                      Option.map Sum.inr (Option.map Sum.inr (some (((((0, 0, 0, 0, 0, 0, ()), (0, 0, 0, 0, 0, 0, ()), (0, 0, 0, 0, 0, 0, ()), (0, 0, 0, 0, 0, 0, ()), (0, 0, 0, 0, 0, 0, ()), (0, 0, 0, 0, 0, 0, ()), ()) : (Vec 6 (Vec 6 Nat))), (4 : Int), ()), ())))
                    else
                    some (Sum.inl ((iAdd .i64 s1716.1 1), Vec.set 6 s1716.2.1 s1716.1.toNat (Vec.set 6 (Vec.getD 6 s1716.2.1 s1716.1.toNat ((0, 0, 0, 0, 0, 0, ()) : (Vec 6 Nat))) s1703.1.toNat x1718), ()))
                  else none
                else none
              else none
            else none
          else none
        else none
      else none
    else none
  else
  Option.map Sum.inr (some (Sum.inl ((iAdd .i64 s1703.1 1), s1716.2.1, ())))
noncomputable def spec_l03Lower_l25 (s1598 : (Int × (Vec 6 (Vec 9 Nat)) × Unit)) (s1703 : (Int × (Vec 6 (Vec 6 Nat)) × Unit)) : Option ((Int × (Vec 6 (Vec 6 Nat)) × Unit) ⊕ (((Vec 6 (Vec 6 Nat)) × Int × Unit) × Unit)) :=
  bif (iLt s1703.1 6) then run (spec_l03Lower_l28 s1703 s1598) (s1703.1, s1703.2.1, ()) else
  Option.map Sum.inr (some ((s1703.2.1, (0 : Int), ()), ()))
noncomputable def spec_l03Lower_l2 (s1598 : (Int × (Vec 6 (Vec 9 Nat)) × Unit)) : Option ((Int × (Vec 6 (Vec 9 Nat)) × Unit) ⊕ (((Vec 6 (Vec 6 Nat)) × Int × Unit) × Unit)) :=
  bif (iLt s1598.1 6) then
    run (spec_l03Lower_l5 s1598) ((iAdd .i64 s1598.1 1), s1598.2.1, ())
  else
  Option.map Sum.inr (run (spec_l03Lower_l25 s1598) ((0 : Int), (((0, 0, 0, 0, 0, 0, ()), (0, 0, 0, 0, 0, 0, ()), (0, 0, 0, 0, 0, 0, ()), (0, 0, 0, 0, 0, 0, ()), (0, 0, 0, 0, 0, 0, ()), (0, 0, 0, 0, 0, 0, ()), ()) : (Vec 6 (Vec 6 Nat))), ()))
noncomputable def spec_l03Lower (a0 : (Vec 6 (Vec 9 Nat))) : Option (((Vec 6 (Vec 6 Nat)) × Int × Unit) × Unit) :=
  run (spec_l03Lower_l2) ((0 : Int), a0, ())
noncomputable def spec_l03Lower_sg : Sig := ⟨[.v (.arr 6 (.arr 9 (.flt .f32)))], [.v (.val (.arr 6 (.arr 6 (.flt .f32)))), .v (.val (.int .i64))], false⟩
noncomputable def spec_l03Lower_en : Entry := ⟨spec_l03Lower_sg, fun x => spec_l03Lower x.1⟩
theorem spec_l03Lower_eq (x : spec_l03Lower_sg.dom) : body (env [(78, spec_l01Finite_en), (145, spec_l01Root_en)]) [(2, .vary [(4, .sc (.int .i64)), (1, .box (.val (.arr 6 (.arr 9 (.flt .f32)))))]), (5, .vary [(5, .sc (.int .i64)), (1, .box (.val (.arr 6 (.arr 9 (.flt .f32)))))]), (16, .vary [(11, .sc (.int .i64)), (1, .box (.val (.arr 6 (.arr 9 (.flt .f32)))))]), (25, .vary [(15, .sc (.int .i64)), (14, .box (.val (.arr 6 (.arr 6 (.flt .f32)))))]), (28, .vary [(16, .sc (.int .i64)), (14, .box (.val (.arr 6 (.arr 6 (.flt .f32)))))])] Tryz.f213 spec_l03Lower_sg x = spec_l03Lower x.1 := by kernel_rfl
theorem spec_l03Lower_so : Sound Tryz.prog 213 spec_l03Lower_en := sound_of_body (envS (l := [(78, spec_l01Finite_en), (145, spec_l01Root_en)]) (⟨spec_l01Finite_so, spec_l01Root_so, trivial⟩)) Tryz.func213 (by kernel_rfl) rfl (fun x y h => (spec_l03Lower_eq x).trans h)

-- loop.example/g01204/spec.l03Made
noncomputable def spec_l03Made (a0 : ((Vec 6 Nat) × ((Vec 6 (Vec 6 Nat)) × Unit))) (a1 : Int) : Option ((((Vec 6 Nat) × ((Vec 6 (Vec 6 Nat)) × Unit)) × Int × Unit) × Unit) :=
  bif (! (iEq a1 0)) then
    some (((((0, 0, 0, 0, 0, 0, ()), ((0, 0, 0, 0, 0, 0, ()), (0, 0, 0, 0, 0, 0, ()), (0, 0, 0, 0, 0, 0, ()), (0, 0, 0, 0, 0, 0, ()), (0, 0, 0, 0, 0, 0, ()), (0, 0, 0, 0, 0, 0, ()), ()), ()) : ((Vec 6 Nat) × ((Vec 6 (Vec 6 Nat)) × Unit))), a1, ()), ())
  else
  (spec_l03Ok a0).bind fun y1733 =>
  bif (! y1733.1.1) then
    some (((((0, 0, 0, 0, 0, 0, ()), ((0, 0, 0, 0, 0, 0, ()), (0, 0, 0, 0, 0, 0, ()), (0, 0, 0, 0, 0, 0, ()), (0, 0, 0, 0, 0, 0, ()), (0, 0, 0, 0, 0, 0, ()), (0, 0, 0, 0, 0, 0, ()), ()), ()) : ((Vec 6 Nat) × ((Vec 6 (Vec 6 Nat)) × Unit))), (4 : Int), ()), ())
  else some ((a0, (0 : Int), ()), ())
noncomputable def spec_l03Made_sg : Sig := ⟨[.v (.pair (.arr 6 (.flt .f32)) (.pair (.arr 6 (.arr 6 (.flt .f32))) (.unit))), .v (.int .i64)], [.v (.val (.pair (.arr 6 (.flt .f32)) (.pair (.arr 6 (.arr 6 (.flt .f32))) (.unit)))), .v (.val (.int .i64))], false⟩
noncomputable def spec_l03Made_en : Entry := ⟨spec_l03Made_sg, fun x => spec_l03Made x.1 x.2.1⟩
theorem spec_l03Made_eq (x : spec_l03Made_sg.dom) : body (env [(91, spec_l03Ok_en)]) [] Tryz.f214 spec_l03Made_sg x = spec_l03Made x.1 x.2.1 := by kernel_rfl
theorem spec_l03Made_so : Sound Tryz.prog 214 spec_l03Made_en := sound_of_body (envS (l := [(91, spec_l03Ok_en)]) (⟨spec_l03Ok_so, trivial⟩)) Tryz.func214 (by kernel_rfl) rfl (fun x y h => (spec_l03Made_eq x).trans h)

-- loop.example/g01204/spec.Predict
noncomputable def spec_Predict (a0 : ((Vec 6 Nat) × ((Vec 6 (Vec 6 Nat)) × Unit))) (a1 : Nat) (a2 : (Vec 3 Nat)) : Option ((((Vec 6 Nat) × ((Vec 6 (Vec 6 Nat)) × Unit)) × Int × Unit) × Unit) :=
  (spec_l03Ok a0).bind fun y1393 =>
  bif (! y1393.1.1) then
    some (((((0, 0, 0, 0, 0, 0, ()), ((0, 0, 0, 0, 0, 0, ()), (0, 0, 0, 0, 0, 0, ()), (0, 0, 0, 0, 0, 0, ()), (0, 0, 0, 0, 0, 0, ()), (0, 0, 0, 0, 0, 0, ()), (0, 0, 0, 0, 0, 0, ()), ()), ()) : ((Vec 6 Nat) × ((Vec 6 (Vec 6 Nat)) × Unit))), (1 : Int), ()), ())
  else
  (spec_l03Least a1).bind fun y1395 =>
  bif (! y1395.1.1) then
    some (((((0, 0, 0, 0, 0, 0, ()), ((0, 0, 0, 0, 0, 0, ()), (0, 0, 0, 0, 0, 0, ()), (0, 0, 0, 0, 0, 0, ()), (0, 0, 0, 0, 0, 0, ()), (0, 0, 0, 0, 0, 0, ()), (0, 0, 0, 0, 0, 0, ()), ()), ()) : ((Vec 6 Nat) × ((Vec 6 (Vec 6 Nat)) × Unit))), (2 : Int), ()), ())
  else
  (spec_l03Least (Vec.getD 3 a2 0 (0 : Nat))).bind fun y1398 =>
  bif (! y1398.1.1) then
    some (((((0, 0, 0, 0, 0, 0, ()), ((0, 0, 0, 0, 0, 0, ()), (0, 0, 0, 0, 0, 0, ()), (0, 0, 0, 0, 0, 0, ()), (0, 0, 0, 0, 0, 0, ()), (0, 0, 0, 0, 0, 0, ()), (0, 0, 0, 0, 0, 0, ()), ()), ()) : ((Vec 6 Nat) × ((Vec 6 (Vec 6 Nat)) × Unit))), (2 : Int), ()), ())
  else
  (spec_l03Least (Vec.getD 3 a2 1 (0 : Nat))).bind fun y1401 =>
  bif (! y1401.1.1) then
    some (((((0, 0, 0, 0, 0, 0, ()), ((0, 0, 0, 0, 0, 0, ()), (0, 0, 0, 0, 0, 0, ()), (0, 0, 0, 0, 0, 0, ()), (0, 0, 0, 0, 0, 0, ()), (0, 0, 0, 0, 0, 0, ()), (0, 0, 0, 0, 0, 0, ()), ()), ()) : ((Vec 6 Nat) × ((Vec 6 (Vec 6 Nat)) × Unit))), (2 : Int), ()), ())
  else
  (spec_l03Least (Vec.getD 3 a2 2 (0 : Nat))).bind fun y1404 =>
  bif (! y1404.1.1) then
    some (((((0, 0, 0, 0, 0, 0, ()), ((0, 0, 0, 0, 0, 0, ()), (0, 0, 0, 0, 0, 0, ()), (0, 0, 0, 0, 0, 0, ()), (0, 0, 0, 0, 0, 0, ()), (0, 0, 0, 0, 0, 0, ()), (0, 0, 0, 0, 0, 0, ()), ()), ()) : ((Vec 6 Nat) × ((Vec 6 (Vec 6 Nat)) × Unit))), (2 : Int), ()), ())
  else
  (spec_l01Root a1).bind fun y1406 =>
  (spec_l03Lower ((((fAdd .f32 (Vec.getD 6 (Vec.getD 6 a0.2.1 0 ((0, 0, 0, 0, 0, 0, ()) : (Vec 6 Nat))) 0 (0 : Nat)) (fMul .f32 a1 (Vec.getD 6 (Vec.getD 6 a0.2.1 3 ((0, 0, 0, 0, 0, 0, ()) : (Vec 6 Nat))) 0 (0 : Nat)))), (fAdd .f32 (Vec.getD 6 (Vec.getD 6 a0.2.1 0 ((0, 0, 0, 0, 0, 0, ()) : (Vec 6 Nat))) 1 (0 : Nat)) (fMul .f32 a1 (Vec.getD 6 (Vec.getD 6 a0.2.1 3 ((0, 0, 0, 0, 0, 0, ()) : (Vec 6 Nat))) 1 (0 : Nat)))), (fAdd .f32 (Vec.getD 6 (Vec.getD 6 a0.2.1 0 ((0, 0, 0, 0, 0, 0, ()) : (Vec 6 Nat))) 2 (0 : Nat)) (fMul .f32 a1 (Vec.getD 6 (Vec.getD 6 a0.2.1 3 ((0, 0, 0, 0, 0, 0, ()) : (Vec 6 Nat))) 2 (0 : Nat)))), (fAdd .f32 (Vec.getD 6 (Vec.getD 6 a0.2.1 0 ((0, 0, 0, 0, 0, 0, ()) : (Vec 6 Nat))) 3 (0 : Nat)) (fMul .f32 a1 (Vec.getD 6 (Vec.getD 6 a0.2.1 3 ((0, 0, 0, 0, 0, 0, ()) : (Vec 6 Nat))) 3 (0 : Nat)))), (fAdd .f32 (Vec.getD 6 (Vec.getD 6 a0.2.1 0 ((0, 0, 0, 0, 0, 0, ()) : (Vec 6 Nat))) 4 (0 : Nat)) (fMul .f32 a1 (Vec.getD 6 (Vec.getD 6 a0.2.1 3 ((0, 0, 0, 0, 0, 0, ()) : (Vec 6 Nat))) 4 (0 : Nat)))), (fAdd .f32 (Vec.getD 6 (Vec.getD 6 a0.2.1 0 ((0, 0, 0, 0, 0, 0, ()) : (Vec 6 Nat))) 5 (0 : Nat)) (fMul .f32 a1 (Vec.getD 6 (Vec.getD 6 a0.2.1 3 ((0, 0, 0, 0, 0, 0, ()) : (Vec 6 Nat))) 5 (0 : Nat)))), 0, 0, 0, ()), ((fAdd .f32 (Vec.getD 6 (Vec.getD 6 a0.2.1 1 ((0, 0, 0, 0, 0, 0, ()) : (Vec 6 Nat))) 0 (0 : Nat)) (fMul .f32 a1 (Vec.getD 6 (Vec.getD 6 a0.2.1 4 ((0, 0, 0, 0, 0, 0, ()) : (Vec 6 Nat))) 0 (0 : Nat)))), (fAdd .f32 (Vec.getD 6 (Vec.getD 6 a0.2.1 1 ((0, 0, 0, 0, 0, 0, ()) : (Vec 6 Nat))) 1 (0 : Nat)) (fMul .f32 a1 (Vec.getD 6 (Vec.getD 6 a0.2.1 4 ((0, 0, 0, 0, 0, 0, ()) : (Vec 6 Nat))) 1 (0 : Nat)))), (fAdd .f32 (Vec.getD 6 (Vec.getD 6 a0.2.1 1 ((0, 0, 0, 0, 0, 0, ()) : (Vec 6 Nat))) 2 (0 : Nat)) (fMul .f32 a1 (Vec.getD 6 (Vec.getD 6 a0.2.1 4 ((0, 0, 0, 0, 0, 0, ()) : (Vec 6 Nat))) 2 (0 : Nat)))), (fAdd .f32 (Vec.getD 6 (Vec.getD 6 a0.2.1 1 ((0, 0, 0, 0, 0, 0, ()) : (Vec 6 Nat))) 3 (0 : Nat)) (fMul .f32 a1 (Vec.getD 6 (Vec.getD 6 a0.2.1 4 ((0, 0, 0, 0, 0, 0, ()) : (Vec 6 Nat))) 3 (0 : Nat)))), (fAdd .f32 (Vec.getD 6 (Vec.getD 6 a0.2.1 1 ((0, 0, 0, 0, 0, 0, ()) : (Vec 6 Nat))) 4 (0 : Nat)) (fMul .f32 a1 (Vec.getD 6 (Vec.getD 6 a0.2.1 4 ((0, 0, 0, 0, 0, 0, ()) : (Vec 6 Nat))) 4 (0 : Nat)))), (fAdd .f32 (Vec.getD 6 (Vec.getD 6 a0.2.1 1 ((0, 0, 0, 0, 0, 0, ()) : (Vec 6 Nat))) 5 (0 : Nat)) (fMul .f32 a1 (Vec.getD 6 (Vec.getD 6 a0.2.1 4 ((0, 0, 0, 0, 0, 0, ()) : (Vec 6 Nat))) 5 (0 : Nat)))), 0, 0, 0, ()), ((fAdd .f32 (Vec.getD 6 (Vec.getD 6 a0.2.1 2 ((0, 0, 0, 0, 0, 0, ()) : (Vec 6 Nat))) 0 (0 : Nat)) (fMul .f32 a1 (Vec.getD 6 (Vec.getD 6 a0.2.1 5 ((0, 0, 0, 0, 0, 0, ()) : (Vec 6 Nat))) 0 (0 : Nat)))), (fAdd .f32 (Vec.getD 6 (Vec.getD 6 a0.2.1 2 ((0, 0, 0, 0, 0, 0, ()) : (Vec 6 Nat))) 1 (0 : Nat)) (fMul .f32 a1 (Vec.getD 6 (Vec.getD 6 a0.2.1 5 ((0, 0, 0, 0, 0, 0, ()) : (Vec 6 Nat))) 1 (0 : Nat)))), (fAdd .f32 (Vec.getD 6 (Vec.getD 6 a0.2.1 2 ((0, 0, 0, 0, 0, 0, ()) : (Vec 6 Nat))) 2 (0 : Nat)) (fMul .f32 a1 (Vec.getD 6 (Vec.getD 6 a0.2.1 5 ((0, 0, 0, 0, 0, 0, ()) : (Vec 6 Nat))) 2 (0 : Nat)))), (fAdd .f32 (Vec.getD 6 (Vec.getD 6 a0.2.1 2 ((0, 0, 0, 0, 0, 0, ()) : (Vec 6 Nat))) 3 (0 : Nat)) (fMul .f32 a1 (Vec.getD 6 (Vec.getD 6 a0.2.1 5 ((0, 0, 0, 0, 0, 0, ()) : (Vec 6 Nat))) 3 (0 : Nat)))), (fAdd .f32 (Vec.getD 6 (Vec.getD 6 a0.2.1 2 ((0, 0, 0, 0, 0, 0, ()) : (Vec 6 Nat))) 4 (0 : Nat)) (fMul .f32 a1 (Vec.getD 6 (Vec.getD 6 a0.2.1 5 ((0, 0, 0, 0, 0, 0, ()) : (Vec 6 Nat))) 4 (0 : Nat)))), (fAdd .f32 (Vec.getD 6 (Vec.getD 6 a0.2.1 2 ((0, 0, 0, 0, 0, 0, ()) : (Vec 6 Nat))) 5 (0 : Nat)) (fMul .f32 a1 (Vec.getD 6 (Vec.getD 6 a0.2.1 5 ((0, 0, 0, 0, 0, 0, ()) : (Vec 6 Nat))) 5 (0 : Nat)))), 0, 0, 0, ()), ((Vec.getD 6 (Vec.getD 6 a0.2.1 3 ((0, 0, 0, 0, 0, 0, ()) : (Vec 6 Nat))) 0 (0 : Nat)), (Vec.getD 6 (Vec.getD 6 a0.2.1 3 ((0, 0, 0, 0, 0, 0, ()) : (Vec 6 Nat))) 1 (0 : Nat)), (Vec.getD 6 (Vec.getD 6 a0.2.1 3 ((0, 0, 0, 0, 0, 0, ()) : (Vec 6 Nat))) 2 (0 : Nat)), (Vec.getD 6 (Vec.getD 6 a0.2.1 3 ((0, 0, 0, 0, 0, 0, ()) : (Vec 6 Nat))) 3 (0 : Nat)), (Vec.getD 6 (Vec.getD 6 a0.2.1 3 ((0, 0, 0, 0, 0, 0, ()) : (Vec 6 Nat))) 4 (0 : Nat)), (Vec.getD 6 (Vec.getD 6 a0.2.1 3 ((0, 0, 0, 0, 0, 0, ()) : (Vec 6 Nat))) 5 (0 : Nat)), (fMul .f32 (Vec.getD 3 a2 0 (0 : Nat)) y1406.1.1), 0, 0, ()), ((Vec.getD 6 (Vec.getD 6 a0.2.1 4 ((0, 0, 0, 0, 0, 0, ()) : (Vec 6 Nat))) 0 (0 : Nat)), (Vec.getD 6 (Vec.getD 6 a0.2.1 4 ((0, 0, 0, 0, 0, 0, ()) : (Vec 6 Nat))) 1 (0 : Nat)), (Vec.getD 6 (Vec.getD 6 a0.2.1 4 ((0, 0, 0, 0, 0, 0, ()) : (Vec 6 Nat))) 2 (0 : Nat)), (Vec.getD 6 (Vec.getD 6 a0.2.1 4 ((0, 0, 0, 0, 0, 0, ()) : (Vec 6 Nat))) 3 (0 : Nat)), (Vec.getD 6 (Vec.getD 6 a0.2.1 4 ((0, 0, 0, 0, 0, 0, ()) : (Vec 6 Nat))) 4 (0 : Nat)), (Vec.getD 6 (Vec.getD 6 a0.2.1 4 ((0, 0, 0, 0, 0, 0, ()) : (Vec 6 Nat))) 5 (0 : Nat)), 0, (fMul .f32 (Vec.getD 3 a2 1 (0 : Nat)) y1406.1.1), 0, ()), ((Vec.getD 6 (Vec.getD 6 a0.2.1 5 ((0, 0, 0, 0, 0, 0, ()) : (Vec 6 Nat))) 0 (0 : Nat)), (Vec.getD 6 (Vec.getD 6 a0.2.1 5 ((0, 0, 0, 0, 0, 0, ()) : (Vec 6 Nat))) 1 (0 : Nat)), (Vec.getD 6 (Vec.getD 6 a0.2.1 5 ((0, 0, 0, 0, 0, 0, ()) : (Vec 6 Nat))) 2 (0 : Nat)), (Vec.getD 6 (Vec.getD 6 a0.2.1 5 ((0, 0, 0, 0, 0, 0, ()) : (Vec 6 Nat))) 3 (0 : Nat)), (Vec.getD 6 (Vec.getD 6 a0.2.1 5 ((0, 0, 0, 0, 0, 0, ()) : (Vec 6 Nat))) 4 (0 : Nat)), (Vec.getD 6 (Vec.getD 6 a0.2.1 5 ((0, 0, 0, 0, 0, 0, ()) : (Vec 6 Nat))) 5 (0 : Nat)), 0, 0, (fMul .f32 (Vec.getD 3 a2 2 (0 : Nat)) y1406.1.1), ()), ()) : (Vec 6 (Vec 9 Nat)))).bind fun y1515 =>
  (spec_l03Made ((Vec.set 6 (Vec.set 6 (Vec.set 6 a0.1 0 (fAdd .f32 (Vec.getD 6 a0.1 0 (0 : Nat)) (fMul .f32 (Vec.getD 6 a0.1 3 (0 : Nat)) a1))) 1 (fAdd .f32 (Vec.getD 6 a0.1 1 (0 : Nat)) (fMul .f32 (Vec.getD 6 a0.1 4 (0 : Nat)) a1))) 2 (fAdd .f32 (Vec.getD 6 a0.1 2 (0 : Nat)) (fMul .f32 (Vec.getD 6 a0.1 5 (0 : Nat)) a1)), y1515.1.1, a0.2.2) : ((Vec 6 Nat) × ((Vec 6 (Vec 6 Nat)) × Unit))) y1515.1.2.1).bind fun y1516 =>
  some ((y1516.1.1, y1516.1.2.1, ()), ())
noncomputable def spec_Predict_sg : Sig := ⟨[.v (.pair (.arr 6 (.flt .f32)) (.pair (.arr 6 (.arr 6 (.flt .f32))) (.unit))), .v (.flt .f32), .v (.arr 3 (.flt .f32))], [.v (.val (.pair (.arr 6 (.flt .f32)) (.pair (.arr 6 (.arr 6 (.flt .f32))) (.unit)))), .v (.val (.int .i64))], false⟩
noncomputable def spec_Predict_en : Entry := ⟨spec_Predict_sg, fun x => spec_Predict x.1 x.2.1 x.2.2.1⟩
theorem spec_Predict_eq (x : spec_Predict_sg.dom) : body (env [(91, spec_l03Ok_en), (145, spec_l01Root_en), (212, spec_l03Least_en), (213, spec_l03Lower_en), (214, spec_l03Made_en)]) [(9, .unroll 4), (13, .unroll 7)] Tryz.f161 spec_Predict_sg x = spec_Predict x.1 x.2.1 x.2.2.1 := by kernel_rfl
theorem spec_Predict_so : Sound Tryz.prog 161 spec_Predict_en := sound_of_body (envS (l := [(91, spec_l03Ok_en), (145, spec_l01Root_en), (212, spec_l03Least_en), (213, spec_l03Lower_en), (214, spec_l03Made_en)]) (⟨spec_l03Ok_so, spec_l01Root_so, spec_l03Least_so, spec_l03Lower_so, spec_l03Made_so, trivial⟩)) Tryz.func161 (by kernel_rfl) rfl (fun x y h => (spec_Predict_eq x).trans h)

-- loop.example/g01204/spec.l01Dot
noncomputable def spec_l01Dot (a0 : (Vec 3 Nat)) (a1 : (Vec 3 Nat)) : Option ((Nat × Unit) × Unit) :=
  some (((fAdd .f32 (fAdd .f32 (fMul .f32 (Vec.getD 3 a0 0 (0 : Nat)) (Vec.getD 3 a1 0 (0 : Nat))) (fMul .f32 (Vec.getD 3 a0 1 (0 : Nat)) (Vec.getD 3 a1 1 (0 : Nat)))) (fMul .f32 (Vec.getD 3 a0 2 (0 : Nat)) (Vec.getD 3 a1 2 (0 : Nat)))), ()), ())
noncomputable def spec_l01Dot_sg : Sig := ⟨[.v (.arr 3 (.flt .f32)), .v (.arr 3 (.flt .f32))], [.v (.val (.flt .f32))], false⟩
noncomputable def spec_l01Dot_en : Entry := ⟨spec_l01Dot_sg, fun x => spec_l01Dot x.1 x.2.1⟩
theorem spec_l01Dot_eq (x : spec_l01Dot_sg.dom) : body (env []) [] Tryz.f188 spec_l01Dot_sg x = spec_l01Dot x.1 x.2.1 := by kernel_rfl
theorem spec_l01Dot_so : Sound Tryz.prog 188 spec_l01Dot_en := sound_of_body (envS (l := []) (trivial)) Tryz.func188 (by kernel_rfl) rfl (fun x y h => (spec_l01Dot_eq x).trans h)

-- loop.example/g01204/spec.LengthOf
noncomputable def spec_LengthOf (a0 : (Vec 3 Nat)) : Option ((Nat × Unit) × Unit) :=
  (spec_l01Dot a0 a0).bind fun y1749 =>
  (spec_l01Root y1749.1.1).bind fun y1750 =>
  some ((y1750.1.1, ()), ())
noncomputable def spec_LengthOf_sg : Sig := ⟨[.v (.arr 3 (.flt .f32))], [.v (.val (.flt .f32))], false⟩
noncomputable def spec_LengthOf_en : Entry := ⟨spec_LengthOf_sg, fun x => spec_LengthOf x.1⟩
theorem spec_LengthOf_eq (x : spec_LengthOf_sg.dom) : body (env [(145, spec_l01Root_en), (188, spec_l01Dot_en)]) [] Tryz.f121 spec_LengthOf_sg x = spec_LengthOf x.1 := by kernel_rfl
theorem spec_LengthOf_so : Sound Tryz.prog 121 spec_LengthOf_en := sound_of_body (envS (l := [(145, spec_l01Root_en), (188, spec_l01Dot_en)]) (⟨spec_l01Root_so, spec_l01Dot_so, trivial⟩)) Tryz.func121 (by kernel_rfl) rfl (fun x y h => (spec_LengthOf_eq x).trans h)

-- loop.example/g01204/spec.SubVec
noncomputable def spec_SubVec (a0 : (Vec 3 Nat)) (a1 : (Vec 3 Nat)) : Option (((Vec 3 Nat) × Unit) × Unit) :=
  some (((((fSub .f32 (Vec.getD 3 a0 0 (0 : Nat)) (Vec.getD 3 a1 0 (0 : Nat))), (fSub .f32 (Vec.getD 3 a0 1 (0 : Nat)) (Vec.getD 3 a1 1 (0 : Nat))), (fSub .f32 (Vec.getD 3 a0 2 (0 : Nat)) (Vec.getD 3 a1 2 (0 : Nat))), ()) : (Vec 3 Nat)), ()), ())
noncomputable def spec_SubVec_sg : Sig := ⟨[.v (.arr 3 (.flt .f32)), .v (.arr 3 (.flt .f32))], [.v (.val (.arr 3 (.flt .f32)))], false⟩
noncomputable def spec_SubVec_en : Entry := ⟨spec_SubVec_sg, fun x => spec_SubVec x.1 x.2.1⟩
theorem spec_SubVec_eq (x : spec_SubVec_sg.dom) : body (env []) [] Tryz.f122 spec_SubVec_sg x = spec_SubVec x.1 x.2.1 := by kernel_rfl
theorem spec_SubVec_so : Sound Tryz.prog 122 spec_SubVec_en := sound_of_body (envS (l := []) (trivial)) Tryz.func122 (by kernel_rfl) rfl (fun x y h => (spec_SubVec_eq x).trans h)

-- loop.example/g01204/spec.UnitOf
noncomputable def spec_UnitOf (a0 : (Vec 3 Nat)) : Option (((Vec 3 Nat) × Int × Unit) × Unit) :=
  (spec_l01Dot a0 a0).bind fun y1771 =>
  (spec_l01Root y1771.1.1).bind fun y1772 =>
  bif (fEq .f32 y1772.1.1 0) then some ((((0, 0, 0, ()) : (Vec 3 Nat)), (4 : Int), ()), ()) else
  (spec_l01Finite y1772.1.1).bind fun y1774 =>
  bif (! y1774.1.1) then some ((((0, 0, 0, ()) : (Vec 3 Nat)), (4 : Int), ()), ()) else
  some (((((fDiv .f32 (Vec.getD 3 a0 0 (0 : Nat)) y1772.1.1), (fDiv .f32 (Vec.getD 3 a0 1 (0 : Nat)) y1772.1.1), (fDiv .f32 (Vec.getD 3 a0 2 (0 : Nat)) y1772.1.1), ()) : (Vec 3 Nat)), (0 : Int), ()), ())
noncomputable def spec_UnitOf_sg : Sig := ⟨[.v (.arr 3 (.flt .f32))], [.v (.val (.arr 3 (.flt .f32))), .v (.val (.int .i64))], false⟩
noncomputable def spec_UnitOf_en : Entry := ⟨spec_UnitOf_sg, fun x => spec_UnitOf x.1⟩
theorem spec_UnitOf_eq (x : spec_UnitOf_sg.dom) : body (env [(78, spec_l01Finite_en), (145, spec_l01Root_en), (188, spec_l01Dot_en)]) [] Tryz.f219 spec_UnitOf_sg x = spec_UnitOf x.1 := by kernel_rfl
theorem spec_UnitOf_so : Sound Tryz.prog 219 spec_UnitOf_en := sound_of_body (envS (l := [(78, spec_l01Finite_en), (145, spec_l01Root_en), (188, spec_l01Dot_en)]) (⟨spec_l01Finite_so, spec_l01Root_so, spec_l01Dot_so, trivial⟩)) Tryz.func219 (by kernel_rfl) rfl (fun x y h => (spec_UnitOf_eq x).trans h)

-- loop.example/g01204/spec.l03Dot
noncomputable def spec_l03Dot (a0 : (Vec 6 Nat)) (a1 : (Vec 6 Nat)) : Option ((Nat × Unit) × Unit) :=
  some (((fAdd .f32 (fAdd .f32 (fAdd .f32 (fAdd .f32 (fAdd .f32 (fMul .f32 (Vec.getD 6 a0 0 (0 : Nat)) (Vec.getD 6 a1 0 (0 : Nat))) (fMul .f32 (Vec.getD 6 a0 1 (0 : Nat)) (Vec.getD 6 a1 1 (0 : Nat)))) (fMul .f32 (Vec.getD 6 a0 2 (0 : Nat)) (Vec.getD 6 a1 2 (0 : Nat)))) (fMul .f32 (Vec.getD 6 a0 3 (0 : Nat)) (Vec.getD 6 a1 3 (0 : Nat)))) (fMul .f32 (Vec.getD 6 a0 4 (0 : Nat)) (Vec.getD 6 a1 4 (0 : Nat)))) (fMul .f32 (Vec.getD 6 a0 5 (0 : Nat)) (Vec.getD 6 a1 5 (0 : Nat)))), ()), ())
noncomputable def spec_l03Dot_sg : Sig := ⟨[.v (.arr 6 (.flt .f32)), .v (.arr 6 (.flt .f32))], [.v (.val (.flt .f32))], false⟩
noncomputable def spec_l03Dot_en : Entry := ⟨spec_l03Dot_sg, fun x => spec_l03Dot x.1 x.2.1⟩
theorem spec_l03Dot_eq (x : spec_l03Dot_sg.dom) : body (env []) [(3, .unroll 6)] Tryz.f220 spec_l03Dot_sg x = spec_l03Dot x.1 x.2.1 := by kernel_rfl
theorem spec_l03Dot_so : Sound Tryz.prog 220 spec_l03Dot_en := sound_of_body (envS (l := []) (trivial)) Tryz.func220 (by kernel_rfl) rfl (fun x y h => (spec_l03Dot_eq x).trans h)

-- loop.example/g01204/spec.l03Place
noncomputable def spec_l03Place (a0 : ((Vec 6 Nat) × ((Vec 6 (Vec 6 Nat)) × Unit))) : Option (((Vec 3 Nat) × Unit) × Unit) :=
  some (((((Vec.getD 6 a0.1 0 (0 : Nat)), (Vec.getD 6 a0.1 1 (0 : Nat)), (Vec.getD 6 a0.1 2 (0 : Nat)), ()) : (Vec 3 Nat)), ()), ())
noncomputable def spec_l03Place_sg : Sig := ⟨[.ro (.pair (.arr 6 (.flt .f32)) (.pair (.arr 6 (.arr 6 (.flt .f32))) (.unit)))], [.v (.val (.arr 3 (.flt .f32)))], false⟩
noncomputable def spec_l03Place_en : Entry := ⟨spec_l03Place_sg, fun x => spec_l03Place x.1⟩
theorem spec_l03Place_eq (x : spec_l03Place_sg.dom) : body (env []) [] Tryz.f123 spec_l03Place_sg x = spec_l03Place x.1 := by kernel_rfl
theorem spec_l03Place_so : Sound Tryz.prog 123 spec_l03Place_en := sound_of_body (envS (l := []) (trivial)) Tryz.func123 (by kernel_rfl) rfl (fun x y h => (spec_l03Place_eq x).trans h)

-- loop.example/g01204/spec.RangeClue
noncomputable def spec_RangeClue (a0 : ((Vec 6 Nat) × ((Vec 6 (Vec 6 Nat)) × Unit))) (a1 : (Vec 3 Nat)) (a2 : Nat) (a3 : Nat) : Option ((((Vec 6 Nat) × (Nat × (Nat × Unit))) × Int × Unit) × Unit) :=
  (spec_l03Ok a0).bind fun y1735 =>
  bif (! y1735.1.1) then some (((((0, 0, 0, 0, 0, 0, ()), 0, 0, ()) : ((Vec 6 Nat) × (Nat × (Nat × Unit)))), (1 : Int), ()), ()) else
  (spec_l03Place a0).bind fun y1737 =>
  (spec_SubVec y1737.1.1 a1).bind fun y1738 =>
  (spec_UnitOf y1738.1.1).bind fun y1739 =>
  bif (! (iEq y1739.1.2.1 0)) then some (((((0, 0, 0, 0, 0, 0, ()), 0, 0, ()) : ((Vec 6 Nat) × (Nat × (Nat × Unit)))), y1739.1.2.1, ()), ()) else
  let x1741 := Vec.getD 3 y1739.1.1 0 (0 : Nat)
  let x1742 := Vec.getD 3 y1739.1.1 1 (0 : Nat)
  let x1743 := Vec.getD 3 y1739.1.1 2 (0 : Nat)
  (spec_LengthOf y1738.1.1).bind fun y1744 =>
  (spec_l03Dot ((x1741, x1742, x1743, 0, 0, 0, ()) : (Vec 6 Nat)) a0.1).bind fun y1746 =>
  (spec_l03Valid (((x1741, x1742, x1743, 0, 0, 0, ()), (fAdd .f32 (fSub .f32 a2 y1744.1.1) y1746.1.1), a3, ()) : ((Vec 6 Nat) × (Nat × (Nat × Unit))))).bind fun y1748 =>
  some ((y1748.1.1, y1748.1.2.1, ()), ())
noncomputable def spec_RangeClue_sg : Sig := ⟨[.v (.pair (.arr 6 (.flt .f32)) (.pair (.arr 6 (.arr 6 (.flt .f32))) (.unit))), .v (.arr 3 (.flt .f32)), .v (.flt .f32), .v (.flt .f32)], [.v (.val (.pair (.arr 6 (.flt .f32)) (.pair (.flt .f32) (.pair (.flt .f32) (.unit))))), .v (.val (.int .i64))], false⟩
noncomputable def spec_RangeClue_en : Entry := ⟨spec_RangeClue_sg, fun x => spec_RangeClue x.1 x.2.1 x.2.2.1 x.2.2.2.1⟩
theorem spec_RangeClue_eq (x : spec_RangeClue_sg.dom) : body (env [(91, spec_l03Ok_en), (121, spec_LengthOf_en), (122, spec_SubVec_en), (123, spec_l03Place_en), (215, spec_l03Valid_en), (219, spec_UnitOf_en), (220, spec_l03Dot_en)]) [] Tryz.f165 spec_RangeClue_sg x = spec_RangeClue x.1 x.2.1 x.2.2.1 x.2.2.2.1 := by kernel_rfl
theorem spec_RangeClue_so : Sound Tryz.prog 165 spec_RangeClue_en := sound_of_body (envS (l := [(91, spec_l03Ok_en), (121, spec_LengthOf_en), (122, spec_SubVec_en), (123, spec_l03Place_en), (215, spec_l03Valid_en), (219, spec_UnitOf_en), (220, spec_l03Dot_en)]) (⟨spec_l03Ok_so, spec_LengthOf_so, spec_SubVec_so, spec_l03Place_so, spec_l03Valid_so, spec_UnitOf_so, spec_l03Dot_so, trivial⟩)) Tryz.func165 (by kernel_rfl) rfl (fun x y h => (spec_RangeClue_eq x).trans h)

-- loop.example/g01204/spec.l03Shares
noncomputable def spec_l03Shares (a0 : ((Vec 6 Nat) × ((Vec 6 (Vec 6 Nat)) × Unit))) (a1 : ((Vec 6 Nat) × (Nat × (Nat × Unit)))) : Option (((Vec 6 Nat) × Nat × Nat × Unit) × Unit) :=
  let x2181 := fAdd .f32 (fAdd .f32 (fAdd .f32 (fAdd .f32 (fAdd .f32 (fMul .f32 (Vec.getD 6 (Vec.getD 6 a0.2.1 0 ((0, 0, 0, 0, 0, 0, ()) : (Vec 6 Nat))) 0 (0 : Nat)) (Vec.getD 6 a1.1 0 (0 : Nat))) (fMul .f32 (Vec.getD 6 (Vec.getD 6 a0.2.1 1 ((0, 0, 0, 0, 0, 0, ()) : (Vec 6 Nat))) 0 (0 : Nat)) (Vec.getD 6 a1.1 1 (0 : Nat)))) (fMul .f32 (Vec.getD 6 (Vec.getD 6 a0.2.1 2 ((0, 0, 0, 0, 0, 0, ()) : (Vec 6 Nat))) 0 (0 : Nat)) (Vec.getD 6 a1.1 2 (0 : Nat)))) (fMul .f32 (Vec.getD 6 (Vec.getD 6 a0.2.1 3 ((0, 0, 0, 0, 0, 0, ()) : (Vec 6 Nat))) 0 (0 : Nat)) (Vec.getD 6 a1.1 3 (0 : Nat)))) (fMul .f32 (Vec.getD 6 (Vec.getD 6 a0.2.1 4 ((0, 0, 0, 0, 0, 0, ()) : (Vec 6 Nat))) 0 (0 : Nat)) (Vec.getD 6 a1.1 4 (0 : Nat)))) (fMul .f32 (Vec.getD 6 (Vec.getD 6 a0.2.1 5 ((0, 0, 0, 0, 0, 0, ()) : (Vec 6 Nat))) 0 (0 : Nat)) (Vec.getD 6 a1.1 5 (0 : Nat)))
  let x2200 := fAdd .f32 (fAdd .f32 (fAdd .f32 (fAdd .f32 (fMul .f32 (Vec.getD 6 (Vec.getD 6 a0.2.1 1 ((0, 0, 0, 0, 0, 0, ()) : (Vec 6 Nat))) 1 (0 : Nat)) (Vec.getD 6 a1.1 1 (0 : Nat))) (fMul .f32 (Vec.getD 6 (Vec.getD 6 a0.2.1 2 ((0, 0, 0, 0, 0, 0, ()) : (Vec 6 Nat))) 1 (0 : Nat)) (Vec.getD 6 a1.1 2 (0 : Nat)))) (fMul .f32 (Vec.getD 6 (Vec.getD 6 a0.2.1 3 ((0, 0, 0, 0, 0, 0, ()) : (Vec 6 Nat))) 1 (0 : Nat)) (Vec.getD 6 a1.1 3 (0 : Nat)))) (fMul .f32 (Vec.getD 6 (Vec.getD 6 a0.2.1 4 ((0, 0, 0, 0, 0, 0, ()) : (Vec 6 Nat))) 1 (0 : Nat)) (Vec.getD 6 a1.1 4 (0 : Nat)))) (fMul .f32 (Vec.getD 6 (Vec.getD 6 a0.2.1 5 ((0, 0, 0, 0, 0, 0, ()) : (Vec 6 Nat))) 1 (0 : Nat)) (Vec.getD 6 a1.1 5 (0 : Nat)))
  let x2215 := fAdd .f32 (fAdd .f32 (fAdd .f32 (fMul .f32 (Vec.getD 6 (Vec.getD 6 a0.2.1 2 ((0, 0, 0, 0, 0, 0, ()) : (Vec 6 Nat))) 2 (0 : Nat)) (Vec.getD 6 a1.1 2 (0 : Nat))) (fMul .f32 (Vec.getD 6 (Vec.getD 6 a0.2.1 3 ((0, 0, 0, 0, 0, 0, ()) : (Vec 6 Nat))) 2 (0 : Nat)) (Vec.getD 6 a1.1 3 (0 : Nat)))) (fMul .f32 (Vec.getD 6 (Vec.getD 6 a0.2.1 4 ((0, 0, 0, 0, 0, 0, ()) : (Vec 6 Nat))) 2 (0 : Nat)) (Vec.getD 6 a1.1 4 (0 : Nat)))) (fMul .f32 (Vec.getD 6 (Vec.getD 6 a0.2.1 5 ((0, 0, 0, 0, 0, 0, ()) : (Vec 6 Nat))) 2 (0 : Nat)) (Vec.getD 6 a1.1 5 (0 : Nat)))
  let x2226 := fAdd .f32 (fAdd .f32 (fMul .f32 (Vec.getD 6 (Vec.getD 6 a0.2.1 3 ((0, 0, 0, 0, 0, 0, ()) : (Vec 6 Nat))) 3 (0 : Nat)) (Vec.getD 6 a1.1 3 (0 : Nat))) (fMul .f32 (Vec.getD 6 (Vec.getD 6 a0.2.1 4 ((0, 0, 0, 0, 0, 0, ()) : (Vec 6 Nat))) 3 (0 : Nat)) (Vec.getD 6 a1.1 4 (0 : Nat)))) (fMul .f32 (Vec.getD 6 (Vec.getD 6 a0.2.1 5 ((0, 0, 0, 0, 0, 0, ()) : (Vec 6 Nat))) 3 (0 : Nat)) (Vec.getD 6 a1.1 5 (0 : Nat)))
  let x2233 := fAdd .f32 (fMul .f32 (Vec.getD 6 (Vec.getD 6 a0.2.1 4 ((0, 0, 0, 0, 0, 0, ()) : (Vec 6 Nat))) 4 (0 : Nat)) (Vec.getD 6 a1.1 4 (0 : Nat))) (fMul .f32 (Vec.getD 6 (Vec.getD 6 a0.2.1 5 ((0, 0, 0, 0, 0, 0, ()) : (Vec 6 Nat))) 4 (0 : Nat)) (Vec.getD 6 a1.1 5 (0 : Nat)))
  let x2236 := fMul .f32 (Vec.getD 6 (Vec.getD 6 a0.2.1 5 ((0, 0, 0, 0, 0, 0, ()) : (Vec 6 Nat))) 5 (0 : Nat)) (Vec.getD 6 a1.1 5 (0 : Nat))
  (spec_l03Dot a1.1 a0.1).bind fun y2250 =>
  some ((((x2181, x2200, x2215, x2226, x2233, x2236, ()) : (Vec 6 Nat)), (fSub .f32 a1.2.1 y2250.1.1), (fAdd .f32 (fAdd .f32 (fAdd .f32 (fAdd .f32 (fAdd .f32 (fAdd .f32 (fMul .f32 x2181 x2181) (fMul .f32 x2200 x2200)) (fMul .f32 x2215 x2215)) (fMul .f32 x2226 x2226)) (fMul .f32 x2233 x2233)) (fMul .f32 x2236 x2236)) (fMul .f32 a1.2.2.1 a1.2.2.1)), ()), ())
noncomputable def spec_l03Shares_sg : Sig := ⟨[.ro (.pair (.arr 6 (.flt .f32)) (.pair (.arr 6 (.arr 6 (.flt .f32))) (.unit))), .ro (.pair (.arr 6 (.flt .f32)) (.pair (.flt .f32) (.pair (.flt .f32) (.unit))))], [.v (.val (.arr 6 (.flt .f32))), .v (.val (.flt .f32)), .v (.val (.flt .f32))], false⟩
noncomputable def spec_l03Shares_en : Entry := ⟨spec_l03Shares_sg, fun x => spec_l03Shares x.1 x.2.1⟩
theorem spec_l03Shares_eq (x : spec_l03Shares_sg.dom) : body (env [(220, spec_l03Dot_en)]) [(3, .unroll 7), (7, .unroll 6), (13, .unroll 6)] Tryz.f249 spec_l03Shares_sg x = spec_l03Shares x.1 x.2.1 := by kernel_rfl
theorem spec_l03Shares_so : Sound Tryz.prog 249 spec_l03Shares_en := sound_of_body (envS (l := [(220, spec_l03Dot_en)]) (⟨spec_l03Dot_so, trivial⟩)) Tryz.func249 (by kernel_rfl) rfl (fun x y h => (spec_l03Shares_eq x).trans h)

-- loop.example/g01204/spec.l03Update
noncomputable def spec_l03Update (a0 : ((Vec 6 Nat) × ((Vec 6 (Vec 6 Nat)) × Unit))) (a1 : ((Vec 6 Nat) × (Nat × (Nat × Unit)))) : Option ((((Vec 6 Nat) × ((Vec 6 (Vec 6 Nat)) × Unit)) × Int × Unit) × Unit) :=
  (spec_l03Shares a0 a1).bind fun y1826 =>
  (spec_l01Root (fDiv .f32 (fMul .f32 a1.2.2.1 a1.2.2.1) y1826.1.2.2.1)).bind fun y1829 =>
  let x1832 := fDiv .f32 (fDiv .f32 1065353216 (fAdd .f32 1065353216 y1829.1.1)) y1826.1.2.2.1
  let x1835 := fMul .f32 (Vec.getD 6 (Vec.getD 6 a0.2.1 0 ((0, 0, 0, 0, 0, 0, ()) : (Vec 6 Nat))) 0 (0 : Nat)) (Vec.getD 6 y1826.1.1 0 (0 : Nat))
  let x1840 := fMul .f32 x1835 x1832
  let x1844 := fSub .f32 (Vec.getD 6 (Vec.getD 6 a0.2.1 0 ((0, 0, 0, 0, 0, 0, ()) : (Vec 6 Nat))) 0 (0 : Nat)) (fMul .f32 x1840 (Vec.getD 6 y1826.1.1 0 (0 : Nat)))
  let x1848 := fSub .f32 (Vec.getD 6 (Vec.getD 6 a0.2.1 0 ((0, 0, 0, 0, 0, 0, ()) : (Vec 6 Nat))) 1 (0 : Nat)) (fMul .f32 x1840 (Vec.getD 6 y1826.1.1 1 (0 : Nat)))
  let x1852 := fSub .f32 (Vec.getD 6 (Vec.getD 6 a0.2.1 0 ((0, 0, 0, 0, 0, 0, ()) : (Vec 6 Nat))) 2 (0 : Nat)) (fMul .f32 x1840 (Vec.getD 6 y1826.1.1 2 (0 : Nat)))
  let x1856 := fSub .f32 (Vec.getD 6 (Vec.getD 6 a0.2.1 0 ((0, 0, 0, 0, 0, 0, ()) : (Vec 6 Nat))) 3 (0 : Nat)) (fMul .f32 x1840 (Vec.getD 6 y1826.1.1 3 (0 : Nat)))
  let x1860 := fSub .f32 (Vec.getD 6 (Vec.getD 6 a0.2.1 0 ((0, 0, 0, 0, 0, 0, ()) : (Vec 6 Nat))) 4 (0 : Nat)) (fMul .f32 x1840 (Vec.getD 6 y1826.1.1 4 (0 : Nat)))
  let x1864 := fSub .f32 (Vec.getD 6 (Vec.getD 6 a0.2.1 0 ((0, 0, 0, 0, 0, 0, ()) : (Vec 6 Nat))) 5 (0 : Nat)) (fMul .f32 x1840 (Vec.getD 6 y1826.1.1 5 (0 : Nat)))
  let x1871 := fAdd .f32 (fMul .f32 (Vec.getD 6 (Vec.getD 6 a0.2.1 1 ((0, 0, 0, 0, 0, 0, ()) : (Vec 6 Nat))) 0 (0 : Nat)) (Vec.getD 6 y1826.1.1 0 (0 : Nat))) (fMul .f32 (Vec.getD 6 (Vec.getD 6 a0.2.1 1 ((0, 0, 0, 0, 0, 0, ()) : (Vec 6 Nat))) 1 (0 : Nat)) (Vec.getD 6 y1826.1.1 1 (0 : Nat)))
  let x1876 := fMul .f32 x1871 x1832
  let x1880 := fSub .f32 (Vec.getD 6 (Vec.getD 6 a0.2.1 1 ((0, 0, 0, 0, 0, 0, ()) : (Vec 6 Nat))) 0 (0 : Nat)) (fMul .f32 x1876 (Vec.getD 6 y1826.1.1 0 (0 : Nat)))
  let x1884 := fSub .f32 (Vec.getD 6 (Vec.getD 6 a0.2.1 1 ((0, 0, 0, 0, 0, 0, ()) : (Vec 6 Nat))) 1 (0 : Nat)) (fMul .f32 x1876 (Vec.getD 6 y1826.1.1 1 (0 : Nat)))
  let x1888 := fSub .f32 (Vec.getD 6 (Vec.getD 6 a0.2.1 1 ((0, 0, 0, 0, 0, 0, ()) : (Vec 6 Nat))) 2 (0 : Nat)) (fMul .f32 x1876 (Vec.getD 6 y1826.1.1 2 (0 : Nat)))
  let x1892 := fSub .f32 (Vec.getD 6 (Vec.getD 6 a0.2.1 1 ((0, 0, 0, 0, 0, 0, ()) : (Vec 6 Nat))) 3 (0 : Nat)) (fMul .f32 x1876 (Vec.getD 6 y1826.1.1 3 (0 : Nat)))
  let x1896 := fSub .f32 (Vec.getD 6 (Vec.getD 6 a0.2.1 1 ((0, 0, 0, 0, 0, 0, ()) : (Vec 6 Nat))) 4 (0 : Nat)) (fMul .f32 x1876 (Vec.getD 6 y1826.1.1 4 (0 : Nat)))
  let x1900 := fSub .f32 (Vec.getD 6 (Vec.getD 6 a0.2.1 1 ((0, 0, 0, 0, 0, 0, ()) : (Vec 6 Nat))) 5 (0 : Nat)) (fMul .f32 x1876 (Vec.getD 6 y1826.1.1 5 (0 : Nat)))
  let x1911 := fAdd .f32 (fAdd .f32 (fMul .f32 (Vec.getD 6 (Vec.getD 6 a0.2.1 2 ((0, 0, 0, 0, 0, 0, ()) : (Vec 6 Nat))) 0 (0 : Nat)) (Vec.getD 6 y1826.1.1 0 (0 : Nat))) (fMul .f32 (Vec.getD 6 (Vec.getD 6 a0.2.1 2 ((0, 0, 0, 0, 0, 0, ()) : (Vec 6 Nat))) 1 (0 : Nat)) (Vec.getD 6 y1826.1.1 1 (0 : Nat)))) (fMul .f32 (Vec.getD 6 (Vec.getD 6 a0.2.1 2 ((0, 0, 0, 0, 0, 0, ()) : (Vec 6 Nat))) 2 (0 : Nat)) (Vec.getD 6 y1826.1.1 2 (0 : Nat)))
  let x1916 := fMul .f32 x1911 x1832
  let x1920 := fSub .f32 (Vec.getD 6 (Vec.getD 6 a0.2.1 2 ((0, 0, 0, 0, 0, 0, ()) : (Vec 6 Nat))) 0 (0 : Nat)) (fMul .f32 x1916 (Vec.getD 6 y1826.1.1 0 (0 : Nat)))
  let x1924 := fSub .f32 (Vec.getD 6 (Vec.getD 6 a0.2.1 2 ((0, 0, 0, 0, 0, 0, ()) : (Vec 6 Nat))) 1 (0 : Nat)) (fMul .f32 x1916 (Vec.getD 6 y1826.1.1 1 (0 : Nat)))
  let x1928 := fSub .f32 (Vec.getD 6 (Vec.getD 6 a0.2.1 2 ((0, 0, 0, 0, 0, 0, ()) : (Vec 6 Nat))) 2 (0 : Nat)) (fMul .f32 x1916 (Vec.getD 6 y1826.1.1 2 (0 : Nat)))
  let x1932 := fSub .f32 (Vec.getD 6 (Vec.getD 6 a0.2.1 2 ((0, 0, 0, 0, 0, 0, ()) : (Vec 6 Nat))) 3 (0 : Nat)) (fMul .f32 x1916 (Vec.getD 6 y1826.1.1 3 (0 : Nat)))
  let x1936 := fSub .f32 (Vec.getD 6 (Vec.getD 6 a0.2.1 2 ((0, 0, 0, 0, 0, 0, ()) : (Vec 6 Nat))) 4 (0 : Nat)) (fMul .f32 x1916 (Vec.getD 6 y1826.1.1 4 (0 : Nat)))
  let x1940 := fSub .f32 (Vec.getD 6 (Vec.getD 6 a0.2.1 2 ((0, 0, 0, 0, 0, 0, ()) : (Vec 6 Nat))) 5 (0 : Nat)) (fMul .f32 x1916 (Vec.getD 6 y1826.1.1 5 (0 : Nat)))
  let x1955 := fAdd .f32 (fAdd .f32 (fAdd .f32 (fMul .f32 (Vec.getD 6 (Vec.getD 6 a0.2.1 3 ((0, 0, 0, 0, 0, 0, ()) : (Vec 6 Nat))) 0 (0 : Nat)) (Vec.getD 6 y1826.1.1 0 (0 : Nat))) (fMul .f32 (Vec.getD 6 (Vec.getD 6 a0.2.1 3 ((0, 0, 0, 0, 0, 0, ()) : (Vec 6 Nat))) 1 (0 : Nat)) (Vec.getD 6 y1826.1.1 1 (0 : Nat)))) (fMul .f32 (Vec.getD 6 (Vec.getD 6 a0.2.1 3 ((0, 0, 0, 0, 0, 0, ()) : (Vec 6 Nat))) 2 (0 : Nat)) (Vec.getD 6 y1826.1.1 2 (0 : Nat)))) (fMul .f32 (Vec.getD 6 (Vec.getD 6 a0.2.1 3 ((0, 0, 0, 0, 0, 0, ()) : (Vec 6 Nat))) 3 (0 : Nat)) (Vec.getD 6 y1826.1.1 3 (0 : Nat)))
  let x1960 := fMul .f32 x1955 x1832
  let x1964 := fSub .f32 (Vec.getD 6 (Vec.getD 6 a0.2.1 3 ((0, 0, 0, 0, 0, 0, ()) : (Vec 6 Nat))) 0 (0 : Nat)) (fMul .f32 x1960 (Vec.getD 6 y1826.1.1 0 (0 : Nat)))
  let x1968 := fSub .f32 (Vec.getD 6 (Vec.getD 6 a0.2.1 3 ((0, 0, 0, 0, 0, 0, ()) : (Vec 6 Nat))) 1 (0 : Nat)) (fMul .f32 x1960 (Vec.getD 6 y1826.1.1 1 (0 : Nat)))
  let x1972 := fSub .f32 (Vec.getD 6 (Vec.getD 6 a0.2.1 3 ((0, 0, 0, 0, 0, 0, ()) : (Vec 6 Nat))) 2 (0 : Nat)) (fMul .f32 x1960 (Vec.getD 6 y1826.1.1 2 (0 : Nat)))
  let x1976 := fSub .f32 (Vec.getD 6 (Vec.getD 6 a0.2.1 3 ((0, 0, 0, 0, 0, 0, ()) : (Vec 6 Nat))) 3 (0 : Nat)) (fMul .f32 x1960 (Vec.getD 6 y1826.1.1 3 (0 : Nat)))
  let x1980 := fSub .f32 (Vec.getD 6 (Vec.getD 6 a0.2.1 3 ((0, 0, 0, 0, 0, 0, ()) : (Vec 6 Nat))) 4 (0 : Nat)) (fMul .f32 x1960 (Vec.getD 6 y1826.1.1 4 (0 : Nat)))
  let x1984 := fSub .f32 (Vec.getD 6 (Vec.getD 6 a0.2.1 3 ((0, 0, 0, 0, 0, 0, ()) : (Vec 6 Nat))) 5 (0 : Nat)) (fMul .f32 x1960 (Vec.getD 6 y1826.1.1 5 (0 : Nat)))
  let x2003 := fAdd .f32 (fAdd .f32 (fAdd .f32 (fAdd .f32 (fMul .f32 (Vec.getD 6 (Vec.getD 6 a0.2.1 4 ((0, 0, 0, 0, 0, 0, ()) : (Vec 6 Nat))) 0 (0 : Nat)) (Vec.getD 6 y1826.1.1 0 (0 : Nat))) (fMul .f32 (Vec.getD 6 (Vec.getD 6 a0.2.1 4 ((0, 0, 0, 0, 0, 0, ()) : (Vec 6 Nat))) 1 (0 : Nat)) (Vec.getD 6 y1826.1.1 1 (0 : Nat)))) (fMul .f32 (Vec.getD 6 (Vec.getD 6 a0.2.1 4 ((0, 0, 0, 0, 0, 0, ()) : (Vec 6 Nat))) 2 (0 : Nat)) (Vec.getD 6 y1826.1.1 2 (0 : Nat)))) (fMul .f32 (Vec.getD 6 (Vec.getD 6 a0.2.1 4 ((0, 0, 0, 0, 0, 0, ()) : (Vec 6 Nat))) 3 (0 : Nat)) (Vec.getD 6 y1826.1.1 3 (0 : Nat)))) (fMul .f32 (Vec.getD 6 (Vec.getD 6 a0.2.1 4 ((0, 0, 0, 0, 0, 0, ()) : (Vec 6 Nat))) 4 (0 : Nat)) (Vec.getD 6 y1826.1.1 4 (0 : Nat)))
  let x2008 := fMul .f32 x2003 x1832
  let x2012 := fSub .f32 (Vec.getD 6 (Vec.getD 6 a0.2.1 4 ((0, 0, 0, 0, 0, 0, ()) : (Vec 6 Nat))) 0 (0 : Nat)) (fMul .f32 x2008 (Vec.getD 6 y1826.1.1 0 (0 : Nat)))
  let x2016 := fSub .f32 (Vec.getD 6 (Vec.getD 6 a0.2.1 4 ((0, 0, 0, 0, 0, 0, ()) : (Vec 6 Nat))) 1 (0 : Nat)) (fMul .f32 x2008 (Vec.getD 6 y1826.1.1 1 (0 : Nat)))
  let x2020 := fSub .f32 (Vec.getD 6 (Vec.getD 6 a0.2.1 4 ((0, 0, 0, 0, 0, 0, ()) : (Vec 6 Nat))) 2 (0 : Nat)) (fMul .f32 x2008 (Vec.getD 6 y1826.1.1 2 (0 : Nat)))
  let x2024 := fSub .f32 (Vec.getD 6 (Vec.getD 6 a0.2.1 4 ((0, 0, 0, 0, 0, 0, ()) : (Vec 6 Nat))) 3 (0 : Nat)) (fMul .f32 x2008 (Vec.getD 6 y1826.1.1 3 (0 : Nat)))
  let x2028 := fSub .f32 (Vec.getD 6 (Vec.getD 6 a0.2.1 4 ((0, 0, 0, 0, 0, 0, ()) : (Vec 6 Nat))) 4 (0 : Nat)) (fMul .f32 x2008 (Vec.getD 6 y1826.1.1 4 (0 : Nat)))
  let x2032 := fSub .f32 (Vec.getD 6 (Vec.getD 6 a0.2.1 4 ((0, 0, 0, 0, 0, 0, ()) : (Vec 6 Nat))) 5 (0 : Nat)) (fMul .f32 x2008 (Vec.getD 6 y1826.1.1 5 (0 : Nat)))
  let x2055 := fAdd .f32 (fAdd .f32 (fAdd .f32 (fAdd .f32 (fAdd .f32 (fMul .f32 (Vec.getD 6 (Vec.getD 6 a0.2.1 5 ((0, 0, 0, 0, 0, 0, ()) : (Vec 6 Nat))) 0 (0 : Nat)) (Vec.getD 6 y1826.1.1 0 (0 : Nat))) (fMul .f32 (Vec.getD 6 (Vec.getD 6 a0.2.1 5 ((0, 0, 0, 0, 0, 0, ()) : (Vec 6 Nat))) 1 (0 : Nat)) (Vec.getD 6 y1826.1.1 1 (0 : Nat)))) (fMul .f32 (Vec.getD 6 (Vec.getD 6 a0.2.1 5 ((0, 0, 0, 0, 0, 0, ()) : (Vec 6 Nat))) 2 (0 : Nat)) (Vec.getD 6 y1826.1.1 2 (0 : Nat)))) (fMul .f32 (Vec.getD 6 (Vec.getD 6 a0.2.1 5 ((0, 0, 0, 0, 0, 0, ()) : (Vec 6 Nat))) 3 (0 : Nat)) (Vec.getD 6 y1826.1.1 3 (0 : Nat)))) (fMul .f32 (Vec.getD 6 (Vec.getD 6 a0.2.1 5 ((0, 0, 0, 0, 0, 0, ()) : (Vec 6 Nat))) 4 (0 : Nat)) (Vec.getD 6 y1826.1.1 4 (0 : Nat)))) (fMul .f32 (Vec.getD 6 (Vec.getD 6 a0.2.1 5 ((0, 0, 0, 0, 0, 0, ()) : (Vec 6 Nat))) 5 (0 : Nat)) (Vec.getD 6 y1826.1.1 5 (0 : Nat)))
  let x2060 := fMul .f32 x2055 x1832
  let x2064 := fSub .f32 (Vec.getD 6 (Vec.getD 6 a0.2.1 5 ((0, 0, 0, 0, 0, 0, ()) : (Vec 6 Nat))) 0 (0 : Nat)) (fMul .f32 x2060 (Vec.getD 6 y1826.1.1 0 (0 : Nat)))
  let x2068 := fSub .f32 (Vec.getD 6 (Vec.getD 6 a0.2.1 5 ((0, 0, 0, 0, 0, 0, ()) : (Vec 6 Nat))) 1 (0 : Nat)) (fMul .f32 x2060 (Vec.getD 6 y1826.1.1 1 (0 : Nat)))
  let x2072 := fSub .f32 (Vec.getD 6 (Vec.getD 6 a0.2.1 5 ((0, 0, 0, 0, 0, 0, ()) : (Vec 6 Nat))) 2 (0 : Nat)) (fMul .f32 x2060 (Vec.getD 6 y1826.1.1 2 (0 : Nat)))
  let x2076 := fSub .f32 (Vec.getD 6 (Vec.getD 6 a0.2.1 5 ((0, 0, 0, 0, 0, 0, ()) : (Vec 6 Nat))) 3 (0 : Nat)) (fMul .f32 x2060 (Vec.getD 6 y1826.1.1 3 (0 : Nat)))
  let x2080 := fSub .f32 (Vec.getD 6 (Vec.getD 6 a0.2.1 5 ((0, 0, 0, 0, 0, 0, ()) : (Vec 6 Nat))) 4 (0 : Nat)) (fMul .f32 x2060 (Vec.getD 6 y1826.1.1 4 (0 : Nat)))
  let x2084 := fSub .f32 (Vec.getD 6 (Vec.getD 6 a0.2.1 5 ((0, 0, 0, 0, 0, 0, ()) : (Vec 6 Nat))) 5 (0 : Nat)) (fMul .f32 x2060 (Vec.getD 6 y1826.1.1 5 (0 : Nat)))
  (spec_l01Finite x1844).bind fun y2085 =>
  bif (! y2085.1.1) then
    some (((((0, 0, 0, 0, 0, 0, ()), ((0, 0, 0, 0, 0, 0, ()), (0, 0, 0, 0, 0, 0, ()), (0, 0, 0, 0, 0, 0, ()), (0, 0, 0, 0, 0, 0, ()), (0, 0, 0, 0, 0, 0, ()), (0, 0, 0, 0, 0, 0, ()), ()), ()) : ((Vec 6 Nat) × ((Vec 6 (Vec 6 Nat)) × Unit))), (4 : Int), ()), ())
  else
  (spec_l01Finite x1848).bind fun y2087 =>
  bif (! y2087.1.1) then
    some (((((0, 0, 0, 0, 0, 0, ()), ((0, 0, 0, 0, 0, 0, ()), (0, 0, 0, 0, 0, 0, ()), (0, 0, 0, 0, 0, 0, ()), (0, 0, 0, 0, 0, 0, ()), (0, 0, 0, 0, 0, 0, ()), (0, 0, 0, 0, 0, 0, ()), ()), ()) : ((Vec 6 Nat) × ((Vec 6 (Vec 6 Nat)) × Unit))), (4 : Int), ()), ())
  else
  (spec_l01Finite x1852).bind fun y2089 =>
  bif (! y2089.1.1) then
    some (((((0, 0, 0, 0, 0, 0, ()), ((0, 0, 0, 0, 0, 0, ()), (0, 0, 0, 0, 0, 0, ()), (0, 0, 0, 0, 0, 0, ()), (0, 0, 0, 0, 0, 0, ()), (0, 0, 0, 0, 0, 0, ()), (0, 0, 0, 0, 0, 0, ()), ()), ()) : ((Vec 6 Nat) × ((Vec 6 (Vec 6 Nat)) × Unit))), (4 : Int), ()), ())
  else
  (spec_l01Finite x1856).bind fun y2091 =>
  bif (! y2091.1.1) then
    some (((((0, 0, 0, 0, 0, 0, ()), ((0, 0, 0, 0, 0, 0, ()), (0, 0, 0, 0, 0, 0, ()), (0, 0, 0, 0, 0, 0, ()), (0, 0, 0, 0, 0, 0, ()), (0, 0, 0, 0, 0, 0, ()), (0, 0, 0, 0, 0, 0, ()), ()), ()) : ((Vec 6 Nat) × ((Vec 6 (Vec 6 Nat)) × Unit))), (4 : Int), ()), ())
  else
  (spec_l01Finite x1860).bind fun y2093 =>
  bif (! y2093.1.1) then
    some (((((0, 0, 0, 0, 0, 0, ()), ((0, 0, 0, 0, 0, 0, ()), (0, 0, 0, 0, 0, 0, ()), (0, 0, 0, 0, 0, 0, ()), (0, 0, 0, 0, 0, 0, ()), (0, 0, 0, 0, 0, 0, ()), (0, 0, 0, 0, 0, 0, ()), ()), ()) : ((Vec 6 Nat) × ((Vec 6 (Vec 6 Nat)) × Unit))), (4 : Int), ()), ())
  else
  (spec_l01Finite x1864).bind fun y2095 =>
  bif (! y2095.1.1) then
    some (((((0, 0, 0, 0, 0, 0, ()), ((0, 0, 0, 0, 0, 0, ()), (0, 0, 0, 0, 0, 0, ()), (0, 0, 0, 0, 0, 0, ()), (0, 0, 0, 0, 0, 0, ()), (0, 0, 0, 0, 0, 0, ()), (0, 0, 0, 0, 0, 0, ()), ()), ()) : ((Vec 6 Nat) × ((Vec 6 (Vec 6 Nat)) × Unit))), (4 : Int), ()), ())
  else
  (spec_l01Finite x1880).bind fun y2097 =>
  bif (! y2097.1.1) then
    some (((((0, 0, 0, 0, 0, 0, ()), ((0, 0, 0, 0, 0, 0, ()), (0, 0, 0, 0, 0, 0, ()), (0, 0, 0, 0, 0, 0, ()), (0, 0, 0, 0, 0, 0, ()), (0, 0, 0, 0, 0, 0, ()), (0, 0, 0, 0, 0, 0, ()), ()), ()) : ((Vec 6 Nat) × ((Vec 6 (Vec 6 Nat)) × Unit))), (4 : Int), ()), ())
  else
  (spec_l01Finite x1884).bind fun y2099 =>
  bif (! y2099.1.1) then
    some (((((0, 0, 0, 0, 0, 0, ()), ((0, 0, 0, 0, 0, 0, ()), (0, 0, 0, 0, 0, 0, ()), (0, 0, 0, 0, 0, 0, ()), (0, 0, 0, 0, 0, 0, ()), (0, 0, 0, 0, 0, 0, ()), (0, 0, 0, 0, 0, 0, ()), ()), ()) : ((Vec 6 Nat) × ((Vec 6 (Vec 6 Nat)) × Unit))), (4 : Int), ()), ())
  else
  (spec_l01Finite x1888).bind fun y2101 =>
  bif (! y2101.1.1) then
    some (((((0, 0, 0, 0, 0, 0, ()), ((0, 0, 0, 0, 0, 0, ()), (0, 0, 0, 0, 0, 0, ()), (0, 0, 0, 0, 0, 0, ()), (0, 0, 0, 0, 0, 0, ()), (0, 0, 0, 0, 0, 0, ()), (0, 0, 0, 0, 0, 0, ()), ()), ()) : ((Vec 6 Nat) × ((Vec 6 (Vec 6 Nat)) × Unit))), (4 : Int), ()), ())
  else
  (spec_l01Finite x1892).bind fun y2103 =>
  bif (! y2103.1.1) then
    some (((((0, 0, 0, 0, 0, 0, ()), ((0, 0, 0, 0, 0, 0, ()), (0, 0, 0, 0, 0, 0, ()), (0, 0, 0, 0, 0, 0, ()), (0, 0, 0, 0, 0, 0, ()), (0, 0, 0, 0, 0, 0, ()), (0, 0, 0, 0, 0, 0, ()), ()), ()) : ((Vec 6 Nat) × ((Vec 6 (Vec 6 Nat)) × Unit))), (4 : Int), ()), ())
  else
  (spec_l01Finite x1896).bind fun y2105 =>
  bif (! y2105.1.1) then
    some (((((0, 0, 0, 0, 0, 0, ()), ((0, 0, 0, 0, 0, 0, ()), (0, 0, 0, 0, 0, 0, ()), (0, 0, 0, 0, 0, 0, ()), (0, 0, 0, 0, 0, 0, ()), (0, 0, 0, 0, 0, 0, ()), (0, 0, 0, 0, 0, 0, ()), ()), ()) : ((Vec 6 Nat) × ((Vec 6 (Vec 6 Nat)) × Unit))), (4 : Int), ()), ())
  else
  (spec_l01Finite x1900).bind fun y2107 =>
  bif (! y2107.1.1) then
    some (((((0, 0, 0, 0, 0, 0, ()), ((0, 0, 0, 0, 0, 0, ()), (0, 0, 0, 0, 0, 0, ()), (0, 0, 0, 0, 0, 0, ()), (0, 0, 0, 0, 0, 0, ()), (0, 0, 0, 0, 0, 0, ()), (0, 0, 0, 0, 0, 0, ()), ()), ()) : ((Vec 6 Nat) × ((Vec 6 (Vec 6 Nat)) × Unit))), (4 : Int), ()), ())
  else
  (spec_l01Finite x1920).bind fun y2109 =>
  bif (! y2109.1.1) then
    some (((((0, 0, 0, 0, 0, 0, ()), ((0, 0, 0, 0, 0, 0, ()), (0, 0, 0, 0, 0, 0, ()), (0, 0, 0, 0, 0, 0, ()), (0, 0, 0, 0, 0, 0, ()), (0, 0, 0, 0, 0, 0, ()), (0, 0, 0, 0, 0, 0, ()), ()), ()) : ((Vec 6 Nat) × ((Vec 6 (Vec 6 Nat)) × Unit))), (4 : Int), ()), ())
  else
  (spec_l01Finite x1924).bind fun y2111 =>
  bif (! y2111.1.1) then
    some (((((0, 0, 0, 0, 0, 0, ()), ((0, 0, 0, 0, 0, 0, ()), (0, 0, 0, 0, 0, 0, ()), (0, 0, 0, 0, 0, 0, ()), (0, 0, 0, 0, 0, 0, ()), (0, 0, 0, 0, 0, 0, ()), (0, 0, 0, 0, 0, 0, ()), ()), ()) : ((Vec 6 Nat) × ((Vec 6 (Vec 6 Nat)) × Unit))), (4 : Int), ()), ())
  else
  (spec_l01Finite x1928).bind fun y2113 =>
  bif (! y2113.1.1) then
    some (((((0, 0, 0, 0, 0, 0, ()), ((0, 0, 0, 0, 0, 0, ()), (0, 0, 0, 0, 0, 0, ()), (0, 0, 0, 0, 0, 0, ()), (0, 0, 0, 0, 0, 0, ()), (0, 0, 0, 0, 0, 0, ()), (0, 0, 0, 0, 0, 0, ()), ()), ()) : ((Vec 6 Nat) × ((Vec 6 (Vec 6 Nat)) × Unit))), (4 : Int), ()), ())
  else
  (spec_l01Finite x1932).bind fun y2115 =>
  bif (! y2115.1.1) then
    some (((((0, 0, 0, 0, 0, 0, ()), ((0, 0, 0, 0, 0, 0, ()), (0, 0, 0, 0, 0, 0, ()), (0, 0, 0, 0, 0, 0, ()), (0, 0, 0, 0, 0, 0, ()), (0, 0, 0, 0, 0, 0, ()), (0, 0, 0, 0, 0, 0, ()), ()), ()) : ((Vec 6 Nat) × ((Vec 6 (Vec 6 Nat)) × Unit))), (4 : Int), ()), ())
  else
  (spec_l01Finite x1936).bind fun y2117 =>
  bif (! y2117.1.1) then
    some (((((0, 0, 0, 0, 0, 0, ()), ((0, 0, 0, 0, 0, 0, ()), (0, 0, 0, 0, 0, 0, ()), (0, 0, 0, 0, 0, 0, ()), (0, 0, 0, 0, 0, 0, ()), (0, 0, 0, 0, 0, 0, ()), (0, 0, 0, 0, 0, 0, ()), ()), ()) : ((Vec 6 Nat) × ((Vec 6 (Vec 6 Nat)) × Unit))), (4 : Int), ()), ())
  else
  (spec_l01Finite x1940).bind fun y2119 =>
  bif (! y2119.1.1) then
    some (((((0, 0, 0, 0, 0, 0, ()), ((0, 0, 0, 0, 0, 0, ()), (0, 0, 0, 0, 0, 0, ()), (0, 0, 0, 0, 0, 0, ()), (0, 0, 0, 0, 0, 0, ()), (0, 0, 0, 0, 0, 0, ()), (0, 0, 0, 0, 0, 0, ()), ()), ()) : ((Vec 6 Nat) × ((Vec 6 (Vec 6 Nat)) × Unit))), (4 : Int), ()), ())
  else
  (spec_l01Finite x1964).bind fun y2121 =>
  bif (! y2121.1.1) then
    some (((((0, 0, 0, 0, 0, 0, ()), ((0, 0, 0, 0, 0, 0, ()), (0, 0, 0, 0, 0, 0, ()), (0, 0, 0, 0, 0, 0, ()), (0, 0, 0, 0, 0, 0, ()), (0, 0, 0, 0, 0, 0, ()), (0, 0, 0, 0, 0, 0, ()), ()), ()) : ((Vec 6 Nat) × ((Vec 6 (Vec 6 Nat)) × Unit))), (4 : Int), ()), ())
  else
  (spec_l01Finite x1968).bind fun y2123 =>
  bif (! y2123.1.1) then
    some (((((0, 0, 0, 0, 0, 0, ()), ((0, 0, 0, 0, 0, 0, ()), (0, 0, 0, 0, 0, 0, ()), (0, 0, 0, 0, 0, 0, ()), (0, 0, 0, 0, 0, 0, ()), (0, 0, 0, 0, 0, 0, ()), (0, 0, 0, 0, 0, 0, ()), ()), ()) : ((Vec 6 Nat) × ((Vec 6 (Vec 6 Nat)) × Unit))), (4 : Int), ()), ())
  else
  (spec_l01Finite x1972).bind fun y2125 =>
  bif (! y2125.1.1) then
    some (((((0, 0, 0, 0, 0, 0, ()), ((0, 0, 0, 0, 0, 0, ()), (0, 0, 0, 0, 0, 0, ()), (0, 0, 0, 0, 0, 0, ()), (0, 0, 0, 0, 0, 0, ()), (0, 0, 0, 0, 0, 0, ()), (0, 0, 0, 0, 0, 0, ()), ()), ()) : ((Vec 6 Nat) × ((Vec 6 (Vec 6 Nat)) × Unit))), (4 : Int), ()), ())
  else
  (spec_l01Finite x1976).bind fun y2127 =>
  bif (! y2127.1.1) then
    some (((((0, 0, 0, 0, 0, 0, ()), ((0, 0, 0, 0, 0, 0, ()), (0, 0, 0, 0, 0, 0, ()), (0, 0, 0, 0, 0, 0, ()), (0, 0, 0, 0, 0, 0, ()), (0, 0, 0, 0, 0, 0, ()), (0, 0, 0, 0, 0, 0, ()), ()), ()) : ((Vec 6 Nat) × ((Vec 6 (Vec 6 Nat)) × Unit))), (4 : Int), ()), ())
  else
  (spec_l01Finite x1980).bind fun y2129 =>
  bif (! y2129.1.1) then
    some (((((0, 0, 0, 0, 0, 0, ()), ((0, 0, 0, 0, 0, 0, ()), (0, 0, 0, 0, 0, 0, ()), (0, 0, 0, 0, 0, 0, ()), (0, 0, 0, 0, 0, 0, ()), (0, 0, 0, 0, 0, 0, ()), (0, 0, 0, 0, 0, 0, ()), ()), ()) : ((Vec 6 Nat) × ((Vec 6 (Vec 6 Nat)) × Unit))), (4 : Int), ()), ())
  else
  (spec_l01Finite x1984).bind fun y2131 =>
  bif (! y2131.1.1) then
    some (((((0, 0, 0, 0, 0, 0, ()), ((0, 0, 0, 0, 0, 0, ()), (0, 0, 0, 0, 0, 0, ()), (0, 0, 0, 0, 0, 0, ()), (0, 0, 0, 0, 0, 0, ()), (0, 0, 0, 0, 0, 0, ()), (0, 0, 0, 0, 0, 0, ()), ()), ()) : ((Vec 6 Nat) × ((Vec 6 (Vec 6 Nat)) × Unit))), (4 : Int), ()), ())
  else
  (spec_l01Finite x2012).bind fun y2133 =>
  bif (! y2133.1.1) then
    some (((((0, 0, 0, 0, 0, 0, ()), ((0, 0, 0, 0, 0, 0, ()), (0, 0, 0, 0, 0, 0, ()), (0, 0, 0, 0, 0, 0, ()), (0, 0, 0, 0, 0, 0, ()), (0, 0, 0, 0, 0, 0, ()), (0, 0, 0, 0, 0, 0, ()), ()), ()) : ((Vec 6 Nat) × ((Vec 6 (Vec 6 Nat)) × Unit))), (4 : Int), ()), ())
  else
  (spec_l01Finite x2016).bind fun y2135 =>
  bif (! y2135.1.1) then
    some (((((0, 0, 0, 0, 0, 0, ()), ((0, 0, 0, 0, 0, 0, ()), (0, 0, 0, 0, 0, 0, ()), (0, 0, 0, 0, 0, 0, ()), (0, 0, 0, 0, 0, 0, ()), (0, 0, 0, 0, 0, 0, ()), (0, 0, 0, 0, 0, 0, ()), ()), ()) : ((Vec 6 Nat) × ((Vec 6 (Vec 6 Nat)) × Unit))), (4 : Int), ()), ())
  else
  (spec_l01Finite x2020).bind fun y2137 =>
  bif (! y2137.1.1) then
    some (((((0, 0, 0, 0, 0, 0, ()), ((0, 0, 0, 0, 0, 0, ()), (0, 0, 0, 0, 0, 0, ()), (0, 0, 0, 0, 0, 0, ()), (0, 0, 0, 0, 0, 0, ()), (0, 0, 0, 0, 0, 0, ()), (0, 0, 0, 0, 0, 0, ()), ()), ()) : ((Vec 6 Nat) × ((Vec 6 (Vec 6 Nat)) × Unit))), (4 : Int), ()), ())
  else
  (spec_l01Finite x2024).bind fun y2139 =>
  bif (! y2139.1.1) then
    some (((((0, 0, 0, 0, 0, 0, ()), ((0, 0, 0, 0, 0, 0, ()), (0, 0, 0, 0, 0, 0, ()), (0, 0, 0, 0, 0, 0, ()), (0, 0, 0, 0, 0, 0, ()), (0, 0, 0, 0, 0, 0, ()), (0, 0, 0, 0, 0, 0, ()), ()), ()) : ((Vec 6 Nat) × ((Vec 6 (Vec 6 Nat)) × Unit))), (4 : Int), ()), ())
  else
  (spec_l01Finite x2028).bind fun y2141 =>
  bif (! y2141.1.1) then
    some (((((0, 0, 0, 0, 0, 0, ()), ((0, 0, 0, 0, 0, 0, ()), (0, 0, 0, 0, 0, 0, ()), (0, 0, 0, 0, 0, 0, ()), (0, 0, 0, 0, 0, 0, ()), (0, 0, 0, 0, 0, 0, ()), (0, 0, 0, 0, 0, 0, ()), ()), ()) : ((Vec 6 Nat) × ((Vec 6 (Vec 6 Nat)) × Unit))), (4 : Int), ()), ())
  else
  (spec_l01Finite x2032).bind fun y2143 =>
  bif (! y2143.1.1) then
    some (((((0, 0, 0, 0, 0, 0, ()), ((0, 0, 0, 0, 0, 0, ()), (0, 0, 0, 0, 0, 0, ()), (0, 0, 0, 0, 0, 0, ()), (0, 0, 0, 0, 0, 0, ()), (0, 0, 0, 0, 0, 0, ()), (0, 0, 0, 0, 0, 0, ()), ()), ()) : ((Vec 6 Nat) × ((Vec 6 (Vec 6 Nat)) × Unit))), (4 : Int), ()), ())
  else
  (spec_l01Finite x2064).bind fun y2145 =>
  bif (! y2145.1.1) then
    some (((((0, 0, 0, 0, 0, 0, ()), ((0, 0, 0, 0, 0, 0, ()), (0, 0, 0, 0, 0, 0, ()), (0, 0, 0, 0, 0, 0, ()), (0, 0, 0, 0, 0, 0, ()), (0, 0, 0, 0, 0, 0, ()), (0, 0, 0, 0, 0, 0, ()), ()), ()) : ((Vec 6 Nat) × ((Vec 6 (Vec 6 Nat)) × Unit))), (4 : Int), ()), ())
  else
  (spec_l01Finite x2068).bind fun y2147 =>
  bif (! y2147.1.1) then
    some (((((0, 0, 0, 0, 0, 0, ()), ((0, 0, 0, 0, 0, 0, ()), (0, 0, 0, 0, 0, 0, ()), (0, 0, 0, 0, 0, 0, ()), (0, 0, 0, 0, 0, 0, ()), (0, 0, 0, 0, 0, 0, ()), (0, 0, 0, 0, 0, 0, ()), ()), ()) : ((Vec 6 Nat) × ((Vec 6 (Vec 6 Nat)) × Unit))), (4 : Int), ()), ())
  else
  (spec_l01Finite x2072).bind fun y2149 =>
  bif (! y2149.1.1) then
    some (((((0, 0, 0, 0, 0, 0, ()), ((0, 0, 0, 0, 0, 0, ()), (0, 0, 0, 0, 0, 0, ()), (0, 0, 0, 0, 0, 0, ()), (0, 0, 0, 0, 0, 0, ()), (0, 0, 0, 0, 0, 0, ()), (0, 0, 0, 0, 0, 0, ()), ()), ()) : ((Vec 6 Nat) × ((Vec 6 (Vec 6 Nat)) × Unit))), (4 : Int), ()), ())
  else
  (spec_l01Finite x2076).bind fun y2151 =>
  bif (! y2151.1.1) then
    some (((((0, 0, 0, 0, 0, 0, ()), ((0, 0, 0, 0, 0, 0, ()), (0, 0, 0, 0, 0, 0, ()), (0, 0, 0, 0, 0, 0, ()), (0, 0, 0, 0, 0, 0, ()), (0, 0, 0, 0, 0, 0, ()), (0, 0, 0, 0, 0, 0, ()), ()), ()) : ((Vec 6 Nat) × ((Vec 6 (Vec 6 Nat)) × Unit))), (4 : Int), ()), ())
  else
  (spec_l01Finite x2080).bind fun y2153 =>
  bif (! y2153.1.1) then
    some (((((0, 0, 0, 0, 0, 0, ()), ((0, 0, 0, 0, 0, 0, ()), (0, 0, 0, 0, 0, 0, ()), (0, 0, 0, 0, 0, 0, ()), (0, 0, 0, 0, 0, 0, ()), (0, 0, 0, 0, 0, 0, ()), (0, 0, 0, 0, 0, 0, ()), ()), ()) : ((Vec 6 Nat) × ((Vec 6 (Vec 6 Nat)) × Unit))), (4 : Int), ()), ())
  else
  (spec_l01Finite x2084).bind fun y2155 =>
  bif (! y2155.1.1) then
    some (((((0, 0, 0, 0, 0, 0, ()), ((0, 0, 0, 0, 0, 0, ()), (0, 0, 0, 0, 0, 0, ()), (0, 0, 0, 0, 0, 0, ()), (0, 0, 0, 0, 0, 0, ()), (0, 0, 0, 0, 0, 0, ()), (0, 0, 0, 0, 0, 0, ()), ()), ()) : ((Vec 6 Nat) × ((Vec 6 (Vec 6 Nat)) × Unit))), (4 : Int), ()), ())
  else
  (spec_l03Lower (((x1844, x1848, x1852, x1856, x1860, x1864, 0, 0, 0, ()), (x1880, x1884, x1888, x1892, x1896, x1900, 0, 0, 0, ()), (x1920, x1924, x1928, x1932, x1936, x1940, 0, 0, 0, ()), (x1964, x1968, x1972, x1976, x1980, x1984, 0, 0, 0, ()), (x2012, x2016, x2020, x2024, x2028, x2032, 0, 0, 0, ()), (x2064, x2068, x2072, x2076, x2080, x2084, 0, 0, 0, ()), ()) : (Vec 6 (Vec 9 Nat)))).bind fun y2157 =>
  (spec_l03Made ((Vec.set 6 (Vec.set 6 (Vec.set 6 (Vec.set 6 (Vec.set 6 (Vec.set 6 a0.1 0 (fAdd .f32 (Vec.getD 6 a0.1 0 (0 : Nat)) (fMul .f32 x1835 (fDiv .f32 y1826.1.2.1 y1826.1.2.2.1)))) 1 (fAdd .f32 (Vec.getD 6 a0.1 1 (0 : Nat)) (fMul .f32 x1871 (fDiv .f32 y1826.1.2.1 y1826.1.2.2.1)))) 2 (fAdd .f32 (Vec.getD 6 a0.1 2 (0 : Nat)) (fMul .f32 x1911 (fDiv .f32 y1826.1.2.1 y1826.1.2.2.1)))) 3 (fAdd .f32 (Vec.getD 6 a0.1 3 (0 : Nat)) (fMul .f32 x1955 (fDiv .f32 y1826.1.2.1 y1826.1.2.2.1)))) 4 (fAdd .f32 (Vec.getD 6 a0.1 4 (0 : Nat)) (fMul .f32 x2003 (fDiv .f32 y1826.1.2.1 y1826.1.2.2.1)))) 5 (fAdd .f32 (Vec.getD 6 a0.1 5 (0 : Nat)) (fMul .f32 x2055 (fDiv .f32 y1826.1.2.1 y1826.1.2.2.1))), y2157.1.1, a0.2.2) : ((Vec 6 Nat) × ((Vec 6 (Vec 6 Nat)) × Unit))) y2157.1.2.1).bind fun y2158 =>
  some ((y2158.1.1, y2158.1.2.1, ()), ())
noncomputable def spec_l03Update_sg : Sig := ⟨[.ro (.pair (.arr 6 (.flt .f32)) (.pair (.arr 6 (.arr 6 (.flt .f32))) (.unit))), .ro (.pair (.arr 6 (.flt .f32)) (.pair (.flt .f32) (.pair (.flt .f32) (.unit))))], [.v (.val (.pair (.arr 6 (.flt .f32)) (.pair (.arr 6 (.arr 6 (.flt .f32))) (.unit)))), .v (.val (.int .i64))], false⟩
noncomputable def spec_l03Update_en : Entry := ⟨spec_l03Update_sg, fun x => spec_l03Update x.1 x.2.1⟩
theorem spec_l03Update_eq (x : spec_l03Update_sg.dom) : body (env [(78, spec_l01Finite_en), (145, spec_l01Root_en), (213, spec_l03Lower_en), (214, spec_l03Made_en), (249, spec_l03Shares_en)]) [(7, .unroll 7), (11, .unroll 6), (17, .unroll 7), (21, .unroll 7), (24, .unroll 7)] Tryz.f217 spec_l03Update_sg x = spec_l03Update x.1 x.2.1 := by kernel_rfl
theorem spec_l03Update_so : Sound Tryz.prog 217 spec_l03Update_en := sound_of_body (envS (l := [(78, spec_l01Finite_en), (145, spec_l01Root_en), (213, spec_l03Lower_en), (214, spec_l03Made_en), (249, spec_l03Shares_en)]) (⟨spec_l01Finite_so, spec_l01Root_so, spec_l03Lower_so, spec_l03Made_so, spec_l03Shares_so, trivial⟩)) Tryz.func217 (by kernel_rfl) rfl (fun x y h => (spec_l03Update_eq x).trans h)

-- loop.example/g01204/spec.UpdateAll
noncomputable def spec_UpdateAll_l11 (a1 : (List ((Vec 6 Nat) × (Nat × (Nat × Unit))))) (s1821 : (Int × ((Vec 6 Nat) × ((Vec 6 (Vec 6 Nat)) × Unit)) × Unit)) : Option ((Int × ((Vec 6 Nat) × ((Vec 6 (Vec 6 Nat)) × Unit)) × Unit) ⊕ ((((Vec 6 Nat) × ((Vec 6 (Vec 6 Nat)) × Unit)) × Int × Unit) × Unit)) :=
  bif (iLt s1821.1 (lenI a1)) then
    bif inB s1821.1 (List.length a1) then
      (spec_l03Update s1821.2.1 (List.getD a1 s1821.1.toNat (((0, 0, 0, 0, 0, 0, ()), 0, 0, ()) : ((Vec 6 Nat) × (Nat × (Nat × Unit)))))).bind fun y1823 =>
      bif (! (iEq y1823.1.2.1 0)) then
        Option.map Sum.inr (some (((((0, 0, 0, 0, 0, 0, ()), ((0, 0, 0, 0, 0, 0, ()), (0, 0, 0, 0, 0, 0, ()), (0, 0, 0, 0, 0, 0, ()), (0, 0, 0, 0, 0, 0, ()), (0, 0, 0, 0, 0, 0, ()), (0, 0, 0, 0, 0, 0, ()), ()), ()) : ((Vec 6 Nat) × ((Vec 6 (Vec 6 Nat)) × Unit))), y1823.1.2.1, ()), ()))
      else
      some (Sum.inl ((iAdd .i64 s1821.1 1), y1823.1.1, ()))
    else none
  else
  Option.map Sum.inr (some ((s1821.2.1, (0 : Int), ()), ()))
noncomputable def spec_UpdateAll_l4 (a1 : (List ((Vec 6 Nat) × (Nat × (Nat × Unit))))) (a0 : ((Vec 6 Nat) × ((Vec 6 (Vec 6 Nat)) × Unit))) (s1810 : (Int × Unit)) : Option ((Int × Unit) ⊕ ((((Vec 6 Nat) × ((Vec 6 (Vec 6 Nat)) × Unit)) × Int × Unit) × Unit)) :=
  bif (iLt s1810.1 (lenI a1)) then
    bif inB s1810.1 (List.length a1) then
      (spec_l03Clue (List.getD a1 s1810.1.toNat (((0, 0, 0, 0, 0, 0, ()), 0, 0, ()) : ((Vec 6 Nat) × (Nat × (Nat × Unit)))))).bind fun y1812 =>
      bif (! y1812.1.1) then
        Option.map Sum.inr (some (((((0, 0, 0, 0, 0, 0, ()), ((0, 0, 0, 0, 0, 0, ()), (0, 0, 0, 0, 0, 0, ()), (0, 0, 0, 0, 0, 0, ()), (0, 0, 0, 0, 0, 0, ()), (0, 0, 0, 0, 0, 0, ()), (0, 0, 0, 0, 0, 0, ()), ()), ()) : ((Vec 6 Nat) × ((Vec 6 (Vec 6 Nat)) × Unit))), (1 : Int), ()), ()))
      else
      some (Sum.inl ((iAdd .i64 s1810.1 1), ()))
    else none
  else
  Option.map Sum.inr (
    bif (iLt 256 (lenI a1)) then
      some (((((0, 0, 0, 0, 0, 0, ()), ((0, 0, 0, 0, 0, 0, ()), (0, 0, 0, 0, 0, 0, ()), (0, 0, 0, 0, 0, 0, ()), (0, 0, 0, 0, 0, 0, ()), (0, 0, 0, 0, 0, 0, ()), (0, 0, 0, 0, 0, 0, ()), ()), ()) : ((Vec 6 Nat) × ((Vec 6 (Vec 6 Nat)) × Unit))), (3 : Int), ()), ())
    else run (spec_UpdateAll_l11 a1) ((0 : Int), a0, ()))
noncomputable def spec_UpdateAll (a0 : ((Vec 6 Nat) × ((Vec 6 (Vec 6 Nat)) × Unit))) (a1 : (List ((Vec 6 Nat) × (Nat × (Nat × Unit))))) : Option ((((Vec 6 Nat) × ((Vec 6 (Vec 6 Nat)) × Unit)) × Int × Unit) × Unit) :=
  (spec_l03Ok a0).bind fun y1808 =>
  bif (! y1808.1.1) then
    some (((((0, 0, 0, 0, 0, 0, ()), ((0, 0, 0, 0, 0, 0, ()), (0, 0, 0, 0, 0, 0, ()), (0, 0, 0, 0, 0, 0, ()), (0, 0, 0, 0, 0, 0, ()), (0, 0, 0, 0, 0, 0, ()), (0, 0, 0, 0, 0, 0, ()), ()), ()) : ((Vec 6 Nat) × ((Vec 6 (Vec 6 Nat)) × Unit))), (1 : Int), ()), ())
  else run (spec_UpdateAll_l4 a1 a0) ((0 : Int), ())
noncomputable def spec_UpdateAll_sg : Sig := ⟨[.v (.pair (.arr 6 (.flt .f32)) (.pair (.arr 6 (.arr 6 (.flt .f32))) (.unit))), .v (.list (.pair (.arr 6 (.flt .f32)) (.pair (.flt .f32) (.pair (.flt .f32) (.unit)))))], [.v (.val (.pair (.arr 6 (.flt .f32)) (.pair (.arr 6 (.arr 6 (.flt .f32))) (.unit)))), .v (.val (.int .i64))], false⟩
noncomputable def spec_UpdateAll_en : Entry := ⟨spec_UpdateAll_sg, fun x => spec_UpdateAll x.1 x.2.1⟩
theorem spec_UpdateAll_eq (x : spec_UpdateAll_sg.dom) : body (env [(91, spec_l03Ok_en), (216, spec_l03Clue_en), (217, spec_l03Update_en)]) [(4, .vary [(6, .sc (.int .i64))]), (11, .vary [(7, .sc (.int .i64)), (2, .box (.val (.pair (.arr 6 (.flt .f32)) (.pair (.arr 6 (.arr 6 (.flt .f32))) (.unit)))))])] Tryz.f163 spec_UpdateAll_sg x = spec_UpdateAll x.1 x.2.1 := by kernel_rfl
theorem spec_UpdateAll_so : Sound Tryz.prog 163 spec_UpdateAll_en := sound_of_body (envS (l := [(91, spec_l03Ok_en), (216, spec_l03Clue_en), (217, spec_l03Update_en)]) (⟨spec_l03Ok_so, spec_l03Clue_so, spec_l03Update_so, trivial⟩)) Tryz.func163 (by kernel_rfl) rfl (fun x y h => (spec_UpdateAll_eq x).trans h)

-- loop.example/g01204/spec.l03Both
noncomputable def spec_l03Both (a0 : ((Vec 6 Nat) × ((Vec 6 (Vec 6 Nat)) × Unit))) (a1 : ((Vec 6 Nat) × (Nat × (Nat × Unit)))) : Option ((Int × Unit) × Unit) :=
  (spec_l03Ok a0).bind fun y2261 =>
  bif (! y2261.1.1) then some (((1 : Int), ()), ()) else
  (spec_l03Clue a1).bind fun y2263 =>
  bif (! y2263.1.1) then some (((1 : Int), ()), ()) else some (((0 : Int), ()), ())
noncomputable def spec_l03Both_sg : Sig := ⟨[.ro (.pair (.arr 6 (.flt .f32)) (.pair (.arr 6 (.arr 6 (.flt .f32))) (.unit))), .ro (.pair (.arr 6 (.flt .f32)) (.pair (.flt .f32) (.pair (.flt .f32) (.unit))))], [.v (.val (.int .i64))], false⟩
noncomputable def spec_l03Both_en : Entry := ⟨spec_l03Both_sg, fun x => spec_l03Both x.1 x.2.1⟩
theorem spec_l03Both_eq (x : spec_l03Both_sg.dom) : body (env [(91, spec_l03Ok_en), (216, spec_l03Clue_en)]) [] Tryz.f221 spec_l03Both_sg x = spec_l03Both x.1 x.2.1 := by kernel_rfl
theorem spec_l03Both_so : Sound Tryz.prog 221 spec_l03Both_en := sound_of_body (envS (l := [(91, spec_l03Ok_en), (216, spec_l03Clue_en)]) (⟨spec_l03Ok_so, spec_l03Clue_so, trivial⟩)) Tryz.func221 (by kernel_rfl) rfl (fun x y h => (spec_l03Both_eq x).trans h)

-- loop.example/g01204/spec.l03Gate
noncomputable def spec_l03Gate (a0 : ((Vec 6 Nat) × ((Vec 6 (Vec 6 Nat)) × Unit))) (a1 : ((Vec 6 Nat) × (Nat × (Nat × Unit)))) : Option ((Nat × Int × Unit) × Unit) :=
  (spec_l03Shares a0 a1).bind fun y2265 =>
  let x2267 := fDiv .f32 (fMul .f32 y2265.1.2.1 y2265.1.2.1) y2265.1.2.2.1
  (spec_l01Finite x2267).bind fun y2268 =>
  bif (! y2268.1.1) then some (((0 : Nat), (4 : Int), ()), ()) else some ((x2267, (0 : Int), ()), ())
noncomputable def spec_l03Gate_sg : Sig := ⟨[.ro (.pair (.arr 6 (.flt .f32)) (.pair (.arr 6 (.arr 6 (.flt .f32))) (.unit))), .ro (.pair (.arr 6 (.flt .f32)) (.pair (.flt .f32) (.pair (.flt .f32) (.unit))))], [.v (.val (.flt .f32)), .v (.val (.int .i64))], false⟩
noncomputable def spec_l03Gate_en : Entry := ⟨spec_l03Gate_sg, fun x => spec_l03Gate x.1 x.2.1⟩
theorem spec_l03Gate_eq (x : spec_l03Gate_sg.dom) : body (env [(78, spec_l01Finite_en), (249, spec_l03Shares_en)]) [] Tryz.f222 spec_l03Gate_sg x = spec_l03Gate x.1 x.2.1 := by kernel_rfl
theorem spec_l03Gate_so : Sound Tryz.prog 222 spec_l03Gate_en := sound_of_body (envS (l := [(78, spec_l01Finite_en), (249, spec_l03Shares_en)]) (⟨spec_l01Finite_so, spec_l03Shares_so, trivial⟩)) Tryz.func222 (by kernel_rfl) rfl (fun x y h => (spec_l03Gate_eq x).trans h)

-- loop.example/g01204/spec.UpdateGated
noncomputable def spec_UpdateGated (a0 : ((Vec 6 Nat) × ((Vec 6 (Vec 6 Nat)) × Unit))) (a1 : ((Vec 6 Nat) × (Nat × (Nat × Unit)))) (a2 : Nat) : Option ((((Vec 6 Nat) × ((Vec 6 (Vec 6 Nat)) × Unit)) × Bool × Int × Unit) × Unit) :=
  (spec_l03Both a0 a1).bind fun y2252 =>
  bif (! (iEq y2252.1.1 0)) then
    some (((((0, 0, 0, 0, 0, 0, ()), ((0, 0, 0, 0, 0, 0, ()), (0, 0, 0, 0, 0, 0, ()), (0, 0, 0, 0, 0, 0, ()), (0, 0, 0, 0, 0, 0, ()), (0, 0, 0, 0, 0, 0, ()), (0, 0, 0, 0, 0, 0, ()), ()), ()) : ((Vec 6 Nat) × ((Vec 6 (Vec 6 Nat)) × Unit))), false, y2252.1.1, ()), ())
  else
  bif (! (fLe .f32 0 a2)) then
    some (((((0, 0, 0, 0, 0, 0, ()), ((0, 0, 0, 0, 0, 0, ()), (0, 0, 0, 0, 0, 0, ()), (0, 0, 0, 0, 0, 0, ()), (0, 0, 0, 0, 0, 0, ()), (0, 0, 0, 0, 0, 0, ()), (0, 0, 0, 0, 0, 0, ()), ()), ()) : ((Vec 6 Nat) × ((Vec 6 (Vec 6 Nat)) × Unit))), false, (2 : Int), ()), ())
  else
  (spec_l03Gate a0 a1).bind fun y2256 =>
  bif (! (iEq y2256.1.2.1 0)) then
    some (((((0, 0, 0, 0, 0, 0, ()), ((0, 0, 0, 0, 0, 0, ()), (0, 0, 0, 0, 0, 0, ()), (0, 0, 0, 0, 0, 0, ()), (0, 0, 0, 0, 0, 0, ()), (0, 0, 0, 0, 0, 0, ()), (0, 0, 0, 0, 0, 0, ()), ()), ()) : ((Vec 6 Nat) × ((Vec 6 (Vec 6 Nat)) × Unit))), false, y2256.1.2.1, ()), ())
  else
  bif (fLt .f32 a2 y2256.1.1) then some ((a0, false, (0 : Int), ()), ()) else
  (spec_l03Update a0 a1).bind fun y2259 =>
  some ((y2259.1.1, (iEq y2259.1.2.1 0), y2259.1.2.1, ()), ())
noncomputable def spec_UpdateGated_sg : Sig := ⟨[.v (.pair (.arr 6 (.flt .f32)) (.pair (.arr 6 (.arr 6 (.flt .f32))) (.unit))), .v (.pair (.arr 6 (.flt .f32)) (.pair (.flt .f32) (.pair (.flt .f32) (.unit)))), .v (.flt .f32)], [.v (.val (.pair (.arr 6 (.flt .f32)) (.pair (.arr 6 (.arr 6 (.flt .f32))) (.unit)))), .v (.val (.bool)), .v (.val (.int .i64))], false⟩
noncomputable def spec_UpdateGated_en : Entry := ⟨spec_UpdateGated_sg, fun x => spec_UpdateGated x.1 x.2.1 x.2.2.1⟩
theorem spec_UpdateGated_eq (x : spec_UpdateGated_sg.dom) : body (env [(217, spec_l03Update_en), (221, spec_l03Both_en), (222, spec_l03Gate_en)]) [] Tryz.f166 spec_UpdateGated_sg x = spec_UpdateGated x.1 x.2.1 x.2.2.1 := by kernel_rfl
theorem spec_UpdateGated_so : Sound Tryz.prog 166 spec_UpdateGated_en := sound_of_body (envS (l := [(217, spec_l03Update_en), (221, spec_l03Both_en), (222, spec_l03Gate_en)]) (⟨spec_l03Update_so, spec_l03Both_so, spec_l03Gate_so, trivial⟩)) Tryz.func166 (by kernel_rfl) rfl (fun x y h => (spec_UpdateGated_eq x).trans h)

end Go.Proofs.YtjahnpagogpffaaGreat
