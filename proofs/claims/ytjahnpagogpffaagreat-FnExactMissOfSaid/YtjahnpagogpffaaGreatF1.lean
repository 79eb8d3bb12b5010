import Derived.Test.YtjahnpagogpffaaGreatE
/- Functions on typed data: what the evaluation of each Go function is, and that it is sound. -/
namespace Go.Proofs.YtjahnpagogpffaaGreat
open Go Go.Tm
set_option linter.unusedVariables false
set_option maxRecDepth 100000
-- loop.example/g01204/impl.isFinite
noncomputable def impl_isFinite_l2 (a0 : (List Nat)) (s52 : (Int × Unit)) : Option ((Int × Unit) ⊕ ((Bool × Unit) × Unit)) :=
  bif (iLt s52.1 (lenI a0)) then
    bif inB s52.1 (List.length a0) then
      let x54 := List.getD a0 s52.1.toNat (0 : Nat)
      bif (! (fEq .f32 (fSub .f32 x54 x54) 0)) then
        Option.map Sum.inr (some ((false, ()), ()))
      else
      some (Sum.inl ((iAdd .i64 s52.1 1), ()))
    else none
  else
  Option.map Sum.inr (some ((true, ()), ()))
noncomputable def impl_isFinite (a0 : (List Nat)) : Option ((Bool × Unit) × Unit) :=
  run (impl_isFinite_l2 a0) ((0 : Int), ())
noncomputable def impl_isFinite_sg : Sig := ⟨[.v (.list (.flt .f32))], [.v (.val (.bool))], false⟩
noncomputable def impl_isFinite_en : Entry := ⟨impl_isFinite_sg, fun x => impl_isFinite x.1⟩
theorem impl_isFinite_eq (x : impl_isFinite_sg.dom) : body (env []) [(2, .vary [(7, .sc (.int .i64))])] Tryz.f64 impl_isFinite_sg x = impl_isFinite x.1 := by kernel_rfl
theorem impl_isFinite_so : Sound Tryz.prog 64 impl_isFinite_en := sound_of_body (envS (l := []) (trivial)) Tryz.func64 (by kernel_rfl) rfl (fun x y h => (impl_isFinite_eq x).trans h)

-- loop.example/g01204/impl.IsFiniteVec
noncomputable def impl_IsFiniteVec (a0 : (Vec 3 Nat)) : Option ((Bool × Unit) × Unit) :=
  (impl_isFinite ([Vec.getD 3 a0 0 (0 : Nat), Vec.getD 3 a0 1 (0 : Nat), Vec.getD 3 a0 2 (0 : Nat)] : (List Nat))).bind fun y51 =>
  some ((y51.1.1, ()), ())
noncomputable def impl_IsFiniteVec_sg : Sig := ⟨[.v (.arr 3 (.flt .f32))], [.v (.val (.bool))], false⟩
noncomputable def impl_IsFiniteVec_en : Entry := ⟨impl_IsFiniteVec_sg, fun x => impl_IsFiniteVec x.1⟩
theorem impl_IsFiniteVec_eq (x : impl_IsFiniteVec_sg.dom) : body (env [(64, impl_isFinite_en)]) [] Tryz.f172 impl_IsFiniteVec_sg x = impl_IsFiniteVec x.1 := by kernel_rfl
theorem impl_IsFiniteVec_so : Sound Tryz.prog 172 impl_IsFiniteVec_en := sound_of_body (envS (l := [(64, impl_isFinite_en)]) (⟨impl_isFinite_so, trivial⟩)) Tryz.func172 (by kernel_rfl) rfl (fun x y h => (impl_IsFiniteVec_eq x).trans h)

-- loop.example/g01204/impl.isNaN
noncomputable def impl_isNaN (a0 : Nat) : Option ((Bool × Unit) × Unit) :=
  some (((! (fEq .f32 a0 a0)), ()), ())
noncomputable def impl_isNaN_sg : Sig := ⟨[.v (.flt .f32)], [.v (.val (.bool))], false⟩
noncomputable def impl_isNaN_en : Entry := ⟨impl_isNaN_sg, fun x => impl_isNaN x.1⟩
theorem impl_isNaN_eq (x : impl_isNaN_sg.dom) : body (env []) [] Tryz.f251 impl_isNaN_sg x = impl_isNaN x.1 := by kernel_rfl
theorem impl_isNaN_so : Sound Tryz.prog 251 impl_isNaN_en := sound_of_body (envS (l := []) (trivial)) Tryz.func251 (by kernel_rfl) rfl (fun x y h => (impl_isNaN_eq x).trans h)

-- loop.example/g01204/impl.SameNumber
noncomputable def impl_SameNumber (a0 : Nat) (a1 : Nat) : Option ((Bool × Unit) × Unit) :=
  (impl_isNaN a0).bind fun y63 =>
  bif y63.1.1 then
    (impl_isNaN a1).bind fun y64 =>
    bif y64.1.1 then some ((true, ()), ()) else
    allSame fun (q65 : Nat) =>
    allSame fun (q67 : Nat) =>
    some (((iEq (bitsF .f32 a0 q65) (bitsF .f32 a1 q67)), ()), ())
  else
  allSame fun (q70 : Nat) =>
  allSame fun (q72 : Nat) =>
  some (((iEq (bitsF .f32 a0 q70) (bitsF .f32 a1 q72)), ()), ())
noncomputable def impl_SameNumber_sg : Sig := ⟨[.v (.flt .f32), .v (.flt .f32)], [.v (.val (.bool))], false⟩
noncomputable def impl_SameNumber_en : Entry := ⟨impl_SameNumber_sg, fun x => impl_SameNumber x.1 x.2.1⟩
theorem impl_SameNumber_eq (x : impl_SameNumber_sg.dom) : body (env [(251, impl_isNaN_en)]) [] Tryz.f227 impl_SameNumber_sg x = impl_SameNumber x.1 x.2.1 := by kernel_rfl
theorem impl_SameNumber_so : Sound Tryz.prog 227 impl_SameNumber_en := sound_of_body (envS (l := [(251, impl_isNaN_en)]) (⟨impl_isNaN_so, trivial⟩)) Tryz.func227 (by kernel_rfl) rfl (fun x y h => (impl_SameNumber_eq x).trans h)

-- loop.example/g01204/impl.SameVec
noncomputable def impl_SameVec (a0 : (Vec 3 Nat)) (a1 : (Vec 3 Nat)) : Option ((Bool × Unit) × Unit) :=
  (impl_SameNumber (Vec.getD 3 a0 0 (0 : Nat)) (Vec.getD 3 a1 0 (0 : Nat))).bind fun y78 =>
  bif (! y78.1.1) then some ((false, ()), ()) else
  (impl_SameNumber (Vec.getD 3 a0 1 (0 : Nat)) (Vec.getD 3 a1 1 (0 : Nat))).bind fun y82 =>
  bif (! y82.1.1) then some ((false, ()), ()) else
  (impl_SameNumber (Vec.getD 3 a0 2 (0 : Nat)) (Vec.getD 3 a1 2 (0 : Nat))).bind fun y86 =>
  bif (! y86.1.1) then some ((false, ()), ()) else some ((true, ()), ())
noncomputable def impl_SameVec_sg : Sig := ⟨[.v (.arr 3 (.flt .f32)), .v (.arr 3 (.flt .f32))], [.v (.val (.bool))], false⟩
noncomputable def impl_SameVec_en : Entry := ⟨impl_SameVec_sg, fun x => impl_SameVec x.1 x.2.1⟩
theorem impl_SameVec_eq (x : impl_SameVec_sg.dom) : body (env [(227, impl_SameNumber_en)]) [(2, .unroll 4)] Tryz.f226 impl_SameVec_sg x = impl_SameVec x.1 x.2.1 := by kernel_rfl
theorem impl_SameVec_so : Sound Tryz.prog 226 impl_SameVec_en := sound_of_body (envS (l := [(227, impl_SameNumber_en)]) (⟨impl_SameNumber_so, trivial⟩)) Tryz.func226 (by kernel_rfl) rfl (fun x y h => (impl_SameVec_eq x).trans h)

-- loop.example/g01204/impl.sameEntry
noncomputable def impl_sameEntry (a0 : (Int × ((Vec 3 Nat) × ((Vec 3 Int) × (Int × (Nat × Unit)))))) (a1 : (Int × ((Vec 3 Nat) × ((Vec 3 Int) × (Int × (Nat × Unit)))))) : Option ((Bool × Unit) × Unit) :=
  bif (iEq a0.1 a1.1) then
    (impl_SameVec a0.2.1 a1.2.1).bind fun y59 =>
    bif y59.1.1 then
      bif (iEq (Vec.getD 3 a0.2.2.1 0 (0 : Int)) (Vec.getD 3 a1.2.2.1 0 (0 : Int)) && (iEq (Vec.getD 3 a0.2.2.1 1 (0 : Int)) (Vec.getD 3 a1.2.2.1 1 (0 : Int)) && (iEq (Vec.getD 3 a0.2.2.1 2 (0 : Int)) (Vec.getD 3 a1.2.2.1 2 (0 : Int)) && true))) then
        bif (iEq a0.2.2.2.1 a1.2.2.2.1) then
          (impl_SameNumber a0.2.2.2.2.1 a1.2.2.2.2.1).bind fun y62 =>
          some ((y62.1.1, ()), ())
        else some ((false, ()), ())
      else some ((false, ()), ())
    else some ((false, ()), ())
  else some ((false, ()), ())
noncomputable def impl_sameEntry_sg : Sig := ⟨[.v (.pair (.int .i64) (.pair (.arr 3 (.flt .f32)) (.pair (.arr 3 (.int .i16)) (.pair (.int .i64) (.pair (.flt .f32) (.unit)))))), .v (.pair (.int .i64) (.pair (.arr 3 (.flt .f32)) (.pair (.arr 3 (.int .i16)) (.pair (.int .i64) (.pair (.flt .f32) (.unit))))))], [.v (.val (.bool))], false⟩
noncomputable def impl_sameEntry_en : Entry := ⟨impl_sameEntry_sg, fun x => impl_sameEntry x.1 x.2.1⟩
theorem impl_sameEntry_eq (x : impl_sameEntry_sg.dom) : body (env [(226, impl_SameVec_en), (227, impl_SameNumber_en)]) [] Tryz.f171 impl_sameEntry_sg x = impl_sameEntry x.1 x.2.1 := by kernel_rfl
theorem impl_sameEntry_so : Sound Tryz.prog 171 impl_sameEntry_en := sound_of_body (envS (l := [(226, impl_SameVec_en), (227, impl_SameNumber_en)]) (⟨impl_SameVec_so, impl_SameNumber_so, trivial⟩)) Tryz.func171 (by kernel_rfl) rfl (fun x y h => (impl_sameEntry_eq x).trans h)

-- loop.example/g01204/impl.within
noncomputable def impl_within (a0 : Int) (a1 : Int) (a2 : Int) : Option ((Bool × Unit) × Unit) :=
  bif (iLe a1 a0) then
    some (((iLe a0 a2), ()), ())
  else some ((false, ()), ())
noncomputable def impl_within_sg : Sig := ⟨[.v (.int .i64), .v (.int .i64), .v (.int .i64)], [.v (.val (.bool))], false⟩
noncomputable def impl_within_en : Entry := ⟨impl_within_sg, fun x => impl_within x.1 x.2.1 x.2.2.1⟩
theorem impl_within_eq (x : impl_within_sg.dom) : body (env []) [] Tryz.f114 impl_within_sg x = impl_within x.1 x.2.1 x.2.2.1 := by kernel_rfl
theorem impl_within_so : Sound Tryz.prog 114 impl_within_en := sound_of_body (envS (l := []) (trivial)) Tryz.func114 (by kernel_rfl) rfl (fun x y h => (impl_within_eq x).trans h)

-- loop.example/g01204/impl.validEntry
noncomputable def impl_validEntry (a0 : (Int × ((Vec 3 Nat) × ((Vec 3 Int) × (Int × (Nat × Unit)))))) (a1 : Int) : Option ((Bool × Unit) × Unit) :=
  bif (iEq a0.1 1) then
    (impl_sameEntry a0 ((a0.1, (0, 0, 0, ()), (0, 0, 0, ()), 0, 0, ()) : (Int × ((Vec 3 Nat) × ((Vec 3 Int) × (Int × (Nat × Unit))))))).bind fun y33 =>
    bif y33.1.1 then
      (impl_IsFiniteVec a0.2.1).bind fun y34 =>
      bif y34.1.1 then
        (impl_isFinite ([a0.2.2.2.2.1] : (List Nat))).bind fun y35 =>
        some ((y35.1.1, ()), ())
      else some ((false, ()), ())
    else some ((false, ()), ())
  else
  bif (iEq a0.1 2) then
    (impl_sameEntry a0 ((a0.1, a0.2.1, (0, 0, 0, ()), 0, 0, ()) : (Int × ((Vec 3 Nat) × ((Vec 3 Int) × (Int × (Nat × Unit))))))).bind fun y37 =>
    bif y37.1.1 then
      (impl_IsFiniteVec a0.2.1).bind fun y38 =>
      bif y38.1.1 then
        (impl_isFinite ([a0.2.2.2.2.1] : (List Nat))).bind fun y39 =>
        some ((y39.1.1, ()), ())
      else some ((false, ()), ())
    else some ((false, ()), ())
  else
  bif (iEq a0.1 3) then
    (impl_sameEntry a0 ((a0.1, (0, 0, 0, ()), a0.2.2.1, 0, 0, ()) : (Int × ((Vec 3 Nat) × ((Vec 3 Int) × (Int × (Nat × Unit))))))).bind fun y41 =>
    bif y41.1.1 then
      (impl_IsFiniteVec a0.2.1).bind fun y42 =>
      bif y42.1.1 then
        (impl_isFinite ([a0.2.2.2.2.1] : (List Nat))).bind fun y43 =>
        some ((y43.1.1, ()), ())
      else some ((false, ()), ())
    else some ((false, ()), ())
  else
  bif (iEq a0.1 4) then
    (impl_within a0.2.2.2.1 (0 : Int) (iSub .i64 a1 1)).bind fun y46 =>
    bif (! y46.1.1) then some ((false, ()), ()) else
    (impl_sameEntry a0 ((a0.1, (0, 0, 0, ()), (0, 0, 0, ()), a0.2.2.2.1, a0.2.2.2.2.1, ()) : (Int × ((Vec 3 Nat) × ((Vec 3 Int) × (Int × (Nat × Unit))))))).bind fun y48 =>
    bif y48.1.1 then
      (impl_IsFiniteVec a0.2.1).bind fun y49 =>
      bif y49.1.1 then
        (impl_isFinite ([a0.2.2.2.2.1] : (List Nat))).bind fun y50 =>
        some ((y50.1.1, ()), ())
      else some ((false, ()), ())
    else some ((false, ()), ())
  else some ((false, ()), ())
noncomputable def impl_validEntry_sg : Sig := ⟨[.v (.pair (.int .i64) (.pair (.arr 3 (.flt .f32)) (.pair (.arr 3 (.int .i16)) (.pair (.int .i64) (.pair (.flt .f32) (.unit)))))), .v (.int .i64)], [.v (.val (.bool))], false⟩
noncomputable def impl_validEntry_en : Entry := ⟨impl_validEntry_sg, fun x => impl_validEntry x.1 x.2.1⟩
theorem impl_validEntry_eq (x : impl_validEntry_sg.dom) : body (env [(64, impl_isFinite_en), (114, impl_within_en), (171, impl_sameEntry_en), (172, impl_IsFiniteVec_en)]) [] Tryz.f102 impl_validEntry_sg x = impl_validEntry x.1 x.2.1 := by kernel_rfl
theorem impl_validEntry_so : Sound Tryz.prog 102 impl_validEntry_en := sound_of_body (envS (l := [(64, impl_isFinite_en), (114, impl_within_en), (171, impl_sameEntry_en), (172, impl_IsFiniteVec_en)]) (⟨impl_isFinite_so, impl_within_so, impl_sameEntry_so, impl_IsFiniteVec_so, trivial⟩)) Tryz.func102 (by kernel_rfl) rfl (fun x y h => (impl_validEntry_eq x).trans h)

-- loop.example/g01204/impl.ValidLog$1
noncomputable def impl_ValidLog_1 (a0 : (Int × ((Vec 3 Nat) × ((Vec 3 Int) × (Int × (Nat × Unit)))))) (a1 : (Int × ((Vec 3 Nat) × ((List (Vec 3 Nat)) × ((List (Int × ((Vec 3 Nat) × ((Vec 3 Int) × (Int × (Nat × Unit)))))) × Unit))))) : Option ((Bool × Unit) × Unit) :=
  (impl_validEntry a0 (lenI a1.2.2.1)).bind fun y30 =>
  some (((! y30.1.1), ()), ())
noncomputable def impl_ValidLog_1_sg : Sig := ⟨[.v (.pair (.int .i64) (.pair (.arr 3 (.flt .f32)) (.pair (.arr 3 (.int .i16)) (.pair (.int .i64) (.pair (.flt .f32) (.unit)))))), .ro (.pair (.int .i64) (.pair (.arr 3 (.flt .f32)) (.pair (.list (.arr 3 (.flt .f32))) (.pair (.list (.pair (.int .i64) (.pair (.arr 3 (.flt .f32)) (.pair (.arr 3 (.int .i16)) (.pair (.int .i64) (.pair (.flt .f32) (.unit))))))) (.unit)))))], [.v (.val (.bool))], false⟩
noncomputable def impl_ValidLog_1_en : Entry := ⟨impl_ValidLog_1_sg, fun x => impl_ValidLog_1 x.1 x.2.1⟩
theorem impl_ValidLog_1_eq (x : impl_ValidLog_1_sg.dom) : body (env [(102, impl_validEntry_en)]) [] Tryz.f170 impl_ValidLog_1_sg x = impl_ValidLog_1 x.1 x.2.1 := by kernel_rfl
theorem impl_ValidLog_1_so : Sound Tryz.prog 170 impl_ValidLog_1_en := sound_of_body (envS (l := [(102, impl_validEntry_en)]) (⟨impl_validEntry_so, trivial⟩)) Tryz.func170 (by kernel_rfl) rfl (fun x y h => (impl_ValidLog_1_eq x).trans h)

-- loop.example/g01204/impl.validFrame$1
noncomputable def impl_validFrame_1 (a0 : (Vec 3 Nat)) : Option ((Bool × Unit) × Unit) :=
  (impl_IsFiniteVec a0).bind fun y96 =>
  some (((! y96.1.1), ()), ())
noncomputable def impl_validFrame_1_sg : Sig := ⟨[.v (.arr 3 (.flt .f32))], [.v (.val (.bool))], false⟩
noncomputable def impl_validFrame_1_en : Entry := ⟨impl_validFrame_1_sg, fun x => impl_validFrame_1 x.1⟩
theorem impl_validFrame_1_eq (x : impl_validFrame_1_sg.dom) : body (env [(172, impl_IsFiniteVec_en)]) [] Tryz.f224 impl_validFrame_1_sg x = impl_validFrame_1 x.1 := by kernel_rfl
theorem impl_validFrame_1_so : Sound Tryz.prog 224 impl_validFrame_1_en := sound_of_body (envS (l := [(172, impl_IsFiniteVec_en)]) (⟨impl_IsFiniteVec_so, trivial⟩)) Tryz.func224 (by kernel_rfl) rfl (fun x y h => (impl_validFrame_1_eq x).trans h)

-- slices.IndexFunc[[]loop.example/g01204/impl.Vec,loop.example/g01204/impl.Vec]
noncomputable def slices_IndexFunc_impl_Vec_l2 (a0 : (List (Vec 3 Nat))) (a1 : (((Vec 3 Nat) × Unit) → Option Bool)) (s100 : (Int × Unit)) : Option ((Int × Unit) ⊕ ((Int × Unit) × Unit)) :=
  bif (iLt s100.1 (lenI a0)) then
    bif inB s100.1 (List.length a0) then
      (a1 ((List.getD a0 s100.1.toNat ((0, 0, 0, ()) : (Vec 3 Nat))), ())).bind fun y103 =>
      bif y103 then
        Option.map Sum.inr (some ((s100.1, ()), ()))
      else
      some (Sum.inl ((iAdd .i64 s100.1 1), ()))
    else none
  else
  Option.map Sum.inr (some ((((-1 : Int) : Int), ()), ()))
noncomputable def slices_IndexFunc_impl_Vec (a0 : (List (Vec 3 Nat))) (a1 : (((Vec 3 Nat) × Unit) → Option Bool)) : Option ((Int × Unit) × Unit) :=
  run (slices_IndexFunc_impl_Vec_l2 a0 a1) ((0 : Int), ())
noncomputable def slices_IndexFunc_impl_Vec_sg : Sig := ⟨[.v (.list (.arr 3 (.flt .f32))), .fn ⟨[.arr 3 (.flt .f32)], .bool⟩], [.v (.val (.int .i64))], false⟩
noncomputable def slices_IndexFunc_impl_Vec_en : Entry := ⟨slices_IndexFunc_impl_Vec_sg, fun x => slices_IndexFunc_impl_Vec x.1 x.2.1⟩
theorem slices_IndexFunc_impl_Vec_eq (x : slices_IndexFunc_impl_Vec_sg.dom) : body (env []) [(2, .vary [(8, .sc (.int .i64))])] Tryz.f250 slices_IndexFunc_impl_Vec_sg x = slices_IndexFunc_impl_Vec x.1 x.2.1 := by kernel_rfl
theorem slices_IndexFunc_impl_Vec_so : Sound Tryz.prog 250 slices_IndexFunc_impl_Vec_en := sound_of_body (envS (l := []) (trivial)) Tryz.func250 (by kernel_rfl) rfl (fun x y h => (slices_IndexFunc_impl_Vec_eq x).trans h)

-- slices.ContainsFunc[[]loop.example/g01204/impl.Vec,loop.example/g01204/impl.Vec]
noncomputable def slices_ContainsFunc_impl_Vec (a0 : (List (Vec 3 Nat))) (a1 : (((Vec 3 Nat) × Unit) → Option Bool)) : Option ((Bool × Unit) × Unit) :=
  (slices_IndexFunc_impl_Vec a0 a1).bind fun y98 =>
  some (((iLe 0 y98.1.1), ()), ())
noncomputable def slices_ContainsFunc_impl_Vec_sg : Sig := ⟨[.v (.list (.arr 3 (.flt .f32))), .fn ⟨[.arr 3 (.flt .f32)], .bool⟩], [.v (.val (.bool))], false⟩
noncomputable def slices_ContainsFunc_impl_Vec_en : Entry := ⟨slices_ContainsFunc_impl_Vec_sg, fun x => slices_ContainsFunc_impl_Vec x.1 x.2.1⟩
theorem slices_ContainsFunc_impl_Vec_eq (x : slices_ContainsFunc_impl_Vec_sg.dom) : body (env [(250, slices_IndexFunc_impl_Vec_en)]) [] Tryz.f223 slices_ContainsFunc_impl_Vec_sg x = slices_ContainsFunc_impl_Vec x.1 x.2.1 := by kernel_rfl
theorem slices_ContainsFunc_impl_Vec_so : Sound Tryz.prog 223 slices_ContainsFunc_impl_Vec_en := sound_of_body (envS (l := [(250, slices_IndexFunc_impl_Vec_en)]) (⟨slices_IndexFunc_impl_Vec_so, trivial⟩)) Tryz.func223 (by kernel_rfl) rfl (fun x y h => (slices_ContainsFunc_impl_Vec_eq x).trans h)

-- loop.example/g01204/impl.validFrame
noncomputable def impl_validFrame (a0 : Int) (a1 : (Vec 3 Nat)) (a2 : (List (Vec 3 Nat))) : Option ((Bool × Unit) × Unit) :=
  (impl_within a0 (1 : Int) (64 : Int)).bind fun y90 =>
  bif y90.1.1 then
    (impl_IsFiniteVec a1).bind fun y91 =>
    bif y91.1.1 then
      bif (iLe (lenI a2) 6) then
        (slices_ContainsFunc_impl_Vec a2 (fun (z93 : ((Vec 3 Nat) × Unit)) => (impl_validFrame_1 z93.1).map fun y => y.1.1)).bind fun y94 =>
        some (((! y94.1.1), ()), ())
      else some ((false, ()), ())
    else some ((false, ()), ())
  else some ((false, ()), ())
noncomputable def impl_validFrame_sg : Sig := ⟨[.v (.int .i64), .v (.arr 3 (.flt .f32)), .v (.list (.arr 3 (.flt .f32)))], [.v (.val (.bool))], false⟩
noncomputable def impl_validFrame_en : Entry := ⟨impl_validFrame_sg, fun x => impl_validFrame x.1 x.2.1 x.2.2.1⟩
theorem impl_validFrame_eq (x : impl_validFrame_sg.dom) : body (env [(114, impl_within_en), (172, impl_IsFiniteVec_en), (223, slices_ContainsFunc_impl_Vec_en), (224, impl_validFrame_1_en)]) [] Tryz.f168 impl_validFrame_sg x = impl_validFrame x.1 x.2.1 x.2.2.1 := by kernel_rfl
theorem impl_validFrame_so : Sound Tryz.prog 168 impl_validFrame_en := sound_of_body (envS (l := [(114, impl_within_en), (172, impl_IsFiniteVec_en), (223, slices_ContainsFunc_impl_Vec_en), (224, impl_validFrame_1_en)]) (⟨impl_within_so, impl_IsFiniteVec_so, slices_ContainsFunc_impl_Vec_so, impl_validFrame_1_so, trivial⟩)) Tryz.func168 (by kernel_rfl) rfl (fun x y h => (impl_validFrame_eq x).trans h)

-- slices.IndexFunc[[]loop.example/g01204/impl.Entry,loop.example/g01204/impl.Entry]
noncomputable def slices_IndexFunc_impl_Entry_l2 (a0 : (List (Int × ((Vec 3 Nat) × ((Vec 3 Int) × (Int × (Nat × Unit))))))) (a1 : (((Int × ((Vec 3 Nat) × ((Vec 3 Int) × (Int × (Nat × Unit))))) × Unit) → Option Bool)) (s107 : (Int × Unit)) : Option ((Int × Unit) ⊕ ((Int × Unit) × Unit)) :=
  bif (iLt s107.1 (lenI a0)) then
    bif inB s107.1 (List.length a0) then
      (a1 ((List.getD a0 s107.1.toNat ((0, (0, 0, 0, ()), (0, 0, 0, ()), 0, 0, ()) : (Int × ((Vec 3 Nat) × ((Vec 3 Int) × (Int × (Nat × Unit))))))), ())).bind fun y110 =>
      bif y110 then
        Option.map Sum.inr (some ((s107.1, ()), ()))
      else
      some (Sum.inl ((iAdd .i64 s107.1 1), ()))
    else none
  else
  Option.map Sum.inr (some ((((-1 : Int) : Int), ()), ()))
noncomputable def slices_IndexFunc_impl_Entry (a0 : (List (Int × ((Vec 3 Nat) × ((Vec 3 Int) × (Int × (Nat × Unit))))))) (a1 : (((Int × ((Vec 3 Nat) × ((Vec 3 Int) × (Int × (Nat × Unit))))) × Unit) → Option Bool)) : Option ((Int × Unit) × Unit) :=
  run (slices_IndexFunc_impl_Entry_l2 a0 a1) ((0 : Int), ())
noncomputable def slices_IndexFunc_impl_Entry_sg : Sig := ⟨[.v (.list (.pair (.int .i64) (.pair (.arr 3 (.flt .f32)) (.pair (.arr 3 (.int .i16)) (.pair (.int .i64) (.pair (.flt .f32) (.unit))))))), .fn ⟨[.pair (.int .i64) (.pair (.arr 3 (.flt .f32)) (.pair (.arr 3 (.int .i16)) (.pair (.int .i64) (.pair (.flt .f32) (.unit)))))], .bool⟩], [.v (.val (.int .i64))], false⟩
noncomputable def slices_IndexFunc_impl_Entry_en : Entry := ⟨slices_IndexFunc_impl_Entry_sg, fun x => slices_IndexFunc_impl_Entry x.1 x.2.1⟩
theorem slices_IndexFunc_impl_Entry_eq (x : slices_IndexFunc_impl_Entry_sg.dom) : body (env []) [(2, .vary [(8, .sc (.int .i64))])] Tryz.f225 slices_IndexFunc_impl_Entry_sg x = slices_IndexFunc_impl_Entry x.1 x.2.1 := by kernel_rfl
theorem slices_IndexFunc_impl_Entry_so : Sound Tryz.prog 225 slices_IndexFunc_impl_Entry_en := sound_of_body (envS (l := []) (trivial)) Tryz.func225 (by kernel_rfl) rfl (fun x y h => (slices_IndexFunc_impl_Entry_eq x).trans h)

-- slices.ContainsFunc[[]loop.example/g01204/impl.Entry,loop.example/g01204/impl.Entry]
noncomputable def slices_ContainsFunc_impl_Entry (a0 : (List (Int × ((Vec 3 Nat) × ((Vec 3 Int) × (Int × (Nat × Unit))))))) (a1 : (((Int × ((Vec 3 Nat) × ((Vec 3 Int) × (Int × (Nat × Unit))))) × Unit) → Option Bool)) : Option ((Bool × Unit) × Unit) :=
  (slices_IndexFunc_impl_Entry a0 a1).bind fun y105 =>
  some (((iLe 0 y105.1.1), ()), ())
noncomputable def slices_ContainsFunc_impl_Entry_sg : Sig := ⟨[.v (.list (.pair (.int .i64) (.pair (.arr 3 (.flt .f32)) (.pair (.arr 3 (.int .i16)) (.pair (.int .i64) (.pair (.flt .f32) (.unit))))))), .fn ⟨[.pair (.int .i64) (.pair (.arr 3 (.flt .f32)) (.pair (.arr 3 (.int .i16)) (.pair (.int .i64) (.pair (.flt .f32) (.unit)))))], .bool⟩], [.v (.val (.bool))], false⟩
noncomputable def slices_ContainsFunc_impl_Entry_en : Entry := ⟨slices_ContainsFunc_impl_Entry_sg, fun x => slices_ContainsFunc_impl_Entry x.1 x.2.1⟩
theorem slices_ContainsFunc_impl_Entry_eq (x : slices_ContainsFunc_impl_Entry_sg.dom) : body (env [(225, slices_IndexFunc_impl_Entry_en)]) [] Tryz.f169 slices_ContainsFunc_impl_Entry_sg x = slices_ContainsFunc_impl_Entry x.1 x.2.1 := by kernel_rfl
theorem slices_ContainsFunc_impl_Entry_so : Sound Tryz.prog 169 slices_ContainsFunc_impl_Entry_en := sound_of_body (envS (l := [(225, slices_IndexFunc_impl_Entry_en)]) (⟨slices_IndexFunc_impl_Entry_so, trivial⟩)) Tryz.func169 (by kernel_rfl) rfl (fun x y h => (slices_ContainsFunc_impl_Entry_eq x).trans h)

-- loop.example/g01204/impl.ValidLog
noncomputable def impl_ValidLog (a0 : (Int × ((Vec 3 Nat) × ((List (Vec 3 Nat)) × ((List (Int × ((Vec 3 Nat) × ((Vec 3 Int) × (Int × (Nat × Unit)))))) × Unit))))) : Option ((Bool × Unit) × Unit) :=
  (impl_validFrame a0.1 a0.2.1 a0.2.2.1).bind fun y25 =>
  bif y25.1.1 then
    bif (iLe (lenI a0.2.2.2.1) 1200) then
      (slices_ContainsFunc_impl_Entry a0.2.2.2.1 (fun (z27 : ((Int × ((Vec 3 Nat) × ((Vec 3 Int) × (Int × (Nat × Unit))))) × Unit)) => (impl_ValidLog_1 z27.1 a0).map fun y => y.1.1)).bind fun y28 =>
      some (((! y28.1.1), ()), ())
    else some ((false, ()), ())
  else some ((false, ()), ())
noncomputable def impl_ValidLog_sg : Sig := ⟨[.v (.pair (.int .i64) (.pair (.arr 3 (.flt .f32)) (.pair (.list (.arr 3 (.flt .f32))) (.pair (.list (.pair (.int .i64) (.pair (.arr 3 (.flt .f32)) (.pair (.arr 3 (.int .i16)) (.pair (.int .i64) (.pair (.flt .f32) (.unit))))))) (.unit)))))], [.v (.val (.bool))], false⟩
noncomputable def impl_ValidLog_en : Entry := ⟨impl_ValidLog_sg, fun x => impl_ValidLog x.1⟩
theorem impl_ValidLog_eq (x : impl_ValidLog_sg.dom) : body (env [(168, impl_validFrame_en), (169, slices_ContainsFunc_impl_Entry_en), (170, impl_ValidLog_1_en)]) [] Tryz.f100 impl_ValidLog_sg x = impl_ValidLog x.1 := by kernel_rfl
theorem impl_ValidLog_so : Sound Tryz.prog 100 impl_ValidLog_en := sound_of_body (envS (l := [(168, impl_validFrame_en), (169, slices_ContainsFunc_impl_Entry_en), (170, impl_ValidLog_1_en)]) (⟨impl_validFrame_so, slices_ContainsFunc_impl_Entry_so, impl_ValidLog_1_so, trivial⟩)) Tryz.func100 (by kernel_rfl) rfl (fun x y h => (impl_ValidLog_eq x).trans h)

-- loop.example/g01204/impl.ValidState
noncomputable def impl_ValidState (a0 : ((Vec 6 Nat) × ((Vec 6 (Vec 6 Nat)) × Unit))) : Option ((Bool × Unit) × Unit) :=
  (impl_isFinite ([Vec.getD 6 a0.1 0 (0 : Nat), Vec.getD 6 a0.1 1 (0 : Nat), Vec.getD 6 a0.1 2 (0 : Nat), Vec.getD 6 a0.1 3 (0 : Nat), Vec.getD 6 a0.1 4 (0 : Nat), Vec.getD 6 a0.1 5 (0 : Nat)] : (List Nat))).bind fun y112 =>
  bif (! y112.1.1) then some ((false, ()), ()) else
  (impl_isFinite ([Vec.getD 6 (Vec.getD 6 a0.2.1 0 ((0, 0, 0, 0, 0, 0, ()) : (Vec 6 Nat))) 0 (0 : Nat), Vec.getD 6 (Vec.getD 6 a0.2.1 0 ((0, 0, 0, 0, 0, 0, ()) : (Vec 6 Nat))) 1 (0 : Nat), Vec.getD 6 (Vec.getD 6 a0.2.1 0 ((0, 0, 0, 0, 0, 0, ()) : (Vec 6 Nat))) 2 (0 : Nat), Vec.getD 6 (Vec.getD 6 a0.2.1 0 ((0, 0, 0, 0, 0, 0, ()) : (Vec 6 Nat))) 3 (0 : Nat), Vec.getD 6 (Vec.getD 6 a0.2.1 0 ((0, 0, 0, 0, 0, 0, ()) : (Vec 6 Nat))) 4 (0 : Nat), Vec.getD 6 (Vec.getD 6 a0.2.1 0 ((0, 0, 0, 0, 0, 0, ()) : (Vec 6 Nat))) 5 (0 : Nat)] : (List Nat))).bind fun y114 =>
  bif (! y114.1.1) then some ((false, ()), ()) else
  bif (fLt .f32 (Vec.getD 6 (Vec.getD 6 a0.2.1 0 ((0, 0, 0, 0, 0, 0, ()) : (Vec 6 Nat))) 0 (0 : Nat)) 0) then some ((false, ()), ()) else
  bif (! (fEq .f32 (Vec.getD 6 (Vec.getD 6 a0.2.1 0 ((0, 0, 0, 0, 0, 0, ()) : (Vec 6 Nat))) 1 (0 : Nat)) 0)) then some ((false, ()), ()) else
  bif (! (fEq .f32 (Vec.getD 6 (Vec.getD 6 a0.2.1 0 ((0, 0, 0, 0, 0, 0, ()) : (Vec 6 Nat))) 2 (0 : Nat)) 0)) then some ((false, ()), ()) else
  bif (! (fEq .f32 (Vec.getD 6 (Vec.getD 6 a0.2.1 0 ((0, 0, 0, 0, 0, 0, ()) : (Vec 6 Nat))) 3 (0 : Nat)) 0)) then some ((false, ()), ()) else
  bif (! (fEq .f32 (Vec.getD 6 (Vec.getD 6 a0.2.1 0 ((0, 0, 0, 0, 0, 0, ()) : (Vec 6 Nat))) 4 (0 : Nat)) 0)) then some ((false, ()), ()) else
  bif (! (fEq .f32 (Vec.getD 6 (Vec.getD 6 a0.2.1 0 ((0, 0, 0, 0, 0, 0, ()) : (Vec 6 Nat))) 5 (0 : Nat)) 0)) then some ((false, ()), ()) else
  (impl_isFinite ([Vec.getD 6 (Vec.getD 6 a0.2.1 1 ((0, 0, 0, 0, 0, 0, ()) : (Vec 6 Nat))) 0 (0 : Nat), Vec.getD 6 (Vec.getD 6 a0.2.1 1 ((0, 0, 0, 0, 0, 0, ()) : (Vec 6 Nat))) 1 (0 : Nat), Vec.getD 6 (Vec.getD 6 a0.2.1 1 ((0, 0, 0, 0, 0, 0, ()) : (Vec 6 Nat))) 2 (0 : Nat), Vec.getD 6 (Vec.getD 6 a0.2.1 1 ((0, 0, 0, 0, 0, 0, ()) : (Vec 6 Nat))) 3 (0 : Nat), Vec.getD 6 (Vec.getD 6 a0.2.1 1 ((0, 0, 0, 0, 0, 0, ()) : (Vec 6 Nat))) 4 (0 : Nat), Vec.getD 6 (Vec.getD 6 a0.2.1 1 ((0, 0, 0, 0, 0, 0, ()) : (Vec 6 Nat))) 5 (0 : Nat)] : (List Nat))).bind fun y128 =>
  bif (! y128.1.1) then some ((false, ()), ()) else
  bif (fLt .f32 (Vec.getD 6 (Vec.getD 6 a0.2.1 1 ((0, 0, 0, 0, 0, 0, ()) : (Vec 6 Nat))) 1 (0 : Nat)) 0) then some ((false, ()), ()) else
  bif (! (fEq .f32 (Vec.getD 6 (Vec.getD 6 a0.2.1 1 ((0, 0, 0, 0, 0, 0, ()) : (Vec 6 Nat))) 2 (0 : Nat)) 0)) then some ((false, ()), ()) else
  bif (! (fEq .f32 (Vec.getD 6 (Vec.getD 6 a0.2.1 1 ((0, 0, 0, 0, 0, 0, ()) : (Vec 6 Nat))) 3 (0 : Nat)) 0)) then some ((false, ()), ()) else
  bif (! (fEq .f32 (Vec.getD 6 (Vec.getD 6 a0.2.1 1 ((0, 0, 0, 0, 0, 0, ()) : (Vec 6 Nat))) 4 (0 : Nat)) 0)) then some ((false, ()), ()) else
  bif (! (fEq .f32 (Vec.getD 6 (Vec.getD 6 a0.2.1 1 ((0, 0, 0, 0, 0, 0, ()) : (Vec 6 Nat))) 5 (0 : Nat)) 0)) then some ((false, ()), ()) else
  (impl_isFinite ([Vec.getD 6 (Vec.getD 6 a0.2.1 2 ((0, 0, 0, 0, 0, 0, ()) : (Vec 6 Nat))) 0 (0 : Nat), Vec.getD 6 (Vec.getD 6 a0.2.1 2 ((0, 0, 0, 0, 0, 0, ()) : (Vec 6 Nat))) 1 (0 : Nat), Vec.getD 6 (Vec.getD 6 a0.2.1 2 ((0, 0, 0, 0, 0, 0, ()) : (Vec 6 Nat))) 2 (0 : Nat), Vec.getD 6 (Vec.getD 6 a0.2.1 2 ((0, 0, 0, 0, 0, 0, ()) : (Vec 6 Nat))) 3 (0 : Nat), Vec.getD 6 (Vec.getD 6 a0.2.1 2 ((0, 0, 0, 0, 0, 0, ()) : (Vec 6 Nat))) 4 (0 : Nat), Vec.getD 6 (Vec.getD 6 a0.2.1 2 ((0, 0, 0, 0, 0, 0, ()) : (Vec 6 Nat))) 5 (0 : Nat)] : (List Nat))).bind fun y140 =>
  bif (! y140.1.1) then some ((false, ()), ()) else
  bif (fLt .f32 (Vec.getD 6 (Vec.getD 6 a0.2.1 2 ((0, 0, 0, 0, 0, 0, ()) : (Vec 6 Nat))) 2 (0 : Nat)) 0) then some ((false, ()), ()) else
  bif (! (fEq .f32 (Vec.getD 6 (Vec.getD 6 a0.2.1 2 ((0, 0, 0, 0, 0, 0, ()) : (Vec 6 Nat))) 3 (0 : Nat)) 0)) then some ((false, ()), ()) else
  bif (! (fEq .f32 (Vec.getD 6 (Vec.getD 6 a0.2.1 2 ((0, 0, 0, 0, 0, 0, ()) : (Vec 6 Nat))) 4 (0 : Nat)) 0)) then some ((false, ()), ()) else
  bif (! (fEq .f32 (Vec.getD 6 (Vec.getD 6 a0.2.1 2 ((0, 0, 0, 0, 0, 0, ()) : (Vec 6 Nat))) 5 (0 : Nat)) 0)) then some ((false, ()), ()) else
  (impl_isFinite ([Vec.getD 6 (Vec.getD 6 a0.2.1 3 ((0, 0, 0, 0, 0, 0, ()) : (Vec 6 Nat))) 0 (0 : Nat), Vec.getD 6 (Vec.getD 6 a0.2.1 3 ((0, 0, 0, 0, 0, 0, ()) : (Vec 6 Nat))) 1 (0 : Nat), Vec.getD 6 (Vec.getD 6 a0.2.1 3 ((0, 0, 0, 0, 0, 0, ()) : (Vec 6 Nat))) 2 (0 : Nat), Vec.getD 6 (Vec.getD 6 a0.2.1 3 ((0, 0, 0, 0, 0, 0, ()) : (Vec 6 Nat))) 3 (0 : Nat), Vec.getD 6 (Vec.getD 6 a0.2.1 3 ((0, 0, 0, 0, 0, 0, ()) : (Vec 6 Nat))) 4 (0 : Nat), Vec.getD 6 (Vec.getD 6 a0.2.1 3 ((0, 0, 0, 0, 0, 0, ()) : (Vec 6 Nat))) 5 (0 : Nat)] : (List Nat))).bind fun y150 =>
  bif (! y150.1.1) then some ((false, ()), ()) else
  bif (fLt .f32 (Vec.getD 6 (Vec.getD 6 a0.2.1 3 ((0, 0, 0, 0, 0, 0, ()) : (Vec 6 Nat))) 3 (0 : Nat)) 0) then some ((false, ()), ()) else
  bif (! (fEq .f32 (Vec.getD 6 (Vec.getD 6 a0.2.1 3 ((0, 0, 0, 0, 0, 0, ()) : (Vec 6 Nat))) 4 (0 : Nat)) 0)) then some ((false, ()), ()) else
  bif (! (fEq .f32 (Vec.getD 6 (Vec.getD 6 a0.2.1 3 ((0, 0, 0, 0, 0, 0, ()) : (Vec 6 Nat))) 5 (0 : Nat)) 0)) then some ((false, ()), ()) else
  (impl_isFinite ([Vec.getD 6 (Vec.getD 6 a0.2.1 4 ((0, 0, 0, 0, 0, 0, ()) : (Vec 6 Nat))) 0 (0 : Nat), Vec.getD 6 (Vec.getD 6 a0.2.1 4 ((0, 0, 0, 0, 0, 0, ()) : (Vec 6 Nat))) 1 (0 : Nat), Vec.getD 6 (Vec.getD 6 a0.2.1 4 ((0, 0, 0, 0, 0, 0, ()) : (Vec 6 Nat))) 2 (0 : Nat), Vec.getD 6 (Vec.getD 6 a0.2.1 4 ((0, 0, 0, 0, 0, 0, ()) : (Vec 6 Nat))) 3 (0 : Nat), Vec.getD 6 (Vec.getD 6 a0.2.1 4 ((0, 0, 0, 0, 0, 0, ()) : (Vec 6 Nat))) 4 (0 : Nat), Vec.getD 6 (Vec.getD 6 a0.2.1 4 ((0, 0, 0, 0, 0, 0, ()) : (Vec 6 Nat))) 5 (0 : Nat)] : (List Nat))).bind fun y158 =>
  bif (! y158.1.1) then some ((false, ()), ()) else
  bif (fLt .f32 (Vec.getD 6 (Vec.getD 6 a0.2.1 4 ((0, 0, 0, 0, 0, 0, ()) : (Vec 6 Nat))) 4 (0 : Nat)) 0) then some ((false, ()), ()) else
  bif (! (fEq .f32 (Vec.getD 6 (Vec.getD 6 a0.2.1 4 ((0, 0, 0, 0, 0, 0, ()) : (Vec 6 Nat))) 5 (0 : Nat)) 0)) then some ((false, ()), ()) else
  (impl_isFinite ([Vec.getD 6 (Vec.getD 6 a0.2.1 5 ((0, 0, 0, 0, 0, 0, ()) : (Vec 6 Nat))) 0 (0 : Nat), Vec.getD 6 (Vec.getD 6 a0.2.1 5 ((0, 0, 0, 0, 0, 0, ()) : (Vec 6 Nat))) 1 (0 : Nat), Vec.getD 6 (Vec.getD 6 a0.2.1 5 ((0, 0, 0, 0, 0, 0, ()) : (Vec 6 Nat))) 2 (0 : Nat), Vec.getD 6 (Vec.getD 6 a0.2.1 5 ((0, 0, 0, 0, 0, 0, ()) : (Vec 6 Nat))) 3 (0 : Nat), Vec.getD 6 (Vec.getD 6 a0.2.1 5 ((0, 0, 0, 0, 0, 0, ()) : (Vec 6 Nat))) 4 (0 : Nat), Vec.getD 6 (Vec.getD 6 a0.2.1 5 ((0, 0, 0, 0, 0, 0, ()) : (Vec 6 Nat))) 5 (0 : Nat)] : (List Nat))).bind fun y164 =>
  bif (! y164.1.1) then some ((false, ()), ()) else
  bif (fLt .f32 (Vec.getD 6 (Vec.getD 6 a0.2.1 5 ((0, 0, 0, 0, 0, 0, ()) : (Vec 6 Nat))) 5 (0 : Nat)) 0) then some ((false, ()), ()) else some ((true, ()), ())
noncomputable def impl_ValidState_sg : Sig := ⟨[.v (.pair (.arr 6 (.flt .f32)) (.pair (.arr 6 (.arr 6 (.flt .f32))) (.unit)))], [.v (.val (.bool))], false⟩
noncomputable def impl_ValidState_en : Entry := ⟨impl_ValidState_sg, fun x => impl_ValidState x.1⟩
theorem impl_ValidState_eq (x : impl_ValidState_sg.dom) : body (env [(64, impl_isFinite_en)]) [(4, .unroll 7), (9, .unroll 6)] Tryz.f101 impl_ValidState_sg x = impl_ValidState x.1 := by kernel_rfl
theorem impl_ValidState_so : Sound Tryz.prog 101 impl_ValidState_en := sound_of_body (envS (l := [(64, impl_isFinite_en)]) (⟨impl_isFinite_so, trivial⟩)) Tryz.func101 (by kernel_rfl) rfl (fun x y h => (impl_ValidState_eq x).trans h)

-- loop.example/g01204/impl.FixSensor
noncomputable def impl_FixSensor : Option ((((Vec 3 Nat) × ((Vec 3 Nat) × (Int × (Int × Unit)))) × Unit) × Unit) :=
  some (((((1031798784, 1031798784, 1031798784, ()), (0, 0, 0, ()), 1, 0, ()) : ((Vec 3 Nat) × ((Vec 3 Nat) × (Int × (Int × Unit))))), ()), ())
noncomputable def impl_FixSensor_sg : Sig := ⟨[], [.v (.val (.pair (.arr 3 (.flt .f32)) (.pair (.arr 3 (.flt .f32)) (.pair (.int .i64) (.pair (.int .i64) (.unit))))))], false⟩
noncomputable def impl_FixSensor_en : Entry := ⟨impl_FixSensor_sg, fun _ => impl_FixSensor⟩
theorem impl_FixSensor_eq (x : impl_FixSensor_sg.dom) : body (env []) [] Tryz.f177 impl_FixSensor_sg x = impl_FixSensor  := by kernel_rfl
theorem impl_FixSensor_so : Sound Tryz.prog 177 impl_FixSensor_en := sound_of_body (envS (l := []) (trivial)) Tryz.func177 (by kernel_rfl) rfl (fun x y h => (impl_FixSensor_eq x).trans h)

-- loop.example/g01204/impl.isLeast$1
noncomputable def impl_isLeast_1 (a0 : Nat) : Option ((Bool × Unit) × Unit) :=
  some (((fLt .f32 a0 0), ()), ())
noncomputable def impl_isLeast_1_sg : Sig := ⟨[.v (.flt .f32)], [.v (.val (.bool))], false⟩
noncomputable def impl_isLeast_1_en : Entry := ⟨impl_isLeast_1_sg, fun x => impl_isLeast_1 x.1⟩
theorem impl_isLeast_1_eq (x : impl_isLeast_1_sg.dom) : body (env []) [] Tryz.f142 impl_isLeast_1_sg x = impl_isLeast_1 x.1 := by kernel_rfl
theorem impl_isLeast_1_so : Sound Tryz.prog 142 impl_isLeast_1_en := sound_of_body (envS (l := []) (trivial)) Tryz.func142 (by kernel_rfl) rfl (fun x y h => (impl_isLeast_1_eq x).trans h)

-- slices.IndexFunc[[]float32,float32]
noncomputable def slices_IndexFunc_float32_l2 (a0 : (List Nat)) (a1 : ((Nat × Unit) → Option Bool)) (s331 : (Int × Unit)) : Option ((Int × Unit) ⊕ ((Int × Unit) × Unit)) :=
  bif (iLt s331.1 (lenI a0)) then
    bif inB s331.1 (List.length a0) then
      (a1 ((List.getD a0 s331.1.toNat (0 : Nat)), ())).bind fun y334 =>
      bif y334 then
        Option.map Sum.inr (some ((s331.1, ()), ()))
      else
      some (Sum.inl ((iAdd .i64 s331.1 1), ()))
    else none
  else
  Option.map Sum.inr (some ((((-1 : Int) : Int), ()), ()))
noncomputable def slices_IndexFunc_float32 (a0 : (List Nat)) (a1 : ((Nat × Unit) → Option Bool)) : Option ((Int × Unit) × Unit) :=
  run (slices_IndexFunc_float32_l2 a0 a1) ((0 : Int), ())
noncomputable def slices_IndexFunc_float32_sg : Sig := ⟨[.v (.list (.flt .f32)), .fn ⟨[.flt .f32], .bool⟩], [.v (.val (.int .i64))], false⟩
noncomputable def slices_IndexFunc_float32_en : Entry := ⟨slices_IndexFunc_float32_sg, fun x => slices_IndexFunc_float32 x.1 x.2.1⟩
theorem slices_IndexFunc_float32_eq (x : slices_IndexFunc_float32_sg.dom) : body (env []) [(2, .vary [(8, .sc (.int .i64))])] Tryz.f204 slices_IndexFunc_float32_sg x = slices_IndexFunc_float32 x.1 x.2.1 := by kernel_rfl
theorem slices_IndexFunc_float32_so : Sound Tryz.prog 204 slices_IndexFunc_float32_en := sound_of_body (envS (l := []) (trivial)) Tryz.func204 (by kernel_rfl) rfl (fun x y h => (slices_IndexFunc_float32_eq x).trans h)

-- slices.ContainsFunc[[]float32,float32]
noncomputable def slices_ContainsFunc_float32 (a0 : (List Nat)) (a1 : ((Nat × Unit) → Option Bool)) : Option ((Bool × Unit) × Unit) :=
  (slices_IndexFunc_float32 a0 a1).bind fun y329 =>
  some (((iLe 0 y329.1.1), ()), ())
noncomputable def slices_ContainsFunc_float32_sg : Sig := ⟨[.v (.list (.flt .f32)), .fn ⟨[.flt .f32], .bool⟩], [.v (.val (.bool))], false⟩
noncomputable def slices_ContainsFunc_float32_en : Entry := ⟨slices_ContainsFunc_float32_sg, fun x => slices_ContainsFunc_float32 x.1 x.2.1⟩
theorem slices_ContainsFunc_float32_eq (x : slices_ContainsFunc_float32_sg.dom) : body (env [(204, slices_IndexFunc_float32_en)]) [] Tryz.f141 slices_ContainsFunc_float32_sg x = slices_ContainsFunc_float32 x.1 x.2.1 := by kernel_rfl
theorem slices_ContainsFunc_float32_so : Sound Tryz.prog 141 slices_ContainsFunc_float32_en := sound_of_body (envS (l := [(204, slices_IndexFunc_float32_en)]) (⟨slices_IndexFunc_float32_so, trivial⟩)) Tryz.func141 (by kernel_rfl) rfl (fun x y h => (slices_ContainsFunc_float32_eq x).trans h)

-- loop.example/g01204/impl.isLeast
noncomputable def impl_isLeast (a0 : (List Nat)) : Option ((Bool × Unit) × Unit) :=
  (impl_isFinite a0).bind fun y324 =>
  bif y324.1.1 then
    (slices_ContainsFunc_float32 a0 (fun (z325 : (Nat × Unit)) => (impl_isLeast_1 z325.1).map fun y => y.1.1)).bind fun y326 =>
    some (((! y326.1.1), ()), ())
  else some ((false, ()), ())
noncomputable def impl_isLeast_sg : Sig := ⟨[.v (.list (.flt .f32))], [.v (.val (.bool))], false⟩
noncomputable def impl_isLeast_en : Entry := ⟨impl_isLeast_sg, fun x => impl_isLeast x.1⟩
theorem impl_isLeast_eq (x : impl_isLeast_sg.dom) : body (env [(64, impl_isFinite_en), (141, slices_ContainsFunc_float32_en), (142, impl_isLeast_1_en)]) [] Tryz.f69 impl_isLeast_sg x = impl_isLeast x.1 := by kernel_rfl
theorem impl_isLeast_so : Sound Tryz.prog 69 impl_isLeast_en := sound_of_body (envS (l := [(64, impl_isFinite_en), (141, slices_ContainsFunc_float32_en), (142, impl_isLeast_1_en)]) (⟨impl_isFinite_so, slices_ContainsFunc_float32_so, impl_isLeast_1_so, trivial⟩)) Tryz.func69 (by kernel_rfl) rfl (fun x y h => (impl_isLeast_eq x).trans h)

theorem math_sqrt_so : Sound Tryz.prog 203 math_sqrt_en := math_sqrt_sound Tryz.func203 (by kernel_rfl) (by kernel_rfl) (by kernel_rfl) (by kernel_rfl)

-- math.Sqrt
noncomputable def math_Sqrt (a0 : Nat) : Option ((Nat × Unit) × Unit) :=
  (math_sqrt a0).bind fun y339 =>
  some ((y339.1.1, ()), ())
noncomputable def math_Sqrt_sg : Sig := ⟨[.v (.flt .f64)], [.v (.val (.flt .f64))], false⟩
noncomputable def math_Sqrt_en : Entry := ⟨math_Sqrt_sg, fun x => math_Sqrt x.1⟩
theorem math_Sqrt_eq (x : math_Sqrt_sg.dom) : body (env [(203, math_sqrt_en)]) [] Tryz.f140 math_Sqrt_sg x = math_Sqrt x.1 := by kernel_rfl
theorem math_Sqrt_so : Sound Tryz.prog 140 math_Sqrt_en := sound_of_body (envS (l := [(203, math_sqrt_en)]) (⟨math_sqrt_so, trivial⟩)) Tryz.func140 (by kernel_rfl) rfl (fun x y h => (math_Sqrt_eq x).trans h)

-- loop.example/g01204/impl.root
noncomputable def impl_root (a0 : Nat) : Option ((Nat × Unit) × Unit) :=
  (fConv .f32 .f64 a0).bind fun y336 =>
  (math_Sqrt y336).bind fun y337 =>
  (fConv .f64 .f32 y337.1.1).bind fun y338 =>
  some ((y338, ()), ())
noncomputable def impl_root_sg : Sig := ⟨[.v (.flt .f32)], [.v (.val (.flt .f32))], false⟩
noncomputable def impl_root_en : Entry := ⟨impl_root_sg, fun x => impl_root x.1⟩
theorem impl_root_eq (x : impl_root_sg.dom) : body (env [(140, math_Sqrt_en)]) [] Tryz.f67 impl_root_sg x = impl_root x.1 := by kernel_rfl
theorem impl_root_so : Sound Tryz.prog 67 impl_root_en := sound_of_body (envS (l := [(140, math_Sqrt_en)]) (⟨math_Sqrt_so, trivial⟩)) Tryz.func67 (by kernel_rfl) rfl (fun x y h => (impl_root_eq x).trans h)

-- loop.example/g01204/impl.isFiniteRoot
noncomputable def impl_isFiniteRoot (a0 : (Vec 6 (Vec 6 Nat))) : Option ((Bool × Unit) × Unit) :=
  (impl_isFinite ([Vec.getD 6 (Vec.getD 6 a0 0 ((0, 0, 0, 0, 0, 0, ()) : (Vec 6 Nat))) 0 (0 : Nat), Vec.getD 6 (Vec.getD 6 a0 0 ((0, 0, 0, 0, 0, 0, ()) : (Vec 6 Nat))) 1 (0 : Nat), Vec.getD 6 (Vec.getD 6 a0 0 ((0, 0, 0, 0, 0, 0, ()) : (Vec 6 Nat))) 2 (0 : Nat), Vec.getD 6 (Vec.getD 6 a0 0 ((0, 0, 0, 0, 0, 0, ()) : (Vec 6 Nat))) 3 (0 : Nat), Vec.getD 6 (Vec.getD 6 a0 0 ((0, 0, 0, 0, 0, 0, ()) : (Vec 6 Nat))) 4 (0 : Nat), Vec.getD 6 (Vec.getD 6 a0 0 ((0, 0, 0, 0, 0, 0, ()) : (Vec 6 Nat))) 5 (0 : Nat)] : (List Nat))).bind fun y547 =>
  bif (! y547.1.1) then some ((false, ()), ()) else
  (impl_isFinite ([Vec.getD 6 (Vec.getD 6 a0 1 ((0, 0, 0, 0, 0, 0, ()) : (Vec 6 Nat))) 0 (0 : Nat), Vec.getD 6 (Vec.getD 6 a0 1 ((0, 0, 0, 0, 0, 0, ()) : (Vec 6 Nat))) 1 (0 : Nat), Vec.getD 6 (Vec.getD 6 a0 1 ((0, 0, 0, 0, 0, 0, ()) : (Vec 6 Nat))) 2 (0 : Nat), Vec.getD 6 (Vec.getD 6 a0 1 ((0, 0, 0, 0, 0, 0, ()) : (Vec 6 Nat))) 3 (0 : Nat), Vec.getD 6 (Vec.getD 6 a0 1 ((0, 0, 0, 0, 0, 0, ()) : (Vec 6 Nat))) 4 (0 : Nat), Vec.getD 6 (Vec.getD 6 a0 1 ((0, 0, 0, 0, 0, 0, ()) : (Vec 6 Nat))) 5 (0 : Nat)] : (List Nat))).bind fun y549 =>
  bif (! y549.1.1) then some ((false, ()), ()) else
  (impl_isFinite ([Vec.getD 6 (Vec.getD 6 a0 2 ((0, 0, 0, 0, 0, 0, ()) : (Vec 6 Nat))) 0 (0 : Nat), Vec.getD 6 (Vec.getD 6 a0 2 ((0, 0, 0, 0, 0, 0, ()) : (Vec 6 Nat))) 1 (0 : Nat), Vec.getD 6 (Vec.getD 6 a0 2 ((0, 0, 0, 0, 0, 0, ()) : (Vec 6 Nat))) 2 (0 : Nat), Vec.getD 6 (Vec.getD 6 a0 2 ((0, 0, 0, 0, 0, 0, ()) : (Vec 6 Nat))) 3 (0 : Nat), Vec.getD 6 (Vec.getD 6 a0 2 ((0, 0, 0, 0, 0, 0, ()) : (Vec 6 Nat))) 4 (0 : Nat), Vec.getD 6 (Vec.getD 6 a0 2 ((0, 0, 0, 0, 0, 0, ()) : (Vec 6 Nat))) 5 (0 : Nat)] : (List Nat))).bind fun y551 =>
  bif (! y551.1.1) then some ((false, ()), ()) else
  (impl_isFinite ([Vec.getD 6 (Vec.getD 6 a0 3 ((0, 0, 0, 0, 0, 0, ()) : (Vec 6 Nat))) 0 (0 : Nat), Vec.getD 6 (Vec.getD 6 a0 3 ((0, 0, 0, 0, 0, 0, ()) : (Vec 6 Nat))) 1 (0 : Nat), Vec.getD 6 (Vec.getD 6 a0 3 ((0, 0, 0, 0, 0, 0, ()) : (Vec 6 Nat))) 2 (0 : Nat), Vec.getD 6 (Vec.getD 6 a0 3 ((0, 0, 0, 0, 0, 0, ()) : (Vec 6 Nat))) 3 (0 : Nat), Vec.getD 6 (Vec.getD 6 a0 3 ((0, 0, 0, 0, 0, 0, ()) : (Vec 6 Nat))) 4 (0 : Nat), Vec.getD 6 (Vec.getD 6 a0 3 ((0, 0, 0, 0, 0, 0, ()) : (Vec 6 Nat))) 5 (0 : Nat)] : (List Nat))).bind fun y553 =>
  bif (! y553.1.1) then some ((false, ()), ()) else
  (impl_isFinite ([Vec.getD 6 (Vec.getD 6 a0 4 ((0, 0, 0, 0, 0, 0, ()) : (Vec 6 Nat))) 0 (0 : Nat), Vec.getD 6 (Vec.getD 6 a0 4 ((0, 0, 0, 0, 0, 0, ()) : (Vec 6 Nat))) 1 (0 : Nat), Vec.getD 6 (Vec.getD 6 a0 4 ((0, 0, 0, 0, 0, 0, ()) : (Vec 6 Nat))) 2 (0 : Nat), Vec.getD 6 (Vec.getD 6 a0 4 ((0, 0, 0, 0, 0, 0, ()) : (Vec 6 Nat))) 3 (0 : Nat), Vec.getD 6 (Vec.getD 6 a0 4 ((0, 0, 0, 0, 0, 0, ()) : (Vec 6 Nat))) 4 (0 : Nat), Vec.getD 6 (Vec.getD 6 a0 4 ((0, 0, 0, 0, 0, 0, ()) : (Vec 6 Nat))) 5 (0 : Nat)] : (List Nat))).bind fun y555 =>
  bif (! y555.1.1) then some ((false, ()), ()) else
  (impl_isFinite ([Vec.getD 6 (Vec.getD 6 a0 5 ((0, 0, 0, 0, 0, 0, ()) : (Vec 6 Nat))) 0 (0 : Nat), Vec.getD 6 (Vec.getD 6 a0 5 ((0, 0, 0, 0, 0, 0, ()) : (Vec 6 Nat))) 1 (0 : Nat), Vec.getD 6 (Vec.getD 6 a0 5 ((0, 0, 0, 0, 0, 0, ()) : (Vec 6 Nat))) 2 (0 : Nat), Vec.getD 6 (Vec.getD 6 a0 5 ((0, 0, 0, 0, 0, 0, ()) : (Vec 6 Nat))) 3 (0 : Nat), Vec.getD 6 (Vec.getD 6 a0 5 ((0, 0, 0, 0, 0, 0, ()) : (Vec 6 Nat))) 4 (0 : Nat), Vec.getD 6 (Vec.getD 6 a0 5 ((0, 0, 0, 0, 0, 0, ()) : (Vec 6 Nat))) 5 (0 : Nat)] : (List Nat))).bind fun y557 =>
  bif (! y557.1.1) then some ((false, ()), ()) else some ((true, ()), ())
noncomputable def impl_isFiniteRoot_sg : Sig := ⟨[.ro (.arr 6 (.arr 6 (.flt .f32)))], [.v (.val (.bool))], false⟩
noncomputable def impl_isFiniteRoot_en : Entry := ⟨impl_isFiniteRoot_sg, fun x => impl_isFiniteRoot x.1⟩
theorem impl_isFiniteRoot_eq (x : impl_isFiniteRoot_sg.dom) : body (env [(64, impl_isFinite_en)]) [(2, .unroll 7)] Tryz.f263 impl_isFiniteRoot_sg x = impl_isFiniteRoot x.1 := by kernel_rfl
theorem impl_isFiniteRoot_so : Sound Tryz.prog 263 impl_isFiniteRoot_en := sound_of_body (envS (l := [(64, impl_isFinite_en)]) (⟨impl_isFinite_so, trivial⟩)) Tryz.func263 (by kernel_rfl) rfl (fun x y h => (impl_isFiniteRoot_eq x).trans h)

-- loop.example/g01204/impl.LowerOf
noncomputable def impl_LowerOf_l21 (s425 : (Int × (Vec 6 (Vec 9 Nat)) × Unit)) (s464 : (Int × (Vec 6 (Vec 9 Nat)) × Unit)) (x475 : Nat) (x476 : Nat) (s488 : (Int × (Vec 6 (Vec 9 Nat)) × Unit)) : Option ((Int × (Vec 6 (Vec 9 Nat)) × Unit) ⊕ ((Int × (Vec 6 (Vec 9 Nat)) × Unit) ⊕ ((Int × (Vec 6 (Vec 9 Nat)) × Unit) ⊕ (((Vec 6 (Vec 6 Nat)) × Int × Unit) × Unit)))) :=
  bif (iLt s488.1 6) then
    bif inB s488.1 6 then
      bif inB s425.1 9 then
        let x490 := Vec.getD 9 (Vec.getD 6 s488.2.1 s488.1.toNat ((0, 0, 0, 0, 0, 0, 0, 0, 0, ()) : (Vec 9 Nat))) s425.1.toNat (0 : Nat)
        bif inB s488.1 6 then
          bif inB s464.1 9 then
            let x491 := Vec.getD 9 (Vec.getD 6 s488.2.1 s488.1.toNat ((0, 0, 0, 0, 0, 0, 0, 0, 0, ()) : (Vec 9 Nat))) s464.1.toNat (0 : Nat)
            let x494 := fAdd .f32 (fMul .f32 x475 x490) (fMul .f32 x476 x491)
            bif inB s488.1 6 then
              bif inB s425.1 9 then
                bif inB s488.1 6 then
                  bif inB s464.1 9 then
                    some (Sum.inl ((iAdd .i64 s488.1 1), Vec.set 6 (Vec.set 6 s488.2.1 s488.1.toNat (Vec.set 9 (Vec.getD 6 s488.2.1 s488.1.toNat ((0, 0, 0, 0, 0, 0, 0, 0, 0, ()) : (Vec 9 Nat))) s425.1.toNat x494)) s488.1.toNat (Vec.set 9 (Vec.getD 6 (Vec.set 6 s488.2.1 s488.1.toNat (Vec.set 9 (Vec.getD 6 s488.2.1 s488.1.toNat ((0, 0, 0, 0, 0, 0, 0, 0, 0, ()) : (Vec 9 Nat))) s425.1.toNat x494)) s488.1.toNat ((0, 0, 0, 0, 0, 0, 0, 0, 0, ()) : (Vec 9 Nat))) s464.1.toNat (fSub .f32 (fMul .f32 x475 x491) (fMul .f32 x476 x490))), ()))
                  else none
                else none
              else none
            else none
          else none
        else none
      else none
    else none
  else
  Option.map Sum.inr (
    bif inB s425.1 6 then
      bif inB s464.1 9 then
        some (Sum.inl ((iAdd .i64 s464.1 1), Vec.set 6 s488.2.1 s425.1.toNat (Vec.set 9 (Vec.getD 6 s488.2.1 s425.1.toNat ((0, 0, 0, 0, 0, 0, 0, 0, 0, ()) : (Vec 9 Nat))) s464.1.toNat (0 : Nat)), ()))
      else none
    else none)
noncomputable def impl_LowerOf_l11 (s425 : (Int × (Vec 6 (Vec 9 Nat)) × Unit)) (s464 : (Int × (Vec 6 (Vec 9 Nat)) × Unit)) : Option ((Int × (Vec 6 (Vec 9 Nat)) × Unit) ⊕ ((Int × (Vec 6 (Vec 9 Nat)) × Unit) ⊕ (((Vec 6 (Vec 6 Nat)) × Int × Unit) × Unit))) :=
  bif (iLt s464.1 9) then
    bif inB s425.1 6 then
      bif inB s464.1 9 then
        let x466 := Vec.getD 9 (Vec.getD 6 s464.2.1 s425.1.toNat ((0, 0, 0, 0, 0, 0, 0, 0, 0, ()) : (Vec 9 Nat))) s464.1.toNat (0 : Nat)
        bif (fEq .f32 x466 0) then
          some (Sum.inl ((iAdd .i64 s464.1 1), s464.2.1, ()))
        else
        bif inB s425.1 6 then
          bif inB s425.1 9 then
            let x469 := Vec.getD 9 (Vec.getD 6 s464.2.1 s425.1.toNat ((0, 0, 0, 0, 0, 0, 0, 0, 0, ()) : (Vec 9 Nat))) s425.1.toNat (0 : Nat)
            (impl_root (fAdd .f32 (fMul .f32 x469 x469) (fMul .f32 x466 x466))).bind fun y473 =>
            bif (fEq .f32 y473.1.1 0) then
              Option.map Sum.inr (Option.map Sum.inr (some (((((0, 0, 0, 0, 0, 0, ()), (0, 0, 0, 0, 0, 0, ()), (0, 0, 0, 0, 0, 0, ()), (0, 0, 0, 0, 0, 0, ()), (0, 0, 0, 0, 0, 0, ()), (0, 0, 0, 0, 0, 0, ()), ()) : (Vec 6 (Vec 6 Nat))), (4 : Int), ()), ())))
            else
            let x475 := fDiv .f32 x469 y473.1.1
            let x476 := fDiv .f32 x466 y473.1.1
            run (impl_LowerOf_l21 s425 s464 x475 x476) (s425.1, s464.2.1, ())
          else none
        else none
      else none
    else none
  else
  Option.map Sum.inr (some (Sum.inl ((iAdd .i64 s425.1 1), s464.2.1, ())))
noncomputable def impl_LowerOf_l39 (s528 : (Int × (Vec 6 (Vec 6 Nat)) × Unit)) (s539 : (Int × (Vec 6 (Vec 6 Nat)) × Unit)) : Option ((Int × (Vec 6 (Vec 6 Nat)) × Unit) ⊕ ((Int × (Vec 6 (Vec 6 Nat)) × Unit) ⊕ (((Vec 6 (Vec 6 Nat)) × Int × Unit) × Unit))) :=
  bif (iLt s539.1 6) then
    bif inB s539.1 6 then
      bif inB s528.1 6 then
        bif inB s539.1 6 then
          bif inB s528.1 6 then
            some (Sum.inl ((iAdd .i64 s539.1 1), Vec.set 6 s539.2.1 s539.1.toNat (Vec.set 6 (Vec.getD 6 s539.2.1 s539.1.toNat ((0, 0, 0, 0, 0, 0, ()) : (Vec 6 Nat))) s528.1.toNat (fNeg .f32 (Vec.getD 6 (Vec.getD 6 s539.2.1 s539.1.toNat ((0, 0, 0, 0, 0, 0, ()) : (Vec 6 Nat))) s528.1.toNat (0 : Nat)))), ()))
          else none
        else none
      else none
    else none
  else
  Option.map Sum.inr (some (Sum.inl ((iAdd .i64 s528.1 1), s539.2.1, ())))
noncomputable def impl_LowerOf_l35 (s528 : (Int × (Vec 6 (Vec 6 Nat)) × Unit)) : Option ((Int × (Vec 6 (Vec 6 Nat)) × Unit) ⊕ (((Vec 6 (Vec 6 Nat)) × Int × Unit) × Unit)) :=
  bif (iLt s528.1 6) then
    bif inB s528.1 6 then
      bif inB s528.1 6 then
        bif (! (fLt .f32 (Vec.getD 6 (Vec.getD 6 s528.2.1 s528.1.toNat ((0, 0, 0, 0, 0, 0, ()) : (Vec 6 Nat))) s528.1.toNat (0 : Nat)) 0)) then
          some (Sum.inl ((iAdd .i64 s528.1 1), s528.2.1, ()))
        else run (impl_LowerOf_l39 s528) (s528.1, s528.2.1, ())
      else none
    else none
  else
  Option.map Sum.inr (
    (impl_isFiniteRoot s528.2.1).bind fun y545 =>
    bif (! y545.1.1) then
      some (((((0, 0, 0, 0, 0, 0, ()), (0, 0, 0, 0, 0, 0, ()), (0, 0, 0, 0, 0, 0, ()), (0, 0, 0, 0, 0, 0, ()), (0, 0, 0, 0, 0, 0, ()), (0, 0, 0, 0, 0, 0, ()), ()) : (Vec 6 (Vec 6 Nat))), (4 : Int), ()), ())
    else some ((s528.2.1, (0 : Int), ()), ()))
noncomputable def impl_LowerOf_l30 (s425 : (Int × (Vec 6 (Vec 9 Nat)) × Unit)) (s506 : (Int × (Vec 6 (Vec 6 Nat)) × Unit)) : Option ((Int × (Vec 6 (Vec 6 Nat)) × Unit) ⊕ (((Vec 6 (Vec 6 Nat)) × Int × Unit) × Unit)) :=
  bif (iLt s506.1 6) then
    bif inB s506.1 6 then
      let x508 := iAdd .i64 s506.1 1
      bif inS 0 x508 6 then
        bif inB s506.1 6 then
          bif Nat.ble (0 + x508.toNat) 6 then
            some (Sum.inl ((iAdd .i64 s506.1 1), Vec.set 6 s506.2.1 s506.1.toNat (Vec.ofList (0 : Nat) 6 (spliceL (Vec.toList 6 (Vec.getD 6 s506.2.1 s506.1.toNat ((0, 0, 0, 0, 0, 0, ()) : (Vec 6 Nat)))) 0 (List.take x508.toNat ([Vec.getD 9 (Vec.getD 6 s425.2.1 s506.1.toNat ((0, 0, 0, 0, 0, 0, 0, 0, 0, ()) : (Vec 9 Nat))) 0 (0 : Nat), Vec.getD 9 (Vec.getD 6 s425.2.1 s506.1.toNat ((0, 0, 0, 0, 0, 0, 0, 0, 0, ()) : (Vec 9 Nat))) 1 (0 : Nat), Vec.getD 9 (Vec.getD 6 s425.2.1 s506.1.toNat ((0, 0, 0, 0, 0, 0, 0, 0, 0, ()) : (Vec 9 Nat))) 2 (0 : Nat), Vec.getD 9 (Vec.getD 6 s425.2.1 s506.1.toNat ((0, 0, 0, 0, 0, 0, 0, 0, 0, ()) : (Vec 9 Nat))) 3 (0 : Nat), Vec.getD 9 (Vec.getD 6 s425.2.1 s506.1.toNat ((0, 0, 0, 0, 0, 0, 0, 0, 0, ()) : (Vec 9 Nat))) 4 (0 : Nat), Vec.getD 9 (Vec.getD 6 s425.2.1 s506.1.toNat ((0, 0, 0, 0, 0, 0, 0, 0, 0, ()) : (Vec 9 Nat))) 5 (0 : Nat), Vec.getD 9 (Vec.getD 6 s425.2.1 s506.1.toNat ((0, 0, 0, 0, 0, 0, 0, 0, 0, ()) : (Vec 9 Nat))) 6 (0 : Nat), Vec.getD 9 (Vec.getD 6 s425.2.1 s506.1.toNat ((0, 0, 0, 0, 0, 0, 0, 0, 0, ()) : (Vec 9 Nat))) 7 (0 : Nat), Vec.getD 9 (Vec.getD 6 s425.2.1 s506.1.toNat ((0, 0, 0, 0, 0, 0, 0, 0, 0, ()) : (Vec 9 Nat))) 8 (0 : Nat)] : (List Nat))))), ()))
          else none
        else none
      else none
    else none
  else
  Option.map Sum.inr (run (impl_LowerOf_l35) ((0 : Int), s506.2.1, ()))
noncomputable def impl_LowerOf_l8 (s425 : (Int × (Vec 6 (Vec 9 Nat)) × Unit)) : Option ((Int × (Vec 6 (Vec 9 Nat)) × Unit) ⊕ (((Vec 6 (Vec 6 Nat)) × Int × Unit) × Unit)) :=
  bif (iLt s425.1 6) then
    run (impl_LowerOf_l11 s425) ((iAdd .i64 s425.1 1), s425.2.1, ())
  else
  Option.map Sum.inr (run (impl_LowerOf_l30 s425) ((0 : Int), (((0, 0, 0, 0, 0, 0, ()), (0, 0, 0, 0, 0, 0, ()), (0, 0, 0, 0, 0, 0, ()), (0, 0, 0, 0, 0, 0, ()), (0, 0, 0, 0, 0, 0, ()), (0, 0, 0, 0, 0, 0, ()), ()) : (Vec 6 (Vec 6 Nat))), ()))
noncomputable def impl_LowerOf_l2 (a0 : (Vec 6 (Vec 9 Nat))) (s344 : (Int × Unit)) : Option ((Int × Unit) ⊕ (((Vec 6 (Vec 6 Nat)) × Int × Unit) × Unit)) :=
  bif (iLt s344.1 6) then
    bif inB s344.1 6 then
      (impl_isFinite ([Vec.getD 9 (Vec.getD 6 a0 s344.1.toNat ((0, 0, 0, 0, 0, 0, 0, 0, 0, ()) : (Vec 9 Nat))) 0 (0 : Nat), Vec.getD 9 (Vec.getD 6 a0 s344.1.toNat ((0, 0, 0, 0, 0, 0, 0, 0, 0, ()) : (Vec 9 Nat))) 1 (0 : Nat), Vec.getD 9 (Vec.getD 6 a0 s344.1.toNat ((0, 0, 0, 0, 0, 0, 0, 0, 0, ()) : (Vec 9 Nat))) 2 (0 : Nat), Vec.getD 9 (Vec.getD 6 a0 s344.1.toNat ((0, 0, 0, 0, 0, 0, 0, 0, 0, ()) : (Vec 9 Nat))) 3 (0 : Nat), Vec.getD 9 (Vec.getD 6 a0 s344.1.toNat ((0, 0, 0, 0, 0, 0, 0, 0, 0, ()) : (Vec 9 Nat))) 4 (0 : Nat), Vec.getD 9 (Vec.getD 6 a0 s344.1.toNat ((0, 0, 0, 0, 0, 0, 0, 0, 0, ()) : (Vec 9 Nat))) 5 (0 : Nat), Vec.getD 9 (Vec.getD 6 a0 s344.1.toNat ((0, 0, 0, 0, 0, 0, 0, 0, 0, ()) : (Vec 9 Nat))) 6 (0 : Nat), Vec.getD 9 (Vec.getD 6 a0 s344.1.toNat ((0, 0, 0, 0, 0, 0, 0, 0, 0, ()) : (Vec 9 Nat))) 7 (0 : Nat), Vec.getD 9 (Vec.getD 6 a0 s344.1.toNat ((0, 0, 0, 0, 0, 0, 0, 0, 0, ()) : (Vec 9 Nat))) 8 (0 : Nat)] : (List Nat))).bind fun y346 =>
      bif (! y346.1.1) then
        Option.map Sum.inr (some (((((0, 0, 0, 0, 0, 0, ()), (0, 0, 0, 0, 0, 0, ()), (0, 0, 0, 0, 0, 0, ()), (0, 0, 0, 0, 0, 0, ()), (0, 0, 0, 0, 0, 0, ()), (0, 0, 0, 0, 0, 0, ()), ()) : (Vec 6 (Vec 6 Nat))), (1 : Int), ()), ()))
      else
      some (Sum.inl ((iAdd .i64 s344.1 1), ()))
    else none
  else
  Option.map Sum.inr (run (impl_LowerOf_l8) ((0 : Int), a0, ()))
noncomputable def impl_LowerOf (a0 : (Vec 6 (Vec 9 Nat))) : Option (((Vec 6 (Vec 6 Nat)) × Int × Unit) × Unit) :=
  run (impl_LowerOf_l2 a0) ((0 : Int), ())
noncomputable def impl_LowerOf_sg : Sig := ⟨[.v (.arr 6 (.arr 9 (.flt .f32)))], [.v (.val (.arr 6 (.arr 6 (.flt .f32)))), .v (.val (.int .i64))], false⟩
noncomputable def impl_LowerOf_en : Entry := ⟨impl_LowerOf_sg, fun x => impl_LowerOf x.1⟩
theorem impl_LowerOf_eq (x : impl_LowerOf_sg.dom) : body (env [(64, impl_isFinite_en), (67, impl_root_en), (263, impl_isFiniteRoot_en)]) [(2, .vary [(19, .sc (.int .i64))]), (8, .vary [(29, .sc (.int .i64)), (1, .box (.val (.arr 6 (.arr 9 (.flt .f32)))))]), (11, .vary [(6, .sc (.int .i64)), (1, .box (.val (.arr 6 (.arr 9 (.flt .f32)))))]), (21, .vary [(12, .sc (.int .i64)), (1, .box (.val (.arr 6 (.arr 9 (.flt .f32)))))]), (30, .vary [(110, .sc (.int .i64)), (15, .box (.val (.arr 6 (.arr 6 (.flt .f32)))))]), (35, .vary [(123, .sc (.int .i64)), (15, .box (.val (.arr 6 (.arr 6 (.flt .f32)))))]), (39, .vary [(18, .sc (.int .i64)), (15, .box (.val (.arr 6 (.arr 6 (.flt .f32)))))])] Tryz.f252 impl_LowerOf_sg x = impl_LowerOf x.1 := by kernel_rfl
theorem impl_LowerOf_so : Sound Tryz.prog 252 impl_LowerOf_en := sound_of_body (envS (l := [(64, impl_isFinite_en), (67, impl_root_en), (263, impl_isFiniteRoot_en)]) (⟨impl_isFinite_so, impl_root_so, impl_isFiniteRoot_so, trivial⟩)) Tryz.func252 (by kernel_rfl) rfl (fun x y h => (impl_LowerOf_eq x).trans h)

-- loop.example/g01204/impl.rooted
noncomputable def impl_rooted (a0 : (Vec 6 Nat)) (a1 : (Vec 6 (Vec 9 Nat))) : Option ((((Vec 6 Nat) × ((Vec 6 (Vec 6 Nat)) × Unit)) × Int × Unit) × Unit) :=
  (impl_LowerOf a1).bind fun y340 =>
  bif (! (iEq y340.1.2.1 0)) then
    some (((((0, 0, 0, 0, 0, 0, ()), ((0, 0, 0, 0, 0, 0, ()), (0, 0, 0, 0, 0, 0, ()), (0, 0, 0, 0, 0, 0, ()), (0, 0, 0, 0, 0, 0, ()), (0, 0, 0, 0, 0, 0, ()), (0, 0, 0, 0, 0, 0, ()), ()), ()) : ((Vec 6 Nat) × ((Vec 6 (Vec 6 Nat)) × Unit))), (4 : Int), ()), ())
  else
  (impl_isFinite ([Vec.getD 6 a0 0 (0 : Nat), Vec.getD 6 a0 1 (0 : Nat), Vec.getD 6 a0 2 (0 : Nat), Vec.getD 6 a0 3 (0 : Nat), Vec.getD 6 a0 4 (0 : Nat), Vec.getD 6 a0 5 (0 : Nat)] : (List Nat))).bind fun y342 =>
  bif (! y342.1.1) then
    some (((((0, 0, 0, 0, 0, 0, ()), ((0, 0, 0, 0, 0, 0, ()), (0, 0, 0, 0, 0, 0, ()), (0, 0, 0, 0, 0, 0, ()), (0, 0, 0, 0, 0, 0, ()), (0, 0, 0, 0, 0, 0, ()), (0, 0, 0, 0, 0, 0, ()), ()), ()) : ((Vec 6 Nat) × ((Vec 6 (Vec 6 Nat)) × Unit))), (4 : Int), ()), ())
  else some ((((a0, y340.1.1, ()) : ((Vec 6 Nat) × ((Vec 6 (Vec 6 Nat)) × Unit))), (0 : Int), ()), ())
noncomputable def impl_rooted_sg : Sig := ⟨[.v (.arr 6 (.flt .f32)), .v (.arr 6 (.arr 9 (.flt .f32)))], [.v (.val (.pair (.arr 6 (.flt .f32)) (.pair (.arr 6 (.arr 6 (.flt .f32))) (.unit)))), .v (.val (.int .i64))], false⟩
noncomputable def impl_rooted_en : Entry := ⟨impl_rooted_sg, fun x => impl_rooted x.1 x.2.1⟩
theorem impl_rooted_eq (x : impl_rooted_sg.dom) : body (env [(64, impl_isFinite_en), (252, impl_LowerOf_en)]) [] Tryz.f228 impl_rooted_sg x = impl_rooted x.1 x.2.1 := by kernel_rfl
theorem impl_rooted_so : Sound Tryz.prog 228 impl_rooted_en := sound_of_body (envS (l := [(64, impl_isFinite_en), (252, impl_LowerOf_en)]) (⟨impl_isFinite_so, impl_LowerOf_so, trivial⟩)) Tryz.func228 (by kernel_rfl) rfl (fun x y h => (impl_rooted_eq x).trans h)

-- loop.example/g01204/impl.Predict
noncomputable def impl_Predict (a0 : ((Vec 6 Nat) × ((Vec 6 (Vec 6 Nat)) × Unit))) (a1 : Nat) (a2 : (Vec 3 Nat)) : Option ((((Vec 6 Nat) × ((Vec 6 (Vec 6 Nat)) × Unit)) × Int × Unit) × Unit) :=
  (impl_ValidState a0).bind fun y205 =>
  bif (! y205.1.1) then
    some (((((0, 0, 0, 0, 0, 0, ()), ((0, 0, 0, 0, 0, 0, ()), (0, 0, 0, 0, 0, 0, ()), (0, 0, 0, 0, 0, 0, ()), (0, 0, 0, 0, 0, 0, ()), (0, 0, 0, 0, 0, 0, ()), (0, 0, 0, 0, 0, 0, ()), ()), ()) : ((Vec 6 Nat) × ((Vec 6 (Vec 6 Nat)) × Unit))), (1 : Int), ()), ())
  else
  (impl_isLeast ([a1] : (List Nat))).bind fun y207 =>
  bif (! y207.1.1) then
    some (((((0, 0, 0, 0, 0, 0, ()), ((0, 0, 0, 0, 0, 0, ()), (0, 0, 0, 0, 0, 0, ()), (0, 0, 0, 0, 0, 0, ()), (0, 0, 0, 0, 0, 0, ()), (0, 0, 0, 0, 0, 0, ()), (0, 0, 0, 0, 0, 0, ()), ()), ()) : ((Vec 6 Nat) × ((Vec 6 (Vec 6 Nat)) × Unit))), (2 : Int), ()), ())
  else
  (impl_isLeast ([Vec.getD 3 a2 0 (0 : Nat), Vec.getD 3 a2 1 (0 : Nat), Vec.getD 3 a2 2 (0 : Nat)] : (List Nat))).bind fun y209 =>
  bif (! y209.1.1) then
    some (((((0, 0, 0, 0, 0, 0, ()), ((0, 0, 0, 0, 0, 0, ()), (0, 0, 0, 0, 0, 0, ()), (0, 0, 0, 0, 0, 0, ()), (0, 0, 0, 0, 0, 0, ()), (0, 0, 0, 0, 0, 0, ()), (0, 0, 0, 0, 0, 0, ()), ()), ()) : ((Vec 6 Nat) × ((Vec 6 (Vec 6 Nat)) × Unit))), (2 : Int), ()), ())
  else
  let x214 := fAdd .f32 (Vec.getD 6 a0.1 0 (0 : Nat)) (fMul .f32 (Vec.getD 6 a0.1 3 (0 : Nat)) a1)
  (impl_root a1).bind fun y246 =>
  let x251 := fAdd .f32 (Vec.getD 6 (Vec.set 6 a0.1 0 x214) 1 (0 : Nat)) (fMul .f32 (Vec.getD 6 a0.1 4 (0 : Nat)) a1)
  (impl_root a1).bind fun y283 =>
  (impl_root a1).bind fun y320 =>
  (impl_rooted (Vec.set 6 (Vec.set 6 (Vec.set 6 a0.1 0 x214) 1 x251) 2 (fAdd .f32 (Vec.getD 6 (Vec.set 6 (Vec.set 6 a0.1 0 x214) 1 x251) 2 (0 : Nat)) (fMul .f32 (Vec.getD 6 a0.1 5 (0 : Nat)) a1))) ((((fAdd .f32 (Vec.getD 6 (Vec.getD 6 a0.2.1 0 ((0, 0, 0, 0, 0, 0, ()) : (Vec 6 Nat))) 0 (0 : Nat)) (fMul .f32 a1 (Vec.getD 6 (Vec.getD 6 a0.2.1 3 ((0, 0, 0, 0, 0, 0, ()) : (Vec 6 Nat))) 0 (0 : Nat)))), (fAdd .f32 (Vec.getD 6 (Vec.getD 6 a0.2.1 0 ((0, 0, 0, 0, 0, 0, ()) : (Vec 6 Nat))) 1 (0 : Nat)) (fMul .f32 a1 (Vec.getD 6 (Vec.getD 6 a0.2.1 3 ((0, 0, 0, 0, 0, 0, ()) : (Vec 6 Nat))) 1 (0 : Nat)))), (fAdd .f32 (Vec.getD 6 (Vec.getD 6 a0.2.1 0 ((0, 0, 0, 0, 0, 0, ()) : (Vec 6 Nat))) 2 (0 : Nat)) (fMul .f32 a1 (Vec.getD 6 (Vec.getD 6 a0.2.1 3 ((0, 0, 0, 0, 0, 0, ()) : (Vec 6 Nat))) 2 (0 : Nat)))), (fAdd .f32 (Vec.getD 6 (Vec.getD 6 a0.2.1 0 ((0, 0, 0, 0, 0, 0, ()) : (Vec 6 Nat))) 3 (0 : Nat)) (fMul .f32 a1 (Vec.getD 6 (Vec.getD 6 a0.2.1 3 ((0, 0, 0, 0, 0, 0, ()) : (Vec 6 Nat))) 3 (0 : Nat)))), (fAdd .f32 (Vec.getD 6 (Vec.getD 6 a0.2.1 0 ((0, 0, 0, 0, 0, 0, ()) : (Vec 6 Nat))) 4 (0 : Nat)) (fMul .f32 a1 (Vec.getD 6 (Vec.getD 6 a0.2.1 3 ((0, 0, 0, 0, 0, 0, ()) : (Vec 6 Nat))) 4 (0 : Nat)))), (fAdd .f32 (Vec.getD 6 (Vec.getD 6 a0.2.1 0 ((0, 0, 0, 0, 0, 0, ()) : (Vec 6 Nat))) 5 (0 : Nat)) (fMul .f32 a1 (Vec.getD 6 (Vec.getD 6 a0.2.1 3 ((0, 0, 0, 0, 0, 0, ()) : (Vec 6 Nat))) 5 (0 : Nat)))), 0, 0, 0, ()), ((fAdd .f32 (Vec.getD 6 (Vec.getD 6 a0.2.1 1 ((0, 0, 0, 0, 0, 0, ()) : (Vec 6 Nat))) 0 (0 : Nat)) (fMul .f32 a1 (Vec.getD 6 (Vec.getD 6 a0.2.1 4 ((0, 0, 0, 0, 0, 0, ()) : (Vec 6 Nat))) 0 (0 : Nat)))), (fAdd .f32 (Vec.getD 6 (Vec.getD 6 a0.2.1 1 ((0, 0, 0, 0, 0, 0, ()) : (Vec 6 Nat))) 1 (0 : Nat)) (fMul .f32 a1 (Vec.getD 6 (Vec.getD 6 a0.2.1 4 ((0, 0, 0, 0, 0, 0, ()) : (Vec 6 Nat))) 1 (0 : Nat)))), (fAdd .f32 (Vec.getD 6 (Vec.getD 6 a0.2.1 1 ((0, 0, 0, 0, 0, 0, ()) : (Vec 6 Nat))) 2 (0 : Nat)) (fMul .f32 a1 (Vec.getD 6 (Vec.getD 6 a0.2.1 4 ((0, 0, 0, 0, 0, 0, ()) : (Vec 6 Nat))) 2 (0 : Nat)))), (fAdd .f32 (Vec.getD 6 (Vec.getD 6 a0.2.1 1 ((0, 0, 0, 0, 0, 0, ()) : (Vec 6 Nat))) 3 (0 : Nat)) (fMul .f32 a1 (Vec.getD 6 (Vec.getD 6 a0.2.1 4 ((0, 0, 0, 0, 0, 0, ()) : (Vec 6 Nat))) 3 (0 : Nat)))), (fAdd .f32 (Vec.getD 6 (Vec.getD 6 a0.2.1 1 ((0, 0, 0, 0, 0, 0, ()) : (Vec 6 Nat))) 4 (0 : Nat)) (fMul .f32 a1 (Vec.getD 6 (Vec.getD 6 a0.2.1 4 ((0, 0, 0, 0, 0, 0, ()) : (Vec 6 Nat))) 4 (0 : Nat)))), (fAdd .f32 (Vec.getD 6 (Vec.getD 6 a0.2.1 1 ((0, 0, 0, 0, 0, 0, ()) : (Vec 6 Nat))) 5 (0 : Nat)) (fMul .f32 a1 (Vec.getD 6 (Vec.getD 6 a0.2.1 4 ((0, 0, 0, 0, 0, 0, ()) : (Vec 6 Nat))) 5 (0 : Nat)))), 0, 0, 0, ()), ((fAdd .f32 (Vec.getD 6 (Vec.getD 6 a0.2.1 2 ((0, 0, 0, 0, 0, 0, ()) : (Vec 6 Nat))) 0 (0 : Nat)) (fMul .f32 a1 (Vec.getD 6 (Vec.getD 6 a0.2.1 5 ((0, 0, 0, 0, 0, 0, ()) : (Vec 6 Nat))) 0 (0 : Nat)))), (fAdd .f32 (Vec.getD 6 (Vec.getD 6 a0.2.1 2 ((0, 0, 0, 0, 0, 0, ()) : (Vec 6 Nat))) 1 (0 : Nat)) (fMul .f32 a1 (Vec.getD 6 (Vec.getD 6 a0.2.1 5 ((0, 0, 0, 0, 0, 0, ()) : (Vec 6 Nat))) 1 (0 : Nat)))), (fAdd .f32 (Vec.getD 6 (Vec.getD 6 a0.2.1 2 ((0, 0, 0, 0, 0, 0, ()) : (Vec 6 Nat))) 2 (0 : Nat)) (fMul .f32 a1 (Vec.getD 6 (Vec.getD 6 a0.2.1 5 ((0, 0, 0, 0, 0, 0, ()) : (Vec 6 Nat))) 2 (0 : Nat)))), (fAdd .f32 (Vec.getD 6 (Vec.getD 6 a0.2.1 2 ((0, 0, 0, 0, 0, 0, ()) : (Vec 6 Nat))) 3 (0 : Nat)) (fMul .f32 a1 (Vec.getD 6 (Vec.getD 6 a0.2.1 5 ((0, 0, 0, 0, 0, 0, ()) : (Vec 6 Nat))) 3 (0 : Nat)))), (fAdd .f32 (Vec.getD 6 (Vec.getD 6 a0.2.1 2 ((0, 0, 0, 0, 0, 0, ()) : (Vec 6 Nat))) 4 (0 : Nat)) (fMul .f32 a1 (Vec.getD 6 (Vec.getD 6 a0.2.1 5 ((0, 0, 0, 0, 0, 0, ()) : (Vec 6 Nat))) 4 (0 : Nat)))), (fAdd .f32 (Vec.getD 6 (Vec.getD 6 a0.2.1 2 ((0, 0, 0, 0, 0, 0, ()) : (Vec 6 Nat))) 5 (0 : Nat)) (fMul .f32 a1 (Vec.getD 6 (Vec.getD 6 a0.2.1 5 ((0, 0, 0, 0, 0, 0, ()) : (Vec 6 Nat))) 5 (0 : Nat)))), 0, 0, 0, ()), ((Vec.getD 6 (Vec.getD 6 a0.2.1 3 ((0, 0, 0, 0, 0, 0, ()) : (Vec 6 Nat))) 0 (0 : Nat)), (Vec.getD 6 (Vec.getD 6 a0.2.1 3 ((0, 0, 0, 0, 0, 0, ()) : (Vec 6 Nat))) 1 (0 : Nat)), (Vec.getD 6 (Vec.getD 6 a0.2.1 3 ((0, 0, 0, 0, 0, 0, ()) : (Vec 6 Nat))) 2 (0 : Nat)), (Vec.getD 6 (Vec.getD 6 a0.2.1 3 ((0, 0, 0, 0, 0, 0, ()) : (Vec 6 Nat))) 3 (0 : Nat)), (Vec.getD 6 (Vec.getD 6 a0.2.1 3 ((0, 0, 0, 0, 0, 0, ()) : (Vec 6 Nat))) 4 (0 : Nat)), (Vec.getD 6 (Vec.getD 6 a0.2.1 3 ((0, 0, 0, 0, 0, 0, ()) : (Vec 6 Nat))) 5 (0 : Nat)), (fMul .f32 (Vec.getD 3 a2 0 (0 : Nat)) y246.1.1), 0, 0, ()), ((Vec.getD 6 (Vec.getD 6 a0.2.1 4 ((0, 0, 0, 0, 0, 0, ()) : (Vec 6 Nat))) 0 (0 : Nat)), (Vec.getD 6 (Vec.getD 6 a0.2.1 4 ((0, 0, 0, 0, 0, 0, ()) : (Vec 6 Nat))) 1 (0 : Nat)), (Vec.getD 6 (Vec.getD 6 a0.2.1 4 ((0, 0, 0, 0, 0, 0, ()) : (Vec 6 Nat))) 2 (0 : Nat)), (Vec.getD 6 (Vec.getD 6 a0.2.1 4 ((0, 0, 0, 0, 0, 0, ()) : (Vec 6 Nat))) 3 (0 : Nat)), (Vec.getD 6 (Vec.getD 6 a0.2.1 4 ((0, 0, 0, 0, 0, 0, ()) : (Vec 6 Nat))) 4 (0 : Nat)), (Vec.getD 6 (Vec.getD 6 a0.2.1 4 ((0, 0, 0, 0, 0, 0, ()) : (Vec 6 Nat))) 5 (0 : Nat)), 0, (fMul .f32 (Vec.getD 3 a2 1 (0 : Nat)) y283.1.1), 0, ()), ((Vec.getD 6 (Vec.getD 6 a0.2.1 5 ((0, 0, 0, 0, 0, 0, ()) : (Vec 6 Nat))) 0 (0 : Nat)), (Vec.getD 6 (Vec.getD 6 a0.2.1 5 ((0, 0, 0, 0, 0, 0, ()) : (Vec 6 Nat))) 1 (0 : Nat)), (Vec.getD 6 (Vec.getD 6 a0.2.1 5 ((0, 0, 0, 0, 0, 0, ()) : (Vec 6 Nat))) 2 (0 : Nat)), (Vec.getD 6 (Vec.getD 6 a0.2.1 5 ((0, 0, 0, 0, 0, 0, ()) : (Vec 6 Nat))) 3 (0 : Nat)), (Vec.getD 6 (Vec.getD 6 a0.2.1 5 ((0, 0, 0, 0, 0, 0, ()) : (Vec 6 Nat))) 4 (0 : Nat)), (Vec.getD 6 (Vec.getD 6 a0.2.1 5 ((0, 0, 0, 0, 0, 0, ()) : (Vec 6 Nat))) 5 (0 : Nat)), 0, 0, (fMul .f32 (Vec.getD 3 a2 2 (0 : Nat)) y320.1.1), ()), ()) : (Vec 6 (Vec 9 Nat)))).bind fun y323 =>
  some ((y323.1.1, y323.1.2.1, ()), ())
noncomputable def impl_Predict_sg : Sig := ⟨[.v (.pair (.arr 6 (.flt .f32)) (.pair (.arr 6 (.arr 6 (.flt .f32))) (.unit))), .v (.flt .f32), .v (.arr 3 (.flt .f32))], [.v (.val (.pair (.arr 6 (.flt .f32)) (.pair (.arr 6 (.arr 6 (.flt .f32))) (.unit)))), .v (.val (.int .i64))], false⟩
noncomputable def impl_Predict_en : Entry := ⟨impl_Predict_sg, fun x => impl_Predict x.1 x.2.1 x.2.2.1⟩
theorem impl_Predict_eq (x : impl_Predict_sg.dom) : body (env [(67, impl_root_en), (69, impl_isLeast_en), (101, impl_ValidState_en), (228, impl_rooted_en)]) [(8, .unroll 4), (12, .unroll 7)] Tryz.f173 impl_Predict_sg x = impl_Predict x.1 x.2.1 x.2.2.1 := by kernel_rfl
theorem impl_Predict_so : Sound Tryz.prog 173 impl_Predict_en := sound_of_body (envS (l := [(67, impl_root_en), (69, impl_isLeast_en), (101, impl_ValidState_en), (228, impl_rooted_en)]) (⟨impl_root_so, impl_isLeast_so, impl_ValidState_so, impl_rooted_so, trivial⟩)) Tryz.func173 (by kernel_rfl) rfl (fun x y h => (impl_Predict_eq x).trans h)

-- loop.example/g01204/impl.sumOf
noncomputable def impl_sumOf_l3 (a0 : (List Nat)) (a1 : (List Nat)) (s574 : (Nat × Int × Unit)) : Option ((Nat × Int × Unit) ⊕ ((Nat × Unit) × Unit)) :=
  bif (iLt s574.2.1 (lenI a0)) then
    bif inB s574.2.1 (List.length a0) then
      bif inB s574.2.1 (List.length a1) then
        let x578 := fMul .f32 (List.getD a0 s574.2.1.toNat (0 : Nat)) (List.getD a1 s574.2.1.toNat (0 : Nat))
        bif (iEq s574.2.1 0) then
          some (Sum.inl (x578, (iAdd .i64 s574.2.1 1), ()))
        else
        some (Sum.inl ((fAdd .f32 s574.1 x578), (iAdd .i64 s574.2.1 1), ()))
      else none
    else none
  else
  Option.map Sum.inr (some ((s574.1, ()), ()))
noncomputable def impl_sumOf (a0 : (List Nat)) (a1 : (List Nat)) : Option ((Nat × Unit) × Unit) :=
  run (impl_sumOf_l3 a0 a1) ((0 : Nat), (0 : Int), ())
noncomputable def impl_sumOf_sg : Sig := ⟨[.v (.list (.flt .f32)), .v (.list (.flt .f32))], [.v (.val (.flt .f32))], false⟩
noncomputable def impl_sumOf_en : Entry := ⟨impl_sumOf_sg, fun x => impl_sumOf x.1 x.2.1⟩
theorem impl_sumOf_eq (x : impl_sumOf_sg.dom) : body (env []) [(3, .vary [(5, .sc (.flt .f32)), (10, .sc (.int .i64))])] Tryz.f155 impl_sumOf_sg x = impl_sumOf x.1 x.2.1 := by kernel_rfl
theorem impl_sumOf_so : Sound Tryz.prog 155 impl_sumOf_en := sound_of_body (envS (l := []) (trivial)) Tryz.func155 (by kernel_rfl) rfl (fun x y h => (impl_sumOf_eq x).trans h)

-- (*loop.example/g01204/impl.Clue).seen
noncomputable def impl_Clue_seen (a0 : ((Vec 6 Nat) × (Nat × (Nat × Unit)))) (a1 : (Vec 6 Nat)) : Option ((Nat × Unit) × Unit) :=
  (impl_sumOf ([Vec.getD 6 a0.1 0 (0 : Nat), Vec.getD 6 a0.1 1 (0 : Nat), Vec.getD 6 a0.1 2 (0 : Nat), Vec.getD 6 a0.1 3 (0 : Nat), Vec.getD 6 a0.1 4 (0 : Nat), Vec.getD 6 a0.1 5 (0 : Nat)] : (List Nat)) ([Vec.getD 6 a1 0 (0 : Nat), Vec.getD 6 a1 1 (0 : Nat), Vec.getD 6 a1 2 (0 : Nat), Vec.getD 6 a1 3 (0 : Nat), Vec.getD 6 a1 4 (0 : Nat), Vec.getD 6 a1 5 (0 : Nat)] : (List Nat))).bind fun y573 =>
  some ((y573.1.1, ()), ())
noncomputable def impl_Clue_seen_sg : Sig := ⟨[.ro (.pair (.arr 6 (.flt .f32)) (.pair (.flt .f32) (.pair (.flt .f32) (.unit)))), .v (.arr 6 (.flt .f32))], [.v (.val (.flt .f32))], false⟩
noncomputable def impl_Clue_seen_en : Entry := ⟨impl_Clue_seen_sg, fun x => impl_Clue_seen x.1 x.2.1⟩
theorem impl_Clue_seen_eq (x : impl_Clue_seen_sg.dom) : body (env [(155, impl_sumOf_en)]) [] Tryz.f236 impl_Clue_seen_sg x = impl_Clue_seen x.1 x.2.1 := by kernel_rfl
theorem impl_Clue_seen_so : Sound Tryz.prog 236 impl_Clue_seen_en := sound_of_body (envS (l := [(155, impl_sumOf_en)]) (⟨impl_sumOf_so, trivial⟩)) Tryz.func236 (by kernel_rfl) rfl (fun x y h => (impl_Clue_seen_eq x).trans h)

-- loop.example/g01204/impl.DotVec
noncomputable def impl_DotVec (a0 : (Vec 3 Nat)) (a1 : (Vec 3 Nat)) : Option ((Nat × Unit) × Unit) :=
  (impl_sumOf ([Vec.getD 3 a0 0 (0 : Nat), Vec.getD 3 a0 1 (0 : Nat), Vec.getD 3 a0 2 (0 : Nat)] : (List Nat)) ([Vec.getD 3 a1 0 (0 : Nat), Vec.getD 3 a1 1 (0 : Nat), Vec.getD 3 a1 2 (0 : Nat)] : (List Nat))).bind fun y585 =>
  some ((y585.1.1, ()), ())
noncomputable def impl_DotVec_sg : Sig := ⟨[.v (.arr 3 (.flt .f32)), .v (.arr 3 (.flt .f32))], [.v (.val (.flt .f32))], false⟩
noncomputable def impl_DotVec_en : Entry := ⟨impl_DotVec_sg, fun x => impl_DotVec x.1 x.2.1⟩
theorem impl_DotVec_eq (x : impl_DotVec_sg.dom) : body (env [(155, impl_sumOf_en)]) [] Tryz.f83 impl_DotVec_sg x = impl_DotVec x.1 x.2.1 := by kernel_rfl
theorem impl_DotVec_so : Sound Tryz.prog 83 impl_DotVec_en := sound_of_body (envS (l := [(155, impl_sumOf_en)]) (⟨impl_sumOf_so, trivial⟩)) Tryz.func83 (by kernel_rfl) rfl (fun x y h => (impl_DotVec_eq x).trans h)

-- loop.example/g01204/impl.LengthOf
noncomputable def impl_LengthOf (a0 : (Vec 3 Nat)) : Option ((Nat × Unit) × Unit) :=
  (impl_DotVec a0 a0).bind fun y583 =>
  (impl_root y583.1.1).bind fun y584 =>
  some ((y584.1.1, ()), ())
noncomputable def impl_LengthOf_sg : Sig := ⟨[.v (.arr 3 (.flt .f32))], [.v (.val (.flt .f32))], false⟩
noncomputable def impl_LengthOf_en : Entry := ⟨impl_LengthOf_sg, fun x => impl_LengthOf x.1⟩
theorem impl_LengthOf_eq (x : impl_LengthOf_sg.dom) : body (env [(67, impl_root_en), (83, impl_DotVec_en)]) [] Tryz.f24 impl_LengthOf_sg x = impl_LengthOf x.1 := by kernel_rfl
theorem impl_LengthOf_so : Sound Tryz.prog 24 impl_LengthOf_en := sound_of_body (envS (l := [(67, impl_root_en), (83, impl_DotVec_en)]) (⟨impl_root_so, impl_DotVec_so, trivial⟩)) Tryz.func24 (by kernel_rfl) rfl (fun x y h => (impl_LengthOf_eq x).trans h)

-- loop.example/g01204/impl.PositionOf
noncomputable def impl_PositionOf (a0 : ((Vec 6 Nat) × ((Vec 6 (Vec 6 Nat)) × Unit))) : Option (((Vec 3 Nat) × Unit) × Unit) :=
  some ((((Vec.getD 6 a0.1 0 (0 : Nat), Vec.getD 6 a0.1 1 (0 : Nat), Vec.getD 6 a0.1 2 (0 : Nat), ()) : (Vec 3 Nat)), ()), ())
noncomputable def impl_PositionOf_sg : Sig := ⟨[.v (.pair (.arr 6 (.flt .f32)) (.pair (.arr 6 (.arr 6 (.flt .f32))) (.unit)))], [.v (.val (.arr 3 (.flt .f32)))], false⟩
noncomputable def impl_PositionOf_en : Entry := ⟨impl_PositionOf_sg, fun x => impl_PositionOf x.1⟩
theorem impl_PositionOf_eq (x : impl_PositionOf_sg.dom) : body (env []) [] Tryz.f129 impl_PositionOf_sg x = impl_PositionOf x.1 := by kernel_rfl
theorem impl_PositionOf_so : Sound Tryz.prog 129 impl_PositionOf_en := sound_of_body (envS (l := []) (trivial)) Tryz.func129 (by kernel_rfl) rfl (fun x y h => (impl_PositionOf_eq x).trans h)

-- loop.example/g01204/impl.SubVec
noncomputable def impl_SubVec (a0 : (Vec 3 Nat)) (a1 : (Vec 3 Nat)) : Option (((Vec 3 Nat) × Unit) × Unit) :=
  let x588 := fSub .f32 (Vec.getD 3 a0 0 (0 : Nat)) (Vec.getD 3 a1 0 (0 : Nat))
  let x591 := fSub .f32 (Vec.getD 3 (Vec.set 3 a0 0 x588) 1 (0 : Nat)) (Vec.getD 3 a1 1 (0 : Nat))
  some (((Vec.set 3 (Vec.set 3 (Vec.set 3 a0 0 x588) 1 x591) 2 (fSub .f32 (Vec.getD 3 (Vec.set 3 (Vec.set 3 a0 0 x588) 1 x591) 2 (0 : Nat)) (Vec.getD 3 a1 2 (0 : Nat)))), ()), ())
noncomputable def impl_SubVec_sg : Sig := ⟨[.v (.arr 3 (.flt .f32)), .v (.arr 3 (.flt .f32))], [.v (.val (.arr 3 (.flt .f32)))], false⟩
noncomputable def impl_SubVec_en : Entry := ⟨impl_SubVec_sg, fun x => impl_SubVec x.1 x.2.1⟩
theorem impl_SubVec_eq (x : impl_SubVec_sg.dom) : body (env []) [(2, .unroll 4)] Tryz.f128 impl_SubVec_sg x = impl_SubVec x.1 x.2.1 := by kernel_rfl
theorem impl_SubVec_so : Sound Tryz.prog 128 impl_SubVec_en := sound_of_body (envS (l := []) (trivial)) Tryz.func128 (by kernel_rfl) rfl (fun x y h => (impl_SubVec_eq x).trans h)

-- loop.example/g01204/impl.UnitOf
noncomputable def impl_UnitOf (a0 : (Vec 3 Nat)) : Option (((Vec 3 Nat) × Int × Unit) × Unit) :=
  (impl_LengthOf a0).bind fun y596 =>
  bif (fEq .f32 y596.1.1 0) then some ((((0, 0, 0, ()) : (Vec 3 Nat)), (4 : Int), ()), ()) else
  (impl_isFinite ([y596.1.1] : (List Nat))).bind fun y598 =>
  bif (! y598.1.1) then some ((((0, 0, 0, ()) : (Vec 3 Nat)), (4 : Int), ()), ()) else
  let x601 := fDiv .f32 (Vec.getD 3 a0 0 (0 : Nat)) y596.1.1
  let x603 := fDiv .f32 (Vec.getD 3 (Vec.set 3 a0 0 x601) 1 (0 : Nat)) y596.1.1
  some (((Vec.set 3 (Vec.set 3 (Vec.set 3 a0 0 x601) 1 x603) 2 (fDiv .f32 (Vec.getD 3 (Vec.set 3 (Vec.set 3 a0 0 x601) 1 x603) 2 (0 : Nat)) y596.1.1)), (0 : Int), ()), ())
noncomputable def impl_UnitOf_sg : Sig := ⟨[.v (.arr 3 (.flt .f32))], [.v (.val (.arr 3 (.flt .f32))), .v (.val (.int .i64))], false⟩
noncomputable def impl_UnitOf_en : Entry := ⟨impl_UnitOf_sg, fun x => impl_UnitOf x.1⟩
theorem impl_UnitOf_eq (x : impl_UnitOf_sg.dom) : body (env [(24, impl_LengthOf_en), (64, impl_isFinite_en)]) [(5, .unroll 4)] Tryz.f235 impl_UnitOf_sg x = impl_UnitOf x.1 := by kernel_rfl
theorem impl_UnitOf_so : Sound Tryz.prog 235 impl_UnitOf_en := sound_of_body (envS (l := [(24, impl_LengthOf_en), (64, impl_isFinite_en)]) (⟨impl_LengthOf_so, impl_isFinite_so, trivial⟩)) Tryz.func235 (by kernel_rfl) rfl (fun x y h => (impl_UnitOf_eq x).trans h)

-- loop.example/g01204/impl.ValidClue
noncomputable def impl_ValidClue (a0 : ((Vec 6 Nat) × (Nat × (Nat × Unit)))) : Option ((Bool × Unit) × Unit) :=
  (impl_isFinite ([Vec.getD 6 a0.1 0 (0 : Nat), Vec.getD 6 a0.1 1 (0 : Nat), Vec.getD 6 a0.1 2 (0 : Nat), Vec.getD 6 a0.1 3 (0 : Nat), Vec.getD 6 a0.1 4 (0 : Nat), Vec.getD 6 a0.1 5 (0 : Nat)] : (List Nat))).bind fun y609 =>
  bif y609.1.1 then
    (impl_isFinite ([a0.2.1, a0.2.2.1] : (List Nat))).bind fun y610 =>
    bif y610.1.1 then
      some (((fLt .f32 0 a0.2.2.1), ()), ())
    else some ((false, ()), ())
  else some ((false, ()), ())
noncomputable def impl_ValidClue_sg : Sig := ⟨[.v (.pair (.arr 6 (.flt .f32)) (.pair (.flt .f32) (.pair (.flt .f32) (.unit))))], [.v (.val (.bool))], false⟩
noncomputable def impl_ValidClue_en : Entry := ⟨impl_ValidClue_sg, fun x => impl_ValidClue x.1⟩
theorem impl_ValidClue_eq (x : impl_ValidClue_sg.dom) : body (env [(64, impl_isFinite_en)]) [] Tryz.f232 impl_ValidClue_sg x = impl_ValidClue x.1 := by kernel_rfl
theorem impl_ValidClue_so : Sound Tryz.prog 232 impl_ValidClue_en := sound_of_body (envS (l := [(64, impl_isFinite_en)]) (⟨impl_isFinite_so, trivial⟩)) Tryz.func232 (by kernel_rfl) rfl (fun x y h => (impl_ValidClue_eq x).trans h)

-- loop.example/g01204/impl.clueOr
noncomputable def impl_clueOr (a0 : ((Vec 6 Nat) × (Nat × (Nat × Unit)))) : Option ((((Vec 6 Nat) × (Nat × (Nat × Unit))) × Int × Unit) × Unit) :=
  (impl_ValidClue a0).bind fun y607 =>
  bif (! y607.1.1) then some (((((0, 0, 0, 0, 0, 0, ()), 0, 0, ()) : ((Vec 6 Nat) × (Nat × (Nat × Unit)))), (1 : Int), ()), ()) else some ((a0, (0 : Int), ()), ())
noncomputable def impl_clueOr_sg : Sig := ⟨[.v (.pair (.arr 6 (.flt .f32)) (.pair (.flt .f32) (.pair (.flt .f32) (.unit))))], [.v (.val (.pair (.arr 6 (.flt .f32)) (.pair (.flt .f32) (.pair (.flt .f32) (.unit))))), .v (.val (.int .i64))], false⟩
noncomputable def impl_clueOr_en : Entry := ⟨impl_clueOr_sg, fun x => impl_clueOr x.1⟩
theorem impl_clueOr_eq (x : impl_clueOr_sg.dom) : body (env [(232, impl_ValidClue_en)]) [] Tryz.f237 impl_clueOr_sg x = impl_clueOr x.1 := by kernel_rfl
theorem impl_clueOr_so : Sound Tryz.prog 237 impl_clueOr_en := sound_of_body (envS (l := [(232, impl_ValidClue_en)]) (⟨impl_ValidClue_so, trivial⟩)) Tryz.func237 (by kernel_rfl) rfl (fun x y h => (impl_clueOr_eq x).trans h)

-- loop.example/g01204/impl.RangeClue
noncomputable def impl_RangeClue (a0 : ((Vec 6 Nat) × ((Vec 6 (Vec 6 Nat)) × Unit))) (a1 : (Vec 3 Nat)) (a2 : Nat) (a3 : Nat) : Option ((((Vec 6 Nat) × (Nat × (Nat × Unit))) × Int × Unit) × Unit) :=
  (impl_ValidState a0).bind fun y559 =>
  bif (! y559.1.1) then some (((((0, 0, 0, 0, 0, 0, ()), 0, 0, ()) : ((Vec 6 Nat) × (Nat × (Nat × Unit)))), (1 : Int), ()), ()) else
  (impl_PositionOf a0).bind fun y561 =>
  (impl_SubVec y561.1.1 a1).bind fun y562 =>
  (impl_UnitOf y562.1.1).bind fun y563 =>
  bif (! (iEq y563.1.2.1 0)) then some (((((0, 0, 0, 0, 0, 0, ()), 0, 0, ()) : ((Vec 6 Nat) × (Nat × (Nat × Unit)))), y563.1.2.1, ()), ()) else
  let x565 := Vec.getD 3 y563.1.1 0 (0 : Nat)
  let x566 := Vec.getD 3 y563.1.1 1 (0 : Nat)
  let x567 := Vec.getD 3 y563.1.1 2 (0 : Nat)
  (impl_LengthOf y562.1.1).bind fun y568 =>
  (impl_Clue_seen (((x565, x566, x567, 0, 0, 0, ()), 0, a3, ()) : ((Vec 6 Nat) × (Nat × (Nat × Unit)))) a0.1).bind fun y570 =>
  (impl_clueOr (((x565, x566, x567, 0, 0, 0, ()), (fAdd .f32 (fSub .f32 a2 y568.1.1) y570.1.1), a3, ()) : ((Vec 6 Nat) × (Nat × (Nat × Unit))))).bind fun y572 =>
  some ((y572.1.1, y572.1.2.1, ()), ())
noncomputable def impl_RangeClue_sg : Sig := ⟨[.v (.pair (.arr 6 (.flt .f32)) (.pair (.arr 6 (.arr 6 (.flt .f32))) (.unit))), .v (.arr 3 (.flt .f32)), .v (.flt .f32), .v (.flt .f32)], [.v (.val (.pair (.arr 6 (.flt .f32)) (.pair (.flt .f32) (.pair (.flt .f32) (.unit))))), .v (.val (.int .i64))], false⟩
noncomputable def impl_RangeClue_en : Entry := ⟨impl_RangeClue_sg, fun x => impl_RangeClue x.1 x.2.1 x.2.2.1 x.2.2.2.1⟩
theorem impl_RangeClue_eq (x : impl_RangeClue_sg.dom) : body (env [(24, impl_LengthOf_en), (101, impl_ValidState_en), (128, impl_SubVec_en), (129, impl_PositionOf_en), (235, impl_UnitOf_en), (236, impl_Clue_seen_en), (237, impl_clueOr_en)]) [] Tryz.f179 impl_RangeClue_sg x = impl_RangeClue x.1 x.2.1 x.2.2.1 x.2.2.2.1 := by kernel_rfl
theorem impl_RangeClue_so : Sound Tryz.prog 179 impl_RangeClue_en := sound_of_body (envS (l := [(24, impl_LengthOf_en), (101, impl_ValidState_en), (128, impl_SubVec_en), (129, impl_PositionOf_en), (235, impl_UnitOf_en), (236, impl_Clue_seen_en), (237, impl_clueOr_en)]) (⟨impl_LengthOf_so, impl_ValidState_so, impl_SubVec_so, impl_PositionOf_so, impl_UnitOf_so, impl_Clue_seen_so, impl_clueOr_so, trivial⟩)) Tryz.func179 (by kernel_rfl) rfl (fun x y h => (impl_RangeClue_eq x).trans h)

-- loop.example/g01204/impl.shares
noncomputable def impl_shares (a0 : ((Vec 6 Nat) × ((Vec 6 (Vec 6 Nat)) × Unit))) (a1 : ((Vec 6 Nat) × (Nat × (Nat × Unit)))) : Option (((Vec 6 Nat) × Nat × Nat × Unit) × Unit) :=
  (impl_sumOf ([(Vec.getD 6 (Vec.getD 6 a0.2.1 0 ((0, 0, 0, 0, 0, 0, ()) : (Vec 6 Nat))) 0 (0 : Nat)), (Vec.getD 6 (Vec.getD 6 a0.2.1 1 ((0, 0, 0, 0, 0, 0, ()) : (Vec 6 Nat))) 0 (0 : Nat)), (Vec.getD 6 (Vec.getD 6 a0.2.1 2 ((0, 0, 0, 0, 0, 0, ()) : (Vec 6 Nat))) 0 (0 : Nat)), (Vec.getD 6 (Vec.getD 6 a0.2.1 3 ((0, 0, 0, 0, 0, 0, ()) : (Vec 6 Nat))) 0 (0 : Nat)), (Vec.getD 6 (Vec.getD 6 a0.2.1 4 ((0, 0, 0, 0, 0, 0, ()) : (Vec 6 Nat))) 0 (0 : Nat)), (Vec.getD 6 (Vec.getD 6 a0.2.1 5 ((0, 0, 0, 0, 0, 0, ()) : (Vec 6 Nat))) 0 (0 : Nat))] : (List Nat)) ([Vec.getD 6 a1.1 0 (0 : Nat), Vec.getD 6 a1.1 1 (0 : Nat), Vec.getD 6 a1.1 2 (0 : Nat), Vec.getD 6 a1.1 3 (0 : Nat), Vec.getD 6 a1.1 4 (0 : Nat), Vec.getD 6 a1.1 5 (0 : Nat)] : (List Nat))).bind fun y853 =>
  (impl_sumOf ([(Vec.getD 6 (Vec.getD 6 a0.2.1 1 ((0, 0, 0, 0, 0, 0, ()) : (Vec 6 Nat))) 1 (0 : Nat)), (Vec.getD 6 (Vec.getD 6 a0.2.1 2 ((0, 0, 0, 0, 0, 0, ()) : (Vec 6 Nat))) 1 (0 : Nat)), (Vec.getD 6 (Vec.getD 6 a0.2.1 3 ((0, 0, 0, 0, 0, 0, ()) : (Vec 6 Nat))) 1 (0 : Nat)), (Vec.getD 6 (Vec.getD 6 a0.2.1 4 ((0, 0, 0, 0, 0, 0, ()) : (Vec 6 Nat))) 1 (0 : Nat)), (Vec.getD 6 (Vec.getD 6 a0.2.1 5 ((0, 0, 0, 0, 0, 0, ()) : (Vec 6 Nat))) 1 (0 : Nat))] : (List Nat)) ([Vec.getD 6 a1.1 1 (0 : Nat), Vec.getD 6 a1.1 2 (0 : Nat), Vec.getD 6 a1.1 3 (0 : Nat), Vec.getD 6 a1.1 4 (0 : Nat), Vec.getD 6 a1.1 5 (0 : Nat)] : (List Nat))).bind fun y859 =>
  (impl_sumOf ([(Vec.getD 6 (Vec.getD 6 a0.2.1 2 ((0, 0, 0, 0, 0, 0, ()) : (Vec 6 Nat))) 2 (0 : Nat)), (Vec.getD 6 (Vec.getD 6 a0.2.1 3 ((0, 0, 0, 0, 0, 0, ()) : (Vec 6 Nat))) 2 (0 : Nat)), (Vec.getD 6 (Vec.getD 6 a0.2.1 4 ((0, 0, 0, 0, 0, 0, ()) : (Vec 6 Nat))) 2 (0 : Nat)), (Vec.getD 6 (Vec.getD 6 a0.2.1 5 ((0, 0, 0, 0, 0, 0, ()) : (Vec 6 Nat))) 2 (0 : Nat))] : (List Nat)) ([Vec.getD 6 a1.1 2 (0 : Nat), Vec.getD 6 a1.1 3 (0 : Nat), Vec.getD 6 a1.1 4 (0 : Nat), Vec.getD 6 a1.1 5 (0 : Nat)] : (List Nat))).bind fun y864 =>
  (impl_sumOf ([(Vec.getD 6 (Vec.getD 6 a0.2.1 3 ((0, 0, 0, 0, 0, 0, ()) : (Vec 6 Nat))) 3 (0 : Nat)), (Vec.getD 6 (Vec.getD 6 a0.2.1 4 ((0, 0, 0, 0, 0, 0, ()) : (Vec 6 Nat))) 3 (0 : Nat)), (Vec.getD 6 (Vec.getD 6 a0.2.1 5 ((0, 0, 0, 0, 0, 0, ()) : (Vec 6 Nat))) 3 (0 : Nat))] : (List Nat)) ([Vec.getD 6 a1.1 3 (0 : Nat), Vec.getD 6 a1.1 4 (0 : Nat), Vec.getD 6 a1.1 5 (0 : Nat)] : (List Nat))).bind fun y868 =>
  (impl_sumOf ([(Vec.getD 6 (Vec.getD 6 a0.2.1 4 ((0, 0, 0, 0, 0, 0, ()) : (Vec 6 Nat))) 4 (0 : Nat)), (Vec.getD 6 (Vec.getD 6 a0.2.1 5 ((0, 0, 0, 0, 0, 0, ()) : (Vec 6 Nat))) 4 (0 : Nat))] : (List Nat)) ([Vec.getD 6 a1.1 4 (0 : Nat), Vec.getD 6 a1.1 5 (0 : Nat)] : (List Nat))).bind fun y871 =>
  (impl_sumOf ([(Vec.getD 6 (Vec.getD 6 a0.2.1 5 ((0, 0, 0, 0, 0, 0, ()) : (Vec 6 Nat))) 5 (0 : Nat))] : (List Nat)) ([Vec.getD 6 a1.1 5 (0 : Nat)] : (List Nat))).bind fun y873 =>
  (impl_Clue_seen a1 a0.1).bind fun y874 =>
  (impl_sumOf ([y853.1.1, y859.1.1, y864.1.1, y868.1.1, y871.1.1, y873.1.1] : (List Nat)) ([y853.1.1, y859.1.1, y864.1.1, y868.1.1, y871.1.1, y873.1.1] : (List Nat))).bind fun y876 =>
  some ((((y853.1.1, y859.1.1, y864.1.1, y868.1.1, y871.1.1, y873.1.1, ()) : (Vec 6 Nat)), (fSub .f32 a1.2.1 y874.1.1), (fAdd .f32 y876.1.1 (fMul .f32 a1.2.2.1 a1.2.2.1)), ()), ())
noncomputable def impl_shares_sg : Sig := ⟨[.ro (.pair (.arr 6 (.flt .f32)) (.pair (.arr 6 (.arr 6 (.flt .f32))) (.unit))), .ro (.pair (.arr 6 (.flt .f32)) (.pair (.flt .f32) (.pair (.flt .f32) (.unit))))], [.v (.val (.arr 6 (.flt .f32))), .v (.val (.flt .f32)), .v (.val (.flt .f32))], false⟩
noncomputable def impl_shares_en : Entry := ⟨impl_shares_sg, fun x => impl_shares x.1 x.2.1⟩
theorem impl_shares_eq (x : impl_shares_sg.dom) : body (env [(155, impl_sumOf_en), (236, impl_Clue_seen_en)]) [(3, .unroll 7), (7, .unroll 7)] Tryz.f254 impl_shares_sg x = impl_shares x.1 x.2.1 := by kernel_rfl
theorem impl_shares_so : Sound Tryz.prog 254 impl_shares_en := sound_of_body (envS (l := [(155, impl_sumOf_en), (236, impl_Clue_seen_en)]) (⟨impl_sumOf_so, impl_Clue_seen_so, trivial⟩)) Tryz.func254 (by kernel_rfl) rfl (fun x y h => (impl_shares_eq x).trans h)

-- loop.example/g01204/impl.Update
noncomputable def impl_Update (a0 : ((Vec 6 Nat) × ((Vec 6 (Vec 6 Nat)) × Unit))) (a1 : ((Vec 6 Nat) × (Nat × (Nat × Unit)))) : Option ((((Vec 6 Nat) × ((Vec 6 (Vec 6 Nat)) × Unit)) × Int × Unit) × Unit) :=
  (impl_ValidState a0).bind fun y629 =>
  bif (! y629.1.1) then
    some (((((0, 0, 0, 0, 0, 0, ()), ((0, 0, 0, 0, 0, 0, ()), (0, 0, 0, 0, 0, 0, ()), (0, 0, 0, 0, 0, 0, ()), (0, 0, 0, 0, 0, 0, ()), (0, 0, 0, 0, 0, 0, ()), (0, 0, 0, 0, 0, 0, ()), ()), ()) : ((Vec 6 Nat) × ((Vec 6 (Vec 6 Nat)) × Unit))), (1 : Int), ()), ())
  else
  (impl_ValidClue a1).bind fun y631 =>
  bif (! y631.1.1) then
    some (((((0, 0, 0, 0, 0, 0, ()), ((0, 0, 0, 0, 0, 0, ()), (0, 0, 0, 0, 0, 0, ()), (0, 0, 0, 0, 0, 0, ()), (0, 0, 0, 0, 0, 0, ()), (0, 0, 0, 0, 0, 0, ()), (0, 0, 0, 0, 0, 0, ()), ()), ()) : ((Vec 6 Nat) × ((Vec 6 (Vec 6 Nat)) × Unit))), (1 : Int), ()), ())
  else
  (impl_shares a0 a1).bind fun y633 =>
  let x634 := fDiv .f32 y633.1.2.1 y633.1.2.2.1
  (impl_root (fDiv .f32 (fMul .f32 a1.2.2.1 a1.2.2.1) y633.1.2.2.1)).bind fun y637 =>
  let x640 := fDiv .f32 (fDiv .f32 1065353216 (fAdd .f32 1065353216 y637.1.1)) y633.1.2.2.1
  (impl_sumOf ([Vec.getD 6 (Vec.getD 6 a0.2.1 0 ((0, 0, 0, 0, 0, 0, ()) : (Vec 6 Nat))) 0 (0 : Nat)] : (List Nat)) ([Vec.getD 6 y633.1.1 0 (0 : Nat), Vec.getD 6 y633.1.1 1 (0 : Nat), Vec.getD 6 y633.1.1 2 (0 : Nat), Vec.getD 6 y633.1.1 3 (0 : Nat), Vec.getD 6 y633.1.1 4 (0 : Nat), Vec.getD 6 y633.1.1 5 (0 : Nat)] : (List Nat))).bind fun y641 =>
  let x644 := fAdd .f32 (Vec.getD 6 a0.1 0 (0 : Nat)) (fMul .f32 y641.1.1 x634)
  (impl_sumOf ([Vec.getD 6 (Vec.getD 6 a0.2.1 1 ((0, 0, 0, 0, 0, 0, ()) : (Vec 6 Nat))) 0 (0 : Nat), Vec.getD 6 (Vec.getD 6 a0.2.1 1 ((0, 0, 0, 0, 0, 0, ()) : (Vec 6 Nat))) 1 (0 : Nat)] : (List Nat)) ([Vec.getD 6 y633.1.1 0 (0 : Nat), Vec.getD 6 y633.1.1 1 (0 : Nat), Vec.getD 6 y633.1.1 2 (0 : Nat), Vec.getD 6 y633.1.1 3 (0 : Nat), Vec.getD 6 y633.1.1 4 (0 : Nat), Vec.getD 6 y633.1.1 5 (0 : Nat)] : (List Nat))).bind fun y675 =>
  let x678 := fAdd .f32 (Vec.getD 6 (Vec.set 6 a0.1 0 x644) 1 (0 : Nat)) (fMul .f32 y675.1.1 x634)
  (impl_sumOf ([Vec.getD 6 (Vec.getD 6 a0.2.1 2 ((0, 0, 0, 0, 0, 0, ()) : (Vec 6 Nat))) 0 (0 : Nat), Vec.getD 6 (Vec.getD 6 a0.2.1 2 ((0, 0, 0, 0, 0, 0, ()) : (Vec 6 Nat))) 1 (0 : Nat), Vec.getD 6 (Vec.getD 6 a0.2.1 2 ((0, 0, 0, 0, 0, 0, ()) : (Vec 6 Nat))) 2 (0 : Nat)] : (List Nat)) ([Vec.getD 6 y633.1.1 0 (0 : Nat), Vec.getD 6 y633.1.1 1 (0 : Nat), Vec.getD 6 y633.1.1 2 (0 : Nat), Vec.getD 6 y633.1.1 3 (0 : Nat), Vec.getD 6 y633.1.1 4 (0 : Nat), Vec.getD 6 y633.1.1 5 (0 : Nat)] : (List Nat))).bind fun y709 =>
  let x712 := fAdd .f32 (Vec.getD 6 (Vec.set 6 (Vec.set 6 a0.1 0 x644) 1 x678) 2 (0 : Nat)) (fMul .f32 y709.1.1 x634)
  (impl_sumOf ([Vec.getD 6 (Vec.getD 6 a0.2.1 3 ((0, 0, 0, 0, 0, 0, ()) : (Vec 6 Nat))) 0 (0 : Nat), Vec.getD 6 (Vec.getD 6 a0.2.1 3 ((0, 0, 0, 0, 0, 0, ()) : (Vec 6 Nat))) 1 (0 : Nat), Vec.getD 6 (Vec.getD 6 a0.2.1 3 ((0, 0, 0, 0, 0, 0, ()) : (Vec 6 Nat))) 2 (0 : Nat), Vec.getD 6 (Vec.getD 6 a0.2.1 3 ((0, 0, 0, 0, 0, 0, ()) : (Vec 6 Nat))) 3 (0 : Nat)] : (List Nat)) ([Vec.getD 6 y633.1.1 0 (0 : Nat), Vec.getD 6 y633.1.1 1 (0 : Nat), Vec.getD 6 y633.1.1 2 (0 : Nat), Vec.getD 6 y633.1.1 3 (0 : Nat), Vec.getD 6 y633.1.1 4 (0 : Nat), Vec.getD 6 y633.1.1 5 (0 : Nat)] : (List Nat))).bind fun y743 =>
  let x746 := fAdd .f32 (Vec.getD 6 (Vec.set 6 (Vec.set 6 (Vec.set 6 a0.1 0 x644) 1 x678) 2 x712) 3 (0 : Nat)) (fMul .f32 y743.1.1 x634)
  (impl_sumOf ([Vec.getD 6 (Vec.getD 6 a0.2.1 4 ((0, 0, 0, 0, 0, 0, ()) : (Vec 6 Nat))) 0 (0 : Nat), Vec.getD 6 (Vec.getD 6 a0.2.1 4 ((0, 0, 0, 0, 0, 0, ()) : (Vec 6 Nat))) 1 (0 : Nat), Vec.getD 6 (Vec.getD 6 a0.2.1 4 ((0, 0, 0, 0, 0, 0, ()) : (Vec 6 Nat))) 2 (0 : Nat), Vec.getD 6 (Vec.getD 6 a0.2.1 4 ((0, 0, 0, 0, 0, 0, ()) : (Vec 6 Nat))) 3 (0 : Nat), Vec.getD 6 (Vec.getD 6 a0.2.1 4 ((0, 0, 0, 0, 0, 0, ()) : (Vec 6 Nat))) 4 (0 : Nat)] : (List Nat)) ([Vec.getD 6 y633.1.1 0 (0 : Nat), Vec.getD 6 y633.1.1 1 (0 : Nat), Vec.getD 6 y633.1.1 2 (0 : Nat), Vec.getD 6 y633.1.1 3 (0 : Nat), Vec.getD 6 y633.1.1 4 (0 : Nat), Vec.getD 6 y633.1.1 5 (0 : Nat)] : (List Nat))).bind fun y777 =>
  let x780 := fAdd .f32 (Vec.getD 6 (Vec.set 6 (Vec.set 6 (Vec.set 6 (Vec.set 6 a0.1 0 x644) 1 x678) 2 x712) 3 x746) 4 (0 : Nat)) (fMul .f32 y777.1.1 x634)
  (impl_sumOf ([Vec.getD 6 (Vec.getD 6 a0.2.1 5 ((0, 0, 0, 0, 0, 0, ()) : (Vec 6 Nat))) 0 (0 : Nat), Vec.getD 6 (Vec.getD 6 a0.2.1 5 ((0, 0, 0, 0, 0, 0, ()) : (Vec 6 Nat))) 1 (0 : Nat), Vec.getD 6 (Vec.getD 6 a0.2.1 5 ((0, 0, 0, 0, 0, 0, ()) : (Vec 6 Nat))) 2 (0 : Nat), Vec.getD 6 (Vec.getD 6 a0.2.1 5 ((0, 0, 0, 0, 0, 0, ()) : (Vec 6 Nat))) 3 (0 : Nat), Vec.getD 6 (Vec.getD 6 a0.2.1 5 ((0, 0, 0, 0, 0, 0, ()) : (Vec 6 Nat))) 4 (0 : Nat), Vec.getD 6 (Vec.getD 6 a0.2.1 5 ((0, 0, 0, 0, 0, 0, ()) : (Vec 6 Nat))) 5 (0 : Nat)] : (List Nat)) ([Vec.getD 6 y633.1.1 0 (0 : Nat), Vec.getD 6 y633.1.1 1 (0 : Nat), Vec.getD 6 y633.1.1 2 (0 : Nat), Vec.getD 6 y633.1.1 3 (0 : Nat), Vec.getD 6 y633.1.1 4 (0 : Nat), Vec.getD 6 y633.1.1 5 (0 : Nat)] : (List Nat))).bind fun y811 =>
  (impl_rooted (Vec.set 6 (Vec.set 6 (Vec.set 6 (Vec.set 6 (Vec.set 6 (Vec.set 6 a0.1 0 x644) 1 x678) 2 x712) 3 x746) 4 x780) 5 (fAdd .f32 (Vec.getD 6 (Vec.set 6 (Vec.set 6 (Vec.set 6 (Vec.set 6 (Vec.set 6 a0.1 0 x644) 1 x678) 2 x712) 3 x746) 4 x780) 5 (0 : Nat)) (fMul .f32 y811.1.1 x634))) ((((fSub .f32 (Vec.getD 6 (Vec.getD 6 a0.2.1 0 ((0, 0, 0, 0, 0, 0, ()) : (Vec 6 Nat))) 0 (0 : Nat)) (fMul .f32 (fMul .f32 y641.1.1 x640) (Vec.getD 6 y633.1.1 0 (0 : Nat)))), (fSub .f32 (Vec.getD 6 (Vec.getD 6 a0.2.1 0 ((0, 0, 0, 0, 0, 0, ()) : (Vec 6 Nat))) 1 (0 : Nat)) (fMul .f32 (fMul .f32 y641.1.1 x640) (Vec.getD 6 y633.1.1 1 (0 : Nat)))), (fSub .f32 (Vec.getD 6 (Vec.getD 6 a0.2.1 0 ((0, 0, 0, 0, 0, 0, ()) : (Vec 6 Nat))) 2 (0 : Nat)) (fMul .f32 (fMul .f32 y641.1.1 x640) (Vec.getD 6 y633.1.1 2 (0 : Nat)))), (fSub .f32 (Vec.getD 6 (Vec.getD 6 a0.2.1 0 ((0, 0, 0, 0, 0, 0, ()) : (Vec 6 Nat))) 3 (0 : Nat)) (fMul .f32 (fMul .f32 y641.1.1 x640) (Vec.getD 6 y633.1.1 3 (0 : Nat)))), (fSub .f32 (Vec.getD 6 (Vec.getD 6 a0.2.1 0 ((0, 0, 0, 0, 0, 0, ()) : (Vec 6 Nat))) 4 (0 : Nat)) (fMul .f32 (fMul .f32 y641.1.1 x640) (Vec.getD 6 y633.1.1 4 (0 : Nat)))), (fSub .f32 (Vec.getD 6 (Vec.getD 6 a0.2.1 0 ((0, 0, 0, 0, 0, 0, ()) : (Vec 6 Nat))) 5 (0 : Nat)) (fMul .f32 (fMul .f32 y641.1.1 x640) (Vec.getD 6 y633.1.1 5 (0 : Nat)))), 0, 0, 0, ()), ((fSub .f32 (Vec.getD 6 (Vec.getD 6 a0.2.1 1 ((0, 0, 0, 0, 0, 0, ()) : (Vec 6 Nat))) 0 (0 : Nat)) (fMul .f32 (fMul .f32 y675.1.1 x640) (Vec.getD 6 y633.1.1 0 (0 : Nat)))), (fSub .f32 (Vec.getD 6 (Vec.getD 6 a0.2.1 1 ((0, 0, 0, 0, 0, 0, ()) : (Vec 6 Nat))) 1 (0 : Nat)) (fMul .f32 (fMul .f32 y675.1.1 x640) (Vec.getD 6 y633.1.1 1 (0 : Nat)))), (fSub .f32 (Vec.getD 6 (Vec.getD 6 a0.2.1 1 ((0, 0, 0, 0, 0, 0, ()) : (Vec 6 Nat))) 2 (0 : Nat)) (fMul .f32 (fMul .f32 y675.1.1 x640) (Vec.getD 6 y633.1.1 2 (0 : Nat)))), (fSub .f32 (Vec.getD 6 (Vec.getD 6 a0.2.1 1 ((0, 0, 0, 0, 0, 0, ()) : (Vec 6 Nat))) 3 (0 : Nat)) (fMul .f32 (fMul .f32 y675.1.1 x640) (Vec.getD 6 y633.1.1 3 (0 : Nat)))), (fSub .f32 (Vec.getD 6 (Vec.getD 6 a0.2.1 1 ((0, 0, 0, 0, 0, 0, ()) : (Vec 6 Nat))) 4 (0 : Nat)) (fMul .f32 (fMul .f32 y675.1.1 x640) (Vec.getD 6 y633.1.1 4 (0 : Nat)))), (fSub .f32 (Vec.getD 6 (Vec.getD 6 a0.2.1 1 ((0, 0, 0, 0, 0, 0, ()) : (Vec 6 Nat))) 5 (0 : Nat)) (fMul .f32 (fMul .f32 y675.1.1 x640) (Vec.getD 6 y633.1.1 5 (0 : Nat)))), 0, 0, 0, ()), ((fSub .f32 (Vec.getD 6 (Vec.getD 6 a0.2.1 2 ((0, 0, 0, 0, 0, 0, ()) : (Vec 6 Nat))) 0 (0 : Nat)) (fMul .f32 (fMul .f32 y709.1.1 x640) (Vec.getD 6 y633.1.1 0 (0 : Nat)))), (fSub .f32 (Vec.getD 6 (Vec.getD 6 a0.2.1 2 ((0, 0, 0, 0, 0, 0, ()) : (Vec 6 Nat))) 1 (0 : Nat)) (fMul .f32 (fMul .f32 y709.1.1 x640) (Vec.getD 6 y633.1.1 1 (0 : Nat)))), (fSub .f32 (Vec.getD 6 (Vec.getD 6 a0.2.1 2 ((0, 0, 0, 0, 0, 0, ()) : (Vec 6 Nat))) 2 (0 : Nat)) (fMul .f32 (fMul .f32 y709.1.1 x640) (Vec.getD 6 y633.1.1 2 (0 : Nat)))), (fSub .f32 (Vec.getD 6 (Vec.getD 6 a0.2.1 2 ((0, 0, 0, 0, 0, 0, ()) : (Vec 6 Nat))) 3 (0 : Nat)) (fMul .f32 (fMul .f32 y709.1.1 x640) (Vec.getD 6 y633.1.1 3 (0 : Nat)))), (fSub .f32 (Vec.getD 6 (Vec.getD 6 a0.2.1 2 ((0, 0, 0, 0, 0, 0, ()) : (Vec 6 Nat))) 4 (0 : Nat)) (fMul .f32 (fMul .f32 y709.1.1 x640) (Vec.getD 6 y633.1.1 4 (0 : Nat)))), (fSub .f32 (Vec.getD 6 (Vec.getD 6 a0.2.1 2 ((0, 0, 0, 0, 0, 0, ()) : (Vec 6 Nat))) 5 (0 : Nat)) (fMul .f32 (fMul .f32 y709.1.1 x640) (Vec.getD 6 y633.1.1 5 (0 : Nat)))), 0, 0, 0, ()), ((fSub .f32 (Vec.getD 6 (Vec.getD 6 a0.2.1 3 ((0, 0, 0, 0, 0, 0, ()) : (Vec 6 Nat))) 0 (0 : Nat)) (fMul .f32 (fMul .f32 y743.1.1 x640) (Vec.getD 6 y633.1.1 0 (0 : Nat)))), (fSub .f32 (Vec.getD 6 (Vec.getD 6 a0.2.1 3 ((0, 0, 0, 0, 0, 0, ()) : (Vec 6 Nat))) 1 (0 : Nat)) (fMul .f32 (fMul .f32 y743.1.1 x640) (Vec.getD 6 y633.1.1 1 (0 : Nat)))), (fSub .f32 (Vec.getD 6 (Vec.getD 6 a0.2.1 3 ((0, 0, 0, 0, 0, 0, ()) : (Vec 6 Nat))) 2 (0 : Nat)) (fMul .f32 (fMul .f32 y743.1.1 x640) (Vec.getD 6 y633.1.1 2 (0 : Nat)))), (fSub .f32 (Vec.getD 6 (Vec.getD 6 a0.2.1 3 ((0, 0, 0, 0, 0, 0, ()) : (Vec 6 Nat))) 3 (0 : Nat)) (fMul .f32 (fMul .f32 y743.1.1 x640) (Vec.getD 6 y633.1.1 3 (0 : Nat)))), (fSub .f32 (Vec.getD 6 (Vec.getD 6 a0.2.1 3 ((0, 0, 0, 0, 0, 0, ()) : (Vec 6 Nat))) 4 (0 : Nat)) (fMul .f32 (fMul .f32 y743.1.1 x640) (Vec.getD 6 y633.1.1 4 (0 : Nat)))), (fSub .f32 (Vec.getD 6 (Vec.getD 6 a0.2.1 3 ((0, 0, 0, 0, 0, 0, ()) : (Vec 6 Nat))) 5 (0 : Nat)) (fMul .f32 (fMul .f32 y743.1.1 x640) (Vec.getD 6 y633.1.1 5 (0 : Nat)))), 0, 0, 0, ()), ((fSub .f32 (Vec.getD 6 (Vec.getD 6 a0.2.1 4 ((0, 0, 0, 0, 0, 0, ()) : (Vec 6 Nat))) 0 (0 : Nat)) (fMul .f32 (fMul .f32 y777.1.1 x640) (Vec.getD 6 y633.1.1 0 (0 : Nat)))), (fSub .f32 (Vec.getD 6 (Vec.getD 6 a0.2.1 4 ((0, 0, 0, 0, 0, 0, ()) : (Vec 6 Nat))) 1 (0 : Nat)) (fMul .f32 (fMul .f32 y777.1.1 x640) (Vec.getD 6 y633.1.1 1 (0 : Nat)))), (fSub .f32 (Vec.getD 6 (Vec.getD 6 a0.2.1 4 ((0, 0, 0, 0, 0, 0, ()) : (Vec 6 Nat))) 2 (0 : Nat)) (fMul .f32 (fMul .f32 y777.1.1 x640) (Vec.getD 6 y633.1.1 2 (0 : Nat)))), (fSub .f32 (Vec.getD 6 (Vec.getD 6 a0.2.1 4 ((0, 0, 0, 0, 0, 0, ()) : (Vec 6 Nat))) 3 (0 : Nat)) (fMul .f32 (fMul .f32 y777.1.1 x640) (Vec.getD 6 y633.1.1 3 (0 : Nat)))), (fSub .f32 (Vec.getD 6 (Vec.getD 6 a0.2.1 4 ((0, 0, 0, 0, 0, 0, ()) : (Vec 6 Nat))) 4 (0 : Nat)) (fMul .f32 (fMul .f32 y777.1.1 x640) (Vec.getD 6 y633.1.1 4 (0 : Nat)))), (fSub .f32 (Vec.getD 6 (Vec.getD 6 a0.2.1 4 ((0, 0, 0, 0, 0, 0, ()) : (Vec 6 Nat))) 5 (0 : Nat)) (fMul .f32 (fMul .f32 y777.1.1 x640) (Vec.getD 6 y633.1.1 5 (0 : Nat)))), 0, 0, 0, ()), ((fSub .f32 (Vec.getD 6 (Vec.getD 6 a0.2.1 5 ((0, 0, 0, 0, 0, 0, ()) : (Vec 6 Nat))) 0 (0 : Nat)) (fMul .f32 (fMul .f32 y811.1.1 x640) (Vec.getD 6 y633.1.1 0 (0 : Nat)))), (fSub .f32 (Vec.getD 6 (Vec.getD 6 a0.2.1 5 ((0, 0, 0, 0, 0, 0, ()) : (Vec 6 Nat))) 1 (0 : Nat)) (fMul .f32 (fMul .f32 y811.1.1 x640) (Vec.getD 6 y633.1.1 1 (0 : Nat)))), (fSub .f32 (Vec.getD 6 (Vec.getD 6 a0.2.1 5 ((0, 0, 0, 0, 0, 0, ()) : (Vec 6 Nat))) 2 (0 : Nat)) (fMul .f32 (fMul .f32 y811.1.1 x640) (Vec.getD 6 y633.1.1 2 (0 : Nat)))), (fSub .f32 (Vec.getD 6 (Vec.getD 6 a0.2.1 5 ((0, 0, 0, 0, 0, 0, ()) : (Vec 6 Nat))) 3 (0 : Nat)) (fMul .f32 (fMul .f32 y811.1.1 x640) (Vec.getD 6 y633.1.1 3 (0 : Nat)))), (fSub .f32 (Vec.getD 6 (Vec.getD 6 a0.2.1 5 ((0, 0, 0, 0, 0, 0, ()) : (Vec 6 Nat))) 4 (0 : Nat)) (fMul .f32 (fMul .f32 y811.1.1 x640) (Vec.getD 6 y633.1.1 4 (0 : Nat)))), (fSub .f32 (Vec.getD 6 (Vec.getD 6 a0.2.1 5 ((0, 0, 0, 0, 0, 0, ()) : (Vec 6 Nat))) 5 (0 : Nat)) (fMul .f32 (fMul .f32 y811.1.1 x640) (Vec.getD 6 y633.1.1 5 (0 : Nat)))), 0, 0, 0, ()), ()) : (Vec 6 (Vec 9 Nat)))).bind fun y846 =>
  some ((y846.1.1, y846.1.2.1, ()), ())
noncomputable def impl_Update_sg : Sig := ⟨[.v (.pair (.arr 6 (.flt .f32)) (.pair (.arr 6 (.arr 6 (.flt .f32))) (.unit))), .v (.pair (.arr 6 (.flt .f32)) (.pair (.flt .f32) (.pair (.flt .f32) (.unit))))], [.v (.val (.pair (.arr 6 (.flt .f32)) (.pair (.arr 6 (.arr 6 (.flt .f32))) (.unit)))), .v (.val (.int .i64))], false⟩
noncomputable def impl_Update_en : Entry := ⟨impl_Update_sg, fun x => impl_Update x.1 x.2.1⟩
theorem impl_Update_eq (x : impl_Update_sg.dom) : body (env [(67, impl_root_en), (101, impl_ValidState_en), (155, impl_sumOf_en), (228, impl_rooted_en), (232, impl_ValidClue_en), (254, impl_shares_en)]) [(10, .unroll 7), (15, .unroll 7)] Tryz.f233 impl_Update_sg x = impl_Update x.1 x.2.1 := by kernel_rfl
theorem impl_Update_so : Sound Tryz.prog 233 impl_Update_en := sound_of_body (envS (l := [(67, impl_root_en), (101, impl_ValidState_en), (155, impl_sumOf_en), (228, impl_rooted_en), (232, impl_ValidClue_en), (254, impl_shares_en)]) (⟨impl_root_so, impl_ValidState_so, impl_sumOf_so, impl_rooted_so, impl_ValidClue_so, impl_shares_so, trivial⟩)) Tryz.func233 (by kernel_rfl) rfl (fun x y h => (impl_Update_eq x).trans h)

-- loop.example/g01204/impl.UpdateAll$1
noncomputable def impl_UpdateAll_1 (a0 : ((Vec 6 Nat) × (Nat × (Nat × Unit)))) : Option ((Bool × Unit) × Unit) :=
  (impl_ValidClue a0).bind fun y879 =>
  some (((! y879.1.1), ()), ())
noncomputable def impl_UpdateAll_1_sg : Sig := ⟨[.v (.pair (.arr 6 (.flt .f32)) (.pair (.flt .f32) (.pair (.flt .f32) (.unit))))], [.v (.val (.bool))], false⟩
noncomputable def impl_UpdateAll_1_en : Entry := ⟨impl_UpdateAll_1_sg, fun x => impl_UpdateAll_1 x.1⟩
theorem impl_UpdateAll_1_eq (x : impl_UpdateAll_1_sg.dom) : body (env [(232, impl_ValidClue_en)]) [] Tryz.f231 impl_UpdateAll_1_sg x = impl_UpdateAll_1 x.1 := by kernel_rfl
theorem impl_UpdateAll_1_so : Sound Tryz.prog 231 impl_UpdateAll_1_en := sound_of_body (envS (l := [(232, impl_ValidClue_en)]) (⟨impl_ValidClue_so, trivial⟩)) Tryz.func231 (by kernel_rfl) rfl (fun x y h => (impl_UpdateAll_1_eq x).trans h)

-- slices.IndexFunc[[]loop.example/g01204/impl.Clue,loop.example/g01204/impl.Clue]
noncomputable def slices_IndexFunc_impl_Clue_l2 (a0 : (List ((Vec 6 Nat) × (Nat × (Nat × Unit))))) (a1 : ((((Vec 6 Nat) × (Nat × (Nat × Unit))) × Unit) → Option Bool)) (s883 : (Int × Unit)) : Option ((Int × Unit) ⊕ ((Int × Unit) × Unit)) :=
  bif (iLt s883.1 (lenI a0)) then
    bif inB s883.1 (List.length a0) then
      (a1 ((List.getD a0 s883.1.toNat (((0, 0, 0, 0, 0, 0, ()), 0, 0, ()) : ((Vec 6 Nat) × (Nat × (Nat × Unit))))), ())).bind fun y886 =>
      bif y886 then
        Option.map Sum.inr (some ((s883.1, ()), ()))
      else
      some (Sum.inl ((iAdd .i64 s883.1 1), ()))
    else none
  else
  Option.map Sum.inr (some ((((-1 : Int) : Int), ()), ()))
noncomputable def slices_IndexFunc_impl_Clue (a0 : (List ((Vec 6 Nat) × (Nat × (Nat × Unit))))) (a1 : ((((Vec 6 Nat) × (Nat × (Nat × Unit))) × Unit) → Option Bool)) : Option ((Int × Unit) × Unit) :=
  run (slices_IndexFunc_impl_Clue_l2 a0 a1) ((0 : Int), ())
noncomputable def slices_IndexFunc_impl_Clue_sg : Sig := ⟨[.v (.list (.pair (.arr 6 (.flt .f32)) (.pair (.flt .f32) (.pair (.flt .f32) (.unit))))), .fn ⟨[.pair (.arr 6 (.flt .f32)) (.pair (.flt .f32) (.pair (.flt .f32) (.unit)))], .bool⟩], [.v (.val (.int .i64))], false⟩
noncomputable def slices_IndexFunc_impl_Clue_en : Entry := ⟨slices_IndexFunc_impl_Clue_sg, fun x => slices_IndexFunc_impl_Clue x.1 x.2.1⟩
theorem slices_IndexFunc_impl_Clue_eq (x : slices_IndexFunc_impl_Clue_sg.dom) : body (env []) [(2, .vary [(8, .sc (.int .i64))])] Tryz.f253 slices_IndexFunc_impl_Clue_sg x = slices_IndexFunc_impl_Clue x.1 x.2.1 := by kernel_rfl
theorem slices_IndexFunc_impl_Clue_so : Sound Tryz.prog 253 slices_IndexFunc_impl_Clue_en := sound_of_body (envS (l := []) (trivial)) Tryz.func253 (by kernel_rfl) rfl (fun x y h => (slices_IndexFunc_impl_Clue_eq x).trans h)

-- slices.ContainsFunc[[]loop.example/g01204/impl.Clue,loop.example/g01204/impl.Clue]
noncomputable def slices_ContainsFunc_impl_Clue (a0 : (List ((Vec 6 Nat) × (Nat × (Nat × Unit))))) (a1 : ((((Vec 6 Nat) × (Nat × (Nat × Unit))) × Unit) → Option Bool)) : Option ((Bool × Unit) × Unit) :=
  (slices_IndexFunc_impl_Clue a0 a1).bind fun y881 =>
  some (((iLe 0 y881.1.1), ()), ())
noncomputable def slices_ContainsFunc_impl_Clue_sg : Sig := ⟨[.v (.list (.pair (.arr 6 (.flt .f32)) (.pair (.flt .f32) (.pair (.flt .f32) (.unit))))), .fn ⟨[.pair (.arr 6 (.flt .f32)) (.pair (.flt .f32) (.pair (.flt .f32) (.unit)))], .bool⟩], [.v (.val (.bool))], false⟩
noncomputable def slices_ContainsFunc_impl_Clue_en : Entry := ⟨slices_ContainsFunc_impl_Clue_sg, fun x => slices_ContainsFunc_impl_Clue x.1 x.2.1⟩
theorem slices_ContainsFunc_impl_Clue_eq (x : slices_ContainsFunc_impl_Clue_sg.dom) : body (env [(253, slices_IndexFunc_impl_Clue_en)]) [] Tryz.f230 slices_ContainsFunc_impl_Clue_sg x = slices_ContainsFunc_impl_Clue x.1 x.2.1 := by kernel_rfl
theorem slices_ContainsFunc_impl_Clue_so : Sound Tryz.prog 230 slices_ContainsFunc_impl_Clue_en := sound_of_body (envS (l := [(253, slices_IndexFunc_impl_Clue_en)]) (⟨slices_IndexFunc_impl_Clue_so, trivial⟩)) Tryz.func230 (by kernel_rfl) rfl (fun x y h => (slices_ContainsFunc_impl_Clue_eq x).trans h)

-- loop.example/g01204/impl.UpdateAll
noncomputable def impl_UpdateAll_l6 (a1 : (List ((Vec 6 Nat) × (Nat × (Nat × Unit))))) (s623 : (Int × ((Vec 6 Nat) × ((Vec 6 (Vec 6 Nat)) × Unit)) × Unit)) : Option ((Int × ((Vec 6 Nat) × ((Vec 6 (Vec 6 Nat)) × Unit)) × Unit) ⊕ ((((Vec 6 Nat) × ((Vec 6 (Vec 6 Nat)) × Unit)) × Int × Unit) × Unit)) :=
  bif (iLt s623.1 (lenI a1)) then
    bif inB s623.1 (List.length a1) then
      (impl_Update s623.2.1 (List.getD a1 s623.1.toNat (((0, 0, 0, 0, 0, 0, ()), 0, 0, ()) : ((Vec 6 Nat) × (Nat × (Nat × Unit)))))).bind fun y626 =>
      bif (! (iEq y626.1.2.1 0)) then
        Option.map Sum.inr (some (((((0, 0, 0, 0, 0, 0, ()), ((0, 0, 0, 0, 0, 0, ()), (0, 0, 0, 0, 0, 0, ()), (0, 0, 0, 0, 0, 0, ()), (0, 0, 0, 0, 0, 0, ()), (0, 0, 0, 0, 0, 0, ()), (0, 0, 0, 0, 0, 0, ()), ()), ()) : ((Vec 6 Nat) × ((Vec 6 (Vec 6 Nat)) × Unit))), y626.1.2.1, ()), ()))
      else
      some (Sum.inl ((iAdd .i64 s623.1 1), y626.1.1, ()))
    else none
  else
  Option.map Sum.inr (some ((s623.2.1, (0 : Int), ()), ()))
noncomputable def impl_UpdateAll (a0 : ((Vec 6 Nat) × ((Vec 6 (Vec 6 Nat)) × Unit))) (a1 : (List ((Vec 6 Nat) × (Nat × (Nat × Unit))))) : Option ((((Vec 6 Nat) × ((Vec 6 (Vec 6 Nat)) × Unit)) × Int × Unit) × Unit) :=
  (impl_ValidState a0).bind fun y612 =>
  bif (! y612.1.1) then
    some (((((0, 0, 0, 0, 0, 0, ()), ((0, 0, 0, 0, 0, 0, ()), (0, 0, 0, 0, 0, 0, ()), (0, 0, 0, 0, 0, 0, ()), (0, 0, 0, 0, 0, 0, ()), (0, 0, 0, 0, 0, 0, ()), (0, 0, 0, 0, 0, 0, ()), ()), ()) : ((Vec 6 Nat) × ((Vec 6 (Vec 6 Nat)) × Unit))), (1 : Int), ()), ())
  else
  (slices_ContainsFunc_impl_Clue a1 (fun (z614 : (((Vec 6 Nat) × (Nat × (Nat × Unit))) × Unit)) => (impl_UpdateAll_1 z614.1).map fun y => y.1.1)).bind fun y615 =>
  bif y615.1.1 then
    some (((((0, 0, 0, 0, 0, 0, ()), ((0, 0, 0, 0, 0, 0, ()), (0, 0, 0, 0, 0, 0, ()), (0, 0, 0, 0, 0, 0, ()), (0, 0, 0, 0, 0, 0, ()), (0, 0, 0, 0, 0, 0, ()), (0, 0, 0, 0, 0, 0, ()), ()), ()) : ((Vec 6 Nat) × ((Vec 6 (Vec 6 Nat)) × Unit))), (1 : Int), ()), ())
  else
  bif (iLt 256 (lenI a1)) then
    some (((((0, 0, 0, 0, 0, 0, ()), ((0, 0, 0, 0, 0, 0, ()), (0, 0, 0, 0, 0, 0, ()), (0, 0, 0, 0, 0, 0, ()), (0, 0, 0, 0, 0, 0, ()), (0, 0, 0, 0, 0, 0, ()), (0, 0, 0, 0, 0, 0, ()), ()), ()) : ((Vec 6 Nat) × ((Vec 6 (Vec 6 Nat)) × Unit))), (3 : Int), ()), ())
  else run (impl_UpdateAll_l6 a1) ((0 : Int), a0, ())
noncomputable def impl_UpdateAll_sg : Sig := ⟨[.v (.pair (.arr 6 (.flt .f32)) (.pair (.arr 6 (.arr 6 (.flt .f32))) (.unit))), .v (.list (.pair (.arr 6 (.flt .f32)) (.pair (.flt .f32) (.pair (.flt .f32) (.unit)))))], [.v (.val (.pair (.arr 6 (.flt .f32)) (.pair (.arr 6 (.arr 6 (.flt .f32))) (.unit)))), .v (.val (.int .i64))], false⟩
noncomputable def impl_UpdateAll_en : Entry := ⟨impl_UpdateAll_sg, fun x => impl_UpdateAll x.1 x.2.1⟩
theorem impl_UpdateAll_eq (x : impl_UpdateAll_sg.dom) : body (env [(101, impl_ValidState_en), (230, slices_ContainsFunc_impl_Clue_en), (231, impl_UpdateAll_1_en), (233, impl_Update_en)]) [(6, .vary [(26, .sc (.int .i64)), (2, .box (.val (.pair (.arr 6 (.flt .f32)) (.pair (.arr 6 (.arr 6 (.flt .f32))) (.unit)))))])] Tryz.f175 impl_UpdateAll_sg x = impl_UpdateAll x.1 x.2.1 := by kernel_rfl
theorem impl_UpdateAll_so : Sound Tryz.prog 175 impl_UpdateAll_en := sound_of_body (envS (l := [(101, impl_ValidState_en), (230, slices_ContainsFunc_impl_Clue_en), (231, impl_UpdateAll_1_en), (233, impl_Update_en)]) (⟨impl_ValidState_so, slices_ContainsFunc_impl_Clue_so, impl_UpdateAll_1_so, impl_Update_so, trivial⟩)) Tryz.func175 (by kernel_rfl) rfl (fun x y h => (impl_UpdateAll_eq x).trans h)

-- loop.example/g01204/impl.numberOr
noncomputable def impl_numberOr (a0 : Nat) : Option ((Nat × Int × Unit) × Unit) :=
  (impl_isFinite ([a0] : (List Nat))).bind fun y908 =>
  bif (! y908.1.1) then some (((0 : Nat), (4 : Int), ()), ()) else some ((a0, (0 : Int), ()), ())
noncomputable def impl_numberOr_sg : Sig := ⟨[.v (.flt .f32)], [.v (.val (.flt .f32)), .v (.val (.int .i64))], false⟩
noncomputable def impl_numberOr_en : Entry := ⟨impl_numberOr_sg, fun x => impl_numberOr x.1⟩
theorem impl_numberOr_eq (x : impl_numberOr_sg.dom) : body (env [(64, impl_isFinite_en)]) [] Tryz.f127 impl_numberOr_sg x = impl_numberOr x.1 := by kernel_rfl
theorem impl_numberOr_so : Sound Tryz.prog 127 impl_numberOr_en := sound_of_body (envS (l := [(64, impl_isFinite_en)]) (⟨impl_isFinite_so, trivial⟩)) Tryz.func127 (by kernel_rfl) rfl (fun x y h => (impl_numberOr_eq x).trans h)

-- loop.example/g01204/impl.GateOf
noncomputable def impl_GateOf (a0 : ((Vec 6 Nat) × ((Vec 6 (Vec 6 Nat)) × Unit))) (a1 : ((Vec 6 Nat) × (Nat × (Nat × Unit)))) : Option ((Nat × Int × Unit) × Unit) :=
  (impl_ValidState a0).bind fun y900 =>
  bif (! y900.1.1) then some (((0 : Nat), (1 : Int), ()), ()) else
  (impl_ValidClue a1).bind fun y902 =>
  bif (! y902.1.1) then some (((0 : Nat), (1 : Int), ()), ()) else
  (impl_shares a0 a1).bind fun y904 =>
  (impl_numberOr (fDiv .f32 (fMul .f32 y904.1.2.1 y904.1.2.1) y904.1.2.2.1)).bind fun y907 =>
  some ((y907.1.1, y907.1.2.1, ()), ())
noncomputable def impl_GateOf_sg : Sig := ⟨[.v (.pair (.arr 6 (.flt .f32)) (.pair (.arr 6 (.arr 6 (.flt .f32))) (.unit))), .v (.pair (.arr 6 (.flt .f32)) (.pair (.flt .f32) (.pair (.flt .f32) (.unit))))], [.v (.val (.flt .f32)), .v (.val (.int .i64))], false⟩
noncomputable def impl_GateOf_en : Entry := ⟨impl_GateOf_sg, fun x => impl_GateOf x.1 x.2.1⟩
theorem impl_GateOf_eq (x : impl_GateOf_sg.dom) : body (env [(101, impl_ValidState_en), (127, impl_numberOr_en), (232, impl_ValidClue_en), (254, impl_shares_en)]) [] Tryz.f234 impl_GateOf_sg x = impl_GateOf x.1 x.2.1 := by kernel_rfl
theorem impl_GateOf_so : Sound Tryz.prog 234 impl_GateOf_en := sound_of_body (envS (l := [(101, impl_ValidState_en), (127, impl_numberOr_en), (232, impl_ValidClue_en), (254, impl_shares_en)]) (⟨impl_ValidState_so, impl_numberOr_so, impl_ValidClue_so, impl_shares_so, trivial⟩)) Tryz.func234 (by kernel_rfl) rfl (fun x y h => (impl_GateOf_eq x).trans h)

-- loop.example/g01204/impl.UpdateGated
noncomputable def impl_UpdateGated (a0 : ((Vec 6 Nat) × ((Vec 6 (Vec 6 Nat)) × Unit))) (a1 : ((Vec 6 Nat) × (Nat × (Nat × Unit)))) (a2 : Nat) : Option ((((Vec 6 Nat) × ((Vec 6 (Vec 6 Nat)) × Unit)) × Bool × Int × Unit) × Unit) :=
  (impl_ValidState a0).bind fun y888 =>
  bif (! y888.1.1) then
    some (((((0, 0, 0, 0, 0, 0, ()), ((0, 0, 0, 0, 0, 0, ()), (0, 0, 0, 0, 0, 0, ()), (0, 0, 0, 0, 0, 0, ()), (0, 0, 0, 0, 0, 0, ()), (0, 0, 0, 0, 0, 0, ()), (0, 0, 0, 0, 0, 0, ()), ()), ()) : ((Vec 6 Nat) × ((Vec 6 (Vec 6 Nat)) × Unit))), false, (1 : Int), ()), ())
  else
  (impl_ValidClue a1).bind fun y890 =>
  bif (! y890.1.1) then
    some (((((0, 0, 0, 0, 0, 0, ()), ((0, 0, 0, 0, 0, 0, ()), (0, 0, 0, 0, 0, 0, ()), (0, 0, 0, 0, 0, 0, ()), (0, 0, 0, 0, 0, 0, ()), (0, 0, 0, 0, 0, 0, ()), (0, 0, 0, 0, 0, 0, ()), ()), ()) : ((Vec 6 Nat) × ((Vec 6 (Vec 6 Nat)) × Unit))), false, (1 : Int), ()), ())
  else
  bif (! (fLe .f32 0 a2)) then
    some (((((0, 0, 0, 0, 0, 0, ()), ((0, 0, 0, 0, 0, 0, ()), (0, 0, 0, 0, 0, 0, ()), (0, 0, 0, 0, 0, 0, ()), (0, 0, 0, 0, 0, 0, ()), (0, 0, 0, 0, 0, 0, ()), (0, 0, 0, 0, 0, 0, ()), ()), ()) : ((Vec 6 Nat) × ((Vec 6 (Vec 6 Nat)) × Unit))), false, (2 : Int), ()), ())
  else
  (impl_GateOf a0 a1).bind fun y894 =>
  bif (! (iEq y894.1.2.1 0)) then
    some (((((0, 0, 0, 0, 0, 0, ()), ((0, 0, 0, 0, 0, 0, ()), (0, 0, 0, 0, 0, 0, ()), (0, 0, 0, 0, 0, 0, ()), (0, 0, 0, 0, 0, 0, ()), (0, 0, 0, 0, 0, 0, ()), (0, 0, 0, 0, 0, 0, ()), ()), ()) : ((Vec 6 Nat) × ((Vec 6 (Vec 6 Nat)) × Unit))), false, y894.1.2.1, ()), ())
  else
  bif (! (fLe .f32 y894.1.1 a2)) then some ((a0, false, (0 : Int), ()), ()) else
  (impl_Update a0 a1).bind fun y898 =>
  some ((y898.1.1, (iEq y898.1.2.1 0), y898.1.2.1, ()), ())
noncomputable def impl_UpdateGated_sg : Sig := ⟨[.v (.pair (.arr 6 (.flt .f32)) (.pair (.arr 6 (.arr 6 (.flt .f32))) (.unit))), .v (.pair (.arr 6 (.flt .f32)) (.pair (.flt .f32) (.pair (.flt .f32) (.unit)))), .v (.flt .f32)], [.v (.val (.pair (.arr 6 (.flt .f32)) (.pair (.arr 6 (.arr 6 (.flt .f32))) (.unit)))), .v (.val (.bool)), .v (.val (.int .i64))], false⟩
noncomputable def impl_UpdateGated_en : Entry := ⟨impl_UpdateGated_sg, fun x => impl_UpdateGated x.1 x.2.1 x.2.2.1⟩
theorem impl_UpdateGated_eq (x : impl_UpdateGated_sg.dom) : body (env [(101, impl_ValidState_en), (232, impl_ValidClue_en), (233, impl_Update_en), (234, impl_GateOf_en)]) [] Tryz.f178 impl_UpdateGated_sg x = impl_UpdateGated x.1 x.2.1 x.2.2.1 := by kernel_rfl
theorem impl_UpdateGated_so : Sound Tryz.prog 178 impl_UpdateGated_en := sound_of_body (envS (l := [(101, impl_ValidState_en), (232, impl_ValidClue_en), (233, impl_Update_en), (234, impl_GateOf_en)]) (⟨impl_ValidState_so, impl_ValidClue_so, impl_Update_so, impl_GateOf_so, trivial⟩)) Tryz.func178 (by kernel_rfl) rfl (fun x y h => (impl_UpdateGated_eq x).trans h)

-- loop.example/g01204/impl.ClueAt
noncomputable def impl_ClueAt (a0 : Int) (a1 : Nat) (a2 : Nat) : Option ((((Vec 6 Nat) × (Nat × (Nat × Unit))) × Int × Unit) × Unit) :=
  bif (iLt a0 0) then some (((((0, 0, 0, 0, 0, 0, ()), 0, 0, ()) : ((Vec 6 Nat) × (Nat × (Nat × Unit)))), (2 : Int), ()), ()) else
  bif (iLt 5 a0) then some (((((0, 0, 0, 0, 0, 0, ()), 0, 0, ()) : ((Vec 6 Nat) × (Nat × (Nat × Unit)))), (2 : Int), ()), ()) else
  bif inB a0 6 then
    (impl_clueOr ((Vec.set 6 ((0, 0, 0, 0, 0, 0, ()) : (Vec 6 Nat)) a0.toNat (1065353216 : Nat), a1, a2, ()) : ((Vec 6 Nat) × (Nat × (Nat × Unit))))).bind fun y913 =>
    some ((y913.1.1, y913.1.2.1, ()), ())
  else none
noncomputable def impl_ClueAt_sg : Sig := ⟨[.v (.int .i64), .v (.flt .f32), .v (.flt .f32)], [.v (.val (.pair (.arr 6 (.flt .f32)) (.pair (.flt .f32) (.pair (.flt .f32) (.unit))))), .v (.val (.int .i64))], false⟩
noncomputable def impl_ClueAt_en : Entry := ⟨impl_ClueAt_sg, fun x => impl_ClueAt x.1 x.2.1 x.2.2.1⟩
theorem impl_ClueAt_eq (x : impl_ClueAt_sg.dom) : body (env [(237, impl_clueOr_en)]) [] Tryz.f229 impl_ClueAt_sg x = impl_ClueAt x.1 x.2.1 x.2.2.1 := by kernel_rfl
theorem impl_ClueAt_so : Sound Tryz.prog 229 impl_ClueAt_en := sound_of_body (envS (l := [(237, impl_clueOr_en)]) (⟨impl_clueOr_so, trivial⟩)) Tryz.func229 (by kernel_rfl) rfl (fun x y h => (impl_ClueAt_eq x).trans h)

-- loop.example/g01204/impl.clueFor
noncomputable def impl_clueFor (a0 : Int) (a1 : Nat) (a2 : Nat) : Option ((((Vec 6 Nat) × (Nat × (Nat × Unit))) × Unit) × Unit) :=
  (impl_ClueAt a0 a1 a2).bind fun y910 =>
  some ((y910.1.1, ()), ())
noncomputable def impl_clueFor_sg : Sig := ⟨[.v (.int .i64), .v (.flt .f32), .v (.flt .f32)], [.v (.val (.pair (.arr 6 (.flt .f32)) (.pair (.flt .f32) (.pair (.flt .f32) (.unit)))))], false⟩
noncomputable def impl_clueFor_en : Entry := ⟨impl_clueFor_sg, fun x => impl_clueFor x.1 x.2.1 x.2.2.1⟩
theorem impl_clueFor_eq (x : impl_clueFor_sg.dom) : body (env [(229, impl_ClueAt_en)]) [] Tryz.f174 impl_clueFor_sg x = impl_clueFor x.1 x.2.1 x.2.2.1 := by kernel_rfl
theorem impl_clueFor_so : Sound Tryz.prog 174 impl_clueFor_en := sound_of_body (envS (l := [(229, impl_ClueAt_en)]) (⟨impl_ClueAt_so, trivial⟩)) Tryz.func174 (by kernel_rfl) rfl (fun x y h => (impl_clueFor_eq x).trans h)

-- loop.example/g01204/impl.vecOfCounts
noncomputable def impl_vecOfCounts (a0 : ((Vec 3 Nat) × ((Vec 3 Nat) × (Int × (Int × Unit))))) (a1 : (Vec 3 Int)) : Option (((Vec 3 Nat) × Unit) × Unit) :=
  some (((((fAdd .f32 (fMul .f32 (fOfInt .f32 (Vec.getD 3 a1 0 (0 : Int))) (Vec.getD 3 a0.1 0 (0 : Nat))) (Vec.getD 3 a0.2.1 0 (0 : Nat))), (fAdd .f32 (fMul .f32 (fOfInt .f32 (Vec.getD 3 a1 1 (0 : Int))) (Vec.getD 3 a0.1 1 (0 : Nat))) (Vec.getD 3 a0.2.1 1 (0 : Nat))), (fAdd .f32 (fMul .f32 (fOfInt .f32 (Vec.getD 3 a1 2 (0 : Int))) (Vec.getD 3 a0.1 2 (0 : Nat))) (Vec.getD 3 a0.2.1 2 (0 : Nat))), ()) : (Vec 3 Nat)), ()), ())
noncomputable def impl_vecOfCounts_sg : Sig := ⟨[.v (.pair (.arr 3 (.flt .f32)) (.pair (.arr 3 (.flt .f32)) (.pair (.int .i64) (.pair (.int .i64) (.unit))))), .v (.arr 3 (.int .i16))], [.v (.val (.arr 3 (.flt .f32)))], false⟩
noncomputable def impl_vecOfCounts_en : Entry := ⟨impl_vecOfCounts_sg, fun x => impl_vecOfCounts x.1 x.2.1⟩
theorem impl_vecOfCounts_eq (x : impl_vecOfCounts_sg.dom) : body (env []) [(3, .unroll 4)] Tryz.f176 impl_vecOfCounts_sg x = impl_vecOfCounts x.1 x.2.1 := by kernel_rfl
theorem impl_vecOfCounts_so : Sound Tryz.prog 176 impl_vecOfCounts_en := sound_of_body (envS (l := []) (trivial)) Tryz.func176 (by kernel_rfl) rfl (fun x y h => (impl_vecOfCounts_eq x).trans h)

-- loop.example/g01204/impl.takeEntry
noncomputable def impl_takeEntry (a0 : (Int × ((Vec 3 Nat) × ((List (Vec 3 Nat)) × ((List (Int × ((Vec 3 Nat) × ((Vec 3 Int) × (Int × (Nat × Unit)))))) × Unit))))) (a1 : ((Vec 6 Nat) × ((Vec 6 (Vec 6 Nat)) × Unit))) (a2 : (Int × ((Vec 3 Nat) × ((Vec 3 Int) × (Int × (Nat × Unit)))))) : Option ((((Vec 6 Nat) × ((Vec 6 (Vec 6 Nat)) × Unit)) × Bool × Int × Unit) × Unit) :=
  bif (iEq a2.1 1) then
    (impl_Predict a1 (fDiv .f32 1065353216 (fOfInt .f32 a0.1)) ((1048576000, 1048576000, 1048576000, ()) : (Vec 3 Nat))).bind fun y171 =>
    some ((y171.1.1, (iEq y171.1.2.1 0), y171.1.2.1, ()), ())
  else
  bif (iEq a2.1 2) then
    (impl_clueFor (3 : Int) (Vec.getD 3 a2.2.1 0 (0 : Nat)) (1040187392 : Nat)).bind fun y175 =>
    (impl_clueFor (4 : Int) (Vec.getD 3 a2.2.1 1 (0 : Nat)) (1040187392 : Nat)).bind fun y177 =>
    (impl_clueFor (5 : Int) (Vec.getD 3 a2.2.1 2 (0 : Nat)) (1040187392 : Nat)).bind fun y179 =>
    (impl_UpdateAll a1 ([y175.1.1, y177.1.1, y179.1.1] : (List ((Vec 6 Nat) × (Nat × (Nat × Unit)))))).bind fun y180 =>
    some ((y180.1.1, (iEq y180.1.2.1 0), y180.1.2.1, ()), ())
  else
  bif (iEq a2.1 3) then
    (impl_FixSensor).bind fun y183 =>
    (impl_vecOfCounts y183.1.1 a2.2.2.1).bind fun y184 =>
    (impl_clueFor (0 : Int) (Vec.getD 3 y184.1.1 0 (0 : Nat)) (1056964608 : Nat)).bind fun y186 =>
    (impl_UpdateGated a1 y186.1.1 (1091567616 : Nat)).bind fun y187 =>
    bif (! (iEq y187.1.2.2.1 0)) then
      some (((((0, 0, 0, 0, 0, 0, ()), ((0, 0, 0, 0, 0, 0, ()), (0, 0, 0, 0, 0, 0, ()), (0, 0, 0, 0, 0, 0, ()), (0, 0, 0, 0, 0, 0, ()), (0, 0, 0, 0, 0, 0, ()), (0, 0, 0, 0, 0, 0, ()), ()), ()) : ((Vec 6 Nat) × ((Vec 6 (Vec 6 Nat)) × Unit))), false, y187.1.2.2.1, ()), ())
    else
    (impl_clueFor (1 : Int) (Vec.getD 3 y184.1.1 1 (0 : Nat)) (1056964608 : Nat)).bind fun y190 =>
    (impl_UpdateGated y187.1.1 y190.1.1 (1091567616 : Nat)).bind fun y191 =>
    bif (! (iEq y191.1.2.2.1 0)) then
      some (((((0, 0, 0, 0, 0, 0, ()), ((0, 0, 0, 0, 0, 0, ()), (0, 0, 0, 0, 0, 0, ()), (0, 0, 0, 0, 0, 0, ()), (0, 0, 0, 0, 0, 0, ()), (0, 0, 0, 0, 0, 0, ()), (0, 0, 0, 0, 0, 0, ()), ()), ()) : ((Vec 6 Nat) × ((Vec 6 (Vec 6 Nat)) × Unit))), false, y191.1.2.2.1, ()), ())
    else
    bif y187.1.2.1 then
      (impl_clueFor (2 : Int) (Vec.getD 3 y184.1.1 2 (0 : Nat)) (1056964608 : Nat)).bind fun y194 =>
      (impl_UpdateGated y191.1.1 y194.1.1 (1091567616 : Nat)).bind fun y195 =>
      bif (! (iEq y195.1.2.2.1 0)) then
        some (((((0, 0, 0, 0, 0, 0, ()), ((0, 0, 0, 0, 0, 0, ()), (0, 0, 0, 0, 0, 0, ()), (0, 0, 0, 0, 0, 0, ()), (0, 0, 0, 0, 0, 0, ()), (0, 0, 0, 0, 0, 0, ()), (0, 0, 0, 0, 0, 0, ()), ()), ()) : ((Vec 6 Nat) × ((Vec 6 (Vec 6 Nat)) × Unit))), false, y195.1.2.2.1, ()), ())
      else
      bif y191.1.2.1 then some ((y195.1.1, y195.1.2.1, (0 : Int), ()), ()) else some ((y195.1.1, false, (0 : Int), ()), ())
    else
    (impl_clueFor (2 : Int) (Vec.getD 3 y184.1.1 2 (0 : Nat)) (1056964608 : Nat)).bind fun y198 =>
    (impl_UpdateGated y191.1.1 y198.1.1 (1091567616 : Nat)).bind fun y199 =>
    bif (! (iEq y199.1.2.2.1 0)) then
      some (((((0, 0, 0, 0, 0, 0, ()), ((0, 0, 0, 0, 0, 0, ()), (0, 0, 0, 0, 0, 0, ()), (0, 0, 0, 0, 0, 0, ()), (0, 0, 0, 0, 0, 0, ()), (0, 0, 0, 0, 0, 0, ()), (0, 0, 0, 0, 0, 0, ()), ()), ()) : ((Vec 6 Nat) × ((Vec 6 (Vec 6 Nat)) × Unit))), false, y199.1.2.2.1, ()), ())
    else some ((y199.1.1, false, (0 : Int), ()), ())
  else
  bif inB a2.2.2.2.1 (List.length a0.2.2.1) then
    (impl_RangeClue a1 (List.getD a0.2.2.1 a2.2.2.2.1.toNat ((0, 0, 0, ()) : (Vec 3 Nat))) a2.2.2.2.2.1 (1056964608 : Nat)).bind fun y202 =>
    bif (! (iEq y202.1.2.1 0)) then some ((a1, false, (0 : Int), ()), ()) else
    (impl_UpdateGated a1 y202.1.1 (1091567616 : Nat)).bind fun y204 =>
    some ((y204.1.1, y204.1.2.1, y204.1.2.2.1, ()), ())
  else none
noncomputable def impl_takeEntry_sg : Sig := ⟨[.v (.pair (.int .i64) (.pair (.arr 3 (.flt .f32)) (.pair (.list (.arr 3 (.flt .f32))) (.pair (.list (.pair (.int .i64) (.pair (.arr 3 (.flt .f32)) (.pair (.arr 3 (.int .i16)) (.pair (.int .i64) (.pair (.flt .f32) (.unit))))))) (.unit))))), .v (.pair (.arr 6 (.flt .f32)) (.pair (.arr 6 (.arr 6 (.flt .f32))) (.unit))), .v (.pair (.int .i64) (.pair (.arr 3 (.flt .f32)) (.pair (.arr 3 (.int .i16)) (.pair (.int .i64) (.pair (.flt .f32) (.unit))))))], [.v (.val (.pair (.arr 6 (.flt .f32)) (.pair (.arr 6 (.arr 6 (.flt .f32))) (.unit)))), .v (.val (.bool)), .v (.val (.int .i64))], false⟩
noncomputable def impl_takeEntry_en : Entry := ⟨impl_takeEntry_sg, fun x => impl_takeEntry x.1 x.2.1 x.2.2.1⟩
theorem impl_takeEntry_eq (x : impl_takeEntry_sg.dom) : body (env [(173, impl_Predict_en), (174, impl_clueFor_en), (175, impl_UpdateAll_en), (176, impl_vecOfCounts_en), (177, impl_FixSensor_en), (178, impl_UpdateGated_en), (179, impl_RangeClue_en)]) [(8, .unroll 4), (17, .unroll 4)] Tryz.f103 impl_takeEntry_sg x = impl_takeEntry x.1 x.2.1 x.2.2.1 := by kernel_rfl
theorem impl_takeEntry_so : Sound Tryz.prog 103 impl_takeEntry_en := sound_of_body (envS (l := [(173, impl_Predict_en), (174, impl_clueFor_en), (175, impl_UpdateAll_en), (176, impl_vecOfCounts_en), (177, impl_FixSensor_en), (178, impl_UpdateGated_en), (179, impl_RangeClue_en)]) (⟨impl_Predict_so, impl_clueFor_so, impl_UpdateAll_so, impl_vecOfCounts_so, impl_FixSensor_so, impl_UpdateGated_so, impl_RangeClue_so, trivial⟩)) Tryz.func103 (by kernel_rfl) rfl (fun x y h => (impl_takeEntry_eq x).trans h)

-- loop.example/g01204/impl.TakeEntry
noncomputable def impl_TakeEntry (a0 : (Int × ((Vec 3 Nat) × ((List (Vec 3 Nat)) × ((List (Int × ((Vec 3 Nat) × ((Vec 3 Int) × (Int × (Nat × Unit)))))) × Unit))))) (a1 : ((Vec 6 Nat) × ((Vec 6 (Vec 6 Nat)) × Unit))) (a2 : (Int × ((Vec 3 Nat) × ((Vec 3 Int) × (Int × (Nat × Unit)))))) : Option ((((Vec 6 Nat) × ((Vec 6 (Vec 6 Nat)) × Unit)) × Bool × Int × Unit) × Unit) :=
  (impl_ValidLog a0).bind fun y18 =>
  bif (! y18.1.1) then
    some (((((0, 0, 0, 0, 0, 0, ()), ((0, 0, 0, 0, 0, 0, ()), (0, 0, 0, 0, 0, 0, ()), (0, 0, 0, 0, 0, 0, ()), (0, 0, 0, 0, 0, 0, ()), (0, 0, 0, 0, 0, 0, ()), (0, 0, 0, 0, 0, 0, ()), ()), ()) : ((Vec 6 Nat) × ((Vec 6 (Vec 6 Nat)) × Unit))), false, (1 : Int), ()), ())
  else
  (impl_ValidState a1).bind fun y20 =>
  bif (! y20.1.1) then
    some (((((0, 0, 0, 0, 0, 0, ()), ((0, 0, 0, 0, 0, 0, ()), (0, 0, 0, 0, 0, 0, ()), (0, 0, 0, 0, 0, 0, ()), (0, 0, 0, 0, 0, 0, ()), (0, 0, 0, 0, 0, 0, ()), (0, 0, 0, 0, 0, 0, ()), ()), ()) : ((Vec 6 Nat) × ((Vec 6 (Vec 6 Nat)) × Unit))), false, (1 : Int), ()), ())
  else
  (impl_validEntry a2 (lenI a0.2.2.1)).bind fun y22 =>
  bif (! y22.1.1) then
    some (((((0, 0, 0, 0, 0, 0, ()), ((0, 0, 0, 0, 0, 0, ()), (0, 0, 0, 0, 0, 0, ()), (0, 0, 0, 0, 0, 0, ()), (0, 0, 0, 0, 0, 0, ()), (0, 0, 0, 0, 0, 0, ()), (0, 0, 0, 0, 0, 0, ()), ()), ()) : ((Vec 6 Nat) × ((Vec 6 (Vec 6 Nat)) × Unit))), false, (1 : Int), ()), ())
  else
  (impl_takeEntry a0 a1 a2).bind fun y24 =>
  some ((y24.1.1, y24.1.2.1, y24.1.2.2.1, ()), ())
noncomputable def impl_TakeEntry_sg : Sig := ⟨[.v (.pair (.int .i64) (.pair (.arr 3 (.flt .f32)) (.pair (.list (.arr 3 (.flt .f32))) (.pair (.list (.pair (.int .i64) (.pair (.arr 3 (.flt .f32)) (.pair (.arr 3 (.int .i16)) (.pair (.int .i64) (.pair (.flt .f32) (.unit))))))) (.unit))))), .v (.pair (.arr 6 (.flt .f32)) (.pair (.arr 6 (.arr 6 (.flt .f32))) (.unit))), .v (.pair (.int .i64) (.pair (.arr 3 (.flt .f32)) (.pair (.arr 3 (.int .i16)) (.pair (.int .i64) (.pair (.flt .f32) (.unit))))))], [.v (.val (.pair (.arr 6 (.flt .f32)) (.pair (.arr 6 (.arr 6 (.flt .f32))) (.unit)))), .v (.val (.bool)), .v (.val (.int .i64))], false⟩
noncomputable def impl_TakeEntry_en : Entry := ⟨impl_TakeEntry_sg, fun x => impl_TakeEntry x.1 x.2.1 x.2.2.1⟩
theorem impl_TakeEntry_eq (x : impl_TakeEntry_sg.dom) : body (env [(100, impl_ValidLog_en), (101, impl_ValidState_en), (102, impl_validEntry_en), (103, impl_takeEntry_en)]) [] Tryz.f32 impl_TakeEntry_sg x = impl_TakeEntry x.1 x.2.1 x.2.2.1 := by kernel_rfl
theorem impl_TakeEntry_so : Sound Tryz.prog 32 impl_TakeEntry_en := sound_of_body (envS (l := [(100, impl_ValidLog_en), (101, impl_ValidState_en), (102, impl_validEntry_en), (103, impl_takeEntry_en)]) (⟨impl_ValidLog_so, impl_ValidState_so, impl_validEntry_so, impl_takeEntry_so, trivial⟩)) Tryz.func32 (by kernel_rfl) rfl (fun x y h => (impl_TakeEntry_eq x).trans h)

-- loop.example/g01204/laws.eqCounts
noncomputable def laws_eqCounts (a0 : (Vec 3 Int)) (a1 : (Vec 3 Int)) : Option ((Bool × Unit) × Unit) :=
  bif (! (iEq (Vec.getD 3 a0 0 (0 : Int)) (Vec.getD 3 a1 0 (0 : Int)))) then some ((false, ()), ()) else
  bif (! (iEq (Vec.getD 3 a0 1 (0 : Int)) (Vec.getD 3 a1 1 (0 : Int)))) then some ((false, ()), ()) else
  bif (! (iEq (Vec.getD 3 a0 2 (0 : Int)) (Vec.getD 3 a1 2 (0 : Int)))) then some ((false, ()), ()) else some ((true, ()), ())
noncomputable def laws_eqCounts_sg : Sig := ⟨[.v (.arr 3 (.int .i16)), .v (.arr 3 (.int .i16))], [.v (.val (.bool))], false⟩
noncomputable def laws_eqCounts_en : Entry := ⟨laws_eqCounts_sg, fun x => laws_eqCounts x.1 x.2.1⟩
theorem laws_eqCounts_eq (x : laws_eqCounts_sg.dom) : body (env []) [(2, .unroll 4)] Tryz.f238 laws_eqCounts_sg x = laws_eqCounts x.1 x.2.1 := by kernel_rfl
theorem laws_eqCounts_so : Sound Tryz.prog 238 laws_eqCounts_en := sound_of_body (envS (l := []) (trivial)) Tryz.func238 (by kernel_rfl) rfl (fun x y h => (laws_eqCounts_eq x).trans h)

-- loop.example/g01204/laws.sameFloat
noncomputable def laws_sameFloat (a0 : Nat) (a1 : Nat) : Option ((Bool × Unit) × Unit) :=
  bif (! (fEq .f64 a0 a0)) then
    bif (! (fEq .f64 a0 a0)) then
      some (((! (fEq .f64 a1 a1)), ()), ())
    else some ((false, ()), ())
  else
  bif (! (fEq .f64 a1 a1)) then
    bif (! (fEq .f64 a0 a0)) then
      some (((! (fEq .f64 a1 a1)), ()), ())
    else some ((false, ()), ())
  else
  bif (fEq .f64 a0 0) then
    bif (fEq .f64 a1 0) then
      some (((bEq (fLt .f64 0 (fDiv .f64 4607182418800017408 a0)) (fLt .f64 0 (fDiv .f64 4607182418800017408 a1))), ()), ())
    else
    some (((fEq .f64 a0 a1), ()), ())
  else
  some (((fEq .f64 a0 a1), ()), ())
noncomputable def laws_sameFloat_sg : Sig := ⟨[.v (.flt .f64), .v (.flt .f64)], [.v (.val (.bool))], false⟩
noncomputable def laws_sameFloat_en : Entry := ⟨laws_sameFloat_sg, fun x => laws_sameFloat x.1 x.2.1⟩
theorem laws_sameFloat_eq (x : laws_sameFloat_sg.dom) : body (env []) [] Tryz.f49 laws_sameFloat_sg x = laws_sameFloat x.1 x.2.1 := by kernel_rfl
theorem laws_sameFloat_so : Sound Tryz.prog 49 laws_sameFloat_en := sound_of_body (envS (l := []) (trivial)) Tryz.func49 (by kernel_rfl) rfl (fun x y h => (laws_sameFloat_eq x).trans h)

-- loop.example/g01204/laws.eqVec
noncomputable def laws_eqVec (a0 : (Vec 3 Nat)) (a1 : (Vec 3 Nat)) : Option ((Bool × Unit) × Unit) :=
  (fConv .f32 .f64 (Vec.getD 3 a0 0 (0 : Nat))).bind fun y967 =>
  (fConv .f32 .f64 (Vec.getD 3 a1 0 (0 : Nat))).bind fun y969 =>
  (laws_sameFloat y967 y969).bind fun y970 =>
  bif (! y970.1.1) then some ((false, ()), ()) else
  (fConv .f32 .f64 (Vec.getD 3 a0 1 (0 : Nat))).bind fun y973 =>
  (fConv .f32 .f64 (Vec.getD 3 a1 1 (0 : Nat))).bind fun y975 =>
  (laws_sameFloat y973 y975).bind fun y976 =>
  bif (! y976.1.1) then some ((false, ()), ()) else
  (fConv .f32 .f64 (Vec.getD 3 a0 2 (0 : Nat))).bind fun y979 =>
  (fConv .f32 .f64 (Vec.getD 3 a1 2 (0 : Nat))).bind fun y981 =>
  (laws_sameFloat y979 y981).bind fun y982 =>
  bif (! y982.1.1) then some ((false, ()), ()) else some ((true, ()), ())
noncomputable def laws_eqVec_sg : Sig := ⟨[.v (.arr 3 (.flt .f32)), .v (.arr 3 (.flt .f32))], [.v (.val (.bool))], false⟩
noncomputable def laws_eqVec_en : Entry := ⟨laws_eqVec_sg, fun x => laws_eqVec x.1 x.2.1⟩
theorem laws_eqVec_eq (x : laws_eqVec_sg.dom) : body (env [(49, laws_sameFloat_en)]) [(2, .unroll 4)] Tryz.f106 laws_eqVec_sg x = laws_eqVec x.1 x.2.1 := by kernel_rfl
theorem laws_eqVec_so : Sound Tryz.prog 106 laws_eqVec_en := sound_of_body (envS (l := [(49, laws_sameFloat_en)]) (⟨laws_sameFloat_so, trivial⟩)) Tryz.func106 (by kernel_rfl) rfl (fun x y h => (laws_eqVec_eq x).trans h)

-- loop.example/g01204/laws.eqEntry
noncomputable def laws_eqEntry (a0 : (Int × ((Vec 3 Nat) × ((Vec 3 Int) × (Int × (Nat × Unit)))))) (a1 : (Int × ((Vec 3 Nat) × ((Vec 3 Int) × (Int × (Nat × Unit)))))) : Option ((Bool × Unit) × Unit) :=
  bif (! (iEq a0.1 a1.1)) then some ((false, ()), ()) else
  (laws_eqVec a0.2.1 a1.2.1).bind fun y948 =>
  bif (! y948.1.1) then some ((false, ()), ()) else
  (laws_eqCounts a0.2.2.1 a1.2.2.1).bind fun y950 =>
  bif (! y950.1.1) then some ((false, ()), ()) else
  bif (! (iEq a0.2.2.2.1 a1.2.2.2.1)) then some ((false, ()), ()) else
  (fConv .f32 .f64 a0.2.2.2.2.1).bind fun y953 =>
  (fConv .f32 .f64 a1.2.2.2.2.1).bind fun y954 =>
  (laws_sameFloat y953 y954).bind fun y955 =>
  bif (! y955.1.1) then some ((false, ()), ()) else some ((true, ()), ())
noncomputable def laws_eqEntry_sg : Sig := ⟨[.v (.pair (.int .i64) (.pair (.arr 3 (.flt .f32)) (.pair (.arr 3 (.int .i16)) (.pair (.int .i64) (.pair (.flt .f32) (.unit)))))), .v (.pair (.int .i64) (.pair (.arr 3 (.flt .f32)) (.pair (.arr 3 (.int .i16)) (.pair (.int .i64) (.pair (.flt .f32) (.unit))))))], [.v (.val (.bool))], false⟩
noncomputable def laws_eqEntry_en : Entry := ⟨laws_eqEntry_sg, fun x => laws_eqEntry x.1 x.2.1⟩
theorem laws_eqEntry_eq (x : laws_eqEntry_sg.dom) : body (env [(49, laws_sameFloat_en), (106, laws_eqVec_en), (238, laws_eqCounts_en)]) [] Tryz.f181 laws_eqEntry_sg x = laws_eqEntry x.1 x.2.1 := by kernel_rfl
theorem laws_eqEntry_so : Sound Tryz.prog 181 laws_eqEntry_en := sound_of_body (envS (l := [(49, laws_sameFloat_en), (106, laws_eqVec_en), (238, laws_eqCounts_en)]) (⟨laws_sameFloat_so, laws_eqVec_so, laws_eqCounts_so, trivial⟩)) Tryz.func181 (by kernel_rfl) rfl (fun x y h => (laws_eqEntry_eq x).trans h)

end Go.Proofs.YtjahnpagogpffaaGreat
