import Derived.Test.YtpblnidbjglgmaaF1
/- Functions on typed data: what the evaluation of each Go function is, and that it is sound. -/
namespace Go.Proofs.Ytpblnidbjglgmaa
open Go Go.Tm
set_option linter.unusedVariables false
set_option maxRecDepth 100000
-- loop.example/g01204/spec.l01Vec
noncomputable def spec_l01Vec (a0 : (Vec 3 Nat)) : Option ((Bool × Unit) × Unit) :=
  (spec_l01Finite (Vec.getD 3 a0 0 (0 : Nat))).bind fun y695 =>
  bif y695.1.1 then
    (spec_l01Finite (Vec.getD 3 a0 1 (0 : Nat))).bind fun y697 =>
    bif y697.1.1 then
      (spec_l01Finite (Vec.getD 3 a0 2 (0 : Nat))).bind fun y699 =>
      some ((y699.1.1, ()), ())
    else some ((false, ()), ())
  else some ((false, ()), ())
noncomputable def spec_l01Vec_sg : Sig := ⟨[.v (.arr 3 (.flt .f32))], [.v (.val (.bool))], false⟩
noncomputable def spec_l01Vec_en : Entry := ⟨spec_l01Vec_sg, fun x => spec_l01Vec x.1⟩
theorem spec_l01Vec_eq (x : spec_l01Vec_sg.dom) : body (env [(134, spec_l01Finite_en)]) [] Try.f143 spec_l01Vec_sg x = spec_l01Vec x.1 := by kernel_rfl
theorem spec_l01Vec_so : Sound Try.prog 143 spec_l01Vec_en := sound_of_body (envS (l := [(134, spec_l01Finite_en)]) (⟨spec_l01Finite_so, trivial⟩)) Try.func143 (by kernel_rfl) rfl (fun x y h => (spec_l01Vec_eq x).trans h)

-- loop.example/g01204/spec.l08Frame
noncomputable def spec_l08Frame_l4 (a2 : (List (Vec 3 Nat))) (s705 : (Int × Unit)) : Option ((Int × Unit) ⊕ ((Bool × Unit) × Unit)) :=
  bif (iLt s705.1 (lenI a2)) then
    bif inB s705.1 (List.length a2) then
      (spec_l01Vec (List.getD a2 s705.1.toNat ((0, 0, 0, ()) : (Vec 3 Nat)))).bind fun y708 =>
      bif (! y708.1.1) then
        Option.map Sum.inr (some ((false, ()), ()))
      else
      some (Sum.inl ((iAdd .i64 s705.1 1), ()))
    else none
  else
  Option.map Sum.inr (some ((true, ()), ()))
noncomputable def spec_l08Frame (a0 : Int) (a1 : (Vec 3 Nat)) (a2 : (List (Vec 3 Nat))) : Option ((Bool × Unit) × Unit) :=
  (spec_l00In a0 (1 : Int) (64 : Int)).bind fun y700 =>
  bif (! y700.1.1) then some ((false, ()), ()) else
  (spec_l01Vec a1).bind fun y702 =>
  bif (! y702.1.1) then some ((false, ()), ()) else
  bif (iLt 6 (lenI a2)) then some ((false, ()), ()) else run (spec_l08Frame_l4 a2) ((0 : Int), ())
noncomputable def spec_l08Frame_sg : Sig := ⟨[.v (.int .i64), .v (.arr 3 (.flt .f32)), .v (.list (.arr 3 (.flt .f32)))], [.v (.val (.bool))], false⟩
noncomputable def spec_l08Frame_en : Entry := ⟨spec_l08Frame_sg, fun x => spec_l08Frame x.1 x.2.1 x.2.2.1⟩
theorem spec_l08Frame_eq (x : spec_l08Frame_sg.dom) : body (env [(127, spec_l00In_en), (143, spec_l01Vec_en)]) [(4, .vary [(7, .sc (.int .i64))])] Try.f142 spec_l08Frame_sg x = spec_l08Frame x.1 x.2.1 x.2.2.1 := by kernel_rfl
theorem spec_l08Frame_so : Sound Try.prog 142 spec_l08Frame_en := sound_of_body (envS (l := [(127, spec_l00In_en), (143, spec_l01Vec_en)]) (⟨spec_l00In_so, spec_l01Vec_so, trivial⟩)) Try.func142 (by kernel_rfl) rfl (fun x y h => (spec_l08Frame_eq x).trans h)

-- loop.example/g01204/spec.l08Ok
noncomputable def spec_l08Ok_l5 (a0 : (Int × ((Vec 3 Nat) × ((List (Vec 3 Nat)) × ((List (Int × ((Vec 3 Nat) × (Int × (Int × Unit))))) × Unit))))) (s675 : (Int × Int × Unit)) : Option ((Int × Int × Unit) ⊕ ((Bool × Unit) × Unit)) :=
  bif (iLt s675.2.1 (lenI a0.2.2.2.1)) then
    bif inB s675.2.1 (List.length a0.2.2.2.1) then
      (spec_l00In ((List.getD a0.2.2.2.1 s675.2.1.toNat ((0, (0, 0, 0, ()), 0, 0, ()) : (Int × ((Vec 3 Nat) × (Int × (Int × Unit)))))).1) (1 : Int) (400 : Int)).bind fun y678 =>
      bif (! y678.1.1) then
        Option.map Sum.inr (some ((false, ()), ()))
      else
      (spec_l01Vec (((List.getD a0.2.2.2.1 s675.2.1.toNat ((0, (0, 0, 0, ()), 0, 0, ()) : (Int × ((Vec 3 Nat) × (Int × (Int × Unit)))))).2).1)).bind fun y681 =>
      bif (! y681.1.1) then
        Option.map Sum.inr (some ((false, ()), ()))
      else
      (spec_l00In ((((List.getD a0.2.2.2.1 s675.2.1.toNat ((0, (0, 0, 0, ()), 0, 0, ()) : (Int × ((Vec 3 Nat) × (Int × (Int × Unit)))))).2).2).1) (0 : Int) (400 : Int)).bind fun y684 =>
      bif (! y684.1.1) then
        Option.map Sum.inr (some ((false, ()), ()))
      else
      (spec_l00In (((((List.getD a0.2.2.2.1 s675.2.1.toNat ((0, (0, 0, 0, ()), 0, 0, ()) : (Int × ((Vec 3 Nat) × (Int × (Int × Unit)))))).2).2).2).1) ((-1 : Int) : Int) (iSub .i64 (lenI a0.2.2.1) 1)).bind fun y688 =>
      bif (! y688.1.1) then
        Option.map Sum.inr (some ((false, ()), ()))
      else
      some (Sum.inl ((iAdd .i64 s675.1 ((List.getD a0.2.2.2.1 s675.2.1.toNat ((0, (0, 0, 0, ()), 0, 0, ()) : (Int × ((Vec 3 Nat) × (Int × (Int × Unit)))))).1)), (iAdd .i64 s675.2.1 1), ()))
    else none
  else
  Option.map Sum.inr (some (((iLe s675.1 400), ()), ()))
noncomputable def spec_l08Ok (a0 : (Int × ((Vec 3 Nat) × ((List (Vec 3 Nat)) × ((List (Int × ((Vec 3 Nat) × (Int × (Int × Unit))))) × Unit))))) : Option ((Bool × Unit) × Unit) :=
  (spec_l08Frame a0.1 a0.2.1 a0.2.2.1).bind fun y672 =>
  bif (! y672.1.1) then some ((false, ()), ()) else
  bif (iLt 64 (lenI a0.2.2.2.1)) then some ((false, ()), ()) else run (spec_l08Ok_l5 a0) ((0 : Int), (0 : Int), ())
noncomputable def spec_l08Ok_sg : Sig := ⟨[.ro (.pair (.int .i64) (.pair (.arr 3 (.flt .f32)) (.pair (.list (.arr 3 (.flt .f32))) (.pair (.list (.pair (.int .i64) (.pair (.arr 3 (.flt .f32)) (.pair (.int .i64) (.pair (.int .i64) (.unit)))))) (.unit)))))], [.v (.val (.bool))], false⟩
noncomputable def spec_l08Ok_en : Entry := ⟨spec_l08Ok_sg, fun x => spec_l08Ok x.1⟩
theorem spec_l08Ok_eq (x : spec_l08Ok_sg.dom) : body (env [(127, spec_l00In_en), (142, spec_l08Frame_en), (143, spec_l01Vec_en)]) [(5, .vary [(3, .sc (.int .i64)), (4, .sc (.int .i64))])] Try.f91 spec_l08Ok_sg x = spec_l08Ok x.1 := by kernel_rfl
theorem spec_l08Ok_so : Sound Try.prog 91 spec_l08Ok_en := sound_of_body (envS (l := [(127, spec_l00In_en), (142, spec_l08Frame_en), (143, spec_l01Vec_en)]) (⟨spec_l00In_so, spec_l08Frame_so, spec_l01Vec_so, trivial⟩)) Try.func91 (by kernel_rfl) rfl (fun x y h => (spec_l08Ok_eq x).trans h)

-- loop.example/g01204/spec.ValidMission
noncomputable def spec_ValidMission (a0 : (Int × ((Vec 3 Nat) × ((List (Vec 3 Nat)) × ((List (Int × ((Vec 3 Nat) × (Int × (Int × Unit))))) × Unit))))) : Option ((Bool × Unit) × Unit) :=
  (spec_l08Ok a0).bind fun y671 =>
  some ((y671.1.1, ()), ())
noncomputable def spec_ValidMission_sg : Sig := ⟨[.v (.pair (.int .i64) (.pair (.arr 3 (.flt .f32)) (.pair (.list (.arr 3 (.flt .f32))) (.pair (.list (.pair (.int .i64) (.pair (.arr 3 (.flt .f32)) (.pair (.int .i64) (.pair (.int .i64) (.unit)))))) (.unit)))))], [.v (.val (.bool))], false⟩
noncomputable def spec_ValidMission_en : Entry := ⟨spec_ValidMission_sg, fun x => spec_ValidMission x.1⟩
theorem spec_ValidMission_eq (x : spec_ValidMission_sg.dom) : body (env [(91, spec_l08Ok_en)]) [] Try.f36 spec_ValidMission_sg x = spec_ValidMission x.1 := by kernel_rfl
theorem spec_ValidMission_so : Sound Try.prog 36 spec_ValidMission_en := sound_of_body (envS (l := [(91, spec_l08Ok_en)]) (⟨spec_l08Ok_so, trivial⟩)) Try.func36 (by kernel_rfl) rfl (fun x y h => (spec_ValidMission_eq x).trans h)

-- loop.example/g01204/laws.FnExactValidMission
noncomputable def laws_FnExactValidMission (a0 : (Int × ((Vec 3 Nat) × ((List (Vec 3 Nat)) × ((List (Int × ((Vec 3 Nat) × (Int × (Int × Unit))))) × Unit))))) : Option ((Bool × Unit) × Unit) :=
  (laws_szMission a0 (1048576 : Int)).bind fun y622 =>
  bif (iLt y622.1.1 0) then some ((true, ()), ()) else
  (laws_toMission a0).bind fun y624 =>
  (spec_ValidMission ((y624.1.1.1, y624.1.1.2.1, y624.1.1.2.2.1, y624.1.1.2.2.2.1, y624.1.1.2.2.2.2) : (Int × ((Vec 3 Nat) × ((List (Vec 3 Nat)) × ((List (Int × ((Vec 3 Nat) × (Int × (Int × Unit))))) × Unit)))))).bind fun y625 =>
  (laws_toMission a0).bind fun y626 =>
  (impl_ValidMission ((y626.1.1.1, y626.1.1.2.1, y626.1.1.2.2.1, y626.1.1.2.2.2.1, y626.1.1.2.2.2.2) : (Int × ((Vec 3 Nat) × ((List (Vec 3 Nat)) × ((List (Int × ((Vec 3 Nat) × (Int × (Int × Unit))))) × Unit)))))).bind fun y627 =>
  bif (! (bEq y627.1.1 y625.1.1)) then some ((false, ()), ()) else
  (laws_toMission a0).bind fun y629 =>
  (laws_eqMission ((y626.1.1.1, y626.1.1.2.1, y626.1.1.2.2.1, y626.1.1.2.2.2.1, y626.1.1.2.2.2.2) : (Int × ((Vec 3 Nat) × ((List (Vec 3 Nat)) × ((List (Int × ((Vec 3 Nat) × (Int × (Int × Unit))))) × Unit))))) ((y629.1.1.1, y629.1.1.2.1, y629.1.1.2.2.1, y629.1.1.2.2.2.1, y629.1.1.2.2.2.2) : (Int × ((Vec 3 Nat) × ((List (Vec 3 Nat)) × ((List (Int × ((Vec 3 Nat) × (Int × (Int × Unit))))) × Unit)))))).bind fun y630 =>
  bif (! y630.1.1) then some ((false, ()), ()) else some ((true, ()), ())
noncomputable def laws_FnExactValidMission_sg : Sig := ⟨[.v (.pair (.int .i64) (.pair (.arr 3 (.flt .f32)) (.pair (.list (.arr 3 (.flt .f32))) (.pair (.list (.pair (.int .i64) (.pair (.arr 3 (.flt .f32)) (.pair (.int .i64) (.pair (.int .i64) (.unit)))))) (.unit)))))], [.v (.val (.bool))], false⟩
noncomputable def laws_FnExactValidMission_en : Entry := ⟨laws_FnExactValidMission_sg, fun x => laws_FnExactValidMission x.1⟩
theorem laws_FnExactValidMission_eq (x : laws_FnExactValidMission_sg.dom) : body (env [(29, laws_szMission_en), (31, laws_toMission_en), (33, laws_eqMission_en), (36, spec_ValidMission_en), (37, impl_ValidMission_en)]) [] Try.f7 laws_FnExactValidMission_sg x = laws_FnExactValidMission x.1 := by kernel_rfl
theorem laws_FnExactValidMission_so : Sound Try.prog 7 laws_FnExactValidMission_en := sound_of_body (envS (l := [(29, laws_szMission_en), (31, laws_toMission_en), (33, laws_eqMission_en), (36, spec_ValidMission_en), (37, impl_ValidMission_en)]) (⟨laws_szMission_so, laws_toMission_so, laws_eqMission_so, spec_ValidMission_so, impl_ValidMission_so, trivial⟩)) Try.func7 (by kernel_rfl) rfl (fun x y h => (laws_FnExactValidMission_eq x).trans h)

-- loop.example/g01204/impl.quotient
noncomputable def impl_quotient (a0 : Int) (a1 : Int) : Option ((Int × Unit) × Unit) :=
  bif iEq a1 0 then none else
  let x770 := iQuo .i64 a0 a1
  bif iEq a1 0 then none else
  bif (iLt (iRem .i64 a0 a1) 0) then
    some (((iSub .i64 x770 1), ()), ())
  else some ((x770, ()), ())
noncomputable def impl_quotient_sg : Sig := ⟨[.v (.int .i64), .v (.int .i64)], [.v (.val (.int .i64))], false⟩
noncomputable def impl_quotient_en : Entry := ⟨impl_quotient_sg, fun x => impl_quotient x.1 x.2.1⟩
theorem impl_quotient_eq (x : impl_quotient_sg.dom) : body (env []) [] Try.f178 impl_quotient_sg x = impl_quotient x.1 x.2.1 := by kernel_rfl
theorem impl_quotient_so : Sound Try.prog 178 impl_quotient_en := sound_of_body (envS (l := []) (trivial)) Try.func178 (by kernel_rfl) rfl (fun x y h => (impl_quotient_eq x).trans h)

-- loop.example/g01204/impl.spotsBetween
noncomputable def impl_spotsBetween_l6 (x751 : Int) (x745 : Int) (x748 : Int) (x740 : Int) (x742 : Int) (s752 : ((List (Vec 2 Int)) × Int × Unit)) : Option (((List (Vec 2 Int)) × Int × Unit) ⊕ (((List (Vec 2 Int)) × Unit) × Unit)) :=
  bif (iLe s752.2.1 x751) then
    (impl_quotient (iAdd .i64 (iMul .i64 (iMul .i64 2 s752.2.1) x745) x751) (iMul .i64 2 x751)).bind fun y758 =>
    (impl_quotient (iAdd .i64 (iMul .i64 (iMul .i64 2 s752.2.1) x748) x751) (iMul .i64 2 x751)).bind fun y765 =>
    bif room (List.length s752.1 + 1) 4 then
      some (Sum.inl ((s752.1 ++ ([((iWrap .i16 (iAdd .i64 x740 y758.1.1)), (iWrap .i16 (iAdd .i64 x742 y765.1.1)), ())] : (List (Vec 2 Int)))), (iAdd .i64 s752.2.1 1), ()))
    else none
  else
  Option.map Sum.inr (some ((s752.1, ()), ()))
noncomputable def impl_spotsBetween (a0 : (Vec 2 Int)) (a1 : (Vec 2 Int)) : Option (((List (Vec 2 Int)) × Unit) × Unit) :=
  let x740 := iWrap .i64 (Vec.getD 2 a0 0 (0 : Int))
  let x742 := iWrap .i64 (Vec.getD 2 a0 1 (0 : Int))
  let x745 := iSub .i64 (iWrap .i64 (Vec.getD 2 a1 0 (0 : Int))) x740
  let x748 := iSub .i64 (iWrap .i64 (Vec.getD 2 a1 1 (0 : Int))) x742
  let x751 := iMax (iMax (iMax x745 (iSub .i64 0 x745)) x748) (iSub .i64 0 x748)
  run (impl_spotsBetween_l6 x751 x745 x748 x740 x742) (([a0] : (List (Vec 2 Int))), (1 : Int), ())
noncomputable def impl_spotsBetween_sg : Sig := ⟨[.v (.arr 2 (.int .i16)), .v (.arr 2 (.int .i16))], [.v (.rows (.arr 2 (.int .i16)))], false⟩
noncomputable def impl_spotsBetween_en : Entry := ⟨impl_spotsBetween_sg, fun x => impl_spotsBetween x.1 x.2.1⟩
theorem impl_spotsBetween_eq (x : impl_spotsBetween_sg.dom) : body (env [(178, impl_quotient_en)]) [(6, .vary [(10, .rows (.arr 2 (.int .i16))), (11, .sc (.int .i64))])] Try.f149 impl_spotsBetween_sg x = impl_spotsBetween x.1 x.2.1 := by kernel_rfl
theorem impl_spotsBetween_so : Sound Try.prog 149 impl_spotsBetween_en := sound_of_body (envS (l := [(178, impl_quotient_en)]) (⟨impl_quotient_so, trivial⟩)) Try.func149 (by kernel_rfl) rfl (fun x y h => (impl_spotsBetween_eq x).trans h)

-- (loop.example/g01204/impl.Grid).sees
noncomputable def impl_Grid_sees_l5 (y729 : (((List (Vec 2 Int)) × Unit) × Unit)) (a0 : (Int × (Int × ((List Int) × Unit)))) (s731 : (Int × Unit)) : Option ((Int × Unit) ⊕ ((Bool × Unit) × Unit)) :=
  bif (iLt s731.1 (lenI y729.1.1)) then
    let x733 := iSub .i64 s731.1 1
    bif inB x733 (List.length y729.1.1) then
      bif inB s731.1 (List.length y729.1.1) then
        (impl_Grid_stepCost a0 (List.getD y729.1.1 x733.toNat ((0, 0, ()) : (Vec 2 Int))) (List.getD y729.1.1 s731.1.toNat ((0, 0, ()) : (Vec 2 Int)))).bind fun y736 =>
        bif (! y736.1.2.1) then
          Option.map Sum.inr (some ((false, ()), ()))
        else
        some (Sum.inl ((iAdd .i64 s731.1 1), ()))
      else none
    else none
  else
  Option.map Sum.inr (some ((true, ()), ()))
noncomputable def impl_Grid_sees (a0 : (Int × (Int × ((List Int) × Unit)))) (a1 : (Vec 2 Int)) (a2 : (Vec 2 Int)) : Option ((Bool × Unit) × Unit) :=
  (impl_spotsBetween a1 a2).bind fun y729 =>
  (impl_Grid_isWall a0 a1).bind fun y730 =>
  bif y730.1.1 then some ((false, ()), ()) else run (impl_Grid_sees_l5 y729 a0) ((1 : Int), ())
noncomputable def impl_Grid_sees_sg : Sig := ⟨[.v (.pair (.int .i64) (.pair (.int .i64) (.pair (.list (.int .u8)) (.unit)))), .v (.arr 2 (.int .i16)), .v (.arr 2 (.int .i16))], [.v (.val (.bool))], false⟩
noncomputable def impl_Grid_sees_en : Entry := ⟨impl_Grid_sees_sg, fun x => impl_Grid_sees x.1 x.2.1 x.2.2.1⟩
theorem impl_Grid_sees_eq (x : impl_Grid_sees_sg.dom) : body (env [(132, impl_Grid_isWall_en), (133, impl_Grid_stepCost_en), (149, impl_spotsBetween_en)]) [(5, .vary [(8, .sc (.int .i64))])] Try.f99 impl_Grid_sees_sg x = impl_Grid_sees x.1 x.2.1 x.2.2.1 := by kernel_rfl
theorem impl_Grid_sees_so : Sound Try.prog 99 impl_Grid_sees_en := sound_of_body (envS (l := [(132, impl_Grid_isWall_en), (133, impl_Grid_stepCost_en), (149, impl_spotsBetween_en)]) (⟨impl_Grid_isWall_so, impl_Grid_stepCost_so, impl_spotsBetween_so, trivial⟩)) Try.func99 (by kernel_rfl) rfl (fun x y h => (impl_Grid_sees_eq x).trans h)

-- loop.example/g01204/impl.checkSpots$1
noncomputable def impl_checkSpots_1 (a0 : (Vec 2 Int)) (a1 : (Int × (Int × ((List Int) × Unit)))) : Option ((Bool × Unit) × Unit) :=
  (impl_Grid_has a1 a0).bind fun y778 =>
  some (((! y778.1.1), ()), ())
noncomputable def impl_checkSpots_1_sg : Sig := ⟨[.v (.arr 2 (.int .i16)), .ro (.pair (.int .i64) (.pair (.int .i64) (.pair (.list (.int .u8)) (.unit))))], [.v (.val (.bool))], false⟩
noncomputable def impl_checkSpots_1_en : Entry := ⟨impl_checkSpots_1_sg, fun x => impl_checkSpots_1 x.1 x.2.1⟩
theorem impl_checkSpots_1_eq (x : impl_checkSpots_1_sg.dom) : body (env [(131, impl_Grid_has_en)]) [] Try.f148 impl_checkSpots_1_sg x = impl_checkSpots_1 x.1 x.2.1 := by kernel_rfl
theorem impl_checkSpots_1_so : Sound Try.prog 148 impl_checkSpots_1_en := sound_of_body (envS (l := [(131, impl_Grid_has_en)]) (⟨impl_Grid_has_so, trivial⟩)) Try.func148 (by kernel_rfl) rfl (fun x y h => (impl_checkSpots_1_eq x).trans h)

-- slices.IndexFunc[[]loop.example/g01204/impl.Spot,loop.example/g01204/impl.Spot]
noncomputable def slices_IndexFunc_impl_Spot_l2 (a0 : (List (Vec 2 Int))) (a1 : (((Vec 2 Int) × Unit) → Option Bool)) (s782 : (Int × Unit)) : Option ((Int × Unit) ⊕ ((Int × Unit) × Unit)) :=
  bif (iLt s782.1 (lenI a0)) then
    bif inB s782.1 (List.length a0) then
      (a1 ((List.getD a0 s782.1.toNat ((0, 0, ()) : (Vec 2 Int))), ())).bind fun y785 =>
      bif y785 then
        Option.map Sum.inr (some ((s782.1, ()), ()))
      else
      some (Sum.inl ((iAdd .i64 s782.1 1), ()))
    else none
  else
  Option.map Sum.inr (some ((((-1 : Int) : Int), ()), ()))
noncomputable def slices_IndexFunc_impl_Spot (a0 : (List (Vec 2 Int))) (a1 : (((Vec 2 Int) × Unit) → Option Bool)) : Option ((Int × Unit) × Unit) :=
  run (slices_IndexFunc_impl_Spot_l2 a0 a1) ((0 : Int), ())
noncomputable def slices_IndexFunc_impl_Spot_sg : Sig := ⟨[.v (.list (.arr 2 (.int .i16))), .fn ⟨[.arr 2 (.int .i16)], .bool⟩], [.v (.val (.int .i64))], false⟩
noncomputable def slices_IndexFunc_impl_Spot_en : Entry := ⟨slices_IndexFunc_impl_Spot_sg, fun x => slices_IndexFunc_impl_Spot x.1 x.2.1⟩
theorem slices_IndexFunc_impl_Spot_eq (x : slices_IndexFunc_impl_Spot_sg.dom) : body (env []) [(2, .vary [(8, .sc (.int .i64))])] Try.f177 slices_IndexFunc_impl_Spot_sg x = slices_IndexFunc_impl_Spot x.1 x.2.1 := by kernel_rfl
theorem slices_IndexFunc_impl_Spot_so : Sound Try.prog 177 slices_IndexFunc_impl_Spot_en := sound_of_body (envS (l := []) (trivial)) Try.func177 (by kernel_rfl) rfl (fun x y h => (slices_IndexFunc_impl_Spot_eq x).trans h)

-- slices.ContainsFunc[[]loop.example/g01204/impl.Spot,loop.example/g01204/impl.Spot]
noncomputable def slices_ContainsFunc_impl_Spot (a0 : (List (Vec 2 Int))) (a1 : (((Vec 2 Int) × Unit) → Option Bool)) : Option ((Bool × Unit) × Unit) :=
  (slices_IndexFunc_impl_Spot a0 a1).bind fun y780 =>
  some (((iLe 0 y780.1.1), ()), ())
noncomputable def slices_ContainsFunc_impl_Spot_sg : Sig := ⟨[.v (.list (.arr 2 (.int .i16))), .fn ⟨[.arr 2 (.int .i16)], .bool⟩], [.v (.val (.bool))], false⟩
noncomputable def slices_ContainsFunc_impl_Spot_en : Entry := ⟨slices_ContainsFunc_impl_Spot_sg, fun x => slices_ContainsFunc_impl_Spot x.1 x.2.1⟩
theorem slices_ContainsFunc_impl_Spot_eq (x : slices_ContainsFunc_impl_Spot_sg.dom) : body (env [(177, slices_IndexFunc_impl_Spot_en)]) [] Try.f147 slices_ContainsFunc_impl_Spot_sg x = slices_ContainsFunc_impl_Spot x.1 x.2.1 := by kernel_rfl
theorem slices_ContainsFunc_impl_Spot_so : Sound Try.prog 147 slices_ContainsFunc_impl_Spot_en := sound_of_body (envS (l := [(177, slices_IndexFunc_impl_Spot_en)]) (⟨slices_IndexFunc_impl_Spot_so, trivial⟩)) Try.func147 (by kernel_rfl) rfl (fun x y h => (slices_ContainsFunc_impl_Spot_eq x).trans h)

-- loop.example/g01204/impl.checkSpots
noncomputable def impl_checkSpots (a0 : (Int × (Int × ((List Int) × Unit)))) (a1 : (List (Vec 2 Int))) : Option ((Int × Unit) × Unit) :=
  (impl_ValidGrid a0).bind fun y774 =>
  bif (! y774.1.1) then some (((1 : Int), ()), ()) else
  (slices_ContainsFunc_impl_Spot a1 (fun (z776 : ((Vec 2 Int) × Unit)) => (impl_checkSpots_1 z776.1 a0).map fun y => y.1.1)).bind fun y777 =>
  bif y777.1.1 then some (((2 : Int), ()), ()) else some (((0 : Int), ()), ())
noncomputable def impl_checkSpots_sg : Sig := ⟨[.v (.pair (.int .i64) (.pair (.int .i64) (.pair (.list (.int .u8)) (.unit)))), .v (.list (.arr 2 (.int .i16)))], [.v (.val (.int .i64))], false⟩
noncomputable def impl_checkSpots_en : Entry := ⟨impl_checkSpots_sg, fun x => impl_checkSpots x.1 x.2.1⟩
theorem impl_checkSpots_eq (x : impl_checkSpots_sg.dom) : body (env [(68, impl_ValidGrid_en), (147, slices_ContainsFunc_impl_Spot_en), (148, impl_checkSpots_1_en)]) [] Try.f98 impl_checkSpots_sg x = impl_checkSpots x.1 x.2.1 := by kernel_rfl
theorem impl_checkSpots_so : Sound Try.prog 98 impl_checkSpots_en := sound_of_body (envS (l := [(68, impl_ValidGrid_en), (147, slices_ContainsFunc_impl_Spot_en), (148, impl_checkSpots_1_en)]) (⟨impl_ValidGrid_so, slices_ContainsFunc_impl_Spot_so, impl_checkSpots_1_so, trivial⟩)) Try.func98 (by kernel_rfl) rfl (fun x y h => (impl_checkSpots_eq x).trans h)

-- loop.example/g01204/impl.SeesSpot
noncomputable def impl_SeesSpot (a0 : (Int × (Int × ((List Int) × Unit)))) (a1 : (Vec 2 Int)) (a2 : (Vec 2 Int)) : Option ((Bool × Int × Unit) × Unit) :=
  (impl_checkSpots a0 ([a1, a2] : (List (Vec 2 Int)))).bind fun y726 =>
  bif (! (iEq y726.1.1 0)) then some ((false, y726.1.1, ()), ()) else
  (impl_Grid_sees a0 a1 a2).bind fun y728 =>
  some ((y728.1.1, (0 : Int), ()), ())
noncomputable def impl_SeesSpot_sg : Sig := ⟨[.v (.pair (.int .i64) (.pair (.int .i64) (.pair (.list (.int .u8)) (.unit)))), .v (.arr 2 (.int .i16)), .v (.arr 2 (.int .i16))], [.v (.val (.bool)), .v (.val (.int .i64))], false⟩
noncomputable def impl_SeesSpot_en : Entry := ⟨impl_SeesSpot_sg, fun x => impl_SeesSpot x.1 x.2.1 x.2.2.1⟩
theorem impl_SeesSpot_eq (x : impl_SeesSpot_sg.dom) : body (env [(98, impl_checkSpots_en), (99, impl_Grid_sees_en)]) [] Try.f40 impl_SeesSpot_sg x = impl_SeesSpot x.1 x.2.1 x.2.2.1 := by kernel_rfl
theorem impl_SeesSpot_so : Sound Try.prog 40 impl_SeesSpot_en := sound_of_body (envS (l := [(98, impl_checkSpots_en), (99, impl_Grid_sees_en)]) (⟨impl_checkSpots_so, impl_Grid_sees_so, trivial⟩)) Try.func40 (by kernel_rfl) rfl (fun x y h => (impl_SeesSpot_eq x).trans h)

-- loop.example/g01204/spec.l07Asked
noncomputable def spec_l07Asked_l4 (a1 : (List (Vec 2 Int))) (a0 : (Int × (Int × ((List Int) × Unit)))) (s792 : (Int × Unit)) : Option ((Int × Unit) ⊕ ((Int × Unit) × Unit)) :=
  bif (iLt s792.1 (lenI a1)) then
    bif inB s792.1 (List.length a1) then
      (spec_l07Spot a0 (List.getD a1 s792.1.toNat ((0, 0, ()) : (Vec 2 Int)))).bind fun y795 =>
      bif (! y795.1.1) then
        Option.map Sum.inr (some (((2 : Int), ()), ()))
      else
      some (Sum.inl ((iAdd .i64 s792.1 1), ()))
    else none
  else
  Option.map Sum.inr (some (((0 : Int), ()), ()))
noncomputable def spec_l07Asked (a0 : (Int × (Int × ((List Int) × Unit)))) (a1 : (List (Vec 2 Int))) : Option ((Int × Unit) × Unit) :=
  (spec_l07Ok a0).bind fun y790 =>
  bif (! y790.1.1) then some (((1 : Int), ()), ()) else run (spec_l07Asked_l4 a1 a0) ((0 : Int), ())
noncomputable def spec_l07Asked_sg : Sig := ⟨[.ro (.pair (.int .i64) (.pair (.int .i64) (.pair (.list (.int .u8)) (.unit)))), .v (.list (.arr 2 (.int .i16)))], [.v (.val (.int .i64))], false⟩
noncomputable def spec_l07Asked_en : Entry := ⟨spec_l07Asked_sg, fun x => spec_l07Asked x.1 x.2.1⟩
theorem spec_l07Asked_eq (x : spec_l07Asked_sg.dom) : body (env [(126, spec_l07Ok_en), (128, spec_l07Spot_en)]) [(4, .vary [(5, .sc (.int .i64))])] Try.f96 spec_l07Asked_sg x = spec_l07Asked x.1 x.2.1 := by kernel_rfl
theorem spec_l07Asked_so : Sound Try.prog 96 spec_l07Asked_en := sound_of_body (envS (l := [(126, spec_l07Ok_en), (128, spec_l07Spot_en)]) (⟨spec_l07Ok_so, spec_l07Spot_so, trivial⟩)) Try.func96 (by kernel_rfl) rfl (fun x y h => (spec_l07Asked_eq x).trans h)

-- loop.example/g01204/spec.l00Max
noncomputable def spec_l00Max (a0 : Int) (a1 : Int) : Option ((Int × Unit) × Unit) :=
  bif (iLt a1 a0) then some ((a0, ()), ()) else some ((a1, ()), ())
noncomputable def spec_l00Max_sg : Sig := ⟨[.v (.int .i64), .v (.int .i64)], [.v (.val (.int .i64))], false⟩
noncomputable def spec_l00Max_en : Entry := ⟨spec_l00Max_sg, fun x => spec_l00Max x.1 x.2.1⟩
theorem spec_l00Max_eq (x : spec_l00Max_sg.dom) : body (env []) [] Try.f175 spec_l00Max_sg x = spec_l00Max x.1 x.2.1 := by kernel_rfl
theorem spec_l00Max_so : Sound Try.prog 175 spec_l00Max_en := sound_of_body (envS (l := []) (trivial)) Try.func175 (by kernel_rfl) rfl (fun x y h => (spec_l00Max_eq x).trans h)

-- loop.example/g01204/spec.l07Floor
noncomputable def spec_l07Floor (a0 : Int) (a1 : Int) : Option ((Int × Unit) × Unit) :=
  bif iEq a1 0 then none else
  let x863 := iQuo .i64 a0 a1
  bif iEq a1 0 then none else
  bif (iLt (iRem .i64 a0 a1) 0) then
    some (((iSub .i64 x863 1), ()), ())
  else some ((x863, ()), ())
noncomputable def spec_l07Floor_sg : Sig := ⟨[.v (.int .i64), .v (.int .i64)], [.v (.val (.int .i64))], false⟩
noncomputable def spec_l07Floor_en : Entry := ⟨spec_l07Floor_sg, fun x => spec_l07Floor x.1 x.2.1⟩
theorem spec_l07Floor_eq (x : spec_l07Floor_sg.dom) : body (env []) [] Try.f176 spec_l07Floor_sg x = spec_l07Floor x.1 x.2.1 := by kernel_rfl
theorem spec_l07Floor_so : Sound Try.prog 176 spec_l07Floor_en := sound_of_body (envS (l := []) (trivial)) Try.func176 (by kernel_rfl) rfl (fun x y h => (spec_l07Floor_eq x).trans h)

-- loop.example/g01204/spec.l07Line
noncomputable def spec_l07Line_l8 (y838 : ((Int × Unit) × Unit)) (x828 : Int) (x833 : Int) (a0 : (Vec 2 Int)) (s840 : ((List (Vec 2 Int)) × Int × Unit)) : Option (((List (Vec 2 Int)) × Int × Unit) ⊕ (((List (Vec 2 Int)) × Unit) × Unit)) :=
  bif (iLe s840.2.1 y838.1.1) then
    (spec_l07Floor (iAdd .i64 (iMul .i64 (iMul .i64 2 s840.2.1) x828) y838.1.1) (iMul .i64 2 y838.1.1)).bind fun y848 =>
    (spec_l07Floor (iAdd .i64 (iMul .i64 (iMul .i64 2 s840.2.1) x833) y838.1.1) (iMul .i64 2 y838.1.1)).bind fun y856 =>
    bif room (List.length s840.1 + 1) 4 then
      some (Sum.inl ((s840.1 ++ ([((iWrap .i16 (iAdd .i64 (iWrap .i64 (Vec.getD 2 a0 0 (0 : Int))) y848.1.1)), (iWrap .i16 (iAdd .i64 (iWrap .i64 (Vec.getD 2 a0 1 (0 : Int))) y856.1.1)), ())] : (List (Vec 2 Int)))), (iAdd .i64 s840.2.1 1), ()))
    else none
  else
  Option.map Sum.inr (some ((s840.1, ()), ()))
noncomputable def spec_l07Line (a0 : (Vec 2 Int)) (a1 : (Vec 2 Int)) : Option (((List (Vec 2 Int)) × Unit) × Unit) :=
  let x828 := iSub .i64 (iWrap .i64 (Vec.getD 2 a1 0 (0 : Int))) (iWrap .i64 (Vec.getD 2 a0 0 (0 : Int)))
  let x833 := iSub .i64 (iWrap .i64 (Vec.getD 2 a1 1 (0 : Int))) (iWrap .i64 (Vec.getD 2 a0 1 (0 : Int)))
  (spec_l00Max x828 (iSub .i64 0 x828)).bind fun y835 =>
  (spec_l00Max x833 (iSub .i64 0 x833)).bind fun y837 =>
  (spec_l00Max y835.1.1 y837.1.1).bind fun y838 =>
  bif (iEq y838.1.1 0) then some ((([a0] : (List (Vec 2 Int))), ()), ()) else run (spec_l07Line_l8 y838 x828 x833 a0) (([] : (List (Vec 2 Int))), (0 : Int), ())
noncomputable def spec_l07Line_sg : Sig := ⟨[.v (.arr 2 (.int .i16)), .v (.arr 2 (.int .i16))], [.v (.rows (.arr 2 (.int .i16)))], false⟩
noncomputable def spec_l07Line_en : Entry := ⟨spec_l07Line_sg, fun x => spec_l07Line x.1 x.2.1⟩
theorem spec_l07Line_eq (x : spec_l07Line_sg.dom) : body (env [(175, spec_l00Max_en), (176, spec_l07Floor_en)]) [(8, .vary [(8, .rows (.arr 2 (.int .i16))), (9, .sc (.int .i64))])] Try.f146 spec_l07Line_sg x = spec_l07Line x.1 x.2.1 := by kernel_rfl
theorem spec_l07Line_so : Sound Try.prog 146 spec_l07Line_en := sound_of_body (envS (l := [(175, spec_l00Max_en), (176, spec_l07Floor_en)]) (⟨spec_l00Max_so, spec_l07Floor_so, trivial⟩)) Try.func146 (by kernel_rfl) rfl (fun x y h => (spec_l07Line_eq x).trans h)

-- loop.example/g01204/spec.l07Sees
noncomputable def spec_l07Sees_l3 (y798 : (((List (Vec 2 Int)) × Unit) × Unit)) (a0 : (Int × (Int × ((List Int) × Unit)))) (s799 : (Int × Unit)) : Option ((Int × Unit) ⊕ ((Bool × Unit) × Unit)) :=
  bif (iLt s799.1 (lenI y798.1.1)) then
    bif inB s799.1 (List.length y798.1.1) then
      (spec_l07Wall a0 (List.getD y798.1.1 s799.1.toNat ((0, 0, ()) : (Vec 2 Int)))).bind fun y802 =>
      bif y802.1.1 then
        Option.map Sum.inr (some ((false, ()), ()))
      else
      bif (iLt 0 s799.1) then
        bif inB s799.1 (List.length y798.1.1) then
          let x805 := iSub .i64 s799.1 1
          bif inB x805 (List.length y798.1.1) then
            bif (! (iEq (Vec.getD 2 (List.getD y798.1.1 s799.1.toNat ((0, 0, ()) : (Vec 2 Int))) 0 (0 : Int)) (Vec.getD 2 (List.getD y798.1.1 x805.toNat ((0, 0, ()) : (Vec 2 Int))) 0 (0 : Int)))) then
              bif inB s799.1 (List.length y798.1.1) then
                let x809 := iSub .i64 s799.1 1
                bif inB x809 (List.length y798.1.1) then
                  bif (! (iEq (Vec.getD 2 (List.getD y798.1.1 s799.1.toNat ((0, 0, ()) : (Vec 2 Int))) 1 (0 : Int)) (Vec.getD 2 (List.getD y798.1.1 x809.toNat ((0, 0, ()) : (Vec 2 Int))) 1 (0 : Int)))) then
                    bif inB s799.1 (List.length y798.1.1) then
                      let x813 := iSub .i64 s799.1 1
                      bif inB x813 (List.length y798.1.1) then
                        (spec_l07Wall a0 (((Vec.getD 2 (List.getD y798.1.1 s799.1.toNat ((0, 0, ()) : (Vec 2 Int))) 0 (0 : Int)), (Vec.getD 2 (List.getD y798.1.1 x813.toNat ((0, 0, ()) : (Vec 2 Int))) 1 (0 : Int)), ()) : (Vec 2 Int))).bind fun y815 =>
                        bif y815.1.1 then
                          Option.map Sum.inr (some ((false, ()), ()))
                        else
                        let x816 := iSub .i64 s799.1 1
                        bif inB x816 (List.length y798.1.1) then
                          bif inB s799.1 (List.length y798.1.1) then
                            (spec_l07Wall a0 (((Vec.getD 2 (List.getD y798.1.1 x816.toNat ((0, 0, ()) : (Vec 2 Int))) 0 (0 : Int)), (Vec.getD 2 (List.getD y798.1.1 s799.1.toNat ((0, 0, ()) : (Vec 2 Int))) 1 (0 : Int)), ()) : (Vec 2 Int))).bind fun y819 =>
                            bif y819.1.1 then
                              Option.map Sum.inr (some ((false, ()), ()))
                            else
                            some (Sum.inl ((iAdd .i64 s799.1 1), ()))
                          else none
                        else none
                      else none
                    else none
                  else
                  some (Sum.inl ((iAdd .i64 s799.1 1), ()))
                else none
              else none
            else
            some (Sum.inl ((iAdd .i64 s799.1 1), ()))
          else none
        else none
      else
      some (Sum.inl ((iAdd .i64 s799.1 1), ()))
    else none
  else
  Option.map Sum.inr (some ((true, ()), ()))
noncomputable def spec_l07Sees (a0 : (Int × (Int × ((List Int) × Unit)))) (a1 : (Vec 2 Int)) (a2 : (Vec 2 Int)) : Option ((Bool × Unit) × Unit) :=
  (spec_l07Line a1 a2).bind fun y798 =>
  run (spec_l07Sees_l3 y798 a0) ((0 : Int), ())
noncomputable def spec_l07Sees_sg : Sig := ⟨[.ro (.pair (.int .i64) (.pair (.int .i64) (.pair (.list (.int .u8)) (.unit)))), .v (.arr 2 (.int .i16)), .v (.arr 2 (.int .i16))], [.v (.val (.bool))], false⟩
noncomputable def spec_l07Sees_en : Entry := ⟨spec_l07Sees_sg, fun x => spec_l07Sees x.1 x.2.1 x.2.2.1⟩
theorem spec_l07Sees_eq (x : spec_l07Sees_sg.dom) : body (env [(129, spec_l07Wall_en), (146, spec_l07Line_en)]) [(3, .vary [(8, .sc (.int .i64))])] Try.f97 spec_l07Sees_sg x = spec_l07Sees x.1 x.2.1 x.2.2.1 := by kernel_rfl
theorem spec_l07Sees_so : Sound Try.prog 97 spec_l07Sees_en := sound_of_body (envS (l := [(129, spec_l07Wall_en), (146, spec_l07Line_en)]) (⟨spec_l07Wall_so, spec_l07Line_so, trivial⟩)) Try.func97 (by kernel_rfl) rfl (fun x y h => (spec_l07Sees_eq x).trans h)

-- loop.example/g01204/spec.SeesSpot
noncomputable def spec_SeesSpot (a0 : (Int × (Int × ((List Int) × Unit)))) (a1 : (Vec 2 Int)) (a2 : (Vec 2 Int)) : Option ((Bool × Int × Unit) × Unit) :=
  (spec_l07Asked a0 ([a1, a2] : (List (Vec 2 Int)))).bind fun y787 =>
  bif (! (iEq y787.1.1 0)) then some ((false, y787.1.1, ()), ()) else
  (spec_l07Sees a0 a1 a2).bind fun y789 =>
  some ((y789.1.1, (0 : Int), ()), ())
noncomputable def spec_SeesSpot_sg : Sig := ⟨[.v (.pair (.int .i64) (.pair (.int .i64) (.pair (.list (.int .u8)) (.unit)))), .v (.arr 2 (.int .i16)), .v (.arr 2 (.int .i16))], [.v (.val (.bool)), .v (.val (.int .i64))], false⟩
noncomputable def spec_SeesSpot_en : Entry := ⟨spec_SeesSpot_sg, fun x => spec_SeesSpot x.1 x.2.1 x.2.2.1⟩
theorem spec_SeesSpot_eq (x : spec_SeesSpot_sg.dom) : body (env [(96, spec_l07Asked_en), (97, spec_l07Sees_en)]) [] Try.f38 spec_SeesSpot_sg x = spec_SeesSpot x.1 x.2.1 x.2.2.1 := by kernel_rfl
theorem spec_SeesSpot_so : Sound Try.prog 38 spec_SeesSpot_en := sound_of_body (envS (l := [(96, spec_l07Asked_en), (97, spec_l07Sees_en)]) (⟨spec_l07Asked_so, spec_l07Sees_so, trivial⟩)) Try.func38 (by kernel_rfl) rfl (fun x y h => (spec_SeesSpot_eq x).trans h)

-- loop.example/g01204/laws.FnExactSeesSpot
noncomputable def laws_FnExactSeesSpot (a0 : (Int × (Int × ((List Int) × Unit)))) (a1 : (Vec 2 Int)) (a2 : (Vec 2 Int)) : Option ((Bool × Unit) × Unit) :=
  (laws_szGrid a0 (1048576 : Int)).bind fun y711 =>
  bif (iLt y711.1.1 0) then some ((true, ()), ()) else
  (laws_toGrid a0).bind fun y713 =>
  (laws_toSpot a1).bind fun y714 =>
  (laws_toSpot a2).bind fun y715 =>
  (spec_SeesSpot ((y713.1.1.1, y713.1.1.2.1, y713.1.1.2.2.1, y713.1.1.2.2.2) : (Int × (Int × ((List Int) × Unit)))) y714.1.1 y715.1.1).bind fun y716 =>
  (laws_toGrid a0).bind fun y717 =>
  (laws_toSpot a1).bind fun y718 =>
  (laws_toSpot a2).bind fun y719 =>
  (impl_SeesSpot ((y717.1.1.1, y717.1.1.2.1, y717.1.1.2.2.1, y717.1.1.2.2.2) : (Int × (Int × ((List Int) × Unit)))) y718.1.1 y719.1.1).bind fun y720 =>
  bif (! (bEq y720.1.1 y716.1.1)) then some ((false, ()), ()) else
  bif (! (iEq y720.1.2.1 y716.1.2.1)) then some ((false, ()), ()) else
  (laws_toGrid a0).bind fun y723 =>
  (laws_eqGrid ((y717.1.1.1, y717.1.1.2.1, y717.1.1.2.2.1, y717.1.1.2.2.2) : (Int × (Int × ((List Int) × Unit)))) ((y723.1.1.1, y723.1.1.2.1, y723.1.1.2.2.1, y723.1.1.2.2.2) : (Int × (Int × ((List Int) × Unit))))).bind fun y724 =>
  bif (! y724.1.1) then some ((false, ()), ()) else some ((true, ()), ())
noncomputable def laws_FnExactSeesSpot_sg : Sig := ⟨[.v (.pair (.int .i64) (.pair (.int .i64) (.pair (.list (.int .u8)) (.unit)))), .v (.arr 2 (.int .i16)), .v (.arr 2 (.int .i16))], [.v (.val (.bool))], false⟩
noncomputable def laws_FnExactSeesSpot_en : Entry := ⟨laws_FnExactSeesSpot_sg, fun x => laws_FnExactSeesSpot x.1 x.2.1 x.2.2.1⟩
theorem laws_FnExactSeesSpot_eq (x : laws_FnExactSeesSpot_sg.dom) : body (env [(15, laws_szGrid_en), (18, laws_toGrid_en), (21, laws_eqGrid_en), (38, spec_SeesSpot_en), (39, laws_toSpot_en), (40, impl_SeesSpot_en)]) [] Try.f8 laws_FnExactSeesSpot_sg x = laws_FnExactSeesSpot x.1 x.2.1 x.2.2.1 := by kernel_rfl
theorem laws_FnExactSeesSpot_so : Sound Try.prog 8 laws_FnExactSeesSpot_en := sound_of_body (envS (l := [(15, laws_szGrid_en), (18, laws_toGrid_en), (21, laws_eqGrid_en), (38, spec_SeesSpot_en), (39, laws_toSpot_en), (40, impl_SeesSpot_en)]) (⟨laws_szGrid_so, laws_toGrid_so, laws_eqGrid_so, spec_SeesSpot_so, laws_toSpot_so, impl_SeesSpot_so, trivial⟩)) Try.func8 (by kernel_rfl) rfl (fun x y h => (laws_FnExactSeesSpot_eq x).trans h)

-- loop.example/g01204/impl.sameEntry
noncomputable def impl_sameEntry (a0 : (Int × ((Vec 3 Nat) × ((Vec 3 Int) × (Int × (Nat × Unit)))))) (a1 : (Int × ((Vec 3 Nat) × ((Vec 3 Int) × (Int × (Nat × Unit)))))) : Option ((Bool × Unit) × Unit) :=
  bif (iEq a0.1 a1.1) then
    (impl_SameVec a0.2.1 a1.2.1).bind fun y891 =>
    bif y891.1.1 then
      bif (iEq (Vec.getD 3 a0.2.2.1 0 (0 : Int)) (Vec.getD 3 a1.2.2.1 0 (0 : Int)) && (iEq (Vec.getD 3 a0.2.2.1 1 (0 : Int)) (Vec.getD 3 a1.2.2.1 1 (0 : Int)) && (iEq (Vec.getD 3 a0.2.2.1 2 (0 : Int)) (Vec.getD 3 a1.2.2.1 2 (0 : Int)) && true))) then
        bif (iEq a0.2.2.2.1 a1.2.2.2.1) then
          (impl_SameNumber a0.2.2.2.2.1 a1.2.2.2.2.1).bind fun y894 =>
          some ((y894.1.1, ()), ())
        else some ((false, ()), ())
      else some ((false, ()), ())
    else some ((false, ()), ())
  else some ((false, ()), ())
noncomputable def impl_sameEntry_sg : Sig := ⟨[.v (.pair (.int .i64) (.pair (.arr 3 (.flt .f32)) (.pair (.arr 3 (.int .i16)) (.pair (.int .i64) (.pair (.flt .f32) (.unit)))))), .v (.pair (.int .i64) (.pair (.arr 3 (.flt .f32)) (.pair (.arr 3 (.int .i16)) (.pair (.int .i64) (.pair (.flt .f32) (.unit))))))], [.v (.val (.bool))], false⟩
noncomputable def impl_sameEntry_en : Entry := ⟨impl_sameEntry_sg, fun x => impl_sameEntry x.1 x.2.1⟩
theorem impl_sameEntry_eq (x : impl_sameEntry_sg.dom) : body (env [(85, impl_SameVec_en), (140, impl_SameNumber_en)]) [] Try.f104 impl_sameEntry_sg x = impl_sameEntry x.1 x.2.1 := by kernel_rfl
theorem impl_sameEntry_so : Sound Try.prog 104 impl_sameEntry_en := sound_of_body (envS (l := [(85, impl_SameVec_en), (140, impl_SameNumber_en)]) (⟨impl_SameVec_so, impl_SameNumber_so, trivial⟩)) Try.func104 (by kernel_rfl) rfl (fun x y h => (impl_sameEntry_eq x).trans h)

-- slices.EqualFunc[[]loop.example/g01204/impl.Entry,[]loop.example/g01204/impl.Entry,loop.example/g01204/impl.Entry,loop.example/g01204/impl.Entry]
noncomputable def slices_EqualFunc_impl_Entry_l4 (a0 : (List (Int × ((Vec 3 Nat) × ((Vec 3 Int) × (Int × (Nat × Unit))))))) (a1 : (List (Int × ((Vec 3 Nat) × ((Vec 3 Int) × (Int × (Nat × Unit))))))) (a2 : (((Int × ((Vec 3 Nat) × ((Vec 3 Int) × (Int × (Nat × Unit))))) × (Int × ((Vec 3 Nat) × ((Vec 3 Int) × (Int × (Nat × Unit))))) × Unit) → Option Bool)) (s896 : (Int × Unit)) : Option ((Int × Unit) ⊕ ((Bool × Unit) × Unit)) :=
  bif (iLt s896.1 (lenI a0)) then
    bif inB s896.1 (List.length a0) then
      bif inB s896.1 (List.length a1) then
        (a2 ((List.getD a0 s896.1.toNat ((0, (0, 0, 0, ()), (0, 0, 0, ()), 0, 0, ()) : (Int × ((Vec 3 Nat) × ((Vec 3 Int) × (Int × (Nat × Unit))))))), (List.getD a1 s896.1.toNat ((0, (0, 0, 0, ()), (0, 0, 0, ()), 0, 0, ()) : (Int × ((Vec 3 Nat) × ((Vec 3 Int) × (Int × (Nat × Unit))))))), ())).bind fun y900 =>
        bif (! y900) then
          Option.map Sum.inr (some ((false, ()), ()))
        else
        some (Sum.inl ((iAdd .i64 s896.1 1), ()))
      else none
    else none
  else
  Option.map Sum.inr (some ((true, ()), ()))
noncomputable def slices_EqualFunc_impl_Entry (a0 : (List (Int × ((Vec 3 Nat) × ((Vec 3 Int) × (Int × (Nat × Unit))))))) (a1 : (List (Int × ((Vec 3 Nat) × ((Vec 3 Int) × (Int × (Nat × Unit))))))) (a2 : (((Int × ((Vec 3 Nat) × ((Vec 3 Int) × (Int × (Nat × Unit))))) × (Int × ((Vec 3 Nat) × ((Vec 3 Int) × (Int × (Nat × Unit))))) × Unit) → Option Bool)) : Option ((Bool × Unit) × Unit) :=
  bif (! (iEq (lenI a0) (lenI a1))) then some ((false, ()), ()) else run (slices_EqualFunc_impl_Entry_l4 a0 a1 a2) ((0 : Int), ())
noncomputable def slices_EqualFunc_impl_Entry_sg : Sig := ⟨[.v (.list (.pair (.int .i64) (.pair (.arr 3 (.flt .f32)) (.pair (.arr 3 (.int .i16)) (.pair (.int .i64) (.pair (.flt .f32) (.unit))))))), .v (.list (.pair (.int .i64) (.pair (.arr 3 (.flt .f32)) (.pair (.arr 3 (.int .i16)) (.pair (.int .i64) (.pair (.flt .f32) (.unit))))))), .fn ⟨[.pair (.int .i64) (.pair (.arr 3 (.flt .f32)) (.pair (.arr 3 (.int .i16)) (.pair (.int .i64) (.pair (.flt .f32) (.unit))))), .pair (.int .i64) (.pair (.arr 3 (.flt .f32)) (.pair (.arr 3 (.int .i16)) (.pair (.int .i64) (.pair (.flt .f32) (.unit)))))], .bool⟩], [.v (.val (.bool))], false⟩
noncomputable def slices_EqualFunc_impl_Entry_en : Entry := ⟨slices_EqualFunc_impl_Entry_sg, fun x => slices_EqualFunc_impl_Entry x.1 x.2.1 x.2.2.1⟩
theorem slices_EqualFunc_impl_Entry_eq (x : slices_EqualFunc_impl_Entry_sg.dom) : body (env []) [(4, .vary [(17, .sc (.int .i64))])] Try.f103 slices_EqualFunc_impl_Entry_sg x = slices_EqualFunc_impl_Entry x.1 x.2.1 x.2.2.1 := by kernel_rfl
theorem slices_EqualFunc_impl_Entry_so : Sound Try.prog 103 slices_EqualFunc_impl_Entry_en := sound_of_body (envS (l := []) (trivial)) Try.func103 (by kernel_rfl) rfl (fun x y h => (slices_EqualFunc_impl_Entry_eq x).trans h)

-- loop.example/g01204/impl.SameLog
noncomputable def impl_SameLog (a0 : (Int × ((Vec 3 Nat) × ((List (Vec 3 Nat)) × ((List (Int × ((Vec 3 Nat) × ((Vec 3 Int) × (Int × (Nat × Unit)))))) × Unit))))) (a1 : (Int × ((Vec 3 Nat) × ((List (Vec 3 Nat)) × ((List (Int × ((Vec 3 Nat) × ((Vec 3 Int) × (Int × (Nat × Unit)))))) × Unit))))) : Option ((Bool × Unit) × Unit) :=
  bif (iEq a0.1 a1.1) then
    (impl_SameVec a0.2.1 a1.2.1).bind fun y885 =>
    bif y885.1.1 then
      (slices_EqualFunc_impl_Vec a0.2.2.1 a1.2.2.1 (fun (z886 : ((Vec 3 Nat) × (Vec 3 Nat) × Unit)) => (impl_SameVec z886.1 z886.2.1).map fun y => y.1.1)).bind fun y887 =>
      bif y887.1.1 then
        (slices_EqualFunc_impl_Entry a0.2.2.2.1 a1.2.2.2.1 (fun (z888 : ((Int × ((Vec 3 Nat) × ((Vec 3 Int) × (Int × (Nat × Unit))))) × (Int × ((Vec 3 Nat) × ((Vec 3 Int) × (Int × (Nat × Unit))))) × Unit)) => (impl_sameEntry z888.1 z888.2.1).map fun y => y.1.1)).bind fun y889 =>
        some ((y889.1.1, ()), ())
      else some ((false, ()), ())
    else some ((false, ()), ())
  else some ((false, ()), ())
noncomputable def impl_SameLog_sg : Sig := ⟨[.v (.pair (.int .i64) (.pair (.arr 3 (.flt .f32)) (.pair (.list (.arr 3 (.flt .f32))) (.pair (.list (.pair (.int .i64) (.pair (.arr 3 (.flt .f32)) (.pair (.arr 3 (.int .i16)) (.pair (.int .i64) (.pair (.flt .f32) (.unit))))))) (.unit))))), .v (.pair (.int .i64) (.pair (.arr 3 (.flt .f32)) (.pair (.list (.arr 3 (.flt .f32))) (.pair (.list (.pair (.int .i64) (.pair (.arr 3 (.flt .f32)) (.pair (.arr 3 (.int .i16)) (.pair (.int .i64) (.pair (.flt .f32) (.unit))))))) (.unit)))))], [.v (.val (.bool))], false⟩
noncomputable def impl_SameLog_en : Entry := ⟨impl_SameLog_sg, fun x => impl_SameLog x.1 x.2.1⟩
theorem impl_SameLog_eq (x : impl_SameLog_sg.dom) : body (env [(85, impl_SameVec_en), (86, slices_EqualFunc_impl_Vec_en), (103, slices_EqualFunc_impl_Entry_en), (104, impl_sameEntry_en)]) [] Try.f44 impl_SameLog_sg x = impl_SameLog x.1 x.2.1 := by kernel_rfl
theorem impl_SameLog_so : Sound Try.prog 44 impl_SameLog_en := sound_of_body (envS (l := [(85, impl_SameVec_en), (86, slices_EqualFunc_impl_Vec_en), (103, slices_EqualFunc_impl_Entry_en), (104, impl_sameEntry_en)]) (⟨impl_SameVec_so, slices_EqualFunc_impl_Vec_so, slices_EqualFunc_impl_Entry_so, impl_sameEntry_so, trivial⟩)) Try.func44 (by kernel_rfl) rfl (fun x y h => (impl_SameLog_eq x).trans h)

-- loop.example/g01204/laws.eqCounts
noncomputable def laws_eqCounts (a0 : (Vec 3 Int)) (a1 : (Vec 3 Int)) : Option ((Bool × Unit) × Unit) :=
  bif (! (iEq (Vec.getD 3 a0 0 (0 : Int)) (Vec.getD 3 a1 0 (0 : Int)))) then some ((false, ()), ()) else
  bif (! (iEq (Vec.getD 3 a0 1 (0 : Int)) (Vec.getD 3 a1 1 (0 : Int)))) then some ((false, ()), ()) else
  bif (! (iEq (Vec.getD 3 a0 2 (0 : Int)) (Vec.getD 3 a1 2 (0 : Int)))) then some ((false, ()), ()) else some ((true, ()), ())
noncomputable def laws_eqCounts_sg : Sig := ⟨[.v (.arr 3 (.int .i16)), .v (.arr 3 (.int .i16))], [.v (.val (.bool))], false⟩
noncomputable def laws_eqCounts_en : Entry := ⟨laws_eqCounts_sg, fun x => laws_eqCounts x.1 x.2.1⟩
theorem laws_eqCounts_eq (x : laws_eqCounts_sg.dom) : body (env []) [(2, .unroll 4)] Try.f180 laws_eqCounts_sg x = laws_eqCounts x.1 x.2.1 := by kernel_rfl
theorem laws_eqCounts_so : Sound Try.prog 180 laws_eqCounts_en := sound_of_body (envS (l := []) (trivial)) Try.func180 (by kernel_rfl) rfl (fun x y h => (laws_eqCounts_eq x).trans h)

-- loop.example/g01204/laws.eqEntry
noncomputable def laws_eqEntry (a0 : (Int × ((Vec 3 Nat) × ((Vec 3 Int) × (Int × (Nat × Unit)))))) (a1 : (Int × ((Vec 3 Nat) × ((Vec 3 Int) × (Int × (Nat × Unit)))))) : Option ((Bool × Unit) × Unit) :=
  bif (! (iEq a0.1 a1.1)) then some ((false, ()), ()) else
  (laws_eqVec a0.2.1 a1.2.1).bind fun y919 =>
  bif (! y919.1.1) then some ((false, ()), ()) else
  (laws_eqCounts a0.2.2.1 a1.2.2.1).bind fun y921 =>
  bif (! y921.1.1) then some ((false, ()), ()) else
  bif (! (iEq a0.2.2.2.1 a1.2.2.2.1)) then some ((false, ()), ()) else
  (fConv .f32 .f64 a0.2.2.2.2.1).bind fun y924 =>
  (fConv .f32 .f64 a1.2.2.2.2.1).bind fun y925 =>
  (laws_sameFloat y924 y925).bind fun y926 =>
  bif (! y926.1.1) then some ((false, ()), ()) else some ((true, ()), ())
noncomputable def laws_eqEntry_sg : Sig := ⟨[.v (.pair (.int .i64) (.pair (.arr 3 (.flt .f32)) (.pair (.arr 3 (.int .i16)) (.pair (.int .i64) (.pair (.flt .f32) (.unit)))))), .v (.pair (.int .i64) (.pair (.arr 3 (.flt .f32)) (.pair (.arr 3 (.int .i16)) (.pair (.int .i64) (.pair (.flt .f32) (.unit))))))], [.v (.val (.bool))], false⟩
noncomputable def laws_eqEntry_en : Entry := ⟨laws_eqEntry_sg, fun x => laws_eqEntry x.1 x.2.1⟩
theorem laws_eqEntry_eq (x : laws_eqEntry_sg.dom) : body (env [(27, laws_sameFloat_en), (89, laws_eqVec_en), (180, laws_eqCounts_en)]) [] Try.f151 laws_eqEntry_sg x = laws_eqEntry x.1 x.2.1 := by kernel_rfl
theorem laws_eqEntry_so : Sound Try.prog 151 laws_eqEntry_en := sound_of_body (envS (l := [(27, laws_sameFloat_en), (89, laws_eqVec_en), (180, laws_eqCounts_en)]) (⟨laws_sameFloat_so, laws_eqVec_so, laws_eqCounts_so, trivial⟩)) Try.func151 (by kernel_rfl) rfl (fun x y h => (laws_eqEntry_eq x).trans h)

-- loop.example/g01204/laws.eqEntryS
noncomputable def laws_eqEntryS_l4 (a0 : (List (Int × ((Vec 3 Nat) × ((Vec 3 Int) × (Int × (Nat × Unit))))))) (a1 : (List (Int × ((Vec 3 Nat) × ((Vec 3 Int) × (Int × (Nat × Unit))))))) (s911 : (Int × Unit)) : Option ((Int × Unit) ⊕ ((Bool × Unit) × Unit)) :=
  bif (iLt s911.1 (lenI a0)) then
    bif inB s911.1 (List.length a0) then
      bif inB s911.1 (List.length a1) then
        (laws_eqEntry (List.getD a0 s911.1.toNat ((0, (0, 0, 0, ()), (0, 0, 0, ()), 0, 0, ()) : (Int × ((Vec 3 Nat) × ((Vec 3 Int) × (Int × (Nat × Unit))))))) (List.getD a1 s911.1.toNat ((0, (0, 0, 0, ()), (0, 0, 0, ()), 0, 0, ()) : (Int × ((Vec 3 Nat) × ((Vec 3 Int) × (Int × (Nat × Unit)))))))).bind fun y915 =>
        bif (! y915.1.1) then
          Option.map Sum.inr (some ((false, ()), ()))
        else
        some (Sum.inl ((iAdd .i64 s911.1 1), ()))
      else none
    else none
  else
  Option.map Sum.inr (some ((true, ()), ()))
noncomputable def laws_eqEntryS (a0 : (List (Int × ((Vec 3 Nat) × ((Vec 3 Int) × (Int × (Nat × Unit))))))) (a1 : (List (Int × ((Vec 3 Nat) × ((Vec 3 Int) × (Int × (Nat × Unit))))))) : Option ((Bool × Unit) × Unit) :=
  bif (! (iEq (lenI a0) (lenI a1))) then some ((false, ()), ()) else run (laws_eqEntryS_l4 a0 a1) ((0 : Int), ())
noncomputable def laws_eqEntryS_sg : Sig := ⟨[.v (.list (.pair (.int .i64) (.pair (.arr 3 (.flt .f32)) (.pair (.arr 3 (.int .i16)) (.pair (.int .i64) (.pair (.flt .f32) (.unit))))))), .v (.list (.pair (.int .i64) (.pair (.arr 3 (.flt .f32)) (.pair (.arr 3 (.int .i16)) (.pair (.int .i64) (.pair (.flt .f32) (.unit)))))))], [.v (.val (.bool))], false⟩
noncomputable def laws_eqEntryS_en : Entry := ⟨laws_eqEntryS_sg, fun x => laws_eqEntryS x.1 x.2.1⟩
theorem laws_eqEntryS_eq (x : laws_eqEntryS_sg.dom) : body (env [(151, laws_eqEntry_en)]) [(4, .vary [(5, .sc (.int .i64))])] Try.f105 laws_eqEntryS_sg x = laws_eqEntryS x.1 x.2.1 := by kernel_rfl
theorem laws_eqEntryS_so : Sound Try.prog 105 laws_eqEntryS_en := sound_of_body (envS (l := [(151, laws_eqEntry_en)]) (⟨laws_eqEntry_so, trivial⟩)) Try.func105 (by kernel_rfl) rfl (fun x y h => (laws_eqEntryS_eq x).trans h)

-- loop.example/g01204/laws.eqLog
noncomputable def laws_eqLog (a0 : (Int × ((Vec 3 Nat) × ((List (Vec 3 Nat)) × ((List (Int × ((Vec 3 Nat) × ((Vec 3 Int) × (Int × (Nat × Unit)))))) × Unit))))) (a1 : (Int × ((Vec 3 Nat) × ((List (Vec 3 Nat)) × ((List (Int × ((Vec 3 Nat) × ((Vec 3 Int) × (Int × (Nat × Unit)))))) × Unit))))) : Option ((Bool × Unit) × Unit) :=
  bif (! (iEq a0.1 a1.1)) then some ((false, ()), ()) else
  (laws_eqVec a0.2.1 a1.2.1).bind fun y904 =>
  bif (! y904.1.1) then some ((false, ()), ()) else
  (laws_eqVecS a0.2.2.1 a1.2.2.1).bind fun y906 =>
  bif (! y906.1.1) then some ((false, ()), ()) else
  (laws_eqEntryS a0.2.2.2.1 a1.2.2.2.1).bind fun y908 =>
  bif (! y908.1.1) then some ((false, ()), ()) else some ((true, ()), ())
noncomputable def laws_eqLog_sg : Sig := ⟨[.v (.pair (.int .i64) (.pair (.arr 3 (.flt .f32)) (.pair (.list (.arr 3 (.flt .f32))) (.pair (.list (.pair (.int .i64) (.pair (.arr 3 (.flt .f32)) (.pair (.arr 3 (.int .i16)) (.pair (.int .i64) (.pair (.flt .f32) (.unit))))))) (.unit))))), .v (.pair (.int .i64) (.pair (.arr 3 (.flt .f32)) (.pair (.list (.arr 3 (.flt .f32))) (.pair (.list (.pair (.int .i64) (.pair (.arr 3 (.flt .f32)) (.pair (.arr 3 (.int .i16)) (.pair (.int .i64) (.pair (.flt .f32) (.unit))))))) (.unit)))))], [.v (.val (.bool))], false⟩
noncomputable def laws_eqLog_en : Entry := ⟨laws_eqLog_sg, fun x => laws_eqLog x.1 x.2.1⟩
theorem laws_eqLog_eq (x : laws_eqLog_sg.dom) : body (env [(61, laws_eqVecS_en), (89, laws_eqVec_en), (105, laws_eqEntryS_en)]) [] Try.f45 laws_eqLog_sg x = laws_eqLog x.1 x.2.1 := by kernel_rfl
theorem laws_eqLog_so : Sound Try.prog 45 laws_eqLog_en := sound_of_body (envS (l := [(61, laws_eqVecS_en), (89, laws_eqVec_en), (105, laws_eqEntryS_en)]) (⟨laws_eqVecS_so, laws_eqVec_so, laws_eqEntryS_so, trivial⟩)) Try.func45 (by kernel_rfl) rfl (fun x y h => (laws_eqLog_eq x).trans h)

-- loop.example/g01204/laws.szEntryS
noncomputable def laws_szEntryS (a0 : (List (Int × ((Vec 3 Nat) × ((Vec 3 Int) × (Int × (Nat × Unit))))))) (a1 : Int) : Option ((Int × Unit) × Unit) :=
  let x941 := iSub .i64 a1 (lenI a0)
  bif (iLt x941 0) then some ((((-1 : Int) : Int), ()), ()) else some ((x941, ()), ())
noncomputable def laws_szEntryS_sg : Sig := ⟨[.v (.list (.pair (.int .i64) (.pair (.arr 3 (.flt .f32)) (.pair (.arr 3 (.int .i16)) (.pair (.int .i64) (.pair (.flt .f32) (.unit))))))), .v (.int .i64)], [.v (.val (.int .i64))], false⟩
noncomputable def laws_szEntryS_en : Entry := ⟨laws_szEntryS_sg, fun x => laws_szEntryS x.1 x.2.1⟩
theorem laws_szEntryS_eq (x : laws_szEntryS_sg.dom) : body (env []) [] Try.f100 laws_szEntryS_sg x = laws_szEntryS x.1 x.2.1 := by kernel_rfl
theorem laws_szEntryS_so : Sound Try.prog 100 laws_szEntryS_en := sound_of_body (envS (l := []) (trivial)) Try.func100 (by kernel_rfl) rfl (fun x y h => (laws_szEntryS_eq x).trans h)

-- loop.example/g01204/laws.szLog
noncomputable def laws_szLog (a0 : (Int × ((Vec 3 Nat) × ((List (Vec 3 Nat)) × ((List (Int × ((Vec 3 Nat) × ((Vec 3 Int) × (Int × (Nat × Unit)))))) × Unit))))) (a1 : Int) : Option ((Int × Unit) × Unit) :=
  (laws_szVecS a0.2.2.1 a1).bind fun y937 =>
  bif (iLt y937.1.1 0) then some ((((-1 : Int) : Int), ()), ()) else
  (laws_szEntryS a0.2.2.2.1 y937.1.1).bind fun y939 =>
  bif (iLt y939.1.1 0) then some ((((-1 : Int) : Int), ()), ()) else some ((y939.1.1, ()), ())
noncomputable def laws_szLog_sg : Sig := ⟨[.v (.pair (.int .i64) (.pair (.arr 3 (.flt .f32)) (.pair (.list (.arr 3 (.flt .f32))) (.pair (.list (.pair (.int .i64) (.pair (.arr 3 (.flt .f32)) (.pair (.arr 3 (.int .i16)) (.pair (.int .i64) (.pair (.flt .f32) (.unit))))))) (.unit))))), .v (.int .i64)], [.v (.val (.int .i64))], false⟩
noncomputable def laws_szLog_en : Entry := ⟨laws_szLog_sg, fun x => laws_szLog x.1 x.2.1⟩
theorem laws_szLog_eq (x : laws_szLog_sg.dom) : body (env [(78, laws_szVecS_en), (100, laws_szEntryS_en)]) [] Try.f41 laws_szLog_sg x = laws_szLog x.1 x.2.1 := by kernel_rfl
theorem laws_szLog_so : Sound Try.prog 41 laws_szLog_en := sound_of_body (envS (l := [(78, laws_szVecS_en), (100, laws_szEntryS_en)]) (⟨laws_szVecS_so, laws_szEntryS_so, trivial⟩)) Try.func41 (by kernel_rfl) rfl (fun x y h => (laws_szLog_eq x).trans h)

-- loop.example/g01204/laws.toCounts
noncomputable def laws_toCounts (a0 : (Vec 3 Int)) : Option (((Vec 3 Int) × Unit) × Unit) :=
  some (((((Vec.getD 3 a0 0 (0 : Int)), (Vec.getD 3 a0 1 (0 : Int)), (Vec.getD 3 a0 2 (0 : Int)), ()) : (Vec 3 Int)), ()), ())
noncomputable def laws_toCounts_sg : Sig := ⟨[.v (.arr 3 (.int .i16))], [.v (.val (.arr 3 (.int .i16)))], false⟩
noncomputable def laws_toCounts_en : Entry := ⟨laws_toCounts_sg, fun x => laws_toCounts x.1⟩
theorem laws_toCounts_eq (x : laws_toCounts_sg.dom) : body (env []) [(3, .unroll 4)] Try.f179 laws_toCounts_sg x = laws_toCounts x.1 := by kernel_rfl
theorem laws_toCounts_so : Sound Try.prog 179 laws_toCounts_en := sound_of_body (envS (l := []) (trivial)) Try.func179 (by kernel_rfl) rfl (fun x y h => (laws_toCounts_eq x).trans h)

-- loop.example/g01204/laws.toEntry
noncomputable def laws_toEntry (a0 : (Int × ((Vec 3 Nat) × ((Vec 3 Int) × (Int × (Nat × Unit)))))) : Option (((Int × ((Vec 3 Nat) × ((Vec 3 Int) × (Int × (Nat × Unit))))) × Unit) × Unit) :=
  (laws_toVec a0.2.1).bind fun y957 =>
  (laws_toCounts a0.2.2.1).bind fun y958 =>
  some ((((a0.1, y957.1.1, y958.1.1, a0.2.2.2.1, a0.2.2.2.2.1, ()) : (Int × ((Vec 3 Nat) × ((Vec 3 Int) × (Int × (Nat × Unit)))))), ()), ())
noncomputable def laws_toEntry_sg : Sig := ⟨[.v (.pair (.int .i64) (.pair (.arr 3 (.flt .f32)) (.pair (.arr 3 (.int .i16)) (.pair (.int .i64) (.pair (.flt .f32) (.unit))))))], [.v (.val (.pair (.int .i64) (.pair (.arr 3 (.flt .f32)) (.pair (.arr 3 (.int .i16)) (.pair (.int .i64) (.pair (.flt .f32) (.unit)))))))], false⟩
noncomputable def laws_toEntry_en : Entry := ⟨laws_toEntry_sg, fun x => laws_toEntry x.1⟩
theorem laws_toEntry_eq (x : laws_toEntry_sg.dom) : body (env [(82, laws_toVec_en), (179, laws_toCounts_en)]) [] Try.f150 laws_toEntry_sg x = laws_toEntry x.1 := by kernel_rfl
theorem laws_toEntry_so : Sound Try.prog 150 laws_toEntry_en := sound_of_body (envS (l := [(82, laws_toVec_en), (179, laws_toCounts_en)]) (⟨laws_toVec_so, laws_toCounts_so, trivial⟩)) Try.func150 (by kernel_rfl) rfl (fun x y h => (laws_toEntry_eq x).trans h)

-- loop.example/g01204/laws.toEntryS
noncomputable def laws_toEntryS_l3 (a0 : (List (Int × ((Vec 3 Nat) × ((Vec 3 Int) × (Int × (Nat × Unit))))))) (s952 : (Int × (List (Int × ((Vec 3 Nat) × ((Vec 3 Int) × (Int × (Nat × Unit)))))) × Unit)) : Option ((Int × (List (Int × ((Vec 3 Nat) × ((Vec 3 Int) × (Int × (Nat × Unit)))))) × Unit) ⊕ (((List (Int × ((Vec 3 Nat) × ((Vec 3 Int) × (Int × (Nat × Unit)))))) × Unit) × Unit)) :=
  bif (iLt s952.1 (lenI a0)) then
    bif inB s952.1 (List.length a0) then
      (laws_toEntry (List.getD a0 s952.1.toNat ((0, (0, 0, 0, ()), (0, 0, 0, ()), 0, 0, ()) : (Int × ((Vec 3 Nat) × ((Vec 3 Int) × (Int × (Nat × Unit)))))))).bind fun y955 =>
      bif inB s952.1 (List.length s952.2.1) then
        some (Sum.inl ((iAdd .i64 s952.1 1), List.set s952.2.1 s952.1.toNat y955.1.1, ()))
      else none
    else none
  else
  Option.map Sum.inr (some ((s952.2.1, ()), ()))
noncomputable def laws_toEntryS (a0 : (List (Int × ((Vec 3 Nat) × ((Vec 3 Int) × (Int × (Nat × Unit))))))) : Option (((List (Int × ((Vec 3 Nat) × ((Vec 3 Int) × (Int × (Nat × Unit)))))) × Unit) × Unit) :=
  bif (iLe 0 (lenI a0) && iLe (lenI a0) (lenI a0) && room (lenI a0).toNat 48) then run (laws_toEntryS_l3 a0) ((0 : Int), List.replicate (lenI a0).toNat ((0, (0, 0, 0, ()), (0, 0, 0, ()), 0, 0, ()) : (Int × ((Vec 3 Nat) × ((Vec 3 Int) × (Int × (Nat × Unit)))))), ()) else none
noncomputable def laws_toEntryS_sg : Sig := ⟨[.v (.list (.pair (.int .i64) (.pair (.arr 3 (.flt .f32)) (.pair (.arr 3 (.int .i16)) (.pair (.int .i64) (.pair (.flt .f32) (.unit)))))))], [.v (.rows (.pair (.int .i64) (.pair (.arr 3 (.flt .f32)) (.pair (.arr 3 (.int .i16)) (.pair (.int .i64) (.pair (.flt .f32) (.unit)))))))], false⟩
noncomputable def laws_toEntryS_en : Entry := ⟨laws_toEntryS_sg, fun x => laws_toEntryS x.1⟩
theorem laws_toEntryS_eq (x : laws_toEntryS_sg.dom) : body (env [(150, laws_toEntry_en)]) [(3, .vary [(4, .sc (.int .i64)), (3, .mrows (.pair (.int .i64) (.pair (.arr 3 (.flt .f32)) (.pair (.arr 3 (.int .i16)) (.pair (.int .i64) (.pair (.flt .f32) (.unit)))))))])] Try.f102 laws_toEntryS_sg x = laws_toEntryS x.1 := by kernel_rfl
theorem laws_toEntryS_so : Sound Try.prog 102 laws_toEntryS_en := sound_of_body (envS (l := [(150, laws_toEntry_en)]) (⟨laws_toEntry_so, trivial⟩)) Try.func102 (by kernel_rfl) rfl (fun x y h => (laws_toEntryS_eq x).trans h)

-- loop.example/g01204/laws.toLog
noncomputable def laws_toLog (a0 : (Int × ((Vec 3 Nat) × ((List (Vec 3 Nat)) × ((List (Int × ((Vec 3 Nat) × ((Vec 3 Int) × (Int × (Nat × Unit)))))) × Unit))))) : Option (((Int × ((Vec 3 Nat) × ((List (Vec 3 Nat)) × ((List (Int × ((Vec 3 Nat) × ((Vec 3 Int) × (Int × (Nat × Unit)))))) × Unit)))) × Unit) × Unit) :=
  (laws_toVec a0.2.1).bind fun y943 =>
  (laws_toVecS a0.2.2.1).bind fun y944 =>
  (laws_toEntryS a0.2.2.2.1).bind fun y945 =>
  some ((((a0.1, y943.1.1, y944.1.1, y945.1.1, ()) : (Int × ((Vec 3 Nat) × ((List (Vec 3 Nat)) × ((List (Int × ((Vec 3 Nat) × ((Vec 3 Int) × (Int × (Nat × Unit)))))) × Unit))))), ()), ())
noncomputable def laws_toLog_sg : Sig := ⟨[.v (.pair (.int .i64) (.pair (.arr 3 (.flt .f32)) (.pair (.list (.arr 3 (.flt .f32))) (.pair (.list (.pair (.int .i64) (.pair (.arr 3 (.flt .f32)) (.pair (.arr 3 (.int .i16)) (.pair (.int .i64) (.pair (.flt .f32) (.unit))))))) (.unit)))))], [.v (.pair (.val (.int .i64)) (.pair (.val (.arr 3 (.flt .f32))) (.pair (.rows (.arr 3 (.flt .f32))) (.pair (.rows (.pair (.int .i64) (.pair (.arr 3 (.flt .f32)) (.pair (.arr 3 (.int .i16)) (.pair (.int .i64) (.pair (.flt .f32) (.unit))))))) (.val (.unit))))))], false⟩
noncomputable def laws_toLog_en : Entry := ⟨laws_toLog_sg, fun x => laws_toLog x.1⟩
theorem laws_toLog_eq (x : laws_toLog_sg.dom) : body (env [(82, laws_toVec_en), (83, laws_toVecS_en), (102, laws_toEntryS_en)]) [] Try.f43 laws_toLog_sg x = laws_toLog x.1 := by kernel_rfl
theorem laws_toLog_so : Sound Try.prog 43 laws_toLog_en := sound_of_body (envS (l := [(82, laws_toVec_en), (83, laws_toVecS_en), (102, laws_toEntryS_en)]) (⟨laws_toVec_so, laws_toVecS_so, laws_toEntryS_so, trivial⟩)) Try.func43 (by kernel_rfl) rfl (fun x y h => (laws_toLog_eq x).trans h)

-- loop.example/g01204/spec.l08SameEntry
noncomputable def spec_l08SameEntry (a0 : (Int × ((Vec 3 Nat) × ((Vec 3 Int) × (Int × (Nat × Unit)))))) (a1 : (Int × ((Vec 3 Nat) × ((Vec 3 Int) × (Int × (Nat × Unit)))))) : Option ((Bool × Unit) × Unit) :=
  bif (iEq a0.1 a1.1) then
    (spec_l01SameVec a0.2.1 a1.2.1).bind fun y974 =>
    bif y974.1.1 then
      bif (iEq (Vec.getD 3 a0.2.2.1 0 (0 : Int)) (Vec.getD 3 a1.2.2.1 0 (0 : Int)) && (iEq (Vec.getD 3 a0.2.2.1 1 (0 : Int)) (Vec.getD 3 a1.2.2.1 1 (0 : Int)) && (iEq (Vec.getD 3 a0.2.2.1 2 (0 : Int)) (Vec.getD 3 a1.2.2.1 2 (0 : Int)) && true))) then
        bif (iEq a0.2.2.2.1 a1.2.2.2.1) then
          (spec_l01Same a0.2.2.2.2.1 a1.2.2.2.2.1).bind fun y977 =>
          some ((y977.1.1, ()), ())
        else some ((false, ()), ())
      else some ((false, ()), ())
    else some ((false, ()), ())
  else some ((false, ()), ())
noncomputable def spec_l08SameEntry_sg : Sig := ⟨[.ro (.pair (.int .i64) (.pair (.arr 3 (.flt .f32)) (.pair (.arr 3 (.int .i16)) (.pair (.int .i64) (.pair (.flt .f32) (.unit)))))), .ro (.pair (.int .i64) (.pair (.arr 3 (.flt .f32)) (.pair (.arr 3 (.int .i16)) (.pair (.int .i64) (.pair (.flt .f32) (.unit))))))], [.v (.val (.bool))], false⟩
noncomputable def spec_l08SameEntry_en : Entry := ⟨spec_l08SameEntry_sg, fun x => spec_l08SameEntry x.1 x.2.1⟩
theorem spec_l08SameEntry_eq (x : spec_l08SameEntry_sg.dom) : body (env [(80, spec_l01SameVec_en), (138, spec_l01Same_en)]) [] Try.f101 spec_l08SameEntry_sg x = spec_l08SameEntry x.1 x.2.1 := by kernel_rfl
theorem spec_l08SameEntry_so : Sound Try.prog 101 spec_l08SameEntry_en := sound_of_body (envS (l := [(80, spec_l01SameVec_en), (138, spec_l01Same_en)]) (⟨spec_l01SameVec_so, spec_l01Same_so, trivial⟩)) Try.func101 (by kernel_rfl) rfl (fun x y h => (spec_l08SameEntry_eq x).trans h)

-- loop.example/g01204/spec.SameLog
noncomputable def spec_SameLog_l4 (a0 : (Int × ((Vec 3 Nat) × ((List (Vec 3 Nat)) × ((List (Int × ((Vec 3 Nat) × ((Vec 3 Int) × (Int × (Nat × Unit)))))) × Unit))))) (a1 : (Int × ((Vec 3 Nat) × ((List (Vec 3 Nat)) × ((List (Int × ((Vec 3 Nat) × ((Vec 3 Int) × (Int × (Nat × Unit)))))) × Unit))))) (s968 : (Int × Unit)) : Option ((Int × Unit) ⊕ ((Bool × Unit) × Unit)) :=
  bif (iLt s968.1 (lenI a0.2.2.2.1)) then
    bif inB s968.1 (List.length a0.2.2.2.1) then
      bif inB s968.1 (List.length a1.2.2.2.1) then
        (spec_l08SameEntry (List.getD a0.2.2.2.1 s968.1.toNat ((0, (0, 0, 0, ()), (0, 0, 0, ()), 0, 0, ()) : (Int × ((Vec 3 Nat) × ((Vec 3 Int) × (Int × (Nat × Unit))))))) (List.getD a1.2.2.2.1 s968.1.toNat ((0, (0, 0, 0, ()), (0, 0, 0, ()), 0, 0, ()) : (Int × ((Vec 3 Nat) × ((Vec 3 Int) × (Int × (Nat × Unit)))))))).bind fun y970 =>
        bif (! y970.1.1) then
          Option.map Sum.inr (some ((false, ()), ()))
        else
        some (Sum.inl ((iAdd .i64 s968.1 1), ()))
      else none
    else none
  else
  Option.map Sum.inr (some ((true, ()), ()))
noncomputable def spec_SameLog (a0 : (Int × ((Vec 3 Nat) × ((List (Vec 3 Nat)) × ((List (Int × ((Vec 3 Nat) × ((Vec 3 Int) × (Int × (Nat × Unit)))))) × Unit))))) (a1 : (Int × ((Vec 3 Nat) × ((List (Vec 3 Nat)) × ((List (Int × ((Vec 3 Nat) × ((Vec 3 Int) × (Int × (Nat × Unit)))))) × Unit))))) : Option ((Bool × Unit) × Unit) :=
  bif (! (iEq a0.1 a1.1)) then some ((false, ()), ()) else
  (spec_l01SameVec a0.2.1 a1.2.1).bind fun y963 =>
  bif (! y963.1.1) then some ((false, ()), ()) else
  (spec_l08SameVecs a0.2.2.1 a1.2.2.1).bind fun y965 =>
  bif (! y965.1.1) then some ((false, ()), ()) else
  bif (! (iEq (lenI a0.2.2.2.1) (lenI a1.2.2.2.1))) then some ((false, ()), ()) else run (spec_SameLog_l4 a0 a1) ((0 : Int), ())
noncomputable def spec_SameLog_sg : Sig := ⟨[.v (.pair (.int .i64) (.pair (.arr 3 (.flt .f32)) (.pair (.list (.arr 3 (.flt .f32))) (.pair (.list (.pair (.int .i64) (.pair (.arr 3 (.flt .f32)) (.pair (.arr 3 (.int .i16)) (.pair (.int .i64) (.pair (.flt .f32) (.unit))))))) (.unit))))), .v (.pair (.int .i64) (.pair (.arr 3 (.flt .f32)) (.pair (.list (.arr 3 (.flt .f32))) (.pair (.list (.pair (.int .i64) (.pair (.arr 3 (.flt .f32)) (.pair (.arr 3 (.int .i16)) (.pair (.int .i64) (.pair (.flt .f32) (.unit))))))) (.unit)))))], [.v (.val (.bool))], false⟩
noncomputable def spec_SameLog_en : Entry := ⟨spec_SameLog_sg, fun x => spec_SameLog x.1 x.2.1⟩
theorem spec_SameLog_eq (x : spec_SameLog_sg.dom) : body (env [(80, spec_l01SameVec_en), (81, spec_l08SameVecs_en), (101, spec_l08SameEntry_en)]) [(4, .vary [(5, .sc (.int .i64))])] Try.f42 spec_SameLog_sg x = spec_SameLog x.1 x.2.1 := by kernel_rfl
theorem spec_SameLog_so : Sound Try.prog 42 spec_SameLog_en := sound_of_body (envS (l := [(80, spec_l01SameVec_en), (81, spec_l08SameVecs_en), (101, spec_l08SameEntry_en)]) (⟨spec_l01SameVec_so, spec_l08SameVecs_so, spec_l08SameEntry_so, trivial⟩)) Try.func42 (by kernel_rfl) rfl (fun x y h => (spec_SameLog_eq x).trans h)

-- loop.example/g01204/laws.FnExactSameLog
noncomputable def laws_FnExactSameLog (a0 : (Int × ((Vec 3 Nat) × ((List (Vec 3 Nat)) × ((List (Int × ((Vec 3 Nat) × ((Vec 3 Int) × (Int × (Nat × Unit)))))) × Unit))))) (a1 : (Int × ((Vec 3 Nat) × ((List (Vec 3 Nat)) × ((List (Int × ((Vec 3 Nat) × ((Vec 3 Int) × (Int × (Nat × Unit)))))) × Unit))))) : Option ((Bool × Unit) × Unit) :=
  (laws_szLog a0 (1048576 : Int)).bind fun y867 =>
  bif (iLt y867.1.1 0) then some ((true, ()), ()) else
  (laws_szLog a1 y867.1.1).bind fun y869 =>
  bif (iLt y869.1.1 0) then some ((true, ()), ()) else
  (laws_toLog a0).bind fun y871 =>
  (laws_toLog a1).bind fun y872 =>
  (spec_SameLog ((y871.1.1.1, y871.1.1.2.1, y871.1.1.2.2.1, y871.1.1.2.2.2.1, y871.1.1.2.2.2.2) : (Int × ((Vec 3 Nat) × ((List (Vec 3 Nat)) × ((List (Int × ((Vec 3 Nat) × ((Vec 3 Int) × (Int × (Nat × Unit)))))) × Unit))))) ((y872.1.1.1, y872.1.1.2.1, y872.1.1.2.2.1, y872.1.1.2.2.2.1, y872.1.1.2.2.2.2) : (Int × ((Vec 3 Nat) × ((List (Vec 3 Nat)) × ((List (Int × ((Vec 3 Nat) × ((Vec 3 Int) × (Int × (Nat × Unit)))))) × Unit)))))).bind fun y873 =>
  (laws_toLog a0).bind fun y874 =>
  (laws_toLog a1).bind fun y875 =>
  (impl_SameLog ((y874.1.1.1, y874.1.1.2.1, y874.1.1.2.2.1, y874.1.1.2.2.2.1, y874.1.1.2.2.2.2) : (Int × ((Vec 3 Nat) × ((List (Vec 3 Nat)) × ((List (Int × ((Vec 3 Nat) × ((Vec 3 Int) × (Int × (Nat × Unit)))))) × Unit))))) ((y875.1.1.1, y875.1.1.2.1, y875.1.1.2.2.1, y875.1.1.2.2.2.1, y875.1.1.2.2.2.2) : (Int × ((Vec 3 Nat) × ((List (Vec 3 Nat)) × ((List (Int × ((Vec 3 Nat) × ((Vec 3 Int) × (Int × (Nat × Unit)))))) × Unit)))))).bind fun y876 =>
  bif (! (bEq y876.1.1 y873.1.1)) then some ((false, ()), ()) else
  (laws_toLog a0).bind fun y878 =>
  (laws_eqLog ((y874.1.1.1, y874.1.1.2.1, y874.1.1.2.2.1, y874.1.1.2.2.2.1, y874.1.1.2.2.2.2) : (Int × ((Vec 3 Nat) × ((List (Vec 3 Nat)) × ((List (Int × ((Vec 3 Nat) × ((Vec 3 Int) × (Int × (Nat × Unit)))))) × Unit))))) ((y878.1.1.1, y878.1.1.2.1, y878.1.1.2.2.1, y878.1.1.2.2.2.1, y878.1.1.2.2.2.2) : (Int × ((Vec 3 Nat) × ((List (Vec 3 Nat)) × ((List (Int × ((Vec 3 Nat) × ((Vec 3 Int) × (Int × (Nat × Unit)))))) × Unit)))))).bind fun y879 =>
  bif (! y879.1.1) then some ((false, ()), ()) else
  (laws_toLog a1).bind fun y881 =>
  (laws_eqLog ((y875.1.1.1, y875.1.1.2.1, y875.1.1.2.2.1, y875.1.1.2.2.2.1, y875.1.1.2.2.2.2) : (Int × ((Vec 3 Nat) × ((List (Vec 3 Nat)) × ((List (Int × ((Vec 3 Nat) × ((Vec 3 Int) × (Int × (Nat × Unit)))))) × Unit))))) ((y881.1.1.1, y881.1.1.2.1, y881.1.1.2.2.1, y881.1.1.2.2.2.1, y881.1.1.2.2.2.2) : (Int × ((Vec 3 Nat) × ((List (Vec 3 Nat)) × ((List (Int × ((Vec 3 Nat) × ((Vec 3 Int) × (Int × (Nat × Unit)))))) × Unit)))))).bind fun y882 =>
  bif (! y882.1.1) then some ((false, ()), ()) else some ((true, ()), ())
noncomputable def laws_FnExactSameLog_sg : Sig := ⟨[.v (.pair (.int .i64) (.pair (.arr 3 (.flt .f32)) (.pair (.list (.arr 3 (.flt .f32))) (.pair (.list (.pair (.int .i64) (.pair (.arr 3 (.flt .f32)) (.pair (.arr 3 (.int .i16)) (.pair (.int .i64) (.pair (.flt .f32) (.unit))))))) (.unit))))), .v (.pair (.int .i64) (.pair (.arr 3 (.flt .f32)) (.pair (.list (.arr 3 (.flt .f32))) (.pair (.list (.pair (.int .i64) (.pair (.arr 3 (.flt .f32)) (.pair (.arr 3 (.int .i16)) (.pair (.int .i64) (.pair (.flt .f32) (.unit))))))) (.unit)))))], [.v (.val (.bool))], false⟩
noncomputable def laws_FnExactSameLog_en : Entry := ⟨laws_FnExactSameLog_sg, fun x => laws_FnExactSameLog x.1 x.2.1⟩
theorem laws_FnExactSameLog_eq (x : laws_FnExactSameLog_sg.dom) : body (env [(41, laws_szLog_en), (42, spec_SameLog_en), (43, laws_toLog_en), (44, impl_SameLog_en), (45, laws_eqLog_en)]) [] Try.f9 laws_FnExactSameLog_sg x = laws_FnExactSameLog x.1 x.2.1 := by kernel_rfl
theorem laws_FnExactSameLog_so : Sound Try.prog 9 laws_FnExactSameLog_en := sound_of_body (envS (l := [(41, laws_szLog_en), (42, spec_SameLog_en), (43, laws_toLog_en), (44, impl_SameLog_en), (45, laws_eqLog_en)]) (⟨laws_szLog_so, spec_SameLog_so, laws_toLog_so, impl_SameLog_so, laws_eqLog_so, trivial⟩)) Try.func9 (by kernel_rfl) rfl (fun x y h => (laws_FnExactSameLog_eq x).trans h)

-- loop.example/g01204/impl.TicksOf
noncomputable def impl_TicksOf (a0 : (Int × ((Vec 3 Nat) × ((List (Vec 3 Nat)) × ((List (Int × ((Vec 3 Nat) × (Int × (Int × Unit))))) × Unit))))) : Option ((Int × Int × Unit) × Unit) :=
  (impl_ValidMission a0).bind fun y989 =>
  bif (! y989.1.1) then some (((0 : Int), (1 : Int), ()), ()) else
  (impl_ticksOf a0).bind fun y991 =>
  some ((y991.1.1, (0 : Int), ()), ())
noncomputable def impl_TicksOf_sg : Sig := ⟨[.v (.pair (.int .i64) (.pair (.arr 3 (.flt .f32)) (.pair (.list (.arr 3 (.flt .f32))) (.pair (.list (.pair (.int .i64) (.pair (.arr 3 (.flt .f32)) (.pair (.int .i64) (.pair (.int .i64) (.unit)))))) (.unit)))))], [.v (.val (.int .i64)), .v (.val (.int .i64))], false⟩
noncomputable def impl_TicksOf_en : Entry := ⟨impl_TicksOf_sg, fun x => impl_TicksOf x.1⟩
theorem impl_TicksOf_eq (x : impl_TicksOf_sg.dom) : body (env [(37, impl_ValidMission_en), (95, impl_ticksOf_en)]) [] Try.f47 impl_TicksOf_sg x = impl_TicksOf x.1 := by kernel_rfl
theorem impl_TicksOf_so : Sound Try.prog 47 impl_TicksOf_en := sound_of_body (envS (l := [(37, impl_ValidMission_en), (95, impl_ticksOf_en)]) (⟨impl_ValidMission_so, impl_ticksOf_so, trivial⟩)) Try.func47 (by kernel_rfl) rfl (fun x y h => (impl_TicksOf_eq x).trans h)

-- loop.example/g01204/spec.TicksOf
noncomputable def spec_TicksOf_l5 (a0 : (Int × ((Vec 3 Nat) × ((List (Vec 3 Nat)) × ((List (Int × ((Vec 3 Nat) × (Int × (Int × Unit))))) × Unit))))) (s994 : (Int × Int × Unit)) : Option ((Int × Int × Unit) ⊕ ((Int × Int × Unit) × Unit)) :=
  bif (iLt s994.2.1 (lenI a0.2.2.2.1)) then
    bif inB s994.2.1 (List.length a0.2.2.2.1) then
      some (Sum.inl ((iAdd .i64 s994.1 ((List.getD a0.2.2.2.1 s994.2.1.toNat ((0, (0, 0, 0, ()), 0, 0, ()) : (Int × ((Vec 3 Nat) × (Int × (Int × Unit)))))).1)), (iAdd .i64 s994.2.1 1), ()))
    else none
  else
  Option.map Sum.inr (some ((s994.1, (0 : Int), ()), ()))
noncomputable def spec_TicksOf (a0 : (Int × ((Vec 3 Nat) × ((List (Vec 3 Nat)) × ((List (Int × ((Vec 3 Nat) × (Int × (Int × Unit))))) × Unit))))) : Option ((Int × Int × Unit) × Unit) :=
  (spec_l08Ok a0).bind fun y992 =>
  bif (! y992.1.1) then some (((0 : Int), (1 : Int), ()), ()) else run (spec_TicksOf_l5 a0) ((0 : Int), (0 : Int), ())
noncomputable def spec_TicksOf_sg : Sig := ⟨[.v (.pair (.int .i64) (.pair (.arr 3 (.flt .f32)) (.pair (.list (.arr 3 (.flt .f32))) (.pair (.list (.pair (.int .i64) (.pair (.arr 3 (.flt .f32)) (.pair (.int .i64) (.pair (.int .i64) (.unit)))))) (.unit)))))], [.v (.val (.int .i64)), .v (.val (.int .i64))], false⟩
noncomputable def spec_TicksOf_en : Entry := ⟨spec_TicksOf_sg, fun x => spec_TicksOf x.1⟩
theorem spec_TicksOf_eq (x : spec_TicksOf_sg.dom) : body (env [(91, spec_l08Ok_en)]) [(5, .vary [(4, .sc (.int .i64)), (5, .sc (.int .i64))])] Try.f46 spec_TicksOf_sg x = spec_TicksOf x.1 := by kernel_rfl
theorem spec_TicksOf_so : Sound Try.prog 46 spec_TicksOf_en := sound_of_body (envS (l := [(91, spec_l08Ok_en)]) (⟨spec_l08Ok_so, trivial⟩)) Try.func46 (by kernel_rfl) rfl (fun x y h => (spec_TicksOf_eq x).trans h)

-- loop.example/g01204/laws.FnExactTicksOf
noncomputable def laws_FnExactTicksOf (a0 : (Int × ((Vec 3 Nat) × ((List (Vec 3 Nat)) × ((List (Int × ((Vec 3 Nat) × (Int × (Int × Unit))))) × Unit))))) : Option ((Bool × Unit) × Unit) :=
  (laws_szMission a0 (1048576 : Int)).bind fun y978 =>
  bif (iLt y978.1.1 0) then some ((true, ()), ()) else
  (laws_toMission a0).bind fun y980 =>
  (spec_TicksOf ((y980.1.1.1, y980.1.1.2.1, y980.1.1.2.2.1, y980.1.1.2.2.2.1, y980.1.1.2.2.2.2) : (Int × ((Vec 3 Nat) × ((List (Vec 3 Nat)) × ((List (Int × ((Vec 3 Nat) × (Int × (Int × Unit))))) × Unit)))))).bind fun y981 =>
  (laws_toMission a0).bind fun y982 =>
  (impl_TicksOf ((y982.1.1.1, y982.1.1.2.1, y982.1.1.2.2.1, y982.1.1.2.2.2.1, y982.1.1.2.2.2.2) : (Int × ((Vec 3 Nat) × ((List (Vec 3 Nat)) × ((List (Int × ((Vec 3 Nat) × (Int × (Int × Unit))))) × Unit)))))).bind fun y983 =>
  bif (! (iEq y983.1.1 y981.1.1)) then some ((false, ()), ()) else
  bif (! (iEq y983.1.2.1 y981.1.2.1)) then some ((false, ()), ()) else
  (laws_toMission a0).bind fun y986 =>
  (laws_eqMission ((y982.1.1.1, y982.1.1.2.1, y982.1.1.2.2.1, y982.1.1.2.2.2.1, y982.1.1.2.2.2.2) : (Int × ((Vec 3 Nat) × ((List (Vec 3 Nat)) × ((List (Int × ((Vec 3 Nat) × (Int × (Int × Unit))))) × Unit))))) ((y986.1.1.1, y986.1.1.2.1, y986.1.1.2.2.1, y986.1.1.2.2.2.1, y986.1.1.2.2.2.2) : (Int × ((Vec 3 Nat) × ((List (Vec 3 Nat)) × ((List (Int × ((Vec 3 Nat) × (Int × (Int × Unit))))) × Unit)))))).bind fun y987 =>
  bif (! y987.1.1) then some ((false, ()), ()) else some ((true, ()), ())
noncomputable def laws_FnExactTicksOf_sg : Sig := ⟨[.v (.pair (.int .i64) (.pair (.arr 3 (.flt .f32)) (.pair (.list (.arr 3 (.flt .f32))) (.pair (.list (.pair (.int .i64) (.pair (.arr 3 (.flt .f32)) (.pair (.int .i64) (.pair (.int .i64) (.unit)))))) (.unit)))))], [.v (.val (.bool))], false⟩
noncomputable def laws_FnExactTicksOf_en : Entry := ⟨laws_FnExactTicksOf_sg, fun x => laws_FnExactTicksOf x.1⟩
theorem laws_FnExactTicksOf_eq (x : laws_FnExactTicksOf_sg.dom) : body (env [(29, laws_szMission_en), (31, laws_toMission_en), (33, laws_eqMission_en), (46, spec_TicksOf_en), (47, impl_TicksOf_en)]) [] Try.f10 laws_FnExactTicksOf_sg x = laws_FnExactTicksOf x.1 := by kernel_rfl
theorem laws_FnExactTicksOf_so : Sound Try.prog 10 laws_FnExactTicksOf_en := sound_of_body (envS (l := [(29, laws_szMission_en), (31, laws_toMission_en), (33, laws_eqMission_en), (46, spec_TicksOf_en), (47, impl_TicksOf_en)]) (⟨laws_szMission_so, laws_toMission_so, laws_eqMission_so, spec_TicksOf_so, impl_TicksOf_so, trivial⟩)) Try.func10 (by kernel_rfl) rfl (fun x y h => (laws_FnExactTicksOf_eq x).trans h)

-- loop.example/g01204/impl.aheadOnWay
noncomputable def impl_aheadOnWay_l9 (a0 : (List (Vec 2 Nat))) (s1029 : (Nat × Int × Unit)) : Option ((Nat × Int × Unit) ⊕ (((Vec 2 Nat) × Unit) × Unit)) :=
  bif (iLt (iAdd .i64 s1029.2.1 1) (lenI a0)) then
    bif inB s1029.2.1 (List.length a0) then
      let x1032 := List.getD a0 s1029.2.1.toNat ((0, 0, ()) : (Vec 2 Nat))
      let x1033 := iAdd .i64 s1029.2.1 1
      bif inB x1033 (List.length a0) then
        let x1034 := List.getD a0 x1033.toNat ((0, 0, ()) : (Vec 2 Nat))
        (impl_square x1032 x1034).bind fun y1035 =>
        (impl_root y1035.1.1).bind fun y1036 =>
        bif (fEq .f32 y1036.1.1 0) then
          some (Sum.inl (s1029.1, (iAdd .i64 s1029.2.1 1), ()))
        else
        bif (fLe .f32 s1029.1 y1036.1.1) then
          let x1040 := fDiv .f32 s1029.1 y1036.1.1
          let x1046 := fAdd .f32 (Vec.getD 2 x1032 0 (0 : Nat)) (fMul .f32 (fSub .f32 (Vec.getD 2 x1034 0 (0 : Nat)) (Vec.getD 2 x1032 0 (0 : Nat))) x1040)
          Option.map Sum.inr (some (((Vec.set 2 (Vec.set 2 x1032 0 x1046) 1 (fAdd .f32 (Vec.getD 2 (Vec.set 2 x1032 0 x1046) 1 (0 : Nat)) (fMul .f32 (fSub .f32 (Vec.getD 2 x1034 1 (0 : Nat)) (Vec.getD 2 (Vec.set 2 x1032 0 x1046) 1 (0 : Nat))) x1040))), ()), ()))
        else
        some (Sum.inl ((fSub .f32 s1029.1 y1036.1.1), (iAdd .i64 s1029.2.1 1), ()))
      else none
    else none
  else
  Option.map Sum.inr (
    let x1056 := iSub .i64 (lenI a0) 1
    bif inB x1056 (List.length a0) then
      some (((List.getD a0 x1056.toNat ((0, 0, ()) : (Vec 2 Nat))), ()), ())
    else none)
noncomputable def impl_aheadOnWay_l3 (a0 : (List (Vec 2 Nat))) (a1 : (Vec 2 Nat)) (a2 : Nat) (s1020 : (Int × Int × Unit)) : Option ((Int × Int × Unit) ⊕ (((Vec 2 Nat) × Unit) × Unit)) :=
  bif (iLt s1020.2.1 (lenI a0)) then
    bif inB s1020.2.1 (List.length a0) then
      (impl_square (List.getD a0 s1020.2.1.toNat ((0, 0, ()) : (Vec 2 Nat))) a1).bind fun y1023 =>
      bif inB s1020.1 (List.length a0) then
        (impl_square (List.getD a0 s1020.1.toNat ((0, 0, ()) : (Vec 2 Nat))) a1).bind fun y1025 =>
        bif (fLt .f32 y1023.1.1 y1025.1.1) then
          some (Sum.inl (s1020.2.1, (iAdd .i64 s1020.2.1 1), ()))
        else
        some (Sum.inl (s1020.1, (iAdd .i64 s1020.2.1 1), ()))
      else none
    else none
  else
  Option.map Sum.inr (run (impl_aheadOnWay_l9 a0) (a2, s1020.1, ()))
noncomputable def impl_aheadOnWay (a0 : (List (Vec 2 Nat))) (a1 : (Vec 2 Nat)) (a2 : Nat) : Option (((Vec 2 Nat) × Unit) × Unit) :=
  run (impl_aheadOnWay_l3 a0 a1 a2) ((0 : Int), (0 : Int), ())
noncomputable def impl_aheadOnWay_sg : Sig := ⟨[.v (.list (.arr 2 (.flt .f32))), .v (.arr 2 (.flt .f32)), .v (.flt .f32)], [.v (.val (.arr 2 (.flt .f32)))], false⟩
noncomputable def impl_aheadOnWay_en : Entry := ⟨impl_aheadOnWay_sg, fun x => impl_aheadOnWay x.1 x.2.1 x.2.2.1⟩
theorem impl_aheadOnWay_eq (x : impl_aheadOnWay_sg.dom) : body (env [(76, impl_root_en), (77, impl_square_en)]) [(3, .vary [(7, .sc (.int .i64)), (18, .sc (.int .i64))]), (9, .vary [(2, .sc (.flt .f32)), (10, .sc (.int .i64))]), (18, .unroll 3)] Try.f110 impl_aheadOnWay_sg x = impl_aheadOnWay x.1 x.2.1 x.2.2.1 := by kernel_rfl
theorem impl_aheadOnWay_so : Sound Try.prog 110 impl_aheadOnWay_en := sound_of_body (envS (l := [(76, impl_root_en), (77, impl_square_en)]) (⟨impl_root_so, impl_square_so, trivial⟩)) Try.func110 (by kernel_rfl) rfl (fun x y h => (impl_aheadOnWay_eq x).trans h)

-- loop.example/g01204/impl.isLeast$1
noncomputable def impl_isLeast_1 (a0 : Nat) : Option ((Bool × Unit) × Unit) :=
  some (((fLt .f32 a0 0), ()), ())
noncomputable def impl_isLeast_1_sg : Sig := ⟨[.v (.flt .f32)], [.v (.val (.bool))], false⟩
noncomputable def impl_isLeast_1_en : Entry := ⟨impl_isLeast_1_sg, fun x => impl_isLeast_1 x.1⟩
theorem impl_isLeast_1_eq (x : impl_isLeast_1_sg.dom) : body (env []) [] Try.f153 impl_isLeast_1_sg x = impl_isLeast_1 x.1 := by kernel_rfl
theorem impl_isLeast_1_so : Sound Try.prog 153 impl_isLeast_1_en := sound_of_body (envS (l := []) (trivial)) Try.func153 (by kernel_rfl) rfl (fun x y h => (impl_isLeast_1_eq x).trans h)

-- slices.IndexFunc[[]float32,float32]
noncomputable def slices_IndexFunc_float32_l2 (a0 : (List Nat)) (a1 : ((Nat × Unit) → Option Bool)) (s1065 : (Int × Unit)) : Option ((Int × Unit) ⊕ ((Int × Unit) × Unit)) :=
  bif (iLt s1065.1 (lenI a0)) then
    bif inB s1065.1 (List.length a0) then
      (a1 ((List.getD a0 s1065.1.toNat (0 : Nat)), ())).bind fun y1068 =>
      bif y1068 then
        Option.map Sum.inr (some ((s1065.1, ()), ()))
      else
      some (Sum.inl ((iAdd .i64 s1065.1 1), ()))
    else none
  else
  Option.map Sum.inr (some ((((-1 : Int) : Int), ()), ()))
noncomputable def slices_IndexFunc_float32 (a0 : (List Nat)) (a1 : ((Nat × Unit) → Option Bool)) : Option ((Int × Unit) × Unit) :=
  run (slices_IndexFunc_float32_l2 a0 a1) ((0 : Int), ())
noncomputable def slices_IndexFunc_float32_sg : Sig := ⟨[.v (.list (.flt .f32)), .fn ⟨[.flt .f32], .bool⟩], [.v (.val (.int .i64))], false⟩
noncomputable def slices_IndexFunc_float32_en : Entry := ⟨slices_IndexFunc_float32_sg, fun x => slices_IndexFunc_float32 x.1 x.2.1⟩
theorem slices_IndexFunc_float32_eq (x : slices_IndexFunc_float32_sg.dom) : body (env []) [(2, .vary [(8, .sc (.int .i64))])] Try.f181 slices_IndexFunc_float32_sg x = slices_IndexFunc_float32 x.1 x.2.1 := by kernel_rfl
theorem slices_IndexFunc_float32_so : Sound Try.prog 181 slices_IndexFunc_float32_en := sound_of_body (envS (l := []) (trivial)) Try.func181 (by kernel_rfl) rfl (fun x y h => (slices_IndexFunc_float32_eq x).trans h)

-- slices.ContainsFunc[[]float32,float32]
noncomputable def slices_ContainsFunc_float32 (a0 : (List Nat)) (a1 : ((Nat × Unit) → Option Bool)) : Option ((Bool × Unit) × Unit) :=
  (slices_IndexFunc_float32 a0 a1).bind fun y1063 =>
  some (((iLe 0 y1063.1.1), ()), ())
noncomputable def slices_ContainsFunc_float32_sg : Sig := ⟨[.v (.list (.flt .f32)), .fn ⟨[.flt .f32], .bool⟩], [.v (.val (.bool))], false⟩
noncomputable def slices_ContainsFunc_float32_en : Entry := ⟨slices_ContainsFunc_float32_sg, fun x => slices_ContainsFunc_float32 x.1 x.2.1⟩
theorem slices_ContainsFunc_float32_eq (x : slices_ContainsFunc_float32_sg.dom) : body (env [(181, slices_IndexFunc_float32_en)]) [] Try.f152 slices_ContainsFunc_float32_sg x = slices_ContainsFunc_float32 x.1 x.2.1 := by kernel_rfl
theorem slices_ContainsFunc_float32_so : Sound Try.prog 152 slices_ContainsFunc_float32_en := sound_of_body (envS (l := [(181, slices_IndexFunc_float32_en)]) (⟨slices_IndexFunc_float32_so, trivial⟩)) Try.func152 (by kernel_rfl) rfl (fun x y h => (slices_ContainsFunc_float32_eq x).trans h)

-- loop.example/g01204/impl.isLeast
noncomputable def impl_isLeast (a0 : (List Nat)) : Option ((Bool × Unit) × Unit) :=
  (impl_isFinite a0).bind fun y1058 =>
  bif y1058.1.1 then
    (slices_ContainsFunc_float32 a0 (fun (z1059 : (Nat × Unit)) => (impl_isLeast_1 z1059.1).map fun y => y.1.1)).bind fun y1060 =>
    some (((! y1060.1.1), ()), ())
  else some ((false, ()), ())
noncomputable def impl_isLeast_sg : Sig := ⟨[.v (.list (.flt .f32))], [.v (.val (.bool))], false⟩
noncomputable def impl_isLeast_en : Entry := ⟨impl_isLeast_sg, fun x => impl_isLeast x.1⟩
theorem impl_isLeast_eq (x : impl_isLeast_sg.dom) : body (env [(108, impl_isFinite_en), (152, slices_ContainsFunc_float32_en), (153, impl_isLeast_1_en)]) [] Try.f109 impl_isLeast_sg x = impl_isLeast x.1 := by kernel_rfl
theorem impl_isLeast_so : Sound Try.prog 109 impl_isLeast_en := sound_of_body (envS (l := [(108, impl_isFinite_en), (152, slices_ContainsFunc_float32_en), (153, impl_isLeast_1_en)]) (⟨impl_isFinite_so, slices_ContainsFunc_float32_so, impl_isLeast_1_so, trivial⟩)) Try.func109 (by kernel_rfl) rfl (fun x y h => (impl_isLeast_eq x).trans h)

-- loop.example/g01204/impl.AheadOnWay
noncomputable def impl_AheadOnWay (a0 : (List (Vec 2 Nat))) (a1 : (Vec 2 Nat)) (a2 : Nat) : Option (((Vec 2 Nat) × Int × Unit) × Unit) :=
  (impl_isWay a0).bind fun y1013 =>
  bif (! y1013.1.1) then some ((((0, 0, ()) : (Vec 2 Nat)), (2 : Int), ()), ()) else
  (impl_isFinite ([Vec.getD 2 a1 0 (0 : Nat), Vec.getD 2 a1 1 (0 : Nat)] : (List Nat))).bind fun y1015 =>
  bif (! y1015.1.1) then some ((((0, 0, ()) : (Vec 2 Nat)), (2 : Int), ()), ()) else
  (impl_isLeast ([a2] : (List Nat))).bind fun y1017 =>
  bif (! y1017.1.1) then some ((((0, 0, ()) : (Vec 2 Nat)), (2 : Int), ()), ()) else
  (impl_aheadOnWay a0 a1 a2).bind fun y1019 =>
  some ((y1019.1.1, (0 : Int), ()), ())
noncomputable def impl_AheadOnWay_sg : Sig := ⟨[.v (.list (.arr 2 (.flt .f32))), .v (.arr 2 (.flt .f32)), .v (.flt .f32)], [.v (.val (.arr 2 (.flt .f32))), .v (.val (.int .i64))], false⟩
noncomputable def impl_AheadOnWay_en : Entry := ⟨impl_AheadOnWay_sg, fun x => impl_AheadOnWay x.1 x.2.1 x.2.2.1⟩
theorem impl_AheadOnWay_eq (x : impl_AheadOnWay_sg.dom) : body (env [(75, impl_isWay_en), (108, impl_isFinite_en), (109, impl_isLeast_en), (110, impl_aheadOnWay_en)]) [] Try.f50 impl_AheadOnWay_sg x = impl_AheadOnWay x.1 x.2.1 x.2.2.1 := by kernel_rfl
theorem impl_AheadOnWay_so : Sound Try.prog 50 impl_AheadOnWay_en := sound_of_body (envS (l := [(75, impl_isWay_en), (108, impl_isFinite_en), (109, impl_isLeast_en), (110, impl_aheadOnWay_en)]) (⟨impl_isWay_so, impl_isFinite_so, impl_isLeast_so, impl_aheadOnWay_so, trivial⟩)) Try.func50 (by kernel_rfl) rfl (fun x y h => (impl_AheadOnWay_eq x).trans h)

-- loop.example/g01204/spec.l07Ahead
noncomputable def spec_l07Ahead_l8 (a0 : (List (Vec 2 Nat))) (s1082 : (Nat × Int × Unit)) : Option ((Nat × Int × Unit) ⊕ (((Vec 2 Nat) × Unit) × Unit)) :=
  bif (iLt (iAdd .i64 s1082.2.1 1) (lenI a0)) then
    bif inB s1082.2.1 (List.length a0) then
      let x1086 := iAdd .i64 s1082.2.1 1
      bif inB x1086 (List.length a0) then
        (spec_l07Square (List.getD a0 s1082.2.1.toNat ((0, 0, ()) : (Vec 2 Nat))) (List.getD a0 x1086.toNat ((0, 0, ()) : (Vec 2 Nat)))).bind fun y1088 =>
        (spec_l01Root y1088.1.1).bind fun y1089 =>
        bif (fEq .f32 y1089.1.1 0) then
          some (Sum.inl (s1082.1, (iAdd .i64 s1082.2.1 1), ()))
        else
        bif (fLe .f32 s1082.1 y1089.1.1) then
          let x1093 := fDiv .f32 s1082.1 y1089.1.1
          bif inB s1082.2.1 (List.length a0) then
            let x1095 := iAdd .i64 s1082.2.1 1
            bif inB x1095 (List.length a0) then
              bif inB s1082.2.1 (List.length a0) then
                bif inB s1082.2.1 (List.length a0) then
                  let x1102 := iAdd .i64 s1082.2.1 1
                  bif inB x1102 (List.length a0) then
                    bif inB s1082.2.1 (List.length a0) then
                      Option.map Sum.inr (some (((((fAdd .f32 (Vec.getD 2 (List.getD a0 s1082.2.1.toNat ((0, 0, ()) : (Vec 2 Nat))) 0 (0 : Nat)) (fMul .f32 (fSub .f32 (Vec.getD 2 (List.getD a0 x1095.toNat ((0, 0, ()) : (Vec 2 Nat))) 0 (0 : Nat)) (Vec.getD 2 (List.getD a0 s1082.2.1.toNat ((0, 0, ()) : (Vec 2 Nat))) 0 (0 : Nat))) x1093)), (fAdd .f32 (Vec.getD 2 (List.getD a0 s1082.2.1.toNat ((0, 0, ()) : (Vec 2 Nat))) 1 (0 : Nat)) (fMul .f32 (fSub .f32 (Vec.getD 2 (List.getD a0 x1102.toNat ((0, 0, ()) : (Vec 2 Nat))) 1 (0 : Nat)) (Vec.getD 2 (List.getD a0 s1082.2.1.toNat ((0, 0, ()) : (Vec 2 Nat))) 1 (0 : Nat))) x1093)), ()) : (Vec 2 Nat)), ()), ()))
                    else none
                  else none
                else none
              else none
            else none
          else none
        else
        some (Sum.inl ((fSub .f32 s1082.1 y1089.1.1), (iAdd .i64 s1082.2.1 1), ()))
      else none
    else none
  else
  Option.map Sum.inr (
    let x1110 := iSub .i64 (lenI a0) 1
    bif inB x1110 (List.length a0) then
      some (((List.getD a0 x1110.toNat ((0, 0, ()) : (Vec 2 Nat))), ()), ())
    else none)
noncomputable def spec_l07Ahead_l3 (a0 : (List (Vec 2 Nat))) (a1 : (Vec 2 Nat)) (a2 : Nat) (s1073 : (Int × Int × Unit)) : Option ((Int × Int × Unit) ⊕ (((Vec 2 Nat) × Unit) × Unit)) :=
  bif (iLt s1073.2.1 (lenI a0)) then
    bif inB s1073.2.1 (List.length a0) then
      (spec_l07Square a1 (List.getD a0 s1073.2.1.toNat ((0, 0, ()) : (Vec 2 Nat)))).bind fun y1076 =>
      bif inB s1073.1 (List.length a0) then
        (spec_l07Square a1 (List.getD a0 s1073.1.toNat ((0, 0, ()) : (Vec 2 Nat)))).bind fun y1078 =>
        bif (fLt .f32 y1076.1.1 y1078.1.1) then
          some (Sum.inl (s1073.2.1, (iAdd .i64 s1073.2.1 1), ()))
        else
        some (Sum.inl (s1073.1, (iAdd .i64 s1073.2.1 1), ()))
      else none
    else none
  else
  Option.map Sum.inr (run (spec_l07Ahead_l8 a0) (a2, s1073.1, ()))
noncomputable def spec_l07Ahead (a0 : (List (Vec 2 Nat))) (a1 : (Vec 2 Nat)) (a2 : Nat) : Option (((Vec 2 Nat) × Unit) × Unit) :=
  run (spec_l07Ahead_l3 a0 a1 a2) ((0 : Int), (1 : Int), ())
noncomputable def spec_l07Ahead_sg : Sig := ⟨[.v (.list (.arr 2 (.flt .f32))), .v (.arr 2 (.flt .f32)), .v (.flt .f32)], [.v (.val (.arr 2 (.flt .f32)))], false⟩
noncomputable def spec_l07Ahead_en : Entry := ⟨spec_l07Ahead_sg, fun x => spec_l07Ahead x.1 x.2.1 x.2.2.1⟩
theorem spec_l07Ahead_eq (x : spec_l07Ahead_sg.dom) : body (env [(73, spec_l01Root_en), (74, spec_l07Square_en)]) [(3, .vary [(7, .sc (.int .i64)), (8, .sc (.int .i64))]), (8, .vary [(2, .sc (.flt .f32)), (9, .sc (.int .i64))])] Try.f107 spec_l07Ahead_sg x = spec_l07Ahead x.1 x.2.1 x.2.2.1 := by kernel_rfl
theorem spec_l07Ahead_so : Sound Try.prog 107 spec_l07Ahead_en := sound_of_body (envS (l := [(73, spec_l01Root_en), (74, spec_l07Square_en)]) (⟨spec_l01Root_so, spec_l07Square_so, trivial⟩)) Try.func107 (by kernel_rfl) rfl (fun x y h => (spec_l07Ahead_eq x).trans h)

-- loop.example/g01204/spec.l07Follows
noncomputable def spec_l07Follows (a0 : (List (Vec 2 Nat))) (a1 : (Vec 2 Nat)) (a2 : Nat) : Option ((Bool × Unit) × Unit) :=
  (spec_l07Way a0).bind fun y1112 =>
  bif y1112.1.1 then
    (spec_l01Finite (Vec.getD 2 a1 0 (0 : Nat))).bind fun y1114 =>
    bif y1114.1.1 then
      (spec_l01Finite (Vec.getD 2 a1 1 (0 : Nat))).bind fun y1116 =>
      bif y1116.1.1 then
        (spec_l01Finite a2).bind fun y1117 =>
        bif y1117.1.1 then
          some (((fLe .f32 0 a2), ()), ())
        else some ((false, ()), ())
      else some ((false, ()), ())
    else some ((false, ()), ())
  else some ((false, ()), ())
noncomputable def spec_l07Follows_sg : Sig := ⟨[.v (.list (.arr 2 (.flt .f32))), .v (.arr 2 (.flt .f32)), .v (.flt .f32)], [.v (.val (.bool))], false⟩
noncomputable def spec_l07Follows_en : Entry := ⟨spec_l07Follows_sg, fun x => spec_l07Follows x.1 x.2.1 x.2.2.1⟩
theorem spec_l07Follows_eq (x : spec_l07Follows_sg.dom) : body (env [(72, spec_l07Way_en), (134, spec_l01Finite_en)]) [] Try.f106 spec_l07Follows_sg x = spec_l07Follows x.1 x.2.1 x.2.2.1 := by kernel_rfl
theorem spec_l07Follows_so : Sound Try.prog 106 spec_l07Follows_en := sound_of_body (envS (l := [(72, spec_l07Way_en), (134, spec_l01Finite_en)]) (⟨spec_l07Way_so, spec_l01Finite_so, trivial⟩)) Try.func106 (by kernel_rfl) rfl (fun x y h => (spec_l07Follows_eq x).trans h)

-- loop.example/g01204/spec.AheadOnWay
noncomputable def spec_AheadOnWay (a0 : (List (Vec 2 Nat))) (a1 : (Vec 2 Nat)) (a2 : Nat) : Option (((Vec 2 Nat) × Int × Unit) × Unit) :=
  (spec_l07Follows a0 a1 a2).bind fun y1070 =>
  bif (! y1070.1.1) then some ((((0, 0, ()) : (Vec 2 Nat)), (2 : Int), ()), ()) else
  (spec_l07Ahead a0 a1 a2).bind fun y1072 =>
  some ((y1072.1.1, (0 : Int), ()), ())
noncomputable def spec_AheadOnWay_sg : Sig := ⟨[.v (.list (.arr 2 (.flt .f32))), .v (.arr 2 (.flt .f32)), .v (.flt .f32)], [.v (.val (.arr 2 (.flt .f32))), .v (.val (.int .i64))], false⟩
noncomputable def spec_AheadOnWay_en : Entry := ⟨spec_AheadOnWay_sg, fun x => spec_AheadOnWay x.1 x.2.1 x.2.2.1⟩
theorem spec_AheadOnWay_eq (x : spec_AheadOnWay_sg.dom) : body (env [(106, spec_l07Follows_en), (107, spec_l07Ahead_en)]) [] Try.f48 spec_AheadOnWay_sg x = spec_AheadOnWay x.1 x.2.1 x.2.2.1 := by kernel_rfl
theorem spec_AheadOnWay_so : Sound Try.prog 48 spec_AheadOnWay_en := sound_of_body (envS (l := [(106, spec_l07Follows_en), (107, spec_l07Ahead_en)]) (⟨spec_l07Follows_so, spec_l07Ahead_so, trivial⟩)) Try.func48 (by kernel_rfl) rfl (fun x y h => (spec_AheadOnWay_eq x).trans h)

-- loop.example/g01204/laws.FnExactAheadOnWay
noncomputable def laws_FnExactAheadOnWay (a0 : (List (Vec 2 Nat))) (a1 : (Vec 2 Nat)) (a2 : Nat) : Option ((Bool × Unit) × Unit) :=
  (laws_szFloat32A2S a0 (1048576 : Int)).bind fun y999 =>
  bif (iLt y999.1.1 0) then some ((true, ()), ()) else
  (laws_toFloat32A2S a0).bind fun y1001 =>
  (laws_toFloat32A2 a1).bind fun y1002 =>
  (spec_AheadOnWay y1001.1.1 y1002.1.1 a2).bind fun y1003 =>
  (laws_toFloat32A2S a0).bind fun y1004 =>
  (laws_toFloat32A2 a1).bind fun y1005 =>
  (impl_AheadOnWay y1004.1.1 y1005.1.1 a2).bind fun y1006 =>
  (laws_eqFloat32A2 y1006.1.1 y1003.1.1).bind fun y1007 =>
  bif (! y1007.1.1) then some ((false, ()), ()) else
  bif (! (iEq y1006.1.2.1 y1003.1.2.1)) then some ((false, ()), ()) else
  (laws_toFloat32A2S a0).bind fun y1010 =>
  (laws_eqFloat32A2S y1004.1.1 y1010.1.1).bind fun y1011 =>
  bif (! y1011.1.1) then some ((false, ()), ()) else some ((true, ()), ())
noncomputable def laws_FnExactAheadOnWay_sg : Sig := ⟨[.v (.list (.arr 2 (.flt .f32))), .v (.arr 2 (.flt .f32)), .v (.flt .f32)], [.v (.val (.bool))], false⟩
noncomputable def laws_FnExactAheadOnWay_en : Entry := ⟨laws_FnExactAheadOnWay_sg, fun x => laws_FnExactAheadOnWay x.1 x.2.1 x.2.2.1⟩
theorem laws_FnExactAheadOnWay_eq (x : laws_FnExactAheadOnWay_sg.dom) : body (env [(23, laws_szFloat32A2S_en), (25, laws_toFloat32A2S_en), (28, laws_eqFloat32A2S_en), (48, spec_AheadOnWay_en), (49, laws_toFloat32A2_en), (50, impl_AheadOnWay_en), (51, laws_eqFloat32A2_en)]) [] Try.f11 laws_FnExactAheadOnWay_sg x = laws_FnExactAheadOnWay x.1 x.2.1 x.2.2.1 := by kernel_rfl
theorem laws_FnExactAheadOnWay_so : Sound Try.prog 11 laws_FnExactAheadOnWay_en := sound_of_body (envS (l := [(23, laws_szFloat32A2S_en), (25, laws_toFloat32A2S_en), (28, laws_eqFloat32A2S_en), (48, spec_AheadOnWay_en), (49, laws_toFloat32A2_en), (50, impl_AheadOnWay_en), (51, laws_eqFloat32A2_en)]) (⟨laws_szFloat32A2S_so, laws_toFloat32A2S_so, laws_eqFloat32A2S_so, spec_AheadOnWay_so, laws_toFloat32A2_so, impl_AheadOnWay_so, laws_eqFloat32A2_so, trivial⟩)) Try.func11 (by kernel_rfl) rfl (fun x y h => (laws_FnExactAheadOnWay_eq x).trans h)

-- loop.example/g01204/impl.validEntry
noncomputable def impl_validEntry (a0 : (Int × ((Vec 3 Nat) × ((Vec 3 Int) × (Int × (Nat × Unit)))))) (a1 : Int) : Option ((Bool × Unit) × Unit) :=
  bif (iEq a0.1 1) then
    (impl_sameEntry a0 ((a0.1, (0, 0, 0, ()), (0, 0, 0, ()), 0, 0, ()) : (Int × ((Vec 3 Nat) × ((Vec 3 Int) × (Int × (Nat × Unit))))))).bind fun y1137 =>
    bif y1137.1.1 then
      (impl_IsFiniteVec a0.2.1).bind fun y1138 =>
      bif y1138.1.1 then
        (impl_isFinite ([a0.2.2.2.2.1] : (List Nat))).bind fun y1139 =>
        some ((y1139.1.1, ()), ())
      else some ((false, ()), ())
    else some ((false, ()), ())
  else
  bif (iEq a0.1 2) then
    (impl_sameEntry a0 ((a0.1, a0.2.1, (0, 0, 0, ()), 0, 0, ()) : (Int × ((Vec 3 Nat) × ((Vec 3 Int) × (Int × (Nat × Unit))))))).bind fun y1141 =>
    bif y1141.1.1 then
      (impl_IsFiniteVec a0.2.1).bind fun y1142 =>
      bif y1142.1.1 then
        (impl_isFinite ([a0.2.2.2.2.1] : (List Nat))).bind fun y1143 =>
        some ((y1143.1.1, ()), ())
      else some ((false, ()), ())
    else some ((false, ()), ())
  else
  bif (iEq a0.1 3) then
    (impl_sameEntry a0 ((a0.1, (0, 0, 0, ()), a0.2.2.1, 0, 0, ()) : (Int × ((Vec 3 Nat) × ((Vec 3 Int) × (Int × (Nat × Unit))))))).bind fun y1145 =>
    bif y1145.1.1 then
      (impl_IsFiniteVec a0.2.1).bind fun y1146 =>
      bif y1146.1.1 then
        (impl_isFinite ([a0.2.2.2.2.1] : (List Nat))).bind fun y1147 =>
        some ((y1147.1.1, ()), ())
      else some ((false, ()), ())
    else some ((false, ()), ())
  else
  bif (iEq a0.1 4) then
    (impl_within a0.2.2.2.1 (0 : Int) (iSub .i64 a1 1)).bind fun y1150 =>
    bif (! y1150.1.1) then some ((false, ()), ()) else
    (impl_sameEntry a0 ((a0.1, (0, 0, 0, ()), (0, 0, 0, ()), a0.2.2.2.1, a0.2.2.2.2.1, ()) : (Int × ((Vec 3 Nat) × ((Vec 3 Int) × (Int × (Nat × Unit))))))).bind fun y1152 =>
    bif y1152.1.1 then
      (impl_IsFiniteVec a0.2.1).bind fun y1153 =>
      bif y1153.1.1 then
        (impl_isFinite ([a0.2.2.2.2.1] : (List Nat))).bind fun y1154 =>
        some ((y1154.1.1, ()), ())
      else some ((false, ()), ())
    else some ((false, ()), ())
  else some ((false, ()), ())
noncomputable def impl_validEntry_sg : Sig := ⟨[.v (.pair (.int .i64) (.pair (.arr 3 (.flt .f32)) (.pair (.arr 3 (.int .i16)) (.pair (.int .i64) (.pair (.flt .f32) (.unit)))))), .v (.int .i64)], [.v (.val (.bool))], false⟩
noncomputable def impl_validEntry_en : Entry := ⟨impl_validEntry_sg, fun x => impl_validEntry x.1 x.2.1⟩
theorem impl_validEntry_eq (x : impl_validEntry_sg.dom) : body (env [(93, impl_within_en), (94, impl_IsFiniteVec_en), (104, impl_sameEntry_en), (108, impl_isFinite_en)]) [] Try.f114 impl_validEntry_sg x = impl_validEntry x.1 x.2.1 := by kernel_rfl
theorem impl_validEntry_so : Sound Try.prog 114 impl_validEntry_en := sound_of_body (envS (l := [(93, impl_within_en), (94, impl_IsFiniteVec_en), (104, impl_sameEntry_en), (108, impl_isFinite_en)]) (⟨impl_within_so, impl_IsFiniteVec_so, impl_sameEntry_so, impl_isFinite_so, trivial⟩)) Try.func114 (by kernel_rfl) rfl (fun x y h => (impl_validEntry_eq x).trans h)

-- loop.example/g01204/impl.ValidLog$1
noncomputable def impl_ValidLog_1 (a0 : (Int × ((Vec 3 Nat) × ((Vec 3 Int) × (Int × (Nat × Unit)))))) (a1 : (Int × ((Vec 3 Nat) × ((List (Vec 3 Nat)) × ((List (Int × ((Vec 3 Nat) × ((Vec 3 Int) × (Int × (Nat × Unit)))))) × Unit))))) : Option ((Bool × Unit) × Unit) :=
  (impl_validEntry a0 (lenI a1.2.2.1)).bind fun y1134 =>
  some (((! y1134.1.1), ()), ())
noncomputable def impl_ValidLog_1_sg : Sig := ⟨[.v (.pair (.int .i64) (.pair (.arr 3 (.flt .f32)) (.pair (.arr 3 (.int .i16)) (.pair (.int .i64) (.pair (.flt .f32) (.unit)))))), .ro (.pair (.int .i64) (.pair (.arr 3 (.flt .f32)) (.pair (.list (.arr 3 (.flt .f32))) (.pair (.list (.pair (.int .i64) (.pair (.arr 3 (.flt .f32)) (.pair (.arr 3 (.int .i16)) (.pair (.int .i64) (.pair (.flt .f32) (.unit))))))) (.unit)))))], [.v (.val (.bool))], false⟩
noncomputable def impl_ValidLog_1_en : Entry := ⟨impl_ValidLog_1_sg, fun x => impl_ValidLog_1 x.1 x.2.1⟩
theorem impl_ValidLog_1_eq (x : impl_ValidLog_1_sg.dom) : body (env [(114, impl_validEntry_en)]) [] Try.f113 impl_ValidLog_1_sg x = impl_ValidLog_1 x.1 x.2.1 := by kernel_rfl
theorem impl_ValidLog_1_so : Sound Try.prog 113 impl_ValidLog_1_en := sound_of_body (envS (l := [(114, impl_validEntry_en)]) (⟨impl_validEntry_so, trivial⟩)) Try.func113 (by kernel_rfl) rfl (fun x y h => (impl_ValidLog_1_eq x).trans h)

-- slices.IndexFunc[[]loop.example/g01204/impl.Entry,loop.example/g01204/impl.Entry]
noncomputable def slices_IndexFunc_impl_Entry_l2 (a0 : (List (Int × ((Vec 3 Nat) × ((Vec 3 Int) × (Int × (Nat × Unit))))))) (a1 : (((Int × ((Vec 3 Nat) × ((Vec 3 Int) × (Int × (Nat × Unit))))) × Unit) → Option Bool)) (s1157 : (Int × Unit)) : Option ((Int × Unit) ⊕ ((Int × Unit) × Unit)) :=
  bif (iLt s1157.1 (lenI a0)) then
    bif inB s1157.1 (List.length a0) then
      (a1 ((List.getD a0 s1157.1.toNat ((0, (0, 0, 0, ()), (0, 0, 0, ()), 0, 0, ()) : (Int × ((Vec 3 Nat) × ((Vec 3 Int) × (Int × (Nat × Unit))))))), ())).bind fun y1160 =>
      bif y1160 then
        Option.map Sum.inr (some ((s1157.1, ()), ()))
      else
      some (Sum.inl ((iAdd .i64 s1157.1 1), ()))
    else none
  else
  Option.map Sum.inr (some ((((-1 : Int) : Int), ()), ()))
noncomputable def slices_IndexFunc_impl_Entry (a0 : (List (Int × ((Vec 3 Nat) × ((Vec 3 Int) × (Int × (Nat × Unit))))))) (a1 : (((Int × ((Vec 3 Nat) × ((Vec 3 Int) × (Int × (Nat × Unit))))) × Unit) → Option Bool)) : Option ((Int × Unit) × Unit) :=
  run (slices_IndexFunc_impl_Entry_l2 a0 a1) ((0 : Int), ())
noncomputable def slices_IndexFunc_impl_Entry_sg : Sig := ⟨[.v (.list (.pair (.int .i64) (.pair (.arr 3 (.flt .f32)) (.pair (.arr 3 (.int .i16)) (.pair (.int .i64) (.pair (.flt .f32) (.unit))))))), .fn ⟨[.pair (.int .i64) (.pair (.arr 3 (.flt .f32)) (.pair (.arr 3 (.int .i16)) (.pair (.int .i64) (.pair (.flt .f32) (.unit)))))], .bool⟩], [.v (.val (.int .i64))], false⟩
noncomputable def slices_IndexFunc_impl_Entry_en : Entry := ⟨slices_IndexFunc_impl_Entry_sg, fun x => slices_IndexFunc_impl_Entry x.1 x.2.1⟩
theorem slices_IndexFunc_impl_Entry_eq (x : slices_IndexFunc_impl_Entry_sg.dom) : body (env []) [(2, .vary [(8, .sc (.int .i64))])] Try.f155 slices_IndexFunc_impl_Entry_sg x = slices_IndexFunc_impl_Entry x.1 x.2.1 := by kernel_rfl
theorem slices_IndexFunc_impl_Entry_so : Sound Try.prog 155 slices_IndexFunc_impl_Entry_en := sound_of_body (envS (l := []) (trivial)) Try.func155 (by kernel_rfl) rfl (fun x y h => (slices_IndexFunc_impl_Entry_eq x).trans h)

-- slices.ContainsFunc[[]loop.example/g01204/impl.Entry,loop.example/g01204/impl.Entry]
noncomputable def slices_ContainsFunc_impl_Entry (a0 : (List (Int × ((Vec 3 Nat) × ((Vec 3 Int) × (Int × (Nat × Unit))))))) (a1 : (((Int × ((Vec 3 Nat) × ((Vec 3 Int) × (Int × (Nat × Unit))))) × Unit) → Option Bool)) : Option ((Bool × Unit) × Unit) :=
  (slices_IndexFunc_impl_Entry a0 a1).bind fun y1155 =>
  some (((iLe 0 y1155.1.1), ()), ())
noncomputable def slices_ContainsFunc_impl_Entry_sg : Sig := ⟨[.v (.list (.pair (.int .i64) (.pair (.arr 3 (.flt .f32)) (.pair (.arr 3 (.int .i16)) (.pair (.int .i64) (.pair (.flt .f32) (.unit))))))), .fn ⟨[.pair (.int .i64) (.pair (.arr 3 (.flt .f32)) (.pair (.arr 3 (.int .i16)) (.pair (.int .i64) (.pair (.flt .f32) (.unit)))))], .bool⟩], [.v (.val (.bool))], false⟩
noncomputable def slices_ContainsFunc_impl_Entry_en : Entry := ⟨slices_ContainsFunc_impl_Entry_sg, fun x => slices_ContainsFunc_impl_Entry x.1 x.2.1⟩
theorem slices_ContainsFunc_impl_Entry_eq (x : slices_ContainsFunc_impl_Entry_sg.dom) : body (env [(155, slices_IndexFunc_impl_Entry_en)]) [] Try.f112 slices_ContainsFunc_impl_Entry_sg x = slices_ContainsFunc_impl_Entry x.1 x.2.1 := by kernel_rfl
theorem slices_ContainsFunc_impl_Entry_so : Sound Try.prog 112 slices_ContainsFunc_impl_Entry_en := sound_of_body (envS (l := [(155, slices_IndexFunc_impl_Entry_en)]) (⟨slices_IndexFunc_impl_Entry_so, trivial⟩)) Try.func112 (by kernel_rfl) rfl (fun x y h => (slices_ContainsFunc_impl_Entry_eq x).trans h)

-- loop.example/g01204/impl.ValidLog
noncomputable def impl_ValidLog (a0 : (Int × ((Vec 3 Nat) × ((List (Vec 3 Nat)) × ((List (Int × ((Vec 3 Nat) × ((Vec 3 Int) × (Int × (Nat × Unit)))))) × Unit))))) : Option ((Bool × Unit) × Unit) :=
  (impl_validFrame a0.1 a0.2.1 a0.2.2.1).bind fun y1129 =>
  bif y1129.1.1 then
    bif (iLe (lenI a0.2.2.2.1) 1200) then
      (slices_ContainsFunc_impl_Entry a0.2.2.2.1 (fun (z1131 : ((Int × ((Vec 3 Nat) × ((Vec 3 Int) × (Int × (Nat × Unit))))) × Unit)) => (impl_ValidLog_1 z1131.1 a0).map fun y => y.1.1)).bind fun y1132 =>
      some (((! y1132.1.1), ()), ())
    else some ((false, ()), ())
  else some ((false, ()), ())
noncomputable def impl_ValidLog_sg : Sig := ⟨[.v (.pair (.int .i64) (.pair (.arr 3 (.flt .f32)) (.pair (.list (.arr 3 (.flt .f32))) (.pair (.list (.pair (.int .i64) (.pair (.arr 3 (.flt .f32)) (.pair (.arr 3 (.int .i16)) (.pair (.int .i64) (.pair (.flt .f32) (.unit))))))) (.unit)))))], [.v (.val (.bool))], false⟩
noncomputable def impl_ValidLog_en : Entry := ⟨impl_ValidLog_sg, fun x => impl_ValidLog x.1⟩
theorem impl_ValidLog_eq (x : impl_ValidLog_sg.dom) : body (env [(92, impl_validFrame_en), (112, slices_ContainsFunc_impl_Entry_en), (113, impl_ValidLog_1_en)]) [] Try.f53 impl_ValidLog_sg x = impl_ValidLog x.1 := by kernel_rfl
theorem impl_ValidLog_so : Sound Try.prog 53 impl_ValidLog_en := sound_of_body (envS (l := [(92, impl_validFrame_en), (112, slices_ContainsFunc_impl_Entry_en), (113, impl_ValidLog_1_en)]) (⟨impl_validFrame_so, slices_ContainsFunc_impl_Entry_so, impl_ValidLog_1_so, trivial⟩)) Try.func53 (by kernel_rfl) rfl (fun x y h => (impl_ValidLog_eq x).trans h)

-- loop.example/g01204/spec.l08Entry
noncomputable def spec_l08Entry (a0 : (Int × ((Vec 3 Nat) × ((Vec 3 Int) × (Int × (Nat × Unit)))))) (a1 : Int) : Option ((Bool × Unit) × Unit) :=
  (spec_l01SameVec a0.2.1 ((0, 0, 0, ()) : (Vec 3 Nat))).bind fun y1171 =>
  bif y1171.1.1 then
    (spec_l01Same a0.2.2.2.2.1 (0 : Nat)).bind fun y1172 =>
    bif y1172.1.1 then
      bif (iEq a0.1 1) then
        bif (iEq (Vec.getD 3 a0.2.2.1 0 (0 : Int)) 0 && (iEq (Vec.getD 3 a0.2.2.1 1 (0 : Int)) 0 && (iEq (Vec.getD 3 a0.2.2.1 2 (0 : Int)) 0 && true))) then
          some (((iEq a0.2.2.2.1 0), ()), ())
        else some ((false, ()), ())
      else
      bif (iEq a0.1 2) then
        (spec_l01Vec a0.2.1).bind fun y1177 =>
        bif y1177.1.1 then
          (spec_l01Same a0.2.2.2.2.1 (0 : Nat)).bind fun y1178 =>
          bif y1178.1.1 then
            bif (iEq (Vec.getD 3 a0.2.2.1 0 (0 : Int)) 0 && (iEq (Vec.getD 3 a0.2.2.1 1 (0 : Int)) 0 && (iEq (Vec.getD 3 a0.2.2.1 2 (0 : Int)) 0 && true))) then
              some (((iEq a0.2.2.2.1 0), ()), ())
            else some ((false, ()), ())
          else some ((false, ()), ())
        else some ((false, ()), ())
      else
      bif (iEq a0.1 3) then
        (spec_l01SameVec a0.2.1 ((0, 0, 0, ()) : (Vec 3 Nat))).bind fun y1182 =>
        bif y1182.1.1 then
          (spec_l01Same a0.2.2.2.2.1 (0 : Nat)).bind fun y1183 =>
          bif y1183.1.1 then
            some (((iEq a0.2.2.2.1 0), ()), ())
          else some ((false, ()), ())
        else some ((false, ()), ())
      else
      bif (iEq a0.1 4) then
        (spec_l01SameVec a0.2.1 ((0, 0, 0, ()) : (Vec 3 Nat))).bind fun y1186 =>
        bif y1186.1.1 then
          bif (iEq (Vec.getD 3 a0.2.2.1 0 (0 : Int)) 0 && (iEq (Vec.getD 3 a0.2.2.1 1 (0 : Int)) 0 && (iEq (Vec.getD 3 a0.2.2.1 2 (0 : Int)) 0 && true))) then
            (spec_l01Finite a0.2.2.2.2.1).bind fun y1188 =>
            bif y1188.1.1 then
              (spec_l00In a0.2.2.2.1 (0 : Int) (iSub .i64 a1 1)).bind fun y1190 =>
              some ((y1190.1.1, ()), ())
            else some ((false, ()), ())
          else some ((false, ()), ())
        else some ((false, ()), ())
      else some ((false, ()), ())
    else
    bif (iEq a0.1 1) then some ((false, ()), ()) else
    bif (iEq a0.1 2) then
      (spec_l01Vec a0.2.1).bind fun y1193 =>
      bif y1193.1.1 then
        (spec_l01Same a0.2.2.2.2.1 (0 : Nat)).bind fun y1194 =>
        bif y1194.1.1 then
          bif (iEq (Vec.getD 3 a0.2.2.1 0 (0 : Int)) 0 && (iEq (Vec.getD 3 a0.2.2.1 1 (0 : Int)) 0 && (iEq (Vec.getD 3 a0.2.2.1 2 (0 : Int)) 0 && true))) then
            some (((iEq a0.2.2.2.1 0), ()), ())
          else some ((false, ()), ())
        else some ((false, ()), ())
      else some ((false, ()), ())
    else
    bif (iEq a0.1 3) then
      (spec_l01SameVec a0.2.1 ((0, 0, 0, ()) : (Vec 3 Nat))).bind fun y1198 =>
      bif y1198.1.1 then
        (spec_l01Same a0.2.2.2.2.1 (0 : Nat)).bind fun y1199 =>
        bif y1199.1.1 then
          some (((iEq a0.2.2.2.1 0), ()), ())
        else some ((false, ()), ())
      else some ((false, ()), ())
    else
    bif (iEq a0.1 4) then
      (spec_l01SameVec a0.2.1 ((0, 0, 0, ()) : (Vec 3 Nat))).bind fun y1202 =>
      bif y1202.1.1 then
        bif (iEq (Vec.getD 3 a0.2.2.1 0 (0 : Int)) 0 && (iEq (Vec.getD 3 a0.2.2.1 1 (0 : Int)) 0 && (iEq (Vec.getD 3 a0.2.2.1 2 (0 : Int)) 0 && true))) then
          (spec_l01Finite a0.2.2.2.2.1).bind fun y1204 =>
          bif y1204.1.1 then
            (spec_l00In a0.2.2.2.1 (0 : Int) (iSub .i64 a1 1)).bind fun y1206 =>
            some ((y1206.1.1, ()), ())
          else some ((false, ()), ())
        else some ((false, ()), ())
      else some ((false, ()), ())
    else some ((false, ()), ())
  else
  bif (iEq a0.1 1) then some ((false, ()), ()) else
  bif (iEq a0.1 2) then
    (spec_l01Vec a0.2.1).bind fun y1209 =>
    bif y1209.1.1 then
      (spec_l01Same a0.2.2.2.2.1 (0 : Nat)).bind fun y1210 =>
      bif y1210.1.1 then
        bif (iEq (Vec.getD 3 a0.2.2.1 0 (0 : Int)) 0 && (iEq (Vec.getD 3 a0.2.2.1 1 (0 : Int)) 0 && (iEq (Vec.getD 3 a0.2.2.1 2 (0 : Int)) 0 && true))) then
          some (((iEq a0.2.2.2.1 0), ()), ())
        else some ((false, ()), ())
      else some ((false, ()), ())
    else some ((false, ()), ())
  else
  bif (iEq a0.1 3) then
    (spec_l01SameVec a0.2.1 ((0, 0, 0, ()) : (Vec 3 Nat))).bind fun y1214 =>
    bif y1214.1.1 then
      (spec_l01Same a0.2.2.2.2.1 (0 : Nat)).bind fun y1215 =>
      bif y1215.1.1 then
        some (((iEq a0.2.2.2.1 0), ()), ())
      else some ((false, ()), ())
    else some ((false, ()), ())
  else
  bif (iEq a0.1 4) then
    (spec_l01SameVec a0.2.1 ((0, 0, 0, ()) : (Vec 3 Nat))).bind fun y1218 =>
    bif y1218.1.1 then
      bif (iEq (Vec.getD 3 a0.2.2.1 0 (0 : Int)) 0 && (iEq (Vec.getD 3 a0.2.2.1 1 (0 : Int)) 0 && (iEq (Vec.getD 3 a0.2.2.1 2 (0 : Int)) 0 && true))) then
        (spec_l01Finite a0.2.2.2.2.1).bind fun y1220 =>
        bif y1220.1.1 then
          (spec_l00In a0.2.2.2.1 (0 : Int) (iSub .i64 a1 1)).bind fun y1222 =>
          some ((y1222.1.1, ()), ())
        else some ((false, ()), ())
      else some ((false, ()), ())
    else some ((false, ()), ())
  else some ((false, ()), ())
noncomputable def spec_l08Entry_sg : Sig := ⟨[.ro (.pair (.int .i64) (.pair (.arr 3 (.flt .f32)) (.pair (.arr 3 (.int .i16)) (.pair (.int .i64) (.pair (.flt .f32) (.unit)))))), .v (.int .i64)], [.v (.val (.bool))], false⟩
noncomputable def spec_l08Entry_en : Entry := ⟨spec_l08Entry_sg, fun x => spec_l08Entry x.1 x.2.1⟩
theorem spec_l08Entry_eq (x : spec_l08Entry_sg.dom) : body (env [(80, spec_l01SameVec_en), (127, spec_l00In_en), (134, spec_l01Finite_en), (138, spec_l01Same_en), (143, spec_l01Vec_en)]) [] Try.f154 spec_l08Entry_sg x = spec_l08Entry x.1 x.2.1 := by kernel_rfl
theorem spec_l08Entry_so : Sound Try.prog 154 spec_l08Entry_en := sound_of_body (envS (l := [(80, spec_l01SameVec_en), (127, spec_l00In_en), (134, spec_l01Finite_en), (138, spec_l01Same_en), (143, spec_l01Vec_en)]) (⟨spec_l01SameVec_so, spec_l00In_so, spec_l01Finite_so, spec_l01Same_so, spec_l01Vec_so, trivial⟩)) Try.func154 (by kernel_rfl) rfl (fun x y h => (spec_l08Entry_eq x).trans h)

-- loop.example/g01204/spec.l08Log
noncomputable def spec_l08Log_l4 (a0 : (Int × ((Vec 3 Nat) × ((List (Vec 3 Nat)) × ((List (Int × ((Vec 3 Nat) × ((Vec 3 Int) × (Int × (Nat × Unit)))))) × Unit))))) (s1166 : (Int × Unit)) : Option ((Int × Unit) ⊕ ((Bool × Unit) × Unit)) :=
  bif (iLt s1166.1 (lenI a0.2.2.2.1)) then
    bif inB s1166.1 (List.length a0.2.2.2.1) then
      (spec_l08Entry (List.getD a0.2.2.2.1 s1166.1.toNat ((0, (0, 0, 0, ()), (0, 0, 0, ()), 0, 0, ()) : (Int × ((Vec 3 Nat) × ((Vec 3 Int) × (Int × (Nat × Unit))))))) (lenI a0.2.2.1)).bind fun y1168 =>
      bif (! y1168.1.1) then
        Option.map Sum.inr (some ((false, ()), ()))
      else
      some (Sum.inl ((iAdd .i64 s1166.1 1), ()))
    else none
  else
  Option.map Sum.inr (some ((true, ()), ()))
noncomputable def spec_l08Log (a0 : (Int × ((Vec 3 Nat) × ((List (Vec 3 Nat)) × ((List (Int × ((Vec 3 Nat) × ((Vec 3 Int) × (Int × (Nat × Unit)))))) × Unit))))) : Option ((Bool × Unit) × Unit) :=
  (spec_l08Frame a0.1 a0.2.1 a0.2.2.1).bind fun y1163 =>
  bif (! y1163.1.1) then some ((false, ()), ()) else
  bif (iLt 1200 (lenI a0.2.2.2.1)) then some ((false, ()), ()) else run (spec_l08Log_l4 a0) ((0 : Int), ())
noncomputable def spec_l08Log_sg : Sig := ⟨[.ro (.pair (.int .i64) (.pair (.arr 3 (.flt .f32)) (.pair (.list (.arr 3 (.flt .f32))) (.pair (.list (.pair (.int .i64) (.pair (.arr 3 (.flt .f32)) (.pair (.arr 3 (.int .i16)) (.pair (.int .i64) (.pair (.flt .f32) (.unit))))))) (.unit)))))], [.v (.val (.bool))], false⟩
noncomputable def spec_l08Log_en : Entry := ⟨spec_l08Log_sg, fun x => spec_l08Log x.1⟩
theorem spec_l08Log_eq (x : spec_l08Log_sg.dom) : body (env [(142, spec_l08Frame_en), (154, spec_l08Entry_en)]) [(4, .vary [(3, .sc (.int .i64))])] Try.f111 spec_l08Log_sg x = spec_l08Log x.1 := by kernel_rfl
theorem spec_l08Log_so : Sound Try.prog 111 spec_l08Log_en := sound_of_body (envS (l := [(142, spec_l08Frame_en), (154, spec_l08Entry_en)]) (⟨spec_l08Frame_so, spec_l08Entry_so, trivial⟩)) Try.func111 (by kernel_rfl) rfl (fun x y h => (spec_l08Log_eq x).trans h)

-- loop.example/g01204/spec.ValidLog
noncomputable def spec_ValidLog (a0 : (Int × ((Vec 3 Nat) × ((List (Vec 3 Nat)) × ((List (Int × ((Vec 3 Nat) × ((Vec 3 Int) × (Int × (Nat × Unit)))))) × Unit))))) : Option ((Bool × Unit) × Unit) :=
  (spec_l08Log a0).bind fun y1162 =>
  some ((y1162.1.1, ()), ())
noncomputable def spec_ValidLog_sg : Sig := ⟨[.v (.pair (.int .i64) (.pair (.arr 3 (.flt .f32)) (.pair (.list (.arr 3 (.flt .f32))) (.pair (.list (.pair (.int .i64) (.pair (.arr 3 (.flt .f32)) (.pair (.arr 3 (.int .i16)) (.pair (.int .i64) (.pair (.flt .f32) (.unit))))))) (.unit)))))], [.v (.val (.bool))], false⟩
noncomputable def spec_ValidLog_en : Entry := ⟨spec_ValidLog_sg, fun x => spec_ValidLog x.1⟩
theorem spec_ValidLog_eq (x : spec_ValidLog_sg.dom) : body (env [(111, spec_l08Log_en)]) [] Try.f52 spec_ValidLog_sg x = spec_ValidLog x.1 := by kernel_rfl
theorem spec_ValidLog_so : Sound Try.prog 52 spec_ValidLog_en := sound_of_body (envS (l := [(111, spec_l08Log_en)]) (⟨spec_l08Log_so, trivial⟩)) Try.func52 (by kernel_rfl) rfl (fun x y h => (spec_ValidLog_eq x).trans h)

-- loop.example/g01204/laws.FnExactValidLog
noncomputable def laws_FnExactValidLog (a0 : (Int × ((Vec 3 Nat) × ((List (Vec 3 Nat)) × ((List (Int × ((Vec 3 Nat) × ((Vec 3 Int) × (Int × (Nat × Unit)))))) × Unit))))) : Option ((Bool × Unit) × Unit) :=
  (laws_szLog a0 (1048576 : Int)).bind fun y1119 =>
  bif (iLt y1119.1.1 0) then some ((true, ()), ()) else
  (laws_toLog a0).bind fun y1121 =>
  (spec_ValidLog ((y1121.1.1.1, y1121.1.1.2.1, y1121.1.1.2.2.1, y1121.1.1.2.2.2.1, y1121.1.1.2.2.2.2) : (Int × ((Vec 3 Nat) × ((List (Vec 3 Nat)) × ((List (Int × ((Vec 3 Nat) × ((Vec 3 Int) × (Int × (Nat × Unit)))))) × Unit)))))).bind fun y1122 =>
  (laws_toLog a0).bind fun y1123 =>
  (impl_ValidLog ((y1123.1.1.1, y1123.1.1.2.1, y1123.1.1.2.2.1, y1123.1.1.2.2.2.1, y1123.1.1.2.2.2.2) : (Int × ((Vec 3 Nat) × ((List (Vec 3 Nat)) × ((List (Int × ((Vec 3 Nat) × ((Vec 3 Int) × (Int × (Nat × Unit)))))) × Unit)))))).bind fun y1124 =>
  bif (! (bEq y1124.1.1 y1122.1.1)) then some ((false, ()), ()) else
  (laws_toLog a0).bind fun y1126 =>
  (laws_eqLog ((y1123.1.1.1, y1123.1.1.2.1, y1123.1.1.2.2.1, y1123.1.1.2.2.2.1, y1123.1.1.2.2.2.2) : (Int × ((Vec 3 Nat) × ((List (Vec 3 Nat)) × ((List (Int × ((Vec 3 Nat) × ((Vec 3 Int) × (Int × (Nat × Unit)))))) × Unit))))) ((y1126.1.1.1, y1126.1.1.2.1, y1126.1.1.2.2.1, y1126.1.1.2.2.2.1, y1126.1.1.2.2.2.2) : (Int × ((Vec 3 Nat) × ((List (Vec 3 Nat)) × ((List (Int × ((Vec 3 Nat) × ((Vec 3 Int) × (Int × (Nat × Unit)))))) × Unit)))))).bind fun y1127 =>
  bif (! y1127.1.1) then some ((false, ()), ()) else some ((true, ()), ())
noncomputable def laws_FnExactValidLog_sg : Sig := ⟨[.v (.pair (.int .i64) (.pair (.arr 3 (.flt .f32)) (.pair (.list (.arr 3 (.flt .f32))) (.pair (.list (.pair (.int .i64) (.pair (.arr 3 (.flt .f32)) (.pair (.arr 3 (.int .i16)) (.pair (.int .i64) (.pair (.flt .f32) (.unit))))))) (.unit)))))], [.v (.val (.bool))], false⟩
noncomputable def laws_FnExactValidLog_en : Entry := ⟨laws_FnExactValidLog_sg, fun x => laws_FnExactValidLog x.1⟩
theorem laws_FnExactValidLog_eq (x : laws_FnExactValidLog_sg.dom) : body (env [(41, laws_szLog_en), (43, laws_toLog_en), (45, laws_eqLog_en), (52, spec_ValidLog_en), (53, impl_ValidLog_en)]) [] Try.f12 laws_FnExactValidLog_sg x = laws_FnExactValidLog x.1 := by kernel_rfl
theorem laws_FnExactValidLog_so : Sound Try.prog 12 laws_FnExactValidLog_en := sound_of_body (envS (l := [(41, laws_szLog_en), (43, laws_toLog_en), (45, laws_eqLog_en), (52, spec_ValidLog_en), (53, impl_ValidLog_en)]) (⟨laws_szLog_so, laws_toLog_so, laws_eqLog_so, spec_ValidLog_so, impl_ValidLog_so, trivial⟩)) Try.func12 (by kernel_rfl) rfl (fun x y h => (laws_FnExactValidLog_eq x).trans h)

-- loop.example/g01204/impl.isSide
noncomputable def impl_isSide (a0 : Nat) : Option ((Bool × Unit) × Unit) :=
  (impl_isFinite ([a0] : (List Nat))).bind fun y1280 =>
  bif y1280.1.1 then
    some (((fLt .f32 0 a0), ()), ())
  else some ((false, ()), ())
noncomputable def impl_isSide_sg : Sig := ⟨[.v (.flt .f32)], [.v (.val (.bool))], false⟩
noncomputable def impl_isSide_en : Entry := ⟨impl_isSide_sg, fun x => impl_isSide x.1⟩
theorem impl_isSide_eq (x : impl_isSide_sg.dom) : body (env [(108, impl_isFinite_en)]) [] Try.f118 impl_isSide_sg x = impl_isSide x.1 := by kernel_rfl
theorem impl_isSide_so : Sound Try.prog 118 impl_isSide_en := sound_of_body (envS (l := [(108, impl_isFinite_en)]) (⟨impl_isFinite_so, trivial⟩)) Try.func118 (by kernel_rfl) rfl (fun x y h => (impl_isSide_eq x).trans h)

theorem math_Float64frombits_so : Sound Try.prog 186 math_Float64frombits_en := math_Float64frombits_sound Try.func186 (by kernel_rfl) (by kernel_rfl) (by kernel_rfl) (by kernel_rfl)

-- math.Abs
noncomputable def math_Abs (a0 : Nat) : Option ((Nat × Unit) × Unit) :=
  allSame fun (q1282 : Nat) =>
  (math_Float64frombits (iAndNot .u64 (bitsF .f64 a0 q1282) 9223372036854775808)).bind fun y1285 =>
  some ((y1285.1.1, ()), ())
noncomputable def math_Abs_sg : Sig := ⟨[.v (.flt .f64)], [.v (.val (.flt .f64))], false⟩
noncomputable def math_Abs_en : Entry := ⟨math_Abs_sg, fun x => math_Abs x.1⟩
theorem math_Abs_eq (x : math_Abs_sg.dom) : body (env [(186, math_Float64frombits_en)]) [] Try.f163 math_Abs_sg x = math_Abs x.1 := by kernel_rfl
theorem math_Abs_so : Sound Try.prog 163 math_Abs_en := sound_of_body (envS (l := [(186, math_Float64frombits_en)]) (⟨math_Float64frombits_so, trivial⟩)) Try.func163 (by kernel_rfl) rfl (fun x y h => (math_Abs_eq x).trans h)

theorem math_archFloor_so : Sound Try.prog 184 math_archFloor_en := round_sound (name := "math.archFloor") Try.func184 (by kernel_rfl) (by kernel_rfl) (by kernel_rfl) (by kernel_rfl)

-- math.Floor
noncomputable def math_Floor (a0 : Nat) : Option ((Nat × Unit) × Unit) :=
  (math_archFloor a0).bind fun y1286 =>
  some ((y1286.1.1, ()), ())
noncomputable def math_Floor_sg : Sig := ⟨[.v (.flt .f64)], [.v (.val (.flt .f64))], false⟩
noncomputable def math_Floor_en : Entry := ⟨math_Floor_sg, fun x => math_Floor x.1⟩
theorem math_Floor_eq (x : math_Floor_sg.dom) : body (env [(184, math_archFloor_en)]) [] Try.f162 math_Floor_sg x = math_Floor x.1 := by kernel_rfl
theorem math_Floor_so : Sound Try.prog 162 math_Floor_en := sound_of_body (envS (l := [(184, math_archFloor_en)]) (⟨math_archFloor_so, trivial⟩)) Try.func162 (by kernel_rfl) rfl (fun x y h => (math_Floor_eq x).trans h)

-- loop.example/g01204/impl.CellOf
noncomputable def impl_CellOf (a0 : Nat) (a1 : (Vec 3 Nat)) : Option (((Vec 3 Int) × Int × Unit) × Unit) :=
  (impl_isSide a0).bind fun y1255 =>
  bif (! y1255.1.1) then some ((((0, 0, 0, ()) : (Vec 3 Int)), (2 : Int), ()), ()) else
  (impl_IsFiniteVec a1).bind fun y1257 =>
  bif (! y1257.1.1) then some ((((0, 0, 0, ()) : (Vec 3 Int)), (2 : Int), ()), ()) else
  (fConv .f32 .f64 (fDiv .f32 (Vec.getD 3 a1 0 (0 : Nat)) a0)).bind fun y1261 =>
  (math_Floor y1261).bind fun y1262 =>
  (math_Abs y1262.1.1).bind fun y1263 =>
  bif (fLt .f64 4696837146684686336 y1263.1.1) then some ((((0, 0, 0, ()) : (Vec 3 Int)), (3 : Int), ()), ()) else
  (fToInt .f64 y1262.1.1 .i32).bind fun n1265 =>
  (fConv .f32 .f64 (fDiv .f32 (Vec.getD 3 a1 1 (0 : Nat)) a0)).bind fun y1268 =>
  (math_Floor y1268).bind fun y1269 =>
  (math_Abs y1269.1.1).bind fun y1270 =>
  bif (fLt .f64 4696837146684686336 y1270.1.1) then some ((((0, 0, 0, ()) : (Vec 3 Int)), (3 : Int), ()), ()) else
  (fToInt .f64 y1269.1.1 .i32).bind fun n1272 =>
  (fConv .f32 .f64 (fDiv .f32 (Vec.getD 3 a1 2 (0 : Nat)) a0)).bind fun y1275 =>
  (math_Floor y1275).bind fun y1276 =>
  (math_Abs y1276.1.1).bind fun y1277 =>
  bif (fLt .f64 4696837146684686336 y1277.1.1) then some ((((0, 0, 0, ()) : (Vec 3 Int)), (3 : Int), ()), ()) else
  (fToInt .f64 y1276.1.1 .i32).bind fun n1279 =>
  some ((((n1265, n1272, n1279, ()) : (Vec 3 Int)), (0 : Int), ()), ())
noncomputable def impl_CellOf_sg : Sig := ⟨[.v (.flt .f32), .v (.arr 3 (.flt .f32))], [.v (.val (.arr 3 (.int .i32))), .v (.val (.int .i64))], false⟩
noncomputable def impl_CellOf_en : Entry := ⟨impl_CellOf_sg, fun x => impl_CellOf x.1 x.2.1⟩
theorem impl_CellOf_eq (x : impl_CellOf_sg.dom) : body (env [(94, impl_IsFiniteVec_en), (118, impl_isSide_en), (162, math_Floor_en), (163, math_Abs_en)]) [(5, .unroll 4)] Try.f119 impl_CellOf_sg x = impl_CellOf x.1 x.2.1 := by kernel_rfl
theorem impl_CellOf_so : Sound Try.prog 119 impl_CellOf_en := sound_of_body (envS (l := [(94, impl_IsFiniteVec_en), (118, impl_isSide_en), (162, math_Floor_en), (163, math_Abs_en)]) (⟨impl_IsFiniteVec_so, impl_isSide_so, math_Floor_so, math_Abs_so, trivial⟩)) Try.func119 (by kernel_rfl) rfl (fun x y h => (impl_CellOf_eq x).trans h)

-- loop.example/g01204/impl.isTime
noncomputable def impl_isTime (a0 : Int) : Option ((Bool × Unit) × Unit) :=
  (impl_within a0 (0 : Int) (1000000000 : Int)).bind fun y1287 =>
  some ((y1287.1.1, ()), ())
noncomputable def impl_isTime_sg : Sig := ⟨[.v (.int .i64)], [.v (.val (.bool))], false⟩
noncomputable def impl_isTime_en : Entry := ⟨impl_isTime_sg, fun x => impl_isTime x.1⟩
theorem impl_isTime_eq (x : impl_isTime_sg.dom) : body (env [(93, impl_within_en)]) [] Try.f120 impl_isTime_sg x = impl_isTime x.1 := by kernel_rfl
theorem impl_isTime_so : Sound Try.prog 120 impl_isTime_en := sound_of_body (envS (l := [(93, impl_within_en)]) (⟨impl_within_so, trivial⟩)) Try.func120 (by kernel_rfl) rfl (fun x y h => (impl_isTime_eq x).trans h)

-- loop.example/g01204/impl.ValidFleet
noncomputable def impl_ValidFleet_l9 (x1241 : (List ((Vec 3 Nat) × (Nat × (Int × Unit))))) (a0 : (Nat × (Nat × ((List (List ((Vec 3 Nat) × (Nat × (Int × Unit))))) × Unit)))) (s1239 : (Int × Unit)) (s1243 : (Int × Unit)) : Option ((Int × Unit) ⊕ ((Int × Unit) ⊕ ((Bool × Unit) × Unit))) :=
  bif (iLt s1243.1 (lenI x1241)) then
    bif inB s1243.1 (List.length x1241) then
      let x1245 := List.getD x1241 s1243.1.toNat (((0, 0, 0, ()), 0, 0, ()) : ((Vec 3 Nat) × (Nat × (Int × Unit))))
      (impl_CellOf a0.1 x1245.1).bind fun y1246 =>
      bif (! (iEq y1246.1.2.1 0)) then
        Option.map Sum.inr (Option.map Sum.inr (some ((false, ()), ())))
      else
      (impl_isSide x1245.2.1).bind fun y1248 =>
      bif (! y1248.1.1) then
        Option.map Sum.inr (Option.map Sum.inr (some ((false, ()), ())))
      else
      bif (fLt .f32 1232348160 x1245.2.1) then
        Option.map Sum.inr (Option.map Sum.inr (some ((false, ()), ())))
      else
      (impl_isTime x1245.2.2.1).bind fun y1251 =>
      bif (! y1251.1.1) then
        Option.map Sum.inr (Option.map Sum.inr (some ((false, ()), ())))
      else
      some (Sum.inl ((iAdd .i64 s1243.1 1), ()))
    else none
  else
  Option.map Sum.inr (some (Sum.inl ((iAdd .i64 s1239.1 1), ())))
noncomputable def impl_ValidFleet_l4 (a0 : (Nat × (Nat × ((List (List ((Vec 3 Nat) × (Nat × (Int × Unit))))) × Unit)))) (s1239 : (Int × Unit)) : Option ((Int × Unit) ⊕ ((Bool × Unit) × Unit)) :=
  bif (iLt s1239.1 (lenI a0.2.2.1)) then
    bif inB s1239.1 (List.length a0.2.2.1) then
      let x1241 := List.getD a0.2.2.1 s1239.1.toNat ([] : (List ((Vec 3 Nat) × (Nat × (Int × Unit)))))
      bif (iLt 16 (lenI x1241)) then
        Option.map Sum.inr (some ((false, ()), ()))
      else run (impl_ValidFleet_l9 x1241 a0 s1239) ((0 : Int), ())
    else none
  else
  Option.map Sum.inr (some ((true, ()), ()))
noncomputable def impl_ValidFleet (a0 : (Nat × (Nat × ((List (List ((Vec 3 Nat) × (Nat × (Int × Unit))))) × Unit)))) : Option ((Bool × Unit) × Unit) :=
  (impl_isSide a0.1).bind fun y1233 =>
  bif (! y1233.1.1) then some ((false, ()), ()) else
  (impl_isLeast ([a0.2.1] : (List Nat))).bind fun y1235 =>
  bif (! y1235.1.1) then some ((false, ()), ()) else
  (impl_within (lenI a0.2.2.1) (1 : Int) (4 : Int)).bind fun y1237 =>
  bif (! y1237.1.1) then some ((false, ()), ()) else run (impl_ValidFleet_l4 a0) ((0 : Int), ())
noncomputable def impl_ValidFleet_sg : Sig := ⟨[.v (.pair (.flt .f32) (.pair (.flt .f32) (.pair (.list (.list (.pair (.arr 3 (.flt .f32)) (.pair (.flt .f32) (.pair (.int .i64) (.unit)))))) (.unit))))], [.v (.val (.bool))], false⟩
noncomputable def impl_ValidFleet_en : Entry := ⟨impl_ValidFleet_sg, fun x => impl_ValidFleet x.1⟩
theorem impl_ValidFleet_eq (x : impl_ValidFleet_sg.dom) : body (env [(93, impl_within_en), (109, impl_isLeast_en), (118, impl_isSide_en), (119, impl_CellOf_en), (120, impl_isTime_en)]) [(4, .vary [(30, .sc (.int .i64))]), (9, .vary [(39, .sc (.int .i64))])] Try.f57 impl_ValidFleet_sg x = impl_ValidFleet x.1 := by kernel_rfl
theorem impl_ValidFleet_so : Sound Try.prog 57 impl_ValidFleet_en := sound_of_body (envS (l := [(93, impl_within_en), (109, impl_isLeast_en), (118, impl_isSide_en), (119, impl_CellOf_en), (120, impl_isTime_en)]) (⟨impl_within_so, impl_isLeast_so, impl_isSide_so, impl_CellOf_so, impl_isTime_so, trivial⟩)) Try.func57 (by kernel_rfl) rfl (fun x y h => (impl_ValidFleet_eq x).trans h)

-- loop.example/g01204/laws.eqSight
noncomputable def laws_eqSight (a0 : ((Vec 3 Nat) × (Nat × (Int × Unit)))) (a1 : ((Vec 3 Nat) × (Nat × (Int × Unit)))) : Option ((Bool × Unit) × Unit) :=
  (laws_eqVec a0.1 a1.1).bind fun y1314 =>
  bif (! y1314.1.1) then some ((false, ()), ()) else
  (fConv .f32 .f64 a0.2.1).bind fun y1316 =>
  (fConv .f32 .f64 a1.2.1).bind fun y1317 =>
  (laws_sameFloat y1316 y1317).bind fun y1318 =>
  bif (! y1318.1.1) then some ((false, ()), ()) else
  bif (! (iEq a0.2.2.1 a1.2.2.1)) then some ((false, ()), ()) else some ((true, ()), ())
noncomputable def laws_eqSight_sg : Sig := ⟨[.v (.pair (.arr 3 (.flt .f32)) (.pair (.flt .f32) (.pair (.int .i64) (.unit)))), .v (.pair (.arr 3 (.flt .f32)) (.pair (.flt .f32) (.pair (.int .i64) (.unit))))], [.v (.val (.bool))], false⟩
noncomputable def laws_eqSight_en : Entry := ⟨laws_eqSight_sg, fun x => laws_eqSight x.1 x.2.1⟩
theorem laws_eqSight_eq (x : laws_eqSight_sg.dom) : body (env [(27, laws_sameFloat_en), (89, laws_eqVec_en)]) [] Try.f188 laws_eqSight_sg x = laws_eqSight x.1 x.2.1 := by kernel_rfl
theorem laws_eqSight_so : Sound Try.prog 188 laws_eqSight_en := sound_of_body (envS (l := [(27, laws_sameFloat_en), (89, laws_eqVec_en)]) (⟨laws_sameFloat_so, laws_eqVec_so, trivial⟩)) Try.func188 (by kernel_rfl) rfl (fun x y h => (laws_eqSight_eq x).trans h)

end Go.Proofs.Ytpblnidbjglgmaa
