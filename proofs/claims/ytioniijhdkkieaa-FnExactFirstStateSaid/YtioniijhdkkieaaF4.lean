import Derived.Test.YtioniijhdkkieaaF3
/- Functions on typed data: what the evaluation of each Go function is, and that it is sound. -/
namespace Go.Proofs.Ytioniijhdkkieaa
open Go Go.Tm
set_option linter.unusedVariables false
set_option maxRecDepth 100000
-- loop.example/g01204/spec.l07Square
noncomputable def spec_l07Square (a0 : (Vec 2 Nat)) (a1 : (Vec 2 Nat)) : Option ((Nat × Unit) × Unit) :=
  let x3171 := fSub .f32 (Vec.getD 2 a1 0 (0 : Nat)) (Vec.getD 2 a0 0 (0 : Nat))
  let x3174 := fSub .f32 (Vec.getD 2 a1 1 (0 : Nat)) (Vec.getD 2 a0 1 (0 : Nat))
  some (((fAdd .f32 (fMul .f32 x3171 x3171) (fMul .f32 x3174 x3174)), ()), ())
noncomputable def spec_l07Square_sg : Sig := ⟨[.v (.arr 2 (.flt .f32)), .v (.arr 2 (.flt .f32))], [.v (.val (.flt .f32))], false⟩
noncomputable def spec_l07Square_en : Entry := ⟨spec_l07Square_sg, fun x => spec_l07Square x.1 x.2.1⟩
theorem spec_l07Square_eq (x : spec_l07Square_sg.dom) : body (env []) [] Try.f166 spec_l07Square_sg x = spec_l07Square x.1 x.2.1 := by kernel_rfl
theorem spec_l07Square_so : Sound Try.prog 166 spec_l07Square_en := sound_of_body (envS (l := []) (trivial)) Try.func166 (by kernel_rfl) rfl (fun x y h => (spec_l07Square_eq x).trans h)

-- loop.example/g01204/spec.l07Ahead
noncomputable def spec_l07Ahead_l8 (a0 : (List (Vec 2 Nat))) (s3136 : (Nat × Int × Unit)) : Option ((Nat × Int × Unit) ⊕ (((Vec 2 Nat) × Unit) × Unit)) :=
  bif (iLt (iAdd .i64 s3136.2.1 1) (lenI a0)) then
    bif inB s3136.2.1 (List.length a0) then
      let x3140 := iAdd .i64 s3136.2.1 1
      bif inB x3140 (List.length a0) then
        (spec_l07Square (List.getD a0 s3136.2.1.toNat ((0, 0, ()) : (Vec 2 Nat))) (List.getD a0 x3140.toNat ((0, 0, ()) : (Vec 2 Nat)))).bind fun y3142 =>
        (spec_l01Root y3142.1.1).bind fun y3143 =>
        bif (fEq .f32 y3143.1.1 0) then
          some (Sum.inl (s3136.1, (iAdd .i64 s3136.2.1 1), ()))
        else
        bif (fLe .f32 s3136.1 y3143.1.1) then
          let x3147 := fDiv .f32 s3136.1 y3143.1.1
          bif inB s3136.2.1 (List.length a0) then
            let x3149 := iAdd .i64 s3136.2.1 1
            bif inB x3149 (List.length a0) then
              bif inB s3136.2.1 (List.length a0) then
                bif inB s3136.2.1 (List.length a0) then
                  let x3156 := iAdd .i64 s3136.2.1 1
                  bif inB x3156 (List.length a0) then
                    bif inB s3136.2.1 (List.length a0) then
                      Option.map Sum.inr (some (((((fAdd .f32 (Vec.getD 2 (List.getD a0 s3136.2.1.toNat ((0, 0, ()) : (Vec 2 Nat))) 0 (0 : Nat)) (fMul .f32 (fSub .f32 (Vec.getD 2 (List.getD a0 x3149.toNat ((0, 0, ()) : (Vec 2 Nat))) 0 (0 : Nat)) (Vec.getD 2 (List.getD a0 s3136.2.1.toNat ((0, 0, ()) : (Vec 2 Nat))) 0 (0 : Nat))) x3147)), (fAdd .f32 (Vec.getD 2 (List.getD a0 s3136.2.1.toNat ((0, 0, ()) : (Vec 2 Nat))) 1 (0 : Nat)) (fMul .f32 (fSub .f32 (Vec.getD 2 (List.getD a0 x3156.toNat ((0, 0, ()) : (Vec 2 Nat))) 1 (0 : Nat)) (Vec.getD 2 (List.getD a0 s3136.2.1.toNat ((0, 0, ()) : (Vec 2 Nat))) 1 (0 : Nat))) x3147)), ()) : (Vec 2 Nat)), ()), ()))
                    else none
                  else none
                else none
              else none
            else none
          else none
        else
        some (Sum.inl ((fSub .f32 s3136.1 y3143.1.1), (iAdd .i64 s3136.2.1 1), ()))
      else none
    else none
  else
  Option.map Sum.inr (
    let x3164 := iSub .i64 (lenI a0) 1
    bif inB x3164 (List.length a0) then
      some (((List.getD a0 x3164.toNat ((0, 0, ()) : (Vec 2 Nat))), ()), ())
    else none)
noncomputable def spec_l07Ahead_l3 (a0 : (List (Vec 2 Nat))) (a1 : (Vec 2 Nat)) (a2 : Nat) (s3127 : (Int × Int × Unit)) : Option ((Int × Int × Unit) ⊕ (((Vec 2 Nat) × Unit) × Unit)) :=
  bif (iLt s3127.2.1 (lenI a0)) then
    bif inB s3127.2.1 (List.length a0) then
      (spec_l07Square a1 (List.getD a0 s3127.2.1.toNat ((0, 0, ()) : (Vec 2 Nat)))).bind fun y3130 =>
      bif inB s3127.1 (List.length a0) then
        (spec_l07Square a1 (List.getD a0 s3127.1.toNat ((0, 0, ()) : (Vec 2 Nat)))).bind fun y3132 =>
        bif (fLt .f32 y3130.1.1 y3132.1.1) then
          some (Sum.inl (s3127.2.1, (iAdd .i64 s3127.2.1 1), ()))
        else
        some (Sum.inl (s3127.1, (iAdd .i64 s3127.2.1 1), ()))
      else none
    else none
  else
  Option.map Sum.inr (run (spec_l07Ahead_l8 a0) (a2, s3127.1, ()))
noncomputable def spec_l07Ahead (a0 : (List (Vec 2 Nat))) (a1 : (Vec 2 Nat)) (a2 : Nat) : Option (((Vec 2 Nat) × Unit) × Unit) :=
  run (spec_l07Ahead_l3 a0 a1 a2) ((0 : Int), (1 : Int), ())
noncomputable def spec_l07Ahead_sg : Sig := ⟨[.v (.list (.arr 2 (.flt .f32))), .v (.arr 2 (.flt .f32)), .v (.flt .f32)], [.v (.val (.arr 2 (.flt .f32)))], false⟩
noncomputable def spec_l07Ahead_en : Entry := ⟨spec_l07Ahead_sg, fun x => spec_l07Ahead x.1 x.2.1 x.2.2.1⟩
theorem spec_l07Ahead_eq (x : spec_l07Ahead_sg.dom) : body (env [(166, spec_l07Square_en), (167, spec_l01Root_en)]) [(3, .vary [(7, .sc (.int .i64)), (8, .sc (.int .i64))]), (8, .vary [(2, .sc (.flt .f32)), (9, .sc (.int .i64))])] Try.f120 spec_l07Ahead_sg x = spec_l07Ahead x.1 x.2.1 x.2.2.1 := by kernel_rfl
theorem spec_l07Ahead_so : Sound Try.prog 120 spec_l07Ahead_en := sound_of_body (envS (l := [(166, spec_l07Square_en), (167, spec_l01Root_en)]) (⟨spec_l07Square_so, spec_l01Root_so, trivial⟩)) Try.func120 (by kernel_rfl) rfl (fun x y h => (spec_l07Ahead_eq x).trans h)

-- loop.example/g01204/spec.l07Way
noncomputable def spec_l07Way_l2 (a0 : (List (Vec 2 Nat))) (s3185 : (Int × Unit)) : Option ((Int × Unit) ⊕ ((Bool × Unit) × Unit)) :=
  bif (iLt s3185.1 (lenI a0)) then
    bif inB s3185.1 (List.length a0) then
      (spec_l01Finite (Vec.getD 2 (List.getD a0 s3185.1.toNat ((0, 0, ()) : (Vec 2 Nat))) 0 (0 : Nat))).bind fun y3188 =>
      bif (! y3188.1.1) then
        Option.map Sum.inr (some ((false, ()), ()))
      else
      bif inB s3185.1 (List.length a0) then
        (spec_l01Finite (Vec.getD 2 (List.getD a0 s3185.1.toNat ((0, 0, ()) : (Vec 2 Nat))) 1 (0 : Nat))).bind fun y3191 =>
        bif (! y3191.1.1) then
          Option.map Sum.inr (some ((false, ()), ()))
        else
        some (Sum.inl ((iAdd .i64 s3185.1 1), ()))
      else none
    else none
  else
  Option.map Sum.inr (
    (spec_l00In (lenI a0) (1 : Int) (600 : Int)).bind fun y3194 =>
    some ((y3194.1.1, ()), ()))
noncomputable def spec_l07Way (a0 : (List (Vec 2 Nat))) : Option ((Bool × Unit) × Unit) :=
  run (spec_l07Way_l2 a0) ((0 : Int), ())
noncomputable def spec_l07Way_sg : Sig := ⟨[.v (.list (.arr 2 (.flt .f32)))], [.v (.val (.bool))], false⟩
noncomputable def spec_l07Way_en : Entry := ⟨spec_l07Way_sg, fun x => spec_l07Way x.1⟩
theorem spec_l07Way_eq (x : spec_l07Way_sg.dom) : body (env [(101, spec_l00In_en), (119, spec_l01Finite_en)]) [(2, .vary [(3, .sc (.int .i64))])] Try.f164 spec_l07Way_sg x = spec_l07Way x.1 := by kernel_rfl
theorem spec_l07Way_so : Sound Try.prog 164 spec_l07Way_en := sound_of_body (envS (l := [(101, spec_l00In_en), (119, spec_l01Finite_en)]) (⟨spec_l00In_so, spec_l01Finite_so, trivial⟩)) Try.func164 (by kernel_rfl) rfl (fun x y h => (spec_l07Way_eq x).trans h)

-- loop.example/g01204/spec.l07Follows
noncomputable def spec_l07Follows (a0 : (List (Vec 2 Nat))) (a1 : (Vec 2 Nat)) (a2 : Nat) : Option ((Bool × Unit) × Unit) :=
  (spec_l07Way a0).bind fun y3178 =>
  bif y3178.1.1 then
    (spec_l01Finite (Vec.getD 2 a1 0 (0 : Nat))).bind fun y3180 =>
    bif y3180.1.1 then
      (spec_l01Finite (Vec.getD 2 a1 1 (0 : Nat))).bind fun y3182 =>
      bif y3182.1.1 then
        (spec_l01Finite a2).bind fun y3183 =>
        bif y3183.1.1 then
          some (((fLe .f32 0 a2), ()), ())
        else some ((false, ()), ())
      else some ((false, ()), ())
    else some ((false, ()), ())
  else some ((false, ()), ())
noncomputable def spec_l07Follows_sg : Sig := ⟨[.v (.list (.arr 2 (.flt .f32))), .v (.arr 2 (.flt .f32)), .v (.flt .f32)], [.v (.val (.bool))], false⟩
noncomputable def spec_l07Follows_en : Entry := ⟨spec_l07Follows_sg, fun x => spec_l07Follows x.1 x.2.1 x.2.2.1⟩
theorem spec_l07Follows_eq (x : spec_l07Follows_sg.dom) : body (env [(119, spec_l01Finite_en), (164, spec_l07Way_en)]) [] Try.f117 spec_l07Follows_sg x = spec_l07Follows x.1 x.2.1 x.2.2.1 := by kernel_rfl
theorem spec_l07Follows_so : Sound Try.prog 117 spec_l07Follows_en := sound_of_body (envS (l := [(119, spec_l01Finite_en), (164, spec_l07Way_en)]) (⟨spec_l01Finite_so, spec_l07Way_so, trivial⟩)) Try.func117 (by kernel_rfl) rfl (fun x y h => (spec_l07Follows_eq x).trans h)

-- loop.example/g01204/spec.FollowWay
noncomputable def spec_FollowWay (a0 : (List (Vec 2 Nat))) (a1 : (Vec 3 Nat)) (a2 : Nat) (a3 : Nat) : Option (((Vec 3 Nat) × Int × Unit) × Unit) :=
  let x2716 := Vec.getD 3 a1 0 (0 : Nat)
  let x2717 := Vec.getD 3 a1 1 (0 : Nat)
  (spec_l07Follows a0 ((x2716, x2717, ()) : (Vec 2 Nat)) a2).bind fun y2718 =>
  bif (! y2718.1.1) then some ((((0, 0, 0, ()) : (Vec 3 Nat)), (2 : Int), ()), ()) else
  (spec_l06Finite a1).bind fun y2720 =>
  bif (! y2720.1.1) then some ((((0, 0, 0, ()) : (Vec 3 Nat)), (2 : Int), ()), ()) else
  (spec_l01Finite a3).bind fun y2722 =>
  bif (! y2722.1.1) then some ((((0, 0, 0, ()) : (Vec 3 Nat)), (2 : Int), ()), ()) else
  (spec_l07Ahead a0 ((x2716, x2717, ()) : (Vec 2 Nat)) a2).bind fun y2724 =>
  let x2727 := fSub .f32 (Vec.getD 2 y2724.1.1 0 (0 : Nat)) (Vec.getD 3 a1 0 (0 : Nat))
  let x2730 := fSub .f32 (Vec.getD 2 y2724.1.1 1 (0 : Nat)) (Vec.getD 3 a1 1 (0 : Nat))
  bif (! (fEq .f32 x2727 0)) then
    (spec_AngleOf x2730 x2727).bind fun y2733 =>
    (spec_WrapAngle (fSub .f32 y2733.1.1 (Vec.getD 3 a1 2 (0 : Nat)))).bind fun y2736 =>
    bif (fLt .f32 1056964608 y2736.1.1) then
      bif (fLt .f32 1056964608 3204448256) then
        (spec_WrapAngle (fAdd .f32 (Vec.getD 3 a1 2 (0 : Nat)) 3204448256)).bind fun y2741 =>
        (spec_l06Compose (((Vec.getD 3 a1 0 (0 : Nat)), (Vec.getD 3 a1 1 (0 : Nat)), y2741.1.1, ()) : (Vec 3 Nat)) ((a3, 0, 0, ()) : (Vec 3 Nat))).bind fun y2744 =>
        some ((y2744.1.1, (0 : Int), ()), ())
      else
      (spec_WrapAngle (fAdd .f32 (Vec.getD 3 a1 2 (0 : Nat)) 1056964608)).bind fun y2747 =>
      (spec_l06Compose (((Vec.getD 3 a1 0 (0 : Nat)), (Vec.getD 3 a1 1 (0 : Nat)), y2747.1.1, ()) : (Vec 3 Nat)) ((a3, 0, 0, ()) : (Vec 3 Nat))).bind fun y2750 =>
      some ((y2750.1.1, (0 : Int), ()), ())
    else
    bif (fLt .f32 y2736.1.1 3204448256) then
      (spec_WrapAngle (fAdd .f32 (Vec.getD 3 a1 2 (0 : Nat)) 3204448256)).bind fun y2754 =>
      (spec_l06Compose (((Vec.getD 3 a1 0 (0 : Nat)), (Vec.getD 3 a1 1 (0 : Nat)), y2754.1.1, ()) : (Vec 3 Nat)) ((a3, 0, 0, ()) : (Vec 3 Nat))).bind fun y2757 =>
      some ((y2757.1.1, (0 : Int), ()), ())
    else
    (spec_WrapAngle (fAdd .f32 (Vec.getD 3 a1 2 (0 : Nat)) y2736.1.1)).bind fun y2760 =>
    (spec_l06Compose (((Vec.getD 3 a1 0 (0 : Nat)), (Vec.getD 3 a1 1 (0 : Nat)), y2760.1.1, ()) : (Vec 3 Nat)) ((a3, 0, 0, ()) : (Vec 3 Nat))).bind fun y2763 =>
    some ((y2763.1.1, (0 : Int), ()), ())
  else
  bif (! (fEq .f32 x2730 0)) then
    (spec_AngleOf x2730 x2727).bind fun y2765 =>
    (spec_WrapAngle (fSub .f32 y2765.1.1 (Vec.getD 3 a1 2 (0 : Nat)))).bind fun y2768 =>
    bif (fLt .f32 1056964608 y2768.1.1) then
      bif (fLt .f32 1056964608 3204448256) then
        (spec_WrapAngle (fAdd .f32 (Vec.getD 3 a1 2 (0 : Nat)) 3204448256)).bind fun y2773 =>
        (spec_l06Compose (((Vec.getD 3 a1 0 (0 : Nat)), (Vec.getD 3 a1 1 (0 : Nat)), y2773.1.1, ()) : (Vec 3 Nat)) ((a3, 0, 0, ()) : (Vec 3 Nat))).bind fun y2776 =>
        some ((y2776.1.1, (0 : Int), ()), ())
      else
      (spec_WrapAngle (fAdd .f32 (Vec.getD 3 a1 2 (0 : Nat)) 1056964608)).bind fun y2779 =>
      (spec_l06Compose (((Vec.getD 3 a1 0 (0 : Nat)), (Vec.getD 3 a1 1 (0 : Nat)), y2779.1.1, ()) : (Vec 3 Nat)) ((a3, 0, 0, ()) : (Vec 3 Nat))).bind fun y2782 =>
      some ((y2782.1.1, (0 : Int), ()), ())
    else
    bif (fLt .f32 y2768.1.1 3204448256) then
      (spec_WrapAngle (fAdd .f32 (Vec.getD 3 a1 2 (0 : Nat)) 3204448256)).bind fun y2786 =>
      (spec_l06Compose (((Vec.getD 3 a1 0 (0 : Nat)), (Vec.getD 3 a1 1 (0 : Nat)), y2786.1.1, ()) : (Vec 3 Nat)) ((a3, 0, 0, ()) : (Vec 3 Nat))).bind fun y2789 =>
      some ((y2789.1.1, (0 : Int), ()), ())
    else
    (spec_WrapAngle (fAdd .f32 (Vec.getD 3 a1 2 (0 : Nat)) y2768.1.1)).bind fun y2792 =>
    (spec_l06Compose (((Vec.getD 3 a1 0 (0 : Nat)), (Vec.getD 3 a1 1 (0 : Nat)), y2792.1.1, ()) : (Vec 3 Nat)) ((a3, 0, 0, ()) : (Vec 3 Nat))).bind fun y2795 =>
    some ((y2795.1.1, (0 : Int), ()), ())
  else
  (spec_l06Compose (((Vec.getD 3 a1 0 (0 : Nat)), (Vec.getD 3 a1 1 (0 : Nat)), (Vec.getD 3 a1 2 (0 : Nat)), ()) : (Vec 3 Nat)) ((a3, 0, 0, ()) : (Vec 3 Nat))).bind fun y2798 =>
  some ((y2798.1.1, (0 : Int), ()), ())
noncomputable def spec_FollowWay_sg : Sig := ⟨[.v (.list (.arr 2 (.flt .f32))), .v (.arr 3 (.flt .f32)), .v (.flt .f32), .v (.flt .f32)], [.v (.val (.arr 3 (.flt .f32))), .v (.val (.int .i64))], false⟩
noncomputable def spec_FollowWay_en : Entry := ⟨spec_FollowWay_sg, fun x => spec_FollowWay x.1 x.2.1 x.2.2.1 x.2.2.2.1⟩
theorem spec_FollowWay_eq (x : spec_FollowWay_sg.dom) : body (env [(117, spec_l07Follows_en), (118, spec_l06Finite_en), (119, spec_l01Finite_en), (120, spec_l07Ahead_en), (121, spec_WrapAngle_en), (122, spec_AngleOf_en), (123, spec_l06Compose_en)]) [] Try.f55 spec_FollowWay_sg x = spec_FollowWay x.1 x.2.1 x.2.2.1 x.2.2.2.1 := by kernel_rfl
theorem spec_FollowWay_so : Sound Try.prog 55 spec_FollowWay_en := sound_of_body (envS (l := [(117, spec_l07Follows_en), (118, spec_l06Finite_en), (119, spec_l01Finite_en), (120, spec_l07Ahead_en), (121, spec_WrapAngle_en), (122, spec_AngleOf_en), (123, spec_l06Compose_en)]) (⟨spec_l07Follows_so, spec_l06Finite_so, spec_l01Finite_so, spec_l07Ahead_so, spec_WrapAngle_so, spec_AngleOf_so, spec_l06Compose_so, trivial⟩)) Try.func55 (by kernel_rfl) rfl (fun x y h => (spec_FollowWay_eq x).trans h)

-- loop.example/g01204/laws.FnExactFollowWay
noncomputable def laws_FnExactFollowWay (a0 : (List (Vec 2 Nat))) (a1 : (Vec 3 Nat)) (a2 : Nat) (a3 : Nat) : Option ((Bool × Unit) × Unit) :=
  (laws_szFloat32A2S a0 (1048576 : Int)).bind fun y2194 =>
  bif (iLt y2194.1.1 0) then some ((true, ()), ()) else
  (laws_toFloat32A2S a0).bind fun y2196 =>
  (laws_toPose a1).bind fun y2197 =>
  (spec_FollowWay y2196.1.1 y2197.1.1 a2 a3).bind fun y2198 =>
  (laws_toFloat32A2S a0).bind fun y2199 =>
  (laws_toPose a1).bind fun y2200 =>
  (impl_FollowWay y2199.1.1 y2200.1.1 a2 a3).bind fun y2201 =>
  (laws_eqPose y2201.1.1 y2198.1.1).bind fun y2202 =>
  bif (! y2202.1.1) then some ((false, ()), ()) else
  bif (! (iEq y2201.1.2.1 y2198.1.2.1)) then some ((false, ()), ()) else
  (laws_toFloat32A2S a0).bind fun y2205 =>
  (laws_eqFloat32A2S y2199.1.1 y2205.1.1).bind fun y2206 =>
  bif (! y2206.1.1) then some ((false, ()), ()) else some ((true, ()), ())
noncomputable def laws_FnExactFollowWay_sg : Sig := ⟨[.v (.list (.arr 2 (.flt .f32))), .v (.arr 3 (.flt .f32)), .v (.flt .f32), .v (.flt .f32)], [.v (.val (.bool))], false⟩
noncomputable def laws_FnExactFollowWay_en : Entry := ⟨laws_FnExactFollowWay_sg, fun x => laws_FnExactFollowWay x.1 x.2.1 x.2.2.1 x.2.2.2.1⟩
theorem laws_FnExactFollowWay_eq (x : laws_FnExactFollowWay_sg.dom) : body (env [(54, laws_szFloat32A2S_en), (55, spec_FollowWay_en), (56, laws_toFloat32A2S_en), (57, laws_toPose_en), (58, impl_FollowWay_en), (59, laws_eqPose_en), (60, laws_eqFloat32A2S_en)]) [] Try.f10 laws_FnExactFollowWay_sg x = laws_FnExactFollowWay x.1 x.2.1 x.2.2.1 x.2.2.2.1 := by kernel_rfl
theorem laws_FnExactFollowWay_so : Sound Try.prog 10 laws_FnExactFollowWay_en := sound_of_body (envS (l := [(54, laws_szFloat32A2S_en), (55, spec_FollowWay_en), (56, laws_toFloat32A2S_en), (57, laws_toPose_en), (58, impl_FollowWay_en), (59, laws_eqPose_en), (60, laws_eqFloat32A2S_en)]) (⟨laws_szFloat32A2S_so, spec_FollowWay_so, laws_toFloat32A2S_so, laws_toPose_so, impl_FollowWay_so, laws_eqPose_so, laws_eqFloat32A2S_so, trivial⟩)) Try.func10 (by kernel_rfl) rfl (fun x y h => (laws_FnExactFollowWay_eq x).trans h)

end Go.Proofs.Ytioniijhdkkieaa
