import Derived.Test.YtildomllnnnofaaGreatDoorE
/- Functions on typed data: what the evaluation of each Go function is, and that it is sound. -/
namespace Go.Proofs.YtildomllnnnofaaGreatDoor
open Go Go.Tm
set_option linter.unusedVariables false
set_option maxRecDepth 100000
variable {G : List (Nat × Obj)}
-- loop.example/g01204/impl.ticksOf
noncomputable def impl_ticksOf_l3 (a0 : (Int × ((Vec 3 Nat) × ((List (Vec 3 Nat)) × ((List (Int × ((Vec 3 Nat) × (Int × (Int × Unit))))) × Unit))))) (s178 : (Int × Int × Unit)) : Option ((Int × Int × Unit) ⊕ ((Int × Unit) × Unit)) :=
  bif (iLt s178.2.1 (lenI a0.2.2.2.1)) then
    bif inB s178.2.1 (List.length a0.2.2.2.1) then
      some (Sum.inl ((iAdd .i64 s178.1 (List.getD a0.2.2.2.1 s178.2.1.toNat ((0, (0, 0, 0, ()), 0, 0, ()) : (Int × ((Vec 3 Nat) × (Int × (Int × Unit)))))).1), (iAdd .i64 s178.2.1 1), ()))
    else none
  else
  Option.map Sum.inr (some ((s178.1, ()), ()))
noncomputable def impl_ticksOf (a0 : (Int × ((Vec 3 Nat) × ((List (Vec 3 Nat)) × ((List (Int × ((Vec 3 Nat) × (Int × (Int × Unit))))) × Unit))))) : Option ((Int × Unit) × Unit) :=
  run (impl_ticksOf_l3 a0) ((0 : Int), (0 : Int), ())
noncomputable def impl_ticksOf_en : Entry := ⟨⟨[.v (.pair (.int .i64) (.pair (.arr 3 (.flt .f32)) (.pair (.list (.arr 3 (.flt .f32))) (.pair (.list (.pair (.int .i64) (.pair (.arr 3 (.flt .f32)) (.pair (.int .i64) (.pair (.int .i64) (.unit)))))) (.unit)))))], [.v (.val (.int .i64))], false⟩, fun x => impl_ticksOf x.1⟩
theorem impl_ticksOf_so : Sound Tryz.prog G 51 impl_ticksOf_en := so_of (envS (l := []) trivial) [(3, .vary [(3, .sc (.int .i64)), (9, .sc (.int .i64))])] Tryz.func51 (by kernel_rfl) rfl fun _ => by kernel_rfl

-- loop.example/g01204/impl.within
noncomputable def impl_within (a0 : Int) (a1 : Int) (a2 : Int) : Option ((Bool × Unit) × Unit) :=
  bif (iLe a1 a0) then
    some (((iLe a0 a2), ()), ())
  else some ((false, ()), ())
noncomputable def impl_within_en : Entry := ⟨⟨[.v (.int .i64), .v (.int .i64), .v (.int .i64)], [.v (.val (.bool))], false⟩, fun x => impl_within x.1 x.2.1 x.2.2.1⟩
theorem impl_within_so : Sound Tryz.prog G 49 impl_within_en := so_of (envS (l := []) trivial) [] Tryz.func49 (by kernel_rfl) rfl fun _ => by kernel_rfl

-- (*loop.example/g01204/impl.compiler).addLeg
noncomputable def impl_compiler_addLeg (a0 : ((Int × ((Vec 3 Nat) × ((List (Vec 3 Nat)) × ((List (Int × ((Vec 3 Nat) × (Int × (Int × Unit))))) × Unit)))) × (Int × ((List (Int × (Int × Unit))) × (Int × Unit))))) (a1 : (Vec 3 Nat)) (a2 : Int) : Option ((Int × Unit) × (((Int × ((Vec 3 Nat) × ((List (Vec 3 Nat)) × ((List (Int × ((Vec 3 Nat) × (Int × (Int × Unit))))) × Unit)))) × (Int × ((List (Int × (Int × Unit))) × (Int × Unit)))) × Unit)) :=
  (impl_within a2 (1 : Int) (400 : Int)).bind fun y171 =>
  bif (! y171.1.1) then
    some (((2 : Int), ()), ((((a0.1.1, a0.1.2.1, a0.1.2.2.1, a0.1.2.2.2.1, a0.1.2.2.2.2), a0.2.1, a0.2.2.1, a0.2.2.2) : ((Int × ((Vec 3 Nat) × ((List (Vec 3 Nat)) × ((List (Int × ((Vec 3 Nat) × (Int × (Int × Unit))))) × Unit)))) × (Int × ((List (Int × (Int × Unit))) × (Int × Unit))))), ()))
  else
  bif (iEq (lenI a0.1.2.2.2.1) 64) then
    some (((3 : Int), ()), ((((a0.1.1, a0.1.2.1, a0.1.2.2.1, a0.1.2.2.2.1, a0.1.2.2.2.2), a0.2.1, a0.2.2.1, a0.2.2.2) : ((Int × ((Vec 3 Nat) × ((List (Vec 3 Nat)) × ((List (Int × ((Vec 3 Nat) × (Int × (Int × Unit))))) × Unit)))) × (Int × ((List (Int × (Int × Unit))) × (Int × Unit))))), ()))
  else
  (impl_ticksOf ((a0.1.1, a0.1.2.1, a0.1.2.2.1, a0.1.2.2.2.1, a0.1.2.2.2.2) : (Int × ((Vec 3 Nat) × ((List (Vec 3 Nat)) × ((List (Int × ((Vec 3 Nat) × (Int × (Int × Unit))))) × Unit)))))).bind fun y174 =>
  bif (iLt 400 (iAdd .i64 y174.1.1 a2)) then
    some (((3 : Int), ()), ((((a0.1.1, a0.1.2.1, a0.1.2.2.1, a0.1.2.2.2.1, a0.1.2.2.2.2), a0.2.1, a0.2.2.1, a0.2.2.2) : ((Int × ((Vec 3 Nat) × ((List (Vec 3 Nat)) × ((List (Int × ((Vec 3 Nat) × (Int × (Int × Unit))))) × Unit)))) × (Int × ((List (Int × (Int × Unit))) × (Int × Unit))))), ()))
  else
  bif room (List.length a0.1.2.2.2.1 + 1) 40 then
    some (((0 : Int), ()), ((((a0.1.1, a0.1.2.1, a0.1.2.2.1, (a0.1.2.2.2.1 ++ ([(a2, a1, a0.2.1, (-1 : Int), ())] : (List (Int × ((Vec 3 Nat) × (Int × (Int × Unit))))))), a0.1.2.2.2.2), a0.2.1, a0.2.2.1, a0.2.2.2) : ((Int × ((Vec 3 Nat) × ((List (Vec 3 Nat)) × ((List (Int × ((Vec 3 Nat) × (Int × (Int × Unit))))) × Unit)))) × (Int × ((List (Int × (Int × Unit))) × (Int × Unit))))), ()))
  else none
noncomputable def impl_compiler_addLeg_en : Entry := ⟨⟨[.io (.pair (.pair (.val (.int .i64)) (.pair (.val (.arr 3 (.flt .f32))) (.pair (.rows (.arr 3 (.flt .f32))) (.pair (.rows (.pair (.int .i64) (.pair (.arr 3 (.flt .f32)) (.pair (.int .i64) (.pair (.int .i64) (.unit)))))) (.val (.unit)))))) (.pair (.val (.int .i64)) (.pair (.rows (.pair (.int .i64) (.pair (.int .i64) (.unit)))) (.val (.pair (.int .i64) (.unit)))))), .v (.arr 3 (.flt .f32)), .v (.int .i64)], [.v (.val (.int .i64))], false⟩, fun x => impl_compiler_addLeg x.1 x.2.1 x.2.2.1⟩
theorem impl_compiler_addLeg_so : Sound Tryz.prog G 115 impl_compiler_addLeg_en := so_of (envS (l := [(49, impl_within_en), (51, impl_ticksOf_en)]) ⟨(impl_within_so), (impl_ticksOf_so), trivial⟩) [] Tryz.func115 (by kernel_rfl) rfl fun _ => by kernel_rfl

-- (*loop.example/g01204/impl.compiler).about
noncomputable def impl_compiler_about (a0 : ((Int × ((Vec 3 Nat) × ((List (Vec 3 Nat)) × ((List (Int × ((Vec 3 Nat) × (Int × (Int × Unit))))) × Unit)))) × (Int × ((List (Int × (Int × Unit))) × (Int × Unit))))) (a1 : List UInt8) (a2 : Int) : Option ((Int × Unit) × (((Int × ((Vec 3 Nat) × ((List (Vec 3 Nat)) × ((List (Int × ((Vec 3 Nat) × (Int × (Int × Unit))))) × Unit)))) × (Int × ((List (Int × (Int × Unit))) × (Int × Unit)))) × Unit)) :=
  bif (sEq a1 ([114, 97, 116, 101])) then
    (impl_within a2 (1 : Int) (64 : Int)).bind fun y150 =>
    bif (! y150.1.1) then
      some (((2 : Int), ()), ((((a0.1.1, a0.1.2.1, a0.1.2.2.1, a0.1.2.2.2.1, a0.1.2.2.2.2), a0.2.1, a0.2.2.1, a0.2.2.2) : ((Int × ((Vec 3 Nat) × ((List (Vec 3 Nat)) × ((List (Int × ((Vec 3 Nat) × (Int × (Int × Unit))))) × Unit)))) × (Int × ((List (Int × (Int × Unit))) × (Int × Unit))))), ()))
    else
    bif (iLt 0 (lenI a0.1.2.2.2.1)) then
      some (((4 : Int), ()), ((((a0.1.1, a0.1.2.1, a0.1.2.2.1, a0.1.2.2.2.1, a0.1.2.2.2.2), a0.2.1, a0.2.2.1, a0.2.2.2) : ((Int × ((Vec 3 Nat) × ((List (Vec 3 Nat)) × ((List (Int × ((Vec 3 Nat) × (Int × (Int × Unit))))) × Unit)))) × (Int × ((List (Int × (Int × Unit))) × (Int × Unit))))), ()))
    else
    some (((0 : Int), ()), ((((a2, a0.1.2.1, a0.1.2.2.1, a0.1.2.2.2.1, a0.1.2.2.2.2), a0.2.1, a0.2.2.1, a0.2.2.2) : ((Int × ((Vec 3 Nat) × ((List (Vec 3 Nat)) × ((List (Int × ((Vec 3 Nat) × (Int × (Int × Unit))))) × Unit)))) × (Int × ((List (Int × (Int × Unit))) × (Int × Unit))))), ()))
  else
  bif (sEq a1 ([102, 105, 120])) then
    bif (iLt 400 a2) then
      some (((2 : Int), ()), ((((a0.1.1, a0.1.2.1, a0.1.2.2.1, a0.1.2.2.2.1, a0.1.2.2.2.2), a0.2.1, a0.2.2.1, a0.2.2.2) : ((Int × ((Vec 3 Nat) × ((List (Vec 3 Nat)) × ((List (Int × ((Vec 3 Nat) × (Int × (Int × Unit))))) × Unit)))) × (Int × ((List (Int × (Int × Unit))) × (Int × Unit))))), ()))
    else
    some (((0 : Int), ()), ((((a0.1.1, a0.1.2.1, a0.1.2.2.1, a0.1.2.2.2.1, a0.1.2.2.2.2), a2, a0.2.2.1, a0.2.2.2) : ((Int × ((Vec 3 Nat) × ((List (Vec 3 Nat)) × ((List (Int × ((Vec 3 Nat) × (Int × (Int × Unit))))) × Unit)))) × (Int × ((List (Int × (Int × Unit))) × (Int × Unit))))), ()))
  else
  bif (sEq a1 ([104, 111, 108, 100])) then
    (impl_compiler_addLeg (((a0.1.1, a0.1.2.1, a0.1.2.2.1, a0.1.2.2.2.1, a0.1.2.2.2.2), a0.2.1, a0.2.2.1, a0.2.2.2) : ((Int × ((Vec 3 Nat) × ((List (Vec 3 Nat)) × ((List (Int × ((Vec 3 Nat) × (Int × (Int × Unit))))) × Unit)))) × (Int × ((List (Int × (Int × Unit))) × (Int × Unit))))) ((0, 0, 0, ()) : (Vec 3 Nat)) a2).bind fun y156 =>
    some ((y156.1.1, ()), ((((y156.2.1.1.1, y156.2.1.1.2.1, y156.2.1.1.2.2.1, y156.2.1.1.2.2.2.1, y156.2.1.1.2.2.2.2), y156.2.1.2.1, y156.2.1.2.2.1, y156.2.1.2.2.2) : ((Int × ((Vec 3 Nat) × ((List (Vec 3 Nat)) × ((List (Int × ((Vec 3 Nat) × (Int × (Int × Unit))))) × Unit)))) × (Int × ((List (Int × (Int × Unit))) × (Int × Unit))))), ()))
  else
  bif (sEq a1 ([114, 97, 110, 103, 101])) then
    bif (iLe (lenI a0.1.2.2.1) a2) then
      some (((2 : Int), ()), ((((a0.1.1, a0.1.2.1, a0.1.2.2.1, a0.1.2.2.2.1, a0.1.2.2.2.2), a0.2.1, a0.2.2.1, a0.2.2.2) : ((Int × ((Vec 3 Nat) × ((List (Vec 3 Nat)) × ((List (Int × ((Vec 3 Nat) × (Int × (Int × Unit))))) × Unit)))) × (Int × ((List (Int × (Int × Unit))) × (Int × Unit))))), ()))
    else
    bif (iEq (lenI a0.1.2.2.2.1) 0) then
      some (((4 : Int), ()), ((((a0.1.1, a0.1.2.1, a0.1.2.2.1, a0.1.2.2.2.1, a0.1.2.2.2.2), a0.2.1, a0.2.2.1, a0.2.2.2) : ((Int × ((Vec 3 Nat) × ((List (Vec 3 Nat)) × ((List (Int × ((Vec 3 Nat) × (Int × (Int × Unit))))) × Unit)))) × (Int × ((List (Int × (Int × Unit))) × (Int × Unit))))), ()))
    else
    let x160 := iSub .i64 (lenI a0.1.2.2.2.1) 1
    bif inB x160 (List.length a0.1.2.2.2.1) then
      bif (iLe 0 (((((List.getD a0.1.2.2.2.1 x160.toNat ((0, (0, 0, 0, ()), 0, 0, ()) : (Int × ((Vec 3 Nat) × (Int × (Int × Unit)))))).2).2).2).1)) then
        some (((4 : Int), ()), ((((a0.1.1, a0.1.2.1, a0.1.2.2.1, a0.1.2.2.2.1, a0.1.2.2.2.2), a0.2.1, a0.2.2.1, a0.2.2.2) : ((Int × ((Vec 3 Nat) × ((List (Vec 3 Nat)) × ((List (Int × ((Vec 3 Nat) × (Int × (Int × Unit))))) × Unit)))) × (Int × ((List (Int × (Int × Unit))) × (Int × Unit))))), ()))
      else
      let x163 := iSub .i64 (lenI a0.1.2.2.2.1) 1
      bif inB x163 (List.length a0.1.2.2.2.1) then
        some (((0 : Int), ()), ((((a0.1.1, a0.1.2.1, a0.1.2.2.1, (List.set a0.1.2.2.2.1 x163.toNat (((List.getD a0.1.2.2.2.1 x163.toNat ((0, (0, 0, 0, ()), 0, 0, ()) : (Int × ((Vec 3 Nat) × (Int × (Int × Unit)))))).1, ((List.getD a0.1.2.2.2.1 x163.toNat ((0, (0, 0, 0, ()), 0, 0, ()) : (Int × ((Vec 3 Nat) × (Int × (Int × Unit)))))).2).1, (((List.getD a0.1.2.2.2.1 x163.toNat ((0, (0, 0, 0, ()), 0, 0, ()) : (Int × ((Vec 3 Nat) × (Int × (Int × Unit)))))).2).2).1, a2, ((((List.getD a0.1.2.2.2.1 x163.toNat ((0, (0, 0, 0, ()), 0, 0, ()) : (Int × ((Vec 3 Nat) × (Int × (Int × Unit)))))).2).2).2).2) : (Int × ((Vec 3 Nat) × (Int × (Int × Unit)))))), a0.1.2.2.2.2), a0.2.1, a0.2.2.1, a0.2.2.2) : ((Int × ((Vec 3 Nat) × ((List (Vec 3 Nat)) × ((List (Int × ((Vec 3 Nat) × (Int × (Int × Unit))))) × Unit)))) × (Int × ((List (Int × (Int × Unit))) × (Int × Unit))))), ()))
      else none
    else none
  else
  bif (sEq a1 ([114, 101, 112, 101, 97, 116])) then
    (impl_within a2 (1 : Int) (16 : Int)).bind fun y166 =>
    bif (! y166.1.1) then
      some (((2 : Int), ()), ((((a0.1.1, a0.1.2.1, a0.1.2.2.1, a0.1.2.2.2.1, a0.1.2.2.2.2), a0.2.1, a0.2.2.1, a0.2.2.2) : ((Int × ((Vec 3 Nat) × ((List (Vec 3 Nat)) × ((List (Int × ((Vec 3 Nat) × (Int × (Int × Unit))))) × Unit)))) × (Int × ((List (Int × (Int × Unit))) × (Int × Unit))))), ()))
    else
    bif (iEq (lenI a0.2.2.1) 3) then
      some (((3 : Int), ()), ((((a0.1.1, a0.1.2.1, a0.1.2.2.1, a0.1.2.2.2.1, a0.1.2.2.2.2), a0.2.1, a0.2.2.1, a0.2.2.2) : ((Int × ((Vec 3 Nat) × ((List (Vec 3 Nat)) × ((List (Int × ((Vec 3 Nat) × (Int × (Int × Unit))))) × Unit)))) × (Int × ((List (Int × (Int × Unit))) × (Int × Unit))))), ()))
    else
    bif room (List.length a0.2.2.1 + 1) 16 then
      some (((0 : Int), ()), ((((a0.1.1, a0.1.2.1, a0.1.2.2.1, a0.1.2.2.2.1, a0.1.2.2.2.2), a0.2.1, (a0.2.2.1 ++ ([(a0.2.2.2.1, (iSub .i64 a2 1), ())] : (List (Int × (Int × Unit))))), a0.2.2.2) : ((Int × ((Vec 3 Nat) × ((List (Vec 3 Nat)) × ((List (Int × ((Vec 3 Nat) × (Int × (Int × Unit))))) × Unit)))) × (Int × ((List (Int × (Int × Unit))) × (Int × Unit))))), ()))
    else none
  else
  some (((5 : Int), ()), ((((a0.1.1, a0.1.2.1, a0.1.2.2.1, a0.1.2.2.2.1, a0.1.2.2.2.2), a0.2.1, a0.2.2.1, a0.2.2.2) : ((Int × ((Vec 3 Nat) × ((List (Vec 3 Nat)) × ((List (Int × ((Vec 3 Nat) × (Int × (Int × Unit))))) × Unit)))) × (Int × ((List (Int × (Int × Unit))) × (Int × Unit))))), ()))
noncomputable def impl_compiler_about_en : Entry := ⟨⟨[.io (.pair (.pair (.val (.int .i64)) (.pair (.val (.arr 3 (.flt .f32))) (.pair (.rows (.arr 3 (.flt .f32))) (.pair (.rows (.pair (.int .i64) (.pair (.arr 3 (.flt .f32)) (.pair (.int .i64) (.pair (.int .i64) (.unit)))))) (.val (.unit)))))) (.pair (.val (.int .i64)) (.pair (.rows (.pair (.int .i64) (.pair (.int .i64) (.unit)))) (.val (.pair (.int .i64) (.unit)))))), .v (.str), .v (.int .i64)], [.v (.val (.int .i64))], false⟩, fun x => impl_compiler_about x.1 x.2.1 x.2.2.1⟩
theorem impl_compiler_about_so : Sound Tryz.prog G 114 impl_compiler_about_en := so_of (envS (l := [(49, impl_within_en), (115, impl_compiler_addLeg_en)]) ⟨(impl_within_so), (impl_compiler_addLeg_so), trivial⟩) [] Tryz.func114 (by kernel_rfl) rfl fun _ => by kernel_rfl

-- (*loop.example/g01204/impl.compiler).end
noncomputable def impl_compiler_end (a0 : ((Int × ((Vec 3 Nat) × ((List (Vec 3 Nat)) × ((List (Int × ((Vec 3 Nat) × (Int × (Int × Unit))))) × Unit)))) × (Int × ((List (Int × (Int × Unit))) × (Int × Unit))))) : Option ((Int × Unit) × (((Int × ((Vec 3 Nat) × ((List (Vec 3 Nat)) × ((List (Int × ((Vec 3 Nat) × (Int × (Int × Unit))))) × Unit)))) × (Int × ((List (Int × (Int × Unit))) × (Int × Unit)))) × Unit)) :=
  let x185 := iSub .i64 (lenI a0.2.2.1) 1
  bif (iLt x185 0) then
    some (((4 : Int), ()), ((((a0.1.1, a0.1.2.1, a0.1.2.2.1, a0.1.2.2.2.1, a0.1.2.2.2.2), a0.2.1, a0.2.2.1, a0.2.2.2) : ((Int × ((Vec 3 Nat) × ((List (Vec 3 Nat)) × ((List (Int × ((Vec 3 Nat) × (Int × (Int × Unit))))) × Unit)))) × (Int × ((List (Int × (Int × Unit))) × (Int × Unit))))), ()))
  else
  bif inB x185 (List.length a0.2.2.1) then
    bif (iLt 0 (((List.getD a0.2.2.1 x185.toNat ((0, 0, ()) : (Int × (Int × Unit)))).2).1)) then
      let w191 := List.set a0.2.2.1 x185.toNat (((List.getD a0.2.2.1 x185.toNat ((0, 0, ()) : (Int × (Int × Unit)))).1, (iSub .i64 (((List.getD a0.2.2.1 x185.toNat ((0, 0, ()) : (Int × (Int × Unit)))).2).1) 1), ((List.getD a0.2.2.1 x185.toNat ((0, 0, ()) : (Int × (Int × Unit)))).2).2) : (Int × (Int × Unit)))
      some (((0 : Int), ()), ((((a0.1.1, a0.1.2.1, a0.1.2.2.1, a0.1.2.2.2.1, a0.1.2.2.2.2), a0.2.1, w191, ((List.getD w191 x185.toNat ((0, 0, ()) : (Int × (Int × Unit)))).1), a0.2.2.2.2) : ((Int × ((Vec 3 Nat) × ((List (Vec 3 Nat)) × ((List (Int × ((Vec 3 Nat) × (Int × (Int × Unit))))) × Unit)))) × (Int × ((List (Int × (Int × Unit))) × (Int × Unit))))), ()))
    else
    bif inS 0 x185 (List.length a0.2.2.1) then
      some (((0 : Int), ()), ((((a0.1.1, a0.1.2.1, a0.1.2.2.1, a0.1.2.2.2.1, a0.1.2.2.2.2), a0.2.1, List.take x185.toNat (List.drop 0 a0.2.2.1), a0.2.2.2) : ((Int × ((Vec 3 Nat) × ((List (Vec 3 Nat)) × ((List (Int × ((Vec 3 Nat) × (Int × (Int × Unit))))) × Unit)))) × (Int × ((List (Int × (Int × Unit))) × (Int × Unit))))), ()))
    else none
  else none
noncomputable def impl_compiler_end_en : Entry := ⟨⟨[.io (.pair (.pair (.val (.int .i64)) (.pair (.val (.arr 3 (.flt .f32))) (.pair (.rows (.arr 3 (.flt .f32))) (.pair (.rows (.pair (.int .i64) (.pair (.arr 3 (.flt .f32)) (.pair (.int .i64) (.pair (.int .i64) (.unit)))))) (.val (.unit)))))) (.pair (.val (.int .i64)) (.pair (.rows (.pair (.int .i64) (.pair (.int .i64) (.unit)))) (.val (.pair (.int .i64) (.unit))))))], [.v (.val (.int .i64))], false⟩, fun x => impl_compiler_end x.1⟩
theorem impl_compiler_end_so : Sound Tryz.prog G 113 impl_compiler_end_en := so_of (envS (l := []) trivial) [] Tryz.func113 (by kernel_rfl) rfl fun _ => by kernel_rfl

theorem strconv_FormatInt_so (tb : GTab Tryz.prog G) : Sound Tryz.prog G 138 strconv_FormatInt_en := formatInt_sound Tryz.func138 (by kernel_rfl) (by kernel_rfl) tb Tryz.strconv_FormatInt_10

-- loop.example/g01204/impl.decimal[int64]
noncomputable def impl_decimal_int64 (a0 : Int) : Option ((List UInt8 × Unit) × Unit) :=
  (strconv_FormatInt a0 (10 : Int)).bind fun y227 =>
  some ((y227.1.1, ()), ())
noncomputable def impl_decimal_int64_en : Entry := ⟨⟨[.v (.int .i64)], [.v (.val (.str))], false⟩, fun x => impl_decimal_int64 x.1⟩
theorem impl_decimal_int64_so (tb : GTab Tryz.prog G) : Sound Tryz.prog G 86 impl_decimal_int64_en := so_of (envS (l := [(138, strconv_FormatInt_en)]) ⟨(strconv_FormatInt_so tb), trivial⟩) [] Tryz.func86 (by kernel_rfl) rfl fun _ => by kernel_rfl

theorem strconv_ParseInt_so (sy : GErr 2 G) (ra : GErr 3 G) : Sound Tryz.prog G 126 strconv_ParseInt_en := parseInt_sound Tryz.func126 (by kernel_rfl) (by kernel_rfl) sy ra Tryz.strconv_ParseInt_10_at64_ok (fun s hl h1 h2 ev w he hev => (Tryz.strconv_ParseInt_10_at64_syntax s hl h1 h2 ev w he hev).mono fun e w' ⟨N, h1, _, _, h2⟩ => ⟨N, h1, h2⟩) (fun s hl h ev w he hev => (Tryz.strconv_ParseInt_10_at64_range s hl h ev w he hev).mono fun e w' ⟨N, h1, _, _, h2⟩ => ⟨N, h1, h2⟩)

-- loop.example/g01204/impl.whole
noncomputable def impl_whole (a0 : List UInt8) : Option ((Int × Bool × Unit) × Unit) :=
  (strconv_ParseInt a0 (10 : Int) (64 : Int)).bind fun y223 =>
  bif y223.1.2.1 then
    (impl_within y223.1.1 (0 : Int) (999999 : Int)).bind fun y224 =>
    bif y224.1.1 then
      (impl_decimal_int64 y223.1.1).bind fun y225 =>
      some ((y223.1.1, (sEq y225.1.1 a0), ()), ())
    else some ((y223.1.1, false, ()), ())
  else some ((y223.1.1, false, ()), ())
noncomputable def impl_whole_en : Entry := ⟨⟨[.v (.str)], [.v (.val (.int .i64)), .v (.val (.bool))], false⟩, fun x => impl_whole x.1⟩
theorem impl_whole_so (tb : GTab Tryz.prog G) (sy : GErr 2 G) (ra : GErr 3 G) : Sound Tryz.prog G 62 impl_whole_en := so_of (envS (l := [(49, impl_within_en), (86, impl_decimal_int64_en), (126, strconv_ParseInt_en)]) ⟨(impl_within_so), (impl_decimal_int64_so tb), (strconv_ParseInt_so sy ra), trivial⟩) [] Tryz.func62 (by kernel_rfl) rfl fun _ => by kernel_rfl

theorem strings_Cut_so (mx : GMax 1 G) : Sound Tryz.prog G 60 strings_Cut_en := cut_sound Tryz.func60 (by kernel_rfl) (by kernel_rfl) mx Tryz.strings_Cut

theorem strings_CutPrefix_so : Sound Tryz.prog G 61 strings_CutPrefix_en := cutPrefix_sound Tryz.func61 (by kernel_rfl) (by kernel_rfl) Tryz.strings_CutPrefix

-- loop.example/g01204/impl.ReadFraction
noncomputable def impl_ReadFraction (a0 : List UInt8) : Option ((Nat × Int × Unit) × Unit) :=
  (strings_Cut a0 ([47] : List UInt8)).bind fun y193 =>
  (strings_CutPrefix y193.1.1 ([45] : List UInt8)).bind fun y194 =>
  (impl_whole y194.1.1).bind fun y195 =>
  bif y194.1.2.1 then
    let x196 := iSub .i64 0 y195.1.1
    bif y193.1.2.2.1 then
      (impl_whole y193.1.2.1).bind fun y197 =>
      bif y195.1.2.1 then
        bif y197.1.2.1 then
          (impl_within y197.1.1 (2 : Int) (1024 : Int)).bind fun y198 =>
          bif y198.1.1 then
            bif (! (iEq (iAnd .i64 y197.1.1 (iSub .i64 y197.1.1 1)) 0)) then some (((0 : Nat), (5 : Int), ()), ()) else
            some (((fDiv .f32 (fOfInt .f32 x196) (fOfInt .f32 y197.1.1)), (0 : Int), ()), ())
          else some (((0 : Nat), (5 : Int), ()), ())
        else some (((0 : Nat), (5 : Int), ()), ())
      else some (((0 : Nat), (5 : Int), ()), ())
    else
    bif (! y195.1.2.1) then some (((0 : Nat), (5 : Int), ()), ()) else
    some (((fDiv .f32 (fOfInt .f32 x196) (fOfInt .f32 1)), (0 : Int), ()), ())
  else
  bif y193.1.2.2.1 then
    (impl_whole y193.1.2.1).bind fun y210 =>
    bif y195.1.2.1 then
      bif y210.1.2.1 then
        (impl_within y210.1.1 (2 : Int) (1024 : Int)).bind fun y211 =>
        bif y211.1.1 then
          bif (! (iEq (iAnd .i64 y210.1.1 (iSub .i64 y210.1.1 1)) 0)) then some (((0 : Nat), (5 : Int), ()), ()) else
          some (((fDiv .f32 (fOfInt .f32 y195.1.1) (fOfInt .f32 y210.1.1)), (0 : Int), ()), ())
        else some (((0 : Nat), (5 : Int), ()), ())
      else some (((0 : Nat), (5 : Int), ()), ())
    else some (((0 : Nat), (5 : Int), ()), ())
  else
  bif (! y195.1.2.1) then some (((0 : Nat), (5 : Int), ()), ()) else
  some (((fDiv .f32 (fOfInt .f32 y195.1.1) (fOfInt .f32 1)), (0 : Int), ()), ())
noncomputable def impl_ReadFraction_en : Entry := ⟨⟨[.v (.str)], [.v (.val (.flt .f32)), .v (.val (.int .i64))], false⟩, fun x => impl_ReadFraction x.1⟩
theorem impl_ReadFraction_so (mx : GMax 1 G) (tb : GTab Tryz.prog G) (sy : GErr 2 G) (ra : GErr 3 G) : Sound Tryz.prog G 18 impl_ReadFraction_en := so_of (envS (l := [(49, impl_within_en), (60, strings_Cut_en), (61, strings_CutPrefix_en), (62, impl_whole_en)]) ⟨(impl_within_so), (strings_Cut_so mx), (strings_CutPrefix_so), (impl_whole_so tb sy ra), trivial⟩) [] Tryz.func18 (by kernel_rfl) rfl fun _ => by kernel_rfl

theorem strings_Split_so (mx : GMax 1 G) : Sound Tryz.prog G 108 strings_Split_en := split_sound Tryz.func108 (by kernel_rfl) (by kernel_rfl) mx (fun s sep m w h1 h2 h3 => Tryz.strings_Split s sep m w h1 h2 h3)

-- (*loop.example/g01204/impl.compiler).compile
noncomputable def impl_compiler_compile (a0 : ((Int × ((Vec 3 Nat) × ((List (Vec 3 Nat)) × ((List (Int × ((Vec 3 Nat) × (Int × (Int × Unit))))) × Unit)))) × (Int × ((List (Int × (Int × Unit))) × (Int × Unit))))) (a1 : List UInt8) : Option ((Int × Unit) × (((Int × ((Vec 3 Nat) × ((List (Vec 3 Nat)) × ((List (Int × ((Vec 3 Nat) × (Int × (Int × Unit))))) × Unit)))) × (Int × ((List (Int × (Int × Unit))) × (Int × Unit)))) × Unit)) :=
  (strings_Split a1 ([32] : List UInt8)).bind fun y88 =>
  bif (sEq a1 ([101, 110, 100])) then
    (impl_compiler_end (((a0.1.1, a0.1.2.1, a0.1.2.2.1, a0.1.2.2.2.1, a0.1.2.2.2.2), a0.2.1, a0.2.2.1, a0.2.2.2) : ((Int × ((Vec 3 Nat) × ((List (Vec 3 Nat)) × ((List (Int × ((Vec 3 Nat) × (Int × (Int × Unit))))) × Unit)))) × (Int × ((List (Int × (Int × Unit))) × (Int × Unit)))))).bind fun y90 =>
    some ((y90.1.1, ()), ((((y90.2.1.1.1, y90.2.1.1.2.1, y90.2.1.1.2.2.1, y90.2.1.1.2.2.2.1, y90.2.1.1.2.2.2.2), y90.2.1.2.1, y90.2.1.2.2.1, y90.2.1.2.2.2) : ((Int × ((Vec 3 Nat) × ((List (Vec 3 Nat)) × ((List (Int × ((Vec 3 Nat) × (Int × (Int × Unit))))) × Unit)))) × (Int × ((List (Int × (Int × Unit))) × (Int × Unit))))), ()))
  else
  bif (iEq (lenI y88.1.1) 2) then
    bif inB 1 (List.length y88.1.1) then
      (impl_whole (List.getD y88.1.1 1 ([] : List UInt8))).bind fun y93 =>
      bif (! y93.1.2.1) then
        some (((5 : Int), ()), ((((a0.1.1, a0.1.2.1, a0.1.2.2.1, a0.1.2.2.2.1, a0.1.2.2.2.2), a0.2.1, a0.2.2.1, a0.2.2.2) : ((Int × ((Vec 3 Nat) × ((List (Vec 3 Nat)) × ((List (Int × ((Vec 3 Nat) × (Int × (Int × Unit))))) × Unit)))) × (Int × ((List (Int × (Int × Unit))) × (Int × Unit))))), ()))
      else
      bif inB 0 (List.length y88.1.1) then
        (impl_compiler_about (((a0.1.1, a0.1.2.1, a0.1.2.2.1, a0.1.2.2.2.1, a0.1.2.2.2.2), a0.2.1, a0.2.2.1, a0.2.2.2) : ((Int × ((Vec 3 Nat) × ((List (Vec 3 Nat)) × ((List (Int × ((Vec 3 Nat) × (Int × (Int × Unit))))) × Unit)))) × (Int × ((List (Int × (Int × Unit))) × (Int × Unit))))) (List.getD y88.1.1 0 ([] : List UInt8)) y93.1.1).bind fun y96 =>
        some ((y96.1.1, ()), ((((y96.2.1.1.1, y96.2.1.1.2.1, y96.2.1.1.2.2.1, y96.2.1.1.2.2.2.1, y96.2.1.1.2.2.2.2), y96.2.1.2.1, y96.2.1.2.2.1, y96.2.1.2.2.2) : ((Int × ((Vec 3 Nat) × ((List (Vec 3 Nat)) × ((List (Int × ((Vec 3 Nat) × (Int × (Int × Unit))))) × Unit)))) × (Int × ((List (Int × (Int × Unit))) × (Int × Unit))))), ()))
      else none
    else none
  else
  bif (iLt (lenI y88.1.1) 4) then
    some (((5 : Int), ()), ((((a0.1.1, a0.1.2.1, a0.1.2.2.1, a0.1.2.2.2.1, a0.1.2.2.2.2), a0.2.1, a0.2.2.1, a0.2.2.2) : ((Int × ((Vec 3 Nat) × ((List (Vec 3 Nat)) × ((List (Int × ((Vec 3 Nat) × (Int × (Int × Unit))))) × Unit)))) × (Int × ((List (Int × (Int × Unit))) × (Int × Unit))))), ()))
  else
  bif inB 1 (List.length y88.1.1) then
    (impl_ReadFraction (List.getD y88.1.1 1 ([] : List UInt8))).bind fun y99 =>
    bif (! (iEq y99.1.2.1 0)) then
      some (((5 : Int), ()), ((((a0.1.1, a0.1.2.1, a0.1.2.2.1, a0.1.2.2.2.1, a0.1.2.2.2.2), a0.2.1, a0.2.2.1, a0.2.2.2) : ((Int × ((Vec 3 Nat) × ((List (Vec 3 Nat)) × ((List (Int × ((Vec 3 Nat) × (Int × (Int × Unit))))) × Unit)))) × (Int × ((List (Int × (Int × Unit))) × (Int × Unit))))), ()))
    else
    bif inB 2 (List.length y88.1.1) then
      (impl_ReadFraction (List.getD y88.1.1 2 ([] : List UInt8))).bind fun y102 =>
      bif (! (iEq y102.1.2.1 0)) then
        some (((5 : Int), ()), ((((a0.1.1, a0.1.2.1, a0.1.2.2.1, a0.1.2.2.2.1, a0.1.2.2.2.2), a0.2.1, a0.2.2.1, a0.2.2.2) : ((Int × ((Vec 3 Nat) × ((List (Vec 3 Nat)) × ((List (Int × ((Vec 3 Nat) × (Int × (Int × Unit))))) × Unit)))) × (Int × ((List (Int × (Int × Unit))) × (Int × Unit))))), ()))
      else
      bif inB 3 (List.length y88.1.1) then
        (impl_ReadFraction (List.getD y88.1.1 3 ([] : List UInt8))).bind fun y105 =>
        bif (! (iEq y105.1.2.1 0)) then
          some (((5 : Int), ()), ((((a0.1.1, a0.1.2.1, a0.1.2.2.1, a0.1.2.2.2.1, a0.1.2.2.2.2), a0.2.1, a0.2.2.1, a0.2.2.2) : ((Int × ((Vec 3 Nat) × ((List (Vec 3 Nat)) × ((List (Int × ((Vec 3 Nat) × (Int × (Int × Unit))))) × Unit)))) × (Int × ((List (Int × (Int × Unit))) × (Int × Unit))))), ()))
        else
        bif inB 0 (List.length y88.1.1) then
          bif (sEq (List.getD y88.1.1 0 ([] : List UInt8)) ([115, 116, 97, 114, 116])) then
            bif (iEq (lenI y88.1.1) 4) then
              bif (iLt 0 (lenI a0.1.2.2.2.1)) then
                some (((4 : Int), ()), ((((a0.1.1, a0.1.2.1, a0.1.2.2.1, a0.1.2.2.2.1, a0.1.2.2.2.2), a0.2.1, a0.2.2.1, a0.2.2.2) : ((Int × ((Vec 3 Nat) × ((List (Vec 3 Nat)) × ((List (Int × ((Vec 3 Nat) × (Int × (Int × Unit))))) × Unit)))) × (Int × ((List (Int × (Int × Unit))) × (Int × Unit))))), ()))
              else
              some (((0 : Int), ()), ((((a0.1.1, (y99.1.1, y102.1.1, y105.1.1, ()), a0.1.2.2.1, a0.1.2.2.2.1, a0.1.2.2.2.2), a0.2.1, a0.2.2.1, a0.2.2.2) : ((Int × ((Vec 3 Nat) × ((List (Vec 3 Nat)) × ((List (Int × ((Vec 3 Nat) × (Int × (Int × Unit))))) × Unit)))) × (Int × ((List (Int × (Int × Unit))) × (Int × Unit))))), ()))
            else
            bif inB 0 (List.length y88.1.1) then
              bif (sEq (List.getD y88.1.1 0 ([] : List UInt8)) ([98, 101, 97, 99, 111, 110])) then
                bif (iEq (lenI y88.1.1) 4) then
                  bif (iEq (lenI a0.1.2.2.1) 6) then
                    some (((3 : Int), ()), ((((a0.1.1, a0.1.2.1, a0.1.2.2.1, a0.1.2.2.2.1, a0.1.2.2.2.2), a0.2.1, a0.2.2.1, a0.2.2.2) : ((Int × ((Vec 3 Nat) × ((List (Vec 3 Nat)) × ((List (Int × ((Vec 3 Nat) × (Int × (Int × Unit))))) × Unit)))) × (Int × ((List (Int × (Int × Unit))) × (Int × Unit))))), ()))
                  else
                  bif room (List.length a0.1.2.2.1 + 1) 12 then
                    some (((0 : Int), ()), ((((a0.1.1, a0.1.2.1, (a0.1.2.2.1 ++ ([(y99.1.1, y102.1.1, y105.1.1, ())] : (List (Vec 3 Nat)))), a0.1.2.2.2.1, a0.1.2.2.2.2), a0.2.1, a0.2.2.1, a0.2.2.2) : ((Int × ((Vec 3 Nat) × ((List (Vec 3 Nat)) × ((List (Int × ((Vec 3 Nat) × (Int × (Int × Unit))))) × Unit)))) × (Int × ((List (Int × (Int × Unit))) × (Int × Unit))))), ()))
                  else none
                else
                bif inB 0 (List.length y88.1.1) then
                  bif (sEq (List.getD y88.1.1 0 ([] : List UInt8)) ([109, 111, 118, 101])) then
                    bif (iEq (lenI y88.1.1) 5) then
                      bif inB 4 (List.length y88.1.1) then
                        (impl_whole (List.getD y88.1.1 4 ([] : List UInt8))).bind fun y120 =>
                        bif (! y120.1.2.1) then
                          some (((5 : Int), ()), ((((a0.1.1, a0.1.2.1, a0.1.2.2.1, a0.1.2.2.2.1, a0.1.2.2.2.2), a0.2.1, a0.2.2.1, a0.2.2.2) : ((Int × ((Vec 3 Nat) × ((List (Vec 3 Nat)) × ((List (Int × ((Vec 3 Nat) × (Int × (Int × Unit))))) × Unit)))) × (Int × ((List (Int × (Int × Unit))) × (Int × Unit))))), ()))
                        else
                        (impl_compiler_addLeg (((a0.1.1, a0.1.2.1, a0.1.2.2.1, a0.1.2.2.2.1, a0.1.2.2.2.2), a0.2.1, a0.2.2.1, a0.2.2.2) : ((Int × ((Vec 3 Nat) × ((List (Vec 3 Nat)) × ((List (Int × ((Vec 3 Nat) × (Int × (Int × Unit))))) × Unit)))) × (Int × ((List (Int × (Int × Unit))) × (Int × Unit))))) ((y99.1.1, y102.1.1, y105.1.1, ()) : (Vec 3 Nat)) y120.1.1).bind fun y122 =>
                        some ((y122.1.1, ()), ((((y122.2.1.1.1, y122.2.1.1.2.1, y122.2.1.1.2.2.1, y122.2.1.1.2.2.2.1, y122.2.1.1.2.2.2.2), y122.2.1.2.1, y122.2.1.2.2.1, y122.2.1.2.2.2) : ((Int × ((Vec 3 Nat) × ((List (Vec 3 Nat)) × ((List (Int × ((Vec 3 Nat) × (Int × (Int × Unit))))) × Unit)))) × (Int × ((List (Int × (Int × Unit))) × (Int × Unit))))), ()))
                      else none
                    else
                    some (((5 : Int), ()), ((((a0.1.1, a0.1.2.1, a0.1.2.2.1, a0.1.2.2.2.1, a0.1.2.2.2.2), a0.2.1, a0.2.2.1, a0.2.2.2) : ((Int × ((Vec 3 Nat) × ((List (Vec 3 Nat)) × ((List (Int × ((Vec 3 Nat) × (Int × (Int × Unit))))) × Unit)))) × (Int × ((List (Int × (Int × Unit))) × (Int × Unit))))), ()))
                  else
                  some (((5 : Int), ()), ((((a0.1.1, a0.1.2.1, a0.1.2.2.1, a0.1.2.2.2.1, a0.1.2.2.2.2), a0.2.1, a0.2.2.1, a0.2.2.2) : ((Int × ((Vec 3 Nat) × ((List (Vec 3 Nat)) × ((List (Int × ((Vec 3 Nat) × (Int × (Int × Unit))))) × Unit)))) × (Int × ((List (Int × (Int × Unit))) × (Int × Unit))))), ()))
                else none
              else
              bif inB 0 (List.length y88.1.1) then
                bif (sEq (List.getD y88.1.1 0 ([] : List UInt8)) ([109, 111, 118, 101])) then
                  bif (iEq (lenI y88.1.1) 5) then
                    bif inB 4 (List.length y88.1.1) then
                      (impl_whole (List.getD y88.1.1 4 ([] : List UInt8))).bind fun y127 =>
                      bif (! y127.1.2.1) then
                        some (((5 : Int), ()), ((((a0.1.1, a0.1.2.1, a0.1.2.2.1, a0.1.2.2.2.1, a0.1.2.2.2.2), a0.2.1, a0.2.2.1, a0.2.2.2) : ((Int × ((Vec 3 Nat) × ((List (Vec 3 Nat)) × ((List (Int × ((Vec 3 Nat) × (Int × (Int × Unit))))) × Unit)))) × (Int × ((List (Int × (Int × Unit))) × (Int × Unit))))), ()))
                      else
                      (impl_compiler_addLeg (((a0.1.1, a0.1.2.1, a0.1.2.2.1, a0.1.2.2.2.1, a0.1.2.2.2.2), a0.2.1, a0.2.2.1, a0.2.2.2) : ((Int × ((Vec 3 Nat) × ((List (Vec 3 Nat)) × ((List (Int × ((Vec 3 Nat) × (Int × (Int × Unit))))) × Unit)))) × (Int × ((List (Int × (Int × Unit))) × (Int × Unit))))) ((y99.1.1, y102.1.1, y105.1.1, ()) : (Vec 3 Nat)) y127.1.1).bind fun y129 =>
                      some ((y129.1.1, ()), ((((y129.2.1.1.1, y129.2.1.1.2.1, y129.2.1.1.2.2.1, y129.2.1.1.2.2.2.1, y129.2.1.1.2.2.2.2), y129.2.1.2.1, y129.2.1.2.2.1, y129.2.1.2.2.2) : ((Int × ((Vec 3 Nat) × ((List (Vec 3 Nat)) × ((List (Int × ((Vec 3 Nat) × (Int × (Int × Unit))))) × Unit)))) × (Int × ((List (Int × (Int × Unit))) × (Int × Unit))))), ()))
                    else none
                  else
                  some (((5 : Int), ()), ((((a0.1.1, a0.1.2.1, a0.1.2.2.1, a0.1.2.2.2.1, a0.1.2.2.2.2), a0.2.1, a0.2.2.1, a0.2.2.2) : ((Int × ((Vec 3 Nat) × ((List (Vec 3 Nat)) × ((List (Int × ((Vec 3 Nat) × (Int × (Int × Unit))))) × Unit)))) × (Int × ((List (Int × (Int × Unit))) × (Int × Unit))))), ()))
                else
                some (((5 : Int), ()), ((((a0.1.1, a0.1.2.1, a0.1.2.2.1, a0.1.2.2.2.1, a0.1.2.2.2.2), a0.2.1, a0.2.2.1, a0.2.2.2) : ((Int × ((Vec 3 Nat) × ((List (Vec 3 Nat)) × ((List (Int × ((Vec 3 Nat) × (Int × (Int × Unit))))) × Unit)))) × (Int × ((List (Int × (Int × Unit))) × (Int × Unit))))), ()))
              else none
            else none
          else
          bif inB 0 (List.length y88.1.1) then
            bif (sEq (List.getD y88.1.1 0 ([] : List UInt8)) ([98, 101, 97, 99, 111, 110])) then
              bif (iEq (lenI y88.1.1) 4) then
                bif (iEq (lenI a0.1.2.2.1) 6) then
                  some (((3 : Int), ()), ((((a0.1.1, a0.1.2.1, a0.1.2.2.1, a0.1.2.2.2.1, a0.1.2.2.2.2), a0.2.1, a0.2.2.1, a0.2.2.2) : ((Int × ((Vec 3 Nat) × ((List (Vec 3 Nat)) × ((List (Int × ((Vec 3 Nat) × (Int × (Int × Unit))))) × Unit)))) × (Int × ((List (Int × (Int × Unit))) × (Int × Unit))))), ()))
                else
                bif room (List.length a0.1.2.2.1 + 1) 12 then
                  some (((0 : Int), ()), ((((a0.1.1, a0.1.2.1, (a0.1.2.2.1 ++ ([(y99.1.1, y102.1.1, y105.1.1, ())] : (List (Vec 3 Nat)))), a0.1.2.2.2.1, a0.1.2.2.2.2), a0.2.1, a0.2.2.1, a0.2.2.2) : ((Int × ((Vec 3 Nat) × ((List (Vec 3 Nat)) × ((List (Int × ((Vec 3 Nat) × (Int × (Int × Unit))))) × Unit)))) × (Int × ((List (Int × (Int × Unit))) × (Int × Unit))))), ()))
                else none
              else
              bif inB 0 (List.length y88.1.1) then
                bif (sEq (List.getD y88.1.1 0 ([] : List UInt8)) ([109, 111, 118, 101])) then
                  bif (iEq (lenI y88.1.1) 5) then
                    bif inB 4 (List.length y88.1.1) then
                      (impl_whole (List.getD y88.1.1 4 ([] : List UInt8))).bind fun y139 =>
                      bif (! y139.1.2.1) then
                        some (((5 : Int), ()), ((((a0.1.1, a0.1.2.1, a0.1.2.2.1, a0.1.2.2.2.1, a0.1.2.2.2.2), a0.2.1, a0.2.2.1, a0.2.2.2) : ((Int × ((Vec 3 Nat) × ((List (Vec 3 Nat)) × ((List (Int × ((Vec 3 Nat) × (Int × (Int × Unit))))) × Unit)))) × (Int × ((List (Int × (Int × Unit))) × (Int × Unit))))), ()))
                      else
                      (impl_compiler_addLeg (((a0.1.1, a0.1.2.1, a0.1.2.2.1, a0.1.2.2.2.1, a0.1.2.2.2.2), a0.2.1, a0.2.2.1, a0.2.2.2) : ((Int × ((Vec 3 Nat) × ((List (Vec 3 Nat)) × ((List (Int × ((Vec 3 Nat) × (Int × (Int × Unit))))) × Unit)))) × (Int × ((List (Int × (Int × Unit))) × (Int × Unit))))) ((y99.1.1, y102.1.1, y105.1.1, ()) : (Vec 3 Nat)) y139.1.1).bind fun y141 =>
                      some ((y141.1.1, ()), ((((y141.2.1.1.1, y141.2.1.1.2.1, y141.2.1.1.2.2.1, y141.2.1.1.2.2.2.1, y141.2.1.1.2.2.2.2), y141.2.1.2.1, y141.2.1.2.2.1, y141.2.1.2.2.2) : ((Int × ((Vec 3 Nat) × ((List (Vec 3 Nat)) × ((List (Int × ((Vec 3 Nat) × (Int × (Int × Unit))))) × Unit)))) × (Int × ((List (Int × (Int × Unit))) × (Int × Unit))))), ()))
                    else none
                  else
                  some (((5 : Int), ()), ((((a0.1.1, a0.1.2.1, a0.1.2.2.1, a0.1.2.2.2.1, a0.1.2.2.2.2), a0.2.1, a0.2.2.1, a0.2.2.2) : ((Int × ((Vec 3 Nat) × ((List (Vec 3 Nat)) × ((List (Int × ((Vec 3 Nat) × (Int × (Int × Unit))))) × Unit)))) × (Int × ((List (Int × (Int × Unit))) × (Int × Unit))))), ()))
                else
                some (((5 : Int), ()), ((((a0.1.1, a0.1.2.1, a0.1.2.2.1, a0.1.2.2.2.1, a0.1.2.2.2.2), a0.2.1, a0.2.2.1, a0.2.2.2) : ((Int × ((Vec 3 Nat) × ((List (Vec 3 Nat)) × ((List (Int × ((Vec 3 Nat) × (Int × (Int × Unit))))) × Unit)))) × (Int × ((List (Int × (Int × Unit))) × (Int × Unit))))), ()))
              else none
            else
            bif inB 0 (List.length y88.1.1) then
              bif (sEq (List.getD y88.1.1 0 ([] : List UInt8)) ([109, 111, 118, 101])) then
                bif (iEq (lenI y88.1.1) 5) then
                  bif inB 4 (List.length y88.1.1) then
                    (impl_whole (List.getD y88.1.1 4 ([] : List UInt8))).bind fun y146 =>
                    bif (! y146.1.2.1) then
                      some (((5 : Int), ()), ((((a0.1.1, a0.1.2.1, a0.1.2.2.1, a0.1.2.2.2.1, a0.1.2.2.2.2), a0.2.1, a0.2.2.1, a0.2.2.2) : ((Int × ((Vec 3 Nat) × ((List (Vec 3 Nat)) × ((List (Int × ((Vec 3 Nat) × (Int × (Int × Unit))))) × Unit)))) × (Int × ((List (Int × (Int × Unit))) × (Int × Unit))))), ()))
                    else
                    (impl_compiler_addLeg (((a0.1.1, a0.1.2.1, a0.1.2.2.1, a0.1.2.2.2.1, a0.1.2.2.2.2), a0.2.1, a0.2.2.1, a0.2.2.2) : ((Int × ((Vec 3 Nat) × ((List (Vec 3 Nat)) × ((List (Int × ((Vec 3 Nat) × (Int × (Int × Unit))))) × Unit)))) × (Int × ((List (Int × (Int × Unit))) × (Int × Unit))))) ((y99.1.1, y102.1.1, y105.1.1, ()) : (Vec 3 Nat)) y146.1.1).bind fun y148 =>
                    some ((y148.1.1, ()), ((((y148.2.1.1.1, y148.2.1.1.2.1, y148.2.1.1.2.2.1, y148.2.1.1.2.2.2.1, y148.2.1.1.2.2.2.2), y148.2.1.2.1, y148.2.1.2.2.1, y148.2.1.2.2.2) : ((Int × ((Vec 3 Nat) × ((List (Vec 3 Nat)) × ((List (Int × ((Vec 3 Nat) × (Int × (Int × Unit))))) × Unit)))) × (Int × ((List (Int × (Int × Unit))) × (Int × Unit))))), ()))
                  else none
                else
                some (((5 : Int), ()), ((((a0.1.1, a0.1.2.1, a0.1.2.2.1, a0.1.2.2.2.1, a0.1.2.2.2.2), a0.2.1, a0.2.2.1, a0.2.2.2) : ((Int × ((Vec 3 Nat) × ((List (Vec 3 Nat)) × ((List (Int × ((Vec 3 Nat) × (Int × (Int × Unit))))) × Unit)))) × (Int × ((List (Int × (Int × Unit))) × (Int × Unit))))), ()))
              else
              some (((5 : Int), ()), ((((a0.1.1, a0.1.2.1, a0.1.2.2.1, a0.1.2.2.2.1, a0.1.2.2.2.2), a0.2.1, a0.2.2.1, a0.2.2.2) : ((Int × ((Vec 3 Nat) × ((List (Vec 3 Nat)) × ((List (Int × ((Vec 3 Nat) × (Int × (Int × Unit))))) × Unit)))) × (Int × ((List (Int × (Int × Unit))) × (Int × Unit))))), ()))
            else none
          else none
        else none
      else none
    else none
  else none
noncomputable def impl_compiler_compile_en : Entry := ⟨⟨[.io (.pair (.pair (.val (.int .i64)) (.pair (.val (.arr 3 (.flt .f32))) (.pair (.rows (.arr 3 (.flt .f32))) (.pair (.rows (.pair (.int .i64) (.pair (.arr 3 (.flt .f32)) (.pair (.int .i64) (.pair (.int .i64) (.unit)))))) (.val (.unit)))))) (.pair (.val (.int .i64)) (.pair (.rows (.pair (.int .i64) (.pair (.int .i64) (.unit)))) (.val (.pair (.int .i64) (.unit)))))), .v (.str)], [.v (.val (.int .i64))], false⟩, fun x => impl_compiler_compile x.1 x.2.1⟩
theorem impl_compiler_compile_so (mx : GMax 1 G) (tb : GTab Tryz.prog G) (sy : GErr 2 G) (ra : GErr 3 G) : Sound Tryz.prog G 45 impl_compiler_compile_en := so_of (envS (l := [(18, impl_ReadFraction_en), (62, impl_whole_en), (108, strings_Split_en), (113, impl_compiler_end_en), (114, impl_compiler_about_en), (115, impl_compiler_addLeg_en)]) ⟨(impl_ReadFraction_so mx tb sy ra), (impl_whole_so tb sy ra), (strings_Split_so mx), (impl_compiler_end_so), (impl_compiler_about_so), (impl_compiler_addLeg_so), trivial⟩) [(14, .unroll 4)] Tryz.func45 (by kernel_rfl) rfl fun _ => by kernel_rfl

-- loop.example/g01204/impl.textLines
noncomputable def impl_textLines (a0 : List UInt8) : Option (((List (List UInt8)) × Unit) × Unit) :=
  (strings_Split a0 ([10] : List UInt8)).bind fun y228 =>
  let x229 := iSub .i64 (lenI y228.1.1) 1
  bif inB x229 (List.length y228.1.1) then
    bif (sEq (List.getD y228.1.1 x229.toNat ([] : List UInt8)) ([])) then
      bif inS 0 x229 (List.length y228.1.1) then some ((List.take x229.toNat (List.drop 0 y228.1.1), ()), ()) else none
    else some ((y228.1.1, ()), ())
  else none
noncomputable def impl_textLines_en : Entry := ⟨⟨[.v (.str)], [.v (.rows (.str))], false⟩, fun x => impl_textLines x.1⟩
theorem impl_textLines_so (mx : GMax 1 G) : Sound Tryz.prog G 44 impl_textLines_en := so_of (envS (l := [(108, strings_Split_en)]) ⟨(strings_Split_so mx), trivial⟩) [] Tryz.func44 (by kernel_rfl) rfl fun _ => by kernel_rfl

-- loop.example/g01204/impl.CompileMission
noncomputable def impl_CompileMission_l5 (y73 : (((List (List UInt8)) × Unit) × Unit)) (s81 : (((Int × ((Vec 3 Nat) × ((List (Vec 3 Nat)) × ((List (Int × ((Vec 3 Nat) × (Int × (Int × Unit))))) × Unit)))) × (Int × ((List (Int × (Int × Unit))) × (Int × Unit)))) × Unit)) : Option ((((Int × ((Vec 3 Nat) × ((List (Vec 3 Nat)) × ((List (Int × ((Vec 3 Nat) × (Int × (Int × Unit))))) × Unit)))) × (Int × ((List (Int × (Int × Unit))) × (Int × Unit)))) × Unit) ⊕ (((Int × ((Vec 3 Nat) × ((List (Vec 3 Nat)) × ((List (Int × ((Vec 3 Nat) × (Int × (Int × Unit))))) × Unit)))) × Int × Int × Unit) × Unit)) :=
  bif (iLt s81.1.2.2.2.1 (lenI y73.1.1)) then
    bif inB s81.1.2.2.2.1 (List.length y73.1.1) then
      (impl_compiler_compile (((s81.1.1.1, s81.1.1.2.1, s81.1.1.2.2.1, s81.1.1.2.2.2.1, s81.1.1.2.2.2.2), s81.1.2.1, s81.1.2.2.1, (iAdd .i64 s81.1.2.2.2.1 1), s81.1.2.2.2.2) : ((Int × ((Vec 3 Nat) × ((List (Vec 3 Nat)) × ((List (Int × ((Vec 3 Nat) × (Int × (Int × Unit))))) × Unit)))) × (Int × ((List (Int × (Int × Unit))) × (Int × Unit))))) (List.getD y73.1.1 s81.1.2.2.2.1.toNat ([] : List UInt8))).bind fun y85 =>
      bif (! (iEq y85.1.1 0)) then
        Option.map Sum.inr (some ((((0, (0, 0, 0, ()), [], [], ()) : (Int × ((Vec 3 Nat) × ((List (Vec 3 Nat)) × ((List (Int × ((Vec 3 Nat) × (Int × (Int × Unit))))) × Unit))))), s81.1.2.2.2.1, y85.1.1, ()), ()))
      else
      some (Sum.inl ((((y85.2.1.1.1, y85.2.1.1.2.1, y85.2.1.1.2.2.1, y85.2.1.1.2.2.2.1, y85.2.1.1.2.2.2.2), y85.2.1.2.1, y85.2.1.2.2.1, y85.2.1.2.2.2) : ((Int × ((Vec 3 Nat) × ((List (Vec 3 Nat)) × ((List (Int × ((Vec 3 Nat) × (Int × (Int × Unit))))) × Unit)))) × (Int × ((List (Int × (Int × Unit))) × (Int × Unit))))), ()))
    else none
  else
  Option.map Sum.inr (
    bif (iLt 0 (lenI s81.1.2.2.1)) then some ((((0, (0, 0, 0, ()), [], [], ()) : (Int × ((Vec 3 Nat) × ((List (Vec 3 Nat)) × ((List (Int × ((Vec 3 Nat) × (Int × (Int × Unit))))) × Unit))))), lenI y73.1.1, (4 : Int), ()), ()) else
    some ((((s81.1.1.1, s81.1.1.2.1, s81.1.1.2.2.1, s81.1.1.2.2.2.1, s81.1.1.2.2.2.2) : (Int × ((Vec 3 Nat) × ((List (Vec 3 Nat)) × ((List (Int × ((Vec 3 Nat) × (Int × (Int × Unit))))) × Unit))))), (0 : Int), (0 : Int), ()), ()))
noncomputable def impl_CompileMission (a0 : List UInt8) : Option (((Int × ((Vec 3 Nat) × ((List (Vec 3 Nat)) × ((List (Int × ((Vec 3 Nat) × (Int × (Int × Unit))))) × Unit)))) × Int × Int × Unit) × Unit) :=
  (impl_textLines a0).bind fun y73 =>
  bif (iLt 4000 (lenI a0)) then some ((((0, (0, 0, 0, ()), [], [], ()) : (Int × ((Vec 3 Nat) × ((List (Vec 3 Nat)) × ((List (Int × ((Vec 3 Nat) × (Int × (Int × Unit))))) × Unit))))), (0 : Int), (2 : Int), ()), ()) else
  bif (iLt 200 (lenI y73.1.1)) then some ((((0, (0, 0, 0, ()), [], [], ()) : (Int × ((Vec 3 Nat) × ((List (Vec 3 Nat)) × ((List (Int × ((Vec 3 Nat) × (Int × (Int × Unit))))) × Unit))))), (0 : Int), (2 : Int), ()), ()) else
  run (impl_CompileMission_l5 y73) ((((8, (0, 0, 0, ()), [], [], ()), 0, [], 0, ()) : ((Int × ((Vec 3 Nat) × ((List (Vec 3 Nat)) × ((List (Int × ((Vec 3 Nat) × (Int × (Int × Unit))))) × Unit)))) × (Int × ((List (Int × (Int × Unit))) × (Int × Unit))))), ())
noncomputable def impl_CompileMission_en : Entry := ⟨⟨[.v (.str)], [.v (.pair (.val (.int .i64)) (.pair (.val (.arr 3 (.flt .f32))) (.pair (.rows (.arr 3 (.flt .f32))) (.pair (.rows (.pair (.int .i64) (.pair (.arr 3 (.flt .f32)) (.pair (.int .i64) (.pair (.int .i64) (.unit)))))) (.val (.unit)))))), .v (.val (.int .i64)), .v (.val (.int .i64))], false⟩, fun x => impl_CompileMission x.1⟩
theorem impl_CompileMission_so (mx : GMax 1 G) (tb : GTab Tryz.prog G) (sy : GErr 2 G) (ra : GErr 3 G) : Sound Tryz.prog G 9 impl_CompileMission_en := so_of (envS (l := [(44, impl_textLines_en), (45, impl_compiler_compile_en)]) ⟨(impl_textLines_so mx), (impl_compiler_compile_so mx tb sy ra), trivial⟩) [(5, .vary [(6, .box (.pair (.pair (.val (.int .i64)) (.pair (.val (.arr 3 (.flt .f32))) (.pair (.rows (.arr 3 (.flt .f32))) (.pair (.rows (.pair (.int .i64) (.pair (.arr 3 (.flt .f32)) (.pair (.int .i64) (.pair (.int .i64) (.unit)))))) (.val (.unit)))))) (.pair (.val (.int .i64)) (.pair (.rows (.pair (.int .i64) (.pair (.int .i64) (.unit)))) (.val (.pair (.int .i64) (.unit)))))))])] Tryz.func9 (by kernel_rfl) rfl fun _ => by kernel_rfl

-- loop.example/g01204/impl.isNaN
noncomputable def impl_isNaN (a0 : Nat) : Option ((Bool × Unit) × Unit) :=
  some (((! (fEq .f32 a0 a0)), ()), ())
noncomputable def impl_isNaN_en : Entry := ⟨⟨[.v (.flt .f32)], [.v (.val (.bool))], false⟩, fun x => impl_isNaN x.1⟩
theorem impl_isNaN_so : Sound Tryz.prog G 104 impl_isNaN_en := so_of (envS (l := []) trivial) [] Tryz.func104 (by kernel_rfl) rfl fun _ => by kernel_rfl

-- loop.example/g01204/impl.SameNumber
noncomputable def impl_SameNumber (a0 : Nat) (a1 : Nat) : Option ((Bool × Unit) × Unit) :=
  (impl_isNaN a0).bind fun y254 =>
  bif y254.1.1 then
    (impl_isNaN a1).bind fun y255 =>
    bif y255.1.1 then some ((true, ()), ()) else
    allSame fun (q256 : Nat) =>
    allSame fun (q258 : Nat) =>
    some (((iEq (bitsF .f32 a0 q256) (bitsF .f32 a1 q258)), ()), ())
  else
  allSame fun (q261 : Nat) =>
  allSame fun (q263 : Nat) =>
  some (((iEq (bitsF .f32 a0 q261) (bitsF .f32 a1 q263)), ()), ())
noncomputable def impl_SameNumber_en : Entry := ⟨⟨[.v (.flt .f32), .v (.flt .f32)], [.v (.val (.bool))], false⟩, fun x => impl_SameNumber x.1 x.2.1⟩
theorem impl_SameNumber_so : Sound Tryz.prog G 32 impl_SameNumber_en := so_of (envS (l := [(104, impl_isNaN_en)]) ⟨(impl_isNaN_so), trivial⟩) [] Tryz.func32 (by kernel_rfl) rfl fun _ => by kernel_rfl

-- loop.example/g01204/impl.SameVec
noncomputable def impl_SameVec (a0 : (Vec 3 Nat)) (a1 : (Vec 3 Nat)) : Option ((Bool × Unit) × Unit) :=
  (impl_SameNumber (Vec.getD 3 a0 0 (0 : Nat)) (Vec.getD 3 a1 0 (0 : Nat))).bind fun y244 =>
  bif (! y244.1.1) then some ((false, ()), ()) else
  (impl_SameNumber (Vec.getD 3 a0 1 (0 : Nat)) (Vec.getD 3 a1 1 (0 : Nat))).bind fun y248 =>
  bif (! y248.1.1) then some ((false, ()), ()) else
  (impl_SameNumber (Vec.getD 3 a0 2 (0 : Nat)) (Vec.getD 3 a1 2 (0 : Nat))).bind fun y252 =>
  bif (! y252.1.1) then some ((false, ()), ()) else some ((true, ()), ())
noncomputable def impl_SameVec_en : Entry := ⟨⟨[.v (.arr 3 (.flt .f32)), .v (.arr 3 (.flt .f32))], [.v (.val (.bool))], false⟩, fun x => impl_SameVec x.1 x.2.1⟩
theorem impl_SameVec_so : Sound Tryz.prog G 52 impl_SameVec_en := so_of (envS (l := [(32, impl_SameNumber_en)]) ⟨(impl_SameNumber_so), trivial⟩) [(2, .unroll 4)] Tryz.func52 (by kernel_rfl) rfl fun _ => by kernel_rfl

-- loop.example/g01204/impl.SameMission$1
noncomputable def impl_SameMission_1 (a0 : (Int × ((Vec 3 Nat) × (Int × (Int × Unit))))) (a1 : (Int × ((Vec 3 Nat) × (Int × (Int × Unit))))) : Option ((Bool × Unit) × Unit) :=
  bif (iEq a0.1 a1.1) then
    (impl_SameVec a0.2.1 a1.2.1).bind fun y239 =>
    bif y239.1.1 then
      bif (iEq a0.2.2.1 a1.2.2.1) then
        some (((iEq a0.2.2.2.1 a1.2.2.2.1), ()), ())
      else some ((false, ()), ())
    else some ((false, ()), ())
  else some ((false, ()), ())
noncomputable def impl_SameMission_1_en : Entry := ⟨⟨[.v (.pair (.int .i64) (.pair (.arr 3 (.flt .f32)) (.pair (.int .i64) (.pair (.int .i64) (.unit))))), .v (.pair (.int .i64) (.pair (.arr 3 (.flt .f32)) (.pair (.int .i64) (.pair (.int .i64) (.unit)))))], [.v (.val (.bool))], false⟩, fun x => impl_SameMission_1 x.1 x.2.1⟩
theorem impl_SameMission_1_so : Sound Tryz.prog G 55 impl_SameMission_1_en := so_of (envS (l := [(52, impl_SameVec_en)]) ⟨(impl_SameVec_so), trivial⟩) [] Tryz.func55 (by kernel_rfl) rfl fun _ => by kernel_rfl

-- slices.EqualFunc[[]loop.example/g01204/impl.Leg,[]loop.example/g01204/impl.Leg,loop.example/g01204/impl.Leg,loop.example/g01204/impl.Leg]
noncomputable def slices_EqualFunc_impl_Leg_l4 (a0 : (List (Int × ((Vec 3 Nat) × (Int × (Int × Unit)))))) (a1 : (List (Int × ((Vec 3 Nat) × (Int × (Int × Unit)))))) (a2 : (((Int × ((Vec 3 Nat) × (Int × (Int × Unit)))) × (Int × ((Vec 3 Nat) × (Int × (Int × Unit)))) × Unit) → Option Bool)) (s268 : (Int × Unit)) : Option ((Int × Unit) ⊕ ((Bool × Unit) × Unit)) :=
  bif (iLt s268.1 (lenI a0)) then
    bif inB s268.1 (List.length a0) then
      bif inB s268.1 (List.length a1) then
        (a2 ((List.getD a0 s268.1.toNat ((0, (0, 0, 0, ()), 0, 0, ()) : (Int × ((Vec 3 Nat) × (Int × (Int × Unit)))))), (List.getD a1 s268.1.toNat ((0, (0, 0, 0, ()), 0, 0, ()) : (Int × ((Vec 3 Nat) × (Int × (Int × Unit)))))), ())).bind fun y272 =>
        bif (! y272) then
          Option.map Sum.inr (some ((false, ()), ()))
        else
        some (Sum.inl ((iAdd .i64 s268.1 1), ()))
      else none
    else none
  else
  Option.map Sum.inr (some ((true, ()), ()))
noncomputable def slices_EqualFunc_impl_Leg (a0 : (List (Int × ((Vec 3 Nat) × (Int × (Int × Unit)))))) (a1 : (List (Int × ((Vec 3 Nat) × (Int × (Int × Unit)))))) (a2 : (((Int × ((Vec 3 Nat) × (Int × (Int × Unit)))) × (Int × ((Vec 3 Nat) × (Int × (Int × Unit)))) × Unit) → Option Bool)) : Option ((Bool × Unit) × Unit) :=
  bif (! (iEq (lenI a0) (lenI a1))) then some ((false, ()), ()) else run (slices_EqualFunc_impl_Leg_l4 a0 a1 a2) ((0 : Int), ())
noncomputable def slices_EqualFunc_impl_Leg_en : Entry := ⟨⟨[.v (.list (.pair (.int .i64) (.pair (.arr 3 (.flt .f32)) (.pair (.int .i64) (.pair (.int .i64) (.unit)))))), .v (.list (.pair (.int .i64) (.pair (.arr 3 (.flt .f32)) (.pair (.int .i64) (.pair (.int .i64) (.unit)))))), .fn ⟨[.pair (.int .i64) (.pair (.arr 3 (.flt .f32)) (.pair (.int .i64) (.pair (.int .i64) (.unit)))), .pair (.int .i64) (.pair (.arr 3 (.flt .f32)) (.pair (.int .i64) (.pair (.int .i64) (.unit))))], .bool⟩], [.v (.val (.bool))], false⟩, fun x => slices_EqualFunc_impl_Leg x.1 x.2.1 x.2.2.1⟩
theorem slices_EqualFunc_impl_Leg_so : Sound Tryz.prog G 54 slices_EqualFunc_impl_Leg_en := so_of (envS (l := []) trivial) [(4, .vary [(17, .sc (.int .i64))])] Tryz.func54 (by kernel_rfl) rfl fun _ => by kernel_rfl

-- slices.EqualFunc[[]loop.example/g01204/impl.Vec,[]loop.example/g01204/impl.Vec,loop.example/g01204/impl.Vec,loop.example/g01204/impl.Vec]
noncomputable def slices_EqualFunc_impl_Vec_l4 (a0 : (List (Vec 3 Nat))) (a1 : (List (Vec 3 Nat))) (a2 : (((Vec 3 Nat) × (Vec 3 Nat) × Unit) → Option Bool)) (s276 : (Int × Unit)) : Option ((Int × Unit) ⊕ ((Bool × Unit) × Unit)) :=
  bif (iLt s276.1 (lenI a0)) then
    bif inB s276.1 (List.length a0) then
      bif inB s276.1 (List.length a1) then
        (a2 ((List.getD a0 s276.1.toNat ((0, 0, 0, ()) : (Vec 3 Nat))), (List.getD a1 s276.1.toNat ((0, 0, 0, ()) : (Vec 3 Nat))), ())).bind fun y280 =>
        bif (! y280) then
          Option.map Sum.inr (some ((false, ()), ()))
        else
        some (Sum.inl ((iAdd .i64 s276.1 1), ()))
      else none
    else none
  else
  Option.map Sum.inr (some ((true, ()), ()))
noncomputable def slices_EqualFunc_impl_Vec (a0 : (List (Vec 3 Nat))) (a1 : (List (Vec 3 Nat))) (a2 : (((Vec 3 Nat) × (Vec 3 Nat) × Unit) → Option Bool)) : Option ((Bool × Unit) × Unit) :=
  bif (! (iEq (lenI a0) (lenI a1))) then some ((false, ()), ()) else run (slices_EqualFunc_impl_Vec_l4 a0 a1 a2) ((0 : Int), ())
noncomputable def slices_EqualFunc_impl_Vec_en : Entry := ⟨⟨[.v (.list (.arr 3 (.flt .f32))), .v (.list (.arr 3 (.flt .f32))), .fn ⟨[.arr 3 (.flt .f32), .arr 3 (.flt .f32)], .bool⟩], [.v (.val (.bool))], false⟩, fun x => slices_EqualFunc_impl_Vec x.1 x.2.1 x.2.2.1⟩
theorem slices_EqualFunc_impl_Vec_so : Sound Tryz.prog G 53 slices_EqualFunc_impl_Vec_en := so_of (envS (l := []) trivial) [(4, .vary [(17, .sc (.int .i64))])] Tryz.func53 (by kernel_rfl) rfl fun _ => by kernel_rfl

-- loop.example/g01204/impl.SameMission
noncomputable def impl_SameMission (a0 : (Int × ((Vec 3 Nat) × ((List (Vec 3 Nat)) × ((List (Int × ((Vec 3 Nat) × (Int × (Int × Unit))))) × Unit))))) (a1 : (Int × ((Vec 3 Nat) × ((List (Vec 3 Nat)) × ((List (Int × ((Vec 3 Nat) × (Int × (Int × Unit))))) × Unit))))) : Option ((Bool × Unit) × Unit) :=
  bif (iEq a0.1 a1.1) then
    (impl_SameVec a0.2.1 a1.2.1).bind fun y233 =>
    bif y233.1.1 then
      (slices_EqualFunc_impl_Vec a0.2.2.1 a1.2.2.1 (fun (z234 : ((Vec 3 Nat) × (Vec 3 Nat) × Unit)) => (impl_SameVec z234.1 z234.2.1).map fun y => y.1.1)).bind fun y235 =>
      bif y235.1.1 then
        (slices_EqualFunc_impl_Leg a0.2.2.2.1 a1.2.2.2.1 (fun (z236 : ((Int × ((Vec 3 Nat) × (Int × (Int × Unit)))) × (Int × ((Vec 3 Nat) × (Int × (Int × Unit)))) × Unit)) => (impl_SameMission_1 z236.1 z236.2.1).map fun y => y.1.1)).bind fun y237 =>
        some ((y237.1.1, ()), ())
      else some ((false, ()), ())
    else some ((false, ()), ())
  else some ((false, ()), ())
noncomputable def impl_SameMission_en : Entry := ⟨⟨[.v (.pair (.int .i64) (.pair (.arr 3 (.flt .f32)) (.pair (.list (.arr 3 (.flt .f32))) (.pair (.list (.pair (.int .i64) (.pair (.arr 3 (.flt .f32)) (.pair (.int .i64) (.pair (.int .i64) (.unit)))))) (.unit))))), .v (.pair (.int .i64) (.pair (.arr 3 (.flt .f32)) (.pair (.list (.arr 3 (.flt .f32))) (.pair (.list (.pair (.int .i64) (.pair (.arr 3 (.flt .f32)) (.pair (.int .i64) (.pair (.int .i64) (.unit)))))) (.unit)))))], [.v (.val (.bool))], false⟩, fun x => impl_SameMission x.1 x.2.1⟩
theorem impl_SameMission_so : Sound Tryz.prog G 13 impl_SameMission_en := so_of (envS (l := [(52, impl_SameVec_en), (53, slices_EqualFunc_impl_Vec_en), (54, slices_EqualFunc_impl_Leg_en), (55, impl_SameMission_1_en)]) ⟨(impl_SameVec_so), (slices_EqualFunc_impl_Vec_so), (slices_EqualFunc_impl_Leg_so), (impl_SameMission_1_so), trivial⟩) [] Tryz.func13 (by kernel_rfl) rfl fun _ => by kernel_rfl

-- loop.example/g01204/impl.isFinite
noncomputable def impl_isFinite_l2 (a0 : (List Nat)) (s305 : (Int × Unit)) : Option ((Int × Unit) ⊕ ((Bool × Unit) × Unit)) :=
  bif (iLt s305.1 (lenI a0)) then
    bif inB s305.1 (List.length a0) then
      let x307 := List.getD a0 s305.1.toNat (0 : Nat)
      bif (! (fEq .f32 (fSub .f32 x307 x307) 0)) then
        Option.map Sum.inr (some ((false, ()), ()))
      else
      some (Sum.inl ((iAdd .i64 s305.1 1), ()))
    else none
  else
  Option.map Sum.inr (some ((true, ()), ()))
noncomputable def impl_isFinite (a0 : (List Nat)) : Option ((Bool × Unit) × Unit) :=
  run (impl_isFinite_l2 a0) ((0 : Int), ())
noncomputable def impl_isFinite_en : Entry := ⟨⟨[.v (.list (.flt .f32))], [.v (.val (.bool))], false⟩, fun x => impl_isFinite x.1⟩
theorem impl_isFinite_so : Sound Tryz.prog G 70 impl_isFinite_en := so_of (envS (l := []) trivial) [(2, .vary [(7, .sc (.int .i64))])] Tryz.func70 (by kernel_rfl) rfl fun _ => by kernel_rfl

-- loop.example/g01204/impl.IsFiniteVec
noncomputable def impl_IsFiniteVec (a0 : (Vec 3 Nat)) : Option ((Bool × Unit) × Unit) :=
  (impl_isFinite ([Vec.getD 3 a0 0 (0 : Nat), Vec.getD 3 a0 1 (0 : Nat), Vec.getD 3 a0 2 (0 : Nat)] : (List Nat))).bind fun y304 =>
  some ((y304.1.1, ()), ())
noncomputable def impl_IsFiniteVec_en : Entry := ⟨⟨[.v (.arr 3 (.flt .f32))], [.v (.val (.bool))], false⟩, fun x => impl_IsFiniteVec x.1⟩
theorem impl_IsFiniteVec_so : Sound Tryz.prog G 50 impl_IsFiniteVec_en := so_of (envS (l := [(70, impl_isFinite_en)]) ⟨(impl_isFinite_so), trivial⟩) [] Tryz.func50 (by kernel_rfl) rfl fun _ => by kernel_rfl

-- loop.example/g01204/impl.validFrame$1
noncomputable def impl_validFrame_1 (a0 : (Vec 3 Nat)) : Option ((Bool × Unit) × Unit) :=
  (impl_IsFiniteVec a0).bind fun y317 =>
  some (((! y317.1.1), ()), ())
noncomputable def impl_validFrame_1_en : Entry := ⟨⟨[.v (.arr 3 (.flt .f32))], [.v (.val (.bool))], false⟩, fun x => impl_validFrame_1 x.1⟩
theorem impl_validFrame_1_so : Sound Tryz.prog G 118 impl_validFrame_1_en := so_of (envS (l := [(50, impl_IsFiniteVec_en)]) ⟨(impl_IsFiniteVec_so), trivial⟩) [] Tryz.func118 (by kernel_rfl) rfl fun _ => by kernel_rfl

-- slices.IndexFunc[[]loop.example/g01204/impl.Vec,loop.example/g01204/impl.Vec]
noncomputable def slices_IndexFunc_impl_Vec_l2 (a0 : (List (Vec 3 Nat))) (a1 : (((Vec 3 Nat) × Unit) → Option Bool)) (s321 : (Int × Unit)) : Option ((Int × Unit) ⊕ ((Int × Unit) × Unit)) :=
  bif (iLt s321.1 (lenI a0)) then
    bif inB s321.1 (List.length a0) then
      (a1 ((List.getD a0 s321.1.toNat ((0, 0, 0, ()) : (Vec 3 Nat))), ())).bind fun y324 =>
      bif y324 then
        Option.map Sum.inr (some ((s321.1, ()), ()))
      else
      some (Sum.inl ((iAdd .i64 s321.1 1), ()))
    else none
  else
  Option.map Sum.inr (some ((((-1 : Int) : Int), ()), ()))
noncomputable def slices_IndexFunc_impl_Vec (a0 : (List (Vec 3 Nat))) (a1 : (((Vec 3 Nat) × Unit) → Option Bool)) : Option ((Int × Unit) × Unit) :=
  run (slices_IndexFunc_impl_Vec_l2 a0 a1) ((0 : Int), ())
noncomputable def slices_IndexFunc_impl_Vec_en : Entry := ⟨⟨[.v (.list (.arr 3 (.flt .f32))), .fn ⟨[.arr 3 (.flt .f32)], .bool⟩], [.v (.val (.int .i64))], false⟩, fun x => slices_IndexFunc_impl_Vec x.1 x.2.1⟩
theorem slices_IndexFunc_impl_Vec_so : Sound Tryz.prog G 150 slices_IndexFunc_impl_Vec_en := so_of (envS (l := []) trivial) [(2, .vary [(8, .sc (.int .i64))])] Tryz.func150 (by kernel_rfl) rfl fun _ => by kernel_rfl

-- slices.ContainsFunc[[]loop.example/g01204/impl.Vec,loop.example/g01204/impl.Vec]
noncomputable def slices_ContainsFunc_impl_Vec (a0 : (List (Vec 3 Nat))) (a1 : (((Vec 3 Nat) × Unit) → Option Bool)) : Option ((Bool × Unit) × Unit) :=
  (slices_IndexFunc_impl_Vec a0 a1).bind fun y319 =>
  some (((iLe 0 y319.1.1), ()), ())
noncomputable def slices_ContainsFunc_impl_Vec_en : Entry := ⟨⟨[.v (.list (.arr 3 (.flt .f32))), .fn ⟨[.arr 3 (.flt .f32)], .bool⟩], [.v (.val (.bool))], false⟩, fun x => slices_ContainsFunc_impl_Vec x.1 x.2.1⟩
theorem slices_ContainsFunc_impl_Vec_so : Sound Tryz.prog G 117 slices_ContainsFunc_impl_Vec_en := so_of (envS (l := [(150, slices_IndexFunc_impl_Vec_en)]) ⟨(slices_IndexFunc_impl_Vec_so), trivial⟩) [] Tryz.func117 (by kernel_rfl) rfl fun _ => by kernel_rfl

-- loop.example/g01204/impl.validFrame
noncomputable def impl_validFrame (a0 : Int) (a1 : (Vec 3 Nat)) (a2 : (List (Vec 3 Nat))) : Option ((Bool × Unit) × Unit) :=
  (impl_within a0 (1 : Int) (64 : Int)).bind fun y311 =>
  bif y311.1.1 then
    (impl_IsFiniteVec a1).bind fun y312 =>
    bif y312.1.1 then
      bif (iLe (lenI a2) 6) then
        (slices_ContainsFunc_impl_Vec a2 (fun (z314 : ((Vec 3 Nat) × Unit)) => (impl_validFrame_1 z314.1).map fun y => y.1.1)).bind fun y315 =>
        some (((! y315.1.1), ()), ())
      else some ((false, ()), ())
    else some ((false, ()), ())
  else some ((false, ()), ())
noncomputable def impl_validFrame_en : Entry := ⟨⟨[.v (.int .i64), .v (.arr 3 (.flt .f32)), .v (.list (.arr 3 (.flt .f32)))], [.v (.val (.bool))], false⟩, fun x => impl_validFrame x.1 x.2.1 x.2.2.1⟩
theorem impl_validFrame_so : Sound Tryz.prog G 48 impl_validFrame_en := so_of (envS (l := [(49, impl_within_en), (50, impl_IsFiniteVec_en), (117, slices_ContainsFunc_impl_Vec_en), (118, impl_validFrame_1_en)]) ⟨(impl_within_so), (impl_IsFiniteVec_so), (slices_ContainsFunc_impl_Vec_so), (impl_validFrame_1_so), trivial⟩) [] Tryz.func48 (by kernel_rfl) rfl fun _ => by kernel_rfl

-- loop.example/g01204/impl.ValidMission
noncomputable def impl_ValidMission_l4 (a0 : (Int × ((Vec 3 Nat) × ((List (Vec 3 Nat)) × ((List (Int × ((Vec 3 Nat) × (Int × (Int × Unit))))) × Unit))))) (s289 : (Int × Unit)) : Option ((Int × Unit) ⊕ ((Bool × Unit) × Unit)) :=
  bif (iLt s289.1 (lenI a0.2.2.2.1)) then
    bif inB s289.1 (List.length a0.2.2.2.1) then
      let x291 := List.getD a0.2.2.2.1 s289.1.toNat ((0, (0, 0, 0, ()), 0, 0, ()) : (Int × ((Vec 3 Nat) × (Int × (Int × Unit)))))
      (impl_within x291.1 (1 : Int) (400 : Int)).bind fun y292 =>
      bif (! y292.1.1) then
        Option.map Sum.inr (some ((false, ()), ()))
      else
      (impl_IsFiniteVec x291.2.1).bind fun y294 =>
      bif (! y294.1.1) then
        Option.map Sum.inr (some ((false, ()), ()))
      else
      (impl_within x291.2.2.1 (0 : Int) (400 : Int)).bind fun y296 =>
      bif (! y296.1.1) then
        Option.map Sum.inr (some ((false, ()), ()))
      else
      (impl_within x291.2.2.2.1 ((-1 : Int) : Int) (iSub .i64 (lenI a0.2.2.1) 1)).bind fun y299 =>
      bif (! y299.1.1) then
        Option.map Sum.inr (some ((false, ()), ()))
      else
      some (Sum.inl ((iAdd .i64 s289.1 1), ()))
    else none
  else
  Option.map Sum.inr (
    (impl_ticksOf a0).bind fun y302 =>
    some (((iLe y302.1.1 400), ()), ()))
noncomputable def impl_ValidMission (a0 : (Int × ((Vec 3 Nat) × ((List (Vec 3 Nat)) × ((List (Int × ((Vec 3 Nat) × (Int × (Int × Unit))))) × Unit))))) : Option ((Bool × Unit) × Unit) :=
  (impl_validFrame a0.1 a0.2.1 a0.2.2.1).bind fun y286 =>
  bif (! y286.1.1) then some ((false, ()), ()) else
  bif (iLt 64 (lenI a0.2.2.2.1)) then some ((false, ()), ()) else run (impl_ValidMission_l4 a0) ((0 : Int), ())
noncomputable def impl_ValidMission_en : Entry := ⟨⟨[.v (.pair (.int .i64) (.pair (.arr 3 (.flt .f32)) (.pair (.list (.arr 3 (.flt .f32))) (.pair (.list (.pair (.int .i64) (.pair (.arr 3 (.flt .f32)) (.pair (.int .i64) (.pair (.int .i64) (.unit)))))) (.unit)))))], [.v (.val (.bool))], false⟩, fun x => impl_ValidMission x.1⟩
theorem impl_ValidMission_so : Sound Tryz.prog G 12 impl_ValidMission_en := so_of (envS (l := [(48, impl_validFrame_en), (49, impl_within_en), (50, impl_IsFiniteVec_en), (51, impl_ticksOf_en)]) ⟨(impl_validFrame_so), (impl_within_so), (impl_IsFiniteVec_so), (impl_ticksOf_so), trivial⟩) [(4, .vary [(22, .sc (.int .i64))])] Tryz.func12 (by kernel_rfl) rfl fun _ => by kernel_rfl

-- loop.example/g01204/impl.TicksOf
noncomputable def impl_TicksOf (a0 : (Int × ((Vec 3 Nat) × ((List (Vec 3 Nat)) × ((List (Int × ((Vec 3 Nat) × (Int × (Int × Unit))))) × Unit))))) : Option ((Int × Int × Unit) × Unit) :=
  (impl_ValidMission a0).bind fun y283 =>
  bif (! y283.1.1) then some (((0 : Int), (1 : Int), ()), ()) else
  (impl_ticksOf a0).bind fun y285 =>
  some ((y285.1.1, (0 : Int), ()), ())
noncomputable def impl_TicksOf_en : Entry := ⟨⟨[.v (.pair (.int .i64) (.pair (.arr 3 (.flt .f32)) (.pair (.list (.arr 3 (.flt .f32))) (.pair (.list (.pair (.int .i64) (.pair (.arr 3 (.flt .f32)) (.pair (.int .i64) (.pair (.int .i64) (.unit)))))) (.unit)))))], [.v (.val (.int .i64)), .v (.val (.int .i64))], false⟩, fun x => impl_TicksOf x.1⟩
theorem impl_TicksOf_so : Sound Tryz.prog G 14 impl_TicksOf_en := so_of (envS (l := [(12, impl_ValidMission_en), (51, impl_ticksOf_en)]) ⟨(impl_ValidMission_so), (impl_ticksOf_so), trivial⟩) [] Tryz.func14 (by kernel_rfl) rfl fun _ => by kernel_rfl

-- loop.example/g01204/impl.AddVec
noncomputable def impl_AddVec (a0 : (Vec 3 Nat)) (a1 : (Vec 3 Nat)) : Option (((Vec 3 Nat) × Unit) × Unit) :=
  let x372 := fAdd .f32 (Vec.getD 3 a0 0 (0 : Nat)) (Vec.getD 3 a1 0 (0 : Nat))
  let x375 := fAdd .f32 (Vec.getD 3 (Vec.set 3 a0 0 x372) 1 (0 : Nat)) (Vec.getD 3 a1 1 (0 : Nat))
  some (((Vec.set 3 (Vec.set 3 (Vec.set 3 a0 0 x372) 1 x375) 2 (fAdd .f32 (Vec.getD 3 (Vec.set 3 (Vec.set 3 a0 0 x372) 1 x375) 2 (0 : Nat)) (Vec.getD 3 a1 2 (0 : Nat)))), ()), ())
noncomputable def impl_AddVec_en : Entry := ⟨⟨[.v (.arr 3 (.flt .f32)), .v (.arr 3 (.flt .f32))], [.v (.val (.arr 3 (.flt .f32)))], false⟩, fun x => impl_AddVec x.1 x.2.1⟩
theorem impl_AddVec_so : Sound Tryz.prog G 56 impl_AddVec_en := so_of (envS (l := []) trivial) [(2, .unroll 4)] Tryz.func56 (by kernel_rfl) rfl fun _ => by kernel_rfl

-- loop.example/g01204/impl.ScaleVec
noncomputable def impl_ScaleVec (a0 : (Vec 3 Nat)) (a1 : Nat) : Option (((Vec 3 Nat) × Unit) × Unit) :=
  let x381 := fMul .f32 (Vec.getD 3 a0 0 (0 : Nat)) a1
  let x383 := fMul .f32 (Vec.getD 3 (Vec.set 3 a0 0 x381) 1 (0 : Nat)) a1
  some (((Vec.set 3 (Vec.set 3 (Vec.set 3 a0 0 x381) 1 x383) 2 (fMul .f32 (Vec.getD 3 (Vec.set 3 (Vec.set 3 a0 0 x381) 1 x383) 2 (0 : Nat)) a1)), ()), ())
noncomputable def impl_ScaleVec_en : Entry := ⟨⟨[.v (.arr 3 (.flt .f32)), .v (.flt .f32)], [.v (.val (.arr 3 (.flt .f32)))], false⟩, fun x => impl_ScaleVec x.1 x.2.1⟩
theorem impl_ScaleVec_so : Sound Tryz.prog G 57 impl_ScaleVec_en := so_of (envS (l := []) trivial) [(2, .unroll 4)] Tryz.func57 (by kernel_rfl) rfl fun _ => by kernel_rfl

-- loop.example/g01204/impl.TrackOf
noncomputable def impl_TrackOf_l10 (x352 : (Int × ((Vec 3 Nat) × (Int × (Int × Unit))))) (x329 : Nat) (s350 : ((List (Vec 3 Nat)) × Int × (Vec 3 Nat) × Unit)) (s361 : ((List (Vec 3 Nat)) × Int × (Vec 3 Nat) × Unit)) : Option (((List (Vec 3 Nat)) × Int × (Vec 3 Nat) × Unit) ⊕ (((List (Vec 3 Nat)) × Int × (Vec 3 Nat) × Unit) ⊕ (((List (Vec 3 Nat)) × Int × Unit) × Unit))) :=
  bif (iLt s361.2.1 x352.1) then
    (impl_ScaleVec x352.2.1 x329).bind fun y363 =>
    (impl_AddVec s361.2.2.1 y363.1.1).bind fun y364 =>
    (impl_IsFiniteVec y364.1.1).bind fun y365 =>
    bif (! y365.1.1) then
      Option.map Sum.inr (Option.map Sum.inr (some ((([] : (List (Vec 3 Nat))), (4 : Int), ()), ())))
    else
    bif room (List.length s361.1 + 1) 12 then
      some (Sum.inl ((s361.1 ++ ([y364.1.1] : (List (Vec 3 Nat)))), (iAdd .i64 s361.2.1 1), y364.1.1, ()))
    else none
  else
  Option.map Sum.inr (some (Sum.inl (s361.1, (iAdd .i64 s350.2.1 1), s361.2.2.1, ())))
noncomputable def impl_TrackOf_l7 (a0 : (Int × ((Vec 3 Nat) × ((List (Vec 3 Nat)) × ((List (Int × ((Vec 3 Nat) × (Int × (Int × Unit))))) × Unit))))) (x329 : Nat) (s350 : ((List (Vec 3 Nat)) × Int × (Vec 3 Nat) × Unit)) : Option (((List (Vec 3 Nat)) × Int × (Vec 3 Nat) × Unit) ⊕ (((List (Vec 3 Nat)) × Int × Unit) × Unit)) :=
  bif (iLt s350.2.1 (lenI a0.2.2.2.1)) then
    bif inB s350.2.1 (List.length a0.2.2.2.1) then
      let x352 := List.getD a0.2.2.2.1 s350.2.1.toNat ((0, (0, 0, 0, ()), 0, 0, ()) : (Int × ((Vec 3 Nat) × (Int × (Int × Unit)))))
      run (impl_TrackOf_l10 x352 x329 s350) (s350.1, (0 : Int), s350.2.2.1, ())
    else none
  else
  Option.map Sum.inr (some ((s350.1, (0 : Int), ()), ()))
noncomputable def impl_TrackOf (a0 : (Int × ((Vec 3 Nat) × ((List (Vec 3 Nat)) × ((List (Int × ((Vec 3 Nat) × (Int × (Int × Unit))))) × Unit))))) : Option (((List (Vec 3 Nat)) × Int × Unit) × Unit) :=
  (impl_ValidMission a0).bind fun y326 =>
  bif (! y326.1.1) then some ((([] : (List (Vec 3 Nat))), (1 : Int), ()), ()) else
  let x329 := fDiv .f32 1065353216 (fOfInt .f32 a0.1)
  run (impl_TrackOf_l7 a0 x329) (([a0.2.1] : (List (Vec 3 Nat))), (0 : Int), a0.2.1, ())
noncomputable def impl_TrackOf_en : Entry := ⟨⟨[.v (.pair (.int .i64) (.pair (.arr 3 (.flt .f32)) (.pair (.list (.arr 3 (.flt .f32))) (.pair (.list (.pair (.int .i64) (.pair (.arr 3 (.flt .f32)) (.pair (.int .i64) (.pair (.int .i64) (.unit)))))) (.unit)))))], [.v (.rows (.arr 3 (.flt .f32))), .v (.val (.int .i64))], false⟩, fun x => impl_TrackOf x.1⟩
theorem impl_TrackOf_so : Sound Tryz.prog G 15 impl_TrackOf_en := so_of (envS (l := [(12, impl_ValidMission_en), (50, impl_IsFiniteVec_en), (56, impl_AddVec_en), (57, impl_ScaleVec_en)]) ⟨(impl_ValidMission_so), (impl_IsFiniteVec_so), (impl_AddVec_so), (impl_ScaleVec_so), trivial⟩) [(7, .vary [(6, .rows (.arr 3 (.flt .f32))), (23, .sc (.int .i64)), (5, .box (.val (.arr 3 (.flt .f32))))]), (10, .vary [(6, .rows (.arr 3 (.flt .f32))), (29, .sc (.int .i64)), (5, .box (.val (.arr 3 (.flt .f32))))])] Tryz.func15 (by kernel_rfl) rfl fun _ => by kernel_rfl

-- loop.example/g01204/laws.a2At
noncomputable def laws_a2At (a0 : (List Int)) (a1 : Int) (a2 : Int) : Option ((Int × Unit) × Unit) :=
  bif (iLe (lenI a0) a1) then some (((0 : Int), ()), ()) else
  bif (iLt a2 1) then some (((0 : Int), ()), ()) else
  bif inB a1 (List.length a0) then
    bif iEq a2 0 then none else
    some (((iRem .i64 (iWrap .i64 (List.getD a0 a1.toNat (0 : Int))) a2), ()), ())
  else none
noncomputable def laws_a2At_en : Entry := ⟨⟨[.v (.list (.int .u8)), .v (.int .i64), .v (.int .i64)], [.v (.val (.int .i64))], false⟩, fun x => laws_a2At x.1 x.2.1 x.2.2.1⟩
theorem laws_a2At_so : Sound Tryz.prog G 8 laws_a2At_en := so_of (envS (l := []) trivial) [] Tryz.func8 (by kernel_rfl) rfl fun _ => by kernel_rfl

-- loop.example/g01204/laws.a2Long
noncomputable def laws_a2Long (a0 : (List Int)) (a1 : (List Int)) : Option ((Bool × Unit) × Unit) :=
  bif (iLt 3000 (lenI a0)) then some ((true, ()), ()) else
  some (((iLt 3000 (lenI a1)), ()), ())
noncomputable def laws_a2Long_en : Entry := ⟨⟨[.v (.list (.int .u8)), .v (.list (.int .u8))], [.v (.val (.bool))], false⟩, fun x => laws_a2Long x.1 x.2.1⟩
theorem laws_a2Long_so : Sound Tryz.prog G 6 laws_a2Long_en := so_of (envS (l := []) trivial) [] Tryz.func6 (by kernel_rfl) rfl fun _ => by kernel_rfl

-- (*loop.example/g01204/spec.l00Src).next
noncomputable def spec_l00Src_next (a0 : ((List Int) × (Int × (Int × Unit)))) : Option ((Int × Unit) × (((List Int) × (Int × (Int × Unit))) × Unit)) :=
  bif (iLt a0.2.1 (lenI a0.1)) then
    bif inB a0.2.1 (List.length a0.1) then
      let x450 := iWrap .i64 (List.getD a0.1 a0.2.1.toNat (0 : Int))
      let x451 := iAdd .i64 a0.2.1 1
      let x455 := iAdd .u64 (iAdd .u64 (iMul .u64 a0.2.2.1 6364136223846793005) (iWrap .u64 x450)) 1442695040888963407
      bif (iLe x451 (lenI a0.1)) then some ((x450, ()), (((a0.1, x451, x455, a0.2.2.2) : ((List Int) × (Int × (Int × Unit)))), ())) else
      some (((iWrap .i64 (iAnd .u64 (iShr .u64 x455 40) 255)), ()), (((a0.1, x451, x455, a0.2.2.2) : ((List Int) × (Int × (Int × Unit)))), ()))
    else none
  else
  let x460 := iAdd .i64 a0.2.1 1
  let x463 := iAdd .u64 (iAdd .u64 (iMul .u64 a0.2.2.1 6364136223846793005) 0) 1442695040888963407
  bif (iLe x460 (lenI a0.1)) then some (((0 : Int), ()), (((a0.1, x460, x463, a0.2.2.2) : ((List Int) × (Int × (Int × Unit)))), ())) else
  some (((iWrap .i64 (iAnd .u64 (iShr .u64 x463 40) 255)), ()), (((a0.1, x460, x463, a0.2.2.2) : ((List Int) × (Int × (Int × Unit)))), ()))
noncomputable def spec_l00Src_next_en : Entry := ⟨⟨[.io (.val (.pair (.list (.int .u8)) (.pair (.int .i64) (.pair (.int .u64) (.unit)))))], [.v (.val (.int .i64))], true⟩, fun x => spec_l00Src_next x.1⟩
theorem spec_l00Src_next_so : Sound Tryz.prog G 111 spec_l00Src_next_en := so_of (envS (l := []) trivial) [] Tryz.func111 (by kernel_rfl) rfl fun _ => by kernel_rfl

-- (*loop.example/g01204/spec.l00Src).pick
noncomputable def spec_l00Src_pick (a0 : ((List Int) × (Int × (Int × Unit)))) (a1 : Int) : Option ((Int × Unit) × (((List Int) × (Int × (Int × Unit))) × Unit)) :=
  bif (iLe a1 1) then some (((0 : Int), ()), (a0, ())) else
  (spec_l00Src_next a0).bind fun y441 =>
  bif (iLt 200 a1) then
    (spec_l00Src_next y441.2.1).bind fun y444 =>
    bif iEq a1 0 then none else
    some (((iRem .i64 (iAdd .i64 (iMul .i64 y441.1.1 256) y444.1.1) a1), ()), (y444.2.1, ()))
  else
  bif iEq a1 0 then none else
  some (((iRem .i64 y441.1.1 a1), ()), (y441.2.1, ()))
noncomputable def spec_l00Src_pick_en : Entry := ⟨⟨[.io (.val (.pair (.list (.int .u8)) (.pair (.int .i64) (.pair (.int .u64) (.unit))))), .v (.int .i64)], [.v (.val (.int .i64))], true⟩, fun x => spec_l00Src_pick x.1 x.2.1⟩
theorem spec_l00Src_pick_so : Sound Tryz.prog G 41 spec_l00Src_pick_en := so_of (envS (l := [(111, spec_l00Src_next_en)]) ⟨(spec_l00Src_next_so), trivial⟩) [] Tryz.func41 (by kernel_rfl) rfl fun _ => by kernel_rfl

-- (*loop.example/g01204/spec.l00Src).one
noncomputable def spec_l00Src_one (a0 : ((List Int) × (Int × (Int × Unit)))) (a1 : Int) : Option ((Bool × Unit) × (((List Int) × (Int × (Int × Unit))) × Unit)) :=
  (spec_l00Src_pick a0 a1).bind fun y438 =>
  some (((iEq y438.1.1 0), ()), (y438.2.1, ()))
noncomputable def spec_l00Src_one_en : Entry := ⟨⟨[.io (.val (.pair (.list (.int .u8)) (.pair (.int .i64) (.pair (.int .u64) (.unit))))), .v (.int .i64)], [.v (.val (.bool))], true⟩, fun x => spec_l00Src_one x.1 x.2.1⟩
theorem spec_l00Src_one_so : Sound Tryz.prog G 43 spec_l00Src_one_en := so_of (envS (l := [(41, spec_l00Src_pick_en)]) ⟨(spec_l00Src_pick_so), trivial⟩) [] Tryz.func43 (by kernel_rfl) rfl fun _ => by kernel_rfl

-- loop.example/g01204/spec.Decimal
noncomputable def spec_Decimal_r (rec_ : Int → Option ((List UInt8 × Unit) × Unit)) (a0 : Int) : Option ((List UInt8 × Unit) × Unit) :=
  bif (iLe 10 a0) then
    (rec_ (iQuo .i64 a0 10)).bind fun y470 =>
    let x474 := ofBytes ([(iWrap .u8 (iAdd .i64 48 (iRem .i64 a0 10)))])
    bif strRoom y470.1.1 x474 then
      some (((strCat y470.1.1 x474), ()), ())
    else none
  else
  some (((ofBytes ([(iWrap .u8 (iAdd .i64 48 a0))])), ()), ())
noncomputable def spec_Decimal_n : Nat → Int → Option ((List UInt8 × Unit) × Unit)
  | 0 => fun _ => none
  | k + 1 => spec_Decimal_r (spec_Decimal_n k)
noncomputable def spec_Decimal : Int → Option ((List UInt8 × Unit) × Unit) := spec_Decimal_n 64
noncomputable def spec_Decimal_sg : Sig := ⟨[.v (.int .i64)], [.v (.val (.str))], false⟩
noncomputable def spec_Decimal_en : Entry := ⟨spec_Decimal_sg, fun x => spec_Decimal x.1⟩
theorem spec_Decimal_eq (rec_ : Int → Option ((List UInt8 × Unit) × Unit)) {G : List (Nat × Obj)} (x : spec_Decimal_sg.dom) : body (env G [(10, ⟨spec_Decimal_sg, fun x => rec_ x.1⟩)]) [] Tryz.f10 spec_Decimal_sg x = spec_Decimal_r rec_ x.1 := by kernel_rfl
theorem spec_Decimal_so : Sound Tryz.prog G 10 spec_Decimal_en := by
  have h : ∀ k, Sound Tryz.prog G 10 ⟨spec_Decimal_sg, fun x => spec_Decimal_n k x.1⟩ := by
    intro k
    induction k with
    | zero => exact ⟨rfl, fun _ _ _ _ _ _ _ _ _ _ _ h => by cases h⟩
    | succ k ih => exact sound_of_body (envS (l := [(10, ⟨spec_Decimal_sg, fun x => spec_Decimal_n k x.1⟩)]) (⟨ih, trivial⟩)) Tryz.func10 (by kernel_rfl) rfl (fun x y h => (spec_Decimal_eq (spec_Decimal_n k) (G := G) x).trans h)
  exact h 64

-- loop.example/g01204/spec.l00From
noncomputable def spec_l00From (a0 : (List Int)) : Option ((((List Int) × (Int × (Int × Unit))) × Unit) × Unit) :=
  some ((((a0, 0, 0, ()) : ((List Int) × (Int × (Int × Unit)))), ()), ())
noncomputable def spec_l00From_en : Entry := ⟨⟨[.v (.list (.int .u8))], [.p (.val (.pair (.list (.int .u8)) (.pair (.int .i64) (.pair (.int .u64) (.unit)))))], true⟩, fun x => spec_l00From x.1⟩
theorem spec_l00From_so : Sound Tryz.prog G 40 spec_l00From_en := so_of (envS (l := []) trivial) [] Tryz.func40 (by kernel_rfl) rfl fun _ => by kernel_rfl

-- (*loop.example/g01204/spec.l00Src).text
noncomputable def spec_l00Src_text (a0 : ((List Int) × (Int × (Int × Unit)))) (a1 : (List (List UInt8))) : Option ((List UInt8 × Unit) × (((List Int) × (Int × (Int × Unit))) × Unit)) :=
  (spec_l00Src_pick a0 (lenI a1)).bind fun y480 =>
  bif inB y480.1.1 (List.length a1) then
    some (((List.getD a1 y480.1.1.toNat ([] : List UInt8)), ()), (y480.2.1, ()))
  else none
noncomputable def spec_l00Src_text_en : Entry := ⟨⟨[.io (.val (.pair (.list (.int .u8)) (.pair (.int .i64) (.pair (.int .u64) (.unit))))), .v (.list (.str))], [.v (.val (.str))], true⟩, fun x => spec_l00Src_text x.1 x.2.1⟩
theorem spec_l00Src_text_so : Sound Tryz.prog G 112 spec_l00Src_text_en := so_of (envS (l := [(41, spec_l00Src_pick_en)]) ⟨(spec_l00Src_pick_so), trivial⟩) [] Tryz.func112 (by kernel_rfl) rfl fun _ => by kernel_rfl

-- loop.example/g01204/spec.l08Number
noncomputable def spec_l08Number (a0 : ((List Int) × (Int × (Int × Unit)))) : Option ((List UInt8 × Unit) × (((List Int) × (Int × (Int × Unit))) × Unit)) :=
  (spec_l00Src_text a0 ([[48], [49], [45, 49], [49, 47, 50], [50], [45, 51, 47, 52], [48], [52], [49, 47, 56]] : (List (List UInt8)))).bind fun y479 =>
  some ((y479.1.1, ()), (y479.2.1, ()))
noncomputable def spec_l08Number_en : Entry := ⟨⟨[.io (.val (.pair (.list (.int .u8)) (.pair (.int .i64) (.pair (.int .u64) (.unit)))))], [.v (.val (.str))], true⟩, fun x => spec_l08Number x.1⟩
theorem spec_l08Number_so : Sound Tryz.prog G 42 spec_l08Number_en := so_of (envS (l := [(112, spec_l00Src_text_en)]) ⟨(spec_l00Src_text_so), trivial⟩) [] Tryz.func42 (by kernel_rfl) rfl fun _ => by kernel_rfl

-- loop.example/g01204/spec.A2Legs
noncomputable def spec_A2Legs_l4 (s417 : (List UInt8 × Int × ((List Int) × (Int × (Int × Unit))) × Unit)) : Option ((List UInt8 × Int × ((List Int) × (Int × (Int × Unit))) × Unit) ⊕ ((List UInt8 × Unit) × Unit)) :=
  bif (iLt 0 s417.2.1) then
    (spec_l08Number s417.2.2.1).bind fun y419 =>
    bif strRoom ([109, 111, 118, 101, 32]) y419.1.1 then
      let x420 := strCat ([109, 111, 118, 101, 32]) y419.1.1
      bif strRoom x420 ([32]) then
        let x421 := strCat x420 ([32])
        (spec_l08Number y419.2.1).bind fun y422 =>
        bif strRoom x421 y422.1.1 then
          let x423 := strCat x421 y422.1.1
          bif strRoom x423 ([32]) then
            let x424 := strCat x423 ([32])
            (spec_l08Number y422.2.1).bind fun y425 =>
            bif strRoom x424 y425.1.1 then
              let x426 := strCat x424 y425.1.1
              bif strRoom x426 ([32]) then
                let x427 := strCat x426 ([32])
                (spec_l00Src_pick y425.2.1 (8 : Int)).bind fun y428 =>
                (spec_Decimal (iAdd .i64 1 y428.1.1)).bind fun y430 =>
                bif strRoom x427 y430.1.1 then
                  let x431 := strCat x427 y430.1.1
                  bif strRoom x431 ([10]) then
                    let x432 := strCat x431 ([10])
                    bif strRoom s417.1 x432 then
                      let x433 := strCat s417.1 x432
                      (spec_l00Src_one y428.2.1 (3 : Int)).bind fun y434 =>
                      bif y434.1.1 then
                        bif strRoom x433 ([114, 97, 110, 103, 101, 32, 48, 10]) then
                          some (Sum.inl ((strCat x433 ([114, 97, 110, 103, 101, 32, 48, 10])), (iSub .i64 s417.2.1 1), y434.2.1, ()))
                        else none
                      else
                      some (Sum.inl (x433, (iSub .i64 s417.2.1 1), y434.2.1, ()))
                    else none
                  else none
                else none
              else none
            else none
          else none
        else none
      else none
    else none
  else
  Option.map Sum.inr (some ((s417.1, ()), ()))
noncomputable def spec_A2Legs (a0 : (List Int)) (a1 : Int) : Option ((List UInt8 × Unit) × Unit) :=
  (spec_l00From a0).bind fun y394 =>
  (spec_l00Src_pick y394.1.1 (iAdd .i64 a1 1)).bind fun y396 =>
  run (spec_A2Legs_l4) (([] : List UInt8), y396.1.1, y396.2.1, ())
noncomputable def spec_A2Legs_en : Entry := ⟨⟨[.v (.list (.int .u8)), .v (.int .i64)], [.v (.val (.str))], false⟩, fun x => spec_A2Legs x.1 x.2.1⟩
theorem spec_A2Legs_so : Sound Tryz.prog G 7 spec_A2Legs_en := so_of (envS (l := [(10, spec_Decimal_en), (40, spec_l00From_en), (41, spec_l00Src_pick_en), (42, spec_l08Number_en), (43, spec_l00Src_one_en)]) ⟨(spec_Decimal_so), (spec_l00From_so), (spec_l00Src_pick_so), (spec_l08Number_so), (spec_l00Src_one_so), trivial⟩) [(4, .vary [(6, .sc (.str)), (7, .sc (.int .i64)), (5, .box (.val (.pair (.list (.int .u8)) (.pair (.int .i64) (.pair (.int .u64) (.unit))))))])] Tryz.func7 (by kernel_rfl) rfl fun _ => by kernel_rfl

-- loop.example/g01204/spec.l01Same
noncomputable def spec_l01Same (a0 : Nat) (a1 : Nat) : Option ((Bool × Unit) × Unit) :=
  bif (! (fEq .f32 a0 a0)) then
    bif (! (fEq .f32 a0 a0)) then
      some (((! (fEq .f32 a1 a1)), ()), ())
    else some ((false, ()), ())
  else
  bif (! (fEq .f32 a1 a1)) then
    bif (! (fEq .f32 a0 a0)) then
      some (((! (fEq .f32 a1 a1)), ()), ())
    else some ((false, ()), ())
  else
  allSame fun (q513 : Nat) =>
  allSame fun (q515 : Nat) =>
  some (((iEq (bitsF .f32 a0 q513) (bitsF .f32 a1 q515)), ()), ())
noncomputable def spec_l01Same_en : Entry := ⟨⟨[.v (.flt .f32), .v (.flt .f32)], [.v (.val (.bool))], false⟩, fun x => spec_l01Same x.1 x.2.1⟩
theorem spec_l01Same_so : Sound Tryz.prog G 116 spec_l01Same_en := so_of (envS (l := []) trivial) [] Tryz.func116 (by kernel_rfl) rfl fun _ => by kernel_rfl

-- loop.example/g01204/spec.l01SameVec
noncomputable def spec_l01SameVec (a0 : (Vec 3 Nat)) (a1 : (Vec 3 Nat)) : Option ((Bool × Unit) × Unit) :=
  (spec_l01Same (Vec.getD 3 a0 0 (0 : Nat)) (Vec.getD 3 a1 0 (0 : Nat))).bind fun y500 =>
  bif y500.1.1 then
    (spec_l01Same (Vec.getD 3 a0 1 (0 : Nat)) (Vec.getD 3 a1 1 (0 : Nat))).bind fun y503 =>
    bif y503.1.1 then
      (spec_l01Same (Vec.getD 3 a0 2 (0 : Nat)) (Vec.getD 3 a1 2 (0 : Nat))).bind fun y506 =>
      some ((y506.1.1, ()), ())
    else some ((false, ()), ())
  else some ((false, ()), ())
noncomputable def spec_l01SameVec_en : Entry := ⟨⟨[.v (.arr 3 (.flt .f32)), .v (.arr 3 (.flt .f32))], [.v (.val (.bool))], false⟩, fun x => spec_l01SameVec x.1 x.2.1⟩
theorem spec_l01SameVec_so : Sound Tryz.prog G 46 spec_l01SameVec_en := so_of (envS (l := [(116, spec_l01Same_en)]) ⟨(spec_l01Same_so), trivial⟩) [] Tryz.func46 (by kernel_rfl) rfl fun _ => by kernel_rfl

-- loop.example/g01204/spec.l08SameVecs
noncomputable def spec_l08SameVecs_l4 (a0 : (List (Vec 3 Nat))) (a1 : (List (Vec 3 Nat))) (s519 : (Int × Unit)) : Option ((Int × Unit) ⊕ ((Bool × Unit) × Unit)) :=
  bif (iLt s519.1 (lenI a0)) then
    bif inB s519.1 (List.length a0) then
      bif inB s519.1 (List.length a1) then
        (spec_l01SameVec (List.getD a0 s519.1.toNat ((0, 0, 0, ()) : (Vec 3 Nat))) (List.getD a1 s519.1.toNat ((0, 0, 0, ()) : (Vec 3 Nat)))).bind fun y523 =>
        bif (! y523.1.1) then
          Option.map Sum.inr (some ((false, ()), ()))
        else
        some (Sum.inl ((iAdd .i64 s519.1 1), ()))
      else none
    else none
  else
  Option.map Sum.inr (some ((true, ()), ()))
noncomputable def spec_l08SameVecs (a0 : (List (Vec 3 Nat))) (a1 : (List (Vec 3 Nat))) : Option ((Bool × Unit) × Unit) :=
  bif (! (iEq (lenI a0) (lenI a1))) then some ((false, ()), ()) else run (spec_l08SameVecs_l4 a0 a1) ((0 : Int), ())
noncomputable def spec_l08SameVecs_en : Entry := ⟨⟨[.v (.list (.arr 3 (.flt .f32))), .v (.list (.arr 3 (.flt .f32)))], [.v (.val (.bool))], false⟩, fun x => spec_l08SameVecs x.1 x.2.1⟩
theorem spec_l08SameVecs_so : Sound Tryz.prog G 47 spec_l08SameVecs_en := so_of (envS (l := [(46, spec_l01SameVec_en)]) ⟨(spec_l01SameVec_so), trivial⟩) [(4, .vary [(5, .sc (.int .i64))])] Tryz.func47 (by kernel_rfl) rfl fun _ => by kernel_rfl

-- loop.example/g01204/spec.SameMission
noncomputable def spec_SameMission_l4 (a0 : (Int × ((Vec 3 Nat) × ((List (Vec 3 Nat)) × ((List (Int × ((Vec 3 Nat) × (Int × (Int × Unit))))) × Unit))))) (a1 : (Int × ((Vec 3 Nat) × ((List (Vec 3 Nat)) × ((List (Int × ((Vec 3 Nat) × (Int × (Int × Unit))))) × Unit))))) (s488 : (Int × Unit)) : Option ((Int × Unit) ⊕ ((Bool × Unit) × Unit)) :=
  bif (iLt s488.1 (lenI a0.2.2.2.1)) then
    bif inB s488.1 (List.length a0.2.2.2.1) then
      let x490 := List.getD a0.2.2.2.1 s488.1.toNat ((0, (0, 0, 0, ()), 0, 0, ()) : (Int × ((Vec 3 Nat) × (Int × (Int × Unit)))))
      bif inB s488.1 (List.length a1.2.2.2.1) then
        let x491 := List.getD a1.2.2.2.1 s488.1.toNat ((0, (0, 0, 0, ()), 0, 0, ()) : (Int × ((Vec 3 Nat) × (Int × (Int × Unit)))))
        bif (! (iEq x490.1 x491.1)) then
          Option.map Sum.inr (some ((false, ()), ()))
        else
        (spec_l01SameVec x490.2.1 x491.2.1).bind fun y493 =>
        bif (! y493.1.1) then
          Option.map Sum.inr (some ((false, ()), ()))
        else
        bif (! (iEq x490.2.2.1 x491.2.2.1)) then
          Option.map Sum.inr (some ((false, ()), ()))
        else
        bif (! (iEq x490.2.2.2.1 x491.2.2.2.1)) then
          Option.map Sum.inr (some ((false, ()), ()))
        else
        some (Sum.inl ((iAdd .i64 s488.1 1), ()))
      else none
    else none
  else
  Option.map Sum.inr (some ((true, ()), ()))
noncomputable def spec_SameMission (a0 : (Int × ((Vec 3 Nat) × ((List (Vec 3 Nat)) × ((List (Int × ((Vec 3 Nat) × (Int × (Int × Unit))))) × Unit))))) (a1 : (Int × ((Vec 3 Nat) × ((List (Vec 3 Nat)) × ((List (Int × ((Vec 3 Nat) × (Int × (Int × Unit))))) × Unit))))) : Option ((Bool × Unit) × Unit) :=
  bif (! (iEq a0.1 a1.1)) then some ((false, ()), ()) else
  (spec_l01SameVec a0.2.1 a1.2.1).bind fun y483 =>
  bif (! y483.1.1) then some ((false, ()), ()) else
  (spec_l08SameVecs a0.2.2.1 a1.2.2.1).bind fun y485 =>
  bif (! y485.1.1) then some ((false, ()), ()) else
  bif (! (iEq (lenI a0.2.2.2.1) (lenI a1.2.2.2.1))) then some ((false, ()), ()) else run (spec_SameMission_l4 a0 a1) ((0 : Int), ())
noncomputable def spec_SameMission_en : Entry := ⟨⟨[.v (.pair (.int .i64) (.pair (.arr 3 (.flt .f32)) (.pair (.list (.arr 3 (.flt .f32))) (.pair (.list (.pair (.int .i64) (.pair (.arr 3 (.flt .f32)) (.pair (.int .i64) (.pair (.int .i64) (.unit)))))) (.unit))))), .v (.pair (.int .i64) (.pair (.arr 3 (.flt .f32)) (.pair (.list (.arr 3 (.flt .f32))) (.pair (.list (.pair (.int .i64) (.pair (.arr 3 (.flt .f32)) (.pair (.int .i64) (.pair (.int .i64) (.unit)))))) (.unit)))))], [.v (.val (.bool))], false⟩, fun x => spec_SameMission x.1 x.2.1⟩
theorem spec_SameMission_so : Sound Tryz.prog G 11 spec_SameMission_en := so_of (envS (l := [(46, spec_l01SameVec_en), (47, spec_l08SameVecs_en)]) ⟨(spec_l01SameVec_so), (spec_l08SameVecs_so), trivial⟩) [(4, .vary [(5, .sc (.int .i64))])] Tryz.func11 (by kernel_rfl) rfl fun _ => by kernel_rfl

-- loop.example/g01204/spec.SameVecs
noncomputable def spec_SameVecs (a0 : (List (Vec 3 Nat))) (a1 : (List (Vec 3 Nat))) : Option ((Bool × Unit) × Unit) :=
  (spec_l08SameVecs a0 a1).bind fun y526 =>
  some ((y526.1.1, ()), ())
noncomputable def spec_SameVecs_en : Entry := ⟨⟨[.v (.list (.arr 3 (.flt .f32))), .v (.list (.arr 3 (.flt .f32)))], [.v (.val (.bool))], false⟩, fun x => spec_SameVecs x.1 x.2.1⟩
theorem spec_SameVecs_so : Sound Tryz.prog G 17 spec_SameVecs_en := so_of (envS (l := [(47, spec_l08SameVecs_en)]) ⟨(spec_l08SameVecs_so), trivial⟩) [] Tryz.func17 (by kernel_rfl) rfl fun _ => by kernel_rfl

-- loop.example/g01204/spec.l00In
noncomputable def spec_l00In (a0 : Int) (a1 : Int) (a2 : Int) : Option ((Bool × Unit) × Unit) :=
  bif (iLe a1 a0) then
    some (((iLe a0 a2), ()), ())
  else some ((false, ()), ())
noncomputable def spec_l00In_en : Entry := ⟨⟨[.v (.int .i64), .v (.int .i64), .v (.int .i64)], [.v (.val (.bool))], false⟩, fun x => spec_l00In x.1 x.2.1 x.2.2.1⟩
theorem spec_l00In_so : Sound Tryz.prog G 120 spec_l00In_en := so_of (envS (l := []) trivial) [] Tryz.func120 (by kernel_rfl) rfl fun _ => by kernel_rfl

-- loop.example/g01204/spec.l01Finite
noncomputable def spec_l01Finite (a0 : Nat) : Option ((Bool × Unit) × Unit) :=
  some (((fEq .f32 (fSub .f32 a0 a0) 0), ()), ())
noncomputable def spec_l01Finite_en : Entry := ⟨⟨[.v (.flt .f32)], [.v (.val (.bool))], false⟩, fun x => spec_l01Finite x.1⟩
theorem spec_l01Finite_so : Sound Tryz.prog G 103 spec_l01Finite_en := so_of (envS (l := []) trivial) [] Tryz.func103 (by kernel_rfl) rfl fun _ => by kernel_rfl

-- loop.example/g01204/spec.l01Vec
noncomputable def spec_l01Vec (a0 : (Vec 3 Nat)) : Option ((Bool × Unit) × Unit) :=
  (spec_l01Finite (Vec.getD 3 a0 0 (0 : Nat))).bind fun y555 =>
  bif y555.1.1 then
    (spec_l01Finite (Vec.getD 3 a0 1 (0 : Nat))).bind fun y557 =>
    bif y557.1.1 then
      (spec_l01Finite (Vec.getD 3 a0 2 (0 : Nat))).bind fun y559 =>
      some ((y559.1.1, ()), ())
    else some ((false, ()), ())
  else some ((false, ()), ())
noncomputable def spec_l01Vec_en : Entry := ⟨⟨[.v (.arr 3 (.flt .f32))], [.v (.val (.bool))], false⟩, fun x => spec_l01Vec x.1⟩
theorem spec_l01Vec_so : Sound Tryz.prog G 121 spec_l01Vec_en := so_of (envS (l := [(103, spec_l01Finite_en)]) ⟨(spec_l01Finite_so), trivial⟩) [] Tryz.func121 (by kernel_rfl) rfl fun _ => by kernel_rfl

-- loop.example/g01204/spec.l08Frame
noncomputable def spec_l08Frame_l4 (a2 : (List (Vec 3 Nat))) (s567 : (Int × Unit)) : Option ((Int × Unit) ⊕ ((Bool × Unit) × Unit)) :=
  bif (iLt s567.1 (lenI a2)) then
    bif inB s567.1 (List.length a2) then
      (spec_l01Vec (List.getD a2 s567.1.toNat ((0, 0, 0, ()) : (Vec 3 Nat)))).bind fun y570 =>
      bif (! y570.1.1) then
        Option.map Sum.inr (some ((false, ()), ()))
      else
      some (Sum.inl ((iAdd .i64 s567.1 1), ()))
    else none
  else
  Option.map Sum.inr (some ((true, ()), ()))
noncomputable def spec_l08Frame (a0 : Int) (a1 : (Vec 3 Nat)) (a2 : (List (Vec 3 Nat))) : Option ((Bool × Unit) × Unit) :=
  (spec_l00In a0 (1 : Int) (64 : Int)).bind fun y562 =>
  bif (! y562.1.1) then some ((false, ()), ()) else
  (spec_l01Vec a1).bind fun y564 =>
  bif (! y564.1.1) then some ((false, ()), ()) else
  bif (iLt 6 (lenI a2)) then some ((false, ()), ()) else run (spec_l08Frame_l4 a2) ((0 : Int), ())
noncomputable def spec_l08Frame_en : Entry := ⟨⟨[.v (.int .i64), .v (.arr 3 (.flt .f32)), .v (.list (.arr 3 (.flt .f32)))], [.v (.val (.bool))], false⟩, fun x => spec_l08Frame x.1 x.2.1 x.2.2.1⟩
theorem spec_l08Frame_so : Sound Tryz.prog G 119 spec_l08Frame_en := so_of (envS (l := [(120, spec_l00In_en), (121, spec_l01Vec_en)]) ⟨(spec_l00In_so), (spec_l01Vec_so), trivial⟩) [(4, .vary [(7, .sc (.int .i64))])] Tryz.func119 (by kernel_rfl) rfl fun _ => by kernel_rfl

-- loop.example/g01204/spec.l08Ok
noncomputable def spec_l08Ok_l5 (a0 : (Int × ((Vec 3 Nat) × ((List (Vec 3 Nat)) × ((List (Int × ((Vec 3 Nat) × (Int × (Int × Unit))))) × Unit))))) (s533 : (Int × Int × Unit)) : Option ((Int × Int × Unit) ⊕ ((Bool × Unit) × Unit)) :=
  bif (iLt s533.2.1 (lenI a0.2.2.2.1)) then
    bif inB s533.2.1 (List.length a0.2.2.2.1) then
      (spec_l00In ((List.getD a0.2.2.2.1 s533.2.1.toNat ((0, (0, 0, 0, ()), 0, 0, ()) : (Int × ((Vec 3 Nat) × (Int × (Int × Unit)))))).1) (1 : Int) (400 : Int)).bind fun y536 =>
      bif (! y536.1.1) then
        Option.map Sum.inr (some ((false, ()), ()))
      else
      (spec_l01Vec (((List.getD a0.2.2.2.1 s533.2.1.toNat ((0, (0, 0, 0, ()), 0, 0, ()) : (Int × ((Vec 3 Nat) × (Int × (Int × Unit)))))).2).1)).bind fun y539 =>
      bif (! y539.1.1) then
        Option.map Sum.inr (some ((false, ()), ()))
      else
      (spec_l00In ((((List.getD a0.2.2.2.1 s533.2.1.toNat ((0, (0, 0, 0, ()), 0, 0, ()) : (Int × ((Vec 3 Nat) × (Int × (Int × Unit)))))).2).2).1) (0 : Int) (400 : Int)).bind fun y542 =>
      bif (! y542.1.1) then
        Option.map Sum.inr (some ((false, ()), ()))
      else
      (spec_l00In (((((List.getD a0.2.2.2.1 s533.2.1.toNat ((0, (0, 0, 0, ()), 0, 0, ()) : (Int × ((Vec 3 Nat) × (Int × (Int × Unit)))))).2).2).2).1) ((-1 : Int) : Int) (iSub .i64 (lenI a0.2.2.1) 1)).bind fun y546 =>
      bif (! y546.1.1) then
        Option.map Sum.inr (some ((false, ()), ()))
      else
      some (Sum.inl ((iAdd .i64 s533.1 ((List.getD a0.2.2.2.1 s533.2.1.toNat ((0, (0, 0, 0, ()), 0, 0, ()) : (Int × ((Vec 3 Nat) × (Int × (Int × Unit)))))).1)), (iAdd .i64 s533.2.1 1), ()))
    else none
  else
  Option.map Sum.inr (some (((iLe s533.1 400), ()), ()))
noncomputable def spec_l08Ok (a0 : (Int × ((Vec 3 Nat) × ((List (Vec 3 Nat)) × ((List (Int × ((Vec 3 Nat) × (Int × (Int × Unit))))) × Unit))))) : Option ((Bool × Unit) × Unit) :=
  (spec_l08Frame a0.1 a0.2.1 a0.2.2.1).bind fun y530 =>
  bif (! y530.1.1) then some ((false, ()), ()) else
  bif (iLt 64 (lenI a0.2.2.2.1)) then some ((false, ()), ()) else run (spec_l08Ok_l5 a0) ((0 : Int), (0 : Int), ())
noncomputable def spec_l08Ok_en : Entry := ⟨⟨[.ro (.pair (.int .i64) (.pair (.arr 3 (.flt .f32)) (.pair (.list (.arr 3 (.flt .f32))) (.pair (.list (.pair (.int .i64) (.pair (.arr 3 (.flt .f32)) (.pair (.int .i64) (.pair (.int .i64) (.unit)))))) (.unit)))))], [.v (.val (.bool))], false⟩, fun x => spec_l08Ok x.1⟩
theorem spec_l08Ok_so : Sound Tryz.prog G 58 spec_l08Ok_en := so_of (envS (l := [(119, spec_l08Frame_en), (120, spec_l00In_en), (121, spec_l01Vec_en)]) ⟨(spec_l08Frame_so), (spec_l00In_so), (spec_l01Vec_so), trivial⟩) [(5, .vary [(3, .sc (.int .i64)), (4, .sc (.int .i64))])] Tryz.func58 (by kernel_rfl) rfl fun _ => by kernel_rfl

-- loop.example/g01204/spec.AddVec
noncomputable def spec_AddVec (a0 : (Vec 3 Nat)) (a1 : (Vec 3 Nat)) : Option (((Vec 3 Nat) × Unit) × Unit) :=
  some (((((fAdd .f32 (Vec.getD 3 a0 0 (0 : Nat)) (Vec.getD 3 a1 0 (0 : Nat))), (fAdd .f32 (Vec.getD 3 a0 1 (0 : Nat)) (Vec.getD 3 a1 1 (0 : Nat))), (fAdd .f32 (Vec.getD 3 a0 2 (0 : Nat)) (Vec.getD 3 a1 2 (0 : Nat))), ()) : (Vec 3 Nat)), ()), ())
noncomputable def spec_AddVec_en : Entry := ⟨⟨[.v (.arr 3 (.flt .f32)), .v (.arr 3 (.flt .f32))], [.v (.val (.arr 3 (.flt .f32)))], false⟩, fun x => spec_AddVec x.1 x.2.1⟩
theorem spec_AddVec_so : Sound Tryz.prog G 123 spec_AddVec_en := so_of (envS (l := []) trivial) [] Tryz.func123 (by kernel_rfl) rfl fun _ => by kernel_rfl

-- loop.example/g01204/spec.ScaleVec
noncomputable def spec_ScaleVec (a0 : (Vec 3 Nat)) (a1 : Nat) : Option (((Vec 3 Nat) × Unit) × Unit) :=
  some (((((fMul .f32 (Vec.getD 3 a0 0 (0 : Nat)) a1), (fMul .f32 (Vec.getD 3 a0 1 (0 : Nat)) a1), (fMul .f32 (Vec.getD 3 a0 2 (0 : Nat)) a1), ()) : (Vec 3 Nat)), ()), ())
noncomputable def spec_ScaleVec_en : Entry := ⟨⟨[.v (.arr 3 (.flt .f32)), .v (.flt .f32)], [.v (.val (.arr 3 (.flt .f32)))], false⟩, fun x => spec_ScaleVec x.1 x.2.1⟩
theorem spec_ScaleVec_so : Sound Tryz.prog G 122 spec_ScaleVec_en := so_of (envS (l := []) trivial) [] Tryz.func122 (by kernel_rfl) rfl fun _ => by kernel_rfl

-- loop.example/g01204/spec.l08Track
noncomputable def spec_l08Track_l8 (s596 : ((List (Vec 3 Nat)) × Int × (Vec 3 Nat) × Unit)) (a0 : (Int × ((Vec 3 Nat) × ((List (Vec 3 Nat)) × ((List (Int × ((Vec 3 Nat) × (Int × (Int × Unit))))) × Unit))))) (y601 : (((Vec 3 Nat) × Unit) × Unit)) (s610 : ((List (Vec 3 Nat)) × Int × (Vec 3 Nat) × Unit)) : Option (((List (Vec 3 Nat)) × Int × (Vec 3 Nat) × Unit) ⊕ (((List (Vec 3 Nat)) × Int × (Vec 3 Nat) × Unit) ⊕ (((List (Vec 3 Nat)) × Int × Unit) × Unit))) :=
  bif inB s596.2.1 (List.length a0.2.2.2.1) then
    bif (iLt s610.2.1 ((List.getD a0.2.2.2.1 s596.2.1.toNat ((0, (0, 0, 0, ()), 0, 0, ()) : (Int × ((Vec 3 Nat) × (Int × (Int × Unit)))))).1)) then
      (spec_AddVec s610.2.2.1 y601.1.1).bind fun y613 =>
      (spec_l01Vec y613.1.1).bind fun y614 =>
      bif (! y614.1.1) then
        Option.map Sum.inr (Option.map Sum.inr (some ((([] : (List (Vec 3 Nat))), (4 : Int), ()), ())))
      else
      bif room (List.length s610.1 + 1) 12 then
        some (Sum.inl ((s610.1 ++ ([y613.1.1] : (List (Vec 3 Nat)))), (iAdd .i64 s610.2.1 1), y613.1.1, ()))
      else none
    else
    Option.map Sum.inr (some (Sum.inl (s610.1, (iAdd .i64 s596.2.1 1), s610.2.2.1, ())))
  else none
noncomputable def spec_l08Track_l4 (a0 : (Int × ((Vec 3 Nat) × ((List (Vec 3 Nat)) × ((List (Int × ((Vec 3 Nat) × (Int × (Int × Unit))))) × Unit))))) (s596 : ((List (Vec 3 Nat)) × Int × (Vec 3 Nat) × Unit)) : Option (((List (Vec 3 Nat)) × Int × (Vec 3 Nat) × Unit) ⊕ (((List (Vec 3 Nat)) × Int × Unit) × Unit)) :=
  bif (iLt s596.2.1 (lenI a0.2.2.2.1)) then
    bif inB s596.2.1 (List.length a0.2.2.2.1) then
      (spec_ScaleVec (((List.getD a0.2.2.2.1 s596.2.1.toNat ((0, (0, 0, 0, ()), 0, 0, ()) : (Int × ((Vec 3 Nat) × (Int × (Int × Unit)))))).2).1) (fDiv .f32 1065353216 (fOfInt .f32 a0.1))).bind fun y601 =>
      run (spec_l08Track_l8 s596 a0 y601) (s596.1, (0 : Int), s596.2.2.1, ())
    else none
  else
  Option.map Sum.inr (some ((s596.1, (0 : Int), ()), ()))
noncomputable def spec_l08Track (a0 : (Int × ((Vec 3 Nat) × ((List (Vec 3 Nat)) × ((List (Int × ((Vec 3 Nat) × (Int × (Int × Unit))))) × Unit))))) : Option (((List (Vec 3 Nat)) × Int × Unit) × Unit) :=
  run (spec_l08Track_l4 a0) (([a0.2.1] : (List (Vec 3 Nat))), (0 : Int), a0.2.1, ())
noncomputable def spec_l08Track_en : Entry := ⟨⟨[.ro (.pair (.int .i64) (.pair (.arr 3 (.flt .f32)) (.pair (.list (.arr 3 (.flt .f32))) (.pair (.list (.pair (.int .i64) (.pair (.arr 3 (.flt .f32)) (.pair (.int .i64) (.pair (.int .i64) (.unit)))))) (.unit)))))], [.v (.rows (.arr 3 (.flt .f32))), .v (.val (.int .i64))], false⟩, fun x => spec_l08Track x.1⟩
theorem spec_l08Track_so : Sound Tryz.prog G 59 spec_l08Track_en := so_of (envS (l := [(121, spec_l01Vec_en), (122, spec_ScaleVec_en), (123, spec_AddVec_en)]) ⟨(spec_l01Vec_so), (spec_ScaleVec_so), (spec_AddVec_so), trivial⟩) [(4, .vary [(5, .rows (.arr 3 (.flt .f32))), (6, .sc (.int .i64)), (4, .box (.val (.arr 3 (.flt .f32))))]), (8, .vary [(5, .rows (.arr 3 (.flt .f32))), (8, .sc (.int .i64)), (4, .box (.val (.arr 3 (.flt .f32))))])] Tryz.func59 (by kernel_rfl) rfl fun _ => by kernel_rfl

-- loop.example/g01204/spec.TrackOf
noncomputable def spec_TrackOf (a0 : (Int × ((Vec 3 Nat) × ((List (Vec 3 Nat)) × ((List (Int × ((Vec 3 Nat) × (Int × (Int × Unit))))) × Unit))))) : Option (((List (Vec 3 Nat)) × Int × Unit) × Unit) :=
  (spec_l08Ok a0).bind fun y527 =>
  bif (! y527.1.1) then some ((([] : (List (Vec 3 Nat))), (1 : Int), ()), ()) else
  (spec_l08Track a0).bind fun y529 =>
  some ((y529.1.1, y529.1.2.1, ()), ())
noncomputable def spec_TrackOf_en : Entry := ⟨⟨[.v (.pair (.int .i64) (.pair (.arr 3 (.flt .f32)) (.pair (.list (.arr 3 (.flt .f32))) (.pair (.list (.pair (.int .i64) (.pair (.arr 3 (.flt .f32)) (.pair (.int .i64) (.pair (.int .i64) (.unit)))))) (.unit)))))], [.v (.rows (.arr 3 (.flt .f32))), .v (.val (.int .i64))], false⟩, fun x => spec_TrackOf x.1⟩
theorem spec_TrackOf_so : Sound Tryz.prog G 16 spec_TrackOf_en := so_of (envS (l := [(58, spec_l08Ok_en), (59, spec_l08Track_en)]) ⟨(spec_l08Ok_so), (spec_l08Track_so), trivial⟩) [] Tryz.func16 (by kernel_rfl) rfl fun _ => by kernel_rfl

-- loop.example/g01204/laws.FnMissions
noncomputable def laws_FnMissions_l22 (y2 : ((List UInt8 × Unit) × Unit)) (a1 : (List Int)) (s36 : (Int × Int × Unit)) : Option ((Int × Int × Unit) ⊕ ((Bool × Unit) × Unit)) :=
  bif (iLt s36.2.1 (lenI y2.1.1)) then
    bif inB s36.2.1 (List.length y2.1.1) then
      bif (iEq (strAt y2.1.1 s36.2.1) 10) then
        some (Sum.inl ((iAdd .i64 s36.1 1), (iAdd .i64 s36.2.1 1), ()))
      else
      some (Sum.inl (s36.1, (iAdd .i64 s36.2.1 1), ()))
    else none
  else
  Option.map Sum.inr (
    bif strRoom ([98, 101, 97, 99, 111, 110, 32, 49, 32, 50, 32, 51, 10, 102, 105, 120, 32, 51, 10]) y2.1.1 then
      let x43 := strCat ([98, 101, 97, 99, 111, 110, 32, 49, 32, 50, 32, 51, 10, 102, 105, 120, 32, 51, 10]) y2.1.1
      bif strRoom x43 ([119, 104, 97, 116, 32, 105, 115, 32, 116, 104, 105, 115, 10]) then
        let x44 := strCat x43 ([119, 104, 97, 116, 32, 105, 115, 32, 116, 104, 105, 115, 10])
        bif strRoom x44 y2.1.1 then
          (impl_CompileMission (strCat x44 y2.1.1)).bind fun y46 =>
          bif strRoom ([98, 101, 97, 99, 111, 110, 32, 49, 32, 50, 32, 51, 10, 102, 105, 120, 32, 51, 10]) y2.1.1 then
            let x47 := strCat ([98, 101, 97, 99, 111, 110, 32, 49, 32, 50, 32, 51, 10, 102, 105, 120, 32, 51, 10]) y2.1.1
            bif strRoom x47 ([114, 101, 112, 101, 97, 116, 32, 50, 10]) then
              (impl_CompileMission (strCat x47 ([114, 101, 112, 101, 97, 116, 32, 50, 10]))).bind fun y49 =>
              (laws_a2At a1 (1 : Int) (10 : Int)).bind fun y50 =>
              let x52 := iWrap .u64 (iAdd .i64 1 y50.1.1)
              bif iLe 0 x52 then
                let x53 := iShl .i64 1 x52
                (laws_a2At a1 (2 : Int) (256 : Int)).bind fun y54 =>
                (spec_Decimal y54.1.1).bind fun y55 =>
                bif strRoom ([45]) y55.1.1 then
                  let x56 := strCat ([45]) y55.1.1
                  bif strRoom x56 ([47]) then
                    let x57 := strCat x56 ([47])
                    (spec_Decimal x53).bind fun y58 =>
                    bif strRoom x57 y58.1.1 then
                      (impl_ReadFraction (strCat x57 y58.1.1)).bind fun y60 =>
                      bif (iEq y46.1.2.2.1 5) then
                        bif (iEq y46.1.2.1 (iAdd .i64 2 s36.1)) then
                          bif (iEq y49.1.2.2.1 4) then
                            bif (iEq y49.1.2.1 (iAdd .i64 3 s36.1)) then
                              bif (iEq y60.1.2.1 0) then
                                some (((fEq .f32 (fMul .f32 y60.1.1 (fOfInt .f32 x53)) (fNeg .f32 (fOfInt .f32 y54.1.1))), ()), ())
                              else some ((false, ()), ())
                            else some ((false, ()), ())
                          else some ((false, ()), ())
                        else some ((false, ()), ())
                      else some ((false, ()), ())
                    else none
                  else none
                else none
              else none
            else none
          else none
        else none
      else none
    else none)
noncomputable def laws_FnMissions_l8 (x4 : Int) (y2 : ((List UInt8 × Unit) × Unit)) (a1 : (List Int)) (s5 : (List UInt8 × Int × Unit)) : Option ((List UInt8 × Int × Unit) ⊕ ((Bool × Unit) × Unit)) :=
  bif (iLt s5.2.1 x4) then
    bif strRoom s5.1 y2.1.1 then
      some (Sum.inl ((strCat s5.1 y2.1.1), (iAdd .i64 s5.2.1 1), ()))
    else none
  else
  Option.map Sum.inr (
    bif strRoom ([98, 101, 97, 99, 111, 110, 32, 49, 32, 50, 32, 51, 10, 102, 105, 120, 32, 51, 10]) ([114, 101, 112, 101, 97, 116, 32]) then
      let x9 := strCat ([98, 101, 97, 99, 111, 110, 32, 49, 32, 50, 32, 51, 10, 102, 105, 120, 32, 51, 10]) ([114, 101, 112, 101, 97, 116, 32])
      (spec_Decimal x4).bind fun y10 =>
      bif strRoom x9 y10.1.1 then
        let x11 := strCat x9 y10.1.1
        bif strRoom x11 ([10]) then
          let x12 := strCat x11 ([10])
          bif strRoom x12 y2.1.1 then
            let x13 := strCat x12 y2.1.1
            bif strRoom x13 ([101, 110, 100, 10]) then
              (impl_CompileMission (strCat x13 ([101, 110, 100, 10]))).bind fun y15 =>
              bif strRoom ([98, 101, 97, 99, 111, 110, 32, 49, 32, 50, 32, 51, 10, 102, 105, 120, 32, 51, 10]) s5.1 then
                (impl_CompileMission (strCat ([98, 101, 97, 99, 111, 110, 32, 49, 32, 50, 32, 51, 10, 102, 105, 120, 32, 51, 10]) s5.1)).bind fun y17 =>
                bif (! (iEq y15.1.2.2.1 0)) then some ((false, ()), ()) else
                bif (! (iEq y17.1.2.2.1 0)) then some ((false, ()), ()) else
                (spec_SameMission ((y15.1.1.1, y15.1.1.2.1, y15.1.1.2.2.1, y15.1.1.2.2.2.1, y15.1.1.2.2.2.2) : (Int × ((Vec 3 Nat) × ((List (Vec 3 Nat)) × ((List (Int × ((Vec 3 Nat) × (Int × (Int × Unit))))) × Unit))))) ((y17.1.1.1, y17.1.1.2.1, y17.1.1.2.2.1, y17.1.1.2.2.2.1, y17.1.1.2.2.2.2) : (Int × ((Vec 3 Nat) × ((List (Vec 3 Nat)) × ((List (Int × ((Vec 3 Nat) × (Int × (Int × Unit))))) × Unit)))))).bind fun y20 =>
                bif (! y20.1.1) then some ((false, ()), ()) else
                (impl_ValidMission ((y15.1.1.1, y15.1.1.2.1, y15.1.1.2.2.1, y15.1.1.2.2.2.1, y15.1.1.2.2.2.2) : (Int × ((Vec 3 Nat) × ((List (Vec 3 Nat)) × ((List (Int × ((Vec 3 Nat) × (Int × (Int × Unit))))) × Unit)))))).bind fun y22 =>
                bif (! y22.1.1) then some ((false, ()), ()) else
                (impl_SameMission ((y15.1.1.1, y15.1.1.2.1, y15.1.1.2.2.1, y15.1.1.2.2.2.1, y15.1.1.2.2.2.2) : (Int × ((Vec 3 Nat) × ((List (Vec 3 Nat)) × ((List (Int × ((Vec 3 Nat) × (Int × (Int × Unit))))) × Unit))))) ((y17.1.1.1, y17.1.1.2.1, y17.1.1.2.2.1, y17.1.1.2.2.2.1, y17.1.1.2.2.2.2) : (Int × ((Vec 3 Nat) × ((List (Vec 3 Nat)) × ((List (Int × ((Vec 3 Nat) × (Int × (Int × Unit))))) × Unit)))))).bind fun y24 =>
                bif (! y24.1.1) then some ((false, ()), ()) else
                (impl_TicksOf ((y15.1.1.1, y15.1.1.2.1, y15.1.1.2.2.1, y15.1.1.2.2.2.1, y15.1.1.2.2.2.2) : (Int × ((Vec 3 Nat) × ((List (Vec 3 Nat)) × ((List (Int × ((Vec 3 Nat) × (Int × (Int × Unit))))) × Unit)))))).bind fun y26 =>
                (impl_TrackOf ((y15.1.1.1, y15.1.1.2.1, y15.1.1.2.2.1, y15.1.1.2.2.2.1, y15.1.1.2.2.2.2) : (Int × ((Vec 3 Nat) × ((List (Vec 3 Nat)) × ((List (Int × ((Vec 3 Nat) × (Int × (Int × Unit))))) × Unit)))))).bind fun y27 =>
                (spec_TrackOf ((y15.1.1.1, y15.1.1.2.1, y15.1.1.2.2.1, y15.1.1.2.2.2.1, y15.1.1.2.2.2.2) : (Int × ((Vec 3 Nat) × ((List (Vec 3 Nat)) × ((List (Int × ((Vec 3 Nat) × (Int × (Int × Unit))))) × Unit)))))).bind fun y28 =>
                bif (! (iEq y26.1.2.1 0)) then some ((false, ()), ()) else
                bif (! (iEq y27.1.2.1 y28.1.2.1)) then some ((false, ()), ()) else
                bif (! (iEq y27.1.2.1 0)) then some ((false, ()), ()) else
                bif (! (iEq (lenI y27.1.1) (iAdd .i64 y26.1.1 1))) then some ((false, ()), ()) else
                (spec_SameVecs y27.1.1 y28.1.1).bind fun y34 =>
                bif (! y34.1.1) then some ((false, ()), ()) else run (laws_FnMissions_l22 y2 a1) ((0 : Int), (0 : Int), ())
              else none
            else none
          else none
        else none
      else none
    else none)
noncomputable def laws_FnMissions (a0 : (List Int)) (a1 : (List Int)) : Option ((Bool × Unit) × Unit) :=
  (laws_a2Long a0 a1).bind fun y1 =>
  bif y1.1.1 then some ((true, ()), ()) else
  (spec_A2Legs a0 (4 : Int)).bind fun y2 =>
  (laws_a2At a1 (0 : Int) (4 : Int)).bind fun y3 =>
  let x4 := iAdd .i64 1 y3.1.1
  run (laws_FnMissions_l8 x4 y2 a1) (([] : List UInt8), (0 : Int), ())
noncomputable def laws_FnMissions_en : Entry := ⟨⟨[.v (.list (.int .u8)), .v (.list (.int .u8))], [.v (.val (.bool))], false⟩, fun x => laws_FnMissions x.1 x.2.1⟩
theorem laws_FnMissions_so (mx : GMax 1 G) (tb : GTab Tryz.prog G) (sy : GErr 2 G) (ra : GErr 3 G) : Sound Tryz.prog G 3 laws_FnMissions_en := so_of (envS (l := [(6, laws_a2Long_en), (7, spec_A2Legs_en), (8, laws_a2At_en), (9, impl_CompileMission_en), (10, spec_Decimal_en), (11, spec_SameMission_en), (12, impl_ValidMission_en), (13, impl_SameMission_en), (14, impl_TicksOf_en), (15, impl_TrackOf_en), (16, spec_TrackOf_en), (17, spec_SameVecs_en), (18, impl_ReadFraction_en)]) ⟨(laws_a2Long_so), (spec_A2Legs_so), (laws_a2At_so), (impl_CompileMission_so mx tb sy ra), (spec_Decimal_so), (spec_SameMission_so), (impl_ValidMission_so), (impl_SameMission_so), (impl_TicksOf_so), (impl_TrackOf_so), (spec_TrackOf_so), (spec_SameVecs_so), (impl_ReadFraction_so mx tb sy ra), trivial⟩) [(8, .vary [(8, .sc (.str)), (9, .sc (.int .i64))]), (22, .vary [(22, .sc (.int .i64)), (23, .sc (.int .i64))])] Tryz.func3 (by kernel_rfl) rfl fun _ => by kernel_rfl

end Go.Proofs.YtildomllnnnofaaGreatDoor
