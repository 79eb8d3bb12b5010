import Derived.Test.YtildomllnnnofaaGreatE
/- Functions on typed data: what the evaluation of each Go function is, and that it is sound. -/
namespace Go.Proofs.YtildomllnnnofaaGreat
open Go Go.Tm
noncomputable section
set_option linter.unusedVariables false
set_option maxRecDepth 100000
variable {G : List (Nat × Obj)}
def impl_isFinite_l2 (a0 : (List Nat)) (s73 : (Int × Unit)) : Option ((Int × Unit) ⊕ Dq9) :=
  bif (iLt s73.1 (lenI a0)) then
    bif inB s73.1 (List.length a0) then
      let x75 := List.getD a0 s73.1.toNat (0 : Nat)
      bif (! (fEq .f32 (fSub .f32 x75 x75) 0)) then
        Option.map Sum.inr (some ((false, ()), ()))
      else
      some (Sum.inl ((iAdd .i64 s73.1 1), ()))
    else none
  else
  Option.map Sum.inr (some ((true, ()), ()))
def impl_isFinite (a0 : (List Nat)) : Option Dq9 :=
  run (impl_isFinite_l2 a0) ((0 : Int), ())
def impl_isFinite_en : Entry := ⟨⟨[.v (.list (.flt .f32))], [.v (.val (.bool))], false⟩, fun x => impl_isFinite x.1⟩
theorem qa1 : Sound Tryz.prog G 39 impl_isFinite_en := qab (envS (l := []) trivial) [(2, .vary [(7, .sc (.int .i64))])] Tryz.func39 (by kernel_rfl) rfl fun _ => by kernel_rfl
def impl_IsFiniteVec (a0 : (Vec 3 Nat)) : Option Dq9 :=
  (impl_isFinite ([Vec.getD 3 a0 0 (0 : Nat), Vec.getD 3 a0 1 (0 : Nat), Vec.getD 3 a0 2 (0 : Nat)] : (List Nat))).bind fun y72 =>
  some ((y72.1.1, ()), ())
def impl_IsFiniteVec_en : Entry := ⟨⟨[.v (.arr 3 (.flt .f32))], [.v (.val (.bool))], false⟩, fun x => impl_IsFiniteVec x.1⟩
theorem qdd : Sound Tryz.prog G 112 impl_IsFiniteVec_en := qab (envS (l := [(39, impl_isFinite_en)]) ⟨(qa1), trivial⟩) [] Tryz.func112 (by kernel_rfl) rfl fun _ => by kernel_rfl
def impl_isNaN (a0 : Nat) : Option Dq9 :=
  some (((! (fEq .f32 a0 a0)), ()), ())
def impl_isNaN_en : Entry := ⟨⟨[.v (.flt .f32)], [.v (.val (.bool))], false⟩, fun x => impl_isNaN x.1⟩
theorem qq3 : Sound Tryz.prog G 193 impl_isNaN_en := qab (envS (l := []) trivial) [] Tryz.func193 (by kernel_rfl) rfl fun _ => by kernel_rfl
def impl_SameNumber (a0 : Nat) (a1 : Nat) : Option Dq9 :=
  (impl_isNaN a0).bind fun y84 =>
  bif y84.1.1 then
    (impl_isNaN a1).bind fun y85 =>
    bif y85.1.1 then some ((true, ()), ()) else
    allSame fun (q86 : Nat) =>
    allSame fun (q88 : Nat) =>
    some (((iEq (bitsF .f32 a0 q86) (bitsF .f32 a1 q88)), ()), ())
  else
  allSame fun (q91 : Nat) =>
  allSame fun (q93 : Nat) =>
  some (((iEq (bitsF .f32 a0 q91) (bitsF .f32 a1 q93)), ()), ())
def impl_SameNumber_en : Entry := ⟨⟨[.v (.flt .f32), .v (.flt .f32)], [.v (.val (.bool))], false⟩, fun x => impl_SameNumber x.1 x.2.1⟩
theorem qga : Sound Tryz.prog G 152 impl_SameNumber_en := qab (envS (l := [(193, impl_isNaN_en)]) ⟨(qq3), trivial⟩) [] Tryz.func152 (by kernel_rfl) rfl fun _ => by kernel_rfl
def impl_SameVec (a0 : (Vec 3 Nat)) (a1 : (Vec 3 Nat)) : Option Dq9 :=
  (impl_SameNumber (Vec.getD 3 a0 0 (0 : Nat)) (Vec.getD 3 a1 0 (0 : Nat))).bind fun y99 =>
  bif (! y99.1.1) then some ((false, ()), ()) else
  (impl_SameNumber (Vec.getD 3 a0 1 (0 : Nat)) (Vec.getD 3 a1 1 (0 : Nat))).bind fun y103 =>
  bif (! y103.1.1) then some ((false, ()), ()) else
  (impl_SameNumber (Vec.getD 3 a0 2 (0 : Nat)) (Vec.getD 3 a1 2 (0 : Nat))).bind fun y107 =>
  bif (! y107.1.1) then some ((false, ()), ()) else some ((true, ()), ())
def impl_SameVec_en : Entry := ⟨⟨[.v (.arr 3 (.flt .f32)), .v (.arr 3 (.flt .f32))], [.v (.val (.bool))], false⟩, fun x => impl_SameVec x.1 x.2.1⟩
theorem qnm : Sound Tryz.prog G 151 impl_SameVec_en := qab (envS (l := [(152, impl_SameNumber_en)]) ⟨(qga), trivial⟩) [(2, .unroll 4)] Tryz.func151 (by kernel_rfl) rfl fun _ => by kernel_rfl
def impl_sameEntry (a0 : Dq5) (a1 : Dq5) : Option Dq9 :=
  bif (iEq a0.1 a1.1) then
    (impl_SameVec a0.2.1 a1.2.1).bind fun y80 =>
    bif y80.1.1 then
      bif (iEq (Vec.getD 3 a0.2.2.1 0 (0 : Int)) (Vec.getD 3 a1.2.2.1 0 (0 : Int)) && (iEq (Vec.getD 3 a0.2.2.1 1 (0 : Int)) (Vec.getD 3 a1.2.2.1 1 (0 : Int)) && (iEq (Vec.getD 3 a0.2.2.1 2 (0 : Int)) (Vec.getD 3 a1.2.2.1 2 (0 : Int)) && true))) then
        bif (iEq a0.2.2.2.1 a1.2.2.2.1) then
          (impl_SameNumber a0.2.2.2.2.1 a1.2.2.2.2.1).bind fun y83 =>
          some ((y83.1.1, ()), ())
        else some ((false, ()), ())
      else some ((false, ()), ())
    else some ((false, ()), ())
  else some ((false, ()), ())
def impl_sameEntry_en : Entry := ⟨⟨[.v Uq2, .v Uq2], [.v (.val (.bool))], false⟩, fun x => impl_sameEntry x.1 x.2.1⟩
theorem qlz : Sound Tryz.prog G 111 impl_sameEntry_en := qab (envS (l := [(151, impl_SameVec_en), (152, impl_SameNumber_en)]) ⟨(qnm), (qga), trivial⟩) [] Tryz.func111 (by kernel_rfl) rfl fun _ => by kernel_rfl
def impl_within (a0 : Int) (a1 : Int) (a2 : Int) : Option Dq9 :=
  bif (iLe a1 a0) then
    some (((iLe a0 a2), ()), ())
  else some ((false, ()), ())
def impl_within_en : Entry := ⟨⟨[.v (.int .i64), .v (.int .i64), .v (.int .i64)], [.v (.val (.bool))], false⟩, fun x => impl_within x.1 x.2.1 x.2.2.1⟩
theorem qfg : Sound Tryz.prog G 72 impl_within_en := qab (envS (l := []) trivial) [] Tryz.func72 (by kernel_rfl) rfl fun _ => by kernel_rfl
def impl_validEntry (a0 : Dq5) (a1 : Int) : Option Dq9 :=
  bif (iEq a0.1 1) then
    (impl_sameEntry a0 ((a0.1, (0, 0, 0, ()), (0, 0, 0, ()), 0, 0, ()) : Dq5)).bind fun y54 =>
    bif y54.1.1 then
      (impl_IsFiniteVec a0.2.1).bind fun y55 =>
      bif y55.1.1 then
        (impl_isFinite ([a0.2.2.2.2.1] : (List Nat))).bind fun y56 =>
        some ((y56.1.1, ()), ())
      else some ((false, ()), ())
    else some ((false, ()), ())
  else
  bif (iEq a0.1 2) then
    (impl_sameEntry a0 ((a0.1, a0.2.1, (0, 0, 0, ()), 0, 0, ()) : Dq5)).bind fun y58 =>
    bif y58.1.1 then
      (impl_IsFiniteVec a0.2.1).bind fun y59 =>
      bif y59.1.1 then
        (impl_isFinite ([a0.2.2.2.2.1] : (List Nat))).bind fun y60 =>
        some ((y60.1.1, ()), ())
      else some ((false, ()), ())
    else some ((false, ()), ())
  else
  bif (iEq a0.1 3) then
    (impl_sameEntry a0 ((a0.1, (0, 0, 0, ()), a0.2.2.1, 0, 0, ()) : Dq5)).bind fun y62 =>
    bif y62.1.1 then
      (impl_IsFiniteVec a0.2.1).bind fun y63 =>
      bif y63.1.1 then
        (impl_isFinite ([a0.2.2.2.2.1] : (List Nat))).bind fun y64 =>
        some ((y64.1.1, ()), ())
      else some ((false, ()), ())
    else some ((false, ()), ())
  else
  bif (iEq a0.1 4) then
    (impl_within a0.2.2.2.1 (0 : Int) (iSub .i64 a1 1)).bind fun y67 =>
    bif (! y67.1.1) then some ((false, ()), ()) else
    (impl_sameEntry a0 ((a0.1, (0, 0, 0, ()), (0, 0, 0, ()), a0.2.2.2.1, a0.2.2.2.2.1, ()) : Dq5)).bind fun y69 =>
    bif y69.1.1 then
      (impl_IsFiniteVec a0.2.1).bind fun y70 =>
      bif y70.1.1 then
        (impl_isFinite ([a0.2.2.2.2.1] : (List Nat))).bind fun y71 =>
        some ((y71.1.1, ()), ())
      else some ((false, ()), ())
    else some ((false, ()), ())
  else some ((false, ()), ())
def impl_validEntry_en : Entry := ⟨⟨[.v Uq2, .v (.int .i64)], [.v (.val (.bool))], false⟩, fun x => impl_validEntry x.1 x.2.1⟩
theorem qf9 : Sound Tryz.prog G 73 impl_validEntry_en := qab (envS (l := [(39, impl_isFinite_en), (72, impl_within_en), (111, impl_sameEntry_en), (112, impl_IsFiniteVec_en)]) ⟨(qa1), (qfg), (qlz), (qdd), trivial⟩) [] Tryz.func73 (by kernel_rfl) rfl fun _ => by kernel_rfl
def impl_ValidLog_1 (a0 : Dq5) (a1 : Dq3) : Option Dq9 :=
  (impl_validEntry a0 (lenI a1.2.2.1)).bind fun y51 =>
  some (((! y51.1.1), ()), ())
def impl_ValidLog_1_en : Entry := ⟨⟨[.v Uq2, .ro Uq4], [.v (.val (.bool))], false⟩, fun x => impl_ValidLog_1 x.1 x.2.1⟩
theorem qki : Sound Tryz.prog G 105 impl_ValidLog_1_en := qab (envS (l := [(73, impl_validEntry_en)]) ⟨(qf9), trivial⟩) [] Tryz.func105 (by kernel_rfl) rfl fun _ => by kernel_rfl
def impl_validFrame_1 (a0 : (Vec 3 Nat)) : Option Dq9 :=
  (impl_IsFiniteVec a0).bind fun y117 =>
  some (((! y117.1.1), ()), ())
def impl_validFrame_1_en : Entry := ⟨⟨[.v (.arr 3 (.flt .f32))], [.v (.val (.bool))], false⟩, fun x => impl_validFrame_1 x.1⟩
theorem qi3 : Sound Tryz.prog G 143 impl_validFrame_1_en := qab (envS (l := [(112, impl_IsFiniteVec_en)]) ⟨(qdd), trivial⟩) [] Tryz.func143 (by kernel_rfl) rfl fun _ => by kernel_rfl
def slices_IndexFunc_impl_Vec_l2 (a0 : (List (Vec 3 Nat))) (a1 : (Dq14 → Option Bool)) (s121 : (Int × Unit)) : Option ((Int × Unit) ⊕ Dq15) :=
  bif (iLt s121.1 (lenI a0)) then
    bif inB s121.1 (List.length a0) then
      (a1 ((List.getD a0 s121.1.toNat ((0, 0, 0, ()) : (Vec 3 Nat))), ())).bind fun y124 =>
      bif y124 then
        Option.map Sum.inr (some ((s121.1, ()), ()))
      else
      some (Sum.inl ((iAdd .i64 s121.1 1), ()))
    else none
  else
  Option.map Sum.inr (some ((((-1 : Int) : Int), ()), ()))
def slices_IndexFunc_impl_Vec (a0 : (List (Vec 3 Nat))) (a1 : (Dq14 → Option Bool)) : Option Dq15 :=
  run (slices_IndexFunc_impl_Vec_l2 a0 a1) ((0 : Int), ())
def slices_IndexFunc_impl_Vec_en : Entry := ⟨⟨[.v (.list (.arr 3 (.flt .f32))), .fn ⟨[.arr 3 (.flt .f32)], .bool⟩], [.v (.val (.int .i64))], false⟩, fun x => slices_IndexFunc_impl_Vec x.1 x.2.1⟩
theorem qfo : Sound Tryz.prog G 179 slices_IndexFunc_impl_Vec_en := qab (envS (l := []) trivial) [(2, .vary [(8, .sc (.int .i64))])] Tryz.func179 (by kernel_rfl) rfl fun _ => by kernel_rfl
def slices_ContainsFunc_impl_Vec (a0 : (List (Vec 3 Nat))) (a1 : (Dq14 → Option Bool)) : Option Dq9 :=
  (slices_IndexFunc_impl_Vec a0 a1).bind fun y119 =>
  some (((iLe 0 y119.1.1), ()), ())
def slices_ContainsFunc_impl_Vec_en : Entry := ⟨⟨[.v (.list (.arr 3 (.flt .f32))), .fn ⟨[.arr 3 (.flt .f32)], .bool⟩], [.v (.val (.bool))], false⟩, fun x => slices_ContainsFunc_impl_Vec x.1 x.2.1⟩
theorem qeo : Sound Tryz.prog G 142 slices_ContainsFunc_impl_Vec_en := qab (envS (l := [(179, slices_IndexFunc_impl_Vec_en)]) ⟨(qfo), trivial⟩) [] Tryz.func142 (by kernel_rfl) rfl fun _ => by kernel_rfl
def impl_validFrame (a0 : Int) (a1 : (Vec 3 Nat)) (a2 : (List (Vec 3 Nat))) : Option Dq9 :=
  (impl_within a0 (1 : Int) (64 : Int)).bind fun y111 =>
  bif y111.1.1 then
    (impl_IsFiniteVec a1).bind fun y112 =>
    bif y112.1.1 then
      bif (iLe (lenI a2) 6) then
        (slices_ContainsFunc_impl_Vec a2 (fun (z114 : Dq14) => (impl_validFrame_1 z114.1).map fun y => y.1.1)).bind fun y115 =>
        some (((! y115.1.1), ()), ())
      else some ((false, ()), ())
    else some ((false, ()), ())
  else some ((false, ()), ())
def impl_validFrame_en : Entry := ⟨⟨[.v (.int .i64), .v (.arr 3 (.flt .f32)), .v (.list (.arr 3 (.flt .f32)))], [.v (.val (.bool))], false⟩, fun x => impl_validFrame x.1 x.2.1 x.2.2.1⟩
theorem qkp : Sound Tryz.prog G 103 impl_validFrame_en := qab (envS (l := [(72, impl_within_en), (112, impl_IsFiniteVec_en), (142, slices_ContainsFunc_impl_Vec_en), (143, impl_validFrame_1_en)]) ⟨(qfg), (qdd), (qeo), (qi3), trivial⟩) [] Tryz.func103 (by kernel_rfl) rfl fun _ => by kernel_rfl
def slices_IndexFunc_impl_Entry_l2 (a0 : (List Dq5)) (a1 : ((Dq5 × Unit) → Option Bool)) (s128 : (Int × Unit)) : Option ((Int × Unit) ⊕ Dq15) :=
  bif (iLt s128.1 (lenI a0)) then
    bif inB s128.1 (List.length a0) then
      (a1 ((List.getD a0 s128.1.toNat ((0, (0, 0, 0, ()), (0, 0, 0, ()), 0, 0, ()) : Dq5)), ())).bind fun y131 =>
      bif y131 then
        Option.map Sum.inr (some ((s128.1, ()), ()))
      else
      some (Sum.inl ((iAdd .i64 s128.1 1), ()))
    else none
  else
  Option.map Sum.inr (some ((((-1 : Int) : Int), ()), ()))
def slices_IndexFunc_impl_Entry (a0 : (List Dq5)) (a1 : ((Dq5 × Unit) → Option Bool)) : Option Dq15 :=
  run (slices_IndexFunc_impl_Entry_l2 a0 a1) ((0 : Int), ())
def slices_IndexFunc_impl_Entry_en : Entry := ⟨⟨[.v (.list Uq2), .fn ⟨[.pair (.int .i64) Uq10], .bool⟩], [.v (.val (.int .i64))], false⟩, fun x => slices_IndexFunc_impl_Entry x.1 x.2.1⟩
theorem qe0 : Sound Tryz.prog G 144 slices_IndexFunc_impl_Entry_en := qab (envS (l := []) trivial) [(2, .vary [(8, .sc (.int .i64))])] Tryz.func144 (by kernel_rfl) rfl fun _ => by kernel_rfl
def slices_ContainsFunc_impl_Entry (a0 : (List Dq5)) (a1 : ((Dq5 × Unit) → Option Bool)) : Option Dq9 :=
  (slices_IndexFunc_impl_Entry a0 a1).bind fun y126 =>
  some (((iLe 0 y126.1.1), ()), ())
def slices_ContainsFunc_impl_Entry_en : Entry := ⟨⟨[.v (.list Uq2), .fn ⟨[.pair (.int .i64) Uq10], .bool⟩], [.v (.val (.bool))], false⟩, fun x => slices_ContainsFunc_impl_Entry x.1 x.2.1⟩
theorem qdy : Sound Tryz.prog G 104 slices_ContainsFunc_impl_Entry_en := qab (envS (l := [(144, slices_IndexFunc_impl_Entry_en)]) ⟨(qe0), trivial⟩) [] Tryz.func104 (by kernel_rfl) rfl fun _ => by kernel_rfl
def impl_ValidLog (a0 : Dq3) : Option Dq9 :=
  (impl_validFrame a0.1 a0.2.1 a0.2.2.1).bind fun y46 =>
  bif y46.1.1 then
    bif (iLe (lenI a0.2.2.2.1) 1200) then
      (slices_ContainsFunc_impl_Entry a0.2.2.2.1 (fun (z48 : (Dq5 × Unit)) => (impl_ValidLog_1 z48.1 a0).map fun y => y.1.1)).bind fun y49 =>
      some (((! y49.1.1), ()), ())
    else some ((false, ()), ())
  else some ((false, ()), ())
def impl_ValidLog_en : Entry := ⟨⟨[.v Uq4], [.v (.val (.bool))], false⟩, fun x => impl_ValidLog x.1⟩
theorem qcq : Sound Tryz.prog G 64 impl_ValidLog_en := qab (envS (l := [(103, impl_validFrame_en), (104, slices_ContainsFunc_impl_Entry_en), (105, impl_ValidLog_1_en)]) ⟨(qkp), (qdy), (qki), trivial⟩) [] Tryz.func64 (by kernel_rfl) rfl fun _ => by kernel_rfl
def impl_ValidState (a0 : Dq2) : Option Dq9 :=
  (impl_isFinite ([Vec.getD 6 a0.1 0 (0 : Nat), Vec.getD 6 a0.1 1 (0 : Nat), Vec.getD 6 a0.1 2 (0 : Nat), Vec.getD 6 a0.1 3 (0 : Nat), Vec.getD 6 a0.1 4 (0 : Nat), Vec.getD 6 a0.1 5 (0 : Nat)] : (List Nat))).bind fun y145 =>
  bif (! y145.1.1) then some ((false, ()), ()) else
  (impl_isFinite ([Vec.getD 6 (Vec.getD 6 a0.2.1 0 ((0, 0, 0, 0, 0, 0, ()) : (Vec 6 Nat))) 0 (0 : Nat), Vec.getD 6 (Vec.getD 6 a0.2.1 0 ((0, 0, 0, 0, 0, 0, ()) : (Vec 6 Nat))) 1 (0 : Nat), Vec.getD 6 (Vec.getD 6 a0.2.1 0 ((0, 0, 0, 0, 0, 0, ()) : (Vec 6 Nat))) 2 (0 : Nat), Vec.getD 6 (Vec.getD 6 a0.2.1 0 ((0, 0, 0, 0, 0, 0, ()) : (Vec 6 Nat))) 3 (0 : Nat), Vec.getD 6 (Vec.getD 6 a0.2.1 0 ((0, 0, 0, 0, 0, 0, ()) : (Vec 6 Nat))) 4 (0 : Nat), Vec.getD 6 (Vec.getD 6 a0.2.1 0 ((0, 0, 0, 0, 0, 0, ()) : (Vec 6 Nat))) 5 (0 : Nat)] : (List Nat))).bind fun y147 =>
  bif (! y147.1.1) then some ((false, ()), ()) else
  bif (fLt .f32 (Vec.getD 6 (Vec.getD 6 a0.2.1 0 ((0, 0, 0, 0, 0, 0, ()) : (Vec 6 Nat))) 0 (0 : Nat)) 0) then some ((false, ()), ()) else
  bif (! (fEq .f32 (Vec.getD 6 (Vec.getD 6 a0.2.1 0 ((0, 0, 0, 0, 0, 0, ()) : (Vec 6 Nat))) 1 (0 : Nat)) 0)) then some ((false, ()), ()) else
  bif (! (fEq .f32 (Vec.getD 6 (Vec.getD 6 a0.2.1 0 ((0, 0, 0, 0, 0, 0, ()) : (Vec 6 Nat))) 2 (0 : Nat)) 0)) then some ((false, ()), ()) else
  bif (! (fEq .f32 (Vec.getD 6 (Vec.getD 6 a0.2.1 0 ((0, 0, 0, 0, 0, 0, ()) : (Vec 6 Nat))) 3 (0 : Nat)) 0)) then some ((false, ()), ()) else
  bif (! (fEq .f32 (Vec.getD 6 (Vec.getD 6 a0.2.1 0 ((0, 0, 0, 0, 0, 0, ()) : (Vec 6 Nat))) 4 (0 : Nat)) 0)) then some ((false, ()), ()) else
  bif (! (fEq .f32 (Vec.getD 6 (Vec.getD 6 a0.2.1 0 ((0, 0, 0, 0, 0, 0, ()) : (Vec 6 Nat))) 5 (0 : Nat)) 0)) then some ((false, ()), ()) else
  (impl_isFinite ([Vec.getD 6 (Vec.getD 6 a0.2.1 1 ((0, 0, 0, 0, 0, 0, ()) : (Vec 6 Nat))) 0 (0 : Nat), Vec.getD 6 (Vec.getD 6 a0.2.1 1 ((0, 0, 0, 0, 0, 0, ()) : (Vec 6 Nat))) 1 (0 : Nat), Vec.getD 6 (Vec.getD 6 a0.2.1 1 ((0, 0, 0, 0, 0, 0, ()) : (Vec 6 Nat))) 2 (0 : Nat), Vec.getD 6 (Vec.getD 6 a0.2.1 1 ((0, 0, 0, 0, 0, 0, ()) : (Vec 6 Nat))) 3 (0 : Nat), Vec.getD 6 (Vec.getD 6 a0.2.1 1 ((0, 0, 0, 0, 0, 0, ()) : (Vec 6 Nat))) 4 (0 : Nat), Vec.getD 6 (Vec.getD 6 a0.2.1 1 ((0, 0, 0, 0, 0, 0, ()) : (Vec 6 Nat))) 5 (0 : Nat)] : (List Nat))).bind fun y161 =>
  bif (! y161.1.1) then some ((false, ()), ()) else
  bif (fLt .f32 (Vec.getD 6 (Vec.getD 6 a0.2.1 1 ((0, 0, 0, 0, 0, 0, ()) : (Vec 6 Nat))) 1 (0 : Nat)) 0) then some ((false, ()), ()) else
  bif (! (fEq .f32 (Vec.getD 6 (Vec.getD 6 a0.2.1 1 ((0, 0, 0, 0, 0, 0, ()) : (Vec 6 Nat))) 2 (0 : Nat)) 0)) then some ((false, ()), ()) else
  bif (! (fEq .f32 (Vec.getD 6 (Vec.getD 6 a0.2.1 1 ((0, 0, 0, 0, 0, 0, ()) : (Vec 6 Nat))) 3 (0 : Nat)) 0)) then some ((false, ()), ()) else
  bif (! (fEq .f32 (Vec.getD 6 (Vec.getD 6 a0.2.1 1 ((0, 0, 0, 0, 0, 0, ()) : (Vec 6 Nat))) 4 (0 : Nat)) 0)) then some ((false, ()), ()) else
  bif (! (fEq .f32 (Vec.getD 6 (Vec.getD 6 a0.2.1 1 ((0, 0, 0, 0, 0, 0, ()) : (Vec 6 Nat))) 5 (0 : Nat)) 0)) then some ((false, ()), ()) else
  (impl_isFinite ([Vec.getD 6 (Vec.getD 6 a0.2.1 2 ((0, 0, 0, 0, 0, 0, ()) : (Vec 6 Nat))) 0 (0 : Nat), Vec.getD 6 (Vec.getD 6 a0.2.1 2 ((0, 0, 0, 0, 0, 0, ()) : (Vec 6 Nat))) 1 (0 : Nat), Vec.getD 6 (Vec.getD 6 a0.2.1 2 ((0, 0, 0, 0, 0, 0, ()) : (Vec 6 Nat))) 2 (0 : Nat), Vec.getD 6 (Vec.getD 6 a0.2.1 2 ((0, 0, 0, 0, 0, 0, ()) : (Vec 6 Nat))) 3 (0 : Nat), Vec.getD 6 (Vec.getD 6 a0.2.1 2 ((0, 0, 0, 0, 0, 0, ()) : (Vec 6 Nat))) 4 (0 : Nat), Vec.getD 6 (Vec.getD 6 a0.2.1 2 ((0, 0, 0, 0, 0, 0, ()) : (Vec 6 Nat))) 5 (0 : Nat)] : (List Nat))).bind fun y173 =>
  bif (! y173.1.1) then some ((false, ()), ()) else
  bif (fLt .f32 (Vec.getD 6 (Vec.getD 6 a0.2.1 2 ((0, 0, 0, 0, 0, 0, ()) : (Vec 6 Nat))) 2 (0 : Nat)) 0) then some ((false, ()), ()) else
  bif (! (fEq .f32 (Vec.getD 6 (Vec.getD 6 a0.2.1 2 ((0, 0, 0, 0, 0, 0, ()) : (Vec 6 Nat))) 3 (0 : Nat)) 0)) then some ((false, ()), ()) else
  bif (! (fEq .f32 (Vec.getD 6 (Vec.getD 6 a0.2.1 2 ((0, 0, 0, 0, 0, 0, ()) : (Vec 6 Nat))) 4 (0 : Nat)) 0)) then some ((false, ()), ()) else
  bif (! (fEq .f32 (Vec.getD 6 (Vec.getD 6 a0.2.1 2 ((0, 0, 0, 0, 0, 0, ()) : (Vec 6 Nat))) 5 (0 : Nat)) 0)) then some ((false, ()), ()) else
  (impl_isFinite ([Vec.getD 6 (Vec.getD 6 a0.2.1 3 ((0, 0, 0, 0, 0, 0, ()) : (Vec 6 Nat))) 0 (0 : Nat), Vec.getD 6 (Vec.getD 6 a0.2.1 3 ((0, 0, 0, 0, 0, 0, ()) : (Vec 6 Nat))) 1 (0 : Nat), Vec.getD 6 (Vec.getD 6 a0.2.1 3 ((0, 0, 0, 0, 0, 0, ()) : (Vec 6 Nat))) 2 (0 : Nat), Vec.getD 6 (Vec.getD 6 a0.2.1 3 ((0, 0, 0, 0, 0, 0, ()) : (Vec 6 Nat))) 3 (0 : Nat), Vec.getD 6 (Vec.getD 6 a0.2.1 3 ((0, 0, 0, 0, 0, 0, ()) : (Vec 6 Nat))) 4 (0 : Nat), Vec.getD 6 (Vec.getD 6 a0.2.1 3 ((0, 0, 0, 0, 0, 0, ()) : (Vec 6 Nat))) 5 (0 : Nat)] : (List Nat))).bind fun y183 =>
  bif (! y183.1.1) then some ((false, ()), ()) else
  bif (fLt .f32 (Vec.getD 6 (Vec.getD 6 a0.2.1 3 ((0, 0, 0, 0, 0, 0, ()) : (Vec 6 Nat))) 3 (0 : Nat)) 0) then some ((false, ()), ()) else
  bif (! (fEq .f32 (Vec.getD 6 (Vec.getD 6 a0.2.1 3 ((0, 0, 0, 0, 0, 0, ()) : (Vec 6 Nat))) 4 (0 : Nat)) 0)) then some ((false, ()), ()) else
  bif (! (fEq .f32 (Vec.getD 6 (Vec.getD 6 a0.2.1 3 ((0, 0, 0, 0, 0, 0, ()) : (Vec 6 Nat))) 5 (0 : Nat)) 0)) then some ((false, ()), ()) else
  (impl_isFinite ([Vec.getD 6 (Vec.getD 6 a0.2.1 4 ((0, 0, 0, 0, 0, 0, ()) : (Vec 6 Nat))) 0 (0 : Nat), Vec.getD 6 (Vec.getD 6 a0.2.1 4 ((0, 0, 0, 0, 0, 0, ()) : (Vec 6 Nat))) 1 (0 : Nat), Vec.getD 6 (Vec.getD 6 a0.2.1 4 ((0, 0, 0, 0, 0, 0, ()) : (Vec 6 Nat))) 2 (0 : Nat), Vec.getD 6 (Vec.getD 6 a0.2.1 4 ((0, 0, 0, 0, 0, 0, ()) : (Vec 6 Nat))) 3 (0 : Nat), Vec.getD 6 (Vec.getD 6 a0.2.1 4 ((0, 0, 0, 0, 0, 0, ()) : (Vec 6 Nat))) 4 (0 : Nat), Vec.getD 6 (Vec.getD 6 a0.2.1 4 ((0, 0, 0, 0, 0, 0, ()) : (Vec 6 Nat))) 5 (0 : Nat)] : (List Nat))).bind fun y191 =>
  bif (! y191.1.1) then some ((false, ()), ()) else
  bif (fLt .f32 (Vec.getD 6 (Vec.getD 6 a0.2.1 4 ((0, 0, 0, 0, 0, 0, ()) : (Vec 6 Nat))) 4 (0 : Nat)) 0) then some ((false, ()), ()) else
  bif (! (fEq .f32 (Vec.getD 6 (Vec.getD 6 a0.2.1 4 ((0, 0, 0, 0, 0, 0, ()) : (Vec 6 Nat))) 5 (0 : Nat)) 0)) then some ((false, ()), ()) else
  (impl_isFinite ([Vec.getD 6 (Vec.getD 6 a0.2.1 5 ((0, 0, 0, 0, 0, 0, ()) : (Vec 6 Nat))) 0 (0 : Nat), Vec.getD 6 (Vec.getD 6 a0.2.1 5 ((0, 0, 0, 0, 0, 0, ()) : (Vec 6 Nat))) 1 (0 : Nat), Vec.getD 6 (Vec.getD 6 a0.2.1 5 ((0, 0, 0, 0, 0, 0, ()) : (Vec 6 Nat))) 2 (0 : Nat), Vec.getD 6 (Vec.getD 6 a0.2.1 5 ((0, 0, 0, 0, 0, 0, ()) : (Vec 6 Nat))) 3 (0 : Nat), Vec.getD 6 (Vec.getD 6 a0.2.1 5 ((0, 0, 0, 0, 0, 0, ()) : (Vec 6 Nat))) 4 (0 : Nat), Vec.getD 6 (Vec.getD 6 a0.2.1 5 ((0, 0, 0, 0, 0, 0, ()) : (Vec 6 Nat))) 5 (0 : Nat)] : (List Nat))).bind fun y197 =>
  bif (! y197.1.1) then some ((false, ()), ()) else
  bif (fLt .f32 (Vec.getD 6 (Vec.getD 6 a0.2.1 5 ((0, 0, 0, 0, 0, 0, ()) : (Vec 6 Nat))) 5 (0 : Nat)) 0) then some ((false, ()), ()) else some ((true, ()), ())
def impl_ValidState_en : Entry := ⟨⟨[.v Uq1], [.v (.val (.bool))], false⟩, fun x => impl_ValidState x.1⟩
theorem qa0 : Sound Tryz.prog G 71 impl_ValidState_en := qab (envS (l := [(39, impl_isFinite_en)]) ⟨(qa1), trivial⟩) [(4, .unroll 7), (9, .unroll 6)] Tryz.func71 (by kernel_rfl) rfl fun _ => by kernel_rfl
def impl_StateOf (a0 : (Vec 6 Nat)) (a1 : (Vec 6 Nat)) : Option Dq12 :=
  let x137 := Vec.getD 6 a1 0 (0 : Nat)
  let x138 := Vec.getD 6 a1 1 (0 : Nat)
  let x139 := Vec.getD 6 a1 2 (0 : Nat)
  let x140 := Vec.getD 6 a1 3 (0 : Nat)
  let x141 := Vec.getD 6 a1 4 (0 : Nat)
  let x142 := Vec.getD 6 a1 5 (0 : Nat)
  (impl_ValidState ((a0, ((x137, 0, 0, 0, 0, 0, ()), (0, x138, 0, 0, 0, 0, ()), (0, 0, x139, 0, 0, 0, ()), (0, 0, 0, x140, 0, 0, ()), (0, 0, 0, 0, x141, 0, ()), (0, 0, 0, 0, 0, x142, ()), ()), ()) : Dq2)).bind fun y143 =>
  bif (! y143.1.1) then
    some (((((0, 0, 0, 0, 0, 0, ()), ((0, 0, 0, 0, 0, 0, ()), (0, 0, 0, 0, 0, 0, ()), (0, 0, 0, 0, 0, 0, ()), (0, 0, 0, 0, 0, 0, ()), (0, 0, 0, 0, 0, 0, ()), (0, 0, 0, 0, 0, 0, ()), ()), ()) : Dq2), (1 : Int), ()), ())
  else
  some ((((a0, ((x137, 0, 0, 0, 0, 0, ()), (0, x138, 0, 0, 0, 0, ()), (0, 0, x139, 0, 0, 0, ()), (0, 0, 0, x140, 0, 0, ()), (0, 0, 0, 0, x141, 0, ()), (0, 0, 0, 0, 0, x142, ()), ()), ()) : Dq2), (0 : Int), ()), ())
def impl_StateOf_en : Entry := ⟨⟨[.v (.arr 6 (.flt .f32)), .v (.arr 6 (.flt .f32))], [.v (.val Uq1), .v (.val (.int .i64))], false⟩, fun x => impl_StateOf x.1 x.2.1⟩
theorem qn3 : Sound Tryz.prog G 106 impl_StateOf_en := qab (envS (l := [(71, impl_ValidState_en)]) ⟨(qa0), trivial⟩) [(3, .unroll 7)] Tryz.func106 (by kernel_rfl) rfl fun _ => by kernel_rfl
def impl_firstState (a0 : Dq3) : Option ((Dq2 × Unit) × Unit) :=
  (impl_StateOf (((Vec.getD 3 a0.2.1 0 (0 : Nat)), (Vec.getD 3 a0.2.1 1 (0 : Nat)), (Vec.getD 3 a0.2.1 2 (0 : Nat)), 0, 0, 0, ()) : (Vec 6 Nat)) ((1056964608, 1056964608, 1056964608, 1065353216, 1065353216, 1065353216, ()) : (Vec 6 Nat))).bind fun y136 =>
  some ((y136.1.1, ()), ())
def impl_firstState_en : Entry := ⟨⟨[.v Uq4], [.v (.val Uq1)], false⟩, fun x => impl_firstState x.1⟩
theorem qgb : Sound Tryz.prog G 66 impl_firstState_en := qab (envS (l := [(106, impl_StateOf_en)]) ⟨(qn3), trivial⟩) [] Tryz.func66 (by kernel_rfl) rfl fun _ => by kernel_rfl
def impl_FirstState (a0 : Dq3) : Option Dq12 :=
  (impl_ValidLog a0).bind fun y43 =>
  bif (! y43.1.1) then
    some (((((0, 0, 0, 0, 0, 0, ()), ((0, 0, 0, 0, 0, 0, ()), (0, 0, 0, 0, 0, 0, ()), (0, 0, 0, 0, 0, 0, ()), (0, 0, 0, 0, 0, 0, ()), (0, 0, 0, 0, 0, 0, ()), (0, 0, 0, 0, 0, 0, ()), ()), ()) : Dq2), (1 : Int), ()), ())
  else
  (impl_firstState a0).bind fun y45 =>
  some ((y45.1.1, (0 : Int), ()), ())
def impl_FirstState_en : Entry := ⟨⟨[.v Uq4], [.v (.val Uq1), .v (.val (.int .i64))], false⟩, fun x => impl_FirstState x.1⟩
theorem qkk : Sound Tryz.prog G 26 impl_FirstState_en := qab (envS (l := [(64, impl_ValidLog_en), (66, impl_firstState_en)]) ⟨(qcq), (qgb), trivial⟩) [] Tryz.func26 (by kernel_rfl) rfl fun _ => by kernel_rfl
def impl_FixSensor : Option ((Dq22 × Unit) × Unit) :=
  some (((((1031798784, 1031798784, 1031798784, ()), (0, 0, 0, ()), 1, 0, ()) : Dq22), ()), ())
def impl_FixSensor_en : Entry := ⟨⟨[], [.v (.val Uq8)], false⟩, fun _ => impl_FixSensor⟩
theorem ql9 : Sound Tryz.prog G 117 impl_FixSensor_en := qab (envS (l := []) trivial) [] Tryz.func117 (by kernel_rfl) rfl fun _ => by kernel_rfl
def impl_isLeast_1 (a0 : Nat) : Option Dq9 :=
  some (((fLt .f32 a0 0), ()), ())
def impl_isLeast_1_en : Entry := ⟨⟨[.v (.flt .f32)], [.v (.val (.bool))], false⟩, fun x => impl_isLeast_1 x.1⟩
theorem qlv : Sound Tryz.prog G 84 impl_isLeast_1_en := qab (envS (l := []) trivial) [] Tryz.func84 (by kernel_rfl) rfl fun _ => by kernel_rfl
def slices_IndexFunc_float32_l2 (a0 : (List Nat)) (a1 : ((Nat × Unit) → Option Bool)) (s391 : (Int × Unit)) : Option ((Int × Unit) ⊕ Dq15) :=
  bif (iLt s391.1 (lenI a0)) then
    bif inB s391.1 (List.length a0) then
      (a1 ((List.getD a0 s391.1.toNat (0 : Nat)), ())).bind fun y394 =>
      bif y394 then
        Option.map Sum.inr (some ((s391.1, ()), ()))
      else
      some (Sum.inl ((iAdd .i64 s391.1 1), ()))
    else none
  else
  Option.map Sum.inr (some ((((-1 : Int) : Int), ()), ()))
def slices_IndexFunc_float32 (a0 : (List Nat)) (a1 : ((Nat × Unit) → Option Bool)) : Option Dq15 :=
  run (slices_IndexFunc_float32_l2 a0 a1) ((0 : Int), ())
def slices_IndexFunc_float32_en : Entry := ⟨⟨[.v (.list (.flt .f32)), .fn ⟨[.flt .f32], .bool⟩], [.v (.val (.int .i64))], false⟩, fun x => slices_IndexFunc_float32 x.1 x.2.1⟩
theorem qfv : Sound Tryz.prog G 125 slices_IndexFunc_float32_en := qab (envS (l := []) trivial) [(2, .vary [(8, .sc (.int .i64))])] Tryz.func125 (by kernel_rfl) rfl fun _ => by kernel_rfl
def slices_ContainsFunc_float32 (a0 : (List Nat)) (a1 : ((Nat × Unit) → Option Bool)) : Option Dq9 :=
  (slices_IndexFunc_float32 a0 a1).bind fun y389 =>
  some (((iLe 0 y389.1.1), ()), ())
def slices_ContainsFunc_float32_en : Entry := ⟨⟨[.v (.list (.flt .f32)), .fn ⟨[.flt .f32], .bool⟩], [.v (.val (.bool))], false⟩, fun x => slices_ContainsFunc_float32 x.1 x.2.1⟩
theorem qes : Sound Tryz.prog G 83 slices_ContainsFunc_float32_en := qab (envS (l := [(125, slices_IndexFunc_float32_en)]) ⟨(qfv), trivial⟩) [] Tryz.func83 (by kernel_rfl) rfl fun _ => by kernel_rfl
def impl_isLeast (a0 : (List Nat)) : Option Dq9 :=
  (impl_isFinite a0).bind fun y384 =>
  bif y384.1.1 then
    (slices_ContainsFunc_float32 a0 (fun (z385 : (Nat × Unit)) => (impl_isLeast_1 z385.1).map fun y => y.1.1)).bind fun y386 =>
    some (((! y386.1.1), ()), ())
  else some ((false, ()), ())
def impl_isLeast_en : Entry := ⟨⟨[.v (.list (.flt .f32))], [.v (.val (.bool))], false⟩, fun x => impl_isLeast x.1⟩
theorem qoe : Sound Tryz.prog G 44 impl_isLeast_en := qab (envS (l := [(39, impl_isFinite_en), (83, slices_ContainsFunc_float32_en), (84, impl_isLeast_1_en)]) ⟨(qa1), (qes), (qlv), trivial⟩) [] Tryz.func44 (by kernel_rfl) rfl fun _ => by kernel_rfl
theorem qq7 : Sound Tryz.prog G 124 math_sqrt_en := qok Tryz.func124 (by kernel_rfl) (by kernel_rfl) (by kernel_rfl) (by kernel_rfl)
def math_Sqrt (a0 : Nat) : Option Dq17 :=
  (math_sqrt a0).bind fun y399 =>
  some ((y399.1.1, ()), ())
def math_Sqrt_en : Entry := ⟨⟨[.v (.flt .f64)], [.v (.val (.flt .f64))], false⟩, fun x => math_Sqrt x.1⟩
theorem qk6 : Sound Tryz.prog G 82 math_Sqrt_en := qab (envS (l := [(124, math_sqrt_en)]) ⟨(qq7), trivial⟩) [] Tryz.func82 (by kernel_rfl) rfl fun _ => by kernel_rfl
def impl_root (a0 : Nat) : Option Dq17 :=
  (fConv .f32 .f64 a0).bind fun y396 =>
  (math_Sqrt y396).bind fun y397 =>
  (fConv .f64 .f32 y397.1.1).bind fun y398 =>
  some ((y398, ()), ())
def impl_root_en : Entry := ⟨⟨[.v (.flt .f32)], [.v (.val (.flt .f32))], false⟩, fun x => impl_root x.1⟩
theorem qet : Sound Tryz.prog G 42 impl_root_en := qab (envS (l := [(82, math_Sqrt_en)]) ⟨(qk6), trivial⟩) [] Tryz.func42 (by kernel_rfl) rfl fun _ => by kernel_rfl
def impl_isFiniteRoot (a0 : (Vec 6 (Vec 6 Nat))) : Option Dq9 :=
  (impl_isFinite ([Vec.getD 6 (Vec.getD 6 a0 0 ((0, 0, 0, 0, 0, 0, ()) : (Vec 6 Nat))) 0 (0 : Nat), Vec.getD 6 (Vec.getD 6 a0 0 ((0, 0, 0, 0, 0, 0, ()) : (Vec 6 Nat))) 1 (0 : Nat), Vec.getD 6 (Vec.getD 6 a0 0 ((0, 0, 0, 0, 0, 0, ()) : (Vec 6 Nat))) 2 (0 : Nat), Vec.getD 6 (Vec.getD 6 a0 0 ((0, 0, 0, 0, 0, 0, ()) : (Vec 6 Nat))) 3 (0 : Nat), Vec.getD 6 (Vec.getD 6 a0 0 ((0, 0, 0, 0, 0, 0, ()) : (Vec 6 Nat))) 4 (0 : Nat), Vec.getD 6 (Vec.getD 6 a0 0 ((0, 0, 0, 0, 0, 0, ()) : (Vec 6 Nat))) 5 (0 : Nat)] : (List Nat))).bind fun y607 =>
  bif (! y607.1.1) then some ((false, ()), ()) else
  (impl_isFinite ([Vec.getD 6 (Vec.getD 6 a0 1 ((0, 0, 0, 0, 0, 0, ()) : (Vec 6 Nat))) 0 (0 : Nat), Vec.getD 6 (Vec.getD 6 a0 1 ((0, 0, 0, 0, 0, 0, ()) : (Vec 6 Nat))) 1 (0 : Nat), Vec.getD 6 (Vec.getD 6 a0 1 ((0, 0, 0, 0, 0, 0, ()) : (Vec 6 Nat))) 2 (0 : Nat), Vec.getD 6 (Vec.getD 6 a0 1 ((0, 0, 0, 0, 0, 0, ()) : (Vec 6 Nat))) 3 (0 : Nat), Vec.getD 6 (Vec.getD 6 a0 1 ((0, 0, 0, 0, 0, 0, ()) : (Vec 6 Nat))) 4 (0 : Nat), Vec.getD 6 (Vec.getD 6 a0 1 ((0, 0, 0, 0, 0, 0, ()) : (Vec 6 Nat))) 5 (0 : Nat)] : (List Nat))).bind fun y609 =>
  bif (! y609.1.1) then some ((false, ()), ()) else
  (impl_isFinite ([Vec.getD 6 (Vec.getD 6 a0 2 ((0, 0, 0, 0, 0, 0, ()) : (Vec 6 Nat))) 0 (0 : Nat), Vec.getD 6 (Vec.getD 6 a0 2 ((0, 0, 0, 0, 0, 0, ()) : (Vec 6 Nat))) 1 (0 : Nat), Vec.getD 6 (Vec.getD 6 a0 2 ((0, 0, 0, 0, 0, 0, ()) : (Vec 6 Nat))) 2 (0 : Nat), Vec.getD 6 (Vec.getD 6 a0 2 ((0, 0, 0, 0, 0, 0, ()) : (Vec 6 Nat))) 3 (0 : Nat), Vec.getD 6 (Vec.getD 6 a0 2 ((0, 0, 0, 0, 0, 0, ()) : (Vec 6 Nat))) 4 (0 : Nat), Vec.getD 6 (Vec.getD 6 a0 2 ((0, 0, 0, 0, 0, 0, ()) : (Vec 6 Nat))) 5 (0 : Nat)] : (List Nat))).bind fun y611 =>
  bif (! y611.1.1) then some ((false, ()), ()) else
  (impl_isFinite ([Vec.getD 6 (Vec.getD 6 a0 3 ((0, 0, 0, 0, 0, 0, ()) : (Vec 6 Nat))) 0 (0 : Nat), Vec.getD 6 (Vec.getD 6 a0 3 ((0, 0, 0, 0, 0, 0, ()) : (Vec 6 Nat))) 1 (0 : Nat), Vec.getD 6 (Vec.getD 6 a0 3 ((0, 0, 0, 0, 0, 0, ()) : (Vec 6 Nat))) 2 (0 : Nat), Vec.getD 6 (Vec.getD 6 a0 3 ((0, 0, 0, 0, 0, 0, ()) : (Vec 6 Nat))) 3 (0 : Nat), Vec.getD 6 (Vec.getD 6 a0 3 ((0, 0, 0, 0, 0, 0, ()) : (Vec 6 Nat))) 4 (0 : Nat), Vec.getD 6 (Vec.getD 6 a0 3 ((0, 0, 0, 0, 0, 0, ()) : (Vec 6 Nat))) 5 (0 : Nat)] : (List Nat))).bind fun y613 =>
  bif (! y613.1.1) then some ((false, ()), ()) else
  (impl_isFinite ([Vec.getD 6 (Vec.getD 6 a0 4 ((0, 0, 0, 0, 0, 0, ()) : (Vec 6 Nat))) 0 (0 : Nat), Vec.getD 6 (Vec.getD 6 a0 4 ((0, 0, 0, 0, 0, 0, ()) : (Vec 6 Nat))) 1 (0 : Nat), Vec.getD 6 (Vec.getD 6 a0 4 ((0, 0, 0, 0, 0, 0, ()) : (Vec 6 Nat))) 2 (0 : Nat), Vec.getD 6 (Vec.getD 6 a0 4 ((0, 0, 0, 0, 0, 0, ()) : (Vec 6 Nat))) 3 (0 : Nat), Vec.getD 6 (Vec.getD 6 a0 4 ((0, 0, 0, 0, 0, 0, ()) : (Vec 6 Nat))) 4 (0 : Nat), Vec.getD 6 (Vec.getD 6 a0 4 ((0, 0, 0, 0, 0, 0, ()) : (Vec 6 Nat))) 5 (0 : Nat)] : (List Nat))).bind fun y615 =>
  bif (! y615.1.1) then some ((false, ()), ()) else
  (impl_isFinite ([Vec.getD 6 (Vec.getD 6 a0 5 ((0, 0, 0, 0, 0, 0, ()) : (Vec 6 Nat))) 0 (0 : Nat), Vec.getD 6 (Vec.getD 6 a0 5 ((0, 0, 0, 0, 0, 0, ()) : (Vec 6 Nat))) 1 (0 : Nat), Vec.getD 6 (Vec.getD 6 a0 5 ((0, 0, 0, 0, 0, 0, ()) : (Vec 6 Nat))) 2 (0 : Nat), Vec.getD 6 (Vec.getD 6 a0 5 ((0, 0, 0, 0, 0, 0, ()) : (Vec 6 Nat))) 3 (0 : Nat), Vec.getD 6 (Vec.getD 6 a0 5 ((0, 0, 0, 0, 0, 0, ()) : (Vec 6 Nat))) 4 (0 : Nat), Vec.getD 6 (Vec.getD 6 a0 5 ((0, 0, 0, 0, 0, 0, ()) : (Vec 6 Nat))) 5 (0 : Nat)] : (List Nat))).bind fun y617 =>
  bif (! y617.1.1) then some ((false, ()), ()) else some ((true, ()), ())
def impl_isFiniteRoot_en : Entry := ⟨⟨[.ro (.arr 6 (.arr 6 (.flt .f32)))], [.v (.val (.bool))], false⟩, fun x => impl_isFiniteRoot x.1⟩
theorem qiz : Sound Tryz.prog G 206 impl_isFiniteRoot_en := qab (envS (l := [(39, impl_isFinite_en)]) ⟨(qa1), trivial⟩) [(2, .unroll 7)] Tryz.func206 (by kernel_rfl) rfl fun _ => by kernel_rfl
def impl_LowerOf_l21 (s485 : Dq8) (s524 : Dq8) (x535 : Nat) (x536 : Nat) (s548 : Dq8) : Option (Dq8 ⊕ (Dq8 ⊕ (Dq8 ⊕ Dq11))) :=
  bif (iLt s548.1 6) then
    bif inB s548.1 6 then
      bif inB s485.1 9 then
        let x550 := Vec.getD 9 (Vec.getD 6 s548.2.1 s548.1.toNat ((0, 0, 0, 0, 0, 0, 0, 0, 0, ()) : (Vec 9 Nat))) s485.1.toNat (0 : Nat)
        bif inB s548.1 6 then
          bif inB s524.1 9 then
            let x551 := Vec.getD 9 (Vec.getD 6 s548.2.1 s548.1.toNat ((0, 0, 0, 0, 0, 0, 0, 0, 0, ()) : (Vec 9 Nat))) s524.1.toNat (0 : Nat)
            let x554 := fAdd .f32 (fMul .f32 x535 x550) (fMul .f32 x536 x551)
            bif inB s548.1 6 then
              bif inB s485.1 9 then
                bif inB s548.1 6 then
                  bif inB s524.1 9 then
                    some (Sum.inl ((iAdd .i64 s548.1 1), Vec.set 6 (Vec.set 6 s548.2.1 s548.1.toNat (Vec.set 9 (Vec.getD 6 s548.2.1 s548.1.toNat ((0, 0, 0, 0, 0, 0, 0, 0, 0, ()) : (Vec 9 Nat))) s485.1.toNat x554)) s548.1.toNat (Vec.set 9 (Vec.getD 6 (Vec.set 6 s548.2.1 s548.1.toNat (Vec.set 9 (Vec.getD 6 s548.2.1 s548.1.toNat ((0, 0, 0, 0, 0, 0, 0, 0, 0, ()) : (Vec 9 Nat))) s485.1.toNat x554)) s548.1.toNat ((0, 0, 0, 0, 0, 0, 0, 0, 0, ()) : (Vec 9 Nat))) s524.1.toNat (fSub .f32 (fMul .f32 x535 x551) (fMul .f32 x536 x550))), ()))
                  else none
                else none
              else none
            else none
          else none
        else none
      else none
    else none
  else
  Option.map Sum.inr (
    bif inB s485.1 6 then
      bif inB s524.1 9 then
        some (Sum.inl ((iAdd .i64 s524.1 1), Vec.set 6 s548.2.1 s485.1.toNat (Vec.set 9 (Vec.getD 6 s548.2.1 s485.1.toNat ((0, 0, 0, 0, 0, 0, 0, 0, 0, ()) : (Vec 9 Nat))) s524.1.toNat (0 : Nat)), ()))
      else none
    else none)
def impl_LowerOf_l11 (s485 : Dq8) (s524 : Dq8) : Option (Dq8 ⊕ (Dq8 ⊕ Dq11)) :=
  bif (iLt s524.1 9) then
    bif inB s485.1 6 then
      bif inB s524.1 9 then
        let x526 := Vec.getD 9 (Vec.getD 6 s524.2.1 s485.1.toNat ((0, 0, 0, 0, 0, 0, 0, 0, 0, ()) : (Vec 9 Nat))) s524.1.toNat (0 : Nat)
        bif (fEq .f32 x526 0) then
          some (Sum.inl ((iAdd .i64 s524.1 1), s524.2.1, ()))
        else
        bif inB s485.1 6 then
          bif inB s485.1 9 then
            let x529 := Vec.getD 9 (Vec.getD 6 s524.2.1 s485.1.toNat ((0, 0, 0, 0, 0, 0, 0, 0, 0, ()) : (Vec 9 Nat))) s485.1.toNat (0 : Nat)
            (impl_root (fAdd .f32 (fMul .f32 x529 x529) (fMul .f32 x526 x526))).bind fun y533 =>
            bif (fEq .f32 y533.1.1 0) then
              Option.map Sum.inr (Option.map Sum.inr (some (((((0, 0, 0, 0, 0, 0, ()), (0, 0, 0, 0, 0, 0, ()), (0, 0, 0, 0, 0, 0, ()), (0, 0, 0, 0, 0, 0, ()), (0, 0, 0, 0, 0, 0, ()), (0, 0, 0, 0, 0, 0, ()), ()) : (Vec 6 (Vec 6 Nat))), (4 : Int), ()), ())))
            else
            let x535 := fDiv .f32 x529 y533.1.1
            let x536 := fDiv .f32 x526 y533.1.1
            run (impl_LowerOf_l21 s485 s524 x535 x536) (s485.1, s524.2.1, ())
          else none
        else none
      else none
    else none
  else
  Option.map Sum.inr (some (Sum.inl ((iAdd .i64 s485.1 1), s524.2.1, ())))
def impl_LowerOf_l39 (s588 : Dq13) (s599 : Dq13) : Option (Dq13 ⊕ (Dq13 ⊕ Dq11)) :=
  bif (iLt s599.1 6) then
    bif inB s599.1 6 then
      bif inB s588.1 6 then
        bif inB s599.1 6 then
          bif inB s588.1 6 then
            some (Sum.inl ((iAdd .i64 s599.1 1), Vec.set 6 s599.2.1 s599.1.toNat (Vec.set 6 (Vec.getD 6 s599.2.1 s599.1.toNat ((0, 0, 0, 0, 0, 0, ()) : (Vec 6 Nat))) s588.1.toNat (fNeg .f32 (Vec.getD 6 (Vec.getD 6 s599.2.1 s599.1.toNat ((0, 0, 0, 0, 0, 0, ()) : (Vec 6 Nat))) s588.1.toNat (0 : Nat)))), ()))
          else none
        else none
      else none
    else none
  else
  Option.map Sum.inr (some (Sum.inl ((iAdd .i64 s588.1 1), s599.2.1, ())))
def impl_LowerOf_l35 (s588 : Dq13) : Option (Dq13 ⊕ Dq11) :=
  bif (iLt s588.1 6) then
    bif inB s588.1 6 then
      bif inB s588.1 6 then
        bif (! (fLt .f32 (Vec.getD 6 (Vec.getD 6 s588.2.1 s588.1.toNat ((0, 0, 0, 0, 0, 0, ()) : (Vec 6 Nat))) s588.1.toNat (0 : Nat)) 0)) then
          some (Sum.inl ((iAdd .i64 s588.1 1), s588.2.1, ()))
        else run (impl_LowerOf_l39 s588) (s588.1, s588.2.1, ())
      else none
    else none
  else
  Option.map Sum.inr (
    (impl_isFiniteRoot s588.2.1).bind fun y605 =>
    bif (! y605.1.1) then
      some (((((0, 0, 0, 0, 0, 0, ()), (0, 0, 0, 0, 0, 0, ()), (0, 0, 0, 0, 0, 0, ()), (0, 0, 0, 0, 0, 0, ()), (0, 0, 0, 0, 0, 0, ()), (0, 0, 0, 0, 0, 0, ()), ()) : (Vec 6 (Vec 6 Nat))), (4 : Int), ()), ())
    else some ((s588.2.1, (0 : Int), ()), ()))
def impl_LowerOf_l30 (s485 : Dq8) (s566 : Dq13) : Option (Dq13 ⊕ Dq11) :=
  bif (iLt s566.1 6) then
    bif inB s566.1 6 then
      let x568 := iAdd .i64 s566.1 1
      bif inS 0 x568 6 then
        bif inB s566.1 6 then
          bif Nat.ble (0 + x568.toNat) 6 then
            some (Sum.inl ((iAdd .i64 s566.1 1), Vec.set 6 s566.2.1 s566.1.toNat (Vec.ofList (0 : Nat) 6 (spliceL (Vec.toList 6 (Vec.getD 6 s566.2.1 s566.1.toNat ((0, 0, 0, 0, 0, 0, ()) : (Vec 6 Nat)))) 0 (List.take x568.toNat ([Vec.getD 9 (Vec.getD 6 s485.2.1 s566.1.toNat ((0, 0, 0, 0, 0, 0, 0, 0, 0, ()) : (Vec 9 Nat))) 0 (0 : Nat), Vec.getD 9 (Vec.getD 6 s485.2.1 s566.1.toNat ((0, 0, 0, 0, 0, 0, 0, 0, 0, ()) : (Vec 9 Nat))) 1 (0 : Nat), Vec.getD 9 (Vec.getD 6 s485.2.1 s566.1.toNat ((0, 0, 0, 0, 0, 0, 0, 0, 0, ()) : (Vec 9 Nat))) 2 (0 : Nat), Vec.getD 9 (Vec.getD 6 s485.2.1 s566.1.toNat ((0, 0, 0, 0, 0, 0, 0, 0, 0, ()) : (Vec 9 Nat))) 3 (0 : Nat), Vec.getD 9 (Vec.getD 6 s485.2.1 s566.1.toNat ((0, 0, 0, 0, 0, 0, 0, 0, 0, ()) : (Vec 9 Nat))) 4 (0 : Nat), Vec.getD 9 (Vec.getD 6 s485.2.1 s566.1.toNat ((0, 0, 0, 0, 0, 0, 0, 0, 0, ()) : (Vec 9 Nat))) 5 (0 : Nat), Vec.getD 9 (Vec.getD 6 s485.2.1 s566.1.toNat ((0, 0, 0, 0, 0, 0, 0, 0, 0, ()) : (Vec 9 Nat))) 6 (0 : Nat), Vec.getD 9 (Vec.getD 6 s485.2.1 s566.1.toNat ((0, 0, 0, 0, 0, 0, 0, 0, 0, ()) : (Vec 9 Nat))) 7 (0 : Nat), Vec.getD 9 (Vec.getD 6 s485.2.1 s566.1.toNat ((0, 0, 0, 0, 0, 0, 0, 0, 0, ()) : (Vec 9 Nat))) 8 (0 : Nat)] : (List Nat))))), ()))
          else none
        else none
      else none
    else none
  else
  Option.map Sum.inr (run (impl_LowerOf_l35) ((0 : Int), s566.2.1, ()))
def impl_LowerOf_l8 (s485 : Dq8) : Option (Dq8 ⊕ Dq11) :=
  bif (iLt s485.1 6) then
    run (impl_LowerOf_l11 s485) ((iAdd .i64 s485.1 1), s485.2.1, ())
  else
  Option.map Sum.inr (run (impl_LowerOf_l30 s485) ((0 : Int), (((0, 0, 0, 0, 0, 0, ()), (0, 0, 0, 0, 0, 0, ()), (0, 0, 0, 0, 0, 0, ()), (0, 0, 0, 0, 0, 0, ()), (0, 0, 0, 0, 0, 0, ()), (0, 0, 0, 0, 0, 0, ()), ()) : (Vec 6 (Vec 6 Nat))), ()))
def impl_LowerOf_l2 (a0 : (Vec 6 (Vec 9 Nat))) (s404 : (Int × Unit)) : Option ((Int × Unit) ⊕ Dq11) :=
  bif (iLt s404.1 6) then
    bif inB s404.1 6 then
      (impl_isFinite ([Vec.getD 9 (Vec.getD 6 a0 s404.1.toNat ((0, 0, 0, 0, 0, 0, 0, 0, 0, ()) : (Vec 9 Nat))) 0 (0 : Nat), Vec.getD 9 (Vec.getD 6 a0 s404.1.toNat ((0, 0, 0, 0, 0, 0, 0, 0, 0, ()) : (Vec 9 Nat))) 1 (0 : Nat), Vec.getD 9 (Vec.getD 6 a0 s404.1.toNat ((0, 0, 0, 0, 0, 0, 0, 0, 0, ()) : (Vec 9 Nat))) 2 (0 : Nat), Vec.getD 9 (Vec.getD 6 a0 s404.1.toNat ((0, 0, 0, 0, 0, 0, 0, 0, 0, ()) : (Vec 9 Nat))) 3 (0 : Nat), Vec.getD 9 (Vec.getD 6 a0 s404.1.toNat ((0, 0, 0, 0, 0, 0, 0, 0, 0, ()) : (Vec 9 Nat))) 4 (0 : Nat), Vec.getD 9 (Vec.getD 6 a0 s404.1.toNat ((0, 0, 0, 0, 0, 0, 0, 0, 0, ()) : (Vec 9 Nat))) 5 (0 : Nat), Vec.getD 9 (Vec.getD 6 a0 s404.1.toNat ((0, 0, 0, 0, 0, 0, 0, 0, 0, ()) : (Vec 9 Nat))) 6 (0 : Nat), Vec.getD 9 (Vec.getD 6 a0 s404.1.toNat ((0, 0, 0, 0, 0, 0, 0, 0, 0, ()) : (Vec 9 Nat))) 7 (0 : Nat), Vec.getD 9 (Vec.getD 6 a0 s404.1.toNat ((0, 0, 0, 0, 0, 0, 0, 0, 0, ()) : (Vec 9 Nat))) 8 (0 : Nat)] : (List Nat))).bind fun y406 =>
      bif (! y406.1.1) then
        Option.map Sum.inr (some (((((0, 0, 0, 0, 0, 0, ()), (0, 0, 0, 0, 0, 0, ()), (0, 0, 0, 0, 0, 0, ()), (0, 0, 0, 0, 0, 0, ()), (0, 0, 0, 0, 0, 0, ()), (0, 0, 0, 0, 0, 0, ()), ()) : (Vec 6 (Vec 6 Nat))), (1 : Int), ()), ()))
      else
      some (Sum.inl ((iAdd .i64 s404.1 1), ()))
    else none
  else
  Option.map Sum.inr (run (impl_LowerOf_l8) ((0 : Int), a0, ()))
def impl_LowerOf (a0 : (Vec 6 (Vec 9 Nat))) : Option Dq11 :=
  run (impl_LowerOf_l2 a0) ((0 : Int), ())
def impl_LowerOf_en : Entry := ⟨⟨[.v (.arr 6 (.arr 9 (.flt .f32)))], [.v (.val (.arr 6 (.arr 6 (.flt .f32)))), .v (.val (.int .i64))], false⟩, fun x => impl_LowerOf x.1⟩
theorem qoq : Sound Tryz.prog G 194 impl_LowerOf_en := qab (envS (l := [(39, impl_isFinite_en), (42, impl_root_en), (206, impl_isFiniteRoot_en)]) ⟨(qa1), (qet), (qiz), trivial⟩) [(2, .vary [(19, .sc (.int .i64))]), (8, .vary [(29, .sc (.int .i64)), (1, .box (.val (.arr 6 (.arr 9 (.flt .f32)))))]), (11, .vary [(6, .sc (.int .i64)), (1, .box (.val (.arr 6 (.arr 9 (.flt .f32)))))]), (21, .vary [(12, .sc (.int .i64)), (1, .box (.val (.arr 6 (.arr 9 (.flt .f32)))))]), (30, .vary [(110, .sc (.int .i64)), (15, .box (.val (.arr 6 (.arr 6 (.flt .f32)))))]), (35, .vary [(123, .sc (.int .i64)), (15, .box (.val (.arr 6 (.arr 6 (.flt .f32)))))]), (39, .vary [(18, .sc (.int .i64)), (15, .box (.val (.arr 6 (.arr 6 (.flt .f32)))))])] Tryz.func194 (by kernel_rfl) rfl fun _ => by kernel_rfl
def impl_rooted (a0 : (Vec 6 Nat)) (a1 : (Vec 6 (Vec 9 Nat))) : Option Dq12 :=
  (impl_LowerOf a1).bind fun y400 =>
  bif (! (iEq y400.1.2.1 0)) then
    some (((((0, 0, 0, 0, 0, 0, ()), ((0, 0, 0, 0, 0, 0, ()), (0, 0, 0, 0, 0, 0, ()), (0, 0, 0, 0, 0, 0, ()), (0, 0, 0, 0, 0, 0, ()), (0, 0, 0, 0, 0, 0, ()), (0, 0, 0, 0, 0, 0, ()), ()), ()) : Dq2), (4 : Int), ()), ())
  else
  (impl_isFinite ([Vec.getD 6 a0 0 (0 : Nat), Vec.getD 6 a0 1 (0 : Nat), Vec.getD 6 a0 2 (0 : Nat), Vec.getD 6 a0 3 (0 : Nat), Vec.getD 6 a0 4 (0 : Nat), Vec.getD 6 a0 5 (0 : Nat)] : (List Nat))).bind fun y402 =>
  bif (! y402.1.1) then
    some (((((0, 0, 0, 0, 0, 0, ()), ((0, 0, 0, 0, 0, 0, ()), (0, 0, 0, 0, 0, 0, ()), (0, 0, 0, 0, 0, 0, ()), (0, 0, 0, 0, 0, 0, ()), (0, 0, 0, 0, 0, 0, ()), (0, 0, 0, 0, 0, 0, ()), ()), ()) : Dq2), (4 : Int), ()), ())
  else some ((((a0, y400.1.1, ()) : Dq2), (0 : Int), ()), ())
def impl_rooted_en : Entry := ⟨⟨[.v (.arr 6 (.flt .f32)), .v (.arr 6 (.arr 9 (.flt .f32)))], [.v (.val Uq1), .v (.val (.int .i64))], false⟩, fun x => impl_rooted x.1 x.2.1⟩
theorem qis : Sound Tryz.prog G 153 impl_rooted_en := qab (envS (l := [(39, impl_isFinite_en), (194, impl_LowerOf_en)]) ⟨(qa1), (qoq), trivial⟩) [] Tryz.func153 (by kernel_rfl) rfl fun _ => by kernel_rfl
def impl_Predict (a0 : Dq2) (a1 : Nat) (a2 : (Vec 3 Nat)) : Option Dq12 :=
  (impl_ValidState a0).bind fun y265 =>
  bif (! y265.1.1) then
    some (((((0, 0, 0, 0, 0, 0, ()), ((0, 0, 0, 0, 0, 0, ()), (0, 0, 0, 0, 0, 0, ()), (0, 0, 0, 0, 0, 0, ()), (0, 0, 0, 0, 0, 0, ()), (0, 0, 0, 0, 0, 0, ()), (0, 0, 0, 0, 0, 0, ()), ()), ()) : Dq2), (1 : Int), ()), ())
  else
  (impl_isLeast ([a1] : (List Nat))).bind fun y267 =>
  bif (! y267.1.1) then
    some (((((0, 0, 0, 0, 0, 0, ()), ((0, 0, 0, 0, 0, 0, ()), (0, 0, 0, 0, 0, 0, ()), (0, 0, 0, 0, 0, 0, ()), (0, 0, 0, 0, 0, 0, ()), (0, 0, 0, 0, 0, 0, ()), (0, 0, 0, 0, 0, 0, ()), ()), ()) : Dq2), (2 : Int), ()), ())
  else
  (impl_isLeast ([Vec.getD 3 a2 0 (0 : Nat), Vec.getD 3 a2 1 (0 : Nat), Vec.getD 3 a2 2 (0 : Nat)] : (List Nat))).bind fun y269 =>
  bif (! y269.1.1) then
    some (((((0, 0, 0, 0, 0, 0, ()), ((0, 0, 0, 0, 0, 0, ()), (0, 0, 0, 0, 0, 0, ()), (0, 0, 0, 0, 0, 0, ()), (0, 0, 0, 0, 0, 0, ()), (0, 0, 0, 0, 0, 0, ()), (0, 0, 0, 0, 0, 0, ()), ()), ()) : Dq2), (2 : Int), ()), ())
  else
  let x274 := fAdd .f32 (Vec.getD 6 a0.1 0 (0 : Nat)) (fMul .f32 (Vec.getD 6 a0.1 3 (0 : Nat)) a1)
  (impl_root a1).bind fun y306 =>
  let x311 := fAdd .f32 (Vec.getD 6 (Vec.set 6 a0.1 0 x274) 1 (0 : Nat)) (fMul .f32 (Vec.getD 6 a0.1 4 (0 : Nat)) a1)
  (impl_root a1).bind fun y343 =>
  (impl_root a1).bind fun y380 =>
  (impl_rooted (Vec.set 6 (Vec.set 6 (Vec.set 6 a0.1 0 x274) 1 x311) 2 (fAdd .f32 (Vec.getD 6 (Vec.set 6 (Vec.set 6 a0.1 0 x274) 1 x311) 2 (0 : Nat)) (fMul .f32 (Vec.getD 6 a0.1 5 (0 : Nat)) a1))) ((((fAdd .f32 (Vec.getD 6 (Vec.getD 6 a0.2.1 0 ((0, 0, 0, 0, 0, 0, ()) : (Vec 6 Nat))) 0 (0 : Nat)) (fMul .f32 a1 (Vec.getD 6 (Vec.getD 6 a0.2.1 3 ((0, 0, 0, 0, 0, 0, ()) : (Vec 6 Nat))) 0 (0 : Nat)))), (fAdd .f32 (Vec.getD 6 (Vec.getD 6 a0.2.1 0 ((0, 0, 0, 0, 0, 0, ()) : (Vec 6 Nat))) 1 (0 : Nat)) (fMul .f32 a1 (Vec.getD 6 (Vec.getD 6 a0.2.1 3 ((0, 0, 0, 0, 0, 0, ()) : (Vec 6 Nat))) 1 (0 : Nat)))), (fAdd .f32 (Vec.getD 6 (Vec.getD 6 a0.2.1 0 ((0, 0, 0, 0, 0, 0, ()) : (Vec 6 Nat))) 2 (0 : Nat)) (fMul .f32 a1 (Vec.getD 6 (Vec.getD 6 a0.2.1 3 ((0, 0, 0, 0, 0, 0, ()) : (Vec 6 Nat))) 2 (0 : Nat)))), (fAdd .f32 (Vec.getD 6 (Vec.getD 6 a0.2.1 0 ((0, 0, 0, 0, 0, 0, ()) : (Vec 6 Nat))) 3 (0 : Nat)) (fMul .f32 a1 (Vec.getD 6 (Vec.getD 6 a0.2.1 3 ((0, 0, 0, 0, 0, 0, ()) : (Vec 6 Nat))) 3 (0 : Nat)))), (fAdd .f32 (Vec.getD 6 (Vec.getD 6 a0.2.1 0 ((0, 0, 0, 0, 0, 0, ()) : (Vec 6 Nat))) 4 (0 : Nat)) (fMul .f32 a1 (Vec.getD 6 (Vec.getD 6 a0.2.1 3 ((0, 0, 0, 0, 0, 0, ()) : (Vec 6 Nat))) 4 (0 : Nat)))), (fAdd .f32 (Vec.getD 6 (Vec.getD 6 a0.2.1 0 ((0, 0, 0, 0, 0, 0, ()) : (Vec 6 Nat))) 5 (0 : Nat)) (fMul .f32 a1 (Vec.getD 6 (Vec.getD 6 a0.2.1 3 ((0, 0, 0, 0, 0, 0, ()) : (Vec 6 Nat))) 5 (0 : Nat)))), 0, 0, 0, ()), ((fAdd .f32 (Vec.getD 6 (Vec.getD 6 a0.2.1 1 ((0, 0, 0, 0, 0, 0, ()) : (Vec 6 Nat))) 0 (0 : Nat)) (fMul .f32 a1 (Vec.getD 6 (Vec.getD 6 a0.2.1 4 ((0, 0, 0, 0, 0, 0, ()) : (Vec 6 Nat))) 0 (0 : Nat)))), (fAdd .f32 (Vec.getD 6 (Vec.getD 6 a0.2.1 1 ((0, 0, 0, 0, 0, 0, ()) : (Vec 6 Nat))) 1 (0 : Nat)) (fMul .f32 a1 (Vec.getD 6 (Vec.getD 6 a0.2.1 4 ((0, 0, 0, 0, 0, 0, ()) : (Vec 6 Nat))) 1 (0 : Nat)))), (fAdd .f32 (Vec.getD 6 (Vec.getD 6 a0.2.1 1 ((0, 0, 0, 0, 0, 0, ()) : (Vec 6 Nat))) 2 (0 : Nat)) (fMul .f32 a1 (Vec.getD 6 (Vec.getD 6 a0.2.1 4 ((0, 0, 0, 0, 0, 0, ()) : (Vec 6 Nat))) 2 (0 : Nat)))), (fAdd .f32 (Vec.getD 6 (Vec.getD 6 a0.2.1 1 ((0, 0, 0, 0, 0, 0, ()) : (Vec 6 Nat))) 3 (0 : Nat)) (fMul .f32 a1 (Vec.getD 6 (Vec.getD 6 a0.2.1 4 ((0, 0, 0, 0, 0, 0, ()) : (Vec 6 Nat))) 3 (0 : Nat)))), (fAdd .f32 (Vec.getD 6 (Vec.getD 6 a0.2.1 1 ((0, 0, 0, 0, 0, 0, ()) : (Vec 6 Nat))) 4 (0 : Nat)) (fMul .f32 a1 (Vec.getD 6 (Vec.getD 6 a0.2.1 4 ((0, 0, 0, 0, 0, 0, ()) : (Vec 6 Nat))) 4 (0 : Nat)))), (fAdd .f32 (Vec.getD 6 (Vec.getD 6 a0.2.1 1 ((0, 0, 0, 0, 0, 0, ()) : (Vec 6 Nat))) 5 (0 : Nat)) (fMul .f32 a1 (Vec.getD 6 (Vec.getD 6 a0.2.1 4 ((0, 0, 0, 0, 0, 0, ()) : (Vec 6 Nat))) 5 (0 : Nat)))), 0, 0, 0, ()), ((fAdd .f32 (Vec.getD 6 (Vec.getD 6 a0.2.1 2 ((0, 0, 0, 0, 0, 0, ()) : (Vec 6 Nat))) 0 (0 : Nat)) (fMul .f32 a1 (Vec.getD 6 (Vec.getD 6 a0.2.1 5 ((0, 0, 0, 0, 0, 0, ()) : (Vec 6 Nat))) 0 (0 : Nat)))), (fAdd .f32 (Vec.getD 6 (Vec.getD 6 a0.2.1 2 ((0, 0, 0, 0, 0, 0, ()) : (Vec 6 Nat))) 1 (0 : Nat)) (fMul .f32 a1 (Vec.getD 6 (Vec.getD 6 a0.2.1 5 ((0, 0, 0, 0, 0, 0, ()) : (Vec 6 Nat))) 1 (0 : Nat)))), (fAdd .f32 (Vec.getD 6 (Vec.getD 6 a0.2.1 2 ((0, 0, 0, 0, 0, 0, ()) : (Vec 6 Nat))) 2 (0 : Nat)) (fMul .f32 a1 (Vec.getD 6 (Vec.getD 6 a0.2.1 5 ((0, 0, 0, 0, 0, 0, ()) : (Vec 6 Nat))) 2 (0 : Nat)))), (fAdd .f32 (Vec.getD 6 (Vec.getD 6 a0.2.1 2 ((0, 0, 0, 0, 0, 0, ()) : (Vec 6 Nat))) 3 (0 : Nat)) (fMul .f32 a1 (Vec.getD 6 (Vec.getD 6 a0.2.1 5 ((0, 0, 0, 0, 0, 0, ()) : (Vec 6 Nat))) 3 (0 : Nat)))), (fAdd .f32 (Vec.getD 6 (Vec.getD 6 a0.2.1 2 ((0, 0, 0, 0, 0, 0, ()) : (Vec 6 Nat))) 4 (0 : Nat)) (fMul .f32 a1 (Vec.getD 6 (Vec.getD 6 a0.2.1 5 ((0, 0, 0, 0, 0, 0, ()) : (Vec 6 Nat))) 4 (0 : Nat)))), (fAdd .f32 (Vec.getD 6 (Vec.getD 6 a0.2.1 2 ((0, 0, 0, 0, 0, 0, ()) : (Vec 6 Nat))) 5 (0 : Nat)) (fMul .f32 a1 (Vec.getD 6 (Vec.getD 6 a0.2.1 5 ((0, 0, 0, 0, 0, 0, ()) : (Vec 6 Nat))) 5 (0 : Nat)))), 0, 0, 0, ()), ((Vec.getD 6 (Vec.getD 6 a0.2.1 3 ((0, 0, 0, 0, 0, 0, ()) : (Vec 6 Nat))) 0 (0 : Nat)), (Vec.getD 6 (Vec.getD 6 a0.2.1 3 ((0, 0, 0, 0, 0, 0, ()) : (Vec 6 Nat))) 1 (0 : Nat)), (Vec.getD 6 (Vec.getD 6 a0.2.1 3 ((0, 0, 0, 0, 0, 0, ()) : (Vec 6 Nat))) 2 (0 : Nat)), (Vec.getD 6 (Vec.getD 6 a0.2.1 3 ((0, 0, 0, 0, 0, 0, ()) : (Vec 6 Nat))) 3 (0 : Nat)), (Vec.getD 6 (Vec.getD 6 a0.2.1 3 ((0, 0, 0, 0, 0, 0, ()) : (Vec 6 Nat))) 4 (0 : Nat)), (Vec.getD 6 (Vec.getD 6 a0.2.1 3 ((0, 0, 0, 0, 0, 0, ()) : (Vec 6 Nat))) 5 (0 : Nat)), (fMul .f32 (Vec.getD 3 a2 0 (0 : Nat)) y306.1.1), 0, 0, ()), ((Vec.getD 6 (Vec.getD 6 a0.2.1 4 ((0, 0, 0, 0, 0, 0, ()) : (Vec 6 Nat))) 0 (0 : Nat)), (Vec.getD 6 (Vec.getD 6 a0.2.1 4 ((0, 0, 0, 0, 0, 0, ()) : (Vec 6 Nat))) 1 (0 : Nat)), (Vec.getD 6 (Vec.getD 6 a0.2.1 4 ((0, 0, 0, 0, 0, 0, ()) : (Vec 6 Nat))) 2 (0 : Nat)), (Vec.getD 6 (Vec.getD 6 a0.2.1 4 ((0, 0, 0, 0, 0, 0, ()) : (Vec 6 Nat))) 3 (0 : Nat)), (Vec.getD 6 (Vec.getD 6 a0.2.1 4 ((0, 0, 0, 0, 0, 0, ()) : (Vec 6 Nat))) 4 (0 : Nat)), (Vec.getD 6 (Vec.getD 6 a0.2.1 4 ((0, 0, 0, 0, 0, 0, ()) : (Vec 6 Nat))) 5 (0 : Nat)), 0, (fMul .f32 (Vec.getD 3 a2 1 (0 : Nat)) y343.1.1), 0, ()), ((Vec.getD 6 (Vec.getD 6 a0.2.1 5 ((0, 0, 0, 0, 0, 0, ()) : (Vec 6 Nat))) 0 (0 : Nat)), (Vec.getD 6 (Vec.getD 6 a0.2.1 5 ((0, 0, 0, 0, 0, 0, ()) : (Vec 6 Nat))) 1 (0 : Nat)), (Vec.getD 6 (Vec.getD 6 a0.2.1 5 ((0, 0, 0, 0, 0, 0, ()) : (Vec 6 Nat))) 2 (0 : Nat)), (Vec.getD 6 (Vec.getD 6 a0.2.1 5 ((0, 0, 0, 0, 0, 0, ()) : (Vec 6 Nat))) 3 (0 : Nat)), (Vec.getD 6 (Vec.getD 6 a0.2.1 5 ((0, 0, 0, 0, 0, 0, ()) : (Vec 6 Nat))) 4 (0 : Nat)), (Vec.getD 6 (Vec.getD 6 a0.2.1 5 ((0, 0, 0, 0, 0, 0, ()) : (Vec 6 Nat))) 5 (0 : Nat)), 0, 0, (fMul .f32 (Vec.getD 3 a2 2 (0 : Nat)) y380.1.1), ()), ()) : (Vec 6 (Vec 9 Nat)))).bind fun y383 =>
  some ((y383.1.1, y383.1.2.1, ()), ())
def impl_Predict_en : Entry := ⟨⟨[.v Uq1, .v (.flt .f32), .v (.arr 3 (.flt .f32))], [.v (.val Uq1), .v (.val (.int .i64))], false⟩, fun x => impl_Predict x.1 x.2.1 x.2.2.1⟩
theorem qn1 : Sound Tryz.prog G 113 impl_Predict_en := qab (envS (l := [(42, impl_root_en), (44, impl_isLeast_en), (71, impl_ValidState_en), (153, impl_rooted_en)]) ⟨(qet), (qoe), (qa0), (qis), trivial⟩) [(8, .unroll 4), (12, .unroll 7)] Tryz.func113 (by kernel_rfl) rfl fun _ => by kernel_rfl
def impl_sumOf_l3 (a0 : (List Nat)) (a1 : (List Nat)) (s634 : (Nat × Int × Unit)) : Option ((Nat × Int × Unit) ⊕ Dq17) :=
  bif (iLt s634.2.1 (lenI a0)) then
    bif inB s634.2.1 (List.length a0) then
      bif inB s634.2.1 (List.length a1) then
        let x638 := fMul .f32 (List.getD a0 s634.2.1.toNat (0 : Nat)) (List.getD a1 s634.2.1.toNat (0 : Nat))
        bif (iEq s634.2.1 0) then
          some (Sum.inl (x638, (iAdd .i64 s634.2.1 1), ()))
        else
        some (Sum.inl ((fAdd .f32 s634.1 x638), (iAdd .i64 s634.2.1 1), ()))
      else none
    else none
  else
  Option.map Sum.inr (some ((s634.1, ()), ()))
def impl_sumOf (a0 : (List Nat)) (a1 : (List Nat)) : Option Dq17 :=
  run (impl_sumOf_l3 a0 a1) ((0 : Nat), (0 : Int), ())
def impl_sumOf_en : Entry := ⟨⟨[.v (.list (.flt .f32)), .v (.list (.flt .f32))], [.v (.val (.flt .f32))], false⟩, fun x => impl_sumOf x.1 x.2.1⟩
theorem qd1 : Sound Tryz.prog G 97 impl_sumOf_en := qab (envS (l := []) trivial) [(3, .vary [(5, .sc (.flt .f32)), (10, .sc (.int .i64))])] Tryz.func97 (by kernel_rfl) rfl fun _ => by kernel_rfl
def impl_Clue_seen (a0 : Dq6) (a1 : (Vec 6 Nat)) : Option Dq17 :=
  (impl_sumOf ([Vec.getD 6 a0.1 0 (0 : Nat), Vec.getD 6 a0.1 1 (0 : Nat), Vec.getD 6 a0.1 2 (0 : Nat), Vec.getD 6 a0.1 3 (0 : Nat), Vec.getD 6 a0.1 4 (0 : Nat), Vec.getD 6 a0.1 5 (0 : Nat)] : (List Nat)) ([Vec.getD 6 a1 0 (0 : Nat), Vec.getD 6 a1 1 (0 : Nat), Vec.getD 6 a1 2 (0 : Nat), Vec.getD 6 a1 3 (0 : Nat), Vec.getD 6 a1 4 (0 : Nat), Vec.getD 6 a1 5 (0 : Nat)] : (List Nat))).bind fun y633 =>
  some ((y633.1.1, ()), ())
def impl_Clue_seen_en : Entry := ⟨⟨[.ro Uq3, .v (.arr 6 (.flt .f32))], [.v (.val (.flt .f32))], false⟩, fun x => impl_Clue_seen x.1 x.2.1⟩
theorem qgj : Sound Tryz.prog G 163 impl_Clue_seen_en := qab (envS (l := [(97, impl_sumOf_en)]) ⟨(qd1), trivial⟩) [] Tryz.func163 (by kernel_rfl) rfl fun _ => by kernel_rfl
def impl_DotVec (a0 : (Vec 3 Nat)) (a1 : (Vec 3 Nat)) : Option Dq17 :=
  (impl_sumOf ([Vec.getD 3 a0 0 (0 : Nat), Vec.getD 3 a0 1 (0 : Nat), Vec.getD 3 a0 2 (0 : Nat)] : (List Nat)) ([Vec.getD 3 a1 0 (0 : Nat), Vec.getD 3 a1 1 (0 : Nat), Vec.getD 3 a1 2 (0 : Nat)] : (List Nat))).bind fun y645 =>
  some ((y645.1.1, ()), ())
def impl_DotVec_en : Entry := ⟨⟨[.v (.arr 3 (.flt .f32)), .v (.arr 3 (.flt .f32))], [.v (.val (.flt .f32))], false⟩, fun x => impl_DotVec x.1 x.2.1⟩
theorem qo0 : Sound Tryz.prog G 58 impl_DotVec_en := qab (envS (l := [(97, impl_sumOf_en)]) ⟨(qd1), trivial⟩) [] Tryz.func58 (by kernel_rfl) rfl fun _ => by kernel_rfl
def impl_LengthOf (a0 : (Vec 3 Nat)) : Option Dq17 :=
  (impl_DotVec a0 a0).bind fun y643 =>
  (impl_root y643.1.1).bind fun y644 =>
  some ((y644.1.1, ()), ())
def impl_LengthOf_en : Entry := ⟨⟨[.v (.arr 3 (.flt .f32))], [.v (.val (.flt .f32))], false⟩, fun x => impl_LengthOf x.1⟩
theorem qhc : Sound Tryz.prog G 19 impl_LengthOf_en := qab (envS (l := [(42, impl_root_en), (58, impl_DotVec_en)]) ⟨(qet), (qo0), trivial⟩) [] Tryz.func19 (by kernel_rfl) rfl fun _ => by kernel_rfl
def impl_PositionOf (a0 : Dq2) : Option (Dq14 × Unit) :=
  some ((((Vec.getD 6 a0.1 0 (0 : Nat), Vec.getD 6 a0.1 1 (0 : Nat), Vec.getD 6 a0.1 2 (0 : Nat), ()) : (Vec 3 Nat)), ()), ())
def impl_PositionOf_en : Entry := ⟨⟨[.v Uq1], [.v (.val (.arr 3 (.flt .f32)))], false⟩, fun x => impl_PositionOf x.1⟩
theorem qks : Sound Tryz.prog G 161 impl_PositionOf_en := qab (envS (l := []) trivial) [] Tryz.func161 (by kernel_rfl) rfl fun _ => by kernel_rfl
def impl_SubVec (a0 : (Vec 3 Nat)) (a1 : (Vec 3 Nat)) : Option (Dq14 × Unit) :=
  let x648 := fSub .f32 (Vec.getD 3 a0 0 (0 : Nat)) (Vec.getD 3 a1 0 (0 : Nat))
  let x651 := fSub .f32 (Vec.getD 3 (Vec.set 3 a0 0 x648) 1 (0 : Nat)) (Vec.getD 3 a1 1 (0 : Nat))
  some (((Vec.set 3 (Vec.set 3 (Vec.set 3 a0 0 x648) 1 x651) 2 (fSub .f32 (Vec.getD 3 (Vec.set 3 (Vec.set 3 a0 0 x648) 1 x651) 2 (0 : Nat)) (Vec.getD 3 a1 2 (0 : Nat)))), ()), ())
def impl_SubVec_en : Entry := ⟨⟨[.v (.arr 3 (.flt .f32)), .v (.arr 3 (.flt .f32))], [.v (.val (.arr 3 (.flt .f32)))], false⟩, fun x => impl_SubVec x.1 x.2.1⟩
theorem qpq : Sound Tryz.prog G 160 impl_SubVec_en := qab (envS (l := []) trivial) [(2, .unroll 4)] Tryz.func160 (by kernel_rfl) rfl fun _ => by kernel_rfl
def impl_UnitOf (a0 : (Vec 3 Nat)) : Option (((Vec 3 Nat) × Int × Unit) × Unit) :=
  (impl_LengthOf a0).bind fun y656 =>
  bif (fEq .f32 y656.1.1 0) then some ((((0, 0, 0, ()) : (Vec 3 Nat)), (4 : Int), ()), ()) else
  (impl_isFinite ([y656.1.1] : (List Nat))).bind fun y658 =>
  bif (! y658.1.1) then some ((((0, 0, 0, ()) : (Vec 3 Nat)), (4 : Int), ()), ()) else
  let x661 := fDiv .f32 (Vec.getD 3 a0 0 (0 : Nat)) y656.1.1
  let x663 := fDiv .f32 (Vec.getD 3 (Vec.set 3 a0 0 x661) 1 (0 : Nat)) y656.1.1
  some (((Vec.set 3 (Vec.set 3 (Vec.set 3 a0 0 x661) 1 x663) 2 (fDiv .f32 (Vec.getD 3 (Vec.set 3 (Vec.set 3 a0 0 x661) 1 x663) 2 (0 : Nat)) y656.1.1)), (0 : Int), ()), ())
def impl_UnitOf_en : Entry := ⟨⟨[.v (.arr 3 (.flt .f32))], [.v (.val (.arr 3 (.flt .f32))), .v (.val (.int .i64))], false⟩, fun x => impl_UnitOf x.1⟩
theorem qph : Sound Tryz.prog G 162 impl_UnitOf_en := qab (envS (l := [(19, impl_LengthOf_en), (39, impl_isFinite_en)]) ⟨(qhc), (qa1), trivial⟩) [(5, .unroll 4)] Tryz.func162 (by kernel_rfl) rfl fun _ => by kernel_rfl
def impl_ValidClue (a0 : Dq6) : Option Dq9 :=
  (impl_isFinite ([Vec.getD 6 a0.1 0 (0 : Nat), Vec.getD 6 a0.1 1 (0 : Nat), Vec.getD 6 a0.1 2 (0 : Nat), Vec.getD 6 a0.1 3 (0 : Nat), Vec.getD 6 a0.1 4 (0 : Nat), Vec.getD 6 a0.1 5 (0 : Nat)] : (List Nat))).bind fun y669 =>
  bif y669.1.1 then
    (impl_isFinite ([a0.2.1, a0.2.2.1] : (List Nat))).bind fun y670 =>
    bif y670.1.1 then
      some (((fLt .f32 0 a0.2.2.1), ()), ())
    else some ((false, ()), ())
  else some ((false, ()), ())
def impl_ValidClue_en : Entry := ⟨⟨[.v Uq3], [.v (.val (.bool))], false⟩, fun x => impl_ValidClue x.1⟩
theorem qb0 : Sound Tryz.prog G 157 impl_ValidClue_en := qab (envS (l := [(39, impl_isFinite_en)]) ⟨(qa1), trivial⟩) [] Tryz.func157 (by kernel_rfl) rfl fun _ => by kernel_rfl
def impl_clueOr (a0 : Dq6) : Option Dq23 :=
  (impl_ValidClue a0).bind fun y667 =>
  bif (! y667.1.1) then some (((((0, 0, 0, 0, 0, 0, ()), 0, 0, ()) : Dq6), (1 : Int), ()), ()) else some ((a0, (0 : Int), ()), ())
def impl_clueOr_en : Entry := ⟨⟨[.v Uq3], [.v (.val Uq3), .v (.val (.int .i64))], false⟩, fun x => impl_clueOr x.1⟩
theorem qiu : Sound Tryz.prog G 164 impl_clueOr_en := qab (envS (l := [(157, impl_ValidClue_en)]) ⟨(qb0), trivial⟩) [] Tryz.func164 (by kernel_rfl) rfl fun _ => by kernel_rfl
def impl_RangeClue (a0 : Dq2) (a1 : (Vec 3 Nat)) (a2 : Nat) (a3 : Nat) : Option Dq23 :=
  (impl_ValidState a0).bind fun y619 =>
  bif (! y619.1.1) then some (((((0, 0, 0, 0, 0, 0, ()), 0, 0, ()) : Dq6), (1 : Int), ()), ()) else
  (impl_PositionOf a0).bind fun y621 =>
  (impl_SubVec y621.1.1 a1).bind fun y622 =>
  (impl_UnitOf y622.1.1).bind fun y623 =>
  bif (! (iEq y623.1.2.1 0)) then some (((((0, 0, 0, 0, 0, 0, ()), 0, 0, ()) : Dq6), y623.1.2.1, ()), ()) else
  let x625 := Vec.getD 3 y623.1.1 0 (0 : Nat)
  let x626 := Vec.getD 3 y623.1.1 1 (0 : Nat)
  let x627 := Vec.getD 3 y623.1.1 2 (0 : Nat)
  (impl_LengthOf y622.1.1).bind fun y628 =>
  (impl_Clue_seen (((x625, x626, x627, 0, 0, 0, ()), 0, a3, ()) : Dq6) a0.1).bind fun y630 =>
  (impl_clueOr (((x625, x626, x627, 0, 0, 0, ()), (fAdd .f32 (fSub .f32 a2 y628.1.1) y630.1.1), a3, ()) : Dq6)).bind fun y632 =>
  some ((y632.1.1, y632.1.2.1, ()), ())
def impl_RangeClue_en : Entry := ⟨⟨[.v Uq1, .v (.arr 3 (.flt .f32)), .v (.flt .f32), .v (.flt .f32)], [.v (.val Uq3), .v (.val (.int .i64))], false⟩, fun x => impl_RangeClue x.1 x.2.1 x.2.2.1 x.2.2.2.1⟩
theorem ql7 : Sound Tryz.prog G 119 impl_RangeClue_en := qab (envS (l := [(19, impl_LengthOf_en), (71, impl_ValidState_en), (160, impl_SubVec_en), (161, impl_PositionOf_en), (162, impl_UnitOf_en), (163, impl_Clue_seen_en), (164, impl_clueOr_en)]) ⟨(qhc), (qa0), (qpq), (qks), (qph), (qgj), (qiu), trivial⟩) [] Tryz.func119 (by kernel_rfl) rfl fun _ => by kernel_rfl
def impl_shares (a0 : Dq2) (a1 : Dq6) : Option (((Vec 6 Nat) × Nat × Nat × Unit) × Unit) :=
  (impl_sumOf ([(Vec.getD 6 (Vec.getD 6 a0.2.1 0 ((0, 0, 0, 0, 0, 0, ()) : (Vec 6 Nat))) 0 (0 : Nat)), (Vec.getD 6 (Vec.getD 6 a0.2.1 1 ((0, 0, 0, 0, 0, 0, ()) : (Vec 6 Nat))) 0 (0 : Nat)), (Vec.getD 6 (Vec.getD 6 a0.2.1 2 ((0, 0, 0, 0, 0, 0, ()) : (Vec 6 Nat))) 0 (0 : Nat)), (Vec.getD 6 (Vec.getD 6 a0.2.1 3 ((0, 0, 0, 0, 0, 0, ()) : (Vec 6 Nat))) 0 (0 : Nat)), (Vec.getD 6 (Vec.getD 6 a0.2.1 4 ((0, 0, 0, 0, 0, 0, ()) : (Vec 6 Nat))) 0 (0 : Nat)), (Vec.getD 6 (Vec.getD 6 a0.2.1 5 ((0, 0, 0, 0, 0, 0, ()) : (Vec 6 Nat))) 0 (0 : Nat))] : (List Nat)) ([Vec.getD 6 a1.1 0 (0 : Nat), Vec.getD 6 a1.1 1 (0 : Nat), Vec.getD 6 a1.1 2 (0 : Nat), Vec.getD 6 a1.1 3 (0 : Nat), Vec.getD 6 a1.1 4 (0 : Nat), Vec.getD 6 a1.1 5 (0 : Nat)] : (List Nat))).bind fun y913 =>
  (impl_sumOf ([(Vec.getD 6 (Vec.getD 6 a0.2.1 1 ((0, 0, 0, 0, 0, 0, ()) : (Vec 6 Nat))) 1 (0 : Nat)), (Vec.getD 6 (Vec.getD 6 a0.2.1 2 ((0, 0, 0, 0, 0, 0, ()) : (Vec 6 Nat))) 1 (0 : Nat)), (Vec.getD 6 (Vec.getD 6 a0.2.1 3 ((0, 0, 0, 0, 0, 0, ()) : (Vec 6 Nat))) 1 (0 : Nat)), (Vec.getD 6 (Vec.getD 6 a0.2.1 4 ((0, 0, 0, 0, 0, 0, ()) : (Vec 6 Nat))) 1 (0 : Nat)), (Vec.getD 6 (Vec.getD 6 a0.2.1 5 ((0, 0, 0, 0, 0, 0, ()) : (Vec 6 Nat))) 1 (0 : Nat))] : (List Nat)) ([Vec.getD 6 a1.1 1 (0 : Nat), Vec.getD 6 a1.1 2 (0 : Nat), Vec.getD 6 a1.1 3 (0 : Nat), Vec.getD 6 a1.1 4 (0 : Nat), Vec.getD 6 a1.1 5 (0 : Nat)] : (List Nat))).bind fun y919 =>
  (impl_sumOf ([(Vec.getD 6 (Vec.getD 6 a0.2.1 2 ((0, 0, 0, 0, 0, 0, ()) : (Vec 6 Nat))) 2 (0 : Nat)), (Vec.getD 6 (Vec.getD 6 a0.2.1 3 ((0, 0, 0, 0, 0, 0, ()) : (Vec 6 Nat))) 2 (0 : Nat)), (Vec.getD 6 (Vec.getD 6 a0.2.1 4 ((0, 0, 0, 0, 0, 0, ()) : (Vec 6 Nat))) 2 (0 : Nat)), (Vec.getD 6 (Vec.getD 6 a0.2.1 5 ((0, 0, 0, 0, 0, 0, ()) : (Vec 6 Nat))) 2 (0 : Nat))] : (List Nat)) ([Vec.getD 6 a1.1 2 (0 : Nat), Vec.getD 6 a1.1 3 (0 : Nat), Vec.getD 6 a1.1 4 (0 : Nat), Vec.getD 6 a1.1 5 (0 : Nat)] : (List Nat))).bind fun y924 =>
  (impl_sumOf ([(Vec.getD 6 (Vec.getD 6 a0.2.1 3 ((0, 0, 0, 0, 0, 0, ()) : (Vec 6 Nat))) 3 (0 : Nat)), (Vec.getD 6 (Vec.getD 6 a0.2.1 4 ((0, 0, 0, 0, 0, 0, ()) : (Vec 6 Nat))) 3 (0 : Nat)), (Vec.getD 6 (Vec.getD 6 a0.2.1 5 ((0, 0, 0, 0, 0, 0, ()) : (Vec 6 Nat))) 3 (0 : Nat))] : (List Nat)) ([Vec.getD 6 a1.1 3 (0 : Nat), Vec.getD 6 a1.1 4 (0 : Nat), Vec.getD 6 a1.1 5 (0 : Nat)] : (List Nat))).bind fun y928 =>
  (impl_sumOf ([(Vec.getD 6 (Vec.getD 6 a0.2.1 4 ((0, 0, 0, 0, 0, 0, ()) : (Vec 6 Nat))) 4 (0 : Nat)), (Vec.getD 6 (Vec.getD 6 a0.2.1 5 ((0, 0, 0, 0, 0, 0, ()) : (Vec 6 Nat))) 4 (0 : Nat))] : (List Nat)) ([Vec.getD 6 a1.1 4 (0 : Nat), Vec.getD 6 a1.1 5 (0 : Nat)] : (List Nat))).bind fun y931 =>
  (impl_sumOf ([(Vec.getD 6 (Vec.getD 6 a0.2.1 5 ((0, 0, 0, 0, 0, 0, ()) : (Vec 6 Nat))) 5 (0 : Nat))] : (List Nat)) ([Vec.getD 6 a1.1 5 (0 : Nat)] : (List Nat))).bind fun y933 =>
  (impl_Clue_seen a1 a0.1).bind fun y934 =>
  (impl_sumOf ([y913.1.1, y919.1.1, y924.1.1, y928.1.1, y931.1.1, y933.1.1] : (List Nat)) ([y913.1.1, y919.1.1, y924.1.1, y928.1.1, y931.1.1, y933.1.1] : (List Nat))).bind fun y936 =>
  some ((((y913.1.1, y919.1.1, y924.1.1, y928.1.1, y931.1.1, y933.1.1, ()) : (Vec 6 Nat)), (fSub .f32 a1.2.1 y934.1.1), (fAdd .f32 y936.1.1 (fMul .f32 a1.2.2.1 a1.2.2.1)), ()), ())
def impl_shares_en : Entry := ⟨⟨[.ro Uq1, .ro Uq3], [.v (.val (.arr 6 (.flt .f32))), .v (.val (.flt .f32)), .v (.val (.flt .f32))], false⟩, fun x => impl_shares x.1 x.2.1⟩
theorem qij : Sound Tryz.prog G 196 impl_shares_en := qab (envS (l := [(97, impl_sumOf_en), (163, impl_Clue_seen_en)]) ⟨(qd1), (qgj), trivial⟩) [(3, .unroll 7), (7, .unroll 7)] Tryz.func196 (by kernel_rfl) rfl fun _ => by kernel_rfl
def impl_Update (a0 : Dq2) (a1 : Dq6) : Option Dq12 :=
  (impl_ValidState a0).bind fun y689 =>
  bif (! y689.1.1) then
    some (((((0, 0, 0, 0, 0, 0, ()), ((0, 0, 0, 0, 0, 0, ()), (0, 0, 0, 0, 0, 0, ()), (0, 0, 0, 0, 0, 0, ()), (0, 0, 0, 0, 0, 0, ()), (0, 0, 0, 0, 0, 0, ()), (0, 0, 0, 0, 0, 0, ()), ()), ()) : Dq2), (1 : Int), ()), ())
  else
  (impl_ValidClue a1).bind fun y691 =>
  bif (! y691.1.1) then
    some (((((0, 0, 0, 0, 0, 0, ()), ((0, 0, 0, 0, 0, 0, ()), (0, 0, 0, 0, 0, 0, ()), (0, 0, 0, 0, 0, 0, ()), (0, 0, 0, 0, 0, 0, ()), (0, 0, 0, 0, 0, 0, ()), (0, 0, 0, 0, 0, 0, ()), ()), ()) : Dq2), (1 : Int), ()), ())
  else
  (impl_shares a0 a1).bind fun y693 =>
  let x694 := fDiv .f32 y693.1.2.1 y693.1.2.2.1
  (impl_root (fDiv .f32 (fMul .f32 a1.2.2.1 a1.2.2.1) y693.1.2.2.1)).bind fun y697 =>
  let x700 := fDiv .f32 (fDiv .f32 1065353216 (fAdd .f32 1065353216 y697.1.1)) y693.1.2.2.1
  (impl_sumOf ([Vec.getD 6 (Vec.getD 6 a0.2.1 0 ((0, 0, 0, 0, 0, 0, ()) : (Vec 6 Nat))) 0 (0 : Nat)] : (List Nat)) ([Vec.getD 6 y693.1.1 0 (0 : Nat), Vec.getD 6 y693.1.1 1 (0 : Nat), Vec.getD 6 y693.1.1 2 (0 : Nat), Vec.getD 6 y693.1.1 3 (0 : Nat), Vec.getD 6 y693.1.1 4 (0 : Nat), Vec.getD 6 y693.1.1 5 (0 : Nat)] : (List Nat))).bind fun y701 =>
  let x704 := fAdd .f32 (Vec.getD 6 a0.1 0 (0 : Nat)) (fMul .f32 y701.1.1 x694)
  (impl_sumOf ([Vec.getD 6 (Vec.getD 6 a0.2.1 1 ((0, 0, 0, 0, 0, 0, ()) : (Vec 6 Nat))) 0 (0 : Nat), Vec.getD 6 (Vec.getD 6 a0.2.1 1 ((0, 0, 0, 0, 0, 0, ()) : (Vec 6 Nat))) 1 (0 : Nat)] : (List Nat)) ([Vec.getD 6 y693.1.1 0 (0 : Nat), Vec.getD 6 y693.1.1 1 (0 : Nat), Vec.getD 6 y693.1.1 2 (0 : Nat), Vec.getD 6 y693.1.1 3 (0 : Nat), Vec.getD 6 y693.1.1 4 (0 : Nat), Vec.getD 6 y693.1.1 5 (0 : Nat)] : (List Nat))).bind fun y735 =>
  let x738 := fAdd .f32 (Vec.getD 6 (Vec.set 6 a0.1 0 x704) 1 (0 : Nat)) (fMul .f32 y735.1.1 x694)
  (impl_sumOf ([Vec.getD 6 (Vec.getD 6 a0.2.1 2 ((0, 0, 0, 0, 0, 0, ()) : (Vec 6 Nat))) 0 (0 : Nat), Vec.getD 6 (Vec.getD 6 a0.2.1 2 ((0, 0, 0, 0, 0, 0, ()) : (Vec 6 Nat))) 1 (0 : Nat), Vec.getD 6 (Vec.getD 6 a0.2.1 2 ((0, 0, 0, 0, 0, 0, ()) : (Vec 6 Nat))) 2 (0 : Nat)] : (List Nat)) ([Vec.getD 6 y693.1.1 0 (0 : Nat), Vec.getD 6 y693.1.1 1 (0 : Nat), Vec.getD 6 y693.1.1 2 (0 : Nat), Vec.getD 6 y693.1.1 3 (0 : Nat), Vec.getD 6 y693.1.1 4 (0 : Nat), Vec.getD 6 y693.1.1 5 (0 : Nat)] : (List Nat))).bind fun y769 =>
  let x772 := fAdd .f32 (Vec.getD 6 (Vec.set 6 (Vec.set 6 a0.1 0 x704) 1 x738) 2 (0 : Nat)) (fMul .f32 y769.1.1 x694)
  (impl_sumOf ([Vec.getD 6 (Vec.getD 6 a0.2.1 3 ((0, 0, 0, 0, 0, 0, ()) : (Vec 6 Nat))) 0 (0 : Nat), Vec.getD 6 (Vec.getD 6 a0.2.1 3 ((0, 0, 0, 0, 0, 0, ()) : (Vec 6 Nat))) 1 (0 : Nat), Vec.getD 6 (Vec.getD 6 a0.2.1 3 ((0, 0, 0, 0, 0, 0, ()) : (Vec 6 Nat))) 2 (0 : Nat), Vec.getD 6 (Vec.getD 6 a0.2.1 3 ((0, 0, 0, 0, 0, 0, ()) : (Vec 6 Nat))) 3 (0 : Nat)] : (List Nat)) ([Vec.getD 6 y693.1.1 0 (0 : Nat), Vec.getD 6 y693.1.1 1 (0 : Nat), Vec.getD 6 y693.1.1 2 (0 : Nat), Vec.getD 6 y693.1.1 3 (0 : Nat), Vec.getD 6 y693.1.1 4 (0 : Nat), Vec.getD 6 y693.1.1 5 (0 : Nat)] : (List Nat))).bind fun y803 =>
  let x806 := fAdd .f32 (Vec.getD 6 (Vec.set 6 (Vec.set 6 (Vec.set 6 a0.1 0 x704) 1 x738) 2 x772) 3 (0 : Nat)) (fMul .f32 y803.1.1 x694)
  (impl_sumOf ([Vec.getD 6 (Vec.getD 6 a0.2.1 4 ((0, 0, 0, 0, 0, 0, ()) : (Vec 6 Nat))) 0 (0 : Nat), Vec.getD 6 (Vec.getD 6 a0.2.1 4 ((0, 0, 0, 0, 0, 0, ()) : (Vec 6 Nat))) 1 (0 : Nat), Vec.getD 6 (Vec.getD 6 a0.2.1 4 ((0, 0, 0, 0, 0, 0, ()) : (Vec 6 Nat))) 2 (0 : Nat), Vec.getD 6 (Vec.getD 6 a0.2.1 4 ((0, 0, 0, 0, 0, 0, ()) : (Vec 6 Nat))) 3 (0 : Nat), Vec.getD 6 (Vec.getD 6 a0.2.1 4 ((0, 0, 0, 0, 0, 0, ()) : (Vec 6 Nat))) 4 (0 : Nat)] : (List Nat)) ([Vec.getD 6 y693.1.1 0 (0 : Nat), Vec.getD 6 y693.1.1 1 (0 : Nat), Vec.getD 6 y693.1.1 2 (0 : Nat), Vec.getD 6 y693.1.1 3 (0 : Nat), Vec.getD 6 y693.1.1 4 (0 : Nat), Vec.getD 6 y693.1.1 5 (0 : Nat)] : (List Nat))).bind fun y837 =>
  let x840 := fAdd .f32 (Vec.getD 6 (Vec.set 6 (Vec.set 6 (Vec.set 6 (Vec.set 6 a0.1 0 x704) 1 x738) 2 x772) 3 x806) 4 (0 : Nat)) (fMul .f32 y837.1.1 x694)
  (impl_sumOf ([Vec.getD 6 (Vec.getD 6 a0.2.1 5 ((0, 0, 0, 0, 0, 0, ()) : (Vec 6 Nat))) 0 (0 : Nat), Vec.getD 6 (Vec.getD 6 a0.2.1 5 ((0, 0, 0, 0, 0, 0, ()) : (Vec 6 Nat))) 1 (0 : Nat), Vec.getD 6 (Vec.getD 6 a0.2.1 5 ((0, 0, 0, 0, 0, 0, ()) : (Vec 6 Nat))) 2 (0 : Nat), Vec.getD 6 (Vec.getD 6 a0.2.1 5 ((0, 0, 0, 0, 0, 0, ()) : (Vec 6 Nat))) 3 (0 : Nat), Vec.getD 6 (Vec.getD 6 a0.2.1 5 ((0, 0, 0, 0, 0, 0, ()) : (Vec 6 Nat))) 4 (0 : Nat), Vec.getD 6 (Vec.getD 6 a0.2.1 5 ((0, 0, 0, 0, 0, 0, ()) : (Vec 6 Nat))) 5 (0 : Nat)] : (List Nat)) ([Vec.getD 6 y693.1.1 0 (0 : Nat), Vec.getD 6 y693.1.1 1 (0 : Nat), Vec.getD 6 y693.1.1 2 (0 : Nat), Vec.getD 6 y693.1.1 3 (0 : Nat), Vec.getD 6 y693.1.1 4 (0 : Nat), Vec.getD 6 y693.1.1 5 (0 : Nat)] : (List Nat))).bind fun y871 =>
  (impl_rooted (Vec.set 6 (Vec.set 6 (Vec.set 6 (Vec.set 6 (Vec.set 6 (Vec.set 6 a0.1 0 x704) 1 x738) 2 x772) 3 x806) 4 x840) 5 (fAdd .f32 (Vec.getD 6 (Vec.set 6 (Vec.set 6 (Vec.set 6 (Vec.set 6 (Vec.set 6 a0.1 0 x704) 1 x738) 2 x772) 3 x806) 4 x840) 5 (0 : Nat)) (fMul .f32 y871.1.1 x694))) ((((fSub .f32 (Vec.getD 6 (Vec.getD 6 a0.2.1 0 ((0, 0, 0, 0, 0, 0, ()) : (Vec 6 Nat))) 0 (0 : Nat)) (fMul .f32 (fMul .f32 y701.1.1 x700) (Vec.getD 6 y693.1.1 0 (0 : Nat)))), (fSub .f32 (Vec.getD 6 (Vec.getD 6 a0.2.1 0 ((0, 0, 0, 0, 0, 0, ()) : (Vec 6 Nat))) 1 (0 : Nat)) (fMul .f32 (fMul .f32 y701.1.1 x700) (Vec.getD 6 y693.1.1 1 (0 : Nat)))), (fSub .f32 (Vec.getD 6 (Vec.getD 6 a0.2.1 0 ((0, 0, 0, 0, 0, 0, ()) : (Vec 6 Nat))) 2 (0 : Nat)) (fMul .f32 (fMul .f32 y701.1.1 x700) (Vec.getD 6 y693.1.1 2 (0 : Nat)))), (fSub .f32 (Vec.getD 6 (Vec.getD 6 a0.2.1 0 ((0, 0, 0, 0, 0, 0, ()) : (Vec 6 Nat))) 3 (0 : Nat)) (fMul .f32 (fMul .f32 y701.1.1 x700) (Vec.getD 6 y693.1.1 3 (0 : Nat)))), (fSub .f32 (Vec.getD 6 (Vec.getD 6 a0.2.1 0 ((0, 0, 0, 0, 0, 0, ()) : (Vec 6 Nat))) 4 (0 : Nat)) (fMul .f32 (fMul .f32 y701.1.1 x700) (Vec.getD 6 y693.1.1 4 (0 : Nat)))), (fSub .f32 (Vec.getD 6 (Vec.getD 6 a0.2.1 0 ((0, 0, 0, 0, 0, 0, ()) : (Vec 6 Nat))) 5 (0 : Nat)) (fMul .f32 (fMul .f32 y701.1.1 x700) (Vec.getD 6 y693.1.1 5 (0 : Nat)))), 0, 0, 0, ()), ((fSub .f32 (Vec.getD 6 (Vec.getD 6 a0.2.1 1 ((0, 0, 0, 0, 0, 0, ()) : (Vec 6 Nat))) 0 (0 : Nat)) (fMul .f32 (fMul .f32 y735.1.1 x700) (Vec.getD 6 y693.1.1 0 (0 : Nat)))), (fSub .f32 (Vec.getD 6 (Vec.getD 6 a0.2.1 1 ((0, 0, 0, 0, 0, 0, ()) : (Vec 6 Nat))) 1 (0 : Nat)) (fMul .f32 (fMul .f32 y735.1.1 x700) (Vec.getD 6 y693.1.1 1 (0 : Nat)))), (fSub .f32 (Vec.getD 6 (Vec.getD 6 a0.2.1 1 ((0, 0, 0, 0, 0, 0, ()) : (Vec 6 Nat))) 2 (0 : Nat)) (fMul .f32 (fMul .f32 y735.1.1 x700) (Vec.getD 6 y693.1.1 2 (0 : Nat)))), (fSub .f32 (Vec.getD 6 (Vec.getD 6 a0.2.1 1 ((0, 0, 0, 0, 0, 0, ()) : (Vec 6 Nat))) 3 (0 : Nat)) (fMul .f32 (fMul .f32 y735.1.1 x700) (Vec.getD 6 y693.1.1 3 (0 : Nat)))), (fSub .f32 (Vec.getD 6 (Vec.getD 6 a0.2.1 1 ((0, 0, 0, 0, 0, 0, ()) : (Vec 6 Nat))) 4 (0 : Nat)) (fMul .f32 (fMul .f32 y735.1.1 x700) (Vec.getD 6 y693.1.1 4 (0 : Nat)))), (fSub .f32 (Vec.getD 6 (Vec.getD 6 a0.2.1 1 ((0, 0, 0, 0, 0, 0, ()) : (Vec 6 Nat))) 5 (0 : Nat)) (fMul .f32 (fMul .f32 y735.1.1 x700) (Vec.getD 6 y693.1.1 5 (0 : Nat)))), 0, 0, 0, ()), ((fSub .f32 (Vec.getD 6 (Vec.getD 6 a0.2.1 2 ((0, 0, 0, 0, 0, 0, ()) : (Vec 6 Nat))) 0 (0 : Nat)) (fMul .f32 (fMul .f32 y769.1.1 x700) (Vec.getD 6 y693.1.1 0 (0 : Nat)))), (fSub .f32 (Vec.getD 6 (Vec.getD 6 a0.2.1 2 ((0, 0, 0, 0, 0, 0, ()) : (Vec 6 Nat))) 1 (0 : Nat)) (fMul .f32 (fMul .f32 y769.1.1 x700) (Vec.getD 6 y693.1.1 1 (0 : Nat)))), (fSub .f32 (Vec.getD 6 (Vec.getD 6 a0.2.1 2 ((0, 0, 0, 0, 0, 0, ()) : (Vec 6 Nat))) 2 (0 : Nat)) (fMul .f32 (fMul .f32 y769.1.1 x700) (Vec.getD 6 y693.1.1 2 (0 : Nat)))), (fSub .f32 (Vec.getD 6 (Vec.getD 6 a0.2.1 2 ((0, 0, 0, 0, 0, 0, ()) : (Vec 6 Nat))) 3 (0 : Nat)) (fMul .f32 (fMul .f32 y769.1.1 x700) (Vec.getD 6 y693.1.1 3 (0 : Nat)))), (fSub .f32 (Vec.getD 6 (Vec.getD 6 a0.2.1 2 ((0, 0, 0, 0, 0, 0, ()) : (Vec 6 Nat))) 4 (0 : Nat)) (fMul .f32 (fMul .f32 y769.1.1 x700) (Vec.getD 6 y693.1.1 4 (0 : Nat)))), (fSub .f32 (Vec.getD 6 (Vec.getD 6 a0.2.1 2 ((0, 0, 0, 0, 0, 0, ()) : (Vec 6 Nat))) 5 (0 : Nat)) (fMul .f32 (fMul .f32 y769.1.1 x700) (Vec.getD 6 y693.1.1 5 (0 : Nat)))), 0, 0, 0, ()), ((fSub .f32 (Vec.getD 6 (Vec.getD 6 a0.2.1 3 ((0, 0, 0, 0, 0, 0, ()) : (Vec 6 Nat))) 0 (0 : Nat)) (fMul .f32 (fMul .f32 y803.1.1 x700) (Vec.getD 6 y693.1.1 0 (0 : Nat)))), (fSub .f32 (Vec.getD 6 (Vec.getD 6 a0.2.1 3 ((0, 0, 0, 0, 0, 0, ()) : (Vec 6 Nat))) 1 (0 : Nat)) (fMul .f32 (fMul .f32 y803.1.1 x700) (Vec.getD 6 y693.1.1 1 (0 : Nat)))), (fSub .f32 (Vec.getD 6 (Vec.getD 6 a0.2.1 3 ((0, 0, 0, 0, 0, 0, ()) : (Vec 6 Nat))) 2 (0 : Nat)) (fMul .f32 (fMul .f32 y803.1.1 x700) (Vec.getD 6 y693.1.1 2 (0 : Nat)))), (fSub .f32 (Vec.getD 6 (Vec.getD 6 a0.2.1 3 ((0, 0, 0, 0, 0, 0, ()) : (Vec 6 Nat))) 3 (0 : Nat)) (fMul .f32 (fMul .f32 y803.1.1 x700) (Vec.getD 6 y693.1.1 3 (0 : Nat)))), (fSub .f32 (Vec.getD 6 (Vec.getD 6 a0.2.1 3 ((0, 0, 0, 0, 0, 0, ()) : (Vec 6 Nat))) 4 (0 : Nat)) (fMul .f32 (fMul .f32 y803.1.1 x700) (Vec.getD 6 y693.1.1 4 (0 : Nat)))), (fSub .f32 (Vec.getD 6 (Vec.getD 6 a0.2.1 3 ((0, 0, 0, 0, 0, 0, ()) : (Vec 6 Nat))) 5 (0 : Nat)) (fMul .f32 (fMul .f32 y803.1.1 x700) (Vec.getD 6 y693.1.1 5 (0 : Nat)))), 0, 0, 0, ()), ((fSub .f32 (Vec.getD 6 (Vec.getD 6 a0.2.1 4 ((0, 0, 0, 0, 0, 0, ()) : (Vec 6 Nat))) 0 (0 : Nat)) (fMul .f32 (fMul .f32 y837.1.1 x700) (Vec.getD 6 y693.1.1 0 (0 : Nat)))), (fSub .f32 (Vec.getD 6 (Vec.getD 6 a0.2.1 4 ((0, 0, 0, 0, 0, 0, ()) : (Vec 6 Nat))) 1 (0 : Nat)) (fMul .f32 (fMul .f32 y837.1.1 x700) (Vec.getD 6 y693.1.1 1 (0 : Nat)))), (fSub .f32 (Vec.getD 6 (Vec.getD 6 a0.2.1 4 ((0, 0, 0, 0, 0, 0, ()) : (Vec 6 Nat))) 2 (0 : Nat)) (fMul .f32 (fMul .f32 y837.1.1 x700) (Vec.getD 6 y693.1.1 2 (0 : Nat)))), (fSub .f32 (Vec.getD 6 (Vec.getD 6 a0.2.1 4 ((0, 0, 0, 0, 0, 0, ()) : (Vec 6 Nat))) 3 (0 : Nat)) (fMul .f32 (fMul .f32 y837.1.1 x700) (Vec.getD 6 y693.1.1 3 (0 : Nat)))), (fSub .f32 (Vec.getD 6 (Vec.getD 6 a0.2.1 4 ((0, 0, 0, 0, 0, 0, ()) : (Vec 6 Nat))) 4 (0 : Nat)) (fMul .f32 (fMul .f32 y837.1.1 x700) (Vec.getD 6 y693.1.1 4 (0 : Nat)))), (fSub .f32 (Vec.getD 6 (Vec.getD 6 a0.2.1 4 ((0, 0, 0, 0, 0, 0, ()) : (Vec 6 Nat))) 5 (0 : Nat)) (fMul .f32 (fMul .f32 y837.1.1 x700) (Vec.getD 6 y693.1.1 5 (0 : Nat)))), 0, 0, 0, ()), ((fSub .f32 (Vec.getD 6 (Vec.getD 6 a0.2.1 5 ((0, 0, 0, 0, 0, 0, ()) : (Vec 6 Nat))) 0 (0 : Nat)) (fMul .f32 (fMul .f32 y871.1.1 x700) (Vec.getD 6 y693.1.1 0 (0 : Nat)))), (fSub .f32 (Vec.getD 6 (Vec.getD 6 a0.2.1 5 ((0, 0, 0, 0, 0, 0, ()) : (Vec 6 Nat))) 1 (0 : Nat)) (fMul .f32 (fMul .f32 y871.1.1 x700) (Vec.getD 6 y693.1.1 1 (0 : Nat)))), (fSub .f32 (Vec.getD 6 (Vec.getD 6 a0.2.1 5 ((0, 0, 0, 0, 0, 0, ()) : (Vec 6 Nat))) 2 (0 : Nat)) (fMul .f32 (fMul .f32 y871.1.1 x700) (Vec.getD 6 y693.1.1 2 (0 : Nat)))), (fSub .f32 (Vec.getD 6 (Vec.getD 6 a0.2.1 5 ((0, 0, 0, 0, 0, 0, ()) : (Vec 6 Nat))) 3 (0 : Nat)) (fMul .f32 (fMul .f32 y871.1.1 x700) (Vec.getD 6 y693.1.1 3 (0 : Nat)))), (fSub .f32 (Vec.getD 6 (Vec.getD 6 a0.2.1 5 ((0, 0, 0, 0, 0, 0, ()) : (Vec 6 Nat))) 4 (0 : Nat)) (fMul .f32 (fMul .f32 y871.1.1 x700) (Vec.getD 6 y693.1.1 4 (0 : Nat)))), (fSub .f32 (Vec.getD 6 (Vec.getD 6 a0.2.1 5 ((0, 0, 0, 0, 0, 0, ()) : (Vec 6 Nat))) 5 (0 : Nat)) (fMul .f32 (fMul .f32 y871.1.1 x700) (Vec.getD 6 y693.1.1 5 (0 : Nat)))), 0, 0, 0, ()), ()) : (Vec 6 (Vec 9 Nat)))).bind fun y906 =>
  some ((y906.1.1, y906.1.2.1, ()), ())
def impl_Update_en : Entry := ⟨⟨[.v Uq1, .v Uq3], [.v (.val Uq1), .v (.val (.int .i64))], false⟩, fun x => impl_Update x.1 x.2.1⟩
theorem qic : Sound Tryz.prog G 158 impl_Update_en := qab (envS (l := [(42, impl_root_en), (71, impl_ValidState_en), (97, impl_sumOf_en), (153, impl_rooted_en), (157, impl_ValidClue_en), (196, impl_shares_en)]) ⟨(qet), (qa0), (qd1), (qis), (qb0), (qij), trivial⟩) [(10, .unroll 7), (15, .unroll 7)] Tryz.func158 (by kernel_rfl) rfl fun _ => by kernel_rfl
def impl_UpdateAll_1 (a0 : Dq6) : Option Dq9 :=
  (impl_ValidClue a0).bind fun y939 =>
  some (((! y939.1.1), ()), ())
def impl_UpdateAll_1_en : Entry := ⟨⟨[.v Uq3], [.v (.val (.bool))], false⟩, fun x => impl_UpdateAll_1 x.1⟩
theorem qj3 : Sound Tryz.prog G 156 impl_UpdateAll_1_en := qab (envS (l := [(157, impl_ValidClue_en)]) ⟨(qb0), trivial⟩) [] Tryz.func156 (by kernel_rfl) rfl fun _ => by kernel_rfl
def slices_IndexFunc_impl_Clue_l2 (a0 : (List Dq6)) (a1 : ((Dq6 × Unit) → Option Bool)) (s943 : (Int × Unit)) : Option ((Int × Unit) ⊕ Dq15) :=
  bif (iLt s943.1 (lenI a0)) then
    bif inB s943.1 (List.length a0) then
      (a1 ((List.getD a0 s943.1.toNat (((0, 0, 0, 0, 0, 0, ()), 0, 0, ()) : Dq6)), ())).bind fun y946 =>
      bif y946 then
        Option.map Sum.inr (some ((s943.1, ()), ()))
      else
      some (Sum.inl ((iAdd .i64 s943.1 1), ()))
    else none
  else
  Option.map Sum.inr (some ((((-1 : Int) : Int), ()), ()))
def slices_IndexFunc_impl_Clue (a0 : (List Dq6)) (a1 : ((Dq6 × Unit) → Option Bool)) : Option Dq15 :=
  run (slices_IndexFunc_impl_Clue_l2 a0 a1) ((0 : Int), ())
def slices_IndexFunc_impl_Clue_en : Entry := ⟨⟨[.v (.list Uq3), .fn ⟨[.pair (.arr 6 (.flt .f32)) (.pair (.flt .f32) (.pair (.flt .f32) (.unit)))], .bool⟩], [.v (.val (.int .i64))], false⟩, fun x => slices_IndexFunc_impl_Clue x.1 x.2.1⟩
theorem qe6 : Sound Tryz.prog G 195 slices_IndexFunc_impl_Clue_en := qab (envS (l := []) trivial) [(2, .vary [(8, .sc (.int .i64))])] Tryz.func195 (by kernel_rfl) rfl fun _ => by kernel_rfl
def slices_ContainsFunc_impl_Clue (a0 : (List Dq6)) (a1 : ((Dq6 × Unit) → Option Bool)) : Option Dq9 :=
  (slices_IndexFunc_impl_Clue a0 a1).bind fun y941 =>
  some (((iLe 0 y941.1.1), ()), ())
def slices_ContainsFunc_impl_Clue_en : Entry := ⟨⟨[.v (.list Uq3), .fn ⟨[.pair (.arr 6 (.flt .f32)) (.pair (.flt .f32) (.pair (.flt .f32) (.unit)))], .bool⟩], [.v (.val (.bool))], false⟩, fun x => slices_ContainsFunc_impl_Clue x.1 x.2.1⟩
theorem qd9 : Sound Tryz.prog G 155 slices_ContainsFunc_impl_Clue_en := qab (envS (l := [(195, slices_IndexFunc_impl_Clue_en)]) ⟨(qe6), trivial⟩) [] Tryz.func155 (by kernel_rfl) rfl fun _ => by kernel_rfl
def impl_UpdateAll_l6 (a1 : (List Dq6)) (s683 : (Int × Dq2 × Unit)) : Option ((Int × Dq2 × Unit) ⊕ Dq12) :=
  bif (iLt s683.1 (lenI a1)) then
    bif inB s683.1 (List.length a1) then
      (impl_Update s683.2.1 (List.getD a1 s683.1.toNat (((0, 0, 0, 0, 0, 0, ()), 0, 0, ()) : Dq6))).bind fun y686 =>
      bif (! (iEq y686.1.2.1 0)) then
        Option.map Sum.inr (some (((((0, 0, 0, 0, 0, 0, ()), ((0, 0, 0, 0, 0, 0, ()), (0, 0, 0, 0, 0, 0, ()), (0, 0, 0, 0, 0, 0, ()), (0, 0, 0, 0, 0, 0, ()), (0, 0, 0, 0, 0, 0, ()), (0, 0, 0, 0, 0, 0, ()), ()), ()) : Dq2), y686.1.2.1, ()), ()))
      else
      some (Sum.inl ((iAdd .i64 s683.1 1), y686.1.1, ()))
    else none
  else
  Option.map Sum.inr (some ((s683.2.1, (0 : Int), ()), ()))
def impl_UpdateAll (a0 : Dq2) (a1 : (List Dq6)) : Option Dq12 :=
  (impl_ValidState a0).bind fun y672 =>
  bif (! y672.1.1) then
    some (((((0, 0, 0, 0, 0, 0, ()), ((0, 0, 0, 0, 0, 0, ()), (0, 0, 0, 0, 0, 0, ()), (0, 0, 0, 0, 0, 0, ()), (0, 0, 0, 0, 0, 0, ()), (0, 0, 0, 0, 0, 0, ()), (0, 0, 0, 0, 0, 0, ()), ()), ()) : Dq2), (1 : Int), ()), ())
  else
  (slices_ContainsFunc_impl_Clue a1 (fun (z674 : (Dq6 × Unit)) => (impl_UpdateAll_1 z674.1).map fun y => y.1.1)).bind fun y675 =>
  bif y675.1.1 then
    some (((((0, 0, 0, 0, 0, 0, ()), ((0, 0, 0, 0, 0, 0, ()), (0, 0, 0, 0, 0, 0, ()), (0, 0, 0, 0, 0, 0, ()), (0, 0, 0, 0, 0, 0, ()), (0, 0, 0, 0, 0, 0, ()), (0, 0, 0, 0, 0, 0, ()), ()), ()) : Dq2), (1 : Int), ()), ())
  else
  bif (iLt 256 (lenI a1)) then
    some (((((0, 0, 0, 0, 0, 0, ()), ((0, 0, 0, 0, 0, 0, ()), (0, 0, 0, 0, 0, 0, ()), (0, 0, 0, 0, 0, 0, ()), (0, 0, 0, 0, 0, 0, ()), (0, 0, 0, 0, 0, 0, ()), (0, 0, 0, 0, 0, 0, ()), ()), ()) : Dq2), (3 : Int), ()), ())
  else run (impl_UpdateAll_l6 a1) ((0 : Int), a0, ())
def impl_UpdateAll_en : Entry := ⟨⟨[.v Uq1, .v (.list Uq3)], [.v (.val Uq1), .v (.val (.int .i64))], false⟩, fun x => impl_UpdateAll x.1 x.2.1⟩
theorem qmb : Sound Tryz.prog G 115 impl_UpdateAll_en := qab (envS (l := [(71, impl_ValidState_en), (155, slices_ContainsFunc_impl_Clue_en), (156, impl_UpdateAll_1_en), (158, impl_Update_en)]) ⟨(qa0), (qd9), (qj3), (qic), trivial⟩) [(6, .vary [(26, .sc (.int .i64)), (2, .box (.val Uq1))])] Tryz.func115 (by kernel_rfl) rfl fun _ => by kernel_rfl
def impl_numberOr (a0 : Nat) : Option ((Nat × Int × Unit) × Unit) :=
  (impl_isFinite ([a0] : (List Nat))).bind fun y968 =>
  bif (! y968.1.1) then some (((0 : Nat), (4 : Int), ()), ()) else some ((a0, (0 : Int), ()), ())
def impl_numberOr_en : Entry := ⟨⟨[.v (.flt .f32)], [.v (.val (.flt .f32)), .v (.val (.int .i64))], false⟩, fun x => impl_numberOr x.1⟩
theorem qmp : Sound Tryz.prog G 197 impl_numberOr_en := qab (envS (l := [(39, impl_isFinite_en)]) ⟨(qa1), trivial⟩) [] Tryz.func197 (by kernel_rfl) rfl fun _ => by kernel_rfl
def impl_GateOf (a0 : Dq2) (a1 : Dq6) : Option ((Nat × Int × Unit) × Unit) :=
  (impl_ValidState a0).bind fun y960 =>
  bif (! y960.1.1) then some (((0 : Nat), (1 : Int), ()), ()) else
  (impl_ValidClue a1).bind fun y962 =>
  bif (! y962.1.1) then some (((0 : Nat), (1 : Int), ()), ()) else
  (impl_shares a0 a1).bind fun y964 =>
  (impl_numberOr (fDiv .f32 (fMul .f32 y964.1.2.1 y964.1.2.1) y964.1.2.2.1)).bind fun y967 =>
  some ((y967.1.1, y967.1.2.1, ()), ())
def impl_GateOf_en : Entry := ⟨⟨[.v Uq1, .v Uq3], [.v (.val (.flt .f32)), .v (.val (.int .i64))], false⟩, fun x => impl_GateOf x.1 x.2.1⟩
theorem qpr : Sound Tryz.prog G 159 impl_GateOf_en := qab (envS (l := [(71, impl_ValidState_en), (157, impl_ValidClue_en), (196, impl_shares_en), (197, impl_numberOr_en)]) ⟨(qa0), (qb0), (qij), (qmp), trivial⟩) [] Tryz.func159 (by kernel_rfl) rfl fun _ => by kernel_rfl
def impl_UpdateGated (a0 : Dq2) (a1 : Dq6) (a2 : Nat) : Option Dq19 :=
  (impl_ValidState a0).bind fun y948 =>
  bif (! y948.1.1) then
    some (((((0, 0, 0, 0, 0, 0, ()), ((0, 0, 0, 0, 0, 0, ()), (0, 0, 0, 0, 0, 0, ()), (0, 0, 0, 0, 0, 0, ()), (0, 0, 0, 0, 0, 0, ()), (0, 0, 0, 0, 0, 0, ()), (0, 0, 0, 0, 0, 0, ()), ()), ()) : Dq2), false, (1 : Int), ()), ())
  else
  (impl_ValidClue a1).bind fun y950 =>
  bif (! y950.1.1) then
    some (((((0, 0, 0, 0, 0, 0, ()), ((0, 0, 0, 0, 0, 0, ()), (0, 0, 0, 0, 0, 0, ()), (0, 0, 0, 0, 0, 0, ()), (0, 0, 0, 0, 0, 0, ()), (0, 0, 0, 0, 0, 0, ()), (0, 0, 0, 0, 0, 0, ()), ()), ()) : Dq2), false, (1 : Int), ()), ())
  else
  bif (! (fLe .f32 0 a2)) then
    some (((((0, 0, 0, 0, 0, 0, ()), ((0, 0, 0, 0, 0, 0, ()), (0, 0, 0, 0, 0, 0, ()), (0, 0, 0, 0, 0, 0, ()), (0, 0, 0, 0, 0, 0, ()), (0, 0, 0, 0, 0, 0, ()), (0, 0, 0, 0, 0, 0, ()), ()), ()) : Dq2), false, (2 : Int), ()), ())
  else
  (impl_GateOf a0 a1).bind fun y954 =>
  bif (! (iEq y954.1.2.1 0)) then
    some (((((0, 0, 0, 0, 0, 0, ()), ((0, 0, 0, 0, 0, 0, ()), (0, 0, 0, 0, 0, 0, ()), (0, 0, 0, 0, 0, 0, ()), (0, 0, 0, 0, 0, 0, ()), (0, 0, 0, 0, 0, 0, ()), (0, 0, 0, 0, 0, 0, ()), ()), ()) : Dq2), false, y954.1.2.1, ()), ())
  else
  bif (! (fLe .f32 y954.1.1 a2)) then some ((a0, false, (0 : Int), ()), ()) else
  (impl_Update a0 a1).bind fun y958 =>
  some ((y958.1.1, (iEq y958.1.2.1 0), y958.1.2.1, ()), ())
def impl_UpdateGated_en : Entry := ⟨⟨[.v Uq1, .v Uq3, .v (.flt .f32)], [.v (.val Uq1), .v (.val (.bool)), .v (.val (.int .i64))], false⟩, fun x => impl_UpdateGated x.1 x.2.1 x.2.2.1⟩
theorem qjx : Sound Tryz.prog G 118 impl_UpdateGated_en := qab (envS (l := [(71, impl_ValidState_en), (157, impl_ValidClue_en), (158, impl_Update_en), (159, impl_GateOf_en)]) ⟨(qa0), (qb0), (qic), (qpr), trivial⟩) [] Tryz.func118 (by kernel_rfl) rfl fun _ => by kernel_rfl
def impl_ClueAt (a0 : Int) (a1 : Nat) (a2 : Nat) : Option Dq23 :=
  bif (iLt a0 0) then some (((((0, 0, 0, 0, 0, 0, ()), 0, 0, ()) : Dq6), (2 : Int), ()), ()) else
  bif (iLt 5 a0) then some (((((0, 0, 0, 0, 0, 0, ()), 0, 0, ()) : Dq6), (2 : Int), ()), ()) else
  bif inB a0 6 then
    (impl_clueOr ((Vec.set 6 ((0, 0, 0, 0, 0, 0, ()) : (Vec 6 Nat)) a0.toNat (1065353216 : Nat), a1, a2, ()) : Dq6)).bind fun y973 =>
    some ((y973.1.1, y973.1.2.1, ()), ())
  else none
def impl_ClueAt_en : Entry := ⟨⟨[.v (.int .i64), .v (.flt .f32), .v (.flt .f32)], [.v (.val Uq3), .v (.val (.int .i64))], false⟩, fun x => impl_ClueAt x.1 x.2.1 x.2.2.1⟩
theorem qpb : Sound Tryz.prog G 154 impl_ClueAt_en := qab (envS (l := [(164, impl_clueOr_en)]) ⟨(qiu), trivial⟩) [] Tryz.func154 (by kernel_rfl) rfl fun _ => by kernel_rfl
def impl_clueFor (a0 : Int) (a1 : Nat) (a2 : Nat) : Option ((Dq6 × Unit) × Unit) :=
  (impl_ClueAt a0 a1 a2).bind fun y970 =>
  some ((y970.1.1, ()), ())
def impl_clueFor_en : Entry := ⟨⟨[.v (.int .i64), .v (.flt .f32), .v (.flt .f32)], [.v (.val Uq3)], false⟩, fun x => impl_clueFor x.1 x.2.1 x.2.2.1⟩
theorem qnn : Sound Tryz.prog G 114 impl_clueFor_en := qab (envS (l := [(154, impl_ClueAt_en)]) ⟨(qpb), trivial⟩) [] Tryz.func114 (by kernel_rfl) rfl fun _ => by kernel_rfl
def impl_vecOfCounts (a0 : Dq22) (a1 : (Vec 3 Int)) : Option (Dq14 × Unit) :=
  some (((((fAdd .f32 (fMul .f32 (fOfInt .f32 (Vec.getD 3 a1 0 (0 : Int))) (Vec.getD 3 a0.1 0 (0 : Nat))) (Vec.getD 3 a0.2.1 0 (0 : Nat))), (fAdd .f32 (fMul .f32 (fOfInt .f32 (Vec.getD 3 a1 1 (0 : Int))) (Vec.getD 3 a0.1 1 (0 : Nat))) (Vec.getD 3 a0.2.1 1 (0 : Nat))), (fAdd .f32 (fMul .f32 (fOfInt .f32 (Vec.getD 3 a1 2 (0 : Int))) (Vec.getD 3 a0.1 2 (0 : Nat))) (Vec.getD 3 a0.2.1 2 (0 : Nat))), ()) : (Vec 3 Nat)), ()), ())
def impl_vecOfCounts_en : Entry := ⟨⟨[.v Uq8, .v (.arr 3 (.int .i16))], [.v (.val (.arr 3 (.flt .f32)))], false⟩, fun x => impl_vecOfCounts x.1 x.2.1⟩
theorem qjz : Sound Tryz.prog G 116 impl_vecOfCounts_en := qab (envS (l := []) trivial) [(3, .unroll 4)] Tryz.func116 (by kernel_rfl) rfl fun _ => by kernel_rfl
def impl_takeEntry (a0 : Dq3) (a1 : Dq2) (a2 : Dq5) : Option Dq19 :=
  bif (iEq a2.1 1) then
    (impl_Predict a1 (fDiv .f32 1065353216 (fOfInt .f32 a0.1)) ((1048576000, 1048576000, 1048576000, ()) : (Vec 3 Nat))).bind fun y231 =>
    some ((y231.1.1, (iEq y231.1.2.1 0), y231.1.2.1, ()), ())
  else
  bif (iEq a2.1 2) then
    (impl_clueFor (3 : Int) (Vec.getD 3 a2.2.1 0 (0 : Nat)) (1040187392 : Nat)).bind fun y235 =>
    (impl_clueFor (4 : Int) (Vec.getD 3 a2.2.1 1 (0 : Nat)) (1040187392 : Nat)).bind fun y237 =>
    (impl_clueFor (5 : Int) (Vec.getD 3 a2.2.1 2 (0 : Nat)) (1040187392 : Nat)).bind fun y239 =>
    (impl_UpdateAll a1 ([y235.1.1, y237.1.1, y239.1.1] : (List Dq6))).bind fun y240 =>
    some ((y240.1.1, (iEq y240.1.2.1 0), y240.1.2.1, ()), ())
  else
  bif (iEq a2.1 3) then
    (impl_FixSensor).bind fun y243 =>
    (impl_vecOfCounts y243.1.1 a2.2.2.1).bind fun y244 =>
    (impl_clueFor (0 : Int) (Vec.getD 3 y244.1.1 0 (0 : Nat)) (1056964608 : Nat)).bind fun y246 =>
    (impl_UpdateGated a1 y246.1.1 (1091567616 : Nat)).bind fun y247 =>
    bif (! (iEq y247.1.2.2.1 0)) then
      some (((((0, 0, 0, 0, 0, 0, ()), ((0, 0, 0, 0, 0, 0, ()), (0, 0, 0, 0, 0, 0, ()), (0, 0, 0, 0, 0, 0, ()), (0, 0, 0, 0, 0, 0, ()), (0, 0, 0, 0, 0, 0, ()), (0, 0, 0, 0, 0, 0, ()), ()), ()) : Dq2), false, y247.1.2.2.1, ()), ())
    else
    (impl_clueFor (1 : Int) (Vec.getD 3 y244.1.1 1 (0 : Nat)) (1056964608 : Nat)).bind fun y250 =>
    (impl_UpdateGated y247.1.1 y250.1.1 (1091567616 : Nat)).bind fun y251 =>
    bif (! (iEq y251.1.2.2.1 0)) then
      some (((((0, 0, 0, 0, 0, 0, ()), ((0, 0, 0, 0, 0, 0, ()), (0, 0, 0, 0, 0, 0, ()), (0, 0, 0, 0, 0, 0, ()), (0, 0, 0, 0, 0, 0, ()), (0, 0, 0, 0, 0, 0, ()), (0, 0, 0, 0, 0, 0, ()), ()), ()) : Dq2), false, y251.1.2.2.1, ()), ())
    else
    bif y247.1.2.1 then
      (impl_clueFor (2 : Int) (Vec.getD 3 y244.1.1 2 (0 : Nat)) (1056964608 : Nat)).bind fun y254 =>
      (impl_UpdateGated y251.1.1 y254.1.1 (1091567616 : Nat)).bind fun y255 =>
      bif (! (iEq y255.1.2.2.1 0)) then
        some (((((0, 0, 0, 0, 0, 0, ()), ((0, 0, 0, 0, 0, 0, ()), (0, 0, 0, 0, 0, 0, ()), (0, 0, 0, 0, 0, 0, ()), (0, 0, 0, 0, 0, 0, ()), (0, 0, 0, 0, 0, 0, ()), (0, 0, 0, 0, 0, 0, ()), ()), ()) : Dq2), false, y255.1.2.2.1, ()), ())
      else
      bif y251.1.2.1 then some ((y255.1.1, y255.1.2.1, (0 : Int), ()), ()) else some ((y255.1.1, false, (0 : Int), ()), ())
    else
    (impl_clueFor (2 : Int) (Vec.getD 3 y244.1.1 2 (0 : Nat)) (1056964608 : Nat)).bind fun y258 =>
    (impl_UpdateGated y251.1.1 y258.1.1 (1091567616 : Nat)).bind fun y259 =>
    bif (! (iEq y259.1.2.2.1 0)) then
      some (((((0, 0, 0, 0, 0, 0, ()), ((0, 0, 0, 0, 0, 0, ()), (0, 0, 0, 0, 0, 0, ()), (0, 0, 0, 0, 0, 0, ()), (0, 0, 0, 0, 0, 0, ()), (0, 0, 0, 0, 0, 0, ()), (0, 0, 0, 0, 0, 0, ()), ()), ()) : Dq2), false, y259.1.2.2.1, ()), ())
    else some ((y259.1.1, false, (0 : Int), ()), ())
  else
  bif inB a2.2.2.2.1 (List.length a0.2.2.1) then
    (impl_RangeClue a1 (List.getD a0.2.2.1 a2.2.2.2.1.toNat ((0, 0, 0, ()) : (Vec 3 Nat))) a2.2.2.2.2.1 (1056964608 : Nat)).bind fun y262 =>
    bif (! (iEq y262.1.2.1 0)) then some ((a1, false, (0 : Int), ()), ()) else
    (impl_UpdateGated a1 y262.1.1 (1091567616 : Nat)).bind fun y264 =>
    some ((y264.1.1, y264.1.2.1, y264.1.2.2.1, ()), ())
  else none
def impl_takeEntry_en : Entry := ⟨⟨[.v Uq4, .v Uq1, .v Uq2], [.v (.val Uq1), .v (.val (.bool)), .v (.val (.int .i64))], false⟩, fun x => impl_takeEntry x.1 x.2.1 x.2.2.1⟩
theorem qgl : Sound Tryz.prog G 74 impl_takeEntry_en := qab (envS (l := [(113, impl_Predict_en), (114, impl_clueFor_en), (115, impl_UpdateAll_en), (116, impl_vecOfCounts_en), (117, impl_FixSensor_en), (118, impl_UpdateGated_en), (119, impl_RangeClue_en)]) ⟨(qn1), (qnn), (qmb), (qjz), (ql9), (qjx), (ql7), trivial⟩) [(8, .unroll 4), (17, .unroll 4)] Tryz.func74 (by kernel_rfl) rfl fun _ => by kernel_rfl
def impl_replay_l3 (a3 : Int) (a0 : Dq3) (s219 : ((List Int) × Int × Dq2 × Unit)) : Option (((List Int) × Int × Dq2 × Unit) ⊕ Dq24) :=
  bif (iLt s219.2.1 a3) then
    bif inB s219.2.1 (List.length a0.2.2.2.1) then
      (impl_takeEntry a0 s219.2.2.1 (List.getD a0.2.2.2.1 s219.2.1.toNat ((0, (0, 0, 0, ()), (0, 0, 0, ()), 0, 0, ()) : Dq5))).bind fun y222 =>
      bif (! (iEq y222.1.2.2.1 0)) then
        Option.map Sum.inr (some (((((0, 0, 0, 0, 0, 0, ()), ((0, 0, 0, 0, 0, 0, ()), (0, 0, 0, 0, 0, 0, ()), (0, 0, 0, 0, 0, 0, ()), (0, 0, 0, 0, 0, 0, ()), (0, 0, 0, 0, 0, 0, ()), (0, 0, 0, 0, 0, 0, ()), ()), ()) : Dq2), ([] : (List Int)), y222.1.2.2.1, ()), ()))
      else
      bif (! y222.1.2.1) then
        bif room (List.length s219.1 + 1) 8 then
          some (Sum.inl ((s219.1 ++ ([s219.2.1] : (List Int))), (iAdd .i64 s219.2.1 1), y222.1.1, ()))
        else none
      else
      some (Sum.inl (s219.1, (iAdd .i64 s219.2.1 1), y222.1.1, ()))
    else none
  else
  Option.map Sum.inr (some ((s219.2.2.1, s219.1, (0 : Int), ()), ()))
def impl_replay (a0 : Dq3) (a1 : Dq2) (a2 : Int) (a3 : Int) : Option Dq24 :=
  run (impl_replay_l3 a3 a0) (([] : (List Int)), a2, a1, ())
def impl_replay_en : Entry := ⟨⟨[.v Uq4, .v Uq1, .v (.int .i64), .v (.int .i64)], [.v (.val Uq1), .v (.rows (.int .i64)), .v (.val (.int .i64))], false⟩, fun x => impl_replay x.1 x.2.1 x.2.2.1 x.2.2.2.1⟩
theorem qir : Sound Tryz.prog G 65 impl_replay_en := qab (envS (l := [(74, impl_takeEntry_en)]) ⟨(qgl), trivial⟩) [(3, .vary [(11, .rows (.int .i64)), (12, .sc (.int .i64)), (5, .box (.val Uq1))])] Tryz.func65 (by kernel_rfl) rfl fun _ => by kernel_rfl
def impl_ReplayFrom (a0 : Dq3) (a1 : Dq2) (a2 : Int) (a3 : Int) : Option Dq12 :=
  (impl_ValidLog a0).bind fun y201 =>
  bif (! y201.1.1) then
    some (((((0, 0, 0, 0, 0, 0, ()), ((0, 0, 0, 0, 0, 0, ()), (0, 0, 0, 0, 0, 0, ()), (0, 0, 0, 0, 0, 0, ()), (0, 0, 0, 0, 0, 0, ()), (0, 0, 0, 0, 0, 0, ()), (0, 0, 0, 0, 0, 0, ()), ()), ()) : Dq2), (1 : Int), ()), ())
  else
  (impl_ValidState a1).bind fun y203 =>
  bif (! y203.1.1) then
    some (((((0, 0, 0, 0, 0, 0, ()), ((0, 0, 0, 0, 0, 0, ()), (0, 0, 0, 0, 0, 0, ()), (0, 0, 0, 0, 0, 0, ()), (0, 0, 0, 0, 0, 0, ()), (0, 0, 0, 0, 0, 0, ()), (0, 0, 0, 0, 0, 0, ()), ()), ()) : Dq2), (1 : Int), ()), ())
  else
  (impl_within a2 (0 : Int) (lenI a0.2.2.2.1)).bind fun y205 =>
  bif (! y205.1.1) then
    some (((((0, 0, 0, 0, 0, 0, ()), ((0, 0, 0, 0, 0, 0, ()), (0, 0, 0, 0, 0, 0, ()), (0, 0, 0, 0, 0, 0, ()), (0, 0, 0, 0, 0, 0, ()), (0, 0, 0, 0, 0, 0, ()), (0, 0, 0, 0, 0, 0, ()), ()), ()) : Dq2), (2 : Int), ()), ())
  else
  (impl_within a3 (0 : Int) (lenI a0.2.2.2.1)).bind fun y207 =>
  bif (! y207.1.1) then
    some (((((0, 0, 0, 0, 0, 0, ()), ((0, 0, 0, 0, 0, 0, ()), (0, 0, 0, 0, 0, 0, ()), (0, 0, 0, 0, 0, 0, ()), (0, 0, 0, 0, 0, 0, ()), (0, 0, 0, 0, 0, 0, ()), (0, 0, 0, 0, 0, 0, ()), ()), ()) : Dq2), (2 : Int), ()), ())
  else
  bif (iLt a3 a2) then
    some (((((0, 0, 0, 0, 0, 0, ()), ((0, 0, 0, 0, 0, 0, ()), (0, 0, 0, 0, 0, 0, ()), (0, 0, 0, 0, 0, 0, ()), (0, 0, 0, 0, 0, 0, ()), (0, 0, 0, 0, 0, 0, ()), (0, 0, 0, 0, 0, 0, ()), ()), ()) : Dq2), (2 : Int), ()), ())
  else
  (impl_replay a0 a1 a2 a3).bind fun y210 =>
  some ((y210.1.1, y210.1.2.2.1, ()), ())
def impl_ReplayFrom_en : Entry := ⟨⟨[.v Uq4, .v Uq1, .v (.int .i64), .v (.int .i64)], [.v (.val Uq1), .v (.val (.int .i64))], false⟩, fun x => impl_ReplayFrom x.1 x.2.1 x.2.2.1 x.2.2.2.1⟩
theorem qkm : Sound Tryz.prog G 29 impl_ReplayFrom_en := qab (envS (l := [(64, impl_ValidLog_en), (65, impl_replay_en), (71, impl_ValidState_en), (72, impl_within_en)]) ⟨(qcq), (qir), (qa0), (qfg), trivial⟩) [] Tryz.func29 (by kernel_rfl) rfl fun _ => by kernel_rfl
def impl_ReplayLog (a0 : Dq3) : Option Dq12 :=
  (impl_ValidLog a0).bind fun y992 =>
  bif (! y992.1.1) then
    some (((((0, 0, 0, 0, 0, 0, ()), ((0, 0, 0, 0, 0, 0, ()), (0, 0, 0, 0, 0, 0, ()), (0, 0, 0, 0, 0, 0, ()), (0, 0, 0, 0, 0, 0, ()), (0, 0, 0, 0, 0, 0, ()), (0, 0, 0, 0, 0, 0, ()), ()), ()) : Dq2), (1 : Int), ()), ())
  else
  (impl_firstState a0).bind fun y994 =>
  (impl_replay a0 y994.1.1 (0 : Int) (lenI a0.2.2.2.1)).bind fun y995 =>
  some ((y995.1.1, y995.1.2.2.1, ()), ())
def impl_ReplayLog_en : Entry := ⟨⟨[.v Uq4], [.v (.val Uq1), .v (.val (.int .i64))], false⟩, fun x => impl_ReplayLog x.1⟩
theorem qmd : Sound Tryz.prog G 24 impl_ReplayLog_en := qab (envS (l := [(64, impl_ValidLog_en), (65, impl_replay_en), (66, impl_firstState_en)]) ⟨(qcq), (qir), (qgb), trivial⟩) [] Tryz.func24 (by kernel_rfl) rfl fun _ => by kernel_rfl
def impl_TakeEntry (a0 : Dq3) (a1 : Dq2) (a2 : Dq5) : Option Dq19 :=
  (impl_ValidLog a0).bind fun y996 =>
  bif (! y996.1.1) then
    some (((((0, 0, 0, 0, 0, 0, ()), ((0, 0, 0, 0, 0, 0, ()), (0, 0, 0, 0, 0, 0, ()), (0, 0, 0, 0, 0, 0, ()), (0, 0, 0, 0, 0, 0, ()), (0, 0, 0, 0, 0, 0, ()), (0, 0, 0, 0, 0, 0, ()), ()), ()) : Dq2), false, (1 : Int), ()), ())
  else
  (impl_ValidState a1).bind fun y998 =>
  bif (! y998.1.1) then
    some (((((0, 0, 0, 0, 0, 0, ()), ((0, 0, 0, 0, 0, 0, ()), (0, 0, 0, 0, 0, 0, ()), (0, 0, 0, 0, 0, 0, ()), (0, 0, 0, 0, 0, 0, ()), (0, 0, 0, 0, 0, 0, ()), (0, 0, 0, 0, 0, 0, ()), ()), ()) : Dq2), false, (1 : Int), ()), ())
  else
  (impl_validEntry a2 (lenI a0.2.2.1)).bind fun y1000 =>
  bif (! y1000.1.1) then
    some (((((0, 0, 0, 0, 0, 0, ()), ((0, 0, 0, 0, 0, 0, ()), (0, 0, 0, 0, 0, 0, ()), (0, 0, 0, 0, 0, 0, ()), (0, 0, 0, 0, 0, 0, ()), (0, 0, 0, 0, 0, 0, ()), (0, 0, 0, 0, 0, 0, ()), ()), ()) : Dq2), false, (1 : Int), ()), ())
  else
  (impl_takeEntry a0 a1 a2).bind fun y1002 =>
  some ((y1002.1.1, y1002.1.2.1, y1002.1.2.2.1, ()), ())
def impl_TakeEntry_en : Entry := ⟨⟨[.v Uq4, .v Uq1, .v Uq2], [.v (.val Uq1), .v (.val (.bool)), .v (.val (.int .i64))], false⟩, fun x => impl_TakeEntry x.1 x.2.1 x.2.2.1⟩
theorem qma : Sound Tryz.prog G 30 impl_TakeEntry_en := qab (envS (l := [(64, impl_ValidLog_en), (71, impl_ValidState_en), (73, impl_validEntry_en), (74, impl_takeEntry_en)]) ⟨(qcq), (qa0), (qf9), (qgl), trivial⟩) [] Tryz.func30 (by kernel_rfl) rfl fun _ => by kernel_rfl
def laws_a2At (a0 : (List Int)) (a1 : Int) (a2 : Int) : Option Dq15 :=
  bif (iLe (lenI a0) a1) then some (((0 : Int), ()), ()) else
  bif (iLt a2 1) then some (((0 : Int), ()), ()) else
  bif inB a1 (List.length a0) then
    bif iEq a2 0 then none else
    some (((iRem .i64 (iWrap .i64 (List.getD a0 a1.toNat (0 : Int))) a2), ()), ())
  else none
def laws_a2At_en : Entry := ⟨⟨[.v (.list (.int .u8)), .v (.int .i64), .v (.int .i64)], [.v (.val (.int .i64))], false⟩, fun x => laws_a2At x.1 x.2.1 x.2.2.1⟩
theorem qrm : Sound Tryz.prog G 28 laws_a2At_en := qab (envS (l := []) trivial) [] Tryz.func28 (by kernel_rfl) rfl fun _ => by kernel_rfl
def laws_a2Long (a0 : (List Int)) (a1 : (List Int)) : Option Dq9 :=
  bif (iLt 3000 (lenI a0)) then some ((true, ()), ()) else
  some (((iLt 3000 (lenI a1)), ()), ())
def laws_a2Long_en : Entry := ⟨⟨[.v (.list (.int .u8)), .v (.list (.int .u8))], [.v (.val (.bool))], false⟩, fun x => laws_a2Long x.1 x.2.1⟩
theorem qoy : Sound Tryz.prog G 22 laws_a2Long_en := qab (envS (l := []) trivial) [] Tryz.func22 (by kernel_rfl) rfl fun _ => by kernel_rfl
def spec_l00From (a0 : (List Int)) : Option ((Dq7 × Unit) × Unit) :=
  some ((((a0, 0, 0, ()) : Dq7), ()), ())
def spec_l00From_en : Entry := ⟨⟨[.v (.list (.int .u8))], [.p (.val Uq6)], true⟩, fun x => spec_l00From x.1⟩
theorem qow : Sound Tryz.prog G 32 spec_l00From_en := qab (envS (l := []) trivial) [] Tryz.func32 (by kernel_rfl) rfl fun _ => by kernel_rfl
def spec_l00Src_next (a0 : Dq7) : Option ((Int × Unit) × (Dq7 × Unit)) :=
  bif (iLt a0.2.1 (lenI a0.1)) then
    bif inB a0.2.1 (List.length a0.1) then
      let x1033 := iWrap .i64 (List.getD a0.1 a0.2.1.toNat (0 : Int))
      let x1034 := iAdd .i64 a0.2.1 1
      let x1038 := iAdd .u64 (iAdd .u64 (iMul .u64 a0.2.2.1 6364136223846793005) (iWrap .u64 x1033)) 1442695040888963407
      bif (iLe x1034 (lenI a0.1)) then some ((x1033, ()), (((a0.1, x1034, x1038, a0.2.2.2) : Dq7), ())) else
      some (((iWrap .i64 (iAnd .u64 (iShr .u64 x1038 40) 255)), ()), (((a0.1, x1034, x1038, a0.2.2.2) : Dq7), ()))
    else none
  else
  let x1043 := iAdd .i64 a0.2.1 1
  let x1046 := iAdd .u64 (iAdd .u64 (iMul .u64 a0.2.2.1 6364136223846793005) 0) 1442695040888963407
  bif (iLe x1043 (lenI a0.1)) then some (((0 : Int), ()), (((a0.1, x1043, x1046, a0.2.2.2) : Dq7), ())) else
  some (((iWrap .i64 (iAnd .u64 (iShr .u64 x1046 40) 255)), ()), (((a0.1, x1043, x1046, a0.2.2.2) : Dq7), ()))
def spec_l00Src_next_en : Entry := ⟨⟨[.io (.val Uq6)], [.v (.val (.int .i64))], true⟩, fun x => spec_l00Src_next x.1⟩
theorem qjy : Sound Tryz.prog G 79 spec_l00Src_next_en := qab (envS (l := []) trivial) [] Tryz.func79 (by kernel_rfl) rfl fun _ => by kernel_rfl
def spec_l00Src_pick (a0 : Dq7) (a1 : Int) : Option ((Int × Unit) × (Dq7 × Unit)) :=
  bif (iLe a1 1) then some (((0 : Int), ()), (a0, ())) else
  (spec_l00Src_next a0).bind fun y1024 =>
  bif (iLt 200 a1) then
    (spec_l00Src_next y1024.2.1).bind fun y1027 =>
    bif iEq a1 0 then none else
    some (((iRem .i64 (iAdd .i64 (iMul .i64 y1024.1.1 256) y1027.1.1) a1), ()), (y1027.2.1, ()))
  else
  bif iEq a1 0 then none else
  some (((iRem .i64 y1024.1.1 a1), ()), (y1024.2.1, ()))
def spec_l00Src_pick_en : Entry := ⟨⟨[.io (.val Uq6), .v (.int .i64)], [.v (.val (.int .i64))], true⟩, fun x => spec_l00Src_pick x.1 x.2.1⟩
theorem qb7 : Sound Tryz.prog G 38 spec_l00Src_pick_en := qab (envS (l := [(79, spec_l00Src_next_en)]) ⟨(qjy), trivial⟩) [] Tryz.func38 (by kernel_rfl) rfl fun _ => by kernel_rfl
def spec_l00Src_one (a0 : Dq7) (a1 : Int) : Option ((Bool × Unit) × (Dq7 × Unit)) :=
  (spec_l00Src_pick a0 a1).bind fun y1021 =>
  some (((iEq y1021.1.1 0), ()), (y1021.2.1, ()))
def spec_l00Src_one_en : Entry := ⟨⟨[.io (.val Uq6), .v (.int .i64)], [.v (.val (.bool))], true⟩, fun x => spec_l00Src_one x.1 x.2.1⟩
theorem qlb : Sound Tryz.prog G 102 spec_l00Src_one_en := qab (envS (l := [(38, spec_l00Src_pick_en)]) ⟨(qb7), trivial⟩) [] Tryz.func102 (by kernel_rfl) rfl fun _ => by kernel_rfl
def spec_l00In (a0 : Int) (a1 : Int) (a2 : Int) : Option Dq9 :=
  bif (iLe a1 a0) then
    some (((iLe a0 a2), ()), ())
  else some ((false, ()), ())
def spec_l00In_en : Entry := ⟨⟨[.v (.int .i64), .v (.int .i64), .v (.int .i64)], [.v (.val (.bool))], false⟩, fun x => spec_l00In x.1 x.2.1 x.2.2.1⟩
theorem qb9 : Sound Tryz.prog G 120 spec_l00In_en := qab (envS (l := []) trivial) [] Tryz.func120 (by kernel_rfl) rfl fun _ => by kernel_rfl
def spec_l08Work_leg (a0 : Dq1) (a1 : (Vec 3 Nat)) (a2 : Int) : Option ((Int × Unit) × (Dq1 × Unit)) :=
  (spec_l00In a2 (1 : Int) (400 : Int)).bind fun y1340 =>
  bif (! y1340.1.1) then
    some (((2 : Int), ()), ((((a0.1.1, a0.1.2.1, a0.1.2.2.1, a0.1.2.2.2.1, a0.1.2.2.2.2), a0.2.1, a0.2.2.1, a0.2.2.2.1, a0.2.2.2.2.1, a0.2.2.2.2.2) : Dq1), ()))
  else
  bif (iEq (lenI a0.1.2.2.2.1) 64) then
    some (((3 : Int), ()), ((((a0.1.1, a0.1.2.1, a0.1.2.2.1, a0.1.2.2.2.1, a0.1.2.2.2.2), a0.2.1, a0.2.2.1, a0.2.2.2.1, a0.2.2.2.2.1, a0.2.2.2.2.2) : Dq1), ()))
  else
  bif (iLt 400 (iAdd .i64 a0.2.2.1 a2)) then
    some (((3 : Int), ()), ((((a0.1.1, a0.1.2.1, a0.1.2.2.1, a0.1.2.2.2.1, a0.1.2.2.2.2), a0.2.1, a0.2.2.1, a0.2.2.2.1, a0.2.2.2.2.1, a0.2.2.2.2.2) : Dq1), ()))
  else
  bif room (List.length a0.1.2.2.2.1 + 1) 40 then
    some (((0 : Int), ()), ((((a0.1.1, a0.1.2.1, a0.1.2.2.1, (a0.1.2.2.2.1 ++ ([(a2, a1, a0.2.1, (-1 : Int), ())] : (List (Int × Dq10)))), a0.1.2.2.2.2), a0.2.1, (iAdd .i64 a0.2.2.1 a2), a0.2.2.2.1, a0.2.2.2.2.1, a0.2.2.2.2.2) : Dq1), ()))
  else none
def spec_l08Work_leg_en : Entry := ⟨⟨[.io (.pair (.pair (.val (.int .i64)) (.pair (.val (.arr 3 (.flt .f32))) (.pair (.rows (.arr 3 (.flt .f32))) (.pair (.rows Uq7) (.val (.unit)))))) (.pair (.val (.int .i64)) (.pair (.val (.int .i64)) (.pair (.rows (.int .i64)) (.pair (.rows (.int .i64)) (.val (.unit))))))), .v (.arr 3 (.flt .f32)), .v (.int .i64)], [.v (.val (.int .i64))], false⟩, fun x => spec_l08Work_leg x.1 x.2.1 x.2.2.1⟩
theorem qe9 : Sound Tryz.prog G 211 spec_l08Work_leg_en := qab (envS (l := [(120, spec_l00In_en)]) ⟨(qb9), trivial⟩) [] Tryz.func211 (by kernel_rfl) rfl fun _ => by kernel_rfl
end
end Go.Proofs.YtildomllnnnofaaGreat
