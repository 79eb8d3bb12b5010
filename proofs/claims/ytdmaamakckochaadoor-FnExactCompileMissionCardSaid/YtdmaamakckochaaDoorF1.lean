import Derived.Test.YtdmaamakckochaaDoorE
/- Functions on typed data: what the evaluation of each Go function is, and that it is sound. -/
namespace Go.Proofs.YtdmaamakckochaaDoor
open Go Go.Tm
set_option linter.unusedVariables false
set_option maxRecDepth 100000
-- loop.example/g01204/impl.within
noncomputable def impl_within (a0 : Int) (a1 : Int) (a2 : Int) : Option ((Bool × Unit) × Unit) :=
  bif (iLe a1 a0) then
    some (((iLe a0 a2), ()), ())
  else some ((false, ()), ())
noncomputable def impl_within_sg : Sig := ⟨[.v (.int .i64), .v (.int .i64), .v (.int .i64)], [.v (.val (.bool))], false⟩
noncomputable def impl_within_en : Entry := ⟨impl_within_sg, fun x => impl_within x.1 x.2.1 x.2.2.1⟩
theorem impl_within_eq {G : List (Nat × Obj)} (x : impl_within_sg.dom) : body (env G []) [] Tryd.f37 impl_within_sg x = impl_within x.1 x.2.1 x.2.2.1 := by kernel_rfl
theorem impl_within_so {G : List (Nat × Obj)} : Sound Tryd.prog G 37 impl_within_en := sound_of_body (envS (l := []) (trivial)) Tryd.func37 (by kernel_rfl) rfl (fun x y h => (impl_within_eq (G := G) x).trans h)

-- loop.example/g01204/impl.ValidGrid
noncomputable def impl_ValidGrid (a0 : (Int × (Int × ((List Int) × Unit)))) : Option ((Bool × Unit) × Unit) :=
  (impl_within a0.1 (1 : Int) (24 : Int)).bind fun y60 =>
  bif y60.1.1 then
    (impl_within a0.2.1 (1 : Int) (24 : Int)).bind fun y61 =>
    bif y61.1.1 then
      some (((iEq (lenI a0.2.2.1) (iMul .i64 a0.1 a0.2.1)), ()), ())
    else some ((false, ()), ())
  else some ((false, ()), ())
noncomputable def impl_ValidGrid_sg : Sig := ⟨[.v (.pair (.int .i64) (.pair (.int .i64) (.pair (.list (.int .u8)) (.unit))))], [.v (.val (.bool))], false⟩
noncomputable def impl_ValidGrid_en : Entry := ⟨impl_ValidGrid_sg, fun x => impl_ValidGrid x.1⟩
theorem impl_ValidGrid_eq {G : List (Nat × Obj)} (x : impl_ValidGrid_sg.dom) : body (env G [(37, impl_within_en)]) [] Tryd.f91 impl_ValidGrid_sg x = impl_ValidGrid x.1 := by kernel_rfl
theorem impl_ValidGrid_so {G : List (Nat × Obj)} : Sound Tryd.prog G 91 impl_ValidGrid_en := sound_of_body (envS (l := [(37, impl_within_en)]) (⟨(impl_within_so), trivial⟩)) Tryd.func91 (by kernel_rfl) rfl (fun x y h => (impl_ValidGrid_eq (G := G) x).trans h)

-- loop.example/g01204/impl.costLetter
noncomputable def impl_costLetter (a0 : Int) : Option ((Int × Unit) × Unit) :=
  bif (iEq a0 0) then some (((46 : Int), ()), ()) else
  bif (iEq a0 255) then some (((35 : Int), ()), ()) else
  bif (iEq (iRem .u8 a0 10) 0) then
    bif (iLe a0 90) then
      some (((iAdd .u8 48 (iQuo .u8 a0 10)), ()), ())
    else some (((63 : Int), ()), ())
  else some (((63 : Int), ()), ())
noncomputable def impl_costLetter_sg : Sig := ⟨[.v (.int .u8)], [.v (.val (.int .u8))], false⟩
noncomputable def impl_costLetter_en : Entry := ⟨impl_costLetter_sg, fun x => impl_costLetter x.1⟩
theorem impl_costLetter_eq {G : List (Nat × Obj)} (x : impl_costLetter_sg.dom) : body (env G []) [] Tryd.f92 impl_costLetter_sg x = impl_costLetter x.1 := by kernel_rfl
theorem impl_costLetter_so {G : List (Nat × Obj)} : Sound Tryd.prog G 92 impl_costLetter_en := sound_of_body (envS (l := []) (trivial)) Tryd.func92 (by kernel_rfl) rfl (fun x y h => (impl_costLetter_eq (G := G) x).trans h)

-- loop.example/g01204/impl.GridText
noncomputable def impl_GridText_l5 (a0 : (Int × (Int × ((List Int) × Unit)))) (s48 : ((List Int) × Int × Unit)) : Option (((List Int) × Int × Unit) ⊕ ((List UInt8 × Unit) × Unit)) :=
  bif (iLt s48.2.1 (lenI a0.2.2.1)) then
    bif inB s48.2.1 (List.length a0.2.2.1) then
      (impl_costLetter (List.getD a0.2.2.1 s48.2.1.toNat (0 : Int))).bind fun y51 =>
      bif room (List.length s48.1 + 1) 1 then
        let l52 := s48.1 ++ ([y51.1.1] : (List Int))
        bif iEq a0.1 0 then none else
        bif (iEq (iRem .i64 (iAdd .i64 s48.2.1 1) a0.1) 0) then
          bif room (List.length l52 + 1) 1 then
            some (Sum.inl ((l52 ++ ([10] : (List Int))), (iAdd .i64 s48.2.1 1), ()))
          else none
        else
        some (Sum.inl (l52, (iAdd .i64 s48.2.1 1), ()))
      else none
    else none
  else
  Option.map Sum.inr (some (((ofBytes s48.1), ()), ()))
noncomputable def impl_GridText (a0 : (Int × (Int × ((List Int) × Unit)))) : Option ((List UInt8 × Unit) × Unit) :=
  (impl_ValidGrid a0).bind fun y46 =>
  bif (! y46.1.1) then some ((([] : List UInt8), ()), ()) else run (impl_GridText_l5 a0) (([] : (List Int)), (0 : Int), ())
noncomputable def impl_GridText_sg : Sig := ⟨[.v (.pair (.int .i64) (.pair (.int .i64) (.pair (.list (.int .u8)) (.unit))))], [.v (.val (.str))], false⟩
noncomputable def impl_GridText_en : Entry := ⟨impl_GridText_sg, fun x => impl_GridText x.1⟩
theorem impl_GridText_eq {G : List (Nat × Obj)} (x : impl_GridText_sg.dom) : body (env G [(91, impl_ValidGrid_en), (92, impl_costLetter_en)]) [(5, .vary [(3, .rows (.int .u8)), (13, .sc (.int .i64))])] Tryd.f43 impl_GridText_sg x = impl_GridText x.1 := by kernel_rfl
theorem impl_GridText_so {G : List (Nat × Obj)} : Sound Tryd.prog G 43 impl_GridText_en := sound_of_body (envS (l := [(91, impl_ValidGrid_en), (92, impl_costLetter_en)]) (⟨(impl_ValidGrid_so), (impl_costLetter_so), trivial⟩)) Tryd.func43 (by kernel_rfl) rfl (fun x y h => (impl_GridText_eq (G := G) x).trans h)

theorem strings_Split_so {G : List (Nat × Obj)} (mx : GMax 1 G) : Sound Tryd.prog G 89 strings_Split_en := split_sound Tryd.func89 (by kernel_rfl) (by kernel_rfl) mx (fun s sep m w h1 h2 h3 => Tryd.strings_Split s sep m w h1 h2 h3)

-- loop.example/g01204/impl.linesOf
noncomputable def impl_linesOf (a0 : List UInt8) : Option (((List (List UInt8)) × Bool × Unit) × Unit) :=
  (strings_Split a0 ([10] : List UInt8)).bind fun y73 =>
  let x74 := iSub .i64 (lenI y73.1.1) 1
  bif inS 0 x74 (List.length y73.1.1) then
    bif (iLt 0 x74) then
      bif inB x74 (List.length y73.1.1) then
        some ((List.take x74.toNat (List.drop 0 y73.1.1), (sEq (List.getD y73.1.1 x74.toNat ([] : List UInt8)) ([])), ()), ())
      else none
    else some ((List.take x74.toNat (List.drop 0 y73.1.1), false, ()), ())
  else none
noncomputable def impl_linesOf_sg : Sig := ⟨[.v (.str)], [.v (.rows (.str)), .v (.val (.bool))], false⟩
noncomputable def impl_linesOf_en : Entry := ⟨impl_linesOf_sg, fun x => impl_linesOf x.1⟩
theorem impl_linesOf_eq {G : List (Nat × Obj)} (x : impl_linesOf_sg.dom) : body (env G [(89, strings_Split_en)]) [] Tryd.f41 impl_linesOf_sg x = impl_linesOf x.1 := by kernel_rfl
theorem impl_linesOf_so {G : List (Nat × Obj)} (mx : GMax 1 G) : Sound Tryd.prog G 41 impl_linesOf_en := sound_of_body (envS (l := [(89, strings_Split_en)]) (⟨(strings_Split_so mx), trivial⟩)) Tryd.func41 (by kernel_rfl) rfl (fun x y h => (impl_linesOf_eq (G := G) x).trans h)

theorem strings_Join_so {G : List (Nat × Obj)} : Sound Tryd.prog G 42 strings_Join_en := join_sound Tryd.func42 (by kernel_rfl) (by kernel_rfl) Tryd.strings_Join_none Tryd.strings_Join

-- loop.example/g01204/impl.ReadGrid
noncomputable def impl_ReadGrid_l6 (x22 : (List Int)) (a0 : List UInt8) (s28 : (Int × (Int × (Int × ((List Int) × Unit))) × Unit)) : Option ((Int × (Int × (Int × ((List Int) × Unit))) × Unit) ⊕ (((Int × (Int × ((List Int) × Unit))) × Int × Unit) × Unit)) :=
  bif (iLt s28.1 (lenI x22)) then
    bif inB s28.1 (List.length x22) then
      let x30 := List.getD x22 s28.1.toNat (0 : Int)
      bif (iEq x30 35) then
        bif room (List.length s28.2.1.2.2.1 + 1) 1 then
          some (Sum.inl ((iAdd .i64 s28.1 1), ((s28.2.1.1, s28.2.1.2.1, (s28.2.1.2.2.1 ++ ([255] : (List Int))), s28.2.1.2.2.2) : (Int × (Int × ((List Int) × Unit)))), ()))
        else none
      else
      bif (iLe 49 x30) then
        bif (iLe x30 57) then
          bif room (List.length s28.2.1.2.2.1 + 1) 1 then
            some (Sum.inl ((iAdd .i64 s28.1 1), ((s28.2.1.1, s28.2.1.2.1, (s28.2.1.2.2.1 ++ ([(iMul .u8 10 (iSub .u8 x30 48))] : (List Int))), s28.2.1.2.2.2) : (Int × (Int × ((List Int) × Unit)))), ()))
          else none
        else
        bif room (List.length s28.2.1.2.2.1 + 1) 1 then
          some (Sum.inl ((iAdd .i64 s28.1 1), ((s28.2.1.1, s28.2.1.2.1, (s28.2.1.2.2.1 ++ ([0] : (List Int))), s28.2.1.2.2.2) : (Int × (Int × ((List Int) × Unit)))), ()))
        else none
      else
      bif room (List.length s28.2.1.2.2.1 + 1) 1 then
        some (Sum.inl ((iAdd .i64 s28.1 1), ((s28.2.1.1, s28.2.1.2.1, (s28.2.1.2.2.1 ++ ([0] : (List Int))), s28.2.1.2.2.2) : (Int × (Int × ((List Int) × Unit)))), ()))
      else none
    else none
  else
  Option.map Sum.inr (
    (impl_GridText ((s28.2.1.1, s28.2.1.2.1, s28.2.1.2.2.1, s28.2.1.2.2.2) : (Int × (Int × ((List Int) × Unit))))).bind fun y44 =>
    bif (! (sEq y44.1.1 a0)) then some ((((0, 0, [], ()) : (Int × (Int × ((List Int) × Unit)))), (5 : Int), ()), ()) else some ((((s28.2.1.1, s28.2.1.2.1, s28.2.1.2.2.1, s28.2.1.2.2.2) : (Int × (Int × ((List Int) × Unit)))), (0 : Int), ()), ()))
noncomputable def impl_ReadGrid (a0 : List UInt8) : Option (((Int × (Int × ((List Int) × Unit))) × Int × Unit) × Unit) :=
  (impl_linesOf a0).bind fun y18 =>
  bif (! y18.1.2.1) then some ((((0, 0, [], ()) : (Int × (Int × ((List Int) × Unit)))), (5 : Int), ()), ()) else
  bif inB 0 (List.length y18.1.1) then
    (strings_Join y18.1.1 ([] : List UInt8)).bind fun y21 =>
    let x22 := bytesOf y21.1.1
    run (impl_ReadGrid_l6 x22 a0) ((0 : Int), ((lenI (List.getD y18.1.1 0 ([] : List UInt8)), lenI y18.1.1, [], ()) : (Int × (Int × ((List Int) × Unit)))), ())
  else none
noncomputable def impl_ReadGrid_sg : Sig := ⟨[.v (.str)], [.v (.pair (.val (.int .i64)) (.pair (.val (.int .i64)) (.pair (.rows (.int .u8)) (.val (.unit))))), .v (.val (.int .i64))], false⟩
noncomputable def impl_ReadGrid_en : Entry := ⟨impl_ReadGrid_sg, fun x => impl_ReadGrid x.1⟩
theorem impl_ReadGrid_eq {G : List (Nat × Obj)} (x : impl_ReadGrid_sg.dom) : body (env G [(41, impl_linesOf_en), (42, strings_Join_en), (43, impl_GridText_en)]) [(6, .vary [(29, .sc (.int .i64)), (6, .box (.pair (.val (.int .i64)) (.pair (.val (.int .i64)) (.pair (.rows (.int .u8)) (.val (.unit))))))])] Tryd.f13 impl_ReadGrid_sg x = impl_ReadGrid x.1 := by kernel_rfl
theorem impl_ReadGrid_so {G : List (Nat × Obj)} (mx : GMax 1 G) : Sound Tryd.prog G 13 impl_ReadGrid_en := sound_of_body (envS (l := [(41, impl_linesOf_en), (42, strings_Join_en), (43, impl_GridText_en)]) (⟨(impl_linesOf_so mx), (strings_Join_so), (impl_GridText_so), trivial⟩)) Tryd.func13 (by kernel_rfl) rfl (fun x y h => (impl_ReadGrid_eq (G := G) x).trans h)

-- loop.example/g01204/laws.eqByteS
noncomputable def laws_eqByteS_l4 (a0 : (List Int)) (a1 : (List Int)) (s83 : (Int × Unit)) : Option ((Int × Unit) ⊕ ((Bool × Unit) × Unit)) :=
  bif (iLt s83.1 (lenI a0)) then
    bif inB s83.1 (List.length a0) then
      bif inB s83.1 (List.length a1) then
        bif (! (iEq (List.getD a0 s83.1.toNat (0 : Int)) (List.getD a1 s83.1.toNat (0 : Int)))) then
          Option.map Sum.inr (some ((false, ()), ()))
        else
        some (Sum.inl ((iAdd .i64 s83.1 1), ()))
      else none
    else none
  else
  Option.map Sum.inr (some ((true, ()), ()))
noncomputable def laws_eqByteS (a0 : (List Int)) (a1 : (List Int)) : Option ((Bool × Unit) × Unit) :=
  bif (! (iEq (lenI a0) (lenI a1))) then some ((false, ()), ()) else run (laws_eqByteS_l4 a0 a1) ((0 : Int), ())
noncomputable def laws_eqByteS_sg : Sig := ⟨[.v (.list (.int .u8)), .v (.list (.int .u8))], [.v (.val (.bool))], false⟩
noncomputable def laws_eqByteS_en : Entry := ⟨laws_eqByteS_sg, fun x => laws_eqByteS x.1 x.2.1⟩
theorem laws_eqByteS_eq {G : List (Nat × Obj)} (x : laws_eqByteS_sg.dom) : body (env G []) [(4, .vary [(5, .sc (.int .i64))])] Tryd.f44 laws_eqByteS_sg x = laws_eqByteS x.1 x.2.1 := by kernel_rfl
theorem laws_eqByteS_so {G : List (Nat × Obj)} : Sound Tryd.prog G 44 laws_eqByteS_en := sound_of_body (envS (l := []) (trivial)) Tryd.func44 (by kernel_rfl) rfl (fun x y h => (laws_eqByteS_eq (G := G) x).trans h)

-- loop.example/g01204/laws.eqGrid
noncomputable def laws_eqGrid (a0 : (Int × (Int × ((List Int) × Unit)))) (a1 : (Int × (Int × ((List Int) × Unit)))) : Option ((Bool × Unit) × Unit) :=
  bif (! (iEq a0.1 a1.1)) then some ((false, ()), ()) else
  bif (! (iEq a0.2.1 a1.2.1)) then some ((false, ()), ()) else
  (laws_eqByteS a0.2.2.1 a1.2.2.1).bind fun y80 =>
  bif (! y80.1.1) then some ((false, ()), ()) else some ((true, ()), ())
noncomputable def laws_eqGrid_sg : Sig := ⟨[.v (.pair (.int .i64) (.pair (.int .i64) (.pair (.list (.int .u8)) (.unit)))), .v (.pair (.int .i64) (.pair (.int .i64) (.pair (.list (.int .u8)) (.unit))))], [.v (.val (.bool))], false⟩
noncomputable def laws_eqGrid_en : Entry := ⟨laws_eqGrid_sg, fun x => laws_eqGrid x.1 x.2.1⟩
theorem laws_eqGrid_eq {G : List (Nat × Obj)} (x : laws_eqGrid_sg.dom) : body (env G [(44, laws_eqByteS_en)]) [] Tryd.f14 laws_eqGrid_sg x = laws_eqGrid x.1 x.2.1 := by kernel_rfl
theorem laws_eqGrid_so {G : List (Nat × Obj)} : Sound Tryd.prog G 14 laws_eqGrid_en := sound_of_body (envS (l := [(44, laws_eqByteS_en)]) (⟨(laws_eqByteS_so), trivial⟩)) Tryd.func14 (by kernel_rfl) rfl (fun x y h => (laws_eqGrid_eq (G := G) x).trans h)

-- loop.example/g01204/laws.heldByteS
noncomputable def laws_heldByteS_l2 (a0 : (List Int)) (s91 : (Int × Int × Unit)) : Option ((Int × Int × Unit) ⊕ ((Int × Unit) × Unit)) :=
  bif (iLt s91.2.1 (lenI a0)) then
    bif inB s91.2.1 (List.length a0) then
      bif (! (iEq (List.getD a0 s91.2.1.toNat (0 : Int)) (iWrap .u8 s91.1))) then
        Option.map Sum.inr (some ((((-1 : Int) : Int), ()), ()))
      else
      some (Sum.inl ((iAdd .i64 s91.1 1), (iAdd .i64 s91.2.1 1), ()))
    else none
  else
  Option.map Sum.inr (some ((s91.1, ()), ()))
noncomputable def laws_heldByteS (a0 : (List Int)) (a1 : Int) : Option ((Int × Unit) × Unit) :=
  run (laws_heldByteS_l2 a0) (a1, (0 : Int), ())
noncomputable def laws_heldByteS_sg : Sig := ⟨[.v (.list (.int .u8)), .v (.int .i64)], [.v (.val (.int .i64))], false⟩
noncomputable def laws_heldByteS_en : Entry := ⟨laws_heldByteS_sg, fun x => laws_heldByteS x.1 x.2.1⟩
theorem laws_heldByteS_eq {G : List (Nat × Obj)} (x : laws_heldByteS_sg.dom) : body (env G []) [(2, .vary [(1, .sc (.int .i64)), (5, .sc (.int .i64))])] Tryd.f46 laws_heldByteS_sg x = laws_heldByteS x.1 x.2.1 := by kernel_rfl
theorem laws_heldByteS_so {G : List (Nat × Obj)} : Sound Tryd.prog G 46 laws_heldByteS_en := sound_of_body (envS (l := []) (trivial)) Tryd.func46 (by kernel_rfl) rfl (fun x y h => (laws_heldByteS_eq (G := G) x).trans h)

-- loop.example/g01204/laws.heldGrid
noncomputable def laws_heldGrid (a0 : (Int × (Int × ((List Int) × Unit)))) (a1 : Int) : Option ((Int × Unit) × Unit) :=
  (laws_heldByteS a0.2.2.1 a1).bind fun y89 =>
  bif (iLt y89.1.1 0) then some ((((-1 : Int) : Int), ()), ()) else some ((y89.1.1, ()), ())
noncomputable def laws_heldGrid_sg : Sig := ⟨[.v (.pair (.int .i64) (.pair (.int .i64) (.pair (.list (.int .u8)) (.unit)))), .v (.int .i64)], [.v (.val (.int .i64))], false⟩
noncomputable def laws_heldGrid_en : Entry := ⟨laws_heldGrid_sg, fun x => laws_heldGrid x.1 x.2.1⟩
theorem laws_heldGrid_eq {G : List (Nat × Obj)} (x : laws_heldGrid_sg.dom) : body (env G [(46, laws_heldByteS_en)]) [] Tryd.f16 laws_heldGrid_sg x = laws_heldGrid x.1 x.2.1 := by kernel_rfl
theorem laws_heldGrid_so {G : List (Nat × Obj)} : Sound Tryd.prog G 16 laws_heldGrid_en := sound_of_body (envS (l := [(46, laws_heldByteS_en)]) (⟨(laws_heldByteS_so), trivial⟩)) Tryd.func16 (by kernel_rfl) rfl (fun x y h => (laws_heldGrid_eq (G := G) x).trans h)

-- loop.example/g01204/laws.markByteS
noncomputable def laws_markByteS_l2 (s104 : (Int × Int × (List Int) × Unit)) : Option ((Int × Int × (List Int) × Unit) ⊕ ((Int × Unit) × ((List Int) × Unit))) :=
  bif (iLt s104.2.1 (lenI s104.2.2.1)) then
    bif inB s104.2.1 (List.length s104.2.2.1) then
      some (Sum.inl ((iAdd .i64 s104.1 1), (iAdd .i64 s104.2.1 1), List.set s104.2.2.1 s104.2.1.toNat (iWrap .u8 s104.1), ()))
    else none
  else
  Option.map Sum.inr (some ((s104.1, ()), (s104.2.2.1, ())))
noncomputable def laws_markByteS (a0 : (List Int)) (a1 : Int) : Option ((Int × Unit) × ((List Int) × Unit)) :=
  run (laws_markByteS_l2) (a1, (0 : Int), a0, ())
noncomputable def laws_markByteS_sg : Sig := ⟨[.mv (.rows (.int .u8)), .v (.int .i64)], [.v (.val (.int .i64))], false⟩
noncomputable def laws_markByteS_en : Entry := ⟨laws_markByteS_sg, fun x => laws_markByteS x.1 x.2.1⟩
theorem laws_markByteS_eq {G : List (Nat × Obj)} (x : laws_markByteS_sg.dom) : body (env G []) [(2, .vary [(1, .sc (.int .i64)), (5, .sc (.int .i64)), (0, .mrows (.int .u8))])] Tryd.f45 laws_markByteS_sg x = laws_markByteS x.1 x.2.1 := by kernel_rfl
theorem laws_markByteS_so {G : List (Nat × Obj)} : Sound Tryd.prog G 45 laws_markByteS_en := sound_of_body (envS (l := []) (trivial)) Tryd.func45 (by kernel_rfl) rfl (fun x y h => (laws_markByteS_eq (G := G) x).trans h)

-- loop.example/g01204/laws.markGrid
noncomputable def laws_markGrid (a0 : (Int × (Int × ((List Int) × Unit)))) (a1 : Int) : Option ((Int × Unit) × ((Int × (Int × ((List Int) × Unit))) × Unit)) :=
  (laws_markByteS a0.2.2.1 a1).bind fun y98 =>
  some ((y98.1.1, ()), (((a0.1, a0.2.1, y98.2.1, a0.2.2.2) : (Int × (Int × ((List Int) × Unit)))), ()))
noncomputable def laws_markGrid_sg : Sig := ⟨[.mv (.pair (.val (.int .i64)) (.pair (.val (.int .i64)) (.pair (.rows (.int .u8)) (.val (.unit))))), .v (.int .i64)], [.v (.val (.int .i64))], false⟩
noncomputable def laws_markGrid_en : Entry := ⟨laws_markGrid_sg, fun x => laws_markGrid x.1 x.2.1⟩
theorem laws_markGrid_eq {G : List (Nat × Obj)} (x : laws_markGrid_sg.dom) : body (env G [(45, laws_markByteS_en)]) [] Tryd.f15 laws_markGrid_sg x = laws_markGrid x.1 x.2.1 := by kernel_rfl
theorem laws_markGrid_so {G : List (Nat × Obj)} : Sound Tryd.prog G 15 laws_markGrid_en := sound_of_body (envS (l := [(45, laws_markByteS_en)]) (⟨(laws_markByteS_so), trivial⟩)) Tryd.func15 (by kernel_rfl) rfl (fun x y h => (laws_markGrid_eq (G := G) x).trans h)

-- loop.example/g01204/spec.l01Split
noncomputable def spec_l01Split_l4 (a0 : List UInt8) (a1 : Int) (s147 : ((List (List UInt8)) × Int × Int × Unit)) : Option (((List (List UInt8)) × Int × Int × Unit) ⊕ (((List (List UInt8)) × Unit) × Unit)) :=
  bif (iLt s147.2.2.1 (lenI a0)) then
    bif inB s147.2.2.1 (List.length a0) then
      bif (iEq (strAt a0 s147.2.2.1) a1) then
        bif inS s147.2.1 s147.2.2.1 (List.length a0) then
          bif room (List.length s147.1 + 1) 16 then
            some (Sum.inl ((s147.1 ++ ([(subL a0 s147.2.1 s147.2.2.1)] : (List (List UInt8)))), (iAdd .i64 s147.2.2.1 1), (iAdd .i64 s147.2.2.1 1), ()))
          else none
        else none
      else
      some (Sum.inl (s147.1, s147.2.1, (iAdd .i64 s147.2.2.1 1), ()))
    else none
  else
  Option.map Sum.inr (
    bif inS s147.2.1 (lenI a0) (List.length a0) then
      bif room (List.length s147.1 + 1) 16 then
        some (((s147.1 ++ ([(dropL a0 s147.2.1)] : (List (List UInt8)))), ()), ())
      else none
    else none)
noncomputable def spec_l01Split (a0 : List UInt8) (a1 : Int) : Option (((List (List UInt8)) × Unit) × Unit) :=
  run (spec_l01Split_l4 a0 a1) (([] : (List (List UInt8))), (0 : Int), (0 : Int), ())
noncomputable def spec_l01Split_sg : Sig := ⟨[.v (.str), .v (.int .u8)], [.v (.rows (.str))], false⟩
noncomputable def spec_l01Split_en : Entry := ⟨spec_l01Split_sg, fun x => spec_l01Split x.1 x.2.1⟩
theorem spec_l01Split_eq {G : List (Nat × Obj)} (x : spec_l01Split_sg.dom) : body (env G []) [(4, .vary [(5, .rows (.str)), (6, .sc (.int .i64)), (7, .sc (.int .i64))])] Tryd.f38 spec_l01Split_sg x = spec_l01Split x.1 x.2.1 := by kernel_rfl
theorem spec_l01Split_so {G : List (Nat × Obj)} : Sound Tryd.prog G 38 spec_l01Split_en := sound_of_body (envS (l := []) (trivial)) Tryd.func38 (by kernel_rfl) rfl (fun x y h => (spec_l01Split_eq (G := G) x).trans h)

-- loop.example/g01204/spec.l00In
noncomputable def spec_l00In (a0 : Int) (a1 : Int) (a2 : Int) : Option ((Bool × Unit) × Unit) :=
  bif (iLe a1 a0) then
    some (((iLe a0 a2), ()), ())
  else some ((false, ()), ())
noncomputable def spec_l00In_sg : Sig := ⟨[.v (.int .i64), .v (.int .i64), .v (.int .i64)], [.v (.val (.bool))], false⟩
noncomputable def spec_l00In_en : Entry := ⟨spec_l00In_sg, fun x => spec_l00In x.1 x.2.1 x.2.2.1⟩
theorem spec_l00In_eq {G : List (Nat × Obj)} (x : spec_l00In_sg.dom) : body (env G []) [] Tryd.f87 spec_l00In_sg x = spec_l00In x.1 x.2.1 x.2.2.1 := by kernel_rfl
theorem spec_l00In_so {G : List (Nat × Obj)} : Sound Tryd.prog G 87 spec_l00In_en := sound_of_body (envS (l := []) (trivial)) Tryd.func87 (by kernel_rfl) rfl (fun x y h => (spec_l00In_eq (G := G) x).trans h)

-- loop.example/g01204/spec.l07Ok
noncomputable def spec_l07Ok (a0 : (Int × (Int × ((List Int) × Unit)))) : Option ((Bool × Unit) × Unit) :=
  (spec_l00In a0.1 (1 : Int) (24 : Int)).bind fun y158 =>
  bif y158.1.1 then
    (spec_l00In a0.2.1 (1 : Int) (24 : Int)).bind fun y159 =>
    bif y159.1.1 then
      some (((iEq (lenI a0.2.2.1) (iMul .i64 a0.1 a0.2.1)), ()), ())
    else some ((false, ()), ())
  else some ((false, ()), ())
noncomputable def spec_l07Ok_sg : Sig := ⟨[.ro (.pair (.int .i64) (.pair (.int .i64) (.pair (.list (.int .u8)) (.unit))))], [.v (.val (.bool))], false⟩
noncomputable def spec_l07Ok_en : Entry := ⟨spec_l07Ok_sg, fun x => spec_l07Ok x.1⟩
theorem spec_l07Ok_eq {G : List (Nat × Obj)} (x : spec_l07Ok_sg.dom) : body (env G [(87, spec_l00In_en)]) [] Tryd.f39 spec_l07Ok_sg x = spec_l07Ok x.1 := by kernel_rfl
theorem spec_l07Ok_so {G : List (Nat × Obj)} : Sound Tryd.prog G 39 spec_l07Ok_en := sound_of_body (envS (l := [(87, spec_l00In_en)]) (⟨(spec_l00In_so), trivial⟩)) Tryd.func39 (by kernel_rfl) rfl (fun x y h => (spec_l07Ok_eq (G := G) x).trans h)

-- loop.example/g01204/spec.l07Sign
noncomputable def spec_l07Sign (a0 : Int) : Option ((Int × Unit) × Unit) :=
  bif (iEq a0 0) then some (((46 : Int), ()), ()) else
  bif (iEq a0 255) then some (((35 : Int), ()), ()) else
  bif (iEq (iRem .u8 a0 10) 0) then
    bif (iLe a0 90) then
      some (((iAdd .u8 48 (iQuo .u8 a0 10)), ()), ())
    else some (((63 : Int), ()), ())
  else some (((63 : Int), ()), ())
noncomputable def spec_l07Sign_sg : Sig := ⟨[.v (.int .u8)], [.v (.val (.int .u8))], false⟩
noncomputable def spec_l07Sign_en : Entry := ⟨spec_l07Sign_sg, fun x => spec_l07Sign x.1⟩
theorem spec_l07Sign_eq {G : List (Nat × Obj)} (x : spec_l07Sign_sg.dom) : body (env G []) [] Tryd.f88 spec_l07Sign_sg x = spec_l07Sign x.1 := by kernel_rfl
theorem spec_l07Sign_so {G : List (Nat × Obj)} : Sound Tryd.prog G 88 spec_l07Sign_en := sound_of_body (envS (l := []) (trivial)) Tryd.func88 (by kernel_rfl) rfl (fun x y h => (spec_l07Sign_eq (G := G) x).trans h)

-- loop.example/g01204/spec.l07Text
noncomputable def spec_l07Text_l3 (a0 : (Int × (Int × ((List Int) × Unit)))) (s164 : ((List Int) × Int × Unit)) : Option (((List Int) × Int × Unit) ⊕ ((List UInt8 × Unit) × Unit)) :=
  bif (iLt s164.2.1 (lenI a0.2.2.1)) then
    bif inB s164.2.1 (List.length a0.2.2.1) then
      (spec_l07Sign (List.getD a0.2.2.1 s164.2.1.toNat (0 : Int))).bind fun y167 =>
      bif room (List.length s164.1 + 1) 1 then
        let l168 := s164.1 ++ ([y167.1.1] : (List Int))
        bif iEq a0.1 0 then none else
        bif (iEq (iRem .i64 (iAdd .i64 s164.2.1 1) a0.1) 0) then
          bif room (List.length l168 + 1) 1 then
            some (Sum.inl ((l168 ++ ([10] : (List Int))), (iAdd .i64 s164.2.1 1), ()))
          else none
        else
        some (Sum.inl (l168, (iAdd .i64 s164.2.1 1), ()))
      else none
    else none
  else
  Option.map Sum.inr (some (((ofBytes s164.1), ()), ()))
noncomputable def spec_l07Text (a0 : (Int × (Int × ((List Int) × Unit)))) : Option ((List UInt8 × Unit) × Unit) :=
  run (spec_l07Text_l3 a0) (([] : (List Int)), (0 : Int), ())
noncomputable def spec_l07Text_sg : Sig := ⟨[.ro (.pair (.int .i64) (.pair (.int .i64) (.pair (.list (.int .u8)) (.unit))))], [.v (.val (.str))], false⟩
noncomputable def spec_l07Text_en : Entry := ⟨spec_l07Text_sg, fun x => spec_l07Text x.1⟩
theorem spec_l07Text_eq {G : List (Nat × Obj)} (x : spec_l07Text_sg.dom) : body (env G [(88, spec_l07Sign_en)]) [(3, .vary [(3, .rows (.int .u8)), (4, .sc (.int .i64))])] Tryd.f40 spec_l07Text_sg x = spec_l07Text x.1 := by kernel_rfl
theorem spec_l07Text_so {G : List (Nat × Obj)} : Sound Tryd.prog G 40 spec_l07Text_en := sound_of_body (envS (l := [(88, spec_l07Sign_en)]) (⟨(spec_l07Sign_so), trivial⟩)) Tryd.func40 (by kernel_rfl) rfl (fun x y h => (spec_l07Text_eq (G := G) x).trans h)

-- loop.example/g01204/spec.ReadGrid
noncomputable def spec_ReadGrid_l6 (a0 : List UInt8) (s121 : (Int × (Int × (Int × ((List Int) × Unit))) × Unit)) : Option ((Int × (Int × (Int × ((List Int) × Unit))) × Unit) ⊕ (((Int × (Int × ((List Int) × Unit))) × Int × Unit) × Unit)) :=
  bif (iLt s121.1 (lenI a0)) then
    bif inB s121.1 (List.length a0) then
      bif (iEq (strAt a0 s121.1) 10) then
        some (Sum.inl ((iAdd .i64 s121.1 1), ((s121.2.1.1, s121.2.1.2.1, s121.2.1.2.2.1, s121.2.1.2.2.2) : (Int × (Int × ((List Int) × Unit)))), ()))
      else
      bif inB s121.1 (List.length a0) then
        bif (iEq (strAt a0 s121.1) 46) then
          bif room (List.length s121.2.1.2.2.1 + 1) 1 then
            some (Sum.inl ((iAdd .i64 s121.1 1), ((s121.2.1.1, s121.2.1.2.1, (s121.2.1.2.2.1 ++ ([0] : (List Int))), s121.2.1.2.2.2) : (Int × (Int × ((List Int) × Unit)))), ()))
          else none
        else
        bif inB s121.1 (List.length a0) then
          bif (iEq (strAt a0 s121.1) 35) then
            bif room (List.length s121.2.1.2.2.1 + 1) 1 then
              some (Sum.inl ((iAdd .i64 s121.1 1), ((s121.2.1.1, s121.2.1.2.1, (s121.2.1.2.2.1 ++ ([255] : (List Int))), s121.2.1.2.2.2) : (Int × (Int × ((List Int) × Unit)))), ()))
            else none
          else
          bif inB s121.1 (List.length a0) then
            bif (iLe 49 (strAt a0 s121.1)) then
              bif inB s121.1 (List.length a0) then
                bif (iLe (strAt a0 s121.1) 57) then
                  bif inB s121.1 (List.length a0) then
                    bif room (List.length s121.2.1.2.2.1 + 1) 1 then
                      some (Sum.inl ((iAdd .i64 s121.1 1), ((s121.2.1.1, s121.2.1.2.1, (s121.2.1.2.2.1 ++ ([(iMul .u8 (iSub .u8 (strAt a0 s121.1) 48) 10)] : (List Int))), s121.2.1.2.2.2) : (Int × (Int × ((List Int) × Unit)))), ()))
                    else none
                  else none
                else
                Option.map Sum.inr (some ((((0, 0, [], ()) : (Int × (Int × ((List Int) × Unit)))), (5 : Int), ()), ()))
              else none
            else
            Option.map Sum.inr (some ((((0, 0, [], ()) : (Int × (Int × ((List Int) × Unit)))), (5 : Int), ()), ()))
          else none
        else none
      else none
    else none
  else
  Option.map Sum.inr (
    (spec_l07Ok ((s121.2.1.1, s121.2.1.2.1, s121.2.1.2.2.1, s121.2.1.2.2.2) : (Int × (Int × ((List Int) × Unit))))).bind fun y143 =>
    bif (! y143.1.1) then some ((((0, 0, [], ()) : (Int × (Int × ((List Int) × Unit)))), (5 : Int), ()), ()) else
    (spec_l07Text ((s121.2.1.1, s121.2.1.2.1, s121.2.1.2.2.1, s121.2.1.2.2.2) : (Int × (Int × ((List Int) × Unit))))).bind fun y145 =>
    bif (! (sEq y145.1.1 a0)) then some ((((0, 0, [], ()) : (Int × (Int × ((List Int) × Unit)))), (5 : Int), ()), ()) else some ((((s121.2.1.1, s121.2.1.2.1, s121.2.1.2.2.1, s121.2.1.2.2.2) : (Int × (Int × ((List Int) × Unit)))), (0 : Int), ()), ()))
noncomputable def spec_ReadGrid (a0 : List UInt8) : Option (((Int × (Int × ((List Int) × Unit))) × Int × Unit) × Unit) :=
  bif (iLt 600 (lenI a0)) then some ((((0, 0, [], ()) : (Int × (Int × ((List Int) × Unit)))), (5 : Int), ()), ()) else
  (spec_l01Split a0 (10 : Int)).bind fun y110 =>
  bif inB 0 (List.length y110.1.1) then
    run (spec_ReadGrid_l6 a0) ((0 : Int), ((lenI (List.getD y110.1.1 0 ([] : List UInt8)), (iSub .i64 (lenI y110.1.1) 1), [], ()) : (Int × (Int × ((List Int) × Unit)))), ())
  else none
noncomputable def spec_ReadGrid_sg : Sig := ⟨[.v (.str)], [.v (.pair (.val (.int .i64)) (.pair (.val (.int .i64)) (.pair (.rows (.int .u8)) (.val (.unit))))), .v (.val (.int .i64))], false⟩
noncomputable def spec_ReadGrid_en : Entry := ⟨spec_ReadGrid_sg, fun x => spec_ReadGrid x.1⟩
theorem spec_ReadGrid_eq {G : List (Nat × Obj)} (x : spec_ReadGrid_sg.dom) : body (env G [(38, spec_l01Split_en), (39, spec_l07Ok_en), (40, spec_l07Text_en)]) [(6, .vary [(6, .sc (.int .i64)), (5, .box (.pair (.val (.int .i64)) (.pair (.val (.int .i64)) (.pair (.rows (.int .u8)) (.val (.unit))))))])] Tryd.f12 spec_ReadGrid_sg x = spec_ReadGrid x.1 := by kernel_rfl
theorem spec_ReadGrid_so {G : List (Nat × Obj)} : Sound Tryd.prog G 12 spec_ReadGrid_en := sound_of_body (envS (l := [(38, spec_l01Split_en), (39, spec_l07Ok_en), (40, spec_l07Text_en)]) (⟨(spec_l01Split_so), (spec_l07Ok_so), (spec_l07Text_so), trivial⟩)) Tryd.func12 (by kernel_rfl) rfl (fun x y h => (spec_ReadGrid_eq (G := G) x).trans h)

-- loop.example/g01204/laws.FnExactReadGrid
noncomputable def laws_FnExactReadGrid (a0 : List UInt8) : Option ((Bool × Unit) × Unit) :=
  bif (iLt 1048576 (lenI a0)) then some ((true, ()), ()) else
  (spec_ReadGrid a0).bind fun y2 =>
  (impl_ReadGrid a0).bind fun y3 =>
  (laws_eqGrid ((y3.1.1.1, y3.1.1.2.1, y3.1.1.2.2.1, y3.1.1.2.2.2) : (Int × (Int × ((List Int) × Unit)))) ((y2.1.1.1, y2.1.1.2.1, y2.1.1.2.2.1, y2.1.1.2.2.2) : (Int × (Int × ((List Int) × Unit))))).bind fun y4 =>
  bif (! y4.1.1) then some ((false, ()), ()) else
  bif (! (iEq y3.1.2.1 y2.1.2.1)) then some ((false, ()), ()) else
  (laws_markGrid ((y3.1.1.1, y3.1.1.2.1, y3.1.1.2.2.1, y3.1.1.2.2.2) : (Int × (Int × ((List Int) × Unit)))) (1 : Int)).bind fun y7 =>
  (laws_heldGrid ((y3.1.1.1, y3.1.1.2.1, y7.2.1.2.2.1, y3.1.1.2.2.2) : (Int × (Int × ((List Int) × Unit)))) (1 : Int)).bind fun y8 =>
  bif (iLt y8.1.1 0) then some ((false, ()), ()) else
  bif (! (iEq y8.1.1 y7.1.1)) then some ((false, ()), ()) else
  (impl_ReadGrid a0).bind fun y11 =>
  (laws_eqGrid ((y11.1.1.1, y11.1.1.2.1, y11.1.1.2.2.1, y11.1.1.2.2.2) : (Int × (Int × ((List Int) × Unit)))) ((y2.1.1.1, y2.1.1.2.1, y2.1.1.2.2.1, y2.1.1.2.2.2) : (Int × (Int × ((List Int) × Unit))))).bind fun y12 =>
  bif (! y12.1.1) then some ((false, ()), ()) else
  bif (! (iEq y11.1.2.1 y2.1.2.1)) then some ((false, ()), ()) else
  (laws_heldGrid ((y3.1.1.1, y3.1.1.2.1, y7.2.1.2.2.1, y3.1.1.2.2.2) : (Int × (Int × ((List Int) × Unit)))) (1 : Int)).bind fun y15 =>
  bif (iLt y15.1.1 0) then some ((false, ()), ()) else
  bif (! (iEq y15.1.1 y7.1.1)) then some ((false, ()), ()) else some ((true, ()), ())
noncomputable def laws_FnExactReadGrid_sg : Sig := ⟨[.v (.str)], [.v (.val (.bool))], false⟩
noncomputable def laws_FnExactReadGrid_en : Entry := ⟨laws_FnExactReadGrid_sg, fun x => laws_FnExactReadGrid x.1⟩
theorem laws_FnExactReadGrid_eq {G : List (Nat × Obj)} (x : laws_FnExactReadGrid_sg.dom) : body (env G [(12, spec_ReadGrid_en), (13, impl_ReadGrid_en), (14, laws_eqGrid_en), (15, laws_markGrid_en), (16, laws_heldGrid_en)]) [] Tryd.f4 laws_FnExactReadGrid_sg x = laws_FnExactReadGrid x.1 := by kernel_rfl
theorem laws_FnExactReadGrid_so {G : List (Nat × Obj)} (mx : GMax 1 G) : Sound Tryd.prog G 4 laws_FnExactReadGrid_en := sound_of_body (envS (l := [(12, spec_ReadGrid_en), (13, impl_ReadGrid_en), (14, laws_eqGrid_en), (15, laws_markGrid_en), (16, laws_heldGrid_en)]) (⟨(spec_ReadGrid_so), (impl_ReadGrid_so mx), (laws_eqGrid_so), (laws_markGrid_so), (laws_heldGrid_so), trivial⟩)) Tryd.func4 (by kernel_rfl) rfl (fun x y h => (laws_FnExactReadGrid_eq (G := G) x).trans h)

-- loop.example/g01204/impl.ValidDeed
noncomputable def impl_ValidDeed (a0 : (Int × (Int × (Int × Unit)))) : Option ((Bool × Unit) × Unit) :=
  (impl_within a0.1 (1 : Int) (7 : Int)).bind fun y199 =>
  bif y199.1.1 then
    (impl_within a0.2.1 (0 : Int) (999 : Int)).bind fun y200 =>
    bif y200.1.1 then
      (impl_within a0.2.2.1 (0 : Int) (999 : Int)).bind fun y201 =>
      bif y201.1.1 then
        bif (iEq a0.1 2) then some ((true, ()), ()) else
        some (((iEq a0.2.2.1 0), ()), ())
      else some ((false, ()), ())
    else some ((false, ()), ())
  else some ((false, ()), ())
noncomputable def impl_ValidDeed_sg : Sig := ⟨[.v (.pair (.int .i64) (.pair (.int .i64) (.pair (.int .i64) (.unit))))], [.v (.val (.bool))], false⟩
noncomputable def impl_ValidDeed_en : Entry := ⟨impl_ValidDeed_sg, fun x => impl_ValidDeed x.1⟩
theorem impl_ValidDeed_eq {G : List (Nat × Obj)} (x : impl_ValidDeed_sg.dom) : body (env G [(37, impl_within_en)]) [] Tryd.f50 impl_ValidDeed_sg x = impl_ValidDeed x.1 := by kernel_rfl
theorem impl_ValidDeed_so {G : List (Nat × Obj)} : Sound Tryd.prog G 50 impl_ValidDeed_en := sound_of_body (envS (l := [(37, impl_within_en)]) (⟨(impl_within_so), trivial⟩)) Tryd.func50 (by kernel_rfl) rfl (fun x y h => (impl_ValidDeed_eq (G := G) x).trans h)

theorem strconv_FormatInt_so {G : List (Nat × Obj)} (tb : GTab Tryd.prog G) : Sound Tryd.prog G 93 strconv_FormatInt_en := formatInt_sound Tryd.func93 (by kernel_rfl) (by kernel_rfl) tb Tryd.strconv_FormatInt_10

-- loop.example/g01204/impl.decimal[int64]
noncomputable def impl_decimal_int64 (a0 : Int) : Option ((List UInt8 × Unit) × Unit) :=
  (strconv_FormatInt a0 (10 : Int)).bind fun y204 =>
  some ((y204.1.1, ()), ())
noncomputable def impl_decimal_int64_sg : Sig := ⟨[.v (.int .i64)], [.v (.val (.str))], false⟩
noncomputable def impl_decimal_int64_en : Entry := ⟨impl_decimal_int64_sg, fun x => impl_decimal_int64 x.1⟩
theorem impl_decimal_int64_eq {G : List (Nat × Obj)} (x : impl_decimal_int64_sg.dom) : body (env G [(93, strconv_FormatInt_en)]) [] Tryd.f52 impl_decimal_int64_sg x = impl_decimal_int64 x.1 := by kernel_rfl
theorem impl_decimal_int64_so {G : List (Nat × Obj)} (tb : GTab Tryd.prog G) : Sound Tryd.prog G 52 impl_decimal_int64_en := sound_of_body (envS (l := [(93, strconv_FormatInt_en)]) (⟨(strconv_FormatInt_so tb), trivial⟩)) Tryd.func52 (by kernel_rfl) rfl (fun x y h => (impl_decimal_int64_eq (G := G) x).trans h)

-- loop.example/g01204/impl.deedWords
noncomputable def impl_deedWords : Option (((List (List UInt8)) × Unit) × Unit) :=
  (strings_Split ([32, 115, 101, 101, 32, 115, 101, 110, 100, 32, 100, 101, 108, 105, 118, 101, 114, 32, 99, 111, 112, 121, 32, 100, 114, 111, 112, 32, 115, 97, 118, 101, 32, 99, 114, 97, 115, 104] : List UInt8) ([32] : List UInt8)).bind fun y205 =>
  some ((y205.1.1, ()), ())
noncomputable def impl_deedWords_sg : Sig := ⟨[], [.v (.rows (.str))], false⟩
noncomputable def impl_deedWords_en : Entry := ⟨impl_deedWords_sg, fun _ => impl_deedWords⟩
theorem impl_deedWords_eq {G : List (Nat × Obj)} (x : impl_deedWords_sg.dom) : body (env G [(89, strings_Split_en)]) [] Tryd.f51 impl_deedWords_sg x = impl_deedWords  := by kernel_rfl
theorem impl_deedWords_so {G : List (Nat × Obj)} (mx : GMax 1 G) : Sound Tryd.prog G 51 impl_deedWords_en := sound_of_body (envS (l := [(89, strings_Split_en)]) (⟨(strings_Split_so mx), trivial⟩)) Tryd.func51 (by kernel_rfl) rfl (fun x y h => (impl_deedWords_eq (G := G) x).trans h)

-- loop.example/g01204/impl.DeedText
noncomputable def impl_DeedText (a0 : (Int × (Int × (Int × Unit)))) : Option ((List UInt8 × Unit) × Unit) :=
  (impl_ValidDeed a0).bind fun y188 =>
  bif (! y188.1.1) then some ((([] : List UInt8), ()), ()) else
  (impl_deedWords).bind fun y190 =>
  bif inB a0.1 (List.length y190.1.1) then
    let x191 := List.getD y190.1.1 a0.1.toNat ([] : List UInt8)
    bif strRoom x191 ([32]) then
      let x192 := strCat x191 ([32])
      (impl_decimal_int64 a0.2.1).bind fun y193 =>
      bif strRoom x192 y193.1.1 then
        let x194 := strCat x192 y193.1.1
        bif (iEq a0.1 2) then
          (impl_decimal_int64 a0.2.2.1).bind fun y196 =>
          bif strRoom ([32]) y196.1.1 then
            let x197 := strCat ([32]) y196.1.1
            bif strRoom x194 x197 then
              some (((strCat x194 x197), ()), ())
            else none
          else none
        else some ((x194, ()), ())
      else none
    else none
  else none
noncomputable def impl_DeedText_sg : Sig := ⟨[.v (.pair (.int .i64) (.pair (.int .i64) (.pair (.int .i64) (.unit))))], [.v (.val (.str))], false⟩
noncomputable def impl_DeedText_en : Entry := ⟨impl_DeedText_sg, fun x => impl_DeedText x.1⟩
theorem impl_DeedText_eq {G : List (Nat × Obj)} (x : impl_DeedText_sg.dom) : body (env G [(50, impl_ValidDeed_en), (51, impl_deedWords_en), (52, impl_decimal_int64_en)]) [] Tryd.f19 impl_DeedText_sg x = impl_DeedText x.1 := by kernel_rfl
theorem impl_DeedText_so {G : List (Nat × Obj)} (mx : GMax 1 G) (tb : GTab Tryd.prog G) : Sound Tryd.prog G 19 impl_DeedText_en := sound_of_body (envS (l := [(50, impl_ValidDeed_en), (51, impl_deedWords_en), (52, impl_decimal_int64_en)]) (⟨(impl_ValidDeed_so), (impl_deedWords_so mx), (impl_decimal_int64_so tb), trivial⟩)) Tryd.func19 (by kernel_rfl) rfl (fun x y h => (impl_DeedText_eq (G := G) x).trans h)

-- loop.example/g01204/laws.toDeed
noncomputable def laws_toDeed (a0 : (Int × (Int × (Int × Unit)))) : Option (((Int × (Int × (Int × Unit))) × Unit) × Unit) :=
  some ((((a0.1, a0.2.1, a0.2.2.1, ()) : (Int × (Int × (Int × Unit)))), ()), ())
noncomputable def laws_toDeed_sg : Sig := ⟨[.v (.pair (.int .i64) (.pair (.int .i64) (.pair (.int .i64) (.unit))))], [.v (.val (.pair (.int .i64) (.pair (.int .i64) (.pair (.int .i64) (.unit)))))], false⟩
noncomputable def laws_toDeed_en : Entry := ⟨laws_toDeed_sg, fun x => laws_toDeed x.1⟩
theorem laws_toDeed_eq {G : List (Nat × Obj)} (x : laws_toDeed_sg.dom) : body (env G []) [] Tryd.f18 laws_toDeed_sg x = laws_toDeed x.1 := by kernel_rfl
theorem laws_toDeed_so {G : List (Nat × Obj)} : Sound Tryd.prog G 18 laws_toDeed_en := sound_of_body (envS (l := []) (trivial)) Tryd.func18 (by kernel_rfl) rfl (fun x y h => (laws_toDeed_eq (G := G) x).trans h)

-- loop.example/g01204/spec.Decimal
noncomputable def spec_Decimal_r (rec_ : Int → Option ((List UInt8 × Unit) × Unit)) (a0 : Int) : Option ((List UInt8 × Unit) × Unit) :=
  bif (iLe 10 a0) then
    (rec_ (iQuo .i64 a0 10)).bind fun y220 =>
    let x224 := ofBytes ([(iWrap .u8 (iAdd .i64 48 (iRem .i64 a0 10)))])
    bif strRoom y220.1.1 x224 then
      some (((strCat y220.1.1 x224), ()), ())
    else none
  else
  some (((ofBytes ([(iWrap .u8 (iAdd .i64 48 a0))])), ()), ())
noncomputable def spec_Decimal_n : Nat → Int → Option ((List UInt8 × Unit) × Unit)
  | 0 => fun _ => none
  | k + 1 => spec_Decimal_r (spec_Decimal_n k)
noncomputable def spec_Decimal : Int → Option ((List UInt8 × Unit) × Unit) := spec_Decimal_n 64
noncomputable def spec_Decimal_sg : Sig := ⟨[.v (.int .i64)], [.v (.val (.str))], false⟩
noncomputable def spec_Decimal_en : Entry := ⟨spec_Decimal_sg, fun x => spec_Decimal x.1⟩
theorem spec_Decimal_eq (rec_ : Int → Option ((List UInt8 × Unit) × Unit)) {G : List (Nat × Obj)} (x : spec_Decimal_sg.dom) : body (env G [(49, ⟨spec_Decimal_sg, fun x => rec_ x.1⟩)]) [] Tryd.f49 spec_Decimal_sg x = spec_Decimal_r rec_ x.1 := by kernel_rfl
theorem spec_Decimal_so {G : List (Nat × Obj)} : Sound Tryd.prog G 49 spec_Decimal_en := by
  have h : ∀ k, Sound Tryd.prog G 49 ⟨spec_Decimal_sg, fun x => spec_Decimal_n k x.1⟩ := by
    intro k
    induction k with
    | zero => exact ⟨rfl, fun _ _ _ _ _ _ _ _ _ _ _ h => by cases h⟩
    | succ k ih => exact sound_of_body (envS (l := [(49, ⟨spec_Decimal_sg, fun x => spec_Decimal_n k x.1⟩)]) (⟨ih, trivial⟩)) Tryd.func49 (by kernel_rfl) rfl (fun x y h => (spec_Decimal_eq (spec_Decimal_n k) (G := G) x).trans h)
  exact h 64

-- loop.example/g01204/spec.l09Deed
noncomputable def spec_l09Deed (a0 : (Int × (Int × (Int × Unit)))) : Option ((Bool × Unit) × Unit) :=
  (spec_l00In a0.1 (1 : Int) (7 : Int)).bind fun y229 =>
  bif (! y229.1.1) then some ((false, ()), ()) else
  (spec_l00In a0.2.1 (0 : Int) (999 : Int)).bind fun y231 =>
  bif (! y231.1.1) then some ((false, ()), ()) else
  (spec_l00In a0.2.2.1 (0 : Int) (999 : Int)).bind fun y233 =>
  bif (! y233.1.1) then some ((false, ()), ()) else
  bif (iEq a0.1 2) then some ((true, ()), ()) else
  some (((iEq a0.2.2.1 0), ()), ())
noncomputable def spec_l09Deed_sg : Sig := ⟨[.v (.pair (.int .i64) (.pair (.int .i64) (.pair (.int .i64) (.unit))))], [.v (.val (.bool))], false⟩
noncomputable def spec_l09Deed_en : Entry := ⟨spec_l09Deed_sg, fun x => spec_l09Deed x.1⟩
theorem spec_l09Deed_eq {G : List (Nat × Obj)} (x : spec_l09Deed_sg.dom) : body (env G [(87, spec_l00In_en)]) [] Tryd.f47 spec_l09Deed_sg x = spec_l09Deed x.1 := by kernel_rfl
theorem spec_l09Deed_so {G : List (Nat × Obj)} : Sound Tryd.prog G 47 spec_l09Deed_en := sound_of_body (envS (l := [(87, spec_l00In_en)]) (⟨(spec_l00In_so), trivial⟩)) Tryd.func47 (by kernel_rfl) rfl (fun x y h => (spec_l09Deed_eq (G := G) x).trans h)

-- loop.example/g01204/spec.l09Words
noncomputable def spec_l09Words : Option (((List (List UInt8)) × (List Int) × Unit) × Unit) :=
  some ((([[], [115, 101, 101], [115, 101, 110, 100], [100, 101, 108, 105, 118, 101, 114], [99, 111, 112, 121], [100, 114, 111, 112], [115, 97, 118, 101], [99, 114, 97, 115, 104]] : (List (List UInt8))), ([0, 1, 2, 1, 1, 1, 1, 1] : (List Int)), ()), ())
noncomputable def spec_l09Words_sg : Sig := ⟨[], [.v (.rows (.str)), .v (.rows (.int .i64))], false⟩
noncomputable def spec_l09Words_en : Entry := ⟨spec_l09Words_sg, fun _ => spec_l09Words⟩
theorem spec_l09Words_eq {G : List (Nat × Obj)} (x : spec_l09Words_sg.dom) : body (env G []) [] Tryd.f48 spec_l09Words_sg x = spec_l09Words  := by kernel_rfl
theorem spec_l09Words_so {G : List (Nat × Obj)} : Sound Tryd.prog G 48 spec_l09Words_en := sound_of_body (envS (l := []) (trivial)) Tryd.func48 (by kernel_rfl) rfl (fun x y h => (spec_l09Words_eq (G := G) x).trans h)

-- loop.example/g01204/spec.DeedText
noncomputable def spec_DeedText (a0 : (Int × (Int × (Int × Unit)))) : Option ((List UInt8 × Unit) × Unit) :=
  (spec_l09Deed a0).bind fun y206 =>
  bif (! y206.1.1) then some ((([] : List UInt8), ()), ()) else
  (spec_l09Words).bind fun y208 =>
  bif inB a0.1 (List.length y208.1.1) then
    let x209 := List.getD y208.1.1 a0.1.toNat ([] : List UInt8)
    bif strRoom x209 ([32]) then
      let x210 := strCat x209 ([32])
      (spec_Decimal a0.2.1).bind fun y211 =>
      bif strRoom x210 y211.1.1 then
        let x212 := strCat x210 y211.1.1
        bif inB a0.1 (List.length y208.1.2.1) then
          bif (iLt 1 (List.getD y208.1.2.1 a0.1.toNat (0 : Int))) then
            (spec_Decimal a0.2.2.1).bind fun y215 =>
            bif strRoom ([32]) y215.1.1 then
              let x216 := strCat ([32]) y215.1.1
              bif strRoom x212 x216 then
                some (((strCat x212 x216), ()), ())
              else none
            else none
          else some ((x212, ()), ())
        else none
      else none
    else none
  else none
noncomputable def spec_DeedText_sg : Sig := ⟨[.v (.pair (.int .i64) (.pair (.int .i64) (.pair (.int .i64) (.unit))))], [.v (.val (.str))], false⟩
noncomputable def spec_DeedText_en : Entry := ⟨spec_DeedText_sg, fun x => spec_DeedText x.1⟩
theorem spec_DeedText_eq {G : List (Nat × Obj)} (x : spec_DeedText_sg.dom) : body (env G [(47, spec_l09Deed_en), (48, spec_l09Words_en), (49, spec_Decimal_en)]) [] Tryd.f17 spec_DeedText_sg x = spec_DeedText x.1 := by kernel_rfl
theorem spec_DeedText_so {G : List (Nat × Obj)} : Sound Tryd.prog G 17 spec_DeedText_en := sound_of_body (envS (l := [(47, spec_l09Deed_en), (48, spec_l09Words_en), (49, spec_Decimal_en)]) (⟨(spec_l09Deed_so), (spec_l09Words_so), (spec_Decimal_so), trivial⟩)) Tryd.func17 (by kernel_rfl) rfl (fun x y h => (spec_DeedText_eq (G := G) x).trans h)

-- loop.example/g01204/laws.FnExactDeedText
noncomputable def laws_FnExactDeedText (a0 : (Int × (Int × (Int × Unit)))) : Option ((Bool × Unit) × Unit) :=
  (laws_toDeed a0).bind fun y183 =>
  (spec_DeedText y183.1.1).bind fun y184 =>
  (laws_toDeed a0).bind fun y185 =>
  (impl_DeedText y185.1.1).bind fun y186 =>
  bif (! (sEq y186.1.1 y184.1.1)) then some ((false, ()), ()) else some ((true, ()), ())
noncomputable def laws_FnExactDeedText_sg : Sig := ⟨[.v (.pair (.int .i64) (.pair (.int .i64) (.pair (.int .i64) (.unit))))], [.v (.val (.bool))], false⟩
noncomputable def laws_FnExactDeedText_en : Entry := ⟨laws_FnExactDeedText_sg, fun x => laws_FnExactDeedText x.1⟩
theorem laws_FnExactDeedText_eq {G : List (Nat × Obj)} (x : laws_FnExactDeedText_sg.dom) : body (env G [(17, spec_DeedText_en), (18, laws_toDeed_en), (19, impl_DeedText_en)]) [] Tryd.f5 laws_FnExactDeedText_sg x = laws_FnExactDeedText x.1 := by kernel_rfl
theorem laws_FnExactDeedText_so {G : List (Nat × Obj)} (mx : GMax 1 G) (tb : GTab Tryd.prog G) : Sound Tryd.prog G 5 laws_FnExactDeedText_en := sound_of_body (envS (l := [(17, spec_DeedText_en), (18, laws_toDeed_en), (19, impl_DeedText_en)]) (⟨(spec_DeedText_so), (laws_toDeed_so), (impl_DeedText_so mx tb), trivial⟩)) Tryd.func5 (by kernel_rfl) rfl (fun x y h => (laws_FnExactDeedText_eq (G := G) x).trans h)

theorem strconv_ParseInt_so {G : List (Nat × Obj)} (sy : GErr 2 G) (ra : GErr 3 G) : Sound Tryd.prog G 86 strconv_ParseInt_en := parseInt_sound Tryd.func86 (by kernel_rfl) (by kernel_rfl) sy ra Tryd.strconv_ParseInt_10_at64_ok (fun s hl h1 h2 ev w he hev => (Tryd.strconv_ParseInt_10_at64_syntax s hl h1 h2 ev w he hev).mono fun e w' ⟨N, h1, _, _, h2⟩ => ⟨N, h1, h2⟩) (fun s hl h ev w he hev => (Tryd.strconv_ParseInt_10_at64_range s hl h ev w he hev).mono fun e w' ⟨N, h1, _, _, h2⟩ => ⟨N, h1, h2⟩)

-- loop.example/g01204/impl.whole
noncomputable def impl_whole (a0 : List UInt8) : Option ((Int × Bool × Unit) × Unit) :=
  (strconv_ParseInt a0 (10 : Int) (64 : Int)).bind fun y275 =>
  bif y275.1.2.1 then
    (impl_within y275.1.1 (0 : Int) (999999 : Int)).bind fun y276 =>
    bif y276.1.1 then
      (impl_decimal_int64 y275.1.1).bind fun y277 =>
      some ((y275.1.1, (sEq y277.1.1 a0), ()), ())
    else some ((y275.1.1, false, ()), ())
  else some ((y275.1.1, false, ()), ())
noncomputable def impl_whole_sg : Sig := ⟨[.v (.str)], [.v (.val (.int .i64)), .v (.val (.bool))], false⟩
noncomputable def impl_whole_en : Entry := ⟨impl_whole_sg, fun x => impl_whole x.1⟩
theorem impl_whole_eq {G : List (Nat × Obj)} (x : impl_whole_sg.dom) : body (env G [(37, impl_within_en), (52, impl_decimal_int64_en), (86, strconv_ParseInt_en)]) [] Tryd.f36 impl_whole_sg x = impl_whole x.1 := by kernel_rfl
theorem impl_whole_so {G : List (Nat × Obj)} (tb : GTab Tryd.prog G) (sy : GErr 2 G) (ra : GErr 3 G) : Sound Tryd.prog G 36 impl_whole_en := sound_of_body (envS (l := [(37, impl_within_en), (52, impl_decimal_int64_en), (86, strconv_ParseInt_en)]) (⟨(impl_within_so), (impl_decimal_int64_so tb), (strconv_ParseInt_so sy ra), trivial⟩)) Tryd.func36 (by kernel_rfl) rfl (fun x y h => (impl_whole_eq (G := G) x).trans h)

theorem strings_Cut_so {G : List (Nat × Obj)} (mx : GMax 1 G) : Sound Tryd.prog G 34 strings_Cut_en := cut_sound Tryd.func34 (by kernel_rfl) (by kernel_rfl) mx Tryd.strings_Cut

theorem strings_CutPrefix_so {G : List (Nat × Obj)} : Sound Tryd.prog G 35 strings_CutPrefix_en := cutPrefix_sound Tryd.func35 (by kernel_rfl) (by kernel_rfl) Tryd.strings_CutPrefix

-- loop.example/g01204/impl.ReadFraction
noncomputable def impl_ReadFraction (a0 : List UInt8) : Option ((Nat × Int × Unit) × Unit) :=
  (strings_Cut a0 ([47] : List UInt8)).bind fun y245 =>
  (strings_CutPrefix y245.1.1 ([45] : List UInt8)).bind fun y246 =>
  (impl_whole y246.1.1).bind fun y247 =>
  bif y246.1.2.1 then
    let x248 := iSub .i64 0 y247.1.1
    bif y245.1.2.2.1 then
      (impl_whole y245.1.2.1).bind fun y249 =>
      bif y247.1.2.1 then
        bif y249.1.2.1 then
          (impl_within y249.1.1 (2 : Int) (1024 : Int)).bind fun y250 =>
          bif y250.1.1 then
            bif (! (iEq (iAnd .i64 y249.1.1 (iSub .i64 y249.1.1 1)) 0)) then some (((0 : Nat), (5 : Int), ()), ()) else
            some (((fDiv .f32 (fOfInt .f32 x248) (fOfInt .f32 y249.1.1)), (0 : Int), ()), ())
          else some (((0 : Nat), (5 : Int), ()), ())
        else some (((0 : Nat), (5 : Int), ()), ())
      else some (((0 : Nat), (5 : Int), ()), ())
    else
    bif (! y247.1.2.1) then some (((0 : Nat), (5 : Int), ()), ()) else
    some (((fDiv .f32 (fOfInt .f32 x248) (fOfInt .f32 1)), (0 : Int), ()), ())
  else
  bif y245.1.2.2.1 then
    (impl_whole y245.1.2.1).bind fun y262 =>
    bif y247.1.2.1 then
      bif y262.1.2.1 then
        (impl_within y262.1.1 (2 : Int) (1024 : Int)).bind fun y263 =>
        bif y263.1.1 then
          bif (! (iEq (iAnd .i64 y262.1.1 (iSub .i64 y262.1.1 1)) 0)) then some (((0 : Nat), (5 : Int), ()), ()) else
          some (((fDiv .f32 (fOfInt .f32 y247.1.1) (fOfInt .f32 y262.1.1)), (0 : Int), ()), ())
        else some (((0 : Nat), (5 : Int), ()), ())
      else some (((0 : Nat), (5 : Int), ()), ())
    else some (((0 : Nat), (5 : Int), ()), ())
  else
  bif (! y247.1.2.1) then some (((0 : Nat), (5 : Int), ()), ()) else
  some (((fDiv .f32 (fOfInt .f32 y247.1.1) (fOfInt .f32 1)), (0 : Int), ()), ())
noncomputable def impl_ReadFraction_sg : Sig := ⟨[.v (.str)], [.v (.val (.flt .f32)), .v (.val (.int .i64))], false⟩
noncomputable def impl_ReadFraction_en : Entry := ⟨impl_ReadFraction_sg, fun x => impl_ReadFraction x.1⟩
theorem impl_ReadFraction_eq {G : List (Nat × Obj)} (x : impl_ReadFraction_sg.dom) : body (env G [(34, strings_Cut_en), (35, strings_CutPrefix_en), (36, impl_whole_en), (37, impl_within_en)]) [] Tryd.f10 impl_ReadFraction_sg x = impl_ReadFraction x.1 := by kernel_rfl
theorem impl_ReadFraction_so {G : List (Nat × Obj)} (mx : GMax 1 G) (tb : GTab Tryd.prog G) (sy : GErr 2 G) (ra : GErr 3 G) : Sound Tryd.prog G 10 impl_ReadFraction_en := sound_of_body (envS (l := [(34, strings_Cut_en), (35, strings_CutPrefix_en), (36, impl_whole_en), (37, impl_within_en)]) (⟨(strings_Cut_so mx), (strings_CutPrefix_so), (impl_whole_so tb sy ra), (impl_within_so), trivial⟩)) Tryd.func10 (by kernel_rfl) rfl (fun x y h => (impl_ReadFraction_eq (G := G) x).trans h)

-- loop.example/g01204/laws.sameFloat
noncomputable def laws_sameFloat (a0 : Nat) (a1 : Nat) : Option ((Bool × Unit) × Unit) :=
  bif (! (fEq .f64 a0 a0)) then
    bif (! (fEq .f64 a0 a0)) then
      some (((! (fEq .f64 a1 a1)), ()), ())
    else some ((false, ()), ())
  else
  bif (! (fEq .f64 a1 a1)) then
    bif (! (fEq .f64 a0 a0)) then
      some (((! (fEq .f64 a1 a1)), ()), ())
    else some ((false, ()), ())
  else
  bif (fEq .f64 a0 0) then
    bif (fEq .f64 a1 0) then
      some (((bEq (fLt .f64 0 (fDiv .f64 4607182418800017408 a0)) (fLt .f64 0 (fDiv .f64 4607182418800017408 a1))), ()), ())
    else
    some (((fEq .f64 a0 a1), ()), ())
  else
  some (((fEq .f64 a0 a1), ()), ())
noncomputable def laws_sameFloat_sg : Sig := ⟨[.v (.flt .f64), .v (.flt .f64)], [.v (.val (.bool))], false⟩
noncomputable def laws_sameFloat_en : Entry := ⟨laws_sameFloat_sg, fun x => laws_sameFloat x.1 x.2.1⟩
theorem laws_sameFloat_eq {G : List (Nat × Obj)} (x : laws_sameFloat_sg.dom) : body (env G []) [] Tryd.f11 laws_sameFloat_sg x = laws_sameFloat x.1 x.2.1 := by kernel_rfl
theorem laws_sameFloat_so {G : List (Nat × Obj)} : Sound Tryd.prog G 11 laws_sameFloat_en := sound_of_body (envS (l := []) (trivial)) Tryd.func11 (by kernel_rfl) rfl (fun x y h => (laws_sameFloat_eq (G := G) x).trans h)

-- loop.example/g01204/spec.l01Number
noncomputable def spec_l01Number_l5 (a0 : List UInt8) (s363 : (Int × Int × Unit)) : Option ((Int × Int × Unit) ⊕ ((Int × Bool × Unit) × Unit)) :=
  bif (iLt s363.2.1 (lenI a0)) then
    bif inB s363.2.1 (List.length a0) then
      bif (iLt (strAt a0 s363.2.1) 48) then
        Option.map Sum.inr (some (((0 : Int), false, ()), ()))
      else
      bif inB s363.2.1 (List.length a0) then
        bif (iLt 57 (strAt a0 s363.2.1)) then
          Option.map Sum.inr (some (((0 : Int), false, ()), ()))
        else
        bif inB s363.2.1 (List.length a0) then
          some (Sum.inl ((iAdd .i64 (iMul .i64 s363.1 10) (iWrap .i64 (iSub .u8 (strAt a0 s363.2.1) 48))), (iAdd .i64 s363.2.1 1), ()))
        else none
      else none
    else none
  else
  Option.map Sum.inr (some ((s363.1, true, ()), ()))
noncomputable def spec_l01Number_l5_2 (a0 : List UInt8) (s375 : (Int × Int × Unit)) : Option ((Int × Int × Unit) ⊕ ((Int × Bool × Unit) × Unit)) :=
  bif (iLt s375.2.1 (lenI a0)) then
    bif inB s375.2.1 (List.length a0) then
      bif (iLt (strAt a0 s375.2.1) 48) then
        Option.map Sum.inr (some (((0 : Int), false, ()), ()))
      else
      bif inB s375.2.1 (List.length a0) then
        bif (iLt 57 (strAt a0 s375.2.1)) then
          Option.map Sum.inr (some (((0 : Int), false, ()), ()))
        else
        bif inB s375.2.1 (List.length a0) then
          some (Sum.inl ((iAdd .i64 (iMul .i64 s375.1 10) (iWrap .i64 (iSub .u8 (strAt a0 s375.2.1) 48))), (iAdd .i64 s375.2.1 1), ()))
        else none
      else none
    else none
  else
  Option.map Sum.inr (some ((s375.1, true, ()), ()))
noncomputable def spec_l01Number (a0 : List UInt8) : Option ((Int × Bool × Unit) × Unit) :=
  bif (iLt (lenI a0) 1) then some (((0 : Int), false, ()), ()) else
  bif (iLt 9 (lenI a0)) then some (((0 : Int), false, ()), ()) else
  bif inB 0 (List.length a0) then
    bif (iEq (strAt a0 0) 48) then
      bif (iLt 1 (lenI a0)) then some (((0 : Int), false, ()), ()) else run (spec_l01Number_l5 a0) ((0 : Int), (0 : Int), ())
    else run (spec_l01Number_l5_2 a0) ((0 : Int), (0 : Int), ())
  else none
noncomputable def spec_l01Number_sg : Sig := ⟨[.v (.str)], [.v (.val (.int .i64)), .v (.val (.bool))], false⟩
noncomputable def spec_l01Number_en : Entry := ⟨spec_l01Number_sg, fun x => spec_l01Number x.1⟩
theorem spec_l01Number_eq {G : List (Nat × Obj)} (x : spec_l01Number_sg.dom) : body (env G []) [(5, .vary [(4, .sc (.int .i64)), (5, .sc (.int .i64))])] Tryd.f69 spec_l01Number_sg x = spec_l01Number x.1 := by kernel_rfl
theorem spec_l01Number_so {G : List (Nat × Obj)} : Sound Tryd.prog G 69 spec_l01Number_en := sound_of_body (envS (l := []) (trivial)) Tryd.func69 (by kernel_rfl) rfl (fun x y h => (spec_l01Number_eq (G := G) x).trans h)

-- loop.example/g01204/spec.l08Whole
noncomputable def spec_l08Whole (a0 : List UInt8) : Option ((Int × Bool × Unit) × Unit) :=
  bif (iLt 6 (lenI a0)) then some (((0 : Int), false, ()), ()) else
  (spec_l01Number a0).bind fun y357 =>
  some ((y357.1.1, y357.1.2.1, ()), ())
noncomputable def spec_l08Whole_sg : Sig := ⟨[.v (.str)], [.v (.val (.int .i64)), .v (.val (.bool))], false⟩
noncomputable def spec_l08Whole_en : Entry := ⟨spec_l08Whole_sg, fun x => spec_l08Whole x.1⟩
theorem spec_l08Whole_eq {G : List (Nat × Obj)} (x : spec_l08Whole_sg.dom) : body (env G [(69, spec_l01Number_en)]) [] Tryd.f83 spec_l08Whole_sg x = spec_l08Whole x.1 := by kernel_rfl
theorem spec_l08Whole_so {G : List (Nat × Obj)} : Sound Tryd.prog G 83 spec_l08Whole_en := sound_of_body (envS (l := [(69, spec_l01Number_en)]) (⟨(spec_l01Number_so), trivial⟩)) Tryd.func83 (by kernel_rfl) rfl (fun x y h => (spec_l08Whole_eq (G := G) x).trans h)

-- loop.example/g01204/spec.l08Fraction
noncomputable def spec_l08Fraction (a0 : List UInt8) : Option ((Nat × Bool × Unit) × Unit) :=
  (spec_l01Split a0 (47 : Int)).bind fun y296 =>
  bif inB 0 (List.length y296.1.1) then
    let x297 := List.getD y296.1.1 0 ([] : List UInt8)
    bif (iLt 0 (lenI x297)) then
      bif inB 0 (List.length x297) then
        bif (iEq (strAt x297 0) 45) then
          bif inS 1 (lenI x297) (List.length x297) then
            (spec_l08Whole (dropL x297 1)).bind fun y302 =>
            bif (! y302.1.2.1) then some (((0 : Nat), false, ()), ()) else
            bif (iLt 2 (lenI y296.1.1)) then some (((0 : Nat), false, ()), ()) else
            bif (iEq (lenI y296.1.1) 1) then
              some (((fOfInt .f32 (iMul .i64 (-1 : Int) y302.1.1)), true, ()), ())
            else
            bif inB 1 (List.length y296.1.1) then
              (spec_l08Whole (List.getD y296.1.1 1 ([] : List UInt8))).bind fun y309 =>
              bif (! y309.1.2.1) then some (((0 : Nat), false, ()), ()) else
              bif (iLt y309.1.1 2) then some (((0 : Nat), false, ()), ()) else
              bif (iLt 1024 y309.1.1) then some (((0 : Nat), false, ()), ()) else
              bif (! (iEq (iAnd .i64 y309.1.1 (iSub .i64 y309.1.1 1)) 0)) then some (((0 : Nat), false, ()), ()) else
              some (((fDiv .f32 (fOfInt .f32 (iMul .i64 (-1 : Int) y302.1.1)) (fOfInt .f32 y309.1.1)), true, ()), ())
            else none
          else none
        else
        (spec_l08Whole x297).bind fun y320 =>
        bif (! y320.1.2.1) then some (((0 : Nat), false, ()), ()) else
        bif (iLt 2 (lenI y296.1.1)) then some (((0 : Nat), false, ()), ()) else
        bif (iEq (lenI y296.1.1) 1) then
          some (((fOfInt .f32 (iMul .i64 1 y320.1.1)), true, ()), ())
        else
        bif inB 1 (List.length y296.1.1) then
          (spec_l08Whole (List.getD y296.1.1 1 ([] : List UInt8))).bind fun y327 =>
          bif (! y327.1.2.1) then some (((0 : Nat), false, ()), ()) else
          bif (iLt y327.1.1 2) then some (((0 : Nat), false, ()), ()) else
          bif (iLt 1024 y327.1.1) then some (((0 : Nat), false, ()), ()) else
          bif (! (iEq (iAnd .i64 y327.1.1 (iSub .i64 y327.1.1 1)) 0)) then some (((0 : Nat), false, ()), ()) else
          some (((fDiv .f32 (fOfInt .f32 (iMul .i64 1 y320.1.1)) (fOfInt .f32 y327.1.1)), true, ()), ())
        else none
      else none
    else
    (spec_l08Whole x297).bind fun y338 =>
    bif (! y338.1.2.1) then some (((0 : Nat), false, ()), ()) else
    bif (iLt 2 (lenI y296.1.1)) then some (((0 : Nat), false, ()), ()) else
    bif (iEq (lenI y296.1.1) 1) then
      some (((fOfInt .f32 (iMul .i64 1 y338.1.1)), true, ()), ())
    else
    bif inB 1 (List.length y296.1.1) then
      (spec_l08Whole (List.getD y296.1.1 1 ([] : List UInt8))).bind fun y345 =>
      bif (! y345.1.2.1) then some (((0 : Nat), false, ()), ()) else
      bif (iLt y345.1.1 2) then some (((0 : Nat), false, ()), ()) else
      bif (iLt 1024 y345.1.1) then some (((0 : Nat), false, ()), ()) else
      bif (! (iEq (iAnd .i64 y345.1.1 (iSub .i64 y345.1.1 1)) 0)) then some (((0 : Nat), false, ()), ()) else
      some (((fDiv .f32 (fOfInt .f32 (iMul .i64 1 y338.1.1)) (fOfInt .f32 y345.1.1)), true, ()), ())
    else none
  else none
noncomputable def spec_l08Fraction_sg : Sig := ⟨[.v (.str)], [.v (.val (.flt .f32)), .v (.val (.bool))], false⟩
noncomputable def spec_l08Fraction_en : Entry := ⟨spec_l08Fraction_sg, fun x => spec_l08Fraction x.1⟩
theorem spec_l08Fraction_eq {G : List (Nat × Obj)} (x : spec_l08Fraction_sg.dom) : body (env G [(38, spec_l01Split_en), (83, spec_l08Whole_en)]) [] Tryd.f33 spec_l08Fraction_sg x = spec_l08Fraction x.1 := by kernel_rfl
theorem spec_l08Fraction_so {G : List (Nat × Obj)} : Sound Tryd.prog G 33 spec_l08Fraction_en := sound_of_body (envS (l := [(38, spec_l01Split_en), (83, spec_l08Whole_en)]) (⟨(spec_l01Split_so), (spec_l08Whole_so), trivial⟩)) Tryd.func33 (by kernel_rfl) rfl (fun x y h => (spec_l08Fraction_eq (G := G) x).trans h)

-- loop.example/g01204/spec.ReadFraction
noncomputable def spec_ReadFraction (a0 : List UInt8) : Option ((Nat × Int × Unit) × Unit) :=
  (spec_l08Fraction a0).bind fun y294 =>
  bif (! y294.1.2.1) then some (((0 : Nat), (5 : Int), ()), ()) else some ((y294.1.1, (0 : Int), ()), ())
noncomputable def spec_ReadFraction_sg : Sig := ⟨[.v (.str)], [.v (.val (.flt .f32)), .v (.val (.int .i64))], false⟩
noncomputable def spec_ReadFraction_en : Entry := ⟨spec_ReadFraction_sg, fun x => spec_ReadFraction x.1⟩
theorem spec_ReadFraction_eq {G : List (Nat × Obj)} (x : spec_ReadFraction_sg.dom) : body (env G [(33, spec_l08Fraction_en)]) [] Tryd.f9 spec_ReadFraction_sg x = spec_ReadFraction x.1 := by kernel_rfl
theorem spec_ReadFraction_so {G : List (Nat × Obj)} : Sound Tryd.prog G 9 spec_ReadFraction_en := sound_of_body (envS (l := [(33, spec_l08Fraction_en)]) (⟨(spec_l08Fraction_so), trivial⟩)) Tryd.func9 (by kernel_rfl) rfl (fun x y h => (spec_ReadFraction_eq (G := G) x).trans h)

-- loop.example/g01204/laws.FnExactReadFraction
noncomputable def laws_FnExactReadFraction (a0 : List UInt8) : Option ((Bool × Unit) × Unit) :=
  bif (iLt 1048576 (lenI a0)) then some ((true, ()), ()) else
  (spec_ReadFraction a0).bind fun y238 =>
  (impl_ReadFraction a0).bind fun y239 =>
  (fConv .f32 .f64 y239.1.1).bind fun y240 =>
  (fConv .f32 .f64 y238.1.1).bind fun y241 =>
  (laws_sameFloat y240 y241).bind fun y242 =>
  bif (! y242.1.1) then some ((false, ()), ()) else
  bif (! (iEq y239.1.2.1 y238.1.2.1)) then some ((false, ()), ()) else some ((true, ()), ())
noncomputable def laws_FnExactReadFraction_sg : Sig := ⟨[.v (.str)], [.v (.val (.bool))], false⟩
noncomputable def laws_FnExactReadFraction_en : Entry := ⟨laws_FnExactReadFraction_sg, fun x => laws_FnExactReadFraction x.1⟩
theorem laws_FnExactReadFraction_eq {G : List (Nat × Obj)} (x : laws_FnExactReadFraction_sg.dom) : body (env G [(9, spec_ReadFraction_en), (10, impl_ReadFraction_en), (11, laws_sameFloat_en)]) [] Tryd.f3 laws_FnExactReadFraction_sg x = laws_FnExactReadFraction x.1 := by kernel_rfl
theorem laws_FnExactReadFraction_so {G : List (Nat × Obj)} (mx : GMax 1 G) (tb : GTab Tryd.prog G) (sy : GErr 2 G) (ra : GErr 3 G) : Sound Tryd.prog G 3 laws_FnExactReadFraction_en := sound_of_body (envS (l := [(9, spec_ReadFraction_en), (10, impl_ReadFraction_en), (11, laws_sameFloat_en)]) (⟨(spec_ReadFraction_so), (impl_ReadFraction_so mx tb sy ra), (laws_sameFloat_so), trivial⟩)) Tryd.func3 (by kernel_rfl) rfl (fun x y h => (laws_FnExactReadFraction_eq (G := G) x).trans h)

-- (*loop.example/g01204/impl.lineReader).ended
noncomputable def impl_lineReader_ended (a0 : ((List (List UInt8)) × (Bool × Unit))) : Option ((Bool × Unit) × Unit) :=
  bif (! a0.2.1) then
    some (((iEq (lenI a0.1) 0), ()), ())
  else some ((false, ()), ())
noncomputable def impl_lineReader_ended_sg : Sig := ⟨[.ro (.pair (.list (.str)) (.pair (.bool) (.unit)))], [.v (.val (.bool))], false⟩
noncomputable def impl_lineReader_ended_en : Entry := ⟨impl_lineReader_ended_sg, fun x => impl_lineReader_ended x.1⟩
theorem impl_lineReader_ended_eq {G : List (Nat × Obj)} (x : impl_lineReader_ended_sg.dom) : body (env G []) [] Tryd.f74 impl_lineReader_ended_sg x = impl_lineReader_ended x.1 := by kernel_rfl
theorem impl_lineReader_ended_so {G : List (Nat × Obj)} : Sound Tryd.prog G 74 impl_lineReader_ended_en := sound_of_body (envS (l := []) (trivial)) Tryd.func74 (by kernel_rfl) rfl (fun x y h => (impl_lineReader_ended_eq (G := G) x).trans h)

-- (*loop.example/g01204/impl.lineReader).word
noncomputable def impl_lineReader_word (a0 : ((List (List UInt8)) × (Bool × Unit))) : Option ((List UInt8 × Unit) × (((List (List UInt8)) × (Bool × Unit)) × Unit)) :=
  bif (iEq (lenI a0.1) 0) then some ((([] : List UInt8), ()), (((a0.1, true, a0.2.2) : ((List (List UInt8)) × (Bool × Unit))), ())) else
  bif inB 0 (List.length a0.1) then
    bif inS 1 ((List.length a0.1 : Nat) : Int) (List.length a0.1) then some (((List.getD a0.1 0 ([] : List UInt8)), ()), (((List.take ((List.length a0.1) - 1) (List.drop 1 a0.1), a0.2) : ((List (List UInt8)) × (Bool × Unit))), ())) else none
  else none
noncomputable def impl_lineReader_word_sg : Sig := ⟨[.io (.pair (.rows (.str)) (.val (.pair (.bool) (.unit))))], [.v (.val (.str))], false⟩
noncomputable def impl_lineReader_word_en : Entry := ⟨impl_lineReader_word_sg, fun x => impl_lineReader_word x.1⟩
theorem impl_lineReader_word_eq {G : List (Nat × Obj)} (x : impl_lineReader_word_sg.dom) : body (env G []) [] Tryd.f72 impl_lineReader_word_sg x = impl_lineReader_word x.1 := by kernel_rfl
theorem impl_lineReader_word_so {G : List (Nat × Obj)} : Sound Tryd.prog G 72 impl_lineReader_word_en := sound_of_body (envS (l := []) (trivial)) Tryd.func72 (by kernel_rfl) rfl (fun x y h => (impl_lineReader_word_eq (G := G) x).trans h)

-- (*loop.example/g01204/impl.lineReader).integer
noncomputable def impl_lineReader_integer (a0 : ((List (List UInt8)) × (Bool × Unit))) : Option ((Int × Unit) × (((List (List UInt8)) × (Bool × Unit)) × Unit)) :=
  (impl_lineReader_word ((a0.1, a0.2) : ((List (List UInt8)) × (Bool × Unit)))).bind fun y410 =>
  (strconv_ParseInt y410.1.1 (10 : Int) (64 : Int)).bind fun y411 =>
  bif y410.2.1.2.1 then some ((y411.1.1, ()), (((y410.2.1.1, true, y410.2.1.2.2) : ((List (List UInt8)) × (Bool × Unit))), ())) else
  bif (! y411.1.2.1) then some ((y411.1.1, ()), (((y410.2.1.1, true, y410.2.1.2.2) : ((List (List UInt8)) × (Bool × Unit))), ())) else
  (impl_decimal_int64 y411.1.1).bind fun y413 =>
  some ((y411.1.1, ()), (((y410.2.1.1, (! (sEq y413.1.1 y410.1.1)), y410.2.1.2.2) : ((List (List UInt8)) × (Bool × Unit))), ()))
noncomputable def impl_lineReader_integer_sg : Sig := ⟨[.io (.pair (.rows (.str)) (.val (.pair (.bool) (.unit))))], [.v (.val (.int .i64))], false⟩
noncomputable def impl_lineReader_integer_en : Entry := ⟨impl_lineReader_integer_sg, fun x => impl_lineReader_integer x.1⟩
theorem impl_lineReader_integer_eq {G : List (Nat × Obj)} (x : impl_lineReader_integer_sg.dom) : body (env G [(52, impl_decimal_int64_en), (72, impl_lineReader_word_en), (86, strconv_ParseInt_en)]) [] Tryd.f73 impl_lineReader_integer_sg x = impl_lineReader_integer x.1 := by kernel_rfl
theorem impl_lineReader_integer_so {G : List (Nat × Obj)} (tb : GTab Tryd.prog G) (sy : GErr 2 G) (ra : GErr 3 G) : Sound Tryd.prog G 73 impl_lineReader_integer_en := sound_of_body (envS (l := [(52, impl_decimal_int64_en), (72, impl_lineReader_word_en), (86, strconv_ParseInt_en)]) (⟨(impl_decimal_int64_so tb), (impl_lineReader_word_so), (strconv_ParseInt_so sy ra), trivial⟩)) Tryd.func73 (by kernel_rfl) rfl (fun x y h => (impl_lineReader_integer_eq (G := G) x).trans h)

-- loop.example/g01204/impl.readLine
noncomputable def impl_readLine (a0 : List UInt8) : Option ((((List (List UInt8)) × (Bool × Unit)) × Unit) × Unit) :=
  (strings_Split a0 ([32] : List UInt8)).bind fun y417 =>
  some ((((y417.1.1, false, ()) : ((List (List UInt8)) × (Bool × Unit))), ()), ())
noncomputable def impl_readLine_sg : Sig := ⟨[.v (.str)], [.p (.pair (.rows (.str)) (.val (.pair (.bool) (.unit))))], false⟩
noncomputable def impl_readLine_en : Entry := ⟨impl_readLine_sg, fun x => impl_readLine x.1⟩
theorem impl_readLine_eq {G : List (Nat × Obj)} (x : impl_readLine_sg.dom) : body (env G [(89, strings_Split_en)]) [] Tryd.f70 impl_readLine_sg x = impl_readLine x.1 := by kernel_rfl
theorem impl_readLine_so {G : List (Nat × Obj)} (mx : GMax 1 G) : Sound Tryd.prog G 70 impl_readLine_en := sound_of_body (envS (l := [(89, strings_Split_en)]) (⟨(strings_Split_so mx), trivial⟩)) Tryd.func70 (by kernel_rfl) rfl (fun x y h => (impl_readLine_eq (G := G) x).trans h)

-- slices.Index[[]string,string]
noncomputable def slices_Index_string_l2 (a0 : (List (List UInt8))) (a1 : List UInt8) (s418 : (Int × Unit)) : Option ((Int × Unit) ⊕ ((Int × Unit) × Unit)) :=
  bif (iLt s418.1 (lenI a0)) then
    bif inB s418.1 (List.length a0) then
      bif (sEq a1 (List.getD a0 s418.1.toNat ([] : List UInt8))) then
        Option.map Sum.inr (some ((s418.1, ()), ()))
      else
      some (Sum.inl ((iAdd .i64 s418.1 1), ()))
    else none
  else
  Option.map Sum.inr (some ((((-1 : Int) : Int), ()), ()))
noncomputable def slices_Index_string (a0 : (List (List UInt8))) (a1 : List UInt8) : Option ((Int × Unit) × Unit) :=
  run (slices_Index_string_l2 a0 a1) ((0 : Int), ())
noncomputable def slices_Index_string_sg : Sig := ⟨[.v (.list (.str)), .v (.str)], [.v (.val (.int .i64))], false⟩
noncomputable def slices_Index_string_en : Entry := ⟨slices_Index_string_sg, fun x => slices_Index_string x.1 x.2.1⟩
theorem slices_Index_string_eq {G : List (Nat × Obj)} (x : slices_Index_string_sg.dom) : body (env G []) [(2, .vary [(8, .sc (.int .i64))])] Tryd.f71 slices_Index_string_sg x = slices_Index_string x.1 x.2.1 := by kernel_rfl
theorem slices_Index_string_so {G : List (Nat × Obj)} : Sound Tryd.prog G 71 slices_Index_string_en := sound_of_body (envS (l := []) (trivial)) Tryd.func71 (by kernel_rfl) rfl (fun x y h => (slices_Index_string_eq (G := G) x).trans h)

-- loop.example/g01204/impl.ReadDeed
noncomputable def impl_ReadDeed (a0 : List UInt8) : Option (((Int × (Int × (Int × Unit))) × Int × Unit) × Unit) :=
  (impl_readLine a0).bind fun y393 =>
  (impl_deedWords).bind fun y394 =>
  (impl_lineReader_word ((y393.1.1.1, y393.1.1.2) : ((List (List UInt8)) × (Bool × Unit)))).bind fun y395 =>
  (slices_Index_string y394.1.1 y395.1.1).bind fun y396 =>
  (impl_lineReader_integer ((y395.2.1.1, y395.2.1.2) : ((List (List UInt8)) × (Bool × Unit)))).bind fun y397 =>
  bif (iEq y396.1.1 2) then
    (impl_lineReader_integer ((y397.2.1.1, y397.2.1.2) : ((List (List UInt8)) × (Bool × Unit)))).bind fun y399 =>
    (impl_lineReader_ended ((y399.2.1.1, y399.2.1.2) : ((List (List UInt8)) × (Bool × Unit)))).bind fun y400 =>
    bif (! y400.1.1) then some ((((0, 0, 0, ()) : (Int × (Int × (Int × Unit)))), (5 : Int), ()), ()) else
    (impl_DeedText ((y396.1.1, y397.1.1, y399.1.1, ()) : (Int × (Int × (Int × Unit))))).bind fun y402 =>
    bif (! (sEq y402.1.1 a0)) then some ((((0, 0, 0, ()) : (Int × (Int × (Int × Unit)))), (5 : Int), ()), ()) else some ((((y396.1.1, y397.1.1, y399.1.1, ()) : (Int × (Int × (Int × Unit)))), (0 : Int), ()), ())
  else
  (impl_lineReader_ended ((y397.2.1.1, y397.2.1.2) : ((List (List UInt8)) × (Bool × Unit)))).bind fun y404 =>
  bif (! y404.1.1) then some ((((0, 0, 0, ()) : (Int × (Int × (Int × Unit)))), (5 : Int), ()), ()) else
  (impl_DeedText ((y396.1.1, y397.1.1, 0, ()) : (Int × (Int × (Int × Unit))))).bind fun y406 =>
  bif (! (sEq y406.1.1 a0)) then some ((((0, 0, 0, ()) : (Int × (Int × (Int × Unit)))), (5 : Int), ()), ()) else some ((((y396.1.1, y397.1.1, 0, ()) : (Int × (Int × (Int × Unit)))), (0 : Int), ()), ())
noncomputable def impl_ReadDeed_sg : Sig := ⟨[.v (.str)], [.v (.val (.pair (.int .i64) (.pair (.int .i64) (.pair (.int .i64) (.unit))))), .v (.val (.int .i64))], false⟩
noncomputable def impl_ReadDeed_en : Entry := ⟨impl_ReadDeed_sg, fun x => impl_ReadDeed x.1⟩
theorem impl_ReadDeed_eq {G : List (Nat × Obj)} (x : impl_ReadDeed_sg.dom) : body (env G [(19, impl_DeedText_en), (51, impl_deedWords_en), (70, impl_readLine_en), (71, slices_Index_string_en), (72, impl_lineReader_word_en), (73, impl_lineReader_integer_en), (74, impl_lineReader_ended_en)]) [] Tryd.f26 impl_ReadDeed_sg x = impl_ReadDeed x.1 := by kernel_rfl
theorem impl_ReadDeed_so {G : List (Nat × Obj)} (mx : GMax 1 G) (tb : GTab Tryd.prog G) (sy : GErr 2 G) (ra : GErr 3 G) : Sound Tryd.prog G 26 impl_ReadDeed_en := sound_of_body (envS (l := [(19, impl_DeedText_en), (51, impl_deedWords_en), (70, impl_readLine_en), (71, slices_Index_string_en), (72, impl_lineReader_word_en), (73, impl_lineReader_integer_en), (74, impl_lineReader_ended_en)]) (⟨(impl_DeedText_so mx tb), (impl_deedWords_so mx), (impl_readLine_so mx), (slices_Index_string_so), (impl_lineReader_word_so), (impl_lineReader_integer_so tb sy ra), (impl_lineReader_ended_so), trivial⟩)) Tryd.func26 (by kernel_rfl) rfl (fun x y h => (impl_ReadDeed_eq (G := G) x).trans h)

-- loop.example/g01204/laws.eqDeed
noncomputable def laws_eqDeed (a0 : (Int × (Int × (Int × Unit)))) (a1 : (Int × (Int × (Int × Unit)))) : Option ((Bool × Unit) × Unit) :=
  bif (! (iEq a0.1 a1.1)) then some ((false, ()), ()) else
  bif (! (iEq a0.2.1 a1.2.1)) then some ((false, ()), ()) else
  bif (! (iEq a0.2.2.1 a1.2.2.1)) then some ((false, ()), ()) else some ((true, ()), ())
noncomputable def laws_eqDeed_sg : Sig := ⟨[.v (.pair (.int .i64) (.pair (.int .i64) (.pair (.int .i64) (.unit)))), .v (.pair (.int .i64) (.pair (.int .i64) (.pair (.int .i64) (.unit))))], [.v (.val (.bool))], false⟩
noncomputable def laws_eqDeed_en : Entry := ⟨laws_eqDeed_sg, fun x => laws_eqDeed x.1 x.2.1⟩
theorem laws_eqDeed_eq {G : List (Nat × Obj)} (x : laws_eqDeed_sg.dom) : body (env G []) [] Tryd.f27 laws_eqDeed_sg x = laws_eqDeed x.1 x.2.1 := by kernel_rfl
theorem laws_eqDeed_so {G : List (Nat × Obj)} : Sound Tryd.prog G 27 laws_eqDeed_en := sound_of_body (envS (l := []) (trivial)) Tryd.func27 (by kernel_rfl) rfl (fun x y h => (laws_eqDeed_eq (G := G) x).trans h)

-- loop.example/g01204/spec.ReadDeed
noncomputable def spec_ReadDeed_l12 (y426 : (((List (List UInt8)) × Unit) × Unit)) (s452 : (Int × (Int × (Int × (Int × Unit))) × Unit)) : Option ((Int × (Int × (Int × (Int × Unit))) × Unit) ⊕ (((Int × (Int × (Int × Unit))) × Int × Unit) × Unit)) :=
  bif (iLt s452.1 (lenI y426.1.1)) then
    bif inB s452.1 (List.length y426.1.1) then
      (spec_l01Number (List.getD y426.1.1 s452.1.toNat ([] : List UInt8))).bind fun y455 =>
      bif (! y455.1.2.1) then
        Option.map Sum.inr (some ((((0, 0, 0, ()) : (Int × (Int × (Int × Unit)))), (5 : Int), ()), ()))
      else
      bif (iEq s452.1 1) then
        some (Sum.inl ((iAdd .i64 s452.1 1), ((s452.2.1.1, y455.1.1, s452.2.1.2.2) : (Int × (Int × (Int × Unit)))), ()))
      else
      some (Sum.inl ((iAdd .i64 s452.1 1), ((s452.2.1.1, s452.2.1.2.1, y455.1.1, s452.2.1.2.2.2) : (Int × (Int × (Int × Unit)))), ()))
    else none
  else
  Option.map Sum.inr (
    (spec_l09Deed s452.2.1).bind fun y460 =>
    bif (! y460.1.1) then some ((((0, 0, 0, ()) : (Int × (Int × (Int × Unit)))), (5 : Int), ()), ()) else some ((s452.2.1, (0 : Int), ()), ()))
noncomputable def spec_ReadDeed_l5 (y427 : (((List (List UInt8)) × (List Int) × Unit) × Unit)) (y426 : (((List (List UInt8)) × Unit) × Unit)) (s434 : (Int × (Int × (Int × (Int × Unit))) × Unit)) : Option ((Int × (Int × (Int × (Int × Unit))) × Unit) ⊕ (((Int × (Int × (Int × Unit))) × Int × Unit) × Unit)) :=
  bif (iLt s434.1 (lenI y427.1.1)) then
    bif inB s434.1 (List.length y427.1.1) then
      bif inB 0 (List.length y426.1.1) then
        bif (sEq (List.getD y427.1.1 s434.1.toNat ([] : List UInt8)) (List.getD y426.1.1 0 ([] : List UInt8))) then
          some (Sum.inl ((iAdd .i64 s434.1 1), ((s434.1, s434.2.1.2) : (Int × (Int × (Int × Unit)))), ()))
        else
        some (Sum.inl ((iAdd .i64 s434.1 1), s434.2.1, ()))
      else none
    else none
  else
  Option.map Sum.inr (
    bif (iEq s434.2.1.1 0) then some ((((0, 0, 0, ()) : (Int × (Int × (Int × Unit)))), (5 : Int), ()), ()) else
    bif inB s434.2.1.1 (List.length y427.1.2.1) then
      bif (! (iEq (lenI y426.1.1) (iAdd .i64 (List.getD y427.1.2.1 s434.2.1.1.toNat (0 : Int)) 1))) then some ((((0, 0, 0, ()) : (Int × (Int × (Int × Unit)))), (5 : Int), ()), ()) else run (spec_ReadDeed_l12 y426) ((1 : Int), s434.2.1, ())
    else none)
noncomputable def spec_ReadDeed (a0 : List UInt8) : Option (((Int × (Int × (Int × Unit))) × Int × Unit) × Unit) :=
  (spec_l01Split a0 (32 : Int)).bind fun y426 =>
  (spec_l09Words).bind fun y427 =>
  run (spec_ReadDeed_l5 y427 y426) ((1 : Int), ((0, 0, 0, ()) : (Int × (Int × (Int × Unit)))), ())
noncomputable def spec_ReadDeed_sg : Sig := ⟨[.v (.str)], [.v (.val (.pair (.int .i64) (.pair (.int .i64) (.pair (.int .i64) (.unit))))), .v (.val (.int .i64))], false⟩
noncomputable def spec_ReadDeed_en : Entry := ⟨spec_ReadDeed_sg, fun x => spec_ReadDeed x.1⟩
theorem spec_ReadDeed_eq {G : List (Nat × Obj)} (x : spec_ReadDeed_sg.dom) : body (env G [(38, spec_l01Split_en), (47, spec_l09Deed_en), (48, spec_l09Words_en), (69, spec_l01Number_en)]) [(5, .vary [(8, .sc (.int .i64)), (7, .box (.val (.pair (.int .i64) (.pair (.int .i64) (.pair (.int .i64) (.unit))))))]), (12, .vary [(9, .sc (.int .i64)), (7, .box (.val (.pair (.int .i64) (.pair (.int .i64) (.pair (.int .i64) (.unit))))))])] Tryd.f25 spec_ReadDeed_sg x = spec_ReadDeed x.1 := by kernel_rfl
theorem spec_ReadDeed_so {G : List (Nat × Obj)} : Sound Tryd.prog G 25 spec_ReadDeed_en := sound_of_body (envS (l := [(38, spec_l01Split_en), (47, spec_l09Deed_en), (48, spec_l09Words_en), (69, spec_l01Number_en)]) (⟨(spec_l01Split_so), (spec_l09Deed_so), (spec_l09Words_so), (spec_l01Number_so), trivial⟩)) Tryd.func25 (by kernel_rfl) rfl (fun x y h => (spec_ReadDeed_eq (G := G) x).trans h)

-- loop.example/g01204/laws.FnExactReadDeed
noncomputable def laws_FnExactReadDeed (a0 : List UInt8) : Option ((Bool × Unit) × Unit) :=
  bif (iLt 1048576 (lenI a0)) then some ((true, ()), ()) else
  (spec_ReadDeed a0).bind fun y388 =>
  (impl_ReadDeed a0).bind fun y389 =>
  (laws_eqDeed y389.1.1 y388.1.1).bind fun y390 =>
  bif (! y390.1.1) then some ((false, ()), ()) else
  bif (! (iEq y389.1.2.1 y388.1.2.1)) then some ((false, ()), ()) else some ((true, ()), ())
noncomputable def laws_FnExactReadDeed_sg : Sig := ⟨[.v (.str)], [.v (.val (.bool))], false⟩
noncomputable def laws_FnExactReadDeed_en : Entry := ⟨laws_FnExactReadDeed_sg, fun x => laws_FnExactReadDeed x.1⟩
theorem laws_FnExactReadDeed_eq {G : List (Nat × Obj)} (x : laws_FnExactReadDeed_sg.dom) : body (env G [(25, spec_ReadDeed_en), (26, impl_ReadDeed_en), (27, laws_eqDeed_en)]) [] Tryd.f7 laws_FnExactReadDeed_sg x = laws_FnExactReadDeed x.1 := by kernel_rfl
theorem laws_FnExactReadDeed_so {G : List (Nat × Obj)} (mx : GMax 1 G) (tb : GTab Tryd.prog G) (sy : GErr 2 G) (ra : GErr 3 G) : Sound Tryd.prog G 7 laws_FnExactReadDeed_en := sound_of_body (envS (l := [(25, spec_ReadDeed_en), (26, impl_ReadDeed_en), (27, laws_eqDeed_en)]) (⟨(spec_ReadDeed_so), (impl_ReadDeed_so mx tb sy ra), (laws_eqDeed_so), trivial⟩)) Tryd.func7 (by kernel_rfl) rfl (fun x y h => (laws_FnExactReadDeed_eq (G := G) x).trans h)

-- loop.example/g01204/impl.ticksOf
noncomputable def impl_ticksOf_l3 (a0 : (Int × ((Vec 3 Nat) × ((List (Vec 3 Nat)) × ((List (Int × ((Vec 3 Nat) × (Int × (Int × Unit))))) × Unit))))) (s586 : (Int × Int × Unit)) : Option ((Int × Int × Unit) ⊕ ((Int × Unit) × Unit)) :=
  bif (iLt s586.2.1 (lenI a0.2.2.2.1)) then
    bif inB s586.2.1 (List.length a0.2.2.2.1) then
      some (Sum.inl ((iAdd .i64 s586.1 (List.getD a0.2.2.2.1 s586.2.1.toNat ((0, (0, 0, 0, ()), 0, 0, ()) : (Int × ((Vec 3 Nat) × (Int × (Int × Unit)))))).1), (iAdd .i64 s586.2.1 1), ()))
    else none
  else
  Option.map Sum.inr (some ((s586.1, ()), ()))
noncomputable def impl_ticksOf (a0 : (Int × ((Vec 3 Nat) × ((List (Vec 3 Nat)) × ((List (Int × ((Vec 3 Nat) × (Int × (Int × Unit))))) × Unit))))) : Option ((Int × Unit) × Unit) :=
  run (impl_ticksOf_l3 a0) ((0 : Int), (0 : Int), ())
noncomputable def impl_ticksOf_sg : Sig := ⟨[.v (.pair (.int .i64) (.pair (.arr 3 (.flt .f32)) (.pair (.list (.arr 3 (.flt .f32))) (.pair (.list (.pair (.int .i64) (.pair (.arr 3 (.flt .f32)) (.pair (.int .i64) (.pair (.int .i64) (.unit)))))) (.unit)))))], [.v (.val (.int .i64))], false⟩
noncomputable def impl_ticksOf_en : Entry := ⟨impl_ticksOf_sg, fun x => impl_ticksOf x.1⟩
theorem impl_ticksOf_eq {G : List (Nat × Obj)} (x : impl_ticksOf_sg.dom) : body (env G []) [(3, .vary [(3, .sc (.int .i64)), (9, .sc (.int .i64))])] Tryd.f142 impl_ticksOf_sg x = impl_ticksOf x.1 := by kernel_rfl
theorem impl_ticksOf_so {G : List (Nat × Obj)} : Sound Tryd.prog G 142 impl_ticksOf_en := sound_of_body (envS (l := []) (trivial)) Tryd.func142 (by kernel_rfl) rfl (fun x y h => (impl_ticksOf_eq (G := G) x).trans h)

-- (*loop.example/g01204/impl.compiler).addLeg
noncomputable def impl_compiler_addLeg (a0 : ((Int × ((Vec 3 Nat) × ((List (Vec 3 Nat)) × ((List (Int × ((Vec 3 Nat) × (Int × (Int × Unit))))) × Unit)))) × (Int × ((List (Int × (Int × Unit))) × (Int × Unit))))) (a1 : (Vec 3 Nat)) (a2 : Int) : Option ((Int × Unit) × (((Int × ((Vec 3 Nat) × ((List (Vec 3 Nat)) × ((List (Int × ((Vec 3 Nat) × (Int × (Int × Unit))))) × Unit)))) × (Int × ((List (Int × (Int × Unit))) × (Int × Unit)))) × Unit)) :=
  (impl_within a2 (1 : Int) (400 : Int)).bind fun y579 =>
  bif (! y579.1.1) then
    some (((2 : Int), ()), ((((a0.1.1, a0.1.2.1, a0.1.2.2.1, a0.1.2.2.2.1, a0.1.2.2.2.2), a0.2.1, a0.2.2.1, a0.2.2.2) : ((Int × ((Vec 3 Nat) × ((List (Vec 3 Nat)) × ((List (Int × ((Vec 3 Nat) × (Int × (Int × Unit))))) × Unit)))) × (Int × ((List (Int × (Int × Unit))) × (Int × Unit))))), ()))
  else
  bif (iEq (lenI a0.1.2.2.2.1) 64) then
    some (((3 : Int), ()), ((((a0.1.1, a0.1.2.1, a0.1.2.2.1, a0.1.2.2.2.1, a0.1.2.2.2.2), a0.2.1, a0.2.2.1, a0.2.2.2) : ((Int × ((Vec 3 Nat) × ((List (Vec 3 Nat)) × ((List (Int × ((Vec 3 Nat) × (Int × (Int × Unit))))) × Unit)))) × (Int × ((List (Int × (Int × Unit))) × (Int × Unit))))), ()))
  else
  (impl_ticksOf ((a0.1.1, a0.1.2.1, a0.1.2.2.1, a0.1.2.2.2.1, a0.1.2.2.2.2) : (Int × ((Vec 3 Nat) × ((List (Vec 3 Nat)) × ((List (Int × ((Vec 3 Nat) × (Int × (Int × Unit))))) × Unit)))))).bind fun y582 =>
  bif (iLt 400 (iAdd .i64 y582.1.1 a2)) then
    some (((3 : Int), ()), ((((a0.1.1, a0.1.2.1, a0.1.2.2.1, a0.1.2.2.2.1, a0.1.2.2.2.2), a0.2.1, a0.2.2.1, a0.2.2.2) : ((Int × ((Vec 3 Nat) × ((List (Vec 3 Nat)) × ((List (Int × ((Vec 3 Nat) × (Int × (Int × Unit))))) × Unit)))) × (Int × ((List (Int × (Int × Unit))) × (Int × Unit))))), ()))
  else
  bif room (List.length a0.1.2.2.2.1 + 1) 40 then
    some (((0 : Int), ()), ((((a0.1.1, a0.1.2.1, a0.1.2.2.1, (a0.1.2.2.2.1 ++ ([(a2, a1, a0.2.1, (-1 : Int), ())] : (List (Int × ((Vec 3 Nat) × (Int × (Int × Unit))))))), a0.1.2.2.2.2), a0.2.1, a0.2.2.1, a0.2.2.2) : ((Int × ((Vec 3 Nat) × ((List (Vec 3 Nat)) × ((List (Int × ((Vec 3 Nat) × (Int × (Int × Unit))))) × Unit)))) × (Int × ((List (Int × (Int × Unit))) × (Int × Unit))))), ()))
  else none
noncomputable def impl_compiler_addLeg_sg : Sig := ⟨[.io (.pair (.pair (.val (.int .i64)) (.pair (.val (.arr 3 (.flt .f32))) (.pair (.rows (.arr 3 (.flt .f32))) (.pair (.rows (.pair (.int .i64) (.pair (.arr 3 (.flt .f32)) (.pair (.int .i64) (.pair (.int .i64) (.unit)))))) (.val (.unit)))))) (.pair (.val (.int .i64)) (.pair (.rows (.pair (.int .i64) (.pair (.int .i64) (.unit)))) (.val (.pair (.int .i64) (.unit)))))), .v (.arr 3 (.flt .f32)), .v (.int .i64)], [.v (.val (.int .i64))], false⟩
noncomputable def impl_compiler_addLeg_en : Entry := ⟨impl_compiler_addLeg_sg, fun x => impl_compiler_addLeg x.1 x.2.1 x.2.2.1⟩
theorem impl_compiler_addLeg_eq {G : List (Nat × Obj)} (x : impl_compiler_addLeg_sg.dom) : body (env G [(37, impl_within_en), (142, impl_ticksOf_en)]) [] Tryd.f113 impl_compiler_addLeg_sg x = impl_compiler_addLeg x.1 x.2.1 x.2.2.1 := by kernel_rfl
theorem impl_compiler_addLeg_so {G : List (Nat × Obj)} : Sound Tryd.prog G 113 impl_compiler_addLeg_en := sound_of_body (envS (l := [(37, impl_within_en), (142, impl_ticksOf_en)]) (⟨(impl_within_so), (impl_ticksOf_so), trivial⟩)) Tryd.func113 (by kernel_rfl) rfl (fun x y h => (impl_compiler_addLeg_eq (G := G) x).trans h)

-- (*loop.example/g01204/impl.compiler).about
noncomputable def impl_compiler_about (a0 : ((Int × ((Vec 3 Nat) × ((List (Vec 3 Nat)) × ((List (Int × ((Vec 3 Nat) × (Int × (Int × Unit))))) × Unit)))) × (Int × ((List (Int × (Int × Unit))) × (Int × Unit))))) (a1 : List UInt8) (a2 : Int) : Option ((Int × Unit) × (((Int × ((Vec 3 Nat) × ((List (Vec 3 Nat)) × ((List (Int × ((Vec 3 Nat) × (Int × (Int × Unit))))) × Unit)))) × (Int × ((List (Int × (Int × Unit))) × (Int × Unit)))) × Unit)) :=
  bif (sEq a1 ([114, 97, 116, 101])) then
    (impl_within a2 (1 : Int) (64 : Int)).bind fun y558 =>
    bif (! y558.1.1) then
      some (((2 : Int), ()), ((((a0.1.1, a0.1.2.1, a0.1.2.2.1, a0.1.2.2.2.1, a0.1.2.2.2.2), a0.2.1, a0.2.2.1, a0.2.2.2) : ((Int × ((Vec 3 Nat) × ((List (Vec 3 Nat)) × ((List (Int × ((Vec 3 Nat) × (Int × (Int × Unit))))) × Unit)))) × (Int × ((List (Int × (Int × Unit))) × (Int × Unit))))), ()))
    else
    bif (iLt 0 (lenI a0.1.2.2.2.1)) then
      some (((4 : Int), ()), ((((a0.1.1, a0.1.2.1, a0.1.2.2.1, a0.1.2.2.2.1, a0.1.2.2.2.2), a0.2.1, a0.2.2.1, a0.2.2.2) : ((Int × ((Vec 3 Nat) × ((List (Vec 3 Nat)) × ((List (Int × ((Vec 3 Nat) × (Int × (Int × Unit))))) × Unit)))) × (Int × ((List (Int × (Int × Unit))) × (Int × Unit))))), ()))
    else
    some (((0 : Int), ()), ((((a2, a0.1.2.1, a0.1.2.2.1, a0.1.2.2.2.1, a0.1.2.2.2.2), a0.2.1, a0.2.2.1, a0.2.2.2) : ((Int × ((Vec 3 Nat) × ((List (Vec 3 Nat)) × ((List (Int × ((Vec 3 Nat) × (Int × (Int × Unit))))) × Unit)))) × (Int × ((List (Int × (Int × Unit))) × (Int × Unit))))), ()))
  else
  bif (sEq a1 ([102, 105, 120])) then
    bif (iLt 400 a2) then
      some (((2 : Int), ()), ((((a0.1.1, a0.1.2.1, a0.1.2.2.1, a0.1.2.2.2.1, a0.1.2.2.2.2), a0.2.1, a0.2.2.1, a0.2.2.2) : ((Int × ((Vec 3 Nat) × ((List (Vec 3 Nat)) × ((List (Int × ((Vec 3 Nat) × (Int × (Int × Unit))))) × Unit)))) × (Int × ((List (Int × (Int × Unit))) × (Int × Unit))))), ()))
    else
    some (((0 : Int), ()), ((((a0.1.1, a0.1.2.1, a0.1.2.2.1, a0.1.2.2.2.1, a0.1.2.2.2.2), a2, a0.2.2.1, a0.2.2.2) : ((Int × ((Vec 3 Nat) × ((List (Vec 3 Nat)) × ((List (Int × ((Vec 3 Nat) × (Int × (Int × Unit))))) × Unit)))) × (Int × ((List (Int × (Int × Unit))) × (Int × Unit))))), ()))
  else
  bif (sEq a1 ([104, 111, 108, 100])) then
    (impl_compiler_addLeg (((a0.1.1, a0.1.2.1, a0.1.2.2.1, a0.1.2.2.2.1, a0.1.2.2.2.2), a0.2.1, a0.2.2.1, a0.2.2.2) : ((Int × ((Vec 3 Nat) × ((List (Vec 3 Nat)) × ((List (Int × ((Vec 3 Nat) × (Int × (Int × Unit))))) × Unit)))) × (Int × ((List (Int × (Int × Unit))) × (Int × Unit))))) ((0, 0, 0, ()) : (Vec 3 Nat)) a2).bind fun y564 =>
    some ((y564.1.1, ()), ((((y564.2.1.1.1, y564.2.1.1.2.1, y564.2.1.1.2.2.1, y564.2.1.1.2.2.2.1, y564.2.1.1.2.2.2.2), y564.2.1.2.1, y564.2.1.2.2.1, y564.2.1.2.2.2) : ((Int × ((Vec 3 Nat) × ((List (Vec 3 Nat)) × ((List (Int × ((Vec 3 Nat) × (Int × (Int × Unit))))) × Unit)))) × (Int × ((List (Int × (Int × Unit))) × (Int × Unit))))), ()))
  else
  bif (sEq a1 ([114, 97, 110, 103, 101])) then
    bif (iLe (lenI a0.1.2.2.1) a2) then
      some (((2 : Int), ()), ((((a0.1.1, a0.1.2.1, a0.1.2.2.1, a0.1.2.2.2.1, a0.1.2.2.2.2), a0.2.1, a0.2.2.1, a0.2.2.2) : ((Int × ((Vec 3 Nat) × ((List (Vec 3 Nat)) × ((List (Int × ((Vec 3 Nat) × (Int × (Int × Unit))))) × Unit)))) × (Int × ((List (Int × (Int × Unit))) × (Int × Unit))))), ()))
    else
    bif (iEq (lenI a0.1.2.2.2.1) 0) then
      some (((4 : Int), ()), ((((a0.1.1, a0.1.2.1, a0.1.2.2.1, a0.1.2.2.2.1, a0.1.2.2.2.2), a0.2.1, a0.2.2.1, a0.2.2.2) : ((Int × ((Vec 3 Nat) × ((List (Vec 3 Nat)) × ((List (Int × ((Vec 3 Nat) × (Int × (Int × Unit))))) × Unit)))) × (Int × ((List (Int × (Int × Unit))) × (Int × Unit))))), ()))
    else
    let x568 := iSub .i64 (lenI a0.1.2.2.2.1) 1
    bif inB x568 (List.length a0.1.2.2.2.1) then
      bif (iLe 0 (((((List.getD a0.1.2.2.2.1 x568.toNat ((0, (0, 0, 0, ()), 0, 0, ()) : (Int × ((Vec 3 Nat) × (Int × (Int × Unit)))))).2).2).2).1)) then
        some (((4 : Int), ()), ((((a0.1.1, a0.1.2.1, a0.1.2.2.1, a0.1.2.2.2.1, a0.1.2.2.2.2), a0.2.1, a0.2.2.1, a0.2.2.2) : ((Int × ((Vec 3 Nat) × ((List (Vec 3 Nat)) × ((List (Int × ((Vec 3 Nat) × (Int × (Int × Unit))))) × Unit)))) × (Int × ((List (Int × (Int × Unit))) × (Int × Unit))))), ()))
      else
      let x571 := iSub .i64 (lenI a0.1.2.2.2.1) 1
      bif inB x571 (List.length a0.1.2.2.2.1) then
        some (((0 : Int), ()), ((((a0.1.1, a0.1.2.1, a0.1.2.2.1, (List.set a0.1.2.2.2.1 x571.toNat (((List.getD a0.1.2.2.2.1 x571.toNat ((0, (0, 0, 0, ()), 0, 0, ()) : (Int × ((Vec 3 Nat) × (Int × (Int × Unit)))))).1, ((List.getD a0.1.2.2.2.1 x571.toNat ((0, (0, 0, 0, ()), 0, 0, ()) : (Int × ((Vec 3 Nat) × (Int × (Int × Unit)))))).2).1, (((List.getD a0.1.2.2.2.1 x571.toNat ((0, (0, 0, 0, ()), 0, 0, ()) : (Int × ((Vec 3 Nat) × (Int × (Int × Unit)))))).2).2).1, a2, ((((List.getD a0.1.2.2.2.1 x571.toNat ((0, (0, 0, 0, ()), 0, 0, ()) : (Int × ((Vec 3 Nat) × (Int × (Int × Unit)))))).2).2).2).2) : (Int × ((Vec 3 Nat) × (Int × (Int × Unit)))))), a0.1.2.2.2.2), a0.2.1, a0.2.2.1, a0.2.2.2) : ((Int × ((Vec 3 Nat) × ((List (Vec 3 Nat)) × ((List (Int × ((Vec 3 Nat) × (Int × (Int × Unit))))) × Unit)))) × (Int × ((List (Int × (Int × Unit))) × (Int × Unit))))), ()))
      else none
    else none
  else
  bif (sEq a1 ([114, 101, 112, 101, 97, 116])) then
    (impl_within a2 (1 : Int) (16 : Int)).bind fun y574 =>
    bif (! y574.1.1) then
      some (((2 : Int), ()), ((((a0.1.1, a0.1.2.1, a0.1.2.2.1, a0.1.2.2.2.1, a0.1.2.2.2.2), a0.2.1, a0.2.2.1, a0.2.2.2) : ((Int × ((Vec 3 Nat) × ((List (Vec 3 Nat)) × ((List (Int × ((Vec 3 Nat) × (Int × (Int × Unit))))) × Unit)))) × (Int × ((List (Int × (Int × Unit))) × (Int × Unit))))), ()))
    else
    bif (iEq (lenI a0.2.2.1) 3) then
      some (((3 : Int), ()), ((((a0.1.1, a0.1.2.1, a0.1.2.2.1, a0.1.2.2.2.1, a0.1.2.2.2.2), a0.2.1, a0.2.2.1, a0.2.2.2) : ((Int × ((Vec 3 Nat) × ((List (Vec 3 Nat)) × ((List (Int × ((Vec 3 Nat) × (Int × (Int × Unit))))) × Unit)))) × (Int × ((List (Int × (Int × Unit))) × (Int × Unit))))), ()))
    else
    bif room (List.length a0.2.2.1 + 1) 16 then
      some (((0 : Int), ()), ((((a0.1.1, a0.1.2.1, a0.1.2.2.1, a0.1.2.2.2.1, a0.1.2.2.2.2), a0.2.1, (a0.2.2.1 ++ ([(a0.2.2.2.1, (iSub .i64 a2 1), ())] : (List (Int × (Int × Unit))))), a0.2.2.2) : ((Int × ((Vec 3 Nat) × ((List (Vec 3 Nat)) × ((List (Int × ((Vec 3 Nat) × (Int × (Int × Unit))))) × Unit)))) × (Int × ((List (Int × (Int × Unit))) × (Int × Unit))))), ()))
    else none
  else
  some (((5 : Int), ()), ((((a0.1.1, a0.1.2.1, a0.1.2.2.1, a0.1.2.2.2.1, a0.1.2.2.2.2), a0.2.1, a0.2.2.1, a0.2.2.2) : ((Int × ((Vec 3 Nat) × ((List (Vec 3 Nat)) × ((List (Int × ((Vec 3 Nat) × (Int × (Int × Unit))))) × Unit)))) × (Int × ((List (Int × (Int × Unit))) × (Int × Unit))))), ()))
noncomputable def impl_compiler_about_sg : Sig := ⟨[.io (.pair (.pair (.val (.int .i64)) (.pair (.val (.arr 3 (.flt .f32))) (.pair (.rows (.arr 3 (.flt .f32))) (.pair (.rows (.pair (.int .i64) (.pair (.arr 3 (.flt .f32)) (.pair (.int .i64) (.pair (.int .i64) (.unit)))))) (.val (.unit)))))) (.pair (.val (.int .i64)) (.pair (.rows (.pair (.int .i64) (.pair (.int .i64) (.unit)))) (.val (.pair (.int .i64) (.unit)))))), .v (.str), .v (.int .i64)], [.v (.val (.int .i64))], false⟩
noncomputable def impl_compiler_about_en : Entry := ⟨impl_compiler_about_sg, fun x => impl_compiler_about x.1 x.2.1 x.2.2.1⟩
theorem impl_compiler_about_eq {G : List (Nat × Obj)} (x : impl_compiler_about_sg.dom) : body (env G [(37, impl_within_en), (113, impl_compiler_addLeg_en)]) [] Tryd.f112 impl_compiler_about_sg x = impl_compiler_about x.1 x.2.1 x.2.2.1 := by kernel_rfl
theorem impl_compiler_about_so {G : List (Nat × Obj)} : Sound Tryd.prog G 112 impl_compiler_about_en := sound_of_body (envS (l := [(37, impl_within_en), (113, impl_compiler_addLeg_en)]) (⟨(impl_within_so), (impl_compiler_addLeg_so), trivial⟩)) Tryd.func112 (by kernel_rfl) rfl (fun x y h => (impl_compiler_about_eq (G := G) x).trans h)

-- (*loop.example/g01204/impl.compiler).end
noncomputable def impl_compiler_end (a0 : ((Int × ((Vec 3 Nat) × ((List (Vec 3 Nat)) × ((List (Int × ((Vec 3 Nat) × (Int × (Int × Unit))))) × Unit)))) × (Int × ((List (Int × (Int × Unit))) × (Int × Unit))))) : Option ((Int × Unit) × (((Int × ((Vec 3 Nat) × ((List (Vec 3 Nat)) × ((List (Int × ((Vec 3 Nat) × (Int × (Int × Unit))))) × Unit)))) × (Int × ((List (Int × (Int × Unit))) × (Int × Unit)))) × Unit)) :=
  let x591 := iSub .i64 (lenI a0.2.2.1) 1
  bif (iLt x591 0) then
    some (((4 : Int), ()), ((((a0.1.1, a0.1.2.1, a0.1.2.2.1, a0.1.2.2.2.1, a0.1.2.2.2.2), a0.2.1, a0.2.2.1, a0.2.2.2) : ((Int × ((Vec 3 Nat) × ((List (Vec 3 Nat)) × ((List (Int × ((Vec 3 Nat) × (Int × (Int × Unit))))) × Unit)))) × (Int × ((List (Int × (Int × Unit))) × (Int × Unit))))), ()))
  else
  bif inB x591 (List.length a0.2.2.1) then
    bif (iLt 0 (((List.getD a0.2.2.1 x591.toNat ((0, 0, ()) : (Int × (Int × Unit)))).2).1)) then
      let w597 := List.set a0.2.2.1 x591.toNat (((List.getD a0.2.2.1 x591.toNat ((0, 0, ()) : (Int × (Int × Unit)))).1, (iSub .i64 (((List.getD a0.2.2.1 x591.toNat ((0, 0, ()) : (Int × (Int × Unit)))).2).1) 1), ((List.getD a0.2.2.1 x591.toNat ((0, 0, ()) : (Int × (Int × Unit)))).2).2) : (Int × (Int × Unit)))
      some (((0 : Int), ()), ((((a0.1.1, a0.1.2.1, a0.1.2.2.1, a0.1.2.2.2.1, a0.1.2.2.2.2), a0.2.1, w597, ((List.getD w597 x591.toNat ((0, 0, ()) : (Int × (Int × Unit)))).1), a0.2.2.2.2) : ((Int × ((Vec 3 Nat) × ((List (Vec 3 Nat)) × ((List (Int × ((Vec 3 Nat) × (Int × (Int × Unit))))) × Unit)))) × (Int × ((List (Int × (Int × Unit))) × (Int × Unit))))), ()))
    else
    bif inS 0 x591 (List.length a0.2.2.1) then
      some (((0 : Int), ()), ((((a0.1.1, a0.1.2.1, a0.1.2.2.1, a0.1.2.2.2.1, a0.1.2.2.2.2), a0.2.1, List.take x591.toNat (List.drop 0 a0.2.2.1), a0.2.2.2) : ((Int × ((Vec 3 Nat) × ((List (Vec 3 Nat)) × ((List (Int × ((Vec 3 Nat) × (Int × (Int × Unit))))) × Unit)))) × (Int × ((List (Int × (Int × Unit))) × (Int × Unit))))), ()))
    else none
  else none
noncomputable def impl_compiler_end_sg : Sig := ⟨[.io (.pair (.pair (.val (.int .i64)) (.pair (.val (.arr 3 (.flt .f32))) (.pair (.rows (.arr 3 (.flt .f32))) (.pair (.rows (.pair (.int .i64) (.pair (.arr 3 (.flt .f32)) (.pair (.int .i64) (.pair (.int .i64) (.unit)))))) (.val (.unit)))))) (.pair (.val (.int .i64)) (.pair (.rows (.pair (.int .i64) (.pair (.int .i64) (.unit)))) (.val (.pair (.int .i64) (.unit))))))], [.v (.val (.int .i64))], false⟩
noncomputable def impl_compiler_end_en : Entry := ⟨impl_compiler_end_sg, fun x => impl_compiler_end x.1⟩
theorem impl_compiler_end_eq {G : List (Nat × Obj)} (x : impl_compiler_end_sg.dom) : body (env G []) [] Tryd.f111 impl_compiler_end_sg x = impl_compiler_end x.1 := by kernel_rfl
theorem impl_compiler_end_so {G : List (Nat × Obj)} : Sound Tryd.prog G 111 impl_compiler_end_en := sound_of_body (envS (l := []) (trivial)) Tryd.func111 (by kernel_rfl) rfl (fun x y h => (impl_compiler_end_eq (G := G) x).trans h)

-- (*loop.example/g01204/impl.compiler).compile
noncomputable def impl_compiler_compile (a0 : ((Int × ((Vec 3 Nat) × ((List (Vec 3 Nat)) × ((List (Int × ((Vec 3 Nat) × (Int × (Int × Unit))))) × Unit)))) × (Int × ((List (Int × (Int × Unit))) × (Int × Unit))))) (a1 : List UInt8) : Option ((Int × Unit) × (((Int × ((Vec 3 Nat) × ((List (Vec 3 Nat)) × ((List (Int × ((Vec 3 Nat) × (Int × (Int × Unit))))) × Unit)))) × (Int × ((List (Int × (Int × Unit))) × (Int × Unit)))) × Unit)) :=
  (strings_Split a1 ([32] : List UInt8)).bind fun y496 =>
  bif (sEq a1 ([101, 110, 100])) then
    (impl_compiler_end (((a0.1.1, a0.1.2.1, a0.1.2.2.1, a0.1.2.2.2.1, a0.1.2.2.2.2), a0.2.1, a0.2.2.1, a0.2.2.2) : ((Int × ((Vec 3 Nat) × ((List (Vec 3 Nat)) × ((List (Int × ((Vec 3 Nat) × (Int × (Int × Unit))))) × Unit)))) × (Int × ((List (Int × (Int × Unit))) × (Int × Unit)))))).bind fun y498 =>
    some ((y498.1.1, ()), ((((y498.2.1.1.1, y498.2.1.1.2.1, y498.2.1.1.2.2.1, y498.2.1.1.2.2.2.1, y498.2.1.1.2.2.2.2), y498.2.1.2.1, y498.2.1.2.2.1, y498.2.1.2.2.2) : ((Int × ((Vec 3 Nat) × ((List (Vec 3 Nat)) × ((List (Int × ((Vec 3 Nat) × (Int × (Int × Unit))))) × Unit)))) × (Int × ((List (Int × (Int × Unit))) × (Int × Unit))))), ()))
  else
  bif (iEq (lenI y496.1.1) 2) then
    bif inB 1 (List.length y496.1.1) then
      (impl_whole (List.getD y496.1.1 1 ([] : List UInt8))).bind fun y501 =>
      bif (! y501.1.2.1) then
        some (((5 : Int), ()), ((((a0.1.1, a0.1.2.1, a0.1.2.2.1, a0.1.2.2.2.1, a0.1.2.2.2.2), a0.2.1, a0.2.2.1, a0.2.2.2) : ((Int × ((Vec 3 Nat) × ((List (Vec 3 Nat)) × ((List (Int × ((Vec 3 Nat) × (Int × (Int × Unit))))) × Unit)))) × (Int × ((List (Int × (Int × Unit))) × (Int × Unit))))), ()))
      else
      bif inB 0 (List.length y496.1.1) then
        (impl_compiler_about (((a0.1.1, a0.1.2.1, a0.1.2.2.1, a0.1.2.2.2.1, a0.1.2.2.2.2), a0.2.1, a0.2.2.1, a0.2.2.2) : ((Int × ((Vec 3 Nat) × ((List (Vec 3 Nat)) × ((List (Int × ((Vec 3 Nat) × (Int × (Int × Unit))))) × Unit)))) × (Int × ((List (Int × (Int × Unit))) × (Int × Unit))))) (List.getD y496.1.1 0 ([] : List UInt8)) y501.1.1).bind fun y504 =>
        some ((y504.1.1, ()), ((((y504.2.1.1.1, y504.2.1.1.2.1, y504.2.1.1.2.2.1, y504.2.1.1.2.2.2.1, y504.2.1.1.2.2.2.2), y504.2.1.2.1, y504.2.1.2.2.1, y504.2.1.2.2.2) : ((Int × ((Vec 3 Nat) × ((List (Vec 3 Nat)) × ((List (Int × ((Vec 3 Nat) × (Int × (Int × Unit))))) × Unit)))) × (Int × ((List (Int × (Int × Unit))) × (Int × Unit))))), ()))
      else none
    else none
  else
  bif (iLt (lenI y496.1.1) 4) then
    some (((5 : Int), ()), ((((a0.1.1, a0.1.2.1, a0.1.2.2.1, a0.1.2.2.2.1, a0.1.2.2.2.2), a0.2.1, a0.2.2.1, a0.2.2.2) : ((Int × ((Vec 3 Nat) × ((List (Vec 3 Nat)) × ((List (Int × ((Vec 3 Nat) × (Int × (Int × Unit))))) × Unit)))) × (Int × ((List (Int × (Int × Unit))) × (Int × Unit))))), ()))
  else
  bif inB 1 (List.length y496.1.1) then
    (impl_ReadFraction (List.getD y496.1.1 1 ([] : List UInt8))).bind fun y507 =>
    bif (! (iEq y507.1.2.1 0)) then
      some (((5 : Int), ()), ((((a0.1.1, a0.1.2.1, a0.1.2.2.1, a0.1.2.2.2.1, a0.1.2.2.2.2), a0.2.1, a0.2.2.1, a0.2.2.2) : ((Int × ((Vec 3 Nat) × ((List (Vec 3 Nat)) × ((List (Int × ((Vec 3 Nat) × (Int × (Int × Unit))))) × Unit)))) × (Int × ((List (Int × (Int × Unit))) × (Int × Unit))))), ()))
    else
    bif inB 2 (List.length y496.1.1) then
      (impl_ReadFraction (List.getD y496.1.1 2 ([] : List UInt8))).bind fun y510 =>
      bif (! (iEq y510.1.2.1 0)) then
        some (((5 : Int), ()), ((((a0.1.1, a0.1.2.1, a0.1.2.2.1, a0.1.2.2.2.1, a0.1.2.2.2.2), a0.2.1, a0.2.2.1, a0.2.2.2) : ((Int × ((Vec 3 Nat) × ((List (Vec 3 Nat)) × ((List (Int × ((Vec 3 Nat) × (Int × (Int × Unit))))) × Unit)))) × (Int × ((List (Int × (Int × Unit))) × (Int × Unit))))), ()))
      else
      bif inB 3 (List.length y496.1.1) then
        (impl_ReadFraction (List.getD y496.1.1 3 ([] : List UInt8))).bind fun y513 =>
        bif (! (iEq y513.1.2.1 0)) then
          some (((5 : Int), ()), ((((a0.1.1, a0.1.2.1, a0.1.2.2.1, a0.1.2.2.2.1, a0.1.2.2.2.2), a0.2.1, a0.2.2.1, a0.2.2.2) : ((Int × ((Vec 3 Nat) × ((List (Vec 3 Nat)) × ((List (Int × ((Vec 3 Nat) × (Int × (Int × Unit))))) × Unit)))) × (Int × ((List (Int × (Int × Unit))) × (Int × Unit))))), ()))
        else
        bif inB 0 (List.length y496.1.1) then
          bif (sEq (List.getD y496.1.1 0 ([] : List UInt8)) ([115, 116, 97, 114, 116])) then
            bif (iEq (lenI y496.1.1) 4) then
              bif (iLt 0 (lenI a0.1.2.2.2.1)) then
                some (((4 : Int), ()), ((((a0.1.1, a0.1.2.1, a0.1.2.2.1, a0.1.2.2.2.1, a0.1.2.2.2.2), a0.2.1, a0.2.2.1, a0.2.2.2) : ((Int × ((Vec 3 Nat) × ((List (Vec 3 Nat)) × ((List (Int × ((Vec 3 Nat) × (Int × (Int × Unit))))) × Unit)))) × (Int × ((List (Int × (Int × Unit))) × (Int × Unit))))), ()))
              else
              some (((0 : Int), ()), ((((a0.1.1, (y507.1.1, y510.1.1, y513.1.1, ()), a0.1.2.2.1, a0.1.2.2.2.1, a0.1.2.2.2.2), a0.2.1, a0.2.2.1, a0.2.2.2) : ((Int × ((Vec 3 Nat) × ((List (Vec 3 Nat)) × ((List (Int × ((Vec 3 Nat) × (Int × (Int × Unit))))) × Unit)))) × (Int × ((List (Int × (Int × Unit))) × (Int × Unit))))), ()))
            else
            bif inB 0 (List.length y496.1.1) then
              bif (sEq (List.getD y496.1.1 0 ([] : List UInt8)) ([98, 101, 97, 99, 111, 110])) then
                bif (iEq (lenI y496.1.1) 4) then
                  bif (iEq (lenI a0.1.2.2.1) 6) then
                    some (((3 : Int), ()), ((((a0.1.1, a0.1.2.1, a0.1.2.2.1, a0.1.2.2.2.1, a0.1.2.2.2.2), a0.2.1, a0.2.2.1, a0.2.2.2) : ((Int × ((Vec 3 Nat) × ((List (Vec 3 Nat)) × ((List (Int × ((Vec 3 Nat) × (Int × (Int × Unit))))) × Unit)))) × (Int × ((List (Int × (Int × Unit))) × (Int × Unit))))), ()))
                  else
                  bif room (List.length a0.1.2.2.1 + 1) 12 then
                    some (((0 : Int), ()), ((((a0.1.1, a0.1.2.1, (a0.1.2.2.1 ++ ([(y507.1.1, y510.1.1, y513.1.1, ())] : (List (Vec 3 Nat)))), a0.1.2.2.2.1, a0.1.2.2.2.2), a0.2.1, a0.2.2.1, a0.2.2.2) : ((Int × ((Vec 3 Nat) × ((List (Vec 3 Nat)) × ((List (Int × ((Vec 3 Nat) × (Int × (Int × Unit))))) × Unit)))) × (Int × ((List (Int × (Int × Unit))) × (Int × Unit))))), ()))
                  else none
                else
                bif inB 0 (List.length y496.1.1) then
                  bif (sEq (List.getD y496.1.1 0 ([] : List UInt8)) ([109, 111, 118, 101])) then
                    bif (iEq (lenI y496.1.1) 5) then
                      bif inB 4 (List.length y496.1.1) then
                        (impl_whole (List.getD y496.1.1 4 ([] : List UInt8))).bind fun y528 =>
                        bif (! y528.1.2.1) then
                          some (((5 : Int), ()), ((((a0.1.1, a0.1.2.1, a0.1.2.2.1, a0.1.2.2.2.1, a0.1.2.2.2.2), a0.2.1, a0.2.2.1, a0.2.2.2) : ((Int × ((Vec 3 Nat) × ((List (Vec 3 Nat)) × ((List (Int × ((Vec 3 Nat) × (Int × (Int × Unit))))) × Unit)))) × (Int × ((List (Int × (Int × Unit))) × (Int × Unit))))), ()))
                        else
                        (impl_compiler_addLeg (((a0.1.1, a0.1.2.1, a0.1.2.2.1, a0.1.2.2.2.1, a0.1.2.2.2.2), a0.2.1, a0.2.2.1, a0.2.2.2) : ((Int × ((Vec 3 Nat) × ((List (Vec 3 Nat)) × ((List (Int × ((Vec 3 Nat) × (Int × (Int × Unit))))) × Unit)))) × (Int × ((List (Int × (Int × Unit))) × (Int × Unit))))) ((y507.1.1, y510.1.1, y513.1.1, ()) : (Vec 3 Nat)) y528.1.1).bind fun y530 =>
                        some ((y530.1.1, ()), ((((y530.2.1.1.1, y530.2.1.1.2.1, y530.2.1.1.2.2.1, y530.2.1.1.2.2.2.1, y530.2.1.1.2.2.2.2), y530.2.1.2.1, y530.2.1.2.2.1, y530.2.1.2.2.2) : ((Int × ((Vec 3 Nat) × ((List (Vec 3 Nat)) × ((List (Int × ((Vec 3 Nat) × (Int × (Int × Unit))))) × Unit)))) × (Int × ((List (Int × (Int × Unit))) × (Int × Unit))))), ()))
                      else none
                    else
                    some (((5 : Int), ()), ((((a0.1.1, a0.1.2.1, a0.1.2.2.1, a0.1.2.2.2.1, a0.1.2.2.2.2), a0.2.1, a0.2.2.1, a0.2.2.2) : ((Int × ((Vec 3 Nat) × ((List (Vec 3 Nat)) × ((List (Int × ((Vec 3 Nat) × (Int × (Int × Unit))))) × Unit)))) × (Int × ((List (Int × (Int × Unit))) × (Int × Unit))))), ()))
                  else
                  some (((5 : Int), ()), ((((a0.1.1, a0.1.2.1, a0.1.2.2.1, a0.1.2.2.2.1, a0.1.2.2.2.2), a0.2.1, a0.2.2.1, a0.2.2.2) : ((Int × ((Vec 3 Nat) × ((List (Vec 3 Nat)) × ((List (Int × ((Vec 3 Nat) × (Int × (Int × Unit))))) × Unit)))) × (Int × ((List (Int × (Int × Unit))) × (Int × Unit))))), ()))
                else none
              else
              bif inB 0 (List.length y496.1.1) then
                bif (sEq (List.getD y496.1.1 0 ([] : List UInt8)) ([109, 111, 118, 101])) then
                  bif (iEq (lenI y496.1.1) 5) then
                    bif inB 4 (List.length y496.1.1) then
                      (impl_whole (List.getD y496.1.1 4 ([] : List UInt8))).bind fun y535 =>
                      bif (! y535.1.2.1) then
                        some (((5 : Int), ()), ((((a0.1.1, a0.1.2.1, a0.1.2.2.1, a0.1.2.2.2.1, a0.1.2.2.2.2), a0.2.1, a0.2.2.1, a0.2.2.2) : ((Int × ((Vec 3 Nat) × ((List (Vec 3 Nat)) × ((List (Int × ((Vec 3 Nat) × (Int × (Int × Unit))))) × Unit)))) × (Int × ((List (Int × (Int × Unit))) × (Int × Unit))))), ()))
                      else
                      (impl_compiler_addLeg (((a0.1.1, a0.1.2.1, a0.1.2.2.1, a0.1.2.2.2.1, a0.1.2.2.2.2), a0.2.1, a0.2.2.1, a0.2.2.2) : ((Int × ((Vec 3 Nat) × ((List (Vec 3 Nat)) × ((List (Int × ((Vec 3 Nat) × (Int × (Int × Unit))))) × Unit)))) × (Int × ((List (Int × (Int × Unit))) × (Int × Unit))))) ((y507.1.1, y510.1.1, y513.1.1, ()) : (Vec 3 Nat)) y535.1.1).bind fun y537 =>
                      some ((y537.1.1, ()), ((((y537.2.1.1.1, y537.2.1.1.2.1, y537.2.1.1.2.2.1, y537.2.1.1.2.2.2.1, y537.2.1.1.2.2.2.2), y537.2.1.2.1, y537.2.1.2.2.1, y537.2.1.2.2.2) : ((Int × ((Vec 3 Nat) × ((List (Vec 3 Nat)) × ((List (Int × ((Vec 3 Nat) × (Int × (Int × Unit))))) × Unit)))) × (Int × ((List (Int × (Int × Unit))) × (Int × Unit))))), ()))
                    else none
                  else
                  some (((5 : Int), ()), ((((a0.1.1, a0.1.2.1, a0.1.2.2.1, a0.1.2.2.2.1, a0.1.2.2.2.2), a0.2.1, a0.2.2.1, a0.2.2.2) : ((Int × ((Vec 3 Nat) × ((List (Vec 3 Nat)) × ((List (Int × ((Vec 3 Nat) × (Int × (Int × Unit))))) × Unit)))) × (Int × ((List (Int × (Int × Unit))) × (Int × Unit))))), ()))
                else
                some (((5 : Int), ()), ((((a0.1.1, a0.1.2.1, a0.1.2.2.1, a0.1.2.2.2.1, a0.1.2.2.2.2), a0.2.1, a0.2.2.1, a0.2.2.2) : ((Int × ((Vec 3 Nat) × ((List (Vec 3 Nat)) × ((List (Int × ((Vec 3 Nat) × (Int × (Int × Unit))))) × Unit)))) × (Int × ((List (Int × (Int × Unit))) × (Int × Unit))))), ()))
              else none
            else none
          else
          bif inB 0 (List.length y496.1.1) then
            bif (sEq (List.getD y496.1.1 0 ([] : List UInt8)) ([98, 101, 97, 99, 111, 110])) then
              bif (iEq (lenI y496.1.1) 4) then
                bif (iEq (lenI a0.1.2.2.1) 6) then
                  some (((3 : Int), ()), ((((a0.1.1, a0.1.2.1, a0.1.2.2.1, a0.1.2.2.2.1, a0.1.2.2.2.2), a0.2.1, a0.2.2.1, a0.2.2.2) : ((Int × ((Vec 3 Nat) × ((List (Vec 3 Nat)) × ((List (Int × ((Vec 3 Nat) × (Int × (Int × Unit))))) × Unit)))) × (Int × ((List (Int × (Int × Unit))) × (Int × Unit))))), ()))
                else
                bif room (List.length a0.1.2.2.1 + 1) 12 then
                  some (((0 : Int), ()), ((((a0.1.1, a0.1.2.1, (a0.1.2.2.1 ++ ([(y507.1.1, y510.1.1, y513.1.1, ())] : (List (Vec 3 Nat)))), a0.1.2.2.2.1, a0.1.2.2.2.2), a0.2.1, a0.2.2.1, a0.2.2.2) : ((Int × ((Vec 3 Nat) × ((List (Vec 3 Nat)) × ((List (Int × ((Vec 3 Nat) × (Int × (Int × Unit))))) × Unit)))) × (Int × ((List (Int × (Int × Unit))) × (Int × Unit))))), ()))
                else none
              else
              bif inB 0 (List.length y496.1.1) then
                bif (sEq (List.getD y496.1.1 0 ([] : List UInt8)) ([109, 111, 118, 101])) then
                  bif (iEq (lenI y496.1.1) 5) then
                    bif inB 4 (List.length y496.1.1) then
                      (impl_whole (List.getD y496.1.1 4 ([] : List UInt8))).bind fun y547 =>
                      bif (! y547.1.2.1) then
                        some (((5 : Int), ()), ((((a0.1.1, a0.1.2.1, a0.1.2.2.1, a0.1.2.2.2.1, a0.1.2.2.2.2), a0.2.1, a0.2.2.1, a0.2.2.2) : ((Int × ((Vec 3 Nat) × ((List (Vec 3 Nat)) × ((List (Int × ((Vec 3 Nat) × (Int × (Int × Unit))))) × Unit)))) × (Int × ((List (Int × (Int × Unit))) × (Int × Unit))))), ()))
                      else
                      (impl_compiler_addLeg (((a0.1.1, a0.1.2.1, a0.1.2.2.1, a0.1.2.2.2.1, a0.1.2.2.2.2), a0.2.1, a0.2.2.1, a0.2.2.2) : ((Int × ((Vec 3 Nat) × ((List (Vec 3 Nat)) × ((List (Int × ((Vec 3 Nat) × (Int × (Int × Unit))))) × Unit)))) × (Int × ((List (Int × (Int × Unit))) × (Int × Unit))))) ((y507.1.1, y510.1.1, y513.1.1, ()) : (Vec 3 Nat)) y547.1.1).bind fun y549 =>
                      some ((y549.1.1, ()), ((((y549.2.1.1.1, y549.2.1.1.2.1, y549.2.1.1.2.2.1, y549.2.1.1.2.2.2.1, y549.2.1.1.2.2.2.2), y549.2.1.2.1, y549.2.1.2.2.1, y549.2.1.2.2.2) : ((Int × ((Vec 3 Nat) × ((List (Vec 3 Nat)) × ((List (Int × ((Vec 3 Nat) × (Int × (Int × Unit))))) × Unit)))) × (Int × ((List (Int × (Int × Unit))) × (Int × Unit))))), ()))
                    else none
                  else
                  some (((5 : Int), ()), ((((a0.1.1, a0.1.2.1, a0.1.2.2.1, a0.1.2.2.2.1, a0.1.2.2.2.2), a0.2.1, a0.2.2.1, a0.2.2.2) : ((Int × ((Vec 3 Nat) × ((List (Vec 3 Nat)) × ((List (Int × ((Vec 3 Nat) × (Int × (Int × Unit))))) × Unit)))) × (Int × ((List (Int × (Int × Unit))) × (Int × Unit))))), ()))
                else
                some (((5 : Int), ()), ((((a0.1.1, a0.1.2.1, a0.1.2.2.1, a0.1.2.2.2.1, a0.1.2.2.2.2), a0.2.1, a0.2.2.1, a0.2.2.2) : ((Int × ((Vec 3 Nat) × ((List (Vec 3 Nat)) × ((List (Int × ((Vec 3 Nat) × (Int × (Int × Unit))))) × Unit)))) × (Int × ((List (Int × (Int × Unit))) × (Int × Unit))))), ()))
              else none
            else
            bif inB 0 (List.length y496.1.1) then
              bif (sEq (List.getD y496.1.1 0 ([] : List UInt8)) ([109, 111, 118, 101])) then
                bif (iEq (lenI y496.1.1) 5) then
                  bif inB 4 (List.length y496.1.1) then
                    (impl_whole (List.getD y496.1.1 4 ([] : List UInt8))).bind fun y554 =>
                    bif (! y554.1.2.1) then
                      some (((5 : Int), ()), ((((a0.1.1, a0.1.2.1, a0.1.2.2.1, a0.1.2.2.2.1, a0.1.2.2.2.2), a0.2.1, a0.2.2.1, a0.2.2.2) : ((Int × ((Vec 3 Nat) × ((List (Vec 3 Nat)) × ((List (Int × ((Vec 3 Nat) × (Int × (Int × Unit))))) × Unit)))) × (Int × ((List (Int × (Int × Unit))) × (Int × Unit))))), ()))
                    else
                    (impl_compiler_addLeg (((a0.1.1, a0.1.2.1, a0.1.2.2.1, a0.1.2.2.2.1, a0.1.2.2.2.2), a0.2.1, a0.2.2.1, a0.2.2.2) : ((Int × ((Vec 3 Nat) × ((List (Vec 3 Nat)) × ((List (Int × ((Vec 3 Nat) × (Int × (Int × Unit))))) × Unit)))) × (Int × ((List (Int × (Int × Unit))) × (Int × Unit))))) ((y507.1.1, y510.1.1, y513.1.1, ()) : (Vec 3 Nat)) y554.1.1).bind fun y556 =>
                    some ((y556.1.1, ()), ((((y556.2.1.1.1, y556.2.1.1.2.1, y556.2.1.1.2.2.1, y556.2.1.1.2.2.2.1, y556.2.1.1.2.2.2.2), y556.2.1.2.1, y556.2.1.2.2.1, y556.2.1.2.2.2) : ((Int × ((Vec 3 Nat) × ((List (Vec 3 Nat)) × ((List (Int × ((Vec 3 Nat) × (Int × (Int × Unit))))) × Unit)))) × (Int × ((List (Int × (Int × Unit))) × (Int × Unit))))), ()))
                  else none
                else
                some (((5 : Int), ()), ((((a0.1.1, a0.1.2.1, a0.1.2.2.1, a0.1.2.2.2.1, a0.1.2.2.2.2), a0.2.1, a0.2.2.1, a0.2.2.2) : ((Int × ((Vec 3 Nat) × ((List (Vec 3 Nat)) × ((List (Int × ((Vec 3 Nat) × (Int × (Int × Unit))))) × Unit)))) × (Int × ((List (Int × (Int × Unit))) × (Int × Unit))))), ()))
              else
              some (((5 : Int), ()), ((((a0.1.1, a0.1.2.1, a0.1.2.2.1, a0.1.2.2.2.1, a0.1.2.2.2.2), a0.2.1, a0.2.2.1, a0.2.2.2) : ((Int × ((Vec 3 Nat) × ((List (Vec 3 Nat)) × ((List (Int × ((Vec 3 Nat) × (Int × (Int × Unit))))) × Unit)))) × (Int × ((List (Int × (Int × Unit))) × (Int × Unit))))), ()))
            else none
          else none
        else none
      else none
    else none
  else none
noncomputable def impl_compiler_compile_sg : Sig := ⟨[.io (.pair (.pair (.val (.int .i64)) (.pair (.val (.arr 3 (.flt .f32))) (.pair (.rows (.arr 3 (.flt .f32))) (.pair (.rows (.pair (.int .i64) (.pair (.arr 3 (.flt .f32)) (.pair (.int .i64) (.pair (.int .i64) (.unit)))))) (.val (.unit)))))) (.pair (.val (.int .i64)) (.pair (.rows (.pair (.int .i64) (.pair (.int .i64) (.unit)))) (.val (.pair (.int .i64) (.unit)))))), .v (.str)], [.v (.val (.int .i64))], false⟩
noncomputable def impl_compiler_compile_en : Entry := ⟨impl_compiler_compile_sg, fun x => impl_compiler_compile x.1 x.2.1⟩
theorem impl_compiler_compile_eq {G : List (Nat × Obj)} (x : impl_compiler_compile_sg.dom) : body (env G [(10, impl_ReadFraction_en), (36, impl_whole_en), (89, strings_Split_en), (111, impl_compiler_end_en), (112, impl_compiler_about_en), (113, impl_compiler_addLeg_en)]) [(14, .unroll 4)] Tryd.f77 impl_compiler_compile_sg x = impl_compiler_compile x.1 x.2.1 := by kernel_rfl
theorem impl_compiler_compile_so {G : List (Nat × Obj)} (mx : GMax 1 G) (tb : GTab Tryd.prog G) (sy : GErr 2 G) (ra : GErr 3 G) : Sound Tryd.prog G 77 impl_compiler_compile_en := sound_of_body (envS (l := [(10, impl_ReadFraction_en), (36, impl_whole_en), (89, strings_Split_en), (111, impl_compiler_end_en), (112, impl_compiler_about_en), (113, impl_compiler_addLeg_en)]) (⟨(impl_ReadFraction_so mx tb sy ra), (impl_whole_so tb sy ra), (strings_Split_so mx), (impl_compiler_end_so), (impl_compiler_about_so), (impl_compiler_addLeg_so), trivial⟩)) Tryd.func77 (by kernel_rfl) rfl (fun x y h => (impl_compiler_compile_eq (G := G) x).trans h)

-- loop.example/g01204/impl.textLines
noncomputable def impl_textLines (a0 : List UInt8) : Option (((List (List UInt8)) × Unit) × Unit) :=
  (strings_Split a0 ([10] : List UInt8)).bind fun y599 =>
  let x600 := iSub .i64 (lenI y599.1.1) 1
  bif inB x600 (List.length y599.1.1) then
    bif (sEq (List.getD y599.1.1 x600.toNat ([] : List UInt8)) ([])) then
      bif inS 0 x600 (List.length y599.1.1) then some ((List.take x600.toNat (List.drop 0 y599.1.1), ()), ()) else none
    else some ((y599.1.1, ()), ())
  else none
noncomputable def impl_textLines_sg : Sig := ⟨[.v (.str)], [.v (.rows (.str))], false⟩
noncomputable def impl_textLines_en : Entry := ⟨impl_textLines_sg, fun x => impl_textLines x.1⟩
theorem impl_textLines_eq {G : List (Nat × Obj)} (x : impl_textLines_sg.dom) : body (env G [(89, strings_Split_en)]) [] Tryd.f76 impl_textLines_sg x = impl_textLines x.1 := by kernel_rfl
theorem impl_textLines_so {G : List (Nat × Obj)} (mx : GMax 1 G) : Sound Tryd.prog G 76 impl_textLines_en := sound_of_body (envS (l := [(89, strings_Split_en)]) (⟨(strings_Split_so mx), trivial⟩)) Tryd.func76 (by kernel_rfl) rfl (fun x y h => (impl_textLines_eq (G := G) x).trans h)

-- loop.example/g01204/impl.CompileMission
noncomputable def impl_CompileMission_l5 (y481 : (((List (List UInt8)) × Unit) × Unit)) (s489 : (((Int × ((Vec 3 Nat) × ((List (Vec 3 Nat)) × ((List (Int × ((Vec 3 Nat) × (Int × (Int × Unit))))) × Unit)))) × (Int × ((List (Int × (Int × Unit))) × (Int × Unit)))) × Unit)) : Option ((((Int × ((Vec 3 Nat) × ((List (Vec 3 Nat)) × ((List (Int × ((Vec 3 Nat) × (Int × (Int × Unit))))) × Unit)))) × (Int × ((List (Int × (Int × Unit))) × (Int × Unit)))) × Unit) ⊕ (((Int × ((Vec 3 Nat) × ((List (Vec 3 Nat)) × ((List (Int × ((Vec 3 Nat) × (Int × (Int × Unit))))) × Unit)))) × Int × Int × Unit) × Unit)) :=
  bif (iLt s489.1.2.2.2.1 (lenI y481.1.1)) then
    bif inB s489.1.2.2.2.1 (List.length y481.1.1) then
      (impl_compiler_compile (((s489.1.1.1, s489.1.1.2.1, s489.1.1.2.2.1, s489.1.1.2.2.2.1, s489.1.1.2.2.2.2), s489.1.2.1, s489.1.2.2.1, (iAdd .i64 s489.1.2.2.2.1 1), s489.1.2.2.2.2) : ((Int × ((Vec 3 Nat) × ((List (Vec 3 Nat)) × ((List (Int × ((Vec 3 Nat) × (Int × (Int × Unit))))) × Unit)))) × (Int × ((List (Int × (Int × Unit))) × (Int × Unit))))) (List.getD y481.1.1 s489.1.2.2.2.1.toNat ([] : List UInt8))).bind fun y493 =>
      bif (! (iEq y493.1.1 0)) then
        Option.map Sum.inr (some ((((0, (0, 0, 0, ()), [], [], ()) : (Int × ((Vec 3 Nat) × ((List (Vec 3 Nat)) × ((List (Int × ((Vec 3 Nat) × (Int × (Int × Unit))))) × Unit))))), s489.1.2.2.2.1, y493.1.1, ()), ()))
      else
      some (Sum.inl ((((y493.2.1.1.1, y493.2.1.1.2.1, y493.2.1.1.2.2.1, y493.2.1.1.2.2.2.1, y493.2.1.1.2.2.2.2), y493.2.1.2.1, y493.2.1.2.2.1, y493.2.1.2.2.2) : ((Int × ((Vec 3 Nat) × ((List (Vec 3 Nat)) × ((List (Int × ((Vec 3 Nat) × (Int × (Int × Unit))))) × Unit)))) × (Int × ((List (Int × (Int × Unit))) × (Int × Unit))))), ()))
    else none
  else
  Option.map Sum.inr (
    bif (iLt 0 (lenI s489.1.2.2.1)) then some ((((0, (0, 0, 0, ()), [], [], ()) : (Int × ((Vec 3 Nat) × ((List (Vec 3 Nat)) × ((List (Int × ((Vec 3 Nat) × (Int × (Int × Unit))))) × Unit))))), lenI y481.1.1, (4 : Int), ()), ()) else
    some ((((s489.1.1.1, s489.1.1.2.1, s489.1.1.2.2.1, s489.1.1.2.2.2.1, s489.1.1.2.2.2.2) : (Int × ((Vec 3 Nat) × ((List (Vec 3 Nat)) × ((List (Int × ((Vec 3 Nat) × (Int × (Int × Unit))))) × Unit))))), (0 : Int), (0 : Int), ()), ()))
noncomputable def impl_CompileMission (a0 : List UInt8) : Option (((Int × ((Vec 3 Nat) × ((List (Vec 3 Nat)) × ((List (Int × ((Vec 3 Nat) × (Int × (Int × Unit))))) × Unit)))) × Int × Int × Unit) × Unit) :=
  (impl_textLines a0).bind fun y481 =>
  bif (iLt 4000 (lenI a0)) then some ((((0, (0, 0, 0, ()), [], [], ()) : (Int × ((Vec 3 Nat) × ((List (Vec 3 Nat)) × ((List (Int × ((Vec 3 Nat) × (Int × (Int × Unit))))) × Unit))))), (0 : Int), (2 : Int), ()), ()) else
  bif (iLt 200 (lenI y481.1.1)) then some ((((0, (0, 0, 0, ()), [], [], ()) : (Int × ((Vec 3 Nat) × ((List (Vec 3 Nat)) × ((List (Int × ((Vec 3 Nat) × (Int × (Int × Unit))))) × Unit))))), (0 : Int), (2 : Int), ()), ()) else
  run (impl_CompileMission_l5 y481) ((((8, (0, 0, 0, ()), [], [], ()), 0, [], 0, ()) : ((Int × ((Vec 3 Nat) × ((List (Vec 3 Nat)) × ((List (Int × ((Vec 3 Nat) × (Int × (Int × Unit))))) × Unit)))) × (Int × ((List (Int × (Int × Unit))) × (Int × Unit))))), ())
noncomputable def impl_CompileMission_sg : Sig := ⟨[.v (.str)], [.v (.pair (.val (.int .i64)) (.pair (.val (.arr 3 (.flt .f32))) (.pair (.rows (.arr 3 (.flt .f32))) (.pair (.rows (.pair (.int .i64) (.pair (.arr 3 (.flt .f32)) (.pair (.int .i64) (.pair (.int .i64) (.unit)))))) (.val (.unit)))))), .v (.val (.int .i64)), .v (.val (.int .i64))], false⟩
noncomputable def impl_CompileMission_en : Entry := ⟨impl_CompileMission_sg, fun x => impl_CompileMission x.1⟩
theorem impl_CompileMission_eq {G : List (Nat × Obj)} (x : impl_CompileMission_sg.dom) : body (env G [(76, impl_textLines_en), (77, impl_compiler_compile_en)]) [(5, .vary [(6, .box (.pair (.pair (.val (.int .i64)) (.pair (.val (.arr 3 (.flt .f32))) (.pair (.rows (.arr 3 (.flt .f32))) (.pair (.rows (.pair (.int .i64) (.pair (.arr 3 (.flt .f32)) (.pair (.int .i64) (.pair (.int .i64) (.unit)))))) (.val (.unit)))))) (.pair (.val (.int .i64)) (.pair (.rows (.pair (.int .i64) (.pair (.int .i64) (.unit)))) (.val (.pair (.int .i64) (.unit)))))))])] Tryd.f29 impl_CompileMission_sg x = impl_CompileMission x.1 := by kernel_rfl
theorem impl_CompileMission_so {G : List (Nat × Obj)} (mx : GMax 1 G) (tb : GTab Tryd.prog G) (sy : GErr 2 G) (ra : GErr 3 G) : Sound Tryd.prog G 29 impl_CompileMission_en := sound_of_body (envS (l := [(76, impl_textLines_en), (77, impl_compiler_compile_en)]) (⟨(impl_textLines_so mx), (impl_compiler_compile_so mx tb sy ra), trivial⟩)) Tryd.func29 (by kernel_rfl) rfl (fun x y h => (impl_CompileMission_eq (G := G) x).trans h)

-- loop.example/g01204/laws.eqVec
noncomputable def laws_eqVec (a0 : (Vec 3 Nat)) (a1 : (Vec 3 Nat)) : Option ((Bool × Unit) × Unit) :=
  (fConv .f32 .f64 (Vec.getD 3 a0 0 (0 : Nat))).bind fun y624 =>
  (fConv .f32 .f64 (Vec.getD 3 a1 0 (0 : Nat))).bind fun y626 =>
  (laws_sameFloat y624 y626).bind fun y627 =>
  bif (! y627.1.1) then some ((false, ()), ()) else
  (fConv .f32 .f64 (Vec.getD 3 a0 1 (0 : Nat))).bind fun y630 =>
  (fConv .f32 .f64 (Vec.getD 3 a1 1 (0 : Nat))).bind fun y632 =>
  (laws_sameFloat y630 y632).bind fun y633 =>
  bif (! y633.1.1) then some ((false, ()), ()) else
  (fConv .f32 .f64 (Vec.getD 3 a0 2 (0 : Nat))).bind fun y636 =>
  (fConv .f32 .f64 (Vec.getD 3 a1 2 (0 : Nat))).bind fun y638 =>
  (laws_sameFloat y636 y638).bind fun y639 =>
  bif (! y639.1.1) then some ((false, ()), ()) else some ((true, ()), ())
noncomputable def laws_eqVec_sg : Sig := ⟨[.v (.arr 3 (.flt .f32)), .v (.arr 3 (.flt .f32))], [.v (.val (.bool))], false⟩
noncomputable def laws_eqVec_en : Entry := ⟨laws_eqVec_sg, fun x => laws_eqVec x.1 x.2.1⟩
theorem laws_eqVec_eq {G : List (Nat × Obj)} (x : laws_eqVec_sg.dom) : body (env G [(11, laws_sameFloat_en)]) [(2, .unroll 4)] Tryd.f66 laws_eqVec_sg x = laws_eqVec x.1 x.2.1 := by kernel_rfl
theorem laws_eqVec_so {G : List (Nat × Obj)} : Sound Tryd.prog G 66 laws_eqVec_en := sound_of_body (envS (l := [(11, laws_sameFloat_en)]) (⟨(laws_sameFloat_so), trivial⟩)) Tryd.func66 (by kernel_rfl) rfl (fun x y h => (laws_eqVec_eq (G := G) x).trans h)

-- loop.example/g01204/laws.eqLeg
noncomputable def laws_eqLeg (a0 : (Int × ((Vec 3 Nat) × (Int × (Int × Unit))))) (a1 : (Int × ((Vec 3 Nat) × (Int × (Int × Unit))))) : Option ((Bool × Unit) × Unit) :=
  bif (! (iEq a0.1 a1.1)) then some ((false, ()), ()) else
  (laws_eqVec a0.2.1 a1.2.1).bind fun y619 =>
  bif (! y619.1.1) then some ((false, ()), ()) else
  bif (! (iEq a0.2.2.1 a1.2.2.1)) then some ((false, ()), ()) else
  bif (! (iEq a0.2.2.2.1 a1.2.2.2.1)) then some ((false, ()), ()) else some ((true, ()), ())
noncomputable def laws_eqLeg_sg : Sig := ⟨[.v (.pair (.int .i64) (.pair (.arr 3 (.flt .f32)) (.pair (.int .i64) (.pair (.int .i64) (.unit))))), .v (.pair (.int .i64) (.pair (.arr 3 (.flt .f32)) (.pair (.int .i64) (.pair (.int .i64) (.unit)))))], [.v (.val (.bool))], false⟩
noncomputable def laws_eqLeg_en : Entry := ⟨laws_eqLeg_sg, fun x => laws_eqLeg x.1 x.2.1⟩
theorem laws_eqLeg_eq {G : List (Nat × Obj)} (x : laws_eqLeg_sg.dom) : body (env G [(66, laws_eqVec_en)]) [] Tryd.f114 laws_eqLeg_sg x = laws_eqLeg x.1 x.2.1 := by kernel_rfl
theorem laws_eqLeg_so {G : List (Nat × Obj)} : Sound Tryd.prog G 114 laws_eqLeg_en := sound_of_body (envS (l := [(66, laws_eqVec_en)]) (⟨(laws_eqVec_so), trivial⟩)) Tryd.func114 (by kernel_rfl) rfl (fun x y h => (laws_eqLeg_eq (G := G) x).trans h)

-- loop.example/g01204/laws.eqLegS
noncomputable def laws_eqLegS_l4 (a0 : (List (Int × ((Vec 3 Nat) × (Int × (Int × Unit)))))) (a1 : (List (Int × ((Vec 3 Nat) × (Int × (Int × Unit)))))) (s611 : (Int × Unit)) : Option ((Int × Unit) ⊕ ((Bool × Unit) × Unit)) :=
  bif (iLt s611.1 (lenI a0)) then
    bif inB s611.1 (List.length a0) then
      bif inB s611.1 (List.length a1) then
        (laws_eqLeg (List.getD a0 s611.1.toNat ((0, (0, 0, 0, ()), 0, 0, ()) : (Int × ((Vec 3 Nat) × (Int × (Int × Unit)))))) (List.getD a1 s611.1.toNat ((0, (0, 0, 0, ()), 0, 0, ()) : (Int × ((Vec 3 Nat) × (Int × (Int × Unit))))))).bind fun y615 =>
        bif (! y615.1.1) then
          Option.map Sum.inr (some ((false, ()), ()))
        else
        some (Sum.inl ((iAdd .i64 s611.1 1), ()))
      else none
    else none
  else
  Option.map Sum.inr (some ((true, ()), ()))
noncomputable def laws_eqLegS (a0 : (List (Int × ((Vec 3 Nat) × (Int × (Int × Unit)))))) (a1 : (List (Int × ((Vec 3 Nat) × (Int × (Int × Unit)))))) : Option ((Bool × Unit) × Unit) :=
  bif (! (iEq (lenI a0) (lenI a1))) then some ((false, ()), ()) else run (laws_eqLegS_l4 a0 a1) ((0 : Int), ())
noncomputable def laws_eqLegS_sg : Sig := ⟨[.v (.list (.pair (.int .i64) (.pair (.arr 3 (.flt .f32)) (.pair (.int .i64) (.pair (.int .i64) (.unit)))))), .v (.list (.pair (.int .i64) (.pair (.arr 3 (.flt .f32)) (.pair (.int .i64) (.pair (.int .i64) (.unit))))))], [.v (.val (.bool))], false⟩
noncomputable def laws_eqLegS_en : Entry := ⟨laws_eqLegS_sg, fun x => laws_eqLegS x.1 x.2.1⟩
theorem laws_eqLegS_eq {G : List (Nat × Obj)} (x : laws_eqLegS_sg.dom) : body (env G [(114, laws_eqLeg_en)]) [(4, .vary [(5, .sc (.int .i64))])] Tryd.f78 laws_eqLegS_sg x = laws_eqLegS x.1 x.2.1 := by kernel_rfl
theorem laws_eqLegS_so {G : List (Nat × Obj)} : Sound Tryd.prog G 78 laws_eqLegS_en := sound_of_body (envS (l := [(114, laws_eqLeg_en)]) (⟨(laws_eqLeg_so), trivial⟩)) Tryd.func78 (by kernel_rfl) rfl (fun x y h => (laws_eqLegS_eq (G := G) x).trans h)

-- loop.example/g01204/laws.eqVecS
noncomputable def laws_eqVecS_l4 (a0 : (List (Vec 3 Nat))) (a1 : (List (Vec 3 Nat))) (s642 : (Int × Unit)) : Option ((Int × Unit) ⊕ ((Bool × Unit) × Unit)) :=
  bif (iLt s642.1 (lenI a0)) then
    bif inB s642.1 (List.length a0) then
      bif inB s642.1 (List.length a1) then
        (laws_eqVec (List.getD a0 s642.1.toNat ((0, 0, 0, ()) : (Vec 3 Nat))) (List.getD a1 s642.1.toNat ((0, 0, 0, ()) : (Vec 3 Nat)))).bind fun y646 =>
        bif (! y646.1.1) then
          Option.map Sum.inr (some ((false, ()), ()))
        else
        some (Sum.inl ((iAdd .i64 s642.1 1), ()))
      else none
    else none
  else
  Option.map Sum.inr (some ((true, ()), ()))
noncomputable def laws_eqVecS (a0 : (List (Vec 3 Nat))) (a1 : (List (Vec 3 Nat))) : Option ((Bool × Unit) × Unit) :=
  bif (! (iEq (lenI a0) (lenI a1))) then some ((false, ()), ()) else run (laws_eqVecS_l4 a0 a1) ((0 : Int), ())
noncomputable def laws_eqVecS_sg : Sig := ⟨[.v (.list (.arr 3 (.flt .f32))), .v (.list (.arr 3 (.flt .f32)))], [.v (.val (.bool))], false⟩
noncomputable def laws_eqVecS_en : Entry := ⟨laws_eqVecS_sg, fun x => laws_eqVecS x.1 x.2.1⟩
theorem laws_eqVecS_eq {G : List (Nat × Obj)} (x : laws_eqVecS_sg.dom) : body (env G [(66, laws_eqVec_en)]) [(4, .vary [(5, .sc (.int .i64))])] Tryd.f67 laws_eqVecS_sg x = laws_eqVecS x.1 x.2.1 := by kernel_rfl
theorem laws_eqVecS_so {G : List (Nat × Obj)} : Sound Tryd.prog G 67 laws_eqVecS_en := sound_of_body (envS (l := [(66, laws_eqVec_en)]) (⟨(laws_eqVec_so), trivial⟩)) Tryd.func67 (by kernel_rfl) rfl (fun x y h => (laws_eqVecS_eq (G := G) x).trans h)

end Go.Proofs.YtdmaamakckochaaDoor
