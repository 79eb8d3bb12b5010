import Derived.Test.YtdmaamakckochaaGreatDoorF1
/- Functions on typed data: what the evaluation of each Go function is, and that it is sound. -/
namespace Go.Proofs.YtdmaamakckochaaGreatDoor
open Go Go.Tm
set_option linter.unusedVariables false
set_option maxRecDepth 100000
-- loop.example/g01204/laws.eqLog
noncomputable def laws_eqLog (a0 : (Int × ((Vec 3 Nat) × ((List (Vec 3 Nat)) × ((List (Int × ((Vec 3 Nat) × ((Vec 3 Int) × (Int × (Nat × Unit)))))) × Unit))))) (a1 : (Int × ((Vec 3 Nat) × ((List (Vec 3 Nat)) × ((List (Int × ((Vec 3 Nat) × ((Vec 3 Int) × (Int × (Nat × Unit)))))) × Unit))))) : Option ((Bool × Unit) × Unit) :=
  bif (! (iEq a0.1 a1.1)) then some ((false, ()), ()) else
  (laws_eqVec a0.2.1 a1.2.1).bind fun y329 =>
  bif (! y329.1.1) then some ((false, ()), ()) else
  (laws_eqVecS a0.2.2.1 a1.2.2.1).bind fun y331 =>
  bif (! y331.1.1) then some ((false, ()), ()) else
  (laws_eqEntryS a0.2.2.2.1 a1.2.2.2.1).bind fun y333 =>
  bif (! y333.1.1) then some ((false, ()), ()) else some ((true, ()), ())
noncomputable def laws_eqLog_sg : Sig := ⟨[.v (.pair (.int .i64) (.pair (.arr 3 (.flt .f32)) (.pair (.list (.arr 3 (.flt .f32))) (.pair (.list (.pair (.int .i64) (.pair (.arr 3 (.flt .f32)) (.pair (.arr 3 (.int .i16)) (.pair (.int .i64) (.pair (.flt .f32) (.unit))))))) (.unit))))), .v (.pair (.int .i64) (.pair (.arr 3 (.flt .f32)) (.pair (.list (.arr 3 (.flt .f32))) (.pair (.list (.pair (.int .i64) (.pair (.arr 3 (.flt .f32)) (.pair (.arr 3 (.int .i16)) (.pair (.int .i64) (.pair (.flt .f32) (.unit))))))) (.unit)))))], [.v (.val (.bool))], false⟩
noncomputable def laws_eqLog_en : Entry := ⟨laws_eqLog_sg, fun x => laws_eqLog x.1 x.2.1⟩
theorem laws_eqLog_eq {G : List (Nat × Obj)} (x : laws_eqLog_sg.dom) : body (env G [(100, laws_eqVec_en), (101, laws_eqVecS_en), (102, laws_eqEntryS_en)]) [] Tryz.f35 laws_eqLog_sg x = laws_eqLog x.1 x.2.1 := by kernel_rfl
theorem laws_eqLog_so {G : List (Nat × Obj)} : Sound Tryz.prog G 35 laws_eqLog_en := sound_of_body (envS (l := [(100, laws_eqVec_en), (101, laws_eqVecS_en), (102, laws_eqEntryS_en)]) (⟨(laws_eqVec_so), (laws_eqVecS_so), (laws_eqEntryS_so), trivial⟩)) Tryz.func35 (by kernel_rfl) rfl (fun x y h => (laws_eqLog_eq (G := G) x).trans h)

-- loop.example/g01204/laws.heldEntryS
noncomputable def laws_heldEntryS_l2 (a0 : (List (Int × ((Vec 3 Nat) × ((Vec 3 Int) × (Int × (Nat × Unit))))))) (s407 : (Int × Int × Unit)) : Option ((Int × Int × Unit) ⊕ ((Int × Unit) × Unit)) :=
  bif (iLt s407.2.1 (lenI a0)) then
    bif inB s407.2.1 (List.length a0) then
      bif (! (iEq ((List.getD a0 s407.2.1.toNat ((0, (0, 0, 0, ()), (0, 0, 0, ()), 0, 0, ()) : (Int × ((Vec 3 Nat) × ((Vec 3 Int) × (Int × (Nat × Unit))))))).1) s407.1)) then
        Option.map Sum.inr (some ((((-1 : Int) : Int), ()), ()))
      else
      let x411 := iAdd .i64 s407.1 1
      bif inB s407.2.1 (List.length a0) then
        bif (! (fEq .f32 (Vec.getD 3 (((List.getD a0 s407.2.1.toNat ((0, (0, 0, 0, ()), (0, 0, 0, ()), 0, 0, ()) : (Int × ((Vec 3 Nat) × ((Vec 3 Int) × (Int × (Nat × Unit))))))).2).1) 0 (0 : Nat)) (fOfInt .f32 x411))) then
          Option.map Sum.inr (some ((((-1 : Int) : Int), ()), ()))
        else
        let x415 := iAdd .i64 x411 1
        bif inB s407.2.1 (List.length a0) then
          bif (! (fEq .f32 (Vec.getD 3 (((List.getD a0 s407.2.1.toNat ((0, (0, 0, 0, ()), (0, 0, 0, ()), 0, 0, ()) : (Int × ((Vec 3 Nat) × ((Vec 3 Int) × (Int × (Nat × Unit))))))).2).1) 1 (0 : Nat)) (fOfInt .f32 x415))) then
            Option.map Sum.inr (some ((((-1 : Int) : Int), ()), ()))
          else
          let x419 := iAdd .i64 x415 1
          bif inB s407.2.1 (List.length a0) then
            bif (! (fEq .f32 (Vec.getD 3 (((List.getD a0 s407.2.1.toNat ((0, (0, 0, 0, ()), (0, 0, 0, ()), 0, 0, ()) : (Int × ((Vec 3 Nat) × ((Vec 3 Int) × (Int × (Nat × Unit))))))).2).1) 2 (0 : Nat)) (fOfInt .f32 x419))) then
              Option.map Sum.inr (some ((((-1 : Int) : Int), ()), ()))
            else
            let x423 := iAdd .i64 x419 1
            bif inB s407.2.1 (List.length a0) then
              bif (! (iEq (Vec.getD 3 ((((List.getD a0 s407.2.1.toNat ((0, (0, 0, 0, ()), (0, 0, 0, ()), 0, 0, ()) : (Int × ((Vec 3 Nat) × ((Vec 3 Int) × (Int × (Nat × Unit))))))).2).2).1) 0 (0 : Int)) (iWrap .i16 x423))) then
                Option.map Sum.inr (some ((((-1 : Int) : Int), ()), ()))
              else
              let x427 := iAdd .i64 x423 1
              bif inB s407.2.1 (List.length a0) then
                bif (! (iEq (Vec.getD 3 ((((List.getD a0 s407.2.1.toNat ((0, (0, 0, 0, ()), (0, 0, 0, ()), 0, 0, ()) : (Int × ((Vec 3 Nat) × ((Vec 3 Int) × (Int × (Nat × Unit))))))).2).2).1) 1 (0 : Int)) (iWrap .i16 x427))) then
                  Option.map Sum.inr (some ((((-1 : Int) : Int), ()), ()))
                else
                let x431 := iAdd .i64 x427 1
                bif inB s407.2.1 (List.length a0) then
                  bif (! (iEq (Vec.getD 3 ((((List.getD a0 s407.2.1.toNat ((0, (0, 0, 0, ()), (0, 0, 0, ()), 0, 0, ()) : (Int × ((Vec 3 Nat) × ((Vec 3 Int) × (Int × (Nat × Unit))))))).2).2).1) 2 (0 : Int)) (iWrap .i16 x431))) then
                    Option.map Sum.inr (some ((((-1 : Int) : Int), ()), ()))
                  else
                  let x435 := iAdd .i64 x431 1
                  bif inB s407.2.1 (List.length a0) then
                    bif (! (iEq (((((List.getD a0 s407.2.1.toNat ((0, (0, 0, 0, ()), (0, 0, 0, ()), 0, 0, ()) : (Int × ((Vec 3 Nat) × ((Vec 3 Int) × (Int × (Nat × Unit))))))).2).2).2).1) x435)) then
                      Option.map Sum.inr (some ((((-1 : Int) : Int), ()), ()))
                    else
                    let x438 := iAdd .i64 x435 1
                    bif inB s407.2.1 (List.length a0) then
                      bif (! (fEq .f32 ((((((List.getD a0 s407.2.1.toNat ((0, (0, 0, 0, ()), (0, 0, 0, ()), 0, 0, ()) : (Int × ((Vec 3 Nat) × ((Vec 3 Int) × (Int × (Nat × Unit))))))).2).2).2).2).1) (fOfInt .f32 x438))) then
                        Option.map Sum.inr (some ((((-1 : Int) : Int), ()), ()))
                      else
                      some (Sum.inl ((iAdd .i64 x438 1), (iAdd .i64 s407.2.1 1), ()))
                    else none
                  else none
                else none
              else none
            else none
          else none
        else none
      else none
    else none
  else
  Option.map Sum.inr (some ((s407.1, ()), ()))
noncomputable def laws_heldEntryS (a0 : (List (Int × ((Vec 3 Nat) × ((Vec 3 Int) × (Int × (Nat × Unit))))))) (a1 : Int) : Option ((Int × Unit) × Unit) :=
  run (laws_heldEntryS_l2 a0) (a1, (0 : Int), ())
noncomputable def laws_heldEntryS_sg : Sig := ⟨[.v (.list (.pair (.int .i64) (.pair (.arr 3 (.flt .f32)) (.pair (.arr 3 (.int .i16)) (.pair (.int .i64) (.pair (.flt .f32) (.unit))))))), .v (.int .i64)], [.v (.val (.int .i64))], false⟩
noncomputable def laws_heldEntryS_en : Entry := ⟨laws_heldEntryS_sg, fun x => laws_heldEntryS x.1 x.2.1⟩
theorem laws_heldEntryS_eq {G : List (Nat × Obj)} (x : laws_heldEntryS_sg.dom) : body (env G []) [(2, .vary [(1, .sc (.int .i64)), (5, .sc (.int .i64))]), (8, .unroll 4), (14, .unroll 4)] Tryz.f106 laws_heldEntryS_sg x = laws_heldEntryS x.1 x.2.1 := by kernel_rfl
theorem laws_heldEntryS_so {G : List (Nat × Obj)} : Sound Tryz.prog G 106 laws_heldEntryS_en := sound_of_body (envS (l := []) (trivial)) Tryz.func106 (by kernel_rfl) rfl (fun x y h => (laws_heldEntryS_eq (G := G) x).trans h)

-- loop.example/g01204/laws.heldVecS
noncomputable def laws_heldVecS_l2 (a0 : (List (Vec 3 Nat))) (s444 : (Int × Int × Unit)) : Option ((Int × Int × Unit) ⊕ ((Int × Unit) × Unit)) :=
  bif (iLt s444.2.1 (lenI a0)) then
    bif inB s444.2.1 (List.length a0) then
      bif (! (fEq .f32 (Vec.getD 3 (List.getD a0 s444.2.1.toNat ((0, 0, 0, ()) : (Vec 3 Nat))) 0 (0 : Nat)) (fOfInt .f32 s444.1))) then
        Option.map Sum.inr (some ((((-1 : Int) : Int), ()), ()))
      else
      let x449 := iAdd .i64 s444.1 1
      bif inB s444.2.1 (List.length a0) then
        bif (! (fEq .f32 (Vec.getD 3 (List.getD a0 s444.2.1.toNat ((0, 0, 0, ()) : (Vec 3 Nat))) 1 (0 : Nat)) (fOfInt .f32 x449))) then
          Option.map Sum.inr (some ((((-1 : Int) : Int), ()), ()))
        else
        let x453 := iAdd .i64 x449 1
        bif inB s444.2.1 (List.length a0) then
          bif (! (fEq .f32 (Vec.getD 3 (List.getD a0 s444.2.1.toNat ((0, 0, 0, ()) : (Vec 3 Nat))) 2 (0 : Nat)) (fOfInt .f32 x453))) then
            Option.map Sum.inr (some ((((-1 : Int) : Int), ()), ()))
          else
          some (Sum.inl ((iAdd .i64 x453 1), (iAdd .i64 s444.2.1 1), ()))
        else none
      else none
    else none
  else
  Option.map Sum.inr (some ((s444.1, ()), ()))
noncomputable def laws_heldVecS (a0 : (List (Vec 3 Nat))) (a1 : Int) : Option ((Int × Unit) × Unit) :=
  run (laws_heldVecS_l2 a0) (a1, (0 : Int), ())
noncomputable def laws_heldVecS_sg : Sig := ⟨[.v (.list (.arr 3 (.flt .f32))), .v (.int .i64)], [.v (.val (.int .i64))], false⟩
noncomputable def laws_heldVecS_en : Entry := ⟨laws_heldVecS_sg, fun x => laws_heldVecS x.1 x.2.1⟩
theorem laws_heldVecS_eq {G : List (Nat × Obj)} (x : laws_heldVecS_sg.dom) : body (env G []) [(2, .vary [(1, .sc (.int .i64)), (5, .sc (.int .i64))]), (5, .unroll 4)] Tryz.f105 laws_heldVecS_sg x = laws_heldVecS x.1 x.2.1 := by kernel_rfl
theorem laws_heldVecS_so {G : List (Nat × Obj)} : Sound Tryz.prog G 105 laws_heldVecS_en := sound_of_body (envS (l := []) (trivial)) Tryz.func105 (by kernel_rfl) rfl (fun x y h => (laws_heldVecS_eq (G := G) x).trans h)

-- loop.example/g01204/laws.heldLog
noncomputable def laws_heldLog (a0 : (Int × ((Vec 3 Nat) × ((List (Vec 3 Nat)) × ((List (Int × ((Vec 3 Nat) × ((Vec 3 Int) × (Int × (Nat × Unit)))))) × Unit))))) (a1 : Int) : Option ((Int × Unit) × Unit) :=
  (laws_heldVecS a0.2.2.1 a1).bind fun y403 =>
  bif (iLt y403.1.1 0) then some ((((-1 : Int) : Int), ()), ()) else
  (laws_heldEntryS a0.2.2.2.1 y403.1.1).bind fun y405 =>
  bif (iLt y405.1.1 0) then some ((((-1 : Int) : Int), ()), ()) else some ((y405.1.1, ()), ())
noncomputable def laws_heldLog_sg : Sig := ⟨[.v (.pair (.int .i64) (.pair (.arr 3 (.flt .f32)) (.pair (.list (.arr 3 (.flt .f32))) (.pair (.list (.pair (.int .i64) (.pair (.arr 3 (.flt .f32)) (.pair (.arr 3 (.int .i16)) (.pair (.int .i64) (.pair (.flt .f32) (.unit))))))) (.unit))))), .v (.int .i64)], [.v (.val (.int .i64))], false⟩
noncomputable def laws_heldLog_en : Entry := ⟨laws_heldLog_sg, fun x => laws_heldLog x.1 x.2.1⟩
theorem laws_heldLog_eq {G : List (Nat × Obj)} (x : laws_heldLog_sg.dom) : body (env G [(105, laws_heldVecS_en), (106, laws_heldEntryS_en)]) [] Tryz.f37 laws_heldLog_sg x = laws_heldLog x.1 x.2.1 := by kernel_rfl
theorem laws_heldLog_so {G : List (Nat × Obj)} : Sound Tryz.prog G 37 laws_heldLog_en := sound_of_body (envS (l := [(105, laws_heldVecS_en), (106, laws_heldEntryS_en)]) (⟨(laws_heldVecS_so), (laws_heldEntryS_so), trivial⟩)) Tryz.func37 (by kernel_rfl) rfl (fun x y h => (laws_heldLog_eq (G := G) x).trans h)

-- loop.example/g01204/laws.markEntryS
noncomputable def laws_markEntryS_l2 (s489 : (Int × Int × (List (Int × ((Vec 3 Nat) × ((Vec 3 Int) × (Int × (Nat × Unit)))))) × Unit)) : Option ((Int × Int × (List (Int × ((Vec 3 Nat) × ((Vec 3 Int) × (Int × (Nat × Unit)))))) × Unit) ⊕ ((Int × Unit) × ((List (Int × ((Vec 3 Nat) × ((Vec 3 Int) × (Int × (Nat × Unit)))))) × Unit))) :=
  bif (iLt s489.2.1 (lenI s489.2.2.1)) then
    bif inB s489.2.1 (List.length s489.2.2.1) then
      let w491 := List.set s489.2.2.1 s489.2.1.toNat ((s489.1, (List.getD s489.2.2.1 s489.2.1.toNat ((0, (0, 0, 0, ()), (0, 0, 0, ()), 0, 0, ()) : (Int × ((Vec 3 Nat) × ((Vec 3 Int) × (Int × (Nat × Unit))))))).2) : (Int × ((Vec 3 Nat) × ((Vec 3 Int) × (Int × (Nat × Unit))))))
      let x492 := iAdd .i64 s489.1 1
      bif inB s489.2.1 (List.length w491) then
        let w494 := List.set w491 s489.2.1.toNat (((List.getD w491 s489.2.1.toNat ((0, (0, 0, 0, ()), (0, 0, 0, ()), 0, 0, ()) : (Int × ((Vec 3 Nat) × ((Vec 3 Int) × (Int × (Nat × Unit))))))).1, Vec.set 3 (((List.getD w491 s489.2.1.toNat ((0, (0, 0, 0, ()), (0, 0, 0, ()), 0, 0, ()) : (Int × ((Vec 3 Nat) × ((Vec 3 Int) × (Int × (Nat × Unit))))))).2).1) 0 (fOfInt .f32 x492), ((List.getD w491 s489.2.1.toNat ((0, (0, 0, 0, ()), (0, 0, 0, ()), 0, 0, ()) : (Int × ((Vec 3 Nat) × ((Vec 3 Int) × (Int × (Nat × Unit))))))).2).2) : (Int × ((Vec 3 Nat) × ((Vec 3 Int) × (Int × (Nat × Unit))))))
        let x495 := iAdd .i64 x492 1
        bif inB s489.2.1 (List.length w494) then
          let w497 := List.set w494 s489.2.1.toNat (((List.getD w494 s489.2.1.toNat ((0, (0, 0, 0, ()), (0, 0, 0, ()), 0, 0, ()) : (Int × ((Vec 3 Nat) × ((Vec 3 Int) × (Int × (Nat × Unit))))))).1, Vec.set 3 (((List.getD w494 s489.2.1.toNat ((0, (0, 0, 0, ()), (0, 0, 0, ()), 0, 0, ()) : (Int × ((Vec 3 Nat) × ((Vec 3 Int) × (Int × (Nat × Unit))))))).2).1) 1 (fOfInt .f32 x495), ((List.getD w494 s489.2.1.toNat ((0, (0, 0, 0, ()), (0, 0, 0, ()), 0, 0, ()) : (Int × ((Vec 3 Nat) × ((Vec 3 Int) × (Int × (Nat × Unit))))))).2).2) : (Int × ((Vec 3 Nat) × ((Vec 3 Int) × (Int × (Nat × Unit))))))
          let x498 := iAdd .i64 x495 1
          bif inB s489.2.1 (List.length w497) then
            let w500 := List.set w497 s489.2.1.toNat (((List.getD w497 s489.2.1.toNat ((0, (0, 0, 0, ()), (0, 0, 0, ()), 0, 0, ()) : (Int × ((Vec 3 Nat) × ((Vec 3 Int) × (Int × (Nat × Unit))))))).1, Vec.set 3 (((List.getD w497 s489.2.1.toNat ((0, (0, 0, 0, ()), (0, 0, 0, ()), 0, 0, ()) : (Int × ((Vec 3 Nat) × ((Vec 3 Int) × (Int × (Nat × Unit))))))).2).1) 2 (fOfInt .f32 x498), ((List.getD w497 s489.2.1.toNat ((0, (0, 0, 0, ()), (0, 0, 0, ()), 0, 0, ()) : (Int × ((Vec 3 Nat) × ((Vec 3 Int) × (Int × (Nat × Unit))))))).2).2) : (Int × ((Vec 3 Nat) × ((Vec 3 Int) × (Int × (Nat × Unit))))))
            let x501 := iAdd .i64 x498 1
            bif inB s489.2.1 (List.length w500) then
              let w503 := List.set w500 s489.2.1.toNat (((List.getD w500 s489.2.1.toNat ((0, (0, 0, 0, ()), (0, 0, 0, ()), 0, 0, ()) : (Int × ((Vec 3 Nat) × ((Vec 3 Int) × (Int × (Nat × Unit))))))).1, ((List.getD w500 s489.2.1.toNat ((0, (0, 0, 0, ()), (0, 0, 0, ()), 0, 0, ()) : (Int × ((Vec 3 Nat) × ((Vec 3 Int) × (Int × (Nat × Unit))))))).2).1, Vec.set 3 ((((List.getD w500 s489.2.1.toNat ((0, (0, 0, 0, ()), (0, 0, 0, ()), 0, 0, ()) : (Int × ((Vec 3 Nat) × ((Vec 3 Int) × (Int × (Nat × Unit))))))).2).2).1) 0 (iWrap .i16 x501), (((List.getD w500 s489.2.1.toNat ((0, (0, 0, 0, ()), (0, 0, 0, ()), 0, 0, ()) : (Int × ((Vec 3 Nat) × ((Vec 3 Int) × (Int × (Nat × Unit))))))).2).2).2) : (Int × ((Vec 3 Nat) × ((Vec 3 Int) × (Int × (Nat × Unit))))))
              let x504 := iAdd .i64 x501 1
              bif inB s489.2.1 (List.length w503) then
                let w506 := List.set w503 s489.2.1.toNat (((List.getD w503 s489.2.1.toNat ((0, (0, 0, 0, ()), (0, 0, 0, ()), 0, 0, ()) : (Int × ((Vec 3 Nat) × ((Vec 3 Int) × (Int × (Nat × Unit))))))).1, ((List.getD w503 s489.2.1.toNat ((0, (0, 0, 0, ()), (0, 0, 0, ()), 0, 0, ()) : (Int × ((Vec 3 Nat) × ((Vec 3 Int) × (Int × (Nat × Unit))))))).2).1, Vec.set 3 ((((List.getD w503 s489.2.1.toNat ((0, (0, 0, 0, ()), (0, 0, 0, ()), 0, 0, ()) : (Int × ((Vec 3 Nat) × ((Vec 3 Int) × (Int × (Nat × Unit))))))).2).2).1) 1 (iWrap .i16 x504), (((List.getD w503 s489.2.1.toNat ((0, (0, 0, 0, ()), (0, 0, 0, ()), 0, 0, ()) : (Int × ((Vec 3 Nat) × ((Vec 3 Int) × (Int × (Nat × Unit))))))).2).2).2) : (Int × ((Vec 3 Nat) × ((Vec 3 Int) × (Int × (Nat × Unit))))))
                let x507 := iAdd .i64 x504 1
                bif inB s489.2.1 (List.length w506) then
                  let w509 := List.set w506 s489.2.1.toNat (((List.getD w506 s489.2.1.toNat ((0, (0, 0, 0, ()), (0, 0, 0, ()), 0, 0, ()) : (Int × ((Vec 3 Nat) × ((Vec 3 Int) × (Int × (Nat × Unit))))))).1, ((List.getD w506 s489.2.1.toNat ((0, (0, 0, 0, ()), (0, 0, 0, ()), 0, 0, ()) : (Int × ((Vec 3 Nat) × ((Vec 3 Int) × (Int × (Nat × Unit))))))).2).1, Vec.set 3 ((((List.getD w506 s489.2.1.toNat ((0, (0, 0, 0, ()), (0, 0, 0, ()), 0, 0, ()) : (Int × ((Vec 3 Nat) × ((Vec 3 Int) × (Int × (Nat × Unit))))))).2).2).1) 2 (iWrap .i16 x507), (((List.getD w506 s489.2.1.toNat ((0, (0, 0, 0, ()), (0, 0, 0, ()), 0, 0, ()) : (Int × ((Vec 3 Nat) × ((Vec 3 Int) × (Int × (Nat × Unit))))))).2).2).2) : (Int × ((Vec 3 Nat) × ((Vec 3 Int) × (Int × (Nat × Unit))))))
                  let x510 := iAdd .i64 x507 1
                  bif inB s489.2.1 (List.length w509) then
                    let w511 := List.set w509 s489.2.1.toNat (((List.getD w509 s489.2.1.toNat ((0, (0, 0, 0, ()), (0, 0, 0, ()), 0, 0, ()) : (Int × ((Vec 3 Nat) × ((Vec 3 Int) × (Int × (Nat × Unit))))))).1, ((List.getD w509 s489.2.1.toNat ((0, (0, 0, 0, ()), (0, 0, 0, ()), 0, 0, ()) : (Int × ((Vec 3 Nat) × ((Vec 3 Int) × (Int × (Nat × Unit))))))).2).1, (((List.getD w509 s489.2.1.toNat ((0, (0, 0, 0, ()), (0, 0, 0, ()), 0, 0, ()) : (Int × ((Vec 3 Nat) × ((Vec 3 Int) × (Int × (Nat × Unit))))))).2).2).1, x510, ((((List.getD w509 s489.2.1.toNat ((0, (0, 0, 0, ()), (0, 0, 0, ()), 0, 0, ()) : (Int × ((Vec 3 Nat) × ((Vec 3 Int) × (Int × (Nat × Unit))))))).2).2).2).2) : (Int × ((Vec 3 Nat) × ((Vec 3 Int) × (Int × (Nat × Unit))))))
                    let x512 := iAdd .i64 x510 1
                    bif inB s489.2.1 (List.length w511) then
                      some (Sum.inl ((iAdd .i64 x512 1), (iAdd .i64 s489.2.1 1), (List.set w511 s489.2.1.toNat (((List.getD w511 s489.2.1.toNat ((0, (0, 0, 0, ()), (0, 0, 0, ()), 0, 0, ()) : (Int × ((Vec 3 Nat) × ((Vec 3 Int) × (Int × (Nat × Unit))))))).1, ((List.getD w511 s489.2.1.toNat ((0, (0, 0, 0, ()), (0, 0, 0, ()), 0, 0, ()) : (Int × ((Vec 3 Nat) × ((Vec 3 Int) × (Int × (Nat × Unit))))))).2).1, (((List.getD w511 s489.2.1.toNat ((0, (0, 0, 0, ()), (0, 0, 0, ()), 0, 0, ()) : (Int × ((Vec 3 Nat) × ((Vec 3 Int) × (Int × (Nat × Unit))))))).2).2).1, ((((List.getD w511 s489.2.1.toNat ((0, (0, 0, 0, ()), (0, 0, 0, ()), 0, 0, ()) : (Int × ((Vec 3 Nat) × ((Vec 3 Int) × (Int × (Nat × Unit))))))).2).2).2).1, (fOfInt .f32 x512), (((((List.getD w511 s489.2.1.toNat ((0, (0, 0, 0, ()), (0, 0, 0, ()), 0, 0, ()) : (Int × ((Vec 3 Nat) × ((Vec 3 Int) × (Int × (Nat × Unit))))))).2).2).2).2).2) : (Int × ((Vec 3 Nat) × ((Vec 3 Int) × (Int × (Nat × Unit))))))), ()))
                    else none
                  else none
                else none
              else none
            else none
          else none
        else none
      else none
    else none
  else
  Option.map Sum.inr (some ((s489.1, ()), (s489.2.2.1, ())))
noncomputable def laws_markEntryS (a0 : (List (Int × ((Vec 3 Nat) × ((Vec 3 Int) × (Int × (Nat × Unit))))))) (a1 : Int) : Option ((Int × Unit) × ((List (Int × ((Vec 3 Nat) × ((Vec 3 Int) × (Int × (Nat × Unit)))))) × Unit)) :=
  run (laws_markEntryS_l2) (a1, (0 : Int), a0, ())
noncomputable def laws_markEntryS_sg : Sig := ⟨[.mv (.rows (.pair (.int .i64) (.pair (.arr 3 (.flt .f32)) (.pair (.arr 3 (.int .i16)) (.pair (.int .i64) (.pair (.flt .f32) (.unit))))))), .v (.int .i64)], [.v (.val (.int .i64))], false⟩
noncomputable def laws_markEntryS_en : Entry := ⟨laws_markEntryS_sg, fun x => laws_markEntryS x.1 x.2.1⟩
theorem laws_markEntryS_eq {G : List (Nat × Obj)} (x : laws_markEntryS_sg.dom) : body (env G []) [(2, .vary [(1, .sc (.int .i64)), (5, .sc (.int .i64)), (0, .mrows (.pair (.int .i64) (.pair (.arr 3 (.flt .f32)) (.pair (.arr 3 (.int .i16)) (.pair (.int .i64) (.pair (.flt .f32) (.unit)))))))]), (7, .unroll 4), (12, .unroll 4)] Tryz.f104 laws_markEntryS_sg x = laws_markEntryS x.1 x.2.1 := by kernel_rfl
theorem laws_markEntryS_so {G : List (Nat × Obj)} : Sound Tryz.prog G 104 laws_markEntryS_en := sound_of_body (envS (l := []) (trivial)) Tryz.func104 (by kernel_rfl) rfl (fun x y h => (laws_markEntryS_eq (G := G) x).trans h)

-- loop.example/g01204/laws.markVecS
noncomputable def laws_markVecS_l2 (s529 : (Int × Int × (List (Vec 3 Nat)) × Unit)) : Option ((Int × Int × (List (Vec 3 Nat)) × Unit) ⊕ ((Int × Unit) × ((List (Vec 3 Nat)) × Unit))) :=
  bif (iLt s529.2.1 (lenI s529.2.2.1)) then
    bif inB s529.2.1 (List.length s529.2.2.1) then
      let w532 := List.set s529.2.2.1 s529.2.1.toNat (Vec.set 3 (List.getD s529.2.2.1 s529.2.1.toNat ((0, 0, 0, ()) : (Vec 3 Nat))) 0 (fOfInt .f32 s529.1))
      let x533 := iAdd .i64 s529.1 1
      bif inB s529.2.1 (List.length w532) then
        let w535 := List.set w532 s529.2.1.toNat (Vec.set 3 (List.getD w532 s529.2.1.toNat ((0, 0, 0, ()) : (Vec 3 Nat))) 1 (fOfInt .f32 x533))
        let x536 := iAdd .i64 x533 1
        bif inB s529.2.1 (List.length w535) then
          some (Sum.inl ((iAdd .i64 x536 1), (iAdd .i64 s529.2.1 1), (List.set w535 s529.2.1.toNat (Vec.set 3 (List.getD w535 s529.2.1.toNat ((0, 0, 0, ()) : (Vec 3 Nat))) 2 (fOfInt .f32 x536))), ()))
        else none
      else none
    else none
  else
  Option.map Sum.inr (some ((s529.1, ()), (s529.2.2.1, ())))
noncomputable def laws_markVecS (a0 : (List (Vec 3 Nat))) (a1 : Int) : Option ((Int × Unit) × ((List (Vec 3 Nat)) × Unit)) :=
  run (laws_markVecS_l2) (a1, (0 : Int), a0, ())
noncomputable def laws_markVecS_sg : Sig := ⟨[.mv (.rows (.arr 3 (.flt .f32))), .v (.int .i64)], [.v (.val (.int .i64))], false⟩
noncomputable def laws_markVecS_en : Entry := ⟨laws_markVecS_sg, fun x => laws_markVecS x.1 x.2.1⟩
theorem laws_markVecS_eq {G : List (Nat × Obj)} (x : laws_markVecS_sg.dom) : body (env G []) [(2, .vary [(1, .sc (.int .i64)), (5, .sc (.int .i64)), (0, .mrows (.arr 3 (.flt .f32)))]), (5, .unroll 4)] Tryz.f103 laws_markVecS_sg x = laws_markVecS x.1 x.2.1 := by kernel_rfl
theorem laws_markVecS_so {G : List (Nat × Obj)} : Sound Tryz.prog G 103 laws_markVecS_en := sound_of_body (envS (l := []) (trivial)) Tryz.func103 (by kernel_rfl) rfl (fun x y h => (laws_markVecS_eq (G := G) x).trans h)

-- loop.example/g01204/laws.markLog
noncomputable def laws_markLog (a0 : (Int × ((Vec 3 Nat) × ((List (Vec 3 Nat)) × ((List (Int × ((Vec 3 Nat) × ((Vec 3 Int) × (Int × (Nat × Unit)))))) × Unit))))) (a1 : Int) : Option ((Int × Unit) × ((Int × ((Vec 3 Nat) × ((List (Vec 3 Nat)) × ((List (Int × ((Vec 3 Nat) × ((Vec 3 Int) × (Int × (Nat × Unit)))))) × Unit)))) × Unit)) :=
  (laws_markVecS a0.2.2.1 a1).bind fun y459 =>
  (laws_markEntryS a0.2.2.2.1 y459.1.1).bind fun y460 =>
  some ((y460.1.1, ()), (((a0.1, a0.2.1, y459.2.1, y460.2.1, a0.2.2.2.2) : (Int × ((Vec 3 Nat) × ((List (Vec 3 Nat)) × ((List (Int × ((Vec 3 Nat) × ((Vec 3 Int) × (Int × (Nat × Unit)))))) × Unit))))), ()))
noncomputable def laws_markLog_sg : Sig := ⟨[.mv (.pair (.val (.int .i64)) (.pair (.val (.arr 3 (.flt .f32))) (.pair (.rows (.arr 3 (.flt .f32))) (.pair (.rows (.pair (.int .i64) (.pair (.arr 3 (.flt .f32)) (.pair (.arr 3 (.int .i16)) (.pair (.int .i64) (.pair (.flt .f32) (.unit))))))) (.val (.unit)))))), .v (.int .i64)], [.v (.val (.int .i64))], false⟩
noncomputable def laws_markLog_en : Entry := ⟨laws_markLog_sg, fun x => laws_markLog x.1 x.2.1⟩
theorem laws_markLog_eq {G : List (Nat × Obj)} (x : laws_markLog_sg.dom) : body (env G [(103, laws_markVecS_en), (104, laws_markEntryS_en)]) [] Tryz.f36 laws_markLog_sg x = laws_markLog x.1 x.2.1 := by kernel_rfl
theorem laws_markLog_so {G : List (Nat × Obj)} : Sound Tryz.prog G 36 laws_markLog_en := sound_of_body (envS (l := [(103, laws_markVecS_en), (104, laws_markEntryS_en)]) (⟨(laws_markVecS_so), (laws_markEntryS_so), trivial⟩)) Tryz.func36 (by kernel_rfl) rfl (fun x y h => (laws_markLog_eq (G := G) x).trans h)

-- loop.example/g01204/spec.l01Number
noncomputable def spec_l01Number_l5 (a0 : List UInt8) (s650 : (Int × Int × Unit)) : Option ((Int × Int × Unit) ⊕ ((Int × Bool × Unit) × Unit)) :=
  bif (iLt s650.2.1 (lenI a0)) then
    bif inB s650.2.1 (List.length a0) then
      bif (iLt (strAt a0 s650.2.1) 48) then
        Option.map Sum.inr (some (((0 : Int), false, ()), ()))
      else
      bif inB s650.2.1 (List.length a0) then
        bif (iLt 57 (strAt a0 s650.2.1)) then
          Option.map Sum.inr (some (((0 : Int), false, ()), ()))
        else
        bif inB s650.2.1 (List.length a0) then
          some (Sum.inl ((iAdd .i64 (iMul .i64 s650.1 10) (iWrap .i64 (iSub .u8 (strAt a0 s650.2.1) 48))), (iAdd .i64 s650.2.1 1), ()))
        else none
      else none
    else none
  else
  Option.map Sum.inr (some ((s650.1, true, ()), ()))
noncomputable def spec_l01Number_l5_2 (a0 : List UInt8) (s662 : (Int × Int × Unit)) : Option ((Int × Int × Unit) ⊕ ((Int × Bool × Unit) × Unit)) :=
  bif (iLt s662.2.1 (lenI a0)) then
    bif inB s662.2.1 (List.length a0) then
      bif (iLt (strAt a0 s662.2.1) 48) then
        Option.map Sum.inr (some (((0 : Int), false, ()), ()))
      else
      bif inB s662.2.1 (List.length a0) then
        bif (iLt 57 (strAt a0 s662.2.1)) then
          Option.map Sum.inr (some (((0 : Int), false, ()), ()))
        else
        bif inB s662.2.1 (List.length a0) then
          some (Sum.inl ((iAdd .i64 (iMul .i64 s662.1 10) (iWrap .i64 (iSub .u8 (strAt a0 s662.2.1) 48))), (iAdd .i64 s662.2.1 1), ()))
        else none
      else none
    else none
  else
  Option.map Sum.inr (some ((s662.1, true, ()), ()))
noncomputable def spec_l01Number (a0 : List UInt8) : Option ((Int × Bool × Unit) × Unit) :=
  bif (iLt (lenI a0) 1) then some (((0 : Int), false, ()), ()) else
  bif (iLt 9 (lenI a0)) then some (((0 : Int), false, ()), ()) else
  bif inB 0 (List.length a0) then
    bif (iEq (strAt a0 0) 48) then
      bif (iLt 1 (lenI a0)) then some (((0 : Int), false, ()), ()) else run (spec_l01Number_l5 a0) ((0 : Int), (0 : Int), ())
    else run (spec_l01Number_l5_2 a0) ((0 : Int), (0 : Int), ())
  else none
noncomputable def spec_l01Number_sg : Sig := ⟨[.v (.str)], [.v (.val (.int .i64)), .v (.val (.bool))], false⟩
noncomputable def spec_l01Number_en : Entry := ⟨spec_l01Number_sg, fun x => spec_l01Number x.1⟩
theorem spec_l01Number_eq {G : List (Nat × Obj)} (x : spec_l01Number_sg.dom) : body (env G []) [(5, .vary [(4, .sc (.int .i64)), (5, .sc (.int .i64))])] Tryz.f86 spec_l01Number_sg x = spec_l01Number x.1 := by kernel_rfl
theorem spec_l01Number_so {G : List (Nat × Obj)} : Sound Tryz.prog G 86 spec_l01Number_en := sound_of_body (envS (l := []) (trivial)) Tryz.func86 (by kernel_rfl) rfl (fun x y h => (spec_l01Number_eq (G := G) x).trans h)

-- loop.example/g01204/spec.l01Bits
noncomputable def spec_l01Bits (a0 : Nat) : Option ((Int × Unit) × Unit) :=
  bif (! (fEq .f32 a0 a0)) then some (((2143289344 : Int), ()), ()) else
  allSame fun (q712 : Nat) =>
  some (((bitsF .f32 a0 q712), ()), ())
noncomputable def spec_l01Bits_sg : Sig := ⟨[.v (.flt .f32)], [.v (.val (.int .u32))], false⟩
noncomputable def spec_l01Bits_en : Entry := ⟨spec_l01Bits_sg, fun x => spec_l01Bits x.1⟩
theorem spec_l01Bits_eq {G : List (Nat × Obj)} (x : spec_l01Bits_sg.dom) : body (env G []) [] Tryz.f175 spec_l01Bits_sg x = spec_l01Bits x.1 := by kernel_rfl
theorem spec_l01Bits_so {G : List (Nat × Obj)} : Sound Tryz.prog G 175 spec_l01Bits_en := sound_of_body (envS (l := []) (trivial)) Tryz.func175 (by kernel_rfl) rfl (fun x y h => (spec_l01Bits_eq (G := G) x).trans h)

-- loop.example/g01204/spec.l01Read
noncomputable def spec_l01Read_l5 (a0 : List UInt8) (s682 : (Int × Int × Unit)) : Option ((Int × Int × Unit) ⊕ ((Nat × Bool × Unit) × Unit)) :=
  bif (iLt s682.2.1 8) then
    bif inB s682.2.1 (List.length a0) then
      let x684 := strAt a0 s682.2.1
      bif (iLe 48 x684) then
        bif (iLe x684 57) then
          some (Sum.inl ((iAdd .u32 (iMul .u32 s682.1 16) (iWrap .u32 (iSub .u8 x684 48))), (iAdd .i64 s682.2.1 1), ()))
        else
        bif (iLe 97 x684) then
          bif (iLe x684 102) then
            some (Sum.inl ((iAdd .u32 (iAdd .u32 (iMul .u32 s682.1 16) (iWrap .u32 (iSub .u8 x684 97))) 10), (iAdd .i64 s682.2.1 1), ()))
          else
          Option.map Sum.inr (some (((0 : Nat), false, ()), ()))
        else
        Option.map Sum.inr (some (((0 : Nat), false, ()), ()))
      else
      bif (iLe 97 x684) then
        bif (iLe x684 102) then
          some (Sum.inl ((iAdd .u32 (iAdd .u32 (iMul .u32 s682.1 16) (iWrap .u32 (iSub .u8 x684 97))) 10), (iAdd .i64 s682.2.1 1), ()))
        else
        Option.map Sum.inr (some (((0 : Nat), false, ()), ()))
      else
      Option.map Sum.inr (some (((0 : Nat), false, ()), ()))
    else none
  else
  Option.map Sum.inr (
    (math_Float32frombits s682.1).bind fun y708 =>
    (spec_l01Bits y708.1.1).bind fun y709 =>
    some ((y708.1.1, (iEq y709.1.1 s682.1), ()), ()))
noncomputable def spec_l01Read (a0 : List UInt8) : Option ((Nat × Bool × Unit) × Unit) :=
  bif (! (iEq (lenI a0) 8)) then some (((0 : Nat), false, ()), ()) else run (spec_l01Read_l5 a0) ((0 : Int), (0 : Int), ())
noncomputable def spec_l01Read_sg : Sig := ⟨[.v (.str)], [.v (.val (.flt .f32)), .v (.val (.bool))], false⟩
noncomputable def spec_l01Read_en : Entry := ⟨spec_l01Read_sg, fun x => spec_l01Read x.1⟩
theorem spec_l01Read_eq {G : List (Nat × Obj)} (x : spec_l01Read_sg.dom) : body (env G [(174, math_Float32frombits_en), (175, spec_l01Bits_en)]) [(5, .vary [(4, .sc (.int .u32)), (5, .sc (.int .i64))])] Tryz.f141 spec_l01Read_sg x = spec_l01Read x.1 := by kernel_rfl
theorem spec_l01Read_so {G : List (Nat × Obj)} : Sound Tryz.prog G 141 spec_l01Read_en := sound_of_body (envS (l := [(174, math_Float32frombits_en), (175, spec_l01Bits_en)]) (⟨(math_Float32frombits_so), (spec_l01Bits_so), trivial⟩)) Tryz.func141 (by kernel_rfl) rfl (fun x y h => (spec_l01Read_eq (G := G) x).trans h)

-- loop.example/g01204/spec.l01Numbers
noncomputable def spec_l01Numbers_l3 (a0 : (List (List UInt8))) (s674 : ((List Nat) × Int × Unit)) : Option (((List Nat) × Int × Unit) ⊕ (((List Nat) × Bool × Unit) × Unit)) :=
  bif (iLt s674.2.1 (lenI a0)) then
    bif inB s674.2.1 (List.length a0) then
      (spec_l01Read (List.getD a0 s674.2.1.toNat ([] : List UInt8))).bind fun y677 =>
      bif (! y677.1.2.1) then
        Option.map Sum.inr (some ((([] : (List Nat)), false, ()), ()))
      else
      bif room (List.length s674.1 + 1) 4 then
        some (Sum.inl ((s674.1 ++ ([y677.1.1] : (List Nat))), (iAdd .i64 s674.2.1 1), ()))
      else none
    else none
  else
  Option.map Sum.inr (some ((s674.1, true, ()), ()))
noncomputable def spec_l01Numbers (a0 : (List (List UInt8))) : Option (((List Nat) × Bool × Unit) × Unit) :=
  run (spec_l01Numbers_l3 a0) (([] : (List Nat)), (0 : Int), ())
noncomputable def spec_l01Numbers_sg : Sig := ⟨[.v (.list (.str))], [.v (.rows (.flt .f32)), .v (.val (.bool))], false⟩
noncomputable def spec_l01Numbers_en : Entry := ⟨spec_l01Numbers_sg, fun x => spec_l01Numbers x.1⟩
theorem spec_l01Numbers_eq {G : List (Nat × Obj)} (x : spec_l01Numbers_sg.dom) : body (env G [(141, spec_l01Read_en)]) [(3, .vary [(4, .rows (.flt .f32)), (5, .sc (.int .i64))])] Tryz.f87 spec_l01Numbers_sg x = spec_l01Numbers x.1 := by kernel_rfl
theorem spec_l01Numbers_so {G : List (Nat × Obj)} : Sound Tryz.prog G 87 spec_l01Numbers_en := sound_of_body (envS (l := [(141, spec_l01Read_en)]) (⟨(spec_l01Read_so), trivial⟩)) Tryz.func87 (by kernel_rfl) rfl (fun x y h => (spec_l01Numbers_eq (G := G) x).trans h)

-- loop.example/g01204/spec.l01Split
noncomputable def spec_l01Split_l4 (a0 : List UInt8) (a1 : Int) (s721 : ((List (List UInt8)) × Int × Int × Unit)) : Option (((List (List UInt8)) × Int × Int × Unit) ⊕ (((List (List UInt8)) × Unit) × Unit)) :=
  bif (iLt s721.2.2.1 (lenI a0)) then
    bif inB s721.2.2.1 (List.length a0) then
      bif (iEq (strAt a0 s721.2.2.1) a1) then
        bif inS s721.2.1 s721.2.2.1 (List.length a0) then
          bif room (List.length s721.1 + 1) 16 then
            some (Sum.inl ((s721.1 ++ ([(subL a0 s721.2.1 s721.2.2.1)] : (List (List UInt8)))), (iAdd .i64 s721.2.2.1 1), (iAdd .i64 s721.2.2.1 1), ()))
          else none
        else none
      else
      some (Sum.inl (s721.1, s721.2.1, (iAdd .i64 s721.2.2.1 1), ()))
    else none
  else
  Option.map Sum.inr (
    bif inS s721.2.1 (lenI a0) (List.length a0) then
      bif room (List.length s721.1 + 1) 16 then
        some (((s721.1 ++ ([(dropL a0 s721.2.1)] : (List (List UInt8)))), ()), ())
      else none
    else none)
noncomputable def spec_l01Split (a0 : List UInt8) (a1 : Int) : Option (((List (List UInt8)) × Unit) × Unit) :=
  run (spec_l01Split_l4 a0 a1) (([] : (List (List UInt8))), (0 : Int), (0 : Int), ())
noncomputable def spec_l01Split_sg : Sig := ⟨[.v (.str), .v (.int .u8)], [.v (.rows (.str))], false⟩
noncomputable def spec_l01Split_en : Entry := ⟨spec_l01Split_sg, fun x => spec_l01Split x.1 x.2.1⟩
theorem spec_l01Split_eq {G : List (Nat × Obj)} (x : spec_l01Split_sg.dom) : body (env G []) [(4, .vary [(5, .rows (.str)), (6, .sc (.int .i64)), (7, .sc (.int .i64))])] Tryz.f85 spec_l01Split_sg x = spec_l01Split x.1 x.2.1 := by kernel_rfl
theorem spec_l01Split_so {G : List (Nat × Obj)} : Sound Tryz.prog G 85 spec_l01Split_en := sound_of_body (envS (l := []) (trivial)) Tryz.func85 (by kernel_rfl) rfl (fun x y h => (spec_l01Split_eq (G := G) x).trans h)

-- loop.example/g01204/spec.l01ReadVec
noncomputable def spec_l01ReadVec (a0 : List UInt8) : Option (((Vec 3 Nat) × Bool × Unit) × Unit) :=
  (spec_l01Split a0 (32 : Int)).bind fun y714 =>
  (spec_l01Numbers y714.1.1).bind fun y715 =>
  bif (! y715.1.2.1) then some ((((0, 0, 0, ()) : (Vec 3 Nat)), false, ()), ()) else
  bif (! (iEq (lenI y715.1.1) 3)) then some ((((0, 0, 0, ()) : (Vec 3 Nat)), false, ()), ()) else
  bif inB 0 (List.length y715.1.1) then
    bif inB 1 (List.length y715.1.1) then
      bif inB 2 (List.length y715.1.1) then
        some (((((List.getD y715.1.1 0 (0 : Nat)), (List.getD y715.1.1 1 (0 : Nat)), (List.getD y715.1.1 2 (0 : Nat)), ()) : (Vec 3 Nat)), true, ()), ())
      else none
    else none
  else none
noncomputable def spec_l01ReadVec_sg : Sig := ⟨[.v (.str)], [.v (.val (.arr 3 (.flt .f32))), .v (.val (.bool))], false⟩
noncomputable def spec_l01ReadVec_en : Entry := ⟨spec_l01ReadVec_sg, fun x => spec_l01ReadVec x.1⟩
theorem spec_l01ReadVec_eq {G : List (Nat × Obj)} (x : spec_l01ReadVec_sg.dom) : body (env G [(85, spec_l01Split_en), (87, spec_l01Numbers_en)]) [] Tryz.f88 spec_l01ReadVec_sg x = spec_l01ReadVec x.1 := by kernel_rfl
theorem spec_l01ReadVec_so {G : List (Nat × Obj)} : Sound Tryz.prog G 88 spec_l01ReadVec_en := sound_of_body (envS (l := [(85, spec_l01Split_en), (87, spec_l01Numbers_en)]) (⟨(spec_l01Split_so), (spec_l01Numbers_so), trivial⟩)) Tryz.func88 (by kernel_rfl) rfl (fun x y h => (spec_l01ReadVec_eq (G := G) x).trans h)

-- loop.example/g01204/spec.l00In
noncomputable def spec_l00In (a0 : Int) (a1 : Int) (a2 : Int) : Option ((Bool × Unit) × Unit) :=
  bif (iLe a1 a0) then
    some (((iLe a0 a2), ()), ())
  else some ((false, ()), ())
noncomputable def spec_l00In_sg : Sig := ⟨[.v (.int .i64), .v (.int .i64), .v (.int .i64)], [.v (.val (.bool))], false⟩
noncomputable def spec_l00In_en : Entry := ⟨spec_l00In_sg, fun x => spec_l00In x.1 x.2.1 x.2.2.1⟩
theorem spec_l00In_eq {G : List (Nat × Obj)} (x : spec_l00In_sg.dom) : body (env G []) [] Tryz.f52 spec_l00In_sg x = spec_l00In x.1 x.2.1 x.2.2.1 := by kernel_rfl
theorem spec_l00In_so {G : List (Nat × Obj)} : Sound Tryz.prog G 52 spec_l00In_en := sound_of_body (envS (l := []) (trivial)) Tryz.func52 (by kernel_rfl) rfl (fun x y h => (spec_l00In_eq (G := G) x).trans h)

-- loop.example/g01204/spec.l01Finite
noncomputable def spec_l01Finite (a0 : Nat) : Option ((Bool × Unit) × Unit) :=
  some (((fEq .f32 (fSub .f32 a0 a0) 0), ()), ())
noncomputable def spec_l01Finite_sg : Sig := ⟨[.v (.flt .f32)], [.v (.val (.bool))], false⟩
noncomputable def spec_l01Finite_en : Entry := ⟨spec_l01Finite_sg, fun x => spec_l01Finite x.1⟩
theorem spec_l01Finite_eq {G : List (Nat × Obj)} (x : spec_l01Finite_sg.dom) : body (env G []) [] Tryz.f124 spec_l01Finite_sg x = spec_l01Finite x.1 := by kernel_rfl
theorem spec_l01Finite_so {G : List (Nat × Obj)} : Sound Tryz.prog G 124 spec_l01Finite_en := sound_of_body (envS (l := []) (trivial)) Tryz.func124 (by kernel_rfl) rfl (fun x y h => (spec_l01Finite_eq (G := G) x).trans h)

-- loop.example/g01204/spec.l01Same
noncomputable def spec_l01Same (a0 : Nat) (a1 : Nat) : Option ((Bool × Unit) × Unit) :=
  bif (! (fEq .f32 a0 a0)) then
    bif (! (fEq .f32 a0 a0)) then
      some (((! (fEq .f32 a1 a1)), ()), ())
    else some ((false, ()), ())
  else
  bif (! (fEq .f32 a1 a1)) then
    bif (! (fEq .f32 a0 a0)) then
      some (((! (fEq .f32 a1 a1)), ()), ())
    else some ((false, ()), ())
  else
  allSame fun (q802 : Nat) =>
  allSame fun (q804 : Nat) =>
  some (((iEq (bitsF .f32 a0 q802) (bitsF .f32 a1 q804)), ()), ())
noncomputable def spec_l01Same_sg : Sig := ⟨[.v (.flt .f32), .v (.flt .f32)], [.v (.val (.bool))], false⟩
noncomputable def spec_l01Same_en : Entry := ⟨spec_l01Same_sg, fun x => spec_l01Same x.1 x.2.1⟩
theorem spec_l01Same_eq {G : List (Nat × Obj)} (x : spec_l01Same_sg.dom) : body (env G []) [] Tryz.f129 spec_l01Same_sg x = spec_l01Same x.1 x.2.1 := by kernel_rfl
theorem spec_l01Same_so {G : List (Nat × Obj)} : Sound Tryz.prog G 129 spec_l01Same_en := sound_of_body (envS (l := []) (trivial)) Tryz.func129 (by kernel_rfl) rfl (fun x y h => (spec_l01Same_eq (G := G) x).trans h)

-- loop.example/g01204/spec.l01SameVec
noncomputable def spec_l01SameVec (a0 : (Vec 3 Nat)) (a1 : (Vec 3 Nat)) : Option ((Bool × Unit) × Unit) :=
  (spec_l01Same (Vec.getD 3 a0 0 (0 : Nat)) (Vec.getD 3 a1 0 (0 : Nat))).bind fun y809 =>
  bif y809.1.1 then
    (spec_l01Same (Vec.getD 3 a0 1 (0 : Nat)) (Vec.getD 3 a1 1 (0 : Nat))).bind fun y812 =>
    bif y812.1.1 then
      (spec_l01Same (Vec.getD 3 a0 2 (0 : Nat)) (Vec.getD 3 a1 2 (0 : Nat))).bind fun y815 =>
      some ((y815.1.1, ()), ())
    else some ((false, ()), ())
  else some ((false, ()), ())
noncomputable def spec_l01SameVec_sg : Sig := ⟨[.v (.arr 3 (.flt .f32)), .v (.arr 3 (.flt .f32))], [.v (.val (.bool))], false⟩
noncomputable def spec_l01SameVec_en : Entry := ⟨spec_l01SameVec_sg, fun x => spec_l01SameVec x.1 x.2.1⟩
theorem spec_l01SameVec_eq {G : List (Nat × Obj)} (x : spec_l01SameVec_sg.dom) : body (env G [(129, spec_l01Same_en)]) [] Tryz.f69 spec_l01SameVec_sg x = spec_l01SameVec x.1 x.2.1 := by kernel_rfl
theorem spec_l01SameVec_so {G : List (Nat × Obj)} : Sound Tryz.prog G 69 spec_l01SameVec_en := sound_of_body (envS (l := [(129, spec_l01Same_en)]) (⟨(spec_l01Same_so), trivial⟩)) Tryz.func69 (by kernel_rfl) rfl (fun x y h => (spec_l01SameVec_eq (G := G) x).trans h)

-- loop.example/g01204/spec.l01Vec
noncomputable def spec_l01Vec (a0 : (Vec 3 Nat)) : Option ((Bool × Unit) × Unit) :=
  (spec_l01Finite (Vec.getD 3 a0 0 (0 : Nat))).bind fun y817 =>
  bif y817.1.1 then
    (spec_l01Finite (Vec.getD 3 a0 1 (0 : Nat))).bind fun y819 =>
    bif y819.1.1 then
      (spec_l01Finite (Vec.getD 3 a0 2 (0 : Nat))).bind fun y821 =>
      some ((y821.1.1, ()), ())
    else some ((false, ()), ())
  else some ((false, ()), ())
noncomputable def spec_l01Vec_sg : Sig := ⟨[.v (.arr 3 (.flt .f32))], [.v (.val (.bool))], false⟩
noncomputable def spec_l01Vec_en : Entry := ⟨spec_l01Vec_sg, fun x => spec_l01Vec x.1⟩
theorem spec_l01Vec_eq {G : List (Nat × Obj)} (x : spec_l01Vec_sg.dom) : body (env G [(124, spec_l01Finite_en)]) [] Tryz.f134 spec_l01Vec_sg x = spec_l01Vec x.1 := by kernel_rfl
theorem spec_l01Vec_so {G : List (Nat × Obj)} : Sound Tryz.prog G 134 spec_l01Vec_en := sound_of_body (envS (l := [(124, spec_l01Finite_en)]) (⟨(spec_l01Finite_so), trivial⟩)) Tryz.func134 (by kernel_rfl) rfl (fun x y h => (spec_l01Vec_eq (G := G) x).trans h)

-- loop.example/g01204/spec.l08Entry
noncomputable def spec_l08Entry (a0 : (Int × ((Vec 3 Nat) × ((Vec 3 Int) × (Int × (Nat × Unit)))))) (a1 : Int) : Option ((Bool × Unit) × Unit) :=
  (spec_l01SameVec a0.2.1 ((0, 0, 0, ()) : (Vec 3 Nat))).bind fun y740 =>
  bif y740.1.1 then
    (spec_l01Same a0.2.2.2.2.1 (0 : Nat)).bind fun y741 =>
    bif y741.1.1 then
      bif (iEq a0.1 1) then
        bif (iEq (Vec.getD 3 a0.2.2.1 0 (0 : Int)) 0 && (iEq (Vec.getD 3 a0.2.2.1 1 (0 : Int)) 0 && (iEq (Vec.getD 3 a0.2.2.1 2 (0 : Int)) 0 && true))) then
          some (((iEq a0.2.2.2.1 0), ()), ())
        else some ((false, ()), ())
      else
      bif (iEq a0.1 2) then
        (spec_l01Vec a0.2.1).bind fun y746 =>
        bif y746.1.1 then
          (spec_l01Same a0.2.2.2.2.1 (0 : Nat)).bind fun y747 =>
          bif y747.1.1 then
            bif (iEq (Vec.getD 3 a0.2.2.1 0 (0 : Int)) 0 && (iEq (Vec.getD 3 a0.2.2.1 1 (0 : Int)) 0 && (iEq (Vec.getD 3 a0.2.2.1 2 (0 : Int)) 0 && true))) then
              some (((iEq a0.2.2.2.1 0), ()), ())
            else some ((false, ()), ())
          else some ((false, ()), ())
        else some ((false, ()), ())
      else
      bif (iEq a0.1 3) then
        (spec_l01SameVec a0.2.1 ((0, 0, 0, ()) : (Vec 3 Nat))).bind fun y751 =>
        bif y751.1.1 then
          (spec_l01Same a0.2.2.2.2.1 (0 : Nat)).bind fun y752 =>
          bif y752.1.1 then
            some (((iEq a0.2.2.2.1 0), ()), ())
          else some ((false, ()), ())
        else some ((false, ()), ())
      else
      bif (iEq a0.1 4) then
        (spec_l01SameVec a0.2.1 ((0, 0, 0, ()) : (Vec 3 Nat))).bind fun y755 =>
        bif y755.1.1 then
          bif (iEq (Vec.getD 3 a0.2.2.1 0 (0 : Int)) 0 && (iEq (Vec.getD 3 a0.2.2.1 1 (0 : Int)) 0 && (iEq (Vec.getD 3 a0.2.2.1 2 (0 : Int)) 0 && true))) then
            (spec_l01Finite a0.2.2.2.2.1).bind fun y757 =>
            bif y757.1.1 then
              (spec_l00In a0.2.2.2.1 (0 : Int) (iSub .i64 a1 1)).bind fun y759 =>
              some ((y759.1.1, ()), ())
            else some ((false, ()), ())
          else some ((false, ()), ())
        else some ((false, ()), ())
      else some ((false, ()), ())
    else
    bif (iEq a0.1 1) then some ((false, ()), ()) else
    bif (iEq a0.1 2) then
      (spec_l01Vec a0.2.1).bind fun y762 =>
      bif y762.1.1 then
        (spec_l01Same a0.2.2.2.2.1 (0 : Nat)).bind fun y763 =>
        bif y763.1.1 then
          bif (iEq (Vec.getD 3 a0.2.2.1 0 (0 : Int)) 0 && (iEq (Vec.getD 3 a0.2.2.1 1 (0 : Int)) 0 && (iEq (Vec.getD 3 a0.2.2.1 2 (0 : Int)) 0 && true))) then
            some (((iEq a0.2.2.2.1 0), ()), ())
          else some ((false, ()), ())
        else some ((false, ()), ())
      else some ((false, ()), ())
    else
    bif (iEq a0.1 3) then
      (spec_l01SameVec a0.2.1 ((0, 0, 0, ()) : (Vec 3 Nat))).bind fun y767 =>
      bif y767.1.1 then
        (spec_l01Same a0.2.2.2.2.1 (0 : Nat)).bind fun y768 =>
        bif y768.1.1 then
          some (((iEq a0.2.2.2.1 0), ()), ())
        else some ((false, ()), ())
      else some ((false, ()), ())
    else
    bif (iEq a0.1 4) then
      (spec_l01SameVec a0.2.1 ((0, 0, 0, ()) : (Vec 3 Nat))).bind fun y771 =>
      bif y771.1.1 then
        bif (iEq (Vec.getD 3 a0.2.2.1 0 (0 : Int)) 0 && (iEq (Vec.getD 3 a0.2.2.1 1 (0 : Int)) 0 && (iEq (Vec.getD 3 a0.2.2.1 2 (0 : Int)) 0 && true))) then
          (spec_l01Finite a0.2.2.2.2.1).bind fun y773 =>
          bif y773.1.1 then
            (spec_l00In a0.2.2.2.1 (0 : Int) (iSub .i64 a1 1)).bind fun y775 =>
            some ((y775.1.1, ()), ())
          else some ((false, ()), ())
        else some ((false, ()), ())
      else some ((false, ()), ())
    else some ((false, ()), ())
  else
  bif (iEq a0.1 1) then some ((false, ()), ()) else
  bif (iEq a0.1 2) then
    (spec_l01Vec a0.2.1).bind fun y778 =>
    bif y778.1.1 then
      (spec_l01Same a0.2.2.2.2.1 (0 : Nat)).bind fun y779 =>
      bif y779.1.1 then
        bif (iEq (Vec.getD 3 a0.2.2.1 0 (0 : Int)) 0 && (iEq (Vec.getD 3 a0.2.2.1 1 (0 : Int)) 0 && (iEq (Vec.getD 3 a0.2.2.1 2 (0 : Int)) 0 && true))) then
          some (((iEq a0.2.2.2.1 0), ()), ())
        else some ((false, ()), ())
      else some ((false, ()), ())
    else some ((false, ()), ())
  else
  bif (iEq a0.1 3) then
    (spec_l01SameVec a0.2.1 ((0, 0, 0, ()) : (Vec 3 Nat))).bind fun y783 =>
    bif y783.1.1 then
      (spec_l01Same a0.2.2.2.2.1 (0 : Nat)).bind fun y784 =>
      bif y784.1.1 then
        some (((iEq a0.2.2.2.1 0), ()), ())
      else some ((false, ()), ())
    else some ((false, ()), ())
  else
  bif (iEq a0.1 4) then
    (spec_l01SameVec a0.2.1 ((0, 0, 0, ()) : (Vec 3 Nat))).bind fun y787 =>
    bif y787.1.1 then
      bif (iEq (Vec.getD 3 a0.2.2.1 0 (0 : Int)) 0 && (iEq (Vec.getD 3 a0.2.2.1 1 (0 : Int)) 0 && (iEq (Vec.getD 3 a0.2.2.1 2 (0 : Int)) 0 && true))) then
        (spec_l01Finite a0.2.2.2.2.1).bind fun y789 =>
        bif y789.1.1 then
          (spec_l00In a0.2.2.2.1 (0 : Int) (iSub .i64 a1 1)).bind fun y791 =>
          some ((y791.1.1, ()), ())
        else some ((false, ()), ())
      else some ((false, ()), ())
    else some ((false, ()), ())
  else some ((false, ()), ())
noncomputable def spec_l08Entry_sg : Sig := ⟨[.ro (.pair (.int .i64) (.pair (.arr 3 (.flt .f32)) (.pair (.arr 3 (.int .i16)) (.pair (.int .i64) (.pair (.flt .f32) (.unit)))))), .v (.int .i64)], [.v (.val (.bool))], false⟩
noncomputable def spec_l08Entry_en : Entry := ⟨spec_l08Entry_sg, fun x => spec_l08Entry x.1 x.2.1⟩
theorem spec_l08Entry_eq {G : List (Nat × Obj)} (x : spec_l08Entry_sg.dom) : body (env G [(52, spec_l00In_en), (69, spec_l01SameVec_en), (124, spec_l01Finite_en), (129, spec_l01Same_en), (134, spec_l01Vec_en)]) [] Tryz.f143 spec_l08Entry_sg x = spec_l08Entry x.1 x.2.1 := by kernel_rfl
theorem spec_l08Entry_so {G : List (Nat × Obj)} : Sound Tryz.prog G 143 spec_l08Entry_en := sound_of_body (envS (l := [(52, spec_l00In_en), (69, spec_l01SameVec_en), (124, spec_l01Finite_en), (129, spec_l01Same_en), (134, spec_l01Vec_en)]) (⟨(spec_l00In_so), (spec_l01SameVec_so), (spec_l01Finite_so), (spec_l01Same_so), (spec_l01Vec_so), trivial⟩)) Tryz.func143 (by kernel_rfl) rfl (fun x y h => (spec_l08Entry_eq (G := G) x).trans h)

-- loop.example/g01204/spec.l08Frame
noncomputable def spec_l08Frame_l4 (a2 : (List (Vec 3 Nat))) (s827 : (Int × Unit)) : Option ((Int × Unit) ⊕ ((Bool × Unit) × Unit)) :=
  bif (iLt s827.1 (lenI a2)) then
    bif inB s827.1 (List.length a2) then
      (spec_l01Vec (List.getD a2 s827.1.toNat ((0, 0, 0, ()) : (Vec 3 Nat)))).bind fun y830 =>
      bif (! y830.1.1) then
        Option.map Sum.inr (some ((false, ()), ()))
      else
      some (Sum.inl ((iAdd .i64 s827.1 1), ()))
    else none
  else
  Option.map Sum.inr (some ((true, ()), ()))
noncomputable def spec_l08Frame (a0 : Int) (a1 : (Vec 3 Nat)) (a2 : (List (Vec 3 Nat))) : Option ((Bool × Unit) × Unit) :=
  (spec_l00In a0 (1 : Int) (64 : Int)).bind fun y822 =>
  bif (! y822.1.1) then some ((false, ()), ()) else
  (spec_l01Vec a1).bind fun y824 =>
  bif (! y824.1.1) then some ((false, ()), ()) else
  bif (iLt 6 (lenI a2)) then some ((false, ()), ()) else run (spec_l08Frame_l4 a2) ((0 : Int), ())
noncomputable def spec_l08Frame_sg : Sig := ⟨[.v (.int .i64), .v (.arr 3 (.flt .f32)), .v (.list (.arr 3 (.flt .f32)))], [.v (.val (.bool))], false⟩
noncomputable def spec_l08Frame_en : Entry := ⟨spec_l08Frame_sg, fun x => spec_l08Frame x.1 x.2.1 x.2.2.1⟩
theorem spec_l08Frame_eq {G : List (Nat × Obj)} (x : spec_l08Frame_sg.dom) : body (env G [(52, spec_l00In_en), (134, spec_l01Vec_en)]) [(4, .vary [(7, .sc (.int .i64))])] Tryz.f133 spec_l08Frame_sg x = spec_l08Frame x.1 x.2.1 x.2.2.1 := by kernel_rfl
theorem spec_l08Frame_so {G : List (Nat × Obj)} : Sound Tryz.prog G 133 spec_l08Frame_en := sound_of_body (envS (l := [(52, spec_l00In_en), (134, spec_l01Vec_en)]) (⟨(spec_l00In_so), (spec_l01Vec_so), trivial⟩)) Tryz.func133 (by kernel_rfl) rfl (fun x y h => (spec_l08Frame_eq (G := G) x).trans h)

-- loop.example/g01204/spec.l08Log
noncomputable def spec_l08Log_l4 (a0 : (Int × ((Vec 3 Nat) × ((List (Vec 3 Nat)) × ((List (Int × ((Vec 3 Nat) × ((Vec 3 Int) × (Int × (Nat × Unit)))))) × Unit))))) (s735 : (Int × Unit)) : Option ((Int × Unit) ⊕ ((Bool × Unit) × Unit)) :=
  bif (iLt s735.1 (lenI a0.2.2.2.1)) then
    bif inB s735.1 (List.length a0.2.2.2.1) then
      (spec_l08Entry (List.getD a0.2.2.2.1 s735.1.toNat ((0, (0, 0, 0, ()), (0, 0, 0, ()), 0, 0, ()) : (Int × ((Vec 3 Nat) × ((Vec 3 Int) × (Int × (Nat × Unit))))))) (lenI a0.2.2.1)).bind fun y737 =>
      bif (! y737.1.1) then
        Option.map Sum.inr (some ((false, ()), ()))
      else
      some (Sum.inl ((iAdd .i64 s735.1 1), ()))
    else none
  else
  Option.map Sum.inr (some ((true, ()), ()))
noncomputable def spec_l08Log (a0 : (Int × ((Vec 3 Nat) × ((List (Vec 3 Nat)) × ((List (Int × ((Vec 3 Nat) × ((Vec 3 Int) × (Int × (Nat × Unit)))))) × Unit))))) : Option ((Bool × Unit) × Unit) :=
  (spec_l08Frame a0.1 a0.2.1 a0.2.2.1).bind fun y732 =>
  bif (! y732.1.1) then some ((false, ()), ()) else
  bif (iLt 1200 (lenI a0.2.2.2.1)) then some ((false, ()), ()) else run (spec_l08Log_l4 a0) ((0 : Int), ())
noncomputable def spec_l08Log_sg : Sig := ⟨[.ro (.pair (.int .i64) (.pair (.arr 3 (.flt .f32)) (.pair (.list (.arr 3 (.flt .f32))) (.pair (.list (.pair (.int .i64) (.pair (.arr 3 (.flt .f32)) (.pair (.arr 3 (.int .i16)) (.pair (.int .i64) (.pair (.flt .f32) (.unit))))))) (.unit)))))], [.v (.val (.bool))], false⟩
noncomputable def spec_l08Log_en : Entry := ⟨spec_l08Log_sg, fun x => spec_l08Log x.1⟩
theorem spec_l08Log_eq {G : List (Nat × Obj)} (x : spec_l08Log_sg.dom) : body (env G [(133, spec_l08Frame_en), (143, spec_l08Entry_en)]) [(4, .vary [(3, .sc (.int .i64))])] Tryz.f90 spec_l08Log_sg x = spec_l08Log x.1 := by kernel_rfl
theorem spec_l08Log_so {G : List (Nat × Obj)} : Sound Tryz.prog G 90 spec_l08Log_en := sound_of_body (envS (l := [(133, spec_l08Frame_en), (143, spec_l08Entry_en)]) (⟨(spec_l08Frame_so), (spec_l08Entry_so), trivial⟩)) Tryz.func90 (by kernel_rfl) rfl (fun x y h => (spec_l08Log_eq (G := G) x).trans h)

-- loop.example/g01204/spec.l08Whole
noncomputable def spec_l08Whole (a0 : List UInt8) : Option ((Int × Bool × Unit) × Unit) :=
  bif (iLt 6 (lenI a0)) then some (((0 : Int), false, ()), ()) else
  (spec_l01Number a0).bind fun y890 =>
  some ((y890.1.1, y890.1.2.1, ()), ())
noncomputable def spec_l08Whole_sg : Sig := ⟨[.v (.str)], [.v (.val (.int .i64)), .v (.val (.bool))], false⟩
noncomputable def spec_l08Whole_en : Entry := ⟨spec_l08Whole_sg, fun x => spec_l08Whole x.1⟩
theorem spec_l08Whole_eq {G : List (Nat × Obj)} (x : spec_l08Whole_sg.dom) : body (env G [(86, spec_l01Number_en)]) [] Tryz.f176 spec_l08Whole_sg x = spec_l08Whole x.1 := by kernel_rfl
theorem spec_l08Whole_so {G : List (Nat × Obj)} : Sound Tryz.prog G 176 spec_l08Whole_en := sound_of_body (envS (l := [(86, spec_l01Number_en)]) (⟨(spec_l01Number_so), trivial⟩)) Tryz.func176 (by kernel_rfl) rfl (fun x y h => (spec_l08Whole_eq (G := G) x).trans h)

-- loop.example/g01204/spec.l08Count
noncomputable def spec_l08Count (a0 : List UInt8) : Option ((Int × Bool × Unit) × Unit) :=
  bif (iLt 0 (lenI a0)) then
    bif inB 0 (List.length a0) then
      bif (iEq (strAt a0 0) 45) then
        bif inS 1 (lenI a0) (List.length a0) then
          (spec_l08Whole (dropL a0 1)).bind fun y865 =>
          bif (! y865.1.2.1) then some (((0 : Int), false, ()), ()) else
          bif (iLt 32767 (iMul .i64 (-1 : Int) y865.1.1)) then some (((0 : Int), false, ()), ()) else
          bif (iLt (iMul .i64 (-1 : Int) y865.1.1) (-32768 : Int)) then some (((0 : Int), false, ()), ()) else
          some (((iWrap .i16 (iMul .i64 (-1 : Int) y865.1.1)), true, ()), ())
        else none
      else
      (spec_l08Whole a0).bind fun y873 =>
      bif (! y873.1.2.1) then some (((0 : Int), false, ()), ()) else
      bif (iLt 32767 (iMul .i64 1 y873.1.1)) then some (((0 : Int), false, ()), ()) else
      bif (iLt (iMul .i64 1 y873.1.1) (-32768 : Int)) then some (((0 : Int), false, ()), ()) else
      some (((iWrap .i16 (iMul .i64 1 y873.1.1)), true, ()), ())
    else none
  else
  (spec_l08Whole a0).bind fun y881 =>
  bif (! y881.1.2.1) then some (((0 : Int), false, ()), ()) else
  bif (iLt 32767 (iMul .i64 1 y881.1.1)) then some (((0 : Int), false, ()), ()) else
  bif (iLt (iMul .i64 1 y881.1.1) (-32768 : Int)) then some (((0 : Int), false, ()), ()) else
  some (((iWrap .i16 (iMul .i64 1 y881.1.1)), true, ()), ())
noncomputable def spec_l08Count_sg : Sig := ⟨[.v (.str)], [.v (.val (.int .i16)), .v (.val (.bool))], false⟩
noncomputable def spec_l08Count_en : Entry := ⟨spec_l08Count_sg, fun x => spec_l08Count x.1⟩
theorem spec_l08Count_eq {G : List (Nat × Obj)} (x : spec_l08Count_sg.dom) : body (env G [(176, spec_l08Whole_en)]) [] Tryz.f142 spec_l08Count_sg x = spec_l08Count x.1 := by kernel_rfl
theorem spec_l08Count_so {G : List (Nat × Obj)} : Sound Tryz.prog G 142 spec_l08Count_en := sound_of_body (envS (l := [(176, spec_l08Whole_en)]) (⟨(spec_l08Whole_so), trivial⟩)) Tryz.func142 (by kernel_rfl) rfl (fun x y h => (spec_l08Count_eq (G := G) x).trans h)

-- loop.example/g01204/spec.l08Read
noncomputable def spec_l08Read (a0 : List UInt8) : Option (((Int × ((Vec 3 Nat) × ((Vec 3 Int) × (Int × (Nat × Unit))))) × Bool × Unit) × Unit) :=
  (spec_l01Split a0 (32 : Int)).bind fun y833 =>
  bif inB 0 (List.length y833.1.1) then
    let x834 := List.getD y833.1.1 0 ([] : List UInt8)
    bif (sEq x834 ([116, 105, 99, 107])) then
      some ((((1, (0, 0, 0, ()), (0, 0, 0, ()), 0, 0, ()) : (Int × ((Vec 3 Nat) × ((Vec 3 Int) × (Int × (Nat × Unit)))))), (iEq (lenI y833.1.1) 1), ()), ())
    else
    bif (sEq x834 ([109, 111, 118, 101])) then
      bif inS 1 ((List.length y833.1.1 : Nat) : Int) (List.length y833.1.1) then
        (spec_l01Numbers (List.take ((List.length y833.1.1) - 1) (List.drop 1 y833.1.1))).bind fun y838 =>
        bif (! y838.1.2.1) then some ((((0, (0, 0, 0, ()), (0, 0, 0, ()), 0, 0, ()) : (Int × ((Vec 3 Nat) × ((Vec 3 Int) × (Int × (Nat × Unit)))))), false, ()), ()) else
        bif (! (iEq (lenI y838.1.1) 3)) then some ((((0, (0, 0, 0, ()), (0, 0, 0, ()), 0, 0, ()) : (Int × ((Vec 3 Nat) × ((Vec 3 Int) × (Int × (Nat × Unit)))))), false, ()), ()) else
        bif inB 0 (List.length y838.1.1) then
          bif inB 1 (List.length y838.1.1) then
            bif inB 2 (List.length y838.1.1) then
              some ((((2, ((List.getD y838.1.1 0 (0 : Nat)), (List.getD y838.1.1 1 (0 : Nat)), (List.getD y838.1.1 2 (0 : Nat)), ()), (0, 0, 0, ()), 0, 0, ()) : (Int × ((Vec 3 Nat) × ((Vec 3 Int) × (Int × (Nat × Unit)))))), true, ()), ())
            else none
          else none
        else none
      else none
    else
    bif (sEq x834 ([102, 105, 120])) then
      bif (! (iEq (lenI y833.1.1) 4)) then some ((((0, (0, 0, 0, ()), (0, 0, 0, ()), 0, 0, ()) : (Int × ((Vec 3 Nat) × ((Vec 3 Int) × (Int × (Nat × Unit)))))), false, ()), ()) else
      bif inB 1 (List.length y833.1.1) then
        (spec_l08Count (List.getD y833.1.1 1 ([] : List UInt8))).bind fun y847 =>
        bif (! y847.1.2.1) then some ((((0, (0, 0, 0, ()), (0, 0, 0, ()), 0, 0, ()) : (Int × ((Vec 3 Nat) × ((Vec 3 Int) × (Int × (Nat × Unit)))))), false, ()), ()) else
        bif inB 2 (List.length y833.1.1) then
          (spec_l08Count (List.getD y833.1.1 2 ([] : List UInt8))).bind fun y850 =>
          bif (! y850.1.2.1) then some ((((0, (0, 0, 0, ()), (0, 0, 0, ()), 0, 0, ()) : (Int × ((Vec 3 Nat) × ((Vec 3 Int) × (Int × (Nat × Unit)))))), false, ()), ()) else
          bif inB 3 (List.length y833.1.1) then
            (spec_l08Count (List.getD y833.1.1 3 ([] : List UInt8))).bind fun y853 =>
            bif (! y853.1.2.1) then some ((((0, (0, 0, 0, ()), (0, 0, 0, ()), 0, 0, ()) : (Int × ((Vec 3 Nat) × ((Vec 3 Int) × (Int × (Nat × Unit)))))), false, ()), ()) else some ((((3, (0, 0, 0, ()), (y847.1.1, y850.1.1, y853.1.1, ()), 0, 0, ()) : (Int × ((Vec 3 Nat) × ((Vec 3 Int) × (Int × (Nat × Unit)))))), true, ()), ())
          else none
        else none
      else none
    else
    bif (sEq x834 ([114, 97, 110, 103, 101])) then
      bif (! (iEq (lenI y833.1.1) 3)) then some ((((0, (0, 0, 0, ()), (0, 0, 0, ()), 0, 0, ()) : (Int × ((Vec 3 Nat) × ((Vec 3 Int) × (Int × (Nat × Unit)))))), false, ()), ()) else
      bif inB 1 (List.length y833.1.1) then
        (spec_l01Number (List.getD y833.1.1 1 ([] : List UInt8))).bind fun y858 =>
        bif inB 2 (List.length y833.1.1) then
          (spec_l01Read (List.getD y833.1.1 2 ([] : List UInt8))).bind fun y860 =>
          bif y858.1.2.1 then some ((((4, (0, 0, 0, ()), (0, 0, 0, ()), y858.1.1, y860.1.1, ()) : (Int × ((Vec 3 Nat) × ((Vec 3 Int) × (Int × (Nat × Unit)))))), y860.1.2.1, ()), ()) else some ((((4, (0, 0, 0, ()), (0, 0, 0, ()), y858.1.1, y860.1.1, ()) : (Int × ((Vec 3 Nat) × ((Vec 3 Int) × (Int × (Nat × Unit)))))), false, ()), ())
        else none
      else none
    else some ((((0, (0, 0, 0, ()), (0, 0, 0, ()), 0, 0, ()) : (Int × ((Vec 3 Nat) × ((Vec 3 Int) × (Int × (Nat × Unit)))))), false, ()), ())
  else none
noncomputable def spec_l08Read_sg : Sig := ⟨[.v (.str)], [.v (.val (.pair (.int .i64) (.pair (.arr 3 (.flt .f32)) (.pair (.arr 3 (.int .i16)) (.pair (.int .i64) (.pair (.flt .f32) (.unit))))))), .v (.val (.bool))], false⟩
noncomputable def spec_l08Read_en : Entry := ⟨spec_l08Read_sg, fun x => spec_l08Read x.1⟩
theorem spec_l08Read_eq {G : List (Nat × Obj)} (x : spec_l08Read_sg.dom) : body (env G [(85, spec_l01Split_en), (86, spec_l01Number_en), (87, spec_l01Numbers_en), (141, spec_l01Read_en), (142, spec_l08Count_en)]) [(15, .unroll 4)] Tryz.f89 spec_l08Read_sg x = spec_l08Read x.1 := by kernel_rfl
theorem spec_l08Read_so {G : List (Nat × Obj)} : Sound Tryz.prog G 89 spec_l08Read_en := sound_of_body (envS (l := [(85, spec_l01Split_en), (86, spec_l01Number_en), (87, spec_l01Numbers_en), (141, spec_l01Read_en), (142, spec_l08Count_en)]) (⟨(spec_l01Split_so), (spec_l01Number_so), (spec_l01Numbers_so), (spec_l01Read_so), (spec_l08Count_so), trivial⟩)) Tryz.func89 (by kernel_rfl) rfl (fun x y h => (spec_l08Read_eq (G := G) x).trans h)

-- loop.example/g01204/spec.Decimal
noncomputable def spec_Decimal_r (rec_ : Int → Option ((List UInt8 × Unit) × Unit)) (a0 : Int) : Option ((List UInt8 × Unit) × Unit) :=
  bif (iLe 10 a0) then
    (rec_ (iQuo .i64 a0 10)).bind fun y912 =>
    let x916 := ofBytes ([(iWrap .u8 (iAdd .i64 48 (iRem .i64 a0 10)))])
    bif strRoom y912.1.1 x916 then
      some (((strCat y912.1.1 x916), ()), ())
    else none
  else
  some (((ofBytes ([(iWrap .u8 (iAdd .i64 48 a0))])), ()), ())
noncomputable def spec_Decimal_n : Nat → Int → Option ((List UInt8 × Unit) × Unit)
  | 0 => fun _ => none
  | k + 1 => spec_Decimal_r (spec_Decimal_n k)
noncomputable def spec_Decimal : Int → Option ((List UInt8 × Unit) × Unit) := spec_Decimal_n 64
noncomputable def spec_Decimal_sg : Sig := ⟨[.v (.int .i64)], [.v (.val (.str))], false⟩
noncomputable def spec_Decimal_en : Entry := ⟨spec_Decimal_sg, fun x => spec_Decimal x.1⟩
theorem spec_Decimal_eq (rec_ : Int → Option ((List UInt8 × Unit) × Unit)) {G : List (Nat × Obj)} (x : spec_Decimal_sg.dom) : body (env G [(24, ⟨spec_Decimal_sg, fun x => rec_ x.1⟩)]) [] Tryz.f24 spec_Decimal_sg x = spec_Decimal_r rec_ x.1 := by kernel_rfl
theorem spec_Decimal_so {G : List (Nat × Obj)} : Sound Tryz.prog G 24 spec_Decimal_en := by
  have h : ∀ k, Sound Tryz.prog G 24 ⟨spec_Decimal_sg, fun x => spec_Decimal_n k x.1⟩ := by
    intro k
    induction k with
    | zero => exact ⟨rfl, fun _ _ _ _ _ _ _ _ _ _ _ h => by cases h⟩
    | succ k ih => exact sound_of_body (envS (l := [(24, ⟨spec_Decimal_sg, fun x => spec_Decimal_n k x.1⟩)]) (⟨ih, trivial⟩)) Tryz.func24 (by kernel_rfl) rfl (fun x y h => (spec_Decimal_eq (spec_Decimal_n k) (G := G) x).trans h)
  exact h 64

-- loop.example/g01204/spec.l01Hex
noncomputable def spec_l01Hex (a0 : Nat) : Option ((List UInt8 × Unit) × Unit) :=
  (spec_l01Bits a0).bind fun y934 =>
  bif (iLe 0 8 && iLe 8 8 && room ((8 : Int)).toNat 1) then
    let x935 := iRem .u32 y934.1.1 16
    bif inB x935 (List.length ([48, 49, 50, 51, 52, 53, 54, 55, 56, 57, 97, 98, 99, 100, 101, 102])) then
      bif inB 7 (List.length (List.replicate (((8 : Int)).toNat) (0 : Int))) then
        let w937 := List.set (List.replicate (((8 : Int)).toNat) (0 : Int)) 7 (strAt ([48, 49, 50, 51, 52, 53, 54, 55, 56, 57, 97, 98, 99, 100, 101, 102]) x935)
        let x938 := iQuo .u32 y934.1.1 16
        let x939 := iRem .u32 x938 16
        bif inB x939 (List.length ([48, 49, 50, 51, 52, 53, 54, 55, 56, 57, 97, 98, 99, 100, 101, 102])) then
          let x940 := strAt ([48, 49, 50, 51, 52, 53, 54, 55, 56, 57, 97, 98, 99, 100, 101, 102]) x939
          bif inB 6 (List.length w937) then
            let x941 := iQuo .u32 x938 16
            let x942 := iRem .u32 x941 16
            bif inB x942 (List.length ([48, 49, 50, 51, 52, 53, 54, 55, 56, 57, 97, 98, 99, 100, 101, 102])) then
              let x943 := strAt ([48, 49, 50, 51, 52, 53, 54, 55, 56, 57, 97, 98, 99, 100, 101, 102]) x942
              bif inB 5 (List.length (List.set w937 6 x940)) then
                let x944 := iQuo .u32 x941 16
                let x945 := iRem .u32 x944 16
                bif inB x945 (List.length ([48, 49, 50, 51, 52, 53, 54, 55, 56, 57, 97, 98, 99, 100, 101, 102])) then
                  bif inB 4 (List.length (List.set (List.set w937 6 x940) 5 x943)) then
                    let w947 := List.set (List.set (List.set w937 6 x940) 5 x943) 4 (strAt ([48, 49, 50, 51, 52, 53, 54, 55, 56, 57, 97, 98, 99, 100, 101, 102]) x945)
                    let x948 := iQuo .u32 x944 16
                    let x949 := iRem .u32 x948 16
                    bif inB x949 (List.length ([48, 49, 50, 51, 52, 53, 54, 55, 56, 57, 97, 98, 99, 100, 101, 102])) then
                      let x950 := strAt ([48, 49, 50, 51, 52, 53, 54, 55, 56, 57, 97, 98, 99, 100, 101, 102]) x949
                      bif inB 3 (List.length w947) then
                        let x951 := iQuo .u32 x948 16
                        let x952 := iRem .u32 x951 16
                        bif inB x952 (List.length ([48, 49, 50, 51, 52, 53, 54, 55, 56, 57, 97, 98, 99, 100, 101, 102])) then
                          let x953 := strAt ([48, 49, 50, 51, 52, 53, 54, 55, 56, 57, 97, 98, 99, 100, 101, 102]) x952
                          bif inB 2 (List.length (List.set w947 3 x950)) then
                            let x954 := iQuo .u32 x951 16
                            let x955 := iRem .u32 x954 16
                            bif inB x955 (List.length ([48, 49, 50, 51, 52, 53, 54, 55, 56, 57, 97, 98, 99, 100, 101, 102])) then
                              bif inB 1 (List.length (List.set (List.set w947 3 x950) 2 x953)) then
                                let w957 := List.set (List.set (List.set w947 3 x950) 2 x953) 1 (strAt ([48, 49, 50, 51, 52, 53, 54, 55, 56, 57, 97, 98, 99, 100, 101, 102]) x955)
                                let x959 := iRem .u32 (iQuo .u32 x954 16) 16
                                bif inB x959 (List.length ([48, 49, 50, 51, 52, 53, 54, 55, 56, 57, 97, 98, 99, 100, 101, 102])) then
                                  bif inB 0 (List.length w957) then
                                    some (((ofBytes (List.set w957 0 (strAt ([48, 49, 50, 51, 52, 53, 54, 55, 56, 57, 97, 98, 99, 100, 101, 102]) x959))), ()), ())
                                  else none
                                else none
                              else none
                            else none
                          else none
                        else none
                      else none
                    else none
                  else none
                else none
              else none
            else none
          else none
        else none
      else none
    else none
  else none
noncomputable def spec_l01Hex_sg : Sig := ⟨[.v (.flt .f32)], [.v (.val (.str))], false⟩
noncomputable def spec_l01Hex_en : Entry := ⟨spec_l01Hex_sg, fun x => spec_l01Hex x.1⟩
theorem spec_l01Hex_eq {G : List (Nat × Obj)} (x : spec_l01Hex_sg.dom) : body (env G [(175, spec_l01Bits_en)]) [(4, .unroll 9)] Tryz.f179 spec_l01Hex_sg x = spec_l01Hex x.1 := by kernel_rfl
theorem spec_l01Hex_so {G : List (Nat × Obj)} : Sound Tryz.prog G 179 spec_l01Hex_en := sound_of_body (envS (l := [(175, spec_l01Bits_en)]) (⟨(spec_l01Bits_so), trivial⟩)) Tryz.func179 (by kernel_rfl) rfl (fun x y h => (spec_l01Hex_eq (G := G) x).trans h)

-- loop.example/g01204/spec.l01Row
noncomputable def spec_l01Row_l3 (a0 : (List Nat)) (s922 : (List UInt8 × Int × Unit)) : Option ((List UInt8 × Int × Unit) ⊕ ((List UInt8 × Unit) × Unit)) :=
  bif (iLt s922.2.1 (lenI a0)) then
    bif (iLt 0 s922.2.1) then
      bif strRoom s922.1 ([32]) then
        let x925 := strCat s922.1 ([32])
        bif inB s922.2.1 (List.length a0) then
          (spec_l01Hex (List.getD a0 s922.2.1.toNat (0 : Nat))).bind fun y927 =>
          bif strRoom x925 y927.1.1 then
            some (Sum.inl ((strCat x925 y927.1.1), (iAdd .i64 s922.2.1 1), ()))
          else none
        else none
      else none
    else
    bif inB s922.2.1 (List.length a0) then
      (spec_l01Hex (List.getD a0 s922.2.1.toNat (0 : Nat))).bind fun y931 =>
      bif strRoom s922.1 y931.1.1 then
        some (Sum.inl ((strCat s922.1 y931.1.1), (iAdd .i64 s922.2.1 1), ()))
      else none
    else none
  else
  Option.map Sum.inr (some ((s922.1, ()), ()))
noncomputable def spec_l01Row (a0 : (List Nat)) : Option ((List UInt8 × Unit) × Unit) :=
  run (spec_l01Row_l3 a0) (([] : List UInt8), (0 : Int), ())
noncomputable def spec_l01Row_sg : Sig := ⟨[.v (.list (.flt .f32))], [.v (.val (.str))], false⟩
noncomputable def spec_l01Row_en : Entry := ⟨spec_l01Row_sg, fun x => spec_l01Row x.1⟩
theorem spec_l01Row_eq {G : List (Nat × Obj)} (x : spec_l01Row_sg.dom) : body (env G [(179, spec_l01Hex_en)]) [(3, .vary [(3, .sc (.str)), (4, .sc (.int .i64))])] Tryz.f177 spec_l01Row_sg x = spec_l01Row x.1 := by kernel_rfl
theorem spec_l01Row_so {G : List (Nat × Obj)} : Sound Tryz.prog G 177 spec_l01Row_en := sound_of_body (envS (l := [(179, spec_l01Hex_en)]) (⟨(spec_l01Hex_so), trivial⟩)) Tryz.func177 (by kernel_rfl) rfl (fun x y h => (spec_l01Row_eq (G := G) x).trans h)

-- loop.example/g01204/spec.VecText
noncomputable def spec_VecText (a0 : (Vec 3 Nat)) : Option ((List UInt8 × Unit) × Unit) :=
  (spec_l01Row ([Vec.getD 3 a0 0 (0 : Nat), Vec.getD 3 a0 1 (0 : Nat), Vec.getD 3 a0 2 (0 : Nat)] : (List Nat))).bind fun y921 =>
  some ((y921.1.1, ()), ())
noncomputable def spec_VecText_sg : Sig := ⟨[.v (.arr 3 (.flt .f32))], [.v (.val (.str))], false⟩
noncomputable def spec_VecText_en : Entry := ⟨spec_VecText_sg, fun x => spec_VecText x.1⟩
theorem spec_VecText_eq {G : List (Nat × Obj)} (x : spec_VecText_sg.dom) : body (env G [(177, spec_l01Row_en)]) [] Tryz.f144 spec_VecText_sg x = spec_VecText x.1 := by kernel_rfl
theorem spec_VecText_so {G : List (Nat × Obj)} : Sound Tryz.prog G 144 spec_VecText_en := sound_of_body (envS (l := [(177, spec_l01Row_en)]) (⟨(spec_l01Row_so), trivial⟩)) Tryz.func144 (by kernel_rfl) rfl (fun x y h => (spec_VecText_eq (G := G) x).trans h)

-- loop.example/g01204/spec.l08Signed
noncomputable def spec_l08Signed (a0 : Int) : Option ((List UInt8 × Unit) × Unit) :=
  bif (iLt a0 0) then
    (spec_Decimal (iSub .i64 0 a0)).bind fun y992 =>
    bif strRoom ([45]) y992.1.1 then
      some (((strCat ([45]) y992.1.1), ()), ())
    else none
  else
  (spec_Decimal a0).bind fun y994 =>
  some ((y994.1.1, ()), ())
noncomputable def spec_l08Signed_sg : Sig := ⟨[.v (.int .i64)], [.v (.val (.str))], false⟩
noncomputable def spec_l08Signed_en : Entry := ⟨spec_l08Signed_sg, fun x => spec_l08Signed x.1⟩
theorem spec_l08Signed_eq {G : List (Nat × Obj)} (x : spec_l08Signed_sg.dom) : body (env G [(24, spec_Decimal_en)]) [] Tryz.f178 spec_l08Signed_sg x = spec_l08Signed x.1 := by kernel_rfl
theorem spec_l08Signed_so {G : List (Nat × Obj)} : Sound Tryz.prog G 178 spec_l08Signed_en := sound_of_body (envS (l := [(24, spec_Decimal_en)]) (⟨(spec_Decimal_so), trivial⟩)) Tryz.func178 (by kernel_rfl) rfl (fun x y h => (spec_l08Signed_eq (G := G) x).trans h)

-- loop.example/g01204/spec.l08Line
noncomputable def spec_l08Line (a0 : (Int × ((Vec 3 Nat) × ((Vec 3 Int) × (Int × (Nat × Unit)))))) : Option ((List UInt8 × Unit) × Unit) :=
  bif (iEq a0.1 1) then some ((([116, 105, 99, 107, 10] : List UInt8), ()), ()) else
  bif (iEq a0.1 2) then
    (spec_VecText a0.2.1).bind fun y965 =>
    bif strRoom ([109, 111, 118, 101, 32]) y965.1.1 then
      let x966 := strCat ([109, 111, 118, 101, 32]) y965.1.1
      bif strRoom x966 ([10]) then
        some (((strCat x966 ([10])), ()), ())
      else none
    else none
  else
  bif (iEq a0.1 3) then
    (spec_l08Signed (iWrap .i64 (Vec.getD 3 a0.2.2.1 0 (0 : Int)))).bind fun y971 =>
    bif strRoom ([102, 105, 120, 32]) y971.1.1 then
      let x972 := strCat ([102, 105, 120, 32]) y971.1.1
      bif strRoom x972 ([32]) then
        let x973 := strCat x972 ([32])
        (spec_l08Signed (iWrap .i64 (Vec.getD 3 a0.2.2.1 1 (0 : Int)))).bind fun y976 =>
        bif strRoom x973 y976.1.1 then
          let x977 := strCat x973 y976.1.1
          bif strRoom x977 ([32]) then
            let x978 := strCat x977 ([32])
            (spec_l08Signed (iWrap .i64 (Vec.getD 3 a0.2.2.1 2 (0 : Int)))).bind fun y981 =>
            bif strRoom x978 y981.1.1 then
              let x982 := strCat x978 y981.1.1
              bif strRoom x982 ([10]) then
                some (((strCat x982 ([10])), ()), ())
              else none
            else none
          else none
        else none
      else none
    else none
  else
  (spec_Decimal a0.2.2.2.1).bind fun y984 =>
  bif strRoom ([114, 97, 110, 103, 101, 32]) y984.1.1 then
    let x985 := strCat ([114, 97, 110, 103, 101, 32]) y984.1.1
    bif strRoom x985 ([32]) then
      let x986 := strCat x985 ([32])
      (spec_l01Hex a0.2.2.2.2.1).bind fun y987 =>
      bif strRoom x986 y987.1.1 then
        let x988 := strCat x986 y987.1.1
        bif strRoom x988 ([10]) then
          some (((strCat x988 ([10])), ()), ())
        else none
      else none
    else none
  else none
noncomputable def spec_l08Line_sg : Sig := ⟨[.ro (.pair (.int .i64) (.pair (.arr 3 (.flt .f32)) (.pair (.arr 3 (.int .i16)) (.pair (.int .i64) (.pair (.flt .f32) (.unit))))))], [.v (.val (.str))], false⟩
noncomputable def spec_l08Line_en : Entry := ⟨spec_l08Line_sg, fun x => spec_l08Line x.1⟩
theorem spec_l08Line_eq {G : List (Nat × Obj)} (x : spec_l08Line_sg.dom) : body (env G [(24, spec_Decimal_en), (144, spec_VecText_en), (178, spec_l08Signed_en), (179, spec_l01Hex_en)]) [] Tryz.f145 spec_l08Line_sg x = spec_l08Line x.1 := by kernel_rfl
theorem spec_l08Line_so {G : List (Nat × Obj)} : Sound Tryz.prog G 145 spec_l08Line_en := sound_of_body (envS (l := [(24, spec_Decimal_en), (144, spec_VecText_en), (178, spec_l08Signed_en), (179, spec_l01Hex_en)]) (⟨(spec_Decimal_so), (spec_VecText_so), (spec_l08Signed_so), (spec_l01Hex_so), trivial⟩)) Tryz.func145 (by kernel_rfl) rfl (fun x y h => (spec_l08Line_eq (G := G) x).trans h)

-- loop.example/g01204/spec.l08Text
noncomputable def spec_l08Text_l7 (a0 : (Int × ((Vec 3 Nat) × ((List (Vec 3 Nat)) × ((List (Int × ((Vec 3 Nat) × ((Vec 3 Int) × (Int × (Nat × Unit)))))) × Unit))))) (s905 : (List UInt8 × Int × Unit)) : Option ((List UInt8 × Int × Unit) ⊕ ((List UInt8 × Unit) × Unit)) :=
  bif (iLt s905.2.1 (lenI a0.2.2.2.1)) then
    bif inB s905.2.1 (List.length a0.2.2.2.1) then
      (spec_l08Line (List.getD a0.2.2.2.1 s905.2.1.toNat ((0, (0, 0, 0, ()), (0, 0, 0, ()), 0, 0, ()) : (Int × ((Vec 3 Nat) × ((Vec 3 Int) × (Int × (Nat × Unit)))))))).bind fun y907 =>
      bif strRoom s905.1 y907.1.1 then
        some (Sum.inl ((strCat s905.1 y907.1.1), (iAdd .i64 s905.2.1 1), ()))
      else none
    else none
  else
  Option.map Sum.inr (some ((s905.1, ()), ()))
noncomputable def spec_l08Text_l3 (a0 : (Int × ((Vec 3 Nat) × ((List (Vec 3 Nat)) × ((List (Int × ((Vec 3 Nat) × ((Vec 3 Int) × (Int × (Nat × Unit)))))) × Unit))))) (s897 : (List UInt8 × Int × Unit)) : Option ((List UInt8 × Int × Unit) ⊕ ((List UInt8 × Unit) × Unit)) :=
  bif (iLt s897.2.1 (lenI a0.2.2.1)) then
    bif inB s897.2.1 (List.length a0.2.2.1) then
      (spec_VecText (List.getD a0.2.2.1 s897.2.1.toNat ((0, 0, 0, ()) : (Vec 3 Nat)))).bind fun y900 =>
      bif strRoom ([98, 101, 97, 99, 111, 110, 32]) y900.1.1 then
        let x901 := strCat ([98, 101, 97, 99, 111, 110, 32]) y900.1.1
        bif strRoom x901 ([10]) then
          let x902 := strCat x901 ([10])
          bif strRoom s897.1 x902 then
            some (Sum.inl ((strCat s897.1 x902), (iAdd .i64 s897.2.1 1), ()))
          else none
        else none
      else none
    else none
  else
  Option.map Sum.inr (run (spec_l08Text_l7 a0) (s897.1, (0 : Int), ()))
noncomputable def spec_l08Text (a0 : (Int × ((Vec 3 Nat) × ((List (Vec 3 Nat)) × ((List (Int × ((Vec 3 Nat) × ((Vec 3 Int) × (Int × (Nat × Unit)))))) × Unit))))) : Option ((List UInt8 × Unit) × Unit) :=
  (spec_Decimal a0.1).bind fun y891 =>
  bif strRoom ([108, 111, 103, 32]) y891.1.1 then
    let x892 := strCat ([108, 111, 103, 32]) y891.1.1
    bif strRoom x892 ([32]) then
      let x893 := strCat x892 ([32])
      (spec_VecText a0.2.1).bind fun y894 =>
      bif strRoom x893 y894.1.1 then
        let x895 := strCat x893 y894.1.1
        bif strRoom x895 ([10]) then
          run (spec_l08Text_l3 a0) ((strCat x895 ([10])), (0 : Int), ())
        else none
      else none
    else none
  else none
noncomputable def spec_l08Text_sg : Sig := ⟨[.ro (.pair (.int .i64) (.pair (.arr 3 (.flt .f32)) (.pair (.list (.arr 3 (.flt .f32))) (.pair (.list (.pair (.int .i64) (.pair (.arr 3 (.flt .f32)) (.pair (.arr 3 (.int .i16)) (.pair (.int .i64) (.pair (.flt .f32) (.unit))))))) (.unit)))))], [.v (.val (.str))], false⟩
noncomputable def spec_l08Text_en : Entry := ⟨spec_l08Text_sg, fun x => spec_l08Text x.1⟩
theorem spec_l08Text_eq {G : List (Nat × Obj)} (x : spec_l08Text_sg.dom) : body (env G [(24, spec_Decimal_en), (144, spec_VecText_en), (145, spec_l08Line_en)]) [(3, .vary [(3, .sc (.str)), (4, .sc (.int .i64))]), (7, .vary [(3, .sc (.str)), (5, .sc (.int .i64))])] Tryz.f91 spec_l08Text_sg x = spec_l08Text x.1 := by kernel_rfl
theorem spec_l08Text_so {G : List (Nat × Obj)} : Sound Tryz.prog G 91 spec_l08Text_en := sound_of_body (envS (l := [(24, spec_Decimal_en), (144, spec_VecText_en), (145, spec_l08Line_en)]) (⟨(spec_Decimal_so), (spec_VecText_so), (spec_l08Line_so), trivial⟩)) Tryz.func91 (by kernel_rfl) rfl (fun x y h => (spec_l08Text_eq (G := G) x).trans h)

-- loop.example/g01204/spec.ReadLog
noncomputable def spec_ReadLog_l17 (y541 : (((List (List UInt8)) × Unit) × Unit)) (a0 : List UInt8) (s593 : (Int × (Int × ((Vec 3 Nat) × ((List (Vec 3 Nat)) × ((List (Int × ((Vec 3 Nat) × ((Vec 3 Int) × (Int × (Nat × Unit)))))) × Unit)))) × Unit)) : Option ((Int × (Int × ((Vec 3 Nat) × ((List (Vec 3 Nat)) × ((List (Int × ((Vec 3 Nat) × ((Vec 3 Int) × (Int × (Nat × Unit)))))) × Unit)))) × Unit) ⊕ (((Int × ((Vec 3 Nat) × ((List (Vec 3 Nat)) × ((List (Int × ((Vec 3 Nat) × ((Vec 3 Int) × (Int × (Nat × Unit)))))) × Unit)))) × Int × Unit) × Unit)) :=
  bif (iLt (iAdd .i64 s593.1 1) (lenI y541.1.1)) then
    bif inB s593.1 (List.length y541.1.1) then
      (spec_l08Read (List.getD y541.1.1 s593.1.toNat ([] : List UInt8))).bind fun y597 =>
      bif (! y597.1.2.1) then
        Option.map Sum.inr (some ((((0, (0, 0, 0, ()), [], [], ()) : (Int × ((Vec 3 Nat) × ((List (Vec 3 Nat)) × ((List (Int × ((Vec 3 Nat) × ((Vec 3 Int) × (Int × (Nat × Unit)))))) × Unit))))), (5 : Int), ()), ()))
      else
      bif room (List.length s593.2.1.2.2.2.1 + 1) 48 then
        some (Sum.inl ((iAdd .i64 s593.1 1), ((s593.2.1.1, s593.2.1.2.1, s593.2.1.2.2.1, (s593.2.1.2.2.2.1 ++ ([y597.1.1] : (List (Int × ((Vec 3 Nat) × ((Vec 3 Int) × (Int × (Nat × Unit)))))))), s593.2.1.2.2.2.2) : (Int × ((Vec 3 Nat) × ((List (Vec 3 Nat)) × ((List (Int × ((Vec 3 Nat) × ((Vec 3 Int) × (Int × (Nat × Unit)))))) × Unit))))), ()))
      else none
    else none
  else
  Option.map Sum.inr (
    (spec_l08Log ((s593.2.1.1, s593.2.1.2.1, s593.2.1.2.2.1, s593.2.1.2.2.2.1, s593.2.1.2.2.2.2) : (Int × ((Vec 3 Nat) × ((List (Vec 3 Nat)) × ((List (Int × ((Vec 3 Nat) × ((Vec 3 Int) × (Int × (Nat × Unit)))))) × Unit)))))).bind fun y601 =>
    bif (! y601.1.1) then some ((((0, (0, 0, 0, ()), [], [], ()) : (Int × ((Vec 3 Nat) × ((List (Vec 3 Nat)) × ((List (Int × ((Vec 3 Nat) × ((Vec 3 Int) × (Int × (Nat × Unit)))))) × Unit))))), (5 : Int), ()), ()) else
    (spec_l08Text ((s593.2.1.1, s593.2.1.2.1, s593.2.1.2.2.1, s593.2.1.2.2.2.1, s593.2.1.2.2.2.2) : (Int × ((Vec 3 Nat) × ((List (Vec 3 Nat)) × ((List (Int × ((Vec 3 Nat) × ((Vec 3 Int) × (Int × (Nat × Unit)))))) × Unit)))))).bind fun y603 =>
    bif (! (sEq y603.1.1 a0)) then some ((((0, (0, 0, 0, ()), [], [], ()) : (Int × ((Vec 3 Nat) × ((List (Vec 3 Nat)) × ((List (Int × ((Vec 3 Nat) × ((Vec 3 Int) × (Int × (Nat × Unit)))))) × Unit))))), (5 : Int), ()), ()) else
    some ((((s593.2.1.1, s593.2.1.2.1, s593.2.1.2.2.1, s593.2.1.2.2.2.1, s593.2.1.2.2.2.2) : (Int × ((Vec 3 Nat) × ((List (Vec 3 Nat)) × ((List (Int × ((Vec 3 Nat) × ((Vec 3 Int) × (Int × (Nat × Unit)))))) × Unit))))), (0 : Int), ()), ()))
noncomputable def spec_ReadLog_l17_2 (y541 : (((List (List UInt8)) × Unit) × Unit)) (a0 : List UInt8) (s613 : (Int × (Int × ((Vec 3 Nat) × ((List (Vec 3 Nat)) × ((List (Int × ((Vec 3 Nat) × ((Vec 3 Int) × (Int × (Nat × Unit)))))) × Unit)))) × Unit)) : Option ((Int × (Int × ((Vec 3 Nat) × ((List (Vec 3 Nat)) × ((List (Int × ((Vec 3 Nat) × ((Vec 3 Int) × (Int × (Nat × Unit)))))) × Unit)))) × Unit) ⊕ (((Int × ((Vec 3 Nat) × ((List (Vec 3 Nat)) × ((List (Int × ((Vec 3 Nat) × ((Vec 3 Int) × (Int × (Nat × Unit)))))) × Unit)))) × Int × Unit) × Unit)) :=
  bif (iLt (iAdd .i64 s613.1 1) (lenI y541.1.1)) then
    bif inB s613.1 (List.length y541.1.1) then
      (spec_l08Read (List.getD y541.1.1 s613.1.toNat ([] : List UInt8))).bind fun y617 =>
      bif (! y617.1.2.1) then
        Option.map Sum.inr (some ((((0, (0, 0, 0, ()), [], [], ()) : (Int × ((Vec 3 Nat) × ((List (Vec 3 Nat)) × ((List (Int × ((Vec 3 Nat) × ((Vec 3 Int) × (Int × (Nat × Unit)))))) × Unit))))), (5 : Int), ()), ()))
      else
      bif room (List.length s613.2.1.2.2.2.1 + 1) 48 then
        some (Sum.inl ((iAdd .i64 s613.1 1), ((s613.2.1.1, s613.2.1.2.1, s613.2.1.2.2.1, (s613.2.1.2.2.2.1 ++ ([y617.1.1] : (List (Int × ((Vec 3 Nat) × ((Vec 3 Int) × (Int × (Nat × Unit)))))))), s613.2.1.2.2.2.2) : (Int × ((Vec 3 Nat) × ((List (Vec 3 Nat)) × ((List (Int × ((Vec 3 Nat) × ((Vec 3 Int) × (Int × (Nat × Unit)))))) × Unit))))), ()))
      else none
    else none
  else
  Option.map Sum.inr (
    (spec_l08Log ((s613.2.1.1, s613.2.1.2.1, s613.2.1.2.2.1, s613.2.1.2.2.2.1, s613.2.1.2.2.2.2) : (Int × ((Vec 3 Nat) × ((List (Vec 3 Nat)) × ((List (Int × ((Vec 3 Nat) × ((Vec 3 Int) × (Int × (Nat × Unit)))))) × Unit)))))).bind fun y621 =>
    bif (! y621.1.1) then some ((((0, (0, 0, 0, ()), [], [], ()) : (Int × ((Vec 3 Nat) × ((List (Vec 3 Nat)) × ((List (Int × ((Vec 3 Nat) × ((Vec 3 Int) × (Int × (Nat × Unit)))))) × Unit))))), (5 : Int), ()), ()) else
    (spec_l08Text ((s613.2.1.1, s613.2.1.2.1, s613.2.1.2.2.1, s613.2.1.2.2.2.1, s613.2.1.2.2.2.2) : (Int × ((Vec 3 Nat) × ((List (Vec 3 Nat)) × ((List (Int × ((Vec 3 Nat) × ((Vec 3 Int) × (Int × (Nat × Unit)))))) × Unit)))))).bind fun y623 =>
    bif (! (sEq y623.1.1 a0)) then some ((((0, (0, 0, 0, ()), [], [], ()) : (Int × ((Vec 3 Nat) × ((List (Vec 3 Nat)) × ((List (Int × ((Vec 3 Nat) × ((Vec 3 Int) × (Int × (Nat × Unit)))))) × Unit))))), (5 : Int), ()), ()) else
    some ((((s613.2.1.1, s613.2.1.2.1, s613.2.1.2.2.1, s613.2.1.2.2.2.1, s613.2.1.2.2.2.2) : (Int × ((Vec 3 Nat) × ((List (Vec 3 Nat)) × ((List (Int × ((Vec 3 Nat) × ((Vec 3 Int) × (Int × (Nat × Unit)))))) × Unit))))), (0 : Int), ()), ()))
noncomputable def spec_ReadLog_l17_3 (y541 : (((List (List UInt8)) × Unit) × Unit)) (a0 : List UInt8) (s633 : (Int × (Int × ((Vec 3 Nat) × ((List (Vec 3 Nat)) × ((List (Int × ((Vec 3 Nat) × ((Vec 3 Int) × (Int × (Nat × Unit)))))) × Unit)))) × Unit)) : Option ((Int × (Int × ((Vec 3 Nat) × ((List (Vec 3 Nat)) × ((List (Int × ((Vec 3 Nat) × ((Vec 3 Int) × (Int × (Nat × Unit)))))) × Unit)))) × Unit) ⊕ (((Int × ((Vec 3 Nat) × ((List (Vec 3 Nat)) × ((List (Int × ((Vec 3 Nat) × ((Vec 3 Int) × (Int × (Nat × Unit)))))) × Unit)))) × Int × Unit) × Unit)) :=
  bif (iLt (iAdd .i64 s633.1 1) (lenI y541.1.1)) then
    bif inB s633.1 (List.length y541.1.1) then
      (spec_l08Read (List.getD y541.1.1 s633.1.toNat ([] : List UInt8))).bind fun y637 =>
      bif (! y637.1.2.1) then
        Option.map Sum.inr (some ((((0, (0, 0, 0, ()), [], [], ()) : (Int × ((Vec 3 Nat) × ((List (Vec 3 Nat)) × ((List (Int × ((Vec 3 Nat) × ((Vec 3 Int) × (Int × (Nat × Unit)))))) × Unit))))), (5 : Int), ()), ()))
      else
      bif room (List.length s633.2.1.2.2.2.1 + 1) 48 then
        some (Sum.inl ((iAdd .i64 s633.1 1), ((s633.2.1.1, s633.2.1.2.1, s633.2.1.2.2.1, (s633.2.1.2.2.2.1 ++ ([y637.1.1] : (List (Int × ((Vec 3 Nat) × ((Vec 3 Int) × (Int × (Nat × Unit)))))))), s633.2.1.2.2.2.2) : (Int × ((Vec 3 Nat) × ((List (Vec 3 Nat)) × ((List (Int × ((Vec 3 Nat) × ((Vec 3 Int) × (Int × (Nat × Unit)))))) × Unit))))), ()))
      else none
    else none
  else
  Option.map Sum.inr (
    (spec_l08Log ((s633.2.1.1, s633.2.1.2.1, s633.2.1.2.2.1, s633.2.1.2.2.2.1, s633.2.1.2.2.2.2) : (Int × ((Vec 3 Nat) × ((List (Vec 3 Nat)) × ((List (Int × ((Vec 3 Nat) × ((Vec 3 Int) × (Int × (Nat × Unit)))))) × Unit)))))).bind fun y641 =>
    bif (! y641.1.1) then some ((((0, (0, 0, 0, ()), [], [], ()) : (Int × ((Vec 3 Nat) × ((List (Vec 3 Nat)) × ((List (Int × ((Vec 3 Nat) × ((Vec 3 Int) × (Int × (Nat × Unit)))))) × Unit))))), (5 : Int), ()), ()) else
    (spec_l08Text ((s633.2.1.1, s633.2.1.2.1, s633.2.1.2.2.1, s633.2.1.2.2.2.1, s633.2.1.2.2.2.2) : (Int × ((Vec 3 Nat) × ((List (Vec 3 Nat)) × ((List (Int × ((Vec 3 Nat) × ((Vec 3 Int) × (Int × (Nat × Unit)))))) × Unit)))))).bind fun y643 =>
    bif (! (sEq y643.1.1 a0)) then some ((((0, (0, 0, 0, ()), [], [], ()) : (Int × ((Vec 3 Nat) × ((List (Vec 3 Nat)) × ((List (Int × ((Vec 3 Nat) × ((Vec 3 Int) × (Int × (Nat × Unit)))))) × Unit))))), (5 : Int), ()), ()) else
    some ((((s633.2.1.1, s633.2.1.2.1, s633.2.1.2.2.1, s633.2.1.2.2.2.1, s633.2.1.2.2.2.2) : (Int × ((Vec 3 Nat) × ((List (Vec 3 Nat)) × ((List (Int × ((Vec 3 Nat) × ((Vec 3 Int) × (Int × (Nat × Unit)))))) × Unit))))), (0 : Int), ()), ()))
noncomputable def spec_ReadLog_l11 (y541 : (((List (List UInt8)) × Unit) × Unit)) (a0 : List UInt8) (s571 : (Int × (Int × ((Vec 3 Nat) × ((List (Vec 3 Nat)) × ((List (Int × ((Vec 3 Nat) × ((Vec 3 Int) × (Int × (Nat × Unit)))))) × Unit)))) × Unit)) : Option ((Int × (Int × ((Vec 3 Nat) × ((List (Vec 3 Nat)) × ((List (Int × ((Vec 3 Nat) × ((Vec 3 Int) × (Int × (Nat × Unit)))))) × Unit)))) × Unit) ⊕ (((Int × ((Vec 3 Nat) × ((List (Vec 3 Nat)) × ((List (Int × ((Vec 3 Nat) × ((Vec 3 Int) × (Int × (Nat × Unit)))))) × Unit)))) × Int × Unit) × Unit)) :=
  bif (iLt (iAdd .i64 s571.1 1) (lenI y541.1.1)) then
    bif inB s571.1 (List.length y541.1.1) then
      bif (iLt 7 (lenI (List.getD y541.1.1 s571.1.toNat ([] : List UInt8)))) then
        bif inB s571.1 (List.length y541.1.1) then
          let x576 := List.getD y541.1.1 s571.1.toNat ([] : List UInt8)
          bif inS 0 7 (List.length x576) then
            bif (sEq (takeL x576 7) ([98, 101, 97, 99, 111, 110, 32])) then
              bif inB s571.1 (List.length y541.1.1) then
                let x579 := List.getD y541.1.1 s571.1.toNat ([] : List UInt8)
                bif inS 7 (lenI x579) (List.length x579) then
                  (spec_l01ReadVec (dropL x579 7)).bind fun y581 =>
                  bif (! y581.1.2.1) then
                    Option.map Sum.inr (some ((((0, (0, 0, 0, ()), [], [], ()) : (Int × ((Vec 3 Nat) × ((List (Vec 3 Nat)) × ((List (Int × ((Vec 3 Nat) × ((Vec 3 Int) × (Int × (Nat × Unit)))))) × Unit))))), (5 : Int), ()), ()))
                  else
                  bif room (List.length s571.2.1.2.2.1 + 1) 12 then
                    some (Sum.inl ((iAdd .i64 s571.1 1), ((s571.2.1.1, s571.2.1.2.1, (s571.2.1.2.2.1 ++ ([y581.1.1] : (List (Vec 3 Nat)))), s571.2.1.2.2.2.1, s571.2.1.2.2.2.2) : (Int × ((Vec 3 Nat) × ((List (Vec 3 Nat)) × ((List (Int × ((Vec 3 Nat) × ((Vec 3 Int) × (Int × (Nat × Unit)))))) × Unit))))), ()))
                  else none
                else none
              else none
            else
            Option.map Sum.inr (run (spec_ReadLog_l17 y541 a0) (s571.1, ((s571.2.1.1, s571.2.1.2.1, s571.2.1.2.2.1, s571.2.1.2.2.2.1, s571.2.1.2.2.2.2) : (Int × ((Vec 3 Nat) × ((List (Vec 3 Nat)) × ((List (Int × ((Vec 3 Nat) × ((Vec 3 Int) × (Int × (Nat × Unit)))))) × Unit))))), ()))
          else none
        else none
      else
      Option.map Sum.inr (run (spec_ReadLog_l17_2 y541 a0) (s571.1, ((s571.2.1.1, s571.2.1.2.1, s571.2.1.2.2.1, s571.2.1.2.2.2.1, s571.2.1.2.2.2.2) : (Int × ((Vec 3 Nat) × ((List (Vec 3 Nat)) × ((List (Int × ((Vec 3 Nat) × ((Vec 3 Int) × (Int × (Nat × Unit)))))) × Unit))))), ()))
    else none
  else
  Option.map Sum.inr (run (spec_ReadLog_l17_3 y541 a0) (s571.1, ((s571.2.1.1, s571.2.1.2.1, s571.2.1.2.2.1, s571.2.1.2.2.2.1, s571.2.1.2.2.2.2) : (Int × ((Vec 3 Nat) × ((List (Vec 3 Nat)) × ((List (Int × ((Vec 3 Nat) × ((Vec 3 Int) × (Int × (Nat × Unit)))))) × Unit))))), ()))
noncomputable def spec_ReadLog (a0 : List UInt8) : Option (((Int × ((Vec 3 Nat) × ((List (Vec 3 Nat)) × ((List (Int × ((Vec 3 Nat) × ((Vec 3 Int) × (Int × (Nat × Unit)))))) × Unit)))) × Int × Unit) × Unit) :=
  (spec_l01Split a0 (10 : Int)).bind fun y541 =>
  bif inB 0 (List.length y541.1.1) then
    (spec_l01Split (List.getD y541.1.1 0 ([] : List UInt8)) (32 : Int)).bind fun y543 =>
    bif (! (iEq (lenI y543.1.1) 5)) then some ((((0, (0, 0, 0, ()), [], [], ()) : (Int × ((Vec 3 Nat) × ((List (Vec 3 Nat)) × ((List (Int × ((Vec 3 Nat) × ((Vec 3 Int) × (Int × (Nat × Unit)))))) × Unit))))), (5 : Int), ()), ()) else
    bif inB 0 (List.length y543.1.1) then
      bif (! (sEq (List.getD y543.1.1 0 ([] : List UInt8)) ([108, 111, 103]))) then some ((((0, (0, 0, 0, ()), [], [], ()) : (Int × ((Vec 3 Nat) × ((List (Vec 3 Nat)) × ((List (Int × ((Vec 3 Nat) × ((Vec 3 Int) × (Int × (Nat × Unit)))))) × Unit))))), (5 : Int), ()), ()) else
      let x547 := iSub .i64 (lenI y541.1.1) 1
      bif inB x547 (List.length y541.1.1) then
        bif (! (sEq (List.getD y541.1.1 x547.toNat ([] : List UInt8)) ([]))) then some ((((0, (0, 0, 0, ()), [], [], ()) : (Int × ((Vec 3 Nat) × ((List (Vec 3 Nat)) × ((List (Int × ((Vec 3 Nat) × ((Vec 3 Int) × (Int × (Nat × Unit)))))) × Unit))))), (5 : Int), ()), ()) else
        bif inB 1 (List.length y543.1.1) then
          (spec_l01Number (List.getD y543.1.1 1 ([] : List UInt8))).bind fun y551 =>
          bif inS 2 ((List.length y543.1.1 : Nat) : Int) (List.length y543.1.1) then
            (spec_l01Numbers (List.take ((List.length y543.1.1) - 2) (List.drop 2 y543.1.1))).bind fun y552 =>
            bif (! y551.1.2.1) then
              some ((((0, (0, 0, 0, ()), [], [], ()) : (Int × ((Vec 3 Nat) × ((List (Vec 3 Nat)) × ((List (Int × ((Vec 3 Nat) × ((Vec 3 Int) × (Int × (Nat × Unit)))))) × Unit))))), (5 : Int), ()), ())
            else
            bif (! y552.1.2.1) then
              some ((((0, (0, 0, 0, ()), [], [], ()) : (Int × ((Vec 3 Nat) × ((List (Vec 3 Nat)) × ((List (Int × ((Vec 3 Nat) × ((Vec 3 Int) × (Int × (Nat × Unit)))))) × Unit))))), (5 : Int), ()), ())
            else
            bif inB 0 (List.length y552.1.1) then
              bif inB 1 (List.length y552.1.1) then
                bif inB 2 (List.length y552.1.1) then
                  run (spec_ReadLog_l11 y541 a0) ((1 : Int), ((y551.1.1, ((List.getD y552.1.1 0 (0 : Nat)), (List.getD y552.1.1 1 (0 : Nat)), (List.getD y552.1.1 2 (0 : Nat)), ()), [], [], ()) : (Int × ((Vec 3 Nat) × ((List (Vec 3 Nat)) × ((List (Int × ((Vec 3 Nat) × ((Vec 3 Int) × (Int × (Nat × Unit)))))) × Unit))))), ())
                else none
              else none
            else none
          else none
        else none
      else none
    else none
  else none
noncomputable def spec_ReadLog_sg : Sig := ⟨[.v (.str)], [.v (.pair (.val (.int .i64)) (.pair (.val (.arr 3 (.flt .f32))) (.pair (.rows (.arr 3 (.flt .f32))) (.pair (.rows (.pair (.int .i64) (.pair (.arr 3 (.flt .f32)) (.pair (.arr 3 (.int .i16)) (.pair (.int .i64) (.pair (.flt .f32) (.unit))))))) (.val (.unit)))))), .v (.val (.int .i64))], false⟩
noncomputable def spec_ReadLog_en : Entry := ⟨spec_ReadLog_sg, fun x => spec_ReadLog x.1⟩
theorem spec_ReadLog_eq {G : List (Nat × Obj)} (x : spec_ReadLog_sg.dom) : body (env G [(85, spec_l01Split_en), (86, spec_l01Number_en), (87, spec_l01Numbers_en), (88, spec_l01ReadVec_en), (89, spec_l08Read_en), (90, spec_l08Log_en), (91, spec_l08Text_en)]) [(11, .vary [(11, .sc (.int .i64)), (10, .box (.pair (.val (.int .i64)) (.pair (.val (.arr 3 (.flt .f32))) (.pair (.rows (.arr 3 (.flt .f32))) (.pair (.rows (.pair (.int .i64) (.pair (.arr 3 (.flt .f32)) (.pair (.arr 3 (.int .i16)) (.pair (.int .i64) (.pair (.flt .f32) (.unit))))))) (.val (.unit)))))))]), (17, .vary [(11, .sc (.int .i64)), (10, .box (.pair (.val (.int .i64)) (.pair (.val (.arr 3 (.flt .f32))) (.pair (.rows (.arr 3 (.flt .f32))) (.pair (.rows (.pair (.int .i64) (.pair (.arr 3 (.flt .f32)) (.pair (.arr 3 (.int .i16)) (.pair (.int .i64) (.pair (.flt .f32) (.unit))))))) (.val (.unit)))))))])] Tryz.f33 spec_ReadLog_sg x = spec_ReadLog x.1 := by kernel_rfl
theorem spec_ReadLog_so {G : List (Nat × Obj)} : Sound Tryz.prog G 33 spec_ReadLog_en := sound_of_body (envS (l := [(85, spec_l01Split_en), (86, spec_l01Number_en), (87, spec_l01Numbers_en), (88, spec_l01ReadVec_en), (89, spec_l08Read_en), (90, spec_l08Log_en), (91, spec_l08Text_en)]) (⟨(spec_l01Split_so), (spec_l01Number_so), (spec_l01Numbers_so), (spec_l01ReadVec_so), (spec_l08Read_so), (spec_l08Log_so), (spec_l08Text_so), trivial⟩)) Tryz.func33 (by kernel_rfl) rfl (fun x y h => (spec_ReadLog_eq (G := G) x).trans h)

-- loop.example/g01204/laws.FnExactReadLog
noncomputable def laws_FnExactReadLog (a0 : List UInt8) : Option ((Bool × Unit) × Unit) :=
  bif (iLt 1048576 (lenI a0)) then some ((true, ()), ()) else
  (spec_ReadLog a0).bind fun y2 =>
  (impl_ReadLog a0).bind fun y3 =>
  (laws_eqLog ((y3.1.1.1, y3.1.1.2.1, y3.1.1.2.2.1, y3.1.1.2.2.2.1, y3.1.1.2.2.2.2) : (Int × ((Vec 3 Nat) × ((List (Vec 3 Nat)) × ((List (Int × ((Vec 3 Nat) × ((Vec 3 Int) × (Int × (Nat × Unit)))))) × Unit))))) ((y2.1.1.1, y2.1.1.2.1, y2.1.1.2.2.1, y2.1.1.2.2.2.1, y2.1.1.2.2.2.2) : (Int × ((Vec 3 Nat) × ((List (Vec 3 Nat)) × ((List (Int × ((Vec 3 Nat) × ((Vec 3 Int) × (Int × (Nat × Unit)))))) × Unit)))))).bind fun y4 =>
  bif (! y4.1.1) then some ((false, ()), ()) else
  bif (! (iEq y3.1.2.1 y2.1.2.1)) then some ((false, ()), ()) else
  (laws_markLog ((y3.1.1.1, y3.1.1.2.1, y3.1.1.2.2.1, y3.1.1.2.2.2.1, y3.1.1.2.2.2.2) : (Int × ((Vec 3 Nat) × ((List (Vec 3 Nat)) × ((List (Int × ((Vec 3 Nat) × ((Vec 3 Int) × (Int × (Nat × Unit)))))) × Unit))))) (1 : Int)).bind fun y7 =>
  (laws_heldLog ((y3.1.1.1, y3.1.1.2.1, y7.2.1.2.2.1, y7.2.1.2.2.2.1, y3.1.1.2.2.2.2) : (Int × ((Vec 3 Nat) × ((List (Vec 3 Nat)) × ((List (Int × ((Vec 3 Nat) × ((Vec 3 Int) × (Int × (Nat × Unit)))))) × Unit))))) (1 : Int)).bind fun y8 =>
  bif (iLt y8.1.1 0) then some ((false, ()), ()) else
  bif (! (iEq y8.1.1 y7.1.1)) then some ((false, ()), ()) else
  (impl_ReadLog a0).bind fun y11 =>
  (laws_eqLog ((y11.1.1.1, y11.1.1.2.1, y11.1.1.2.2.1, y11.1.1.2.2.2.1, y11.1.1.2.2.2.2) : (Int × ((Vec 3 Nat) × ((List (Vec 3 Nat)) × ((List (Int × ((Vec 3 Nat) × ((Vec 3 Int) × (Int × (Nat × Unit)))))) × Unit))))) ((y2.1.1.1, y2.1.1.2.1, y2.1.1.2.2.1, y2.1.1.2.2.2.1, y2.1.1.2.2.2.2) : (Int × ((Vec 3 Nat) × ((List (Vec 3 Nat)) × ((List (Int × ((Vec 3 Nat) × ((Vec 3 Int) × (Int × (Nat × Unit)))))) × Unit)))))).bind fun y12 =>
  bif (! y12.1.1) then some ((false, ()), ()) else
  bif (! (iEq y11.1.2.1 y2.1.2.1)) then some ((false, ()), ()) else
  (laws_heldLog ((y3.1.1.1, y3.1.1.2.1, y7.2.1.2.2.1, y7.2.1.2.2.2.1, y3.1.1.2.2.2.2) : (Int × ((Vec 3 Nat) × ((List (Vec 3 Nat)) × ((List (Int × ((Vec 3 Nat) × ((Vec 3 Int) × (Int × (Nat × Unit)))))) × Unit))))) (1 : Int)).bind fun y15 =>
  bif (iLt y15.1.1 0) then some ((false, ()), ()) else
  bif (! (iEq y15.1.1 y7.1.1)) then some ((false, ()), ()) else some ((true, ()), ())
noncomputable def laws_FnExactReadLog_sg : Sig := ⟨[.v (.str)], [.v (.val (.bool))], false⟩
noncomputable def laws_FnExactReadLog_en : Entry := ⟨laws_FnExactReadLog_sg, fun x => laws_FnExactReadLog x.1⟩
theorem laws_FnExactReadLog_eq {G : List (Nat × Obj)} (x : laws_FnExactReadLog_sg.dom) : body (env G [(33, spec_ReadLog_en), (34, impl_ReadLog_en), (35, laws_eqLog_en), (36, laws_markLog_en), (37, laws_heldLog_en)]) [] Tryz.f5 laws_FnExactReadLog_sg x = laws_FnExactReadLog x.1 := by kernel_rfl
theorem laws_FnExactReadLog_so {G : List (Nat × Obj)} (mx : GMax 1 G) (tb : GTab Tryz.prog G) (sy : GErr 2 G) (ra : GErr 3 G) (db : GDeb Tryz.prog G) : Sound Tryz.prog G 5 laws_FnExactReadLog_en := sound_of_body (envS (l := [(33, spec_ReadLog_en), (34, impl_ReadLog_en), (35, laws_eqLog_en), (36, laws_markLog_en), (37, laws_heldLog_en)]) (⟨(spec_ReadLog_so), (impl_ReadLog_so mx tb sy ra db), (laws_eqLog_so), (laws_markLog_so), (laws_heldLog_so), trivial⟩)) Tryz.func5 (by kernel_rfl) rfl (fun x y h => (laws_FnExactReadLog_eq (G := G) x).trans h)

end Go.Proofs.YtdmaamakckochaaGreatDoor
