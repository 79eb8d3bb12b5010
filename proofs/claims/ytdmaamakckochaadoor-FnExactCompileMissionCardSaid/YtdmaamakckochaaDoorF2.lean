import Derived.Test.YtdmaamakckochaaDoorF1
/- Functions on typed data: what the evaluation of each Go function is, and that it is sound. -/
namespace Go.Proofs.YtdmaamakckochaaDoor
open Go Go.Tm
set_option linter.unusedVariables false
set_option maxRecDepth 100000
-- loop.example/g01204/laws.eqMission
noncomputable def laws_eqMission (a0 : (Int × ((Vec 3 Nat) × ((List (Vec 3 Nat)) × ((List (Int × ((Vec 3 Nat) × (Int × (Int × Unit))))) × Unit))))) (a1 : (Int × ((Vec 3 Nat) × ((List (Vec 3 Nat)) × ((List (Int × ((Vec 3 Nat) × (Int × (Int × Unit))))) × Unit))))) : Option ((Bool × Unit) × Unit) :=
  bif (! (iEq a0.1 a1.1)) then some ((false, ()), ()) else
  (laws_eqVec a0.2.1 a1.2.1).bind fun y604 =>
  bif (! y604.1.1) then some ((false, ()), ()) else
  (laws_eqVecS a0.2.2.1 a1.2.2.1).bind fun y606 =>
  bif (! y606.1.1) then some ((false, ()), ()) else
  (laws_eqLegS a0.2.2.2.1 a1.2.2.2.1).bind fun y608 =>
  bif (! y608.1.1) then some ((false, ()), ()) else some ((true, ()), ())
noncomputable def laws_eqMission_sg : Sig := ⟨[.v (.pair (.int .i64) (.pair (.arr 3 (.flt .f32)) (.pair (.list (.arr 3 (.flt .f32))) (.pair (.list (.pair (.int .i64) (.pair (.arr 3 (.flt .f32)) (.pair (.int .i64) (.pair (.int .i64) (.unit)))))) (.unit))))), .v (.pair (.int .i64) (.pair (.arr 3 (.flt .f32)) (.pair (.list (.arr 3 (.flt .f32))) (.pair (.list (.pair (.int .i64) (.pair (.arr 3 (.flt .f32)) (.pair (.int .i64) (.pair (.int .i64) (.unit)))))) (.unit)))))], [.v (.val (.bool))], false⟩
noncomputable def laws_eqMission_en : Entry := ⟨laws_eqMission_sg, fun x => laws_eqMission x.1 x.2.1⟩
theorem laws_eqMission_eq {G : List (Nat × Obj)} (x : laws_eqMission_sg.dom) : body (env G [(66, laws_eqVec_en), (67, laws_eqVecS_en), (78, laws_eqLegS_en)]) [] Tryd.f30 laws_eqMission_sg x = laws_eqMission x.1 x.2.1 := by kernel_rfl
theorem laws_eqMission_so {G : List (Nat × Obj)} : Sound Tryd.prog G 30 laws_eqMission_en := sound_of_body (envS (l := [(66, laws_eqVec_en), (67, laws_eqVecS_en), (78, laws_eqLegS_en)]) (⟨(laws_eqVec_so), (laws_eqVecS_so), (laws_eqLegS_so), trivial⟩)) Tryd.func30 (by kernel_rfl) rfl (fun x y h => (laws_eqMission_eq (G := G) x).trans h)

-- loop.example/g01204/laws.heldLegS
noncomputable def laws_heldLegS_l2 (a0 : (List (Int × ((Vec 3 Nat) × (Int × (Int × Unit)))))) (s653 : (Int × Int × Unit)) : Option ((Int × Int × Unit) ⊕ ((Int × Unit) × Unit)) :=
  bif (iLt s653.2.1 (lenI a0)) then
    bif inB s653.2.1 (List.length a0) then
      bif (! (iEq ((List.getD a0 s653.2.1.toNat ((0, (0, 0, 0, ()), 0, 0, ()) : (Int × ((Vec 3 Nat) × (Int × (Int × Unit)))))).1) s653.1)) then
        Option.map Sum.inr (some ((((-1 : Int) : Int), ()), ()))
      else
      let x657 := iAdd .i64 s653.1 1
      bif inB s653.2.1 (List.length a0) then
        bif (! (fEq .f32 (Vec.getD 3 (((List.getD a0 s653.2.1.toNat ((0, (0, 0, 0, ()), 0, 0, ()) : (Int × ((Vec 3 Nat) × (Int × (Int × Unit)))))).2).1) 0 (0 : Nat)) (fOfInt .f32 x657))) then
          Option.map Sum.inr (some ((((-1 : Int) : Int), ()), ()))
        else
        let x661 := iAdd .i64 x657 1
        bif inB s653.2.1 (List.length a0) then
          bif (! (fEq .f32 (Vec.getD 3 (((List.getD a0 s653.2.1.toNat ((0, (0, 0, 0, ()), 0, 0, ()) : (Int × ((Vec 3 Nat) × (Int × (Int × Unit)))))).2).1) 1 (0 : Nat)) (fOfInt .f32 x661))) then
            Option.map Sum.inr (some ((((-1 : Int) : Int), ()), ()))
          else
          let x665 := iAdd .i64 x661 1
          bif inB s653.2.1 (List.length a0) then
            bif (! (fEq .f32 (Vec.getD 3 (((List.getD a0 s653.2.1.toNat ((0, (0, 0, 0, ()), 0, 0, ()) : (Int × ((Vec 3 Nat) × (Int × (Int × Unit)))))).2).1) 2 (0 : Nat)) (fOfInt .f32 x665))) then
              Option.map Sum.inr (some ((((-1 : Int) : Int), ()), ()))
            else
            let x669 := iAdd .i64 x665 1
            bif inB s653.2.1 (List.length a0) then
              bif (! (iEq ((((List.getD a0 s653.2.1.toNat ((0, (0, 0, 0, ()), 0, 0, ()) : (Int × ((Vec 3 Nat) × (Int × (Int × Unit)))))).2).2).1) x669)) then
                Option.map Sum.inr (some ((((-1 : Int) : Int), ()), ()))
              else
              let x672 := iAdd .i64 x669 1
              bif inB s653.2.1 (List.length a0) then
                bif (! (iEq (((((List.getD a0 s653.2.1.toNat ((0, (0, 0, 0, ()), 0, 0, ()) : (Int × ((Vec 3 Nat) × (Int × (Int × Unit)))))).2).2).2).1) x672)) then
                  Option.map Sum.inr (some ((((-1 : Int) : Int), ()), ()))
                else
                some (Sum.inl ((iAdd .i64 x672 1), (iAdd .i64 s653.2.1 1), ()))
              else none
            else none
          else none
        else none
      else none
    else none
  else
  Option.map Sum.inr (some ((s653.1, ()), ()))
noncomputable def laws_heldLegS (a0 : (List (Int × ((Vec 3 Nat) × (Int × (Int × Unit)))))) (a1 : Int) : Option ((Int × Unit) × Unit) :=
  run (laws_heldLegS_l2 a0) (a1, (0 : Int), ())
noncomputable def laws_heldLegS_sg : Sig := ⟨[.v (.list (.pair (.int .i64) (.pair (.arr 3 (.flt .f32)) (.pair (.int .i64) (.pair (.int .i64) (.unit)))))), .v (.int .i64)], [.v (.val (.int .i64))], false⟩
noncomputable def laws_heldLegS_en : Entry := ⟨laws_heldLegS_sg, fun x => laws_heldLegS x.1 x.2.1⟩
theorem laws_heldLegS_eq {G : List (Nat × Obj)} (x : laws_heldLegS_sg.dom) : body (env G []) [(2, .vary [(1, .sc (.int .i64)), (5, .sc (.int .i64))]), (8, .unroll 4)] Tryd.f82 laws_heldLegS_sg x = laws_heldLegS x.1 x.2.1 := by kernel_rfl
theorem laws_heldLegS_so {G : List (Nat × Obj)} : Sound Tryd.prog G 82 laws_heldLegS_en := sound_of_body (envS (l := []) (trivial)) Tryd.func82 (by kernel_rfl) rfl (fun x y h => (laws_heldLegS_eq (G := G) x).trans h)

-- loop.example/g01204/laws.heldVecS
noncomputable def laws_heldVecS_l2 (a0 : (List (Vec 3 Nat))) (s677 : (Int × Int × Unit)) : Option ((Int × Int × Unit) ⊕ ((Int × Unit) × Unit)) :=
  bif (iLt s677.2.1 (lenI a0)) then
    bif inB s677.2.1 (List.length a0) then
      bif (! (fEq .f32 (Vec.getD 3 (List.getD a0 s677.2.1.toNat ((0, 0, 0, ()) : (Vec 3 Nat))) 0 (0 : Nat)) (fOfInt .f32 s677.1))) then
        Option.map Sum.inr (some ((((-1 : Int) : Int), ()), ()))
      else
      let x682 := iAdd .i64 s677.1 1
      bif inB s677.2.1 (List.length a0) then
        bif (! (fEq .f32 (Vec.getD 3 (List.getD a0 s677.2.1.toNat ((0, 0, 0, ()) : (Vec 3 Nat))) 1 (0 : Nat)) (fOfInt .f32 x682))) then
          Option.map Sum.inr (some ((((-1 : Int) : Int), ()), ()))
        else
        let x686 := iAdd .i64 x682 1
        bif inB s677.2.1 (List.length a0) then
          bif (! (fEq .f32 (Vec.getD 3 (List.getD a0 s677.2.1.toNat ((0, 0, 0, ()) : (Vec 3 Nat))) 2 (0 : Nat)) (fOfInt .f32 x686))) then
            Option.map Sum.inr (some ((((-1 : Int) : Int), ()), ()))
          else
          some (Sum.inl ((iAdd .i64 x686 1), (iAdd .i64 s677.2.1 1), ()))
        else none
      else none
    else none
  else
  Option.map Sum.inr (some ((s677.1, ()), ()))
noncomputable def laws_heldVecS (a0 : (List (Vec 3 Nat))) (a1 : Int) : Option ((Int × Unit) × Unit) :=
  run (laws_heldVecS_l2 a0) (a1, (0 : Int), ())
noncomputable def laws_heldVecS_sg : Sig := ⟨[.v (.list (.arr 3 (.flt .f32))), .v (.int .i64)], [.v (.val (.int .i64))], false⟩
noncomputable def laws_heldVecS_en : Entry := ⟨laws_heldVecS_sg, fun x => laws_heldVecS x.1 x.2.1⟩
theorem laws_heldVecS_eq {G : List (Nat × Obj)} (x : laws_heldVecS_sg.dom) : body (env G []) [(2, .vary [(1, .sc (.int .i64)), (5, .sc (.int .i64))]), (5, .unroll 4)] Tryd.f81 laws_heldVecS_sg x = laws_heldVecS x.1 x.2.1 := by kernel_rfl
theorem laws_heldVecS_so {G : List (Nat × Obj)} : Sound Tryd.prog G 81 laws_heldVecS_en := sound_of_body (envS (l := []) (trivial)) Tryd.func81 (by kernel_rfl) rfl (fun x y h => (laws_heldVecS_eq (G := G) x).trans h)

-- loop.example/g01204/laws.heldMission
noncomputable def laws_heldMission (a0 : (Int × ((Vec 3 Nat) × ((List (Vec 3 Nat)) × ((List (Int × ((Vec 3 Nat) × (Int × (Int × Unit))))) × Unit))))) (a1 : Int) : Option ((Int × Unit) × Unit) :=
  (laws_heldVecS a0.2.2.1 a1).bind fun y649 =>
  bif (iLt y649.1.1 0) then some ((((-1 : Int) : Int), ()), ()) else
  (laws_heldLegS a0.2.2.2.1 y649.1.1).bind fun y651 =>
  bif (iLt y651.1.1 0) then some ((((-1 : Int) : Int), ()), ()) else some ((y651.1.1, ()), ())
noncomputable def laws_heldMission_sg : Sig := ⟨[.v (.pair (.int .i64) (.pair (.arr 3 (.flt .f32)) (.pair (.list (.arr 3 (.flt .f32))) (.pair (.list (.pair (.int .i64) (.pair (.arr 3 (.flt .f32)) (.pair (.int .i64) (.pair (.int .i64) (.unit)))))) (.unit))))), .v (.int .i64)], [.v (.val (.int .i64))], false⟩
noncomputable def laws_heldMission_en : Entry := ⟨laws_heldMission_sg, fun x => laws_heldMission x.1 x.2.1⟩
theorem laws_heldMission_eq {G : List (Nat × Obj)} (x : laws_heldMission_sg.dom) : body (env G [(81, laws_heldVecS_en), (82, laws_heldLegS_en)]) [] Tryd.f32 laws_heldMission_sg x = laws_heldMission x.1 x.2.1 := by kernel_rfl
theorem laws_heldMission_so {G : List (Nat × Obj)} : Sound Tryd.prog G 32 laws_heldMission_en := sound_of_body (envS (l := [(81, laws_heldVecS_en), (82, laws_heldLegS_en)]) (⟨(laws_heldVecS_so), (laws_heldLegS_so), trivial⟩)) Tryd.func32 (by kernel_rfl) rfl (fun x y h => (laws_heldMission_eq (G := G) x).trans h)

-- loop.example/g01204/laws.markLegS
noncomputable def laws_markLegS_l2 (s712 : (Int × Int × (List (Int × ((Vec 3 Nat) × (Int × (Int × Unit))))) × Unit)) : Option ((Int × Int × (List (Int × ((Vec 3 Nat) × (Int × (Int × Unit))))) × Unit) ⊕ ((Int × Unit) × ((List (Int × ((Vec 3 Nat) × (Int × (Int × Unit))))) × Unit))) :=
  bif (iLt s712.2.1 (lenI s712.2.2.1)) then
    bif inB s712.2.1 (List.length s712.2.2.1) then
      let w714 := List.set s712.2.2.1 s712.2.1.toNat ((s712.1, (List.getD s712.2.2.1 s712.2.1.toNat ((0, (0, 0, 0, ()), 0, 0, ()) : (Int × ((Vec 3 Nat) × (Int × (Int × Unit)))))).2) : (Int × ((Vec 3 Nat) × (Int × (Int × Unit)))))
      let x715 := iAdd .i64 s712.1 1
      bif inB s712.2.1 (List.length w714) then
        let w717 := List.set w714 s712.2.1.toNat (((List.getD w714 s712.2.1.toNat ((0, (0, 0, 0, ()), 0, 0, ()) : (Int × ((Vec 3 Nat) × (Int × (Int × Unit)))))).1, Vec.set 3 (((List.getD w714 s712.2.1.toNat ((0, (0, 0, 0, ()), 0, 0, ()) : (Int × ((Vec 3 Nat) × (Int × (Int × Unit)))))).2).1) 0 (fOfInt .f32 x715), ((List.getD w714 s712.2.1.toNat ((0, (0, 0, 0, ()), 0, 0, ()) : (Int × ((Vec 3 Nat) × (Int × (Int × Unit)))))).2).2) : (Int × ((Vec 3 Nat) × (Int × (Int × Unit)))))
        let x718 := iAdd .i64 x715 1
        bif inB s712.2.1 (List.length w717) then
          let w720 := List.set w717 s712.2.1.toNat (((List.getD w717 s712.2.1.toNat ((0, (0, 0, 0, ()), 0, 0, ()) : (Int × ((Vec 3 Nat) × (Int × (Int × Unit)))))).1, Vec.set 3 (((List.getD w717 s712.2.1.toNat ((0, (0, 0, 0, ()), 0, 0, ()) : (Int × ((Vec 3 Nat) × (Int × (Int × Unit)))))).2).1) 1 (fOfInt .f32 x718), ((List.getD w717 s712.2.1.toNat ((0, (0, 0, 0, ()), 0, 0, ()) : (Int × ((Vec 3 Nat) × (Int × (Int × Unit)))))).2).2) : (Int × ((Vec 3 Nat) × (Int × (Int × Unit)))))
          let x721 := iAdd .i64 x718 1
          bif inB s712.2.1 (List.length w720) then
            let w723 := List.set w720 s712.2.1.toNat (((List.getD w720 s712.2.1.toNat ((0, (0, 0, 0, ()), 0, 0, ()) : (Int × ((Vec 3 Nat) × (Int × (Int × Unit)))))).1, Vec.set 3 (((List.getD w720 s712.2.1.toNat ((0, (0, 0, 0, ()), 0, 0, ()) : (Int × ((Vec 3 Nat) × (Int × (Int × Unit)))))).2).1) 2 (fOfInt .f32 x721), ((List.getD w720 s712.2.1.toNat ((0, (0, 0, 0, ()), 0, 0, ()) : (Int × ((Vec 3 Nat) × (Int × (Int × Unit)))))).2).2) : (Int × ((Vec 3 Nat) × (Int × (Int × Unit)))))
            let x724 := iAdd .i64 x721 1
            bif inB s712.2.1 (List.length w723) then
              let w725 := List.set w723 s712.2.1.toNat (((List.getD w723 s712.2.1.toNat ((0, (0, 0, 0, ()), 0, 0, ()) : (Int × ((Vec 3 Nat) × (Int × (Int × Unit)))))).1, ((List.getD w723 s712.2.1.toNat ((0, (0, 0, 0, ()), 0, 0, ()) : (Int × ((Vec 3 Nat) × (Int × (Int × Unit)))))).2).1, x724, (((List.getD w723 s712.2.1.toNat ((0, (0, 0, 0, ()), 0, 0, ()) : (Int × ((Vec 3 Nat) × (Int × (Int × Unit)))))).2).2).2) : (Int × ((Vec 3 Nat) × (Int × (Int × Unit)))))
              let x726 := iAdd .i64 x724 1
              bif inB s712.2.1 (List.length w725) then
                some (Sum.inl ((iAdd .i64 x726 1), (iAdd .i64 s712.2.1 1), (List.set w725 s712.2.1.toNat (((List.getD w725 s712.2.1.toNat ((0, (0, 0, 0, ()), 0, 0, ()) : (Int × ((Vec 3 Nat) × (Int × (Int × Unit)))))).1, ((List.getD w725 s712.2.1.toNat ((0, (0, 0, 0, ()), 0, 0, ()) : (Int × ((Vec 3 Nat) × (Int × (Int × Unit)))))).2).1, (((List.getD w725 s712.2.1.toNat ((0, (0, 0, 0, ()), 0, 0, ()) : (Int × ((Vec 3 Nat) × (Int × (Int × Unit)))))).2).2).1, x726, ((((List.getD w725 s712.2.1.toNat ((0, (0, 0, 0, ()), 0, 0, ()) : (Int × ((Vec 3 Nat) × (Int × (Int × Unit)))))).2).2).2).2) : (Int × ((Vec 3 Nat) × (Int × (Int × Unit)))))), ()))
              else none
            else none
          else none
        else none
      else none
    else none
  else
  Option.map Sum.inr (some ((s712.1, ()), (s712.2.2.1, ())))
noncomputable def laws_markLegS (a0 : (List (Int × ((Vec 3 Nat) × (Int × (Int × Unit)))))) (a1 : Int) : Option ((Int × Unit) × ((List (Int × ((Vec 3 Nat) × (Int × (Int × Unit))))) × Unit)) :=
  run (laws_markLegS_l2) (a1, (0 : Int), a0, ())
noncomputable def laws_markLegS_sg : Sig := ⟨[.mv (.rows (.pair (.int .i64) (.pair (.arr 3 (.flt .f32)) (.pair (.int .i64) (.pair (.int .i64) (.unit)))))), .v (.int .i64)], [.v (.val (.int .i64))], false⟩
noncomputable def laws_markLegS_en : Entry := ⟨laws_markLegS_sg, fun x => laws_markLegS x.1 x.2.1⟩
theorem laws_markLegS_eq {G : List (Nat × Obj)} (x : laws_markLegS_sg.dom) : body (env G []) [(2, .vary [(1, .sc (.int .i64)), (5, .sc (.int .i64)), (0, .mrows (.pair (.int .i64) (.pair (.arr 3 (.flt .f32)) (.pair (.int .i64) (.pair (.int .i64) (.unit))))))]), (7, .unroll 4)] Tryd.f80 laws_markLegS_sg x = laws_markLegS x.1 x.2.1 := by kernel_rfl
theorem laws_markLegS_so {G : List (Nat × Obj)} : Sound Tryd.prog G 80 laws_markLegS_en := sound_of_body (envS (l := []) (trivial)) Tryd.func80 (by kernel_rfl) rfl (fun x y h => (laws_markLegS_eq (G := G) x).trans h)

-- loop.example/g01204/laws.markVecS
noncomputable def laws_markVecS_l2 (s742 : (Int × Int × (List (Vec 3 Nat)) × Unit)) : Option ((Int × Int × (List (Vec 3 Nat)) × Unit) ⊕ ((Int × Unit) × ((List (Vec 3 Nat)) × Unit))) :=
  bif (iLt s742.2.1 (lenI s742.2.2.1)) then
    bif inB s742.2.1 (List.length s742.2.2.1) then
      let w745 := List.set s742.2.2.1 s742.2.1.toNat (Vec.set 3 (List.getD s742.2.2.1 s742.2.1.toNat ((0, 0, 0, ()) : (Vec 3 Nat))) 0 (fOfInt .f32 s742.1))
      let x746 := iAdd .i64 s742.1 1
      bif inB s742.2.1 (List.length w745) then
        let w748 := List.set w745 s742.2.1.toNat (Vec.set 3 (List.getD w745 s742.2.1.toNat ((0, 0, 0, ()) : (Vec 3 Nat))) 1 (fOfInt .f32 x746))
        let x749 := iAdd .i64 x746 1
        bif inB s742.2.1 (List.length w748) then
          some (Sum.inl ((iAdd .i64 x749 1), (iAdd .i64 s742.2.1 1), (List.set w748 s742.2.1.toNat (Vec.set 3 (List.getD w748 s742.2.1.toNat ((0, 0, 0, ()) : (Vec 3 Nat))) 2 (fOfInt .f32 x749))), ()))
        else none
      else none
    else none
  else
  Option.map Sum.inr (some ((s742.1, ()), (s742.2.2.1, ())))
noncomputable def laws_markVecS (a0 : (List (Vec 3 Nat))) (a1 : Int) : Option ((Int × Unit) × ((List (Vec 3 Nat)) × Unit)) :=
  run (laws_markVecS_l2) (a1, (0 : Int), a0, ())
noncomputable def laws_markVecS_sg : Sig := ⟨[.mv (.rows (.arr 3 (.flt .f32))), .v (.int .i64)], [.v (.val (.int .i64))], false⟩
noncomputable def laws_markVecS_en : Entry := ⟨laws_markVecS_sg, fun x => laws_markVecS x.1 x.2.1⟩
theorem laws_markVecS_eq {G : List (Nat × Obj)} (x : laws_markVecS_sg.dom) : body (env G []) [(2, .vary [(1, .sc (.int .i64)), (5, .sc (.int .i64)), (0, .mrows (.arr 3 (.flt .f32)))]), (5, .unroll 4)] Tryd.f79 laws_markVecS_sg x = laws_markVecS x.1 x.2.1 := by kernel_rfl
theorem laws_markVecS_so {G : List (Nat × Obj)} : Sound Tryd.prog G 79 laws_markVecS_en := sound_of_body (envS (l := []) (trivial)) Tryd.func79 (by kernel_rfl) rfl (fun x y h => (laws_markVecS_eq (G := G) x).trans h)

-- loop.example/g01204/laws.markMission
noncomputable def laws_markMission (a0 : (Int × ((Vec 3 Nat) × ((List (Vec 3 Nat)) × ((List (Int × ((Vec 3 Nat) × (Int × (Int × Unit))))) × Unit))))) (a1 : Int) : Option ((Int × Unit) × ((Int × ((Vec 3 Nat) × ((List (Vec 3 Nat)) × ((List (Int × ((Vec 3 Nat) × (Int × (Int × Unit))))) × Unit)))) × Unit)) :=
  (laws_markVecS a0.2.2.1 a1).bind fun y692 =>
  (laws_markLegS a0.2.2.2.1 y692.1.1).bind fun y693 =>
  some ((y693.1.1, ()), (((a0.1, a0.2.1, y692.2.1, y693.2.1, a0.2.2.2.2) : (Int × ((Vec 3 Nat) × ((List (Vec 3 Nat)) × ((List (Int × ((Vec 3 Nat) × (Int × (Int × Unit))))) × Unit))))), ()))
noncomputable def laws_markMission_sg : Sig := ⟨[.mv (.pair (.val (.int .i64)) (.pair (.val (.arr 3 (.flt .f32))) (.pair (.rows (.arr 3 (.flt .f32))) (.pair (.rows (.pair (.int .i64) (.pair (.arr 3 (.flt .f32)) (.pair (.int .i64) (.pair (.int .i64) (.unit)))))) (.val (.unit)))))), .v (.int .i64)], [.v (.val (.int .i64))], false⟩
noncomputable def laws_markMission_en : Entry := ⟨laws_markMission_sg, fun x => laws_markMission x.1 x.2.1⟩
theorem laws_markMission_eq {G : List (Nat × Obj)} (x : laws_markMission_sg.dom) : body (env G [(79, laws_markVecS_en), (80, laws_markLegS_en)]) [] Tryd.f31 laws_markMission_sg x = laws_markMission x.1 x.2.1 := by kernel_rfl
theorem laws_markMission_so {G : List (Nat × Obj)} : Sound Tryd.prog G 31 laws_markMission_en := sound_of_body (envS (l := [(79, laws_markVecS_en), (80, laws_markLegS_en)]) (⟨(laws_markVecS_so), (laws_markLegS_so), trivial⟩)) Tryd.func31 (by kernel_rfl) rfl (fun x y h => (laws_markMission_eq (G := G) x).trans h)

-- (*loop.example/g01204/spec.l08Work).leg
noncomputable def spec_l08Work_leg (a0 : ((Int × ((Vec 3 Nat) × ((List (Vec 3 Nat)) × ((List (Int × ((Vec 3 Nat) × (Int × (Int × Unit))))) × Unit)))) × (Int × (Int × ((List Int) × ((List Int) × Unit)))))) (a1 : (Vec 3 Nat)) (a2 : Int) : Option ((Int × Unit) × (((Int × ((Vec 3 Nat) × ((List (Vec 3 Nat)) × ((List (Int × ((Vec 3 Nat) × (Int × (Int × Unit))))) × Unit)))) × (Int × (Int × ((List Int) × ((List Int) × Unit))))) × Unit)) :=
  (spec_l00In a2 (1 : Int) (400 : Int)).bind fun y1039 =>
  bif (! y1039.1.1) then
    some (((2 : Int), ()), ((((a0.1.1, a0.1.2.1, a0.1.2.2.1, a0.1.2.2.2.1, a0.1.2.2.2.2), a0.2.1, a0.2.2.1, a0.2.2.2.1, a0.2.2.2.2.1, a0.2.2.2.2.2) : ((Int × ((Vec 3 Nat) × ((List (Vec 3 Nat)) × ((List (Int × ((Vec 3 Nat) × (Int × (Int × Unit))))) × Unit)))) × (Int × (Int × ((List Int) × ((List Int) × Unit)))))), ()))
  else
  bif (iEq (lenI a0.1.2.2.2.1) 64) then
    some (((3 : Int), ()), ((((a0.1.1, a0.1.2.1, a0.1.2.2.1, a0.1.2.2.2.1, a0.1.2.2.2.2), a0.2.1, a0.2.2.1, a0.2.2.2.1, a0.2.2.2.2.1, a0.2.2.2.2.2) : ((Int × ((Vec 3 Nat) × ((List (Vec 3 Nat)) × ((List (Int × ((Vec 3 Nat) × (Int × (Int × Unit))))) × Unit)))) × (Int × (Int × ((List Int) × ((List Int) × Unit)))))), ()))
  else
  bif (iLt 400 (iAdd .i64 a0.2.2.1 a2)) then
    some (((3 : Int), ()), ((((a0.1.1, a0.1.2.1, a0.1.2.2.1, a0.1.2.2.2.1, a0.1.2.2.2.2), a0.2.1, a0.2.2.1, a0.2.2.2.1, a0.2.2.2.2.1, a0.2.2.2.2.2) : ((Int × ((Vec 3 Nat) × ((List (Vec 3 Nat)) × ((List (Int × ((Vec 3 Nat) × (Int × (Int × Unit))))) × Unit)))) × (Int × (Int × ((List Int) × ((List Int) × Unit)))))), ()))
  else
  bif room (List.length a0.1.2.2.2.1 + 1) 40 then
    some (((0 : Int), ()), ((((a0.1.1, a0.1.2.1, a0.1.2.2.1, (a0.1.2.2.2.1 ++ ([(a2, a1, a0.2.1, (-1 : Int), ())] : (List (Int × ((Vec 3 Nat) × (Int × (Int × Unit))))))), a0.1.2.2.2.2), a0.2.1, (iAdd .i64 a0.2.2.1 a2), a0.2.2.2.1, a0.2.2.2.2.1, a0.2.2.2.2.2) : ((Int × ((Vec 3 Nat) × ((List (Vec 3 Nat)) × ((List (Int × ((Vec 3 Nat) × (Int × (Int × Unit))))) × Unit)))) × (Int × (Int × ((List Int) × ((List Int) × Unit)))))), ()))
  else none
noncomputable def spec_l08Work_leg_sg : Sig := ⟨[.io (.pair (.pair (.val (.int .i64)) (.pair (.val (.arr 3 (.flt .f32))) (.pair (.rows (.arr 3 (.flt .f32))) (.pair (.rows (.pair (.int .i64) (.pair (.arr 3 (.flt .f32)) (.pair (.int .i64) (.pair (.int .i64) (.unit)))))) (.val (.unit)))))) (.pair (.val (.int .i64)) (.pair (.val (.int .i64)) (.pair (.rows (.int .i64)) (.pair (.rows (.int .i64)) (.val (.unit))))))), .v (.arr 3 (.flt .f32)), .v (.int .i64)], [.v (.val (.int .i64))], false⟩
noncomputable def spec_l08Work_leg_en : Entry := ⟨spec_l08Work_leg_sg, fun x => spec_l08Work_leg x.1 x.2.1 x.2.2.1⟩
theorem spec_l08Work_leg_eq {G : List (Nat × Obj)} (x : spec_l08Work_leg_sg.dom) : body (env G [(87, spec_l00In_en)]) [] Tryd.f139 spec_l08Work_leg_sg x = spec_l08Work_leg x.1 x.2.1 x.2.2.1 := by kernel_rfl
theorem spec_l08Work_leg_so {G : List (Nat × Obj)} : Sound Tryd.prog G 139 spec_l08Work_leg_en := sound_of_body (envS (l := [(87, spec_l00In_en)]) (⟨(spec_l00In_so), trivial⟩)) Tryd.func139 (by kernel_rfl) rfl (fun x y h => (spec_l08Work_leg_eq (G := G) x).trans h)

-- (*loop.example/g01204/spec.l08Work).seen
noncomputable def spec_l08Work_seen (a0 : ((Int × ((Vec 3 Nat) × ((List (Vec 3 Nat)) × ((List (Int × ((Vec 3 Nat) × (Int × (Int × Unit))))) × Unit)))) × (Int × (Int × ((List Int) × ((List Int) × Unit)))))) (a1 : Int) : Option ((Int × Unit) × (((Int × ((Vec 3 Nat) × ((List (Vec 3 Nat)) × ((List (Int × ((Vec 3 Nat) × (Int × (Int × Unit))))) × Unit)))) × (Int × (Int × ((List Int) × ((List Int) × Unit))))) × Unit)) :=
  bif (iLe (lenI a0.1.2.2.1) a1) then
    some (((2 : Int), ()), ((((a0.1.1, a0.1.2.1, a0.1.2.2.1, a0.1.2.2.2.1, a0.1.2.2.2.2), a0.2.1, a0.2.2.1, a0.2.2.2.1, a0.2.2.2.2.1, a0.2.2.2.2.2) : ((Int × ((Vec 3 Nat) × ((List (Vec 3 Nat)) × ((List (Int × ((Vec 3 Nat) × (Int × (Int × Unit))))) × Unit)))) × (Int × (Int × ((List Int) × ((List Int) × Unit)))))), ()))
  else
  let x1047 := iSub .i64 (lenI a0.1.2.2.2.1) 1
  bif (iLt x1047 0) then
    some (((4 : Int), ()), ((((a0.1.1, a0.1.2.1, a0.1.2.2.1, a0.1.2.2.2.1, a0.1.2.2.2.2), a0.2.1, a0.2.2.1, a0.2.2.2.1, a0.2.2.2.2.1, a0.2.2.2.2.2) : ((Int × ((Vec 3 Nat) × ((List (Vec 3 Nat)) × ((List (Int × ((Vec 3 Nat) × (Int × (Int × Unit))))) × Unit)))) × (Int × (Int × ((List Int) × ((List Int) × Unit)))))), ()))
  else
  bif inB x1047 (List.length a0.1.2.2.2.1) then
    bif (iLe 0 (((((List.getD a0.1.2.2.2.1 x1047.toNat ((0, (0, 0, 0, ()), 0, 0, ()) : (Int × ((Vec 3 Nat) × (Int × (Int × Unit)))))).2).2).2).1)) then
      some (((4 : Int), ()), ((((a0.1.1, a0.1.2.1, a0.1.2.2.1, a0.1.2.2.2.1, a0.1.2.2.2.2), a0.2.1, a0.2.2.1, a0.2.2.2.1, a0.2.2.2.2.1, a0.2.2.2.2.2) : ((Int × ((Vec 3 Nat) × ((List (Vec 3 Nat)) × ((List (Int × ((Vec 3 Nat) × (Int × (Int × Unit))))) × Unit)))) × (Int × (Int × ((List Int) × ((List Int) × Unit)))))), ()))
    else
    bif inB x1047 (List.length a0.1.2.2.2.1) then
      some (((0 : Int), ()), ((((a0.1.1, a0.1.2.1, a0.1.2.2.1, (List.set a0.1.2.2.2.1 x1047.toNat (((List.getD a0.1.2.2.2.1 x1047.toNat ((0, (0, 0, 0, ()), 0, 0, ()) : (Int × ((Vec 3 Nat) × (Int × (Int × Unit)))))).1, ((List.getD a0.1.2.2.2.1 x1047.toNat ((0, (0, 0, 0, ()), 0, 0, ()) : (Int × ((Vec 3 Nat) × (Int × (Int × Unit)))))).2).1, (((List.getD a0.1.2.2.2.1 x1047.toNat ((0, (0, 0, 0, ()), 0, 0, ()) : (Int × ((Vec 3 Nat) × (Int × (Int × Unit)))))).2).2).1, a1, ((((List.getD a0.1.2.2.2.1 x1047.toNat ((0, (0, 0, 0, ()), 0, 0, ()) : (Int × ((Vec 3 Nat) × (Int × (Int × Unit)))))).2).2).2).2) : (Int × ((Vec 3 Nat) × (Int × (Int × Unit)))))), a0.1.2.2.2.2), a0.2.1, a0.2.2.1, a0.2.2.2.1, a0.2.2.2.2.1, a0.2.2.2.2.2) : ((Int × ((Vec 3 Nat) × ((List (Vec 3 Nat)) × ((List (Int × ((Vec 3 Nat) × (Int × (Int × Unit))))) × Unit)))) × (Int × (Int × ((List Int) × ((List Int) × Unit)))))), ()))
    else none
  else none
noncomputable def spec_l08Work_seen_sg : Sig := ⟨[.io (.pair (.pair (.val (.int .i64)) (.pair (.val (.arr 3 (.flt .f32))) (.pair (.rows (.arr 3 (.flt .f32))) (.pair (.rows (.pair (.int .i64) (.pair (.arr 3 (.flt .f32)) (.pair (.int .i64) (.pair (.int .i64) (.unit)))))) (.val (.unit)))))) (.pair (.val (.int .i64)) (.pair (.val (.int .i64)) (.pair (.rows (.int .i64)) (.pair (.rows (.int .i64)) (.val (.unit))))))), .v (.int .i64)], [.v (.val (.int .i64))], false⟩
noncomputable def spec_l08Work_seen_en : Entry := ⟨spec_l08Work_seen_sg, fun x => spec_l08Work_seen x.1 x.2.1⟩
theorem spec_l08Work_seen_eq {G : List (Nat × Obj)} (x : spec_l08Work_seen_sg.dom) : body (env G []) [] Tryd.f140 spec_l08Work_seen_sg x = spec_l08Work_seen x.1 x.2.1 := by kernel_rfl
theorem spec_l08Work_seen_so {G : List (Nat × Obj)} : Sound Tryd.prog G 140 spec_l08Work_seen_en := sound_of_body (envS (l := []) (trivial)) Tryd.func140 (by kernel_rfl) rfl (fun x y h => (spec_l08Work_seen_eq (G := G) x).trans h)

-- (*loop.example/g01204/spec.l08Work).one
noncomputable def spec_l08Work_one (a0 : ((Int × ((Vec 3 Nat) × ((List (Vec 3 Nat)) × ((List (Int × ((Vec 3 Nat) × (Int × (Int × Unit))))) × Unit)))) × (Int × (Int × ((List Int) × ((List Int) × Unit)))))) (a1 : List UInt8) (a2 : Int) (a3 : Int) : Option ((Int × Unit) × (((Int × ((Vec 3 Nat) × ((List (Vec 3 Nat)) × ((List (Int × ((Vec 3 Nat) × (Int × (Int × Unit))))) × Unit)))) × (Int × (Int × ((List Int) × ((List Int) × Unit))))) × Unit)) :=
  bif (sEq a1 ([114, 97, 116, 101])) then
    (spec_l00In a2 (1 : Int) (64 : Int)).bind fun y1023 =>
    bif (! y1023.1.1) then
      some (((2 : Int), ()), ((((a0.1.1, a0.1.2.1, a0.1.2.2.1, a0.1.2.2.2.1, a0.1.2.2.2.2), a0.2.1, a0.2.2.1, a0.2.2.2.1, a0.2.2.2.2.1, a0.2.2.2.2.2) : ((Int × ((Vec 3 Nat) × ((List (Vec 3 Nat)) × ((List (Int × ((Vec 3 Nat) × (Int × (Int × Unit))))) × Unit)))) × (Int × (Int × ((List Int) × ((List Int) × Unit)))))), ()))
    else
    bif (iLt 0 (lenI a0.1.2.2.2.1)) then
      some (((4 : Int), ()), ((((a0.1.1, a0.1.2.1, a0.1.2.2.1, a0.1.2.2.2.1, a0.1.2.2.2.2), a0.2.1, a0.2.2.1, a0.2.2.2.1, a0.2.2.2.2.1, a0.2.2.2.2.2) : ((Int × ((Vec 3 Nat) × ((List (Vec 3 Nat)) × ((List (Int × ((Vec 3 Nat) × (Int × (Int × Unit))))) × Unit)))) × (Int × (Int × ((List Int) × ((List Int) × Unit)))))), ()))
    else
    some (((0 : Int), ()), ((((a2, a0.1.2.1, a0.1.2.2.1, a0.1.2.2.2.1, a0.1.2.2.2.2), a0.2.1, a0.2.2.1, a0.2.2.2.1, a0.2.2.2.2.1, a0.2.2.2.2.2) : ((Int × ((Vec 3 Nat) × ((List (Vec 3 Nat)) × ((List (Int × ((Vec 3 Nat) × (Int × (Int × Unit))))) × Unit)))) × (Int × (Int × ((List Int) × ((List Int) × Unit)))))), ()))
  else
  bif (sEq a1 ([102, 105, 120])) then
    bif (iLt 400 a2) then
      some (((2 : Int), ()), ((((a0.1.1, a0.1.2.1, a0.1.2.2.1, a0.1.2.2.2.1, a0.1.2.2.2.2), a0.2.1, a0.2.2.1, a0.2.2.2.1, a0.2.2.2.2.1, a0.2.2.2.2.2) : ((Int × ((Vec 3 Nat) × ((List (Vec 3 Nat)) × ((List (Int × ((Vec 3 Nat) × (Int × (Int × Unit))))) × Unit)))) × (Int × (Int × ((List Int) × ((List Int) × Unit)))))), ()))
    else
    some (((0 : Int), ()), ((((a0.1.1, a0.1.2.1, a0.1.2.2.1, a0.1.2.2.2.1, a0.1.2.2.2.2), a2, a0.2.2.1, a0.2.2.2.1, a0.2.2.2.2.1, a0.2.2.2.2.2) : ((Int × ((Vec 3 Nat) × ((List (Vec 3 Nat)) × ((List (Int × ((Vec 3 Nat) × (Int × (Int × Unit))))) × Unit)))) × (Int × (Int × ((List Int) × ((List Int) × Unit)))))), ()))
  else
  bif (sEq a1 ([104, 111, 108, 100])) then
    (spec_l08Work_leg (((a0.1.1, a0.1.2.1, a0.1.2.2.1, a0.1.2.2.2.1, a0.1.2.2.2.2), a0.2.1, a0.2.2.1, a0.2.2.2.1, a0.2.2.2.2.1, a0.2.2.2.2.2) : ((Int × ((Vec 3 Nat) × ((List (Vec 3 Nat)) × ((List (Int × ((Vec 3 Nat) × (Int × (Int × Unit))))) × Unit)))) × (Int × (Int × ((List Int) × ((List Int) × Unit)))))) ((0, 0, 0, ()) : (Vec 3 Nat)) a2).bind fun y1029 =>
    some ((y1029.1.1, ()), ((((y1029.2.1.1.1, y1029.2.1.1.2.1, y1029.2.1.1.2.2.1, y1029.2.1.1.2.2.2.1, y1029.2.1.1.2.2.2.2), y1029.2.1.2.1, y1029.2.1.2.2.1, y1029.2.1.2.2.2.1, y1029.2.1.2.2.2.2.1, y1029.2.1.2.2.2.2.2) : ((Int × ((Vec 3 Nat) × ((List (Vec 3 Nat)) × ((List (Int × ((Vec 3 Nat) × (Int × (Int × Unit))))) × Unit)))) × (Int × (Int × ((List Int) × ((List Int) × Unit)))))), ()))
  else
  bif (sEq a1 ([114, 97, 110, 103, 101])) then
    (spec_l08Work_seen (((a0.1.1, a0.1.2.1, a0.1.2.2.1, a0.1.2.2.2.1, a0.1.2.2.2.2), a0.2.1, a0.2.2.1, a0.2.2.2.1, a0.2.2.2.2.1, a0.2.2.2.2.2) : ((Int × ((Vec 3 Nat) × ((List (Vec 3 Nat)) × ((List (Int × ((Vec 3 Nat) × (Int × (Int × Unit))))) × Unit)))) × (Int × (Int × ((List Int) × ((List Int) × Unit)))))) a2).bind fun y1031 =>
    some ((y1031.1.1, ()), ((((y1031.2.1.1.1, y1031.2.1.1.2.1, y1031.2.1.1.2.2.1, y1031.2.1.1.2.2.2.1, y1031.2.1.1.2.2.2.2), y1031.2.1.2.1, y1031.2.1.2.2.1, y1031.2.1.2.2.2.1, y1031.2.1.2.2.2.2.1, y1031.2.1.2.2.2.2.2) : ((Int × ((Vec 3 Nat) × ((List (Vec 3 Nat)) × ((List (Int × ((Vec 3 Nat) × (Int × (Int × Unit))))) × Unit)))) × (Int × (Int × ((List Int) × ((List Int) × Unit)))))), ()))
  else
  (spec_l00In a2 (1 : Int) (16 : Int)).bind fun y1032 =>
  bif (! y1032.1.1) then
    some (((2 : Int), ()), ((((a0.1.1, a0.1.2.1, a0.1.2.2.1, a0.1.2.2.2.1, a0.1.2.2.2.2), a0.2.1, a0.2.2.1, a0.2.2.2.1, a0.2.2.2.2.1, a0.2.2.2.2.2) : ((Int × ((Vec 3 Nat) × ((List (Vec 3 Nat)) × ((List (Int × ((Vec 3 Nat) × (Int × (Int × Unit))))) × Unit)))) × (Int × (Int × ((List Int) × ((List Int) × Unit)))))), ()))
  else
  bif (iEq (lenI a0.2.2.2.1) 3) then
    some (((3 : Int), ()), ((((a0.1.1, a0.1.2.1, a0.1.2.2.1, a0.1.2.2.2.1, a0.1.2.2.2.2), a0.2.1, a0.2.2.1, a0.2.2.2.1, a0.2.2.2.2.1, a0.2.2.2.2.2) : ((Int × ((Vec 3 Nat) × ((List (Vec 3 Nat)) × ((List (Int × ((Vec 3 Nat) × (Int × (Int × Unit))))) × Unit)))) × (Int × (Int × ((List Int) × ((List Int) × Unit)))))), ()))
  else
  bif room (List.length a0.2.2.2.1 + 1) 8 then
    bif room (List.length a0.2.2.2.2.1 + 1) 8 then
      some (((0 : Int), ()), ((((a0.1.1, a0.1.2.1, a0.1.2.2.1, a0.1.2.2.2.1, a0.1.2.2.2.2), a0.2.1, a0.2.2.1, (a0.2.2.2.1 ++ ([(iAdd .i64 a3 1)] : (List Int))), (a0.2.2.2.2.1 ++ ([(iSub .i64 a2 1)] : (List Int))), a0.2.2.2.2.2) : ((Int × ((Vec 3 Nat) × ((List (Vec 3 Nat)) × ((List (Int × ((Vec 3 Nat) × (Int × (Int × Unit))))) × Unit)))) × (Int × (Int × ((List Int) × ((List Int) × Unit)))))), ()))
    else none
  else none
noncomputable def spec_l08Work_one_sg : Sig := ⟨[.io (.pair (.pair (.val (.int .i64)) (.pair (.val (.arr 3 (.flt .f32))) (.pair (.rows (.arr 3 (.flt .f32))) (.pair (.rows (.pair (.int .i64) (.pair (.arr 3 (.flt .f32)) (.pair (.int .i64) (.pair (.int .i64) (.unit)))))) (.val (.unit)))))) (.pair (.val (.int .i64)) (.pair (.val (.int .i64)) (.pair (.rows (.int .i64)) (.pair (.rows (.int .i64)) (.val (.unit))))))), .v (.str), .v (.int .i64), .v (.int .i64)], [.v (.val (.int .i64))], false⟩
noncomputable def spec_l08Work_one_en : Entry := ⟨spec_l08Work_one_sg, fun x => spec_l08Work_one x.1 x.2.1 x.2.2.1 x.2.2.2.1⟩
theorem spec_l08Work_one_eq {G : List (Nat × Obj)} (x : spec_l08Work_one_sg.dom) : body (env G [(87, spec_l00In_en), (139, spec_l08Work_leg_en), (140, spec_l08Work_seen_en)]) [] Tryd.f109 spec_l08Work_one_sg x = spec_l08Work_one x.1 x.2.1 x.2.2.1 x.2.2.2.1 := by kernel_rfl
theorem spec_l08Work_one_so {G : List (Nat × Obj)} : Sound Tryd.prog G 109 spec_l08Work_one_en := sound_of_body (envS (l := [(87, spec_l00In_en), (139, spec_l08Work_leg_en), (140, spec_l08Work_seen_en)]) (⟨(spec_l00In_so), (spec_l08Work_leg_so), (spec_l08Work_seen_so), trivial⟩)) Tryd.func109 (by kernel_rfl) rfl (fun x y h => (spec_l08Work_one_eq (G := G) x).trans h)

-- loop.example/g01204/spec.l08Vec
noncomputable def spec_l08Vec (a0 : (List (List UInt8))) : Option (((Vec 3 Nat) × Bool × Unit) × Unit) :=
  bif inB 0 (List.length a0) then
    (spec_l08Fraction (List.getD a0 0 ([] : List UInt8))).bind fun y1083 =>
    bif (! y1083.1.2.1) then some ((((0, 0, 0, ()) : (Vec 3 Nat)), false, ()), ()) else
    bif inB 1 (List.length a0) then
      (spec_l08Fraction (List.getD a0 1 ([] : List UInt8))).bind fun y1086 =>
      bif (! y1086.1.2.1) then some ((((0, 0, 0, ()) : (Vec 3 Nat)), false, ()), ()) else
      bif inB 2 (List.length a0) then
        (spec_l08Fraction (List.getD a0 2 ([] : List UInt8))).bind fun y1089 =>
        bif (! y1089.1.2.1) then some ((((0, 0, 0, ()) : (Vec 3 Nat)), false, ()), ()) else some ((((y1083.1.1, y1086.1.1, y1089.1.1, ()) : (Vec 3 Nat)), true, ()), ())
      else none
    else none
  else none
noncomputable def spec_l08Vec_sg : Sig := ⟨[.v (.list (.str))], [.v (.val (.arr 3 (.flt .f32))), .v (.val (.bool))], false⟩
noncomputable def spec_l08Vec_en : Entry := ⟨spec_l08Vec_sg, fun x => spec_l08Vec x.1⟩
theorem spec_l08Vec_eq {G : List (Nat × Obj)} (x : spec_l08Vec_sg.dom) : body (env G [(33, spec_l08Fraction_en)]) [(3, .unroll 4)] Tryd.f141 spec_l08Vec_sg x = spec_l08Vec x.1 := by kernel_rfl
theorem spec_l08Vec_so {G : List (Nat × Obj)} : Sound Tryd.prog G 141 spec_l08Vec_en := sound_of_body (envS (l := [(33, spec_l08Fraction_en)]) (⟨(spec_l08Fraction_so), trivial⟩)) Tryd.func141 (by kernel_rfl) rfl (fun x y h => (spec_l08Vec_eq (G := G) x).trans h)

-- (*loop.example/g01204/spec.l08Work).three
noncomputable def spec_l08Work_three (a0 : ((Int × ((Vec 3 Nat) × ((List (Vec 3 Nat)) × ((List (Int × ((Vec 3 Nat) × (Int × (Int × Unit))))) × Unit)))) × (Int × (Int × ((List Int) × ((List Int) × Unit)))))) (a1 : (List (List UInt8))) : Option ((Int × Unit) × (((Int × ((Vec 3 Nat) × ((List (Vec 3 Nat)) × ((List (Int × ((Vec 3 Nat) × (Int × (Int × Unit))))) × Unit)))) × (Int × (Int × ((List Int) × ((List Int) × Unit))))) × Unit)) :=
  bif inB 0 (List.length a1) then
    bif (sEq (List.getD a1 0 ([] : List UInt8)) ([109, 111, 118, 101])) then
      bif (! (iEq (lenI a1) 5)) then
        some (((5 : Int), ()), ((((a0.1.1, a0.1.2.1, a0.1.2.2.1, a0.1.2.2.2.1, a0.1.2.2.2.2), a0.2.1, a0.2.2.1, a0.2.2.2.1, a0.2.2.2.2.1, a0.2.2.2.2.2) : ((Int × ((Vec 3 Nat) × ((List (Vec 3 Nat)) × ((List (Int × ((Vec 3 Nat) × (Int × (Int × Unit))))) × Unit)))) × (Int × (Int × ((List Int) × ((List Int) × Unit)))))), ()))
      else
      bif inS 1 (lenI a1) (List.length a1) then
        (spec_l08Vec (dropL a1 1)).bind fun y1056 =>
        bif (! y1056.1.2.1) then
          some (((5 : Int), ()), ((((a0.1.1, a0.1.2.1, a0.1.2.2.1, a0.1.2.2.2.1, a0.1.2.2.2.2), a0.2.1, a0.2.2.1, a0.2.2.2.1, a0.2.2.2.2.1, a0.2.2.2.2.2) : ((Int × ((Vec 3 Nat) × ((List (Vec 3 Nat)) × ((List (Int × ((Vec 3 Nat) × (Int × (Int × Unit))))) × Unit)))) × (Int × (Int × ((List Int) × ((List Int) × Unit)))))), ()))
        else
        bif inB 0 (List.length a1) then
          let x1058 := List.getD a1 0 ([] : List UInt8)
          bif (sEq x1058 ([115, 116, 97, 114, 116])) then
            bif (iLt 0 (lenI a0.1.2.2.2.1)) then
              some (((4 : Int), ()), ((((a0.1.1, a0.1.2.1, a0.1.2.2.1, a0.1.2.2.2.1, a0.1.2.2.2.2), a0.2.1, a0.2.2.1, a0.2.2.2.1, a0.2.2.2.2.1, a0.2.2.2.2.2) : ((Int × ((Vec 3 Nat) × ((List (Vec 3 Nat)) × ((List (Int × ((Vec 3 Nat) × (Int × (Int × Unit))))) × Unit)))) × (Int × (Int × ((List Int) × ((List Int) × Unit)))))), ()))
            else
            some (((0 : Int), ()), ((((a0.1.1, y1056.1.1, a0.1.2.2.1, a0.1.2.2.2.1, a0.1.2.2.2.2), a0.2.1, a0.2.2.1, a0.2.2.2.1, a0.2.2.2.2.1, a0.2.2.2.2.2) : ((Int × ((Vec 3 Nat) × ((List (Vec 3 Nat)) × ((List (Int × ((Vec 3 Nat) × (Int × (Int × Unit))))) × Unit)))) × (Int × (Int × ((List Int) × ((List Int) × Unit)))))), ()))
          else
          bif (sEq x1058 ([98, 101, 97, 99, 111, 110])) then
            bif (iEq (lenI a0.1.2.2.1) 6) then
              some (((3 : Int), ()), ((((a0.1.1, a0.1.2.1, a0.1.2.2.1, a0.1.2.2.2.1, a0.1.2.2.2.2), a0.2.1, a0.2.2.1, a0.2.2.2.1, a0.2.2.2.2.1, a0.2.2.2.2.2) : ((Int × ((Vec 3 Nat) × ((List (Vec 3 Nat)) × ((List (Int × ((Vec 3 Nat) × (Int × (Int × Unit))))) × Unit)))) × (Int × (Int × ((List Int) × ((List Int) × Unit)))))), ()))
            else
            bif room (List.length a0.1.2.2.1 + 1) 12 then
              some (((0 : Int), ()), ((((a0.1.1, a0.1.2.1, (a0.1.2.2.1 ++ ([y1056.1.1] : (List (Vec 3 Nat)))), a0.1.2.2.2.1, a0.1.2.2.2.2), a0.2.1, a0.2.2.1, a0.2.2.2.1, a0.2.2.2.2.1, a0.2.2.2.2.2) : ((Int × ((Vec 3 Nat) × ((List (Vec 3 Nat)) × ((List (Int × ((Vec 3 Nat) × (Int × (Int × Unit))))) × Unit)))) × (Int × (Int × ((List Int) × ((List Int) × Unit)))))), ()))
            else none
          else
          bif inB 4 (List.length a1) then
            (spec_l08Whole (List.getD a1 4 ([] : List UInt8))).bind fun y1065 =>
            bif (! y1065.1.2.1) then
              some (((5 : Int), ()), ((((a0.1.1, a0.1.2.1, a0.1.2.2.1, a0.1.2.2.2.1, a0.1.2.2.2.2), a0.2.1, a0.2.2.1, a0.2.2.2.1, a0.2.2.2.2.1, a0.2.2.2.2.2) : ((Int × ((Vec 3 Nat) × ((List (Vec 3 Nat)) × ((List (Int × ((Vec 3 Nat) × (Int × (Int × Unit))))) × Unit)))) × (Int × (Int × ((List Int) × ((List Int) × Unit)))))), ()))
            else
            (spec_l08Work_leg (((a0.1.1, a0.1.2.1, a0.1.2.2.1, a0.1.2.2.2.1, a0.1.2.2.2.2), a0.2.1, a0.2.2.1, a0.2.2.2.1, a0.2.2.2.2.1, a0.2.2.2.2.2) : ((Int × ((Vec 3 Nat) × ((List (Vec 3 Nat)) × ((List (Int × ((Vec 3 Nat) × (Int × (Int × Unit))))) × Unit)))) × (Int × (Int × ((List Int) × ((List Int) × Unit)))))) y1056.1.1 y1065.1.1).bind fun y1067 =>
            some ((y1067.1.1, ()), ((((y1067.2.1.1.1, y1067.2.1.1.2.1, y1067.2.1.1.2.2.1, y1067.2.1.1.2.2.2.1, y1067.2.1.1.2.2.2.2), y1067.2.1.2.1, y1067.2.1.2.2.1, y1067.2.1.2.2.2.1, y1067.2.1.2.2.2.2.1, y1067.2.1.2.2.2.2.2) : ((Int × ((Vec 3 Nat) × ((List (Vec 3 Nat)) × ((List (Int × ((Vec 3 Nat) × (Int × (Int × Unit))))) × Unit)))) × (Int × (Int × ((List Int) × ((List Int) × Unit)))))), ()))
          else none
        else none
      else none
    else
    bif (! (iEq (lenI a1) 4)) then
      some (((5 : Int), ()), ((((a0.1.1, a0.1.2.1, a0.1.2.2.1, a0.1.2.2.2.1, a0.1.2.2.2.2), a0.2.1, a0.2.2.1, a0.2.2.2.1, a0.2.2.2.2.1, a0.2.2.2.2.2) : ((Int × ((Vec 3 Nat) × ((List (Vec 3 Nat)) × ((List (Int × ((Vec 3 Nat) × (Int × (Int × Unit))))) × Unit)))) × (Int × (Int × ((List Int) × ((List Int) × Unit)))))), ()))
    else
    bif inS 1 (lenI a1) (List.length a1) then
      (spec_l08Vec (dropL a1 1)).bind fun y1070 =>
      bif (! y1070.1.2.1) then
        some (((5 : Int), ()), ((((a0.1.1, a0.1.2.1, a0.1.2.2.1, a0.1.2.2.2.1, a0.1.2.2.2.2), a0.2.1, a0.2.2.1, a0.2.2.2.1, a0.2.2.2.2.1, a0.2.2.2.2.2) : ((Int × ((Vec 3 Nat) × ((List (Vec 3 Nat)) × ((List (Int × ((Vec 3 Nat) × (Int × (Int × Unit))))) × Unit)))) × (Int × (Int × ((List Int) × ((List Int) × Unit)))))), ()))
      else
      bif inB 0 (List.length a1) then
        let x1072 := List.getD a1 0 ([] : List UInt8)
        bif (sEq x1072 ([115, 116, 97, 114, 116])) then
          bif (iLt 0 (lenI a0.1.2.2.2.1)) then
            some (((4 : Int), ()), ((((a0.1.1, a0.1.2.1, a0.1.2.2.1, a0.1.2.2.2.1, a0.1.2.2.2.2), a0.2.1, a0.2.2.1, a0.2.2.2.1, a0.2.2.2.2.1, a0.2.2.2.2.2) : ((Int × ((Vec 3 Nat) × ((List (Vec 3 Nat)) × ((List (Int × ((Vec 3 Nat) × (Int × (Int × Unit))))) × Unit)))) × (Int × (Int × ((List Int) × ((List Int) × Unit)))))), ()))
          else
          some (((0 : Int), ()), ((((a0.1.1, y1070.1.1, a0.1.2.2.1, a0.1.2.2.2.1, a0.1.2.2.2.2), a0.2.1, a0.2.2.1, a0.2.2.2.1, a0.2.2.2.2.1, a0.2.2.2.2.2) : ((Int × ((Vec 3 Nat) × ((List (Vec 3 Nat)) × ((List (Int × ((Vec 3 Nat) × (Int × (Int × Unit))))) × Unit)))) × (Int × (Int × ((List Int) × ((List Int) × Unit)))))), ()))
        else
        bif (sEq x1072 ([98, 101, 97, 99, 111, 110])) then
          bif (iEq (lenI a0.1.2.2.1) 6) then
            some (((3 : Int), ()), ((((a0.1.1, a0.1.2.1, a0.1.2.2.1, a0.1.2.2.2.1, a0.1.2.2.2.2), a0.2.1, a0.2.2.1, a0.2.2.2.1, a0.2.2.2.2.1, a0.2.2.2.2.2) : ((Int × ((Vec 3 Nat) × ((List (Vec 3 Nat)) × ((List (Int × ((Vec 3 Nat) × (Int × (Int × Unit))))) × Unit)))) × (Int × (Int × ((List Int) × ((List Int) × Unit)))))), ()))
          else
          bif room (List.length a0.1.2.2.1 + 1) 12 then
            some (((0 : Int), ()), ((((a0.1.1, a0.1.2.1, (a0.1.2.2.1 ++ ([y1070.1.1] : (List (Vec 3 Nat)))), a0.1.2.2.2.1, a0.1.2.2.2.2), a0.2.1, a0.2.2.1, a0.2.2.2.1, a0.2.2.2.2.1, a0.2.2.2.2.2) : ((Int × ((Vec 3 Nat) × ((List (Vec 3 Nat)) × ((List (Int × ((Vec 3 Nat) × (Int × (Int × Unit))))) × Unit)))) × (Int × (Int × ((List Int) × ((List Int) × Unit)))))), ()))
          else none
        else
        bif inB 4 (List.length a1) then
          (spec_l08Whole (List.getD a1 4 ([] : List UInt8))).bind fun y1079 =>
          bif (! y1079.1.2.1) then
            some (((5 : Int), ()), ((((a0.1.1, a0.1.2.1, a0.1.2.2.1, a0.1.2.2.2.1, a0.1.2.2.2.2), a0.2.1, a0.2.2.1, a0.2.2.2.1, a0.2.2.2.2.1, a0.2.2.2.2.2) : ((Int × ((Vec 3 Nat) × ((List (Vec 3 Nat)) × ((List (Int × ((Vec 3 Nat) × (Int × (Int × Unit))))) × Unit)))) × (Int × (Int × ((List Int) × ((List Int) × Unit)))))), ()))
          else
          (spec_l08Work_leg (((a0.1.1, a0.1.2.1, a0.1.2.2.1, a0.1.2.2.2.1, a0.1.2.2.2.2), a0.2.1, a0.2.2.1, a0.2.2.2.1, a0.2.2.2.2.1, a0.2.2.2.2.2) : ((Int × ((Vec 3 Nat) × ((List (Vec 3 Nat)) × ((List (Int × ((Vec 3 Nat) × (Int × (Int × Unit))))) × Unit)))) × (Int × (Int × ((List Int) × ((List Int) × Unit)))))) y1070.1.1 y1079.1.1).bind fun y1081 =>
          some ((y1081.1.1, ()), ((((y1081.2.1.1.1, y1081.2.1.1.2.1, y1081.2.1.1.2.2.1, y1081.2.1.1.2.2.2.1, y1081.2.1.1.2.2.2.2), y1081.2.1.2.1, y1081.2.1.2.2.1, y1081.2.1.2.2.2.1, y1081.2.1.2.2.2.2.1, y1081.2.1.2.2.2.2.2) : ((Int × ((Vec 3 Nat) × ((List (Vec 3 Nat)) × ((List (Int × ((Vec 3 Nat) × (Int × (Int × Unit))))) × Unit)))) × (Int × (Int × ((List Int) × ((List Int) × Unit)))))), ()))
        else none
      else none
    else none
  else none
noncomputable def spec_l08Work_three_sg : Sig := ⟨[.io (.pair (.pair (.val (.int .i64)) (.pair (.val (.arr 3 (.flt .f32))) (.pair (.rows (.arr 3 (.flt .f32))) (.pair (.rows (.pair (.int .i64) (.pair (.arr 3 (.flt .f32)) (.pair (.int .i64) (.pair (.int .i64) (.unit)))))) (.val (.unit)))))) (.pair (.val (.int .i64)) (.pair (.val (.int .i64)) (.pair (.rows (.int .i64)) (.pair (.rows (.int .i64)) (.val (.unit))))))), .v (.list (.str))], [.v (.val (.int .i64))], false⟩
noncomputable def spec_l08Work_three_en : Entry := ⟨spec_l08Work_three_sg, fun x => spec_l08Work_three x.1 x.2.1⟩
theorem spec_l08Work_three_eq {G : List (Nat × Obj)} (x : spec_l08Work_three_sg.dom) : body (env G [(83, spec_l08Whole_en), (139, spec_l08Work_leg_en), (141, spec_l08Vec_en)]) [] Tryd.f110 spec_l08Work_three_sg x = spec_l08Work_three x.1 x.2.1 := by kernel_rfl
theorem spec_l08Work_three_so {G : List (Nat × Obj)} : Sound Tryd.prog G 110 spec_l08Work_three_en := sound_of_body (envS (l := [(83, spec_l08Whole_en), (139, spec_l08Work_leg_en), (141, spec_l08Vec_en)]) (⟨(spec_l08Whole_so), (spec_l08Work_leg_so), (spec_l08Vec_so), trivial⟩)) Tryd.func110 (by kernel_rfl) rfl (fun x y h => (spec_l08Work_three_eq (G := G) x).trans h)

-- (*loop.example/g01204/spec.l08Work).line
noncomputable def spec_l08Work_line (a0 : ((Int × ((Vec 3 Nat) × ((List (Vec 3 Nat)) × ((List (Int × ((Vec 3 Nat) × (Int × (Int × Unit))))) × Unit)))) × (Int × (Int × ((List Int) × ((List Int) × Unit)))))) (a1 : List UInt8) (a2 : Int) : Option ((Int × Int × Unit) × (((Int × ((Vec 3 Nat) × ((List (Vec 3 Nat)) × ((List (Int × ((Vec 3 Nat) × (Int × (Int × Unit))))) × Unit)))) × (Int × (Int × ((List Int) × ((List Int) × Unit))))) × Unit)) :=
  (spec_l01Split a1 (32 : Int)).bind fun y785 =>
  bif inB 0 (List.length y785.1.1) then
    let x786 := List.getD y785.1.1 0 ([] : List UInt8)
    let x787 := sEq x786 ([114, 97, 116, 101])
    bif x787 then
      bif x787 then
        bif (! (iEq (lenI y785.1.1) 2)) then
          some ((a2, (5 : Int), ()), ((((a0.1.1, a0.1.2.1, a0.1.2.2.1, a0.1.2.2.2.1, a0.1.2.2.2.2), a0.2.1, a0.2.2.1, a0.2.2.2.1, a0.2.2.2.2.1, a0.2.2.2.2.2) : ((Int × ((Vec 3 Nat) × ((List (Vec 3 Nat)) × ((List (Int × ((Vec 3 Nat) × (Int × (Int × Unit))))) × Unit)))) × (Int × (Int × ((List Int) × ((List Int) × Unit)))))), ()))
        else
        bif inB 1 (List.length y785.1.1) then
          (spec_l08Whole (List.getD y785.1.1 1 ([] : List UInt8))).bind fun y790 =>
          bif (! y790.1.2.1) then
            some ((a2, (5 : Int), ()), ((((a0.1.1, a0.1.2.1, a0.1.2.2.1, a0.1.2.2.2.1, a0.1.2.2.2.2), a0.2.1, a0.2.2.1, a0.2.2.2.1, a0.2.2.2.2.1, a0.2.2.2.2.2) : ((Int × ((Vec 3 Nat) × ((List (Vec 3 Nat)) × ((List (Int × ((Vec 3 Nat) × (Int × (Int × Unit))))) × Unit)))) × (Int × (Int × ((List Int) × ((List Int) × Unit)))))), ()))
          else
          bif inB 0 (List.length y785.1.1) then
            (spec_l08Work_one (((a0.1.1, a0.1.2.1, a0.1.2.2.1, a0.1.2.2.2.1, a0.1.2.2.2.2), a0.2.1, a0.2.2.1, a0.2.2.2.1, a0.2.2.2.2.1, a0.2.2.2.2.2) : ((Int × ((Vec 3 Nat) × ((List (Vec 3 Nat)) × ((List (Int × ((Vec 3 Nat) × (Int × (Int × Unit))))) × Unit)))) × (Int × (Int × ((List Int) × ((List Int) × Unit)))))) (List.getD y785.1.1 0 ([] : List UInt8)) y790.1.1 a2).bind fun y794 =>
            some (((iAdd .i64 a2 1), y794.1.1, ()), ((((y794.2.1.1.1, y794.2.1.1.2.1, y794.2.1.1.2.2.1, y794.2.1.1.2.2.2.1, y794.2.1.1.2.2.2.2), y794.2.1.2.1, y794.2.1.2.2.1, y794.2.1.2.2.2.1, y794.2.1.2.2.2.2.1, y794.2.1.2.2.2.2.2) : ((Int × ((Vec 3 Nat) × ((List (Vec 3 Nat)) × ((List (Int × ((Vec 3 Nat) × (Int × (Int × Unit))))) × Unit)))) × (Int × (Int × ((List Int) × ((List Int) × Unit)))))), ()))
          else none
        else none
      else
      let x795 := sEq x786 ([115, 116, 97, 114, 116])
      bif x795 then
        bif x795 then
          (spec_l08Work_three (((a0.1.1, a0.1.2.1, a0.1.2.2.1, a0.1.2.2.2.1, a0.1.2.2.2.2), a0.2.1, a0.2.2.1, a0.2.2.2.1, a0.2.2.2.2.1, a0.2.2.2.2.2) : ((Int × ((Vec 3 Nat) × ((List (Vec 3 Nat)) × ((List (Int × ((Vec 3 Nat) × (Int × (Int × Unit))))) × Unit)))) × (Int × (Int × ((List Int) × ((List Int) × Unit)))))) y785.1.1).bind fun y797 =>
          some (((iAdd .i64 a2 1), y797.1.1, ()), ((((y797.2.1.1.1, y797.2.1.1.2.1, y797.2.1.1.2.2.1, y797.2.1.1.2.2.2.1, y797.2.1.1.2.2.2.2), y797.2.1.2.1, y797.2.1.2.2.1, y797.2.1.2.2.2.1, y797.2.1.2.2.2.2.1, y797.2.1.2.2.2.2.2) : ((Int × ((Vec 3 Nat) × ((List (Vec 3 Nat)) × ((List (Int × ((Vec 3 Nat) × (Int × (Int × Unit))))) × Unit)))) × (Int × (Int × ((List Int) × ((List Int) × Unit)))))), ()))
        else
        bif (sEq x786 ([101, 110, 100])) then
          bif (! (iEq (lenI y785.1.1) 1)) then
            some ((a2, (5 : Int), ()), ((((a0.1.1, a0.1.2.1, a0.1.2.2.1, a0.1.2.2.2.1, a0.1.2.2.2.2), a0.2.1, a0.2.2.1, a0.2.2.2.1, a0.2.2.2.2.1, a0.2.2.2.2.2) : ((Int × ((Vec 3 Nat) × ((List (Vec 3 Nat)) × ((List (Int × ((Vec 3 Nat) × (Int × (Int × Unit))))) × Unit)))) × (Int × (Int × ((List Int) × ((List Int) × Unit)))))), ()))
          else
          let x800 := iSub .i64 (lenI a0.2.2.2.1) 1
          bif (iLt x800 0) then
            some ((a2, (4 : Int), ()), ((((a0.1.1, a0.1.2.1, a0.1.2.2.1, a0.1.2.2.2.1, a0.1.2.2.2.2), a0.2.1, a0.2.2.1, a0.2.2.2.1, a0.2.2.2.2.1, a0.2.2.2.2.2) : ((Int × ((Vec 3 Nat) × ((List (Vec 3 Nat)) × ((List (Int × ((Vec 3 Nat) × (Int × (Int × Unit))))) × Unit)))) × (Int × (Int × ((List Int) × ((List Int) × Unit)))))), ()))
          else
          bif inB x800 (List.length a0.2.2.2.2.1) then
            bif (iLt 0 (List.getD a0.2.2.2.2.1 x800.toNat (0 : Int))) then
              bif inB x800 (List.length a0.2.2.2.2.1) then
                bif inB x800 (List.length a0.2.2.2.2.1) then
                  bif inB x800 (List.length a0.2.2.2.1) then
                    some (((List.getD a0.2.2.2.1 x800.toNat (0 : Int)), (0 : Int), ()), ((((a0.1.1, a0.1.2.1, a0.1.2.2.1, a0.1.2.2.2.1, a0.1.2.2.2.2), a0.2.1, a0.2.2.1, a0.2.2.2.1, List.set a0.2.2.2.2.1 x800.toNat (iSub .i64 (List.getD a0.2.2.2.2.1 x800.toNat (0 : Int)) 1), a0.2.2.2.2.2) : ((Int × ((Vec 3 Nat) × ((List (Vec 3 Nat)) × ((List (Int × ((Vec 3 Nat) × (Int × (Int × Unit))))) × Unit)))) × (Int × (Int × ((List Int) × ((List Int) × Unit)))))), ()))
                  else none
                else none
              else none
            else
            bif inS 0 x800 (List.length a0.2.2.2.1) then
              bif inS 0 x800 (List.length a0.2.2.2.2.1) then
                some (((iAdd .i64 a2 1), (0 : Int), ()), ((((a0.1.1, a0.1.2.1, a0.1.2.2.1, a0.1.2.2.2.1, a0.1.2.2.2.2), a0.2.1, a0.2.2.1, List.take x800.toNat (List.drop 0 a0.2.2.2.1), List.take x800.toNat (List.drop 0 a0.2.2.2.2.1), a0.2.2.2.2.2) : ((Int × ((Vec 3 Nat) × ((List (Vec 3 Nat)) × ((List (Int × ((Vec 3 Nat) × (Int × (Int × Unit))))) × Unit)))) × (Int × (Int × ((List Int) × ((List Int) × Unit)))))), ()))
              else none
            else none
          else none
        else
        some ((a2, (5 : Int), ()), ((((a0.1.1, a0.1.2.1, a0.1.2.2.1, a0.1.2.2.2.1, a0.1.2.2.2.2), a0.2.1, a0.2.2.1, a0.2.2.2.1, a0.2.2.2.2.1, a0.2.2.2.2.2) : ((Int × ((Vec 3 Nat) × ((List (Vec 3 Nat)) × ((List (Int × ((Vec 3 Nat) × (Int × (Int × Unit))))) × Unit)))) × (Int × (Int × ((List Int) × ((List Int) × Unit)))))), ()))
      else
      let x808 := sEq x786 ([98, 101, 97, 99, 111, 110])
      bif x808 then
        bif x808 then
          (spec_l08Work_three (((a0.1.1, a0.1.2.1, a0.1.2.2.1, a0.1.2.2.2.1, a0.1.2.2.2.2), a0.2.1, a0.2.2.1, a0.2.2.2.1, a0.2.2.2.2.1, a0.2.2.2.2.2) : ((Int × ((Vec 3 Nat) × ((List (Vec 3 Nat)) × ((List (Int × ((Vec 3 Nat) × (Int × (Int × Unit))))) × Unit)))) × (Int × (Int × ((List Int) × ((List Int) × Unit)))))) y785.1.1).bind fun y810 =>
          some (((iAdd .i64 a2 1), y810.1.1, ()), ((((y810.2.1.1.1, y810.2.1.1.2.1, y810.2.1.1.2.2.1, y810.2.1.1.2.2.2.1, y810.2.1.1.2.2.2.2), y810.2.1.2.1, y810.2.1.2.2.1, y810.2.1.2.2.2.1, y810.2.1.2.2.2.2.1, y810.2.1.2.2.2.2.2) : ((Int × ((Vec 3 Nat) × ((List (Vec 3 Nat)) × ((List (Int × ((Vec 3 Nat) × (Int × (Int × Unit))))) × Unit)))) × (Int × (Int × ((List Int) × ((List Int) × Unit)))))), ()))
        else
        bif (sEq x786 ([101, 110, 100])) then
          bif (! (iEq (lenI y785.1.1) 1)) then
            some ((a2, (5 : Int), ()), ((((a0.1.1, a0.1.2.1, a0.1.2.2.1, a0.1.2.2.2.1, a0.1.2.2.2.2), a0.2.1, a0.2.2.1, a0.2.2.2.1, a0.2.2.2.2.1, a0.2.2.2.2.2) : ((Int × ((Vec 3 Nat) × ((List (Vec 3 Nat)) × ((List (Int × ((Vec 3 Nat) × (Int × (Int × Unit))))) × Unit)))) × (Int × (Int × ((List Int) × ((List Int) × Unit)))))), ()))
          else
          let x813 := iSub .i64 (lenI a0.2.2.2.1) 1
          bif (iLt x813 0) then
            some ((a2, (4 : Int), ()), ((((a0.1.1, a0.1.2.1, a0.1.2.2.1, a0.1.2.2.2.1, a0.1.2.2.2.2), a0.2.1, a0.2.2.1, a0.2.2.2.1, a0.2.2.2.2.1, a0.2.2.2.2.2) : ((Int × ((Vec 3 Nat) × ((List (Vec 3 Nat)) × ((List (Int × ((Vec 3 Nat) × (Int × (Int × Unit))))) × Unit)))) × (Int × (Int × ((List Int) × ((List Int) × Unit)))))), ()))
          else
          bif inB x813 (List.length a0.2.2.2.2.1) then
            bif (iLt 0 (List.getD a0.2.2.2.2.1 x813.toNat (0 : Int))) then
              bif inB x813 (List.length a0.2.2.2.2.1) then
                bif inB x813 (List.length a0.2.2.2.2.1) then
                  bif inB x813 (List.length a0.2.2.2.1) then
                    some (((List.getD a0.2.2.2.1 x813.toNat (0 : Int)), (0 : Int), ()), ((((a0.1.1, a0.1.2.1, a0.1.2.2.1, a0.1.2.2.2.1, a0.1.2.2.2.2), a0.2.1, a0.2.2.1, a0.2.2.2.1, List.set a0.2.2.2.2.1 x813.toNat (iSub .i64 (List.getD a0.2.2.2.2.1 x813.toNat (0 : Int)) 1), a0.2.2.2.2.2) : ((Int × ((Vec 3 Nat) × ((List (Vec 3 Nat)) × ((List (Int × ((Vec 3 Nat) × (Int × (Int × Unit))))) × Unit)))) × (Int × (Int × ((List Int) × ((List Int) × Unit)))))), ()))
                  else none
                else none
              else none
            else
            bif inS 0 x813 (List.length a0.2.2.2.1) then
              bif inS 0 x813 (List.length a0.2.2.2.2.1) then
                some (((iAdd .i64 a2 1), (0 : Int), ()), ((((a0.1.1, a0.1.2.1, a0.1.2.2.1, a0.1.2.2.2.1, a0.1.2.2.2.2), a0.2.1, a0.2.2.1, List.take x813.toNat (List.drop 0 a0.2.2.2.1), List.take x813.toNat (List.drop 0 a0.2.2.2.2.1), a0.2.2.2.2.2) : ((Int × ((Vec 3 Nat) × ((List (Vec 3 Nat)) × ((List (Int × ((Vec 3 Nat) × (Int × (Int × Unit))))) × Unit)))) × (Int × (Int × ((List Int) × ((List Int) × Unit)))))), ()))
              else none
            else none
          else none
        else
        some ((a2, (5 : Int), ()), ((((a0.1.1, a0.1.2.1, a0.1.2.2.1, a0.1.2.2.2.1, a0.1.2.2.2.2), a0.2.1, a0.2.2.1, a0.2.2.2.1, a0.2.2.2.2.1, a0.2.2.2.2.2) : ((Int × ((Vec 3 Nat) × ((List (Vec 3 Nat)) × ((List (Int × ((Vec 3 Nat) × (Int × (Int × Unit))))) × Unit)))) × (Int × (Int × ((List Int) × ((List Int) × Unit)))))), ()))
      else
      bif (sEq x786 ([109, 111, 118, 101])) then
        (spec_l08Work_three (((a0.1.1, a0.1.2.1, a0.1.2.2.1, a0.1.2.2.2.1, a0.1.2.2.2.2), a0.2.1, a0.2.2.1, a0.2.2.2.1, a0.2.2.2.2.1, a0.2.2.2.2.2) : ((Int × ((Vec 3 Nat) × ((List (Vec 3 Nat)) × ((List (Int × ((Vec 3 Nat) × (Int × (Int × Unit))))) × Unit)))) × (Int × (Int × ((List Int) × ((List Int) × Unit)))))) y785.1.1).bind fun y823 =>
        some (((iAdd .i64 a2 1), y823.1.1, ()), ((((y823.2.1.1.1, y823.2.1.1.2.1, y823.2.1.1.2.2.1, y823.2.1.1.2.2.2.1, y823.2.1.1.2.2.2.2), y823.2.1.2.1, y823.2.1.2.2.1, y823.2.1.2.2.2.1, y823.2.1.2.2.2.2.1, y823.2.1.2.2.2.2.2) : ((Int × ((Vec 3 Nat) × ((List (Vec 3 Nat)) × ((List (Int × ((Vec 3 Nat) × (Int × (Int × Unit))))) × Unit)))) × (Int × (Int × ((List Int) × ((List Int) × Unit)))))), ()))
      else
      bif (sEq x786 ([101, 110, 100])) then
        bif (! (iEq (lenI y785.1.1) 1)) then
          some ((a2, (5 : Int), ()), ((((a0.1.1, a0.1.2.1, a0.1.2.2.1, a0.1.2.2.2.1, a0.1.2.2.2.2), a0.2.1, a0.2.2.1, a0.2.2.2.1, a0.2.2.2.2.1, a0.2.2.2.2.2) : ((Int × ((Vec 3 Nat) × ((List (Vec 3 Nat)) × ((List (Int × ((Vec 3 Nat) × (Int × (Int × Unit))))) × Unit)))) × (Int × (Int × ((List Int) × ((List Int) × Unit)))))), ()))
        else
        let x826 := iSub .i64 (lenI a0.2.2.2.1) 1
        bif (iLt x826 0) then
          some ((a2, (4 : Int), ()), ((((a0.1.1, a0.1.2.1, a0.1.2.2.1, a0.1.2.2.2.1, a0.1.2.2.2.2), a0.2.1, a0.2.2.1, a0.2.2.2.1, a0.2.2.2.2.1, a0.2.2.2.2.2) : ((Int × ((Vec 3 Nat) × ((List (Vec 3 Nat)) × ((List (Int × ((Vec 3 Nat) × (Int × (Int × Unit))))) × Unit)))) × (Int × (Int × ((List Int) × ((List Int) × Unit)))))), ()))
        else
        bif inB x826 (List.length a0.2.2.2.2.1) then
          bif (iLt 0 (List.getD a0.2.2.2.2.1 x826.toNat (0 : Int))) then
            bif inB x826 (List.length a0.2.2.2.2.1) then
              bif inB x826 (List.length a0.2.2.2.2.1) then
                bif inB x826 (List.length a0.2.2.2.1) then
                  some (((List.getD a0.2.2.2.1 x826.toNat (0 : Int)), (0 : Int), ()), ((((a0.1.1, a0.1.2.1, a0.1.2.2.1, a0.1.2.2.2.1, a0.1.2.2.2.2), a0.2.1, a0.2.2.1, a0.2.2.2.1, List.set a0.2.2.2.2.1 x826.toNat (iSub .i64 (List.getD a0.2.2.2.2.1 x826.toNat (0 : Int)) 1), a0.2.2.2.2.2) : ((Int × ((Vec 3 Nat) × ((List (Vec 3 Nat)) × ((List (Int × ((Vec 3 Nat) × (Int × (Int × Unit))))) × Unit)))) × (Int × (Int × ((List Int) × ((List Int) × Unit)))))), ()))
                else none
              else none
            else none
          else
          bif inS 0 x826 (List.length a0.2.2.2.1) then
            bif inS 0 x826 (List.length a0.2.2.2.2.1) then
              some (((iAdd .i64 a2 1), (0 : Int), ()), ((((a0.1.1, a0.1.2.1, a0.1.2.2.1, a0.1.2.2.2.1, a0.1.2.2.2.2), a0.2.1, a0.2.2.1, List.take x826.toNat (List.drop 0 a0.2.2.2.1), List.take x826.toNat (List.drop 0 a0.2.2.2.2.1), a0.2.2.2.2.2) : ((Int × ((Vec 3 Nat) × ((List (Vec 3 Nat)) × ((List (Int × ((Vec 3 Nat) × (Int × (Int × Unit))))) × Unit)))) × (Int × (Int × ((List Int) × ((List Int) × Unit)))))), ()))
            else none
          else none
        else none
      else
      some ((a2, (5 : Int), ()), ((((a0.1.1, a0.1.2.1, a0.1.2.2.1, a0.1.2.2.2.1, a0.1.2.2.2.2), a0.2.1, a0.2.2.1, a0.2.2.2.1, a0.2.2.2.2.1, a0.2.2.2.2.2) : ((Int × ((Vec 3 Nat) × ((List (Vec 3 Nat)) × ((List (Int × ((Vec 3 Nat) × (Int × (Int × Unit))))) × Unit)))) × (Int × (Int × ((List Int) × ((List Int) × Unit)))))), ()))
    else
    let x834 := sEq x786 ([102, 105, 120])
    bif x834 then
      bif x834 then
        bif (! (iEq (lenI y785.1.1) 2)) then
          some ((a2, (5 : Int), ()), ((((a0.1.1, a0.1.2.1, a0.1.2.2.1, a0.1.2.2.2.1, a0.1.2.2.2.2), a0.2.1, a0.2.2.1, a0.2.2.2.1, a0.2.2.2.2.1, a0.2.2.2.2.2) : ((Int × ((Vec 3 Nat) × ((List (Vec 3 Nat)) × ((List (Int × ((Vec 3 Nat) × (Int × (Int × Unit))))) × Unit)))) × (Int × (Int × ((List Int) × ((List Int) × Unit)))))), ()))
        else
        bif inB 1 (List.length y785.1.1) then
          (spec_l08Whole (List.getD y785.1.1 1 ([] : List UInt8))).bind fun y837 =>
          bif (! y837.1.2.1) then
            some ((a2, (5 : Int), ()), ((((a0.1.1, a0.1.2.1, a0.1.2.2.1, a0.1.2.2.2.1, a0.1.2.2.2.2), a0.2.1, a0.2.2.1, a0.2.2.2.1, a0.2.2.2.2.1, a0.2.2.2.2.2) : ((Int × ((Vec 3 Nat) × ((List (Vec 3 Nat)) × ((List (Int × ((Vec 3 Nat) × (Int × (Int × Unit))))) × Unit)))) × (Int × (Int × ((List Int) × ((List Int) × Unit)))))), ()))
          else
          bif inB 0 (List.length y785.1.1) then
            (spec_l08Work_one (((a0.1.1, a0.1.2.1, a0.1.2.2.1, a0.1.2.2.2.1, a0.1.2.2.2.2), a0.2.1, a0.2.2.1, a0.2.2.2.1, a0.2.2.2.2.1, a0.2.2.2.2.2) : ((Int × ((Vec 3 Nat) × ((List (Vec 3 Nat)) × ((List (Int × ((Vec 3 Nat) × (Int × (Int × Unit))))) × Unit)))) × (Int × (Int × ((List Int) × ((List Int) × Unit)))))) (List.getD y785.1.1 0 ([] : List UInt8)) y837.1.1 a2).bind fun y841 =>
            some (((iAdd .i64 a2 1), y841.1.1, ()), ((((y841.2.1.1.1, y841.2.1.1.2.1, y841.2.1.1.2.2.1, y841.2.1.1.2.2.2.1, y841.2.1.1.2.2.2.2), y841.2.1.2.1, y841.2.1.2.2.1, y841.2.1.2.2.2.1, y841.2.1.2.2.2.2.1, y841.2.1.2.2.2.2.2) : ((Int × ((Vec 3 Nat) × ((List (Vec 3 Nat)) × ((List (Int × ((Vec 3 Nat) × (Int × (Int × Unit))))) × Unit)))) × (Int × (Int × ((List Int) × ((List Int) × Unit)))))), ()))
          else none
        else none
      else
      let x842 := sEq x786 ([115, 116, 97, 114, 116])
      bif x842 then
        bif x842 then
          (spec_l08Work_three (((a0.1.1, a0.1.2.1, a0.1.2.2.1, a0.1.2.2.2.1, a0.1.2.2.2.2), a0.2.1, a0.2.2.1, a0.2.2.2.1, a0.2.2.2.2.1, a0.2.2.2.2.2) : ((Int × ((Vec 3 Nat) × ((List (Vec 3 Nat)) × ((List (Int × ((Vec 3 Nat) × (Int × (Int × Unit))))) × Unit)))) × (Int × (Int × ((List Int) × ((List Int) × Unit)))))) y785.1.1).bind fun y844 =>
          some (((iAdd .i64 a2 1), y844.1.1, ()), ((((y844.2.1.1.1, y844.2.1.1.2.1, y844.2.1.1.2.2.1, y844.2.1.1.2.2.2.1, y844.2.1.1.2.2.2.2), y844.2.1.2.1, y844.2.1.2.2.1, y844.2.1.2.2.2.1, y844.2.1.2.2.2.2.1, y844.2.1.2.2.2.2.2) : ((Int × ((Vec 3 Nat) × ((List (Vec 3 Nat)) × ((List (Int × ((Vec 3 Nat) × (Int × (Int × Unit))))) × Unit)))) × (Int × (Int × ((List Int) × ((List Int) × Unit)))))), ()))
        else
        bif (sEq x786 ([101, 110, 100])) then
          bif (! (iEq (lenI y785.1.1) 1)) then
            some ((a2, (5 : Int), ()), ((((a0.1.1, a0.1.2.1, a0.1.2.2.1, a0.1.2.2.2.1, a0.1.2.2.2.2), a0.2.1, a0.2.2.1, a0.2.2.2.1, a0.2.2.2.2.1, a0.2.2.2.2.2) : ((Int × ((Vec 3 Nat) × ((List (Vec 3 Nat)) × ((List (Int × ((Vec 3 Nat) × (Int × (Int × Unit))))) × Unit)))) × (Int × (Int × ((List Int) × ((List Int) × Unit)))))), ()))
          else
          let x847 := iSub .i64 (lenI a0.2.2.2.1) 1
          bif (iLt x847 0) then
            some ((a2, (4 : Int), ()), ((((a0.1.1, a0.1.2.1, a0.1.2.2.1, a0.1.2.2.2.1, a0.1.2.2.2.2), a0.2.1, a0.2.2.1, a0.2.2.2.1, a0.2.2.2.2.1, a0.2.2.2.2.2) : ((Int × ((Vec 3 Nat) × ((List (Vec 3 Nat)) × ((List (Int × ((Vec 3 Nat) × (Int × (Int × Unit))))) × Unit)))) × (Int × (Int × ((List Int) × ((List Int) × Unit)))))), ()))
          else
          bif inB x847 (List.length a0.2.2.2.2.1) then
            bif (iLt 0 (List.getD a0.2.2.2.2.1 x847.toNat (0 : Int))) then
              bif inB x847 (List.length a0.2.2.2.2.1) then
                bif inB x847 (List.length a0.2.2.2.2.1) then
                  bif inB x847 (List.length a0.2.2.2.1) then
                    some (((List.getD a0.2.2.2.1 x847.toNat (0 : Int)), (0 : Int), ()), ((((a0.1.1, a0.1.2.1, a0.1.2.2.1, a0.1.2.2.2.1, a0.1.2.2.2.2), a0.2.1, a0.2.2.1, a0.2.2.2.1, List.set a0.2.2.2.2.1 x847.toNat (iSub .i64 (List.getD a0.2.2.2.2.1 x847.toNat (0 : Int)) 1), a0.2.2.2.2.2) : ((Int × ((Vec 3 Nat) × ((List (Vec 3 Nat)) × ((List (Int × ((Vec 3 Nat) × (Int × (Int × Unit))))) × Unit)))) × (Int × (Int × ((List Int) × ((List Int) × Unit)))))), ()))
                  else none
                else none
              else none
            else
            bif inS 0 x847 (List.length a0.2.2.2.1) then
              bif inS 0 x847 (List.length a0.2.2.2.2.1) then
                some (((iAdd .i64 a2 1), (0 : Int), ()), ((((a0.1.1, a0.1.2.1, a0.1.2.2.1, a0.1.2.2.2.1, a0.1.2.2.2.2), a0.2.1, a0.2.2.1, List.take x847.toNat (List.drop 0 a0.2.2.2.1), List.take x847.toNat (List.drop 0 a0.2.2.2.2.1), a0.2.2.2.2.2) : ((Int × ((Vec 3 Nat) × ((List (Vec 3 Nat)) × ((List (Int × ((Vec 3 Nat) × (Int × (Int × Unit))))) × Unit)))) × (Int × (Int × ((List Int) × ((List Int) × Unit)))))), ()))
              else none
            else none
          else none
        else
        some ((a2, (5 : Int), ()), ((((a0.1.1, a0.1.2.1, a0.1.2.2.1, a0.1.2.2.2.1, a0.1.2.2.2.2), a0.2.1, a0.2.2.1, a0.2.2.2.1, a0.2.2.2.2.1, a0.2.2.2.2.2) : ((Int × ((Vec 3 Nat) × ((List (Vec 3 Nat)) × ((List (Int × ((Vec 3 Nat) × (Int × (Int × Unit))))) × Unit)))) × (Int × (Int × ((List Int) × ((List Int) × Unit)))))), ()))
      else
      let x855 := sEq x786 ([98, 101, 97, 99, 111, 110])
      bif x855 then
        bif x855 then
          (spec_l08Work_three (((a0.1.1, a0.1.2.1, a0.1.2.2.1, a0.1.2.2.2.1, a0.1.2.2.2.2), a0.2.1, a0.2.2.1, a0.2.2.2.1, a0.2.2.2.2.1, a0.2.2.2.2.2) : ((Int × ((Vec 3 Nat) × ((List (Vec 3 Nat)) × ((List (Int × ((Vec 3 Nat) × (Int × (Int × Unit))))) × Unit)))) × (Int × (Int × ((List Int) × ((List Int) × Unit)))))) y785.1.1).bind fun y857 =>
          some (((iAdd .i64 a2 1), y857.1.1, ()), ((((y857.2.1.1.1, y857.2.1.1.2.1, y857.2.1.1.2.2.1, y857.2.1.1.2.2.2.1, y857.2.1.1.2.2.2.2), y857.2.1.2.1, y857.2.1.2.2.1, y857.2.1.2.2.2.1, y857.2.1.2.2.2.2.1, y857.2.1.2.2.2.2.2) : ((Int × ((Vec 3 Nat) × ((List (Vec 3 Nat)) × ((List (Int × ((Vec 3 Nat) × (Int × (Int × Unit))))) × Unit)))) × (Int × (Int × ((List Int) × ((List Int) × Unit)))))), ()))
        else
        bif (sEq x786 ([101, 110, 100])) then
          bif (! (iEq (lenI y785.1.1) 1)) then
            some ((a2, (5 : Int), ()), ((((a0.1.1, a0.1.2.1, a0.1.2.2.1, a0.1.2.2.2.1, a0.1.2.2.2.2), a0.2.1, a0.2.2.1, a0.2.2.2.1, a0.2.2.2.2.1, a0.2.2.2.2.2) : ((Int × ((Vec 3 Nat) × ((List (Vec 3 Nat)) × ((List (Int × ((Vec 3 Nat) × (Int × (Int × Unit))))) × Unit)))) × (Int × (Int × ((List Int) × ((List Int) × Unit)))))), ()))
          else
          let x860 := iSub .i64 (lenI a0.2.2.2.1) 1
          bif (iLt x860 0) then
            some ((a2, (4 : Int), ()), ((((a0.1.1, a0.1.2.1, a0.1.2.2.1, a0.1.2.2.2.1, a0.1.2.2.2.2), a0.2.1, a0.2.2.1, a0.2.2.2.1, a0.2.2.2.2.1, a0.2.2.2.2.2) : ((Int × ((Vec 3 Nat) × ((List (Vec 3 Nat)) × ((List (Int × ((Vec 3 Nat) × (Int × (Int × Unit))))) × Unit)))) × (Int × (Int × ((List Int) × ((List Int) × Unit)))))), ()))
          else
          bif inB x860 (List.length a0.2.2.2.2.1) then
            bif (iLt 0 (List.getD a0.2.2.2.2.1 x860.toNat (0 : Int))) then
              bif inB x860 (List.length a0.2.2.2.2.1) then
                bif inB x860 (List.length a0.2.2.2.2.1) then
                  bif inB x860 (List.length a0.2.2.2.1) then
                    some (((List.getD a0.2.2.2.1 x860.toNat (0 : Int)), (0 : Int), ()), ((((a0.1.1, a0.1.2.1, a0.1.2.2.1, a0.1.2.2.2.1, a0.1.2.2.2.2), a0.2.1, a0.2.2.1, a0.2.2.2.1, List.set a0.2.2.2.2.1 x860.toNat (iSub .i64 (List.getD a0.2.2.2.2.1 x860.toNat (0 : Int)) 1), a0.2.2.2.2.2) : ((Int × ((Vec 3 Nat) × ((List (Vec 3 Nat)) × ((List (Int × ((Vec 3 Nat) × (Int × (Int × Unit))))) × Unit)))) × (Int × (Int × ((List Int) × ((List Int) × Unit)))))), ()))
                  else none
                else none
              else none
            else
            bif inS 0 x860 (List.length a0.2.2.2.1) then
              bif inS 0 x860 (List.length a0.2.2.2.2.1) then
                some (((iAdd .i64 a2 1), (0 : Int), ()), ((((a0.1.1, a0.1.2.1, a0.1.2.2.1, a0.1.2.2.2.1, a0.1.2.2.2.2), a0.2.1, a0.2.2.1, List.take x860.toNat (List.drop 0 a0.2.2.2.1), List.take x860.toNat (List.drop 0 a0.2.2.2.2.1), a0.2.2.2.2.2) : ((Int × ((Vec 3 Nat) × ((List (Vec 3 Nat)) × ((List (Int × ((Vec 3 Nat) × (Int × (Int × Unit))))) × Unit)))) × (Int × (Int × ((List Int) × ((List Int) × Unit)))))), ()))
              else none
            else none
          else none
        else
        some ((a2, (5 : Int), ()), ((((a0.1.1, a0.1.2.1, a0.1.2.2.1, a0.1.2.2.2.1, a0.1.2.2.2.2), a0.2.1, a0.2.2.1, a0.2.2.2.1, a0.2.2.2.2.1, a0.2.2.2.2.2) : ((Int × ((Vec 3 Nat) × ((List (Vec 3 Nat)) × ((List (Int × ((Vec 3 Nat) × (Int × (Int × Unit))))) × Unit)))) × (Int × (Int × ((List Int) × ((List Int) × Unit)))))), ()))
      else
      bif (sEq x786 ([109, 111, 118, 101])) then
        (spec_l08Work_three (((a0.1.1, a0.1.2.1, a0.1.2.2.1, a0.1.2.2.2.1, a0.1.2.2.2.2), a0.2.1, a0.2.2.1, a0.2.2.2.1, a0.2.2.2.2.1, a0.2.2.2.2.2) : ((Int × ((Vec 3 Nat) × ((List (Vec 3 Nat)) × ((List (Int × ((Vec 3 Nat) × (Int × (Int × Unit))))) × Unit)))) × (Int × (Int × ((List Int) × ((List Int) × Unit)))))) y785.1.1).bind fun y870 =>
        some (((iAdd .i64 a2 1), y870.1.1, ()), ((((y870.2.1.1.1, y870.2.1.1.2.1, y870.2.1.1.2.2.1, y870.2.1.1.2.2.2.1, y870.2.1.1.2.2.2.2), y870.2.1.2.1, y870.2.1.2.2.1, y870.2.1.2.2.2.1, y870.2.1.2.2.2.2.1, y870.2.1.2.2.2.2.2) : ((Int × ((Vec 3 Nat) × ((List (Vec 3 Nat)) × ((List (Int × ((Vec 3 Nat) × (Int × (Int × Unit))))) × Unit)))) × (Int × (Int × ((List Int) × ((List Int) × Unit)))))), ()))
      else
      bif (sEq x786 ([101, 110, 100])) then
        bif (! (iEq (lenI y785.1.1) 1)) then
          some ((a2, (5 : Int), ()), ((((a0.1.1, a0.1.2.1, a0.1.2.2.1, a0.1.2.2.2.1, a0.1.2.2.2.2), a0.2.1, a0.2.2.1, a0.2.2.2.1, a0.2.2.2.2.1, a0.2.2.2.2.2) : ((Int × ((Vec 3 Nat) × ((List (Vec 3 Nat)) × ((List (Int × ((Vec 3 Nat) × (Int × (Int × Unit))))) × Unit)))) × (Int × (Int × ((List Int) × ((List Int) × Unit)))))), ()))
        else
        let x873 := iSub .i64 (lenI a0.2.2.2.1) 1
        bif (iLt x873 0) then
          some ((a2, (4 : Int), ()), ((((a0.1.1, a0.1.2.1, a0.1.2.2.1, a0.1.2.2.2.1, a0.1.2.2.2.2), a0.2.1, a0.2.2.1, a0.2.2.2.1, a0.2.2.2.2.1, a0.2.2.2.2.2) : ((Int × ((Vec 3 Nat) × ((List (Vec 3 Nat)) × ((List (Int × ((Vec 3 Nat) × (Int × (Int × Unit))))) × Unit)))) × (Int × (Int × ((List Int) × ((List Int) × Unit)))))), ()))
        else
        bif inB x873 (List.length a0.2.2.2.2.1) then
          bif (iLt 0 (List.getD a0.2.2.2.2.1 x873.toNat (0 : Int))) then
            bif inB x873 (List.length a0.2.2.2.2.1) then
              bif inB x873 (List.length a0.2.2.2.2.1) then
                bif inB x873 (List.length a0.2.2.2.1) then
                  some (((List.getD a0.2.2.2.1 x873.toNat (0 : Int)), (0 : Int), ()), ((((a0.1.1, a0.1.2.1, a0.1.2.2.1, a0.1.2.2.2.1, a0.1.2.2.2.2), a0.2.1, a0.2.2.1, a0.2.2.2.1, List.set a0.2.2.2.2.1 x873.toNat (iSub .i64 (List.getD a0.2.2.2.2.1 x873.toNat (0 : Int)) 1), a0.2.2.2.2.2) : ((Int × ((Vec 3 Nat) × ((List (Vec 3 Nat)) × ((List (Int × ((Vec 3 Nat) × (Int × (Int × Unit))))) × Unit)))) × (Int × (Int × ((List Int) × ((List Int) × Unit)))))), ()))
                else none
              else none
            else none
          else
          bif inS 0 x873 (List.length a0.2.2.2.1) then
            bif inS 0 x873 (List.length a0.2.2.2.2.1) then
              some (((iAdd .i64 a2 1), (0 : Int), ()), ((((a0.1.1, a0.1.2.1, a0.1.2.2.1, a0.1.2.2.2.1, a0.1.2.2.2.2), a0.2.1, a0.2.2.1, List.take x873.toNat (List.drop 0 a0.2.2.2.1), List.take x873.toNat (List.drop 0 a0.2.2.2.2.1), a0.2.2.2.2.2) : ((Int × ((Vec 3 Nat) × ((List (Vec 3 Nat)) × ((List (Int × ((Vec 3 Nat) × (Int × (Int × Unit))))) × Unit)))) × (Int × (Int × ((List Int) × ((List Int) × Unit)))))), ()))
            else none
          else none
        else none
      else
      some ((a2, (5 : Int), ()), ((((a0.1.1, a0.1.2.1, a0.1.2.2.1, a0.1.2.2.2.1, a0.1.2.2.2.2), a0.2.1, a0.2.2.1, a0.2.2.2.1, a0.2.2.2.2.1, a0.2.2.2.2.2) : ((Int × ((Vec 3 Nat) × ((List (Vec 3 Nat)) × ((List (Int × ((Vec 3 Nat) × (Int × (Int × Unit))))) × Unit)))) × (Int × (Int × ((List Int) × ((List Int) × Unit)))))), ()))
    else
    let x881 := sEq x786 ([104, 111, 108, 100])
    bif x881 then
      bif x881 then
        bif (! (iEq (lenI y785.1.1) 2)) then
          some ((a2, (5 : Int), ()), ((((a0.1.1, a0.1.2.1, a0.1.2.2.1, a0.1.2.2.2.1, a0.1.2.2.2.2), a0.2.1, a0.2.2.1, a0.2.2.2.1, a0.2.2.2.2.1, a0.2.2.2.2.2) : ((Int × ((Vec 3 Nat) × ((List (Vec 3 Nat)) × ((List (Int × ((Vec 3 Nat) × (Int × (Int × Unit))))) × Unit)))) × (Int × (Int × ((List Int) × ((List Int) × Unit)))))), ()))
        else
        bif inB 1 (List.length y785.1.1) then
          (spec_l08Whole (List.getD y785.1.1 1 ([] : List UInt8))).bind fun y884 =>
          bif (! y884.1.2.1) then
            some ((a2, (5 : Int), ()), ((((a0.1.1, a0.1.2.1, a0.1.2.2.1, a0.1.2.2.2.1, a0.1.2.2.2.2), a0.2.1, a0.2.2.1, a0.2.2.2.1, a0.2.2.2.2.1, a0.2.2.2.2.2) : ((Int × ((Vec 3 Nat) × ((List (Vec 3 Nat)) × ((List (Int × ((Vec 3 Nat) × (Int × (Int × Unit))))) × Unit)))) × (Int × (Int × ((List Int) × ((List Int) × Unit)))))), ()))
          else
          bif inB 0 (List.length y785.1.1) then
            (spec_l08Work_one (((a0.1.1, a0.1.2.1, a0.1.2.2.1, a0.1.2.2.2.1, a0.1.2.2.2.2), a0.2.1, a0.2.2.1, a0.2.2.2.1, a0.2.2.2.2.1, a0.2.2.2.2.2) : ((Int × ((Vec 3 Nat) × ((List (Vec 3 Nat)) × ((List (Int × ((Vec 3 Nat) × (Int × (Int × Unit))))) × Unit)))) × (Int × (Int × ((List Int) × ((List Int) × Unit)))))) (List.getD y785.1.1 0 ([] : List UInt8)) y884.1.1 a2).bind fun y888 =>
            some (((iAdd .i64 a2 1), y888.1.1, ()), ((((y888.2.1.1.1, y888.2.1.1.2.1, y888.2.1.1.2.2.1, y888.2.1.1.2.2.2.1, y888.2.1.1.2.2.2.2), y888.2.1.2.1, y888.2.1.2.2.1, y888.2.1.2.2.2.1, y888.2.1.2.2.2.2.1, y888.2.1.2.2.2.2.2) : ((Int × ((Vec 3 Nat) × ((List (Vec 3 Nat)) × ((List (Int × ((Vec 3 Nat) × (Int × (Int × Unit))))) × Unit)))) × (Int × (Int × ((List Int) × ((List Int) × Unit)))))), ()))
          else none
        else none
      else
      let x889 := sEq x786 ([115, 116, 97, 114, 116])
      bif x889 then
        bif x889 then
          (spec_l08Work_three (((a0.1.1, a0.1.2.1, a0.1.2.2.1, a0.1.2.2.2.1, a0.1.2.2.2.2), a0.2.1, a0.2.2.1, a0.2.2.2.1, a0.2.2.2.2.1, a0.2.2.2.2.2) : ((Int × ((Vec 3 Nat) × ((List (Vec 3 Nat)) × ((List (Int × ((Vec 3 Nat) × (Int × (Int × Unit))))) × Unit)))) × (Int × (Int × ((List Int) × ((List Int) × Unit)))))) y785.1.1).bind fun y891 =>
          some (((iAdd .i64 a2 1), y891.1.1, ()), ((((y891.2.1.1.1, y891.2.1.1.2.1, y891.2.1.1.2.2.1, y891.2.1.1.2.2.2.1, y891.2.1.1.2.2.2.2), y891.2.1.2.1, y891.2.1.2.2.1, y891.2.1.2.2.2.1, y891.2.1.2.2.2.2.1, y891.2.1.2.2.2.2.2) : ((Int × ((Vec 3 Nat) × ((List (Vec 3 Nat)) × ((List (Int × ((Vec 3 Nat) × (Int × (Int × Unit))))) × Unit)))) × (Int × (Int × ((List Int) × ((List Int) × Unit)))))), ()))
        else
        bif (sEq x786 ([101, 110, 100])) then
          bif (! (iEq (lenI y785.1.1) 1)) then
            some ((a2, (5 : Int), ()), ((((a0.1.1, a0.1.2.1, a0.1.2.2.1, a0.1.2.2.2.1, a0.1.2.2.2.2), a0.2.1, a0.2.2.1, a0.2.2.2.1, a0.2.2.2.2.1, a0.2.2.2.2.2) : ((Int × ((Vec 3 Nat) × ((List (Vec 3 Nat)) × ((List (Int × ((Vec 3 Nat) × (Int × (Int × Unit))))) × Unit)))) × (Int × (Int × ((List Int) × ((List Int) × Unit)))))), ()))
          else
          let x894 := iSub .i64 (lenI a0.2.2.2.1) 1
          bif (iLt x894 0) then
            some ((a2, (4 : Int), ()), ((((a0.1.1, a0.1.2.1, a0.1.2.2.1, a0.1.2.2.2.1, a0.1.2.2.2.2), a0.2.1, a0.2.2.1, a0.2.2.2.1, a0.2.2.2.2.1, a0.2.2.2.2.2) : ((Int × ((Vec 3 Nat) × ((List (Vec 3 Nat)) × ((List (Int × ((Vec 3 Nat) × (Int × (Int × Unit))))) × Unit)))) × (Int × (Int × ((List Int) × ((List Int) × Unit)))))), ()))
          else
          bif inB x894 (List.length a0.2.2.2.2.1) then
            bif (iLt 0 (List.getD a0.2.2.2.2.1 x894.toNat (0 : Int))) then
              bif inB x894 (List.length a0.2.2.2.2.1) then
                bif inB x894 (List.length a0.2.2.2.2.1) then
                  bif inB x894 (List.length a0.2.2.2.1) then
                    some (((List.getD a0.2.2.2.1 x894.toNat (0 : Int)), (0 : Int), ()), ((((a0.1.1, a0.1.2.1, a0.1.2.2.1, a0.1.2.2.2.1, a0.1.2.2.2.2), a0.2.1, a0.2.2.1, a0.2.2.2.1, List.set a0.2.2.2.2.1 x894.toNat (iSub .i64 (List.getD a0.2.2.2.2.1 x894.toNat (0 : Int)) 1), a0.2.2.2.2.2) : ((Int × ((Vec 3 Nat) × ((List (Vec 3 Nat)) × ((List (Int × ((Vec 3 Nat) × (Int × (Int × Unit))))) × Unit)))) × (Int × (Int × ((List Int) × ((List Int) × Unit)))))), ()))
                  else none
                else none
              else none
            else
            bif inS 0 x894 (List.length a0.2.2.2.1) then
              bif inS 0 x894 (List.length a0.2.2.2.2.1) then
                some (((iAdd .i64 a2 1), (0 : Int), ()), ((((a0.1.1, a0.1.2.1, a0.1.2.2.1, a0.1.2.2.2.1, a0.1.2.2.2.2), a0.2.1, a0.2.2.1, List.take x894.toNat (List.drop 0 a0.2.2.2.1), List.take x894.toNat (List.drop 0 a0.2.2.2.2.1), a0.2.2.2.2.2) : ((Int × ((Vec 3 Nat) × ((List (Vec 3 Nat)) × ((List (Int × ((Vec 3 Nat) × (Int × (Int × Unit))))) × Unit)))) × (Int × (Int × ((List Int) × ((List Int) × Unit)))))), ()))
              else none
            else none
          else none
        else
        some ((a2, (5 : Int), ()), ((((a0.1.1, a0.1.2.1, a0.1.2.2.1, a0.1.2.2.2.1, a0.1.2.2.2.2), a0.2.1, a0.2.2.1, a0.2.2.2.1, a0.2.2.2.2.1, a0.2.2.2.2.2) : ((Int × ((Vec 3 Nat) × ((List (Vec 3 Nat)) × ((List (Int × ((Vec 3 Nat) × (Int × (Int × Unit))))) × Unit)))) × (Int × (Int × ((List Int) × ((List Int) × Unit)))))), ()))
      else
      let x902 := sEq x786 ([98, 101, 97, 99, 111, 110])
      bif x902 then
        bif x902 then
          (spec_l08Work_three (((a0.1.1, a0.1.2.1, a0.1.2.2.1, a0.1.2.2.2.1, a0.1.2.2.2.2), a0.2.1, a0.2.2.1, a0.2.2.2.1, a0.2.2.2.2.1, a0.2.2.2.2.2) : ((Int × ((Vec 3 Nat) × ((List (Vec 3 Nat)) × ((List (Int × ((Vec 3 Nat) × (Int × (Int × Unit))))) × Unit)))) × (Int × (Int × ((List Int) × ((List Int) × Unit)))))) y785.1.1).bind fun y904 =>
          some (((iAdd .i64 a2 1), y904.1.1, ()), ((((y904.2.1.1.1, y904.2.1.1.2.1, y904.2.1.1.2.2.1, y904.2.1.1.2.2.2.1, y904.2.1.1.2.2.2.2), y904.2.1.2.1, y904.2.1.2.2.1, y904.2.1.2.2.2.1, y904.2.1.2.2.2.2.1, y904.2.1.2.2.2.2.2) : ((Int × ((Vec 3 Nat) × ((List (Vec 3 Nat)) × ((List (Int × ((Vec 3 Nat) × (Int × (Int × Unit))))) × Unit)))) × (Int × (Int × ((List Int) × ((List Int) × Unit)))))), ()))
        else
        bif (sEq x786 ([101, 110, 100])) then
          bif (! (iEq (lenI y785.1.1) 1)) then
            some ((a2, (5 : Int), ()), ((((a0.1.1, a0.1.2.1, a0.1.2.2.1, a0.1.2.2.2.1, a0.1.2.2.2.2), a0.2.1, a0.2.2.1, a0.2.2.2.1, a0.2.2.2.2.1, a0.2.2.2.2.2) : ((Int × ((Vec 3 Nat) × ((List (Vec 3 Nat)) × ((List (Int × ((Vec 3 Nat) × (Int × (Int × Unit))))) × Unit)))) × (Int × (Int × ((List Int) × ((List Int) × Unit)))))), ()))
          else
          let x907 := iSub .i64 (lenI a0.2.2.2.1) 1
          bif (iLt x907 0) then
            some ((a2, (4 : Int), ()), ((((a0.1.1, a0.1.2.1, a0.1.2.2.1, a0.1.2.2.2.1, a0.1.2.2.2.2), a0.2.1, a0.2.2.1, a0.2.2.2.1, a0.2.2.2.2.1, a0.2.2.2.2.2) : ((Int × ((Vec 3 Nat) × ((List (Vec 3 Nat)) × ((List (Int × ((Vec 3 Nat) × (Int × (Int × Unit))))) × Unit)))) × (Int × (Int × ((List Int) × ((List Int) × Unit)))))), ()))
          else
          bif inB x907 (List.length a0.2.2.2.2.1) then
            bif (iLt 0 (List.getD a0.2.2.2.2.1 x907.toNat (0 : Int))) then
              bif inB x907 (List.length a0.2.2.2.2.1) then
                bif inB x907 (List.length a0.2.2.2.2.1) then
                  bif inB x907 (List.length a0.2.2.2.1) then
                    some (((List.getD a0.2.2.2.1 x907.toNat (0 : Int)), (0 : Int), ()), ((((a0.1.1, a0.1.2.1, a0.1.2.2.1, a0.1.2.2.2.1, a0.1.2.2.2.2), a0.2.1, a0.2.2.1, a0.2.2.2.1, List.set a0.2.2.2.2.1 x907.toNat (iSub .i64 (List.getD a0.2.2.2.2.1 x907.toNat (0 : Int)) 1), a0.2.2.2.2.2) : ((Int × ((Vec 3 Nat) × ((List (Vec 3 Nat)) × ((List (Int × ((Vec 3 Nat) × (Int × (Int × Unit))))) × Unit)))) × (Int × (Int × ((List Int) × ((List Int) × Unit)))))), ()))
                  else none
                else none
              else none
            else
            bif inS 0 x907 (List.length a0.2.2.2.1) then
              bif inS 0 x907 (List.length a0.2.2.2.2.1) then
                some (((iAdd .i64 a2 1), (0 : Int), ()), ((((a0.1.1, a0.1.2.1, a0.1.2.2.1, a0.1.2.2.2.1, a0.1.2.2.2.2), a0.2.1, a0.2.2.1, List.take x907.toNat (List.drop 0 a0.2.2.2.1), List.take x907.toNat (List.drop 0 a0.2.2.2.2.1), a0.2.2.2.2.2) : ((Int × ((Vec 3 Nat) × ((List (Vec 3 Nat)) × ((List (Int × ((Vec 3 Nat) × (Int × (Int × Unit))))) × Unit)))) × (Int × (Int × ((List Int) × ((List Int) × Unit)))))), ()))
              else none
            else none
          else none
        else
        some ((a2, (5 : Int), ()), ((((a0.1.1, a0.1.2.1, a0.1.2.2.1, a0.1.2.2.2.1, a0.1.2.2.2.2), a0.2.1, a0.2.2.1, a0.2.2.2.1, a0.2.2.2.2.1, a0.2.2.2.2.2) : ((Int × ((Vec 3 Nat) × ((List (Vec 3 Nat)) × ((List (Int × ((Vec 3 Nat) × (Int × (Int × Unit))))) × Unit)))) × (Int × (Int × ((List Int) × ((List Int) × Unit)))))), ()))
      else
      bif (sEq x786 ([109, 111, 118, 101])) then
        (spec_l08Work_three (((a0.1.1, a0.1.2.1, a0.1.2.2.1, a0.1.2.2.2.1, a0.1.2.2.2.2), a0.2.1, a0.2.2.1, a0.2.2.2.1, a0.2.2.2.2.1, a0.2.2.2.2.2) : ((Int × ((Vec 3 Nat) × ((List (Vec 3 Nat)) × ((List (Int × ((Vec 3 Nat) × (Int × (Int × Unit))))) × Unit)))) × (Int × (Int × ((List Int) × ((List Int) × Unit)))))) y785.1.1).bind fun y917 =>
        some (((iAdd .i64 a2 1), y917.1.1, ()), ((((y917.2.1.1.1, y917.2.1.1.2.1, y917.2.1.1.2.2.1, y917.2.1.1.2.2.2.1, y917.2.1.1.2.2.2.2), y917.2.1.2.1, y917.2.1.2.2.1, y917.2.1.2.2.2.1, y917.2.1.2.2.2.2.1, y917.2.1.2.2.2.2.2) : ((Int × ((Vec 3 Nat) × ((List (Vec 3 Nat)) × ((List (Int × ((Vec 3 Nat) × (Int × (Int × Unit))))) × Unit)))) × (Int × (Int × ((List Int) × ((List Int) × Unit)))))), ()))
      else
      bif (sEq x786 ([101, 110, 100])) then
        bif (! (iEq (lenI y785.1.1) 1)) then
          some ((a2, (5 : Int), ()), ((((a0.1.1, a0.1.2.1, a0.1.2.2.1, a0.1.2.2.2.1, a0.1.2.2.2.2), a0.2.1, a0.2.2.1, a0.2.2.2.1, a0.2.2.2.2.1, a0.2.2.2.2.2) : ((Int × ((Vec 3 Nat) × ((List (Vec 3 Nat)) × ((List (Int × ((Vec 3 Nat) × (Int × (Int × Unit))))) × Unit)))) × (Int × (Int × ((List Int) × ((List Int) × Unit)))))), ()))
        else
        let x920 := iSub .i64 (lenI a0.2.2.2.1) 1
        bif (iLt x920 0) then
          some ((a2, (4 : Int), ()), ((((a0.1.1, a0.1.2.1, a0.1.2.2.1, a0.1.2.2.2.1, a0.1.2.2.2.2), a0.2.1, a0.2.2.1, a0.2.2.2.1, a0.2.2.2.2.1, a0.2.2.2.2.2) : ((Int × ((Vec 3 Nat) × ((List (Vec 3 Nat)) × ((List (Int × ((Vec 3 Nat) × (Int × (Int × Unit))))) × Unit)))) × (Int × (Int × ((List Int) × ((List Int) × Unit)))))), ()))
        else
        bif inB x920 (List.length a0.2.2.2.2.1) then
          bif (iLt 0 (List.getD a0.2.2.2.2.1 x920.toNat (0 : Int))) then
            bif inB x920 (List.length a0.2.2.2.2.1) then
              bif inB x920 (List.length a0.2.2.2.2.1) then
                bif inB x920 (List.length a0.2.2.2.1) then
                  some (((List.getD a0.2.2.2.1 x920.toNat (0 : Int)), (0 : Int), ()), ((((a0.1.1, a0.1.2.1, a0.1.2.2.1, a0.1.2.2.2.1, a0.1.2.2.2.2), a0.2.1, a0.2.2.1, a0.2.2.2.1, List.set a0.2.2.2.2.1 x920.toNat (iSub .i64 (List.getD a0.2.2.2.2.1 x920.toNat (0 : Int)) 1), a0.2.2.2.2.2) : ((Int × ((Vec 3 Nat) × ((List (Vec 3 Nat)) × ((List (Int × ((Vec 3 Nat) × (Int × (Int × Unit))))) × Unit)))) × (Int × (Int × ((List Int) × ((List Int) × Unit)))))), ()))
                else none
              else none
            else none
          else
          bif inS 0 x920 (List.length a0.2.2.2.1) then
            bif inS 0 x920 (List.length a0.2.2.2.2.1) then
              some (((iAdd .i64 a2 1), (0 : Int), ()), ((((a0.1.1, a0.1.2.1, a0.1.2.2.1, a0.1.2.2.2.1, a0.1.2.2.2.2), a0.2.1, a0.2.2.1, List.take x920.toNat (List.drop 0 a0.2.2.2.1), List.take x920.toNat (List.drop 0 a0.2.2.2.2.1), a0.2.2.2.2.2) : ((Int × ((Vec 3 Nat) × ((List (Vec 3 Nat)) × ((List (Int × ((Vec 3 Nat) × (Int × (Int × Unit))))) × Unit)))) × (Int × (Int × ((List Int) × ((List Int) × Unit)))))), ()))
            else none
          else none
        else none
      else
      some ((a2, (5 : Int), ()), ((((a0.1.1, a0.1.2.1, a0.1.2.2.1, a0.1.2.2.2.1, a0.1.2.2.2.2), a0.2.1, a0.2.2.1, a0.2.2.2.1, a0.2.2.2.2.1, a0.2.2.2.2.2) : ((Int × ((Vec 3 Nat) × ((List (Vec 3 Nat)) × ((List (Int × ((Vec 3 Nat) × (Int × (Int × Unit))))) × Unit)))) × (Int × (Int × ((List Int) × ((List Int) × Unit)))))), ()))
    else
    let x928 := sEq x786 ([114, 97, 110, 103, 101])
    bif x928 then
      bif x928 then
        bif (! (iEq (lenI y785.1.1) 2)) then
          some ((a2, (5 : Int), ()), ((((a0.1.1, a0.1.2.1, a0.1.2.2.1, a0.1.2.2.2.1, a0.1.2.2.2.2), a0.2.1, a0.2.2.1, a0.2.2.2.1, a0.2.2.2.2.1, a0.2.2.2.2.2) : ((Int × ((Vec 3 Nat) × ((List (Vec 3 Nat)) × ((List (Int × ((Vec 3 Nat) × (Int × (Int × Unit))))) × Unit)))) × (Int × (Int × ((List Int) × ((List Int) × Unit)))))), ()))
        else
        bif inB 1 (List.length y785.1.1) then
          (spec_l08Whole (List.getD y785.1.1 1 ([] : List UInt8))).bind fun y931 =>
          bif (! y931.1.2.1) then
            some ((a2, (5 : Int), ()), ((((a0.1.1, a0.1.2.1, a0.1.2.2.1, a0.1.2.2.2.1, a0.1.2.2.2.2), a0.2.1, a0.2.2.1, a0.2.2.2.1, a0.2.2.2.2.1, a0.2.2.2.2.2) : ((Int × ((Vec 3 Nat) × ((List (Vec 3 Nat)) × ((List (Int × ((Vec 3 Nat) × (Int × (Int × Unit))))) × Unit)))) × (Int × (Int × ((List Int) × ((List Int) × Unit)))))), ()))
          else
          bif inB 0 (List.length y785.1.1) then
            (spec_l08Work_one (((a0.1.1, a0.1.2.1, a0.1.2.2.1, a0.1.2.2.2.1, a0.1.2.2.2.2), a0.2.1, a0.2.2.1, a0.2.2.2.1, a0.2.2.2.2.1, a0.2.2.2.2.2) : ((Int × ((Vec 3 Nat) × ((List (Vec 3 Nat)) × ((List (Int × ((Vec 3 Nat) × (Int × (Int × Unit))))) × Unit)))) × (Int × (Int × ((List Int) × ((List Int) × Unit)))))) (List.getD y785.1.1 0 ([] : List UInt8)) y931.1.1 a2).bind fun y935 =>
            some (((iAdd .i64 a2 1), y935.1.1, ()), ((((y935.2.1.1.1, y935.2.1.1.2.1, y935.2.1.1.2.2.1, y935.2.1.1.2.2.2.1, y935.2.1.1.2.2.2.2), y935.2.1.2.1, y935.2.1.2.2.1, y935.2.1.2.2.2.1, y935.2.1.2.2.2.2.1, y935.2.1.2.2.2.2.2) : ((Int × ((Vec 3 Nat) × ((List (Vec 3 Nat)) × ((List (Int × ((Vec 3 Nat) × (Int × (Int × Unit))))) × Unit)))) × (Int × (Int × ((List Int) × ((List Int) × Unit)))))), ()))
          else none
        else none
      else
      let x936 := sEq x786 ([115, 116, 97, 114, 116])
      bif x936 then
        bif x936 then
          (spec_l08Work_three (((a0.1.1, a0.1.2.1, a0.1.2.2.1, a0.1.2.2.2.1, a0.1.2.2.2.2), a0.2.1, a0.2.2.1, a0.2.2.2.1, a0.2.2.2.2.1, a0.2.2.2.2.2) : ((Int × ((Vec 3 Nat) × ((List (Vec 3 Nat)) × ((List (Int × ((Vec 3 Nat) × (Int × (Int × Unit))))) × Unit)))) × (Int × (Int × ((List Int) × ((List Int) × Unit)))))) y785.1.1).bind fun y938 =>
          some (((iAdd .i64 a2 1), y938.1.1, ()), ((((y938.2.1.1.1, y938.2.1.1.2.1, y938.2.1.1.2.2.1, y938.2.1.1.2.2.2.1, y938.2.1.1.2.2.2.2), y938.2.1.2.1, y938.2.1.2.2.1, y938.2.1.2.2.2.1, y938.2.1.2.2.2.2.1, y938.2.1.2.2.2.2.2) : ((Int × ((Vec 3 Nat) × ((List (Vec 3 Nat)) × ((List (Int × ((Vec 3 Nat) × (Int × (Int × Unit))))) × Unit)))) × (Int × (Int × ((List Int) × ((List Int) × Unit)))))), ()))
        else
        bif (sEq x786 ([101, 110, 100])) then
          bif (! (iEq (lenI y785.1.1) 1)) then
            some ((a2, (5 : Int), ()), ((((a0.1.1, a0.1.2.1, a0.1.2.2.1, a0.1.2.2.2.1, a0.1.2.2.2.2), a0.2.1, a0.2.2.1, a0.2.2.2.1, a0.2.2.2.2.1, a0.2.2.2.2.2) : ((Int × ((Vec 3 Nat) × ((List (Vec 3 Nat)) × ((List (Int × ((Vec 3 Nat) × (Int × (Int × Unit))))) × Unit)))) × (Int × (Int × ((List Int) × ((List Int) × Unit)))))), ()))
          else
          let x941 := iSub .i64 (lenI a0.2.2.2.1) 1
          bif (iLt x941 0) then
            some ((a2, (4 : Int), ()), ((((a0.1.1, a0.1.2.1, a0.1.2.2.1, a0.1.2.2.2.1, a0.1.2.2.2.2), a0.2.1, a0.2.2.1, a0.2.2.2.1, a0.2.2.2.2.1, a0.2.2.2.2.2) : ((Int × ((Vec 3 Nat) × ((List (Vec 3 Nat)) × ((List (Int × ((Vec 3 Nat) × (Int × (Int × Unit))))) × Unit)))) × (Int × (Int × ((List Int) × ((List Int) × Unit)))))), ()))
          else
          bif inB x941 (List.length a0.2.2.2.2.1) then
            bif (iLt 0 (List.getD a0.2.2.2.2.1 x941.toNat (0 : Int))) then
              bif inB x941 (List.length a0.2.2.2.2.1) then
                bif inB x941 (List.length a0.2.2.2.2.1) then
                  bif inB x941 (List.length a0.2.2.2.1) then
                    some (((List.getD a0.2.2.2.1 x941.toNat (0 : Int)), (0 : Int), ()), ((((a0.1.1, a0.1.2.1, a0.1.2.2.1, a0.1.2.2.2.1, a0.1.2.2.2.2), a0.2.1, a0.2.2.1, a0.2.2.2.1, List.set a0.2.2.2.2.1 x941.toNat (iSub .i64 (List.getD a0.2.2.2.2.1 x941.toNat (0 : Int)) 1), a0.2.2.2.2.2) : ((Int × ((Vec 3 Nat) × ((List (Vec 3 Nat)) × ((List (Int × ((Vec 3 Nat) × (Int × (Int × Unit))))) × Unit)))) × (Int × (Int × ((List Int) × ((List Int) × Unit)))))), ()))
                  else none
                else none
              else none
            else
            bif inS 0 x941 (List.length a0.2.2.2.1) then
              bif inS 0 x941 (List.length a0.2.2.2.2.1) then
                some (((iAdd .i64 a2 1), (0 : Int), ()), ((((a0.1.1, a0.1.2.1, a0.1.2.2.1, a0.1.2.2.2.1, a0.1.2.2.2.2), a0.2.1, a0.2.2.1, List.take x941.toNat (List.drop 0 a0.2.2.2.1), List.take x941.toNat (List.drop 0 a0.2.2.2.2.1), a0.2.2.2.2.2) : ((Int × ((Vec 3 Nat) × ((List (Vec 3 Nat)) × ((List (Int × ((Vec 3 Nat) × (Int × (Int × Unit))))) × Unit)))) × (Int × (Int × ((List Int) × ((List Int) × Unit)))))), ()))
              else none
            else none
          else none
        else
        some ((a2, (5 : Int), ()), ((((a0.1.1, a0.1.2.1, a0.1.2.2.1, a0.1.2.2.2.1, a0.1.2.2.2.2), a0.2.1, a0.2.2.1, a0.2.2.2.1, a0.2.2.2.2.1, a0.2.2.2.2.2) : ((Int × ((Vec 3 Nat) × ((List (Vec 3 Nat)) × ((List (Int × ((Vec 3 Nat) × (Int × (Int × Unit))))) × Unit)))) × (Int × (Int × ((List Int) × ((List Int) × Unit)))))), ()))
      else
      let x949 := sEq x786 ([98, 101, 97, 99, 111, 110])
      bif x949 then
        bif x949 then
          (spec_l08Work_three (((a0.1.1, a0.1.2.1, a0.1.2.2.1, a0.1.2.2.2.1, a0.1.2.2.2.2), a0.2.1, a0.2.2.1, a0.2.2.2.1, a0.2.2.2.2.1, a0.2.2.2.2.2) : ((Int × ((Vec 3 Nat) × ((List (Vec 3 Nat)) × ((List (Int × ((Vec 3 Nat) × (Int × (Int × Unit))))) × Unit)))) × (Int × (Int × ((List Int) × ((List Int) × Unit)))))) y785.1.1).bind fun y951 =>
          some (((iAdd .i64 a2 1), y951.1.1, ()), ((((y951.2.1.1.1, y951.2.1.1.2.1, y951.2.1.1.2.2.1, y951.2.1.1.2.2.2.1, y951.2.1.1.2.2.2.2), y951.2.1.2.1, y951.2.1.2.2.1, y951.2.1.2.2.2.1, y951.2.1.2.2.2.2.1, y951.2.1.2.2.2.2.2) : ((Int × ((Vec 3 Nat) × ((List (Vec 3 Nat)) × ((List (Int × ((Vec 3 Nat) × (Int × (Int × Unit))))) × Unit)))) × (Int × (Int × ((List Int) × ((List Int) × Unit)))))), ()))
        else
        bif (sEq x786 ([101, 110, 100])) then
          bif (! (iEq (lenI y785.1.1) 1)) then
            some ((a2, (5 : Int), ()), ((((a0.1.1, a0.1.2.1, a0.1.2.2.1, a0.1.2.2.2.1, a0.1.2.2.2.2), a0.2.1, a0.2.2.1, a0.2.2.2.1, a0.2.2.2.2.1, a0.2.2.2.2.2) : ((Int × ((Vec 3 Nat) × ((List (Vec 3 Nat)) × ((List (Int × ((Vec 3 Nat) × (Int × (Int × Unit))))) × Unit)))) × (Int × (Int × ((List Int) × ((List Int) × Unit)))))), ()))
          else
          let x954 := iSub .i64 (lenI a0.2.2.2.1) 1
          bif (iLt x954 0) then
            some ((a2, (4 : Int), ()), ((((a0.1.1, a0.1.2.1, a0.1.2.2.1, a0.1.2.2.2.1, a0.1.2.2.2.2), a0.2.1, a0.2.2.1, a0.2.2.2.1, a0.2.2.2.2.1, a0.2.2.2.2.2) : ((Int × ((Vec 3 Nat) × ((List (Vec 3 Nat)) × ((List (Int × ((Vec 3 Nat) × (Int × (Int × Unit))))) × Unit)))) × (Int × (Int × ((List Int) × ((List Int) × Unit)))))), ()))
          else
          bif inB x954 (List.length a0.2.2.2.2.1) then
            bif (iLt 0 (List.getD a0.2.2.2.2.1 x954.toNat (0 : Int))) then
              bif inB x954 (List.length a0.2.2.2.2.1) then
                bif inB x954 (List.length a0.2.2.2.2.1) then
                  bif inB x954 (List.length a0.2.2.2.1) then
                    some (((List.getD a0.2.2.2.1 x954.toNat (0 : Int)), (0 : Int), ()), ((((a0.1.1, a0.1.2.1, a0.1.2.2.1, a0.1.2.2.2.1, a0.1.2.2.2.2), a0.2.1, a0.2.2.1, a0.2.2.2.1, List.set a0.2.2.2.2.1 x954.toNat (iSub .i64 (List.getD a0.2.2.2.2.1 x954.toNat (0 : Int)) 1), a0.2.2.2.2.2) : ((Int × ((Vec 3 Nat) × ((List (Vec 3 Nat)) × ((List (Int × ((Vec 3 Nat) × (Int × (Int × Unit))))) × Unit)))) × (Int × (Int × ((List Int) × ((List Int) × Unit)))))), ()))
                  else none
                else none
              else none
            else
            bif inS 0 x954 (List.length a0.2.2.2.1) then
              bif inS 0 x954 (List.length a0.2.2.2.2.1) then
                some (((iAdd .i64 a2 1), (0 : Int), ()), ((((a0.1.1, a0.1.2.1, a0.1.2.2.1, a0.1.2.2.2.1, a0.1.2.2.2.2), a0.2.1, a0.2.2.1, List.take x954.toNat (List.drop 0 a0.2.2.2.1), List.take x954.toNat (List.drop 0 a0.2.2.2.2.1), a0.2.2.2.2.2) : ((Int × ((Vec 3 Nat) × ((List (Vec 3 Nat)) × ((List (Int × ((Vec 3 Nat) × (Int × (Int × Unit))))) × Unit)))) × (Int × (Int × ((List Int) × ((List Int) × Unit)))))), ()))
              else none
            else none
          else none
        else
        some ((a2, (5 : Int), ()), ((((a0.1.1, a0.1.2.1, a0.1.2.2.1, a0.1.2.2.2.1, a0.1.2.2.2.2), a0.2.1, a0.2.2.1, a0.2.2.2.1, a0.2.2.2.2.1, a0.2.2.2.2.2) : ((Int × ((Vec 3 Nat) × ((List (Vec 3 Nat)) × ((List (Int × ((Vec 3 Nat) × (Int × (Int × Unit))))) × Unit)))) × (Int × (Int × ((List Int) × ((List Int) × Unit)))))), ()))
      else
      bif (sEq x786 ([109, 111, 118, 101])) then
        (spec_l08Work_three (((a0.1.1, a0.1.2.1, a0.1.2.2.1, a0.1.2.2.2.1, a0.1.2.2.2.2), a0.2.1, a0.2.2.1, a0.2.2.2.1, a0.2.2.2.2.1, a0.2.2.2.2.2) : ((Int × ((Vec 3 Nat) × ((List (Vec 3 Nat)) × ((List (Int × ((Vec 3 Nat) × (Int × (Int × Unit))))) × Unit)))) × (Int × (Int × ((List Int) × ((List Int) × Unit)))))) y785.1.1).bind fun y964 =>
        some (((iAdd .i64 a2 1), y964.1.1, ()), ((((y964.2.1.1.1, y964.2.1.1.2.1, y964.2.1.1.2.2.1, y964.2.1.1.2.2.2.1, y964.2.1.1.2.2.2.2), y964.2.1.2.1, y964.2.1.2.2.1, y964.2.1.2.2.2.1, y964.2.1.2.2.2.2.1, y964.2.1.2.2.2.2.2) : ((Int × ((Vec 3 Nat) × ((List (Vec 3 Nat)) × ((List (Int × ((Vec 3 Nat) × (Int × (Int × Unit))))) × Unit)))) × (Int × (Int × ((List Int) × ((List Int) × Unit)))))), ()))
      else
      bif (sEq x786 ([101, 110, 100])) then
        bif (! (iEq (lenI y785.1.1) 1)) then
          some ((a2, (5 : Int), ()), ((((a0.1.1, a0.1.2.1, a0.1.2.2.1, a0.1.2.2.2.1, a0.1.2.2.2.2), a0.2.1, a0.2.2.1, a0.2.2.2.1, a0.2.2.2.2.1, a0.2.2.2.2.2) : ((Int × ((Vec 3 Nat) × ((List (Vec 3 Nat)) × ((List (Int × ((Vec 3 Nat) × (Int × (Int × Unit))))) × Unit)))) × (Int × (Int × ((List Int) × ((List Int) × Unit)))))), ()))
        else
        let x967 := iSub .i64 (lenI a0.2.2.2.1) 1
        bif (iLt x967 0) then
          some ((a2, (4 : Int), ()), ((((a0.1.1, a0.1.2.1, a0.1.2.2.1, a0.1.2.2.2.1, a0.1.2.2.2.2), a0.2.1, a0.2.2.1, a0.2.2.2.1, a0.2.2.2.2.1, a0.2.2.2.2.2) : ((Int × ((Vec 3 Nat) × ((List (Vec 3 Nat)) × ((List (Int × ((Vec 3 Nat) × (Int × (Int × Unit))))) × Unit)))) × (Int × (Int × ((List Int) × ((List Int) × Unit)))))), ()))
        else
        bif inB x967 (List.length a0.2.2.2.2.1) then
          bif (iLt 0 (List.getD a0.2.2.2.2.1 x967.toNat (0 : Int))) then
            bif inB x967 (List.length a0.2.2.2.2.1) then
              bif inB x967 (List.length a0.2.2.2.2.1) then
                bif inB x967 (List.length a0.2.2.2.1) then
                  some (((List.getD a0.2.2.2.1 x967.toNat (0 : Int)), (0 : Int), ()), ((((a0.1.1, a0.1.2.1, a0.1.2.2.1, a0.1.2.2.2.1, a0.1.2.2.2.2), a0.2.1, a0.2.2.1, a0.2.2.2.1, List.set a0.2.2.2.2.1 x967.toNat (iSub .i64 (List.getD a0.2.2.2.2.1 x967.toNat (0 : Int)) 1), a0.2.2.2.2.2) : ((Int × ((Vec 3 Nat) × ((List (Vec 3 Nat)) × ((List (Int × ((Vec 3 Nat) × (Int × (Int × Unit))))) × Unit)))) × (Int × (Int × ((List Int) × ((List Int) × Unit)))))), ()))
                else none
              else none
            else none
          else
          bif inS 0 x967 (List.length a0.2.2.2.1) then
            bif inS 0 x967 (List.length a0.2.2.2.2.1) then
              some (((iAdd .i64 a2 1), (0 : Int), ()), ((((a0.1.1, a0.1.2.1, a0.1.2.2.1, a0.1.2.2.2.1, a0.1.2.2.2.2), a0.2.1, a0.2.2.1, List.take x967.toNat (List.drop 0 a0.2.2.2.1), List.take x967.toNat (List.drop 0 a0.2.2.2.2.1), a0.2.2.2.2.2) : ((Int × ((Vec 3 Nat) × ((List (Vec 3 Nat)) × ((List (Int × ((Vec 3 Nat) × (Int × (Int × Unit))))) × Unit)))) × (Int × (Int × ((List Int) × ((List Int) × Unit)))))), ()))
            else none
          else none
        else none
      else
      some ((a2, (5 : Int), ()), ((((a0.1.1, a0.1.2.1, a0.1.2.2.1, a0.1.2.2.2.1, a0.1.2.2.2.2), a0.2.1, a0.2.2.1, a0.2.2.2.1, a0.2.2.2.2.1, a0.2.2.2.2.2) : ((Int × ((Vec 3 Nat) × ((List (Vec 3 Nat)) × ((List (Int × ((Vec 3 Nat) × (Int × (Int × Unit))))) × Unit)))) × (Int × (Int × ((List Int) × ((List Int) × Unit)))))), ()))
    else
    bif (sEq x786 ([114, 101, 112, 101, 97, 116])) then
      bif (! (iEq (lenI y785.1.1) 2)) then
        some ((a2, (5 : Int), ()), ((((a0.1.1, a0.1.2.1, a0.1.2.2.1, a0.1.2.2.2.1, a0.1.2.2.2.2), a0.2.1, a0.2.2.1, a0.2.2.2.1, a0.2.2.2.2.1, a0.2.2.2.2.2) : ((Int × ((Vec 3 Nat) × ((List (Vec 3 Nat)) × ((List (Int × ((Vec 3 Nat) × (Int × (Int × Unit))))) × Unit)))) × (Int × (Int × ((List Int) × ((List Int) × Unit)))))), ()))
      else
      bif inB 1 (List.length y785.1.1) then
        (spec_l08Whole (List.getD y785.1.1 1 ([] : List UInt8))).bind fun y978 =>
        bif (! y978.1.2.1) then
          some ((a2, (5 : Int), ()), ((((a0.1.1, a0.1.2.1, a0.1.2.2.1, a0.1.2.2.2.1, a0.1.2.2.2.2), a0.2.1, a0.2.2.1, a0.2.2.2.1, a0.2.2.2.2.1, a0.2.2.2.2.2) : ((Int × ((Vec 3 Nat) × ((List (Vec 3 Nat)) × ((List (Int × ((Vec 3 Nat) × (Int × (Int × Unit))))) × Unit)))) × (Int × (Int × ((List Int) × ((List Int) × Unit)))))), ()))
        else
        bif inB 0 (List.length y785.1.1) then
          (spec_l08Work_one (((a0.1.1, a0.1.2.1, a0.1.2.2.1, a0.1.2.2.2.1, a0.1.2.2.2.2), a0.2.1, a0.2.2.1, a0.2.2.2.1, a0.2.2.2.2.1, a0.2.2.2.2.2) : ((Int × ((Vec 3 Nat) × ((List (Vec 3 Nat)) × ((List (Int × ((Vec 3 Nat) × (Int × (Int × Unit))))) × Unit)))) × (Int × (Int × ((List Int) × ((List Int) × Unit)))))) (List.getD y785.1.1 0 ([] : List UInt8)) y978.1.1 a2).bind fun y982 =>
          some (((iAdd .i64 a2 1), y982.1.1, ()), ((((y982.2.1.1.1, y982.2.1.1.2.1, y982.2.1.1.2.2.1, y982.2.1.1.2.2.2.1, y982.2.1.1.2.2.2.2), y982.2.1.2.1, y982.2.1.2.2.1, y982.2.1.2.2.2.1, y982.2.1.2.2.2.2.1, y982.2.1.2.2.2.2.2) : ((Int × ((Vec 3 Nat) × ((List (Vec 3 Nat)) × ((List (Int × ((Vec 3 Nat) × (Int × (Int × Unit))))) × Unit)))) × (Int × (Int × ((List Int) × ((List Int) × Unit)))))), ()))
        else none
      else none
    else
    let x983 := sEq x786 ([115, 116, 97, 114, 116])
    bif x983 then
      bif x983 then
        (spec_l08Work_three (((a0.1.1, a0.1.2.1, a0.1.2.2.1, a0.1.2.2.2.1, a0.1.2.2.2.2), a0.2.1, a0.2.2.1, a0.2.2.2.1, a0.2.2.2.2.1, a0.2.2.2.2.2) : ((Int × ((Vec 3 Nat) × ((List (Vec 3 Nat)) × ((List (Int × ((Vec 3 Nat) × (Int × (Int × Unit))))) × Unit)))) × (Int × (Int × ((List Int) × ((List Int) × Unit)))))) y785.1.1).bind fun y985 =>
        some (((iAdd .i64 a2 1), y985.1.1, ()), ((((y985.2.1.1.1, y985.2.1.1.2.1, y985.2.1.1.2.2.1, y985.2.1.1.2.2.2.1, y985.2.1.1.2.2.2.2), y985.2.1.2.1, y985.2.1.2.2.1, y985.2.1.2.2.2.1, y985.2.1.2.2.2.2.1, y985.2.1.2.2.2.2.2) : ((Int × ((Vec 3 Nat) × ((List (Vec 3 Nat)) × ((List (Int × ((Vec 3 Nat) × (Int × (Int × Unit))))) × Unit)))) × (Int × (Int × ((List Int) × ((List Int) × Unit)))))), ()))
      else
      bif (sEq x786 ([101, 110, 100])) then
        bif (! (iEq (lenI y785.1.1) 1)) then
          some ((a2, (5 : Int), ()), ((((a0.1.1, a0.1.2.1, a0.1.2.2.1, a0.1.2.2.2.1, a0.1.2.2.2.2), a0.2.1, a0.2.2.1, a0.2.2.2.1, a0.2.2.2.2.1, a0.2.2.2.2.2) : ((Int × ((Vec 3 Nat) × ((List (Vec 3 Nat)) × ((List (Int × ((Vec 3 Nat) × (Int × (Int × Unit))))) × Unit)))) × (Int × (Int × ((List Int) × ((List Int) × Unit)))))), ()))
        else
        let x988 := iSub .i64 (lenI a0.2.2.2.1) 1
        bif (iLt x988 0) then
          some ((a2, (4 : Int), ()), ((((a0.1.1, a0.1.2.1, a0.1.2.2.1, a0.1.2.2.2.1, a0.1.2.2.2.2), a0.2.1, a0.2.2.1, a0.2.2.2.1, a0.2.2.2.2.1, a0.2.2.2.2.2) : ((Int × ((Vec 3 Nat) × ((List (Vec 3 Nat)) × ((List (Int × ((Vec 3 Nat) × (Int × (Int × Unit))))) × Unit)))) × (Int × (Int × ((List Int) × ((List Int) × Unit)))))), ()))
        else
        bif inB x988 (List.length a0.2.2.2.2.1) then
          bif (iLt 0 (List.getD a0.2.2.2.2.1 x988.toNat (0 : Int))) then
            bif inB x988 (List.length a0.2.2.2.2.1) then
              bif inB x988 (List.length a0.2.2.2.2.1) then
                bif inB x988 (List.length a0.2.2.2.1) then
                  some (((List.getD a0.2.2.2.1 x988.toNat (0 : Int)), (0 : Int), ()), ((((a0.1.1, a0.1.2.1, a0.1.2.2.1, a0.1.2.2.2.1, a0.1.2.2.2.2), a0.2.1, a0.2.2.1, a0.2.2.2.1, List.set a0.2.2.2.2.1 x988.toNat (iSub .i64 (List.getD a0.2.2.2.2.1 x988.toNat (0 : Int)) 1), a0.2.2.2.2.2) : ((Int × ((Vec 3 Nat) × ((List (Vec 3 Nat)) × ((List (Int × ((Vec 3 Nat) × (Int × (Int × Unit))))) × Unit)))) × (Int × (Int × ((List Int) × ((List Int) × Unit)))))), ()))
                else none
              else none
            else none
          else
          bif inS 0 x988 (List.length a0.2.2.2.1) then
            bif inS 0 x988 (List.length a0.2.2.2.2.1) then
              some (((iAdd .i64 a2 1), (0 : Int), ()), ((((a0.1.1, a0.1.2.1, a0.1.2.2.1, a0.1.2.2.2.1, a0.1.2.2.2.2), a0.2.1, a0.2.2.1, List.take x988.toNat (List.drop 0 a0.2.2.2.1), List.take x988.toNat (List.drop 0 a0.2.2.2.2.1), a0.2.2.2.2.2) : ((Int × ((Vec 3 Nat) × ((List (Vec 3 Nat)) × ((List (Int × ((Vec 3 Nat) × (Int × (Int × Unit))))) × Unit)))) × (Int × (Int × ((List Int) × ((List Int) × Unit)))))), ()))
            else none
          else none
        else none
      else
      some ((a2, (5 : Int), ()), ((((a0.1.1, a0.1.2.1, a0.1.2.2.1, a0.1.2.2.2.1, a0.1.2.2.2.2), a0.2.1, a0.2.2.1, a0.2.2.2.1, a0.2.2.2.2.1, a0.2.2.2.2.2) : ((Int × ((Vec 3 Nat) × ((List (Vec 3 Nat)) × ((List (Int × ((Vec 3 Nat) × (Int × (Int × Unit))))) × Unit)))) × (Int × (Int × ((List Int) × ((List Int) × Unit)))))), ()))
    else
    let x996 := sEq x786 ([98, 101, 97, 99, 111, 110])
    bif x996 then
      bif x996 then
        (spec_l08Work_three (((a0.1.1, a0.1.2.1, a0.1.2.2.1, a0.1.2.2.2.1, a0.1.2.2.2.2), a0.2.1, a0.2.2.1, a0.2.2.2.1, a0.2.2.2.2.1, a0.2.2.2.2.2) : ((Int × ((Vec 3 Nat) × ((List (Vec 3 Nat)) × ((List (Int × ((Vec 3 Nat) × (Int × (Int × Unit))))) × Unit)))) × (Int × (Int × ((List Int) × ((List Int) × Unit)))))) y785.1.1).bind fun y998 =>
        some (((iAdd .i64 a2 1), y998.1.1, ()), ((((y998.2.1.1.1, y998.2.1.1.2.1, y998.2.1.1.2.2.1, y998.2.1.1.2.2.2.1, y998.2.1.1.2.2.2.2), y998.2.1.2.1, y998.2.1.2.2.1, y998.2.1.2.2.2.1, y998.2.1.2.2.2.2.1, y998.2.1.2.2.2.2.2) : ((Int × ((Vec 3 Nat) × ((List (Vec 3 Nat)) × ((List (Int × ((Vec 3 Nat) × (Int × (Int × Unit))))) × Unit)))) × (Int × (Int × ((List Int) × ((List Int) × Unit)))))), ()))
      else
      bif (sEq x786 ([101, 110, 100])) then
        bif (! (iEq (lenI y785.1.1) 1)) then
          some ((a2, (5 : Int), ()), ((((a0.1.1, a0.1.2.1, a0.1.2.2.1, a0.1.2.2.2.1, a0.1.2.2.2.2), a0.2.1, a0.2.2.1, a0.2.2.2.1, a0.2.2.2.2.1, a0.2.2.2.2.2) : ((Int × ((Vec 3 Nat) × ((List (Vec 3 Nat)) × ((List (Int × ((Vec 3 Nat) × (Int × (Int × Unit))))) × Unit)))) × (Int × (Int × ((List Int) × ((List Int) × Unit)))))), ()))
        else
        let x1001 := iSub .i64 (lenI a0.2.2.2.1) 1
        bif (iLt x1001 0) then
          some ((a2, (4 : Int), ()), ((((a0.1.1, a0.1.2.1, a0.1.2.2.1, a0.1.2.2.2.1, a0.1.2.2.2.2), a0.2.1, a0.2.2.1, a0.2.2.2.1, a0.2.2.2.2.1, a0.2.2.2.2.2) : ((Int × ((Vec 3 Nat) × ((List (Vec 3 Nat)) × ((List (Int × ((Vec 3 Nat) × (Int × (Int × Unit))))) × Unit)))) × (Int × (Int × ((List Int) × ((List Int) × Unit)))))), ()))
        else
        bif inB x1001 (List.length a0.2.2.2.2.1) then
          bif (iLt 0 (List.getD a0.2.2.2.2.1 x1001.toNat (0 : Int))) then
            bif inB x1001 (List.length a0.2.2.2.2.1) then
              bif inB x1001 (List.length a0.2.2.2.2.1) then
                bif inB x1001 (List.length a0.2.2.2.1) then
                  some (((List.getD a0.2.2.2.1 x1001.toNat (0 : Int)), (0 : Int), ()), ((((a0.1.1, a0.1.2.1, a0.1.2.2.1, a0.1.2.2.2.1, a0.1.2.2.2.2), a0.2.1, a0.2.2.1, a0.2.2.2.1, List.set a0.2.2.2.2.1 x1001.toNat (iSub .i64 (List.getD a0.2.2.2.2.1 x1001.toNat (0 : Int)) 1), a0.2.2.2.2.2) : ((Int × ((Vec 3 Nat) × ((List (Vec 3 Nat)) × ((List (Int × ((Vec 3 Nat) × (Int × (Int × Unit))))) × Unit)))) × (Int × (Int × ((List Int) × ((List Int) × Unit)))))), ()))
                else none
              else none
            else none
          else
          bif inS 0 x1001 (List.length a0.2.2.2.1) then
            bif inS 0 x1001 (List.length a0.2.2.2.2.1) then
              some (((iAdd .i64 a2 1), (0 : Int), ()), ((((a0.1.1, a0.1.2.1, a0.1.2.2.1, a0.1.2.2.2.1, a0.1.2.2.2.2), a0.2.1, a0.2.2.1, List.take x1001.toNat (List.drop 0 a0.2.2.2.1), List.take x1001.toNat (List.drop 0 a0.2.2.2.2.1), a0.2.2.2.2.2) : ((Int × ((Vec 3 Nat) × ((List (Vec 3 Nat)) × ((List (Int × ((Vec 3 Nat) × (Int × (Int × Unit))))) × Unit)))) × (Int × (Int × ((List Int) × ((List Int) × Unit)))))), ()))
            else none
          else none
        else none
      else
      some ((a2, (5 : Int), ()), ((((a0.1.1, a0.1.2.1, a0.1.2.2.1, a0.1.2.2.2.1, a0.1.2.2.2.2), a0.2.1, a0.2.2.1, a0.2.2.2.1, a0.2.2.2.2.1, a0.2.2.2.2.2) : ((Int × ((Vec 3 Nat) × ((List (Vec 3 Nat)) × ((List (Int × ((Vec 3 Nat) × (Int × (Int × Unit))))) × Unit)))) × (Int × (Int × ((List Int) × ((List Int) × Unit)))))), ()))
    else
    bif (sEq x786 ([109, 111, 118, 101])) then
      (spec_l08Work_three (((a0.1.1, a0.1.2.1, a0.1.2.2.1, a0.1.2.2.2.1, a0.1.2.2.2.2), a0.2.1, a0.2.2.1, a0.2.2.2.1, a0.2.2.2.2.1, a0.2.2.2.2.2) : ((Int × ((Vec 3 Nat) × ((List (Vec 3 Nat)) × ((List (Int × ((Vec 3 Nat) × (Int × (Int × Unit))))) × Unit)))) × (Int × (Int × ((List Int) × ((List Int) × Unit)))))) y785.1.1).bind fun y1011 =>
      some (((iAdd .i64 a2 1), y1011.1.1, ()), ((((y1011.2.1.1.1, y1011.2.1.1.2.1, y1011.2.1.1.2.2.1, y1011.2.1.1.2.2.2.1, y1011.2.1.1.2.2.2.2), y1011.2.1.2.1, y1011.2.1.2.2.1, y1011.2.1.2.2.2.1, y1011.2.1.2.2.2.2.1, y1011.2.1.2.2.2.2.2) : ((Int × ((Vec 3 Nat) × ((List (Vec 3 Nat)) × ((List (Int × ((Vec 3 Nat) × (Int × (Int × Unit))))) × Unit)))) × (Int × (Int × ((List Int) × ((List Int) × Unit)))))), ()))
    else
    bif (sEq x786 ([101, 110, 100])) then
      bif (! (iEq (lenI y785.1.1) 1)) then
        some ((a2, (5 : Int), ()), ((((a0.1.1, a0.1.2.1, a0.1.2.2.1, a0.1.2.2.2.1, a0.1.2.2.2.2), a0.2.1, a0.2.2.1, a0.2.2.2.1, a0.2.2.2.2.1, a0.2.2.2.2.2) : ((Int × ((Vec 3 Nat) × ((List (Vec 3 Nat)) × ((List (Int × ((Vec 3 Nat) × (Int × (Int × Unit))))) × Unit)))) × (Int × (Int × ((List Int) × ((List Int) × Unit)))))), ()))
      else
      let x1014 := iSub .i64 (lenI a0.2.2.2.1) 1
      bif (iLt x1014 0) then
        some ((a2, (4 : Int), ()), ((((a0.1.1, a0.1.2.1, a0.1.2.2.1, a0.1.2.2.2.1, a0.1.2.2.2.2), a0.2.1, a0.2.2.1, a0.2.2.2.1, a0.2.2.2.2.1, a0.2.2.2.2.2) : ((Int × ((Vec 3 Nat) × ((List (Vec 3 Nat)) × ((List (Int × ((Vec 3 Nat) × (Int × (Int × Unit))))) × Unit)))) × (Int × (Int × ((List Int) × ((List Int) × Unit)))))), ()))
      else
      bif inB x1014 (List.length a0.2.2.2.2.1) then
        bif (iLt 0 (List.getD a0.2.2.2.2.1 x1014.toNat (0 : Int))) then
          bif inB x1014 (List.length a0.2.2.2.2.1) then
            bif inB x1014 (List.length a0.2.2.2.2.1) then
              bif inB x1014 (List.length a0.2.2.2.1) then
                some (((List.getD a0.2.2.2.1 x1014.toNat (0 : Int)), (0 : Int), ()), ((((a0.1.1, a0.1.2.1, a0.1.2.2.1, a0.1.2.2.2.1, a0.1.2.2.2.2), a0.2.1, a0.2.2.1, a0.2.2.2.1, List.set a0.2.2.2.2.1 x1014.toNat (iSub .i64 (List.getD a0.2.2.2.2.1 x1014.toNat (0 : Int)) 1), a0.2.2.2.2.2) : ((Int × ((Vec 3 Nat) × ((List (Vec 3 Nat)) × ((List (Int × ((Vec 3 Nat) × (Int × (Int × Unit))))) × Unit)))) × (Int × (Int × ((List Int) × ((List Int) × Unit)))))), ()))
              else none
            else none
          else none
        else
        bif inS 0 x1014 (List.length a0.2.2.2.1) then
          bif inS 0 x1014 (List.length a0.2.2.2.2.1) then
            some (((iAdd .i64 a2 1), (0 : Int), ()), ((((a0.1.1, a0.1.2.1, a0.1.2.2.1, a0.1.2.2.2.1, a0.1.2.2.2.2), a0.2.1, a0.2.2.1, List.take x1014.toNat (List.drop 0 a0.2.2.2.1), List.take x1014.toNat (List.drop 0 a0.2.2.2.2.1), a0.2.2.2.2.2) : ((Int × ((Vec 3 Nat) × ((List (Vec 3 Nat)) × ((List (Int × ((Vec 3 Nat) × (Int × (Int × Unit))))) × Unit)))) × (Int × (Int × ((List Int) × ((List Int) × Unit)))))), ()))
          else none
        else none
      else none
    else
    some ((a2, (5 : Int), ()), ((((a0.1.1, a0.1.2.1, a0.1.2.2.1, a0.1.2.2.2.1, a0.1.2.2.2.2), a0.2.1, a0.2.2.1, a0.2.2.2.1, a0.2.2.2.2.1, a0.2.2.2.2.2) : ((Int × ((Vec 3 Nat) × ((List (Vec 3 Nat)) × ((List (Int × ((Vec 3 Nat) × (Int × (Int × Unit))))) × Unit)))) × (Int × (Int × ((List Int) × ((List Int) × Unit)))))), ()))
  else none
noncomputable def spec_l08Work_line_sg : Sig := ⟨[.io (.pair (.pair (.val (.int .i64)) (.pair (.val (.arr 3 (.flt .f32))) (.pair (.rows (.arr 3 (.flt .f32))) (.pair (.rows (.pair (.int .i64) (.pair (.arr 3 (.flt .f32)) (.pair (.int .i64) (.pair (.int .i64) (.unit)))))) (.val (.unit)))))) (.pair (.val (.int .i64)) (.pair (.val (.int .i64)) (.pair (.rows (.int .i64)) (.pair (.rows (.int .i64)) (.val (.unit))))))), .v (.str), .v (.int .i64)], [.v (.val (.int .i64)), .v (.val (.int .i64))], false⟩
noncomputable def spec_l08Work_line_en : Entry := ⟨spec_l08Work_line_sg, fun x => spec_l08Work_line x.1 x.2.1 x.2.2.1⟩
theorem spec_l08Work_line_eq {G : List (Nat × Obj)} (x : spec_l08Work_line_sg.dom) : body (env G [(38, spec_l01Split_en), (83, spec_l08Whole_en), (109, spec_l08Work_one_en), (110, spec_l08Work_three_en)]) [] Tryd.f75 spec_l08Work_line_sg x = spec_l08Work_line x.1 x.2.1 x.2.2.1 := by kernel_rfl
theorem spec_l08Work_line_so {G : List (Nat × Obj)} : Sound Tryd.prog G 75 spec_l08Work_line_en := sound_of_body (envS (l := [(38, spec_l01Split_en), (83, spec_l08Whole_en), (109, spec_l08Work_one_en), (110, spec_l08Work_three_en)]) (⟨(spec_l01Split_so), (spec_l08Whole_so), (spec_l08Work_one_so), (spec_l08Work_three_so), trivial⟩)) Tryd.func75 (by kernel_rfl) rfl (fun x y h => (spec_l08Work_line_eq (G := G) x).trans h)

-- loop.example/g01204/spec.CompileMission
noncomputable def spec_CompileMission_l8 (x758 : Int) (y754 : (((List (List UInt8)) × Unit) × Unit)) (s766 : (Int × ((Int × ((Vec 3 Nat) × ((List (Vec 3 Nat)) × ((List (Int × ((Vec 3 Nat) × (Int × (Int × Unit))))) × Unit)))) × (Int × (Int × ((List Int) × ((List Int) × Unit))))) × Unit)) : Option ((Int × ((Int × ((Vec 3 Nat) × ((List (Vec 3 Nat)) × ((List (Int × ((Vec 3 Nat) × (Int × (Int × Unit))))) × Unit)))) × (Int × (Int × ((List Int) × ((List Int) × Unit))))) × Unit) ⊕ (((Int × ((Vec 3 Nat) × ((List (Vec 3 Nat)) × ((List (Int × ((Vec 3 Nat) × (Int × (Int × Unit))))) × Unit)))) × Int × Int × Unit) × Unit)) :=
  bif (iLt s766.1 ((x758.toNat : Nat) : Int)) then
    bif inB s766.1 x758.toNat then
      (spec_l08Work_line (((s766.2.1.1.1, s766.2.1.1.2.1, s766.2.1.1.2.2.1, s766.2.1.1.2.2.2.1, s766.2.1.1.2.2.2.2), s766.2.1.2.1, s766.2.1.2.2.1, s766.2.1.2.2.2.1, s766.2.1.2.2.2.2.1, s766.2.1.2.2.2.2.2) : ((Int × ((Vec 3 Nat) × ((List (Vec 3 Nat)) × ((List (Int × ((Vec 3 Nat) × (Int × (Int × Unit))))) × Unit)))) × (Int × (Int × ((List Int) × ((List Int) × Unit)))))) (List.getD y754.1.1 (0 + s766.1.toNat) ([] : List UInt8)) s766.1).bind fun y769 =>
      bif (! (iEq y769.1.2.1 0)) then
        Option.map Sum.inr (some ((((0, (0, 0, 0, ()), [], [], ()) : (Int × ((Vec 3 Nat) × ((List (Vec 3 Nat)) × ((List (Int × ((Vec 3 Nat) × (Int × (Int × Unit))))) × Unit))))), s766.1, y769.1.2.1, ()), ()))
      else
      some (Sum.inl (y769.1.1, (((y769.2.1.1.1, y769.2.1.1.2.1, y769.2.1.1.2.2.1, y769.2.1.1.2.2.2.1, y769.2.1.1.2.2.2.2), y769.2.1.2.1, y769.2.1.2.2.1, y769.2.1.2.2.2.1, y769.2.1.2.2.2.2.1, y769.2.1.2.2.2.2.2) : ((Int × ((Vec 3 Nat) × ((List (Vec 3 Nat)) × ((List (Int × ((Vec 3 Nat) × (Int × (Int × Unit))))) × Unit)))) × (Int × (Int × ((List Int) × ((List Int) × Unit)))))), ()))
    else none
  else
  Option.map Sum.inr (
    bif (iLt 0 (lenI s766.2.1.2.2.2.1)) then
      some ((((0, (0, 0, 0, ()), [], [], ()) : (Int × ((Vec 3 Nat) × ((List (Vec 3 Nat)) × ((List (Int × ((Vec 3 Nat) × (Int × (Int × Unit))))) × Unit))))), ((x758.toNat : Nat) : Int), (4 : Int), ()), ())
    else
    some ((((s766.2.1.1.1, s766.2.1.1.2.1, s766.2.1.1.2.2.1, s766.2.1.1.2.2.2.1, s766.2.1.1.2.2.2.2) : (Int × ((Vec 3 Nat) × ((List (Vec 3 Nat)) × ((List (Int × ((Vec 3 Nat) × (Int × (Int × Unit))))) × Unit))))), (0 : Int), (0 : Int), ()), ()))
noncomputable def spec_CompileMission_l8_2 (y754 : (((List (List UInt8)) × Unit) × Unit)) (s779 : (Int × ((Int × ((Vec 3 Nat) × ((List (Vec 3 Nat)) × ((List (Int × ((Vec 3 Nat) × (Int × (Int × Unit))))) × Unit)))) × (Int × (Int × ((List Int) × ((List Int) × Unit))))) × Unit)) : Option ((Int × ((Int × ((Vec 3 Nat) × ((List (Vec 3 Nat)) × ((List (Int × ((Vec 3 Nat) × (Int × (Int × Unit))))) × Unit)))) × (Int × (Int × ((List Int) × ((List Int) × Unit))))) × Unit) ⊕ (((Int × ((Vec 3 Nat) × ((List (Vec 3 Nat)) × ((List (Int × ((Vec 3 Nat) × (Int × (Int × Unit))))) × Unit)))) × Int × Int × Unit) × Unit)) :=
  bif (iLt s779.1 (lenI y754.1.1)) then
    bif inB s779.1 (List.length y754.1.1) then
      (spec_l08Work_line (((s779.2.1.1.1, s779.2.1.1.2.1, s779.2.1.1.2.2.1, s779.2.1.1.2.2.2.1, s779.2.1.1.2.2.2.2), s779.2.1.2.1, s779.2.1.2.2.1, s779.2.1.2.2.2.1, s779.2.1.2.2.2.2.1, s779.2.1.2.2.2.2.2) : ((Int × ((Vec 3 Nat) × ((List (Vec 3 Nat)) × ((List (Int × ((Vec 3 Nat) × (Int × (Int × Unit))))) × Unit)))) × (Int × (Int × ((List Int) × ((List Int) × Unit)))))) (List.getD y754.1.1 s779.1.toNat ([] : List UInt8)) s779.1).bind fun y782 =>
      bif (! (iEq y782.1.2.1 0)) then
        Option.map Sum.inr (some ((((0, (0, 0, 0, ()), [], [], ()) : (Int × ((Vec 3 Nat) × ((List (Vec 3 Nat)) × ((List (Int × ((Vec 3 Nat) × (Int × (Int × Unit))))) × Unit))))), s779.1, y782.1.2.1, ()), ()))
      else
      some (Sum.inl (y782.1.1, (((y782.2.1.1.1, y782.2.1.1.2.1, y782.2.1.1.2.2.1, y782.2.1.1.2.2.2.1, y782.2.1.1.2.2.2.2), y782.2.1.2.1, y782.2.1.2.2.1, y782.2.1.2.2.2.1, y782.2.1.2.2.2.2.1, y782.2.1.2.2.2.2.2) : ((Int × ((Vec 3 Nat) × ((List (Vec 3 Nat)) × ((List (Int × ((Vec 3 Nat) × (Int × (Int × Unit))))) × Unit)))) × (Int × (Int × ((List Int) × ((List Int) × Unit)))))), ()))
    else none
  else
  Option.map Sum.inr (
    bif (iLt 0 (lenI s779.2.1.2.2.2.1)) then some ((((0, (0, 0, 0, ()), [], [], ()) : (Int × ((Vec 3 Nat) × ((List (Vec 3 Nat)) × ((List (Int × ((Vec 3 Nat) × (Int × (Int × Unit))))) × Unit))))), lenI y754.1.1, (4 : Int), ()), ()) else
    some ((((s779.2.1.1.1, s779.2.1.1.2.1, s779.2.1.1.2.2.1, s779.2.1.1.2.2.2.1, s779.2.1.1.2.2.2.2) : (Int × ((Vec 3 Nat) × ((List (Vec 3 Nat)) × ((List (Int × ((Vec 3 Nat) × (Int × (Int × Unit))))) × Unit))))), (0 : Int), (0 : Int), ()), ()))
noncomputable def spec_CompileMission (a0 : List UInt8) : Option (((Int × ((Vec 3 Nat) × ((List (Vec 3 Nat)) × ((List (Int × ((Vec 3 Nat) × (Int × (Int × Unit))))) × Unit)))) × Int × Int × Unit) × Unit) :=
  (spec_l01Split a0 (10 : Int)).bind fun y754 =>
  let x755 := iSub .i64 (lenI y754.1.1) 1
  bif inB x755 (List.length y754.1.1) then
    bif (sEq (List.getD y754.1.1 x755.toNat ([] : List UInt8)) ([])) then
      let x758 := iSub .i64 (lenI y754.1.1) 1
      bif inS 0 x758 (List.length y754.1.1) then
        bif (iLt 4000 (lenI a0)) then some ((((0, (0, 0, 0, ()), [], [], ()) : (Int × ((Vec 3 Nat) × ((List (Vec 3 Nat)) × ((List (Int × ((Vec 3 Nat) × (Int × (Int × Unit))))) × Unit))))), (0 : Int), (2 : Int), ()), ()) else
        bif (iLt 200 ((x758.toNat : Nat) : Int)) then some ((((0, (0, 0, 0, ()), [], [], ()) : (Int × ((Vec 3 Nat) × ((List (Vec 3 Nat)) × ((List (Int × ((Vec 3 Nat) × (Int × (Int × Unit))))) × Unit))))), (0 : Int), (2 : Int), ()), ()) else
        run (spec_CompileMission_l8 x758 y754) ((0 : Int), (((8, (0, 0, 0, ()), [], [], ()), 0, 0, [], [], ()) : ((Int × ((Vec 3 Nat) × ((List (Vec 3 Nat)) × ((List (Int × ((Vec 3 Nat) × (Int × (Int × Unit))))) × Unit)))) × (Int × (Int × ((List Int) × ((List Int) × Unit)))))), ())
      else none
    else
    bif (iLt 4000 (lenI a0)) then some ((((0, (0, 0, 0, ()), [], [], ()) : (Int × ((Vec 3 Nat) × ((List (Vec 3 Nat)) × ((List (Int × ((Vec 3 Nat) × (Int × (Int × Unit))))) × Unit))))), (0 : Int), (2 : Int), ()), ()) else
    bif (iLt 200 (lenI y754.1.1)) then some ((((0, (0, 0, 0, ()), [], [], ()) : (Int × ((Vec 3 Nat) × ((List (Vec 3 Nat)) × ((List (Int × ((Vec 3 Nat) × (Int × (Int × Unit))))) × Unit))))), (0 : Int), (2 : Int), ()), ()) else
    run (spec_CompileMission_l8_2 y754) ((0 : Int), (((8, (0, 0, 0, ()), [], [], ()), 0, 0, [], [], ()) : ((Int × ((Vec 3 Nat) × ((List (Vec 3 Nat)) × ((List (Int × ((Vec 3 Nat) × (Int × (Int × Unit))))) × Unit)))) × (Int × (Int × ((List Int) × ((List Int) × Unit)))))), ())
  else none
noncomputable def spec_CompileMission_sg : Sig := ⟨[.v (.str)], [.v (.pair (.val (.int .i64)) (.pair (.val (.arr 3 (.flt .f32))) (.pair (.rows (.arr 3 (.flt .f32))) (.pair (.rows (.pair (.int .i64) (.pair (.arr 3 (.flt .f32)) (.pair (.int .i64) (.pair (.int .i64) (.unit)))))) (.val (.unit)))))), .v (.val (.int .i64)), .v (.val (.int .i64))], false⟩
noncomputable def spec_CompileMission_en : Entry := ⟨spec_CompileMission_sg, fun x => spec_CompileMission x.1⟩
theorem spec_CompileMission_eq {G : List (Nat × Obj)} (x : spec_CompileMission_sg.dom) : body (env G [(38, spec_l01Split_en), (75, spec_l08Work_line_en)]) [(8, .vary [(7, .sc (.int .i64)), (6, .box (.pair (.pair (.val (.int .i64)) (.pair (.val (.arr 3 (.flt .f32))) (.pair (.rows (.arr 3 (.flt .f32))) (.pair (.rows (.pair (.int .i64) (.pair (.arr 3 (.flt .f32)) (.pair (.int .i64) (.pair (.int .i64) (.unit)))))) (.val (.unit)))))) (.pair (.val (.int .i64)) (.pair (.val (.int .i64)) (.pair (.rows (.int .i64)) (.pair (.rows (.int .i64)) (.val (.unit))))))))])] Tryd.f28 spec_CompileMission_sg x = spec_CompileMission x.1 := by kernel_rfl
theorem spec_CompileMission_so {G : List (Nat × Obj)} : Sound Tryd.prog G 28 spec_CompileMission_en := sound_of_body (envS (l := [(38, spec_l01Split_en), (75, spec_l08Work_line_en)]) (⟨(spec_l01Split_so), (spec_l08Work_line_so), trivial⟩)) Tryd.func28 (by kernel_rfl) rfl (fun x y h => (spec_CompileMission_eq (G := G) x).trans h)

-- loop.example/g01204/laws.FnExactCompileMission
noncomputable def laws_FnExactCompileMission (a0 : List UInt8) : Option ((Bool × Unit) × Unit) :=
  bif (iLt 1048576 (lenI a0)) then some ((true, ()), ()) else
  (spec_CompileMission a0).bind fun y463 =>
  (impl_CompileMission a0).bind fun y464 =>
  (laws_eqMission ((y464.1.1.1, y464.1.1.2.1, y464.1.1.2.2.1, y464.1.1.2.2.2.1, y464.1.1.2.2.2.2) : (Int × ((Vec 3 Nat) × ((List (Vec 3 Nat)) × ((List (Int × ((Vec 3 Nat) × (Int × (Int × Unit))))) × Unit))))) ((y463.1.1.1, y463.1.1.2.1, y463.1.1.2.2.1, y463.1.1.2.2.2.1, y463.1.1.2.2.2.2) : (Int × ((Vec 3 Nat) × ((List (Vec 3 Nat)) × ((List (Int × ((Vec 3 Nat) × (Int × (Int × Unit))))) × Unit)))))).bind fun y465 =>
  bif (! y465.1.1) then some ((false, ()), ()) else
  bif (! (iEq y464.1.2.1 y463.1.2.1)) then some ((false, ()), ()) else
  bif (! (iEq y464.1.2.2.1 y463.1.2.2.1)) then some ((false, ()), ()) else
  (laws_markMission ((y464.1.1.1, y464.1.1.2.1, y464.1.1.2.2.1, y464.1.1.2.2.2.1, y464.1.1.2.2.2.2) : (Int × ((Vec 3 Nat) × ((List (Vec 3 Nat)) × ((List (Int × ((Vec 3 Nat) × (Int × (Int × Unit))))) × Unit))))) (1 : Int)).bind fun y469 =>
  (laws_heldMission ((y464.1.1.1, y464.1.1.2.1, y469.2.1.2.2.1, y469.2.1.2.2.2.1, y464.1.1.2.2.2.2) : (Int × ((Vec 3 Nat) × ((List (Vec 3 Nat)) × ((List (Int × ((Vec 3 Nat) × (Int × (Int × Unit))))) × Unit))))) (1 : Int)).bind fun y470 =>
  bif (iLt y470.1.1 0) then some ((false, ()), ()) else
  bif (! (iEq y470.1.1 y469.1.1)) then some ((false, ()), ()) else
  (impl_CompileMission a0).bind fun y473 =>
  (laws_eqMission ((y473.1.1.1, y473.1.1.2.1, y473.1.1.2.2.1, y473.1.1.2.2.2.1, y473.1.1.2.2.2.2) : (Int × ((Vec 3 Nat) × ((List (Vec 3 Nat)) × ((List (Int × ((Vec 3 Nat) × (Int × (Int × Unit))))) × Unit))))) ((y463.1.1.1, y463.1.1.2.1, y463.1.1.2.2.1, y463.1.1.2.2.2.1, y463.1.1.2.2.2.2) : (Int × ((Vec 3 Nat) × ((List (Vec 3 Nat)) × ((List (Int × ((Vec 3 Nat) × (Int × (Int × Unit))))) × Unit)))))).bind fun y474 =>
  bif (! y474.1.1) then some ((false, ()), ()) else
  bif (! (iEq y473.1.2.1 y463.1.2.1)) then some ((false, ()), ()) else
  bif (! (iEq y473.1.2.2.1 y463.1.2.2.1)) then some ((false, ()), ()) else
  (laws_heldMission ((y464.1.1.1, y464.1.1.2.1, y469.2.1.2.2.1, y469.2.1.2.2.2.1, y464.1.1.2.2.2.2) : (Int × ((Vec 3 Nat) × ((List (Vec 3 Nat)) × ((List (Int × ((Vec 3 Nat) × (Int × (Int × Unit))))) × Unit))))) (1 : Int)).bind fun y478 =>
  bif (iLt y478.1.1 0) then some ((false, ()), ()) else
  bif (! (iEq y478.1.1 y469.1.1)) then some ((false, ()), ()) else some ((true, ()), ())
noncomputable def laws_FnExactCompileMission_sg : Sig := ⟨[.v (.str)], [.v (.val (.bool))], false⟩
noncomputable def laws_FnExactCompileMission_en : Entry := ⟨laws_FnExactCompileMission_sg, fun x => laws_FnExactCompileMission x.1⟩
theorem laws_FnExactCompileMission_eq {G : List (Nat × Obj)} (x : laws_FnExactCompileMission_sg.dom) : body (env G [(28, spec_CompileMission_en), (29, impl_CompileMission_en), (30, laws_eqMission_en), (31, laws_markMission_en), (32, laws_heldMission_en)]) [] Tryd.f8 laws_FnExactCompileMission_sg x = laws_FnExactCompileMission x.1 := by kernel_rfl
theorem laws_FnExactCompileMission_so {G : List (Nat × Obj)} (mx : GMax 1 G) (tb : GTab Tryd.prog G) (sy : GErr 2 G) (ra : GErr 3 G) : Sound Tryd.prog G 8 laws_FnExactCompileMission_en := sound_of_body (envS (l := [(28, spec_CompileMission_en), (29, impl_CompileMission_en), (30, laws_eqMission_en), (31, laws_markMission_en), (32, laws_heldMission_en)]) (⟨(spec_CompileMission_so), (impl_CompileMission_so mx tb sy ra), (laws_eqMission_so), (laws_markMission_so), (laws_heldMission_so), trivial⟩)) Tryd.func8 (by kernel_rfl) rfl (fun x y h => (laws_FnExactCompileMission_eq (G := G) x).trans h)

end Go.Proofs.YtdmaamakckochaaDoor
