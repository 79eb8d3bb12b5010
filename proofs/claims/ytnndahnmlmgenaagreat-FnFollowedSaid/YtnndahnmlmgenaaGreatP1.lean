/- Functions of the program and of the reference in plain terms. -/
import Derived.Test.YtnndahnmlmgenaaGreatL
namespace Go.Proofs.YtnndahnmlmgenaaGreat
open Go Go.Tm
set_option linter.unusedVariables false
set_option linter.unusedSimpArgs false
set_option linter.unusedSectionVars false
noncomputable def impl_Grid_at (a0 : (Int × (Int × ((List Int) × Unit)))) (a1 : (Vec 2 Int)) : Option ((Int × Unit) × Unit) :=
  some (((iAdd .i64 (iMul .i64 (iWrap .i64 (Vec.getD 2 a1 1 (0 : Int))) a0.1) (iWrap .i64 (Vec.getD 2 a1 0 (0 : Int)))), ()), ())

noncomputable def impl_Grid_has (a0 : (Int × (Int × ((List Int) × Unit)))) (a1 : (Vec 2 Int)) : Option ((Bool × Unit) × Unit) :=
  (impl_within (iWrap .i64 (Vec.getD 2 a1 0 (0 : Int))) (0 : Int) (iSub .i64 a0.1 1)).bind fun y171 =>
  bif y171.1.1 then
    (impl_within (iWrap .i64 (Vec.getD 2 a1 1 (0 : Int))) (0 : Int) (iSub .i64 a0.2.1 1)).bind fun y175 =>
    some ((y175.1.1, ()), ())
  else some ((false, ()), ())

noncomputable def impl_Grid_isWall (a0 : (Int × (Int × ((List Int) × Unit)))) (a1 : (Vec 2 Int)) : Option ((Bool × Unit) × Unit) :=
  (impl_Grid_at a0 a1).bind fun y178 =>
  bif inB y178.1.1 (List.length a0.2.2.1) then
    some (((iEq (List.getD a0.2.2.1 y178.1.1.toNat (0 : Int)) 255), ()), ())
  else none

noncomputable def impl_Grid_stepCost (a0 : (Int × (Int × ((List Int) × Unit)))) (a1 : (Vec 2 Int)) (a2 : (Vec 2 Int)) : Option ((Int × Bool × Unit) × Unit) :=
  let x185 := iSub .i64 (iWrap .i64 (Vec.getD 2 a2 0 (0 : Int))) (iWrap .i64 (Vec.getD 2 a1 0 (0 : Int)))
  let x190 := iSub .i64 (iWrap .i64 (Vec.getD 2 a2 1 (0 : Int))) (iWrap .i64 (Vec.getD 2 a1 1 (0 : Int)))
  (impl_within x185 ((-1 : Int) : Int) (1 : Int)).bind fun y191 =>
  bif (! y191.1.1) then some (((0 : Int), false, ()), ()) else
  (impl_within x190 ((-1 : Int) : Int) (1 : Int)).bind fun y193 =>
  bif (! y193.1.1) then some (((0 : Int), false, ()), ()) else
  bif (iEq x185 0) then
    bif (iEq x190 0) then some (((0 : Int), false, ()), ()) else
    (impl_Grid_has a0 a2).bind fun y197 =>
    bif (! y197.1.1) then some (((0 : Int), false, ()), ()) else
    (impl_Grid_isWall a0 a2).bind fun y199 =>
    bif y199.1.1 then some (((0 : Int), false, ()), ()) else
    (impl_Grid_at a0 a2).bind fun y200 =>
    bif inB y200.1.1 (List.length a0.2.2.1) then
      let x203 := iAdd .i64 10 (iWrap .i64 (List.getD a0.2.2.1 y200.1.1.toNat (0 : Int)))
      bif (! (iEq x185 0)) then
        bif (! (iEq x190 0)) then
          (impl_Grid_isWall a0 (((Vec.getD 2 a1 0 (0 : Int)), (Vec.getD 2 a2 1 (0 : Int)), ()) : (Vec 2 Int))).bind fun y208 =>
          bif y208.1.1 then some (((0 : Int), false, ()), ()) else
          (impl_Grid_isWall a0 (((Vec.getD 2 a2 0 (0 : Int)), (Vec.getD 2 a1 1 (0 : Int)), ()) : (Vec 2 Int))).bind fun y211 =>
          bif y211.1.1 then some (((0 : Int), false, ()), ()) else
          some (((iAdd .i64 x203 4), true, ()), ())
        else some ((x203, true, ()), ())
      else some ((x203, true, ()), ())
    else none
  else
  (impl_Grid_has a0 a2).bind fun y213 =>
  bif (! y213.1.1) then some (((0 : Int), false, ()), ()) else
  (impl_Grid_isWall a0 a2).bind fun y215 =>
  bif y215.1.1 then some (((0 : Int), false, ()), ()) else
  (impl_Grid_at a0 a2).bind fun y216 =>
  bif inB y216.1.1 (List.length a0.2.2.1) then
    let x219 := iAdd .i64 10 (iWrap .i64 (List.getD a0.2.2.1 y216.1.1.toNat (0 : Int)))
    bif (! (iEq x185 0)) then
      bif (! (iEq x190 0)) then
        (impl_Grid_isWall a0 (((Vec.getD 2 a1 0 (0 : Int)), (Vec.getD 2 a2 1 (0 : Int)), ()) : (Vec 2 Int))).bind fun y224 =>
        bif y224.1.1 then some (((0 : Int), false, ()), ()) else
        (impl_Grid_isWall a0 (((Vec.getD 2 a2 0 (0 : Int)), (Vec.getD 2 a1 1 (0 : Int)), ()) : (Vec 2 Int))).bind fun y227 =>
        bif y227.1.1 then some (((0 : Int), false, ()), ()) else
        some (((iAdd .i64 x219 4), true, ()), ())
      else some ((x219, true, ()), ())
    else some ((x219, true, ()), ())
  else none

noncomputable def impl_ways : Option (((List (Vec 2 Int)) × Unit) × Unit) :=
  some ((([(1, 0, ()), (0, 1, ()), ((-1 : Int), 0, ()), (0, (-1 : Int), ()), (1, 1, ()), ((-1 : Int), 1, ()), ((-1 : Int), (-1 : Int), ()), (1, (-1 : Int), ())] : (List (Vec 2 Int))), ()), ())

noncomputable def math_bits_Mul64 (a0 : Int) (a1 : Int) : Option ((Int × Int × Unit) × Unit) :=
  let x246 := iAnd .u64 a0 4294967295
  let x247 := iShr .u64 a0 32
  let x248 := iAnd .u64 a1 4294967295
  let x249 := iShr .u64 a1 32
  let x253 := iAdd .u64 (iMul .u64 x247 x248) (iShr .u64 (iMul .u64 x246 x248) 32)
  some (((iAdd .u64 (iAdd .u64 (iMul .u64 x247 x249) (iShr .u64 x253 32)) (iShr .u64 (iAdd .u64 (iAnd .u64 x253 4294967295) (iMul .u64 x246 x249)) 32)), (iMul .u64 a0 a1), ()), ())

noncomputable def math_bits_Mul (a0 : Int) (a1 : Int) : Option ((Int × Int × Unit) × Unit) :=
  (math_bits_Mul64 a0 a1).bind fun y245 =>
  some ((y245.1.1, y245.1.2.1, ()), ())

noncomputable def slices_Repeat_int64_l8 (s241 : (Int × (List Int) × Unit)) : Option ((Int × (List Int) × Unit) ⊕ (((List Int) × Unit) × Unit)) :=
  bif (iLt s241.1 (lenI s241.2.1)) then
    bif inS s241.1 ((List.length s241.2.1 : Nat) : Int) (List.length s241.2.1) then
      bif inS 0 s241.1 (List.length s241.2.1) then
        bif Nat.ble (s241.1.toNat + ((List.length s241.2.1) - s241.1.toNat)) (List.length s241.2.1) then
          some (Sum.inl ((iAdd .i64 s241.1 (Int.ofNat (min (List.length (List.take s241.1.toNat (List.drop 0 s241.2.1))) ((List.length s241.2.1) - s241.1.toNat)))), (spliceL s241.2.1 s241.1.toNat (List.take ((List.length s241.2.1) - s241.1.toNat) (List.take s241.1.toNat (List.drop 0 s241.2.1)))), ()))
        else none
      else none
    else none
  else
  Option.map Sum.inr (some ((s241.2.1, ()), ()))

noncomputable def slices_Repeat_int64 (a0 : (List Int)) (a1 : Int) : Option (((List Int) × Unit) × Unit) :=
  bif (iLt a1 0) then none else
  (math_bits_Mul (iWrap .u64 (lenI a0)) (iWrap .u64 a1)).bind fun y232 =>
  bif (iLt 0 y232.1.1) then none else
  bif (iLt 9223372036854775807 y232.1.2.1) then none else
  let x235 := iWrap .i64 y232.1.2.1
  bif (iLe 0 x235 && iLe x235 x235 && room x235.toNat 8) then
    run (slices_Repeat_int64_l8) (Int.ofNat (min (List.length a0) (List.length (List.replicate x235.toNat (0 : Int)))), (spliceL (List.replicate x235.toNat (0 : Int)) 0 (List.take (List.length (List.replicate x235.toNat (0 : Int))) a0)), ())
  else none

noncomputable def impl_Grid_costsTo_l8 (y104 : (((List (Vec 2 Int)) × Unit) × Unit)) (x103 : (Vec 2 Int)) (a0 : (Int × (Int × ((List Int) × Unit)))) (s131 : ((List (Vec 2 Int)) × Int × (List Int) × Unit)) : Option (((List (Vec 2 Int)) × Int × (List Int) × Unit) ⊕ (((List (Vec 2 Int)) × (List Int) × Unit) ⊕ (((List Int) × Unit) × Unit))) :=
  bif (iLt s131.2.1 (lenI y104.1.1)) then
    bif inB s131.2.1 (List.length y104.1.1) then
      let x133 := List.getD y104.1.1 s131.2.1.toNat ((0, 0, ()) : (Vec 2 Int))
      let x136 := iAdd .i16 (Vec.getD 2 x103 0 (0 : Int)) (Vec.getD 2 x133 0 (0 : Int))
      let x139 := iAdd .i16 (Vec.getD 2 x103 1 (0 : Int)) (Vec.getD 2 x133 1 (0 : Int))
      (impl_Grid_has a0 ((x136, x139, ()) : (Vec 2 Int))).bind fun y140 =>
      bif (! y140.1.1) then
        some (Sum.inl (s131.1, (iAdd .i64 s131.2.1 1), s131.2.2.1, ()))
      else
      (impl_Grid_isWall a0 ((x136, x139, ()) : (Vec 2 Int))).bind fun y143 =>
      bif y143.1.1 then
        some (Sum.inl (s131.1, (iAdd .i64 s131.2.1 1), s131.2.2.1, ()))
      else
      (impl_Grid_stepCost a0 ((x136, x139, ()) : (Vec 2 Int)) x103).bind fun y145 =>
      bif (! y145.1.2.1) then
        some (Sum.inl (s131.1, (iAdd .i64 s131.2.1 1), s131.2.2.1, ()))
      else
      (impl_Grid_at a0 x103).bind fun y148 =>
      bif inB y148.1.1 (List.length s131.2.2.1) then
        let x150 := iAdd .i64 (List.getD s131.2.2.1 y148.1.1.toNat (0 : Int)) y145.1.1
        (impl_Grid_at a0 ((x136, x139, ()) : (Vec 2 Int))).bind fun y151 =>
        bif inB y151.1.1 (List.length s131.2.2.1) then
          let x152 := List.getD s131.2.2.1 y151.1.1.toNat (0 : Int)
          bif (iLt x152 0) then
            (impl_Grid_at a0 ((x136, x139, ()) : (Vec 2 Int))).bind fun y154 =>
            bif inB y154.1.1 (List.length s131.2.2.1) then
              bif room (List.length s131.1 + 1) 4 then
                some (Sum.inl ((s131.1 ++ ([(x136, x139, ())] : (List (Vec 2 Int)))), (iAdd .i64 s131.2.1 1), List.set s131.2.2.1 y154.1.1.toNat x150, ()))
              else none
            else none
          else
          bif (iLt x150 x152) then
            (impl_Grid_at a0 ((x136, x139, ()) : (Vec 2 Int))).bind fun y158 =>
            bif inB y158.1.1 (List.length s131.2.2.1) then
              bif room (List.length s131.1 + 1) 4 then
                some (Sum.inl ((s131.1 ++ ([(x136, x139, ())] : (List (Vec 2 Int)))), (iAdd .i64 s131.2.1 1), List.set s131.2.2.1 y158.1.1.toNat x150, ()))
              else none
            else none
          else
          some (Sum.inl (s131.1, (iAdd .i64 s131.2.1 1), s131.2.2.1, ()))
        else none
      else none
    else none
  else
  Option.map Sum.inr (bif inS 1 ((List.length s131.1 : Nat) : Int) (List.length s131.1) then some (Sum.inl (List.take ((List.length s131.1) - 1) (List.drop 1 s131.1), s131.2.2.1, ())) else none)

noncomputable def impl_Grid_costsTo_l4 (a0 : (Int × (Int × ((List Int) × Unit)))) (s101 : ((List (Vec 2 Int)) × (List Int) × Unit)) : Option (((List (Vec 2 Int)) × (List Int) × Unit) ⊕ (((List Int) × Unit) × Unit)) :=
  bif (iLt 0 (lenI s101.1)) then
    bif inB 0 (List.length s101.1) then
      let x103 := List.getD s101.1 0 ((0, 0, ()) : (Vec 2 Int))
      (impl_ways).bind fun y104 =>
      run (impl_Grid_costsTo_l8 y104 x103 a0) (s101.1, (0 : Int), s101.2.1, ())
    else none
  else
  Option.map Sum.inr (some ((s101.2.1, ()), ()))

noncomputable def impl_Grid_costsTo (a0 : (Int × (Int × ((List Int) × Unit)))) (a1 : (Vec 2 Int)) : Option (((List Int) × Unit) × Unit) :=
  (slices_Repeat_int64 ([(-1 : Int)] : (List Int)) (lenI a0.2.2.1)).bind fun y37 =>
  (impl_Grid_at a0 a1).bind fun y38 =>
  bif inB y38.1.1 (List.length y37.1.1) then run (impl_Grid_costsTo_l4 a0) (([a1] : (List (Vec 2 Int))), List.set y37.1.1 y38.1.1.toNat (0 : Int), ()) else none

noncomputable def impl_ValidGrid (a0 : (Int × (Int × ((List Int) × Unit)))) : Option ((Bool × Unit) × Unit) :=
  (impl_within a0.1 (1 : Int) (24 : Int)).bind fun y267 =>
  bif y267.1.1 then
    (impl_within a0.2.1 (1 : Int) (24 : Int)).bind fun y268 =>
    bif y268.1.1 then
      some (((iEq (lenI a0.2.2.1) (iMul .i64 a0.1 a0.2.1)), ()), ())
    else some ((false, ()), ())
  else some ((false, ()), ())

noncomputable def impl_checkSpots_1 (a0 : (Vec 2 Int)) (a1 : (Int × (Int × ((List Int) × Unit)))) : Option ((Bool × Unit) × Unit) :=
  (impl_Grid_has a1 a0).bind fun y271 =>
  some (((! y271.1.1), ()), ())

noncomputable def slices_IndexFunc_impl_Spot_l2 (a0 : (List (Vec 2 Int))) (a1 : (((Vec 2 Int) × Unit) → Option Bool)) (s275 : (Int × Unit)) : Option ((Int × Unit) ⊕ ((Int × Unit) × Unit)) :=
  bif (iLt s275.1 (lenI a0)) then
    bif inB s275.1 (List.length a0) then
      (a1 ((List.getD a0 s275.1.toNat ((0, 0, ()) : (Vec 2 Int))), ())).bind fun y278 =>
      bif y278 then
        Option.map Sum.inr (some ((s275.1, ()), ()))
      else
      some (Sum.inl ((iAdd .i64 s275.1 1), ()))
    else none
  else
  Option.map Sum.inr (some ((((-1 : Int) : Int), ()), ()))

noncomputable def slices_IndexFunc_impl_Spot (a0 : (List (Vec 2 Int))) (a1 : (((Vec 2 Int) × Unit) → Option Bool)) : Option ((Int × Unit) × Unit) :=
  run (slices_IndexFunc_impl_Spot_l2 a0 a1) ((0 : Int), ())

noncomputable def slices_ContainsFunc_impl_Spot (a0 : (List (Vec 2 Int))) (a1 : (((Vec 2 Int) × Unit) → Option Bool)) : Option ((Bool × Unit) × Unit) :=
  (slices_IndexFunc_impl_Spot a0 a1).bind fun y273 =>
  some (((iLe 0 y273.1.1), ()), ())

noncomputable def impl_checkSpots (a0 : (Int × (Int × ((List Int) × Unit)))) (a1 : (List (Vec 2 Int))) : Option ((Int × Unit) × Unit) :=
  (impl_ValidGrid a0).bind fun y263 =>
  bif (! y263.1.1) then some (((1 : Int), ()), ()) else
  (slices_ContainsFunc_impl_Spot a1 (fun (z265 : ((Vec 2 Int) × Unit)) => (impl_checkSpots_1 z265.1 a0).map fun y => y.1.1)).bind fun y266 =>
  bif y266.1.1 then some (((2 : Int), ()), ()) else some (((0 : Int), ()), ())

noncomputable def impl_BestRoute_l13 (y1580 : (((List (Vec 2 Int)) × Unit) × Unit)) (s1578 : ((List (Vec 2 Int)) × (Vec 2 Int) × Unit)) (a0 : (Int × (Int × ((List Int) × Unit)))) (y1551 : (((List Int) × Unit) × Unit)) (s1581 : (Int × Unit)) : Option ((Int × Unit) ⊕ (((List (Vec 2 Int)) × (Vec 2 Int) × Unit) ⊕ (((List (Vec 2 Int)) × Int × Int × Unit) × Unit))) :=
  bif (iLt s1581.1 (lenI y1580.1.1)) then
    bif inB s1581.1 (List.length y1580.1.1) then
      let x1583 := List.getD y1580.1.1 s1581.1.toNat ((0, 0, ()) : (Vec 2 Int))
      let x1586 := iAdd .i16 (Vec.getD 2 s1578.2.1 0 (0 : Int)) (Vec.getD 2 x1583 0 (0 : Int))
      let x1589 := iAdd .i16 (Vec.getD 2 s1578.2.1 1 (0 : Int)) (Vec.getD 2 x1583 1 (0 : Int))
      (impl_Grid_stepCost a0 s1578.2.1 ((x1586, x1589, ()) : (Vec 2 Int))).bind fun y1590 =>
      bif y1590.1.2.1 then
        (impl_Grid_at a0 ((x1586, x1589, ()) : (Vec 2 Int))).bind fun y1591 =>
        bif inB y1591.1.1 (List.length y1551.1.1) then
          bif (iLe 0 (List.getD y1551.1.1 y1591.1.1.toNat (0 : Int))) then
            (impl_Grid_at a0 ((x1586, x1589, ()) : (Vec 2 Int))).bind fun y1594 =>
            bif inB y1594.1.1 (List.length y1551.1.1) then
              (impl_Grid_at a0 s1578.2.1).bind fun y1597 =>
              bif inB y1597.1.1 (List.length y1551.1.1) then
                bif (iEq (iAdd .i64 y1590.1.1 (List.getD y1551.1.1 y1594.1.1.toNat (0 : Int))) (List.getD y1551.1.1 y1597.1.1.toNat (0 : Int))) then
                  Option.map Sum.inr (
                    bif room (List.length s1578.1 + 1) 4 then
                      some (Sum.inl ((s1578.1 ++ ([(x1586, x1589, ())] : (List (Vec 2 Int)))), ((x1586, x1589, ()) : (Vec 2 Int)), ()))
                    else none)
                else
                some (Sum.inl ((iAdd .i64 s1581.1 1), ()))
              else none
            else none
          else
          some (Sum.inl ((iAdd .i64 s1581.1 1), ()))
        else none
      else
      some (Sum.inl ((iAdd .i64 s1581.1 1), ()))
    else none
  else
  Option.map Sum.inr (
    bif room (List.length s1578.1 + 1) 4 then
      some (Sum.inl ((s1578.1 ++ ([s1578.2.1] : (List (Vec 2 Int)))), s1578.2.1, ()))
    else none)

noncomputable def impl_BestRoute_l11 (a2 : (Vec 2 Int)) (x1553 : Int) (a0 : (Int × (Int × ((List Int) × Unit)))) (y1551 : (((List Int) × Unit) × Unit)) (s1578 : ((List (Vec 2 Int)) × (Vec 2 Int) × Unit)) : Option (((List (Vec 2 Int)) × (Vec 2 Int) × Unit) ⊕ (((List (Vec 2 Int)) × Int × Int × Unit) × Unit)) :=
  bif (! (iEq (Vec.getD 2 s1578.2.1 0 (0 : Int)) (Vec.getD 2 a2 0 (0 : Int)) && (iEq (Vec.getD 2 s1578.2.1 1 (0 : Int)) (Vec.getD 2 a2 1 (0 : Int)) && true))) then
    (impl_ways).bind fun y1580 =>
    run (impl_BestRoute_l13 y1580 s1578 a0 y1551) ((0 : Int), ())
  else
  Option.map Sum.inr (some ((s1578.1, x1553, (0 : Int), ()), ()))

noncomputable def impl_BestRoute (a0 : (Int × (Int × ((List Int) × Unit)))) (a1 : (Vec 2 Int)) (a2 : (Vec 2 Int)) : Option (((List (Vec 2 Int)) × Int × Int × Unit) × Unit) :=
  (impl_checkSpots a0 ([a1, a2] : (List (Vec 2 Int)))).bind fun y1547 =>
  bif (! (iEq y1547.1.1 0)) then some ((([] : (List (Vec 2 Int))), (0 : Int), y1547.1.1, ()), ()) else
  (impl_Grid_isWall a0 a1).bind fun y1549 =>
  bif y1549.1.1 then some ((([] : (List (Vec 2 Int))), (0 : Int), (4 : Int), ()), ()) else
  (impl_Grid_isWall a0 a2).bind fun y1550 =>
  bif y1550.1.1 then some ((([] : (List (Vec 2 Int))), (0 : Int), (4 : Int), ()), ()) else
  (impl_Grid_costsTo a0 a2).bind fun y1551 =>
  (impl_Grid_at a0 a1).bind fun y1552 =>
  bif inB y1552.1.1 (List.length y1551.1.1) then
    let x1553 := List.getD y1551.1.1 y1552.1.1.toNat (0 : Int)
    bif (iLt x1553 0) then some ((([] : (List (Vec 2 Int))), (0 : Int), (6 : Int), ()), ()) else run (impl_BestRoute_l11 a2 x1553 a0 y1551) (([a1] : (List (Vec 2 Int))), a1, ())
  else none

theorem slices_IndexFunc_impl_Spot_ok (a : List (Vec 2 Int)) (f : ((Vec 2 Int) × Unit) → Option Bool) (p : (Vec 2 Int) → Bool) (hl : a.length ≤ 140737488355328) (hp : ∀ x ∈ a, f (x, ()) = some (p x)) : slices_IndexFunc_impl_Spot a f = some ((indexOf p a, ()), ()) := by
  unfold slices_IndexFunc_impl_Spot
  refine index_loop (fun i hi => ?_) ?_
  · have e1 : iLt (i : Int) (lenI a) = true := iLt_pos (by rw [lenI_eq]; omega)
    have e2 : inB (i : Int) a.length = true := inB_pos hi
    have e4 : a.getD i ((0, 0, ()) : (Vec 2 Int)) = a[i] := getD_of hi
    have e5 : iAdd .i64 (i : Int) 1 = ((i + 1 : Nat) : Int) := iAdd_one hi (by omega)
    have e6 := hp a[i] (List.getElem_mem hi)
    simp only [slices_IndexFunc_impl_Spot_l2, e1, e2, Int.toNat_natCast, e4, e5, e6, Option.bind_some, cond_true]
    cases p a[i] <;> rfl
  · have e1 : iLt (a.length : Int) (lenI a) = false := iLt_neg (by rw [lenI_eq]; omega)
    simp only [slices_IndexFunc_impl_Spot_l2, e1, cond_false]
    rfl
theorem slices_ContainsFunc_impl_Spot_ok (a : List (Vec 2 Int)) (f : ((Vec 2 Int) × Unit) → Option Bool) (p : (Vec 2 Int) → Bool) (hl : a.length ≤ 140737488355328) (hp : ∀ x ∈ a, f (x, ()) = some (p x)) : slices_ContainsFunc_impl_Spot a f = some ((a.any p, ()), ()) := by
  simp only [slices_ContainsFunc_impl_Spot, slices_IndexFunc_impl_Spot_ok a f p hl hp, Option.bind_some, indexOf_any]
end Go.Proofs.YtnndahnmlmgenaaGreat
