import Derived.Test.YtildomllnnnofaaGreatF2
/- Functions on typed data: what the evaluation of each Go function is, and that it is sound. -/
namespace Go.Proofs.YtildomllnnnofaaGreat
open Go Go.Tm
noncomputable section
set_option linter.unusedVariables false
set_option maxRecDepth 100000
variable {G : List (Nat × Obj)}
def spec_l01Dot (a0 : (Vec 3 Nat)) (a1 : (Vec 3 Nat)) : Option Dq17 :=
  some (((fAdd .f32 (fAdd .f32 (fMul .f32 (Vec.getD 3 a0 0 (0 : Nat)) (Vec.getD 3 a1 0 (0 : Nat))) (fMul .f32 (Vec.getD 3 a0 1 (0 : Nat)) (Vec.getD 3 a1 1 (0 : Nat)))) (fMul .f32 (Vec.getD 3 a0 2 (0 : Nat)) (Vec.getD 3 a1 2 (0 : Nat)))), ()), ())
def spec_l01Dot_en : Entry := ⟨⟨[.v (.arr 3 (.flt .f32)), .v (.arr 3 (.flt .f32))], [.v (.val (.flt .f32))], false⟩, fun x => spec_l01Dot x.1 x.2.1⟩
theorem qh5 : Sound Tryz.prog G 178 spec_l01Dot_en := qab (envS (l := []) trivial) [] Tryz.func178 (by kernel_rfl) rfl fun _ => by kernel_rfl
def spec_l01Root (a0 : Nat) : Option Dq17 :=
  (fConv .f32 .f64 a0).bind fun y1731 =>
  (math_Sqrt y1731).bind fun y1732 =>
  (fConv .f64 .f32 y1732.1.1).bind fun y1733 =>
  some ((y1733, ()), ())
def spec_l01Root_en : Entry := ⟨⟨[.v (.flt .f32)], [.v (.val (.flt .f32))], false⟩, fun x => spec_l01Root x.1⟩
theorem qcf : Sound Tryz.prog G 87 spec_l01Root_en := qab (envS (l := [(82, math_Sqrt_en)]) ⟨(qk6), trivial⟩) [] Tryz.func87 (by kernel_rfl) rfl fun _ => by kernel_rfl
def spec_LengthOf (a0 : (Vec 3 Nat)) : Option Dq17 :=
  (spec_l01Dot a0 a0).bind fun y1718 =>
  (spec_l01Root y1718.1.1).bind fun y1719 =>
  some ((y1719.1.1, ()), ())
def spec_LengthOf_en : Entry := ⟨⟨[.v (.arr 3 (.flt .f32))], [.v (.val (.flt .f32))], false⟩, fun x => spec_LengthOf x.1⟩
theorem qhd : Sound Tryz.prog G 140 spec_LengthOf_en := qab (envS (l := [(87, spec_l01Root_en), (178, spec_l01Dot_en)]) ⟨(qcf), (qh5), trivial⟩) [] Tryz.func140 (by kernel_rfl) rfl fun _ => by kernel_rfl
def spec_l00Max (a0 : Int) (a1 : Int) : Option Dq15 :=
  bif (iLt a1 a0) then some ((a0, ()), ()) else some ((a1, ()), ())
def spec_l00Max_en : Entry := ⟨⟨[.v (.int .i64), .v (.int .i64)], [.v (.val (.int .i64))], false⟩, fun x => spec_l00Max x.1 x.2.1⟩
theorem qo4 : Sound Tryz.prog G 176 spec_l00Max_en := qab (envS (l := []) trivial) [] Tryz.func176 (by kernel_rfl) rfl fun _ => by kernel_rfl
def spec_l00Min (a0 : Int) (a1 : Int) : Option Dq15 :=
  bif (iLt a0 a1) then some ((a0, ()), ()) else some ((a1, ()), ())
def spec_l00Min_en : Entry := ⟨⟨[.v (.int .i64), .v (.int .i64)], [.v (.val (.int .i64))], false⟩, fun x => spec_l00Min x.1 x.2.1⟩
theorem qpo : Sound Tryz.prog G 177 spec_l00Min_en := qab (envS (l := []) trivial) [] Tryz.func177 (by kernel_rfl) rfl fun _ => by kernel_rfl
def spec_ShakeCounts (a0 : (Vec 3 Int)) (a1 : Int) (a2 : Int) : Option (((Vec 3 Int) × Int × Int × Unit) × Unit) :=
  bif (iLt a2 0) then some ((((0, 0, 0, ()) : (Vec 3 Int)), (0 : Int), (2 : Int), ()), ()) else
  let x1736 := iAdd .u32 (iMul .u32 1664525 a1) 1013904223
  let x1741 := iAdd .i64 (iMul .i64 2 (iWrap .i64 a2)) 1
  bif iEq x1741 0 then none else
  (spec_l00Min (32767 : Int) (iAdd .i64 (iWrap .i64 (Vec.getD 3 a0 0 (0 : Int))) (iSub .i64 (iRem .i64 (iWrap .i64 (iQuo .u32 x1736 65536)) x1741) (iWrap .i64 a2)))).bind fun y1748 =>
  (spec_l00Max ((-32768 : Int) : Int) y1748.1.1).bind fun y1749 =>
  let x1752 := iAdd .u32 (iMul .u32 1664525 x1736) 1013904223
  let x1757 := iAdd .i64 (iMul .i64 2 (iWrap .i64 a2)) 1
  bif iEq x1757 0 then none else
  (spec_l00Min (32767 : Int) (iAdd .i64 (iWrap .i64 (Vec.getD 3 a0 1 (0 : Int))) (iSub .i64 (iRem .i64 (iWrap .i64 (iQuo .u32 x1752 65536)) x1757) (iWrap .i64 a2)))).bind fun y1764 =>
  (spec_l00Max ((-32768 : Int) : Int) y1764.1.1).bind fun y1765 =>
  let x1768 := iAdd .u32 (iMul .u32 1664525 x1752) 1013904223
  let x1773 := iAdd .i64 (iMul .i64 2 (iWrap .i64 a2)) 1
  bif iEq x1773 0 then none else
  (spec_l00Min (32767 : Int) (iAdd .i64 (iWrap .i64 (Vec.getD 3 a0 2 (0 : Int))) (iSub .i64 (iRem .i64 (iWrap .i64 (iQuo .u32 x1768 65536)) x1773) (iWrap .i64 a2)))).bind fun y1780 =>
  (spec_l00Max ((-32768 : Int) : Int) y1780.1.1).bind fun y1781 =>
  some (((((iWrap .i16 y1749.1.1), (iWrap .i16 y1765.1.1), (iWrap .i16 y1781.1.1), ()) : (Vec 3 Int)), x1768, (0 : Int), ()), ())
def spec_ShakeCounts_en : Entry := ⟨⟨[.v (.arr 3 (.int .i16)), .v (.int .u32), .v (.int .i16)], [.v (.val (.arr 3 (.int .i16))), .v (.val (.int .u32)), .v (.val (.int .i64))], false⟩, fun x => spec_ShakeCounts x.1 x.2.1 x.2.2.1⟩
theorem qj2 : Sound Tryz.prog G 139 spec_ShakeCounts_en := qab (envS (l := [(176, spec_l00Max_en), (177, spec_l00Min_en)]) ⟨(qo4), (qpo), trivial⟩) [(5, .unroll 4)] Tryz.func139 (by kernel_rfl) rfl fun _ => by kernel_rfl
def spec_SubVec (a0 : (Vec 3 Nat)) (a1 : (Vec 3 Nat)) : Option (Dq14 × Unit) :=
  some (((((fSub .f32 (Vec.getD 3 a0 0 (0 : Nat)) (Vec.getD 3 a1 0 (0 : Nat))), (fSub .f32 (Vec.getD 3 a0 1 (0 : Nat)) (Vec.getD 3 a1 1 (0 : Nat))), (fSub .f32 (Vec.getD 3 a0 2 (0 : Nat)) (Vec.getD 3 a1 2 (0 : Nat))), ()) : (Vec 3 Nat)), ()), ())
def spec_SubVec_en : Entry := ⟨⟨[.v (.arr 3 (.flt .f32)), .v (.arr 3 (.flt .f32))], [.v (.val (.arr 3 (.flt .f32)))], false⟩, fun x => spec_SubVec x.1 x.2.1⟩
theorem qid : Sound Tryz.prog G 141 spec_SubVec_en := qab (envS (l := []) trivial) [] Tryz.func141 (by kernel_rfl) rfl fun _ => by kernel_rfl
def spec_l08Sensor : Option ((Dq22 × Unit) × Unit) :=
  some (((((1031798784, 1031798784, 1031798784, ()), (0, 0, 0, ()), 1, 0, ()) : Dq22), ()), ())
def spec_l08Sensor_en : Entry := ⟨⟨[], [.v (.val Uq8)], false⟩, fun _ => spec_l08Sensor⟩
theorem qgk : Sound Tryz.prog G 138 spec_l08Sensor_en := qab (envS (l := []) trivial) [] Tryz.func138 (by kernel_rfl) rfl fun _ => by kernel_rfl
def spec_AddVec (a0 : (Vec 3 Nat)) (a1 : (Vec 3 Nat)) : Option (Dq14 × Unit) :=
  some (((((fAdd .f32 (Vec.getD 3 a0 0 (0 : Nat)) (Vec.getD 3 a1 0 (0 : Nat))), (fAdd .f32 (Vec.getD 3 a0 1 (0 : Nat)) (Vec.getD 3 a1 1 (0 : Nat))), (fAdd .f32 (Vec.getD 3 a0 2 (0 : Nat)) (Vec.getD 3 a1 2 (0 : Nat))), ()) : (Vec 3 Nat)), ()), ())
def spec_AddVec_en : Entry := ⟨⟨[.v (.arr 3 (.flt .f32)), .v (.arr 3 (.flt .f32))], [.v (.val (.arr 3 (.flt .f32)))], false⟩, fun x => spec_AddVec x.1 x.2.1⟩
theorem qpa : Sound Tryz.prog G 173 spec_AddVec_en := qab (envS (l := []) trivial) [] Tryz.func173 (by kernel_rfl) rfl fun _ => by kernel_rfl
def spec_ScaleVec (a0 : (Vec 3 Nat)) (a1 : Nat) : Option (Dq14 × Unit) :=
  some (((((fMul .f32 (Vec.getD 3 a0 0 (0 : Nat)) a1), (fMul .f32 (Vec.getD 3 a0 1 (0 : Nat)) a1), (fMul .f32 (Vec.getD 3 a0 2 (0 : Nat)) a1), ()) : (Vec 3 Nat)), ()), ())
def spec_ScaleVec_en : Entry := ⟨⟨[.v (.arr 3 (.flt .f32)), .v (.flt .f32)], [.v (.val (.arr 3 (.flt .f32)))], false⟩, fun x => spec_ScaleVec x.1 x.2.1⟩
theorem qmn : Sound Tryz.prog G 172 spec_ScaleVec_en := qab (envS (l := []) trivial) [] Tryz.func172 (by kernel_rfl) rfl fun _ => by kernel_rfl
def spec_l08Track_l8 (s1817 : Dq16) (a0 : Dq4) (y1822 : (Dq14 × Unit)) (s1831 : Dq16) : Option (Dq16 ⊕ (Dq16 ⊕ Dq18)) :=
  bif inB s1817.2.1 (List.length a0.2.2.2.1) then
    bif (iLt s1831.2.1 ((List.getD a0.2.2.2.1 s1817.2.1.toNat ((0, (0, 0, 0, ()), 0, 0, ()) : (Int × Dq10))).1)) then
      (spec_AddVec s1831.2.2.1 y1822.1.1).bind fun y1834 =>
      (spec_l01Vec y1834.1.1).bind fun y1835 =>
      bif (! y1835.1.1) then
        Option.map Sum.inr (Option.map Sum.inr (some ((([] : (List (Vec 3 Nat))), (4 : Int), ()), ())))
      else
      bif room (List.length s1831.1 + 1) 12 then
        some (Sum.inl ((s1831.1 ++ ([y1834.1.1] : (List (Vec 3 Nat)))), (iAdd .i64 s1831.2.1 1), y1834.1.1, ()))
      else none
    else
    Option.map Sum.inr (some (Sum.inl (s1831.1, (iAdd .i64 s1817.2.1 1), s1831.2.2.1, ())))
  else none
def spec_l08Track_l4 (a0 : Dq4) (s1817 : Dq16) : Option (Dq16 ⊕ Dq18) :=
  bif (iLt s1817.2.1 (lenI a0.2.2.2.1)) then
    bif inB s1817.2.1 (List.length a0.2.2.2.1) then
      (spec_ScaleVec (((List.getD a0.2.2.2.1 s1817.2.1.toNat ((0, (0, 0, 0, ()), 0, 0, ()) : (Int × Dq10))).2).1) (fDiv .f32 1065353216 (fOfInt .f32 a0.1))).bind fun y1822 =>
      run (spec_l08Track_l8 s1817 a0 y1822) (s1817.1, (0 : Int), s1817.2.2.1, ())
    else none
  else
  Option.map Sum.inr (some ((s1817.1, (0 : Int), ()), ()))
def spec_l08Track (a0 : Dq4) : Option Dq18 :=
  run (spec_l08Track_l4 a0) (([a0.2.1] : (List (Vec 3 Nat))), (0 : Int), a0.2.1, ())
def spec_l08Track_en : Entry := ⟨⟨[.ro Uq9], [.v (.rows (.arr 3 (.flt .f32))), .v (.val (.int .i64))], false⟩, fun x => spec_l08Track x.1⟩
theorem qni : Sound Tryz.prog G 136 spec_l08Track_en := qab (envS (l := [(91, spec_l01Vec_en), (172, spec_ScaleVec_en), (173, spec_AddVec_en)]) ⟨(qdp), (qmn), (qpa), trivial⟩) [(4, .vary [(5, .rows (.arr 3 (.flt .f32))), (6, .sc (.int .i64)), (4, .box (.val (.arr 3 (.flt .f32))))]), (8, .vary [(5, .rows (.arr 3 (.flt .f32))), (8, .sc (.int .i64)), (4, .box (.val (.arr 3 (.flt .f32))))])] Tryz.func136 (by kernel_rfl) rfl fun _ => by kernel_rfl
def spec_l08Run_l12 (x1623 : (Int × Dq10)) (y1587 : Dq18) (s1621 : Dq21) (a0 : Dq4) (s1638 : Dq21) : Option (Dq21 ⊕ (Dq21 ⊕ ((Dq3 × Int × Unit) × Unit))) :=
  bif (iLe s1638.2.2.1 x1623.1) then
    let x1640 := iAdd .i64 s1638.2.1 1
    bif room (List.length s1638.2.2.2.1.2.2.2.1 + 1) 48 then
      let l1641 := s1638.2.2.2.1.2.2.2.1 ++ ([(1, (0, 0, 0, ()), (0, 0, 0, ()), 0, 0, ())] : (List Dq5))
      bif (iLt 0 x1623.2.2.1) then
        bif iEq x1623.2.2.1 0 then none else
        bif (iEq (iRem .i64 s1638.2.2.1 x1623.2.2.1) 0) then
          (spec_l08Sensor).bind fun y1645 =>
          bif inB x1640 (List.length y1587.1.1) then
            (spec_CountsOf y1645.1.1 (List.getD y1587.1.1 x1640.toNat ((0, 0, 0, ()) : (Vec 3 Nat)))).bind fun y1647 =>
            (spec_ShakeCounts y1647.1.1 s1638.1 (4 : Int)).bind fun y1648 =>
            bif room (List.length l1641 + 1) 48 then
              some (Sum.inl (y1648.1.2.1, x1640, (iAdd .i64 s1638.2.2.1 1), ((s1638.2.2.2.1.1, s1638.2.2.2.1.2.1, s1638.2.2.2.1.2.2.1, (l1641 ++ ([(3, (0, 0, 0, ()), y1648.1.1, 0, 0, ())] : (List Dq5))), s1638.2.2.2.1.2.2.2.2) : Dq3), ()))
            else none
          else none
        else
        some (Sum.inl (s1638.1, x1640, (iAdd .i64 s1638.2.2.1 1), ((s1638.2.2.2.1.1, s1638.2.2.2.1.2.1, s1638.2.2.2.1.2.2.1, l1641, s1638.2.2.2.1.2.2.2.2) : Dq3), ()))
      else
      some (Sum.inl (s1638.1, x1640, (iAdd .i64 s1638.2.2.1 1), ((s1638.2.2.2.1.1, s1638.2.2.2.1.2.1, s1638.2.2.2.1.2.2.1, l1641, s1638.2.2.2.1.2.2.2.2) : Dq3), ()))
    else none
  else
  Option.map Sum.inr (
    bif (iLt x1623.2.2.2.1 0) then
      some (Sum.inl (s1638.1, s1638.2.1, (iAdd .i64 s1621.2.2.1 1), ((s1638.2.2.2.1.1, s1638.2.2.2.1.2.1, s1638.2.2.2.1.2.2.1, s1638.2.2.2.1.2.2.2.1, s1638.2.2.2.1.2.2.2.2) : Dq3), ()))
    else
    let x1656 := iAdd .u32 (iMul .u32 1664525 s1638.1) 1013904223
    bif inB s1638.2.1 (List.length y1587.1.1) then
      bif inB x1623.2.2.2.1 (List.length a0.2.2.1) then
        (spec_SubVec (List.getD y1587.1.1 s1638.2.1.toNat ((0, 0, 0, ()) : (Vec 3 Nat))) (List.getD a0.2.2.1 x1623.2.2.2.1.toNat ((0, 0, 0, ()) : (Vec 3 Nat)))).bind fun y1664 =>
        (spec_LengthOf y1664.1.1).bind fun y1665 =>
        let x1667 := fAdd .f32 y1665.1.1 (fDiv .f32 (fOfInt .f32 (iSub .i64 (iWrap .i64 (iRem .u32 (iQuo .u32 x1656 65536) 9)) 4)) 1098907648)
        (spec_l01Finite x1667).bind fun y1668 =>
        bif (! y1668.1.1) then
          Option.map Sum.inr (some ((((0, (0, 0, 0, ()), [], [], ()) : Dq3), (4 : Int), ()), ()))
        else
        bif room (List.length s1638.2.2.2.1.2.2.2.1 + 1) 48 then
          some (Sum.inl (x1656, s1638.2.1, (iAdd .i64 s1621.2.2.1 1), ((s1638.2.2.2.1.1, s1638.2.2.2.1.2.1, s1638.2.2.2.1.2.2.1, (s1638.2.2.2.1.2.2.2.1 ++ ([(4, (0, 0, 0, ()), (0, 0, 0, ()), x1623.2.2.2.1, x1667, ())] : (List Dq5))), s1638.2.2.2.1.2.2.2.2) : Dq3), ()))
        else none
      else none
    else none)
def spec_l08Run_l7 (a0 : Dq4) (y1587 : Dq18) (s1621 : Dq21) : Option (Dq21 ⊕ ((Dq3 × Int × Unit) × Unit)) :=
  bif (iLt s1621.2.2.1 (lenI a0.2.2.2.1)) then
    bif inB s1621.2.2.1 (List.length a0.2.2.2.1) then
      let x1623 := List.getD a0.2.2.2.1 s1621.2.2.1.toNat ((0, (0, 0, 0, ()), 0, 0, ()) : (Int × Dq10))
      bif room (List.length s1621.2.2.2.1.2.2.2.1 + 1) 48 then
        run (spec_l08Run_l12 x1623 y1587 s1621 a0) (s1621.1, s1621.2.1, (1 : Int), ((s1621.2.2.2.1.1, s1621.2.2.2.1.2.1, s1621.2.2.2.1.2.2.1, (s1621.2.2.2.1.2.2.2.1 ++ ([(2, x1623.2.1, (0, 0, 0, ()), 0, 0, ())] : (List Dq5))), s1621.2.2.2.1.2.2.2.2) : Dq3), ())
      else none
    else none
  else
  Option.map Sum.inr (
    bif (iLt 1200 (lenI s1621.2.2.2.1.2.2.2.1)) then some ((((0, (0, 0, 0, ()), [], [], ()) : Dq3), (3 : Int), ()), ()) else
    some ((((s1621.2.2.2.1.1, s1621.2.2.2.1.2.1, s1621.2.2.2.1.2.2.1, s1621.2.2.2.1.2.2.2.1, s1621.2.2.2.1.2.2.2.2) : Dq3), (0 : Int), ()), ()))
def spec_l08Run (a0 : Dq4) (a1 : Int) : Option ((Dq3 × Int × Unit) × Unit) :=
  (spec_l08Track a0).bind fun y1587 =>
  bif (! (iEq y1587.1.2.1 0)) then some ((((0, (0, 0, 0, ()), [], [], ()) : Dq3), y1587.1.2.1, ()), ()) else
  bif room (0 + List.length a0.2.2.1) 12 then
    run (spec_l08Run_l7 a0 y1587) (a1, (0 : Int), (0 : Int), ((a0.1, a0.2.1, (([] : (List (Vec 3 Nat))) ++ a0.2.2.1), [], ()) : Dq3), ())
  else none
def spec_l08Run_en : Entry := ⟨⟨[.ro Uq9, .v (.int .u32)], [.v (.pair (.val (.int .i64)) (.pair (.val (.arr 3 (.flt .f32))) (.pair (.rows (.arr 3 (.flt .f32))) (.pair (.rows Uq2) (.val (.unit)))))), .v (.val (.int .i64))], false⟩, fun x => spec_l08Run x.1 x.2.1⟩
theorem qo3 : Sound Tryz.prog G 101 spec_l08Run_en := qab (envS (l := [(53, spec_l01Finite_en), (136, spec_l08Track_en), (137, spec_CountsOf_en), (138, spec_l08Sensor_en), (139, spec_ShakeCounts_en), (140, spec_LengthOf_en), (141, spec_SubVec_en)]) ⟨(qaw), (qni), (qne), (qgk), (qj2), (qhd), (qid), trivial⟩) [(7, .vary [(1, .sc (.int .u32)), (9, .sc (.int .i64)), (10, .sc (.int .i64)), (8, .box (.pair (.val (.int .i64)) (.pair (.val (.arr 3 (.flt .f32))) (.pair (.rows (.arr 3 (.flt .f32))) (.pair (.rows Uq2) (.val (.unit)))))))]), (12, .vary [(1, .sc (.int .u32)), (9, .sc (.int .i64)), (12, .sc (.int .i64)), (8, .box (.pair (.val (.int .i64)) (.pair (.val (.arr 3 (.flt .f32))) (.pair (.rows (.arr 3 (.flt .f32))) (.pair (.rows Uq2) (.val (.unit)))))))])] Tryz.func101 (by kernel_rfl) rfl fun _ => by kernel_rfl
def spec_l08LogDrawn (a0 : Dq7) : Option ((Dq3 × Unit) × (Dq7 × Unit)) :=
  (spec_l08Drawn a0).bind fun y1012 =>
  (spec_l00Src_pick y1012.2.1 (65536 : Int)).bind fun y1013 =>
  (spec_l08Run ((y1012.1.1.1, y1012.1.1.2.1, y1012.1.1.2.2.1, y1012.1.1.2.2.2.1, y1012.1.1.2.2.2.2) : Dq4) (iWrap .u32 y1013.1.1)).bind fun y1015 =>
  (spec_l00Src_one y1013.2.1 (4 : Int)).bind fun y1016 =>
  bif y1016.1.1 then
    (spec_l00Src_pick y1016.2.1 (400 : Int)).bind fun y1017 =>
    bif room (List.length y1015.1.1.2.2.2.1 + 1) 48 then
      some ((((y1015.1.1.1, y1015.1.1.2.1, y1015.1.1.2.2.1, (y1015.1.1.2.2.2.1 ++ ([(3, (0, 0, 0, ()), ((iWrap .i16 (iSub .i64 y1017.1.1 200)), 100, (-20 : Int), ()), 0, 0, ())] : (List Dq5))), y1015.1.1.2.2.2.2) : Dq3), ()), (y1017.2.1, ()))
    else none
  else
  some ((((y1015.1.1.1, y1015.1.1.2.1, y1015.1.1.2.2.1, y1015.1.1.2.2.2.1, y1015.1.1.2.2.2.2) : Dq3), ()), (y1016.2.1, ()))
def spec_l08LogDrawn_en : Entry := ⟨⟨[.io (.val Uq6)], [.v (.pair (.val (.int .i64)) (.pair (.val (.arr 3 (.flt .f32))) (.pair (.rows (.arr 3 (.flt .f32))) (.pair (.rows Uq2) (.val (.unit))))))], true⟩, fun x => spec_l08LogDrawn x.1⟩
theorem qj5 : Sound Tryz.prog G 63 spec_l08LogDrawn_en := qab (envS (l := [(38, spec_l00Src_pick_en), (100, spec_l08Drawn_en), (101, spec_l08Run_en), (102, spec_l00Src_one_en)]) ⟨(qb7), (qm8), (qo3), (qlb), trivial⟩) [] Tryz.func63 (by kernel_rfl) rfl fun _ => by kernel_rfl
def spec_A2Log (a0 : (List Int)) : Option ((Dq3 × Unit) × Unit) :=
  (spec_l00From a0).bind fun y1010 =>
  (spec_l08LogDrawn y1010.1.1).bind fun y1011 =>
  some ((((y1011.1.1.1, y1011.1.1.2.1, y1011.1.1.2.2.1, y1011.1.1.2.2.2.1, y1011.1.1.2.2.2.2) : Dq3), ()), ())
def spec_A2Log_en : Entry := ⟨⟨[.v (.list (.int .u8))], [.v (.pair (.val (.int .i64)) (.pair (.val (.arr 3 (.flt .f32))) (.pair (.rows (.arr 3 (.flt .f32))) (.pair (.rows Uq2) (.val (.unit))))))], false⟩, fun x => spec_A2Log x.1⟩
theorem qqy : Sound Tryz.prog G 23 spec_A2Log_en := qab (envS (l := [(32, spec_l00From_en), (63, spec_l08LogDrawn_en)]) ⟨(qow), (qj5), trivial⟩) [] Tryz.func23 (by kernel_rfl) rfl fun _ => by kernel_rfl
def spec_l08First (a0 : Dq3) : Option ((Dq2 × Unit) × Unit) :=
  some ((((((Vec.getD 3 a0.2.1 0 (0 : Nat)), (Vec.getD 3 a0.2.1 1 (0 : Nat)), (Vec.getD 3 a0.2.1 2 (0 : Nat)), 0, 0, 0, ()), ((1056964608, 0, 0, 0, 0, 0, ()), (0, 1056964608, 0, 0, 0, 0, ()), (0, 0, 1056964608, 0, 0, 0, ()), (0, 0, 0, 1065353216, 0, 0, ()), (0, 0, 0, 0, 1065353216, 0, ()), (0, 0, 0, 0, 0, 1065353216, ()), ()), ()) : Dq2), ()), ())
def spec_l08First_en : Entry := ⟨⟨[.ro Uq4], [.v (.val Uq1)], false⟩, fun x => spec_l08First x.1⟩
theorem qnf : Sound Tryz.prog G 69 spec_l08First_en := qab (envS (l := []) trivial) [(3, .unroll 4)] Tryz.func69 (by kernel_rfl) rfl fun _ => by kernel_rfl
def spec_l01Same (a0 : Nat) (a1 : Nat) : Option Dq9 :=
  bif (! (fEq .f32 a0 a0)) then
    bif (! (fEq .f32 a0 a0)) then
      some (((! (fEq .f32 a1 a1)), ()), ())
    else some ((false, ()), ())
  else
  bif (! (fEq .f32 a1 a1)) then
    bif (! (fEq .f32 a0 a0)) then
      some (((! (fEq .f32 a1 a1)), ()), ())
    else some ((false, ()), ())
  else
  allSame fun (q1928 : Nat) =>
  allSame fun (q1930 : Nat) =>
  some (((iEq (bitsF .f32 a0 q1928) (bitsF .f32 a1 q1930)), ()), ())
def spec_l01Same_en : Entry := ⟨⟨[.v (.flt .f32), .v (.flt .f32)], [.v (.val (.bool))], false⟩, fun x => spec_l01Same x.1 x.2.1⟩
theorem qex : Sound Tryz.prog G 131 spec_l01Same_en := qab (envS (l := []) trivial) [] Tryz.func131 (by kernel_rfl) rfl fun _ => by kernel_rfl
def spec_l01SameVec (a0 : (Vec 3 Nat)) (a1 : (Vec 3 Nat)) : Option Dq9 :=
  (spec_l01Same (Vec.getD 3 a0 0 (0 : Nat)) (Vec.getD 3 a1 0 (0 : Nat))).bind fun y1935 =>
  bif y1935.1.1 then
    (spec_l01Same (Vec.getD 3 a0 1 (0 : Nat)) (Vec.getD 3 a1 1 (0 : Nat))).bind fun y1938 =>
    bif y1938.1.1 then
      (spec_l01Same (Vec.getD 3 a0 2 (0 : Nat)) (Vec.getD 3 a1 2 (0 : Nat))).bind fun y1941 =>
      some ((y1941.1.1, ()), ())
    else some ((false, ()), ())
  else some ((false, ()), ())
def spec_l01SameVec_en : Entry := ⟨⟨[.v (.arr 3 (.flt .f32)), .v (.arr 3 (.flt .f32))], [.v (.val (.bool))], false⟩, fun x => spec_l01SameVec x.1 x.2.1⟩
theorem qkd : Sound Tryz.prog G 96 spec_l01SameVec_en := qab (envS (l := [(131, spec_l01Same_en)]) ⟨(qex), trivial⟩) [] Tryz.func96 (by kernel_rfl) rfl fun _ => by kernel_rfl
def spec_l08Entry (a0 : Dq5) (a1 : Int) : Option Dq9 :=
  (spec_l01SameVec a0.2.1 ((0, 0, 0, ()) : (Vec 3 Nat))).bind fun y1870 =>
  bif y1870.1.1 then
    (spec_l01Same a0.2.2.2.2.1 (0 : Nat)).bind fun y1871 =>
    bif y1871.1.1 then
      bif (iEq a0.1 1) then
        bif (iEq (Vec.getD 3 a0.2.2.1 0 (0 : Int)) 0 && (iEq (Vec.getD 3 a0.2.2.1 1 (0 : Int)) 0 && (iEq (Vec.getD 3 a0.2.2.1 2 (0 : Int)) 0 && true))) then
          some (((iEq a0.2.2.2.1 0), ()), ())
        else some ((false, ()), ())
      else
      bif (iEq a0.1 2) then
        (spec_l01Vec a0.2.1).bind fun y1876 =>
        bif y1876.1.1 then
          (spec_l01Same a0.2.2.2.2.1 (0 : Nat)).bind fun y1877 =>
          bif y1877.1.1 then
            bif (iEq (Vec.getD 3 a0.2.2.1 0 (0 : Int)) 0 && (iEq (Vec.getD 3 a0.2.2.1 1 (0 : Int)) 0 && (iEq (Vec.getD 3 a0.2.2.1 2 (0 : Int)) 0 && true))) then
              some (((iEq a0.2.2.2.1 0), ()), ())
            else some ((false, ()), ())
          else some ((false, ()), ())
        else some ((false, ()), ())
      else
      bif (iEq a0.1 3) then
        (spec_l01SameVec a0.2.1 ((0, 0, 0, ()) : (Vec 3 Nat))).bind fun y1881 =>
        bif y1881.1.1 then
          (spec_l01Same a0.2.2.2.2.1 (0 : Nat)).bind fun y1882 =>
          bif y1882.1.1 then
            some (((iEq a0.2.2.2.1 0), ()), ())
          else some ((false, ()), ())
        else some ((false, ()), ())
      else
      bif (iEq a0.1 4) then
        (spec_l01SameVec a0.2.1 ((0, 0, 0, ()) : (Vec 3 Nat))).bind fun y1885 =>
        bif y1885.1.1 then
          bif (iEq (Vec.getD 3 a0.2.2.1 0 (0 : Int)) 0 && (iEq (Vec.getD 3 a0.2.2.1 1 (0 : Int)) 0 && (iEq (Vec.getD 3 a0.2.2.1 2 (0 : Int)) 0 && true))) then
            (spec_l01Finite a0.2.2.2.2.1).bind fun y1887 =>
            bif y1887.1.1 then
              (spec_l00In a0.2.2.2.1 (0 : Int) (iSub .i64 a1 1)).bind fun y1889 =>
              some ((y1889.1.1, ()), ())
            else some ((false, ()), ())
          else some ((false, ()), ())
        else some ((false, ()), ())
      else some ((false, ()), ())
    else
    bif (iEq a0.1 1) then some ((false, ()), ()) else
    bif (iEq a0.1 2) then
      (spec_l01Vec a0.2.1).bind fun y1892 =>
      bif y1892.1.1 then
        (spec_l01Same a0.2.2.2.2.1 (0 : Nat)).bind fun y1893 =>
        bif y1893.1.1 then
          bif (iEq (Vec.getD 3 a0.2.2.1 0 (0 : Int)) 0 && (iEq (Vec.getD 3 a0.2.2.1 1 (0 : Int)) 0 && (iEq (Vec.getD 3 a0.2.2.1 2 (0 : Int)) 0 && true))) then
            some (((iEq a0.2.2.2.1 0), ()), ())
          else some ((false, ()), ())
        else some ((false, ()), ())
      else some ((false, ()), ())
    else
    bif (iEq a0.1 3) then
      (spec_l01SameVec a0.2.1 ((0, 0, 0, ()) : (Vec 3 Nat))).bind fun y1897 =>
      bif y1897.1.1 then
        (spec_l01Same a0.2.2.2.2.1 (0 : Nat)).bind fun y1898 =>
        bif y1898.1.1 then
          some (((iEq a0.2.2.2.1 0), ()), ())
        else some ((false, ()), ())
      else some ((false, ()), ())
    else
    bif (iEq a0.1 4) then
      (spec_l01SameVec a0.2.1 ((0, 0, 0, ()) : (Vec 3 Nat))).bind fun y1901 =>
      bif y1901.1.1 then
        bif (iEq (Vec.getD 3 a0.2.2.1 0 (0 : Int)) 0 && (iEq (Vec.getD 3 a0.2.2.1 1 (0 : Int)) 0 && (iEq (Vec.getD 3 a0.2.2.1 2 (0 : Int)) 0 && true))) then
          (spec_l01Finite a0.2.2.2.2.1).bind fun y1903 =>
          bif y1903.1.1 then
            (spec_l00In a0.2.2.2.1 (0 : Int) (iSub .i64 a1 1)).bind fun y1905 =>
            some ((y1905.1.1, ()), ())
          else some ((false, ()), ())
        else some ((false, ()), ())
      else some ((false, ()), ())
    else some ((false, ()), ())
  else
  bif (iEq a0.1 1) then some ((false, ()), ()) else
  bif (iEq a0.1 2) then
    (spec_l01Vec a0.2.1).bind fun y1908 =>
    bif y1908.1.1 then
      (spec_l01Same a0.2.2.2.2.1 (0 : Nat)).bind fun y1909 =>
      bif y1909.1.1 then
        bif (iEq (Vec.getD 3 a0.2.2.1 0 (0 : Int)) 0 && (iEq (Vec.getD 3 a0.2.2.1 1 (0 : Int)) 0 && (iEq (Vec.getD 3 a0.2.2.1 2 (0 : Int)) 0 && true))) then
          some (((iEq a0.2.2.2.1 0), ()), ())
        else some ((false, ()), ())
      else some ((false, ()), ())
    else some ((false, ()), ())
  else
  bif (iEq a0.1 3) then
    (spec_l01SameVec a0.2.1 ((0, 0, 0, ()) : (Vec 3 Nat))).bind fun y1913 =>
    bif y1913.1.1 then
      (spec_l01Same a0.2.2.2.2.1 (0 : Nat)).bind fun y1914 =>
      bif y1914.1.1 then
        some (((iEq a0.2.2.2.1 0), ()), ())
      else some ((false, ()), ())
    else some ((false, ()), ())
  else
  bif (iEq a0.1 4) then
    (spec_l01SameVec a0.2.1 ((0, 0, 0, ()) : (Vec 3 Nat))).bind fun y1917 =>
    bif y1917.1.1 then
      bif (iEq (Vec.getD 3 a0.2.2.1 0 (0 : Int)) 0 && (iEq (Vec.getD 3 a0.2.2.1 1 (0 : Int)) 0 && (iEq (Vec.getD 3 a0.2.2.1 2 (0 : Int)) 0 && true))) then
        (spec_l01Finite a0.2.2.2.2.1).bind fun y1919 =>
        bif y1919.1.1 then
          (spec_l00In a0.2.2.2.1 (0 : Int) (iSub .i64 a1 1)).bind fun y1921 =>
          some ((y1921.1.1, ()), ())
        else some ((false, ()), ())
      else some ((false, ()), ())
    else some ((false, ()), ())
  else some ((false, ()), ())
def spec_l08Entry_en : Entry := ⟨⟨[.ro Uq2, .v (.int .i64)], [.v (.val (.bool))], false⟩, fun x => spec_l08Entry x.1 x.2.1⟩
theorem qmm : Sound Tryz.prog G 108 spec_l08Entry_en := qab (envS (l := [(53, spec_l01Finite_en), (91, spec_l01Vec_en), (96, spec_l01SameVec_en), (120, spec_l00In_en), (131, spec_l01Same_en)]) ⟨(qaw), (qdp), (qkd), (qb9), (qex), trivial⟩) [] Tryz.func108 (by kernel_rfl) rfl fun _ => by kernel_rfl
def spec_l08Frame_l4 (a2 : (List (Vec 3 Nat))) (s1947 : (Int × Unit)) : Option ((Int × Unit) ⊕ Dq9) :=
  bif (iLt s1947.1 (lenI a2)) then
    bif inB s1947.1 (List.length a2) then
      (spec_l01Vec (List.getD a2 s1947.1.toNat ((0, 0, 0, ()) : (Vec 3 Nat)))).bind fun y1950 =>
      bif (! y1950.1.1) then
        Option.map Sum.inr (some ((false, ()), ()))
      else
      some (Sum.inl ((iAdd .i64 s1947.1 1), ()))
    else none
  else
  Option.map Sum.inr (some ((true, ()), ()))
def spec_l08Frame (a0 : Int) (a1 : (Vec 3 Nat)) (a2 : (List (Vec 3 Nat))) : Option Dq9 :=
  (spec_l00In a0 (1 : Int) (64 : Int)).bind fun y1942 =>
  bif (! y1942.1.1) then some ((false, ()), ()) else
  (spec_l01Vec a1).bind fun y1944 =>
  bif (! y1944.1.1) then some ((false, ()), ()) else
  bif (iLt 6 (lenI a2)) then some ((false, ()), ()) else run (spec_l08Frame_l4 a2) ((0 : Int), ())
def spec_l08Frame_en : Entry := ⟨⟨[.v (.int .i64), .v (.arr 3 (.flt .f32)), .v (.list (.arr 3 (.flt .f32)))], [.v (.val (.bool))], false⟩, fun x => spec_l08Frame x.1 x.2.1 x.2.2.1⟩
theorem qmt : Sound Tryz.prog G 107 spec_l08Frame_en := qab (envS (l := [(91, spec_l01Vec_en), (120, spec_l00In_en)]) ⟨(qdp), (qb9), trivial⟩) [(4, .vary [(7, .sc (.int .i64))])] Tryz.func107 (by kernel_rfl) rfl fun _ => by kernel_rfl
def spec_l08Log_l4 (a0 : Dq3) (s1865 : (Int × Unit)) : Option ((Int × Unit) ⊕ Dq9) :=
  bif (iLt s1865.1 (lenI a0.2.2.2.1)) then
    bif inB s1865.1 (List.length a0.2.2.2.1) then
      (spec_l08Entry (List.getD a0.2.2.2.1 s1865.1.toNat ((0, (0, 0, 0, ()), (0, 0, 0, ()), 0, 0, ()) : Dq5)) (lenI a0.2.2.1)).bind fun y1867 =>
      bif (! y1867.1.1) then
        Option.map Sum.inr (some ((false, ()), ()))
      else
      some (Sum.inl ((iAdd .i64 s1865.1 1), ()))
    else none
  else
  Option.map Sum.inr (some ((true, ()), ()))
def spec_l08Log (a0 : Dq3) : Option Dq9 :=
  (spec_l08Frame a0.1 a0.2.1 a0.2.2.1).bind fun y1862 =>
  bif (! y1862.1.1) then some ((false, ()), ()) else
  bif (iLt 1200 (lenI a0.2.2.2.1)) then some ((false, ()), ()) else run (spec_l08Log_l4 a0) ((0 : Int), ())
def spec_l08Log_en : Entry := ⟨⟨[.ro Uq4], [.v (.val (.bool))], false⟩, fun x => spec_l08Log x.1⟩
theorem qo2 : Sound Tryz.prog G 67 spec_l08Log_en := qab (envS (l := [(107, spec_l08Frame_en), (108, spec_l08Entry_en)]) ⟨(qmt), (qmm), trivial⟩) [(4, .vary [(3, .sc (.int .i64))])] Tryz.func67 (by kernel_rfl) rfl fun _ => by kernel_rfl
def spec_l03Six (a0 : (Vec 6 Nat)) : Option Dq9 :=
  (spec_l01Finite (Vec.getD 6 a0 0 (0 : Nat))).bind fun y1998 =>
  bif (! y1998.1.1) then some ((false, ()), ()) else
  (spec_l01Finite (Vec.getD 6 a0 1 (0 : Nat))).bind fun y2001 =>
  bif (! y2001.1.1) then some ((false, ()), ()) else
  (spec_l01Finite (Vec.getD 6 a0 2 (0 : Nat))).bind fun y2004 =>
  bif (! y2004.1.1) then some ((false, ()), ()) else
  (spec_l01Finite (Vec.getD 6 a0 3 (0 : Nat))).bind fun y2007 =>
  bif (! y2007.1.1) then some ((false, ()), ()) else
  (spec_l01Finite (Vec.getD 6 a0 4 (0 : Nat))).bind fun y2010 =>
  bif (! y2010.1.1) then some ((false, ()), ()) else
  (spec_l01Finite (Vec.getD 6 a0 5 (0 : Nat))).bind fun y2013 =>
  bif (! y2013.1.1) then some ((false, ()), ()) else some ((true, ()), ())
def spec_l03Six_en : Entry := ⟨⟨[.v (.arr 6 (.flt .f32))], [.v (.val (.bool))], false⟩, fun x => spec_l03Six x.1⟩
theorem qig : Sound Tryz.prog G 204 spec_l03Six_en := qab (envS (l := [(53, spec_l01Finite_en)]) ⟨(qaw), trivial⟩) [(2, .unroll 7)] Tryz.func204 (by kernel_rfl) rfl fun _ => by kernel_rfl
def spec_l03Clue (a0 : Dq6) : Option Dq9 :=
  (spec_l03Six a0.1).bind fun y1993 =>
  bif y1993.1.1 then
    (spec_l01Finite a0.2.1).bind fun y1994 =>
    bif y1994.1.1 then
      (spec_l01Finite a0.2.2.1).bind fun y1995 =>
      bif y1995.1.1 then
        some (((fLt .f32 0 a0.2.2.1), ()), ())
      else some ((false, ()), ())
    else some ((false, ()), ())
  else some ((false, ()), ())
def spec_l03Clue_en : Entry := ⟨⟨[.ro Uq3], [.v (.val (.bool))], false⟩, fun x => spec_l03Clue x.1⟩
theorem qev : Sound Tryz.prog G 185 spec_l03Clue_en := qab (envS (l := [(53, spec_l01Finite_en), (204, spec_l03Six_en)]) ⟨(qaw), (qig), trivial⟩) [] Tryz.func185 (by kernel_rfl) rfl fun _ => by kernel_rfl
def spec_l03Valid (a0 : Dq6) : Option Dq23 :=
  (spec_l03Clue a0).bind fun y1991 =>
  bif (! y1991.1.1) then some (((((0, 0, 0, 0, 0, 0, ()), 0, 0, ()) : Dq6), (1 : Int), ()), ()) else some ((a0, (0 : Int), ()), ())
def spec_l03Valid_en : Entry := ⟨⟨[.v Uq3], [.v (.val Uq3), .v (.val (.int .i64))], false⟩, fun x => spec_l03Valid x.1⟩
theorem qhh : Sound Tryz.prog G 184 spec_l03Valid_en := qab (envS (l := [(185, spec_l03Clue_en)]) ⟨(qev), trivial⟩) [] Tryz.func184 (by kernel_rfl) rfl fun _ => by kernel_rfl
def spec_ClueAt (a0 : Int) (a1 : Nat) (a2 : Nat) : Option Dq23 :=
  (spec_l00In a0 (0 : Int) (5 : Int)).bind fun y1988 =>
  bif (! y1988.1.1) then some (((((0, 0, 0, 0, 0, 0, ()), 0, 0, ()) : Dq6), (2 : Int), ()), ()) else
  bif inB a0 6 then
    (spec_l03Valid ((Vec.set 6 ((0, 0, 0, 0, 0, 0, ()) : (Vec 6 Nat)) a0.toNat (1065353216 : Nat), a1, a2, ()) : Dq6)).bind fun y1990 =>
    some ((y1990.1.1, y1990.1.2.1, ()), ())
  else none
def spec_ClueAt_en : Entry := ⟨⟨[.v (.int .i64), .v (.flt .f32), .v (.flt .f32)], [.v (.val Uq3), .v (.val (.int .i64))], false⟩, fun x => spec_ClueAt x.1 x.2.1 x.2.2.1⟩
theorem qib : Sound Tryz.prog G 146 spec_ClueAt_en := qab (envS (l := [(120, spec_l00In_en), (184, spec_l03Valid_en)]) ⟨(qb9), (qhh), trivial⟩) [] Tryz.func146 (by kernel_rfl) rfl fun _ => by kernel_rfl
def spec_l03Least (a0 : Nat) : Option Dq9 :=
  bif (fLe .f32 0 a0) then
    (spec_l01Finite a0).bind fun y2140 =>
    some ((y2140.1.1, ()), ())
  else some ((false, ()), ())
def spec_l03Least_en : Entry := ⟨⟨[.v (.flt .f32)], [.v (.val (.bool))], false⟩, fun x => spec_l03Least x.1⟩
theorem qmr : Sound Tryz.prog G 181 spec_l03Least_en := qab (envS (l := [(53, spec_l01Finite_en)]) ⟨(qaw), trivial⟩) [] Tryz.func181 (by kernel_rfl) rfl fun _ => by kernel_rfl
def spec_l03Lower_l16 (s2217 : Dq8) (s2256 : Dq8) (x2267 : Nat) (x2268 : Nat) (s2280 : Dq8) : Option (Dq8 ⊕ (Dq8 ⊕ (Dq8 ⊕ Dq11))) :=
  bif (iLt s2280.1 6) then
    bif inB s2280.1 6 then
      bif inB s2217.1 9 then
        let x2282 := Vec.getD 9 (Vec.getD 6 s2280.2.1 s2280.1.toNat ((0, 0, 0, 0, 0, 0, 0, 0, 0, ()) : (Vec 9 Nat))) s2217.1.toNat (0 : Nat)
        bif inB s2280.1 6 then
          bif inB s2256.1 9 then
            let x2283 := Vec.getD 9 (Vec.getD 6 s2280.2.1 s2280.1.toNat ((0, 0, 0, 0, 0, 0, 0, 0, 0, ()) : (Vec 9 Nat))) s2256.1.toNat (0 : Nat)
            let x2286 := fAdd .f32 (fMul .f32 x2267 x2282) (fMul .f32 x2268 x2283)
            bif inB s2280.1 6 then
              bif inB s2217.1 9 then
                bif inB s2280.1 6 then
                  bif inB s2256.1 9 then
                    some (Sum.inl ((iAdd .i64 s2280.1 1), Vec.set 6 (Vec.set 6 s2280.2.1 s2280.1.toNat (Vec.set 9 (Vec.getD 6 s2280.2.1 s2280.1.toNat ((0, 0, 0, 0, 0, 0, 0, 0, 0, ()) : (Vec 9 Nat))) s2217.1.toNat x2286)) s2280.1.toNat (Vec.set 9 (Vec.getD 6 (Vec.set 6 s2280.2.1 s2280.1.toNat (Vec.set 9 (Vec.getD 6 s2280.2.1 s2280.1.toNat ((0, 0, 0, 0, 0, 0, 0, 0, 0, ()) : (Vec 9 Nat))) s2217.1.toNat x2286)) s2280.1.toNat ((0, 0, 0, 0, 0, 0, 0, 0, 0, ()) : (Vec 9 Nat))) s2256.1.toNat (fSub .f32 (fMul .f32 x2267 x2283) (fMul .f32 x2268 x2282))), ()))
                  else none
                else none
              else none
            else none
          else none
        else none
      else none
    else none
  else
  Option.map Sum.inr (
    bif inB s2217.1 6 then
      bif inB s2256.1 9 then
        some (Sum.inl ((iAdd .i64 s2256.1 1), Vec.set 6 s2280.2.1 s2217.1.toNat (Vec.set 9 (Vec.getD 6 s2280.2.1 s2217.1.toNat ((0, 0, 0, 0, 0, 0, 0, 0, 0, ()) : (Vec 9 Nat))) s2256.1.toNat (0 : Nat)), ()))
      else none
    else none)
def spec_l03Lower_l5 (s2217 : Dq8) (s2256 : Dq8) : Option (Dq8 ⊕ (Dq8 ⊕ Dq11)) :=
  bif (iLt s2256.1 9) then
    bif inB s2217.1 6 then
      bif inB s2256.1 9 then
        let x2258 := Vec.getD 9 (Vec.getD 6 s2256.2.1 s2217.1.toNat ((0, 0, 0, 0, 0, 0, 0, 0, 0, ()) : (Vec 9 Nat))) s2256.1.toNat (0 : Nat)
        bif (fEq .f32 x2258 0) then
          some (Sum.inl ((iAdd .i64 s2256.1 1), s2256.2.1, ()))
        else
        bif inB s2217.1 6 then
          bif inB s2217.1 9 then
            let x2261 := Vec.getD 9 (Vec.getD 6 s2256.2.1 s2217.1.toNat ((0, 0, 0, 0, 0, 0, 0, 0, 0, ()) : (Vec 9 Nat))) s2217.1.toNat (0 : Nat)
            (spec_l01Root (fAdd .f32 (fMul .f32 x2261 x2261) (fMul .f32 x2258 x2258))).bind fun y2265 =>
            bif (fEq .f32 y2265.1.1 0) then
              Option.map Sum.inr (Option.map Sum.inr (some (((((0, 0, 0, 0, 0, 0, ()), (0, 0, 0, 0, 0, 0, ()), (0, 0, 0, 0, 0, 0, ()), (0, 0, 0, 0, 0, 0, ()), (0, 0, 0, 0, 0, 0, ()), (0, 0, 0, 0, 0, 0, ()), ()) : (Vec 6 (Vec 6 Nat))), (4 : Int), ()), ())))
            else
            let x2267 := fDiv .f32 x2261 y2265.1.1
            let x2268 := fDiv .f32 x2258 y2265.1.1
            run (spec_l03Lower_l16 s2217 s2256 x2267 x2268) (s2217.1, s2256.2.1, ())
          else none
        else none
      else none
    else none
  else
  Option.map Sum.inr (some (Sum.inl ((iAdd .i64 s2217.1 1), s2256.2.1, ())))
def spec_l03Lower_l28 (s2322 : Dq13) (s2217 : Dq8) (s2335 : Dq13) : Option (Dq13 ⊕ (Dq13 ⊕ Dq11)) :=
  bif (iLt s2335.1 6) then
    bif inB s2335.1 6 then
      bif inB s2322.1 9 then
        let x2337 := Vec.getD 9 (Vec.getD 6 s2217.2.1 s2335.1.toNat ((0, 0, 0, 0, 0, 0, 0, 0, 0, ()) : (Vec 9 Nat))) s2322.1.toNat (0 : Nat)
        bif inB s2335.1 6 then
          bif inB s2322.1 6 then
            bif inB s2322.1 6 then
              bif inB s2322.1 9 then
                bif (fLt .f32 (Vec.getD 9 (Vec.getD 6 s2217.2.1 s2322.1.toNat ((0, 0, 0, 0, 0, 0, 0, 0, 0, ()) : (Vec 9 Nat))) s2322.1.toNat (0 : Nat)) 0) then
                  bif inB s2335.1 6 then
                    bif inB s2322.1 9 then
                      let x2341 := fNeg .f32 (Vec.getD 9 (Vec.getD 6 s2217.2.1 s2335.1.toNat ((0, 0, 0, 0, 0, 0, 0, 0, 0, ()) : (Vec 9 Nat))) s2322.1.toNat (0 : Nat))
                      bif inB s2335.1 6 then
                        bif inB s2322.1 6 then
                          bif inB s2335.1 6 then
                            bif inB s2322.1 6 then
                              (spec_l01Finite (Vec.getD 6 (Vec.getD 6 (Vec.set 6 (Vec.set 6 s2335.2.1 s2335.1.toNat (Vec.set 6 (Vec.getD 6 s2335.2.1 s2335.1.toNat ((0, 0, 0, 0, 0, 0, ()) : (Vec 6 Nat))) s2322.1.toNat x2337)) s2335.1.toNat (Vec.set 6 (Vec.getD 6 (Vec.set 6 s2335.2.1 s2335.1.toNat (Vec.set 6 (Vec.getD 6 s2335.2.1 s2335.1.toNat ((0, 0, 0, 0, 0, 0, ()) : (Vec 6 Nat))) s2322.1.toNat x2337)) s2335.1.toNat ((0, 0, 0, 0, 0, 0, ()) : (Vec 6 Nat))) s2322.1.toNat x2341)) s2335.1.toNat ((0, 0, 0, 0, 0, 0, ()) : (Vec 6 Nat))) s2322.1.toNat (0 : Nat))).bind fun y2343 =>
                              bif (! y2343.1.1) then
                                Option.map Sum.inr (Option.map Sum.inr (some (((((0, 0, 0, 0, 0, 0, ()), (0, 0, 0, 0, 0, 0, ()), (0, 0, 0, 0, 0, 0, ()), (0, 0, 0, 0, 0, 0, ()), (0, 0, 0, 0, 0, 0, ()), (0, 0, 0, 0, 0, 0, ()), ()) : (Vec 6 (Vec 6 Nat))), (4 : Int), ()), ())))
                              else
                              some (Sum.inl ((iAdd .i64 s2335.1 1), Vec.set 6 (Vec.set 6 s2335.2.1 s2335.1.toNat (Vec.set 6 (Vec.getD 6 s2335.2.1 s2335.1.toNat ((0, 0, 0, 0, 0, 0, ()) : (Vec 6 Nat))) s2322.1.toNat x2337)) s2335.1.toNat (Vec.set 6 (Vec.getD 6 (Vec.set 6 s2335.2.1 s2335.1.toNat (Vec.set 6 (Vec.getD 6 s2335.2.1 s2335.1.toNat ((0, 0, 0, 0, 0, 0, ()) : (Vec 6 Nat))) s2322.1.toNat x2337)) s2335.1.toNat ((0, 0, 0, 0, 0, 0, ()) : (Vec 6 Nat))) s2322.1.toNat x2341), ()))
                            else none
                          else none
                        else none
                      else none
                    else none
                  else none
                else
                bif inB s2335.1 6 then
                  bif inB s2322.1 6 then
                    (spec_l01Finite (Vec.getD 6 (Vec.getD 6 (Vec.set 6 s2335.2.1 s2335.1.toNat (Vec.set 6 (Vec.getD 6 s2335.2.1 s2335.1.toNat ((0, 0, 0, 0, 0, 0, ()) : (Vec 6 Nat))) s2322.1.toNat x2337)) s2335.1.toNat ((0, 0, 0, 0, 0, 0, ()) : (Vec 6 Nat))) s2322.1.toNat (0 : Nat))).bind fun y2347 =>
                    bif (! y2347.1.1) then
                      Option.map Sum.inr (Option.map Sum.inr (some (((((0, 0, 0, 0, 0, 0, ()), (0, 0, 0, 0, 0, 0, ()), (0, 0, 0, 0, 0, 0, ()), (0, 0, 0, 0, 0, 0, ()), (0, 0, 0, 0, 0, 0, ()), (0, 0, 0, 0, 0, 0, ()), ()) : (Vec 6 (Vec 6 Nat))), (4 : Int), ()), ())))
                    else
                    some (Sum.inl ((iAdd .i64 s2335.1 1), Vec.set 6 s2335.2.1 s2335.1.toNat (Vec.set 6 (Vec.getD 6 s2335.2.1 s2335.1.toNat ((0, 0, 0, 0, 0, 0, ()) : (Vec 6 Nat))) s2322.1.toNat x2337), ()))
                  else none
                else none
              else none
            else none
          else none
        else none
      else none
    else none
  else
  Option.map Sum.inr (some (Sum.inl ((iAdd .i64 s2322.1 1), s2335.2.1, ())))
def spec_l03Lower_l25 (s2217 : Dq8) (s2322 : Dq13) : Option (Dq13 ⊕ Dq11) :=
  bif (iLt s2322.1 6) then run (spec_l03Lower_l28 s2322 s2217) (s2322.1, s2322.2.1, ()) else
  Option.map Sum.inr (some ((s2322.2.1, (0 : Int), ()), ()))
def spec_l03Lower_l2 (s2217 : Dq8) : Option (Dq8 ⊕ Dq11) :=
  bif (iLt s2217.1 6) then
    run (spec_l03Lower_l5 s2217) ((iAdd .i64 s2217.1 1), s2217.2.1, ())
  else
  Option.map Sum.inr (run (spec_l03Lower_l25 s2217) ((0 : Int), (((0, 0, 0, 0, 0, 0, ()), (0, 0, 0, 0, 0, 0, ()), (0, 0, 0, 0, 0, 0, ()), (0, 0, 0, 0, 0, 0, ()), (0, 0, 0, 0, 0, 0, ()), (0, 0, 0, 0, 0, 0, ()), ()) : (Vec 6 (Vec 6 Nat))), ()))
def spec_l03Lower (a0 : (Vec 6 (Vec 9 Nat))) : Option Dq11 :=
  run (spec_l03Lower_l2) ((0 : Int), a0, ())
def spec_l03Lower_en : Entry := ⟨⟨[.v (.arr 6 (.arr 9 (.flt .f32)))], [.v (.val (.arr 6 (.arr 6 (.flt .f32)))), .v (.val (.int .i64))], false⟩, fun x => spec_l03Lower x.1⟩
theorem qhi : Sound Tryz.prog G 182 spec_l03Lower_en := qab (envS (l := [(53, spec_l01Finite_en), (87, spec_l01Root_en)]) ⟨(qaw), (qcf), trivial⟩) [(2, .vary [(4, .sc (.int .i64)), (1, .box (.val (.arr 6 (.arr 9 (.flt .f32)))))]), (5, .vary [(5, .sc (.int .i64)), (1, .box (.val (.arr 6 (.arr 9 (.flt .f32)))))]), (16, .vary [(11, .sc (.int .i64)), (1, .box (.val (.arr 6 (.arr 9 (.flt .f32)))))]), (25, .vary [(15, .sc (.int .i64)), (14, .box (.val (.arr 6 (.arr 6 (.flt .f32)))))]), (28, .vary [(16, .sc (.int .i64)), (14, .box (.val (.arr 6 (.arr 6 (.flt .f32)))))])] Tryz.func182 (by kernel_rfl) rfl fun _ => by kernel_rfl
def spec_l03Ok (a0 : Dq2) : Option Dq9 :=
  (spec_l03Six a0.1).bind fun y2354 =>
  bif (! y2354.1.1) then some ((false, ()), ()) else
  (spec_l03Six (Vec.getD 6 a0.2.1 0 ((0, 0, 0, 0, 0, 0, ()) : (Vec 6 Nat)))).bind fun y2357 =>
  bif (! y2357.1.1) then some ((false, ()), ()) else
  bif (fLt .f32 (Vec.getD 6 (Vec.getD 6 a0.2.1 0 ((0, 0, 0, 0, 0, 0, ()) : (Vec 6 Nat))) 0 (0 : Nat)) 0) then some ((false, ()), ()) else
  bif (! (fEq .f32 (Vec.getD 6 (Vec.getD 6 a0.2.1 0 ((0, 0, 0, 0, 0, 0, ()) : (Vec 6 Nat))) 1 (0 : Nat)) 0)) then some ((false, ()), ()) else
  bif (! (fEq .f32 (Vec.getD 6 (Vec.getD 6 a0.2.1 0 ((0, 0, 0, 0, 0, 0, ()) : (Vec 6 Nat))) 2 (0 : Nat)) 0)) then some ((false, ()), ()) else
  bif (! (fEq .f32 (Vec.getD 6 (Vec.getD 6 a0.2.1 0 ((0, 0, 0, 0, 0, 0, ()) : (Vec 6 Nat))) 3 (0 : Nat)) 0)) then some ((false, ()), ()) else
  bif (! (fEq .f32 (Vec.getD 6 (Vec.getD 6 a0.2.1 0 ((0, 0, 0, 0, 0, 0, ()) : (Vec 6 Nat))) 4 (0 : Nat)) 0)) then some ((false, ()), ()) else
  bif (! (fEq .f32 (Vec.getD 6 (Vec.getD 6 a0.2.1 0 ((0, 0, 0, 0, 0, 0, ()) : (Vec 6 Nat))) 5 (0 : Nat)) 0)) then some ((false, ()), ()) else
  (spec_l03Six (Vec.getD 6 a0.2.1 1 ((0, 0, 0, 0, 0, 0, ()) : (Vec 6 Nat)))).bind fun y2372 =>
  bif (! y2372.1.1) then some ((false, ()), ()) else
  bif (fLt .f32 (Vec.getD 6 (Vec.getD 6 a0.2.1 1 ((0, 0, 0, 0, 0, 0, ()) : (Vec 6 Nat))) 1 (0 : Nat)) 0) then some ((false, ()), ()) else
  bif (! (fEq .f32 (Vec.getD 6 (Vec.getD 6 a0.2.1 1 ((0, 0, 0, 0, 0, 0, ()) : (Vec 6 Nat))) 2 (0 : Nat)) 0)) then some ((false, ()), ()) else
  bif (! (fEq .f32 (Vec.getD 6 (Vec.getD 6 a0.2.1 1 ((0, 0, 0, 0, 0, 0, ()) : (Vec 6 Nat))) 3 (0 : Nat)) 0)) then some ((false, ()), ()) else
  bif (! (fEq .f32 (Vec.getD 6 (Vec.getD 6 a0.2.1 1 ((0, 0, 0, 0, 0, 0, ()) : (Vec 6 Nat))) 4 (0 : Nat)) 0)) then some ((false, ()), ()) else
  bif (! (fEq .f32 (Vec.getD 6 (Vec.getD 6 a0.2.1 1 ((0, 0, 0, 0, 0, 0, ()) : (Vec 6 Nat))) 5 (0 : Nat)) 0)) then some ((false, ()), ()) else
  (spec_l03Six (Vec.getD 6 a0.2.1 2 ((0, 0, 0, 0, 0, 0, ()) : (Vec 6 Nat)))).bind fun y2385 =>
  bif (! y2385.1.1) then some ((false, ()), ()) else
  bif (fLt .f32 (Vec.getD 6 (Vec.getD 6 a0.2.1 2 ((0, 0, 0, 0, 0, 0, ()) : (Vec 6 Nat))) 2 (0 : Nat)) 0) then some ((false, ()), ()) else
  bif (! (fEq .f32 (Vec.getD 6 (Vec.getD 6 a0.2.1 2 ((0, 0, 0, 0, 0, 0, ()) : (Vec 6 Nat))) 3 (0 : Nat)) 0)) then some ((false, ()), ()) else
  bif (! (fEq .f32 (Vec.getD 6 (Vec.getD 6 a0.2.1 2 ((0, 0, 0, 0, 0, 0, ()) : (Vec 6 Nat))) 4 (0 : Nat)) 0)) then some ((false, ()), ()) else
  bif (! (fEq .f32 (Vec.getD 6 (Vec.getD 6 a0.2.1 2 ((0, 0, 0, 0, 0, 0, ()) : (Vec 6 Nat))) 5 (0 : Nat)) 0)) then some ((false, ()), ()) else
  (spec_l03Six (Vec.getD 6 a0.2.1 3 ((0, 0, 0, 0, 0, 0, ()) : (Vec 6 Nat)))).bind fun y2396 =>
  bif (! y2396.1.1) then some ((false, ()), ()) else
  bif (fLt .f32 (Vec.getD 6 (Vec.getD 6 a0.2.1 3 ((0, 0, 0, 0, 0, 0, ()) : (Vec 6 Nat))) 3 (0 : Nat)) 0) then some ((false, ()), ()) else
  bif (! (fEq .f32 (Vec.getD 6 (Vec.getD 6 a0.2.1 3 ((0, 0, 0, 0, 0, 0, ()) : (Vec 6 Nat))) 4 (0 : Nat)) 0)) then some ((false, ()), ()) else
  bif (! (fEq .f32 (Vec.getD 6 (Vec.getD 6 a0.2.1 3 ((0, 0, 0, 0, 0, 0, ()) : (Vec 6 Nat))) 5 (0 : Nat)) 0)) then some ((false, ()), ()) else
  (spec_l03Six (Vec.getD 6 a0.2.1 4 ((0, 0, 0, 0, 0, 0, ()) : (Vec 6 Nat)))).bind fun y2405 =>
  bif (! y2405.1.1) then some ((false, ()), ()) else
  bif (fLt .f32 (Vec.getD 6 (Vec.getD 6 a0.2.1 4 ((0, 0, 0, 0, 0, 0, ()) : (Vec 6 Nat))) 4 (0 : Nat)) 0) then some ((false, ()), ()) else
  bif (! (fEq .f32 (Vec.getD 6 (Vec.getD 6 a0.2.1 4 ((0, 0, 0, 0, 0, 0, ()) : (Vec 6 Nat))) 5 (0 : Nat)) 0)) then some ((false, ()), ()) else
  (spec_l03Six (Vec.getD 6 a0.2.1 5 ((0, 0, 0, 0, 0, 0, ()) : (Vec 6 Nat)))).bind fun y2412 =>
  bif (! y2412.1.1) then some ((false, ()), ()) else
  bif (fLt .f32 (Vec.getD 6 (Vec.getD 6 a0.2.1 5 ((0, 0, 0, 0, 0, 0, ()) : (Vec 6 Nat))) 5 (0 : Nat)) 0) then some ((false, ()), ()) else some ((true, ()), ())
def spec_l03Ok_en : Entry := ⟨⟨[.ro Uq1], [.v (.val (.bool))], false⟩, fun x => spec_l03Ok x.1⟩
theorem qc6 : Sound Tryz.prog G 180 spec_l03Ok_en := qab (envS (l := [(204, spec_l03Six_en)]) ⟨(qig), trivial⟩) [(4, .unroll 7), (9, .unroll 6)] Tryz.func180 (by kernel_rfl) rfl fun _ => by kernel_rfl
def spec_l03Made (a0 : Dq2) (a1 : Int) : Option Dq12 :=
  bif (! (iEq a1 0)) then
    some (((((0, 0, 0, 0, 0, 0, ()), ((0, 0, 0, 0, 0, 0, ()), (0, 0, 0, 0, 0, 0, ()), (0, 0, 0, 0, 0, 0, ()), (0, 0, 0, 0, 0, 0, ()), (0, 0, 0, 0, 0, 0, ()), (0, 0, 0, 0, 0, 0, ()), ()), ()) : Dq2), a1, ()), ())
  else
  (spec_l03Ok a0).bind fun y2352 =>
  bif (! y2352.1.1) then
    some (((((0, 0, 0, 0, 0, 0, ()), ((0, 0, 0, 0, 0, 0, ()), (0, 0, 0, 0, 0, 0, ()), (0, 0, 0, 0, 0, 0, ()), (0, 0, 0, 0, 0, 0, ()), (0, 0, 0, 0, 0, 0, ()), (0, 0, 0, 0, 0, 0, ()), ()), ()) : Dq2), (4 : Int), ()), ())
  else some ((a0, (0 : Int), ()), ())
def spec_l03Made_en : Entry := ⟨⟨[.v Uq1, .v (.int .i64)], [.v (.val Uq1), .v (.val (.int .i64))], false⟩, fun x => spec_l03Made x.1 x.2.1⟩
theorem qhr : Sound Tryz.prog G 183 spec_l03Made_en := qab (envS (l := [(180, spec_l03Ok_en)]) ⟨(qc6), trivial⟩) [] Tryz.func183 (by kernel_rfl) rfl fun _ => by kernel_rfl
def spec_Predict (a0 : Dq2) (a1 : Nat) (a2 : (Vec 3 Nat)) : Option Dq12 :=
  (spec_l03Ok a0).bind fun y2015 =>
  bif (! y2015.1.1) then
    some (((((0, 0, 0, 0, 0, 0, ()), ((0, 0, 0, 0, 0, 0, ()), (0, 0, 0, 0, 0, 0, ()), (0, 0, 0, 0, 0, 0, ()), (0, 0, 0, 0, 0, 0, ()), (0, 0, 0, 0, 0, 0, ()), (0, 0, 0, 0, 0, 0, ()), ()), ()) : Dq2), (1 : Int), ()), ())
  else
  (spec_l03Least a1).bind fun y2017 =>
  bif (! y2017.1.1) then
    some (((((0, 0, 0, 0, 0, 0, ()), ((0, 0, 0, 0, 0, 0, ()), (0, 0, 0, 0, 0, 0, ()), (0, 0, 0, 0, 0, 0, ()), (0, 0, 0, 0, 0, 0, ()), (0, 0, 0, 0, 0, 0, ()), (0, 0, 0, 0, 0, 0, ()), ()), ()) : Dq2), (2 : Int), ()), ())
  else
  (spec_l03Least (Vec.getD 3 a2 0 (0 : Nat))).bind fun y2020 =>
  bif (! y2020.1.1) then
    some (((((0, 0, 0, 0, 0, 0, ()), ((0, 0, 0, 0, 0, 0, ()), (0, 0, 0, 0, 0, 0, ()), (0, 0, 0, 0, 0, 0, ()), (0, 0, 0, 0, 0, 0, ()), (0, 0, 0, 0, 0, 0, ()), (0, 0, 0, 0, 0, 0, ()), ()), ()) : Dq2), (2 : Int), ()), ())
  else
  (spec_l03Least (Vec.getD 3 a2 1 (0 : Nat))).bind fun y2023 =>
  bif (! y2023.1.1) then
    some (((((0, 0, 0, 0, 0, 0, ()), ((0, 0, 0, 0, 0, 0, ()), (0, 0, 0, 0, 0, 0, ()), (0, 0, 0, 0, 0, 0, ()), (0, 0, 0, 0, 0, 0, ()), (0, 0, 0, 0, 0, 0, ()), (0, 0, 0, 0, 0, 0, ()), ()), ()) : Dq2), (2 : Int), ()), ())
  else
  (spec_l03Least (Vec.getD 3 a2 2 (0 : Nat))).bind fun y2026 =>
  bif (! y2026.1.1) then
    some (((((0, 0, 0, 0, 0, 0, ()), ((0, 0, 0, 0, 0, 0, ()), (0, 0, 0, 0, 0, 0, ()), (0, 0, 0, 0, 0, 0, ()), (0, 0, 0, 0, 0, 0, ()), (0, 0, 0, 0, 0, 0, ()), (0, 0, 0, 0, 0, 0, ()), ()), ()) : Dq2), (2 : Int), ()), ())
  else
  (spec_l01Root a1).bind fun y2028 =>
  (spec_l03Lower ((((fAdd .f32 (Vec.getD 6 (Vec.getD 6 a0.2.1 0 ((0, 0, 0, 0, 0, 0, ()) : (Vec 6 Nat))) 0 (0 : Nat)) (fMul .f32 a1 (Vec.getD 6 (Vec.getD 6 a0.2.1 3 ((0, 0, 0, 0, 0, 0, ()) : (Vec 6 Nat))) 0 (0 : Nat)))), (fAdd .f32 (Vec.getD 6 (Vec.getD 6 a0.2.1 0 ((0, 0, 0, 0, 0, 0, ()) : (Vec 6 Nat))) 1 (0 : Nat)) (fMul .f32 a1 (Vec.getD 6 (Vec.getD 6 a0.2.1 3 ((0, 0, 0, 0, 0, 0, ()) : (Vec 6 Nat))) 1 (0 : Nat)))), (fAdd .f32 (Vec.getD 6 (Vec.getD 6 a0.2.1 0 ((0, 0, 0, 0, 0, 0, ()) : (Vec 6 Nat))) 2 (0 : Nat)) (fMul .f32 a1 (Vec.getD 6 (Vec.getD 6 a0.2.1 3 ((0, 0, 0, 0, 0, 0, ()) : (Vec 6 Nat))) 2 (0 : Nat)))), (fAdd .f32 (Vec.getD 6 (Vec.getD 6 a0.2.1 0 ((0, 0, 0, 0, 0, 0, ()) : (Vec 6 Nat))) 3 (0 : Nat)) (fMul .f32 a1 (Vec.getD 6 (Vec.getD 6 a0.2.1 3 ((0, 0, 0, 0, 0, 0, ()) : (Vec 6 Nat))) 3 (0 : Nat)))), (fAdd .f32 (Vec.getD 6 (Vec.getD 6 a0.2.1 0 ((0, 0, 0, 0, 0, 0, ()) : (Vec 6 Nat))) 4 (0 : Nat)) (fMul .f32 a1 (Vec.getD 6 (Vec.getD 6 a0.2.1 3 ((0, 0, 0, 0, 0, 0, ()) : (Vec 6 Nat))) 4 (0 : Nat)))), (fAdd .f32 (Vec.getD 6 (Vec.getD 6 a0.2.1 0 ((0, 0, 0, 0, 0, 0, ()) : (Vec 6 Nat))) 5 (0 : Nat)) (fMul .f32 a1 (Vec.getD 6 (Vec.getD 6 a0.2.1 3 ((0, 0, 0, 0, 0, 0, ()) : (Vec 6 Nat))) 5 (0 : Nat)))), 0, 0, 0, ()), ((fAdd .f32 (Vec.getD 6 (Vec.getD 6 a0.2.1 1 ((0, 0, 0, 0, 0, 0, ()) : (Vec 6 Nat))) 0 (0 : Nat)) (fMul .f32 a1 (Vec.getD 6 (Vec.getD 6 a0.2.1 4 ((0, 0, 0, 0, 0, 0, ()) : (Vec 6 Nat))) 0 (0 : Nat)))), (fAdd .f32 (Vec.getD 6 (Vec.getD 6 a0.2.1 1 ((0, 0, 0, 0, 0, 0, ()) : (Vec 6 Nat))) 1 (0 : Nat)) (fMul .f32 a1 (Vec.getD 6 (Vec.getD 6 a0.2.1 4 ((0, 0, 0, 0, 0, 0, ()) : (Vec 6 Nat))) 1 (0 : Nat)))), (fAdd .f32 (Vec.getD 6 (Vec.getD 6 a0.2.1 1 ((0, 0, 0, 0, 0, 0, ()) : (Vec 6 Nat))) 2 (0 : Nat)) (fMul .f32 a1 (Vec.getD 6 (Vec.getD 6 a0.2.1 4 ((0, 0, 0, 0, 0, 0, ()) : (Vec 6 Nat))) 2 (0 : Nat)))), (fAdd .f32 (Vec.getD 6 (Vec.getD 6 a0.2.1 1 ((0, 0, 0, 0, 0, 0, ()) : (Vec 6 Nat))) 3 (0 : Nat)) (fMul .f32 a1 (Vec.getD 6 (Vec.getD 6 a0.2.1 4 ((0, 0, 0, 0, 0, 0, ()) : (Vec 6 Nat))) 3 (0 : Nat)))), (fAdd .f32 (Vec.getD 6 (Vec.getD 6 a0.2.1 1 ((0, 0, 0, 0, 0, 0, ()) : (Vec 6 Nat))) 4 (0 : Nat)) (fMul .f32 a1 (Vec.getD 6 (Vec.getD 6 a0.2.1 4 ((0, 0, 0, 0, 0, 0, ()) : (Vec 6 Nat))) 4 (0 : Nat)))), (fAdd .f32 (Vec.getD 6 (Vec.getD 6 a0.2.1 1 ((0, 0, 0, 0, 0, 0, ()) : (Vec 6 Nat))) 5 (0 : Nat)) (fMul .f32 a1 (Vec.getD 6 (Vec.getD 6 a0.2.1 4 ((0, 0, 0, 0, 0, 0, ()) : (Vec 6 Nat))) 5 (0 : Nat)))), 0, 0, 0, ()), ((fAdd .f32 (Vec.getD 6 (Vec.getD 6 a0.2.1 2 ((0, 0, 0, 0, 0, 0, ()) : (Vec 6 Nat))) 0 (0 : Nat)) (fMul .f32 a1 (Vec.getD 6 (Vec.getD 6 a0.2.1 5 ((0, 0, 0, 0, 0, 0, ()) : (Vec 6 Nat))) 0 (0 : Nat)))), (fAdd .f32 (Vec.getD 6 (Vec.getD 6 a0.2.1 2 ((0, 0, 0, 0, 0, 0, ()) : (Vec 6 Nat))) 1 (0 : Nat)) (fMul .f32 a1 (Vec.getD 6 (Vec.getD 6 a0.2.1 5 ((0, 0, 0, 0, 0, 0, ()) : (Vec 6 Nat))) 1 (0 : Nat)))), (fAdd .f32 (Vec.getD 6 (Vec.getD 6 a0.2.1 2 ((0, 0, 0, 0, 0, 0, ()) : (Vec 6 Nat))) 2 (0 : Nat)) (fMul .f32 a1 (Vec.getD 6 (Vec.getD 6 a0.2.1 5 ((0, 0, 0, 0, 0, 0, ()) : (Vec 6 Nat))) 2 (0 : Nat)))), (fAdd .f32 (Vec.getD 6 (Vec.getD 6 a0.2.1 2 ((0, 0, 0, 0, 0, 0, ()) : (Vec 6 Nat))) 3 (0 : Nat)) (fMul .f32 a1 (Vec.getD 6 (Vec.getD 6 a0.2.1 5 ((0, 0, 0, 0, 0, 0, ()) : (Vec 6 Nat))) 3 (0 : Nat)))), (fAdd .f32 (Vec.getD 6 (Vec.getD 6 a0.2.1 2 ((0, 0, 0, 0, 0, 0, ()) : (Vec 6 Nat))) 4 (0 : Nat)) (fMul .f32 a1 (Vec.getD 6 (Vec.getD 6 a0.2.1 5 ((0, 0, 0, 0, 0, 0, ()) : (Vec 6 Nat))) 4 (0 : Nat)))), (fAdd .f32 (Vec.getD 6 (Vec.getD 6 a0.2.1 2 ((0, 0, 0, 0, 0, 0, ()) : (Vec 6 Nat))) 5 (0 : Nat)) (fMul .f32 a1 (Vec.getD 6 (Vec.getD 6 a0.2.1 5 ((0, 0, 0, 0, 0, 0, ()) : (Vec 6 Nat))) 5 (0 : Nat)))), 0, 0, 0, ()), ((Vec.getD 6 (Vec.getD 6 a0.2.1 3 ((0, 0, 0, 0, 0, 0, ()) : (Vec 6 Nat))) 0 (0 : Nat)), (Vec.getD 6 (Vec.getD 6 a0.2.1 3 ((0, 0, 0, 0, 0, 0, ()) : (Vec 6 Nat))) 1 (0 : Nat)), (Vec.getD 6 (Vec.getD 6 a0.2.1 3 ((0, 0, 0, 0, 0, 0, ()) : (Vec 6 Nat))) 2 (0 : Nat)), (Vec.getD 6 (Vec.getD 6 a0.2.1 3 ((0, 0, 0, 0, 0, 0, ()) : (Vec 6 Nat))) 3 (0 : Nat)), (Vec.getD 6 (Vec.getD 6 a0.2.1 3 ((0, 0, 0, 0, 0, 0, ()) : (Vec 6 Nat))) 4 (0 : Nat)), (Vec.getD 6 (Vec.getD 6 a0.2.1 3 ((0, 0, 0, 0, 0, 0, ()) : (Vec 6 Nat))) 5 (0 : Nat)), (fMul .f32 (Vec.getD 3 a2 0 (0 : Nat)) y2028.1.1), 0, 0, ()), ((Vec.getD 6 (Vec.getD 6 a0.2.1 4 ((0, 0, 0, 0, 0, 0, ()) : (Vec 6 Nat))) 0 (0 : Nat)), (Vec.getD 6 (Vec.getD 6 a0.2.1 4 ((0, 0, 0, 0, 0, 0, ()) : (Vec 6 Nat))) 1 (0 : Nat)), (Vec.getD 6 (Vec.getD 6 a0.2.1 4 ((0, 0, 0, 0, 0, 0, ()) : (Vec 6 Nat))) 2 (0 : Nat)), (Vec.getD 6 (Vec.getD 6 a0.2.1 4 ((0, 0, 0, 0, 0, 0, ()) : (Vec 6 Nat))) 3 (0 : Nat)), (Vec.getD 6 (Vec.getD 6 a0.2.1 4 ((0, 0, 0, 0, 0, 0, ()) : (Vec 6 Nat))) 4 (0 : Nat)), (Vec.getD 6 (Vec.getD 6 a0.2.1 4 ((0, 0, 0, 0, 0, 0, ()) : (Vec 6 Nat))) 5 (0 : Nat)), 0, (fMul .f32 (Vec.getD 3 a2 1 (0 : Nat)) y2028.1.1), 0, ()), ((Vec.getD 6 (Vec.getD 6 a0.2.1 5 ((0, 0, 0, 0, 0, 0, ()) : (Vec 6 Nat))) 0 (0 : Nat)), (Vec.getD 6 (Vec.getD 6 a0.2.1 5 ((0, 0, 0, 0, 0, 0, ()) : (Vec 6 Nat))) 1 (0 : Nat)), (Vec.getD 6 (Vec.getD 6 a0.2.1 5 ((0, 0, 0, 0, 0, 0, ()) : (Vec 6 Nat))) 2 (0 : Nat)), (Vec.getD 6 (Vec.getD 6 a0.2.1 5 ((0, 0, 0, 0, 0, 0, ()) : (Vec 6 Nat))) 3 (0 : Nat)), (Vec.getD 6 (Vec.getD 6 a0.2.1 5 ((0, 0, 0, 0, 0, 0, ()) : (Vec 6 Nat))) 4 (0 : Nat)), (Vec.getD 6 (Vec.getD 6 a0.2.1 5 ((0, 0, 0, 0, 0, 0, ()) : (Vec 6 Nat))) 5 (0 : Nat)), 0, 0, (fMul .f32 (Vec.getD 3 a2 2 (0 : Nat)) y2028.1.1), ()), ()) : (Vec 6 (Vec 9 Nat)))).bind fun y2137 =>
  (spec_l03Made ((Vec.set 6 (Vec.set 6 (Vec.set 6 a0.1 0 (fAdd .f32 (Vec.getD 6 a0.1 0 (0 : Nat)) (fMul .f32 (Vec.getD 6 a0.1 3 (0 : Nat)) a1))) 1 (fAdd .f32 (Vec.getD 6 a0.1 1 (0 : Nat)) (fMul .f32 (Vec.getD 6 a0.1 4 (0 : Nat)) a1))) 2 (fAdd .f32 (Vec.getD 6 a0.1 2 (0 : Nat)) (fMul .f32 (Vec.getD 6 a0.1 5 (0 : Nat)) a1)), y2137.1.1, a0.2.2) : Dq2) y2137.1.2.1).bind fun y2138 =>
  some ((y2138.1.1, y2138.1.2.1, ()), ())
def spec_Predict_en : Entry := ⟨⟨[.v Uq1, .v (.flt .f32), .v (.arr 3 (.flt .f32))], [.v (.val Uq1), .v (.val (.int .i64))], false⟩, fun x => spec_Predict x.1 x.2.1 x.2.2.1⟩
theorem qon : Sound Tryz.prog G 145 spec_Predict_en := qab (envS (l := [(87, spec_l01Root_en), (180, spec_l03Ok_en), (181, spec_l03Least_en), (182, spec_l03Lower_en), (183, spec_l03Made_en)]) ⟨(qcf), (qc6), (qmr), (qhi), (qhr), trivial⟩) [(9, .unroll 4), (13, .unroll 7)] Tryz.func145 (by kernel_rfl) rfl fun _ => by kernel_rfl
def spec_UnitOf (a0 : (Vec 3 Nat)) : Option (((Vec 3 Nat) × Int × Unit) × Unit) :=
  (spec_l01Dot a0 a0).bind fun y2430 =>
  (spec_l01Root y2430.1.1).bind fun y2431 =>
  bif (fEq .f32 y2431.1.1 0) then some ((((0, 0, 0, ()) : (Vec 3 Nat)), (4 : Int), ()), ()) else
  (spec_l01Finite y2431.1.1).bind fun y2433 =>
  bif (! y2433.1.1) then some ((((0, 0, 0, ()) : (Vec 3 Nat)), (4 : Int), ()), ()) else
  some (((((fDiv .f32 (Vec.getD 3 a0 0 (0 : Nat)) y2431.1.1), (fDiv .f32 (Vec.getD 3 a0 1 (0 : Nat)) y2431.1.1), (fDiv .f32 (Vec.getD 3 a0 2 (0 : Nat)) y2431.1.1), ()) : (Vec 3 Nat)), (0 : Int), ()), ())
def spec_UnitOf_en : Entry := ⟨⟨[.v (.arr 3 (.flt .f32))], [.v (.val (.arr 3 (.flt .f32))), .v (.val (.int .i64))], false⟩, fun x => spec_UnitOf x.1⟩
theorem qpk : Sound Tryz.prog G 189 spec_UnitOf_en := qab (envS (l := [(53, spec_l01Finite_en), (87, spec_l01Root_en), (178, spec_l01Dot_en)]) ⟨(qaw), (qcf), (qh5), trivial⟩) [] Tryz.func189 (by kernel_rfl) rfl fun _ => by kernel_rfl
def spec_l03Dot (a0 : (Vec 6 Nat)) (a1 : (Vec 6 Nat)) : Option Dq17 :=
  some (((fAdd .f32 (fAdd .f32 (fAdd .f32 (fAdd .f32 (fAdd .f32 (fMul .f32 (Vec.getD 6 a0 0 (0 : Nat)) (Vec.getD 6 a1 0 (0 : Nat))) (fMul .f32 (Vec.getD 6 a0 1 (0 : Nat)) (Vec.getD 6 a1 1 (0 : Nat)))) (fMul .f32 (Vec.getD 6 a0 2 (0 : Nat)) (Vec.getD 6 a1 2 (0 : Nat)))) (fMul .f32 (Vec.getD 6 a0 3 (0 : Nat)) (Vec.getD 6 a1 3 (0 : Nat)))) (fMul .f32 (Vec.getD 6 a0 4 (0 : Nat)) (Vec.getD 6 a1 4 (0 : Nat)))) (fMul .f32 (Vec.getD 6 a0 5 (0 : Nat)) (Vec.getD 6 a1 5 (0 : Nat)))), ()), ())
def spec_l03Dot_en : Entry := ⟨⟨[.v (.arr 6 (.flt .f32)), .v (.arr 6 (.flt .f32))], [.v (.val (.flt .f32))], false⟩, fun x => spec_l03Dot x.1 x.2.1⟩
theorem qit : Sound Tryz.prog G 190 spec_l03Dot_en := qab (envS (l := []) trivial) [(3, .unroll 6)] Tryz.func190 (by kernel_rfl) rfl fun _ => by kernel_rfl
def spec_l03Place (a0 : Dq2) : Option (Dq14 × Unit) :=
  some (((((Vec.getD 6 a0.1 0 (0 : Nat)), (Vec.getD 6 a0.1 1 (0 : Nat)), (Vec.getD 6 a0.1 2 (0 : Nat)), ()) : (Vec 3 Nat)), ()), ())
def spec_l03Place_en : Entry := ⟨⟨[.ro Uq1], [.v (.val (.arr 3 (.flt .f32)))], false⟩, fun x => spec_l03Place x.1⟩
theorem qm5 : Sound Tryz.prog G 188 spec_l03Place_en := qab (envS (l := []) trivial) [] Tryz.func188 (by kernel_rfl) rfl fun _ => by kernel_rfl
def spec_RangeClue (a0 : Dq2) (a1 : (Vec 3 Nat)) (a2 : Nat) (a3 : Nat) : Option Dq23 :=
  (spec_l03Ok a0).bind fun y2416 =>
  bif (! y2416.1.1) then some (((((0, 0, 0, 0, 0, 0, ()), 0, 0, ()) : Dq6), (1 : Int), ()), ()) else
  (spec_l03Place a0).bind fun y2418 =>
  (spec_SubVec y2418.1.1 a1).bind fun y2419 =>
  (spec_UnitOf y2419.1.1).bind fun y2420 =>
  bif (! (iEq y2420.1.2.1 0)) then some (((((0, 0, 0, 0, 0, 0, ()), 0, 0, ()) : Dq6), y2420.1.2.1, ()), ()) else
  let x2422 := Vec.getD 3 y2420.1.1 0 (0 : Nat)
  let x2423 := Vec.getD 3 y2420.1.1 1 (0 : Nat)
  let x2424 := Vec.getD 3 y2420.1.1 2 (0 : Nat)
  (spec_LengthOf y2419.1.1).bind fun y2425 =>
  (spec_l03Dot ((x2422, x2423, x2424, 0, 0, 0, ()) : (Vec 6 Nat)) a0.1).bind fun y2427 =>
  (spec_l03Valid (((x2422, x2423, x2424, 0, 0, 0, ()), (fAdd .f32 (fSub .f32 a2 y2425.1.1) y2427.1.1), a3, ()) : Dq6)).bind fun y2429 =>
  some ((y2429.1.1, y2429.1.2.1, ()), ())
def spec_RangeClue_en : Entry := ⟨⟨[.v Uq1, .v (.arr 3 (.flt .f32)), .v (.flt .f32), .v (.flt .f32)], [.v (.val Uq3), .v (.val (.int .i64))], false⟩, fun x => spec_RangeClue x.1 x.2.1 x.2.2.1 x.2.2.2.1⟩
theorem qly : Sound Tryz.prog G 149 spec_RangeClue_en := qab (envS (l := [(140, spec_LengthOf_en), (141, spec_SubVec_en), (180, spec_l03Ok_en), (184, spec_l03Valid_en), (188, spec_l03Place_en), (189, spec_UnitOf_en), (190, spec_l03Dot_en)]) ⟨(qhd), (qid), (qc6), (qhh), (qm5), (qpk), (qit), trivial⟩) [] Tryz.func149 (by kernel_rfl) rfl fun _ => by kernel_rfl
def spec_l03Shares (a0 : Dq2) (a1 : Dq6) : Option (((Vec 6 Nat) × Nat × Nat × Unit) × Unit) :=
  let x2840 := fAdd .f32 (fAdd .f32 (fAdd .f32 (fAdd .f32 (fAdd .f32 (fMul .f32 (Vec.getD 6 (Vec.getD 6 a0.2.1 0 ((0, 0, 0, 0, 0, 0, ()) : (Vec 6 Nat))) 0 (0 : Nat)) (Vec.getD 6 a1.1 0 (0 : Nat))) (fMul .f32 (Vec.getD 6 (Vec.getD 6 a0.2.1 1 ((0, 0, 0, 0, 0, 0, ()) : (Vec 6 Nat))) 0 (0 : Nat)) (Vec.getD 6 a1.1 1 (0 : Nat)))) (fMul .f32 (Vec.getD 6 (Vec.getD 6 a0.2.1 2 ((0, 0, 0, 0, 0, 0, ()) : (Vec 6 Nat))) 0 (0 : Nat)) (Vec.getD 6 a1.1 2 (0 : Nat)))) (fMul .f32 (Vec.getD 6 (Vec.getD 6 a0.2.1 3 ((0, 0, 0, 0, 0, 0, ()) : (Vec 6 Nat))) 0 (0 : Nat)) (Vec.getD 6 a1.1 3 (0 : Nat)))) (fMul .f32 (Vec.getD 6 (Vec.getD 6 a0.2.1 4 ((0, 0, 0, 0, 0, 0, ()) : (Vec 6 Nat))) 0 (0 : Nat)) (Vec.getD 6 a1.1 4 (0 : Nat)))) (fMul .f32 (Vec.getD 6 (Vec.getD 6 a0.2.1 5 ((0, 0, 0, 0, 0, 0, ()) : (Vec 6 Nat))) 0 (0 : Nat)) (Vec.getD 6 a1.1 5 (0 : Nat)))
  let x2859 := fAdd .f32 (fAdd .f32 (fAdd .f32 (fAdd .f32 (fMul .f32 (Vec.getD 6 (Vec.getD 6 a0.2.1 1 ((0, 0, 0, 0, 0, 0, ()) : (Vec 6 Nat))) 1 (0 : Nat)) (Vec.getD 6 a1.1 1 (0 : Nat))) (fMul .f32 (Vec.getD 6 (Vec.getD 6 a0.2.1 2 ((0, 0, 0, 0, 0, 0, ()) : (Vec 6 Nat))) 1 (0 : Nat)) (Vec.getD 6 a1.1 2 (0 : Nat)))) (fMul .f32 (Vec.getD 6 (Vec.getD 6 a0.2.1 3 ((0, 0, 0, 0, 0, 0, ()) : (Vec 6 Nat))) 1 (0 : Nat)) (Vec.getD 6 a1.1 3 (0 : Nat)))) (fMul .f32 (Vec.getD 6 (Vec.getD 6 a0.2.1 4 ((0, 0, 0, 0, 0, 0, ()) : (Vec 6 Nat))) 1 (0 : Nat)) (Vec.getD 6 a1.1 4 (0 : Nat)))) (fMul .f32 (Vec.getD 6 (Vec.getD 6 a0.2.1 5 ((0, 0, 0, 0, 0, 0, ()) : (Vec 6 Nat))) 1 (0 : Nat)) (Vec.getD 6 a1.1 5 (0 : Nat)))
  let x2874 := fAdd .f32 (fAdd .f32 (fAdd .f32 (fMul .f32 (Vec.getD 6 (Vec.getD 6 a0.2.1 2 ((0, 0, 0, 0, 0, 0, ()) : (Vec 6 Nat))) 2 (0 : Nat)) (Vec.getD 6 a1.1 2 (0 : Nat))) (fMul .f32 (Vec.getD 6 (Vec.getD 6 a0.2.1 3 ((0, 0, 0, 0, 0, 0, ()) : (Vec 6 Nat))) 2 (0 : Nat)) (Vec.getD 6 a1.1 3 (0 : Nat)))) (fMul .f32 (Vec.getD 6 (Vec.getD 6 a0.2.1 4 ((0, 0, 0, 0, 0, 0, ()) : (Vec 6 Nat))) 2 (0 : Nat)) (Vec.getD 6 a1.1 4 (0 : Nat)))) (fMul .f32 (Vec.getD 6 (Vec.getD 6 a0.2.1 5 ((0, 0, 0, 0, 0, 0, ()) : (Vec 6 Nat))) 2 (0 : Nat)) (Vec.getD 6 a1.1 5 (0 : Nat)))
  let x2885 := fAdd .f32 (fAdd .f32 (fMul .f32 (Vec.getD 6 (Vec.getD 6 a0.2.1 3 ((0, 0, 0, 0, 0, 0, ()) : (Vec 6 Nat))) 3 (0 : Nat)) (Vec.getD 6 a1.1 3 (0 : Nat))) (fMul .f32 (Vec.getD 6 (Vec.getD 6 a0.2.1 4 ((0, 0, 0, 0, 0, 0, ()) : (Vec 6 Nat))) 3 (0 : Nat)) (Vec.getD 6 a1.1 4 (0 : Nat)))) (fMul .f32 (Vec.getD 6 (Vec.getD 6 a0.2.1 5 ((0, 0, 0, 0, 0, 0, ()) : (Vec 6 Nat))) 3 (0 : Nat)) (Vec.getD 6 a1.1 5 (0 : Nat)))
  let x2892 := fAdd .f32 (fMul .f32 (Vec.getD 6 (Vec.getD 6 a0.2.1 4 ((0, 0, 0, 0, 0, 0, ()) : (Vec 6 Nat))) 4 (0 : Nat)) (Vec.getD 6 a1.1 4 (0 : Nat))) (fMul .f32 (Vec.getD 6 (Vec.getD 6 a0.2.1 5 ((0, 0, 0, 0, 0, 0, ()) : (Vec 6 Nat))) 4 (0 : Nat)) (Vec.getD 6 a1.1 5 (0 : Nat)))
  let x2895 := fMul .f32 (Vec.getD 6 (Vec.getD 6 a0.2.1 5 ((0, 0, 0, 0, 0, 0, ()) : (Vec 6 Nat))) 5 (0 : Nat)) (Vec.getD 6 a1.1 5 (0 : Nat))
  (spec_l03Dot a1.1 a0.1).bind fun y2909 =>
  some ((((x2840, x2859, x2874, x2885, x2892, x2895, ()) : (Vec 6 Nat)), (fSub .f32 a1.2.1 y2909.1.1), (fAdd .f32 (fAdd .f32 (fAdd .f32 (fAdd .f32 (fAdd .f32 (fAdd .f32 (fMul .f32 x2840 x2840) (fMul .f32 x2859 x2859)) (fMul .f32 x2874 x2874)) (fMul .f32 x2885 x2885)) (fMul .f32 x2892 x2892)) (fMul .f32 x2895 x2895)) (fMul .f32 a1.2.2.1 a1.2.2.1)), ()), ())
def spec_l03Shares_en : Entry := ⟨⟨[.ro Uq1, .ro Uq3], [.v (.val (.arr 6 (.flt .f32))), .v (.val (.flt .f32)), .v (.val (.flt .f32))], false⟩, fun x => spec_l03Shares x.1 x.2.1⟩
theorem qgi : Sound Tryz.prog G 205 spec_l03Shares_en := qab (envS (l := [(190, spec_l03Dot_en)]) ⟨(qit), trivial⟩) [(3, .unroll 7), (7, .unroll 6), (13, .unroll 6)] Tryz.func205 (by kernel_rfl) rfl fun _ => by kernel_rfl
def spec_l03Update (a0 : Dq2) (a1 : Dq6) : Option Dq12 :=
  (spec_l03Shares a0 a1).bind fun y2485 =>
  (spec_l01Root (fDiv .f32 (fMul .f32 a1.2.2.1 a1.2.2.1) y2485.1.2.2.1)).bind fun y2488 =>
  let x2491 := fDiv .f32 (fDiv .f32 1065353216 (fAdd .f32 1065353216 y2488.1.1)) y2485.1.2.2.1
  let x2494 := fMul .f32 (Vec.getD 6 (Vec.getD 6 a0.2.1 0 ((0, 0, 0, 0, 0, 0, ()) : (Vec 6 Nat))) 0 (0 : Nat)) (Vec.getD 6 y2485.1.1 0 (0 : Nat))
  let x2499 := fMul .f32 x2494 x2491
  let x2503 := fSub .f32 (Vec.getD 6 (Vec.getD 6 a0.2.1 0 ((0, 0, 0, 0, 0, 0, ()) : (Vec 6 Nat))) 0 (0 : Nat)) (fMul .f32 x2499 (Vec.getD 6 y2485.1.1 0 (0 : Nat)))
  let x2507 := fSub .f32 (Vec.getD 6 (Vec.getD 6 a0.2.1 0 ((0, 0, 0, 0, 0, 0, ()) : (Vec 6 Nat))) 1 (0 : Nat)) (fMul .f32 x2499 (Vec.getD 6 y2485.1.1 1 (0 : Nat)))
  let x2511 := fSub .f32 (Vec.getD 6 (Vec.getD 6 a0.2.1 0 ((0, 0, 0, 0, 0, 0, ()) : (Vec 6 Nat))) 2 (0 : Nat)) (fMul .f32 x2499 (Vec.getD 6 y2485.1.1 2 (0 : Nat)))
  let x2515 := fSub .f32 (Vec.getD 6 (Vec.getD 6 a0.2.1 0 ((0, 0, 0, 0, 0, 0, ()) : (Vec 6 Nat))) 3 (0 : Nat)) (fMul .f32 x2499 (Vec.getD 6 y2485.1.1 3 (0 : Nat)))
  let x2519 := fSub .f32 (Vec.getD 6 (Vec.getD 6 a0.2.1 0 ((0, 0, 0, 0, 0, 0, ()) : (Vec 6 Nat))) 4 (0 : Nat)) (fMul .f32 x2499 (Vec.getD 6 y2485.1.1 4 (0 : Nat)))
  let x2523 := fSub .f32 (Vec.getD 6 (Vec.getD 6 a0.2.1 0 ((0, 0, 0, 0, 0, 0, ()) : (Vec 6 Nat))) 5 (0 : Nat)) (fMul .f32 x2499 (Vec.getD 6 y2485.1.1 5 (0 : Nat)))
  let x2530 := fAdd .f32 (fMul .f32 (Vec.getD 6 (Vec.getD 6 a0.2.1 1 ((0, 0, 0, 0, 0, 0, ()) : (Vec 6 Nat))) 0 (0 : Nat)) (Vec.getD 6 y2485.1.1 0 (0 : Nat))) (fMul .f32 (Vec.getD 6 (Vec.getD 6 a0.2.1 1 ((0, 0, 0, 0, 0, 0, ()) : (Vec 6 Nat))) 1 (0 : Nat)) (Vec.getD 6 y2485.1.1 1 (0 : Nat)))
  let x2535 := fMul .f32 x2530 x2491
  let x2539 := fSub .f32 (Vec.getD 6 (Vec.getD 6 a0.2.1 1 ((0, 0, 0, 0, 0, 0, ()) : (Vec 6 Nat))) 0 (0 : Nat)) (fMul .f32 x2535 (Vec.getD 6 y2485.1.1 0 (0 : Nat)))
  let x2543 := fSub .f32 (Vec.getD 6 (Vec.getD 6 a0.2.1 1 ((0, 0, 0, 0, 0, 0, ()) : (Vec 6 Nat))) 1 (0 : Nat)) (fMul .f32 x2535 (Vec.getD 6 y2485.1.1 1 (0 : Nat)))
  let x2547 := fSub .f32 (Vec.getD 6 (Vec.getD 6 a0.2.1 1 ((0, 0, 0, 0, 0, 0, ()) : (Vec 6 Nat))) 2 (0 : Nat)) (fMul .f32 x2535 (Vec.getD 6 y2485.1.1 2 (0 : Nat)))
  let x2551 := fSub .f32 (Vec.getD 6 (Vec.getD 6 a0.2.1 1 ((0, 0, 0, 0, 0, 0, ()) : (Vec 6 Nat))) 3 (0 : Nat)) (fMul .f32 x2535 (Vec.getD 6 y2485.1.1 3 (0 : Nat)))
  let x2555 := fSub .f32 (Vec.getD 6 (Vec.getD 6 a0.2.1 1 ((0, 0, 0, 0, 0, 0, ()) : (Vec 6 Nat))) 4 (0 : Nat)) (fMul .f32 x2535 (Vec.getD 6 y2485.1.1 4 (0 : Nat)))
  let x2559 := fSub .f32 (Vec.getD 6 (Vec.getD 6 a0.2.1 1 ((0, 0, 0, 0, 0, 0, ()) : (Vec 6 Nat))) 5 (0 : Nat)) (fMul .f32 x2535 (Vec.getD 6 y2485.1.1 5 (0 : Nat)))
  let x2570 := fAdd .f32 (fAdd .f32 (fMul .f32 (Vec.getD 6 (Vec.getD 6 a0.2.1 2 ((0, 0, 0, 0, 0, 0, ()) : (Vec 6 Nat))) 0 (0 : Nat)) (Vec.getD 6 y2485.1.1 0 (0 : Nat))) (fMul .f32 (Vec.getD 6 (Vec.getD 6 a0.2.1 2 ((0, 0, 0, 0, 0, 0, ()) : (Vec 6 Nat))) 1 (0 : Nat)) (Vec.getD 6 y2485.1.1 1 (0 : Nat)))) (fMul .f32 (Vec.getD 6 (Vec.getD 6 a0.2.1 2 ((0, 0, 0, 0, 0, 0, ()) : (Vec 6 Nat))) 2 (0 : Nat)) (Vec.getD 6 y2485.1.1 2 (0 : Nat)))
  let x2575 := fMul .f32 x2570 x2491
  let x2579 := fSub .f32 (Vec.getD 6 (Vec.getD 6 a0.2.1 2 ((0, 0, 0, 0, 0, 0, ()) : (Vec 6 Nat))) 0 (0 : Nat)) (fMul .f32 x2575 (Vec.getD 6 y2485.1.1 0 (0 : Nat)))
  let x2583 := fSub .f32 (Vec.getD 6 (Vec.getD 6 a0.2.1 2 ((0, 0, 0, 0, 0, 0, ()) : (Vec 6 Nat))) 1 (0 : Nat)) (fMul .f32 x2575 (Vec.getD 6 y2485.1.1 1 (0 : Nat)))
  let x2587 := fSub .f32 (Vec.getD 6 (Vec.getD 6 a0.2.1 2 ((0, 0, 0, 0, 0, 0, ()) : (Vec 6 Nat))) 2 (0 : Nat)) (fMul .f32 x2575 (Vec.getD 6 y2485.1.1 2 (0 : Nat)))
  let x2591 := fSub .f32 (Vec.getD 6 (Vec.getD 6 a0.2.1 2 ((0, 0, 0, 0, 0, 0, ()) : (Vec 6 Nat))) 3 (0 : Nat)) (fMul .f32 x2575 (Vec.getD 6 y2485.1.1 3 (0 : Nat)))
  let x2595 := fSub .f32 (Vec.getD 6 (Vec.getD 6 a0.2.1 2 ((0, 0, 0, 0, 0, 0, ()) : (Vec 6 Nat))) 4 (0 : Nat)) (fMul .f32 x2575 (Vec.getD 6 y2485.1.1 4 (0 : Nat)))
  let x2599 := fSub .f32 (Vec.getD 6 (Vec.getD 6 a0.2.1 2 ((0, 0, 0, 0, 0, 0, ()) : (Vec 6 Nat))) 5 (0 : Nat)) (fMul .f32 x2575 (Vec.getD 6 y2485.1.1 5 (0 : Nat)))
  let x2614 := fAdd .f32 (fAdd .f32 (fAdd .f32 (fMul .f32 (Vec.getD 6 (Vec.getD 6 a0.2.1 3 ((0, 0, 0, 0, 0, 0, ()) : (Vec 6 Nat))) 0 (0 : Nat)) (Vec.getD 6 y2485.1.1 0 (0 : Nat))) (fMul .f32 (Vec.getD 6 (Vec.getD 6 a0.2.1 3 ((0, 0, 0, 0, 0, 0, ()) : (Vec 6 Nat))) 1 (0 : Nat)) (Vec.getD 6 y2485.1.1 1 (0 : Nat)))) (fMul .f32 (Vec.getD 6 (Vec.getD 6 a0.2.1 3 ((0, 0, 0, 0, 0, 0, ()) : (Vec 6 Nat))) 2 (0 : Nat)) (Vec.getD 6 y2485.1.1 2 (0 : Nat)))) (fMul .f32 (Vec.getD 6 (Vec.getD 6 a0.2.1 3 ((0, 0, 0, 0, 0, 0, ()) : (Vec 6 Nat))) 3 (0 : Nat)) (Vec.getD 6 y2485.1.1 3 (0 : Nat)))
  let x2619 := fMul .f32 x2614 x2491
  let x2623 := fSub .f32 (Vec.getD 6 (Vec.getD 6 a0.2.1 3 ((0, 0, 0, 0, 0, 0, ()) : (Vec 6 Nat))) 0 (0 : Nat)) (fMul .f32 x2619 (Vec.getD 6 y2485.1.1 0 (0 : Nat)))
  let x2627 := fSub .f32 (Vec.getD 6 (Vec.getD 6 a0.2.1 3 ((0, 0, 0, 0, 0, 0, ()) : (Vec 6 Nat))) 1 (0 : Nat)) (fMul .f32 x2619 (Vec.getD 6 y2485.1.1 1 (0 : Nat)))
  let x2631 := fSub .f32 (Vec.getD 6 (Vec.getD 6 a0.2.1 3 ((0, 0, 0, 0, 0, 0, ()) : (Vec 6 Nat))) 2 (0 : Nat)) (fMul .f32 x2619 (Vec.getD 6 y2485.1.1 2 (0 : Nat)))
  let x2635 := fSub .f32 (Vec.getD 6 (Vec.getD 6 a0.2.1 3 ((0, 0, 0, 0, 0, 0, ()) : (Vec 6 Nat))) 3 (0 : Nat)) (fMul .f32 x2619 (Vec.getD 6 y2485.1.1 3 (0 : Nat)))
  let x2639 := fSub .f32 (Vec.getD 6 (Vec.getD 6 a0.2.1 3 ((0, 0, 0, 0, 0, 0, ()) : (Vec 6 Nat))) 4 (0 : Nat)) (fMul .f32 x2619 (Vec.getD 6 y2485.1.1 4 (0 : Nat)))
  let x2643 := fSub .f32 (Vec.getD 6 (Vec.getD 6 a0.2.1 3 ((0, 0, 0, 0, 0, 0, ()) : (Vec 6 Nat))) 5 (0 : Nat)) (fMul .f32 x2619 (Vec.getD 6 y2485.1.1 5 (0 : Nat)))
  let x2662 := fAdd .f32 (fAdd .f32 (fAdd .f32 (fAdd .f32 (fMul .f32 (Vec.getD 6 (Vec.getD 6 a0.2.1 4 ((0, 0, 0, 0, 0, 0, ()) : (Vec 6 Nat))) 0 (0 : Nat)) (Vec.getD 6 y2485.1.1 0 (0 : Nat))) (fMul .f32 (Vec.getD 6 (Vec.getD 6 a0.2.1 4 ((0, 0, 0, 0, 0, 0, ()) : (Vec 6 Nat))) 1 (0 : Nat)) (Vec.getD 6 y2485.1.1 1 (0 : Nat)))) (fMul .f32 (Vec.getD 6 (Vec.getD 6 a0.2.1 4 ((0, 0, 0, 0, 0, 0, ()) : (Vec 6 Nat))) 2 (0 : Nat)) (Vec.getD 6 y2485.1.1 2 (0 : Nat)))) (fMul .f32 (Vec.getD 6 (Vec.getD 6 a0.2.1 4 ((0, 0, 0, 0, 0, 0, ()) : (Vec 6 Nat))) 3 (0 : Nat)) (Vec.getD 6 y2485.1.1 3 (0 : Nat)))) (fMul .f32 (Vec.getD 6 (Vec.getD 6 a0.2.1 4 ((0, 0, 0, 0, 0, 0, ()) : (Vec 6 Nat))) 4 (0 : Nat)) (Vec.getD 6 y2485.1.1 4 (0 : Nat)))
  let x2667 := fMul .f32 x2662 x2491
  let x2671 := fSub .f32 (Vec.getD 6 (Vec.getD 6 a0.2.1 4 ((0, 0, 0, 0, 0, 0, ()) : (Vec 6 Nat))) 0 (0 : Nat)) (fMul .f32 x2667 (Vec.getD 6 y2485.1.1 0 (0 : Nat)))
  let x2675 := fSub .f32 (Vec.getD 6 (Vec.getD 6 a0.2.1 4 ((0, 0, 0, 0, 0, 0, ()) : (Vec 6 Nat))) 1 (0 : Nat)) (fMul .f32 x2667 (Vec.getD 6 y2485.1.1 1 (0 : Nat)))
  let x2679 := fSub .f32 (Vec.getD 6 (Vec.getD 6 a0.2.1 4 ((0, 0, 0, 0, 0, 0, ()) : (Vec 6 Nat))) 2 (0 : Nat)) (fMul .f32 x2667 (Vec.getD 6 y2485.1.1 2 (0 : Nat)))
  let x2683 := fSub .f32 (Vec.getD 6 (Vec.getD 6 a0.2.1 4 ((0, 0, 0, 0, 0, 0, ()) : (Vec 6 Nat))) 3 (0 : Nat)) (fMul .f32 x2667 (Vec.getD 6 y2485.1.1 3 (0 : Nat)))
  let x2687 := fSub .f32 (Vec.getD 6 (Vec.getD 6 a0.2.1 4 ((0, 0, 0, 0, 0, 0, ()) : (Vec 6 Nat))) 4 (0 : Nat)) (fMul .f32 x2667 (Vec.getD 6 y2485.1.1 4 (0 : Nat)))
  let x2691 := fSub .f32 (Vec.getD 6 (Vec.getD 6 a0.2.1 4 ((0, 0, 0, 0, 0, 0, ()) : (Vec 6 Nat))) 5 (0 : Nat)) (fMul .f32 x2667 (Vec.getD 6 y2485.1.1 5 (0 : Nat)))
  let x2714 := fAdd .f32 (fAdd .f32 (fAdd .f32 (fAdd .f32 (fAdd .f32 (fMul .f32 (Vec.getD 6 (Vec.getD 6 a0.2.1 5 ((0, 0, 0, 0, 0, 0, ()) : (Vec 6 Nat))) 0 (0 : Nat)) (Vec.getD 6 y2485.1.1 0 (0 : Nat))) (fMul .f32 (Vec.getD 6 (Vec.getD 6 a0.2.1 5 ((0, 0, 0, 0, 0, 0, ()) : (Vec 6 Nat))) 1 (0 : Nat)) (Vec.getD 6 y2485.1.1 1 (0 : Nat)))) (fMul .f32 (Vec.getD 6 (Vec.getD 6 a0.2.1 5 ((0, 0, 0, 0, 0, 0, ()) : (Vec 6 Nat))) 2 (0 : Nat)) (Vec.getD 6 y2485.1.1 2 (0 : Nat)))) (fMul .f32 (Vec.getD 6 (Vec.getD 6 a0.2.1 5 ((0, 0, 0, 0, 0, 0, ()) : (Vec 6 Nat))) 3 (0 : Nat)) (Vec.getD 6 y2485.1.1 3 (0 : Nat)))) (fMul .f32 (Vec.getD 6 (Vec.getD 6 a0.2.1 5 ((0, 0, 0, 0, 0, 0, ()) : (Vec 6 Nat))) 4 (0 : Nat)) (Vec.getD 6 y2485.1.1 4 (0 : Nat)))) (fMul .f32 (Vec.getD 6 (Vec.getD 6 a0.2.1 5 ((0, 0, 0, 0, 0, 0, ()) : (Vec 6 Nat))) 5 (0 : Nat)) (Vec.getD 6 y2485.1.1 5 (0 : Nat)))
  let x2719 := fMul .f32 x2714 x2491
  let x2723 := fSub .f32 (Vec.getD 6 (Vec.getD 6 a0.2.1 5 ((0, 0, 0, 0, 0, 0, ()) : (Vec 6 Nat))) 0 (0 : Nat)) (fMul .f32 x2719 (Vec.getD 6 y2485.1.1 0 (0 : Nat)))
  let x2727 := fSub .f32 (Vec.getD 6 (Vec.getD 6 a0.2.1 5 ((0, 0, 0, 0, 0, 0, ()) : (Vec 6 Nat))) 1 (0 : Nat)) (fMul .f32 x2719 (Vec.getD 6 y2485.1.1 1 (0 : Nat)))
  let x2731 := fSub .f32 (Vec.getD 6 (Vec.getD 6 a0.2.1 5 ((0, 0, 0, 0, 0, 0, ()) : (Vec 6 Nat))) 2 (0 : Nat)) (fMul .f32 x2719 (Vec.getD 6 y2485.1.1 2 (0 : Nat)))
  let x2735 := fSub .f32 (Vec.getD 6 (Vec.getD 6 a0.2.1 5 ((0, 0, 0, 0, 0, 0, ()) : (Vec 6 Nat))) 3 (0 : Nat)) (fMul .f32 x2719 (Vec.getD 6 y2485.1.1 3 (0 : Nat)))
  let x2739 := fSub .f32 (Vec.getD 6 (Vec.getD 6 a0.2.1 5 ((0, 0, 0, 0, 0, 0, ()) : (Vec 6 Nat))) 4 (0 : Nat)) (fMul .f32 x2719 (Vec.getD 6 y2485.1.1 4 (0 : Nat)))
  let x2743 := fSub .f32 (Vec.getD 6 (Vec.getD 6 a0.2.1 5 ((0, 0, 0, 0, 0, 0, ()) : (Vec 6 Nat))) 5 (0 : Nat)) (fMul .f32 x2719 (Vec.getD 6 y2485.1.1 5 (0 : Nat)))
  (spec_l01Finite x2503).bind fun y2744 =>
  bif (! y2744.1.1) then
    some (((((0, 0, 0, 0, 0, 0, ()), ((0, 0, 0, 0, 0, 0, ()), (0, 0, 0, 0, 0, 0, ()), (0, 0, 0, 0, 0, 0, ()), (0, 0, 0, 0, 0, 0, ()), (0, 0, 0, 0, 0, 0, ()), (0, 0, 0, 0, 0, 0, ()), ()), ()) : Dq2), (4 : Int), ()), ())
  else
  (spec_l01Finite x2507).bind fun y2746 =>
  bif (! y2746.1.1) then
    some (((((0, 0, 0, 0, 0, 0, ()), ((0, 0, 0, 0, 0, 0, ()), (0, 0, 0, 0, 0, 0, ()), (0, 0, 0, 0, 0, 0, ()), (0, 0, 0, 0, 0, 0, ()), (0, 0, 0, 0, 0, 0, ()), (0, 0, 0, 0, 0, 0, ()), ()), ()) : Dq2), (4 : Int), ()), ())
  else
  (spec_l01Finite x2511).bind fun y2748 =>
  bif (! y2748.1.1) then
    some (((((0, 0, 0, 0, 0, 0, ()), ((0, 0, 0, 0, 0, 0, ()), (0, 0, 0, 0, 0, 0, ()), (0, 0, 0, 0, 0, 0, ()), (0, 0, 0, 0, 0, 0, ()), (0, 0, 0, 0, 0, 0, ()), (0, 0, 0, 0, 0, 0, ()), ()), ()) : Dq2), (4 : Int), ()), ())
  else
  (spec_l01Finite x2515).bind fun y2750 =>
  bif (! y2750.1.1) then
    some (((((0, 0, 0, 0, 0, 0, ()), ((0, 0, 0, 0, 0, 0, ()), (0, 0, 0, 0, 0, 0, ()), (0, 0, 0, 0, 0, 0, ()), (0, 0, 0, 0, 0, 0, ()), (0, 0, 0, 0, 0, 0, ()), (0, 0, 0, 0, 0, 0, ()), ()), ()) : Dq2), (4 : Int), ()), ())
  else
  (spec_l01Finite x2519).bind fun y2752 =>
  bif (! y2752.1.1) then
    some (((((0, 0, 0, 0, 0, 0, ()), ((0, 0, 0, 0, 0, 0, ()), (0, 0, 0, 0, 0, 0, ()), (0, 0, 0, 0, 0, 0, ()), (0, 0, 0, 0, 0, 0, ()), (0, 0, 0, 0, 0, 0, ()), (0, 0, 0, 0, 0, 0, ()), ()), ()) : Dq2), (4 : Int), ()), ())
  else
  (spec_l01Finite x2523).bind fun y2754 =>
  bif (! y2754.1.1) then
    some (((((0, 0, 0, 0, 0, 0, ()), ((0, 0, 0, 0, 0, 0, ()), (0, 0, 0, 0, 0, 0, ()), (0, 0, 0, 0, 0, 0, ()), (0, 0, 0, 0, 0, 0, ()), (0, 0, 0, 0, 0, 0, ()), (0, 0, 0, 0, 0, 0, ()), ()), ()) : Dq2), (4 : Int), ()), ())
  else
  (spec_l01Finite x2539).bind fun y2756 =>
  bif (! y2756.1.1) then
    some (((((0, 0, 0, 0, 0, 0, ()), ((0, 0, 0, 0, 0, 0, ()), (0, 0, 0, 0, 0, 0, ()), (0, 0, 0, 0, 0, 0, ()), (0, 0, 0, 0, 0, 0, ()), (0, 0, 0, 0, 0, 0, ()), (0, 0, 0, 0, 0, 0, ()), ()), ()) : Dq2), (4 : Int), ()), ())
  else
  (spec_l01Finite x2543).bind fun y2758 =>
  bif (! y2758.1.1) then
    some (((((0, 0, 0, 0, 0, 0, ()), ((0, 0, 0, 0, 0, 0, ()), (0, 0, 0, 0, 0, 0, ()), (0, 0, 0, 0, 0, 0, ()), (0, 0, 0, 0, 0, 0, ()), (0, 0, 0, 0, 0, 0, ()), (0, 0, 0, 0, 0, 0, ()), ()), ()) : Dq2), (4 : Int), ()), ())
  else
  (spec_l01Finite x2547).bind fun y2760 =>
  bif (! y2760.1.1) then
    some (((((0, 0, 0, 0, 0, 0, ()), ((0, 0, 0, 0, 0, 0, ()), (0, 0, 0, 0, 0, 0, ()), (0, 0, 0, 0, 0, 0, ()), (0, 0, 0, 0, 0, 0, ()), (0, 0, 0, 0, 0, 0, ()), (0, 0, 0, 0, 0, 0, ()), ()), ()) : Dq2), (4 : Int), ()), ())
  else
  (spec_l01Finite x2551).bind fun y2762 =>
  bif (! y2762.1.1) then
    some (((((0, 0, 0, 0, 0, 0, ()), ((0, 0, 0, 0, 0, 0, ()), (0, 0, 0, 0, 0, 0, ()), (0, 0, 0, 0, 0, 0, ()), (0, 0, 0, 0, 0, 0, ()), (0, 0, 0, 0, 0, 0, ()), (0, 0, 0, 0, 0, 0, ()), ()), ()) : Dq2), (4 : Int), ()), ())
  else
  (spec_l01Finite x2555).bind fun y2764 =>
  bif (! y2764.1.1) then
    some (((((0, 0, 0, 0, 0, 0, ()), ((0, 0, 0, 0, 0, 0, ()), (0, 0, 0, 0, 0, 0, ()), (0, 0, 0, 0, 0, 0, ()), (0, 0, 0, 0, 0, 0, ()), (0, 0, 0, 0, 0, 0, ()), (0, 0, 0, 0, 0, 0, ()), ()), ()) : Dq2), (4 : Int), ()), ())
  else
  (spec_l01Finite x2559).bind fun y2766 =>
  bif (! y2766.1.1) then
    some (((((0, 0, 0, 0, 0, 0, ()), ((0, 0, 0, 0, 0, 0, ()), (0, 0, 0, 0, 0, 0, ()), (0, 0, 0, 0, 0, 0, ()), (0, 0, 0, 0, 0, 0, ()), (0, 0, 0, 0, 0, 0, ()), (0, 0, 0, 0, 0, 0, ()), ()), ()) : Dq2), (4 : Int), ()), ())
  else
  (spec_l01Finite x2579).bind fun y2768 =>
  bif (! y2768.1.1) then
    some (((((0, 0, 0, 0, 0, 0, ()), ((0, 0, 0, 0, 0, 0, ()), (0, 0, 0, 0, 0, 0, ()), (0, 0, 0, 0, 0, 0, ()), (0, 0, 0, 0, 0, 0, ()), (0, 0, 0, 0, 0, 0, ()), (0, 0, 0, 0, 0, 0, ()), ()), ()) : Dq2), (4 : Int), ()), ())
  else
  (spec_l01Finite x2583).bind fun y2770 =>
  bif (! y2770.1.1) then
    some (((((0, 0, 0, 0, 0, 0, ()), ((0, 0, 0, 0, 0, 0, ()), (0, 0, 0, 0, 0, 0, ()), (0, 0, 0, 0, 0, 0, ()), (0, 0, 0, 0, 0, 0, ()), (0, 0, 0, 0, 0, 0, ()), (0, 0, 0, 0, 0, 0, ()), ()), ()) : Dq2), (4 : Int), ()), ())
  else
  (spec_l01Finite x2587).bind fun y2772 =>
  bif (! y2772.1.1) then
    some (((((0, 0, 0, 0, 0, 0, ()), ((0, 0, 0, 0, 0, 0, ()), (0, 0, 0, 0, 0, 0, ()), (0, 0, 0, 0, 0, 0, ()), (0, 0, 0, 0, 0, 0, ()), (0, 0, 0, 0, 0, 0, ()), (0, 0, 0, 0, 0, 0, ()), ()), ()) : Dq2), (4 : Int), ()), ())
  else
  (spec_l01Finite x2591).bind fun y2774 =>
  bif (! y2774.1.1) then
    some (((((0, 0, 0, 0, 0, 0, ()), ((0, 0, 0, 0, 0, 0, ()), (0, 0, 0, 0, 0, 0, ()), (0, 0, 0, 0, 0, 0, ()), (0, 0, 0, 0, 0, 0, ()), (0, 0, 0, 0, 0, 0, ()), (0, 0, 0, 0, 0, 0, ()), ()), ()) : Dq2), (4 : Int), ()), ())
  else
  (spec_l01Finite x2595).bind fun y2776 =>
  bif (! y2776.1.1) then
    some (((((0, 0, 0, 0, 0, 0, ()), ((0, 0, 0, 0, 0, 0, ()), (0, 0, 0, 0, 0, 0, ()), (0, 0, 0, 0, 0, 0, ()), (0, 0, 0, 0, 0, 0, ()), (0, 0, 0, 0, 0, 0, ()), (0, 0, 0, 0, 0, 0, ()), ()), ()) : Dq2), (4 : Int), ()), ())
  else
  (spec_l01Finite x2599).bind fun y2778 =>
  bif (! y2778.1.1) then
    some (((((0, 0, 0, 0, 0, 0, ()), ((0, 0, 0, 0, 0, 0, ()), (0, 0, 0, 0, 0, 0, ()), (0, 0, 0, 0, 0, 0, ()), (0, 0, 0, 0, 0, 0, ()), (0, 0, 0, 0, 0, 0, ()), (0, 0, 0, 0, 0, 0, ()), ()), ()) : Dq2), (4 : Int), ()), ())
  else
  (spec_l01Finite x2623).bind fun y2780 =>
  bif (! y2780.1.1) then
    some (((((0, 0, 0, 0, 0, 0, ()), ((0, 0, 0, 0, 0, 0, ()), (0, 0, 0, 0, 0, 0, ()), (0, 0, 0, 0, 0, 0, ()), (0, 0, 0, 0, 0, 0, ()), (0, 0, 0, 0, 0, 0, ()), (0, 0, 0, 0, 0, 0, ()), ()), ()) : Dq2), (4 : Int), ()), ())
  else
  (spec_l01Finite x2627).bind fun y2782 =>
  bif (! y2782.1.1) then
    some (((((0, 0, 0, 0, 0, 0, ()), ((0, 0, 0, 0, 0, 0, ()), (0, 0, 0, 0, 0, 0, ()), (0, 0, 0, 0, 0, 0, ()), (0, 0, 0, 0, 0, 0, ()), (0, 0, 0, 0, 0, 0, ()), (0, 0, 0, 0, 0, 0, ()), ()), ()) : Dq2), (4 : Int), ()), ())
  else
  (spec_l01Finite x2631).bind fun y2784 =>
  bif (! y2784.1.1) then
    some (((((0, 0, 0, 0, 0, 0, ()), ((0, 0, 0, 0, 0, 0, ()), (0, 0, 0, 0, 0, 0, ()), (0, 0, 0, 0, 0, 0, ()), (0, 0, 0, 0, 0, 0, ()), (0, 0, 0, 0, 0, 0, ()), (0, 0, 0, 0, 0, 0, ()), ()), ()) : Dq2), (4 : Int), ()), ())
  else
  (spec_l01Finite x2635).bind fun y2786 =>
  bif (! y2786.1.1) then
    some (((((0, 0, 0, 0, 0, 0, ()), ((0, 0, 0, 0, 0, 0, ()), (0, 0, 0, 0, 0, 0, ()), (0, 0, 0, 0, 0, 0, ()), (0, 0, 0, 0, 0, 0, ()), (0, 0, 0, 0, 0, 0, ()), (0, 0, 0, 0, 0, 0, ()), ()), ()) : Dq2), (4 : Int), ()), ())
  else
  (spec_l01Finite x2639).bind fun y2788 =>
  bif (! y2788.1.1) then
    some (((((0, 0, 0, 0, 0, 0, ()), ((0, 0, 0, 0, 0, 0, ()), (0, 0, 0, 0, 0, 0, ()), (0, 0, 0, 0, 0, 0, ()), (0, 0, 0, 0, 0, 0, ()), (0, 0, 0, 0, 0, 0, ()), (0, 0, 0, 0, 0, 0, ()), ()), ()) : Dq2), (4 : Int), ()), ())
  else
  (spec_l01Finite x2643).bind fun y2790 =>
  bif (! y2790.1.1) then
    some (((((0, 0, 0, 0, 0, 0, ()), ((0, 0, 0, 0, 0, 0, ()), (0, 0, 0, 0, 0, 0, ()), (0, 0, 0, 0, 0, 0, ()), (0, 0, 0, 0, 0, 0, ()), (0, 0, 0, 0, 0, 0, ()), (0, 0, 0, 0, 0, 0, ()), ()), ()) : Dq2), (4 : Int), ()), ())
  else
  (spec_l01Finite x2671).bind fun y2792 =>
  bif (! y2792.1.1) then
    some (((((0, 0, 0, 0, 0, 0, ()), ((0, 0, 0, 0, 0, 0, ()), (0, 0, 0, 0, 0, 0, ()), (0, 0, 0, 0, 0, 0, ()), (0, 0, 0, 0, 0, 0, ()), (0, 0, 0, 0, 0, 0, ()), (0, 0, 0, 0, 0, 0, ()), ()), ()) : Dq2), (4 : Int), ()), ())
  else
  (spec_l01Finite x2675).bind fun y2794 =>
  bif (! y2794.1.1) then
    some (((((0, 0, 0, 0, 0, 0, ()), ((0, 0, 0, 0, 0, 0, ()), (0, 0, 0, 0, 0, 0, ()), (0, 0, 0, 0, 0, 0, ()), (0, 0, 0, 0, 0, 0, ()), (0, 0, 0, 0, 0, 0, ()), (0, 0, 0, 0, 0, 0, ()), ()), ()) : Dq2), (4 : Int), ()), ())
  else
  (spec_l01Finite x2679).bind fun y2796 =>
  bif (! y2796.1.1) then
    some (((((0, 0, 0, 0, 0, 0, ()), ((0, 0, 0, 0, 0, 0, ()), (0, 0, 0, 0, 0, 0, ()), (0, 0, 0, 0, 0, 0, ()), (0, 0, 0, 0, 0, 0, ()), (0, 0, 0, 0, 0, 0, ()), (0, 0, 0, 0, 0, 0, ()), ()), ()) : Dq2), (4 : Int), ()), ())
  else
  (spec_l01Finite x2683).bind fun y2798 =>
  bif (! y2798.1.1) then
    some (((((0, 0, 0, 0, 0, 0, ()), ((0, 0, 0, 0, 0, 0, ()), (0, 0, 0, 0, 0, 0, ()), (0, 0, 0, 0, 0, 0, ()), (0, 0, 0, 0, 0, 0, ()), (0, 0, 0, 0, 0, 0, ()), (0, 0, 0, 0, 0, 0, ()), ()), ()) : Dq2), (4 : Int), ()), ())
  else
  (spec_l01Finite x2687).bind fun y2800 =>
  bif (! y2800.1.1) then
    some (((((0, 0, 0, 0, 0, 0, ()), ((0, 0, 0, 0, 0, 0, ()), (0, 0, 0, 0, 0, 0, ()), (0, 0, 0, 0, 0, 0, ()), (0, 0, 0, 0, 0, 0, ()), (0, 0, 0, 0, 0, 0, ()), (0, 0, 0, 0, 0, 0, ()), ()), ()) : Dq2), (4 : Int), ()), ())
  else
  (spec_l01Finite x2691).bind fun y2802 =>
  bif (! y2802.1.1) then
    some (((((0, 0, 0, 0, 0, 0, ()), ((0, 0, 0, 0, 0, 0, ()), (0, 0, 0, 0, 0, 0, ()), (0, 0, 0, 0, 0, 0, ()), (0, 0, 0, 0, 0, 0, ()), (0, 0, 0, 0, 0, 0, ()), (0, 0, 0, 0, 0, 0, ()), ()), ()) : Dq2), (4 : Int), ()), ())
  else
  (spec_l01Finite x2723).bind fun y2804 =>
  bif (! y2804.1.1) then
    some (((((0, 0, 0, 0, 0, 0, ()), ((0, 0, 0, 0, 0, 0, ()), (0, 0, 0, 0, 0, 0, ()), (0, 0, 0, 0, 0, 0, ()), (0, 0, 0, 0, 0, 0, ()), (0, 0, 0, 0, 0, 0, ()), (0, 0, 0, 0, 0, 0, ()), ()), ()) : Dq2), (4 : Int), ()), ())
  else
  (spec_l01Finite x2727).bind fun y2806 =>
  bif (! y2806.1.1) then
    some (((((0, 0, 0, 0, 0, 0, ()), ((0, 0, 0, 0, 0, 0, ()), (0, 0, 0, 0, 0, 0, ()), (0, 0, 0, 0, 0, 0, ()), (0, 0, 0, 0, 0, 0, ()), (0, 0, 0, 0, 0, 0, ()), (0, 0, 0, 0, 0, 0, ()), ()), ()) : Dq2), (4 : Int), ()), ())
  else
  (spec_l01Finite x2731).bind fun y2808 =>
  bif (! y2808.1.1) then
    some (((((0, 0, 0, 0, 0, 0, ()), ((0, 0, 0, 0, 0, 0, ()), (0, 0, 0, 0, 0, 0, ()), (0, 0, 0, 0, 0, 0, ()), (0, 0, 0, 0, 0, 0, ()), (0, 0, 0, 0, 0, 0, ()), (0, 0, 0, 0, 0, 0, ()), ()), ()) : Dq2), (4 : Int), ()), ())
  else
  (spec_l01Finite x2735).bind fun y2810 =>
  bif (! y2810.1.1) then
    some (((((0, 0, 0, 0, 0, 0, ()), ((0, 0, 0, 0, 0, 0, ()), (0, 0, 0, 0, 0, 0, ()), (0, 0, 0, 0, 0, 0, ()), (0, 0, 0, 0, 0, 0, ()), (0, 0, 0, 0, 0, 0, ()), (0, 0, 0, 0, 0, 0, ()), ()), ()) : Dq2), (4 : Int), ()), ())
  else
  (spec_l01Finite x2739).bind fun y2812 =>
  bif (! y2812.1.1) then
    some (((((0, 0, 0, 0, 0, 0, ()), ((0, 0, 0, 0, 0, 0, ()), (0, 0, 0, 0, 0, 0, ()), (0, 0, 0, 0, 0, 0, ()), (0, 0, 0, 0, 0, 0, ()), (0, 0, 0, 0, 0, 0, ()), (0, 0, 0, 0, 0, 0, ()), ()), ()) : Dq2), (4 : Int), ()), ())
  else
  (spec_l01Finite x2743).bind fun y2814 =>
  bif (! y2814.1.1) then
    some (((((0, 0, 0, 0, 0, 0, ()), ((0, 0, 0, 0, 0, 0, ()), (0, 0, 0, 0, 0, 0, ()), (0, 0, 0, 0, 0, 0, ()), (0, 0, 0, 0, 0, 0, ()), (0, 0, 0, 0, 0, 0, ()), (0, 0, 0, 0, 0, 0, ()), ()), ()) : Dq2), (4 : Int), ()), ())
  else
  (spec_l03Lower (((x2503, x2507, x2511, x2515, x2519, x2523, 0, 0, 0, ()), (x2539, x2543, x2547, x2551, x2555, x2559, 0, 0, 0, ()), (x2579, x2583, x2587, x2591, x2595, x2599, 0, 0, 0, ()), (x2623, x2627, x2631, x2635, x2639, x2643, 0, 0, 0, ()), (x2671, x2675, x2679, x2683, x2687, x2691, 0, 0, 0, ()), (x2723, x2727, x2731, x2735, x2739, x2743, 0, 0, 0, ()), ()) : (Vec 6 (Vec 9 Nat)))).bind fun y2816 =>
  (spec_l03Made ((Vec.set 6 (Vec.set 6 (Vec.set 6 (Vec.set 6 (Vec.set 6 (Vec.set 6 a0.1 0 (fAdd .f32 (Vec.getD 6 a0.1 0 (0 : Nat)) (fMul .f32 x2494 (fDiv .f32 y2485.1.2.1 y2485.1.2.2.1)))) 1 (fAdd .f32 (Vec.getD 6 a0.1 1 (0 : Nat)) (fMul .f32 x2530 (fDiv .f32 y2485.1.2.1 y2485.1.2.2.1)))) 2 (fAdd .f32 (Vec.getD 6 a0.1 2 (0 : Nat)) (fMul .f32 x2570 (fDiv .f32 y2485.1.2.1 y2485.1.2.2.1)))) 3 (fAdd .f32 (Vec.getD 6 a0.1 3 (0 : Nat)) (fMul .f32 x2614 (fDiv .f32 y2485.1.2.1 y2485.1.2.2.1)))) 4 (fAdd .f32 (Vec.getD 6 a0.1 4 (0 : Nat)) (fMul .f32 x2662 (fDiv .f32 y2485.1.2.1 y2485.1.2.2.1)))) 5 (fAdd .f32 (Vec.getD 6 a0.1 5 (0 : Nat)) (fMul .f32 x2714 (fDiv .f32 y2485.1.2.1 y2485.1.2.2.1))), y2816.1.1, a0.2.2) : Dq2) y2816.1.2.1).bind fun y2817 =>
  some ((y2817.1.1, y2817.1.2.1, ()), ())
def spec_l03Update_en : Entry := ⟨⟨[.ro Uq1, .ro Uq3], [.v (.val Uq1), .v (.val (.int .i64))], false⟩, fun x => spec_l03Update x.1 x.2.1⟩
theorem qgh : Sound Tryz.prog G 186 spec_l03Update_en := qab (envS (l := [(53, spec_l01Finite_en), (87, spec_l01Root_en), (182, spec_l03Lower_en), (183, spec_l03Made_en), (205, spec_l03Shares_en)]) ⟨(qaw), (qcf), (qhi), (qhr), (qgi), trivial⟩) [(7, .unroll 7), (11, .unroll 6), (17, .unroll 7), (21, .unroll 7), (24, .unroll 7)] Tryz.func186 (by kernel_rfl) rfl fun _ => by kernel_rfl
def spec_UpdateAll_l11 (a1 : (List Dq6)) (s2480 : (Int × Dq2 × Unit)) : Option ((Int × Dq2 × Unit) ⊕ Dq12) :=
  bif (iLt s2480.1 (lenI a1)) then
    bif inB s2480.1 (List.length a1) then
      (spec_l03Update s2480.2.1 (List.getD a1 s2480.1.toNat (((0, 0, 0, 0, 0, 0, ()), 0, 0, ()) : Dq6))).bind fun y2482 =>
      bif (! (iEq y2482.1.2.1 0)) then
        Option.map Sum.inr (some (((((0, 0, 0, 0, 0, 0, ()), ((0, 0, 0, 0, 0, 0, ()), (0, 0, 0, 0, 0, 0, ()), (0, 0, 0, 0, 0, 0, ()), (0, 0, 0, 0, 0, 0, ()), (0, 0, 0, 0, 0, 0, ()), (0, 0, 0, 0, 0, 0, ()), ()), ()) : Dq2), y2482.1.2.1, ()), ()))
      else
      some (Sum.inl ((iAdd .i64 s2480.1 1), y2482.1.1, ()))
    else none
  else
  Option.map Sum.inr (some ((s2480.2.1, (0 : Int), ()), ()))
def spec_UpdateAll_l4 (a1 : (List Dq6)) (a0 : Dq2) (s2469 : (Int × Unit)) : Option ((Int × Unit) ⊕ Dq12) :=
  bif (iLt s2469.1 (lenI a1)) then
    bif inB s2469.1 (List.length a1) then
      (spec_l03Clue (List.getD a1 s2469.1.toNat (((0, 0, 0, 0, 0, 0, ()), 0, 0, ()) : Dq6))).bind fun y2471 =>
      bif (! y2471.1.1) then
        Option.map Sum.inr (some (((((0, 0, 0, 0, 0, 0, ()), ((0, 0, 0, 0, 0, 0, ()), (0, 0, 0, 0, 0, 0, ()), (0, 0, 0, 0, 0, 0, ()), (0, 0, 0, 0, 0, 0, ()), (0, 0, 0, 0, 0, 0, ()), (0, 0, 0, 0, 0, 0, ()), ()), ()) : Dq2), (1 : Int), ()), ()))
      else
      some (Sum.inl ((iAdd .i64 s2469.1 1), ()))
    else none
  else
  Option.map Sum.inr (
    bif (iLt 256 (lenI a1)) then
      some (((((0, 0, 0, 0, 0, 0, ()), ((0, 0, 0, 0, 0, 0, ()), (0, 0, 0, 0, 0, 0, ()), (0, 0, 0, 0, 0, 0, ()), (0, 0, 0, 0, 0, 0, ()), (0, 0, 0, 0, 0, 0, ()), (0, 0, 0, 0, 0, 0, ()), ()), ()) : Dq2), (3 : Int), ()), ())
    else run (spec_UpdateAll_l11 a1) ((0 : Int), a0, ()))
def spec_UpdateAll (a0 : Dq2) (a1 : (List Dq6)) : Option Dq12 :=
  (spec_l03Ok a0).bind fun y2467 =>
  bif (! y2467.1.1) then
    some (((((0, 0, 0, 0, 0, 0, ()), ((0, 0, 0, 0, 0, 0, ()), (0, 0, 0, 0, 0, 0, ()), (0, 0, 0, 0, 0, 0, ()), (0, 0, 0, 0, 0, 0, ()), (0, 0, 0, 0, 0, 0, ()), (0, 0, 0, 0, 0, 0, ()), ()), ()) : Dq2), (1 : Int), ()), ())
  else run (spec_UpdateAll_l4 a1 a0) ((0 : Int), ())
def spec_UpdateAll_en : Entry := ⟨⟨[.v Uq1, .v (.list Uq3)], [.v (.val Uq1), .v (.val (.int .i64))], false⟩, fun x => spec_UpdateAll x.1 x.2.1⟩
theorem ql3 : Sound Tryz.prog G 147 spec_UpdateAll_en := qab (envS (l := [(180, spec_l03Ok_en), (185, spec_l03Clue_en), (186, spec_l03Update_en)]) ⟨(qc6), (qev), (qgh), trivial⟩) [(4, .vary [(6, .sc (.int .i64))]), (11, .vary [(7, .sc (.int .i64)), (2, .box (.val Uq1))])] Tryz.func147 (by kernel_rfl) rfl fun _ => by kernel_rfl
def spec_l03Both (a0 : Dq2) (a1 : Dq6) : Option Dq15 :=
  (spec_l03Ok a0).bind fun y2920 =>
  bif (! y2920.1.1) then some (((1 : Int), ()), ()) else
  (spec_l03Clue a1).bind fun y2922 =>
  bif (! y2922.1.1) then some (((1 : Int), ()), ()) else some (((0 : Int), ()), ())
def spec_l03Both_en : Entry := ⟨⟨[.ro Uq1, .ro Uq3], [.v (.val (.int .i64))], false⟩, fun x => spec_l03Both x.1 x.2.1⟩
theorem qoc : Sound Tryz.prog G 191 spec_l03Both_en := qab (envS (l := [(180, spec_l03Ok_en), (185, spec_l03Clue_en)]) ⟨(qc6), (qev), trivial⟩) [] Tryz.func191 (by kernel_rfl) rfl fun _ => by kernel_rfl
def spec_l03Gate (a0 : Dq2) (a1 : Dq6) : Option ((Nat × Int × Unit) × Unit) :=
  (spec_l03Shares a0 a1).bind fun y2924 =>
  let x2926 := fDiv .f32 (fMul .f32 y2924.1.2.1 y2924.1.2.1) y2924.1.2.2.1
  (spec_l01Finite x2926).bind fun y2927 =>
  bif (! y2927.1.1) then some (((0 : Nat), (4 : Int), ()), ()) else some ((x2926, (0 : Int), ()), ())
def spec_l03Gate_en : Entry := ⟨⟨[.ro Uq1, .ro Uq3], [.v (.val (.flt .f32)), .v (.val (.int .i64))], false⟩, fun x => spec_l03Gate x.1 x.2.1⟩
theorem qof : Sound Tryz.prog G 192 spec_l03Gate_en := qab (envS (l := [(53, spec_l01Finite_en), (205, spec_l03Shares_en)]) ⟨(qaw), (qgi), trivial⟩) [] Tryz.func192 (by kernel_rfl) rfl fun _ => by kernel_rfl
def spec_UpdateGated (a0 : Dq2) (a1 : Dq6) (a2 : Nat) : Option Dq19 :=
  (spec_l03Both a0 a1).bind fun y2911 =>
  bif (! (iEq y2911.1.1 0)) then
    some (((((0, 0, 0, 0, 0, 0, ()), ((0, 0, 0, 0, 0, 0, ()), (0, 0, 0, 0, 0, 0, ()), (0, 0, 0, 0, 0, 0, ()), (0, 0, 0, 0, 0, 0, ()), (0, 0, 0, 0, 0, 0, ()), (0, 0, 0, 0, 0, 0, ()), ()), ()) : Dq2), false, y2911.1.1, ()), ())
  else
  bif (! (fLe .f32 0 a2)) then
    some (((((0, 0, 0, 0, 0, 0, ()), ((0, 0, 0, 0, 0, 0, ()), (0, 0, 0, 0, 0, 0, ()), (0, 0, 0, 0, 0, 0, ()), (0, 0, 0, 0, 0, 0, ()), (0, 0, 0, 0, 0, 0, ()), (0, 0, 0, 0, 0, 0, ()), ()), ()) : Dq2), false, (2 : Int), ()), ())
  else
  (spec_l03Gate a0 a1).bind fun y2915 =>
  bif (! (iEq y2915.1.2.1 0)) then
    some (((((0, 0, 0, 0, 0, 0, ()), ((0, 0, 0, 0, 0, 0, ()), (0, 0, 0, 0, 0, 0, ()), (0, 0, 0, 0, 0, 0, ()), (0, 0, 0, 0, 0, 0, ()), (0, 0, 0, 0, 0, 0, ()), (0, 0, 0, 0, 0, 0, ()), ()), ()) : Dq2), false, y2915.1.2.1, ()), ())
  else
  bif (fLt .f32 a2 y2915.1.1) then some ((a0, false, (0 : Int), ()), ()) else
  (spec_l03Update a0 a1).bind fun y2918 =>
  some ((y2918.1.1, (iEq y2918.1.2.1 0), y2918.1.2.1, ()), ())
def spec_UpdateGated_en : Entry := ⟨⟨[.v Uq1, .v Uq3, .v (.flt .f32)], [.v (.val Uq1), .v (.val (.bool)), .v (.val (.int .i64))], false⟩, fun x => spec_UpdateGated x.1 x.2.1 x.2.2.1⟩
theorem qe7 : Sound Tryz.prog G 150 spec_UpdateGated_en := qab (envS (l := [(186, spec_l03Update_en), (191, spec_l03Both_en), (192, spec_l03Gate_en)]) ⟨(qgh), (qoc), (qof), trivial⟩) [] Tryz.func150 (by kernel_rfl) rfl fun _ => by kernel_rfl
def spec_l04Vec (a0 : Dq22) (a1 : (Vec 3 Int)) : Option (Dq14 × Unit) :=
  some (((((fAdd .f32 (fMul .f32 (fOfInt .f32 (Vec.getD 3 a1 0 (0 : Int))) (Vec.getD 3 a0.1 0 (0 : Nat))) (Vec.getD 3 a0.2.1 0 (0 : Nat))), (fAdd .f32 (fMul .f32 (fOfInt .f32 (Vec.getD 3 a1 1 (0 : Int))) (Vec.getD 3 a0.1 1 (0 : Nat))) (Vec.getD 3 a0.2.1 1 (0 : Nat))), (fAdd .f32 (fMul .f32 (fOfInt .f32 (Vec.getD 3 a1 2 (0 : Int))) (Vec.getD 3 a0.1 2 (0 : Nat))) (Vec.getD 3 a0.2.1 2 (0 : Nat))), ()) : (Vec 3 Nat)), ()), ())
def spec_l04Vec_en : Entry := ⟨⟨[.ro Uq8, .v (.arr 3 (.int .i16))], [.v (.val (.arr 3 (.flt .f32)))], false⟩, fun x => spec_l04Vec x.1 x.2.1⟩
theorem qpc : Sound Tryz.prog G 187 spec_l04Vec_en := qab (envS (l := []) trivial) [(3, .unroll 4)] Tryz.func187 (by kernel_rfl) rfl fun _ => by kernel_rfl
def spec_l08Fix (a0 : Dq2) (a1 : (Vec 3 Int)) : Option Dq19 :=
  (spec_l08Sensor).bind fun y2929 =>
  (spec_l04Vec y2929.1.1 a1).bind fun y2930 =>
  (spec_ClueAt (0 : Int) (Vec.getD 3 y2930.1.1 0 (0 : Nat)) (1056964608 : Nat)).bind fun y2932 =>
  bif (! (iEq y2932.1.2.1 0)) then
    some (((((0, 0, 0, 0, 0, 0, ()), ((0, 0, 0, 0, 0, 0, ()), (0, 0, 0, 0, 0, 0, ()), (0, 0, 0, 0, 0, 0, ()), (0, 0, 0, 0, 0, 0, ()), (0, 0, 0, 0, 0, 0, ()), (0, 0, 0, 0, 0, 0, ()), ()), ()) : Dq2), false, (4 : Int), ()), ())
  else
  (spec_UpdateGated a0 y2932.1.1 (1091567616 : Nat)).bind fun y2934 =>
  bif (! (iEq y2934.1.2.2.1 0)) then
    some (((((0, 0, 0, 0, 0, 0, ()), ((0, 0, 0, 0, 0, 0, ()), (0, 0, 0, 0, 0, 0, ()), (0, 0, 0, 0, 0, 0, ()), (0, 0, 0, 0, 0, 0, ()), (0, 0, 0, 0, 0, 0, ()), (0, 0, 0, 0, 0, 0, ()), ()), ()) : Dq2), false, y2934.1.2.2.1, ()), ())
  else
  (spec_ClueAt (1 : Int) (Vec.getD 3 y2930.1.1 1 (0 : Nat)) (1056964608 : Nat)).bind fun y2937 =>
  bif (! (iEq y2937.1.2.1 0)) then
    some (((((0, 0, 0, 0, 0, 0, ()), ((0, 0, 0, 0, 0, 0, ()), (0, 0, 0, 0, 0, 0, ()), (0, 0, 0, 0, 0, 0, ()), (0, 0, 0, 0, 0, 0, ()), (0, 0, 0, 0, 0, 0, ()), (0, 0, 0, 0, 0, 0, ()), ()), ()) : Dq2), false, (4 : Int), ()), ())
  else
  (spec_UpdateGated y2934.1.1 y2937.1.1 (1091567616 : Nat)).bind fun y2939 =>
  bif (! (iEq y2939.1.2.2.1 0)) then
    some (((((0, 0, 0, 0, 0, 0, ()), ((0, 0, 0, 0, 0, 0, ()), (0, 0, 0, 0, 0, 0, ()), (0, 0, 0, 0, 0, 0, ()), (0, 0, 0, 0, 0, 0, ()), (0, 0, 0, 0, 0, 0, ()), (0, 0, 0, 0, 0, 0, ()), ()), ()) : Dq2), false, y2939.1.2.2.1, ()), ())
  else
  bif y2934.1.2.1 then
    (spec_ClueAt (2 : Int) (Vec.getD 3 y2930.1.1 2 (0 : Nat)) (1056964608 : Nat)).bind fun y2942 =>
    bif (! (iEq y2942.1.2.1 0)) then
      some (((((0, 0, 0, 0, 0, 0, ()), ((0, 0, 0, 0, 0, 0, ()), (0, 0, 0, 0, 0, 0, ()), (0, 0, 0, 0, 0, 0, ()), (0, 0, 0, 0, 0, 0, ()), (0, 0, 0, 0, 0, 0, ()), (0, 0, 0, 0, 0, 0, ()), ()), ()) : Dq2), false, (4 : Int), ()), ())
    else
    (spec_UpdateGated y2939.1.1 y2942.1.1 (1091567616 : Nat)).bind fun y2944 =>
    bif (! (iEq y2944.1.2.2.1 0)) then
      some (((((0, 0, 0, 0, 0, 0, ()), ((0, 0, 0, 0, 0, 0, ()), (0, 0, 0, 0, 0, 0, ()), (0, 0, 0, 0, 0, 0, ()), (0, 0, 0, 0, 0, 0, ()), (0, 0, 0, 0, 0, 0, ()), (0, 0, 0, 0, 0, 0, ()), ()), ()) : Dq2), false, y2944.1.2.2.1, ()), ())
    else
    bif y2939.1.2.1 then some ((y2944.1.1, y2944.1.2.1, (0 : Int), ()), ()) else some ((y2944.1.1, false, (0 : Int), ()), ())
  else
  (spec_ClueAt (2 : Int) (Vec.getD 3 y2930.1.1 2 (0 : Nat)) (1056964608 : Nat)).bind fun y2947 =>
  bif (! (iEq y2947.1.2.1 0)) then
    some (((((0, 0, 0, 0, 0, 0, ()), ((0, 0, 0, 0, 0, 0, ()), (0, 0, 0, 0, 0, 0, ()), (0, 0, 0, 0, 0, 0, ()), (0, 0, 0, 0, 0, 0, ()), (0, 0, 0, 0, 0, 0, ()), (0, 0, 0, 0, 0, 0, ()), ()), ()) : Dq2), false, (4 : Int), ()), ())
  else
  (spec_UpdateGated y2939.1.1 y2947.1.1 (1091567616 : Nat)).bind fun y2949 =>
  bif (! (iEq y2949.1.2.2.1 0)) then
    some (((((0, 0, 0, 0, 0, 0, ()), ((0, 0, 0, 0, 0, 0, ()), (0, 0, 0, 0, 0, 0, ()), (0, 0, 0, 0, 0, 0, ()), (0, 0, 0, 0, 0, 0, ()), (0, 0, 0, 0, 0, 0, ()), (0, 0, 0, 0, 0, 0, ()), ()), ()) : Dq2), false, y2949.1.2.2.1, ()), ())
  else some ((y2949.1.1, false, (0 : Int), ()), ())
def spec_l08Fix_en : Entry := ⟨⟨[.v Uq1, .v (.arr 3 (.int .i16))], [.v (.val Uq1), .v (.val (.bool)), .v (.val (.int .i64))], false⟩, fun x => spec_l08Fix x.1 x.2.1⟩
theorem qpj : Sound Tryz.prog G 148 spec_l08Fix_en := qab (envS (l := [(138, spec_l08Sensor_en), (146, spec_ClueAt_en), (150, spec_UpdateGated_en), (187, spec_l04Vec_en)]) ⟨(qgk), (qib), (qe7), (qpc), trivial⟩) [(5, .unroll 4)] Tryz.func148 (by kernel_rfl) rfl fun _ => by kernel_rfl
def spec_l08Take (a0 : Dq3) (a1 : Dq2) (a2 : Dq5) : Option Dq19 :=
  bif (iEq a2.1 1) then
    (spec_Predict a1 (fDiv .f32 1065353216 (fOfInt .f32 a0.1)) ((1048576000, 1048576000, 1048576000, ()) : (Vec 3 Nat))).bind fun y1971 =>
    some ((y1971.1.1, (iEq y1971.1.2.1 0), y1971.1.2.1, ()), ())
  else
  bif (iEq a2.1 2) then
    (spec_ClueAt (3 : Int) (Vec.getD 3 a2.2.1 0 (0 : Nat)) (1040187392 : Nat)).bind fun y1975 =>
    (spec_ClueAt (4 : Int) (Vec.getD 3 a2.2.1 1 (0 : Nat)) (1040187392 : Nat)).bind fun y1977 =>
    (spec_ClueAt (5 : Int) (Vec.getD 3 a2.2.1 2 (0 : Nat)) (1040187392 : Nat)).bind fun y1979 =>
    (spec_UpdateAll a1 ([y1975.1.1, y1977.1.1, y1979.1.1] : (List Dq6))).bind fun y1980 =>
    some ((y1980.1.1, (iEq y1980.1.2.1 0), y1980.1.2.1, ()), ())
  else
  bif (iEq a2.1 3) then
    (spec_l08Fix a1 a2.2.2.1).bind fun y1983 =>
    some ((y1983.1.1, y1983.1.2.1, y1983.1.2.2.1, ()), ())
  else
  bif inB a2.2.2.2.1 (List.length a0.2.2.1) then
    (spec_RangeClue a1 (List.getD a0.2.2.1 a2.2.2.2.1.toNat ((0, 0, 0, ()) : (Vec 3 Nat))) a2.2.2.2.2.1 (1056964608 : Nat)).bind fun y1985 =>
    bif (! (iEq y1985.1.2.1 0)) then some ((a1, false, (0 : Int), ()), ()) else
    (spec_UpdateGated a1 y1985.1.1 (1091567616 : Nat)).bind fun y1987 =>
    some ((y1987.1.1, y1987.1.2.1, y1987.1.2.2.1, ()), ())
  else none
def spec_l08Take_en : Entry := ⟨⟨[.ro Uq4, .v Uq1, .ro Uq2], [.v (.val Uq1), .v (.val (.bool)), .v (.val (.int .i64))], false⟩, fun x => spec_l08Take x.1 x.2.1 x.2.2.1⟩
theorem qn6 : Sound Tryz.prog G 109 spec_l08Take_en := qab (envS (l := [(145, spec_Predict_en), (146, spec_ClueAt_en), (147, spec_UpdateAll_en), (148, spec_l08Fix_en), (149, spec_RangeClue_en), (150, spec_UpdateGated_en)]) ⟨(qon), (qib), (ql3), (qpj), (qly), (qe7), trivial⟩) [(8, .unroll 4)] Tryz.func109 (by kernel_rfl) rfl fun _ => by kernel_rfl
def spec_l08Replay_l3 (a3 : Int) (a0 : Dq3) (s1960 : ((List Int) × Int × Dq2 × Unit)) : Option (((List Int) × Int × Dq2 × Unit) ⊕ Dq24) :=
  bif (iLt s1960.2.1 a3) then
    bif inB s1960.2.1 (List.length a0.2.2.2.1) then
      (spec_l08Take a0 s1960.2.2.1 (List.getD a0.2.2.2.1 s1960.2.1.toNat ((0, (0, 0, 0, ()), (0, 0, 0, ()), 0, 0, ()) : Dq5))).bind fun y1962 =>
      bif (! (iEq y1962.1.2.2.1 0)) then
        Option.map Sum.inr (some (((((0, 0, 0, 0, 0, 0, ()), ((0, 0, 0, 0, 0, 0, ()), (0, 0, 0, 0, 0, 0, ()), (0, 0, 0, 0, 0, 0, ()), (0, 0, 0, 0, 0, 0, ()), (0, 0, 0, 0, 0, 0, ()), (0, 0, 0, 0, 0, 0, ()), ()), ()) : Dq2), ([] : (List Int)), y1962.1.2.2.1, ()), ()))
      else
      bif (! y1962.1.2.1) then
        bif room (List.length s1960.1 + 1) 8 then
          some (Sum.inl ((s1960.1 ++ ([s1960.2.1] : (List Int))), (iAdd .i64 s1960.2.1 1), y1962.1.1, ()))
        else none
      else
      some (Sum.inl (s1960.1, (iAdd .i64 s1960.2.1 1), y1962.1.1, ()))
    else none
  else
  Option.map Sum.inr (some ((s1960.2.2.1, s1960.1, (0 : Int), ()), ()))
def spec_l08Replay (a0 : Dq3) (a1 : Dq2) (a2 : Int) (a3 : Int) : Option Dq24 :=
  run (spec_l08Replay_l3 a3 a0) (([] : (List Int)), a2, a1, ())
def spec_l08Replay_en : Entry := ⟨⟨[.ro Uq4, .v Uq1, .v (.int .i64), .v (.int .i64)], [.v (.val Uq1), .v (.rows (.int .i64)), .v (.val (.int .i64))], false⟩, fun x => spec_l08Replay x.1 x.2.1 x.2.2.1 x.2.2.2.1⟩
theorem ql5 : Sound Tryz.prog G 68 spec_l08Replay_en := qab (envS (l := [(109, spec_l08Take_en)]) ⟨(qn6), trivial⟩) [(3, .vary [(11, .rows (.int .i64)), (12, .sc (.int .i64)), (5, .box (.val Uq1))])] Tryz.func68 (by kernel_rfl) rfl fun _ => by kernel_rfl
def spec_ReplayLog (a0 : Dq3) : Option Dq12 :=
  (spec_l08Log a0).bind fun y1855 =>
  bif (! y1855.1.1) then
    some (((((0, 0, 0, 0, 0, 0, ()), ((0, 0, 0, 0, 0, 0, ()), (0, 0, 0, 0, 0, 0, ()), (0, 0, 0, 0, 0, 0, ()), (0, 0, 0, 0, 0, 0, ()), (0, 0, 0, 0, 0, 0, ()), (0, 0, 0, 0, 0, 0, ()), ()), ()) : Dq2), (1 : Int), ()), ())
  else
  (spec_l08First a0).bind fun y1857 =>
  (spec_l08Replay a0 y1857.1.1 (0 : Int) (lenI a0.2.2.2.1)).bind fun y1858 =>
  some ((y1858.1.1, y1858.1.2.2.1, ()), ())
def spec_ReplayLog_en : Entry := ⟨⟨[.v Uq4], [.v (.val Uq1), .v (.val (.int .i64))], false⟩, fun x => spec_ReplayLog x.1⟩
theorem qlt : Sound Tryz.prog G 25 spec_ReplayLog_en := qab (envS (l := [(67, spec_l08Log_en), (68, spec_l08Replay_en), (69, spec_l08First_en)]) ⟨(qo2), (ql5), (qnf), trivial⟩) [] Tryz.func25 (by kernel_rfl) rfl fun _ => by kernel_rfl
def spec_l03SameSix (a0 : (Vec 6 Nat)) (a1 : (Vec 6 Nat)) : Option Dq9 :=
  (spec_l01Same (Vec.getD 6 a0 0 (0 : Nat)) (Vec.getD 6 a1 0 (0 : Nat))).bind fun y2998 =>
  bif (! y2998.1.1) then some ((false, ()), ()) else
  (spec_l01Same (Vec.getD 6 a0 1 (0 : Nat)) (Vec.getD 6 a1 1 (0 : Nat))).bind fun y3002 =>
  bif (! y3002.1.1) then some ((false, ()), ()) else
  (spec_l01Same (Vec.getD 6 a0 2 (0 : Nat)) (Vec.getD 6 a1 2 (0 : Nat))).bind fun y3006 =>
  bif (! y3006.1.1) then some ((false, ()), ()) else
  (spec_l01Same (Vec.getD 6 a0 3 (0 : Nat)) (Vec.getD 6 a1 3 (0 : Nat))).bind fun y3010 =>
  bif (! y3010.1.1) then some ((false, ()), ()) else
  (spec_l01Same (Vec.getD 6 a0 4 (0 : Nat)) (Vec.getD 6 a1 4 (0 : Nat))).bind fun y3014 =>
  bif (! y3014.1.1) then some ((false, ()), ()) else
  (spec_l01Same (Vec.getD 6 a0 5 (0 : Nat)) (Vec.getD 6 a1 5 (0 : Nat))).bind fun y3018 =>
  bif (! y3018.1.1) then some ((false, ()), ()) else some ((true, ()), ())
def spec_l03SameSix_en : Entry := ⟨⟨[.v (.arr 6 (.flt .f32)), .v (.arr 6 (.flt .f32))], [.v (.val (.bool))], false⟩, fun x => spec_l03SameSix x.1 x.2.1⟩
theorem qli : Sound Tryz.prog G 110 spec_l03SameSix_en := qab (envS (l := [(131, spec_l01Same_en)]) ⟨(qex), trivial⟩) [(2, .unroll 7)] Tryz.func110 (by kernel_rfl) rfl fun _ => by kernel_rfl
def spec_l03Same (a0 : Dq2) (a1 : Dq2) : Option Dq9 :=
  (spec_l03SameSix a0.1 a1.1).bind fun y2970 =>
  bif (! y2970.1.1) then some ((false, ()), ()) else
  (spec_l03SameSix (Vec.getD 6 a0.2.1 0 ((0, 0, 0, 0, 0, 0, ()) : (Vec 6 Nat))) (Vec.getD 6 a1.2.1 0 ((0, 0, 0, 0, 0, 0, ()) : (Vec 6 Nat)))).bind fun y2974 =>
  bif (! y2974.1.1) then some ((false, ()), ()) else
  (spec_l03SameSix (Vec.getD 6 a0.2.1 1 ((0, 0, 0, 0, 0, 0, ()) : (Vec 6 Nat))) (Vec.getD 6 a1.2.1 1 ((0, 0, 0, 0, 0, 0, ()) : (Vec 6 Nat)))).bind fun y2978 =>
  bif (! y2978.1.1) then some ((false, ()), ()) else
  (spec_l03SameSix (Vec.getD 6 a0.2.1 2 ((0, 0, 0, 0, 0, 0, ()) : (Vec 6 Nat))) (Vec.getD 6 a1.2.1 2 ((0, 0, 0, 0, 0, 0, ()) : (Vec 6 Nat)))).bind fun y2982 =>
  bif (! y2982.1.1) then some ((false, ()), ()) else
  (spec_l03SameSix (Vec.getD 6 a0.2.1 3 ((0, 0, 0, 0, 0, 0, ()) : (Vec 6 Nat))) (Vec.getD 6 a1.2.1 3 ((0, 0, 0, 0, 0, 0, ()) : (Vec 6 Nat)))).bind fun y2986 =>
  bif (! y2986.1.1) then some ((false, ()), ()) else
  (spec_l03SameSix (Vec.getD 6 a0.2.1 4 ((0, 0, 0, 0, 0, 0, ()) : (Vec 6 Nat))) (Vec.getD 6 a1.2.1 4 ((0, 0, 0, 0, 0, 0, ()) : (Vec 6 Nat)))).bind fun y2990 =>
  bif (! y2990.1.1) then some ((false, ()), ()) else
  (spec_l03SameSix (Vec.getD 6 a0.2.1 5 ((0, 0, 0, 0, 0, 0, ()) : (Vec 6 Nat))) (Vec.getD 6 a1.2.1 5 ((0, 0, 0, 0, 0, 0, ()) : (Vec 6 Nat)))).bind fun y2994 =>
  bif (! y2994.1.1) then some ((false, ()), ()) else some ((true, ()), ())
def spec_l03Same_en : Entry := ⟨⟨[.ro Uq1, .ro Uq1], [.v (.val (.bool))], false⟩, fun x => spec_l03Same x.1 x.2.1⟩
theorem qnz : Sound Tryz.prog G 70 spec_l03Same_en := qab (envS (l := [(110, spec_l03SameSix_en)]) ⟨(qli), trivial⟩) [(4, .unroll 7)] Tryz.func70 (by kernel_rfl) rfl fun _ => by kernel_rfl
end
end Go.Proofs.YtildomllnnnofaaGreat
