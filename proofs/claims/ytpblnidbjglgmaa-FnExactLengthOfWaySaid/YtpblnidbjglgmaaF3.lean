import Derived.Test.YtpblnidbjglgmaaF2
/- Functions on typed data: what the evaluation of each Go function is, and that it is sound. -/
namespace Go.Proofs.Ytpblnidbjglgmaa
open Go Go.Tm
set_option linter.unusedVariables false
set_option maxRecDepth 100000
-- loop.example/g01204/laws.eqSightS
noncomputable def laws_eqSightS_l4 (a0 : (List ((Vec 3 Nat) × (Nat × (Int × Unit))))) (a1 : (List ((Vec 3 Nat) × (Nat × (Int × Unit))))) (s1307 : (Int × Unit)) : Option ((Int × Unit) ⊕ ((Bool × Unit) × Unit)) :=
  bif (iLt s1307.1 (lenI a0)) then
    bif inB s1307.1 (List.length a0) then
      bif inB s1307.1 (List.length a1) then
        (laws_eqSight (List.getD a0 s1307.1.toNat (((0, 0, 0, ()), 0, 0, ()) : ((Vec 3 Nat) × (Nat × (Int × Unit))))) (List.getD a1 s1307.1.toNat (((0, 0, 0, ()), 0, 0, ()) : ((Vec 3 Nat) × (Nat × (Int × Unit)))))).bind fun y1311 =>
        bif (! y1311.1.1) then
          Option.map Sum.inr (some ((false, ()), ()))
        else
        some (Sum.inl ((iAdd .i64 s1307.1 1), ()))
      else none
    else none
  else
  Option.map Sum.inr (some ((true, ()), ()))
noncomputable def laws_eqSightS (a0 : (List ((Vec 3 Nat) × (Nat × (Int × Unit))))) (a1 : (List ((Vec 3 Nat) × (Nat × (Int × Unit))))) : Option ((Bool × Unit) × Unit) :=
  bif (! (iEq (lenI a0) (lenI a1))) then some ((false, ()), ()) else run (laws_eqSightS_l4 a0 a1) ((0 : Int), ())
noncomputable def laws_eqSightS_sg : Sig := ⟨[.v (.list (.pair (.arr 3 (.flt .f32)) (.pair (.flt .f32) (.pair (.int .i64) (.unit))))), .v (.list (.pair (.arr 3 (.flt .f32)) (.pair (.flt .f32) (.pair (.int .i64) (.unit)))))], [.v (.val (.bool))], false⟩
noncomputable def laws_eqSightS_en : Entry := ⟨laws_eqSightS_sg, fun x => laws_eqSightS x.1 x.2.1⟩
theorem laws_eqSightS_eq (x : laws_eqSightS_sg.dom) : body (env [(188, laws_eqSight_en)]) [(4, .vary [(5, .sc (.int .i64))])] Try.f164 laws_eqSightS_sg x = laws_eqSightS x.1 x.2.1 := by kernel_rfl
theorem laws_eqSightS_so : Sound Try.prog 164 laws_eqSightS_en := sound_of_body (envS (l := [(188, laws_eqSight_en)]) (⟨laws_eqSight_so, trivial⟩)) Try.func164 (by kernel_rfl) rfl (fun x y h => (laws_eqSightS_eq x).trans h)

-- loop.example/g01204/laws.eqSightSS
noncomputable def laws_eqSightSS_l4 (a0 : (List (List ((Vec 3 Nat) × (Nat × (Int × Unit)))))) (a1 : (List (List ((Vec 3 Nat) × (Nat × (Int × Unit)))))) (s1299 : (Int × Unit)) : Option ((Int × Unit) ⊕ ((Bool × Unit) × Unit)) :=
  bif (iLt s1299.1 (lenI a0)) then
    bif inB s1299.1 (List.length a0) then
      bif inB s1299.1 (List.length a1) then
        (laws_eqSightS (List.getD a0 s1299.1.toNat ([] : (List ((Vec 3 Nat) × (Nat × (Int × Unit)))))) (List.getD a1 s1299.1.toNat ([] : (List ((Vec 3 Nat) × (Nat × (Int × Unit))))))).bind fun y1303 =>
        bif (! y1303.1.1) then
          Option.map Sum.inr (some ((false, ()), ()))
        else
        some (Sum.inl ((iAdd .i64 s1299.1 1), ()))
      else none
    else none
  else
  Option.map Sum.inr (some ((true, ()), ()))
noncomputable def laws_eqSightSS (a0 : (List (List ((Vec 3 Nat) × (Nat × (Int × Unit)))))) (a1 : (List (List ((Vec 3 Nat) × (Nat × (Int × Unit)))))) : Option ((Bool × Unit) × Unit) :=
  bif (! (iEq (lenI a0) (lenI a1))) then some ((false, ()), ()) else run (laws_eqSightSS_l4 a0 a1) ((0 : Int), ())
noncomputable def laws_eqSightSS_sg : Sig := ⟨[.v (.list (.list (.pair (.arr 3 (.flt .f32)) (.pair (.flt .f32) (.pair (.int .i64) (.unit)))))), .v (.list (.list (.pair (.arr 3 (.flt .f32)) (.pair (.flt .f32) (.pair (.int .i64) (.unit))))))], [.v (.val (.bool))], false⟩
noncomputable def laws_eqSightSS_en : Entry := ⟨laws_eqSightSS_sg, fun x => laws_eqSightSS x.1 x.2.1⟩
theorem laws_eqSightSS_eq (x : laws_eqSightSS_sg.dom) : body (env [(164, laws_eqSightS_en)]) [(4, .vary [(5, .sc (.int .i64))])] Try.f121 laws_eqSightSS_sg x = laws_eqSightSS x.1 x.2.1 := by kernel_rfl
theorem laws_eqSightSS_so : Sound Try.prog 121 laws_eqSightSS_en := sound_of_body (envS (l := [(164, laws_eqSightS_en)]) (⟨laws_eqSightS_so, trivial⟩)) Try.func121 (by kernel_rfl) rfl (fun x y h => (laws_eqSightSS_eq x).trans h)

-- loop.example/g01204/laws.eqFleet
noncomputable def laws_eqFleet (a0 : (Nat × (Nat × ((List (List ((Vec 3 Nat) × (Nat × (Int × Unit))))) × Unit)))) (a1 : (Nat × (Nat × ((List (List ((Vec 3 Nat) × (Nat × (Int × Unit))))) × Unit)))) : Option ((Bool × Unit) × Unit) :=
  (fConv .f32 .f64 a0.1).bind fun y1288 =>
  (fConv .f32 .f64 a1.1).bind fun y1289 =>
  (laws_sameFloat y1288 y1289).bind fun y1290 =>
  bif (! y1290.1.1) then some ((false, ()), ()) else
  (fConv .f32 .f64 a0.2.1).bind fun y1292 =>
  (fConv .f32 .f64 a1.2.1).bind fun y1293 =>
  (laws_sameFloat y1292 y1293).bind fun y1294 =>
  bif (! y1294.1.1) then some ((false, ()), ()) else
  (laws_eqSightSS a0.2.2.1 a1.2.2.1).bind fun y1296 =>
  bif (! y1296.1.1) then some ((false, ()), ()) else some ((true, ()), ())
noncomputable def laws_eqFleet_sg : Sig := ⟨[.v (.pair (.flt .f32) (.pair (.flt .f32) (.pair (.list (.list (.pair (.arr 3 (.flt .f32)) (.pair (.flt .f32) (.pair (.int .i64) (.unit)))))) (.unit)))), .v (.pair (.flt .f32) (.pair (.flt .f32) (.pair (.list (.list (.pair (.arr 3 (.flt .f32)) (.pair (.flt .f32) (.pair (.int .i64) (.unit)))))) (.unit))))], [.v (.val (.bool))], false⟩
noncomputable def laws_eqFleet_en : Entry := ⟨laws_eqFleet_sg, fun x => laws_eqFleet x.1 x.2.1⟩
theorem laws_eqFleet_eq (x : laws_eqFleet_sg.dom) : body (env [(27, laws_sameFloat_en), (121, laws_eqSightSS_en)]) [] Try.f58 laws_eqFleet_sg x = laws_eqFleet x.1 x.2.1 := by kernel_rfl
theorem laws_eqFleet_so : Sound Try.prog 58 laws_eqFleet_en := sound_of_body (envS (l := [(27, laws_sameFloat_en), (121, laws_eqSightSS_en)]) (⟨laws_sameFloat_so, laws_eqSightSS_so, trivial⟩)) Try.func58 (by kernel_rfl) rfl (fun x y h => (laws_eqFleet_eq x).trans h)

-- loop.example/g01204/laws.szSightS
noncomputable def laws_szSightS (a0 : (List ((Vec 3 Nat) × (Nat × (Int × Unit))))) (a1 : Int) : Option ((Int × Unit) × Unit) :=
  let x1331 := iSub .i64 a1 (lenI a0)
  bif (iLt x1331 0) then some ((((-1 : Int) : Int), ()), ()) else some ((x1331, ()), ())
noncomputable def laws_szSightS_sg : Sig := ⟨[.v (.list (.pair (.arr 3 (.flt .f32)) (.pair (.flt .f32) (.pair (.int .i64) (.unit))))), .v (.int .i64)], [.v (.val (.int .i64))], false⟩
noncomputable def laws_szSightS_en : Entry := ⟨laws_szSightS_sg, fun x => laws_szSightS x.1 x.2.1⟩
theorem laws_szSightS_eq (x : laws_szSightS_sg.dom) : body (env []) [] Try.f156 laws_szSightS_sg x = laws_szSightS x.1 x.2.1 := by kernel_rfl
theorem laws_szSightS_so : Sound Try.prog 156 laws_szSightS_en := sound_of_body (envS (l := []) (trivial)) Try.func156 (by kernel_rfl) rfl (fun x y h => (laws_szSightS_eq x).trans h)

-- loop.example/g01204/laws.szSightSS
noncomputable def laws_szSightSS_l5 (a0 : (List (List ((Vec 3 Nat) × (Nat × (Int × Unit)))))) (s1325 : (Int × Int × Unit)) : Option ((Int × Int × Unit) ⊕ ((Int × Unit) × Unit)) :=
  bif (iLt s1325.2.1 (lenI a0)) then
    bif inB s1325.2.1 (List.length a0) then
      (laws_szSightS (List.getD a0 s1325.2.1.toNat ([] : (List ((Vec 3 Nat) × (Nat × (Int × Unit)))))) s1325.1).bind fun y1328 =>
      bif (iLt y1328.1.1 0) then
        Option.map Sum.inr (some ((((-1 : Int) : Int), ()), ()))
      else
      some (Sum.inl (y1328.1.1, (iAdd .i64 s1325.2.1 1), ()))
    else none
  else
  Option.map Sum.inr (some ((s1325.1, ()), ()))
noncomputable def laws_szSightSS (a0 : (List (List ((Vec 3 Nat) × (Nat × (Int × Unit)))))) (a1 : Int) : Option ((Int × Unit) × Unit) :=
  let x1323 := iSub .i64 a1 (lenI a0)
  bif (iLt x1323 0) then some ((((-1 : Int) : Int), ()), ()) else run (laws_szSightSS_l5 a0) (x1323, (0 : Int), ())
noncomputable def laws_szSightSS_sg : Sig := ⟨[.v (.list (.list (.pair (.arr 3 (.flt .f32)) (.pair (.flt .f32) (.pair (.int .i64) (.unit)))))), .v (.int .i64)], [.v (.val (.int .i64))], false⟩
noncomputable def laws_szSightSS_en : Entry := ⟨laws_szSightSS_sg, fun x => laws_szSightSS x.1 x.2.1⟩
theorem laws_szSightSS_eq (x : laws_szSightSS_sg.dom) : body (env [(156, laws_szSightS_en)]) [(5, .vary [(1, .sc (.int .i64)), (5, .sc (.int .i64))])] Try.f115 laws_szSightSS_sg x = laws_szSightSS x.1 x.2.1 := by kernel_rfl
theorem laws_szSightSS_so : Sound Try.prog 115 laws_szSightSS_en := sound_of_body (envS (l := [(156, laws_szSightS_en)]) (⟨laws_szSightS_so, trivial⟩)) Try.func115 (by kernel_rfl) rfl (fun x y h => (laws_szSightSS_eq x).trans h)

-- loop.example/g01204/laws.szFleet
noncomputable def laws_szFleet (a0 : (Nat × (Nat × ((List (List ((Vec 3 Nat) × (Nat × (Int × Unit))))) × Unit)))) (a1 : Int) : Option ((Int × Unit) × Unit) :=
  (laws_szSightSS a0.2.2.1 a1).bind fun y1321 =>
  bif (iLt y1321.1.1 0) then some ((((-1 : Int) : Int), ()), ()) else some ((y1321.1.1, ()), ())
noncomputable def laws_szFleet_sg : Sig := ⟨[.v (.pair (.flt .f32) (.pair (.flt .f32) (.pair (.list (.list (.pair (.arr 3 (.flt .f32)) (.pair (.flt .f32) (.pair (.int .i64) (.unit)))))) (.unit)))), .v (.int .i64)], [.v (.val (.int .i64))], false⟩
noncomputable def laws_szFleet_en : Entry := ⟨laws_szFleet_sg, fun x => laws_szFleet x.1 x.2.1⟩
theorem laws_szFleet_eq (x : laws_szFleet_sg.dom) : body (env [(115, laws_szSightSS_en)]) [] Try.f54 laws_szFleet_sg x = laws_szFleet x.1 x.2.1 := by kernel_rfl
theorem laws_szFleet_so : Sound Try.prog 54 laws_szFleet_en := sound_of_body (envS (l := [(115, laws_szSightSS_en)]) (⟨laws_szSightSS_so, trivial⟩)) Try.func54 (by kernel_rfl) rfl (fun x y h => (laws_szFleet_eq x).trans h)

-- loop.example/g01204/laws.toSight
noncomputable def laws_toSight (a0 : ((Vec 3 Nat) × (Nat × (Int × Unit)))) : Option ((((Vec 3 Nat) × (Nat × (Int × Unit))) × Unit) × Unit) :=
  (laws_toVec a0.1).bind fun y1358 =>
  some ((((y1358.1.1, a0.2.1, a0.2.2.1, ()) : ((Vec 3 Nat) × (Nat × (Int × Unit)))), ()), ())
noncomputable def laws_toSight_sg : Sig := ⟨[.v (.pair (.arr 3 (.flt .f32)) (.pair (.flt .f32) (.pair (.int .i64) (.unit))))], [.v (.val (.pair (.arr 3 (.flt .f32)) (.pair (.flt .f32) (.pair (.int .i64) (.unit)))))], false⟩
noncomputable def laws_toSight_en : Entry := ⟨laws_toSight_sg, fun x => laws_toSight x.1⟩
theorem laws_toSight_eq (x : laws_toSight_sg.dom) : body (env [(82, laws_toVec_en)]) [] Try.f183 laws_toSight_sg x = laws_toSight x.1 := by kernel_rfl
theorem laws_toSight_so : Sound Try.prog 183 laws_toSight_en := sound_of_body (envS (l := [(82, laws_toVec_en)]) (⟨laws_toVec_so, trivial⟩)) Try.func183 (by kernel_rfl) rfl (fun x y h => (laws_toSight_eq x).trans h)

-- loop.example/g01204/laws.toSightS
noncomputable def laws_toSightS_l3 (a0 : (List ((Vec 3 Nat) × (Nat × (Int × Unit))))) (s1352 : (Int × (List ((Vec 3 Nat) × (Nat × (Int × Unit)))) × Unit)) : Option ((Int × (List ((Vec 3 Nat) × (Nat × (Int × Unit)))) × Unit) ⊕ (((List ((Vec 3 Nat) × (Nat × (Int × Unit)))) × Unit) × Unit)) :=
  bif (iLt s1352.1 (lenI a0)) then
    bif inB s1352.1 (List.length a0) then
      (laws_toSight (List.getD a0 s1352.1.toNat (((0, 0, 0, ()), 0, 0, ()) : ((Vec 3 Nat) × (Nat × (Int × Unit)))))).bind fun y1355 =>
      bif inB s1352.1 (List.length s1352.2.1) then
        some (Sum.inl ((iAdd .i64 s1352.1 1), (List.set s1352.2.1 s1352.1.toNat y1355.1.1), ()))
      else none
    else none
  else
  Option.map Sum.inr (some ((s1352.2.1, ()), ()))
noncomputable def laws_toSightS (a0 : (List ((Vec 3 Nat) × (Nat × (Int × Unit))))) : Option (((List ((Vec 3 Nat) × (Nat × (Int × Unit)))) × Unit) × Unit) :=
  bif (iLe 0 (lenI a0) && iLe (lenI a0) (lenI a0) && room (lenI a0).toNat 24) then run (laws_toSightS_l3 a0) ((0 : Int), List.replicate (lenI a0).toNat (((0, 0, 0, ()), 0, 0, ()) : ((Vec 3 Nat) × (Nat × (Int × Unit)))), ()) else none
noncomputable def laws_toSightS_sg : Sig := ⟨[.v (.list (.pair (.arr 3 (.flt .f32)) (.pair (.flt .f32) (.pair (.int .i64) (.unit)))))], [.v (.rows (.pair (.arr 3 (.flt .f32)) (.pair (.flt .f32) (.pair (.int .i64) (.unit)))))], false⟩
noncomputable def laws_toSightS_en : Entry := ⟨laws_toSightS_sg, fun x => laws_toSightS x.1⟩
theorem laws_toSightS_eq (x : laws_toSightS_sg.dom) : body (env [(183, laws_toSight_en)]) [(3, .vary [(4, .sc (.int .i64)), (3, .mrows (.pair (.arr 3 (.flt .f32)) (.pair (.flt .f32) (.pair (.int .i64) (.unit)))))])] Try.f161 laws_toSightS_sg x = laws_toSightS x.1 := by kernel_rfl
theorem laws_toSightS_so : Sound Try.prog 161 laws_toSightS_en := sound_of_body (envS (l := [(183, laws_toSight_en)]) (⟨laws_toSight_so, trivial⟩)) Try.func161 (by kernel_rfl) rfl (fun x y h => (laws_toSightS_eq x).trans h)

-- loop.example/g01204/laws.toSightSS
noncomputable def laws_toSightSS_l3 (a0 : (List (List ((Vec 3 Nat) × (Nat × (Int × Unit)))))) (s1340 : (Int × (List (List ((Vec 3 Nat) × (Nat × (Int × Unit))))) × Unit)) : Option ((Int × (List (List ((Vec 3 Nat) × (Nat × (Int × Unit))))) × Unit) ⊕ (((List (List ((Vec 3 Nat) × (Nat × (Int × Unit))))) × Unit) × Unit)) :=
  bif (iLt s1340.1 (lenI a0)) then
    bif inB s1340.1 (List.length a0) then
      (laws_toSightS (List.getD a0 s1340.1.toNat ([] : (List ((Vec 3 Nat) × (Nat × (Int × Unit))))))).bind fun y1343 =>
      bif inB s1340.1 (List.length s1340.2.1) then
        some (Sum.inl ((iAdd .i64 s1340.1 1), (List.set s1340.2.1 s1340.1.toNat y1343.1.1), ()))
      else none
    else none
  else
  Option.map Sum.inr (some ((s1340.2.1, ()), ()))
noncomputable def laws_toSightSS (a0 : (List (List ((Vec 3 Nat) × (Nat × (Int × Unit)))))) : Option (((List (List ((Vec 3 Nat) × (Nat × (Int × Unit))))) × Unit) × Unit) :=
  bif (iLe 0 (lenI a0) && iLe (lenI a0) (lenI a0) && room (lenI a0).toNat 24) then run (laws_toSightSS_l3 a0) ((0 : Int), List.replicate (lenI a0).toNat ([] : (List ((Vec 3 Nat) × (Nat × (Int × Unit))))), ()) else none
noncomputable def laws_toSightSS_sg : Sig := ⟨[.v (.list (.list (.pair (.arr 3 (.flt .f32)) (.pair (.flt .f32) (.pair (.int .i64) (.unit))))))], [.v (.rows (.list (.pair (.arr 3 (.flt .f32)) (.pair (.flt .f32) (.pair (.int .i64) (.unit))))))], true⟩
noncomputable def laws_toSightSS_en : Entry := ⟨laws_toSightSS_sg, fun x => laws_toSightSS x.1⟩
theorem laws_toSightSS_eq (x : laws_toSightSS_sg.dom) : body (env [(161, laws_toSightS_en)]) [(3, .vary [(4, .sc (.int .i64)), (3, .mrows (.list (.pair (.arr 3 (.flt .f32)) (.pair (.flt .f32) (.pair (.int .i64) (.unit))))))])] Try.f117 laws_toSightSS_sg x = laws_toSightSS x.1 := by kernel_rfl
theorem laws_toSightSS_so : Sound Try.prog 117 laws_toSightSS_en := sound_of_body (envS (l := [(161, laws_toSightS_en)]) (⟨laws_toSightS_so, trivial⟩)) Try.func117 (by kernel_rfl) rfl (fun x y h => (laws_toSightSS_eq x).trans h)

-- loop.example/g01204/laws.toFleet
noncomputable def laws_toFleet (a0 : (Nat × (Nat × ((List (List ((Vec 3 Nat) × (Nat × (Int × Unit))))) × Unit)))) : Option (((Nat × (Nat × ((List (List ((Vec 3 Nat) × (Nat × (Int × Unit))))) × Unit))) × Unit) × Unit) :=
  (laws_toSightSS a0.2.2.1).bind fun y1333 =>
  some ((((a0.1, a0.2.1, y1333.1.1, ()) : (Nat × (Nat × ((List (List ((Vec 3 Nat) × (Nat × (Int × Unit))))) × Unit)))), ()), ())
noncomputable def laws_toFleet_sg : Sig := ⟨[.v (.pair (.flt .f32) (.pair (.flt .f32) (.pair (.list (.list (.pair (.arr 3 (.flt .f32)) (.pair (.flt .f32) (.pair (.int .i64) (.unit)))))) (.unit))))], [.v (.pair (.val (.flt .f32)) (.pair (.val (.flt .f32)) (.pair (.rows (.list (.pair (.arr 3 (.flt .f32)) (.pair (.flt .f32) (.pair (.int .i64) (.unit)))))) (.val (.unit)))))], true⟩
noncomputable def laws_toFleet_en : Entry := ⟨laws_toFleet_sg, fun x => laws_toFleet x.1⟩
theorem laws_toFleet_eq (x : laws_toFleet_sg.dom) : body (env [(117, laws_toSightSS_en)]) [] Try.f56 laws_toFleet_sg x = laws_toFleet x.1 := by kernel_rfl
theorem laws_toFleet_so : Sound Try.prog 56 laws_toFleet_en := sound_of_body (envS (l := [(117, laws_toSightSS_en)]) (⟨laws_toSightSS_so, trivial⟩)) Try.func56 (by kernel_rfl) rfl (fun x y h => (laws_toFleet_eq x).trans h)

-- loop.example/g01204/spec.l05Side
noncomputable def spec_l05Side (a0 : Nat) : Option ((Bool × Unit) × Unit) :=
  (spec_l01Finite a0).bind fun y1413 =>
  bif y1413.1.1 then
    some (((fLt .f32 0 a0), ()), ())
  else some ((false, ()), ())
noncomputable def spec_l05Side_sg : Sig := ⟨[.v (.flt .f32)], [.v (.val (.bool))], false⟩
noncomputable def spec_l05Side_en : Entry := ⟨spec_l05Side_sg, fun x => spec_l05Side x.1⟩
theorem spec_l05Side_eq (x : spec_l05Side_sg.dom) : body (env [(134, spec_l01Finite_en)]) [] Try.f157 spec_l05Side_sg x = spec_l05Side x.1 := by kernel_rfl
theorem spec_l05Side_so : Sound Try.prog 157 spec_l05Side_en := sound_of_body (envS (l := [(134, spec_l01Finite_en)]) (⟨spec_l01Finite_so, trivial⟩)) Try.func157 (by kernel_rfl) rfl (fun x y h => (spec_l05Side_eq x).trans h)

-- loop.example/g01204/spec.l05Cell
noncomputable def spec_l05Cell (a0 : Nat) (a1 : (Vec 3 Nat)) : Option (((Vec 3 Int) × Int × Unit) × Unit) :=
  (spec_l05Side a0).bind fun y1385 =>
  bif (! y1385.1.1) then some ((((0, 0, 0, ()) : (Vec 3 Int)), (2 : Int), ()), ()) else
  (spec_l01Vec a1).bind fun y1387 =>
  bif (! y1387.1.1) then some ((((0, 0, 0, ()) : (Vec 3 Int)), (2 : Int), ()), ()) else
  (fConv .f32 .f64 (fDiv .f32 (Vec.getD 3 a1 0 (0 : Nat)) a0)).bind fun y1391 =>
  (math_Floor y1391).bind fun y1392 =>
  bif (fLe .f64 13920209183539462144 y1392.1.1) then
    bif (! (fLe .f64 y1392.1.1 4696837146684686336)) then some ((((0, 0, 0, ()) : (Vec 3 Int)), (3 : Int), ()), ()) else
    (fToInt .f64 y1392.1.1 .i32).bind fun n1396 =>
    (fConv .f32 .f64 (fDiv .f32 (Vec.getD 3 a1 1 (0 : Nat)) a0)).bind fun y1399 =>
    (math_Floor y1399).bind fun y1400 =>
    bif (fLe .f64 13920209183539462144 y1400.1.1) then
      bif (! (fLe .f64 y1400.1.1 4696837146684686336)) then some ((((0, 0, 0, ()) : (Vec 3 Int)), (3 : Int), ()), ()) else
      (fToInt .f64 y1400.1.1 .i32).bind fun n1404 =>
      (fConv .f32 .f64 (fDiv .f32 (Vec.getD 3 a1 2 (0 : Nat)) a0)).bind fun y1407 =>
      (math_Floor y1407).bind fun y1408 =>
      bif (fLe .f64 13920209183539462144 y1408.1.1) then
        bif (! (fLe .f64 y1408.1.1 4696837146684686336)) then some ((((0, 0, 0, ()) : (Vec 3 Int)), (3 : Int), ()), ()) else
        (fToInt .f64 y1408.1.1 .i32).bind fun n1412 =>
        some ((((n1396, n1404, n1412, ()) : (Vec 3 Int)), (0 : Int), ()), ())
      else some ((((0, 0, 0, ()) : (Vec 3 Int)), (3 : Int), ()), ())
    else some ((((0, 0, 0, ()) : (Vec 3 Int)), (3 : Int), ()), ())
  else some ((((0, 0, 0, ()) : (Vec 3 Int)), (3 : Int), ()), ())
noncomputable def spec_l05Cell_sg : Sig := ⟨[.v (.flt .f32), .v (.arr 3 (.flt .f32))], [.v (.val (.arr 3 (.int .i32))), .v (.val (.int .i64))], false⟩
noncomputable def spec_l05Cell_en : Entry := ⟨spec_l05Cell_sg, fun x => spec_l05Cell x.1 x.2.1⟩
theorem spec_l05Cell_eq (x : spec_l05Cell_sg.dom) : body (env [(143, spec_l01Vec_en), (157, spec_l05Side_en), (162, math_Floor_en)]) [(5, .unroll 4)] Try.f182 spec_l05Cell_sg x = spec_l05Cell x.1 x.2.1 := by kernel_rfl
theorem spec_l05Cell_so : Sound Try.prog 182 spec_l05Cell_en := sound_of_body (envS (l := [(143, spec_l01Vec_en), (157, spec_l05Side_en), (162, math_Floor_en)]) (⟨spec_l01Vec_so, spec_l05Side_so, math_Floor_so, trivial⟩)) Try.func182 (by kernel_rfl) rfl (fun x y h => (spec_l05Cell_eq x).trans h)

-- loop.example/g01204/spec.CellOf
noncomputable def spec_CellOf (a0 : Nat) (a1 : (Vec 3 Nat)) : Option (((Vec 3 Int) × Int × Unit) × Unit) :=
  (spec_l05Cell a0 a1).bind fun y1384 =>
  some ((y1384.1.1, y1384.1.2.1, ()), ())
noncomputable def spec_CellOf_sg : Sig := ⟨[.v (.flt .f32), .v (.arr 3 (.flt .f32))], [.v (.val (.arr 3 (.int .i32))), .v (.val (.int .i64))], false⟩
noncomputable def spec_CellOf_en : Entry := ⟨spec_CellOf_sg, fun x => spec_CellOf x.1 x.2.1⟩
theorem spec_CellOf_eq (x : spec_CellOf_sg.dom) : body (env [(182, spec_l05Cell_en)]) [] Try.f159 spec_CellOf_sg x = spec_CellOf x.1 x.2.1 := by kernel_rfl
theorem spec_CellOf_so : Sound Try.prog 159 spec_CellOf_en := sound_of_body (envS (l := [(182, spec_l05Cell_en)]) (⟨spec_l05Cell_so, trivial⟩)) Try.func159 (by kernel_rfl) rfl (fun x y h => (spec_CellOf_eq x).trans h)

-- loop.example/g01204/spec.l03Least
noncomputable def spec_l03Least (a0 : Nat) : Option ((Bool × Unit) × Unit) :=
  bif (fLe .f32 0 a0) then
    (spec_l01Finite a0).bind fun y1416 =>
    some ((y1416.1.1, ()), ())
  else some ((false, ()), ())
noncomputable def spec_l03Least_sg : Sig := ⟨[.v (.flt .f32)], [.v (.val (.bool))], false⟩
noncomputable def spec_l03Least_en : Entry := ⟨spec_l03Least_sg, fun x => spec_l03Least x.1⟩
theorem spec_l03Least_eq (x : spec_l03Least_sg.dom) : body (env [(134, spec_l01Finite_en)]) [] Try.f158 spec_l03Least_sg x = spec_l03Least x.1 := by kernel_rfl
theorem spec_l03Least_so : Sound Try.prog 158 spec_l03Least_en := sound_of_body (envS (l := [(134, spec_l01Finite_en)]) (⟨spec_l01Finite_so, trivial⟩)) Try.func158 (by kernel_rfl) rfl (fun x y h => (spec_l03Least_eq x).trans h)

-- loop.example/g01204/spec.l04Time
noncomputable def spec_l04Time (a0 : Int) : Option ((Bool × Unit) × Unit) :=
  (spec_l00In a0 (0 : Int) (1000000000 : Int)).bind fun y1417 =>
  some ((y1417.1.1, ()), ())
noncomputable def spec_l04Time_sg : Sig := ⟨[.v (.int .i64)], [.v (.val (.bool))], false⟩
noncomputable def spec_l04Time_en : Entry := ⟨spec_l04Time_sg, fun x => spec_l04Time x.1⟩
theorem spec_l04Time_eq (x : spec_l04Time_sg.dom) : body (env [(127, spec_l00In_en)]) [] Try.f160 spec_l04Time_sg x = spec_l04Time x.1 := by kernel_rfl
theorem spec_l04Time_so : Sound Try.prog 160 spec_l04Time_en := sound_of_body (envS (l := [(127, spec_l00In_en)]) (⟨spec_l00In_so, trivial⟩)) Try.func160 (by kernel_rfl) rfl (fun x y h => (spec_l04Time_eq x).trans h)

-- loop.example/g01204/spec.l09Ok
noncomputable def spec_l09Ok_l9 (s1366 : (Int × Unit)) (a0 : (Nat × (Nat × ((List (List ((Vec 3 Nat) × (Nat × (Int × Unit))))) × Unit)))) (s1370 : (Int × Unit)) : Option ((Int × Unit) ⊕ ((Int × Unit) ⊕ ((Bool × Unit) × Unit))) :=
  bif inB s1366.1 (List.length a0.2.2.1) then
    bif (iLt s1370.1 (lenI (List.getD a0.2.2.1 s1366.1.toNat ([] : (List ((Vec 3 Nat) × (Nat × (Int × Unit)))))))) then
      bif inB s1366.1 (List.length a0.2.2.1) then
        let x1373 := List.getD a0.2.2.1 s1366.1.toNat ([] : (List ((Vec 3 Nat) × (Nat × (Int × Unit)))))
        bif inB s1370.1 (List.length x1373) then
          let x1374 := List.getD x1373 s1370.1.toNat (((0, 0, 0, ()), 0, 0, ()) : ((Vec 3 Nat) × (Nat × (Int × Unit))))
          (spec_CellOf a0.1 x1374.1).bind fun y1375 =>
          bif (! (iEq y1375.1.2.1 0)) then
            Option.map Sum.inr (Option.map Sum.inr (some ((false, ()), ())))
          else
          bif (fLt .f32 0 x1374.2.1) then
            bif (! (fLe .f32 x1374.2.1 1232348160)) then
              Option.map Sum.inr (Option.map Sum.inr (some ((false, ()), ())))
            else
            (spec_l04Time x1374.2.2.1).bind fun y1380 =>
            bif (! y1380.1.1) then
              Option.map Sum.inr (Option.map Sum.inr (some ((false, ()), ())))
            else
            some (Sum.inl ((iAdd .i64 s1370.1 1), ()))
          else
          Option.map Sum.inr (Option.map Sum.inr (some ((false, ()), ())))
        else none
      else none
    else
    Option.map Sum.inr (some (Sum.inl ((iAdd .i64 s1366.1 1), ())))
  else none
noncomputable def spec_l09Ok_l4 (a0 : (Nat × (Nat × ((List (List ((Vec 3 Nat) × (Nat × (Int × Unit))))) × Unit)))) (s1366 : (Int × Unit)) : Option ((Int × Unit) ⊕ ((Bool × Unit) × Unit)) :=
  bif (iLt s1366.1 (lenI a0.2.2.1)) then
    bif inB s1366.1 (List.length a0.2.2.1) then
      bif (iLt 16 (lenI (List.getD a0.2.2.1 s1366.1.toNat ([] : (List ((Vec 3 Nat) × (Nat × (Int × Unit)))))))) then
        Option.map Sum.inr (some ((false, ()), ()))
      else run (spec_l09Ok_l9 s1366 a0) ((0 : Int), ())
    else none
  else
  Option.map Sum.inr (some ((true, ()), ()))
noncomputable def spec_l09Ok (a0 : (Nat × (Nat × ((List (List ((Vec 3 Nat) × (Nat × (Int × Unit))))) × Unit)))) : Option ((Bool × Unit) × Unit) :=
  (spec_l05Side a0.1).bind fun y1360 =>
  bif (! y1360.1.1) then some ((false, ()), ()) else
  (spec_l03Least a0.2.1).bind fun y1362 =>
  bif (! y1362.1.1) then some ((false, ()), ()) else
  (spec_l00In (lenI a0.2.2.1) (1 : Int) (4 : Int)).bind fun y1364 =>
  bif (! y1364.1.1) then some ((false, ()), ()) else run (spec_l09Ok_l4 a0) ((0 : Int), ())
noncomputable def spec_l09Ok_sg : Sig := ⟨[.ro (.pair (.flt .f32) (.pair (.flt .f32) (.pair (.list (.list (.pair (.arr 3 (.flt .f32)) (.pair (.flt .f32) (.pair (.int .i64) (.unit)))))) (.unit))))], [.v (.val (.bool))], false⟩
noncomputable def spec_l09Ok_en : Entry := ⟨spec_l09Ok_sg, fun x => spec_l09Ok x.1⟩
theorem spec_l09Ok_eq (x : spec_l09Ok_sg.dom) : body (env [(127, spec_l00In_en), (157, spec_l05Side_en), (158, spec_l03Least_en), (159, spec_CellOf_en), (160, spec_l04Time_en)]) [(4, .vary [(3, .sc (.int .i64))]), (9, .vary [(4, .sc (.int .i64))])] Try.f116 spec_l09Ok_sg x = spec_l09Ok x.1 := by kernel_rfl
theorem spec_l09Ok_so : Sound Try.prog 116 spec_l09Ok_en := sound_of_body (envS (l := [(127, spec_l00In_en), (157, spec_l05Side_en), (158, spec_l03Least_en), (159, spec_CellOf_en), (160, spec_l04Time_en)]) (⟨spec_l00In_so, spec_l05Side_so, spec_l03Least_so, spec_CellOf_so, spec_l04Time_so, trivial⟩)) Try.func116 (by kernel_rfl) rfl (fun x y h => (spec_l09Ok_eq x).trans h)

-- loop.example/g01204/spec.ValidFleet
noncomputable def spec_ValidFleet (a0 : (Nat × (Nat × ((List (List ((Vec 3 Nat) × (Nat × (Int × Unit))))) × Unit)))) : Option ((Bool × Unit) × Unit) :=
  (spec_l09Ok a0).bind fun y1359 =>
  some ((y1359.1.1, ()), ())
noncomputable def spec_ValidFleet_sg : Sig := ⟨[.v (.pair (.flt .f32) (.pair (.flt .f32) (.pair (.list (.list (.pair (.arr 3 (.flt .f32)) (.pair (.flt .f32) (.pair (.int .i64) (.unit)))))) (.unit))))], [.v (.val (.bool))], false⟩
noncomputable def spec_ValidFleet_en : Entry := ⟨spec_ValidFleet_sg, fun x => spec_ValidFleet x.1⟩
theorem spec_ValidFleet_eq (x : spec_ValidFleet_sg.dom) : body (env [(116, spec_l09Ok_en)]) [] Try.f55 spec_ValidFleet_sg x = spec_ValidFleet x.1 := by kernel_rfl
theorem spec_ValidFleet_so : Sound Try.prog 55 spec_ValidFleet_en := sound_of_body (envS (l := [(116, spec_l09Ok_en)]) (⟨spec_l09Ok_so, trivial⟩)) Try.func55 (by kernel_rfl) rfl (fun x y h => (spec_ValidFleet_eq x).trans h)

-- loop.example/g01204/laws.FnExactValidFleet
noncomputable def laws_FnExactValidFleet (a0 : (Nat × (Nat × ((List (List ((Vec 3 Nat) × (Nat × (Int × Unit))))) × Unit)))) : Option ((Bool × Unit) × Unit) :=
  (laws_szFleet a0 (1048576 : Int)).bind fun y1223 =>
  bif (iLt y1223.1.1 0) then some ((true, ()), ()) else
  (laws_toFleet a0).bind fun y1225 =>
  (spec_ValidFleet ((y1225.1.1.1, y1225.1.1.2.1, y1225.1.1.2.2.1, y1225.1.1.2.2.2) : (Nat × (Nat × ((List (List ((Vec 3 Nat) × (Nat × (Int × Unit))))) × Unit))))).bind fun y1226 =>
  (laws_toFleet a0).bind fun y1227 =>
  (impl_ValidFleet ((y1227.1.1.1, y1227.1.1.2.1, y1227.1.1.2.2.1, y1227.1.1.2.2.2) : (Nat × (Nat × ((List (List ((Vec 3 Nat) × (Nat × (Int × Unit))))) × Unit))))).bind fun y1228 =>
  bif (! (bEq y1228.1.1 y1226.1.1)) then some ((false, ()), ()) else
  (laws_toFleet a0).bind fun y1230 =>
  (laws_eqFleet ((y1227.1.1.1, y1227.1.1.2.1, y1227.1.1.2.2.1, y1227.1.1.2.2.2) : (Nat × (Nat × ((List (List ((Vec 3 Nat) × (Nat × (Int × Unit))))) × Unit)))) ((y1230.1.1.1, y1230.1.1.2.1, y1230.1.1.2.2.1, y1230.1.1.2.2.2) : (Nat × (Nat × ((List (List ((Vec 3 Nat) × (Nat × (Int × Unit))))) × Unit))))).bind fun y1231 =>
  bif (! y1231.1.1) then some ((false, ()), ()) else some ((true, ()), ())
noncomputable def laws_FnExactValidFleet_sg : Sig := ⟨[.v (.pair (.flt .f32) (.pair (.flt .f32) (.pair (.list (.list (.pair (.arr 3 (.flt .f32)) (.pair (.flt .f32) (.pair (.int .i64) (.unit)))))) (.unit))))], [.v (.val (.bool))], false⟩
noncomputable def laws_FnExactValidFleet_en : Entry := ⟨laws_FnExactValidFleet_sg, fun x => laws_FnExactValidFleet x.1⟩
theorem laws_FnExactValidFleet_eq (x : laws_FnExactValidFleet_sg.dom) : body (env [(54, laws_szFleet_en), (55, spec_ValidFleet_en), (56, laws_toFleet_en), (57, impl_ValidFleet_en), (58, laws_eqFleet_en)]) [] Try.f13 laws_FnExactValidFleet_sg x = laws_FnExactValidFleet x.1 := by kernel_rfl
theorem laws_FnExactValidFleet_so : Sound Try.prog 13 laws_FnExactValidFleet_en := sound_of_body (envS (l := [(54, laws_szFleet_en), (55, spec_ValidFleet_en), (56, laws_toFleet_en), (57, impl_ValidFleet_en), (58, laws_eqFleet_en)]) (⟨laws_szFleet_so, spec_ValidFleet_so, laws_toFleet_so, impl_ValidFleet_so, laws_eqFleet_so, trivial⟩)) Try.func13 (by kernel_rfl) rfl (fun x y h => (laws_FnExactValidFleet_eq x).trans h)

-- loop.example/g01204/impl.AddVec
noncomputable def impl_AddVec (a0 : (Vec 3 Nat)) (a1 : (Vec 3 Nat)) : Option (((Vec 3 Nat) × Unit) × Unit) :=
  let x1493 := fAdd .f32 (Vec.getD 3 a0 0 (0 : Nat)) (Vec.getD 3 a1 0 (0 : Nat))
  let x1496 := fAdd .f32 (Vec.getD 3 (Vec.set 3 a0 0 x1493) 1 (0 : Nat)) (Vec.getD 3 a1 1 (0 : Nat))
  some (((Vec.set 3 (Vec.set 3 (Vec.set 3 a0 0 x1493) 1 x1496) 2 (fAdd .f32 (Vec.getD 3 (Vec.set 3 (Vec.set 3 a0 0 x1493) 1 x1496) 2 (0 : Nat)) (Vec.getD 3 a1 2 (0 : Nat)))), ()), ())
noncomputable def impl_AddVec_sg : Sig := ⟨[.v (.arr 3 (.flt .f32)), .v (.arr 3 (.flt .f32))], [.v (.val (.arr 3 (.flt .f32)))], false⟩
noncomputable def impl_AddVec_en : Entry := ⟨impl_AddVec_sg, fun x => impl_AddVec x.1 x.2.1⟩
theorem impl_AddVec_eq (x : impl_AddVec_sg.dom) : body (env []) [(2, .unroll 4)] Try.f123 impl_AddVec_sg x = impl_AddVec x.1 x.2.1 := by kernel_rfl
theorem impl_AddVec_so : Sound Try.prog 123 impl_AddVec_en := sound_of_body (envS (l := []) (trivial)) Try.func123 (by kernel_rfl) rfl (fun x y h => (impl_AddVec_eq x).trans h)

-- loop.example/g01204/impl.ScaleVec
noncomputable def impl_ScaleVec (a0 : (Vec 3 Nat)) (a1 : Nat) : Option (((Vec 3 Nat) × Unit) × Unit) :=
  let x1502 := fMul .f32 (Vec.getD 3 a0 0 (0 : Nat)) a1
  let x1504 := fMul .f32 (Vec.getD 3 (Vec.set 3 a0 0 x1502) 1 (0 : Nat)) a1
  some (((Vec.set 3 (Vec.set 3 (Vec.set 3 a0 0 x1502) 1 x1504) 2 (fMul .f32 (Vec.getD 3 (Vec.set 3 (Vec.set 3 a0 0 x1502) 1 x1504) 2 (0 : Nat)) a1)), ()), ())
noncomputable def impl_ScaleVec_sg : Sig := ⟨[.v (.arr 3 (.flt .f32)), .v (.flt .f32)], [.v (.val (.arr 3 (.flt .f32)))], false⟩
noncomputable def impl_ScaleVec_en : Entry := ⟨impl_ScaleVec_sg, fun x => impl_ScaleVec x.1 x.2.1⟩
theorem impl_ScaleVec_eq (x : impl_ScaleVec_sg.dom) : body (env []) [(2, .unroll 4)] Try.f124 impl_ScaleVec_sg x = impl_ScaleVec x.1 x.2.1 := by kernel_rfl
theorem impl_ScaleVec_so : Sound Try.prog 124 impl_ScaleVec_en := sound_of_body (envS (l := []) (trivial)) Try.func124 (by kernel_rfl) rfl (fun x y h => (impl_ScaleVec_eq x).trans h)

-- loop.example/g01204/impl.TrackOf
noncomputable def impl_TrackOf_l10 (x1473 : (Int × ((Vec 3 Nat) × (Int × (Int × Unit))))) (x1450 : Nat) (s1471 : ((List (Vec 3 Nat)) × Int × (Vec 3 Nat) × Unit)) (s1482 : ((List (Vec 3 Nat)) × Int × (Vec 3 Nat) × Unit)) : Option (((List (Vec 3 Nat)) × Int × (Vec 3 Nat) × Unit) ⊕ (((List (Vec 3 Nat)) × Int × (Vec 3 Nat) × Unit) ⊕ (((List (Vec 3 Nat)) × Int × Unit) × Unit))) :=
  bif (iLt s1482.2.1 x1473.1) then
    (impl_ScaleVec x1473.2.1 x1450).bind fun y1484 =>
    (impl_AddVec s1482.2.2.1 y1484.1.1).bind fun y1485 =>
    (impl_IsFiniteVec y1485.1.1).bind fun y1486 =>
    bif (! y1486.1.1) then
      Option.map Sum.inr (Option.map Sum.inr (some ((([] : (List (Vec 3 Nat))), (4 : Int), ()), ())))
    else
    bif room (List.length s1482.1 + 1) 12 then
      some (Sum.inl ((s1482.1 ++ ([y1485.1.1] : (List (Vec 3 Nat)))), (iAdd .i64 s1482.2.1 1), y1485.1.1, ()))
    else none
  else
  Option.map Sum.inr (some (Sum.inl (s1482.1, (iAdd .i64 s1471.2.1 1), s1482.2.2.1, ())))
noncomputable def impl_TrackOf_l7 (a0 : (Int × ((Vec 3 Nat) × ((List (Vec 3 Nat)) × ((List (Int × ((Vec 3 Nat) × (Int × (Int × Unit))))) × Unit))))) (x1450 : Nat) (s1471 : ((List (Vec 3 Nat)) × Int × (Vec 3 Nat) × Unit)) : Option (((List (Vec 3 Nat)) × Int × (Vec 3 Nat) × Unit) ⊕ (((List (Vec 3 Nat)) × Int × Unit) × Unit)) :=
  bif (iLt s1471.2.1 (lenI a0.2.2.2.1)) then
    bif inB s1471.2.1 (List.length a0.2.2.2.1) then
      let x1473 := List.getD a0.2.2.2.1 s1471.2.1.toNat ((0, (0, 0, 0, ()), 0, 0, ()) : (Int × ((Vec 3 Nat) × (Int × (Int × Unit)))))
      run (impl_TrackOf_l10 x1473 x1450 s1471) (s1471.1, (0 : Int), s1471.2.2.1, ())
    else none
  else
  Option.map Sum.inr (some ((s1471.1, (0 : Int), ()), ()))
noncomputable def impl_TrackOf (a0 : (Int × ((Vec 3 Nat) × ((List (Vec 3 Nat)) × ((List (Int × ((Vec 3 Nat) × (Int × (Int × Unit))))) × Unit))))) : Option (((List (Vec 3 Nat)) × Int × Unit) × Unit) :=
  (impl_ValidMission a0).bind fun y1447 =>
  bif (! y1447.1.1) then some ((([] : (List (Vec 3 Nat))), (1 : Int), ()), ()) else
  let x1450 := fDiv .f32 1065353216 (fOfInt .f32 a0.1)
  run (impl_TrackOf_l7 a0 x1450) (([a0.2.1] : (List (Vec 3 Nat))), (0 : Int), a0.2.1, ())
noncomputable def impl_TrackOf_sg : Sig := ⟨[.v (.pair (.int .i64) (.pair (.arr 3 (.flt .f32)) (.pair (.list (.arr 3 (.flt .f32))) (.pair (.list (.pair (.int .i64) (.pair (.arr 3 (.flt .f32)) (.pair (.int .i64) (.pair (.int .i64) (.unit)))))) (.unit)))))], [.v (.rows (.arr 3 (.flt .f32))), .v (.val (.int .i64))], false⟩
noncomputable def impl_TrackOf_en : Entry := ⟨impl_TrackOf_sg, fun x => impl_TrackOf x.1⟩
theorem impl_TrackOf_eq (x : impl_TrackOf_sg.dom) : body (env [(37, impl_ValidMission_en), (94, impl_IsFiniteVec_en), (123, impl_AddVec_en), (124, impl_ScaleVec_en)]) [(7, .vary [(6, .rows (.arr 3 (.flt .f32))), (23, .sc (.int .i64)), (5, .box (.val (.arr 3 (.flt .f32))))]), (10, .vary [(6, .rows (.arr 3 (.flt .f32))), (29, .sc (.int .i64)), (5, .box (.val (.arr 3 (.flt .f32))))])] Try.f60 impl_TrackOf_sg x = impl_TrackOf x.1 := by kernel_rfl
theorem impl_TrackOf_so : Sound Try.prog 60 impl_TrackOf_en := sound_of_body (envS (l := [(37, impl_ValidMission_en), (94, impl_IsFiniteVec_en), (123, impl_AddVec_en), (124, impl_ScaleVec_en)]) (⟨impl_ValidMission_so, impl_IsFiniteVec_so, impl_AddVec_so, impl_ScaleVec_so, trivial⟩)) Try.func60 (by kernel_rfl) rfl (fun x y h => (impl_TrackOf_eq x).trans h)

-- loop.example/g01204/laws.heldVecS
noncomputable def laws_heldVecS_l2 (a0 : (List (Vec 3 Nat))) (s1508 : (Int × Int × Unit)) : Option ((Int × Int × Unit) ⊕ ((Int × Unit) × Unit)) :=
  bif (iLt s1508.2.1 (lenI a0)) then
    bif inB s1508.2.1 (List.length a0) then
      bif (! (fEq .f32 (Vec.getD 3 (List.getD a0 s1508.2.1.toNat ((0, 0, 0, ()) : (Vec 3 Nat))) 0 (0 : Nat)) (fOfInt .f32 s1508.1))) then
        Option.map Sum.inr (some ((((-1 : Int) : Int), ()), ()))
      else
      let x1513 := iAdd .i64 s1508.1 1
      bif inB s1508.2.1 (List.length a0) then
        bif (! (fEq .f32 (Vec.getD 3 (List.getD a0 s1508.2.1.toNat ((0, 0, 0, ()) : (Vec 3 Nat))) 1 (0 : Nat)) (fOfInt .f32 x1513))) then
          Option.map Sum.inr (some ((((-1 : Int) : Int), ()), ()))
        else
        let x1517 := iAdd .i64 x1513 1
        bif inB s1508.2.1 (List.length a0) then
          bif (! (fEq .f32 (Vec.getD 3 (List.getD a0 s1508.2.1.toNat ((0, 0, 0, ()) : (Vec 3 Nat))) 2 (0 : Nat)) (fOfInt .f32 x1517))) then
            Option.map Sum.inr (some ((((-1 : Int) : Int), ()), ()))
          else
          some (Sum.inl ((iAdd .i64 x1517 1), (iAdd .i64 s1508.2.1 1), ()))
        else none
      else none
    else none
  else
  Option.map Sum.inr (some ((s1508.1, ()), ()))
noncomputable def laws_heldVecS (a0 : (List (Vec 3 Nat))) (a1 : Int) : Option ((Int × Unit) × Unit) :=
  run (laws_heldVecS_l2 a0) (a1, (0 : Int), ())
noncomputable def laws_heldVecS_sg : Sig := ⟨[.v (.list (.arr 3 (.flt .f32))), .v (.int .i64)], [.v (.val (.int .i64))], false⟩
noncomputable def laws_heldVecS_en : Entry := ⟨laws_heldVecS_sg, fun x => laws_heldVecS x.1 x.2.1⟩
theorem laws_heldVecS_eq (x : laws_heldVecS_sg.dom) : body (env []) [(2, .vary [(1, .sc (.int .i64)), (5, .sc (.int .i64))]), (5, .unroll 4)] Try.f64 laws_heldVecS_sg x = laws_heldVecS x.1 x.2.1 := by kernel_rfl
theorem laws_heldVecS_so : Sound Try.prog 64 laws_heldVecS_en := sound_of_body (envS (l := []) (trivial)) Try.func64 (by kernel_rfl) rfl (fun x y h => (laws_heldVecS_eq x).trans h)

-- loop.example/g01204/laws.markLegS
noncomputable def laws_markLegS_l2 (s1543 : (Int × Int × (List (Int × ((Vec 3 Nat) × (Int × (Int × Unit))))) × Unit)) : Option ((Int × Int × (List (Int × ((Vec 3 Nat) × (Int × (Int × Unit))))) × Unit) ⊕ ((Int × Unit) × ((List (Int × ((Vec 3 Nat) × (Int × (Int × Unit))))) × Unit))) :=
  bif (iLt s1543.2.1 (lenI s1543.2.2.1)) then
    bif inB s1543.2.1 (List.length s1543.2.2.1) then
      let w1545 := List.set s1543.2.2.1 s1543.2.1.toNat ((s1543.1, (List.getD s1543.2.2.1 s1543.2.1.toNat ((0, (0, 0, 0, ()), 0, 0, ()) : (Int × ((Vec 3 Nat) × (Int × (Int × Unit)))))).2) : (Int × ((Vec 3 Nat) × (Int × (Int × Unit)))))
      let x1546 := iAdd .i64 s1543.1 1
      bif inB s1543.2.1 (List.length w1545) then
        let w1548 := List.set w1545 s1543.2.1.toNat (((List.getD w1545 s1543.2.1.toNat ((0, (0, 0, 0, ()), 0, 0, ()) : (Int × ((Vec 3 Nat) × (Int × (Int × Unit)))))).1, Vec.set 3 (((List.getD w1545 s1543.2.1.toNat ((0, (0, 0, 0, ()), 0, 0, ()) : (Int × ((Vec 3 Nat) × (Int × (Int × Unit)))))).2).1) 0 (fOfInt .f32 x1546), ((List.getD w1545 s1543.2.1.toNat ((0, (0, 0, 0, ()), 0, 0, ()) : (Int × ((Vec 3 Nat) × (Int × (Int × Unit)))))).2).2) : (Int × ((Vec 3 Nat) × (Int × (Int × Unit)))))
        let x1549 := iAdd .i64 x1546 1
        bif inB s1543.2.1 (List.length w1548) then
          let w1551 := List.set w1548 s1543.2.1.toNat (((List.getD w1548 s1543.2.1.toNat ((0, (0, 0, 0, ()), 0, 0, ()) : (Int × ((Vec 3 Nat) × (Int × (Int × Unit)))))).1, Vec.set 3 (((List.getD w1548 s1543.2.1.toNat ((0, (0, 0, 0, ()), 0, 0, ()) : (Int × ((Vec 3 Nat) × (Int × (Int × Unit)))))).2).1) 1 (fOfInt .f32 x1549), ((List.getD w1548 s1543.2.1.toNat ((0, (0, 0, 0, ()), 0, 0, ()) : (Int × ((Vec 3 Nat) × (Int × (Int × Unit)))))).2).2) : (Int × ((Vec 3 Nat) × (Int × (Int × Unit)))))
          let x1552 := iAdd .i64 x1549 1
          bif inB s1543.2.1 (List.length w1551) then
            let w1554 := List.set w1551 s1543.2.1.toNat (((List.getD w1551 s1543.2.1.toNat ((0, (0, 0, 0, ()), 0, 0, ()) : (Int × ((Vec 3 Nat) × (Int × (Int × Unit)))))).1, Vec.set 3 (((List.getD w1551 s1543.2.1.toNat ((0, (0, 0, 0, ()), 0, 0, ()) : (Int × ((Vec 3 Nat) × (Int × (Int × Unit)))))).2).1) 2 (fOfInt .f32 x1552), ((List.getD w1551 s1543.2.1.toNat ((0, (0, 0, 0, ()), 0, 0, ()) : (Int × ((Vec 3 Nat) × (Int × (Int × Unit)))))).2).2) : (Int × ((Vec 3 Nat) × (Int × (Int × Unit)))))
            let x1555 := iAdd .i64 x1552 1
            bif inB s1543.2.1 (List.length w1554) then
              let w1556 := List.set w1554 s1543.2.1.toNat (((List.getD w1554 s1543.2.1.toNat ((0, (0, 0, 0, ()), 0, 0, ()) : (Int × ((Vec 3 Nat) × (Int × (Int × Unit)))))).1, ((List.getD w1554 s1543.2.1.toNat ((0, (0, 0, 0, ()), 0, 0, ()) : (Int × ((Vec 3 Nat) × (Int × (Int × Unit)))))).2).1, x1555, (((List.getD w1554 s1543.2.1.toNat ((0, (0, 0, 0, ()), 0, 0, ()) : (Int × ((Vec 3 Nat) × (Int × (Int × Unit)))))).2).2).2) : (Int × ((Vec 3 Nat) × (Int × (Int × Unit)))))
              let x1557 := iAdd .i64 x1555 1
              bif inB s1543.2.1 (List.length w1556) then
                some (Sum.inl ((iAdd .i64 x1557 1), (iAdd .i64 s1543.2.1 1), (List.set w1556 s1543.2.1.toNat (((List.getD w1556 s1543.2.1.toNat ((0, (0, 0, 0, ()), 0, 0, ()) : (Int × ((Vec 3 Nat) × (Int × (Int × Unit)))))).1, ((List.getD w1556 s1543.2.1.toNat ((0, (0, 0, 0, ()), 0, 0, ()) : (Int × ((Vec 3 Nat) × (Int × (Int × Unit)))))).2).1, (((List.getD w1556 s1543.2.1.toNat ((0, (0, 0, 0, ()), 0, 0, ()) : (Int × ((Vec 3 Nat) × (Int × (Int × Unit)))))).2).2).1, x1557, ((((List.getD w1556 s1543.2.1.toNat ((0, (0, 0, 0, ()), 0, 0, ()) : (Int × ((Vec 3 Nat) × (Int × (Int × Unit)))))).2).2).2).2) : (Int × ((Vec 3 Nat) × (Int × (Int × Unit)))))), ()))
              else none
            else none
          else none
        else none
      else none
    else none
  else
  Option.map Sum.inr (some ((s1543.1, ()), (s1543.2.2.1, ())))
noncomputable def laws_markLegS (a0 : (List (Int × ((Vec 3 Nat) × (Int × (Int × Unit)))))) (a1 : Int) : Option ((Int × Unit) × ((List (Int × ((Vec 3 Nat) × (Int × (Int × Unit))))) × Unit)) :=
  run (laws_markLegS_l2) (a1, (0 : Int), a0, ())
noncomputable def laws_markLegS_sg : Sig := ⟨[.mv (.rows (.pair (.int .i64) (.pair (.arr 3 (.flt .f32)) (.pair (.int .i64) (.pair (.int .i64) (.unit)))))), .v (.int .i64)], [.v (.val (.int .i64))], false⟩
noncomputable def laws_markLegS_en : Entry := ⟨laws_markLegS_sg, fun x => laws_markLegS x.1 x.2.1⟩
theorem laws_markLegS_eq (x : laws_markLegS_sg.dom) : body (env []) [(2, .vary [(1, .sc (.int .i64)), (5, .sc (.int .i64)), (0, .mrows (.pair (.int .i64) (.pair (.arr 3 (.flt .f32)) (.pair (.int .i64) (.pair (.int .i64) (.unit))))))]), (7, .unroll 4)] Try.f125 laws_markLegS_sg x = laws_markLegS x.1 x.2.1 := by kernel_rfl
theorem laws_markLegS_so : Sound Try.prog 125 laws_markLegS_en := sound_of_body (envS (l := []) (trivial)) Try.func125 (by kernel_rfl) rfl (fun x y h => (laws_markLegS_eq x).trans h)

-- loop.example/g01204/laws.markVecS
noncomputable def laws_markVecS_l2 (s1573 : (Int × Int × (List (Vec 3 Nat)) × Unit)) : Option ((Int × Int × (List (Vec 3 Nat)) × Unit) ⊕ ((Int × Unit) × ((List (Vec 3 Nat)) × Unit))) :=
  bif (iLt s1573.2.1 (lenI s1573.2.2.1)) then
    bif inB s1573.2.1 (List.length s1573.2.2.1) then
      let w1576 := List.set s1573.2.2.1 s1573.2.1.toNat (Vec.set 3 (List.getD s1573.2.2.1 s1573.2.1.toNat ((0, 0, 0, ()) : (Vec 3 Nat))) 0 (fOfInt .f32 s1573.1))
      let x1577 := iAdd .i64 s1573.1 1
      bif inB s1573.2.1 (List.length w1576) then
        let w1579 := List.set w1576 s1573.2.1.toNat (Vec.set 3 (List.getD w1576 s1573.2.1.toNat ((0, 0, 0, ()) : (Vec 3 Nat))) 1 (fOfInt .f32 x1577))
        let x1580 := iAdd .i64 x1577 1
        bif inB s1573.2.1 (List.length w1579) then
          some (Sum.inl ((iAdd .i64 x1580 1), (iAdd .i64 s1573.2.1 1), (List.set w1579 s1573.2.1.toNat (Vec.set 3 (List.getD w1579 s1573.2.1.toNat ((0, 0, 0, ()) : (Vec 3 Nat))) 2 (fOfInt .f32 x1580))), ()))
        else none
      else none
    else none
  else
  Option.map Sum.inr (some ((s1573.1, ()), (s1573.2.2.1, ())))
noncomputable def laws_markVecS (a0 : (List (Vec 3 Nat))) (a1 : Int) : Option ((Int × Unit) × ((List (Vec 3 Nat)) × Unit)) :=
  run (laws_markVecS_l2) (a1, (0 : Int), a0, ())
noncomputable def laws_markVecS_sg : Sig := ⟨[.mv (.rows (.arr 3 (.flt .f32))), .v (.int .i64)], [.v (.val (.int .i64))], false⟩
noncomputable def laws_markVecS_en : Entry := ⟨laws_markVecS_sg, fun x => laws_markVecS x.1 x.2.1⟩
theorem laws_markVecS_eq (x : laws_markVecS_sg.dom) : body (env []) [(2, .vary [(1, .sc (.int .i64)), (5, .sc (.int .i64)), (0, .mrows (.arr 3 (.flt .f32)))]), (5, .unroll 4)] Try.f63 laws_markVecS_sg x = laws_markVecS x.1 x.2.1 := by kernel_rfl
theorem laws_markVecS_so : Sound Try.prog 63 laws_markVecS_en := sound_of_body (envS (l := []) (trivial)) Try.func63 (by kernel_rfl) rfl (fun x y h => (laws_markVecS_eq x).trans h)

-- loop.example/g01204/laws.markMission
noncomputable def laws_markMission (a0 : (Int × ((Vec 3 Nat) × ((List (Vec 3 Nat)) × ((List (Int × ((Vec 3 Nat) × (Int × (Int × Unit))))) × Unit))))) (a1 : Int) : Option ((Int × Unit) × ((Int × ((Vec 3 Nat) × ((List (Vec 3 Nat)) × ((List (Int × ((Vec 3 Nat) × (Int × (Int × Unit))))) × Unit)))) × Unit)) :=
  (laws_markVecS a0.2.2.1 a1).bind fun y1523 =>
  (laws_markLegS a0.2.2.2.1 y1523.1.1).bind fun y1524 =>
  some ((y1524.1.1, ()), (((a0.1, a0.2.1, y1523.2.1, y1524.2.1, a0.2.2.2.2) : (Int × ((Vec 3 Nat) × ((List (Vec 3 Nat)) × ((List (Int × ((Vec 3 Nat) × (Int × (Int × Unit))))) × Unit))))), ()))
noncomputable def laws_markMission_sg : Sig := ⟨[.mv (.pair (.val (.int .i64)) (.pair (.val (.arr 3 (.flt .f32))) (.pair (.rows (.arr 3 (.flt .f32))) (.pair (.rows (.pair (.int .i64) (.pair (.arr 3 (.flt .f32)) (.pair (.int .i64) (.pair (.int .i64) (.unit)))))) (.val (.unit)))))), .v (.int .i64)], [.v (.val (.int .i64))], false⟩
noncomputable def laws_markMission_en : Entry := ⟨laws_markMission_sg, fun x => laws_markMission x.1 x.2.1⟩
theorem laws_markMission_eq (x : laws_markMission_sg.dom) : body (env [(63, laws_markVecS_en), (125, laws_markLegS_en)]) [] Try.f62 laws_markMission_sg x = laws_markMission x.1 x.2.1 := by kernel_rfl
theorem laws_markMission_so : Sound Try.prog 62 laws_markMission_en := sound_of_body (envS (l := [(63, laws_markVecS_en), (125, laws_markLegS_en)]) (⟨laws_markVecS_so, laws_markLegS_so, trivial⟩)) Try.func62 (by kernel_rfl) rfl (fun x y h => (laws_markMission_eq x).trans h)

-- loop.example/g01204/spec.AddVec
noncomputable def spec_AddVec (a0 : (Vec 3 Nat)) (a1 : (Vec 3 Nat)) : Option (((Vec 3 Nat) × Unit) × Unit) :=
  some (((((fAdd .f32 (Vec.getD 3 a0 0 (0 : Nat)) (Vec.getD 3 a1 0 (0 : Nat))), (fAdd .f32 (Vec.getD 3 a0 1 (0 : Nat)) (Vec.getD 3 a1 1 (0 : Nat))), (fAdd .f32 (Vec.getD 3 a0 2 (0 : Nat)) (Vec.getD 3 a1 2 (0 : Nat))), ()) : (Vec 3 Nat)), ()), ())
noncomputable def spec_AddVec_sg : Sig := ⟨[.v (.arr 3 (.flt .f32)), .v (.arr 3 (.flt .f32))], [.v (.val (.arr 3 (.flt .f32)))], false⟩
noncomputable def spec_AddVec_en : Entry := ⟨spec_AddVec_sg, fun x => spec_AddVec x.1 x.2.1⟩
theorem spec_AddVec_eq (x : spec_AddVec_sg.dom) : body (env []) [] Try.f166 spec_AddVec_sg x = spec_AddVec x.1 x.2.1 := by kernel_rfl
theorem spec_AddVec_so : Sound Try.prog 166 spec_AddVec_en := sound_of_body (envS (l := []) (trivial)) Try.func166 (by kernel_rfl) rfl (fun x y h => (spec_AddVec_eq x).trans h)

-- loop.example/g01204/spec.ScaleVec
noncomputable def spec_ScaleVec (a0 : (Vec 3 Nat)) (a1 : Nat) : Option (((Vec 3 Nat) × Unit) × Unit) :=
  some (((((fMul .f32 (Vec.getD 3 a0 0 (0 : Nat)) a1), (fMul .f32 (Vec.getD 3 a0 1 (0 : Nat)) a1), (fMul .f32 (Vec.getD 3 a0 2 (0 : Nat)) a1), ()) : (Vec 3 Nat)), ()), ())
noncomputable def spec_ScaleVec_sg : Sig := ⟨[.v (.arr 3 (.flt .f32)), .v (.flt .f32)], [.v (.val (.arr 3 (.flt .f32)))], false⟩
noncomputable def spec_ScaleVec_en : Entry := ⟨spec_ScaleVec_sg, fun x => spec_ScaleVec x.1 x.2.1⟩
theorem spec_ScaleVec_eq (x : spec_ScaleVec_sg.dom) : body (env []) [] Try.f165 spec_ScaleVec_sg x = spec_ScaleVec x.1 x.2.1 := by kernel_rfl
theorem spec_ScaleVec_so : Sound Try.prog 165 spec_ScaleVec_en := sound_of_body (envS (l := []) (trivial)) Try.func165 (by kernel_rfl) rfl (fun x y h => (spec_ScaleVec_eq x).trans h)

-- loop.example/g01204/spec.l08Track
noncomputable def spec_l08Track_l8 (s1611 : ((List (Vec 3 Nat)) × Int × (Vec 3 Nat) × Unit)) (a0 : (Int × ((Vec 3 Nat) × ((List (Vec 3 Nat)) × ((List (Int × ((Vec 3 Nat) × (Int × (Int × Unit))))) × Unit))))) (y1616 : (((Vec 3 Nat) × Unit) × Unit)) (s1625 : ((List (Vec 3 Nat)) × Int × (Vec 3 Nat) × Unit)) : Option (((List (Vec 3 Nat)) × Int × (Vec 3 Nat) × Unit) ⊕ (((List (Vec 3 Nat)) × Int × (Vec 3 Nat) × Unit) ⊕ (((List (Vec 3 Nat)) × Int × Unit) × Unit))) :=
  bif inB s1611.2.1 (List.length a0.2.2.2.1) then
    bif (iLt s1625.2.1 ((List.getD a0.2.2.2.1 s1611.2.1.toNat ((0, (0, 0, 0, ()), 0, 0, ()) : (Int × ((Vec 3 Nat) × (Int × (Int × Unit)))))).1)) then
      (spec_AddVec s1625.2.2.1 y1616.1.1).bind fun y1628 =>
      (spec_l01Vec y1628.1.1).bind fun y1629 =>
      bif (! y1629.1.1) then
        Option.map Sum.inr (Option.map Sum.inr (some ((([] : (List (Vec 3 Nat))), (4 : Int), ()), ())))
      else
      bif room (List.length s1625.1 + 1) 12 then
        some (Sum.inl ((s1625.1 ++ ([y1628.1.1] : (List (Vec 3 Nat)))), (iAdd .i64 s1625.2.1 1), y1628.1.1, ()))
      else none
    else
    Option.map Sum.inr (some (Sum.inl (s1625.1, (iAdd .i64 s1611.2.1 1), s1625.2.2.1, ())))
  else none
noncomputable def spec_l08Track_l4 (a0 : (Int × ((Vec 3 Nat) × ((List (Vec 3 Nat)) × ((List (Int × ((Vec 3 Nat) × (Int × (Int × Unit))))) × Unit))))) (s1611 : ((List (Vec 3 Nat)) × Int × (Vec 3 Nat) × Unit)) : Option (((List (Vec 3 Nat)) × Int × (Vec 3 Nat) × Unit) ⊕ (((List (Vec 3 Nat)) × Int × Unit) × Unit)) :=
  bif (iLt s1611.2.1 (lenI a0.2.2.2.1)) then
    bif inB s1611.2.1 (List.length a0.2.2.2.1) then
      (spec_ScaleVec (((List.getD a0.2.2.2.1 s1611.2.1.toNat ((0, (0, 0, 0, ()), 0, 0, ()) : (Int × ((Vec 3 Nat) × (Int × (Int × Unit)))))).2).1) (fDiv .f32 1065353216 (fOfInt .f32 a0.1))).bind fun y1616 =>
      run (spec_l08Track_l8 s1611 a0 y1616) (s1611.1, (0 : Int), s1611.2.2.1, ())
    else none
  else
  Option.map Sum.inr (some ((s1611.1, (0 : Int), ()), ()))
noncomputable def spec_l08Track (a0 : (Int × ((Vec 3 Nat) × ((List (Vec 3 Nat)) × ((List (Int × ((Vec 3 Nat) × (Int × (Int × Unit))))) × Unit))))) : Option (((List (Vec 3 Nat)) × Int × Unit) × Unit) :=
  run (spec_l08Track_l4 a0) (([a0.2.1] : (List (Vec 3 Nat))), (0 : Int), a0.2.1, ())
noncomputable def spec_l08Track_sg : Sig := ⟨[.ro (.pair (.int .i64) (.pair (.arr 3 (.flt .f32)) (.pair (.list (.arr 3 (.flt .f32))) (.pair (.list (.pair (.int .i64) (.pair (.arr 3 (.flt .f32)) (.pair (.int .i64) (.pair (.int .i64) (.unit)))))) (.unit)))))], [.v (.rows (.arr 3 (.flt .f32))), .v (.val (.int .i64))], false⟩
noncomputable def spec_l08Track_en : Entry := ⟨spec_l08Track_sg, fun x => spec_l08Track x.1⟩
theorem spec_l08Track_eq (x : spec_l08Track_sg.dom) : body (env [(143, spec_l01Vec_en), (165, spec_ScaleVec_en), (166, spec_AddVec_en)]) [(4, .vary [(5, .rows (.arr 3 (.flt .f32))), (6, .sc (.int .i64)), (4, .box (.val (.arr 3 (.flt .f32))))]), (8, .vary [(5, .rows (.arr 3 (.flt .f32))), (8, .sc (.int .i64)), (4, .box (.val (.arr 3 (.flt .f32))))])] Try.f122 spec_l08Track_sg x = spec_l08Track x.1 := by kernel_rfl
theorem spec_l08Track_so : Sound Try.prog 122 spec_l08Track_en := sound_of_body (envS (l := [(143, spec_l01Vec_en), (165, spec_ScaleVec_en), (166, spec_AddVec_en)]) (⟨spec_l01Vec_so, spec_ScaleVec_so, spec_AddVec_so, trivial⟩)) Try.func122 (by kernel_rfl) rfl (fun x y h => (spec_l08Track_eq x).trans h)

-- loop.example/g01204/spec.TrackOf
noncomputable def spec_TrackOf (a0 : (Int × ((Vec 3 Nat) × ((List (Vec 3 Nat)) × ((List (Int × ((Vec 3 Nat) × (Int × (Int × Unit))))) × Unit))))) : Option (((List (Vec 3 Nat)) × Int × Unit) × Unit) :=
  (spec_l08Ok a0).bind fun y1585 =>
  bif (! y1585.1.1) then some ((([] : (List (Vec 3 Nat))), (1 : Int), ()), ()) else
  (spec_l08Track a0).bind fun y1587 =>
  some ((y1587.1.1, y1587.1.2.1, ()), ())
noncomputable def spec_TrackOf_sg : Sig := ⟨[.v (.pair (.int .i64) (.pair (.arr 3 (.flt .f32)) (.pair (.list (.arr 3 (.flt .f32))) (.pair (.list (.pair (.int .i64) (.pair (.arr 3 (.flt .f32)) (.pair (.int .i64) (.pair (.int .i64) (.unit)))))) (.unit)))))], [.v (.rows (.arr 3 (.flt .f32))), .v (.val (.int .i64))], false⟩
noncomputable def spec_TrackOf_en : Entry := ⟨spec_TrackOf_sg, fun x => spec_TrackOf x.1⟩
theorem spec_TrackOf_eq (x : spec_TrackOf_sg.dom) : body (env [(91, spec_l08Ok_en), (122, spec_l08Track_en)]) [] Try.f59 spec_TrackOf_sg x = spec_TrackOf x.1 := by kernel_rfl
theorem spec_TrackOf_so : Sound Try.prog 59 spec_TrackOf_en := sound_of_body (envS (l := [(91, spec_l08Ok_en), (122, spec_l08Track_en)]) (⟨spec_l08Ok_so, spec_l08Track_so, trivial⟩)) Try.func59 (by kernel_rfl) rfl (fun x y h => (spec_TrackOf_eq x).trans h)

-- loop.example/g01204/laws.FnExactTrackOf
noncomputable def laws_FnExactTrackOf (a0 : (Int × ((Vec 3 Nat) × ((List (Vec 3 Nat)) × ((List (Int × ((Vec 3 Nat) × (Int × (Int × Unit))))) × Unit))))) : Option ((Bool × Unit) × Unit) :=
  (laws_szMission a0 (1048576 : Int)).bind fun y1418 =>
  bif (iLt y1418.1.1 0) then some ((true, ()), ()) else
  (laws_toMission a0).bind fun y1420 =>
  (spec_TrackOf ((y1420.1.1.1, y1420.1.1.2.1, y1420.1.1.2.2.1, y1420.1.1.2.2.2.1, y1420.1.1.2.2.2.2) : (Int × ((Vec 3 Nat) × ((List (Vec 3 Nat)) × ((List (Int × ((Vec 3 Nat) × (Int × (Int × Unit))))) × Unit)))))).bind fun y1421 =>
  (laws_toMission a0).bind fun y1422 =>
  (impl_TrackOf ((y1422.1.1.1, y1422.1.1.2.1, y1422.1.1.2.2.1, y1422.1.1.2.2.2.1, y1422.1.1.2.2.2.2) : (Int × ((Vec 3 Nat) × ((List (Vec 3 Nat)) × ((List (Int × ((Vec 3 Nat) × (Int × (Int × Unit))))) × Unit)))))).bind fun y1423 =>
  (laws_eqVecS y1423.1.1 y1421.1.1).bind fun y1424 =>
  bif (! y1424.1.1) then some ((false, ()), ()) else
  bif (! (iEq y1423.1.2.1 y1421.1.2.1)) then some ((false, ()), ()) else
  (laws_toMission a0).bind fun y1427 =>
  (laws_eqMission ((y1422.1.1.1, y1422.1.1.2.1, y1422.1.1.2.2.1, y1422.1.1.2.2.2.1, y1422.1.1.2.2.2.2) : (Int × ((Vec 3 Nat) × ((List (Vec 3 Nat)) × ((List (Int × ((Vec 3 Nat) × (Int × (Int × Unit))))) × Unit))))) ((y1427.1.1.1, y1427.1.1.2.1, y1427.1.1.2.2.1, y1427.1.1.2.2.2.1, y1427.1.1.2.2.2.2) : (Int × ((Vec 3 Nat) × ((List (Vec 3 Nat)) × ((List (Int × ((Vec 3 Nat) × (Int × (Int × Unit))))) × Unit)))))).bind fun y1428 =>
  bif (! y1428.1.1) then some ((false, ()), ()) else
  (laws_markMission ((y1422.1.1.1, y1422.1.1.2.1, y1422.1.1.2.2.1, y1422.1.1.2.2.2.1, y1422.1.1.2.2.2.2) : (Int × ((Vec 3 Nat) × ((List (Vec 3 Nat)) × ((List (Int × ((Vec 3 Nat) × (Int × (Int × Unit))))) × Unit))))) (1 : Int)).bind fun y1430 =>
  bif (iLt y1430.1.1 0) then some ((false, ()), ()) else
  (laws_eqVecS y1423.1.1 y1421.1.1).bind fun y1432 =>
  bif (! y1432.1.1) then some ((false, ()), ()) else
  bif (! (iEq y1423.1.2.1 y1421.1.2.1)) then some ((false, ()), ()) else
  (laws_markVecS y1423.1.1 (1 : Int)).bind fun y1435 =>
  (laws_heldVecS y1435.2.1 (1 : Int)).bind fun y1436 =>
  bif (iLt y1436.1.1 0) then some ((false, ()), ()) else
  bif (! (iEq y1436.1.1 y1435.1.1)) then some ((false, ()), ()) else
  (laws_toMission a0).bind fun y1439 =>
  (impl_TrackOf ((y1439.1.1.1, y1439.1.1.2.1, y1439.1.1.2.2.1, y1439.1.1.2.2.2.1, y1439.1.1.2.2.2.2) : (Int × ((Vec 3 Nat) × ((List (Vec 3 Nat)) × ((List (Int × ((Vec 3 Nat) × (Int × (Int × Unit))))) × Unit)))))).bind fun y1440 =>
  (laws_eqVecS y1440.1.1 y1421.1.1).bind fun y1441 =>
  bif (! y1441.1.1) then some ((false, ()), ()) else
  bif (! (iEq y1440.1.2.1 y1421.1.2.1)) then some ((false, ()), ()) else
  (laws_heldVecS y1435.2.1 (1 : Int)).bind fun y1444 =>
  bif (iLt y1444.1.1 0) then some ((false, ()), ()) else
  bif (! (iEq y1444.1.1 y1435.1.1)) then some ((false, ()), ()) else some ((true, ()), ())
noncomputable def laws_FnExactTrackOf_sg : Sig := ⟨[.v (.pair (.int .i64) (.pair (.arr 3 (.flt .f32)) (.pair (.list (.arr 3 (.flt .f32))) (.pair (.list (.pair (.int .i64) (.pair (.arr 3 (.flt .f32)) (.pair (.int .i64) (.pair (.int .i64) (.unit)))))) (.unit)))))], [.v (.val (.bool))], false⟩
noncomputable def laws_FnExactTrackOf_en : Entry := ⟨laws_FnExactTrackOf_sg, fun x => laws_FnExactTrackOf x.1⟩
theorem laws_FnExactTrackOf_eq (x : laws_FnExactTrackOf_sg.dom) : body (env [(29, laws_szMission_en), (31, laws_toMission_en), (33, laws_eqMission_en), (59, spec_TrackOf_en), (60, impl_TrackOf_en), (61, laws_eqVecS_en), (62, laws_markMission_en), (63, laws_markVecS_en), (64, laws_heldVecS_en)]) [] Try.f14 laws_FnExactTrackOf_sg x = laws_FnExactTrackOf x.1 := by kernel_rfl
theorem laws_FnExactTrackOf_so : Sound Try.prog 14 laws_FnExactTrackOf_en := sound_of_body (envS (l := [(29, laws_szMission_en), (31, laws_toMission_en), (33, laws_eqMission_en), (59, spec_TrackOf_en), (60, impl_TrackOf_en), (61, laws_eqVecS_en), (62, laws_markMission_en), (63, laws_markVecS_en), (64, laws_heldVecS_en)]) (⟨laws_szMission_so, laws_toMission_so, laws_eqMission_so, spec_TrackOf_so, impl_TrackOf_so, laws_eqVecS_so, laws_markMission_so, laws_markVecS_so, laws_heldVecS_so, trivial⟩)) Try.func14 (by kernel_rfl) rfl (fun x y h => (laws_FnExactTrackOf_eq x).trans h)

end Go.Proofs.Ytpblnidbjglgmaa
