import Derived.Test.YtjahnpagogpffaaF1
/- Functions on typed data: what the evaluation of each Go function is, and that it is sound. -/
namespace Go.Proofs.Ytjahnpagogpffaa
open Go Go.Tm
set_option linter.unusedVariables false
set_option maxRecDepth 100000
-- loop.example/g01204/spec.RunMission
noncomputable def spec_RunMission (a0 : (Int × ((Vec 3 Nat) × ((List (Vec 3 Nat)) × ((List (Int × ((Vec 3 Nat) × (Int × (Int × Unit))))) × Unit))))) (a1 : Int) : Option (((Int × ((Vec 3 Nat) × ((List (Vec 3 Nat)) × ((List (Int × ((Vec 3 Nat) × ((Vec 3 Int) × (Int × (Nat × Unit)))))) × Unit)))) × Int × Unit) × Unit) :=
  (spec_l08Ok a0).bind fun y623 =>
  bif (! y623.1.1) then some ((((0, (0, 0, 0, ()), [], [], ()) : (Int × ((Vec 3 Nat) × ((List (Vec 3 Nat)) × ((List (Int × ((Vec 3 Nat) × ((Vec 3 Int) × (Int × (Nat × Unit)))))) × Unit))))), (1 : Int), ()), ()) else
  (spec_l08Run a0 a1).bind fun y625 =>
  some ((((y625.1.1.1, y625.1.1.2.1, y625.1.1.2.2.1, y625.1.1.2.2.2.1, y625.1.1.2.2.2.2) : (Int × ((Vec 3 Nat) × ((List (Vec 3 Nat)) × ((List (Int × ((Vec 3 Nat) × ((Vec 3 Int) × (Int × (Nat × Unit)))))) × Unit))))), y625.1.2.1, ()), ())
noncomputable def spec_RunMission_sg : Sig := ⟨[.v (.pair (.int .i64) (.pair (.arr 3 (.flt .f32)) (.pair (.list (.arr 3 (.flt .f32))) (.pair (.list (.pair (.int .i64) (.pair (.arr 3 (.flt .f32)) (.pair (.int .i64) (.pair (.int .i64) (.unit)))))) (.unit))))), .v (.int .u32)], [.v (.pair (.val (.int .i64)) (.pair (.val (.arr 3 (.flt .f32))) (.pair (.rows (.arr 3 (.flt .f32))) (.pair (.rows (.pair (.int .i64) (.pair (.arr 3 (.flt .f32)) (.pair (.arr 3 (.int .i16)) (.pair (.int .i64) (.pair (.flt .f32) (.unit))))))) (.val (.unit)))))), .v (.val (.int .i64))], false⟩
noncomputable def spec_RunMission_en : Entry := ⟨spec_RunMission_sg, fun x => spec_RunMission x.1 x.2.1⟩
theorem spec_RunMission_eq (x : spec_RunMission_sg.dom) : body (env [(15, spec_l08Ok_en), (16, spec_l08Run_en)]) [] Try.f5 spec_RunMission_sg x = spec_RunMission x.1 x.2.1 := by kernel_rfl
theorem spec_RunMission_so : Sound Try.prog 5 spec_RunMission_en := sound_of_body (envS (l := [(15, spec_l08Ok_en), (16, spec_l08Run_en)]) (⟨spec_l08Ok_so, spec_l08Run_so, trivial⟩)) Try.func5 (by kernel_rfl) rfl (fun x y h => (spec_RunMission_eq x).trans h)

-- loop.example/g01204/laws.FnExactRunMission
noncomputable def laws_FnExactRunMission (a0 : (Int × ((Vec 3 Nat) × ((List (Vec 3 Nat)) × ((List (Int × ((Vec 3 Nat) × (Int × (Int × Unit))))) × Unit))))) (a1 : Int) : Option ((Bool × Unit) × Unit) :=
  (laws_szMission a0 (1048576 : Int)).bind fun y1 =>
  bif (iLt y1.1.1 0) then some ((true, ()), ()) else
  (laws_toMission a0).bind fun y3 =>
  (spec_RunMission ((y3.1.1.1, y3.1.1.2.1, y3.1.1.2.2.1, y3.1.1.2.2.2.1, y3.1.1.2.2.2.2) : (Int × ((Vec 3 Nat) × ((List (Vec 3 Nat)) × ((List (Int × ((Vec 3 Nat) × (Int × (Int × Unit))))) × Unit))))) a1).bind fun y4 =>
  (laws_toMission a0).bind fun y5 =>
  (impl_RunMission ((y5.1.1.1, y5.1.1.2.1, y5.1.1.2.2.1, y5.1.1.2.2.2.1, y5.1.1.2.2.2.2) : (Int × ((Vec 3 Nat) × ((List (Vec 3 Nat)) × ((List (Int × ((Vec 3 Nat) × (Int × (Int × Unit))))) × Unit))))) a1).bind fun y6 =>
  (laws_eqLog ((y6.1.1.1, y6.1.1.2.1, y6.1.1.2.2.1, y6.1.1.2.2.2.1, y6.1.1.2.2.2.2) : (Int × ((Vec 3 Nat) × ((List (Vec 3 Nat)) × ((List (Int × ((Vec 3 Nat) × ((Vec 3 Int) × (Int × (Nat × Unit)))))) × Unit))))) ((y4.1.1.1, y4.1.1.2.1, y4.1.1.2.2.1, y4.1.1.2.2.2.1, y4.1.1.2.2.2.2) : (Int × ((Vec 3 Nat) × ((List (Vec 3 Nat)) × ((List (Int × ((Vec 3 Nat) × ((Vec 3 Int) × (Int × (Nat × Unit)))))) × Unit)))))).bind fun y7 =>
  bif (! y7.1.1) then some ((false, ()), ()) else
  bif (! (iEq y6.1.2.1 y4.1.2.1)) then some ((false, ()), ()) else
  (laws_toMission a0).bind fun y10 =>
  (laws_eqMission ((y5.1.1.1, y5.1.1.2.1, y5.1.1.2.2.1, y5.1.1.2.2.2.1, y5.1.1.2.2.2.2) : (Int × ((Vec 3 Nat) × ((List (Vec 3 Nat)) × ((List (Int × ((Vec 3 Nat) × (Int × (Int × Unit))))) × Unit))))) ((y10.1.1.1, y10.1.1.2.1, y10.1.1.2.2.1, y10.1.1.2.2.2.1, y10.1.1.2.2.2.2) : (Int × ((Vec 3 Nat) × ((List (Vec 3 Nat)) × ((List (Int × ((Vec 3 Nat) × (Int × (Int × Unit))))) × Unit)))))).bind fun y11 =>
  bif (! y11.1.1) then some ((false, ()), ()) else
  (laws_markMission ((y5.1.1.1, y5.1.1.2.1, y5.1.1.2.2.1, y5.1.1.2.2.2.1, y5.1.1.2.2.2.2) : (Int × ((Vec 3 Nat) × ((List (Vec 3 Nat)) × ((List (Int × ((Vec 3 Nat) × (Int × (Int × Unit))))) × Unit))))) (1 : Int)).bind fun y13 =>
  bif (iLt y13.1.1 0) then some ((false, ()), ()) else
  (laws_eqLog ((y6.1.1.1, y6.1.1.2.1, y6.1.1.2.2.1, y6.1.1.2.2.2.1, y6.1.1.2.2.2.2) : (Int × ((Vec 3 Nat) × ((List (Vec 3 Nat)) × ((List (Int × ((Vec 3 Nat) × ((Vec 3 Int) × (Int × (Nat × Unit)))))) × Unit))))) ((y4.1.1.1, y4.1.1.2.1, y4.1.1.2.2.1, y4.1.1.2.2.2.1, y4.1.1.2.2.2.2) : (Int × ((Vec 3 Nat) × ((List (Vec 3 Nat)) × ((List (Int × ((Vec 3 Nat) × ((Vec 3 Int) × (Int × (Nat × Unit)))))) × Unit)))))).bind fun y15 =>
  bif (! y15.1.1) then some ((false, ()), ()) else
  bif (! (iEq y6.1.2.1 y4.1.2.1)) then some ((false, ()), ()) else
  (laws_markLog ((y6.1.1.1, y6.1.1.2.1, y6.1.1.2.2.1, y6.1.1.2.2.2.1, y6.1.1.2.2.2.2) : (Int × ((Vec 3 Nat) × ((List (Vec 3 Nat)) × ((List (Int × ((Vec 3 Nat) × ((Vec 3 Int) × (Int × (Nat × Unit)))))) × Unit))))) (1 : Int)).bind fun y18 =>
  (laws_heldLog ((y6.1.1.1, y6.1.1.2.1, y18.2.1.2.2.1, y18.2.1.2.2.2.1, y6.1.1.2.2.2.2) : (Int × ((Vec 3 Nat) × ((List (Vec 3 Nat)) × ((List (Int × ((Vec 3 Nat) × ((Vec 3 Int) × (Int × (Nat × Unit)))))) × Unit))))) (1 : Int)).bind fun y19 =>
  bif (iLt y19.1.1 0) then some ((false, ()), ()) else
  bif (! (iEq y19.1.1 y18.1.1)) then some ((false, ()), ()) else
  (laws_toMission a0).bind fun y22 =>
  (impl_RunMission ((y22.1.1.1, y22.1.1.2.1, y22.1.1.2.2.1, y22.1.1.2.2.2.1, y22.1.1.2.2.2.2) : (Int × ((Vec 3 Nat) × ((List (Vec 3 Nat)) × ((List (Int × ((Vec 3 Nat) × (Int × (Int × Unit))))) × Unit))))) a1).bind fun y23 =>
  (laws_eqLog ((y23.1.1.1, y23.1.1.2.1, y23.1.1.2.2.1, y23.1.1.2.2.2.1, y23.1.1.2.2.2.2) : (Int × ((Vec 3 Nat) × ((List (Vec 3 Nat)) × ((List (Int × ((Vec 3 Nat) × ((Vec 3 Int) × (Int × (Nat × Unit)))))) × Unit))))) ((y4.1.1.1, y4.1.1.2.1, y4.1.1.2.2.1, y4.1.1.2.2.2.1, y4.1.1.2.2.2.2) : (Int × ((Vec 3 Nat) × ((List (Vec 3 Nat)) × ((List (Int × ((Vec 3 Nat) × ((Vec 3 Int) × (Int × (Nat × Unit)))))) × Unit)))))).bind fun y24 =>
  bif (! y24.1.1) then some ((false, ()), ()) else
  bif (! (iEq y23.1.2.1 y4.1.2.1)) then some ((false, ()), ()) else
  (laws_heldLog ((y6.1.1.1, y6.1.1.2.1, y18.2.1.2.2.1, y18.2.1.2.2.2.1, y6.1.1.2.2.2.2) : (Int × ((Vec 3 Nat) × ((List (Vec 3 Nat)) × ((List (Int × ((Vec 3 Nat) × ((Vec 3 Int) × (Int × (Nat × Unit)))))) × Unit))))) (1 : Int)).bind fun y27 =>
  bif (iLt y27.1.1 0) then some ((false, ()), ()) else
  bif (! (iEq y27.1.1 y18.1.1)) then some ((false, ()), ()) else some ((true, ()), ())
noncomputable def laws_FnExactRunMission_sg : Sig := ⟨[.v (.pair (.int .i64) (.pair (.arr 3 (.flt .f32)) (.pair (.list (.arr 3 (.flt .f32))) (.pair (.list (.pair (.int .i64) (.pair (.arr 3 (.flt .f32)) (.pair (.int .i64) (.pair (.int .i64) (.unit)))))) (.unit))))), .v (.int .u32)], [.v (.val (.bool))], false⟩
noncomputable def laws_FnExactRunMission_en : Entry := ⟨laws_FnExactRunMission_sg, fun x => laws_FnExactRunMission x.1 x.2.1⟩
theorem laws_FnExactRunMission_eq (x : laws_FnExactRunMission_sg.dom) : body (env [(4, laws_szMission_en), (5, spec_RunMission_en), (6, laws_toMission_en), (7, impl_RunMission_en), (8, laws_eqLog_en), (9, laws_eqMission_en), (10, laws_markMission_en), (11, laws_markLog_en), (12, laws_heldLog_en)]) [] Try.f3 laws_FnExactRunMission_sg x = laws_FnExactRunMission x.1 x.2.1 := by kernel_rfl
theorem laws_FnExactRunMission_so : Sound Try.prog 3 laws_FnExactRunMission_en := sound_of_body (envS (l := [(4, laws_szMission_en), (5, spec_RunMission_en), (6, laws_toMission_en), (7, impl_RunMission_en), (8, laws_eqLog_en), (9, laws_eqMission_en), (10, laws_markMission_en), (11, laws_markLog_en), (12, laws_heldLog_en)]) (⟨laws_szMission_so, spec_RunMission_so, laws_toMission_so, impl_RunMission_so, laws_eqLog_so, laws_eqMission_so, laws_markMission_so, laws_markLog_so, laws_heldLog_so, trivial⟩)) Try.func3 (by kernel_rfl) rfl (fun x y h => (laws_FnExactRunMission_eq x).trans h)

end Go.Proofs.Ytjahnpagogpffaa
