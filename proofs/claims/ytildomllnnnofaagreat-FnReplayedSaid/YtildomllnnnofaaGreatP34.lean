import Derived.Test.YtildomllnnnofaaGreatP33
/- Functions of the program and of the reference in plain terms. -/
namespace Go.Proofs.YtildomllnnnofaaGreat
open Go Go.Tm
set_option linter.unusedVariables false
set_option linter.unusedSimpArgs false
set_option linter.unusedSectionVars false
theorem qzr {Y : List (List UInt8)} {p : Nat} {f : List UInt8} {B : List (List UInt8)} (h : Y.drop p = f :: B) : p < Y.length ∧ List.getD Y p [] = f ∧ Y.drop (p + 1) = B := by
  have h1 : p < Y.length := by
    rcases Nat.lt_or_ge p Y.length with h1 | h1
    · exact h1
    · rw [List.drop_eq_nil_of_le h1] at h; cases h
  rw [List.drop_eq_getElem_cons h1] at h
  obtain ⟨h2, h3⟩ := List.cons.inj h
  exact ⟨h1, by rw [qau h1]; exact h2, h3⟩
theorem qrc {Y : List (List UInt8)} (hY : Y.length ≤ 200) {p : Nat} {f : List UInt8} {B : List (List UInt8)} (h : Y.drop p = f :: B) {m : DMission} {k : Int} {O : List (Int × (Int × Unit))} {c : Int} {st' : DComp}
    (hc : impl_compiler_compile ((m, k, O, ((p + 1 : Nat) : Int), ()) : DComp) f = some ((c, ()), (st', ()))) :
    impl_CompileMission_l5 ((Y, ()), ()) (((m, k, O, (p : Int), ()) : DComp), ()) = bif (! (iEq c 0)) then some (.inr (((0, (0, 0, 0, ()), [], [], ()), (p : Int), c, ()), ())) else some (.inl (st', ())) := by
  obtain ⟨h1, h2, -⟩ := qzr h
  have e1 : iLt (p : Int) (lenI Y) = true := qah (by rw [qaa]; omega)
  have e2 : inB (p : Int) (List.length Y) = true := qaf h1
  have e3 : iAdd .i64 (p : Int) 1 = ((p + 1 : Nat) : Int) := qap h1 (by omega)
  obtain ⟨m1, m2, m3, m4, ⟨⟩⟩ := m
  unfold impl_CompileMission_l5
  simp only
  rw [e1, e2, e3, Int.toNat_natCast, h2]
  simp only [cond_true]
  rw [hc]
  rfl
theorem qacc : impl_CompileMission_l5 ((dflY, ()), ()) (((8, (0, 0, 0, ()), dB, [], ()), 2, [], 2, ()), ()) = some (.inl (((8, (0, 0, 0, ()), dB, [((6 : Int), (1065353216, 1056964608, 0, ()), 2, -1, ())], ()), 2, [], 3, ()), ())) := by
  have ht := qew ((8, (0, 0, 0, ()), dB, [], ()) : DMission) (by decide)
  have ha : impl_compiler_addLeg (((8, (0, 0, 0, ()), dB, [], ()), 2, [], ((2 + 1 : Nat) : Int), ()) : DComp) (1065353216, 1056964608, 0, ()) 6 = some ((0, ()), ((((8, (0, 0, 0, ()), dB, [((6 : Int), (1065353216, 1056964608, 0, ()), 2, -1, ())], ()), 2, [], ((2 + 1 : Nat) : Int), ()) : DComp), ())) := by
    unfold impl_compiler_addLeg
    simp only [qbt, qbl, Option.bind_some]
    simp only at ht
    rw [ht]
    rfl
  have hc : impl_compiler_compile (((8, (0, 0, 0, ()), dB, [], ()), 2, [], ((2 + 1 : Nat) : Int), ()) : DComp) (List.getD dflY 2 []) = (impl_compiler_addLeg (((8, (0, 0, 0, ()), dB, [], ()), 2, [], ((2 + 1 : Nat) : Int), ()) : DComp) (1065353216, 1056964608, 0, ()) 6).bind fun y => some ((y.1.1, ()), (y.2.1, ())) := by kernel_rfl
  rw [ha] at hc
  exact qrc (Y := dflY) (by decide) (p := 2) (f := List.getD dflY 2 []) (B := dflY.drop (2 + 1)) rfl (m := (8, (0, 0, 0, ()), dB, [], ())) (k := 2) (O := []) (c := 0) hc
theorem qabw : impl_CompileMission_l5 ((dflY, ()), ()) (((8, (0, 0, 0, ()), dB, [((6 : Int), (1065353216, 1056964608, 0, ()), 2, -1, ())], ()), 2, [], 3, ()), ()) = some (.inl (((8, (0, 0, 0, ()), dB, [((6 : Int), (1065353216, 1056964608, 0, ()), 2, 0, ())], ()), 2, [], 4, ()), ())) := by kernel_rfl
theorem qab2 : impl_CompileMission_l5 ((dflY, ()), ()) (((8, (0, 0, 0, ()), dB, [((6 : Int), (1065353216, 1056964608, 0, ()), 2, 0, ())], ()), 2, [], 4, ()), ()) = some (.inl (((8, (0, 0, 0, ()), dB, [((6 : Int), (1065353216, 1056964608, 0, ()), 2, 0, ()), ((4 : Int), (3212836864, 0, 1065353216, ()), 2, -1, ())], ()), 2, [], 5, ()), ())) := by
  have ht := qew ((8, (0, 0, 0, ()), dB, [((6 : Int), (1065353216, 1056964608, 0, ()), 2, 0, ())], ()) : DMission) (by decide)
  have ha : impl_compiler_addLeg (((8, (0, 0, 0, ()), dB, [((6 : Int), (1065353216, 1056964608, 0, ()), 2, 0, ())], ()), 2, [], ((4 + 1 : Nat) : Int), ()) : DComp) (3212836864, 0, 1065353216, ()) 4 = some ((0, ()), ((((8, (0, 0, 0, ()), dB, [((6 : Int), (1065353216, 1056964608, 0, ()), 2, 0, ()), ((4 : Int), (3212836864, 0, 1065353216, ()), 2, -1, ())], ()), 2, [], ((4 + 1 : Nat) : Int), ()) : DComp), ())) := by
    unfold impl_compiler_addLeg
    simp only [qbt, qbl, Option.bind_some]
    simp only at ht
    rw [ht]
    rfl
  have hc : impl_compiler_compile (((8, (0, 0, 0, ()), dB, [((6 : Int), (1065353216, 1056964608, 0, ()), 2, 0, ())], ()), 2, [], ((4 + 1 : Nat) : Int), ()) : DComp) (List.getD dflY 4 []) = (impl_compiler_addLeg (((8, (0, 0, 0, ()), dB, [((6 : Int), (1065353216, 1056964608, 0, ()), 2, 0, ())], ()), 2, [], ((4 + 1 : Nat) : Int), ()) : DComp) (3212836864, 0, 1065353216, ()) 4).bind fun y => some ((y.1.1, ()), (y.2.1, ())) := by kernel_rfl
  rw [ha] at hc
  exact qrc (Y := dflY) (by decide) (p := 4) (f := List.getD dflY 4 []) (B := dflY.drop (4 + 1)) rfl (m := (8, (0, 0, 0, ()), dB, [((6 : Int), (1065353216, 1056964608, 0, ()), 2, 0, ())], ())) (k := 2) (O := []) (c := 0) hc
theorem qacd : impl_CompileMission_l5 ((dflY, ()), ()) (((8, (0, 0, 0, ()), dB, [((6 : Int), (1065353216, 1056964608, 0, ()), 2, 0, ()), ((4 : Int), (3212836864, 0, 1065353216, ()), 2, -1, ())], ()), 2, [], 5, ()), ()) = some (.inr (((8, (0, 0, 0, ()), dB, [((6 : Int), (1065353216, 1056964608, 0, ()), 2, 0, ()), ((4 : Int), (3212836864, 0, 1065353216, ()), 2, -1, ())], ()), 0, 0, ()), ())) := by kernel_rfl
theorem qabg : ∃ m : DMission, impl_CompileMission dflT = some ((m, 0, 0, ()), ()) := by
  have e1 : iLt 4000 (lenI dflT) = false := rfl
  have e2 : iLt 200 (lenI dflY) = false := rfl
  unfold impl_CompileMission
  rw [qvt, e1]
  simp only [Option.bind_some, cond_false]
  rw [e2]
  simp only [cond_false]
  exact ⟨_, (qad qab4).trans ((qad qaca).trans ((qad qacc).trans ((qad qabw).trans ((qad qab2).trans (qaj qacd)))))⟩
theorem qxu {s : DSrc} (hs : SrcOK 0 s) : ∃ (m : DMission) (s' : DSrc), spec_l08Drawn s = some ((m, ()), (s', ())) ∧ SrcOK 1000 s' ∧ Sized TyMission m ∧ ∃ fix, Good m fix := by
  obtain ⟨w, e, t, s', rfl, hl, hs'⟩ := qaar hs
  obtain ⟨⟨⟨m, l, c, ⟨⟩⟩, ⟨⟩⟩, -, h2, h3, h4⟩ := qk0 (s := t) (by omega)
  unfold spec_l08Drawn
  rw [e]
  simp only [Option.bind_some]
  rw [h2]
  simp only [Option.bind_some]
  cases hc : iEq c 0 with
  | true =>
    have h4 := h4 (qbq.1 hc)
    obtain ⟨m1, m2, m3, m4, ⟨⟩⟩ := m
    exact ⟨(m1, m2, m3, m4, ()), s', rfl, hs', h3, h4⟩
  | false =>
    obtain ⟨⟨⟨m, l, c, ⟨⟩⟩, ⟨⟩⟩, g1, g2, g3, g4⟩ := qk0 (s := dflT) (by decide)
    obtain ⟨m', hm'⟩ := qabg
    rw [hm'] at g1
    have gc : c = 0 := (congrArg (fun z : DOut => z.1.2.2.1) (Option.some.inj g1)).symm
    have g4 := g4 gc
    obtain ⟨m1, m2, m3, m4, ⟨⟩⟩ := m
    refine ⟨(m1, m2, m3, m4, ()), s', ?_, hs', g3, g4⟩
    simp only [Bool.not_false, cond_true]
    show (spec_CompileMission dflT).bind _ = _
    rw [g2]
    rfl
theorem qaa1 : pw .f32 1065353216 0 := ⟨false, 8388608, -23, by decide, qdh (-23) (by decide) (by decide) (by decide)⟩
theorem qyi {v : Vec 3 Nat} (hv : pv 20 v) {r : Int} (h : 1 ≤ r) (h1 : r ≤ 64) : pv 20 (scaleV v (fDiv .f32 1065353216 (fOfInt .f32 r))) := by
  have hr : pw .f32 (fDiv .f32 1065353216 (fOfInt .f32 r)) 0 := qpl qaa1 (qwf h (by omega)) (by decide) (by decide)
  exact ⟨qr6 (k := .f32) (t := 20) (u := 0) hv.1 hr (by decide) (by decide), qr6 (k := .f32) (t := 20) (u := 0) hv.2.1 hr (by decide) (by decide), qr6 (k := .f32) (t := 20) (u := 0) hv.2.2 hr (by decide) (by decide)⟩
theorem qj7 {m : DMission} {fix : Int} (hg : Good m fix) : missionB m = true := by
  obtain ⟨g1, g2, g3, g4, gr, gf, gs, gm, gl⟩ := hg
  have emk : iSub .i64 (lenI m.2.2.1) 1 = (m.2.2.1.length : Int) - 1 := by rw [qaa]; exact qbv (by omega) (by omega)
  have a1 : m.2.2.1.all finV = true := List.all_eq_true.2 fun v hv => qn7 (gm v hv)
  have a2 : m.2.2.2.1.all (legB ((m.2.2.1.length : Int) - 1)) = true := List.all_eq_true.2 fun x hx => by
    obtain ⟨k1, k2, k3, k4, k5⟩ := gl x hx
    unfold legB
    rw [qn7 k2, qaq k1.1, qaq k1.2, qaq k3.1, qaq k3.2, qaq k4, qaq (by omega)]
    rfl
  unfold missionB frameB
  rw [emk, a1, a2, qn7 gs, qaq gr.1, qaq gr.2, qaq (by rw [qaa]; omega), qaq (by rw [qaa]; omega), qaq g4]
  rfl
def LogOK (g : DLog) : Prop := logB g = true ∧ (1 ≤ g.1 ∧ g.1 ≤ 64) ∧ g.2.2.1.length ≤ 6 ∧ g.2.2.2.1.length ≤ 1200 ∧ Sized TyLog g ∧ ∀ e ∈ g.2.2.2.1, Fit (.arr 3 (.int .i16)) e.2.2.1
theorem qnx {m : DMission} {fix : Int} (hg : Good m fix) (hz : Sized TyMission m) {g : DLog} (h : GoodL m 1200 g) : LogOK g := by
  obtain ⟨g1, g2, g3, g4, gr, gf, gs, gm, gl⟩ := id hg
  have hm := qj7 hg
  have hsz := qu4 hz h
  obtain ⟨k1, k2, k3, k4, k5⟩ := h
  simp only [missionB, Bool.and_eq_true] at hm
  refine ⟨?_, by rw [k1]; exact gr, by rw [k3]; exact g2, by omega, hsz, fun e he => (k5 e he).2⟩
  unfold logB
  rw [k1, k2, k3, hm.1, qaq (by rw [qaa]; exact k4)]
  have : g.2.2.2.1.all (entryB (lenI m.2.2.1)) = true := List.all_eq_true.2 fun e he => (k5 e he).1
  rw [this]
  rfl
theorem qyz {c : List Int} (h : ∀ x ∈ c, 0 ≤ x ∧ x ≤ 255) (hl : c.length ≤ 4096) : ∃ g : DLog, spec_A2Log c = some ((g, ()), ()) ∧ LogOK g := by
  obtain ⟨m, s1, e1, h1, hz, fix, hg⟩ := qxu (qxc h hl)
  obtain ⟨v, s2, e2, v0, v1, h2⟩ := qye (by omega) h1
  have ew : iWrap .u32 v = v := by simp [iWrap, IntKind.wrap, IntKind.signed, IntKind.bits]; omega
  obtain ⟨g1, g2, g3, g4, gr, gf, gs, gm, gl⟩ := id hg
  obtain ⟨g, er, hG⟩ := qabn m (qj7 hg) (fun x hx => ⟨by have := (gl x hx).1.1; omega, (gl x hx).1.2⟩) g4 ⟨qje gs.1 (by decide), qje gs.2.1 (by decide), qje gs.2.2 (by decide)⟩ g2 gm (fun x hx => qyi (gl x hx).2.1 gr.1 gr.2) (sd := v) v0 (by omega)
  obtain ⟨x, s3, e3, -, -, -, h3⟩ := qbf (by omega) h2 4 (by decide)
  obtain ⟨y, s4, e4, y0, -, y1, h4⟩ := qbf (by omega) h3 400 (by decide)
  have e3' : spec_l00Src_one s2 4 = some ((iEq x 0, ()), (s3, ())) := by unfold spec_l00Src_one; rw [e3]; rfl
  obtain ⟨m1, m2, m3, m4, ⟨⟩⟩ := m
  obtain ⟨l1, l2, l3, l4, ⟨⟩⟩ := g
  unfold spec_A2Log
  rw [qob]
  simp only [Option.bind_some]
  unfold spec_l08LogDrawn
  rw [e1]
  simp only [Option.bind_some]
  rw [e2]
  simp only [Option.bind_some]
  rw [ew, er]
  simp only [Option.bind_some]
  rw [e3']
  simp only [Option.bind_some]
  have hlen := hG.2.2.2.1
  cases iEq x 0 with
  | true =>
    simp only [cond_true]
    rw [e4]
    simp only [Option.bind_some]
    rw [qbk (by simp only at hlen; omega)]
    refine ⟨_, rfl, qnx hg hz ((hG.add (e := (3, (0, 0, 0, ()), ((iWrap .i16 (iSub .i64 y 200)), 100, (-20 : Int), ()), 0, 0, ())) ⟨qpw _ _, ⟨qho _, ⟨(by decide : (-32768 : Int) ≤ 100), (by decide : (100 : Int) ≤ 32767)⟩, ⟨(by decide : (-32768 : Int) ≤ -20), (by decide : (-20 : Int) ≤ 32767)⟩, trivial⟩⟩).le (by omega))⟩
  | false => exact ⟨_, rfl, qnx hg hz (hG.le (by omega))⟩
end Go.Proofs.YtildomllnnnofaaGreat
