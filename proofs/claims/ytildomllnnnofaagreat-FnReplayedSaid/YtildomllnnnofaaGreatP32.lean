import Derived.Test.YtildomllnnnofaaGreatP31
/- Functions of the program and of the reference in plain terms. -/
namespace Go.Proofs.YtildomllnnnofaaGreat
open Go Go.Tm
set_option linter.unusedVariables false
set_option linter.unusedSimpArgs false
set_option linter.unusedSectionVars false
def sumB (l : List DLeg) : Prop := ∀ x ∈ l, 0 ≤ x.1 ∧ x.1 ≤ 400
theorem qrr (l : List DLeg) (h : sumB l) (hl : l.length ≤ 64) : ∀ i, i ≤ l.length → (l.take i).foldl (fun s x => iAdd .i64 s x.1) 0 = sT l i ∧ 0 ≤ sT l i ∧ sT l i ≤ 400 * i
  | 0, _ => ⟨rfl, Int.le_refl _, by simp [sT]⟩
  | i + 1, hi => by
    obtain ⟨e, e0, e1⟩ := qrr l h hl i (by omega)
    have hx := h _ (List.getElem_mem (by omega : i < l.length))
    have hs := qpf (l := l) (i := i) (by omega)
    rw [List.take_add_one, List.getElem?_eq_getElem (by omega)]
    simp only [Option.toList, List.foldl_append, List.foldl_cons, List.foldl_nil]
    rw [e, qa8 (by omega) (by omega), hs]
    omega
theorem qvx {l : List DLeg} (h : sumB l) (hl : l.length ≤ 64) : ticksI l = sT l l.length := by
  have := (qrr l h hl l.length (Nat.le_refl _)).1
  rw [List.take_length] at this
  exact this
theorem qaa3 (a : DMission) (hm : missionB a = true) (hmk : a.2.2.1.length ≤ 140737488355328) {L : List (Vec 3 Nat)} (hL : (L.length : Int) = 1 + sT a.2.2.2.1 a.2.2.2.1.length) (hL2 : L.length ≤ 30000) (hLv : ∀ v ∈ L, pv 46 v) (hMv : ∀ v ∈ a.2.2.1, pv 20 v)
    {i : Nat} (hi : i < a.2.2.2.1.length) {s0 s1 : Int} {g0 g1 : DLog} (hg : GoodL a (2 * sT a.2.2.2.1 i + 2 * i + 1) g1) (h0 : 0 ≤ s1) (h1 : s1 < 4294967296) (n0 : Int) :
    ∃ o : DRun ⊕ DRan, run (spec_l08Run_l12 a.2.2.2.1[i] ((L, 0, ()), ()) (s0, n0, (i : Int), g0, ()) a) (s1, sT a.2.2.2.1 i, (1 : Int), g1, ()) = some o ∧
      ∃ (s' : Int) (g' : DLog), o = .inl (s', sT a.2.2.2.1 (i + 1), ((i + 1 : Nat) : Int), g', ()) ∧ 0 ≤ s' ∧ s' < 4294967296 ∧ GoodL a (2 * sT a.2.2.2.1 (i + 1) + 2 * (i + 1)) g' := by
  obtain ⟨hl, hx, hx2, _⟩ := qo6 hm
  have hx1 : ∀ x ∈ a.2.2.2.1, 1 ≤ x.1 := fun x q => (hx x q).1
  have ht := hx _ (List.getElem_mem hi)
  have hleg := hx2 _ (List.getElem_mem hi)
  simp only [legB, Bool.and_eq_true, qbo] at hleg
  obtain ⟨_, _, hev, hmark⟩ := hleg
  have hS := qpf hi
  have hmono := qlr hx1 (a.2.2.2.1.length - (i + 1)) (i + 1) (by omega)
  rw [show i + 1 + (a.2.2.2.1.length - (i + 1)) = a.2.2.2.1.length by omega] at hmono
  have hpos := qlr hx1 i 0 (by omega)
  rw [Nat.zero_add] at hpos
  have hz : sT a.2.2.2.1 0 = 0 := rfl
  have emk : iSub .i64 (lenI a.2.2.1) 1 = lenI a.2.2.1 - 1 := qbv (by rw [qaa]; omega) (by rw [qaa]; omega)
  rw [emk] at hmark
  generalize hX : a.2.2.2.1[i] = X at *
  refine qfi (f := spec_l08Run_l12 X ((L, 0, ()), ()) (s0, n0, (i : Int), g0, ()) a)
    (fun s => ∃ (sd k : Int) (g : DLog), s = (sd, sT a.2.2.2.1 i + (k - 1), k, g, ()) ∧ 0 ≤ sd ∧ sd < 4294967296 ∧ 1 ≤ k ∧ k ≤ X.1 + 1 ∧ GoodL a (2 * sT a.2.2.2.1 i + 2 * i + 1 + 2 * (k - 1)) g) (fun s => (X.1 + 1 - s.2.2.1).toNat)
    _ (fun s hR => ?_) ⟨s1, 1, g1, by rw [show sT a.2.2.2.1 i + ((1 : Int) - 1) = sT a.2.2.2.1 i by omega], h0, h1, by omega, by omega, hg.le (by omega)⟩
  obtain ⟨sd, k, g, rfl, hs0, hs1, hk1, hk2, hG⟩ := hR
  have hlen := hG.2.2.2.1
  by_cases hk : k ≤ X.1
  · have e1 : iLe k X.1 = true := qaq hk
    have e2 : iAdd .i64 (sT a.2.2.2.1 i + (k - 1)) 1 = sT a.2.2.2.1 i + (k + 1 - 1) := by rw [qa8 (by omega) (by omega)]; omega
    have e3 : room (g.2.2.2.1.length + 1) 48 = true := qbk (by omega)
    have e4 : iAdd .i64 k 1 = k + 1 := qa8 (by omega) (by omega)
    have e5 : inB (sT a.2.2.2.1 i + (k + 1 - 1)) L.length = true := qfm (by omega) (by omega)
    have G1 := hG.add (e := (1, (0, 0, 0, ()), (0, 0, 0, ()), 0, 0, ())) ⟨qux _, qkn⟩
    have e6 : room ((g.2.2.2.1 ++ [((1, (0, 0, 0, ()), (0, 0, 0, ()), 0, 0, ()) : DEntry)]).length + 1) 48 = true := qbk (by rw [List.length_append, List.length_singleton]; omega)
    left
    simp only [spec_l08Run_l12, e1, e2, e3, e4, cond_true]
    cases he : iEq X.2.2.1 0 with
    | true =>
      have e7 : iLt 0 X.2.2.1 = false := qag (by have := qbq.1 he; omega)
      simp only [e7, cond_true, cond_false]
      exact ⟨_, rfl, ⟨sd, k + 1, _, rfl, hs0, hs1, by omega, by omega, G1.le (by omega)⟩, by show (X.1 + 1 - (k + 1)).toNat < (X.1 + 1 - k).toNat; omega⟩
    | false =>
      have e7 : iLt 0 X.2.2.1 = true := qah (by have := qcn.1 he; omega)
      simp only [e7, cond_true, cond_false]
      cases hr : iEq (iRem .i64 k X.2.2.1) 0 with
      | false =>
        simp only [Bool.not_false, cond_true, cond_false]
        exact ⟨_, rfl, ⟨sd, k + 1, _, rfl, hs0, hs1, by omega, by omega, G1.le (by omega)⟩, by show (X.1 + 1 - (k + 1)).toNat < (X.1 + 1 - k).toNat; omega⟩
      | true =>
        obtain ⟨u, c1, c2⟩ := qrh (L.getD (sT a.2.2.2.1 i + (k + 1 - 1)).toNat ((0, 0, 0, ()) : Vec 3 Nat))
        obtain ⟨v, sd', k1, k2, k3, k4, k5⟩ := qvy u sd
        have f2 : spec_l08Sensor = some ((dSen, ()), ()) := rfl
        simp only [f2, e5, c2, k2, e6, Bool.not_true, Option.bind_some, cond_true, cond_false]
        exact ⟨_, rfl, ⟨sd', k + 1, _, rfl, k4, k5, by omega, by omega, (G1.add (e := (3, (0, 0, 0, ()), v, 0, 0, ())) ⟨qpw _ _, k3⟩).le (by omega)⟩, by show (X.1 + 1 - (k + 1)).toNat < (X.1 + 1 - k).toNat; omega⟩
  · have e1 : iLe k X.1 = false := qc9 hk
    have hk' : k = X.1 + 1 := by omega
    have e4 : iAdd .i64 (i : Int) 1 = ((i + 1 : Nat) : Int) := qap hi (by omega)
    have en : sT a.2.2.2.1 i + (k - 1) = sT a.2.2.2.1 (i + 1) := by omega
    right
    simp only [spec_l08Run_l12, e1, e4, en, cond_false]
    cases hmk0 : iLt X.2.2.2.1 0 with
    | true =>
      simp only [cond_true, Option.map_some]
      exact ⟨_, rfl, sd, _, rfl, hs0, hs1, hG.le (by omega)⟩
    | false =>
      have hm0 : 0 ≤ X.2.2.2.1 := by
        apply Classical.byContradiction
        intro q
        rw [qah (by omega)] at hmk0
        cases hmk0
      have hm1 := hmark.2
      rw [qaa] at hm1
      have e5 : inB (sT a.2.2.2.1 (i + 1)) L.length = true := qfm (by omega) (by omega)
      have e6 : inB X.2.2.2.1 a.2.2.1.length = true := qfm hm0 (by omega)
      have e7 : room (g.2.2.2.1.length + 1) 48 = true := qbk (by omega)
      have hxx : iAdd .u32 (iMul .u32 1664525 sd) 1013904223 = nx sd := rfl
      have rr := qjn sd
      have hp : pv 46 (L.getD (sT a.2.2.2.1 (i + 1)).toNat ((0, 0, 0, ()) : Vec 3 Nat)) := by
        have hlt : (sT a.2.2.2.1 (i + 1)).toNat < L.length := by omega
        exact (congrArg (pv 46) (qau (d := ((0, 0, 0, ()) : Vec 3 Nat)) hlt)).mpr (hLv _ (List.getElem_mem hlt))
      have hq : pv 20 (a.2.2.1.getD X.2.2.2.1.toNat ((0, 0, 0, ()) : Vec 3 Nat)) := by
        have hlt : X.2.2.2.1.toNat < a.2.2.1.length := by omega
        exact (congrArg (pv 20) (qau (d := ((0, 0, 0, ()) : Vec 3 Nat)) hlt)).mpr (hMv _ (List.getElem_mem hlt))
      have z0 : 0 ≤ nx sd / 65536 % 9 := Int.emod_nonneg _ (by decide)
      have z1 : nx sd / 65536 % 9 < 9 := Int.emod_lt_of_pos _ (by decide)
      obtain ⟨m, hsub, hV⟩ := qyt hp hq z0 (by omega)
      simp only [e5, e6, hxx, hsub, qz7, qv4 rr.1 rr.2, qax, Option.bind_some, cond_true, cond_false]
      generalize hVe : fAdd .f32 (rootF (dotR m m)) (fDiv .f32 (fOfInt .f32 (iSub .i64 (nx sd / 65536 % 9) 4)) 1098907648) = V at *
      simp only [hV, e7, Bool.not_true, cond_true, cond_false, Option.map_some]
      refine ⟨_, rfl, nx sd, _, rfl, rr.1, rr.2, ((hG.add (e := (4, (0, 0, 0, ()), (0, 0, 0, ()), X.2.2.2.1, V, ())) ⟨?_, qkn⟩).le (by omega))⟩
      rw [qsv, emk, hV, qaq hm0, qaq (by rw [qaa]; omega)]
      rfl
theorem qabn (a : DMission) (hm : missionB a = true) (ht4 : sumB a.2.2.2.1) (ht : ticksI a.2.2.2.1 ≤ 400) (hs : pv 46 a.2.1) (hmk : a.2.2.1.length ≤ 6) (hMv : ∀ v ∈ a.2.2.1, pv 20 v) (hV : ∀ x ∈ a.2.2.2.1, pv 20 (scaleV x.2.1 (fDiv .f32 1065353216 (fOfInt .f32 a.1)))) {sd : Int} (h0 : 0 ≤ sd) (h1 : sd < 4294967296) :
    ∃ g : DLog, spec_l08Run a sd = some ((g, 0, ()), ()) ∧ GoodL a 1000 g := by
  obtain ⟨L, t1, hL, t3, hLv⟩ := qun a hm hs hV
  obtain ⟨hl, hx, hx2, _⟩ := qo6 hm
  have hx1 : ∀ x ∈ a.2.2.2.1, 1 ≤ x.1 := fun x q => (hx x q).1
  have hT := qvx ht4 hl
  have c2 : room (0 + a.2.2.1.length) 12 = true := qbk (by omega)
  have i0 : (!iEq (0 : Int) 0) = false := rfl
  simp only [spec_l08Run, t1, c2, i0, Option.bind_some, List.nil_append, cond_true, cond_false]
  obtain ⟨o, r1, g, rfl, hq⟩ := qfi (f := spec_l08Run_l7 a ((L, 0, ()), ()))
    (fun s => ∃ (i : Nat) (sd : Int) (g : DLog), s = (sd, sT a.2.2.2.1 i, (i : Int), g, ()) ∧ i ≤ a.2.2.2.1.length ∧ 0 ≤ sd ∧ sd < 4294967296 ∧ GoodL a (2 * sT a.2.2.2.1 i + 2 * i) g) (fun s => (a.2.2.2.1.length - s.2.2.1).toNat)
    (fun o : DRan => ∃ g : DLog, o = ((g, 0, ()), ()) ∧ GoodL a 1000 g) (fun s hR => by
      obtain ⟨i, sd, g, rfl, hi, q0, q1, hG⟩ := hR
      have hlen := hG.2.2.2.1
      have hmono := qlr hx1 (a.2.2.2.1.length - i) i (by omega)
      rw [show i + (a.2.2.2.1.length - i) = a.2.2.2.1.length by omega] at hmono
      by_cases hlt : i < a.2.2.2.1.length
      · have e1 : iLt (i : Int) (lenI a.2.2.2.1) = true := qah (by rw [qaa]; omega)
        have e2 : inB (i : Int) a.2.2.2.1.length = true := qaf hlt
        have e3 : room (g.2.2.2.1.length + 1) 48 = true := qbk (by omega)
        have e4 : a.2.2.2.1.getD i ((0, (0, 0, 0, ()), 0, 0, ()) : DLeg) = a.2.2.2.1[i] := qau hlt
        have hv : finV a.2.2.2.1[i].2.1 = true := by
          have := hx2 _ (List.getElem_mem hlt)
          simp only [legB, Bool.and_eq_true] at this
          exact this.2.1
        have hG1 := hG.add (e := (2, a.2.2.2.1[i].2.1, (0, 0, 0, ()), 0, 0, ())) ⟨(qs5 _ _).trans hv, qkn⟩
        obtain ⟨o, r1, s', g', rfl, p0, p1, p2⟩ := qaa3 a hm (by omega) hL t3 hLv hMv hlt (s0 := sd) (g0 := g) hG1 q0 q1 (sT a.2.2.2.1 i)
        simp only [spec_l08Run_l7, e1, e2, e3, e4, Int.toNat_natCast, cond_true]
        rw [r1]
        exact .inl ⟨_, rfl, ⟨i + 1, s', g', rfl, hlt, p0, p1, p2.le (by omega)⟩, by show ((a.2.2.2.1.length : Int) - ((i + 1 : Nat) : Int)).toNat < ((a.2.2.2.1.length : Int) - (i : Int)).toNat; omega⟩
      · have e1 : iLt (i : Int) (lenI a.2.2.2.1) = false := qag (by rw [qaa]; omega)
        have hi' : i = a.2.2.2.1.length := by omega
        rw [hT] at ht
        have hgl : (g.2.2.2.1.length : Int) ≤ 1000 := by rw [hi'] at hlen; omega
        have hc : iLt 1200 (lenI g.2.2.2.1) = false := qag (by rw [qaa]; omega)
        right
        simp only [spec_l08Run_l7, e1, hc, cond_false]
        exact ⟨_, rfl, g, rfl, hG.1, hG.2.1, hG.2.2.1, hgl, hG.2.2.2.2⟩) (s := (sd, (0 : Int), (0 : Int), ((a.1, a.2.1, a.2.2.1, [], ()) : DLog), ())) ⟨0, sd, _, rfl, Nat.zero_le _, h0, h1, rfl, rfl, rfl, Int.le_refl _, fun e he => by cases he⟩
  exact ⟨g, r1, hq⟩
end Go.Proofs.YtildomllnnnofaaGreat
