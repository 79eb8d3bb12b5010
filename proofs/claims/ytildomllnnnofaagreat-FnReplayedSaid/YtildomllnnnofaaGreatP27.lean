import Derived.Test.YtildomllnnnofaaGreatP26
/- Functions of the program and of the reference in plain terms. -/
namespace Go.Proofs.YtildomllnnnofaaGreat
open Go Go.Tm
set_option linter.unusedVariables false
set_option linter.unusedSimpArgs false
set_option linter.unusedSectionVars false
def pv (t : Int) (v : Vec 3 Nat) : Prop := pw .f32 v.1 t ∧ pw .f32 v.2.1 t ∧ pw .f32 v.2.2.1 t
theorem qn7 {t : Int} {v : Vec 3 Nat} (h : pv t v) : finV v = true := by
  have h1 : finB (Vec.getD 3 v 0 (0 : Nat)) = true := qnl h.1
  have h2 : finB (Vec.getD 3 v 1 (0 : Nat)) = true := qnl h.2.1
  have h3 : finB (Vec.getD 3 v 2 (0 : Nat)) = true := qnl h.2.2
  unfold finV
  rw [h1, h2, h3]
  rfl
theorem qaa0 {a b : Vec 3 Nat} (ha : pv 46 a) (hb : pv 20 b) : pv 46 (addV a b) := ⟨qrk ha.1 hb.1, qrk ha.2.1 hb.2.1, qrk ha.2.2 hb.2.2⟩
theorem qt6 (a : DMission) (s : List (Vec 3 Nat) × Int × Vec 3 Nat × Unit) (y : (Vec 3 Nat × Unit) × Unit) (hy : pv 20 y.1.1) (i : Nat) (hi : i < a.2.2.2.1.length) (hs : s.2.1 = i) (ht : 1 ≤ a.2.2.2.1[i].1 ∧ a.2.2.2.1[i].1 ≤ 400) (hl : a.2.2.2.1.length ≤ 64) (hn : (s.1.length : Int) = 1 + sT a.2.2.2.1 i) (hc : s.1.length ≤ 1 + 400 * i) (hv : pv 46 s.2.2.1) (hall : ∀ v ∈ s.1, pv 46 v) :
    ∃ o, run (spec_l08Track_l8 s a y) (s.1, (0 : Int), s.2.2.1, ()) = some o ∧ ∃ (l : List (Vec 3 Nat)) (v : Vec 3 Nat), o = .inl (l, ((i + 1 : Nat) : Int), v, ()) ∧ (l.length : Int) = 1 + sT a.2.2.2.1 (i + 1) ∧ l.length ≤ 1 + 400 * (i + 1) ∧ pv 46 v ∧ ∀ v ∈ l, pv 46 v := by
  refine qfi (f := spec_l08Track_l8 s a y) (fun z => 0 ≤ z.2.1 ∧ z.2.1 ≤ a.2.2.2.1[i].1 ∧ (z.1.length : Int) = 1 + sT a.2.2.2.1 i + z.2.1 ∧ (z.1.length : Int) ≤ 1 + 400 * i + z.2.1 ∧ pv 46 z.2.2.1 ∧ ∀ v ∈ z.1, pv 46 v) (fun z => (a.2.2.2.1[i].1 - z.2.1).toNat) _ (fun z hz => ?_) (s := (s.1, (0 : Int), s.2.2.1, ())) ⟨Int.le_refl _, by show (0 : Int) ≤ _; omega, by show (s.1.length : Int) = 1 + sT a.2.2.2.1 i + 0; omega, by show (s.1.length : Int) ≤ 1 + 400 * i + 0; omega, hv, hall⟩
  obtain ⟨z1, z2, z3, ⟨⟩⟩ := z
  obtain ⟨h1, h2, h3, h4, h5, h6⟩ := hz
  simp only at h1 h2 h3 h4 h5 h6
  have e1 : inB s.2.1 a.2.2.2.1.length = true := by rw [hs]; exact qaf hi
  have e4 : a.2.2.2.1.getD s.2.1.toNat ((0, (0, 0, 0, ()), 0, 0, ()) : DLeg) = a.2.2.2.1[i] := by rw [hs, Int.toNat_natCast]; exact qau hi
  have e6 : iAdd .i64 s.2.1 1 = ((i + 1 : Nat) : Int) := by rw [hs]; exact qap hi (by omega)
  by_cases hlt : z2 < a.2.2.2.1[i].1
  · have e2 : iLt z2 a.2.2.2.1[i].1 = true := qah hlt
    have e3 : room (z1.length + 1) 12 = true := qbk (by omega)
    have e5 : iAdd .i64 z2 1 = z2 + 1 := qa8 (by omega) (by omega)
    have hp := qaa0 h5 hy
    simp only [spec_l08Track_l8, e1, e2, e3, e4, e5, cond_true, qpn, qdo, Option.bind_some, qn7 hp]
    refine .inl ⟨_, rfl, ⟨by show (0 : Int) ≤ z2 + 1; omega, by show z2 + 1 ≤ _; omega, ?_, ?_, hp, ?_⟩, ?_⟩
    · show ((z1 ++ [_]).length : Int) = 1 + sT a.2.2.2.1 i + (z2 + 1)
      rw [List.length_append, List.length_singleton]
      omega
    · show ((z1 ++ [_]).length : Int) ≤ 1 + 400 * i + (z2 + 1)
      rw [List.length_append, List.length_singleton]
      omega
    · intro v hv
      rcases List.mem_append.1 hv with hv | hv
      · exact h6 v hv
      · rw [List.mem_singleton.1 hv]; exact hp
    · show (a.2.2.2.1[i].1 - (z2 + 1)).toNat < (a.2.2.2.1[i].1 - z2).toNat
      omega
  · have e2 : iLt z2 a.2.2.2.1[i].1 = false := qag hlt
    simp only [spec_l08Track_l8, e1, e2, e4, e6, cond_true, cond_false]
    have := qpf hi
    exact .inr ⟨_, rfl, z1, z3, rfl, by omega, by omega, h5, h6⟩
theorem qun (a : DMission) (hm : missionB a = true) (hs : pv 46 a.2.1) (hx : ∀ x ∈ a.2.2.2.1, pv 20 (scaleV x.2.1 (fDiv .f32 1065353216 (fOfInt .f32 a.1)))) :
    ∃ l : List (Vec 3 Nat), spec_l08Track a = some ((l, 0, ()), ()) ∧ (l.length : Int) = 1 + sT a.2.2.2.1 a.2.2.2.1.length ∧ l.length ≤ 30000 ∧ ∀ v ∈ l, pv 46 v := by
  obtain ⟨hl, ht, _, _⟩ := qo6 hm
  have h : ∃ w, spec_l08Track a = some w ∧ ∃ l : List (Vec 3 Nat), w = ((l, 0, ()), ()) ∧ (l.length : Int) = 1 + sT a.2.2.2.1 a.2.2.2.1.length ∧ l.length ≤ 30000 ∧ ∀ v ∈ l, pv 46 v := by
    unfold spec_l08Track
    refine qfi (f := spec_l08Track_l4 a) (fun s => ∃ i : Nat, s.2.1 = i ∧ i ≤ a.2.2.2.1.length ∧ (s.1.length : Int) = 1 + sT a.2.2.2.1 i ∧ s.1.length ≤ 1 + 400 * i ∧ pv 46 s.2.2.1 ∧ ∀ v ∈ s.1, pv 46 v) (fun s => (a.2.2.2.1.length - s.2.1).toNat) _ (fun s hs => ?_) ⟨0, rfl, Nat.zero_le _, rfl, by simp, hs, by intro v hv; rw [List.mem_singleton.1 hv]; exact hs⟩
    obtain ⟨i, h1, h2, h3, h4, h5, h6⟩ := hs
    by_cases hlt : i < a.2.2.2.1.length
    · have e1 : iLt s.2.1 (lenI a.2.2.2.1) = true := qah (by rw [qaa]; omega)
      have e2 : inB s.2.1 a.2.2.2.1.length = true := by rw [h1]; exact qaf hlt
      have e4 : a.2.2.2.1.getD s.2.1.toNat ((0, (0, 0, 0, ()), 0, 0, ()) : DLeg) = a.2.2.2.1[i] := by rw [h1, Int.toNat_natCast]; exact qau hlt
      obtain ⟨o, ho, l, v, rfl, hn, hc, hv, hall⟩ := qt6 a s ((scaleV (((List.getD a.2.2.2.1 s.2.1.toNat ((0, (0, 0, 0, ()), 0, 0, ()) : DLeg)).2).1) (fDiv .f32 1065353216 (fOfInt .f32 a.1)), ()), ()) (by rw [e4]; exact hx _ (List.getElem_mem hlt)) i hlt h1 (ht _ (List.getElem_mem hlt)) hl h3 h4 h5 h6
      simp only [spec_l08Track_l4, e1, e2, qmw, Option.bind_some, cond_true, ho]
      exact .inl ⟨_, rfl, ⟨i + 1, rfl, hlt, hn, hc, hv, hall⟩, by show ((a.2.2.2.1.length : Int) - ((i + 1 : Nat) : Int)).toNat < ((a.2.2.2.1.length : Int) - s.2.1).toNat; omega⟩
    · have e1 : iLt s.2.1 (lenI a.2.2.2.1) = false := qag (by rw [qaa]; omega)
      simp only [spec_l08Track_l4, e1, cond_false]
      have : i = a.2.2.2.1.length := by omega
      exact .inr ⟨_, rfl, s.1, rfl, by rw [h3, this], by omega, h6⟩
  obtain ⟨w, h1, l, rfl, h2, h3⟩ := h
  exact ⟨l, h1, h2, h3⟩
end Go.Proofs.YtildomllnnnofaaGreat
