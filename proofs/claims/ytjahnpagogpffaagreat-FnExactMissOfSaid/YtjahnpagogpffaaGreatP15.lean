/- Functions of the program and of the reference in plain terms. -/
import Derived.Test.YtjahnpagogpffaaGreatP14
namespace Go.Proofs.YtjahnpagogpffaaGreat
open Go Go.Tm
set_option linter.unusedVariables false
set_option linter.unusedSimpArgs false
set_option linter.unusedSectionVars false
/-! ### ticks so far -/
abbrev zLeg : DLeg := (0, (0, 0, 0, ()), 0, 0, ())
def sT (l : List DLeg) : Nat → Int
  | 0 => 0
  | n + 1 => sT l n + (l.getD n zLeg).1
theorem sT_mono {l : List DLeg} (h : ∀ x ∈ l, 1 ≤ x.1) : ∀ (d i : Nat), i + d ≤ l.length → sT l i + d ≤ sT l (i + d)
  | 0, i, _ => by simp
  | d + 1, i, hi => by
    have := sT_mono h d i (by omega)
    have e : l.getD (i + d) zLeg = l[i + d]'(by omega) := getD_of (by omega)
    have h1 := h _ (List.getElem_mem (by omega : i + d < l.length))
    show _ ≤ sT l (i + d) + (l.getD (i + d) zLeg).1
    rw [e]
    omega
theorem sT_succ {l : List DLeg} {i : Nat} (hi : i < l.length) : sT l (i + 1) = sT l i + l[i].1 := by
  show sT l i + (l.getD i zLeg).1 = _
  rw [getD_of hi]

theorem legs_ok {a : DMission} (hm : missionB a = true) : a.2.2.2.1.length ≤ 64 ∧ (∀ x ∈ a.2.2.2.1, 1 ≤ x.1 ∧ x.1 ≤ 400) ∧ (∀ x ∈ a.2.2.2.1, legB (iSub .i64 (lenI a.2.2.1) 1) x = true) ∧ frameB a.1 a.2.1 a.2.2.1 = true := by
  simp only [missionB, Bool.and_eq_true, iLe_true, List.all_eq_true, lenI_eq] at hm
  obtain ⟨h0, h1, h2, _⟩ := hm
  refine ⟨by omega, fun x hx => ?_, h2, h0⟩
  have := h2 x hx
  simp only [legB, Bool.and_eq_true, iLe_true] at this
  exact this.1

theorem track_leg2 (a : DMission) (s : List (Vec 3 Nat) × Int × Vec 3 Nat × Unit) (y : (Vec 3 Nat × Unit) × Unit) (i : Nat) (hi : i < a.2.2.2.1.length) (hs : s.2.1 = i) (ht : 1 ≤ a.2.2.2.1[i].1 ∧ a.2.2.2.1[i].1 ≤ 400) (hl : a.2.2.2.1.length ≤ 64) (hn : (s.1.length : Int) = 1 + sT a.2.2.2.1 i) (hc : s.1.length ≤ 1 + 400 * i) :
    ∃ o, run (spec_l08Track_l8 s a y) (s.1, (0 : Int), s.2.2.1, ()) = some o ∧ ((∃ (l : List (Vec 3 Nat)) (v : Vec 3 Nat), o = .inl (l, ((i + 1 : Nat) : Int), v, ()) ∧ (l.length : Int) = 1 + sT a.2.2.2.1 (i + 1) ∧ l.length ≤ 1 + 400 * (i + 1)) ∨ o = .inr (([], 4, ()), ())) := by
  refine run_inv (f := spec_l08Track_l8 s a y) (fun z => 0 ≤ z.2.1 ∧ z.2.1 ≤ a.2.2.2.1[i].1 ∧ (z.1.length : Int) = 1 + sT a.2.2.2.1 i + z.2.1 ∧ (z.1.length : Int) ≤ 1 + 400 * i + z.2.1) (fun z => (a.2.2.2.1[i].1 - z.2.1).toNat) _ (fun z hz => ?_) (s := (s.1, (0 : Int), s.2.2.1, ())) ⟨Int.le_refl _, by show (0 : Int) ≤ _; omega, by show (s.1.length : Int) = 1 + sT a.2.2.2.1 i + 0; omega, by show (s.1.length : Int) ≤ 1 + 400 * i + 0; omega⟩
  obtain ⟨z1, z2, z3, ⟨⟩⟩ := z
  obtain ⟨h1, h2, h3, h4⟩ := hz
  simp only at h1 h2 h3 h4
  have e1 : inB s.2.1 a.2.2.2.1.length = true := by rw [hs]; exact inB_pos hi
  have e4 : a.2.2.2.1.getD s.2.1.toNat ((0, (0, 0, 0, ()), 0, 0, ()) : DLeg) = a.2.2.2.1[i] := by rw [hs, Int.toNat_natCast]; exact getD_of hi
  have e6 : iAdd .i64 s.2.1 1 = ((i + 1 : Nat) : Int) := by rw [hs]; exact iAdd_one hi (by omega)
  by_cases hlt : z2 < a.2.2.2.1[i].1
  · have e2 : iLt z2 a.2.2.2.1[i].1 = true := iLt_pos hlt
    have e3 : room (z1.length + 1) 12 = true := room_pos (by omega)
    have e5 : iAdd .i64 z2 1 = z2 + 1 := iAdd_eq (by omega) (by omega)
    simp only [spec_l08Track_l8, e1, e2, e3, e4, e5, cond_true, spec_AddVec_ok, spec_l01Vec_ok, Option.bind_some]
    cases finV (addV z3 y.1.1)
    · exact .inr ⟨_, rfl, .inr rfl⟩
    · refine .inl ⟨_, rfl, ⟨by show (0 : Int) ≤ z2 + 1; omega, by show z2 + 1 ≤ _; omega, ?_, ?_⟩, ?_⟩
      · show ((z1 ++ [_]).length : Int) = 1 + sT a.2.2.2.1 i + (z2 + 1)
        rw [List.length_append, List.length_singleton]
        omega
      · show ((z1 ++ [_]).length : Int) ≤ 1 + 400 * i + (z2 + 1)
        rw [List.length_append, List.length_singleton]
        omega
      · show (a.2.2.2.1[i].1 - (z2 + 1)).toNat < (a.2.2.2.1[i].1 - z2).toNat
        omega
  · have e2 : iLt z2 a.2.2.2.1[i].1 = false := iLt_neg hlt
    simp only [spec_l08Track_l8, e1, e2, e4, e6, cond_true, cond_false]
    have := sT_succ hi
    exact .inr ⟨_, rfl, .inl ⟨z1, z3, rfl, by omega, by omega⟩⟩

theorem track_run2 (a : DMission) (hm : missionB a = true) : ∃ (l : List (Vec 3 Nat)) (k : Int), spec_l08Track a = some ((l, k, ()), ()) ∧ (k = 0 → (l.length : Int) = 1 + sT a.2.2.2.1 a.2.2.2.1.length) ∧ l.length ≤ 30000 := by
  obtain ⟨hl, hx, _, _⟩ := legs_ok hm
  have h : ∃ w, spec_l08Track a = some w ∧ ∃ (l : List (Vec 3 Nat)) (k : Int), w = ((l, k, ()), ()) ∧ (k = 0 → (l.length : Int) = 1 + sT a.2.2.2.1 a.2.2.2.1.length) ∧ l.length ≤ 30000 := by
    unfold spec_l08Track
    refine run_inv (f := spec_l08Track_l4 a) (fun s => ∃ i : Nat, s.2.1 = i ∧ i ≤ a.2.2.2.1.length ∧ (s.1.length : Int) = 1 + sT a.2.2.2.1 i ∧ s.1.length ≤ 1 + 400 * i) (fun s => (a.2.2.2.1.length - s.2.1).toNat) _ (fun s hs => ?_) ⟨0, rfl, Nat.zero_le _, rfl, by simp⟩
    obtain ⟨i, h1, h2, h3, h4⟩ := hs
    by_cases hlt : i < a.2.2.2.1.length
    · have e1 : iLt s.2.1 (lenI a.2.2.2.1) = true := iLt_pos (by rw [lenI_eq]; omega)
      have e2 : inB s.2.1 a.2.2.2.1.length = true := by rw [h1]; exact inB_pos hlt
      obtain ⟨o, ho, hq⟩ := track_leg2 a s ((scaleV (((List.getD a.2.2.2.1 s.2.1.toNat ((0, (0, 0, 0, ()), 0, 0, ()) : DLeg)).2).1) (fDiv .f32 1065353216 (fOfInt .f32 a.1)), ()), ()) i hlt h1 (hx _ (List.getElem_mem hlt)) hl h3 h4
      simp only [spec_l08Track_l4, e1, e2, spec_ScaleVec_ok, Option.bind_some, cond_true, ho]
      rcases hq with ⟨l, v, rfl, hn, hc⟩ | rfl
      · exact .inl ⟨_, rfl, ⟨i + 1, rfl, hlt, hn, hc⟩, by show ((a.2.2.2.1.length : Int) - ((i + 1 : Nat) : Int)).toNat < ((a.2.2.2.1.length : Int) - s.2.1).toNat; omega⟩
      · exact .inr ⟨_, rfl, [], 4, rfl, fun q => absurd q (by decide), by simp⟩
    · have e1 : iLt s.2.1 (lenI a.2.2.2.1) = false := iLt_neg (by rw [lenI_eq]; omega)
      simp only [spec_l08Track_l4, e1, cond_false]
      have : i = a.2.2.2.1.length := by omega
      exact .inr ⟨_, rfl, s.1, 0, rfl, fun _ => by rw [h3, this], by omega⟩
  obtain ⟨w, h1, l, k, rfl, h2, h3⟩ := h
  exact ⟨l, k, h1, h2, h3⟩

theorem impl_TrackOf_same (a : DMission) (h : Sized TyMission a) (hm : missionB a = true) : impl_TrackOf a = spec_l08Track a := by
  obtain ⟨l, k, h1, _⟩ := track_run2 a hm
  have h1' := h1
  unfold spec_l08Track at h1
  simp only [impl_TrackOf, impl_ValidMission_ok a h, hm, Option.bind_some, track_eq, Bool.not_true, cond_false, h1, h1']

/-! ### noise -/
theorem u32_range (z : Int) : 0 ≤ IntKind.u32.wrap z ∧ IntKind.u32.wrap z < 4294967296 := by
  simp only [IntKind.wrap, IntKind.signed, IntKind.bits]
  constructor <;> simp <;> omega
theorem i16_range (z : Int) : -32768 ≤ iWrap .i16 z ∧ iWrap .i16 z ≤ 32767 := by
  simp only [iWrap, IntKind.wrap, IntKind.signed, IntKind.bits]
  constructor <;> simp <;> omega
theorem shr_eq {x : Int} (h0 : 0 ≤ x) (h1 : x < 4294967296) : iWrap .i64 (iShr .u32 x 16) = x / 65536 := by
  have e : iShr .u32 x 16 = x / 65536 := by
    show x.fdiv (2 ^ (min (16 : Int).toNat 32)) = _
    rw [show ((2 : Int) ^ (min (16 : Int).toNat 32)) = 65536 by decide, Int.fdiv_eq_ediv_of_nonneg _ (by decide)]
  rw [e, wrap_i64 (by omega) (by omega)]
theorem quo_eq {x : Int} (h0 : 0 ≤ x) (h1 : x < 4294967296) : iQuo .u32 x 65536 = x / 65536 := by
  show IntKind.u32.wrap (x.tdiv 65536) = _
  rw [Int.tdiv_eq_ediv_of_nonneg h0]
  simp only [IntKind.wrap, IntKind.signed, IntKind.bits]
  simp
  omega
theorem rem_nine {x : Int} (h0 : 0 ≤ x) (k : IntKind) : iRem k x 9 = x % 9 := Int.tmod_eq_emod_of_nonneg h0
theorem noise_shr {x : Int} (h0 : 0 ≤ x) (h1 : x < 4294967296) : iRem .i64 (iWrap .i64 (iShr .u32 x 16)) 9 = x / 65536 % 9 := by rw [shr_eq h0 h1, rem_nine (by omega)]
theorem noise_quo {x : Int} (h0 : 0 ≤ x) (h1 : x < 4294967296) : iRem .i64 (iWrap .i64 (iQuo .u32 x 65536)) 9 = x / 65536 % 9 := by rw [quo_eq h0 h1, wrap_i64 (by omega) (by omega), rem_nine (by omega)]
theorem noise_rem {x : Int} (h0 : 0 ≤ x) (h1 : x < 4294967296) : iWrap .i64 (iRem .u32 (iQuo .u32 x 65536) 9) = x / 65536 % 9 := by rw [quo_eq h0 h1, rem_nine (by omega), wrap_i64 (by omega) (by omega)]

theorem l00Min_ok (a b : Int) : spec_l00Min a b = some ((min a b, ()), ()) := by
  unfold spec_l00Min
  by_cases h : a < b
  · rw [iLt_pos h, cond_true, Int.min_eq_left (by omega)]
  · rw [iLt_neg h, cond_false, Int.min_eq_right (by omega)]
theorem clamp_eq (v : Int) : min 32767 (max (-32768) v) = max (-32768) (min 32767 v) := by omega

def nx (s : Int) : Int := iAdd .u32 (iMul .u32 1664525 s) 1013904223
theorem nx_range (s : Int) : 0 ≤ nx s ∧ nx s < 4294967296 := u32_range _

theorem shake_two (v : Vec 3 Int) (s : Int) : ∃ (u : Vec 3 Int) (s' : Int), impl_ShakeCounts v s 4 = some ((u, s', 0, ()), ()) ∧ spec_ShakeCounts v s 4 = some ((u, s', 0, ()), ()) ∧ Fit (.arr 3 (.int .i16)) u ∧ 0 ≤ s' ∧ s' < 4294967296 := by
  have c1 : iLt 4 0 = false := by decide
  have c2 : iAdd .i64 (iMul .i64 2 (iWrap .i64 4)) 1 = 9 := by decide
  have c3 : iEq 9 0 = false := by decide
  have hx : ∀ z, iAdd .u32 (iMul .u32 1664525 z) 1013904223 = nx z := fun _ => rfl
  have r1 := nx_range s
  have r2 := nx_range (nx s)
  have r3 := nx_range (nx (nx s))
  refine ⟨((iWrap .i16 (max (-32768) (min 32767 (iAdd .i64 (iWrap .i64 (Vec.getD 3 v 0 (0 : Int))) (iSub .i64 (nx s / 65536 % 9) (iWrap .i64 4)))))), (iWrap .i16 (max (-32768) (min 32767 (iAdd .i64 (iWrap .i64 (Vec.getD 3 v 1 (0 : Int))) (iSub .i64 (nx (nx s) / 65536 % 9) (iWrap .i64 4)))))), (iWrap .i16 (max (-32768) (min 32767 (iAdd .i64 (iWrap .i64 (Vec.getD 3 v 2 (0 : Int))) (iSub .i64 (nx (nx (nx s)) / 65536 % 9) (iWrap .i64 4)))))), ()), nx (nx (nx s)), ?_, ?_, ⟨i16_range _, i16_range _, i16_range _, trivial⟩, r3⟩
  · simp only [impl_ShakeCounts, c1, c2, c3, hx, noise_shr r1.1 r1.2, noise_shr r2.1 r2.2, noise_shr r3.1 r3.2, iMin_eq, iMax_eq, clamp_eq, cond_false]
    rfl
  · simp only [spec_ShakeCounts, c1, c2, c3, hx, noise_quo r1.1 r1.2, noise_quo r2.1 r2.2, noise_quo r3.1 r3.2, l00Min_ok, l00Max_ok, Option.bind_some, cond_false]

abbrev dSen : Vec 3 Nat × (Vec 3 Nat × (Int × (Int × Unit))) := ((1031798784, 1031798784, 1031798784, ()), (0, 0, 0, ()), 1, 0, ())
theorem sens_ok : spec_l04Sensor dSen = some ((true, ()), ()) := by kernel_rfl
theorem countsOf_two (p : Vec 3 Nat) : ∃ u : Vec 3 Int, impl_countsOf dSen p = some ((u, ()), ()) ∧ spec_CountsOf dSen p = some ((u, 0, ()), ()) := by
  obtain ⟨n0, a0, b0, _⟩ := count_two (fDiv .f32 (fSub .f32 (Vec.getD 3 p 0 (0 : Nat)) (Vec.getD 3 dSen.2.1 0 (0 : Nat))) (Vec.getD 3 dSen.1 0 (0 : Nat)))
  obtain ⟨n1, a1, b1, _⟩ := count_two (fDiv .f32 (fSub .f32 (Vec.getD 3 p 1 (0 : Nat)) (Vec.getD 3 dSen.2.1 1 (0 : Nat))) (Vec.getD 3 dSen.1 1 (0 : Nat)))
  obtain ⟨n2, a2, b2, _⟩ := count_two (fDiv .f32 (fSub .f32 (Vec.getD 3 p 2 (0 : Nat)) (Vec.getD 3 dSen.2.1 2 (0 : Nat))) (Vec.getD 3 dSen.1 2 (0 : Nat)))
  refine ⟨(n0, n1, n2, ()), ?_, ?_⟩
  · simp only [impl_countsOf, a0, a1, a2, Option.bind_some]
  · simp only [spec_CountsOf, spec_l04Counts, sens_ok, b0, b1, b2, Option.bind_some, Bool.not_true, cond_false]

/-! ### a mission's log -/
theorem entry_move (n : Int) : entryB n (1, (0, 0, 0, ()), (0, 0, 0, ()), 0, 0, ()) = true := by kernel_rfl
theorem entry_speed (n : Int) (v : Vec 3 Nat) : entryB n (2, v, (0, 0, 0, ()), 0, 0, ()) = finV v := by kernel_rfl
theorem entry_fix (n : Int) (v : Vec 3 Int) : entryB n (3, (0, 0, 0, ()), v, 0, 0, ()) = true := by kernel_rfl
theorem entry_range (n i : Int) (x : Nat) : entryB n (4, (0, 0, 0, ()), (0, 0, 0, ()), i, x, ()) = ((iLe 0 i && iLe i (iSub .i64 n 1)) && (true && (true && finB x))) := by kernel_rfl

theorem runSub (a b : Vec 3 Nat) : impl_SubVec a b = spec_SubVec a b := by kernel_rfl
def dotR (a b : Vec 3 Nat) : Nat := fAdd .f32 (fAdd .f32 (fMul .f32 (Vec.getD 3 a 0 (0 : Nat)) (Vec.getD 3 b 0 (0 : Nat))) (fMul .f32 (Vec.getD 3 a 1 (0 : Nat)) (Vec.getD 3 b 1 (0 : Nat)))) (fMul .f32 (Vec.getD 3 a 2 (0 : Nat)) (Vec.getD 3 b 2 (0 : Nat)))
theorem runLen (a : Vec 3 Nat) : impl_LengthOf a = some ((rootF (dotR a a), ()), ()) := by
  have e : impl_DotVec a a = some ((dotR a a, ()), ()) := by
    simp only [impl_DotVec, sum3_3, Option.bind_some]
    rfl
  simp only [impl_LengthOf, e, impl_root_ok, Option.bind_some]
theorem runLenS (a : Vec 3 Nat) : spec_LengthOf a = some ((rootF (dotR a a), ()), ()) := by
  have e : spec_l01Dot a a = some ((dotR a a, ()), ()) := rfl
  simp only [spec_LengthOf, e, spec_l01Root_ok, Option.bind_some]
theorem runFin (x : Nat) : impl_isFinite [x] = some ((finB x, ()), ()) := by rw [impl_isFinite_ok _ (by simp)]; simp

def GoodE (n : Int) (e : DEntry) : Prop := entryB n e = true ∧ Fit (.arr 3 (.int .i16)) e.2.2.1
theorem fit_zero3 : Fit (.arr 3 (.int .i16)) ((0, 0, 0, ()) : Vec 3 Int) := ⟨⟨by decide, by decide⟩, ⟨by decide, by decide⟩, ⟨by decide, by decide⟩, trivial⟩
def GoodL (a : DMission) (c : Int) (g : DLog) : Prop := g.1 = a.1 ∧ g.2.1 = a.2.1 ∧ g.2.2.1 = a.2.2.1 ∧ (g.2.2.2.1.length : Int) ≤ c ∧ ∀ e ∈ g.2.2.2.1, GoodE (lenI a.2.2.1) e
theorem GoodL.add {a : DMission} {c : Int} {g : DLog} (h : GoodL a c g) {e : DEntry} (he : GoodE (lenI a.2.2.1) e) : GoodL a (c + 1) (g.1, g.2.1, g.2.2.1, g.2.2.2.1 ++ [e], g.2.2.2.2) := by
  refine ⟨h.1, h.2.1, h.2.2.1, ?_, fun x hx => ?_⟩
  · show ((g.2.2.2.1 ++ [e]).length : Int) ≤ c + 1
    rw [List.length_append, List.length_singleton]
    have := h.2.2.2.1
    omega
  · rcases List.mem_append.1 hx with q | q
    · exact h.2.2.2.2 x q
    · rw [List.mem_singleton.1 q]; exact he
theorem GoodL.le {a : DMission} {c d : Int} {g : DLog} (h : GoodL a c g) (hd : c ≤ d) : GoodL a d g := ⟨h.1, h.2.1, h.2.2.1, by have := h.2.2.2.1; omega, h.2.2.2.2⟩

abbrev zLog : DLog := (0, (0, 0, 0, ()), [], [], ())
abbrev DRun := Int × Int × Int × DLog × Unit
abbrev DRan := (DLog × Int × Unit) × Unit

/-- one leg -/
theorem leg_two (a : DMission) (hm : missionB a = true) (hmk : a.2.2.1.length ≤ 140737488355328) {L : List (Vec 3 Nat)} (hL : (L.length : Int) = 1 + sT a.2.2.2.1 a.2.2.2.1.length) (hL2 : L.length ≤ 30000) {i : Nat} (hi : i < a.2.2.2.1.length) {s0 s1 : Int} {g0 g1 : DLog} (hg : GoodL a (1000 * i + 1) g1) (h0 : 0 ≤ s1) (h1 : s1 < 4294967296) (n0 : Int) :
    ∃ o : DRun ⊕ DRan, run (impl_RunMission_l11 a.2.2.2.1[i] ((L, 0, ()), ()) (s0, n0, (i : Int), g0, ()) a) (s1, sT a.2.2.2.1 i, (1 : Int), g1, ()) = some o ∧ run (spec_l08Run_l12 a.2.2.2.1[i] ((L, 0, ()), ()) (s0, n0, (i : Int), g0, ()) a) (s1, sT a.2.2.2.1 i, (1 : Int), g1, ()) = some o ∧
      ((∃ (s' : Int) (g' : DLog), o = .inl (s', sT a.2.2.2.1 (i + 1), ((i + 1 : Nat) : Int), g', ()) ∧ 0 ≤ s' ∧ s' < 4294967296 ∧ GoodL a (1000 * (i + 1)) g') ∨ o = .inr ((zLog, 4, ()), ())) := by
  obtain ⟨hl, hx, hx2, _⟩ := legs_ok hm
  have hx1 : ∀ x ∈ a.2.2.2.1, 1 ≤ x.1 := fun x q => (hx x q).1
  have ht := hx _ (List.getElem_mem hi)
  have hleg := hx2 _ (List.getElem_mem hi)
  simp only [legB, Bool.and_eq_true, iLe_true] at hleg
  obtain ⟨_, _, hev, hmark⟩ := hleg
  have hS := sT_succ hi
  have hmono := sT_mono hx1 (a.2.2.2.1.length - (i + 1)) (i + 1) (by omega)
  rw [show i + 1 + (a.2.2.2.1.length - (i + 1)) = a.2.2.2.1.length by omega] at hmono
  have hpos := sT_mono hx1 i 0 (by omega)
  rw [Nat.zero_add] at hpos
  have hz : sT a.2.2.2.1 0 = 0 := rfl
  have emk : iSub .i64 (lenI a.2.2.1) 1 = lenI a.2.2.1 - 1 := iSub_eq (by rw [lenI_eq]; omega) (by rw [lenI_eq]; omega)
  rw [emk] at hmark
  generalize hX : a.2.2.2.1[i] = X at *
  obtain ⟨o, o', r1, r2, rfl, hq⟩ := run_two (f := impl_RunMission_l11 X ((L, 0, ()), ()) (s0, n0, (i : Int), g0, ()) a) (g := spec_l08Run_l12 X ((L, 0, ()), ()) (s0, n0, (i : Int), g0, ()) a)
    (fun s t => s = t ∧ ∃ (sd k : Int) (g : DLog), s = (sd, sT a.2.2.2.1 i + (k - 1), k, g, ()) ∧ 0 ≤ sd ∧ sd < 4294967296 ∧ 1 ≤ k ∧ k ≤ X.1 + 1 ∧ GoodL a (1000 * i + 1 + 2 * (k - 1)) g) (fun s => (X.1 + 1 - s.2.2.1).toNat)
    (fun o o' : DRun ⊕ DRan => o = o' ∧ ((∃ (s' : Int) (g' : DLog), o = .inl (s', sT a.2.2.2.1 (i + 1), ((i + 1 : Nat) : Int), g', ()) ∧ 0 ≤ s' ∧ s' < 4294967296 ∧ GoodL a (1000 * (i + 1)) g') ∨ o = .inr ((zLog, 4, ()), ()))) (fun s t hR => by
      obtain ⟨rfl, sd, k, g, rfl, hs0, hs1, hk1, hk2, hG⟩ := hR
      have hlen := hG.2.2.2.1
      by_cases hk : k ≤ X.1
      · have e1 : iLe k X.1 = true := iLe_pos hk
        have e2 : iAdd .i64 (sT a.2.2.2.1 i + (k - 1)) 1 = sT a.2.2.2.1 i + (k + 1 - 1) := by rw [iAdd_eq (by omega) (by omega)]; omega
        have e3 : room (g.2.2.2.1.length + 1) 48 = true := room_pos (by omega)
        have e4 : iAdd .i64 k 1 = k + 1 := iAdd_eq (by omega) (by omega)
        have e5 : inB (sT a.2.2.2.1 i + (k + 1 - 1)) L.length = true := inB_int (by omega) (by omega)
        have G1 := hG.add (e := (1, (0, 0, 0, ()), (0, 0, 0, ()), 0, 0, ())) ⟨entry_move _, fit_zero3⟩
        have e6 : room ((g.2.2.2.1 ++ [((1, (0, 0, 0, ()), (0, 0, 0, ()), 0, 0, ()) : DEntry)]).length + 1) 48 = true := room_pos (by rw [List.length_append, List.length_singleton]; omega)
        have done : ∀ (sd' : Int) (g' : DLog), 0 ≤ sd' → sd' < 4294967296 → GoodL a (1000 * i + 1 + 2 * (k + 1 - 1)) g' → (∃ (s' t' : DRun), (some (.inl (sd', sT a.2.2.2.1 i + (k + 1 - 1), k + 1, g', ())) : Option (DRun ⊕ (DRun ⊕ DRan))) = some (.inl s') ∧ (some (.inl (sd', sT a.2.2.2.1 i + (k + 1 - 1), k + 1, g', ())) : Option (DRun ⊕ (DRun ⊕ DRan))) = some (.inl t') ∧ (s' = t' ∧ ∃ (sd k : Int) (g : DLog), s' = (sd, sT a.2.2.2.1 i + (k - 1), k, g, ()) ∧ 0 ≤ sd ∧ sd < 4294967296 ∧ 1 ≤ k ∧ k ≤ X.1 + 1 ∧ GoodL a (1000 * i + 1 + 2 * (k - 1)) g) ∧ (X.1 + 1 - s'.2.2.1).toNat < (X.1 + 1 - k).toNat) := fun sd' g' q1 q2 q3 =>
          ⟨_, _, rfl, rfl, ⟨rfl, sd', k + 1, g', rfl, q1, q2, by omega, by omega, q3⟩, by show (X.1 + 1 - (k + 1)).toNat < (X.1 + 1 - k).toNat; omega⟩
        left
        simp only [impl_RunMission_l11, spec_l08Run_l12, e1, e2, e3, e4, cond_true]
        cases he : iEq X.2.2.1 0 with
        | true =>
          have e7 : iLt 0 X.2.2.1 = false := iLt_neg (by have := iEq_true.1 he; omega)
          simp only [e7, cond_true, cond_false]
          exact done _ _ hs0 hs1 (G1.le (by omega))
        | false =>
          have e7 : iLt 0 X.2.2.1 = true := iLt_pos (by have := iEq_false.1 he; omega)
          simp only [e7, cond_true, cond_false]
          cases hr : iEq (iRem .i64 k X.2.2.1) 0 with
          | false =>
            simp only [Bool.not_false, cond_true, cond_false]
            exact done _ _ hs0 hs1 (G1.le (by omega))
          | true =>
            obtain ⟨u, c1, c2⟩ := countsOf_two (L.getD (sT a.2.2.2.1 i + (k + 1 - 1)).toNat ((0, 0, 0, ()) : Vec 3 Nat))
            obtain ⟨v, sd', k1, k2, k3, k4, k5⟩ := shake_two u sd
            have f1 : impl_FixSensor = some ((dSen, ()), ()) := rfl
            have f2 : spec_l08Sensor = some ((dSen, ()), ()) := rfl
            simp only [f1, f2, e5, c1, c2, k1, k2, e6, Bool.not_true, Option.bind_some, cond_true, cond_false]
            exact done _ _ k4 k5 ((G1.add (e := (3, (0, 0, 0, ()), v, 0, 0, ())) ⟨entry_fix _ _, k3⟩).le (by omega))
      · have e1 : iLe k X.1 = false := iLe_neg hk
        have hk' : k = X.1 + 1 := by omega
        have e4 : iAdd .i64 (i : Int) 1 = ((i + 1 : Nat) : Int) := iAdd_one hi (by omega)
        have en : sT a.2.2.2.1 i + (k - 1) = sT a.2.2.2.1 (i + 1) := by omega
        right
        simp only [impl_RunMission_l11, spec_l08Run_l12, e1, e4, en, cond_false]
        cases hmk0 : iLt X.2.2.2.1 0 with
        | true =>
          simp only [cond_true, Option.map_some]
          exact ⟨_, _, rfl, rfl, rfl, .inl ⟨sd, _, rfl, hs0, hs1, hG.le (by omega)⟩⟩
        | false =>
          have hm0 : 0 ≤ X.2.2.2.1 := by
            apply Classical.byContradiction
            intro q
            rw [iLt_pos (by omega)] at hmk0
            cases hmk0
          have hm1 := hmark.2
          rw [lenI_eq] at hm1
          have e5 : inB (sT a.2.2.2.1 (i + 1)) L.length = true := inB_int (by omega) (by omega)
          have e6 : inB X.2.2.2.1 a.2.2.1.length = true := inB_int hm0 (by omega)
          have e7 : room (g.2.2.2.1.length + 1) 48 = true := room_pos (by omega)
          have hxx : iAdd .u32 (iMul .u32 1664525 sd) 1013904223 = nx sd := rfl
          have rr := nx_range sd
          have hsub : ∃ m, spec_SubVec (L.getD (sT a.2.2.2.1 (i + 1)).toNat ((0, 0, 0, ()) : Vec 3 Nat)) (a.2.2.1.getD X.2.2.2.1.toNat ((0, 0, 0, ()) : Vec 3 Nat)) = some ((m, ()), ()) := ⟨_, rfl⟩
          obtain ⟨m, hsub⟩ := hsub
          simp only [e5, e6, hxx, runSub, hsub, runLen, runLenS, noise_shr rr.1 rr.2, noise_rem rr.1 rr.2, runFin, spec_l01Finite_ok, Option.bind_some, cond_true, cond_false]
          generalize hV : fAdd .f32 (rootF (dotR m m)) (fDiv .f32 (fOfInt .f32 (iSub .i64 (nx sd / 65536 % 9) 4)) 1098907648) = V
          cases hf : finB V with
          | false =>
            simp only [Bool.not_false, cond_true, Option.map_some]
            exact ⟨_, _, rfl, rfl, rfl, .inr rfl⟩
          | true =>
            simp only [e7, Bool.not_true, cond_true, cond_false, Option.map_some]
            refine ⟨_, _, rfl, rfl, rfl, .inl ⟨nx sd, _, rfl, rr.1, rr.2, ((hG.add (e := (4, (0, 0, 0, ()), (0, 0, 0, ()), X.2.2.2.1, V, ())) ⟨?_, fit_zero3⟩).le (by omega))⟩⟩
            rw [entry_range, emk, hf, iLe_pos hm0, iLe_pos (by rw [lenI_eq]; omega)]
            rfl) ⟨rfl, s1, 1, g1, by rw [show sT a.2.2.2.1 i + ((1 : Int) - 1) = sT a.2.2.2.1 i by omega], h0, h1, by omega, by omega, hg.le (by omega)⟩
  exact ⟨o, r1, r2, hq⟩

theorem runM_two (a : DMission) (hsz : Sized TyMission a) (hm : missionB a = true) {sd : Int} (h0 : 0 ≤ sd) (h1 : sd < 4294967296) (hmk : a.2.2.1.length * 12 ≤ 140737488351232) :
    ∃ (g : DLog) (k : Int), impl_RunMission a sd = some ((g, k, ()), ()) ∧ spec_l08Run a sd = some ((g, k, ()), ()) ∧ ((k = 0 ∧ GoodL a 1200 g) ∨ (k ≠ 0 ∧ g = zLog)) := by
  obtain ⟨L, k, t1, t2, t3⟩ := track_run2 a hm
  have t4 := impl_TrackOf_same a hsz hm
  have c1 := slices_Clone_impl_Vec_ok a.2.2.1 (by omega)
  have c2 : room (0 + a.2.2.1.length) 12 = true := room_pos (by omega)
  simp only [impl_RunMission, spec_l08Run, t4, t1, c1, c2, Option.bind_some, List.nil_append, cond_true]
  cases hk : iEq k 0 with
  | false => exact ⟨zLog, k, rfl, rfl, .inr ⟨iEq_false.1 hk, rfl⟩⟩
  | true =>
    have hk0 : k = 0 := iEq_true.1 hk
    subst hk0
    have hL := t2 rfl
    obtain ⟨hl, hx, hx2, _⟩ := legs_ok hm
    simp only [Bool.not_true, cond_false]
    obtain ⟨o, o', r1, r2, rfl, hq⟩ := run_two (f := impl_RunMission_l7 a ((L, 0, ()), ())) (g := spec_l08Run_l7 a ((L, 0, ()), ()))
      (fun s t => s = t ∧ ∃ (i : Nat) (sd : Int) (g : DLog), s = (sd, sT a.2.2.2.1 i, (i : Int), g, ()) ∧ i ≤ a.2.2.2.1.length ∧ 0 ≤ sd ∧ sd < 4294967296 ∧ GoodL a (1000 * i) g) (fun s => (a.2.2.2.1.length - s.2.2.1).toNat)
      (fun o o' : DRan => o = o' ∧ ∃ (g : DLog) (k : Int), o = ((g, k, ()), ()) ∧ ((k = 0 ∧ GoodL a 1200 g) ∨ (k ≠ 0 ∧ g = zLog))) (fun s t hR => by
        obtain ⟨rfl, i, sd, g, rfl, hi, q0, q1, hG⟩ := hR
        have hlen := hG.2.2.2.1
        by_cases hlt : i < a.2.2.2.1.length
        · have e1 : iLt (i : Int) (lenI a.2.2.2.1) = true := iLt_pos (by rw [lenI_eq]; omega)
          have e2 : inB (i : Int) a.2.2.2.1.length = true := inB_pos hlt
          have e3 : room (g.2.2.2.1.length + 1) 48 = true := room_pos (by omega)
          have e4 : a.2.2.2.1.getD i ((0, (0, 0, 0, ()), 0, 0, ()) : DLeg) = a.2.2.2.1[i] := getD_of hlt
          have hv : finV a.2.2.2.1[i].2.1 = true := by
            have := hx2 _ (List.getElem_mem hlt)
            simp only [legB, Bool.and_eq_true] at this
            exact this.2.1
          have hG1 := hG.add (e := (2, a.2.2.2.1[i].2.1, (0, 0, 0, ()), 0, 0, ())) ⟨(entry_speed _ _).trans hv, fit_zero3⟩
          obtain ⟨o, r1, r2, hq⟩ := leg_two a hm (by omega) hL t3 hlt (s0 := sd) (g0 := g) hG1 q0 q1 (sT a.2.2.2.1 i)
          simp only [impl_RunMission_l7, spec_l08Run_l7, e1, e2, e3, e4, Int.toNat_natCast, cond_true]
          rw [r1, r2]
          rcases hq with ⟨s', g', rfl, p0, p1, p2⟩ | rfl
          · exact .inl ⟨_, _, rfl, rfl, ⟨rfl, i + 1, s', g', rfl, hlt, p0, p1, p2.le (by omega)⟩, by show ((a.2.2.2.1.length : Int) - ((i + 1 : Nat) : Int)).toNat < ((a.2.2.2.1.length : Int) - (i : Int)).toNat; omega⟩
          · exact .inr ⟨_, _, rfl, rfl, rfl, zLog, 4, rfl, .inr ⟨by decide, rfl⟩⟩
        · have e1 : iLt (i : Int) (lenI a.2.2.2.1) = false := iLt_neg (by rw [lenI_eq]; omega)
          right
          simp only [impl_RunMission_l7, spec_l08Run_l7, e1, cond_false]
          cases hc : iLt 1200 (lenI g.2.2.2.1) with
          | true => exact ⟨_, _, rfl, rfl, rfl, zLog, 3, rfl, .inr ⟨by decide, rfl⟩⟩
          | false =>
            have hc' : (g.2.2.2.1.length : Int) ≤ 1200 := by
              apply Classical.byContradiction
              intro q
              rw [iLt_pos (by rw [lenI_eq]; omega)] at hc
              cases hc
            exact ⟨_, _, rfl, rfl, rfl, g, 0, rfl, .inl ⟨rfl, hG.1, hG.2.1, hG.2.2.1, hc', hG.2.2.2.2⟩⟩) (s := (sd, (0 : Int), (0 : Int), ((a.1, a.2.1, a.2.2.1, [], ()) : DLog), ())) ⟨rfl, 0, sd, _, rfl, Nat.zero_le _, h0, h1, rfl, rfl, rfl, Int.le_refl _, fun e he => by cases he⟩
    obtain ⟨g, k, rfl, hq⟩ := hq
    exact ⟨g, k, r1, r2, hq⟩

theorem good_sized {a : DMission} (hsz : Sized TyMission a) {g : DLog} (h : GoodL a 1200 g) : Sized TyLog g := by
  refine ⟨sized_flat (t := .int .i64) rfl g.1, sized_flat (t := TyVec) rfl g.2.1, ?_, sized_list (t := TyEntry) rfl (l := g.2.2.2.1) (Nat.le_trans (Int.ofNat_le.1 h.2.2.2.1) (by decide)), trivial⟩
  rw [h.2.2.1]
  exact hsz.2.2.1
end Go.Proofs.YtjahnpagogpffaaGreat
