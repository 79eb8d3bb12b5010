/- Functions of the program and of the reference in plain terms. -/
import Derived.Test.YtildomllnnnofaaGreatDoorP14
namespace Go.Proofs.YtildomllnnnofaaGreatDoor
open Go Go.Tm
set_option linter.unusedVariables false
set_option linter.unusedSimpArgs false
set_option linter.unusedSectionVars false
/-! ### ticks so far -/
abbrev zLeg : DLeg := (0, (0, 0, 0, ()), 0, 0, ())
def sT (l : List DLeg) : Nat → Int
  | 0 => 0
  | n + 1 => sT l n + (l.getD n zLeg).1
theorem sT_mono {l : List DLeg} (h : ∀ x ∈ l, 1 ≤ x.1) : ∀ (d i : Nat), i + d ≤ l.length → sT l i + d ≤ sT l (i + d)
  | 0, i, _ => by simp
  | d + 1, i, hi => by
    have := sT_mono h d i (by omega)
    have e : l.getD (i + d) zLeg = l[i + d]'(by omega) := getD_of (by omega)
    have h1 := h _ (List.getElem_mem (by omega : i + d < l.length))
    show _ ≤ sT l (i + d) + (l.getD (i + d) zLeg).1
    rw [e]
    omega
theorem sT_succ {l : List DLeg} {i : Nat} (hi : i < l.length) : sT l (i + 1) = sT l i + l[i].1 := by
  show sT l i + (l.getD i zLeg).1 = _
  rw [getD_of hi]

theorem legs_ok {a : DMission} (hm : missionB a = true) : a.2.2.2.1.length ≤ 64 ∧ (∀ x ∈ a.2.2.2.1, 1 ≤ x.1 ∧ x.1 ≤ 400) ∧ (∀ x ∈ a.2.2.2.1, legB (iSub .i64 (lenI a.2.2.1) 1) x = true) ∧ frameB a.1 a.2.1 a.2.2.1 = true := by
  simp only [missionB, Bool.and_eq_true, iLe_true, List.all_eq_true, lenI_eq] at hm
  obtain ⟨h0, h1, h2, _⟩ := hm
  refine ⟨by omega, fun x hx => ?_, h2, h0⟩
  have := h2 x hx
  simp only [legB, Bool.and_eq_true, iLe_true] at this
  exact this.1

theorem track_leg2 (a : DMission) (s : List (Vec 3 Nat) × Int × Vec 3 Nat × Unit) (y : (Vec 3 Nat × Unit) × Unit) (i : Nat) (hi : i < a.2.2.2.1.length) (hs : s.2.1 = i) (ht : 1 ≤ a.2.2.2.1[i].1 ∧ a.2.2.2.1[i].1 ≤ 400) (hl : a.2.2.2.1.length ≤ 64) (hn : (s.1.length : Int) = 1 + sT a.2.2.2.1 i) (hc : s.1.length ≤ 1 + 400 * i) :
    ∃ o, run (spec_l08Track_l8 s a y) (s.1, (0 : Int), s.2.2.1, ()) = some o ∧ ((∃ (l : List (Vec 3 Nat)) (v : Vec 3 Nat), o = .inl (l, ((i + 1 : Nat) : Int), v, ()) ∧ (l.length : Int) = 1 + sT a.2.2.2.1 (i + 1) ∧ l.length ≤ 1 + 400 * (i + 1)) ∨ o = .inr (([], 4, ()), ())) := by
  refine run_inv (f := spec_l08Track_l8 s a y) (fun z => 0 ≤ z.2.1 ∧ z.2.1 ≤ a.2.2.2.1[i].1 ∧ (z.1.length : Int) = 1 + sT a.2.2.2.1 i + z.2.1 ∧ (z.1.length : Int) ≤ 1 + 400 * i + z.2.1) (fun z => (a.2.2.2.1[i].1 - z.2.1).toNat) _ (fun z hz => ?_) (s := (s.1, (0 : Int), s.2.2.1, ())) ⟨Int.le_refl _, by show (0 : Int) ≤ _; omega, by show (s.1.length : Int) = 1 + sT a.2.2.2.1 i + 0; omega, by show (s.1.length : Int) ≤ 1 + 400 * i + 0; omega⟩
  obtain ⟨z1, z2, z3, ⟨⟩⟩ := z
  obtain ⟨h1, h2, h3, h4⟩ := hz
  simp only at h1 h2 h3 h4
  have e1 : inB s.2.1 a.2.2.2.1.length = true := by rw [hs]; exact inB_pos hi
  have e4 : a.2.2.2.1.getD s.2.1.toNat ((0, (0, 0, 0, ()), 0, 0, ()) : DLeg) = a.2.2.2.1[i] := by rw [hs, Int.toNat_natCast]; exact getD_of hi
  have e6 : iAdd .i64 s.2.1 1 = ((i + 1 : Nat) : Int) := by rw [hs]; exact iAdd_one hi (by omega)
  by_cases hlt : z2 < a.2.2.2.1[i].1
  · have e2 : iLt z2 a.2.2.2.1[i].1 = true := iLt_pos hlt
    have e3 : room (z1.length + 1) 12 = true := room_pos (by omega)
    have e5 : iAdd .i64 z2 1 = z2 + 1 := iAdd_eq (by omega) (by omega)
    simp only [spec_l08Track_l8, e1, e2, e3, e4, e5, cond_true, spec_AddVec_ok, spec_l01Vec_ok, Option.bind_some]
    cases finV (addV z3 y.1.1)
    · exact .inr ⟨_, rfl, .inr rfl⟩
    · refine .inl ⟨_, rfl, ⟨by show (0 : Int) ≤ z2 + 1; omega, by show z2 + 1 ≤ _; omega, ?_, ?_⟩, ?_⟩
      · show ((z1 ++ [_]).length : Int) = 1 + sT a.2.2.2.1 i + (z2 + 1)
        rw [List.length_append, List.length_singleton]
        omega
      · show ((z1 ++ [_]).length : Int) ≤ 1 + 400 * i + (z2 + 1)
        rw [List.length_append, List.length_singleton]
        omega
      · show (a.2.2.2.1[i].1 - (z2 + 1)).toNat < (a.2.2.2.1[i].1 - z2).toNat
        omega
  · have e2 : iLt z2 a.2.2.2.1[i].1 = false := iLt_neg hlt
    simp only [spec_l08Track_l8, e1, e2, e4, e6, cond_true, cond_false]
    have := sT_succ hi
    exact .inr ⟨_, rfl, .inl ⟨z1, z3, rfl, by omega, by omega⟩⟩

theorem track_run2 (a : DMission) (hm : missionB a = true) : ∃ (l : List (Vec 3 Nat)) (k : Int), spec_l08Track a = some ((l, k, ()), ()) ∧ (k = 0 → (l.length : Int) = 1 + sT a.2.2.2.1 a.2.2.2.1.length) ∧ l.length ≤ 30000 := by
  obtain ⟨hl, hx, _, _⟩ := legs_ok hm
  have h : ∃ w, spec_l08Track a = some w ∧ ∃ (l : List (Vec 3 Nat)) (k : Int), w = ((l, k, ()), ()) ∧ (k = 0 → (l.length : Int) = 1 + sT a.2.2.2.1 a.2.2.2.1.length) ∧ l.length ≤ 30000 := by
    unfold spec_l08Track
    refine run_inv (f := spec_l08Track_l4 a) (fun s => ∃ i : Nat, s.2.1 = i ∧ i ≤ a.2.2.2.1.length ∧ (s.1.length : Int) = 1 + sT a.2.2.2.1 i ∧ s.1.length ≤ 1 + 400 * i) (fun s => (a.2.2.2.1.length - s.2.1).toNat) _ (fun s hs => ?_) ⟨0, rfl, Nat.zero_le _, rfl, by simp⟩
    obtain ⟨i, h1, h2, h3, h4⟩ := hs
    by_cases hlt : i < a.2.2.2.1.length
    · have e1 : iLt s.2.1 (lenI a.2.2.2.1) = true := iLt_pos (by rw [lenI_eq]; omega)
      have e2 : inB s.2.1 a.2.2.2.1.length = true := by rw [h1]; exact inB_pos hlt
      obtain ⟨o, ho, hq⟩ := track_leg2 a s ((scaleV (((List.getD a.2.2.2.1 s.2.1.toNat ((0, (0, 0, 0, ()), 0, 0, ()) : DLeg)).2).1) (fDiv .f32 1065353216 (fOfInt .f32 a.1)), ()), ()) i hlt h1 (hx _ (List.getElem_mem hlt)) hl h3 h4
      simp only [spec_l08Track_l4, e1, e2, spec_ScaleVec_ok, Option.bind_some, cond_true, ho]
      rcases hq with ⟨l, v, rfl, hn, hc⟩ | rfl
      · exact .inl ⟨_, rfl, ⟨i + 1, rfl, hlt, hn, hc⟩, by show ((a.2.2.2.1.length : Int) - ((i + 1 : Nat) : Int)).toNat < ((a.2.2.2.1.length : Int) - s.2.1).toNat; omega⟩
      · exact .inr ⟨_, rfl, [], 4, rfl, fun q => absurd q (by decide), by simp⟩
    · have e1 : iLt s.2.1 (lenI a.2.2.2.1) = false := iLt_neg (by rw [lenI_eq]; omega)
      simp only [spec_l08Track_l4, e1, cond_false]
      have : i = a.2.2.2.1.length := by omega
      exact .inr ⟨_, rfl, s.1, 0, rfl, fun _ => by rw [h3, this], by omega⟩
  obtain ⟨w, h1, l, k, rfl, h2, h3⟩ := h
  exact ⟨l, k, h1, h2, h3⟩

theorem impl_TrackOf_same (a : DMission) (h : Sized TyMission a) (hm : missionB a = true) : impl_TrackOf a = spec_l08Track a := by
  obtain ⟨l, k, h1, _⟩ := track_run2 a hm
  have h1' := h1
  unfold spec_l08Track at h1
  simp only [impl_TrackOf, impl_ValidMission_ok a h, hm, Option.bind_some, track_eq, Bool.not_true, cond_false, h1, h1']

/-! ### noise -/
theorem u32_range (z : Int) : 0 ≤ IntKind.u32.wrap z ∧ IntKind.u32.wrap z < 4294967296 := by
  simp only [IntKind.wrap, IntKind.signed, IntKind.bits]
  constructor <;> simp <;> omega
theorem i16_range (z : Int) : -32768 ≤ iWrap .i16 z ∧ iWrap .i16 z ≤ 32767 := by
  simp only [iWrap, IntKind.wrap, IntKind.signed, IntKind.bits]
  constructor <;> simp <;> omega
theorem shr_eq {x : Int} (h0 : 0 ≤ x) (h1 : x < 4294967296) : iWrap .i64 (iShr .u32 x 16) = x / 65536 := by
  have e : iShr .u32 x 16 = x / 65536 := by
    show x.fdiv (2 ^ (min (16 : Int).toNat 32)) = _
    rw [show ((2 : Int) ^ (min (16 : Int).toNat 32)) = 65536 by decide, Int.fdiv_eq_ediv_of_nonneg _ (by decide)]
  rw [e, wrap_i64 (by omega) (by omega)]
theorem quo_eq {x : Int} (h0 : 0 ≤ x) (h1 : x < 4294967296) : iQuo .u32 x 65536 = x / 65536 := by
  show IntKind.u32.wrap (x.tdiv 65536) = _
  rw [Int.tdiv_eq_ediv_of_nonneg h0]
  simp only [IntKind.wrap, IntKind.signed, IntKind.bits]
  simp
  omega
theorem rem_nine {x : Int} (h0 : 0 ≤ x) (k : IntKind) : iRem k x 9 = x % 9 := Int.tmod_eq_emod_of_nonneg h0
theorem noise_shr {x : Int} (h0 : 0 ≤ x) (h1 : x < 4294967296) : iRem .i64 (iWrap .i64 (iShr .u32 x 16)) 9 = x / 65536 % 9 := by rw [shr_eq h0 h1, rem_nine (by omega)]
theorem noise_quo {x : Int} (h0 : 0 ≤ x) (h1 : x < 4294967296) : iRem .i64 (iWrap .i64 (iQuo .u32 x 65536)) 9 = x / 65536 % 9 := by rw [quo_eq h0 h1, wrap_i64 (by omega) (by omega), rem_nine (by omega)]
theorem noise_rem {x : Int} (h0 : 0 ≤ x) (h1 : x < 4294967296) : iWrap .i64 (iRem .u32 (iQuo .u32 x 65536) 9) = x / 65536 % 9 := by rw [quo_eq h0 h1, rem_nine (by omega), wrap_i64 (by omega) (by omega)]

def nx (s : Int) : Int := iAdd .u32 (iMul .u32 1664525 s) 1013904223
theorem nx_range (s : Int) : 0 ≤ nx s ∧ nx s < 4294967296 := u32_range _

/-! ### a mission's log -/
theorem entry_move (n : Int) : entryB n (1, (0, 0, 0, ()), (0, 0, 0, ()), 0, 0, ()) = true := by kernel_rfl
theorem entry_speed (n : Int) (v : Vec 3 Nat) : entryB n (2, v, (0, 0, 0, ()), 0, 0, ()) = finV v := by kernel_rfl
theorem entry_fix (n : Int) (v : Vec 3 Int) : entryB n (3, (0, 0, 0, ()), v, 0, 0, ()) = true := by kernel_rfl
theorem entry_range (n i : Int) (x : Nat) : entryB n (4, (0, 0, 0, ()), (0, 0, 0, ()), i, x, ()) = ((iLe 0 i && iLe i (iSub .i64 n 1)) && (true && (true && finB x))) := by kernel_rfl

def GoodE (n : Int) (e : DEntry) : Prop := entryB n e = true ∧ Fit (.arr 3 (.int .i16)) e.2.2.1
theorem fit_zero3 : Fit (.arr 3 (.int .i16)) ((0, 0, 0, ()) : Vec 3 Int) := ⟨⟨by decide, by decide⟩, ⟨by decide, by decide⟩, ⟨by decide, by decide⟩, trivial⟩
def GoodL (a : DMission) (c : Int) (g : DLog) : Prop := g.1 = a.1 ∧ g.2.1 = a.2.1 ∧ g.2.2.1 = a.2.2.1 ∧ (g.2.2.2.1.length : Int) ≤ c ∧ ∀ e ∈ g.2.2.2.1, GoodE (lenI a.2.2.1) e
theorem GoodL.add {a : DMission} {c : Int} {g : DLog} (h : GoodL a c g) {e : DEntry} (he : GoodE (lenI a.2.2.1) e) : GoodL a (c + 1) (g.1, g.2.1, g.2.2.1, g.2.2.2.1 ++ [e], g.2.2.2.2) := by
  refine ⟨h.1, h.2.1, h.2.2.1, ?_, fun x hx => ?_⟩
  · show ((g.2.2.2.1 ++ [e]).length : Int) ≤ c + 1
    rw [List.length_append, List.length_singleton]
    have := h.2.2.2.1
    omega
  · rcases List.mem_append.1 hx with q | q
    · exact h.2.2.2.2 x q
    · rw [List.mem_singleton.1 q]; exact he
theorem GoodL.le {a : DMission} {c d : Int} {g : DLog} (h : GoodL a c g) (hd : c ≤ d) : GoodL a d g := ⟨h.1, h.2.1, h.2.2.1, by have := h.2.2.2.1; omega, h.2.2.2.2⟩

abbrev zLog : DLog := (0, (0, 0, 0, ()), [], [], ())
abbrev DRun := Int × Int × Int × DLog × Unit
abbrev DRan := (DLog × Int × Unit) × Unit

theorem good_sized {a : DMission} (hsz : Sized TyMission a) {g : DLog} (h : GoodL a 1200 g) : Sized TyLog g := by
  refine ⟨sized_flat (t := .int .i64) rfl g.1, sized_flat (t := TyVec) rfl g.2.1, ?_, sized_list (t := TyEntry) rfl (l := g.2.2.2.1) (Nat.le_trans (Int.ofNat_le.1 h.2.2.2.1) (by decide)), trivial⟩
  rw [h.2.2.1]
  exact hsz.2.2.1
end Go.Proofs.YtildomllnnnofaaGreatDoor
