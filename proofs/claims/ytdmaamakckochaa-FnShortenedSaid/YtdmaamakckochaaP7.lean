/- Functions of the program and of the reference in plain terms. -/
import Derived.Test.YtdmaamakckochaaP6
namespace Go.Proofs.Ytdmaamakckochaa
open Go Go.Tm
set_option linter.unusedVariables false
set_option linter.unusedSimpArgs false
set_option linter.unusedSectionVars false
/-! ### what a valid route is -/
def accC (g : DGrid) (l : List (Vec 2 Int)) : Nat → Int
  | 0 => 0
  | i + 1 => accC g l i + stepC g (l.getD i ((0, 0, ()) : (Vec 2 Int))) (l.getD (i + 1) ((0, 0, ()) : (Vec 2 Int)))
def AllSteps (g : DGrid) (l : List (Vec 2 Int)) : Prop := ∀ (i : Nat) (h : i + 1 < l.length), stepB g l[i] l[i + 1] = true
theorem acc_bounds {g : DGrid} (hf : Fit TyGrid g) (hg : gridB g = true) (l : List (Vec 2 Int)) : ∀ i : Nat, 0 ≤ accC g l i ∧ accC g l i ≤ 269 * (i : Int)
  | 0 => by simp [accC]
  | i + 1 => by
    have ih := acc_bounds hf hg l i
    obtain ⟨c1, c2⟩ := stepC_bounds hf hg (l.getD i ((0, 0, ()) : (Vec 2 Int))) (l.getD (i + 1) ((0, 0, ()) : (Vec 2 Int)))
    simp only [accC]
    omega
theorem routeCost_run {g : DGrid} (hf : Fit TyGrid g) (hg : gridB g = true) {l : List (Vec 2 Int)} (hl : ∀ s ∈ l, Fit TySpot s) (hn : l.length ≤ 600) (h0 : 0 < l.length) (hh : hasB g l[0] = true) :
    (run (impl_Grid_routeCost_l5 l g) ((0 : Int), (1 : Int), ()) = some ((accC g l (l.length - 1), true, ()), ()) ∧ AllSteps g l) ∨ (run (impl_Grid_routeCost_l5 l g) ((0 : Int), (1 : Int), ()) = some (((0 : Int), false, ()), ()) ∧ ¬ AllSteps g l) := by
  have r := run_inv (f := impl_Grid_routeCost_l5 l g) (fun s => ∃ (i : Nat) (hi : i < l.length), s = (accC g l i, ((i + 1 : Nat) : Int), ()) ∧ hasB g l[i] = true ∧ ∀ (j : Nat) (h : j + 1 < l.length), j < i → stepB g l[j] l[j + 1] = true) (fun s => (l.length - s.2.1).toNat)
    (fun a => (a = ((accC g l (l.length - 1), true, ()), ()) ∧ AllSteps g l) ∨ (a = (((0 : Int), false, ()), ()) ∧ ¬ AllSteps g l)) (fun s hI => by
    obtain ⟨i, hi, rfl, hhas, hst⟩ := hI
    have ep : iSub .i64 (((i + 1 : Nat) : Int)) 1 = (i : Int) := by rw [iSub_eq (by omega) (by omega)]; omega
    by_cases hlt : i + 1 < l.length
    · have fa : Fit TySpot l[i] := hl _ (List.getElem_mem hi)
      have fb : Fit TySpot l[i + 1] := hl _ (List.getElem_mem hlt)
      have e1 : iLt ((i + 1 : Nat) : Int) (lenI l) = true := iLt_pos (by rw [lenI_eq]; omega)
      have e2 : inB ((i + 1 : Nat) : Int) l.length = true := inB_pos hlt
      have e3 : inB (i : Int) l.length = true := inB_pos hi
      have e4 : l.getD i ((0, 0, ()) : (Vec 2 Int)) = l[i] := getD_of hi
      have e5 : l.getD (i + 1) ((0, 0, ()) : (Vec 2 Int)) = l[i + 1] := getD_of hlt
      have e6 : iAdd .i64 ((i + 1 : Nat) : Int) 1 = ((i + 1 + 1 : Nat) : Int) := iAdd_one hlt (by omega)
      have k := impl_Grid_stepCost_ok hf hg fa fb hhas
      have hb := acc_bounds hf hg l i
      obtain ⟨c1, c2⟩ := stepC_bounds hf hg l[i] l[i + 1]
      have e7 : iAdd .i64 (accC g l i) (stepC g l[i] l[i + 1]) = accC g l (i + 1) := by
        rw [iAdd_eq (by omega) (by omega)]; simp only [accC, e4, e5]
      have f1 : impl_Grid_routeCost_l5 l g (accC g l i, ((i + 1 : Nat) : Int), ()) = bif stepB g l[i] l[i + 1] then some (.inl (accC g l (i + 1), ((i + 1 + 1 : Nat) : Int), ())) else some (.inr ((0, false, ()), ())) := by
        rw [← e7]
        simp only [impl_Grid_routeCost_l5, e1, e2, e3, e4, e5, e6, ep, Int.toNat_natCast, k, Option.bind_some, cond_true]
        cases stepB g l[i] l[i + 1] <;> rfl
      rw [f1]
      cases hs : stepB g l[i] l[i + 1] with
      | false => exact .inr ⟨_, rfl, .inr ⟨rfl, fun h => by rw [h i hlt] at hs; exact absurd hs (by decide)⟩⟩
      | true =>
        left
        refine ⟨_, rfl, ⟨i + 1, hlt, rfl, ?_, fun j h hj => ?_⟩, ?_⟩
        · simp only [stepB, Bool.and_eq_true] at hs; exact hs.2.1
        · by_cases hji : j = i
          · subst hji; exact hs
          · exact hst j h (by omega)
        · show ((l.length : Int) - ((i + 1 + 1 : Nat) : Int)).toNat < ((l.length : Int) - ((i + 1 : Nat) : Int)).toNat
          omega
    · right
      have e1 : iLt ((i + 1 : Nat) : Int) (lenI l) = false := iLt_neg (by rw [lenI_eq]; omega)
      have ei : i = l.length - 1 := by omega
      refine ⟨_, by simp only [impl_Grid_routeCost_l5, e1, cond_false]; rfl, .inl ⟨by rw [ei], fun j h => hst j h (by omega)⟩⟩) (s := ((0 : Int), (1 : Int), ())) ⟨0, h0, rfl, hh, fun j _ hj => absurd hj (Nat.not_lt_zero _)⟩
  obtain ⟨a, ha, h⟩ := r
  rcases h with ⟨rfl, h⟩ | ⟨rfl, h⟩
  · exact .inl ⟨ha, h⟩
  · exact .inr ⟨ha, h⟩
/-- a valid route -/
structure RouteP (g : DGrid) (l : List (Vec 2 Int)) : Prop where
  pos : 0 < l.length
  most : l.length ≤ 600
  has : hasB g l[0] = true
  free : wallB g l[0] = false
  steps : AllSteps g l
theorem RouteP.all {g : DGrid} {l : List (Vec 2 Int)} (h : RouteP g l) : ∀ (i : Nat) (hi : i < l.length), hasB g l[i] = true ∧ wallB g l[i] = false
  | 0, _ => ⟨h.has, h.free⟩
  | i + 1, hi => by
    have hs := h.steps i hi
    simp only [stepB, Bool.and_eq_true, Bool.not_eq_true'] at hs
    exact ⟨hs.2.1, hs.2.2.1⟩
theorem routeCostG_ok {g : DGrid} (hf : Fit TyGrid g) (hg : gridB g = true) {l : List (Vec 2 Int)} (hl : ∀ s ∈ l, Fit TySpot s) :
    (impl_Grid_routeCost g l = some ((accC g l (l.length - 1), true, ()), ()) ∧ RouteP g l) ∨ (impl_Grid_routeCost g l = some (((0 : Int), false, ()), ()) ∧ ¬ RouteP g l) := by
  simp only [impl_Grid_routeCost, within_eq, l00In_ok, impl_Grid_has_ok, Option.bind_some]
  cases hc : (iLe 1 (lenI l) && iLe (lenI l) 600) with
  | false =>
    refine .inr ⟨rfl, fun h => ?_⟩
    have h1 := h.pos
    have h2 := h.most
    rw [iLe_pos (by rw [lenI_eq]; omega), iLe_pos (by rw [lenI_eq]; omega)] at hc
    exact absurd hc (by decide)
  | true =>
    simp only [Bool.and_eq_true, iLe_true, lenI_eq] at hc
    have h0 : 0 < l.length := by omega
    have e1 : inB 0 l.length = true := inB_pos (i := 0) h0
    have eg : l.getD 0 ((0, 0, ()) : (Vec 2 Int)) = l[0] := getD_of h0
    have f0 : Fit TySpot l[0] := hl _ (List.getElem_mem h0)
    simp only [e1, eg, Bool.not_true, cond_false, cond_true]
    cases hh : hasB g l[0] with
    | false => exact .inr ⟨rfl, fun h => by rw [h.has] at hh; exact absurd hh (by decide)⟩
    | true =>
      simp only [impl_Grid_isWall_ok f0 hg hh, Option.bind_some, Bool.not_true, cond_false]
      cases hw : wallB g l[0] with
      | true => exact .inr ⟨rfl, fun h => by rw [h.free] at hw; exact absurd hw (by decide)⟩
      | false =>
        simp only [cond_false]
        rcases routeCost_run hf hg hl (by omega) h0 hh with ⟨h1, h2⟩ | ⟨h1, h2⟩
        · exact .inl ⟨h1, ⟨h0, by omega, hh, hw, h2⟩⟩
        · exact .inr ⟨h1, fun h => h2 h.steps⟩
theorem validRoute_iff {g : DGrid} (hf : Fit TyGrid g) (hg : gridB g = true) {l : List (Vec 2 Int)} (hl : ∀ s ∈ l, Fit TySpot s) :
    (impl_ValidRoute g l = some ((true, ()), ()) ∧ RouteP g l) ∨ (impl_ValidRoute g l = some ((false, ()), ()) ∧ ¬ RouteP g l) := by
  simp only [impl_ValidRoute, impl_ValidGrid_ok, hg, Option.bind_some, Bool.not_true, cond_false]
  rcases routeCostG_ok hf hg hl with ⟨h1, h2⟩ | ⟨h1, h2⟩
  · rw [h1]; exact .inl ⟨rfl, h2⟩
  · rw [h1]; exact .inr ⟨rfl, h2⟩

/-! ### ShortenRoute -/
/-- can a spot be seen -/
noncomputable def seesB (g : DGrid) (a b : Vec 2 Int) : Bool := match impl_Grid_sees g a b with | some ((w, _), _) => w | none => false
section
variable {g : DGrid} (hf : Fit TyGrid g) (hg : gridB g = true)
include hf hg
theorem sees_both {a b : Vec 2 Int} (ha : Fit TySpot a) (hb : Fit TySpot b) (hha : hasB g a = true) (hhb : hasB g b = true) : impl_Grid_sees g a b = some ((seesB g a b, ()), ()) ∧ spec_l07Sees g a b = some ((seesB g a b, ()), ()) := by
  obtain ⟨w, h1, h2⟩ := sees_ok hf hg ha hb hha hhb
  have : seesB g a b = w := by unfold seesB; rw [h2]
  rw [this]
  exact ⟨h2, h1⟩
theorem line_near {a b : Vec 2 Int} (hn : nearB a b = true) : lineL a b = [a, b] := by
  have hn' := hn
  simp only [nearB, Bool.and_eq_true, iLe_true, Bool.not_eq_true', Bool.and_eq_false_iff, iEq_false] at hn'
  have hs : spanI a b = 1 := by unfold spanI; omega
  have hq : ∀ d : Int, -1 ≤ d → d ≤ 1 → lineQ 1 d 1 = d := fun d h1 h2 => by unfold lineQ; omega
  have hp : pointP a b 1 = b := by
    obtain ⟨x, y, ⟨⟩⟩ := a
    obtain ⟨x', y', ⟨⟩⟩ := b
    unfold pointP
    rw [hs, hq _ (by omega) (by omega), hq _ (by omega) (by omega)]
    simp only [dxI, dyI]
    congr 1
    · omega
    · congr 1; omega
  unfold lineL
  rw [hs]
  show a :: [pointP a b (1 + ((0 : Nat) : Int))] = _
  have : (1 + ((0 : Nat) : Int)) = 1 := by decide
  rw [this, hp]
/-- where a step leads is seen -/
theorem sees_near {a b : Vec 2 Int} (ha : Fit TySpot a) (hb : Fit TySpot b) (hha : hasB g a = true) (hw : wallB g a = false) (hs : stepB g a b = true) : seesB g a b = true := by
  have hs' := hs
  simp only [stepB, Bool.and_eq_true, Bool.not_eq_true'] at hs'
  have k := impl_Grid_stepCost_ok hf hg ha hb hha
  rw [hs] at k
  have hl := line_near hf hg hs'.1
  have e : impl_Grid_sees g a b = some ((true, ()), ()) := by
    simp only [impl_Grid_sees, impl_spotsBetween_ok hg ha hb hha hs'.2.1, hl, impl_Grid_isWall_ok ha hg hha, hw, Option.bind_some, cond_false]
    have f1 : impl_Grid_sees_l5 (([a, b], ()), ()) g ((1 : Int), ()) = some (.inl ((2 : Int), ())) := by
      have e1 : iLt 1 (lenI [a, b]) = true := by rw [lenI_eq]; exact iLt_pos (by show (1 : Int) < 2; omega)
      have e2 : inB 1 ([a, b] : List (Vec 2 Int)).length = true := by rw [show ([a, b] : List (Vec 2 Int)).length = 2 from rfl]; decide
      have e3 : iSub .i64 1 1 = 0 := by decide
      have e4 : inB 0 ([a, b] : List (Vec 2 Int)).length = true := by rw [show ([a, b] : List (Vec 2 Int)).length = 2 from rfl]; decide
      have e5 : iAdd .i64 1 1 = 2 := by decide
      have g0 : List.getD ([a, b] : List (Vec 2 Int)) (0 : Int).toNat ((0, 0, ()) : (Vec 2 Int)) = a := rfl
      have g1 : List.getD ([a, b] : List (Vec 2 Int)) (1 : Int).toNat ((0, 0, ()) : (Vec 2 Int)) = b := rfl
      simp only [impl_Grid_sees_l5, e1, e2, e3, e4, e5, g0, g1, k, cond_true, Option.bind_some, Bool.not_true, cond_false]
    have f2 : impl_Grid_sees_l5 (([a, b], ()), ()) g ((2 : Int), ()) = some (.inr ((true, ()), ())) := by
      have e1 : iLt 2 (lenI [a, b]) = false := by rw [lenI_eq]; exact iLt_neg (by show ¬ (2 : Int) < 2; omega)
      simp only [impl_Grid_sees_l5, e1, cond_false]
      rfl
    exact (run_step f1).trans (run_done f2)
  unfold seesB
  rw [e]

/-- the farthest spot that is seen -/
def Farthest (g : DGrid) (l : List (Vec 2 Int)) (i n : Nat) : Prop := i < n ∧ ∃ (hn : n < l.length) (hi : i < l.length), seesB g l[i] l[n] = true ∧ ∀ (j : Nat) (hj : j < l.length), n < j → seesB g l[i] l[j] = false

theorem impl_short_l7 {l : List (Vec 2 Int)} (hl : ∀ s ∈ l, Fit TySpot s) (hr : RouteP g l) {i : Nat} (hi : i + 1 < l.length) {out : List (Vec 2 Int)} (ho : out.length ≤ 100000) :
    ∃ n, Farthest g l i n ∧ run (impl_ShortenRoute_l7 (out, (i : Int), ()) l g) ((((l.length - 1 : Nat) : Int)), ()) = some (.inl (out ++ [l.getD n ((0, 0, ()) : (Vec 2 Int))], (n : Int), ())) := by
  have hmost := hr.most
  have hi0 : i < l.length := by omega
  have fi := hl _ (List.getElem_mem hi0)
  obtain ⟨hhi, hwi⟩ := hr.all i hi0
  have r := run_inv (f := impl_ShortenRoute_l7 (out, (i : Int), ()) l g) (fun s => ∃ n : Nat, s = ((n : Int), ()) ∧ i < n ∧ ∃ hn : n < l.length, ∀ (j : Nat) (hj : j < l.length), n < j → seesB g l[i] l[j] = false) (fun s => s.1.toNat) (fun a => ∃ n, Farthest g l i n ∧ a = .inl (out ++ [l.getD n ((0, 0, ()) : (Vec 2 Int))], (n : Int), ())) (fun s hI => by
    obtain ⟨n, rfl, hin, hn, hfar⟩ := hI
    have e1 : inB (i : Int) l.length = true := inB_pos hi0
    have e2 : inB (n : Int) l.length = true := inB_pos hn
    have g1 : l.getD i ((0, 0, ()) : (Vec 2 Int)) = l[i] := getD_of hi0
    have g2 : l.getD n ((0, 0, ()) : (Vec 2 Int)) = l[n] := getD_of hn
    have k := (sees_both hf hg fi (hl _ (List.getElem_mem hn)) hhi (hr.all n hn).1).1
    have er : room (out.length + 1) 4 = true := room_pos (by omega)
    cases hs : seesB g l[i] l[n] with
    | true =>
      right
      rw [hs] at k
      refine ⟨_, ?_, n, ⟨hin, hn, hi0, hs, hfar⟩, rfl⟩
      simp only [impl_ShortenRoute_l7, e1, e2, g1, g2, k, er, Int.toNat_natCast, cond_true, Option.bind_some, Bool.not_true, cond_false]
      rfl
    | false =>
      left
      rw [hs] at k
      have hne : n ≠ i + 1 := by
        rintro rfl
        rw [sees_near hf hg fi (hl _ (List.getElem_mem hn)) hhi hwi (hr.steps i hi)] at hs
        exact absurd hs (by decide)
      have e3 : iSub .i64 (n : Int) 1 = ((n - 1 : Nat) : Int) := by rw [iSub_eq (by omega) (by omega)]; omega
      refine ⟨_, ?_, ⟨n - 1, rfl, by omega, by omega, fun j hj hnj => ?_⟩, ?_⟩
      · simp only [impl_ShortenRoute_l7, e1, e2, g1, g2, k, e3, Int.toNat_natCast, cond_true, Option.bind_some, Bool.not_false]
      · by_cases hjn : j = n
        · subst hjn; exact hs
        · exact hfar j hj (by omega)
      · show (((n - 1 : Nat) : Int)).toNat < ((n : Int)).toNat
        omega) (s := ((((l.length - 1 : Nat) : Int)), ())) ⟨l.length - 1, rfl, by omega, by omega, fun j hj h => by omega⟩
  obtain ⟨a, ha, n, h, rfl⟩ := r
  exact ⟨n, h, ha⟩
theorem spec_short_l9 {l : List (Vec 2 Int)} (hl : ∀ s ∈ l, Fit TySpot s) (hr : RouteP g l) {i : Nat} (hi : i + 1 < l.length) {out : List (Vec 2 Int)} (ho : out.length ≤ 100000) :
    ∃ n, Farthest g l i n ∧ run (spec_ShortenRoute_l9 (out, (i : Int), ()) l g) ((((i + 1 : Nat) : Int)), ((l.length - 1 : Nat) : Int), ()) = some (.inl (out ++ [l.getD n ((0, 0, ()) : (Vec 2 Int))], (n : Int), ())) := by
  have hmost := hr.most
  have hi0 : i < l.length := by omega
  have fi := hl _ (List.getElem_mem hi0)
  obtain ⟨hhi, hwi⟩ := hr.all i hi0
  have r := run_inv (f := spec_ShortenRoute_l9 (out, (i : Int), ()) l g) (fun s => ∃ n k : Nat, s = ((n : Int), (k : Int), ()) ∧ k < l.length ∧ i < n ∧ n ≤ k + 1 ∧ ∃ hn : n < l.length, seesB g l[i] l[n] = true ∧ (∀ (j : Nat) (hj : j < l.length), n < j → k < j → seesB g l[i] l[j] = false)) (fun s => s.2.1.toNat) (fun a => ∃ n, Farthest g l i n ∧ a = .inl (out ++ [l.getD n ((0, 0, ()) : (Vec 2 Int))], (n : Int), ())) (fun s hI => by
    obtain ⟨n, k, rfl, hk, hin, hnk, hn, hs, hfar⟩ := hI
    have e1 : inB (i : Int) l.length = true := inB_pos hi0
    have e2 : inB (n : Int) l.length = true := inB_pos hn
    have g2 : l.getD n ((0, 0, ()) : (Vec 2 Int)) = l[n] := getD_of hn
    have er : room (out.length + 1) 4 = true := room_pos (by omega)
    by_cases hlt : n < k
    · left
      have c1 : iLt (n : Int) (k : Int) = true := iLt_pos (by omega)
      have e3 : inB (k : Int) l.length = true := inB_pos hk
      have g1 : l.getD i ((0, 0, ()) : (Vec 2 Int)) = l[i] := getD_of hi0
      have g3 : l.getD k ((0, 0, ()) : (Vec 2 Int)) = l[k] := getD_of hk
      have e4 : iSub .i64 (k : Int) 1 = ((k - 1 : Nat) : Int) := by rw [iSub_eq (by omega) (by omega)]; omega
      have ks := (sees_both hf hg fi (hl _ (List.getElem_mem hk)) hhi (hr.all k hk).1).2
      have hm : (((k - 1 : Nat) : Int)).toNat < ((k : Int)).toNat := by omega
      cases hsk : seesB g l[i] l[k] with
      | true =>
        rw [hsk] at ks
        refine ⟨((k : Int), ((k - 1 : Nat) : Int), ()), ?_, ⟨k, k - 1, rfl, by omega, by omega, by omega, hk, hsk, fun j hj h1 h2 => hfar j hj (by omega) h1⟩, hm⟩
        simp only [spec_ShortenRoute_l9, c1, e1, e3, g1, g3, ks, e4, Int.toNat_natCast, cond_true, Option.bind_some]
      | false =>
        rw [hsk] at ks
        refine ⟨((n : Int), ((k - 1 : Nat) : Int), ()), ?_, ⟨n, k - 1, rfl, by omega, hin, by omega, hn, hs, fun j hj h1 h2 => ?_⟩, hm⟩
        · simp only [spec_ShortenRoute_l9, c1, e1, e3, g1, g3, ks, e4, Int.toNat_natCast, cond_true, cond_false, Option.bind_some]
        · by_cases hjk : j = k
          · subst hjk; exact hsk
          · exact hfar j hj h1 (by omega)
    · right
      have c1 : iLt (n : Int) (k : Int) = false := iLt_neg (by omega)
      refine ⟨_, ?_, n, ⟨hin, hn, hi0, hs, fun j hj h => hfar j hj h (by omega)⟩, rfl⟩
      simp only [spec_ShortenRoute_l9, c1, e2, g2, er, Int.toNat_natCast, cond_true, cond_false]
      rfl) (s := ((((i + 1 : Nat) : Int)), ((l.length - 1 : Nat) : Int), ())) ⟨i + 1, l.length - 1, rfl, by omega, by omega, by omega, hi, sees_near hf hg fi (hl _ (List.getElem_mem hi)) hhi hwi (hr.steps i hi), fun j hj h1 h2 => by omega⟩
  obtain ⟨a, ha, n, h, rfl⟩ := r
  exact ⟨n, h, ha⟩
theorem farthest_unique {l : List (Vec 2 Int)} {i n m : Nat} (h1 : Farthest g l i n) (h2 : Farthest g l i m) : n = m := by
  obtain ⟨a1, b1, c1, d1, e1⟩ := h1
  obtain ⟨a2, b2, c2, d2, e2⟩ := h2
  rcases Nat.lt_trichotomy n m with h | h | h
  · have := e1 m b2 h; rw [d2] at this; exact absurd this (by decide)
  · exact h
  · have := e2 n b1 h; rw [d1] at this; exact absurd this (by decide)
theorem getD_append_first {α : Type} {l : List α} {x d : α} (h : 0 < l.length) : (l ++ [x]).getD 0 d = l.getD 0 d := by
  rw [getD_of (by simp), List.getElem_append_left h, getD_of h]
theorem getD_append_last {α : Type} {l : List α} {x d : α} : (l ++ [x]).getD ((l ++ [x]).length - 1) d = x := by
  rw [getD_of (by simp)]; simp
/-- a route that leads from sight to sight -/
structure ShortP (g : DGrid) (l out : List (Vec 2 Int)) (i : Nat) : Prop where
  pos : 0 < out.length
  le : out.length ≤ i + 1
  lt : i < l.length
  first : out.getD 0 ((0, 0, ()) : (Vec 2 Int)) = l.getD 0 ((0, 0, ()) : (Vec 2 Int))
  last : out.getD (out.length - 1) ((0, 0, ()) : (Vec 2 Int)) = l.getD i ((0, 0, ()) : (Vec 2 Int))
  mem : ∀ s ∈ out, s ∈ l
  sees : ∀ (j : Nat) (h : j + 1 < out.length), seesB g out[j] out[j + 1] = true
theorem shorten_run {l : List (Vec 2 Int)} (hl : ∀ s ∈ l, Fit TySpot s) (hr : RouteP g l) :
    ∃ out, ShortP g l out (l.length - 1) ∧ run (impl_ShortenRoute_l5 l g) ([l.getD 0 ((0, 0, ()) : (Vec 2 Int))], (0 : Int), ()) = some ((out, (0 : Int), ()), ()) ∧ run (spec_ShortenRoute_l6 l g) ([l.getD 0 ((0, 0, ()) : (Vec 2 Int))], (0 : Int), ()) = some ((out, (0 : Int), ()), ()) := by
  have hmost := hr.most
  have hpos := hr.pos
  have el : iSub .i64 (lenI l) 1 = ((l.length - 1 : Nat) : Int) := by rw [lenI_eq, iSub_eq (by omega) (by omega)]; omega
  have rt := run_two (f := impl_ShortenRoute_l5 l g) (g := spec_ShortenRoute_l6 l g) (fun s t => s = t ∧ ∃ i : Nat, s.2.1 = (i : Int) ∧ ShortP g l s.1 i) (fun s => (l.length - s.2.1).toNat) (fun x y => x = y ∧ ∃ out, x = ((out, (0 : Int), ()), ()) ∧ ShortP g l out (l.length - 1)) (fun s t hR => by
    obtain ⟨rfl, i, hi, hP⟩ := hR
    obtain ⟨out, ii, ⟨⟩⟩ := s
    simp only at hi hP
    subst hi
    have hle := hP.le
    have hlt := hP.lt
    by_cases h : i < l.length - 1
    · left
      have c1 : iLt (i : Int) ((l.length - 1 : Nat) : Int) = true := iLt_pos (by omega)
      obtain ⟨n, h1, r1⟩ := impl_short_l7 hf hg hl hr (i := i) (by omega) (out := out) (by omega)
      obtain ⟨m, h2, r2⟩ := spec_short_l9 hf hg hl hr (i := i) (by omega) (out := out) (by omega)
      have e := farthest_unique hf hg h2 h1
      subst e
      have e2 : iAdd .i64 (i : Int) 1 = ((i + 1 : Nat) : Int) := iAdd_one (Nat.lt_succ_self i) (by omega)
      obtain ⟨q1, q2, q3, q4, q5⟩ := h1
      refine ⟨(out ++ [l.getD m ((0, 0, ()) : (Vec 2 Int))], (m : Int), ()), (out ++ [l.getD m ((0, 0, ()) : (Vec 2 Int))], (m : Int), ()), ?_, ?_, ⟨rfl, m, rfl, ?_⟩, ?_⟩
      · simp only [impl_ShortenRoute_l5, el, c1, cond_true]; exact r1
      · simp only [spec_ShortenRoute_l6, el, c1, e2, cond_true]; exact r2
      · have hp := hP.pos
        have gm : l.getD m ((0, 0, ()) : (Vec 2 Int)) = l[m] := getD_of q2
        refine ⟨by simp, by simp only [List.length_append, List.length_singleton]; omega, q2, ?_, ?_, ?_, ?_⟩
        · exact (getD_append_first hf hg hp).trans hP.first
        · exact getD_append_last hf hg
        · intro s hs
          rcases List.mem_append.1 hs with hs | hs
          · exact hP.mem s hs
          · rw [List.mem_singleton.1 hs, gm]; exact List.getElem_mem _
        · intro j hj
          have hj1 : j + 1 < (out ++ [l.getD m ((0, 0, ()) : (Vec 2 Int))]).length := hj
          have hj' : j + 1 ≤ out.length := by rw [List.length_append, List.length_singleton] at hj1; omega
          have e0 : (out ++ [l.getD m ((0, 0, ()) : (Vec 2 Int))])[j]'(by rw [List.length_append, List.length_singleton]; omega) = out[j]'(by omega) := List.getElem_append_left (by omega)
          by_cases hjl : j + 1 < out.length
          · have e1 : (out ++ [l.getD m ((0, 0, ()) : (Vec 2 Int))])[j + 1]'hj1 = out[j + 1] := List.getElem_append_left hjl
            rw [e0, e1]
            exact hP.sees j hjl
          · have e1 : (out ++ [l.getD m ((0, 0, ()) : (Vec 2 Int))])[j + 1]'hj1 = l[m] := by rw [List.getElem_append_right (by omega)]; simp [gm]
            have e2 : out[j]'(by omega) = l[i] := by
              have := hP.last
              have e3 := (getD_of (d := ((0, 0, ()) : (Vec 2 Int))) (show out.length - 1 < out.length by omega)).symm.trans (this.trans (getD_of hlt))
              simp only [show j = out.length - 1 by omega]
              exact e3
            rw [e0, e1, e2]
            exact q4
      · show ((l.length : Int) - (m : Int)).toNat < ((l.length : Int) - (i : Int)).toNat
        omega
    · right
      have c1 : iLt (i : Int) ((l.length - 1 : Nat) : Int) = false := iLt_neg (by omega)
      refine ⟨_, _, ?_, ?_, rfl, out, rfl, ?_⟩
      · simp only [impl_ShortenRoute_l5, el, c1, cond_false]; rfl
      · simp only [spec_ShortenRoute_l6, el, c1, cond_false]; rfl
      · have : i = l.length - 1 := by omega
        exact this ▸ hP) (s := ([l.getD 0 ((0, 0, ()) : (Vec 2 Int))], (0 : Int), ())) (t := ([l.getD 0 ((0, 0, ()) : (Vec 2 Int))], (0 : Int), ())) ⟨rfl, 0, rfl, ⟨by simp, by simp, hpos, rfl, rfl, fun s hs => by
    obtain rfl := List.mem_singleton.1 hs
    exact (congrArg (· ∈ l) (getD_of (d := ((0, 0, ()) : (Vec 2 Int))) hpos)).mpr (List.getElem_mem _), fun j hj => by simp at hj⟩⟩
  obtain ⟨x, y, h1, h2, rfl, out, rfl, hP⟩ := rt
  exact ⟨out, hP, h1, h2⟩
end

theorem shortenRoute_ok {g : DGrid} (hf : Fit TyGrid g) {l : List (Vec 2 Int)} (hl : ∀ s ∈ l, Fit TySpot s) : ∃ w : List (Vec 2 Int) × Int × Unit, spec_ShortenRoute g l = some (w, ()) ∧ impl_ShortenRoute g l = some (w, ()) ∧ w.1.length ≤ 600 ∧ (gridB g = true → RouteP g l → w.2.1 = 0 ∧ ShortP g l w.1 (l.length - 1)) := by
  simp only [spec_ShortenRoute, impl_ShortenRoute]
  cases hg : gridB g with
  | false =>
    have e : spec_l07Route g l = some (((0 : Int), false, ()), ()) := by simp only [spec_l07Route, spec_l07Ok_ok, hg, Option.bind_some]; rfl
    have e2 : impl_ValidRoute g l = some ((false, ()), ()) := by simp only [impl_ValidRoute, impl_ValidGrid_ok, hg, Option.bind_some]; rfl
    rw [e, e2]
    exact ⟨_, rfl, rfl, Nat.zero_le _, fun h => absurd h (by decide)⟩
  | true =>
    have hsp : ∃ w : Int × Bool × Unit, impl_Grid_routeCost g l = some (w, ()) ∧ spec_l07Route g l = some (w, ()) := by
      by_cases hlen : l.length ≤ 600
      · refine route_ok hf ⟨?_, hl⟩ hg
        show l.length * 4 ≤ 140737488351232
        omega
      · have c : (iLe 1 (lenI l) && iLe (lenI l) 600) = false := by rw [iLe_neg (a := lenI l) (by rw [lenI_eq]; omega), Bool.and_false]
        refine ⟨((0 : Int), false, ()), ?_, ?_⟩
        · simp only [impl_Grid_routeCost, within_eq, l00In_ok, c, Option.bind_some]; rfl
        · simp only [spec_l07Route, spec_l07Ok_ok, hg, l00In_ok, c, Option.bind_some]; rfl
    obtain ⟨w, h1, h2⟩ := hsp
    rcases routeCostG_ok hf hg hl with ⟨k1, k2⟩ | ⟨k1, k2⟩
    · rw [k1] at h1
      cases h1
      have e2 : impl_ValidRoute g l = some ((true, ()), ()) := by simp only [impl_ValidRoute, impl_ValidGrid_ok, hg, k1, Option.bind_some]; rfl
      have e3 : inB 0 l.length = true := inB_pos (i := 0) k2.pos
      obtain ⟨out, hP, r1, r2⟩ := shorten_run hf hg hl k2
      have hm := k2.most
      have hle := hP.le
      have hpos := k2.pos
      simp only [h2, e2, e3, Option.bind_some, Bool.not_true, cond_false, cond_true]
      exact ⟨_, r2, r1, by simp only; omega, fun _ _ => ⟨rfl, hP⟩⟩
    · rw [k1] at h1
      cases h1
      have e2 : impl_ValidRoute g l = some ((false, ()), ()) := by simp only [impl_ValidRoute, impl_ValidGrid_ok, hg, k1, Option.bind_some]; rfl
      rw [h2, e2]
      exact ⟨_, rfl, rfl, Nat.zero_le _, fun _ h => absurd h k2⟩
end Go.Proofs.Ytdmaamakckochaa
