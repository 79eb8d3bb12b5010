/- Functions of the program and of the reference in plain terms. -/
import Derived.Test.YtildomllnnnofaaGreatDoorP19
namespace Go.Proofs.YtildomllnnnofaaGreatDoor
open Go Go.Tm
set_option linter.unusedVariables false
set_option linter.unusedSimpArgs false
set_option linter.unusedSectionVars false
/-! ## whole texts of missions -/
def okL (f : List UInt8) : Prop := (10 : UInt8) ∉ f ∧ f.length ≤ 30
theorem compile_ok {Y : List (List UInt8)} (h : ∀ f ∈ Y, okL f) (hY : Y.length ≤ 100) : impl_CompileMission (linesT Y) = run (Y5 Y) (st0, ()) := by
  have := linesT_len (fun f hf => (h f hf).2)
  exact compile_text (fun f hf => (h f hf).1) (by omega) (by omega)
theorem okL_head : okL beaconL ∧ okL fixL ∧ okL endL ∧ okL whatL ∧ ∀ n : Fin 4, okL (wRep (n.val + 1)) := by
  unfold okL; decide
theorem okL_cons {f : List UInt8} {Y : List (List UInt8)} (h : okL f) (hY : ∀ g ∈ Y, okL g) : ∀ g ∈ f :: Y, okL g := by
  intro g hg
  rcases List.mem_cons.1 hg with rfl | hg
  · exact h
  · exact hY g hg
theorem okL_app {X Y : List (List UInt8)} (h : ∀ g ∈ X, okL g) (hY : ∀ g ∈ Y, okL g) : ∀ g ∈ X ++ Y, okL g := by
  intro g hg
  rcases List.mem_append.1 hg with hg | hg
  · exact h g hg
  · exact hY g hg
theorem okL_nil : ∀ g ∈ ([] : List (List UInt8)), okL g := by intro g hg; cases hg

theorem comp_text1 {l : List Leg5} (hg : ∀ x ∈ l, goodI x) (hl : l.length ≤ 4) {n : Nat} (hn : n ≤ 3) :
    impl_CompileMission (linesT (beaconL :: fixL :: wRep (n + 1) :: (l.flatMap linesI ++ [endL]))) = some ((miss ((rep (n + 1) l).map legI), 0, 0, ()), ()) := by
  have hX := flat_len l
  obtain ⟨k1, k2, k3, -, k5⟩ := okL_head
  have hY : (beaconL :: fixL :: wRep (n + 1) :: (l.flatMap linesI ++ [endL])).length ≤ 100 := by simp only [List.length_cons, List.length_append, List.length_nil]; omega
  rw [compile_ok (okL_cons k1 (okL_cons k2 (okL_cons (k5 ⟨n, by omega⟩) (okL_app (flat_free hg) (okL_cons k3 okL_nil))))) hY]
  generalize hYe : beaconL :: fixL :: wRep (n + 1) :: (l.flatMap linesI ++ [endL]) = Y at *
  obtain ⟨e1, e2⟩ := head_comp (by omega) hYe.symm
  rw [e1]
  have s1 : run (Y5 Y) (cst [] [] 2, ()) = run (Y5 Y) (cst [] [(((3 : Nat) : Int), (n : Int), ())] 3, ()) := comp_step (by omega) e2 (repeat_comp (miss []) 3 ⟨n, by omega⟩)
  rw [s1, rep_comp (by omega) hg (drop_at e2).2.2 n [] hn (by intro x hx; cases hx) (by
    have : (n + 1) * l.length ≤ 4 * 4 := Nat.mul_le_mul (by omega) hl
    simp; omega)]
  have hlen : Y.length = 3 + (l.flatMap linesI).length + 1 := by rw [← hYe]; simp only [List.length_cons, List.length_append, List.length_nil]; omega
  rw [← hlen, List.nil_append]
  exact comp_end Y _ _
theorem comp_text2 {l : List Leg5} (hg : ∀ x ∈ l, goodI x) (hl : l.length ≤ 16) :
    impl_CompileMission (linesT (beaconL :: fixL :: l.flatMap linesI)) = some ((miss (l.map legI), 0, 0, ()), ()) := by
  have hX := flat_len l
  obtain ⟨k1, k2, -, -, -⟩ := okL_head
  have hY : (beaconL :: fixL :: l.flatMap linesI).length ≤ 100 := by simp only [List.length_cons, List.length_append, List.length_nil]; omega
  rw [compile_ok (okL_cons k1 (okL_cons k2 (flat_free hg))) hY]
  generalize hYe : beaconL :: fixL :: l.flatMap linesI = Y at *
  obtain ⟨e1, e2⟩ := head_comp (by omega) hYe.symm
  obtain ⟨e3, -, -⟩ := legs_comp (Y := Y) (by omega) [] l 2 [] [] hg (by rw [e2, List.append_nil]) (by intro x hx; cases hx) (by simp; omega)
  rw [e1, e3]
  have hlen : Y.length = 2 + (l.flatMap linesI).length := by rw [← hYe]; simp only [List.length_cons, List.length_append, List.length_nil]; omega
  rw [← hlen, List.nil_append]
  exact comp_end Y _ _
theorem comp_text3 {l : List Leg5} (hg : ∀ x ∈ l, goodI x) (hl : l.length ≤ 4) :
    impl_CompileMission (linesT (beaconL :: fixL :: (l.flatMap linesI ++ whatL :: l.flatMap linesI))) = some (((0, (0, 0, 0, ()), [], [], ()), ((2 + (l.flatMap linesI).length : Nat) : Int), 5, ()), ()) := by
  have hX := flat_len l
  obtain ⟨k1, k2, -, k4, -⟩ := okL_head
  have hY : (beaconL :: fixL :: (l.flatMap linesI ++ whatL :: l.flatMap linesI)).length ≤ 100 := by simp only [List.length_cons, List.length_append, List.length_nil]; omega
  rw [compile_ok (okL_cons k1 (okL_cons k2 (okL_app (flat_free hg) (okL_cons k4 (flat_free hg))))) hY]
  generalize hYe : beaconL :: fixL :: (l.flatMap linesI ++ whatL :: l.flatMap linesI) = Y at *
  obtain ⟨e1, e2⟩ := head_comp (by omega) hYe.symm
  obtain ⟨e3, e4, -⟩ := legs_comp (Y := Y) (by omega) [] l 2 _ [] hg e2 (by intro x hx; cases hx) (by simp; omega)
  rw [e1, e3]
  exact comp_bad (by omega) e4 (what_comp _)
theorem comp_text4 {l : List Leg5} (hg : ∀ x ∈ l, goodI x) (hl : l.length ≤ 4) :
    impl_CompileMission (linesT (beaconL :: fixL :: (l.flatMap linesI ++ [wRep 2]))) = some (((0, (0, 0, 0, ()), [], [], ()), ((3 + (l.flatMap linesI).length : Nat) : Int), 4, ()), ()) := by
  have hX := flat_len l
  obtain ⟨k1, k2, -, -, k5⟩ := okL_head
  have hY : (beaconL :: fixL :: (l.flatMap linesI ++ [wRep 2])).length ≤ 100 := by simp only [List.length_cons, List.length_append, List.length_nil]; omega
  rw [compile_ok (okL_cons k1 (okL_cons k2 (okL_app (flat_free hg) (okL_cons (k5 ⟨1, by omega⟩) okL_nil)))) hY]
  generalize hYe : beaconL :: fixL :: (l.flatMap linesI ++ [wRep 2]) = Y at *
  obtain ⟨e1, e2⟩ := head_comp (by omega) hYe.symm
  obtain ⟨e3, e4, -⟩ := legs_comp (Y := Y) (by omega) [] l 2 _ [] hg e2 (by intro x hx; cases hx) (by simp; omega)
  have hlen : Y.length = 2 + (l.flatMap linesI).length + 1 := by rw [← hYe]; simp only [List.length_cons, List.length_append, List.length_nil]; omega
  have s1 := comp_step (Y := Y) (by omega) e4 (repeat_comp (miss ([] ++ l.map legI)) ((2 + (l.flatMap linesI).length + 1 : Nat) : Int) ⟨1, by omega⟩)
  rw [e1, e3]
  refine s1.trans ?_
  rw [← hlen]
  refine (comp_open Y _ _ _).trans ?_
  rw [hlen, show 2 + (l.flatMap linesI).length + 1 = 3 + (l.flatMap linesI).length by omega]

/-! ### the mission of drawn legs -/
theorem nf_0 : finB (nV 0) = true := by kernel_rfl
theorem nf_1 : finB (nV 1) = true := by kernel_rfl
theorem nf_2 : finB (nV 2) = true := by kernel_rfl
theorem nf_3 : finB (nV 3) = true := by kernel_rfl
theorem nf_4 : finB (nV 4) = true := by kernel_rfl
theorem nf_5 : finB (nV 5) = true := by kernel_rfl
theorem nf_6 : finB (nV 6) = true := by kernel_rfl
theorem nf_7 : finB (nV 7) = true := by kernel_rfl
theorem nf_8 : finB (nV 8) = true := by kernel_rfl
theorem nV_fin : ∀ i : Fin 9, finB (nV i.val) = true := by
  intro ⟨i, h⟩
  have : i = 0 ∨ i = 1 ∨ i = 2 ∨ i = 3 ∨ i = 4 ∨ i = 5 ∨ i = 6 ∨ i = 7 ∨ i = 8 := by omega
  rcases this with rfl | rfl | rfl | rfl | rfl | rfl | rfl | rfl | rfl
  · exact nf_0
  · exact nf_1
  · exact nf_2
  · exact nf_3
  · exact nf_4
  · exact nf_5
  · exact nf_6
  · exact nf_7
  · exact nf_8
theorem legI_good {x : Leg5} (h : goodI x) : legB 0 (legI x) = true := by
  obtain ⟨h1, h2, h3, h4, h5⟩ := h
  have hf : finV (vI x) = true := by
    have f1 := nV_fin ⟨x.1, h1⟩
    have f2 := nV_fin ⟨x.2.1, h2⟩
    have f3 := nV_fin ⟨x.2.2.1, h3⟩
    have g1 : finB (Vec.getD 3 (vI x) 0 (0 : Nat)) = true := f1
    have g2 : finB (Vec.getD 3 (vI x) 1 (0 : Nat)) = true := f2
    have g3 : finB (Vec.getD 3 (vI x) 2 (0 : Nat)) = true := f3
    unfold finV
    rw [g1, g2, g3]
    rfl
  unfold legB legI
  simp only
  rw [hf, iLe_pos (by omega : (1 : Int) ≤ x.2.2.2.1), iLe_pos (by omega : (x.2.2.2.1 : Int) ≤ 400)]
  cases x.2.2.2.2 <;> rfl
theorem legs_okI {l : List Leg5} (hg : ∀ x ∈ l, goodI x) : LegsOK (l.map legI) := by
  intro y hy
  obtain ⟨x, hx, rfl⟩ := List.mem_map.1 hy
  obtain ⟨-, -, -, h4, h5⟩ := hg x hx
  exact ⟨by show (0 : Int) ≤ (x.2.2.2.1 : Int); omega, by show (x.2.2.2.1 : Int) ≤ 8; omega⟩
theorem miss_good {l : List Leg5} (hg : ∀ x ∈ l, goodI x) (hl : l.length ≤ 16) : missionB (miss (l.map legI)) = true := by
  have ht := ticks_le (legs_okI hg) (by simp; omega)
  have e0 : frameB 8 (0, 0, 0, ()) bs1 = true := by kernel_rfl
  have e1 : iSub .i64 (lenI bs1) 1 = 0 := rfl
  have e2 : (l.map legI).all (legB 0) = true := by
    rw [List.all_eq_true]
    intro y hy
    obtain ⟨x, hx, rfl⟩ := List.mem_map.1 hy
    exact legI_good (hg x hx)
  simp only [List.length_map] at ht
  unfold missionB miss
  simp only
  rw [e0, e1, e2, iLe_pos (by rw [lenI_eq]; simp; omega), iLe_pos (by omega)]
  rfl
theorem miss_sized {ls : List DLeg} (hl : ls.length ≤ 40) : Sized TyMission (miss ls) :=
  ⟨sized_flat (t := .int .i64) rfl (8 : Int), sized_flat (t := TyVec) rfl ((0, 0, 0, ()) : Vec 3 Nat), sized_list (t := TyVec) rfl (l := bs1) (by decide), sized_list (t := TyLeg) rfl (l := ls) (Nat.le_trans hl (by decide)), trivial⟩

def pwC (x : Nat) : Bool := match FloatKind.f32.decode x with
  | .number _ m p => decide (-200 ≤ p) && decide (m * 2 ^ (p - -200).toNat ≤ 2 ^ (20 - -200 : Int).toNat)
  | _ => false
theorem pwC_ok {x : Nat} (h : pwC x = true) : pw .f32 x 20 := by
  unfold pwC at h
  cases hd : FloatKind.f32.decode x with
  | number s m p =>
    rw [hd] at h
    simp only [Bool.and_eq_true, decide_eq_true_eq] at h
    exact ⟨s, m, p, hd, le2_of (-200) h.1 (by decide) h.2⟩
  | _ => rw [hd] at h; cases h
theorem nc_0 : pwC (fMul .f32 (nV 0) (fDiv .f32 1065353216 (fOfInt .f32 8))) = true := by kernel_rfl
theorem nc_1 : pwC (fMul .f32 (nV 1) (fDiv .f32 1065353216 (fOfInt .f32 8))) = true := by kernel_rfl
theorem nc_2 : pwC (fMul .f32 (nV 2) (fDiv .f32 1065353216 (fOfInt .f32 8))) = true := by kernel_rfl
theorem nc_3 : pwC (fMul .f32 (nV 3) (fDiv .f32 1065353216 (fOfInt .f32 8))) = true := by kernel_rfl
theorem nc_4 : pwC (fMul .f32 (nV 4) (fDiv .f32 1065353216 (fOfInt .f32 8))) = true := by kernel_rfl
theorem nc_5 : pwC (fMul .f32 (nV 5) (fDiv .f32 1065353216 (fOfInt .f32 8))) = true := by kernel_rfl
theorem nc_6 : pwC (fMul .f32 (nV 6) (fDiv .f32 1065353216 (fOfInt .f32 8))) = true := by kernel_rfl
theorem nc_7 : pwC (fMul .f32 (nV 7) (fDiv .f32 1065353216 (fOfInt .f32 8))) = true := by kernel_rfl
theorem nc_8 : pwC (fMul .f32 (nV 8) (fDiv .f32 1065353216 (fOfInt .f32 8))) = true := by kernel_rfl
theorem nV_pw : ∀ i : Fin 9, pw .f32 (fMul .f32 (nV i.val) (fDiv .f32 1065353216 (fOfInt .f32 8))) 20 := by
  intro ⟨i, h⟩
  have : i = 0 ∨ i = 1 ∨ i = 2 ∨ i = 3 ∨ i = 4 ∨ i = 5 ∨ i = 6 ∨ i = 7 ∨ i = 8 := by omega
  rcases this with rfl | rfl | rfl | rfl | rfl | rfl | rfl | rfl | rfl
  · exact pwC_ok nc_0
  · exact pwC_ok nc_1
  · exact pwC_ok nc_2
  · exact pwC_ok nc_3
  · exact pwC_ok nc_4
  · exact pwC_ok nc_5
  · exact pwC_ok nc_6
  · exact pwC_ok nc_7
  · exact pwC_ok nc_8
theorem zero_pw : pw .f32 0 46 := pw_up (pwC_ok (x := 0) (by kernel_rfl)) (by decide)
theorem miss_track {l : List Leg5} (hg : ∀ x ∈ l, goodI x) (hl : l.length ≤ 16) :
    ∃ L : List (Vec 3 Nat), impl_TrackOf (miss (l.map legI)) = some ((L, 0, ()), ()) ∧ spec_TrackOf (miss (l.map legI)) = some ((L, 0, ()), ()) ∧ (L.length : Int) = 1 + sT (l.map legI) l.length ∧ L.length ≤ 30000 := by
  have hm := miss_good hg hl
  have hz : Sized TyMission (miss (l.map legI)) := miss_sized (by simp; omega)
  obtain ⟨L, h1, h2, h3, -⟩ := track_run3 (miss (l.map legI)) hm ⟨zero_pw, zero_pw, zero_pw⟩ (by
    intro y hy
    obtain ⟨x, hx, rfl⟩ := List.mem_map.1 hy
    obtain ⟨g1, g2, g3, -, -⟩ := hg x hx
    exact ⟨nV_pw ⟨x.1, g1⟩, nV_pw ⟨x.2.1, g2⟩, nV_pw ⟨x.2.2.1, g3⟩⟩)
  obtain ⟨w, t1, t2, -⟩ := trackOf_ok (miss (l.map legI)) hz
  have ht := impl_TrackOf_same _ hz hm
  rw [h1] at ht
  have hw : w = (L, 0, ()) := by
    rw [ht] at t2
    have := Option.some.inj t2
    exact (congrArg Prod.fst this).symm
  refine ⟨L, ht, by rw [t1, hw], ?_, h3⟩
  rw [h2]
  unfold miss
  simp

theorem fold_sT (l : List DLeg) (h : ∀ x ∈ l, 0 ≤ x.1 ∧ x.1 ≤ 8) (hl : l.length ≤ 40) : ∀ i, i ≤ l.length → (l.take i).foldl (fun s x => iAdd .i64 s x.1) 0 = sT l i ∧ 0 ≤ sT l i ∧ sT l i ≤ 8 * i
  | 0, _ => ⟨rfl, Int.le_refl _, by simp [sT]⟩
  | i + 1, hi => by
    obtain ⟨e, e0, e1⟩ := fold_sT l h hl i (by omega)
    have hx := h _ (List.getElem_mem (by omega : i < l.length))
    have hs := sT_succ (l := l) (i := i) (by omega)
    rw [List.take_add_one, List.getElem?_eq_getElem (by omega)]
    simp only [Option.toList, List.foldl_append, List.foldl_cons, List.foldl_nil]
    rw [e, iAdd_eq (by omega) (by omega), hs]
    omega
theorem ticks_sT {l : List DLeg} (h : ∀ x ∈ l, 0 ≤ x.1 ∧ x.1 ≤ 8) (hl : l.length ≤ 40) : ticksI l = sT l l.length := by
  have := (fold_sT l h hl l.length (Nat.le_refl _)).1
  rw [List.take_length] at this
  exact this

theorem all_sameV : ∀ L : List (Vec 3 Nat), all2 sameV L L = true
  | [] => rfl
  | v :: L => by
    show (sameV v v && all2 sameV L L) = true
    rw [sameV_self, all_sameV L]; rfl
theorem all_sameLeg : ∀ L : List DLeg, all2 sameLeg L L = true
  | [] => rfl
  | v :: L => by
    have e : sameLeg v v = true := by unfold sameLeg; rw [sameV_self, iEq_true.2 rfl, iEq_true.2 rfl, iEq_true.2 rfl]; rfl
    show (sameLeg v v && all2 sameLeg L L) = true
    rw [e, all_sameLeg L]; rfl
theorem sameVs_self (L : List (Vec 3 Nat)) : sameVs L L = true := by
  unfold sameVs
  rw [all_sameV L, iEq_true.2 rfl]
  rfl
theorem sameM_self (m : DMission) : sameM m m = true := by
  unfold sameM
  rw [all_sameLeg, sameV_self, sameVs_self, iEq_true.2 rfl, iEq_true.2 rfl]
  rfl
end Go.Proofs.YtildomllnnnofaaGreatDoor
