/- Functions of the program and of the reference in plain terms. -/
import Derived.Test.YtildomllnnnofaaGreatDoorP21
namespace Go.Proofs.YtildomllnnnofaaGreatDoor
open Go Go.Tm
set_option linter.unusedVariables false
set_option linter.unusedSimpArgs false
set_option linter.unusedSectionVars false
/-! ## the law of texts of missions, whole -/
def headM : List UInt8 := [98, 101, 97, 99, 111, 110, 32, 49, 32, 50, 32, 51, 10, 102, 105, 120, 32, 51, 10]
theorem tx_head (Y : List (List UInt8)) : linesT (beaconL :: fixL :: Y) = headM ++ linesT Y := by
  rw [linesT_cons, linesT_cons]; rfl
theorem tx1 {l : List Leg5} {n : Nat} (hn : n ≤ 3) : strCat (strCat (strCat (strCat (strCat headM [114, 101, 112, 101, 97, 116, 32]) (Lib.decDigits (n + 1))) [10]) (textI l)) [101, 110, 100, 10] = linesT (beaconL :: fixL :: wRep (n + 1) :: (l.flatMap linesI ++ [endL])) := by
  have hd := digits9 ⟨n + 1, by omega⟩
  simp only at hd
  rw [hd, tx_head, linesT_cons, linesT_app]
  unfold strCat textI wRep digW endL
  have e : linesT [[101, 110, 100]] = [101, 110, 100, 10] := rfl
  rw [e]
  simp
theorem tx2 (l : List Leg5) : strCat headM (textI l) = linesT (beaconL :: fixL :: l.flatMap linesI) := by
  rw [tx_head]; rfl
theorem tx3 (l : List Leg5) : strCat (strCat (strCat headM (textI l)) [119, 104, 97, 116, 32, 105, 115, 32, 116, 104, 105, 115, 10]) (textI l) = linesT (beaconL :: fixL :: (l.flatMap linesI ++ whatL :: l.flatMap linesI)) := by
  rw [tx_head, linesT_app, linesT_cons]
  unfold strCat textI whatL
  simp
theorem tx4 (l : List Leg5) : strCat (strCat headM (textI l)) [114, 101, 112, 101, 97, 116, 32, 50, 10] = linesT (beaconL :: fixL :: (l.flatMap linesI ++ [wRep 2])) := by
  rw [tx_head, linesT_app]
  unfold strCat textI wRep
  have e : linesT [[114, 101, 112, 101, 97, 116, 32, UInt8.ofNat (48 + 2)]] = [114, 101, 112, 101, 97, 116, 32, 50, 10] := rfl
  rw [e]
  simp

theorem l22_end {l : List Leg5} (hg : ∀ x ∈ l, goodI x) (hl : l.length ≤ 4) {a1 : List Int} (ha : ∀ x ∈ a1, 0 ≤ x ∧ x ≤ 255) (hal : a1.length ≤ 4096) :
    run (laws_FnMissions_l22 ((textI l, ()), ()) a1) ((0 : Int), (0 : Int), ()) = some ((true, ()), ()) := by
  have hlen := textI_len hg
  have hX := flat_len l
  have hc : (textI l).count 10 = (l.flatMap linesI).length := count_lines _ (fun f hf => (flat_free hg f hf).1)
  have hrun := count_run (textI l) (by omega) a1 (textI l).length 0 0 (by omega) (Nat.le_refl _)
  rw [List.drop_zero, hc, Nat.zero_add] at hrun
  refine hrun.trans (run_done ?_)
  have e1 : iLt ((textI l).length : Int) (lenI (textI l)) = false := iLt_neg (by rw [lenI_eq]; omega)
  obtain ⟨e, he, he10⟩ := a2At_ok ha hal 1 10 (by omega) (by omega)
  obtain ⟨k, hk, hk256⟩ := a2At_ok ha hal 2 256 (by omega) (by omega)
  replace he : laws_a2At a1 (1 : Int) (10 : Int) = some (((e : Int), ()), ()) := he
  replace hk : laws_a2At a1 (2 : Int) (256 : Int) = some (((k : Int), ()), ()) := hk
  obtain ⟨t1, t2, -, t4, t5⟩ := two_tab ⟨e, he10⟩
  simp only at t1 t2 t4 t5
  have d1 := spec_Decimal_ok (n := k) (by omega)
  have d2 := spec_Decimal_ok (n := 2 ^ (e + 1)) (by omega)
  have hf := frac_back he10 hk256
  unfold fracC at hf
  have a1' : iAdd .i64 2 ((l.flatMap linesI).length : Int) = ((2 + (l.flatMap linesI).length : Nat) : Int) := by rw [iAdd_eq (by omega) (by omega)]; omega
  have a2' : iAdd .i64 3 ((l.flatMap linesI).length : Int) = ((3 + (l.flatMap linesI).length : Nat) : Int) := by rw [iAdd_eq (by omega) (by omega)]; omega
  have hH : headM.length = 19 := rfl
  unfold laws_FnMissions_l22
  simp only
  rw [e1]
  simp only [cond_false]
  show Option.map Sum.inr (bif strRoom headM (textI l) then bif strRoom (strCat headM (textI l)) _ then bif strRoom (strCat (strCat headM (textI l)) _) (textI l) then (impl_CompileMission (strCat (strCat (strCat headM (textI l)) _) (textI l))).bind _ else none else none else none) = _
  rw [strRoom_ok (by omega), strRoom_ok (by unfold strCat; simp; omega), strRoom_ok (by unfold strCat; simp; omega), tx3, comp_text3 hg hl]
  simp only [cond_true, Option.bind_some]
  show Option.map Sum.inr (bif strRoom headM (textI l) then bif strRoom (strCat headM (textI l)) _ then (impl_CompileMission (strCat (strCat headM (textI l)) _)).bind _ else none else none) = _
  rw [strRoom_ok (by omega), strRoom_ok (by unfold strCat; simp; omega), tx4, comp_text4 hg hl]
  simp only [cond_true, Option.bind_some]
  rw [he]
  simp only [Option.bind_some]
  rw [t2, t1, hk]
  simp only [cond_true, Option.bind_some]
  rw [d1.1]
  simp only [Option.bind_some]
  rw [strRoom_ok (by have := d1.2; simp; omega), strRoom_ok (by have := d1.2; unfold strCat; simp; omega)]
  simp only [cond_true]
  rw [d2.1]
  simp only [Option.bind_some]
  rw [strRoom_ok (by have := d1.2; have := d2.2; unfold strCat; simp; omega), readFraction_neg he10 hk256]
  simp only [cond_true, Option.bind_some]
  rw [a1', a2', hf]
  simp only [Option.bind, iEq_true.2]
  rfl

theorem l8_end {l : List Leg5} (hg : ∀ x ∈ l, goodI x) (hl : l.length ≤ 4) {a1 : List Int} {n : Nat} (hn : n ≤ 3) (M : DMission) {t : Int} {L : List (Vec 3 Nat)}
    (h15 : impl_CompileMission (linesT (beaconL :: fixL :: wRep (n + 1) :: (l.flatMap linesI ++ [endL]))) = some ((M, 0, 0, ()), ()))
    (h17 : impl_CompileMission (linesT (beaconL :: fixL :: (rep (n + 1) l).flatMap linesI)) = some ((M, 0, 0, ()), ()))
    (hS : spec_SameMission M M = some ((true, ()), ())) (hV : impl_ValidMission M = some ((true, ()), ())) (hI : impl_SameMission M M = some ((true, ()), ()))
    (hT : impl_TicksOf M = some ((t, 0, ()), ())) (hK : impl_TrackOf M = some ((L, 0, ()), ())) (hK2 : spec_TrackOf M = some ((L, 0, ()), ()))
    (hn1 : lenI L = iAdd .i64 t 1) (hL : spec_SameVecs L L = some ((true, ()), ()))
    (h22 : run (laws_FnMissions_l22 ((textI l, ()), ()) a1) ((0 : Int), (0 : Int), ()) = some ((true, ()), ())) :
    laws_FnMissions_l8 ((n + 1 : Nat) : Int) ((textI l, ()), ()) a1 (textI (rep (n + 1) l), ((n + 1 : Nat) : Int), ()) = some (.inr ((true, ()), ())) := by
  have hlen := textI_len hg
  have hlen2 := textI_len (l := rep (n + 1) l) (rep_mem hg)
  rw [rep_len] at hlen2
  have : (n + 1) * l.length ≤ 4 * 4 := Nat.mul_le_mul (by omega) hl
  have e1 : iLt ((n + 1 : Nat) : Int) ((n + 1 : Nat) : Int) = false := iLt_neg (by omega)
  have d1 := spec_Decimal_ok (n := n + 1) (by omega)
  have hd := digits9 ⟨n + 1, by omega⟩
  simp only at hd
  have dl := d1.2
  obtain ⟨M1, M2, M3, M4, ⟨⟩⟩ := M
  have hH : headM.length = 19 := rfl
  unfold laws_FnMissions_l8
  simp only
  rw [e1]
  simp only [cond_false]
  show Option.map Sum.inr (bif strRoom headM _ then (spec_Decimal ((n + 1 : Nat) : Int)).bind (fun y10 => bif strRoom (strCat headM _) y10.1.1 then bif strRoom (strCat (strCat headM _) y10.1.1) _ then bif strRoom (strCat (strCat (strCat headM _) y10.1.1) _) (textI l) then bif strRoom (strCat (strCat (strCat (strCat headM _) y10.1.1) _) (textI l)) _ then (impl_CompileMission (strCat (strCat (strCat (strCat (strCat headM _) y10.1.1) _) (textI l)) _)).bind (fun y15 => bif strRoom headM (textI (rep (n + 1) l)) then (impl_CompileMission (strCat headM (textI (rep (n + 1) l)))).bind _ else none) else none else none else none else none) else none) = _
  rw [strRoom_ok (by simp; omega), d1.1]
  simp only [cond_true, Option.bind_some]
  rw [strRoom_ok (by unfold strCat; simp; omega), strRoom_ok (by unfold strCat; simp; omega), strRoom_ok (by unfold strCat; simp; omega), strRoom_ok (by unfold strCat; simp; omega), tx1 hn, h15]
  simp only [cond_true, Option.bind_some]
  rw [strRoom_ok (by omega), tx2, h17]
  simp only [cond_true, Option.bind_some]
  rw [hS, hV, hI, hT, hK, hK2]
  simp only [Option.bind_some]
  rw [hn1, hL]
  simp only [Option.bind_some]
  rw [h22, iEq_true.2 rfl, iEq_true.2 rfl]
  rfl

theorem l8_run {l : List Leg5} (hg : ∀ x ∈ l, goodI x) (hl : l.length ≤ 4) (a1 : List Int) {n : Nat} (hn : n ≤ 3) : ∀ (d i : Nat), i + d = n + 1 →
    run (laws_FnMissions_l8 ((n + 1 : Nat) : Int) ((textI l, ()), ()) a1) (textI (rep i l), (i : Int), ()) = run (laws_FnMissions_l8 ((n + 1 : Nat) : Int) ((textI l, ()), ()) a1) (textI (rep (n + 1) l), ((n + 1 : Nat) : Int), ())
  | 0, i, hi => by
    have : i = n + 1 := by omega
    rw [this]
  | d + 1, i, hi => by
    have hlen := textI_len hg
    have hlen2 := textI_len (l := rep i l) (rep_mem hg)
    rw [rep_len] at hlen2
    have : i * l.length ≤ 4 * 4 := Nat.mul_le_mul (by omega) hl
    have e1 : iLt (i : Int) ((n + 1 : Nat) : Int) = true := iLt_pos (by omega)
    have e2 : strRoom (textI (rep i l)) (textI l) = true := strRoom_ok (by omega)
    have e3 : iAdd .i64 (i : Int) 1 = ((i + 1 : Nat) : Int) := iAdd_one (n := n + 1) (by omega) (by omega)
    have e4 : strCat (textI (rep i l)) (textI l) = textI (rep (i + 1) l) := by
      rw [rep_snoc]
      unfold textI strCat
      rw [List.flatMap_append, linesT_app]
    have hs : laws_FnMissions_l8 ((n + 1 : Nat) : Int) ((textI l, ()), ()) a1 (textI (rep i l), (i : Int), ()) = some (.inl (textI (rep (i + 1) l), ((i + 1 : Nat) : Int), ())) := by
      unfold laws_FnMissions_l8
      simp only
      rw [e1, e2, e3, e4]
      rfl
    rw [run_step hs]
    exact l8_run hg hl a1 hn d (i + 1) (by omega)

theorem laws_FnMissions_plain (a0 : List Int) (h0 : Fit (.list (.int .u8)) a0) (a1 : List Int) (h1 : Fit (.list (.int .u8)) a1) : ∃ o, laws_FnMissions a0 a1 = some ((true, ()), o) := by
  refine ⟨(), ?_⟩
  unfold laws_FnMissions laws_a2Long
  by_cases l0 : a0.length ≤ 3000
  · by_cases l1 : a1.length ≤ 3000
    · have e0 : iLt 3000 (lenI a0) = false := iLt_neg (by rw [lenI_eq]; omega)
      have e1 : iLt 3000 (lenI a1) = false := iLt_neg (by rw [lenI_eq]; omega)
      obtain ⟨l, hl, hl4, hg⟩ := a2Legs_ok (fit_bytes h0) (by omega)
      obtain ⟨n, hn, hn4⟩ := a2At_ok (fit_bytes h1) (by omega) 0 4 (by omega) (by omega)
      have hn' : laws_a2At a1 (0 : Int) (4 : Int) = some (((n : Int), ()), ()) := hn
      have ea : iAdd .i64 1 (n : Int) = ((n + 1 : Nat) : Int) := by rw [iAdd_eq (by omega) (by omega)]; omega
      have hrl := rep_len (n + 1) l
      have hrl2 : (n + 1) * l.length ≤ 4 * 4 := Nat.mul_le_mul (by omega) hl4
      have hrg : ∀ x ∈ rep (n + 1) l, goodI x := rep_mem hg
      have hz : Sized TyMission (miss ((rep (n + 1) l).map legI)) := miss_sized (by simp; omega)
      have hm := miss_good hrg (by omega)
      obtain ⟨L, k1, k2, k3, k4⟩ := miss_track hrg (by omega)
      have tk := ticks_le (legs_okI hrg) (by simp; omega)
      have tk2 := ticks_sT (legs_okI hrg) (by simp; omega)
      simp only [List.length_map] at tk tk2
      have hT := impl_TicksOf_ok _ hz
      rw [hm] at hT
      have hend := l8_end (a1 := a1) hg hl4 (n := n) (by omega) (miss ((rep (n + 1) l).map legI)) (t := ticksI ((rep (n + 1) l).map legI)) (L := L)
        (comp_text1 hg hl4 (by omega)) (comp_text2 hrg (by omega))
        (by rw [spec_SameMission_ok _ _ hz, sameM_self]) (by rw [impl_ValidMission_ok _ hz, hm]) (by rw [impl_SameMission_ok _ _ hz, sameM_self])
        hT k1 k2 (by rw [iAdd_eq (by omega) (by omega), lenI_eq, k3, tk2]; omega)
        (by unfold spec_SameVecs; rw [spec_l08SameVecs_ok _ _ (by omega), sameVs_self]; rfl)
        (l22_end hg hl4 (fit_bytes h1) (by omega))
      rw [e0, e1]
      simp only [cond_false, Option.bind_some]
      rw [hl, hn']
      simp only [Option.bind_some]
      rw [ea]
      have e := l8_run hg hl4 a1 (n := n) (by omega) (n + 1) 0 (by omega)
      exact e.trans (run_done hend)
    · have e0 : iLt 3000 (lenI a0) = false := iLt_neg (by rw [lenI_eq]; omega)
      have e1 : iLt 3000 (lenI a1) = true := iLt_pos (by rw [lenI_eq]; omega)
      rw [e0, e1]; rfl
  · have e0 : iLt 3000 (lenI a0) = true := iLt_pos (by rw [lenI_eq]; omega)
    rw [e0]; rfl
end Go.Proofs.YtildomllnnnofaaGreatDoor
