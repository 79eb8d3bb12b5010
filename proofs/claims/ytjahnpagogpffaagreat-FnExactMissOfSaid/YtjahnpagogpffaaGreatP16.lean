/- Functions of the program and of the reference in plain terms. -/
import Derived.Test.YtjahnpagogpffaaGreatP15
namespace Go.Proofs.YtjahnpagogpffaaGreat
open Go Go.Tm
set_option linter.unusedVariables false
set_option linter.unusedSimpArgs false
set_option linter.unusedSectionVars false
/-! ### how far a run misses -/
theorem track_of_run {a : DMission} (hm : missionB a = true) {sd : Int} {g : DLog} (h : spec_l08Run a sd = some ((g, 0, ()), ())) : ∃ L, spec_l08Track a = some ((L, 0, ()), ()) ∧ 0 < L.length ∧ L.length ≤ 30000 := by
  obtain ⟨L, k, t1, t2, t3⟩ := track_run2 a hm
  cases hk : iEq k 0 with
  | true =>
    have hk0 := iEq_true.1 hk
    subst hk0
    have h1 := t2 rfl
    obtain ⟨_, hx, _, _⟩ := legs_ok hm
    have h2 := sT_mono (fun x q => (hx x q).1) a.2.2.2.1.length 0 (by omega)
    have hz : sT a.2.2.2.1 0 = 0 := rfl
    rw [Nat.zero_add] at h2
    exact ⟨L, t1, by omega, t3⟩
  | false =>
    simp only [spec_l08Run, t1, hk, Option.bind_some, Bool.not_false, cond_true, Option.some.injEq, Prod.mk.injEq] at h
    exact absurd h.1.2.1 (iEq_false.1 hk)

theorem missOf_two (a : DMission) (ha : Fit TyMission a) {sd : Int} (hs : Fit (.int .u32) sd) : ∃ (x : Nat) (k : Int), impl_MissOf a sd = some ((x, k, ()), ()) ∧ spec_MissOf a sd = some ((x, k, ()), ()) := by
  have sa : Sized TyMission a := sized_of_fit rfl ha
  have hmk : a.2.2.1.length * 12 ≤ 140737488351232 := ha.2.2.1.1
  have h0 : 0 ≤ sd ∧ sd < 4294967296 := ⟨hs.1, by have : sd ≤ 4294967295 := hs.2; omega⟩
  cases hm : missionB a with
  | false =>
    refine ⟨0, 1, ?_, ?_⟩
    · simp only [impl_MissOf, impl_RunMission, impl_TrackOf, impl_ValidMission_ok a sa, hm, Option.bind_some]
      rfl
    · simp only [spec_MissOf, spec_l08Ok_ok a sa, hm, Option.bind_some]
      rfl
  | true =>
    obtain ⟨g, k, r1, r2, hq⟩ := runM_two a sa hm h0.1 h0.2 hmk
    simp only [impl_MissOf, spec_MissOf, spec_l08Ok_ok a sa, hm, r1, r2, Option.bind_some, Bool.not_true, cond_false]
    rcases hq with ⟨rfl, hG⟩ | ⟨hk, rfl⟩
    · obtain ⟨L, t1, t2, t3⟩ := track_of_run hm r2
      have t4 := impl_TrackOf_same a sa hm
      have sg := good_sized sa hG
      have hb : logB g = true := by
        obtain ⟨_, _, _, hf⟩ := legs_ok hm
        have h1 : iLe (lenI g.2.2.2.1) 1200 = true := iLe_pos hG.2.2.2.1
        have h2 : g.2.2.2.1.all (entryB (lenI g.2.2.1)) = true := List.all_eq_true.2 fun e he => by rw [hG.2.2.1]; exact (hG.2.2.2.2 e he).1
        show (frameB g.1 g.2.1 g.2.2.1 && _) = true
        rw [hG.1, hG.2.1, hG.2.2.1, hf, h1, ← hG.2.2.1, h2]
        rfl
      have hv := log_start hb
      obtain ⟨w, l, k, p1, p2, _⟩ := replay_gen sg.2.2.1.1 (fun e he => (hG.2.2.2.2 e he).2) hb (firstS_valid hv) (lo := 0) (hi := lenI g.2.2.2.1) (by omega) (by rw [lenI_eq]; omega) (by rw [lenI_eq]; omega)
      have i0 : (!iEq (0 : Int) 0) = false := rfl
      have q1 : impl_ReplayLog (g.1, g.2.1, g.2.2.1, g.2.2.2.1, g.2.2.2.2) = some ((w, k, ()), ()) := by
        show impl_ReplayLog g = _
        simp only [impl_ReplayLog, impl_ValidLog_ok g sg, hb, impl_firstState_ok g hv, p1, Option.bind_some, Bool.not_true, cond_false]
      have q2 : spec_l08Replay (g.1, g.2.1, g.2.2.1, g.2.2.2.1, g.2.2.2.2) (firstS g.2.1) 0 (lenI g.2.2.2.1) = some ((w, l, k, ()), ()) := p2
      have q3 : spec_l08First (g.1, g.2.1, g.2.2.1, g.2.2.2.1, g.2.2.2.2) = some ((firstS g.2.1, ()), ()) := spec_l08First_ok g
      simp only [i0, q1, q2, q3, Option.bind_some, cond_false]
      cases hk : iEq k 0 with
      | false => exact ⟨_, _, rfl, rfl⟩
      | true =>
        have e1 : iSub .i64 (lenI L) 1 = ((L.length - 1 : Nat) : Int) := by rw [lenI_eq, iSub_eq (by omega) (by omega)]; omega
        have e2 : inB ((L.length - 1 : Nat) : Int) L.length = true := inB_pos (by omega)
        have h3 : ∃ q, impl_PositionOf w = some ((q, ()), ()) ∧ spec_l03Place w = some ((q, ()), ()) := ⟨_, rfl, rfl⟩
        obtain ⟨q, y1, y2⟩ := h3
        obtain ⟨m, hsub⟩ : ∃ m, spec_SubVec q (L.getD (L.length - 1) ((0, 0, 0, ()) : Vec 3 Nat)) = some ((m, ()), ()) := ⟨_, rfl⟩
        simp only [t1, t4, e1, e2, y1, y2, Int.toNat_natCast, runSub, hsub, runLen, runLenS, impl_numberOr, runFin, spec_l01Finite_ok, Option.bind_some, Bool.not_true, cond_true, cond_false]
        cases finB (rootF (dotR m m)) with
        | false => exact ⟨_, _, rfl, rfl⟩
        | true => exact ⟨_, _, rfl, rfl⟩
    · rw [iEq_neg hk]
      exact ⟨_, _, rfl, rfl⟩

theorem laws_FnExactMissOf_plain (a : DMission) (ha : Fit TyMission a) (sd : Int) (hs : Fit (.int .u32) sd) : ∃ o, laws_FnExactMissOf a sd = some ((true, ()), o) := by
  obtain ⟨r, hr⟩ := laws_szMission_ok a 1048576
  have sa : Sized TyMission a := sized_of_fit rfl ha
  obtain ⟨x, k, h1, h2⟩ := missOf_two a ha hs
  have k1 := laws_toMission_ok a ha
  have k3 := laws_eqMission_ok a sa
  obtain ⟨a1, a2, a3, a4, ⟨⟩⟩ := a
  simp only [laws_FnExactMissOf, hr, h1, h2, k1, k3, fConv32_eq, laws_sameFloat_ok, iEq_self, Option.bind_some, Bool.not_true, cond_false]
  cases iLt r 0 <;> exact ⟨_, rfl⟩
end Go.Proofs.YtjahnpagogpffaaGreat
